import Derived.Test.YtmnabijelgpfnaaDoorDice
import Derived.BigQuiet
import Derived.Deep.QuietTactic
namespace Go.Proofs.YtmnabijelgpfnaaDoor
set_option linter.unusedVariables false
open Go.RowKit
theorem wrap_tdiv (n d : Int) (hd : 0 < d) : (IntKind.u64.wrap n).tdiv d = IntKind.u64.wrap n / d := Int.tdiv_eq_ediv_of_nonneg (u64w n).1
theorem xor_tdiv (n : Int) : (bits BinOp.xor IntKind.u64 (IntKind.u64.wrap n) (IntKind.u64.wrap n / 2147483648)).tdiv 4 = bits BinOp.xor IntKind.u64 (IntKind.u64.wrap n) (IntKind.u64.wrap n / 2147483648) / 4 :=
  Int.tdiv_eq_ediv_of_nonneg (xor_bd _ _ (u64w n) (div_bd _ _ (by decide) (u64w n))).1
theorem wrap_id (a : Int) (h : U64 a) : IntKind.u64.wrap a = a := by
  obtain ⟨h1, h2⟩ := h
  rw [IntKind.wrap_u64]; exact Int.emod_eq_of_lt h1 h2
theorem refnext_any (s : Int) (w : World) :
    Calls Tryd.prog 10 #[.int .u64 s] w fun e w' => e = .returned (.tuple #[.int .u64 (nxS s), .int .i64 (nxV (nxS s))]) ∧ w = w' := by
  have h1 := fun n => wrap_tdiv n 1073741824 (by decide)
  have h2 := fun n => wrap_tdiv n 134217728 (by decide)
  have h3 := fun n => wrap_tdiv n 2147483648 (by decide)
  have h4 := xor_tdiv
  have k1 := fun n => wrap_id _ (div_bd (IntKind.u64.wrap n) 1073741824 (by decide) (u64w n))
  have k2 := fun n => wrap_id _ (div_bd (IntKind.u64.wrap n) 134217728 (by decide) (u64w n))
  have k3 := fun n => wrap_id _ (div_bd (IntKind.u64.wrap n) 2147483648 (by decide) (u64w n))
  have k4 := fun n => wrap_id _ (div_bd _ 4 (by decide) (xor_bd _ _ (u64w n) (div_bd (IntKind.u64.wrap n) 2147483648 (by decide) (u64w n))))
  go_enter Tryd.func10, Tryd.ntmps10
  go_wp2
  go_ret2
  exact ⟨rfl, rfl⟩
theorem refnext_op (s : Int) (w : World) :
    Calls Tryd.prog 10 #[.int .u64 s] w fun e w' => ∃ v, Hid (v = nxV (nxS s)) ∧ (0 ≤ v ∧ v ≤ 4611686018427387903) ∧ e = .returned (.tuple #[.int .u64 (nxS s), .int .i64 v]) ∧ w = w' :=
  (refnext_any s w).mono fun _ _ ⟨h1, h2⟩ => ⟨_, rfl, nxV_bd _, h1, h2⟩
set_option maxRecDepth 100000 in
theorem refbelow_any (s n : Int) (w : World) (h1 : 1 ≤ n) (h2 : n ≤ 1000000) :
    Calls Tryd.prog 12 #[.int .u64 s, .int .i64 n] w fun e w' => ∃ z v q, Hid ((z, v) = blw (left s) s n) ∧ e = .returned (.tuple #[.int .u64 z, .int .i64 v]) ∧ w' = w.drewN q := by
  go_enter Tryd.func12, Tryd.ntmps12
  go_wp2_with fail
  go_loopg [0] (left s) (fun k s0 wr => ∃ z, s0 = .int .u64 z ∧ Hid (left z = k ∧ blw (left z) z n = blw (left s) s n) ∧ w = wr)
  case atStart => exact ⟨s, rfl, Lib.hid ⟨rfl, rfl⟩, rfl⟩
  case round =>
    obtain ⟨z, rfl, hz, rfl⟩ := hrel
    have hr0 : 0 ≤ 4611686018427387904 % n := Int.emod_nonneg _ (by omega)
    have hr1 : 4611686018427387904 % n < n := Int.emod_lt_of_pos _ (by omega)
    go_wp2_with fail
    refine (refnext_op z _).mono ?_
    rintro e w' ⟨v, hv, hvb, rfl, rfl⟩
    by_cases hc : v < 4611686018427387904 - 4611686018427387904 % n
    · have hh := hc
      rw [hv.out] at hh
      have e := blw_hit (left z) z n hh
      rw [hz.out.2, ← hv.out] at e
      replace e := Lib.hid e
      clear hh
      go_wp2_with fail
      go_quiet (fail)
      go_wp2
      go_ret2
      exact ⟨_, _, _, Lib.hid e.out.symm, rfl, rfl⟩
    · have hh := hc
      rw [hv.out] at hh
      obtain ⟨m1, m2⟩ := blw_next z n h1 h2 hh
      have M1 := Lib.hid m1
      have M2 := Lib.hid m2
      have hc2 := Int.not_lt.1 hc
      clear m1 m2 hh hc
      go_wp2_with fail
      go_roundg (left (nxS z))
      case measure => have := hz.out.1; have := M1.out; omega
      case rel => exact ⟨nxS z, rfl, Lib.hid ⟨rfl, M2.out.trans hz.out.2⟩, rfl⟩
end Go.Proofs.YtmnabijelgpfnaaDoor
