import Derived.Test.YtkgkpggfoieioaaGreatDoorEvRow
import Derived.BigQuiet
import Derived.Deep.QuietTactic
namespace Go.Proofs.YtkgkpggfoieioaaGreatDoor
set_option linter.unusedVariables false
open Go.RowKit
/-! marchsame.Events of equal events. -/
set_option maxHeartbeats 3200000 in
set_option maxRecDepth 100000 in
theorem samee_eq (A A' : Option Addr) (c c' : Nat) (L : List EV) (w : World) (h : RE w w.heap.size A L) (h' : RE w w.heap.size A' L) (hl : L.length ≤ 1000000000) :
    Calls Tryz.prog 18 #[.slice A L.length c, .slice A' L.length c'] w fun e w' => e = .returned (.bool true) ∧ Below w.heap.size w w' := by
  replace h := Lib.hid h
  replace h' := Lib.hid h'
  go_enter Tryz.func18, Tryz.ntmps18
  go_wp2_with fail
  go_loopw [5] (fun v5 wr => ∃ k : Nat, v5 = .int .i64 k ∧ k ≤ L.length ∧ Hid (Below w.heap.size w wr)) (fun v5 _ => L.length - (intOf v5).toNat)
  case atStart => exact ⟨0, rfl, Nat.zero_le _, Lib.hid (Below.refl _ _)⟩
  case round =>
    obtain ⟨k, rfl, hk, hb⟩ := hrel
    by_cases hlt : k < L.length
    · as_aux_lemma =>
      have z1 : (k : Int) < (L.length : Int) := by omega
      obtain ⟨b1, o1, hA, _, p0, p1, p2⟩ := re_at (RD.below h.out hb.out) k hlt
      obtain ⟨b2, o2, hA', _, q0, q1, q2⟩ := re_at (RD.below h'.out hb.out) k hlt
      subst hA
      subst hA'
      generalize ge L k = u at *
      have hbq : ∀ q, Hid (Below w.heap.size w (wr.drewN q)) := fun q => Lib.hid (hb.out.trans ⟨rfl, rfl, rfl, Nat.le_refl _, fun _ _ => rfl⟩)
      replace hbq := Lib.hid hbq
      clear hb
      go_wp2_with fail
      go_quiet (fail)
      go_wp2_with fail
      go_roundw
      case rel => exact ⟨k + 1, by go_num, by omega, hbq.out _⟩
      case measure => simp [intOf]; omega
    · have z1 : ¬ (k : Int) < (L.length : Int) := by omega
      go_wp2_with fail
      go_ret
      exact ⟨rfl, hb.out⟩
end Go.Proofs.YtkgkpggfoieioaaGreatDoor
