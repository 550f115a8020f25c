import Derived.Test.YtkgkpggfoieioaaDoorMrgb
import Derived.WalkKit
import Derived.WalkLawsBesides
import Derived.WalkSpells
import Derived.Outline
import Derived.IntWalk
import Derived.Lib.Hide
import Derived.OpenShut
import Derived.Lib.BufferRead
namespace Go.Proofs.YtkgkpggfoieioaaDoor
set_option linter.unusedVariables false
open Go.RowKit
/-! Functions over slices of kinds. -/
abbrev RK (w : World) (B : Nat) (A : Option Addr) (L : List GK) : Prop := RD w B 11 A L.length (L.flatMap kC)
abbrev kV (k : GK) : Value := .agg #[.string k.name, .int .i64 k.life, .int .i64 k.hit, .int .i64 k.range, .int .i64 k.sight, .int .i64 k.speed, .int .i64 k.price, .int .i64 k.turns, .int .i64 k.carry, .bool k.flies, .bool k.trains]
theorem rk_at {w : World} {B : Nat} {A : Option Addr} {L : List GK} (h : RK w B A L) (k : Nat) (hk : k < L.length) :
    ∃ b o, A = some ⟨b, o, none⟩ ∧ b < B ∧ w.cell? ⟨b, o + k * 11, none⟩ = some (.string (gk L k).name) ∧ w.cell? ⟨b, o + k * 11 + 1, none⟩ = some (.int .i64 (gk L k).life) ∧ w.cell? ⟨b, o + k * 11 + 2, none⟩ = some (.int .i64 (gk L k).hit) ∧ w.cell? ⟨b, o + k * 11 + 3, none⟩ = some (.int .i64 (gk L k).range) ∧
      w.cell? ⟨b, o + k * 11 + 4, none⟩ = some (.int .i64 (gk L k).sight) ∧ w.cell? ⟨b, o + k * 11 + 5, none⟩ = some (.int .i64 (gk L k).speed) ∧ w.cell? ⟨b, o + k * 11 + 6, none⟩ = some (.int .i64 (gk L k).price) ∧ w.cell? ⟨b, o + k * 11 + 7, none⟩ = some (.int .i64 (gk L k).turns) ∧
      w.cell? ⟨b, o + k * 11 + 8, none⟩ = some (.int .i64 (gk L k).carry) ∧ w.cell? ⟨b, o + k * 11 + 9, none⟩ = some (.bool (gk L k).flies) ∧ w.cell? ⟨b, o + k * 11 + 10, none⟩ = some (.bool (gk L k).trains) := by
  obtain ⟨b, o, hA, hb⟩ := h.addr (by omega)
  have key : ∀ j, j < 11 → w.cell? ⟨b, o + (k * 11 + j), none⟩ = (kC (gk L k))[j]? := fun j hj => by
    rw [h.at_ hA (by omega), flat_get kC 11 kC_len L k j hj, gk_get hk]; rfl
  exact ⟨b, o, hA, hb, key 0 (by omega), key 1 (by omega), key 2 (by omega), key 3 (by omega), key 4 (by omega), key 5 (by omega), key 6 (by omega), key 7 (by omega), key 8 (by omega), key 9 (by omega), key 10 (by omega)⟩
theorem flat_takeK : ∀ (L : List GK) (p : Nat), (L.flatMap kC).take (p * 11) = (L.take p).flatMap kC
  | [], p => by simp
  | x :: L, 0 => by simp
  | x :: L, p + 1 => by
    rw [List.flatMap_cons, List.take_succ_cons, List.flatMap_cons, List.take_append, kC_len, List.take_of_length_le (by rw [kC_len]; omega), show (p + 1) * 11 - 11 = p * 11 by omega, flat_takeK L p]
set_option maxHeartbeats 1600000 in
set_option maxRecDepth 100000 in
theorem idxK_any (f : Nat) (cap : Value) (p : GK → Bool) (A : Option Addr) (c B : Nat) (L : List GK) (w : World) (h : RK w B A L) (hB : B ≤ w.heap.size) (hl : L.length ≤ 1000000000)
    (he : ∀ args w, (callFunc f args).run Tryd.prog w = .ok (.enter f args) w)
    (law : ∀ x, x ∈ L → ∀ wz, Below w.heap.size w wz → Calls Tryd.prog f #[kV x, cap] wz fun e w' => e = .returned (.bool (p x)) ∧ Below wz.heap.size wz w') :
    Calls Tryd.prog 54 #[.slice A L.length c, .func (.func f) #[] #[cap]] w fun e w' => e = .returned (.int .i64 (firstI p L)) ∧ Below w.heap.size w w' := by
  replace h := Lib.hid h
  replace law := Lib.hid law
  go_enter Tryd.func54, Tryd.ntmps54
  go_wp2_with fail
  go_loopw [5, 8] (fun _ i wr => ∃ k : Nat, k ≤ L.length ∧ i = .int .i64 k ∧ Hid (∀ y ∈ L.take k, p y = false) ∧ Hid (Below w.heap.size w wr)) (fun _ i _ => L.length - (intOf i).toNat)
  case atStart => exact ⟨0, Nat.zero_le _, rfl, Lib.hid (by simp), Lib.hid (Below.refl _ _)⟩
  case round =>
    obtain ⟨k, hk, rfl, hK, hbw⟩ := hrel
    by_cases hlt : k < L.length
    · have i1 : (k : Int) < (L.length : Int) := by omega
      obtain ⟨b, o, hA, hbl, c0, c1, c2, c3, c4, c5, c6, c7, c8, c9, c10⟩ := rk_at (h.out.below (hbw.out.mono hB)) k hlt
      have hs := hbw.out.size
      have hlw := law.out _ (gk_mem hlt) wr hbw.out
      have hget := gk_get hlt
      have hfa := first_at p L k _ hget
      have htn := take_no p L k _ hget hK.out
      subst hA
      generalize gk L k = x at *
      replace hlw := Lib.hid hlw
      replace hget := Lib.hid hget
      replace hfa := Lib.hid hfa
      replace htn := Lib.hid htn
      go_wp2_with fail
      refine hlw.out.mono ?_
      rintro e w' ⟨rfl, hb2⟩
      have hb3 := hbw.out.trans (hb2.mono hs)
      replace hb3 := Lib.hid hb3
      clear hb2 c0 c1 c2 c3 c4 c5 c6 c7 c8 c9 c10
      cases hpx : p x with
      | true =>
        have hf := hfa.out hpx hK.out
        replace hf := Lib.hid hf
        replace hpx := Lib.hid hpx
        go_wp2_with fail
        go_ret
        exact ⟨by rw [hf.out]; rfl, hb3.out⟩
      | false =>
        have hn := Lib.hid (htn.out hpx)
        replace hpx := Lib.hid hpx
        go_wp2_with fail
        go_roundw
        case rel => exact ⟨k + 1, by omega, by go_num, hn, hb3⟩
        case measure => simp [intOf]; omega
    · have i1 : ¬ (k : Int) < (L.length : Int) := by omega
      have hf := first_no p L (by have := hK.out; rwa [List.take_of_length_le (by omega)] at this)
      replace hf := Lib.hid hf
      go_wp2_with fail
      go_ret
      exact ⟨by rw [hf.out]; rfl, hbw.out⟩
end Go.Proofs.YtkgkpggfoieioaaDoor
