import Derived.Test.YtkgkpggfoieioaaGreatDoorWorld
import Derived.Test.YtkgkpggfoieioaaGreatDoorPlainWc
import Derived.Test.YtkgkpggfoieioaaGreatDoorFirst
import Derived.WalkKit
import Derived.WalkLawsBesides
import Derived.WalkSpells
import Derived.Outline
import Derived.IntWalk
import Derived.Lib.Hide
import Derived.OpenShut
import Derived.Lib.BufferRead
namespace Go.Proofs.YtkgkpggfoieioaaGreatDoor
set_option linter.unusedVariables false
open Go.RowKit
/-! Functions over slices of units. -/
abbrev uV (u : GU) : Value := .agg #[.int .i64 u.id, .int .i64 u.player, .int .i64 u.kind, .int .i64 u.spot, .int .i64 u.life, .int .i64 u.load, .int .i64 u.task, .int .i64 u.goal]
abbrev RU (w : World) (B : Nat) (A : Option Addr) (L : List GU) : Prop := RD w B 8 A L.length (L.flatMap uC)
theorem ru_at {w : World} {B : Nat} {A : Option Addr} {L : List GU} (h : RU w B A L) (k : Nat) (hk : k < L.length) :
    ∃ b o, A = some ⟨b, o, none⟩ ∧ b < B ∧ w.cell? ⟨b, o + k * 8, none⟩ = some (.int .i64 (gu L k).id) ∧ w.cell? ⟨b, o + k * 8 + 1, none⟩ = some (.int .i64 (gu L k).player) ∧ w.cell? ⟨b, o + k * 8 + 2, none⟩ = some (.int .i64 (gu L k).kind) ∧ w.cell? ⟨b, o + k * 8 + 3, none⟩ = some (.int .i64 (gu L k).spot) ∧
      w.cell? ⟨b, o + k * 8 + 4, none⟩ = some (.int .i64 (gu L k).life) ∧ w.cell? ⟨b, o + k * 8 + 5, none⟩ = some (.int .i64 (gu L k).load) ∧ w.cell? ⟨b, o + k * 8 + 6, none⟩ = some (.int .i64 (gu L k).task) ∧ w.cell? ⟨b, o + k * 8 + 7, none⟩ = some (.int .i64 (gu L k).goal) := by
  obtain ⟨b, o, hA, hb⟩ := h.addr (by omega)
  have key : ∀ j, j < 8 → w.cell? ⟨b, o + (k * 8 + j), none⟩ = (uC (gu L k))[j]? := fun j hj => by
    rw [h.at_ hA (by omega), flat_get uC 8 uC_len L k j hj, gu_get hk]; rfl
  exact ⟨b, o, hA, hb, key 0 (by omega), key 1 (by omega), key 2 (by omega), key 3 (by omega), key 4 (by omega), key 5 (by omega), key 6 (by omega), key 7 (by omega)⟩
theorem flat_takeU : ∀ (L : List GU) (p : Nat), (L.flatMap uC).take (p * 8) = (L.take p).flatMap uC
  | [], p => by simp
  | x :: L, 0 => by simp
  | x :: L, p + 1 => by
    rw [List.flatMap_cons, List.take_succ_cons, List.flatMap_cons, List.take_append, uC_len, List.take_of_length_le (by rw [uC_len]; omega), show (p + 1) * 8 - 8 = p * 8 by omega, flat_takeU L p]
set_option maxHeartbeats 1600000 in
set_option maxRecDepth 100000 in
theorem idxU_any (f : Nat) (cap : Value) (p : GU → Bool) (A : Option Addr) (c B : Nat) (L : List GU) (w : World) (h : RU w B A L) (hB : B ≤ w.heap.size) (hl : L.length ≤ 9223372036854775807)
    (he : ∀ args w, (callFunc f args).run Tryz.prog w = .ok (.enter f args) w)
    (law : ∀ x, x ∈ L → ∀ wz, Below w.heap.size w wz → Calls Tryz.prog f #[uV x, cap] wz fun e w' => e = .returned (.bool (p x)) ∧ Below wz.heap.size wz w') :
    Calls Tryz.prog 65 #[.slice A L.length c, .func (.func f) #[] #[cap]] w fun e w' => e = .returned (.int .i64 (firstI p L)) ∧ Below w.heap.size w w' := by
  replace h := Lib.hid h
  replace law := Lib.hid law
  go_enter Tryz.func65, Tryz.ntmps65
  go_wp2_with fail
  go_loopw [5, 8] (fun _ i wr => ∃ k : Nat, k ≤ L.length ∧ i = .int .i64 k ∧ Hid (∀ y ∈ L.take k, p y = false) ∧ Hid (Below w.heap.size w wr)) (fun _ i _ => L.length - (intOf i).toNat)
  case atStart => exact ⟨0, Nat.zero_le _, rfl, Lib.hid (by simp), Lib.hid (Below.refl _ _)⟩
  case round =>
    obtain ⟨k, hk, rfl, hK, hbw⟩ := hrel
    by_cases hlt : k < L.length
    · have i1 : (k : Int) < (L.length : Int) := by omega
      obtain ⟨b, o, hA, hbl, c0, c1, c2, c3, c4, c5, c6, c7⟩ := ru_at (h.out.below (hbw.out.mono hB)) k hlt
      have hs := hbw.out.size
      have hlw := law.out _ (gu_mem hlt) wr hbw.out
      have hget := gu_get hlt
      have hfa := first_at p L k _ hget
      have htn := take_no p L k _ hget hK.out
      subst hA
      generalize gu L k = x at *
      replace hlw := Lib.hid hlw
      replace hget := Lib.hid hget
      replace hfa := Lib.hid hfa
      replace htn := Lib.hid htn
      go_wp2_with fail
      refine hlw.out.mono ?_
      rintro e w' ⟨rfl, hb2⟩
      have hb3 := hbw.out.trans (hb2.mono hs)
      replace hb3 := Lib.hid hb3
      clear hb2 c0 c1 c2 c3 c4 c5 c6 c7
      cases hpx : p x with
      | true =>
        have hf := hfa.out hpx hK.out
        replace hf := Lib.hid hf
        replace hpx := Lib.hid hpx
        go_wp2_with fail
        go_ret
        exact ⟨by rw [hf.out]; rfl, hb3.out⟩
      | false =>
        have hn := Lib.hid (htn.out hpx)
        replace hpx := Lib.hid hpx
        go_wp2_with fail
        go_roundw
        case rel => exact ⟨k + 1, by omega, by go_num, hn, hb3⟩
        case measure => simp [intOf]; omega
    · have i1 : ¬ (k : Int) < (L.length : Int) := by omega
      have hf := first_no p L (by have := hK.out; rwa [List.take_of_length_le (by omega)] at this)
      replace hf := Lib.hid hf
      go_wp2_with fail
      go_ret
      exact ⟨by rw [hf.out]; rfl, hbw.out⟩
end Go.Proofs.YtkgkpggfoieioaaGreatDoor
