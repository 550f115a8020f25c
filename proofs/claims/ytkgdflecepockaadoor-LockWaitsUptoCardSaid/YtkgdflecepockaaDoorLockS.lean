import Derived.Test.YtkgdflecepockaaDoorLockT
namespace Go.Proofs.YtkgdflecepockaaDoor
set_option linter.unusedVariables false
open Go.RowKit
def IdxQ (P : Bool) (w : World) (e : Ending) (w' : World) : Prop := ∃ r : Int, e = .returned (.int .i64 r) ∧ -1 ≤ r ∧ r ≤ 1000000000 ∧ decide (0 ≤ r) = P ∧ Below w.heap.size w w'
def anyNe (L : List Od) (p : Int) : Bool := L.any fun o => decide (o.player ≠ p)
theorem anyNe_tk (L : List Od) (p : Int) (k : Nat) (h : k < L.length) : anyNe (L.take (k + 1)) p = (anyNe (L.take k) p || decide ((od L k).player ≠ p)) := by
  unfold anyNe
  rw [List.take_succ_eq_append_getElem h, List.any_append]
  have : od L k = L[k] := by unfold od; rw [List.getD_eq_getElem?_getD, List.getElem?_eq_getElem h]; rfl
  rw [this]; simp
theorem anyNe_of (L : List Od) (p : Int) (k : Nat) (h : anyNe (L.take k) p = true) : anyNe L p = true := by
  unfold anyNe at *
  obtain ⟨x, hx, hp⟩ := List.any_eq_true.1 h
  exact List.any_eq_true.2 ⟨x, List.mem_of_mem_take hx, hp⟩
theorem send1_any (x : Od) (p : Int) (pb : Nat) (w : World) (hc : w.cell? ⟨pb, 0, none⟩ = some (.int .i64 p)) (hb : pb < w.heap.size) :
    Calls Tryd.prog 43 #[.agg #[.int .i64 x.player, .int .i64 x.unit, .int .i64 x.what, .int .i64 x.arg], .pointer (some ⟨pb, 0, none⟩)] w fun e w' => e = .returned (.bool (decide (x.player ≠ p))) ∧ Below w.heap.size w w' := by
  have e1 : decide (x.player ≠ p) = (x.player != p) := by by_cases h : x.player = p <;> simp [h]
  rw [e1]
  replace e1 := Lib.hid e1
  go_enter Tryd.func43, Tryd.ntmps43
  go_wp2_with fail
  go_ret
  exact ⟨rfl, (Below.refl _ _).alloc (Nat.le_refl _) _⟩
set_option maxHeartbeats 800000 in
set_option maxRecDepth 100000 in
theorem idxO_any (A : Option Addr) (c B pb : Nat) (p : Int) (L : List Od) (w : World) (h : RO w B A L) (hB : B ≤ w.heap.size) (hl : L.length ≤ 1000000000) (hc : w.cell? ⟨pb, 0, none⟩ = some (.int .i64 p)) (hb : pb < w.heap.size) :
    Calls Tryd.prog 57 #[.slice A L.length c, .func (.func 43) #[] #[.pointer (some ⟨pb, 0, none⟩)]] w (IdxQ (anyNe L p) w) := by
  replace h := Lib.hid h
  replace hc := Lib.hid hc
  go_enter Tryd.func57, Tryd.ntmps57
  go_wp2_with fail
  go_loopw [5, 8] (fun _ i wr => ∃ k : Nat, k ≤ L.length ∧ i = .int .i64 k ∧ Hid (anyNe (L.take k) p = false) ∧ Hid (Below w.heap.size w wr)) (fun _ i _ => L.length - (intOf i).toNat)
  case atStart => exact ⟨0, Nat.zero_le _, rfl, Lib.hid (by simp [anyNe]), Lib.hid (Below.refl _ _)⟩
  case round =>
    obtain ⟨k, hk, rfl, hK, hbw⟩ := hrel
    by_cases hlt : k < L.length
    · have i1 : (k : Int) < (L.length : Int) := by omega
      obtain ⟨b, o, hA, hbl, c0, c1, c2, c3⟩ := ro_at (h.out.below (hbw.out.mono hB)) k hlt
      have hst := anyNe_tk L p k hlt
      rw [hK.out, Bool.false_or] at hst
      have hcq := (hbw.out.cell (p := ⟨pb, 0, none⟩) hb).trans hc.out
      have hs := hbw.out.size
      have hs1 := send1_any (od L k) p pb wr hcq (by omega)
      subst hA
      generalize od L k = x at *
      replace hcq := Lib.hid hcq
      cases hb : decide (x.player ≠ p) with
      | true =>
        rw [hb] at hst hs1
        have hall := anyNe_of _ _ _ hst
        replace hall := Lib.hid hall
        replace hst := Lib.hid hst
        replace hs1 := Lib.hid hs1
        replace hb := Lib.hid hb
        go_wp2_with fail
        refine hs1.out.mono ?_
        rintro e w' ⟨rfl, hb2⟩
        have hb3 := hbw.out.trans (hb2.mono hs)
        replace hb3 := Lib.hid hb3
        clear hb2 c0 c1 c2 c3
        go_wp2_with fail
        go_ret
        exact ⟨k, rfl, by omega, by omega, by rw [hall.out]; simp, hb3.out⟩
      | false =>
        rw [hb] at hst hs1
        replace hst := Lib.hid hst
        replace hs1 := Lib.hid hs1
        replace hb := Lib.hid hb
        go_wp2_with fail
        refine hs1.out.mono ?_
        rintro e w' ⟨rfl, hb2⟩
        have hb3 := hbw.out.trans (hb2.mono hs)
        replace hb3 := Lib.hid hb3
        clear hb2 c0 c1 c2 c3
        go_wp2_with fail
        go_roundw
        case rel => exact ⟨k + 1, by omega, by go_num, hst, hb3⟩
        case measure => simp [intOf]; omega
    · have i1 : ¬ (k : Int) < (L.length : Int) := by omega
      have hall : anyNe L p = false := by have := hK.out; rwa [List.take_of_length_le (by omega)] at this
      replace hall := Lib.hid hall
      go_wp2_with fail
      go_ret
      exact ⟨-1, rfl, by omega, by omega, by rw [hall.out]; rfl, hbw.out⟩
set_option maxRecDepth 100000 in
theorem ctnO_any (A : Option Addr) (c B pb : Nat) (p : Int) (L : List Od) (w : World) (h : RO w B A L) (hB : B ≤ w.heap.size) (hl : L.length ≤ 1000000000) (hc : w.cell? ⟨pb, 0, none⟩ = some (.int .i64 p)) (hb : pb < w.heap.size) :
    Calls Tryd.prog 42 #[.slice A L.length c, .func (.func 43) #[] #[.pointer (some ⟨pb, 0, none⟩)]] w fun e w' => e = .returned (.bool (anyNe L p)) ∧ Below w.heap.size w w' := by
  have hi := idxO_any A c B pb p L w h hB hl hc hb
  clear h hc
  replace hi := Lib.hid hi
  go_enter Tryd.func42, Tryd.ntmps42
  go_wp2_with fail
  refine hi.out.mono ?_
  rintro e w' ⟨r, rfl, h1, h2, h3, hbw⟩
  replace h3 := Lib.hid h3
  replace hbw := Lib.hid hbw
  go_wp2_with fail
  go_ret
  exact ⟨by rw [← h3.out]; rfl, hbw.out⟩
end Go.Proofs.YtkgdflecepockaaDoor
