import Derived.Test.YtkgdflecepockaaDoorLock
import Derived.OpenShut
import Derived.Deep.RegionHeld3
namespace Go.Proofs.YtkgdflecepockaaDoor
set_option linter.unusedVariables false
open Go.RowKit
def erL (k : Int) : Value := .iface 80 (.int .i64 k)
theorem mk_bools (p : Nat) (hp : 1 ≤ p ∧ p ≤ 4) (w : World) : (Instr.makeSlice 87 (.int .i64 (p : Int)) (.int .i64 (p : Int))).run Tryd.prog w = .ok (.slice (some ⟨w.heap.size, 0, none⟩) p p) (w.alloc (.cells ((List.replicate p false).map Value.bool).toArray 4)) := by
  rcases (by omega : p = 1 ∨ p = 2 ∨ p = 3 ∨ p = 4) with rfl | rfl | rfl | rfl
  · kernel_rfl
  · kernel_rfl
  · kernel_rfl
  · kernel_rfl
set_option maxRecDepth 100000 in
theorem lnew_ok (p : Nat) (d : Int) (w : World) (hp : 1 ≤ p ∧ p ≤ 4) (hd : 0 ≤ d ∧ d ≤ 20) :
    Calls Tryd.prog 22 #[.int .i64 (p : Int), .int .i64 d] w fun e w' => ∃ G O M, e = .returned (.tuple #[.pointer (some ⟨G, 0, none⟩), .nilIface]) ∧ LK w.heap.size w' G O M 0 d 0 (List.replicate p false) (fun _ _ => none) ∧ Below w.heap.size w w' := by
  obtain ⟨hp1, hp2⟩ := hp
  obtain ⟨hd1, hd2⟩ := hd
  have b1 : decide ((p : Int) < 1) = false := decide_eq_false (by omega)
  have b2 : decide (4 < (p : Int)) = false := decide_eq_false (by omega)
  have b3 : decide (d < 0) = false := decide_eq_false (by omega)
  have b4 : decide (20 < d) = false := decide_eq_false (by omega)
  have hmm := @run_makeMap Tryd.prog
  have hmk := fun w => mk_bools p ⟨hp1, hp2⟩ w
  go_enter Tryd.func22, Tryd.ntmps22
  go_wp2_with fail
  go_ret2
  have e1 : (List.replicate p false).length = p := List.length_replicate
  have e2 : ((List.replicate p false).map Value.bool).toArray = Array.replicate p (Value.bool false) := by simp
  have hO := Blk.new w 4 (Array.replicate p (Value.bool false))
  have hb1 : Below w.heap.size w (w.alloc (.cells (Array.replicate p (Value.bool false)) 4)) := (Below.refl _ _).alloc (Nat.le_refl _) _
  have z1 : (w.alloc (.cells (Array.replicate p (Value.bool false)) 4)).heap.size = w.heap.size + 1 := by simp
  rw [← z1]
  generalize (w.alloc (.cells (Array.replicate p (Value.bool false)) 4)) = W1 at *
  have hM := MapIs.made W1
  have hO2 := hO.alloc (.map #[] 0)
  have hb2 := hb1.alloc (by omega) (.map #[] 0)
  have z2 : (W1.alloc (.map #[] 0)).heap.size = W1.heap.size + 1 := by simp
  rw [← z2]
  have hl : w.heap.size < W1.heap.size := by omega
  have hl2 : W1.heap.size < (W1.alloc (.map #[] 0)).heap.size := by omega
  generalize (W1.alloc (.map #[] 0)) = W2 at *
  refine ⟨W2.heap.size, w.heap.size, W1.heap.size, rfl, ⟨?_, by rw [e2]; exact hO2.alloc _, ⟨fun _ _ => none, hM.below ((Below.refl _ _).alloc (Nat.le_refl _) _), fun _ _ => ⟨fun _ => rfl, fun L h => by cases h⟩⟩, by rw [e1]; exact ⟨hp1, hp2⟩, ⟨hd1, hd2⟩, by omega, by omega⟩, hb2.alloc (by omega) _⟩
  rw [e1]
  exact Blk.new W2 _ _
theorem lnew_bad (p d : Int) (w : World) (h : p < 1 ∨ 4 < p ∨ d < 0 ∨ 20 < d) :
    Calls Tryd.prog 22 #[.int .i64 p, .int .i64 d] w fun e w' => e = .returned (.tuple #[.pointer none, erL 1]) ∧ w = w' := by
  unfold erL
  rcases (by omega : p < 1 ∨ (1 ≤ p ∧ 4 < p) ∨ (1 ≤ p ∧ p ≤ 4 ∧ d < 0) ∨ (1 ≤ p ∧ p ≤ 4 ∧ 0 ≤ d ∧ 20 < d)) with h1 | ⟨h1, h2⟩ | ⟨h1, h2, h3⟩ | ⟨h1, h2, h3, h4⟩
  · have b1 : decide (p < 1) = true := decide_eq_true h1
    clear h
    go_enter Tryd.func22, Tryd.ntmps22
    go_wp2_with fail
    go_ret2
    exact ⟨rfl, rfl⟩
  · have b1 : decide (p < 1) = false := decide_eq_false (by omega)
    have b2 : decide (4 < p) = true := decide_eq_true h2
    clear h
    go_enter Tryd.func22, Tryd.ntmps22
    go_wp2_with fail
    go_ret2
    exact ⟨rfl, rfl⟩
  · have b1 : decide (p < 1) = false := decide_eq_false (by omega)
    have b2 : decide (4 < p) = false := decide_eq_false (by omega)
    have b3 : decide (d < 0) = true := decide_eq_true h3
    clear h
    go_enter Tryd.func22, Tryd.ntmps22
    go_wp2_with fail
    go_ret2
    exact ⟨rfl, rfl⟩
  · have b1 : decide (p < 1) = false := decide_eq_false (by omega)
    have b2 : decide (4 < p) = false := decide_eq_false (by omega)
    have b3 : decide (d < 0) = false := decide_eq_false (by omega)
    have b4 : decide (20 < d) = true := decide_eq_true h4
    clear h
    go_enter Tryd.func22, Tryd.ntmps22
    go_wp2_with fail
    go_ret2
    exact ⟨rfl, rfl⟩
section
variable {w : World} {G O M B n : Nat} {d now : Int} {outs : List Bool} {S : Int → Int → Option (List Od)}
/-- The fault of a player. -/
def plE (outs : List Bool) (p : Int) : Int := if p < 0 ∨ (outs.length : Int) ≤ p then 1 else if outs.getD p.toNat false = true then 7 else 0
def erV (k : Int) : Value := if k = 0 then .nilIface else erL k
theorem lplayer_any (p : Int) (h : LK B w G O M n d now outs S) :
    Calls Tryd.prog 40 #[.pointer (some ⟨G, 0, none⟩), .int .i64 p] w fun e w' => e = .returned (erV (plE outs p)) ∧ w = w' := by
  obtain ⟨c0, c1, c2, c3, c4⟩ := h.cells
  have hnp := h.np
  rcases (by omega : p < 0 ∨ (0 ≤ p ∧ (outs.length : Int) ≤ p) ∨ (0 ≤ p ∧ p < (outs.length : Int))) with h1 | ⟨h1, h2⟩ | ⟨h1, h2⟩
  · have e : erV (plE outs p) = erL 1 := by unfold plE; rw [if_pos (.inl h1)]; rfl
    rw [e]
    have b1 : decide (p < 0) = true := decide_eq_true h1
    replace h := Lib.hid h
    clear e
    unfold erL
    go_enter Tryd.func40, Tryd.ntmps40
    go_wp2_with fail
    go_ret
    exact ⟨rfl, rfl⟩
  · have e : erV (plE outs p) = erL 1 := by unfold plE; rw [if_pos (.inr h2)]; rfl
    rw [e]
    have b1 : decide (p < 0) = false := decide_eq_false (by omega)
    have b2 : decide ((outs.length : Int) ≤ p) = true := decide_eq_true h2
    replace h := Lib.hid h
    clear e
    unfold erL
    go_enter Tryd.func40, Tryd.ntmps40
    go_wp2_with fail
    go_ret
    exact ⟨rfl, rfl⟩
  · obtain ⟨k, rfl⟩ : ∃ k : Nat, p = (k : Int) := ⟨p.toNat, by omega⟩
    have hk : k < outs.length := by omega
    have o1 := h.ocell hk
    have e : erV (plE outs (k : Int)) = if outs.getD k false = true then erL 7 else .nilIface := by
      unfold plE
      rw [if_neg (by omega)]
      simp only [Int.toNat_natCast]
      split <;> rfl
    rw [e]
    have b1 : decide ((k : Int) < 0) = false := decide_eq_false (by omega)
    have b2 : decide ((outs.length : Int) ≤ (k : Int)) = false := decide_eq_false (by omega)
    replace h := Lib.hid h
    clear e
    cases hb : outs.getD k false with
    | true =>
      rw [hb] at o1
      rw [if_pos rfl]
      unfold erL
      replace hb := Lib.hid hb
      go_enter Tryd.func40, Tryd.ntmps40
      go_wp2_with fail
      go_ret
      exact ⟨rfl, rfl⟩
    | false =>
      rw [hb] at o1
      rw [if_neg (by simp)]
      replace hb := Lib.hid hb
      go_enter Tryd.func40, Tryd.ntmps40
      go_wp2_with fail
      go_ret
      exact ⟨rfl, rfl⟩
theorem lnow_any (h : LK B w G O M n d now outs S) :
    Calls Tryd.prog 32 #[.pointer (some ⟨G, 0, none⟩)] w fun e w' => e = .returned (.int .i64 now) ∧ w = w' := by
  obtain ⟨c0, c1, c2, c3, c4⟩ := h.cells
  replace h := Lib.hid h
  go_enter Tryd.func32, Tryd.ntmps32
  go_wp2_with fail
  go_ret
  exact ⟨rfl, rfl⟩
theorem ldrop_ok (p : Nat) (h : LK B w G O M n d now outs S) (hp : p < outs.length) (hf : outs.getD p false = false) :
    Calls Tryd.prog 25 #[.pointer (some ⟨G, 0, none⟩), .int .i64 (p : Int)] w fun e w' => e = .returned .nilIface ∧ LK B w' G O M n d now (outs.set p true) S ∧ LEff w w' G O M := by
  have hc := lplayer_any (p : Int) h
  have e : erV (plE outs (p : Int)) = .nilIface := by
    unfold plE
    rw [if_neg (by omega), if_neg (by simp only [Int.toNat_natCast]; rw [hf]; simp)]; rfl
  rw [e] at hc
  obtain ⟨c0, c1, c2, c3, c4⟩ := h.cells
  have o1 := h.ocell hp
  have f1 := h.ob.frozen p
  have hl := h.ob.lt
  replace hc := Lib.hid hc
  replace h := Lib.hid h
  replace hf := Lib.hid hf
  clear e c0 c1 c2 c4
  go_enter Tryd.func25, Tryd.ntmps25
  go_wp2_with fail
  refine hc.out.mono ?_
  rintro e w1 ⟨rfl, rfl⟩
  go_wp2_with fail
  go_ret
  exact ⟨rfl, h.out.out p, (LEff.refl _ _ _ _).set_ _ _ _ (.inr rfl)⟩
theorem ldrop_no (p : Int) (h : LK B w G O M n d now outs S) (hp : plE outs p ≠ 0) :
    Calls Tryd.prog 25 #[.pointer (some ⟨G, 0, none⟩), .int .i64 p] w fun e w' => e = .returned (erL (plE outs p)) ∧ w = w' := by
  have hc := lplayer_any p h
  have e : erV (plE outs p) = erL (plE outs p) := by unfold erV; rw [if_neg hp]
  rw [e] at hc
  unfold erL at hc ⊢
  replace hc := Lib.hid hc
  replace h := Lib.hid h
  replace hp := Lib.hid hp
  clear e
  go_enter Tryd.func25, Tryd.ntmps25
  go_wp2_with fail
  refine hc.out.mono ?_
  rintro e w1 ⟨rfl, rfl⟩
  go_wp2_with fail
  go_ret
  exact ⟨rfl, rfl⟩
end
end Go.Proofs.YtkgdflecepockaaDoor
