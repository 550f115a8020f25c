import Derived.Test.YtkgdflecepockaaDoorStable
import Derived.Test.YtkgdflecepockaaDoorOrdC
namespace Go.Proofs.YtkgdflecepockaaDoor
set_option linter.unusedVariables false
open Go.RowKit Go.Sort
/-! Of no orders nothing is sorted. -/
theorem ins0 (A : Option Addr) (c : Nat) (f : Value) (w : World) : Calls Tryd.prog 92 #[.slice A 0 c, .int .i64 0, .int .i64 0, f] w fun e w' => e = .returned (.tuple #[]) ∧ w = w' := by
  go_enter Tryd.func92, Tryd.ntmps92
  go_wp2_with fail
  refine wp_loop_rounds 1 ?_
  rw [rounds_succ]
  go_wp2_with fail
  go_end0
  exact ⟨rfl, rfl⟩
theorem sta0 (A : Option Addr) (c : Nat) (f : Value) (w : World) : Calls Tryd.prog 86 #[.slice A 0 c, .int .i64 0, f] w fun e w' => e = .returned (.tuple #[]) ∧ w = w' := by
  go_enter Tryd.func86, Tryd.ntmps86
  go_wp2_with fail
  refine wp_loop_rounds 1 ?_
  rw [rounds_succ]
  go_wp2_with fail
  refine (ins0 A c f _).mono ?_
  rintro e w1 ⟨rfl, rfl⟩
  go_wp2_with fail
  refine wp_loop_rounds 1 ?_
  rw [rounds_succ]
  go_wp2_with fail
  go_end0
  exact ⟨rfl, rfl⟩
theorem sort0 (A : Option Addr) (c : Nat) (f : Value) (w : World) : Calls Tryd.prog 75 #[.slice A 0 c, f] w fun e w' => e = .returned (.tuple #[]) ∧ w = w' := by
  go_enter Tryd.func75, Tryd.ntmps75
  go_wp2_with fail
  refine (sta0 A c f _).mono ?_
  rintro e w1 ⟨rfl, rfl⟩
  go_wp2_with fail
  go_end0
  exact ⟨rfl, rfl⟩
/-- A row of the call's own that holds orders, to be sorted. -/
theorem srow_of_own {w : World} {base g n cap : Nat} {L : List Od} (hn : L.length = n) (h : w.ownsRow base 66 4 (.slice (some ⟨g, 0, none⟩) n cap) n (L.flatMap oC)) (hp : 0 < n) : SRow w w g 0 L id := by
  subst hn
  have hlt := h.lt g rfl
  refine ⟨World.grownBy.refl _ _, fun j hj => ?_, hlt.2⟩
  rw [size_flatK, arrT_size] at hj
  have hj4 : j / 4 < L.length := by omega
  rw [get_flatK oC 4 _ j (by rw [arrT_size]; exact hj), arrT_get hj4]
  have e1 := flat_get oC 4 oC_len L (j / 4) (j % 4) (by omega)
  rw [show j / 4 * 4 + j % 4 = j by omega, od_get hj4] at e1
  simp only [Option.bind_some] at e1
  rw [Nat.zero_add]
  refine ⟨?_, ?_⟩
  · rw [h.cellAt j hj, e1, List.getElem?_eq_getElem (by rw [oC_len]; omega), getElem!_pos _ _ (by rw [oC_len]; omega)]; rfl
  · exact h.frozenAt j
/-- The last one of a row of orders, replaced. -/
theorem own_last {w : World} {base g m cap : Nat} {I : List Od} {y x : Od} (hm : I.length = m) (h : w.ownsRow base 66 4 (.slice (some ⟨g, 0, none⟩) (m + 1) cap) (m + 1) ((I ++ [y]).flatMap oC)) :
    (w.setCells g (m * 4) (oC x)).ownsRow base 66 4 (.slice (some ⟨g, 0, none⟩) (m + 1) cap) (m + 1) ((I ++ [x]).flatMap oC) ∧ w.grownBy (w.setCells g (m * 4) (oC x)) (some g) := by
  have hl : (I.flatMap oC).length = m * 4 := by rw [flat_len oC 4 oC_len, hm]
  have e : (I ++ [x]).flatMap oC = (((((I ++ [y]).flatMap oC).set (m * 4) (.int .i64 x.player)).set (m * 4 + 1) (.int .i64 x.unit)).set (m * 4 + 2) (.int .i64 x.what)).set (m * 4 + 3) (.int .i64 x.arg) := by
    rw [List.flatMap_append, List.flatMap_append, List.set_append_right _ _ (by omega), List.set_append_right _ _ (by omega), List.set_append_right _ _ (by omega), List.set_append_right _ _ (by omega), hl]
    rw [show m * 4 - m * 4 = 0 by omega, show m * 4 + 1 - m * 4 = 1 by omega, show m * 4 + 2 - m * 4 = 2 by omega, show m * 4 + 3 - m * 4 = 3 by omega]
    rfl
  rw [setCells_oC, e]
  exact ⟨((((h.stored _ _).1.stored _ _).1.stored _ _).1.stored _ _).1, grownBy_trans (grownBy_trans (grownBy_trans (grownBy_set _ _ _ _) (grownBy_set _ _ _ _)) (grownBy_set _ _ _ _)) (grownBy_set _ _ _ _)⟩
theorem own_there {w : World} {base g m cap : Nat} {I : List Od} {y : Od} (hm : I.length = m) (h : w.ownsRow base 66 4 (.slice (some ⟨g, 0, none⟩) (m + 1) cap) (m + 1) ((I ++ [y]).flatMap oC)) :
    w.rangeAt g (m * 4) (oC y) ∧ w.there g (m * 4) 4 := by
  have hl : (I.flatMap oC).length = m * 4 := by rw [flat_len oC 4 oC_len, hm]
  have key : ∀ j, j < 4 → w.cell? ⟨g, m * 4 + j, none⟩ = (oC y)[j]? := fun j hj => by
    rw [h.cellAt (m * 4 + j) (by omega), List.flatMap_append, List.getElem?_append_right (by omega), hl, show m * 4 + j - m * 4 = j by omega]
    simp
  refine ⟨fun j v hv => ?_, fun j hj => ⟨?_, h.frozenAt _⟩⟩
  · rw [key j (by have := (List.getElem?_eq_some_iff.1 hv).1; rw [oC_len] at this; exact this)]; exact hv
  · rw [key j hj, List.getElem?_eq_getElem (by rw [oC_len]; exact hj)]; rfl
theorem range_below {w w' : World} {b o : Nat} {cs : List Value} (h : w.rangeAt b o cs) (hb : Below w.heap.size w w') : w'.rangeAt b o cs := fun j v hv => by
  have hc := h j v hv
  exact (hb.cell (p := ⟨b, o + j, none⟩) (World.block_lt_of_cell? w _ hc)).trans hc
end Go.Proofs.YtkgdflecepockaaDoor
