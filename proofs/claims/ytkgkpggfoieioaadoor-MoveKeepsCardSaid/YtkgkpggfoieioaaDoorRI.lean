import Derived.Test.YtkgkpggfoieioaaDoorMrga
namespace Go.Proofs.YtkgkpggfoieioaaDoor
set_option linter.unusedVariables false
open Go.RowKit
/-- Are two lists of numbers the same? -/
def eqL (xs ys : List Int) : Bool := decide (xs = ys)
theorem eqL_yes {xs ys : List Int} (h : xs = ys) : eqL xs ys = true := by unfold eqL; simp [h]
theorem eqL_no {xs ys : List Int} (h : ¬ xs = ys) : eqL xs ys = false := by unfold eqL; simp [h]
/-- The numbers that a slice holds. -/
def RI (w : World) (B : Nat) (A : Option Addr) (xs : List Int) : Prop := RD w B 1 A xs.length (xs.map (.int .i64))
theorem RI.cell {w : World} {B b off : Nat} {A : Option Addr} {xs : List Int} (h : RI w B A xs) (hA : A = some ⟨b, off, none⟩) {i : Nat} (hi : i < xs.length) : w.cell? ⟨b, off + i, none⟩ = some (.int .i64 (xs.getD i 0)) := by
  obtain ⟨b', off', e, _, hc⟩ := h.2 (by omega)
  rw [e] at hA
  injection hA with hA
  injection hA with e1 e2
  subst e1; subst e2
  rw [hc i (by omega), List.getElem?_map, List.getD_eq_getElem?_getD, List.getElem?_eq_getElem hi]; rfl
theorem RI.addr {w : World} {B : Nat} {A : Option Addr} {xs : List Int} (h : RI w B A xs) (hn : 0 < xs.length) : ∃ b off, A = some ⟨b, off, none⟩ := by
  obtain ⟨b, off, e, _⟩ := h.2 hn
  exact ⟨b, off, e⟩
theorem take_next (xs ys : List Int) (k : Nat) (h : xs.take k = ys.take k) (h1 : k < xs.length) (h2 : k < ys.length) (he : xs.getD k 0 = ys.getD k 0) : xs.take (k + 1) = ys.take (k + 1) := by
  rw [List.take_succ_eq_append_getElem h1, List.take_succ_eq_append_getElem h2, h]
  rw [List.getD_eq_getElem?_getD, List.getD_eq_getElem?_getD, List.getElem?_eq_getElem h1, List.getElem?_eq_getElem h2] at he
  simp only [Option.getD_some] at he
  rw [he]
end Go.Proofs.YtkgkpggfoieioaaDoor
