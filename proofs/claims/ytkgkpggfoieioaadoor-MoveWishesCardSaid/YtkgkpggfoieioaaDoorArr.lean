import Derived.Test.YtkgkpggfoieioaaDoorMrga
import Derived.Test.YtkgkpggfoieioaaDoorPlainS
namespace Go.Proofs.YtkgkpggfoieioaaDoor
set_option linter.unusedVariables false
open Go.RowKit
/-! Whole blocks of numbers, and of truths. -/
def arrI (xs : List Int) : Array Value := (xs.map (.int .i64)).toArray
def arrB (xs : List Bool) : Array Value := (xs.map .bool).toArray
theorem arrI_size (xs : List Int) : (arrI xs).size = xs.length := by simp [arrI]
theorem arrB_size (xs : List Bool) : (arrB xs).size = xs.length := by simp [arrB]
section
variable {w : World} {g : Nat} {t : TypeId}
theorem Blk.atI {xs : List Int} (h : Blk w g t (arrI xs)) (k : Nat) (hk : k < xs.length) : w.cell? ⟨g, k, none⟩ = some (.int .i64 (at0 xs k)) := by
  rw [h.cell k]; unfold arrI at0; rw [List.getElem?_toArray, List.getElem?_map, List.getD_eq_getElem?_getD, List.getElem?_eq_getElem hk]; rfl
theorem Blk.atB {xs : List Bool} (h : Blk w g t (arrB xs)) (k : Nat) (hk : k < xs.length) : w.cell? ⟨g, k, none⟩ = some (.bool (atB xs k)) := by
  rw [h.cell k]; unfold arrB Proofs.YtkgkpggfoieioaaDoor.atB; rw [List.getElem?_toArray, List.getElem?_map, List.getD_eq_getElem?_getD, List.getElem?_eq_getElem hk]; rfl
theorem Blk.setI {xs : List Int} (h : Blk w g t (arrI xs)) (k : Nat) (x : Int) : Blk (w.setCell ⟨g, k, none⟩ (.int .i64 x)) g t (arrI (xs.set k x)) := by
  have := h.set_ k (.int .i64 x)
  unfold arrI at *
  rwa [List.setIfInBounds_toArray, ← List.map_set] at this
theorem Blk.setB {xs : List Bool} (h : Blk w g t (arrB xs)) (k : Nat) (x : Bool) : Blk (w.setCell ⟨g, k, none⟩ (.bool x)) g t (arrB (xs.set k x)) := by
  have := h.set_ k (.bool x)
  unfold arrB at *
  rwa [List.setIfInBounds_toArray, ← List.map_set] at this
theorem Blk.rdI {xs : List Int} (h : Blk w g t (arrI xs)) : RD w w.heap.size 1 (some ⟨g, 0, none⟩) xs.length (xs.map (.int .i64)) :=
  ⟨by simp, fun _ => ⟨g, 0, rfl, h.lt, fun j hj => by rw [Nat.zero_add, h.cell j]; unfold arrI; rw [List.getElem?_toArray]⟩⟩
end
theorem madeI (n : Nat) : madeCells #[.int .i64 0] n = arrI (List.replicate n 0) := by
  have := toList_madeCells_one (.int .i64 0) n
  unfold arrI
  rw [List.map_replicate, ← this]
theorem madeB (n : Nat) : madeCells #[.bool false] n = arrB (List.replicate n false) := by
  have := toList_madeCells_one (.bool false) n
  unfold arrB
  rw [List.map_replicate, ← this]
/-- How many truths a block holds. -/
def trues (w : World) (g : Nat) : Nat := match w.heap[g]? with
  | some (.cells cs _ _) => (cs.toList.filter (fun v => match v with | .bool true => true | _ => false)).length
  | _ => 0
theorem trues_blk {w : World} {g : Nat} {t : TypeId} {xs : List Bool} (h : Blk w g t (arrB xs)) : trues w g = xs.count true := by
  unfold trues
  unfold Blk at h
  rw [h]
  show ((arrB xs).toList.filter _).length = _
  unfold arrB
  rw [List.toList_toArray]
  clear h
  induction xs with
  | nil => rfl
  | cons x xs ih => cases x <;> simp_all
end Go.Proofs.YtkgkpggfoieioaaDoor
