import Derived.Test.YtkgdflecepockaaDoorPlainLast
import Derived.Test.YtkgdflecepockaaDoorWords
import Derived.Shelf.SlicesQ.Reverse
import Derived.Shelf.SlSortFuncK.RowK2
import Derived.BigRegion
import Derived.Deep.MidRow
import Derived.Test.YtkgdflecepockaaDoorRows
import Derived.BigQuiet
import Derived.Deep.QuietTactic
namespace Go.Proofs.YtkgdflecepockaaDoor
set_option linter.unusedVariables false
open Go.RowKit Go.Sort
def oC (o : Od) : List Value := [.int .i64 o.player, .int .i64 o.unit, .int .i64 o.what, .int .i64 o.arg]
theorem oC_len (o : Od) : (oC o).length = 4 := rfl
instance : Inhabited Od := ⟨⟨0, 0, 0, 0⟩⟩
theorem oC_one (o : Od) : ∀ v ∈ oC o, v.oneCell' = true := fun v hv => by
  simp only [oC, List.mem_cons, List.not_mem_nil, or_false] at hv
  rcases hv with rfl | rfl | rfl | rfl <;> rfl
/-- What stands in the row: at place k what stood at place t k. -/
def arrT (L : List Od) (t : Nat → Nat) : Array Od := ((List.range L.length).map fun k => od L (t k)).toArray
theorem arrT_size (L : List Od) (t : Nat → Nat) : (arrT L t).size = L.length := by simp [arrT]
theorem arrT_get {L : List Od} {t : Nat → Nat} {i : Nat} (h : i < L.length) : (arrT L t)[i]! = od L (t i) := by
  rw [getElem!_pos (arrT L t) i (by rw [arrT_size]; exact h)]
  simp [arrT]
theorem arrT_swp {L : List Od} {t : Nat → Nat} {i j : Nat} (hi : i < L.length) (hj : j < L.length) : Sort.swp (arrT L t) i j = arrT L (Srt.swp t i j) := by
  refine Array.ext (by rw [size_swp, arrT_size, arrT_size]) fun k h1 h2 => ?_
  have hk : k < L.length := by rw [arrT_size] at h2; exact h2
  have e := swp_get (arrT L t) (i := i) (j := j) (by rw [arrT_size]; exact hi) (by rw [arrT_size]; exact hj) k
  rw [getElem!_pos _ k h1, arrT_get hi, arrT_get hj, arrT_get hk] at e
  have e2 := arrT_get (L := L) (t := Srt.swp t i j) hk
  rw [getElem!_pos _ k h2] at e2
  rw [e, e2]
  unfold Srt.swp
  by_cases h3 : k = i
  · by_cases h4 : k = j
    · subst h3; subst h4; simp
    · subst h3; simp [h4]
  · by_cases h4 : k = j
    · subst h4; simp [h3]
    · simp [h3, h4]
/-- The row while it is sorted: nothing else that was there has changed. -/
structure SRow (w0 w : World) (blk off : Nat) (L : List Od) (t : Nat → Nat) : Prop where
  g : w0.grownBy w (some blk)
  h : HoldsK oC 4 w blk off (arrT L t)
  lt : blk < w0.heap.size
section
variable {w0 w w' : World} {blk off : Nat} {L : List Od} {t : Nat → Nat}
theorem SRow.below (h : SRow w0 w blk off L t) (hb : Below w.heap.size w w') : SRow w0 w' blk off L t := by
  have hl : blk < w.heap.size := Nat.lt_of_lt_of_le h.lt h.g.size
  refine ⟨grownBy_trans h.g (grownBy_of_below hb), fun j hj => ?_, h.lt⟩
  obtain ⟨h1, h2⟩ := h.h j hj
  exact ⟨(hb.cell (p := ⟨blk, off + j, none⟩) hl).trans h1, (hb.frozen (p := ⟨blk, off + j, none⟩) hl).trans h2⟩
theorem SRow.drewN (h : SRow w0 w blk off L t) (n : Nat) : SRow w0 (w.drewN n) blk off L t := h.below ⟨rfl, rfl, rfl, Nat.le_refl _, fun _ _ => rfl⟩
theorem grownBy_setCells (b : Nat) : ∀ (vs : List Value) (o : Nat) (w : World), w.grownBy (w.setCells b o vs) (some b)
  | [], _, w => World.grownBy.refl w _
  | v :: r, o, w => by
    rw [World.setCells]
    exact grownBy_trans (grownBy_set w b o v) (grownBy_setCells b r (o + 1) _)
theorem holds_setCells_d {W : World} {blk off : Nat} {F : Array Value} (h : Holds id W blk off F) (s : Nat) (vs : List Value) (hs : s + vs.length ≤ F.size) : Holds id (W.setCells blk (off + s) vs) blk off (setMany F s vs) := by
  have e : W.setCells blk (off + s) vs = putRow id W blk off (setMany F s vs) := by
    conv => lhs; rw [← putRow_self id W blk off F h]
    exact setCells_putRow _ _ _ _ _ _ hs
  rw [e]
  exact holds_putRow id W blk off F _ h (by rw [size_setMany])
theorem bnd4 {L : List Od} {x : Nat} {t : Nat → Nat} (hx : x < L.length) : x * 4 + 4 ≤ (flatK oC 4 (arrT L t)).size := by rw [size_flatK, arrT_size]; omega
/-- A load of one that stands in the row. -/
theorem SRow.range (h : SRow w0 w blk off L t) {i : Nat} (hi : i < L.length) : w.rangeAt blk (off + i * 4) (oC (od L (t i))) := fun j v hv => by
  have hj : j < 4 := (List.getElem?_eq_some_iff.1 hv).1
  have hh := (HoldsK.cell h.h (i := i) (c := j) (by rw [arrT_size]; exact hi) hj).1
  rw [arrT_get hi] at hh
  rw [hh, ← hv, List.getElem?_eq_getElem (by rw [oC_len]; exact hj), getElem!_pos _ j (by rw [oC_len]; exact hj)]
theorem SRow.there (h : SRow w0 w blk off L t) {i : Nat} (hi : i < L.length) : w.there blk (off + i * 4) 4 := fun j hj => by
  have hh := HoldsK.cell h.h (i := i) (c := j) (by rw [arrT_size]; exact hi) hj
  exact ⟨by rw [hh.1]; rfl, hh.2⟩
theorem ord_size : (Tryd.prog.info? 66).map (·.size) = some 4 := by kernel_rfl
theorem oC_all (x : Od) : (oC x).toArray.all (·.oneCell') = true := all_oneCell_toArray (oC_one x)
/-- One that stands in the row is loaded, as the walk meets it. -/
theorem SRow.load (h : SRow w0 w blk off L t) {i : Nat} (hi : i < L.length) : (Instr.loadAt 66 (.pointer (some ⟨blk, off + i * 4, none⟩))).run Tryd.prog w = .ok (.agg (oC (od L (t i))).toArray) w :=
  run_loadAt_mid w blk (off + i * 4) _ _ _ (h.range hi) Tryd.underlying66 rfl ord_size
theorem SRow.store1 (h : SRow w0 w blk off L t) {i : Nat} (o : Od) (hi : i < L.length) : (Instr.storeAt 66 (.pointer (some ⟨blk, off + i * 4, none⟩)) (.agg (oC o).toArray)).run Tryd.prog w = .ok () (w.setCells blk (off + i * 4) (oC o)) :=
  run_storeAt_mid w blk (off + i * 4) _ _ (h.there hi) ord_size (oC_all o)
theorem SRow.store2 (h : SRow w0 w blk off L t) {i j : Nat} (o o' : Od) (hi : i < L.length) (hj : j < L.length) :
    (Instr.storeAt 66 (.pointer (some ⟨blk, off + j * 4, none⟩)) (.agg (oC o').toArray)).run Tryd.prog (w.setCells blk (off + i * 4) (oC o)) = .ok () ((w.setCells blk (off + i * 4) (oC o)).setCells blk (off + j * 4) (oC o')) :=
  run_storeAt_mid _ blk (off + j * 4) _ _ (World.there_setCells (h.there hj) _ _ _) ord_size (oC_all o')
theorem SRow.swap (h : SRow w0 w blk off L t) {i j : Nat} (hi : i < L.length) (hj : j < L.length) :
    SRow w0 ((w.setCells blk (off + i * 4) (oC (od L (t j)))).setCells blk (off + j * 4) (oC (od L (t i)))) blk off L (Srt.swp t i j) := by
  refine ⟨grownBy_trans h.g (grownBy_trans (grownBy_setCells _ _ _ _) (grownBy_setCells _ _ _ _)), ?_, h.lt⟩
  have h1 := holds_setCells_d h.h (i * 4) (oC (od L (t j))) (by rw [oC_len]; exact bnd4 hi)
  have h2 := holds_setCells_d h1 (j * 4) (oC (od L (t i))) (by rw [oC_len, size_setMany]; exact bnd4 hj)
  have e := setMany_swp oC 4 oC_len (arrT L t) i j (by rw [arrT_size]; exact hi) (by rw [arrT_size]; exact hj)
  rw [arrT_get hi, arrT_get hj, arrT_swp hi hj] at e
  unfold HoldsK
  rw [← e]
  exact h2
theorem SRow.cells (h : SRow w0 w blk off L t) {i : Nat} (hi : i < L.length) :
    (w.cell? ⟨blk, off + i * 4, none⟩ = some (.int .i64 (od L (t i)).player) ∧ w.cell? ⟨blk, off + i * 4 + 1, none⟩ = some (.int .i64 (od L (t i)).unit) ∧ w.cell? ⟨blk, off + i * 4 + 2, none⟩ = some (.int .i64 (od L (t i)).what) ∧ w.cell? ⟨blk, off + i * 4 + 3, none⟩ = some (.int .i64 (od L (t i)).arg)) ∧
      w.frozen? ⟨blk, off + i * 4, none⟩ = false ∧ w.frozen? ⟨blk, off + i * 4 + 1, none⟩ = false ∧ w.frozen? ⟨blk, off + i * 4 + 2, none⟩ = false ∧ w.frozen? ⟨blk, off + i * 4 + 3, none⟩ = false := by
  have hh := fun c (hc : c < 4) => HoldsK.cell h.h (i := i) (c := c) (by rw [arrT_size]; exact hi) hc
  rw [arrT_get hi] at hh
  obtain ⟨a0, b0⟩ := hh 0 (by omega)
  obtain ⟨a1, b1⟩ := hh 1 (by omega)
  obtain ⟨a2, b2⟩ := hh 2 (by omega)
  obtain ⟨a3, b3⟩ := hh 3 (by omega)
  exact ⟨⟨a0, a1, a2, a3⟩, b0, b1, b2, b3⟩
theorem setCells_oC (w : World) (b o : Nat) (x : Od) : w.setCells b o (oC x) = (((w.setCell ⟨b, o, none⟩ (.int .i64 x.player)).setCell ⟨b, o + 1, none⟩ (.int .i64 x.unit)).setCell ⟨b, o + 2, none⟩ (.int .i64 x.what)).setCell ⟨b, o + 3, none⟩ (.int .i64 x.arg) := rfl
end
end Go.Proofs.YtkgdflecepockaaDoor
