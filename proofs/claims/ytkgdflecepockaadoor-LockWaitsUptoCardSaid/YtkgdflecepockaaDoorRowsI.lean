import Derived.Test.YtkgdflecepockaaDoorOpen
namespace Go.Proofs.YtkgdflecepockaaDoor
set_option linter.unusedVariables false
open Go.ChangeShapes Go.WideShapes Go.RowKit Go.Deep
/-- A slice value: where, how many, how much room. -/
structure SV where
  A : Option Addr
  n : Nat
  c : Nat
def SV.v (s : SV) : Value := .slice s.A s.n s.c
/-- One slice of ints that came in. -/
def IOk (w : World) (s : SV) (xs : List Int) : Prop := xs.length = s.n ∧ RD w w.heap.size 1 s.A s.n (xs.map (.int .i64)) ∧ (s.A = none → s.c = 0) ∧ s.n ≤ s.c ∧ s.c ≤ maxLen ∧ ∀ x ∈ xs, (Lit.int .i64 x).wf = true
/-- A slice of them. -/
def RIOk (w : World) (s : SV) (rows : List (SV × List Int)) : Prop := rows.length = s.n ∧ RD w w.heap.size 1 s.A s.n (rows.map (·.1.v)) ∧ (s.A = none → s.c = 0) ∧ s.n ≤ s.c ∧ s.c ≤ maxLen ∧ ∀ r ∈ rows, IOk w r.1 r.2
set_option maxRecDepth 100000 in
theorem openRowsI {H : Type} {enc : TypeId × Value → H} {w : World} {r : Reach} {b0 : Nat} {held : Bool} {v : Value} {d : DataW H} {p : List MemPlace} (hv : Value.okWide Tryd.prog w r b0 22 v)
    (h : DataW.Trod enc Tryd.prog w 0 (fun _ => true) held 22 v d p) : ∃ (x : SV × List (SV × List Int)), v = x.1.v ∧ RIOk w x.1 x.2 := by
  have c1 : Tryd.prog.cellsOf 27 = 1 := by kernel_rfl
  have c2 : Tryd.prog.cellsOf 3 = 1 := by kernel_rfl
  obtain ⟨a, len, cap, rfl⟩ := okWide_slice Tryd.underlying22 hv
  obtain ⟨fuel, hf⟩ := h
  have hf : DataW.trod enc Tryd.prog w 0 (fun _ => true) held fuel 22 [.slice a len cap] = some (d, p) := hf
  obtain ⟨A, n, c, val, hcs, hnil, hc, hm, hval, hr⟩ := opR Tryd.underlying22 c1 hf
  injection hcs with hcs
  injection hcs with e1 e2 e3
  subst e1; subst e2; subst e3
  obtain ⟨rows, hl, hq⟩ := list_of (Q := fun i (x : SV × List Int) => val i = x.1.v ∧ IOk w x.1 x.2) len (fun i hi => by
    obtain ⟨m, y, hy⟩ := hval i hi
    obtain ⟨A', n', c', xs, hcs, hn, hr, hw, hnil, hc, hm⟩ := opI Tryd.underlying27 Tryd.underlying3 c2 hy
    injection hcs with hcs
    exact ⟨(⟨A', n', c'⟩, xs), hcs, hn, hr, hnil, hc, hm, hw⟩)
  refine ⟨(⟨a, len, cap⟩, rows), rfl, hl, ?_, hnil, hc, hm, fun r hr => ?_⟩
  · have e : (List.range len).map val = rows.map (·.1.v) := by
      apply List.ext_getElem?
      intro i
      rw [List.getElem?_map, List.getElem?_map]
      rcases Nat.lt_or_ge i len with hi | hi
      · rw [List.getElem?_range hi, List.getElem?_eq_getElem (by omega)]
        exact congrArg some (hq i (rows[i]'(by omega)) (List.getElem?_eq_getElem (by omega))).1
      · rw [List.getElem?_eq_none (by simpa using hi), List.getElem?_eq_none (by omega)]; rfl
    rw [← e]; exact hr
  · obtain ⟨i, hi⟩ := List.mem_iff_getElem?.1 hr
    exact (hq i r hi).2
end Go.Proofs.YtkgdflecepockaaDoor
