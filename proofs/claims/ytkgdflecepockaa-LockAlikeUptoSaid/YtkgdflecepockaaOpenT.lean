import Derived.Test.YtkgdflecepockaaOpenO
import Derived.Test.YtkgdflecepockaaConcat
namespace Go.Proofs.Ytkgdflecepockaa
set_option linter.unusedVariables false
open Go.ChangeShapes Go.WideShapes Go.RowKit Go.Deep
/-- Turns that came in: where, how much room, the lists. -/
def TOks (w : World) (A : Option Addr) (c : Nat) (rows : List RW) : Prop := RD w w.heap.size 1 A rows.length (rows.map RW.v) ∧ (A = none → c = 0) ∧ rows.length ≤ c ∧ c ≤ maxLen ∧ ∀ r ∈ rows, r.ok w w.heap.size ∧ r.L.length ≤ r.c ∧ r.c ≤ maxLen ∧ ∀ x ∈ r.L, x.ok
set_option maxRecDepth 100000 in
theorem openTurns {H : Type} {enc : TypeId × Value → H} {w : World} {r : Reach} {b0 : Nat} {held : Bool} {v : Value} {d : DataW H} {p : List MemPlace} (hv : Value.okWide Try.prog w r b0 41 v)
    (h : DataW.Trod enc Try.prog w 0 (fun _ => true) held 41 v d p) : ∃ (x : (Option Addr × Nat) × List RW), v = .slice x.1.1 x.2.length x.1.2 ∧ TOks w x.1.1 x.1.2 x.2 := by
  have c1 : Try.prog.cellsOf 22 = 1 := by kernel_rfl
  obtain ⟨a, len, cap, rfl⟩ := okWide_slice Try.underlying41 hv
  obtain ⟨fuel, hf⟩ := h
  have hf : DataW.trod enc Try.prog w 0 (fun _ => true) held fuel 41 [.slice a len cap] = some (d, p) := hf
  obtain ⟨A, n, c, val, hcs, hnil, hc, hm, hval, hr⟩ := opR Try.underlying41 c1 hf
  injection hcs with hcs
  injection hcs with e1 e2 e3
  subst e1; subst e2; subst e3
  obtain ⟨rows, hl, hq⟩ := list_of (Q := fun i (x : RW) => val i = x.v ∧ (x.ok w w.heap.size ∧ x.L.length ≤ x.c ∧ x.c ≤ maxLen ∧ ∀ y ∈ x.L, y.ok)) len (fun i hi => by
    obtain ⟨m, y, hy⟩ := hval i hi
    obtain ⟨s, xs, e, h1, h2, h3, h4, h5⟩ := slo_of hy
    exact ⟨⟨s.A, s.c, xs⟩, e, ⟨h1, h2⟩, h3, h4, h5⟩)
  subst hl
  refine ⟨((a, cap), rows), rfl, ?_, hnil, hc, hm, fun r hr => ?_⟩
  · have e : (List.range rows.length).map val = rows.map RW.v := by
      apply List.ext_getElem?
      intro i
      rw [List.getElem?_map, List.getElem?_map]
      rcases Nat.lt_or_ge i rows.length with hi | hi
      · rw [List.getElem?_range hi, List.getElem?_eq_getElem hi]
        exact congrArg some (hq i rows[i] (List.getElem?_eq_getElem hi)).1
      · rw [List.getElem?_eq_none (by simpa using hi), List.getElem?_eq_none hi]; rfl
    rw [← e]; exact hr
  · obtain ⟨i, hi⟩ := List.mem_iff_getElem?.1 hr
    exact (hq i r hi).2
end Go.Proofs.Ytkgdflecepockaa
