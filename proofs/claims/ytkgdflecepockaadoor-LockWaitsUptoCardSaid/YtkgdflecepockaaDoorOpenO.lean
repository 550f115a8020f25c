import Derived.Test.YtkgdflecepockaaDoorSl
import Derived.Test.YtkgdflecepockaaDoorOrdC
namespace Go.Proofs.YtkgdflecepockaaDoor
set_option linter.unusedVariables false
open Go.ChangeShapes Go.WideShapes Go.RowKit Go.Deep
def Od.ok (o : Od) : Prop := I64 o.player ∧ I64 o.unit ∧ I64 o.what ∧ I64 o.arg
/-- A slice that holds orders. -/
def SLO (w : World) (s : SL) (xs : List Od) : Prop := RD w w.heap.size 4 s.A xs.length (xs.flatMap oC) ∧ (s.A = none → s.c = 0) ∧ xs.length ≤ s.c ∧ s.c ≤ maxLen ∧ ∀ x ∈ xs, x.ok
theorem slo_of {H : Type} {enc : TypeId × Value → H} {w : World} {held : Bool} {fuel : Nat} {v : Value} {x : DataW H × List MemPlace} (h : DataW.trod enc Tryd.prog w 0 (fun _ => true) held fuel 55 [v] = some x) :
    ∃ (s : SL) (xs : List Od), v = .slice s.A xs.length s.c ∧ SLO w s xs := by
  obtain ⟨A, n, c, val, hcs, hnil, hc, hm, hf, hr⟩ := opV Tryd.underlying55 Tryd.underlying66 (by kernel_rfl) (by kernel_rfl) (by decide) h
  injection hcs with hcs
  subst hcs
  have g : ∀ i, i < n → ∀ j f, _ → val i j = .int .i64 (vi (val i j)) ∧ I64 (vi (val i j)) := fun i hi j f hj => by
    obtain ⟨m, y, hy⟩ := hf i hi j f hj
    have : f.type = 3 := by
      rcases j with _ | _ | _ | _ | j
      all_goals first | (injection hj with hj; subst hj; rfl) | (simp at hj)
    rw [this] at hy
    exact unit_all Tryd.underlying3 hy
  have e : ((List.range n).flatMap fun i => (List.range 4).map (val i)) = ((List.range n).map fun i => (⟨vi (val i 0), vi (val i 1), vi (val i 2), vi (val i 3)⟩ : Od)).flatMap oC := by
    rw [List.flatMap_map]
    refine fm_congr fun i hi => ?_
    have hi := List.mem_range.1 hi
    show [val i 0, val i 1, val i 2, val i 3] = _
    rw [(g i hi 0 _ rfl).1, (g i hi 1 _ rfl).1, (g i hi 2 _ rfl).1, (g i hi 3 _ rfl).1]
    rfl
  refine ⟨⟨A, c⟩, (List.range n).map fun i => ⟨vi (val i 0), vi (val i 1), vi (val i 2), vi (val i 3)⟩, by simp, ?_, hnil, by simpa using hc, hm, ?_⟩
  · rw [← e]; simpa using hr
  · intro x hx
    obtain ⟨i, hi, rfl⟩ := List.mem_map.1 hx
    have hi := List.mem_range.1 hi
    exact ⟨(g i hi 0 _ rfl).2, (g i hi 1 _ rfl).2, (g i hi 2 _ rfl).2, (g i hi 3 _ rfl).2⟩
set_option maxRecDepth 100000 in
theorem openOrders {H : Type} {enc : TypeId × Value → H} {w : World} {r : Reach} {b0 : Nat} {held : Bool} {v : Value} {d : DataW H} {p : List MemPlace} (hv : Value.okWide Tryd.prog w r b0 55 v)
    (h : DataW.Trod enc Tryd.prog w 0 (fun _ => true) held 55 v d p) : ∃ (x : SL × List Od), v = .slice x.1.A x.2.length x.1.c ∧ SLO w x.1 x.2 := by
  obtain ⟨a, len, cap, rfl⟩ := okWide_slice Tryd.underlying55 hv
  obtain ⟨fuel, hf⟩ := h
  have hf : DataW.trod enc Tryd.prog w 0 (fun _ => true) held fuel 55 [.slice a len cap] = some (d, p) := hf
  obtain ⟨s, xs, e, ok⟩ := slo_of hf
  exact ⟨(s, xs), e, ok⟩
end Go.Proofs.YtkgdflecepockaaDoor
