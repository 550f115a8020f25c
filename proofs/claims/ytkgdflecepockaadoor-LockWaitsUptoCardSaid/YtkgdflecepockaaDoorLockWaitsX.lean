import Derived.Test.YtkgdflecepockaaDoorLockWaitsW
namespace Go.Proofs.YtkgdflecepockaaDoor
set_option linter.unusedVariables false
open Go.RowKit
theorem lockWaits_in (pl de : Int) (v : Value) (x : SV × List (SV × List Int)) (u : Value) (y : SL × List Od) (w : World) (hv : HV w) (h0 : (Lit.int .i64 pl).wf = true) (h1 : (Lit.int .i64 de).wf = true) (h2 : v = x.1.v ∧ RIOk w x.1 x.2) (h3 : u = .slice y.1.A y.2.length y.1.c ∧ SLO w y.1 y.2) (hb : y.2.length ≤ 1048576) :
    Calls Tryd.prog 5 #[.int .i64 pl, .int .i64 de, v, u] w fun e w' => e = .returned (.bool true) ∧ Below w.heap.size w w' := by
  obtain ⟨⟨sA, sn, sc⟩, rows⟩ := x
  obtain ⟨⟨oA, oc⟩, L⟩ := y
  obtain ⟨rfl, h2⟩ := h2
  obtain ⟨rfl, hr, hnil, _⟩ := h3
  exact waits_in pl de sA sn sc rows oA oc L w hv (i6_wf h0) (i6_wf h1) h2 hr hnil hb
end Go.Proofs.YtkgdflecepockaaDoor
