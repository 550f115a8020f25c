import Derived.Test.YtkgdflecepockaaDoorTapePlaysW
namespace Go.Proofs.YtkgdflecepockaaDoor
set_option linter.unusedVariables false
open Go.RowKit
theorem tapePlays_in (v : Value) (x : SV × List (SV × List Int)) (a : Option Addr) (len cap : Nat) (z : List Int) (w : World) (hv : HV w) (h0 : v = x.1.v ∧ RIOk w x.1 x.2) (h1 : IsRow .u8 w a len cap z) (hb : len ≤ 1048576) :
    Calls Tryd.prog 3 #[v, .slice a len cap] w fun e w' => e = .returned (.bool true) ∧ Below w.heap.size w w' := by
  obtain ⟨⟨sA, sn, sc⟩, rows⟩ := x
  obtain ⟨rfl, h0⟩ := h0
  have hnil : a = none → cap = 0 := fun e => by
    rcases h1 with ⟨_, _, h, _⟩ | ⟨y, h, _⟩
    · exact h
    · rw [e] at h; cases h
  obtain ⟨ys, hl, hr, hw, _, hc⟩ := isRow_rd h1
  subst hl
  exact plays_in sA sn sc rows a cap ys w h0 hv hr (fun x hx => by have := bounds_u8 (hw x hx); unfold Byte; omega) hnil hc hb
end Go.Proofs.YtkgdflecepockaaDoor
