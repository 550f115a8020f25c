import Derived.Test.YtkkdegcbikjebaaDoorPathFinds1
import Derived.Test.YtkkdegcbikjebaaDoorPathFinds2
import Derived.Test.YtkkdegcbikjebaaDoorPathFinds3
import Derived.Test.YtkkdegcbikjebaaDoorPathFinds4
namespace Go.Proofs.YtkkdegcbikjebaaDoor
set_option linter.unusedVariables false
open Go.RowKit
theorem pathFinds_walk (v0 : Value) (x0 : SF × GF) (a1 a2 a3 : Int) (b4 : Bool) (w : World) (hv : HV w) (w0 : v0 = .agg (fV x0.1 x0.2).toArray ∧ FOk w x0.1 x0.2) (w1 : (Lit.int .i64 a1).wf = true) (w2 : (Lit.int .i64 a2).wf = true) (w3 : (Lit.int .i64 a3).wf = true) :
    Calls Tryd.prog 6 #[v0, .int .i64 a1, .int .i64 a2, .int .i64 a3, .bool b4] w fun e w' => e = .returned (.bool true) ∧ Below w.heap.size w w' := by
  obtain ⟨s, f⟩ := x0
  obtain ⟨rfl, h⟩ := w0
  have hn : ∀ x, cellE f x = 0 → ∃ t : Nat, x = (t : Int) := fun x hx => ⟨x.toNat, by have := (cellE_in f x hx).2.1; omega⟩
  by_cases hT : cellE f a2 = 0
  · obtain ⟨b, rfl⟩ := hn a2 hT
    by_cases hF : cellE f a1 = 0
    · obtain ⟨a, rfl⟩ := hn a1 hF
      cases hm : numB a3 with
      | true => exact pathFinds_6 s f a b a3 b4 w hv h hT hF hm
      | false => exact pathFinds_5 s f a b a3 b4 w hv h hT hF hm
    · exact pathFinds_4 s f a1 b a3 b4 w hv h hT hF
  · by_cases hF : cellE f a1 = 0
    · obtain ⟨a, rfl⟩ := hn a1 hF
      cases hm : numB a3 with
      | true => exact pathFinds_3 s f a a2 a3 b4 w hv h hT hF hm
      | false => exact pathFinds_2 s f a a2 a3 b4 w hv h hT hF hm
    · exact pathFinds_1 s f a1 a2 a3 b4 w hv h hT hF
end Go.Proofs.YtkkdegcbikjebaaDoor
