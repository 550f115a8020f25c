import Derived.Test.YtkgkpggfoieioaaDoorSmallP
import Derived.Test.YtkgkpggfoieioaaDoorParse
namespace Go.Proofs.YtkgkpggfoieioaaDoor
set_option linter.unusedVariables false
open Go.RowKit
/-! The small world's field, read. -/
def tS : ByteArray := ⟨#[46, 46, 46, 46, 10, 46, 46, 51, 46, 10]⟩
theorem parseS : parseL (bsOf tS) = (fS, 0, 0) := by rfl
theorem parseS_any (w : World) : Calls Tryd.prog 72 #[.string tS] w fun e w' => ∃ s' : SF, e = .returned (.tuple #[fA s' fS, .int .i64 0, .nilIface]) ∧ FOk w' s' fS ∧ Below w.heap.size w w' := by
  refine (parse_any tS w (by decide)).mono ?_
  rw [parseS]
  rintro e w' ⟨s', rfl, h1, h2, _, _⟩
  exact ⟨s', rfl, h1, h2⟩
end Go.Proofs.YtkgkpggfoieioaaDoor
