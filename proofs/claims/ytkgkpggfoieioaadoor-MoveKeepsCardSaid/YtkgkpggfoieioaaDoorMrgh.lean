import Derived.Test.YtkgkpggfoieioaaDoorMrgg
import Derived.Test.YtkgkpggfoieioaaDoorParse
import Derived.BigQuiet
import Derived.Deep.QuietTactic
import Derived.StillTailTactics
namespace Go.Proofs.YtkgkpggfoieioaaDoor
set_option linter.unusedVariables false
open Go.RowKit
/-! The small world's field, read. -/
def tS : ByteArray := ⟨#[46, 46, 46, 46, 10, 46, 46, 51, 46, 10]⟩
theorem parseS : parseL (bsOf tS) = (fS, 0, 0) := by rfl
theorem parseS_any (w : World) : Calls Tryd.prog 72 #[.string tS] w fun e w' => ∃ s' : SF, e = .returned (.tuple #[fA s' fS, .int .i64 0, .nilIface]) ∧ FOk w' s' fS ∧ Below w.heap.size w w' := by
  refine (parse_any tS w (by decide)).mono ?_
  rw [parseS]
  rintro e w' ⟨s', rfl, h1, h2, _, _⟩
  exact ⟨s', rfl, h1, h2⟩
end Go.Proofs.YtkgkpggfoieioaaDoor
namespace Go.Proofs.YtkgkpggfoieioaaDoor
set_option linter.unusedVariables false
open Go.RowKit
/-! marchlaw2.kinds: the same kinds. -/
set_option maxHeartbeats 1600000 in
set_option maxRecDepth 100000 in
theorem kinds2_any (w : World) :
    Calls Tryd.prog 46 #[] w fun e w' => e = .returned (.slice (some ⟨w.heap.size, 0, none⟩) 3 3) ∧ KS w' (w.heap.size + 1) ⟨some ⟨w.heap.size, 0, none⟩, 3⟩ sortsL ∧ Below w.heap.size w w' ∧ w.heap.size + 1 ≤ w'.heap.size := by
  go_enter Tryd.func46, Tryd.ntmps46
  go_wp2_with fail
  go_ret
  have hb := RD.new w 11 3 (sortsL.flatMap kC).toArray 31 (0, 0) rfl
  refine ⟨rfl, ⟨?_, (fun e => by cases e), Nat.le_refl _, (by show 3 ≤ 9223372036854775807; decide), ?_⟩, (Below.refl _ _).alloc (Nat.le_refl _) _, by simp⟩
  · exact hb
  · intro x hx
    simp only [sortsL, List.mem_cons, List.not_mem_nil, or_false] at hx
    rcases hx with rfl | rfl | rfl
    · show 4 ≤ 9223372036854775807; decide
    · show 6 ≤ 9223372036854775807; decide
    · show 7 ≤ 9223372036854775807; decide
end Go.Proofs.YtkgkpggfoieioaaDoor
