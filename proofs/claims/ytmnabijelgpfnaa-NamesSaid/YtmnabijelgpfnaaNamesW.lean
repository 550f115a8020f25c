import Derived.Test.YtmnabijelgpfnaaRows
import Derived.Handy
import Derived.WalkLawsBesides
import Derived.Outline
import Derived.Test.YtmnabijelgpfnaaWords
namespace Go.Proofs.Ytmnabijelgpfnaa
open Go.RowKit
set_option maxHeartbeats 1600000 in
set_option maxRecDepth 100000 in
theorem names_walk (w : World) : Calls Try.prog 7 #[] w fun e w' => e = .returned (.bool true) ∧ Below w.heap.size w w' := by
  go_enter Try.func7, Try.ntmps7
  go_wp2
  go_rounds 11
  go_ret
  refine ⟨rfl, (Below.refl _ _).alloc (Nat.le_refl _) _⟩
end Go.Proofs.Ytmnabijelgpfnaa
