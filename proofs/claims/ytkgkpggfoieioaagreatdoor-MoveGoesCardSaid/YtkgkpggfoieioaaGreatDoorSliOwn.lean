import Derived.Test.YtkgkpggfoieioaaGreatDoorMrgc
namespace Go.Proofs.YtkgkpggfoieioaaGreatDoor
set_option linter.unusedVariables false
open Go.RowKit
theorem sli_of_own {w : World} {base c : Nat} {A : Option Addr} {xs : List Int} (h : w.ownsRow base 3 1 (.slice A xs.length c) xs.length (xs.map (.int .i64))) (hx : ∀ x ∈ xs, I64 x) : SLI w ⟨A, c⟩ xs := by
  refine ⟨RD.of_own h, ?_, ?_, ?_, hx⟩
  all_goals
    rcases h.2 with ⟨hv, h0⟩ | ⟨g, cap, cur, hv, hb, hh, h1, h2, _⟩
    · injection hv with e1 e2 e3
      subst e1; subst e3
      simp [h0, maxLen]
    · injection hv with e1 e2 e3
      subst e1; subst e3
      simp; try omega
end Go.Proofs.YtkgkpggfoieioaaGreatDoor
