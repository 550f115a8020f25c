import Derived.Test.YtkgkpggfoieioaaDoorMrgc
import Derived.BigQuiet
import Derived.Deep.QuietTactic
import Derived.StillTailTactics
namespace Go.Proofs.YtkgkpggfoieioaaDoor
set_option linter.unusedVariables false
open Go.RowKit
/-! The kinds of the facts. -/
def sortsL : List GK := [⟨⟨#[98, 97, 115, 101]⟩, 50, 0, 0, 4, 0, 50, 5, 0, false, true⟩, ⟨⟨#[100, 105, 103, 103, 101, 114]⟩, 10, 0, 0, 3, 2, 10, 2, 20, false, false⟩, ⟨⟨#[102, 105, 103, 104, 116, 101, 114]⟩, 20, 4, 1, 4, 2, 20, 3, 0, false, false⟩]
theorem clash_data (l : List GK) (i : Nat) : clashB l i = (l.take i).any fun x => x.name.data.toList == (gk l i).name.data.toList := by
  unfold clashB; simp only [Lib.toList_data]
theorem sorts_0 : kindsE sortsL = 0 := by
  have h0 : kindE sortsL 0 = 0 := by unfold kindE; rw [clash_data]; rfl
  have h1 : kindE sortsL 1 = 0 := by unfold kindE; rw [clash_data]; rfl
  have h2 : kindE sortsL 2 = 0 := by unfold kindE; rw [clash_data]; rfl
  have e : kindsE sortsL = kindsN sortsL 3 := by unfold kindsE; rw [if_neg (by decide)]; rfl
  rw [e]
  simp only [kindsN, h0, h1, h2, ne_eq, not_true_eq_false, if_false]
set_option maxHeartbeats 1600000 in
set_option maxRecDepth 100000 in
theorem sorts_any (w : World) :
    Calls Tryd.prog 13 #[] w fun e w' => e = .returned (.slice (some ⟨w.heap.size, 0, none⟩) 3 3) ∧ KS w' (w.heap.size + 1) ⟨some ⟨w.heap.size, 0, none⟩, 3⟩ sortsL ∧ Below w.heap.size w w' ∧ w.heap.size + 1 ≤ w'.heap.size := by
  go_enter Tryd.func13, Tryd.ntmps13
  go_wp2_with fail
  go_ret
  have hb := RD.new w 11 3 (sortsL.flatMap kC).toArray 31 (0, 0) rfl
  refine ⟨rfl, ⟨?_, (fun e => by cases e), Nat.le_refl _, (by show 3 ≤ 9223372036854775807; decide), ?_⟩, (Below.refl _ _).alloc (Nat.le_refl _) _, by simp⟩
  · exact hb
  · intro x hx
    simp only [sortsL, List.mem_cons, List.not_mem_nil, or_false] at hx
    rcases hx with rfl | rfl | rfl
    · show 4 ≤ 9223372036854775807; decide
    · show 6 ≤ 9223372036854775807; decide
    · show 7 ≤ 9223372036854775807; decide
end Go.Proofs.YtkgkpggfoieioaaDoor
