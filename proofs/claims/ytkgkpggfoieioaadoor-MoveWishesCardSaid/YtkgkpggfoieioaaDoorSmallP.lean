import Derived.Test.YtkgkpggfoieioaaDoorNewW
import Derived.Test.YtkgkpggfoieioaaDoorPlainPl
import Derived.Test.YtkgkpggfoieioaaDoorSorts
namespace Go.Proofs.YtkgkpggfoieioaaDoor
set_option linter.unusedVariables false
/-! The small world of the facts: its field, its units, in plain data. -/
def fS : GF := ⟨4, 2, [0, 0, 0, 0, 0, 0, 0, 0], [0, 0, 0, 0, 0, 0, 30, 0]⟩
def xS1 : GW := newX fS 2 100
def xS2 : GW := addX sortsL xS1 0 0 0
def xS3 : GW := addX sortsL xS2 0 1 1
def xS4 : GW := addX sortsL xS3 1 2 3
theorem fS_ok : fieldE fS = 0 := by decide
theorem newS_0 : newE sortsL fS 2 100 = 0 := by
  unfold newE
  rw [if_neg (fun c => c sorts_0), if_neg (fun c => c fS_ok), if_neg (fun c => c (by decide))]
theorem okS1 : WorldOk sortsL xS1 := ⟨sorts_0, fS_ok, by decide, fun i hi => absurd hi (Nat.not_lt_zero _), by decide, fun i hi => absurd hi (Nat.not_lt_zero _)⟩
theorem putS1 : PutOk sortsL xS1 0 ((0 : Nat) : Int) ((0 : Nat) : Int) := ⟨okS1, by decide, by decide, by decide, by decide, by decide, by decide⟩
theorem putS2 : PutOk sortsL xS2 0 ((1 : Nat) : Int) ((1 : Nat) : Int) := ⟨put_ok putS1, by decide, by decide, by decide, by decide, by decide, by decide⟩
theorem putS3 : PutOk sortsL xS3 1 ((2 : Nat) : Int) ((3 : Nat) : Int) := ⟨put_ok putS2, by decide, by decide, by decide, by decide, by decide, by decide⟩
theorem okS4 : WorldOk sortsL xS4 := put_ok putS3
theorem xS4_len : xS4.units.length = 3 ∧ xS4.gold.length = 2 ∧ xS4.next = 4 := by decide
theorem xS4_ids : (gu xS4.units 0).id = 1 ∧ (gu xS4.units 1).id = 2 ∧ (gu xS4.units 2).id = 3 := by decide
end Go.Proofs.YtkgkpggfoieioaaDoor
