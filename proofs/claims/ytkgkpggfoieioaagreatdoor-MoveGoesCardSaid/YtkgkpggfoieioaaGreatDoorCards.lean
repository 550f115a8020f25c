/-
  DERIVED. GIVEN WITH THE SEED: THE CARDS: each row of YtkgkpggfoieioaaGreatDoorRows.lean that lists a variable, with what it lists TIED to the program's text (the seventh form; the later family's looks); each row that meets fmt, with fmt's text TOLD by the authors' own Lean function (tested against real Go, not proved from fmt's source: count such statements apart). THE CARD IS WHAT COUNTS. Prove the row's statement (the work); the ties are given (YtkgkpggfoieioaaGreatDoorTie.lean); close each card by the builder's one call (the guide's Derived/Test/ToyasCard.lean, 'card_holds'). Laid BY PROGRAM, IN A SANDBOX (cutbox-door.mjs). By AI agents, Wed Nov 11 2026. No macro, syntax, notation, axiom, sorry.
-/
import Derived.Test.YtkgkpggfoieioaaGreatDoorRows
import GoSem.ClaimSeven
namespace Go.Proofs.YtkgkpggfoieioaaGreatDoor
namespace Rows

/-- THE TIED CARD OF 'marchlaw2.WorldBegins'. -/
def worldBeginsCard : Claim7 := { stood := { row := worldBeginsRow, standIns := [], harness := (true, "bc5a9ee62cf8d0f51f5eb92075ca7d5c6fb8eea1ac045c6aecfb590f07cd6707"), looks := true }, kinds := [], alts := [], laidByText := true, laidKinds := [.data, .handle, .pinned], laidTests := true, laidLooks := .later }
def WorldBeginsCardSaid : Prop := Claim7.holds Tryz.pinned (.plain (OpenSpec.ofChange worldBeginsSpec)) worldBeginsCard

/-- THE TIED CARD OF 'marchlaw2.MoveGoes'. -/
def moveGoesCard : Claim7 := { stood := { row := moveGoesRow, standIns := [], harness := (true, "bc5a9ee62cf8d0f51f5eb92075ca7d5c6fb8eea1ac045c6aecfb590f07cd6707"), looks := true }, kinds := [], alts := [], laidByText := true, laidKinds := [.data, .handle, .pinned], laidTests := true, laidLooks := .later }
def MoveGoesCardSaid : Prop := Claim7.holds Tryz.pinned (.plain (OpenSpec.ofChange moveGoesSpec)) moveGoesCard

/-- THE TIED CARD OF 'marchlaw2.WorksDo'. -/
def worksDoCard : Claim7 := { stood := { row := worksDoRow, standIns := [], harness := (true, "bc5a9ee62cf8d0f51f5eb92075ca7d5c6fb8eea1ac045c6aecfb590f07cd6707"), looks := true }, kinds := [], alts := [], laidByText := true, laidKinds := [.data, .handle, .pinned], laidTests := true, laidLooks := .later }
def WorksDoCardSaid : Prop := Claim7.holds Tryz.pinned (.plain (OpenSpec.ofChange worksDoSpec)) worksDoCard

/-- THE SECOND FORM's CARD OF 'marchlaw2.WorldBegins'. -/
def worldBeginsUptoCard : Claim7 := { stood := { row := worldBeginsUptoRow, standIns := [], harness := (true, "bc5a9ee62cf8d0f51f5eb92075ca7d5c6fb8eea1ac045c6aecfb590f07cd6707"), looks := true }, kinds := [], alts := [], laidByText := true, laidKinds := [.data, .handle, .pinned], laidTests := true, laidLooks := .later }
def WorldBeginsUptoCardSaid : Prop := Claim7.holds Tryz.pinned (.plain (OpenSpec.upto worldBeginsSpec)) worldBeginsUptoCard

/-- THE SECOND FORM's CARD OF 'marchlaw2.MoveGoes'. -/
def moveGoesUptoCard : Claim7 := { stood := { row := moveGoesUptoRow, standIns := [], harness := (true, "bc5a9ee62cf8d0f51f5eb92075ca7d5c6fb8eea1ac045c6aecfb590f07cd6707"), looks := true }, kinds := [], alts := [], laidByText := true, laidKinds := [.data, .handle, .pinned], laidTests := true, laidLooks := .later }
def MoveGoesUptoCardSaid : Prop := Claim7.holds Tryz.pinned (.plain (OpenSpec.upto moveGoesSpec)) moveGoesUptoCard

/-- THE SECOND FORM's CARD OF 'marchlaw2.WorksDo'. -/
def worksDoUptoCard : Claim7 := { stood := { row := worksDoUptoRow, standIns := [], harness := (true, "bc5a9ee62cf8d0f51f5eb92075ca7d5c6fb8eea1ac045c6aecfb590f07cd6707"), looks := true }, kinds := [], alts := [], laidByText := true, laidKinds := [.data, .handle, .pinned], laidTests := true, laidLooks := .later }
def WorksDoUptoCardSaid : Prop := Claim7.holds Tryz.pinned (.plain (OpenSpec.upto worksDoSpec)) worksDoUptoCard
end Rows
end Go.Proofs.YtkgkpggfoieioaaGreatDoor
