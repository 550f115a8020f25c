/-
  DERIVED. GIVEN WITH THE SEED: THE CARDS: each row of YtkgdflecepockaaDoorRows.lean that lists a variable, with what it lists TIED to the program's text (the seventh form; the later family's looks); each row that meets fmt, with fmt's text TOLD by the authors' own Lean function (tested against real Go, not proved from fmt's source: count such statements apart). THE CARD IS WHAT COUNTS. Prove the row's statement (the work); the ties are given (YtkgdflecepockaaDoorTie.lean); close each card by the builder's one call (the guide's Derived/Test/ToyasCard.lean, 'card_holds'). Laid BY PROGRAM, IN A SANDBOX (cutbox-door.mjs). By AI agents, Wed Nov 11 2026. No macro, syntax, notation, axiom, sorry.
-/
import Derived.Test.YtkgdflecepockaaDoorRows
import GoSem.ClaimSeven
namespace Go.Proofs.YtkgdflecepockaaDoor
namespace Rows

/-- THE TIED CARD OF 'marchlaw3.TapePlays'. -/
def tapePlaysCard : Claim7 := { stood := { row := tapePlaysRow, standIns := [], harness := (true, "ce440128c603066c58bcdd2cca4983338a3d8ed90b4506ef7ca5a1bbb3cc40a8"), looks := true }, kinds := [], alts := [], laidByText := true, laidKinds := [.handle], laidTests := true, laidLooks := .later }
def TapePlaysCardSaid : Prop := Claim7.holds Tryd.pinned (.plain (OpenSpec.ofChange tapePlaysSpec)) tapePlaysCard

/-- THE TIED CARD OF 'marchlaw4.KindsNames'. -/
def kindsNamesCard : Claim7 := { stood := { row := kindsNamesRow, standIns := [], harness := (true, "ce440128c603066c58bcdd2cca4983338a3d8ed90b4506ef7ca5a1bbb3cc40a8"), looks := true }, kinds := [], alts := [], laidByText := true, laidKinds := [.data, .pinned], laidTests := true, laidLooks := .later }
def KindsNamesCardSaid : Prop := Claim7.holds Tryd.pinned (.plain (OpenSpec.ofChange kindsNamesSpec)) kindsNamesCard

/-- THE TIED CARD OF 'marchlaw3.LockWaits'. -/
def lockWaitsCard : Claim7 := { stood := { row := lockWaitsRow, standIns := [], harness := (true, "ce440128c603066c58bcdd2cca4983338a3d8ed90b4506ef7ca5a1bbb3cc40a8"), looks := true }, kinds := [], alts := [], laidByText := true, laidKinds := [.handle], laidTests := true, laidLooks := .later }
def LockWaitsCardSaid : Prop := Claim7.holds Tryd.pinned (.plain (OpenSpec.ofChange lockWaitsSpec)) lockWaitsCard

/-- THE SECOND FORM's CARD OF 'marchlaw3.TapePlays'. -/
def tapePlaysUptoCard : Claim7 := { stood := { row := tapePlaysUptoRow, standIns := [], harness := (true, "ce440128c603066c58bcdd2cca4983338a3d8ed90b4506ef7ca5a1bbb3cc40a8"), looks := true }, kinds := [], alts := [], laidByText := true, laidKinds := [.handle], laidTests := true, laidLooks := .later }
def TapePlaysUptoCardSaid : Prop := Claim7.holds Tryd.pinned (.plain (OpenSpec.upto tapePlaysSpec)) tapePlaysUptoCard

/-- THE SECOND FORM's CARD OF 'marchlaw4.KindsNames'. -/
def kindsNamesUptoCard : Claim7 := { stood := { row := kindsNamesUptoRow, standIns := [], harness := (true, "ce440128c603066c58bcdd2cca4983338a3d8ed90b4506ef7ca5a1bbb3cc40a8"), looks := true }, kinds := [], alts := [], laidByText := true, laidKinds := [.data, .pinned], laidTests := true, laidLooks := .later }
def KindsNamesUptoCardSaid : Prop := Claim7.holds Tryd.pinned (.plain (OpenSpec.upto kindsNamesSpec)) kindsNamesUptoCard

/-- THE SECOND FORM's CARD OF 'marchlaw3.LockWaits'. -/
def lockWaitsUptoCard : Claim7 := { stood := { row := lockWaitsUptoRow, standIns := [], harness := (true, "ce440128c603066c58bcdd2cca4983338a3d8ed90b4506ef7ca5a1bbb3cc40a8"), looks := true }, kinds := [], alts := [], laidByText := true, laidKinds := [.handle], laidTests := true, laidLooks := .later }
def LockWaitsUptoCardSaid : Prop := Claim7.holds Tryd.pinned (.plain (OpenSpec.upto lockWaitsSpec)) lockWaitsUptoCard
end Rows
end Go.Proofs.YtkgdflecepockaaDoor
