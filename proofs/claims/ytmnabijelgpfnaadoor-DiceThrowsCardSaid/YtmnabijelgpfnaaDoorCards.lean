/-
  DERIVED. GIVEN WITH THE SEED: THE CARDS: each row of YtmnabijelgpfnaaDoorRows.lean that lists a variable, with what it lists TIED to the program's text (the seventh form; the later family's looks); each row that meets fmt, with fmt's text TOLD by the authors' own Lean function (tested against real Go, not proved from fmt's source: count such statements apart). THE CARD IS WHAT COUNTS. Prove the row's statement (the work); the ties are given (YtmnabijelgpfnaaDoorTie.lean); close each card by the builder's one call (the guide's Derived/Test/ToyasCard.lean, 'card_holds'). Laid BY PROGRAM, IN A SANDBOX (cutbox-door.mjs). By AI agents, Wed Nov 11 2026. No macro, syntax, notation, axiom, sorry.
-/
import Derived.Test.YtmnabijelgpfnaaDoorRows
import GoSem.ClaimSeven
namespace Go.Proofs.YtmnabijelgpfnaaDoor
namespace Rows

/-- THE TIED CARD OF 'marchlaw3.ScoreRates'. -/
def scoreRatesCard : Claim7 := { stood := { row := scoreRatesRow, standIns := [], harness := (true, "16c66655e7bb453ff154f004f38d07c2b985323847a5df936d61c85257167f07"), looks := true }, kinds := [], alts := [], laidByText := true, laidKinds := [.handle], laidTests := true, laidLooks := .later }
def ScoreRatesCardSaid : Prop := Claim7.holds Tryd.pinned (.plain (OpenSpec.ofChange scoreRatesSpec)) scoreRatesCard

/-- THE TIED CARD OF 'marchlaw1.DiceThrows'. -/
def diceThrowsCard : Claim7 := { stood := { row := diceThrowsRow, standIns := [], harness := (true, "16c66655e7bb453ff154f004f38d07c2b985323847a5df936d61c85257167f07"), looks := true }, kinds := [], alts := [], laidByText := true, laidKinds := [.handle], laidTests := true, laidLooks := .later }
def DiceThrowsCardSaid : Prop := Claim7.holds Tryd.pinned (.plain (OpenSpec.ofChange diceThrowsSpec)) diceThrowsCard

/-- THE TIED CARD OF 'marchlaw3.TapePlays'. -/
def tapePlaysCard : Claim7 := { stood := { row := tapePlaysRow, standIns := [], harness := (true, "16c66655e7bb453ff154f004f38d07c2b985323847a5df936d61c85257167f07"), looks := true }, kinds := [], alts := [], laidByText := true, laidKinds := [.handle], laidTests := true, laidLooks := .later }
def TapePlaysCardSaid : Prop := Claim7.holds Tryd.pinned (.plain (OpenSpec.ofChange tapePlaysSpec)) tapePlaysCard

/-- THE SECOND FORM's CARD OF 'marchlaw3.ScoreRates'. -/
def scoreRatesUptoCard : Claim7 := { stood := { row := scoreRatesUptoRow, standIns := [], harness := (true, "16c66655e7bb453ff154f004f38d07c2b985323847a5df936d61c85257167f07"), looks := true }, kinds := [], alts := [], laidByText := true, laidKinds := [.handle], laidTests := true, laidLooks := .later }
def ScoreRatesUptoCardSaid : Prop := Claim7.holds Tryd.pinned (.plain (OpenSpec.upto scoreRatesSpec)) scoreRatesUptoCard

/-- THE SECOND FORM's CARD OF 'marchlaw1.DiceThrows'. -/
def diceThrowsUptoCard : Claim7 := { stood := { row := diceThrowsUptoRow, standIns := [], harness := (true, "16c66655e7bb453ff154f004f38d07c2b985323847a5df936d61c85257167f07"), looks := true }, kinds := [], alts := [], laidByText := true, laidKinds := [.handle], laidTests := true, laidLooks := .later }
def DiceThrowsUptoCardSaid : Prop := Claim7.holds Tryd.pinned (.plain (OpenSpec.upto diceThrowsSpec)) diceThrowsUptoCard

/-- THE SECOND FORM's CARD OF 'marchlaw3.TapePlays'. -/
def tapePlaysUptoCard : Claim7 := { stood := { row := tapePlaysUptoRow, standIns := [], harness := (true, "16c66655e7bb453ff154f004f38d07c2b985323847a5df936d61c85257167f07"), looks := true }, kinds := [], alts := [], laidByText := true, laidKinds := [.handle], laidTests := true, laidLooks := .later }
def TapePlaysUptoCardSaid : Prop := Claim7.holds Tryd.pinned (.plain (OpenSpec.upto tapePlaysSpec)) tapePlaysUptoCard
end Rows
end Go.Proofs.YtmnabijelgpfnaaDoor
