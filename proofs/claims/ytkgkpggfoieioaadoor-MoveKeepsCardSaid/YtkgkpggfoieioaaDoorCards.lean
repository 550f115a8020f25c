/-
  DERIVED. GIVEN WITH THE SEED: THE CARDS: each row of YtkgkpggfoieioaaDoorRows.lean that lists a variable, with what it lists TIED to the program's text (the seventh form; the later family's looks); each row that meets fmt, with fmt's text TOLD by the authors' own Lean function (tested against real Go, not proved from fmt's source: count such statements apart). THE CARD IS WHAT COUNTS. Prove the row's statement (the work); the ties are given (YtkgkpggfoieioaaDoorTie.lean); close each card by the builder's one call (the guide's Derived/Test/ToyasCard.lean, 'card_holds'). Laid BY PROGRAM, IN A SANDBOX (cutbox-door.mjs). By AI agents, Wed Nov 11 2026. No macro, syntax, notation, axiom, sorry.
-/
import Derived.Test.YtkgkpggfoieioaaDoorRows
import GoSem.ClaimSeven
namespace Go.Proofs.YtkgkpggfoieioaaDoor
namespace Rows

/-- THE TIED CARD OF 'marchlaw4.KindsNames'. -/
def kindsNamesCard : Claim7 := { stood := { row := kindsNamesRow, standIns := [], harness := (true, "1b1df52d781b421ba377cec6d525f3018d53c158718d5cbd735ad6a0b5c7741b"), looks := true }, kinds := [], alts := [], laidByText := true, laidKinds := [.data, .pinned], laidTests := true, laidLooks := .later }
def KindsNamesCardSaid : Prop := Claim7.holds Tryd.pinned (.plain (OpenSpec.ofChange kindsNamesSpec)) kindsNamesCard

/-- THE TIED CARD OF 'marchlaw1.OrdersCount'. -/
def ordersCountCard : Claim7 := { stood := { row := ordersCountRow, standIns := [], harness := (true, "1b1df52d781b421ba377cec6d525f3018d53c158718d5cbd735ad6a0b5c7741b"), looks := true }, kinds := [], alts := [], laidByText := true, laidKinds := [.data, .data, .data, .handle], laidTests := true, laidLooks := .later }
def OrdersCountCardSaid : Prop := Claim7.holds Tryd.pinned (.plain (OpenSpec.ofChange ordersCountSpec)) ordersCountCard

/-- THE TIED CARD OF 'marchlaw4.WorldPuts'. -/
def worldPutsCard : Claim7 := { stood := { row := worldPutsRow, standIns := [], harness := (true, "1b1df52d781b421ba377cec6d525f3018d53c158718d5cbd735ad6a0b5c7741b"), looks := true }, kinds := [], alts := [], laidByText := true, laidKinds := [.data, .pinned], laidTests := true, laidLooks := .later }
def WorldPutsCardSaid : Prop := Claim7.holds Tryd.pinned (.plain (OpenSpec.ofChange worldPutsSpec)) worldPutsCard

/-- THE TIED CARD OF 'marchlaw2.WorldChecks'. -/
def worldChecksCard : Claim7 := { stood := { row := worldChecksRow, standIns := [], harness := (true, "1b1df52d781b421ba377cec6d525f3018d53c158718d5cbd735ad6a0b5c7741b"), looks := true }, kinds := [], alts := [], laidByText := true, laidKinds := [.data, .handle, .pinned], laidTests := true, laidLooks := .later }
def WorldChecksCardSaid : Prop := Claim7.holds Tryd.pinned (.plain (OpenSpec.ofChange worldChecksSpec)) worldChecksCard

/-- THE TIED CARD OF 'marchlaw3.ScoreTells'. -/
def scoreTellsCard : Claim7 := { stood := { row := scoreTellsRow, standIns := [], harness := (true, "1b1df52d781b421ba377cec6d525f3018d53c158718d5cbd735ad6a0b5c7741b"), looks := true }, kinds := [], alts := [], laidByText := true, laidKinds := [.data, .handle, .pinned], laidTests := true, laidLooks := .later }
def ScoreTellsCardSaid : Prop := Claim7.holds Tryd.pinned (.plain (OpenSpec.ofChange scoreTellsSpec)) scoreTellsCard

/-- THE TIED CARD OF 'marchlaw4.WorksSpots'. -/
def worksSpotsCard : Claim7 := { stood := { row := worksSpotsRow, standIns := [], harness := (true, "1b1df52d781b421ba377cec6d525f3018d53c158718d5cbd735ad6a0b5c7741b"), looks := true }, kinds := [], alts := [], laidByText := true, laidKinds := [.data, .pinned], laidTests := true, laidLooks := .later }
def WorksSpotsCardSaid : Prop := Claim7.holds Tryd.pinned (.plain (OpenSpec.ofChange worksSpotsSpec)) worksSpotsCard

/-- THE TIED CARD OF 'marchlaw2.WorksWeigh'. -/
def worksWeighCard : Claim7 := { stood := { row := worksWeighRow, standIns := [], harness := (true, "1b1df52d781b421ba377cec6d525f3018d53c158718d5cbd735ad6a0b5c7741b"), looks := true }, kinds := [], alts := [], laidByText := true, laidKinds := [.data, .pinned], laidTests := true, laidLooks := .later }
def WorksWeighCardSaid : Prop := Claim7.holds Tryd.pinned (.plain (OpenSpec.ofChange worksWeighSpec)) worksWeighCard

/-- THE TIED CARD OF 'marchlaw2.MoveKeeps'. -/
def moveKeepsCard : Claim7 := { stood := { row := moveKeepsRow, standIns := [], harness := (true, "1b1df52d781b421ba377cec6d525f3018d53c158718d5cbd735ad6a0b5c7741b"), looks := true }, kinds := [], alts := [], laidByText := true, laidKinds := [.data, .pinned], laidTests := true, laidLooks := .later }
def MoveKeepsCardSaid : Prop := Claim7.holds Tryd.pinned (.plain (OpenSpec.ofChange moveKeepsSpec)) moveKeepsCard

/-- THE TIED CARD OF 'marchlaw4.MoveWishes'. -/
def moveWishesCard : Claim7 := { stood := { row := moveWishesRow, standIns := [], harness := (true, "1b1df52d781b421ba377cec6d525f3018d53c158718d5cbd735ad6a0b5c7741b"), looks := true }, kinds := [], alts := [], laidByText := true, laidKinds := [.data, .pinned], laidTests := true, laidLooks := .later }
def MoveWishesCardSaid : Prop := Claim7.holds Tryd.pinned (.plain (OpenSpec.ofChange moveWishesSpec)) moveWishesCard

/-- THE SECOND FORM's CARD OF 'marchlaw4.KindsNames'. -/
def kindsNamesUptoCard : Claim7 := { stood := { row := kindsNamesUptoRow, standIns := [], harness := (true, "1b1df52d781b421ba377cec6d525f3018d53c158718d5cbd735ad6a0b5c7741b"), looks := true }, kinds := [], alts := [], laidByText := true, laidKinds := [.data, .pinned], laidTests := true, laidLooks := .later }
def KindsNamesUptoCardSaid : Prop := Claim7.holds Tryd.pinned (.plain (OpenSpec.upto kindsNamesSpec)) kindsNamesUptoCard

/-- THE SECOND FORM's CARD OF 'marchlaw1.OrdersCount'. -/
def ordersCountUptoCard : Claim7 := { stood := { row := ordersCountUptoRow, standIns := [], harness := (true, "1b1df52d781b421ba377cec6d525f3018d53c158718d5cbd735ad6a0b5c7741b"), looks := true }, kinds := [], alts := [], laidByText := true, laidKinds := [.data, .data, .data, .handle], laidTests := true, laidLooks := .later }
def OrdersCountUptoCardSaid : Prop := Claim7.holds Tryd.pinned (.plain (OpenSpec.upto ordersCountSpec)) ordersCountUptoCard

/-- THE SECOND FORM's CARD OF 'marchlaw4.WorldPuts'. -/
def worldPutsUptoCard : Claim7 := { stood := { row := worldPutsUptoRow, standIns := [], harness := (true, "1b1df52d781b421ba377cec6d525f3018d53c158718d5cbd735ad6a0b5c7741b"), looks := true }, kinds := [], alts := [], laidByText := true, laidKinds := [.data, .pinned], laidTests := true, laidLooks := .later }
def WorldPutsUptoCardSaid : Prop := Claim7.holds Tryd.pinned (.plain (OpenSpec.upto worldPutsSpec)) worldPutsUptoCard

/-- THE SECOND FORM's CARD OF 'marchlaw2.WorldChecks'. -/
def worldChecksUptoCard : Claim7 := { stood := { row := worldChecksUptoRow, standIns := [], harness := (true, "1b1df52d781b421ba377cec6d525f3018d53c158718d5cbd735ad6a0b5c7741b"), looks := true }, kinds := [], alts := [], laidByText := true, laidKinds := [.data, .handle, .pinned], laidTests := true, laidLooks := .later }
def WorldChecksUptoCardSaid : Prop := Claim7.holds Tryd.pinned (.plain (OpenSpec.upto worldChecksSpec)) worldChecksUptoCard

/-- THE SECOND FORM's CARD OF 'marchlaw3.ScoreTells'. -/
def scoreTellsUptoCard : Claim7 := { stood := { row := scoreTellsUptoRow, standIns := [], harness := (true, "1b1df52d781b421ba377cec6d525f3018d53c158718d5cbd735ad6a0b5c7741b"), looks := true }, kinds := [], alts := [], laidByText := true, laidKinds := [.data, .handle, .pinned], laidTests := true, laidLooks := .later }
def ScoreTellsUptoCardSaid : Prop := Claim7.holds Tryd.pinned (.plain (OpenSpec.upto scoreTellsSpec)) scoreTellsUptoCard

/-- THE SECOND FORM's CARD OF 'marchlaw4.WorksSpots'. -/
def worksSpotsUptoCard : Claim7 := { stood := { row := worksSpotsUptoRow, standIns := [], harness := (true, "1b1df52d781b421ba377cec6d525f3018d53c158718d5cbd735ad6a0b5c7741b"), looks := true }, kinds := [], alts := [], laidByText := true, laidKinds := [.data, .pinned], laidTests := true, laidLooks := .later }
def WorksSpotsUptoCardSaid : Prop := Claim7.holds Tryd.pinned (.plain (OpenSpec.upto worksSpotsSpec)) worksSpotsUptoCard

/-- THE SECOND FORM's CARD OF 'marchlaw2.WorksWeigh'. -/
def worksWeighUptoCard : Claim7 := { stood := { row := worksWeighUptoRow, standIns := [], harness := (true, "1b1df52d781b421ba377cec6d525f3018d53c158718d5cbd735ad6a0b5c7741b"), looks := true }, kinds := [], alts := [], laidByText := true, laidKinds := [.data, .pinned], laidTests := true, laidLooks := .later }
def WorksWeighUptoCardSaid : Prop := Claim7.holds Tryd.pinned (.plain (OpenSpec.upto worksWeighSpec)) worksWeighUptoCard

/-- THE SECOND FORM's CARD OF 'marchlaw2.MoveKeeps'. -/
def moveKeepsUptoCard : Claim7 := { stood := { row := moveKeepsUptoRow, standIns := [], harness := (true, "1b1df52d781b421ba377cec6d525f3018d53c158718d5cbd735ad6a0b5c7741b"), looks := true }, kinds := [], alts := [], laidByText := true, laidKinds := [.data, .pinned], laidTests := true, laidLooks := .later }
def MoveKeepsUptoCardSaid : Prop := Claim7.holds Tryd.pinned (.plain (OpenSpec.upto moveKeepsSpec)) moveKeepsUptoCard

/-- THE SECOND FORM's CARD OF 'marchlaw4.MoveWishes'. -/
def moveWishesUptoCard : Claim7 := { stood := { row := moveWishesUptoRow, standIns := [], harness := (true, "1b1df52d781b421ba377cec6d525f3018d53c158718d5cbd735ad6a0b5c7741b"), looks := true }, kinds := [], alts := [], laidByText := true, laidKinds := [.data, .pinned], laidTests := true, laidLooks := .later }
def MoveWishesUptoCardSaid : Prop := Claim7.holds Tryd.pinned (.plain (OpenSpec.upto moveWishesSpec)) moveWishesUptoCard
end Rows
end Go.Proofs.YtkgkpggfoieioaaDoor
