/-
  DERIVED. GIVEN WITH THE SEED: THE CARDS: each row of YtkngommlclcikaaDoorRows.lean that lists a variable, with what it lists TIED to the program's text (the seventh form; the later family's looks); each row that meets fmt, with fmt's text TOLD by the authors' own Lean function (tested against real Go, not proved from fmt's source: count such statements apart). THE CARD IS WHAT COUNTS. Prove the row's statement (the work); the ties are given (YtkngommlclcikaaDoorTie.lean); close each card by the builder's one call (the guide's Derived/Test/ToyasCard.lean, 'card_holds'). Laid BY PROGRAM, IN A SANDBOX (cutbox-door.mjs). By AI agents, Wed Nov 11 2026. No macro, syntax, notation, axiom, sorry.
-/
import Derived.Test.YtkngommlclcikaaDoorRows
import GoSem.ClaimSeven
namespace Go.Proofs.YtkngommlclcikaaDoor
namespace Rows

/-- THE TIED CARD OF 'marchlaw2.WorldDecodes'. -/
def worldDecodesCard : Claim7 := { stood := { row := worldDecodesRow, standIns := [], harness := (true, "5525ec15d4ec3e76c238b8e5c616a5fa02023cc5e73fe4716b5ad8b6e2175a1d"), looks := true }, kinds := [], alts := [], laidByText := true, laidKinds := [.handle], laidTests := true, laidLooks := .later }
def WorldDecodesCardSaid : Prop := Claim7.holds Tryd.pinned (.plain (OpenSpec.ofChange worldDecodesSpec)) worldDecodesCard

/-- THE TIED CARD OF 'marchlaw3.TapePlays'. -/
def tapePlaysCard : Claim7 := { stood := { row := tapePlaysRow, standIns := [], harness := (true, "5525ec15d4ec3e76c238b8e5c616a5fa02023cc5e73fe4716b5ad8b6e2175a1d"), looks := true }, kinds := [], alts := [], laidByText := true, laidKinds := [.handle], laidTests := true, laidLooks := .later }
def TapePlaysCardSaid : Prop := Claim7.holds Tryd.pinned (.plain (OpenSpec.ofChange tapePlaysSpec)) tapePlaysCard

/-- THE TIED CARD OF 'marchlaw4.KindsNames'. -/
def kindsNamesCard : Claim7 := { stood := { row := kindsNamesRow, standIns := [], harness := (true, "5525ec15d4ec3e76c238b8e5c616a5fa02023cc5e73fe4716b5ad8b6e2175a1d"), looks := true }, kinds := [], alts := [], laidByText := true, laidKinds := [.data, .pinned], laidTests := true, laidLooks := .later }
def KindsNamesCardSaid : Prop := Claim7.holds Tryd.pinned (.plain (OpenSpec.ofChange kindsNamesSpec)) kindsNamesCard

/-- THE TIED CARD OF 'marchlaw3.LockWaits'. -/
def lockWaitsCard : Claim7 := { stood := { row := lockWaitsRow, standIns := [], harness := (true, "5525ec15d4ec3e76c238b8e5c616a5fa02023cc5e73fe4716b5ad8b6e2175a1d"), looks := true }, kinds := [], alts := [], laidByText := true, laidKinds := [.handle], laidTests := true, laidLooks := .later }
def LockWaitsCardSaid : Prop := Claim7.holds Tryd.pinned (.plain (OpenSpec.ofChange lockWaitsSpec)) lockWaitsCard

/-- THE TIED CARD OF 'marchlaw4.WorldPuts'. -/
def worldPutsCard : Claim7 := { stood := { row := worldPutsRow, standIns := [], harness := (true, "5525ec15d4ec3e76c238b8e5c616a5fa02023cc5e73fe4716b5ad8b6e2175a1d"), looks := true }, kinds := [], alts := [], laidByText := true, laidKinds := [.data, .pinned], laidTests := true, laidLooks := .later }
def WorldPutsCardSaid : Prop := Claim7.holds Tryd.pinned (.plain (OpenSpec.ofChange worldPutsSpec)) worldPutsCard

/-- THE TIED CARD OF 'marchlaw2.WorldChecks'. -/
def worldChecksCard : Claim7 := { stood := { row := worldChecksRow, standIns := [], harness := (true, "5525ec15d4ec3e76c238b8e5c616a5fa02023cc5e73fe4716b5ad8b6e2175a1d"), looks := true }, kinds := [], alts := [], laidByText := true, laidKinds := [.data, .handle, .pinned], laidTests := true, laidLooks := .later }
def WorldChecksCardSaid : Prop := Claim7.holds Tryd.pinned (.plain (OpenSpec.ofChange worldChecksSpec)) worldChecksCard

/-- THE TIED CARD OF 'marchlaw3.ScoreTells'. -/
def scoreTellsCard : Claim7 := { stood := { row := scoreTellsRow, standIns := [], harness := (true, "5525ec15d4ec3e76c238b8e5c616a5fa02023cc5e73fe4716b5ad8b6e2175a1d"), looks := true }, kinds := [], alts := [], laidByText := true, laidKinds := [.data, .handle, .pinned], laidTests := true, laidLooks := .later }
def ScoreTellsCardSaid : Prop := Claim7.holds Tryd.pinned (.plain (OpenSpec.ofChange scoreTellsSpec)) scoreTellsCard

/-- THE TIED CARD OF 'marchlaw4.WorksSpots'. -/
def worksSpotsCard : Claim7 := { stood := { row := worksSpotsRow, standIns := [], harness := (true, "5525ec15d4ec3e76c238b8e5c616a5fa02023cc5e73fe4716b5ad8b6e2175a1d"), looks := true }, kinds := [], alts := [], laidByText := true, laidKinds := [.data, .pinned], laidTests := true, laidLooks := .later }
def WorksSpotsCardSaid : Prop := Claim7.holds Tryd.pinned (.plain (OpenSpec.ofChange worksSpotsSpec)) worksSpotsCard

/-- THE TIED CARD OF 'marchlaw1.OrdersCount'. -/
def ordersCountCard : Claim7 := { stood := { row := ordersCountRow, standIns := [], harness := (true, "5525ec15d4ec3e76c238b8e5c616a5fa02023cc5e73fe4716b5ad8b6e2175a1d"), looks := true }, kinds := [], alts := [], laidByText := true, laidKinds := [.data, .data, .data, .handle], laidTests := true, laidLooks := .later }
def OrdersCountCardSaid : Prop := Claim7.holds Tryd.pinned (.plain (OpenSpec.ofChange ordersCountSpec)) ordersCountCard

/-- THE SECOND FORM's CARD OF 'marchlaw2.WorldDecodes'. -/
def worldDecodesUptoCard : Claim7 := { stood := { row := worldDecodesUptoRow, standIns := [], harness := (true, "5525ec15d4ec3e76c238b8e5c616a5fa02023cc5e73fe4716b5ad8b6e2175a1d"), looks := true }, kinds := [], alts := [], laidByText := true, laidKinds := [.handle], laidTests := true, laidLooks := .later }
def WorldDecodesUptoCardSaid : Prop := Claim7.holds Tryd.pinned (.plain (OpenSpec.upto worldDecodesSpec)) worldDecodesUptoCard

/-- THE SECOND FORM's CARD OF 'marchlaw3.TapePlays'. -/
def tapePlaysUptoCard : Claim7 := { stood := { row := tapePlaysUptoRow, standIns := [], harness := (true, "5525ec15d4ec3e76c238b8e5c616a5fa02023cc5e73fe4716b5ad8b6e2175a1d"), looks := true }, kinds := [], alts := [], laidByText := true, laidKinds := [.handle], laidTests := true, laidLooks := .later }
def TapePlaysUptoCardSaid : Prop := Claim7.holds Tryd.pinned (.plain (OpenSpec.upto tapePlaysSpec)) tapePlaysUptoCard

/-- THE SECOND FORM's CARD OF 'marchlaw4.KindsNames'. -/
def kindsNamesUptoCard : Claim7 := { stood := { row := kindsNamesUptoRow, standIns := [], harness := (true, "5525ec15d4ec3e76c238b8e5c616a5fa02023cc5e73fe4716b5ad8b6e2175a1d"), looks := true }, kinds := [], alts := [], laidByText := true, laidKinds := [.data, .pinned], laidTests := true, laidLooks := .later }
def KindsNamesUptoCardSaid : Prop := Claim7.holds Tryd.pinned (.plain (OpenSpec.upto kindsNamesSpec)) kindsNamesUptoCard

/-- THE SECOND FORM's CARD OF 'marchlaw3.LockWaits'. -/
def lockWaitsUptoCard : Claim7 := { stood := { row := lockWaitsUptoRow, standIns := [], harness := (true, "5525ec15d4ec3e76c238b8e5c616a5fa02023cc5e73fe4716b5ad8b6e2175a1d"), looks := true }, kinds := [], alts := [], laidByText := true, laidKinds := [.handle], laidTests := true, laidLooks := .later }
def LockWaitsUptoCardSaid : Prop := Claim7.holds Tryd.pinned (.plain (OpenSpec.upto lockWaitsSpec)) lockWaitsUptoCard

/-- THE SECOND FORM's CARD OF 'marchlaw4.WorldPuts'. -/
def worldPutsUptoCard : Claim7 := { stood := { row := worldPutsUptoRow, standIns := [], harness := (true, "5525ec15d4ec3e76c238b8e5c616a5fa02023cc5e73fe4716b5ad8b6e2175a1d"), looks := true }, kinds := [], alts := [], laidByText := true, laidKinds := [.data, .pinned], laidTests := true, laidLooks := .later }
def WorldPutsUptoCardSaid : Prop := Claim7.holds Tryd.pinned (.plain (OpenSpec.upto worldPutsSpec)) worldPutsUptoCard

/-- THE SECOND FORM's CARD OF 'marchlaw2.WorldChecks'. -/
def worldChecksUptoCard : Claim7 := { stood := { row := worldChecksUptoRow, standIns := [], harness := (true, "5525ec15d4ec3e76c238b8e5c616a5fa02023cc5e73fe4716b5ad8b6e2175a1d"), looks := true }, kinds := [], alts := [], laidByText := true, laidKinds := [.data, .handle, .pinned], laidTests := true, laidLooks := .later }
def WorldChecksUptoCardSaid : Prop := Claim7.holds Tryd.pinned (.plain (OpenSpec.upto worldChecksSpec)) worldChecksUptoCard

/-- THE SECOND FORM's CARD OF 'marchlaw3.ScoreTells'. -/
def scoreTellsUptoCard : Claim7 := { stood := { row := scoreTellsUptoRow, standIns := [], harness := (true, "5525ec15d4ec3e76c238b8e5c616a5fa02023cc5e73fe4716b5ad8b6e2175a1d"), looks := true }, kinds := [], alts := [], laidByText := true, laidKinds := [.data, .handle, .pinned], laidTests := true, laidLooks := .later }
def ScoreTellsUptoCardSaid : Prop := Claim7.holds Tryd.pinned (.plain (OpenSpec.upto scoreTellsSpec)) scoreTellsUptoCard

/-- THE SECOND FORM's CARD OF 'marchlaw4.WorksSpots'. -/
def worksSpotsUptoCard : Claim7 := { stood := { row := worksSpotsUptoRow, standIns := [], harness := (true, "5525ec15d4ec3e76c238b8e5c616a5fa02023cc5e73fe4716b5ad8b6e2175a1d"), looks := true }, kinds := [], alts := [], laidByText := true, laidKinds := [.data, .pinned], laidTests := true, laidLooks := .later }
def WorksSpotsUptoCardSaid : Prop := Claim7.holds Tryd.pinned (.plain (OpenSpec.upto worksSpotsSpec)) worksSpotsUptoCard

/-- THE SECOND FORM's CARD OF 'marchlaw1.OrdersCount'. -/
def ordersCountUptoCard : Claim7 := { stood := { row := ordersCountUptoRow, standIns := [], harness := (true, "5525ec15d4ec3e76c238b8e5c616a5fa02023cc5e73fe4716b5ad8b6e2175a1d"), looks := true }, kinds := [], alts := [], laidByText := true, laidKinds := [.data, .data, .data, .handle], laidTests := true, laidLooks := .later }
def OrdersCountUptoCardSaid : Prop := Claim7.holds Tryd.pinned (.plain (OpenSpec.upto ordersCountSpec)) ordersCountUptoCard
end Rows
end Go.Proofs.YtkngommlclcikaaDoor
