import Derived.Test.YtkgkpggfoieioaaGreatDoorLaid
import Derived.Lib.LaidIn
import Derived.Lib.LaidU8
import Derived.LaidSub
namespace Go.Proofs.YtkgkpggfoieioaaGreatDoor
set_option linter.unusedVariables false
open Go.ChangeShapes Go.WideShapes Go.RowKit
/-! The listed variables of the statements that reach strings.Trim: two tables of package utf8, and the error's type. -/
noncomputable def gFirst : Nat := (Tryz.prog.globalNamed "unicode/utf8.first").getD 0
noncomputable def gAccept : Nat := (Tryz.prog.globalNamed "unicode/utf8.acceptRanges").getD 0
noncomputable def laidWorld2 (os : Os) : World :=
  let w0 := laidWorld os
  let put (h : Array Obj) (g : Nat) (cs : Array Value) : Array Obj := h.modify g fun
    | .cells _ t frozen => .cells cs t frozen
    | o => o
  { w0 with heap := put (put w0.heap gFirst (Lib.firstTab.map fun z => Value.int .u8 z).toArray) gAccept ((List.range 16).flatMap fun i => [Value.int .u8 (Lib.accLo i), Value.int .u8 (Lib.accHi i)]).toArray }
set_option maxRecDepth 1000000 in
theorem tabs_in (os : Os) (args : Array Value) : LaidIn Tryz.prog ((laidWorld2 os).forCall (fun _ _ => 0) ⟨#[], args, []⟩).memory [("unicode/utf8.acceptRanges", Rows.laid_unicode_utf8_acceptRanges), ("unicode/utf8.first", Rows.laid_unicode_utf8_first)] [gAccept, gFirst] :=
  LaidIn.of_run [gAccept, gFirst] 8 (by kernel_rfl) (by kernel_rfl) (by kernel_rfl) (by kernel_rfl)
theorem laidWorld2_met (os : Os) (args : Array Value) : laidMetH Tryz.prog [("unicode/utf8.acceptRanges", Rows.laid_unicode_utf8_acceptRanges), ("unicode/utf8.first", Rows.laid_unicode_utf8_first)] ((laidWorld2 os).forCall (fun _ _ => 0) ⟨#[], args, []⟩).memory :=
  laidMetH_of_parts (tabs_in os args).met (by kernel_rfl)
theorem laidWorld2_metE (os : Os) (args : Array Value) : laidMetH Tryz.prog [("unicode/utf8.acceptRanges", Rows.laid_unicode_utf8_acceptRanges), ("errors.errorType", Rows.laid_errors_errorType), ("unicode/utf8.first", Rows.laid_unicode_utf8_first)] ((laidWorld2 os).forCall (fun _ _ => 0) ⟨#[], args, []⟩).memory :=
  laidMetH_of_parts (tabs_in os args).met (by kernel_rfl)
theorem hv_of_laid2 {W : World} (h : laidMetH Tryz.prog [("unicode/utf8.acceptRanges", Rows.laid_unicode_utf8_acceptRanges), ("errors.errorType", Rows.laid_errors_errorType), ("unicode/utf8.first", Rows.laid_unicode_utf8_first)] W) : HV W :=
  hv_of_laid (h.filter fun x => x.1 == "errors.errorType")
end Go.Proofs.YtkgkpggfoieioaaGreatDoor
