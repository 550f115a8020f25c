/-
  No cell of these rows narrows 'for every input' (looked for: loops, veiled, ifaces, maps, wideKeys, modest, calm, conditions, laid).
  DERIVED. THE GIVEN ROWS OF THIS SEAT. 5 by the template 'for every input the law returns true; each argument reads behind the call as it read before'; 0 by the template 'total and deterministic' (their statements: YtfpehepkilclpaaTotals.lean).
  GIVEN WITH THE SEED: the statements are not yours to turn. If you find one false, say at which input.
  Laid BY PROGRAM, IN A SANDBOX (cutbox-rows.mjs): the forced cells as the released guide's own fill.sh prints them over the translation c5b9e02f7e878951… (all of the seat's roots in one cut). By AI agents, Wed Nov 11 2026. No macro, syntax, notation, axiom, sorry.
-/
import Derived.Test.YtfpehepkilclpaaChecked
import GoSem.Claim
import GoSem.ClaimJoined
import GoSem.ClaimMapViews
import Derived.JoinedTies
import Derived.KernelRfl
namespace Go.Proofs.Ytfpehepkilclpaa
/- THE CELL 'sum', in the pinned program and in every row, IS THE sha256 OF THE DUMP (.gsa) THAT YtfpehepkilclpaaProg.lean LOADS. Nothing in Lean hashes anything: it is a label: what it is worth is what the hold of that sum in a sandbox is worth. -/
noncomputable def Try.pinned : Pinned := { name := "ytfpehepkilclpaa", sum := "c5b9e02f7e8789514bc3d685dd79efd22f69c645d6ff0bf16b050633168a2a10", checked := Try.checked }
namespace Rows
def none {H : Type} : Left H := { results := [], args := [] }

/-- 'marchlaw4.FieldBeside': WHATEVER THE INPUT: true; the input reads as it did. -/
def fieldBesideSpec : ChangeSpec := { name := "fieldBeside", fn := fun _ => fun
  | [d1, d2] => { results := [.lit (.bool true)], args := [d1, d2] }
  | _ => none }
def fieldBesideRow : OpenClaim := { program := "ytfpehepkilclpaa", sum := "c5b9e02f7e8789514bc3d685dd79efd22f69c645d6ff0bf16b050633168a2a10", func := "marchland/marchlaw4.FieldBeside", spec := "fieldBeside", unfollowed := true, recurses := true, apart := false }
def FieldBesideSaid : Prop := fieldBesideRow.holds Try.pinned (OpenSpec.ofChange fieldBesideSpec)

/-- ITS FALSE NEIGHBOUR: 'it returns false'. Refute it at one input. -/
def fieldBesideWrong : ChangeSpec := { name := "fieldBeside", fn := fun _ => fun
  | [d1, d2] => { results := [.lit (.bool false)], args := [d1, d2] }
  | _ => none }
def FieldBesideWrongFalsely : Prop := fieldBesideRow.holds Try.pinned (OpenSpec.ofChange fieldBesideWrong)

/-- 'marchlaw1.FieldBack': WHATEVER THE INPUT: true; the input reads as it did. -/
def fieldBackSpec : ChangeSpec := { name := "fieldBack", fn := fun _ => fun
  | [d1, d2] => { results := [.lit (.bool true)], args := [d1, d2] }
  | _ => none }
def fieldBackRow : OpenClaim := { program := "ytfpehepkilclpaa", sum := "c5b9e02f7e8789514bc3d685dd79efd22f69c645d6ff0bf16b050633168a2a10", func := "marchland/marchlaw1.FieldBack", spec := "fieldBack", inPlace := ["internal/bytealg.IndexByteString"], apart := false }
def FieldBackSaid : Prop := fieldBackRow.holds Try.pinned (OpenSpec.ofChange fieldBackSpec)

/-- ITS FALSE NEIGHBOUR: 'it returns false'. Refute it at one input. -/
def fieldBackWrong : ChangeSpec := { name := "fieldBack", fn := fun _ => fun
  | [d1, d2] => { results := [.lit (.bool false)], args := [d1, d2] }
  | _ => none }
def FieldBackWrongFalsely : Prop := fieldBackRow.holds Try.pinned (OpenSpec.ofChange fieldBackWrong)

/-- 'marchlaw1.PathShort': WHATEVER THE INPUT: true; the input reads as it did. -/
def pathShortSpec : ChangeSpec := { name := "pathShort", fn := fun _ => fun
  | [d1, d2, d3, d4] => { results := [.lit (.bool true)], args := [d1, d2, d3, d4] }
  | _ => none }
def pathShortRow : OpenClaim := { program := "ytfpehepkilclpaa", sum := "c5b9e02f7e8789514bc3d685dd79efd22f69c645d6ff0bf16b050633168a2a10", func := "marchland/marchlaw1.PathShort", spec := "pathShort", unfollowed := true, recurses := true, apart := false }
def PathShortSaid : Prop := pathShortRow.holds Try.pinned (OpenSpec.ofChange pathShortSpec)

/-- ITS FALSE NEIGHBOUR: 'it returns false'. Refute it at one input. -/
def pathShortWrong : ChangeSpec := { name := "pathShort", fn := fun _ => fun
  | [d1, d2, d3, d4] => { results := [.lit (.bool false)], args := [d1, d2, d3, d4] }
  | _ => none }
def PathShortWrongFalsely : Prop := pathShortRow.holds Try.pinned (OpenSpec.ofChange pathShortWrong)

/-- 'marchlaw4.PathWays': WHATEVER THE INPUT: true; the input reads as it did. -/
def pathWaysSpec : ChangeSpec := { name := "pathWays", fn := fun _ => fun
  | [d1, d2, d3, d4, d5] => { results := [.lit (.bool true)], args := [d1, d2, d3, d4, d5] }
  | _ => none }
def pathWaysRow : OpenClaim := { program := "ytfpehepkilclpaa", sum := "c5b9e02f7e8789514bc3d685dd79efd22f69c645d6ff0bf16b050633168a2a10", func := "marchland/marchlaw4.PathWays", spec := "pathWays", unfollowed := true, recurses := true, apart := false }
def PathWaysSaid : Prop := pathWaysRow.holds Try.pinned (OpenSpec.ofChange pathWaysSpec)

/-- ITS FALSE NEIGHBOUR: 'it returns false'. Refute it at one input. -/
def pathWaysWrong : ChangeSpec := { name := "pathWays", fn := fun _ => fun
  | [d1, d2, d3, d4, d5] => { results := [.lit (.bool false)], args := [d1, d2, d3, d4, d5] }
  | _ => none }
def PathWaysWrongFalsely : Prop := pathWaysRow.holds Try.pinned (OpenSpec.ofChange pathWaysWrong)

/-- 'marchlaw2.WorldBack': WHATEVER THE INPUT: true; the input reads as it did. -/
def worldBackSpec : ChangeSpec := { name := "worldBack", fn := fun _ => fun
  | [d1, d2] => { results := [.lit (.bool true)], args := [d1, d2] }
  | _ => none }
def worldBackRow : OpenClaim := { program := "ytfpehepkilclpaa", sum := "c5b9e02f7e8789514bc3d685dd79efd22f69c645d6ff0bf16b050633168a2a10", func := "marchland/marchlaw2.WorldBack", spec := "worldBack", unfollowed := true, recurses := true, apart := false }
def WorldBackSaid : Prop := worldBackRow.holds Try.pinned (OpenSpec.ofChange worldBackSpec)

/-- ITS FALSE NEIGHBOUR: 'it returns false'. Refute it at one input. -/
def worldBackWrong : ChangeSpec := { name := "worldBack", fn := fun _ => fun
  | [d1, d2] => { results := [.lit (.bool false)], args := [d1, d2] }
  | _ => none }
def WorldBackWrongFalsely : Prop := worldBackRow.holds Try.pinned (OpenSpec.ofChange worldBackWrong)

/- THE SECOND FORM. 'bulk': how many values and letters a reading holds, each counted each time it is reached (what is shared counts as often as it is met; a slice's spare places count too). A statement '..UptoSaid' is the law's where the arguments, and the package variables that the reading takes, are together of bulk at most 1048576: NARROWER than '..Said'. Prove '..Said' where nothing that the law and all that it calls make is longer than what came in: it says more and counts as full. Else prove '..UptoSaid'. A law counts once. -/
mutual
def uptoBulk {H : Type} : DataW H → Nat
  | .lit (.string bytes) => bytes.length + 1
  | .lit _ => 1
  | .nil => 1
  | .ptr d => uptoBulk d + 1
  | .slice elems spare => uptoBulkAll elems + uptoBulkAll spare + 1
  | .agg parts => uptoBulkAll parts + 1
  | .iface _ d => uptoBulk d + 1
  | .map entries => uptoBulkEntries entries + 1
  | .held _ => 1
def uptoBulkAll {H : Type} : List (DataW H) → Nat
  | [] => 0
  | d :: r => uptoBulk d + uptoBulkAll r
def uptoBulkEntries {H : Type} : List (Lit × DataW H) → Nat
  | [] => 0
  | x :: r => uptoBulkEntry x + uptoBulkEntries r
def uptoBulkEntry {H : Type} : Lit × DataW H → Nat
  | (.string bytes, d) => bytes.length + uptoBulk d + 1
  | (_, d) => uptoBulk d + 1
 end
def uptoSmall : (H : Type) → List (DataW H) → Bool := fun _ ds => decide (uptoBulkAll ds ≤ 1048576)
def OpenSpec.upto (s : _root_.Go.ChangeSpec) : _root_.Go.OpenSpec := { _root_.Go.OpenSpec.ofChange s with cond := some uptoSmall }

/-- 'marchlaw4.FieldBeside', WHERE WHAT IT READS IS OF BULK AT MOST 1048576: true; the input reads as it did. -/
def fieldBesideUptoRow : OpenClaim := { program := "ytfpehepkilclpaa", sum := "c5b9e02f7e8789514bc3d685dd79efd22f69c645d6ff0bf16b050633168a2a10", func := "marchland/marchlaw4.FieldBeside", spec := "fieldBeside", unfollowed := true, recurses := true, apart := false, narrowed := true }
def FieldBesideUptoSaid : Prop := fieldBesideUptoRow.holds Try.pinned (OpenSpec.upto fieldBesideSpec)

/-- 'marchlaw1.FieldBack', WHERE WHAT IT READS IS OF BULK AT MOST 1048576: true; the input reads as it did. -/
def fieldBackUptoRow : OpenClaim := { program := "ytfpehepkilclpaa", sum := "c5b9e02f7e8789514bc3d685dd79efd22f69c645d6ff0bf16b050633168a2a10", func := "marchland/marchlaw1.FieldBack", spec := "fieldBack", inPlace := ["internal/bytealg.IndexByteString"], apart := false, narrowed := true }
def FieldBackUptoSaid : Prop := fieldBackUptoRow.holds Try.pinned (OpenSpec.upto fieldBackSpec)

/-- 'marchlaw1.PathShort', WHERE WHAT IT READS IS OF BULK AT MOST 1048576: true; the input reads as it did. -/
def pathShortUptoRow : OpenClaim := { program := "ytfpehepkilclpaa", sum := "c5b9e02f7e8789514bc3d685dd79efd22f69c645d6ff0bf16b050633168a2a10", func := "marchland/marchlaw1.PathShort", spec := "pathShort", unfollowed := true, recurses := true, apart := false, narrowed := true }
def PathShortUptoSaid : Prop := pathShortUptoRow.holds Try.pinned (OpenSpec.upto pathShortSpec)

/-- 'marchlaw4.PathWays', WHERE WHAT IT READS IS OF BULK AT MOST 1048576: true; the input reads as it did. -/
def pathWaysUptoRow : OpenClaim := { program := "ytfpehepkilclpaa", sum := "c5b9e02f7e8789514bc3d685dd79efd22f69c645d6ff0bf16b050633168a2a10", func := "marchland/marchlaw4.PathWays", spec := "pathWays", unfollowed := true, recurses := true, apart := false, narrowed := true }
def PathWaysUptoSaid : Prop := pathWaysUptoRow.holds Try.pinned (OpenSpec.upto pathWaysSpec)

/-- 'marchlaw2.WorldBack', WHERE WHAT IT READS IS OF BULK AT MOST 1048576: true; the input reads as it did. -/
def worldBackUptoRow : OpenClaim := { program := "ytfpehepkilclpaa", sum := "c5b9e02f7e8789514bc3d685dd79efd22f69c645d6ff0bf16b050633168a2a10", func := "marchland/marchlaw2.WorldBack", spec := "worldBack", unfollowed := true, recurses := true, apart := false, narrowed := true }
def WorldBackUptoSaid : Prop := worldBackUptoRow.holds Try.pinned (OpenSpec.upto worldBackSpec)

end Rows
end Go.Proofs.Ytfpehepkilclpaa
