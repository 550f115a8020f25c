/-
  No cell of these rows narrows 'for every input' (looked for: loops, veiled, ifaces, maps, wideKeys, modest, calm, conditions, laid).
  DERIVED. THE GIVEN ROWS OF THIS SEAT. 6 by the template 'for every input the law returns true; each argument reads behind the call as it read before'; 0 by the template 'total and deterministic' (their statements: YtkkdegcbikjebaaTotals.lean).
  GIVEN WITH THE SEED: the statements are not yours to turn. If you find one false, say at which input.
  Laid BY PROGRAM, IN A SANDBOX (cutbox-rows.mjs): the forced cells as the released guide's own fill.sh prints them over the translation 9df5f4322fbb291e… (all of the seat's roots in one cut). By AI agents, Wed Nov 11 2026. No macro, syntax, notation, axiom, sorry.
-/
import Derived.Test.YtkkdegcbikjebaaChecked
import GoSem.Claim
import GoSem.ClaimJoined
import GoSem.ClaimMapViews
import Derived.JoinedTies
import Derived.KernelRfl
namespace Go.Proofs.Ytkkdegcbikjebaa
/- THE CELL 'sum', in the pinned program and in every row, IS THE sha256 OF THE DUMP (.gsa) THAT YtkkdegcbikjebaaProg.lean LOADS. Nothing in Lean hashes anything: it is a label: what it is worth is what the hold of that sum in a sandbox is worth. -/
noncomputable def Try.pinned : Pinned := { name := "ytkkdegcbikjebaa", sum := "9df5f4322fbb291e93712eba6c157647030ac5fe7d10c8d387f70959625b7fb4", checked := Try.checked }
namespace Rows
def none {H : Type} : Left H := { results := [], args := [] }

/-- 'marchlaw1.FieldBack': WHATEVER THE INPUT: true; the input reads as it did. -/
def fieldBackSpec : ChangeSpec := { name := "fieldBack", fn := fun _ => fun
  | [d1, d2] => { results := [.lit (.bool true)], args := [d1, d2] }
  | _ => none }
def fieldBackRow : OpenClaim := { program := "ytkkdegcbikjebaa", sum := "9df5f4322fbb291e93712eba6c157647030ac5fe7d10c8d387f70959625b7fb4", func := "marchland/marchlaw1.FieldBack", spec := "fieldBack", inPlace := ["internal/bytealg.IndexByteString"], apart := false }
def FieldBackSaid : Prop := fieldBackRow.holds Try.pinned (OpenSpec.ofChange fieldBackSpec)

/-- ITS FALSE NEIGHBOUR: 'it returns false'. Refute it at one input. -/
def fieldBackWrong : ChangeSpec := { name := "fieldBack", fn := fun _ => fun
  | [d1, d2] => { results := [.lit (.bool false)], args := [d1, d2] }
  | _ => none }
def FieldBackWrongFalsely : Prop := fieldBackRow.holds Try.pinned (OpenSpec.ofChange fieldBackWrong)

/-- 'marchlaw1.PathShort': WHATEVER THE INPUT: true; the input reads as it did. -/
def pathShortSpec : ChangeSpec := { name := "pathShort", fn := fun _ => fun
  | [d1, d2, d3, d4] => { results := [.lit (.bool true)], args := [d1, d2, d3, d4] }
  | _ => none }
def pathShortRow : OpenClaim := { program := "ytkkdegcbikjebaa", sum := "9df5f4322fbb291e93712eba6c157647030ac5fe7d10c8d387f70959625b7fb4", func := "marchland/marchlaw1.PathShort", spec := "pathShort", unfollowed := true, recurses := true, apart := false }
def PathShortSaid : Prop := pathShortRow.holds Try.pinned (OpenSpec.ofChange pathShortSpec)

/-- ITS FALSE NEIGHBOUR: 'it returns false'. Refute it at one input. -/
def pathShortWrong : ChangeSpec := { name := "pathShort", fn := fun _ => fun
  | [d1, d2, d3, d4] => { results := [.lit (.bool false)], args := [d1, d2, d3, d4] }
  | _ => none }
def PathShortWrongFalsely : Prop := pathShortRow.holds Try.pinned (OpenSpec.ofChange pathShortWrong)

/-- 'marchlaw4.PathWays': WHATEVER THE INPUT: true; the input reads as it did. -/
def pathWaysSpec : ChangeSpec := { name := "pathWays", fn := fun _ => fun
  | [d1, d2, d3, d4, d5] => { results := [.lit (.bool true)], args := [d1, d2, d3, d4, d5] }
  | _ => none }
def pathWaysRow : OpenClaim := { program := "ytkkdegcbikjebaa", sum := "9df5f4322fbb291e93712eba6c157647030ac5fe7d10c8d387f70959625b7fb4", func := "marchland/marchlaw4.PathWays", spec := "pathWays", unfollowed := true, recurses := true, apart := false }
def PathWaysSaid : Prop := pathWaysRow.holds Try.pinned (OpenSpec.ofChange pathWaysSpec)

/-- ITS FALSE NEIGHBOUR: 'it returns false'. Refute it at one input. -/
def pathWaysWrong : ChangeSpec := { name := "pathWays", fn := fun _ => fun
  | [d1, d2, d3, d4, d5] => { results := [.lit (.bool false)], args := [d1, d2, d3, d4, d5] }
  | _ => none }
def PathWaysWrongFalsely : Prop := pathWaysRow.holds Try.pinned (OpenSpec.ofChange pathWaysWrong)

/-- 'marchlaw3.FeedBack': WHATEVER THE INPUT: true; the input reads as it did. -/
def feedBackSpec : ChangeSpec := { name := "feedBack", fn := fun _ => fun
  | [d1, d2, d3] => { results := [.lit (.bool true)], args := [d1, d2, d3] }
  | _ => none }
def feedBackRow : OpenClaim := { program := "ytkkdegcbikjebaa", sum := "9df5f4322fbb291e93712eba6c157647030ac5fe7d10c8d387f70959625b7fb4", func := "marchland/marchlaw3.FeedBack", spec := "feedBack", unfollowed := true, recurses := true, apart := false }
def FeedBackSaid : Prop := feedBackRow.holds Try.pinned (OpenSpec.ofChange feedBackSpec)

/-- ITS FALSE NEIGHBOUR: 'it returns false'. Refute it at one input. -/
def feedBackWrong : ChangeSpec := { name := "feedBack", fn := fun _ => fun
  | [d1, d2, d3] => { results := [.lit (.bool false)], args := [d1, d2, d3] }
  | _ => none }
def FeedBackWrongFalsely : Prop := feedBackRow.holds Try.pinned (OpenSpec.ofChange feedBackWrong)

/-- 'marchlaw2.WorldBack': WHATEVER THE INPUT: true; the input reads as it did. -/
def worldBackSpec : ChangeSpec := { name := "worldBack", fn := fun _ => fun
  | [d1, d2] => { results := [.lit (.bool true)], args := [d1, d2] }
  | _ => none }
def worldBackRow : OpenClaim := { program := "ytkkdegcbikjebaa", sum := "9df5f4322fbb291e93712eba6c157647030ac5fe7d10c8d387f70959625b7fb4", func := "marchland/marchlaw2.WorldBack", spec := "worldBack", unfollowed := true, recurses := true, apart := false }
def WorldBackSaid : Prop := worldBackRow.holds Try.pinned (OpenSpec.ofChange worldBackSpec)

/-- ITS FALSE NEIGHBOUR: 'it returns false'. Refute it at one input. -/
def worldBackWrong : ChangeSpec := { name := "worldBack", fn := fun _ => fun
  | [d1, d2] => { results := [.lit (.bool false)], args := [d1, d2] }
  | _ => none }
def WorldBackWrongFalsely : Prop := worldBackRow.holds Try.pinned (OpenSpec.ofChange worldBackWrong)

/-- 'marchlaw4.OrdersLast': WHATEVER THE INPUT: true; the input reads as it did. -/
def ordersLastSpec : ChangeSpec := { name := "ordersLast", fn := fun _ => fun
  | [d] => { results := [.lit (.bool true)], args := [d] }
  | _ => none }
def ordersLastRow : OpenClaim := { program := "ytkkdegcbikjebaa", sum := "9df5f4322fbb291e93712eba6c157647030ac5fe7d10c8d387f70959625b7fb4", func := "marchland/marchlaw4.OrdersLast", spec := "ordersLast", unfollowed := true, recurses := true, apart := false }
def OrdersLastSaid : Prop := ordersLastRow.holds Try.pinned (OpenSpec.ofChange ordersLastSpec)

/-- ITS FALSE NEIGHBOUR: 'it returns false'. Refute it at one input. -/
def ordersLastWrong : ChangeSpec := { name := "ordersLast", fn := fun _ => fun
  | [d] => { results := [.lit (.bool false)], args := [d] }
  | _ => none }
def OrdersLastWrongFalsely : Prop := ordersLastRow.holds Try.pinned (OpenSpec.ofChange ordersLastWrong)

/- THE SECOND FORM. 'bulk': how many values and letters a reading holds, each counted each time it is reached (what is shared counts as often as it is met; a slice's spare places count too). A statement '..UptoSaid' is the law's where the arguments, and the package variables that the reading takes, are together of bulk at most 1048576: NARROWER than '..Said'. Prove '..Said' where nothing that the law and all that it calls make is longer than what came in: it says more and counts as full. Else prove '..UptoSaid'. A law counts once. -/
mutual
def uptoBulk {H : Type} : DataW H → Nat
  | .lit (.string bytes) => bytes.length + 1
  | .lit _ => 1
  | .nil => 1
  | .ptr d => uptoBulk d + 1
  | .slice elems spare => uptoBulkAll elems + uptoBulkAll spare + 1
  | .agg parts => uptoBulkAll parts + 1
  | .iface _ d => uptoBulk d + 1
  | .map entries => uptoBulkEntries entries + 1
  | .held _ => 1
def uptoBulkAll {H : Type} : List (DataW H) → Nat
  | [] => 0
  | d :: r => uptoBulk d + uptoBulkAll r
def uptoBulkEntries {H : Type} : List (Lit × DataW H) → Nat
  | [] => 0
  | x :: r => uptoBulkEntry x + uptoBulkEntries r
def uptoBulkEntry {H : Type} : Lit × DataW H → Nat
  | (.string bytes, d) => bytes.length + uptoBulk d + 1
  | (_, d) => uptoBulk d + 1
 end
def uptoSmall : (H : Type) → List (DataW H) → Bool := fun _ ds => decide (uptoBulkAll ds ≤ 1048576)
def OpenSpec.upto (s : _root_.Go.ChangeSpec) : _root_.Go.OpenSpec := { _root_.Go.OpenSpec.ofChange s with cond := some uptoSmall }

/-- 'marchlaw1.FieldBack', WHERE WHAT IT READS IS OF BULK AT MOST 1048576: true; the input reads as it did. -/
def fieldBackUptoRow : OpenClaim := { program := "ytkkdegcbikjebaa", sum := "9df5f4322fbb291e93712eba6c157647030ac5fe7d10c8d387f70959625b7fb4", func := "marchland/marchlaw1.FieldBack", spec := "fieldBack", inPlace := ["internal/bytealg.IndexByteString"], apart := false, narrowed := true }
def FieldBackUptoSaid : Prop := fieldBackUptoRow.holds Try.pinned (OpenSpec.upto fieldBackSpec)

/-- 'marchlaw1.PathShort', WHERE WHAT IT READS IS OF BULK AT MOST 1048576: true; the input reads as it did. -/
def pathShortUptoRow : OpenClaim := { program := "ytkkdegcbikjebaa", sum := "9df5f4322fbb291e93712eba6c157647030ac5fe7d10c8d387f70959625b7fb4", func := "marchland/marchlaw1.PathShort", spec := "pathShort", unfollowed := true, recurses := true, apart := false, narrowed := true }
def PathShortUptoSaid : Prop := pathShortUptoRow.holds Try.pinned (OpenSpec.upto pathShortSpec)

/-- 'marchlaw4.PathWays', WHERE WHAT IT READS IS OF BULK AT MOST 1048576: true; the input reads as it did. -/
def pathWaysUptoRow : OpenClaim := { program := "ytkkdegcbikjebaa", sum := "9df5f4322fbb291e93712eba6c157647030ac5fe7d10c8d387f70959625b7fb4", func := "marchland/marchlaw4.PathWays", spec := "pathWays", unfollowed := true, recurses := true, apart := false, narrowed := true }
def PathWaysUptoSaid : Prop := pathWaysUptoRow.holds Try.pinned (OpenSpec.upto pathWaysSpec)

/-- 'marchlaw3.FeedBack', WHERE WHAT IT READS IS OF BULK AT MOST 1048576: true; the input reads as it did. -/
def feedBackUptoRow : OpenClaim := { program := "ytkkdegcbikjebaa", sum := "9df5f4322fbb291e93712eba6c157647030ac5fe7d10c8d387f70959625b7fb4", func := "marchland/marchlaw3.FeedBack", spec := "feedBack", unfollowed := true, recurses := true, apart := false, narrowed := true }
def FeedBackUptoSaid : Prop := feedBackUptoRow.holds Try.pinned (OpenSpec.upto feedBackSpec)

/-- 'marchlaw2.WorldBack', WHERE WHAT IT READS IS OF BULK AT MOST 1048576: true; the input reads as it did. -/
def worldBackUptoRow : OpenClaim := { program := "ytkkdegcbikjebaa", sum := "9df5f4322fbb291e93712eba6c157647030ac5fe7d10c8d387f70959625b7fb4", func := "marchland/marchlaw2.WorldBack", spec := "worldBack", unfollowed := true, recurses := true, apart := false, narrowed := true }
def WorldBackUptoSaid : Prop := worldBackUptoRow.holds Try.pinned (OpenSpec.upto worldBackSpec)

/-- 'marchlaw4.OrdersLast', WHERE WHAT IT READS IS OF BULK AT MOST 1048576: true; the input reads as it did. -/
def ordersLastUptoRow : OpenClaim := { program := "ytkkdegcbikjebaa", sum := "9df5f4322fbb291e93712eba6c157647030ac5fe7d10c8d387f70959625b7fb4", func := "marchland/marchlaw4.OrdersLast", spec := "ordersLast", unfollowed := true, recurses := true, apart := false, narrowed := true }
def OrdersLastUptoSaid : Prop := ordersLastUptoRow.holds Try.pinned (OpenSpec.upto ordersLastSpec)

end Rows
end Go.Proofs.Ytkkdegcbikjebaa
