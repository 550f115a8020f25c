/-
  No cell of these rows narrows 'for every input' (looked for: loops, veiled, ifaces, maps, wideKeys, modest, calm, conditions, laid).
  DERIVED. THE GIVEN ROWS OF THIS SEAT. 9 by the template 'for every input the law returns true; each argument reads behind the call as it read before'; 0 by the template 'total and deterministic' (their statements: YtmnabijelgpfnaaTotals.lean).
  GIVEN WITH THE SEED: the statements are not yours to turn. If you find one false, say at which input.
  Laid BY PROGRAM, IN A SANDBOX (cutbox-rows.mjs): the forced cells as the released guide's own fill.sh prints them over the translation 179bd333b42852d4… (all of the seat's roots in one cut). By AI agents, Wed Nov 11 2026. No macro, syntax, notation, axiom, sorry.
-/
import Derived.Test.YtmnabijelgpfnaaChecked
import GoSem.Claim
import GoSem.ClaimJoined
import GoSem.ClaimMapViews
import Derived.JoinedTies
import Derived.KernelRfl
namespace Go.Proofs.Ytmnabijelgpfnaa
/- THE CELL 'sum', in the pinned program and in every row, IS THE sha256 OF THE DUMP (.gsa) THAT YtmnabijelgpfnaaProg.lean LOADS. Nothing in Lean hashes anything: it is a label: what it is worth is what the hold of that sum in a sandbox is worth. -/
noncomputable def Try.pinned : Pinned := { name := "ytmnabijelgpfnaa", sum := "179bd333b42852d4bd4f8d12b7673acfbe25ae43a1cf86a13d20dcf6510f9335", checked := Try.checked }
namespace Rows
def none {H : Type} : Left H := { results := [], args := [] }

/-- 'marchlaw3.ScoreEven': WHATEVER THE INPUT: true; the input reads as it did. -/
def scoreEvenSpec : ChangeSpec := { name := "scoreEven", fn := fun _ => fun
  | [d1, d2, d3, d4] => { results := [.lit (.bool true)], args := [d1, d2, d3, d4] }
  | _ => none }
def scoreEvenRow : OpenClaim := { program := "ytmnabijelgpfnaa", sum := "179bd333b42852d4bd4f8d12b7673acfbe25ae43a1cf86a13d20dcf6510f9335", func := "marchland/marchlaw3.ScoreEven", spec := "scoreEven", apart := false }
def ScoreEvenSaid : Prop := scoreEvenRow.holds Try.pinned (OpenSpec.ofChange scoreEvenSpec)

/-- ITS FALSE NEIGHBOUR: 'it returns false'. Refute it at one input. -/
def scoreEvenWrong : ChangeSpec := { name := "scoreEven", fn := fun _ => fun
  | [d1, d2, d3, d4] => { results := [.lit (.bool false)], args := [d1, d2, d3, d4] }
  | _ => none }
def ScoreEvenWrongFalsely : Prop := scoreEvenRow.holds Try.pinned (OpenSpec.ofChange scoreEvenWrong)

/-- 'marchlaw4.FeedParts': WHATEVER THE INPUT: true; the input reads as it did. -/
def feedPartsSpec : ChangeSpec := { name := "feedParts", fn := fun _ => fun
  | [d1, d2] => { results := [.lit (.bool true)], args := [d1, d2] }
  | _ => none }
def feedPartsRow : OpenClaim := { program := "ytmnabijelgpfnaa", sum := "179bd333b42852d4bd4f8d12b7673acfbe25ae43a1cf86a13d20dcf6510f9335", func := "marchland/marchlaw4.FeedParts", spec := "feedParts", apart := false }
def FeedPartsSaid : Prop := feedPartsRow.holds Try.pinned (OpenSpec.ofChange feedPartsSpec)

/-- ITS FALSE NEIGHBOUR: 'it returns false'. Refute it at one input. -/
def feedPartsWrong : ChangeSpec := { name := "feedParts", fn := fun _ => fun
  | [d1, d2] => { results := [.lit (.bool false)], args := [d1, d2] }
  | _ => none }
def FeedPartsWrongFalsely : Prop := feedPartsRow.holds Try.pinned (OpenSpec.ofChange feedPartsWrong)

/-- 'marchlaw4.DiceForks': WHATEVER THE INPUT: true; the input reads as it did. -/
def diceForksSpec : ChangeSpec := { name := "diceForks", fn := fun _ => fun
  | [d1, d2, d3] => { results := [.lit (.bool true)], args := [d1, d2, d3] }
  | _ => none }
def diceForksRow : OpenClaim := { program := "ytmnabijelgpfnaa", sum := "179bd333b42852d4bd4f8d12b7673acfbe25ae43a1cf86a13d20dcf6510f9335", func := "marchland/marchlaw4.DiceForks", spec := "diceForks", apart := false }
def DiceForksSaid : Prop := diceForksRow.holds Try.pinned (OpenSpec.ofChange diceForksSpec)

/-- ITS FALSE NEIGHBOUR: 'it returns false'. Refute it at one input. -/
def diceForksWrong : ChangeSpec := { name := "diceForks", fn := fun _ => fun
  | [d1, d2, d3] => { results := [.lit (.bool false)], args := [d1, d2, d3] }
  | _ => none }
def DiceForksWrongFalsely : Prop := diceForksRow.holds Try.pinned (OpenSpec.ofChange diceForksWrong)

/-- 'marchlaw4.TapeFrames': WHATEVER THE INPUT: true; the input reads as it did. -/
def tapeFramesSpec : ChangeSpec := { name := "tapeFrames", fn := fun _ => fun
  | [d1, d2] => { results := [.lit (.bool true)], args := [d1, d2] }
  | _ => none }
def tapeFramesRow : OpenClaim := { program := "ytmnabijelgpfnaa", sum := "179bd333b42852d4bd4f8d12b7673acfbe25ae43a1cf86a13d20dcf6510f9335", func := "marchland/marchlaw4.TapeFrames", spec := "tapeFrames", apart := false }
def TapeFramesSaid : Prop := tapeFramesRow.holds Try.pinned (OpenSpec.ofChange tapeFramesSpec)

/-- ITS FALSE NEIGHBOUR: 'it returns false'. Refute it at one input. -/
def tapeFramesWrong : ChangeSpec := { name := "tapeFrames", fn := fun _ => fun
  | [d1, d2] => { results := [.lit (.bool false)], args := [d1, d2] }
  | _ => none }
def TapeFramesWrongFalsely : Prop := tapeFramesRow.holds Try.pinned (OpenSpec.ofChange tapeFramesWrong)

/-- 'marchlaw1.Names': WHATEVER THE INPUT: true; the input reads as it did. -/
def namesSpec : ChangeSpec := { name := "names", fn := fun _ => fun
  | [] => { results := [.lit (.bool true)], args := [] }
  | _ => none }
def namesRow : OpenClaim := { program := "ytmnabijelgpfnaa", sum := "179bd333b42852d4bd4f8d12b7673acfbe25ae43a1cf86a13d20dcf6510f9335", func := "marchland/marchlaw1.Names", spec := "names", apart := false }
def NamesSaid : Prop := namesRow.holds Try.pinned (OpenSpec.ofChange namesSpec)

/-- ITS FALSE NEIGHBOUR: 'it returns false'. Refute it at one input. -/
def namesWrong : ChangeSpec := { name := "names", fn := fun _ => fun
  | [] => { results := [.lit (.bool false)], args := [] }
  | _ => none }
def NamesWrongFalsely : Prop := namesRow.holds Try.pinned (OpenSpec.ofChange namesWrong)

/-- 'marchlaw4.ScorePlaces': WHATEVER THE INPUT: true; the input reads as it did. -/
def scorePlacesSpec : ChangeSpec := { name := "scorePlaces", fn := fun _ => fun
  | [d1, d2] => { results := [.lit (.bool true)], args := [d1, d2] }
  | _ => none }
def scorePlacesRow : OpenClaim := { program := "ytmnabijelgpfnaa", sum := "179bd333b42852d4bd4f8d12b7673acfbe25ae43a1cf86a13d20dcf6510f9335", func := "marchland/marchlaw4.ScorePlaces", spec := "scorePlaces", apart := false }
def ScorePlacesSaid : Prop := scorePlacesRow.holds Try.pinned (OpenSpec.ofChange scorePlacesSpec)

/-- ITS FALSE NEIGHBOUR: 'it returns false'. Refute it at one input. -/
def scorePlacesWrong : ChangeSpec := { name := "scorePlaces", fn := fun _ => fun
  | [d1, d2] => { results := [.lit (.bool false)], args := [d1, d2] }
  | _ => none }
def ScorePlacesWrongFalsely : Prop := scorePlacesRow.holds Try.pinned (OpenSpec.ofChange scorePlacesWrong)

/-- 'marchlaw1.DiceMixes': WHATEVER THE INPUT: true; the input reads as it did. -/
def diceMixesSpec : ChangeSpec := { name := "diceMixes", fn := fun _ => fun
  | [d1, d2, d3] => { results := [.lit (.bool true)], args := [d1, d2, d3] }
  | _ => none }
def diceMixesRow : OpenClaim := { program := "ytmnabijelgpfnaa", sum := "179bd333b42852d4bd4f8d12b7673acfbe25ae43a1cf86a13d20dcf6510f9335", func := "marchland/marchlaw1.DiceMixes", spec := "diceMixes", apart := false }
def DiceMixesSaid : Prop := diceMixesRow.holds Try.pinned (OpenSpec.ofChange diceMixesSpec)

/-- ITS FALSE NEIGHBOUR: 'it returns false'. Refute it at one input. -/
def diceMixesWrong : ChangeSpec := { name := "diceMixes", fn := fun _ => fun
  | [d1, d2, d3] => { results := [.lit (.bool false)], args := [d1, d2, d3] }
  | _ => none }
def DiceMixesWrongFalsely : Prop := diceMixesRow.holds Try.pinned (OpenSpec.ofChange diceMixesWrong)

/-- 'marchlaw3.TapeKeeps': WHATEVER THE INPUT: true; the input reads as it did. -/
def tapeKeepsSpec : ChangeSpec := { name := "tapeKeeps", fn := fun _ => fun
  | [d1, d2, d3] => { results := [.lit (.bool true)], args := [d1, d2, d3] }
  | _ => none }
def tapeKeepsRow : OpenClaim := { program := "ytmnabijelgpfnaa", sum := "179bd333b42852d4bd4f8d12b7673acfbe25ae43a1cf86a13d20dcf6510f9335", func := "marchland/marchlaw3.TapeKeeps", spec := "tapeKeeps", apart := false }
def TapeKeepsSaid : Prop := tapeKeepsRow.holds Try.pinned (OpenSpec.ofChange tapeKeepsSpec)

/-- ITS FALSE NEIGHBOUR: 'it returns false'. Refute it at one input. -/
def tapeKeepsWrong : ChangeSpec := { name := "tapeKeeps", fn := fun _ => fun
  | [d1, d2, d3] => { results := [.lit (.bool false)], args := [d1, d2, d3] }
  | _ => none }
def TapeKeepsWrongFalsely : Prop := tapeKeepsRow.holds Try.pinned (OpenSpec.ofChange tapeKeepsWrong)

/-- 'marchlaw3.FeedBack': WHATEVER THE INPUT: true; the input reads as it did. -/
def feedBackSpec : ChangeSpec := { name := "feedBack", fn := fun _ => fun
  | [d1, d2, d3] => { results := [.lit (.bool true)], args := [d1, d2, d3] }
  | _ => none }
def feedBackRow : OpenClaim := { program := "ytmnabijelgpfnaa", sum := "179bd333b42852d4bd4f8d12b7673acfbe25ae43a1cf86a13d20dcf6510f9335", func := "marchland/marchlaw3.FeedBack", spec := "feedBack", unfollowed := true, recurses := true, apart := false }
def FeedBackSaid : Prop := feedBackRow.holds Try.pinned (OpenSpec.ofChange feedBackSpec)

/-- ITS FALSE NEIGHBOUR: 'it returns false'. Refute it at one input. -/
def feedBackWrong : ChangeSpec := { name := "feedBack", fn := fun _ => fun
  | [d1, d2, d3] => { results := [.lit (.bool false)], args := [d1, d2, d3] }
  | _ => none }
def FeedBackWrongFalsely : Prop := feedBackRow.holds Try.pinned (OpenSpec.ofChange feedBackWrong)

/- THE SECOND FORM. 'bulk': how many values and letters a reading holds, each counted each time it is reached (what is shared counts as often as it is met; a slice's spare places count too). A statement '..UptoSaid' is the law's where the arguments, and the package variables that the reading takes, are together of bulk at most 1048576: NARROWER than '..Said'. Prove '..Said' where nothing that the law and all that it calls make is longer than what came in: it says more and counts as full. Else prove '..UptoSaid'. A law counts once. -/
mutual
def uptoBulk {H : Type} : DataW H → Nat
  | .lit (.string bytes) => bytes.length + 1
  | .lit _ => 1
  | .nil => 1
  | .ptr d => uptoBulk d + 1
  | .slice elems spare => uptoBulkAll elems + uptoBulkAll spare + 1
  | .agg parts => uptoBulkAll parts + 1
  | .iface _ d => uptoBulk d + 1
  | .map entries => uptoBulkEntries entries + 1
  | .held _ => 1
def uptoBulkAll {H : Type} : List (DataW H) → Nat
  | [] => 0
  | d :: r => uptoBulk d + uptoBulkAll r
def uptoBulkEntries {H : Type} : List (Lit × DataW H) → Nat
  | [] => 0
  | x :: r => uptoBulkEntry x + uptoBulkEntries r
def uptoBulkEntry {H : Type} : Lit × DataW H → Nat
  | (.string bytes, d) => bytes.length + uptoBulk d + 1
  | (_, d) => uptoBulk d + 1
 end
def uptoSmall : (H : Type) → List (DataW H) → Bool := fun _ ds => decide (uptoBulkAll ds ≤ 1048576)
def OpenSpec.upto (s : _root_.Go.ChangeSpec) : _root_.Go.OpenSpec := { _root_.Go.OpenSpec.ofChange s with cond := some uptoSmall }

/-- 'marchlaw3.ScoreEven', WHERE WHAT IT READS IS OF BULK AT MOST 1048576: true; the input reads as it did. -/
def scoreEvenUptoRow : OpenClaim := { program := "ytmnabijelgpfnaa", sum := "179bd333b42852d4bd4f8d12b7673acfbe25ae43a1cf86a13d20dcf6510f9335", func := "marchland/marchlaw3.ScoreEven", spec := "scoreEven", apart := false, narrowed := true }
def ScoreEvenUptoSaid : Prop := scoreEvenUptoRow.holds Try.pinned (OpenSpec.upto scoreEvenSpec)

/-- 'marchlaw4.FeedParts', WHERE WHAT IT READS IS OF BULK AT MOST 1048576: true; the input reads as it did. -/
def feedPartsUptoRow : OpenClaim := { program := "ytmnabijelgpfnaa", sum := "179bd333b42852d4bd4f8d12b7673acfbe25ae43a1cf86a13d20dcf6510f9335", func := "marchland/marchlaw4.FeedParts", spec := "feedParts", apart := false, narrowed := true }
def FeedPartsUptoSaid : Prop := feedPartsUptoRow.holds Try.pinned (OpenSpec.upto feedPartsSpec)

/-- 'marchlaw4.DiceForks', WHERE WHAT IT READS IS OF BULK AT MOST 1048576: true; the input reads as it did. -/
def diceForksUptoRow : OpenClaim := { program := "ytmnabijelgpfnaa", sum := "179bd333b42852d4bd4f8d12b7673acfbe25ae43a1cf86a13d20dcf6510f9335", func := "marchland/marchlaw4.DiceForks", spec := "diceForks", apart := false, narrowed := true }
def DiceForksUptoSaid : Prop := diceForksUptoRow.holds Try.pinned (OpenSpec.upto diceForksSpec)

/-- 'marchlaw4.TapeFrames', WHERE WHAT IT READS IS OF BULK AT MOST 1048576: true; the input reads as it did. -/
def tapeFramesUptoRow : OpenClaim := { program := "ytmnabijelgpfnaa", sum := "179bd333b42852d4bd4f8d12b7673acfbe25ae43a1cf86a13d20dcf6510f9335", func := "marchland/marchlaw4.TapeFrames", spec := "tapeFrames", apart := false, narrowed := true }
def TapeFramesUptoSaid : Prop := tapeFramesUptoRow.holds Try.pinned (OpenSpec.upto tapeFramesSpec)

/-- 'marchlaw1.Names', WHERE WHAT IT READS IS OF BULK AT MOST 1048576: true; the input reads as it did. -/
def namesUptoRow : OpenClaim := { program := "ytmnabijelgpfnaa", sum := "179bd333b42852d4bd4f8d12b7673acfbe25ae43a1cf86a13d20dcf6510f9335", func := "marchland/marchlaw1.Names", spec := "names", apart := false, narrowed := true }
def NamesUptoSaid : Prop := namesUptoRow.holds Try.pinned (OpenSpec.upto namesSpec)

/-- 'marchlaw4.ScorePlaces', WHERE WHAT IT READS IS OF BULK AT MOST 1048576: true; the input reads as it did. -/
def scorePlacesUptoRow : OpenClaim := { program := "ytmnabijelgpfnaa", sum := "179bd333b42852d4bd4f8d12b7673acfbe25ae43a1cf86a13d20dcf6510f9335", func := "marchland/marchlaw4.ScorePlaces", spec := "scorePlaces", apart := false, narrowed := true }
def ScorePlacesUptoSaid : Prop := scorePlacesUptoRow.holds Try.pinned (OpenSpec.upto scorePlacesSpec)

/-- 'marchlaw1.DiceMixes', WHERE WHAT IT READS IS OF BULK AT MOST 1048576: true; the input reads as it did. -/
def diceMixesUptoRow : OpenClaim := { program := "ytmnabijelgpfnaa", sum := "179bd333b42852d4bd4f8d12b7673acfbe25ae43a1cf86a13d20dcf6510f9335", func := "marchland/marchlaw1.DiceMixes", spec := "diceMixes", apart := false, narrowed := true }
def DiceMixesUptoSaid : Prop := diceMixesUptoRow.holds Try.pinned (OpenSpec.upto diceMixesSpec)

/-- 'marchlaw3.TapeKeeps', WHERE WHAT IT READS IS OF BULK AT MOST 1048576: true; the input reads as it did. -/
def tapeKeepsUptoRow : OpenClaim := { program := "ytmnabijelgpfnaa", sum := "179bd333b42852d4bd4f8d12b7673acfbe25ae43a1cf86a13d20dcf6510f9335", func := "marchland/marchlaw3.TapeKeeps", spec := "tapeKeeps", apart := false, narrowed := true }
def TapeKeepsUptoSaid : Prop := tapeKeepsUptoRow.holds Try.pinned (OpenSpec.upto tapeKeepsSpec)

/-- 'marchlaw3.FeedBack', WHERE WHAT IT READS IS OF BULK AT MOST 1048576: true; the input reads as it did. -/
def feedBackUptoRow : OpenClaim := { program := "ytmnabijelgpfnaa", sum := "179bd333b42852d4bd4f8d12b7673acfbe25ae43a1cf86a13d20dcf6510f9335", func := "marchland/marchlaw3.FeedBack", spec := "feedBack", unfollowed := true, recurses := true, apart := false, narrowed := true }
def FeedBackUptoSaid : Prop := feedBackUptoRow.holds Try.pinned (OpenSpec.upto feedBackSpec)

end Rows
end Go.Proofs.Ytmnabijelgpfnaa
