/-
  No cell of these rows narrows 'for every input' (looked for: loops, veiled, ifaces, maps, wideKeys, modest, calm, conditions, laid).
  DERIVED. THE GIVEN ROWS OF THIS SEAT. 3 by the template 'for every input the law returns true; each argument reads behind the call as it read before'; 0 by the template 'total and deterministic' (their statements: YtkgdflecepockaaTotals.lean).
  GIVEN WITH THE SEED: the statements are not yours to turn. If you find one false, say at which input.
  Laid BY PROGRAM, IN A SANDBOX (cutbox-rows.mjs): the forced cells as the released guide's own fill.sh prints them over the translation 914401d9ac383622… (all of the seat's roots in one cut). By AI agents, Wed Nov 11 2026. No macro, syntax, notation, axiom, sorry.
-/
import Derived.Test.YtkgdflecepockaaChecked
import GoSem.Claim
import GoSem.ClaimJoined
import GoSem.ClaimMapViews
import Derived.JoinedTies
import Derived.KernelRfl
namespace Go.Proofs.Ytkgdflecepockaa
/- THE CELL 'sum', in the pinned program and in every row, IS THE sha256 OF THE DUMP (.gsa) THAT YtkgdflecepockaaProg.lean LOADS. Nothing in Lean hashes anything: it is a label: what it is worth is what the hold of that sum in a sandbox is worth. -/
noncomputable def Try.pinned : Pinned := { name := "ytkgdflecepockaa", sum := "914401d9ac3836223b9006ab3e715a39e184c6f9d575e253640825269260f054", checked := Try.checked }
namespace Rows
def none {H : Type} : Left H := { results := [], args := [] }

/-- 'marchlaw4.OrdersLast': WHATEVER THE INPUT: true; the input reads as it did. -/
def ordersLastSpec : ChangeSpec := { name := "ordersLast", fn := fun _ => fun
  | [d] => { results := [.lit (.bool true)], args := [d] }
  | _ => none }
def ordersLastRow : OpenClaim := { program := "ytkgdflecepockaa", sum := "914401d9ac3836223b9006ab3e715a39e184c6f9d575e253640825269260f054", func := "marchland/marchlaw4.OrdersLast", spec := "ordersLast", unfollowed := true, recurses := true, plainKeys := false, apart := false }
def OrdersLastSaid : Prop := ordersLastRow.holds Try.pinned (OpenSpec.ofChange ordersLastSpec)

/-- ITS FALSE NEIGHBOUR: 'it returns false'. Refute it at one input. -/
def ordersLastWrong : ChangeSpec := { name := "ordersLast", fn := fun _ => fun
  | [d] => { results := [.lit (.bool false)], args := [d] }
  | _ => none }
def OrdersLastWrongFalsely : Prop := ordersLastRow.holds Try.pinned (OpenSpec.ofChange ordersLastWrong)

/-- 'marchlaw4.LockDrops': WHATEVER THE INPUT: true; the input reads as it did. -/
def lockDropsSpec : ChangeSpec := { name := "lockDrops", fn := fun _ => fun
  | [d1, d2, d3] => { results := [.lit (.bool true)], args := [d1, d2, d3] }
  | _ => none }
def lockDropsRow : OpenClaim := { program := "ytkgdflecepockaa", sum := "914401d9ac3836223b9006ab3e715a39e184c6f9d575e253640825269260f054", func := "marchland/marchlaw4.LockDrops", spec := "lockDrops", unfollowed := true, recurses := true, plainKeys := false, apart := false }
def LockDropsSaid : Prop := lockDropsRow.holds Try.pinned (OpenSpec.ofChange lockDropsSpec)

/-- ITS FALSE NEIGHBOUR: 'it returns false'. Refute it at one input. -/
def lockDropsWrong : ChangeSpec := { name := "lockDrops", fn := fun _ => fun
  | [d1, d2, d3] => { results := [.lit (.bool false)], args := [d1, d2, d3] }
  | _ => none }
def LockDropsWrongFalsely : Prop := lockDropsRow.holds Try.pinned (OpenSpec.ofChange lockDropsWrong)

/-- 'marchlaw3.LockAlike': WHATEVER THE INPUT: true; the input reads as it did. -/
def lockAlikeSpec : ChangeSpec := { name := "lockAlike", fn := fun _ => fun
  | [d1, d2] => { results := [.lit (.bool true)], args := [d1, d2] }
  | _ => none }
def lockAlikeRow : OpenClaim := { program := "ytkgdflecepockaa", sum := "914401d9ac3836223b9006ab3e715a39e184c6f9d575e253640825269260f054", func := "marchland/marchlaw3.LockAlike", spec := "lockAlike", unfollowed := true, recurses := true, plainKeys := false, apart := false }
def LockAlikeSaid : Prop := lockAlikeRow.holds Try.pinned (OpenSpec.ofChange lockAlikeSpec)

/-- ITS FALSE NEIGHBOUR: 'it returns false'. Refute it at one input. -/
def lockAlikeWrong : ChangeSpec := { name := "lockAlike", fn := fun _ => fun
  | [d1, d2] => { results := [.lit (.bool false)], args := [d1, d2] }
  | _ => none }
def LockAlikeWrongFalsely : Prop := lockAlikeRow.holds Try.pinned (OpenSpec.ofChange lockAlikeWrong)

/- THE SECOND FORM. 'bulk': how many values and letters a reading holds, each counted each time it is reached (what is shared counts as often as it is met; a slice's spare places count too). A statement '..UptoSaid' is the law's where the arguments, and the package variables that the reading takes, are together of bulk at most 1048576: NARROWER than '..Said'. Prove '..Said' where nothing that the law and all that it calls make is longer than what came in: it says more and counts as full. Else prove '..UptoSaid'. A law counts once. -/
mutual
def uptoBulk {H : Type} : DataW H → Nat
  | .lit (.string bytes) => bytes.length + 1
  | .lit _ => 1
  | .nil => 1
  | .ptr d => uptoBulk d + 1
  | .slice elems spare => uptoBulkAll elems + uptoBulkAll spare + 1
  | .agg parts => uptoBulkAll parts + 1
  | .iface _ d => uptoBulk d + 1
  | .map entries => uptoBulkEntries entries + 1
  | .held _ => 1
def uptoBulkAll {H : Type} : List (DataW H) → Nat
  | [] => 0
  | d :: r => uptoBulk d + uptoBulkAll r
def uptoBulkEntries {H : Type} : List (Lit × DataW H) → Nat
  | [] => 0
  | x :: r => uptoBulkEntry x + uptoBulkEntries r
def uptoBulkEntry {H : Type} : Lit × DataW H → Nat
  | (.string bytes, d) => bytes.length + uptoBulk d + 1
  | (_, d) => uptoBulk d + 1
 end
def uptoSmall : (H : Type) → List (DataW H) → Bool := fun _ ds => decide (uptoBulkAll ds ≤ 1048576)
def OpenSpec.upto (s : _root_.Go.ChangeSpec) : _root_.Go.OpenSpec := { _root_.Go.OpenSpec.ofChange s with cond := some uptoSmall }

/-- 'marchlaw4.OrdersLast', WHERE WHAT IT READS IS OF BULK AT MOST 1048576: true; the input reads as it did. -/
def ordersLastUptoRow : OpenClaim := { program := "ytkgdflecepockaa", sum := "914401d9ac3836223b9006ab3e715a39e184c6f9d575e253640825269260f054", func := "marchland/marchlaw4.OrdersLast", spec := "ordersLast", unfollowed := true, recurses := true, plainKeys := false, apart := false, narrowed := true }
def OrdersLastUptoSaid : Prop := ordersLastUptoRow.holds Try.pinned (OpenSpec.upto ordersLastSpec)

/-- 'marchlaw4.LockDrops', WHERE WHAT IT READS IS OF BULK AT MOST 1048576: true; the input reads as it did. -/
def lockDropsUptoRow : OpenClaim := { program := "ytkgdflecepockaa", sum := "914401d9ac3836223b9006ab3e715a39e184c6f9d575e253640825269260f054", func := "marchland/marchlaw4.LockDrops", spec := "lockDrops", unfollowed := true, recurses := true, plainKeys := false, apart := false, narrowed := true }
def LockDropsUptoSaid : Prop := lockDropsUptoRow.holds Try.pinned (OpenSpec.upto lockDropsSpec)

/-- 'marchlaw3.LockAlike', WHERE WHAT IT READS IS OF BULK AT MOST 1048576: true; the input reads as it did. -/
def lockAlikeUptoRow : OpenClaim := { program := "ytkgdflecepockaa", sum := "914401d9ac3836223b9006ab3e715a39e184c6f9d575e253640825269260f054", func := "marchland/marchlaw3.LockAlike", spec := "lockAlike", unfollowed := true, recurses := true, plainKeys := false, apart := false, narrowed := true }
def LockAlikeUptoSaid : Prop := lockAlikeUptoRow.holds Try.pinned (OpenSpec.upto lockAlikeSpec)

end Rows
end Go.Proofs.Ytkgdflecepockaa
