import Derived.Test.YtkgkpggfoieioaaGreatDoorOpen
import Derived.Test.YtkgkpggfoieioaaGreatDoorPlainW
namespace Go.Proofs.YtkgkpggfoieioaaGreatDoor
set_option linter.unusedVariables false
open Go.ChangeShapes Go.WideShapes Go.RowKit Go.Deep
/-- The slices of a world's parts. -/
structure SL where
  A : Option Addr
  c : Nat
theorem fm_congr {α β : Type} {f g : α → List β} {l : List α} (h : ∀ x ∈ l, f x = g x) : l.flatMap f = l.flatMap g := by
  rw [List.flatMap_def, List.flatMap_def, List.map_congr_left h]
theorem i64_wf {x : Int} (h : (Lit.int .i64 x).wf = true) : I64 x := bounds_i64 h
theorem unit_all {H : Type} {enc : TypeId × Value → H} {P : Program} {w : World} {held : Bool} {m : Nat} {t : TypeId} {v : Value} {y : DataW H × List MemPlace} (ht : P.underlying t = some (.int .i64)) (h : DataW.trod enc P w 0 (fun _ => true) held m t [v] = some y) : v = .int .i64 (vi v) ∧ I64 (vi v) := by
  obtain ⟨n, h1, _, h3⟩ := DataW.trod_int ht h
  injection h1 with h1
  subst h1
  exact ⟨rfl, i64_wf h3⟩
end Go.Proofs.YtkgkpggfoieioaaGreatDoor
