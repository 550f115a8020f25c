import Derived.WalkKit
namespace Go.Proofs.YtkgkpggfoieioaaGreatDoor
set_option linter.unusedVariables false
/-- The plain things of the document: a unit, a job, a field, a world. -/
structure GU where
  id : Int
  player : Int
  kind : Int
  spot : Int
  life : Int
  load : Int
  task : Int
  goal : Int
deriving DecidableEq
structure GJ where
  player : Int
  unit : Int
  kind : Int
  left : Int
deriving DecidableEq
structure GF where
  wide : Int
  high : Int
  ground : List Int
  ore : List Int
deriving DecidableEq
structure GW where
  turn : Int
  next : Int
  field : GF
  gold : List Int
  units : List GU
  queue : List GJ
deriving DecidableEq
def uC (u : GU) : List Value := [.int .i64 u.id, .int .i64 u.player, .int .i64 u.kind, .int .i64 u.spot, .int .i64 u.life, .int .i64 u.load, .int .i64 u.task, .int .i64 u.goal]
def jC (u : GJ) : List Value := [.int .i64 u.player, .int .i64 u.unit, .int .i64 u.kind, .int .i64 u.left]
theorem uC_len (u : GU) : (uC u).length = 8 := rfl
theorem jC_len (u : GJ) : (jC u).length = 4 := rfl
def I64 (x : Int) : Prop := -9223372036854775808 ≤ x ∧ x ≤ 9223372036854775807
def GU.ok (u : GU) : Prop := I64 u.id ∧ I64 u.player ∧ I64 u.kind ∧ I64 u.spot ∧ I64 u.life ∧ I64 u.load ∧ I64 u.task ∧ I64 u.goal
def GJ.ok (u : GJ) : Prop := I64 u.player ∧ I64 u.unit ∧ I64 u.kind ∧ I64 u.left
def vi : Value → Int
  | .int _ z => z
  | _ => 0
end Go.Proofs.YtkgkpggfoieioaaGreatDoor
