import Derived.Test.YtkgkpggfoieioaaDoorPlainN
import Derived.Test.YtkgkpggfoieioaaDoorMrga
namespace Go.Proofs.YtkgkpggfoieioaaDoor
set_option linter.unusedVariables false
/-! A world as numbers, and as bytes. -/
def uN (u : GU) : List Int := [u.id, u.player, u.kind, u.spot, u.life, u.load, u.task, u.goal]
def jN (j : GJ) : List Int := [j.player, j.unit, j.kind, j.left]
def lN (l : List Int) : List Int := (l.length : Int) :: l
def wN (x : GW) : List Int := [x.turn, x.next, x.field.wide, x.field.high] ++ (lN x.field.ground ++ (lN x.field.ore ++ (lN x.gold ++ ((x.units.length : Int) :: x.units.flatMap uN ++ ((x.queue.length : Int) :: x.queue.flatMap jN)))))
/-- The bytes of a world. -/
def encL (x : GW) : List Int := (wN x).flatMap numL
end Go.Proofs.YtkgkpggfoieioaaDoor
