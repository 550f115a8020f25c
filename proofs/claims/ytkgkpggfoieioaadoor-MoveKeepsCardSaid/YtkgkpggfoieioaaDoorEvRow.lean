import Derived.Test.YtkgkpggfoieioaaDoorPlainDo
import Derived.Test.YtkgkpggfoieioaaDoorCloneW
import Derived.BigQuiet
import Derived.Deep.QuietTactic
namespace Go.Proofs.YtkgkpggfoieioaaDoor
set_option linter.unusedVariables false
open Go.RowKit
/-! Rows of events. -/
def eC (e : EV) : List Value := [.int .i64 e.what, .int .i64 e.unit, .int .i64 e.arg]
theorem eC_len (e : EV) : (eC e).length = 3 := rfl
def ge (l : List EV) (i : Nat) : EV := l.getD i ⟨0, 0, 0⟩
theorem ge_get {l : List EV} {i : Nat} (h : i < l.length) : l[i]? = some (ge l i) := by unfold ge; rw [List.getD_eq_getElem?_getD, List.getElem?_eq_getElem h]; rfl
def RE (w : World) (B : Nat) (A : Option Addr) (L : List EV) : Prop := RD w B 3 A L.length (L.flatMap eC)
theorem re_at {w : World} {B : Nat} {A : Option Addr} {L : List EV} (h : RE w B A L) (k : Nat) (hk : k < L.length) :
    ∃ b o, A = some ⟨b, o, none⟩ ∧ b < B ∧ w.cell? ⟨b, o + k * 3, none⟩ = some (.int .i64 (ge L k).what) ∧ w.cell? ⟨b, o + k * 3 + 1, none⟩ = some (.int .i64 (ge L k).unit) ∧ w.cell? ⟨b, o + k * 3 + 2, none⟩ = some (.int .i64 (ge L k).arg) := by
  obtain ⟨b, o, hA, hb⟩ := RD.addr h (by omega)
  have key : ∀ j, j < 3 → w.cell? ⟨b, o + (k * 3 + j), none⟩ = (eC (ge L k))[j]? := fun j hj => by
    rw [RD.at_ h hA (by omega), flat_get eC 3 eC_len L k j hj, ge_get hk]; rfl
  exact ⟨b, o, hA, hb, key 0 (by omega), key 1 (by omega), key 2 (by omega)⟩
end Go.Proofs.YtkgkpggfoieioaaDoor
