import Derived.Test.YtkngommlclcikaaDoorMany
import Derived.Test.YtkngommlclcikaaDoorPlainW
namespace Go.Proofs.YtkngommlclcikaaDoor
set_option linter.unusedVariables false
/-! A world read from bytes. -/
def rdNs (bs : List Int) (st : Option Nat) : Nat → List Int × Option Nat
  | 0 => ([], st)
  | k + 1 => ((rdNs bs st k).1 ++ [(rdS bs (rdNs bs st k).2).1], (rdS bs (rdNs bs st k).2).2)
theorem rdNs_len (bs : List Int) (st : Option Nat) (k : Nat) : (rdNs bs st k).1.length = k := by
  induction k with
  | zero => rfl
  | succ k ih => rw [rdNs, List.length_append, ih]; rfl
def rdLs (bs : List Int) (st : Option Nat) : List Int × Option Nat := rdNs bs (rdM bs st 200).2 (rdM bs st 200).1.toNat
theorem rdM_bd (bs : List Int) (st : Option Nat) : 0 ≤ (rdM bs st 200).1 ∧ (rdM bs st 200).1 ≤ 200 := by
  unfold rdM
  split
  · exact ⟨by omega, by omega⟩
  · rename_i h; omega
theorem rdLs_len (bs : List Int) (st : Option Nat) : (rdLs bs st).1.length ≤ 200 := by
  have := rdM_bd bs st
  unfold rdLs; rw [rdNs_len]; omega
def uOf (l : List Int) : GU := ⟨l.getD 0 0, l.getD 1 0, l.getD 2 0, l.getD 3 0, l.getD 4 0, l.getD 5 0, l.getD 6 0, l.getD 7 0⟩
def jOf (l : List Int) : GJ := ⟨l.getD 0 0, l.getD 1 0, l.getD 2 0, l.getD 3 0⟩
def rdUs (bs : List Int) (st : Option Nat) : Nat → List GU × Option Nat
  | 0 => ([], st)
  | k + 1 => ((rdUs bs st k).1 ++ [uOf (rdNs bs (rdUs bs st k).2 8).1], (rdNs bs (rdUs bs st k).2 8).2)
def rdJs (bs : List Int) (st : Option Nat) : Nat → List GJ × Option Nat
  | 0 => ([], st)
  | k + 1 => ((rdJs bs st k).1 ++ [jOf (rdNs bs (rdJs bs st k).2 4).1], (rdNs bs (rdJs bs st k).2 4).2)
theorem rdUs_len (bs : List Int) (st : Option Nat) (k : Nat) : (rdUs bs st k).1.length = k := by
  induction k with
  | zero => rfl
  | succ k ih => rw [rdUs, List.length_append, ih]; rfl
theorem rdJs_len (bs : List Int) (st : Option Nat) (k : Nat) : (rdJs bs st k).1.length = k := by
  induction k with
  | zero => rfl
  | succ k ih => rw [rdJs, List.length_append, ih]; rfl
/-- The states behind each part of a world. -/
def dN (bs : List Int) : Nat → List Int × Option Nat := rdNs bs (some 0)
def dG (bs : List Int) : List Int × Option Nat := rdLs bs (dN bs 4).2
def dO (bs : List Int) : List Int × Option Nat := rdLs bs (dG bs).2
def dD (bs : List Int) : List Int × Option Nat := rdLs bs (dO bs).2
def dMu (bs : List Int) : Int × Option Nat := rdM bs (dD bs).2 200
def dU (bs : List Int) : List GU × Option Nat := rdUs bs (dMu bs).2 (dMu bs).1.toNat
def dMj (bs : List Int) : Int × Option Nat := rdM bs (dU bs).2 200
def dJ (bs : List Int) : List GJ × Option Nat := rdJs bs (dMj bs).2 (dMj bs).1.toNat
def dW (bs : List Int) : GW := ⟨(dN bs 4).1.getD 0 0, (dN bs 4).1.getD 1 0, ⟨(dN bs 4).1.getD 2 0, (dN bs 4).1.getD 3 0, (dG bs).1, (dO bs).1⟩, (dD bs).1, (dU bs).1, (dJ bs).1⟩
/-- Once wrong, wrong for good. -/
theorem rdS_none (bs : List Int) : rdS bs none = (0, none) := rfl
theorem rdNs_none (bs : List Int) (k : Nat) : (rdNs bs none k).2 = none := by
  induction k with
  | zero => rfl
  | succ k ih => rw [rdNs, ih]; rfl
theorem rdM_none (bs : List Int) : rdM bs none 200 = (0, none) := by
  unfold rdM; rw [rdS_none]; rfl
theorem rdLs_none (bs : List Int) : rdLs bs none = ([], none) := by
  unfold rdLs; rw [rdM_none]; rfl
end Go.Proofs.YtkngommlclcikaaDoor
