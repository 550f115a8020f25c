import Derived.WalkKit
namespace Go.Proofs.YtkgkpggfoieioaaDoor
set_option linter.unusedVariables false
/-- A change of a place; its three cells. -/
structure Ch where
  a : Int
  o : Int
  n : Int
deriving DecidableEq
def chC (c : Ch) : List Value := [.int .i64 c.a, .int .i64 c.o, .int .i64 c.n]
theorem chC_len (c : Ch) : (chC c).length = 3 := rfl
/-- What is at a place; -1 behind the end. -/
def atV (xs : List Int) (i : Nat) : Int := (xs[i]?).getD (-1)
def diffO (xs ys : List Int) (i : Nat) : List Ch := if atV xs i = atV ys i then [] else [⟨i, atV xs i, atV ys i⟩]
def diffN (xs ys : List Int) : Nat → List Ch
  | 0 => []
  | k + 1 => diffN xs ys k ++ diffO xs ys k
def diffL (xs ys : List Int) : List Ch := diffN xs ys (max xs.length ys.length)
theorem diffO_len (xs ys : List Int) (k : Nat) : (diffO xs ys k).length ≤ 1 := by unfold diffO; split <;> simp
theorem diffN_len (xs ys : List Int) (k : Nat) : (diffN xs ys k).length ≤ k := by
  induction k with
  | zero => simp [diffN]
  | succ k ih => rw [diffN, List.length_append]; have := diffO_len xs ys k; omega
theorem diffN_yes (xs ys : List Int) (k : Nat) (h : atV xs k = atV ys k) : diffN xs ys (k + 1) = diffN xs ys k := by
  rw [diffN, diffO, if_pos h, List.append_nil]
theorem diffN_no (xs ys : List Int) (k : Nat) (h : ¬ atV xs k = atV ys k) : diffN xs ys (k + 1) = diffN xs ys k ++ [⟨k, atV xs k, atV ys k⟩] := by
  rw [diffN, diffO, if_neg h]
theorem diffN_end (xs ys : List Int) (k : Nat) (h1 : xs.length ≤ k) (h2 : ys.length ≤ k) : diffN xs ys k = diffL xs ys := by
  obtain ⟨d, hd⟩ : ∃ d, k = max xs.length ys.length + d := ⟨k - max xs.length ys.length, by omega⟩
  subst hd
  clear h1 h2
  induction d with
  | zero => rfl
  | succ d ih =>
    rw [← ih, ← Nat.add_assoc]
    apply diffN_yes
    unfold atV
    rw [List.getElem?_eq_none (by omega), List.getElem?_eq_none (by omega)]
theorem diffN_pre (xs ys : List Int) (i d : Nat) : ∃ t, diffN xs ys (i + d) = diffN xs ys i ++ t := by
  induction d with
  | zero => exact ⟨[], by simp⟩
  | succ d ih =>
    obtain ⟨t, ht⟩ := ih
    exact ⟨t ++ diffO xs ys (i + d), by rw [← Nat.add_assoc, diffN, ht, List.append_assoc]⟩
theorem diffL_get (xs ys : List Int) (i : Nat) (hi : i < max xs.length ys.length) (h : ¬ atV xs i = atV ys i) :
    (diffL xs ys)[(diffN xs ys i).length]? = some ⟨i, atV xs i, atV ys i⟩ ∧ (diffN xs ys i).length < (diffL xs ys).length := by
  obtain ⟨t, ht⟩ := diffN_pre xs ys (i + 1) (max xs.length ys.length - (i + 1))
  rw [show i + 1 + (max xs.length ys.length - (i + 1)) = max xs.length ys.length by omega] at ht
  unfold diffL
  rw [ht, diffN_no xs ys i h, List.append_assoc]
  exact ⟨by rw [List.getElem?_append_right (by omega)]; simp, by simp⟩
theorem diffL_len (xs ys : List Int) (h1 : xs.length ≤ 6000) (h2 : ys.length ≤ 6000) : (diffL xs ys).length ≤ 6000 := by
  have := diffN_len xs ys (max xs.length ys.length)
  unfold diffL; omega
theorem atV_in (xs : List Int) (i : Nat) (h : i < xs.length) : xs[i]? = some (atV xs i) := by
  unfold atV; rw [List.getElem?_eq_getElem h]; rfl
theorem atV_out (xs : List Int) (i : Nat) (h : xs.length ≤ i) : atV xs i = -1 := by
  unfold atV; rw [List.getElem?_eq_none h]; rfl
def Byte (x : Int) : Prop := 0 ≤ x ∧ x ≤ 255
theorem atV_bd (xs : List Int) (h : ∀ x ∈ xs, Byte x) (i : Nat) : -1 ≤ atV xs i ∧ atV xs i ≤ 255 := by
  unfold atV
  cases hx : xs[i]? with
  | none => decide
  | some x =>
    have := h x (List.mem_of_getElem? hx)
    unfold Byte at this
    simp only [Option.getD_some]
    omega
/-- Is there a frame at a place, and how long is it? The frames from a place on. -/
def frK (xs : List Int) (p : Nat) : Option Nat :=
  if p + 2 ≤ xs.length then (if p + 2 + ((xs.getD p 0).toNat * 256 + (xs.getD (p + 1) 0).toNat) ≤ xs.length then some ((xs.getD p 0).toNat * 256 + (xs.getD (p + 1) 0).toNat) else none) else none
def frF : Nat → List Int → Nat → List (List Int) × Nat
  | 0, _, p => ([], p)
  | f + 1, xs, p => match frK xs p with
    | none => ([], p)
    | some k => ((xs.drop (p + 2)).take k :: (frF f xs (p + 2 + k)).1, (frF f xs (p + 2 + k)).2)
def framesL (xs : List Int) : List (List Int) × Nat := frF xs.length xs 0
theorem frF_none (f : Nat) (xs : List Int) (p : Nat) (h : frK xs p = none) : frF f xs p = ([], p) := by
  cases f with
  | zero => rfl
  | succ f => rw [frF, h]
theorem frF_some (f : Nat) (xs : List Int) (p k : Nat) (h : frK xs p = some k) : frF (f + 1) xs p = ((xs.drop (p + 2)).take k :: (frF f xs (p + 2 + k)).1, (frF f xs (p + 2 + k)).2) := by
  rw [frF, h]
end Go.Proofs.YtkgkpggfoieioaaDoor
