import Derived.Test.YtkgkpggfoieioaaGreatDoorPlainW
namespace Go.Proofs.YtkgkpggfoieioaaGreatDoor
set_option linter.unusedVariables false
/-! A field's faults, its cells, and what is beside each. -/
def sideB (n : Int) : Bool := decide (1 ≤ n ∧ n ≤ 12)
def numB (n : Int) : Bool := decide (0 ≤ n ∧ n ≤ 1000000)
theorem sideB_t {n : Int} (h : sideB n = true) : 1 ≤ n ∧ n ≤ 12 := by simpa [sideB] using h
theorem sideB_f {n : Int} (h : sideB n = false) : ¬(1 ≤ n ∧ n ≤ 12) := by simpa [sideB] using h
theorem numB_t {n : Int} (h : numB n = true) : 0 ≤ n ∧ n ≤ 1000000 := by simpa [numB] using h
theorem numB_f {n : Int} (h : numB n = false) : ¬(0 ≤ n ∧ n ≤ 1000000) := by simpa [numB] using h
/-- The first fault of cells. -/
def cellsE : List Int → List Int → Int
  | g :: gs, o :: os => if g < 0 ∨ 3 < g ∨ numB o = false then 1 else if 0 < o ∧ g ≠ 0 then 7 else cellsE gs os
  | _, _ => 0
def fieldE (f : GF) : Int :=
  if sideB f.wide = false ∨ sideB f.high = false then 1
  else if (f.ground.length : Int) ≠ f.wide * f.high ∨ (f.ore.length : Int) ≠ f.wide * f.high then 3
  else cellsE f.ground f.ore
def cellE (f : GF) (at_ : Int) : Int := if fieldE f ≠ 0 then fieldE f else if at_ < 0 ∨ (f.ground.length : Int) ≤ at_ then 6 else 0
theorem cellsE_drop (gs os : List Int) (k : Nat) (g o : Int) (hg : gs[k]? = some g) (ho : os[k]? = some o) : cellsE (gs.drop k) (os.drop k) = if g < 0 ∨ 3 < g ∨ numB o = false then 1 else if 0 < o ∧ g ≠ 0 then 7 else cellsE (gs.drop (k + 1)) (os.drop (k + 1)) := by
  have h1 : gs.drop k = g :: gs.drop (k + 1) := by
    obtain ⟨hl, e⟩ := List.getElem?_eq_some_iff.1 hg
    rw [List.drop_eq_getElem_cons hl, e]
  have h2 : os.drop k = o :: os.drop (k + 1) := by
    obtain ⟨hl, e⟩ := List.getElem?_eq_some_iff.1 ho
    rw [List.drop_eq_getElem_cons hl, e]
  rw [h1, h2, cellsE]
theorem cellsE_end (gs os : List Int) (k : Nat) (h : gs.length ≤ k) : cellsE (gs.drop k) (os.drop k) = 0 := by
  rw [List.drop_of_length_le h]; unfold cellsE; rfl
theorem cellsE_good : ∀ (gs os : List Int), cellsE gs os = 0 → gs.length = os.length → ∀ (k : Nat) (g o : Int), gs[k]? = some g → os[k]? = some o → 0 ≤ g ∧ g ≤ 3 ∧ 0 ≤ o ∧ o ≤ 1000000 ∧ (0 < o → g = 0)
  | [], _, _, _, k, g, o, hg, _ => by simp at hg
  | _ :: _, [], _, hl, _, _, _, _, _ => by simp at hl
  | a :: gs, b :: os, h, hl, k, g, o, hg, ho => by
    rw [cellsE] at h
    by_cases h1 : a < 0 ∨ 3 < a ∨ numB b = false
    · rw [if_pos h1] at h; cases h
    · rw [if_neg h1] at h
      by_cases h2 : 0 < b ∧ a ≠ 0
      · rw [if_pos h2] at h; cases h
      · rw [if_neg h2] at h
        cases k with
        | zero =>
          simp only [List.getElem?_cons_zero, Option.some.injEq] at hg ho
          subst hg; subst ho
          have hb : numB b = true := by cases hb : numB b with
            | true => rfl
            | false => exact absurd (.inr (.inr hb)) h1
          have := numB_t hb
          exact ⟨by omega, by omega, this.1, this.2, by omega⟩
        | succ k => exact cellsE_good gs os h (by simpa using hl) k g o (by simpa using hg) (by simpa using ho)
/-- What holds of a field without a fault. -/
structure Good (f : GF) : Prop where
  wide : 1 ≤ f.wide ∧ f.wide ≤ 12
  high : 1 ≤ f.high ∧ f.high ≤ 12
  lg : (f.ground.length : Int) = f.wide * f.high
  lo : (f.ore.length : Int) = f.wide * f.high
  cells : cellsE f.ground f.ore = 0
theorem good_of (f : GF) (h : fieldE f = 0) : Good f := by
  unfold fieldE at h
  by_cases h1 : sideB f.wide = false ∨ sideB f.high = false
  · rw [if_pos h1] at h; cases h
  · rw [if_neg h1] at h
    by_cases h2 : (f.ground.length : Int) ≠ f.wide * f.high ∨ (f.ore.length : Int) ≠ f.wide * f.high
    · rw [if_pos h2] at h; cases h
    · rw [if_neg h2] at h
      have hw : sideB f.wide = true := by cases hb : sideB f.wide with
        | true => rfl
        | false => exact absurd (.inl hb) h1
      have hh : sideB f.high = true := by cases hb : sideB f.high with
        | true => rfl
        | false => exact absurd (.inr hb) h1
      exact ⟨sideB_t hw, sideB_t hh, by omega, by omega, h⟩
theorem good_to (f : GF) (h : Good f) : fieldE f = 0 := by
  unfold fieldE
  rw [if_neg, if_neg]
  · exact h.cells
  · have := h.lg; have := h.lo; omega
  · simp [sideB]; have := h.wide; have := h.high; omega
theorem mul_le_of {a b c d : Int} (h1 : 0 ≤ a) (h2 : a ≤ c) (h3 : 0 ≤ b) (h4 : b ≤ d) : a * b ≤ c * d :=
  Int.le_trans (Int.mul_le_mul_of_nonneg_right h2 h3) (Int.mul_le_mul_of_nonneg_left h4 (by omega))
theorem Good.len {f : GF} (h : Good f) : f.ground.length ≤ 144 ∧ 1 ≤ f.ground.length ∧ f.ore.length = f.ground.length := by
  have h1 := h.lg
  have h2 := h.lo
  have h3 : f.wide * f.high ≤ 12 * 12 := mul_le_of (by have := h.wide; omega) h.wide.2 (by have := h.high; omega) h.high.2
  have h4 : 1 * 1 ≤ f.wide * f.high := mul_le_of (by omega) h.wide.1 (by omega) h.high.1
  omega
theorem Good.cell {f : GF} (h : Good f) (k : Nat) (g : Int) (hg : f.ground[k]? = some g) : 0 ≤ g ∧ g ≤ 3 := by
  have hl := h.len
  have hk : k < f.ground.length := (List.getElem?_eq_some_iff.1 hg).1
  have := cellsE_good f.ground f.ore h.cells (by omega) k g (f.ore[k]'(by omega)) hg (List.getElem?_eq_getElem (by omega))
  exact ⟨this.1, this.2.1⟩
/-- How far it is onto a cell of a ground. -/
def ontoG (g : Int) (fl : Bool) : Int := if g = 1 ∨ (g = 2 ∧ fl = false) then 0 else if g = 3 ∧ fl = false then 2 else 1
def gAt (f : GF) (k : Nat) : Int := f.ground.getD k 0
def ontoL (f : GF) (k : Nat) (fl : Bool) : Int := ontoG (gAt f k) fl
/-- The cells beside a cell: above, to the left, to the right, below. -/
def besS (f : GF) (a : Int) : Nat → List Int
  | 0 => if a / f.wide - 1 < 0 then [] else [a - f.wide]
  | 1 => if a % f.wide - 1 < 0 then [] else [a - 1]
  | 2 => if a % f.wide + 1 < f.wide then [a + 1] else []
  | 3 => if a / f.wide + 1 < f.high then [a + f.wide] else []
  | _ => []
def besN (f : GF) (a : Int) : Nat → List Int
  | 0 => []
  | k + 1 => besN f a k ++ besS f a k
def besL (f : GF) (a : Int) : List Int := besN f a 4
theorem besS_len (f : GF) (a : Int) (k : Nat) : (besS f a k).length ≤ 1 := by
  unfold besS; split <;> (try split) <;> simp
theorem besN_len (f : GF) (a : Int) (k : Nat) : (besN f a k).length ≤ k := by
  induction k with
  | zero => simp [besN]
  | succ k ih => rw [besN, List.length_append]; have := besS_len f a k; omega
end Go.Proofs.YtkgkpggfoieioaaGreatDoor
