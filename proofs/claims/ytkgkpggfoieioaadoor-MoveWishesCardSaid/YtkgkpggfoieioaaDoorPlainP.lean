import Derived.Test.YtkgkpggfoieioaaDoorPlainB
namespace Go.Proofs.YtkgkpggfoieioaaDoor
set_option linter.unusedVariables false
/-! The text of a field. -/
def sgn (g : Int) : Int := if g = 0 then 46 else if g = 1 then 35 else if g = 2 then 126 else 94
def signB (g o : Int) : Int := if 0 < o then (if o < 100 ∧ o % 10 = 0 then 48 + o / 10 else 43) else sgn g
/-- The sign of ore, those below k tried. -/
def tkB (o : Int) (k : Nat) : Int := if o % 10 = 0 ∧ o / 10 < k then 48 + o / 10 else 43
theorem tkB_yes (o : Int) (k : Nat) (h : o = 10 * k) : tkB o (k + 1) = 48 + k := by unfold tkB; rw [if_pos (by omega)]; omega
theorem tkB_no (o : Int) (k : Nat) (h : o ≠ 10 * k) : tkB o (k + 1) = tkB o k := by
  unfold tkB
  by_cases h1 : o % 10 = 0 ∧ o / 10 < k
  · rw [if_pos h1, if_pos (by omega)]
  · rw [if_neg h1, if_neg (by omega)]
theorem tkB_1 (o : Int) (h : 0 < o) : tkB o 1 = 43 := by unfold tkB; rw [if_neg (by omega)]
theorem tkB_10 (g o : Int) (h : 0 < o) : tkB o 10 = signB g o := by
  unfold tkB signB
  rw [if_pos h]
  by_cases h1 : o < 100 ∧ o % 10 = 0
  · rw [if_pos h1, if_pos (by omega)]
  · rw [if_neg h1, if_neg (by omega)]
theorem signB_bd (g o : Int) (h : 0 ≤ o) : 0 ≤ signB g o ∧ signB g o ≤ 255 := by
  unfold signB sgn
  repeat' split
  all_goals omega
def sgAt (f : GF) (k : Nat) : Int := signB (f.ground.getD k 0) (f.ore.getD k 0)
def rowP (f : GF) (W r : Nat) : Nat → List Int
  | 0 => []
  | c + 1 => rowP f W r c ++ [sgAt f (r * W + c)]
def txtP (f : GF) (W : Nat) : Nat → List Int
  | 0 => []
  | r + 1 => txtP f W r ++ rowP f W r W ++ [10]
theorem rowP_len (f : GF) (W r c : Nat) : (rowP f W r c).length = c := by
  induction c with
  | zero => rfl
  | succ c ih => rw [rowP, List.length_append, ih]; rfl
theorem txtP_len (f : GF) (W r : Nat) : (txtP f W r).length = r * (W + 1) := by
  induction r with
  | zero => simp [txtP]
  | succ r ih => rw [txtP, List.length_append, List.length_append, ih, rowP_len, Nat.add_mul]; simp; omega
theorem rowP_byte (f : GF) (h : ∀ k, 0 ≤ f.ore.getD k 0) (W r c : Nat) : ∀ x ∈ rowP f W r c, 0 ≤ x ∧ x ≤ 255 := by
  induction c with
  | zero => simp [rowP]
  | succ c ih =>
    intro x hx
    rw [rowP] at hx
    rcases List.mem_append.1 hx with h1 | h1
    · exact ih x h1
    · obtain rfl := List.mem_singleton.1 h1
      exact signB_bd _ _ (h _)
theorem txtP_byte (f : GF) (h : ∀ k, 0 ≤ f.ore.getD k 0) (W r : Nat) : ∀ x ∈ txtP f W r, 0 ≤ x ∧ x ≤ 255 := by
  induction r with
  | zero => simp [txtP]
  | succ r ih =>
    intro x hx
    rw [txtP] at hx
    rcases List.mem_append.1 hx with h1 | h1
    · rcases List.mem_append.1 h1 with h2 | h2
      · exact ih x h2
      · exact rowP_byte f h W r W x h2
    · obtain rfl := List.mem_singleton.1 h1
      omega
def fieldT (f : GF) : List Int := txtP f f.wide.toNat f.high.toNat
theorem Good.ores {f : GF} (h : Good f) (k : Nat) : 0 ≤ f.ore.getD k 0 ∧ f.ore.getD k 0 ≤ 1000000 ∧ (0 < f.ore.getD k 0 → f.ground.getD k 0 = 0) ∧ 0 ≤ f.ground.getD k 0 ∧ f.ground.getD k 0 ≤ 3 := by
  have hl := h.len
  rcases Nat.lt_or_ge k f.ground.length with hk | hk
  · have := cellsE_good f.ground f.ore h.cells (by omega) k (f.ground[k]'hk) (f.ore[k]'(by omega)) (List.getElem?_eq_getElem hk) (List.getElem?_eq_getElem (by omega))
    rw [List.getD_eq_getElem?_getD, List.getD_eq_getElem?_getD, List.getElem?_eq_getElem hk, List.getElem?_eq_getElem (by omega)]
    simp only [Option.getD_some]
    exact ⟨this.2.2.1, this.2.2.2.1, this.2.2.2.2, this.1, this.2.1⟩
  · rw [List.getD_eq_getElem?_getD, List.getD_eq_getElem?_getD, List.getElem?_eq_none hk, List.getElem?_eq_none (by omega)]
    simp
end Go.Proofs.YtkgkpggfoieioaaDoor
