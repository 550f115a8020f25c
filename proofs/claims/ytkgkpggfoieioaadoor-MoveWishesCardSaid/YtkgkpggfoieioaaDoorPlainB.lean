import Derived.Test.YtkgkpggfoieioaaDoorMrgb
namespace Go.Proofs.YtkgkpggfoieioaaDoor
set_option linter.unusedVariables false
theorem besL_eq (f : GF) (a : Int) : besL f a = (if a / f.wide - 1 < 0 then [] else [a - f.wide]) ++ (if a % f.wide - 1 < 0 then [] else [a - 1]) ++ (if a % f.wide + 1 < f.wide then [a + 1] else []) ++ (if a / f.wide + 1 < f.high then [a + f.wide] else []) := by
  show ([] ++ besS f a 0 ++ besS f a 1 ++ besS f a 2 ++ besS f a 3) = _
  rw [List.nil_append]; rfl
theorem besL_len (f : GF) (a : Int) : (besL f a).length ≤ 4 := besN_len f a 4
theorem mem_one {c : Prop} [Decidable c] {x y : Int} : x ∈ (if c then [] else [y]) ↔ ¬c ∧ x = y := by
  by_cases h : c
  · rw [if_pos h]; simp [h]
  · rw [if_neg h]; simp [h]
theorem mem_one' {c : Prop} [Decidable c] {x y : Int} : x ∈ (if c then [y] else []) ↔ c ∧ x = y := by
  by_cases h : c
  · rw [if_pos h]; simp [h]
  · rw [if_neg h]; simp [h]
theorem mem_bes (f : GF) (a b : Int) : b ∈ besL f a ↔ (1 ≤ a / f.wide ∧ b = a - f.wide) ∨ (1 ≤ a % f.wide ∧ b = a - 1) ∨ (a % f.wide + 1 < f.wide ∧ b = a + 1) ∨ (a / f.wide + 1 < f.high ∧ b = a + f.wide) := by
  rw [besL_eq]
  simp only [List.mem_append, mem_one, mem_one']
  omega
theorem dm {a w : Int} (hw : 0 < w) (q r : Int) (h : r + w * q = a) (h0 : 0 ≤ r) (h1 : r < w) : a / w = q ∧ a % w = r := (Int.ediv_emod_unique hw).2 ⟨h, h0, h1⟩
/-- What is beside a cell: where it lies. -/
theorem bes_dm (f : GF) (a b : Int) (hw : 1 ≤ f.wide) (hb : b ∈ besL f a) :
    (1 ≤ a / f.wide ∧ b = a - f.wide ∧ b / f.wide = a / f.wide - 1 ∧ b % f.wide = a % f.wide) ∨ (1 ≤ a % f.wide ∧ b = a - 1 ∧ b / f.wide = a / f.wide ∧ b % f.wide = a % f.wide - 1) ∨
    (a % f.wide + 1 < f.wide ∧ b = a + 1 ∧ b / f.wide = a / f.wide ∧ b % f.wide = a % f.wide + 1) ∨ (a / f.wide + 1 < f.high ∧ b = a + f.wide ∧ b / f.wide = a / f.wide + 1 ∧ b % f.wide = a % f.wide) := by
  have hd : f.wide * (a / f.wide) + a % f.wide = a := Int.mul_ediv_add_emod a f.wide
  have h0 : 0 ≤ a % f.wide := Int.emod_nonneg _ (by omega)
  have h1 : a % f.wide < f.wide := Int.emod_lt_of_pos _ (by omega)
  rcases (mem_bes f a b).1 hb with ⟨h, rfl⟩ | ⟨h, rfl⟩ | ⟨h, rfl⟩ | ⟨h, rfl⟩
  · exact .inl ⟨h, rfl, dm (by omega) _ _ (by rw [Int.mul_sub]; omega) h0 h1⟩
  · exact .inr (.inl ⟨h, rfl, dm (by omega) _ _ (by omega) (by omega) (by omega)⟩)
  · exact .inr (.inr (.inl ⟨h, rfl, dm (by omega) _ _ (by omega) (by omega) (by omega)⟩))
  · exact .inr (.inr (.inr ⟨h, rfl, dm (by omega) _ _ (by rw [Int.mul_add]; omega) h0 h1⟩))
/-- Beside is either way. -/
theorem bes_sym (f : GF) (a b : Int) (hw : 1 ≤ f.wide) (hr0 : 0 ≤ a / f.wide) (hr : a / f.wide < f.high) (hb : b ∈ besL f a) : a ∈ besL f b := by
  have h0 : 0 ≤ a % f.wide := Int.emod_nonneg _ (by omega)
  have h1 : a % f.wide < f.wide := Int.emod_lt_of_pos _ (by omega)
  rw [mem_bes]
  rcases bes_dm f a b hw hb with ⟨h, h2, h3, h4⟩ | ⟨h, h2, h3, h4⟩ | ⟨h, h2, h3, h4⟩ | ⟨h, h2, h3, h4⟩ <;> rw [h3, h4] <;> omega
theorem row_bd {a w h : Int} (hw : 1 ≤ w) (ha : 0 ≤ a) (hl : a < w * h) : 0 ≤ a / w ∧ a / w < h :=
  ⟨Int.ediv_nonneg ha (by omega), Int.ediv_lt_of_lt_mul (by omega) (by rw [Int.mul_comm]; exact hl)⟩
theorem cell_bd {b w h : Int} (hw : 1 ≤ w) (h0 : 0 ≤ b / w) (h1 : b / w < h) : 0 ≤ b ∧ b < w * h := by
  have hd : w * (b / w) + b % w = b := Int.mul_ediv_add_emod b w
  have h2 : 0 ≤ b % w := Int.emod_nonneg _ (by omega)
  have h3 : b % w < w := Int.emod_lt_of_pos _ (by omega)
  have h4 : 0 ≤ w * (b / w) := Int.mul_nonneg (by omega) h0
  have h5 : w * (b / w + 1) ≤ w * h := Int.mul_le_mul_of_nonneg_left (by omega) (by omega)
  rw [Int.mul_add] at h5
  omega
theorem bes_in (f : GF) (a b : Int) (hw : 1 ≤ f.wide) (ha : 0 ≤ a) (hl : a < f.wide * f.high) (hb : b ∈ besL f a) : 0 ≤ b ∧ b < f.wide * f.high := by
  obtain ⟨r0, r1⟩ := row_bd hw ha hl
  have key : 0 ≤ b / f.wide ∧ b / f.wide < f.high := by
    rcases bes_dm f a b hw hb with ⟨h, _, h3, _⟩ | ⟨h, _, h3, _⟩ | ⟨h, _, h3, _⟩ | ⟨h, _, h3, _⟩
    all_goals
      rw [h3]
      generalize a / f.wide = r at *
      clear h3
      omega
  exact cell_bd hw key.1 key.2
theorem bes_sorted (f : GF) (a : Int) (hw : 1 ≤ f.wide) : (besL f a).Pairwise (· < ·) := by
  have h0 : 0 ≤ a % f.wide := Int.emod_nonneg _ (by omega)
  have h1 : a % f.wide < f.wide := Int.emod_lt_of_pos _ (by omega)
  rw [besL_eq]
  generalize a / f.wide = r
  generalize a % f.wide = c at *
  split <;> split <;> split <;> split <;> simp <;> omega
theorem bes_nodup (f : GF) (a : Int) (hw : 1 ≤ f.wide) (i k : Nat) (hik : k < i) (hi : i < (besL f a).length) : (besL f a).getD k 0 ≠ (besL f a).getD i 0 := by
  have h := List.pairwise_iff_getElem.1 (bes_sorted f a hw) k i (by omega) hi hik
  rw [List.getD_eq_getElem?_getD, List.getD_eq_getElem?_getD, List.getElem?_eq_getElem (by omega), List.getElem?_eq_getElem hi]
  simp only [Option.getD_some]
  omega
end Go.Proofs.YtkgkpggfoieioaaDoor
