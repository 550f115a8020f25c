import Derived.Test.YtkgkpggfoieioaaDoorPlainF
namespace Go.Proofs.YtkgkpggfoieioaaDoor
set_option linter.unusedVariables false
/-- A number without a sign of one that has one, and back. -/
def zz (n : Int) : Nat := if 0 ≤ n then (2 * n).toNat else (-2 * n - 1).toNat
def unz (x : Nat) : Int := if x % 2 = 0 then (x / 2 : Nat) else -((x / 2 : Nat) : Int) - 1
theorem unz_zz (n : Int) : unz (zz n) = n := by
  unfold unz zz
  by_cases h : 0 ≤ n
  · rw [if_pos h, if_pos (by omega)]; omega
  · rw [if_neg h, if_neg (by omega)]; omega
theorem zz_unz (x : Nat) : zz (unz x) = x := by
  unfold unz zz
  by_cases h : x % 2 = 0
  · rw [if_pos h, if_pos (by omega)]; omega
  · rw [if_neg h, if_neg (by omega)]; omega
theorem zz_lt (n : Int) (h : -9223372036854775808 ≤ n ∧ n ≤ 9223372036854775807) : zz n < 18446744073709551616 := by
  unfold zz; split <;> omega
theorem unz_bd (x : Nat) (h : x < 18446744073709551616) : -9223372036854775808 ≤ unz x ∧ unz x ≤ 9223372036854775807 := by
  unfold unz; split <;> omega
/-- The bytes of a number, and of one that has a sign. -/
def vbN (x : Nat) : List Int := if x < 128 then [(x : Int)] else ((x % 128 + 128 : Nat) : Int) :: vbN (x / 128)
termination_by x
decreasing_by omega
def numL (n : Int) : List Int := vbN (zz n)
theorem vb_lo (x : Nat) (h : x < 128) : vbN x = [(x : Int)] := by rw [vbN, if_pos h]
theorem vb_hi (x : Nat) (h : 128 ≤ x) : vbN x = ((x % 128 + 128 : Nat) : Int) :: vbN (x / 128) := by rw [vbN, if_neg (by omega)]
theorem vb_pos (x : Nat) : 0 < (vbN x).length := by
  rw [vbN]; split <;> simp
theorem vb_len : ∀ (f x : Nat), x < 128 ^ f → 0 < f → (vbN x).length ≤ f
  | 0, _, _, h => absurd h (by omega)
  | f + 1, x, hx, _ => by
    rcases Nat.lt_or_ge x 128 with h | h
    · rw [vb_lo x h]; simp
    · rw [vb_hi x h, List.length_cons]
      have hx' : x / 128 < 128 ^ f := Nat.div_lt_of_lt_mul (by rw [Nat.mul_comm, ← Nat.pow_succ]; exact hx)
      have hf : 0 < f := by
        rcases Nat.eq_zero_or_pos f with h0 | h0
        · subst h0; simp at hx; omega
        · exact h0
      have := vb_len f (x / 128) hx' hf
      omega
theorem vb_len10 (x : Nat) (h : x < 18446744073709551616) : (vbN x).length ≤ 10 := vb_len 10 x (Nat.lt_of_lt_of_le h (by decide)) (by omega)
theorem numL_len (n : Int) (h : -9223372036854775808 ≤ n ∧ n ≤ 9223372036854775807) : (numL n).length ≤ 10 := vb_len10 _ (zz_lt n h)
theorem vb_byte : ∀ (f x : Nat), x ≤ f → ∀ y ∈ vbN x, Byte y
  | f, x, hf, y, hy => by
    rcases Nat.lt_or_ge x 128 with h | h
    · rw [vb_lo x h] at hy
      obtain rfl : y = (x : Int) := by simpa using hy
      unfold Byte; omega
    · rw [vb_hi x h] at hy
      rcases List.mem_cons.1 hy with rfl | hy
      · unfold Byte; omega
      · match f, hf with
        | f + 1, hf => exact vb_byte f (x / 128) (by omega) y hy
        | 0, hf => omega
theorem numL_byte (n : Int) : ∀ y ∈ numL n, Byte y := vb_byte _ _ (Nat.le_refl _)
/-- A number read: the bytes from p on, i of them read, which come to x. None: a fault. -/
def rdF : Nat → Nat → Nat → List Int → Nat → Option (Nat × Nat)
  | 0, _, _, _, _ => none
  | f + 1, i, x, bs, p =>
    if bs.length ≤ p ∨ 9 < i ∨ (i = 9 ∧ 1 < bs.getD p 0) ∨ (0 < i ∧ bs.getD p 0 = 0) then none
    else if bs.getD p 0 < 128 then some (x + (bs.getD p 0).toNat * 128 ^ i, p + 1)
    else rdF f (i + 1) (x + ((bs.getD p 0).toNat - 128) * 128 ^ i) bs (p + 1)
def rdU (bs : List Int) (p : Nat) : Option (Nat × Nat) := rdF 11 0 0 bs p
/-- A number with a sign read. -/
def rdI (bs : List Int) (p : Nat) : Option (Int × Nat) := (rdU bs p).map fun r => (unz r.1, r.2)
theorem rdF_bad (f i x : Nat) (bs : List Int) (p : Nat) (h : bs.length ≤ p ∨ 9 < i ∨ (i = 9 ∧ 1 < bs.getD p 0) ∨ (0 < i ∧ bs.getD p 0 = 0)) : rdF f i x bs p = none := by
  cases f with
  | zero => rfl
  | succ f => rw [rdF, if_pos h]
theorem rdF_end (f i x : Nat) (bs : List Int) (p : Nat) (h : ¬(bs.length ≤ p ∨ 9 < i ∨ (i = 9 ∧ 1 < bs.getD p 0) ∨ (0 < i ∧ bs.getD p 0 = 0))) (hc : bs.getD p 0 < 128) : rdF (f + 1) i x bs p = some (x + (bs.getD p 0).toNat * 128 ^ i, p + 1) := by
  rw [rdF, if_neg h, if_pos hc]
theorem rdF_more (f i x : Nat) (bs : List Int) (p : Nat) (h : ¬(bs.length ≤ p ∨ 9 < i ∨ (i = 9 ∧ 1 < bs.getD p 0) ∨ (0 < i ∧ bs.getD p 0 = 0))) (hc : 128 ≤ bs.getD p 0) : rdF (f + 1) i x bs p = rdF f (i + 1) (x + ((bs.getD p 0).toNat - 128) * 128 ^ i) bs (p + 1) := by
  rw [rdF, if_neg h, if_neg (by omega)]
theorem getD_at (pre rest : List Int) (c : Int) : (pre ++ c :: rest).getD pre.length 0 = c := by
  rw [List.getD_eq_getElem?_getD, List.getElem?_append_right (Nat.le_refl _), Nat.sub_self]; rfl
/-- What is written is read. -/
theorem rdF_vb : ∀ (f i x0 x : Nat) (pre rest : List Int), i + f = 11 → 1 ≤ f → x < 128 ^ (10 - i) → (i = 9 → x ≤ 1) → (0 < i → 0 < x) → x * 128 ^ i < 18446744073709551616 → rdF f i x0 (pre ++ vbN x ++ rest) pre.length = some (x0 + x * 128 ^ i, pre.length + (vbN x).length)
  | 0, _, _, _, _, _, _, h, _, _, _, _ => absurd h (by omega)
  | f + 1, i, x0, x, pre, rest, hif, _, hx, h9, h0, hm => by
    have hi9 : i ≤ 9 := by
      rcases Nat.lt_or_ge 9 i with h | h
      · have e : i = 10 := by omega
        subst e
        have := h0 (by omega)
        simp at hx; omega
      · exact h
    rcases Nat.lt_or_ge x 128 with h | h
    · rw [vb_lo x h]
      have e : pre ++ [(x : Int)] ++ rest = pre ++ (x : Int) :: rest := by simp
      have g := getD_at pre rest (x : Int)
      rw [e, rdF_end f i x0 _ pre.length (by rw [g]; simp; omega) (by rw [g]; omega), g]
      simp
    · rw [vb_hi x h]
      have e : pre ++ ((x % 128 + 128 : Nat) : Int) :: vbN (x / 128) ++ rest = pre ++ ((x % 128 + 128 : Nat) : Int) :: (vbN (x / 128) ++ rest) := by simp
      have g := getD_at pre (vbN (x / 128) ++ rest) ((x % 128 + 128 : Nat) : Int)
      have hi8 : i ≤ 8 := by
        rcases Nat.lt_or_ge 8 i with h' | h'
        · have := h9 (by omega); omega
        · exact h'
      rw [e, rdF_more f i x0 _ pre.length (by rw [g]; simp; omega) (by rw [g]; omega), g]
      have e2 : pre ++ ((x % 128 + 128 : Nat) : Int) :: (vbN (x / 128) ++ rest) = (pre ++ [((x % 128 + 128 : Nat) : Int)]) ++ vbN (x / 128) ++ rest := by simp
      have hp : (128 : Nat) ^ (i + 1) = 128 ^ i * 128 := Nat.pow_succ 128 i
      have hq : x = x / 128 * 128 + x % 128 := by have := Nat.div_add_mod x 128; omega
      have hmul : x / 128 * (128 ^ i * 128) + x % 128 * 128 ^ i = x * 128 ^ i := by
        conv => rhs; rw [hq, Nat.add_mul]
        rw [Nat.mul_assoc, Nat.mul_comm 128]
      have hx2 : x / 128 < 128 ^ (10 - (i + 1)) := Nat.div_lt_of_lt_mul (by rw [Nat.mul_comm, ← Nat.pow_succ, show (10 - (i + 1)).succ = 10 - i by omega]; exact hx)
      rw [e2]
      have ih := rdF_vb f (i + 1) (x0 + ((x % 128 + 128 : Nat) - 128) * 128 ^ i) (x / 128) (pre ++ [((x % 128 + 128 : Nat) : Int)]) rest (by omega) (by omega) hx2 (fun h8 => by
          have e8 : i = 8 := by omega
          subst e8
          have e9 : (128 : Nat) ^ 8 * 128 = 9223372036854775808 := by decide
          rw [e9] at hmul
          rcases Nat.lt_or_ge 1 (x / 128) with h' | h'
          · have : 2 * 9223372036854775808 ≤ x / 128 * 9223372036854775808 := Nat.mul_le_mul_right _ h'
            omega
          · exact h') (fun _ => Nat.div_pos h (by omega)) (by rw [hp]; omega)
      have e3 : (pre ++ [((x % 128 + 128 : Nat) : Int)]).length = pre.length + 1 := by simp
      rw [e3] at ih
      rw [show ((x % 128 + 128 : Nat) : Int).toNat = x % 128 + 128 from rfl, ih, hp, List.length_cons]
      congr 2
      · rw [Nat.add_sub_cancel]; omega
      · omega
theorem rdU_vb (x : Nat) (pre rest : List Int) (h : x < 18446744073709551616) : rdU (pre ++ vbN x ++ rest) pre.length = some (x, pre.length + (vbN x).length) := by
  have := rdF_vb 11 0 0 x pre rest rfl (by omega) (Nat.lt_of_lt_of_le h (by decide)) (by omega) (by omega) (by simpa using h)
  unfold rdU
  rw [this]; simp
theorem rdI_numL (n : Int) (pre rest : List Int) (h : -9223372036854775808 ≤ n ∧ n ≤ 9223372036854775807) : rdI (pre ++ numL n ++ rest) pre.length = some (n, pre.length + (numL n).length) := by
  unfold rdI numL
  rw [rdU_vb _ pre rest (zz_lt n h)]
  simp [unz_zz]
/-- What is read was written so. -/
theorem rdF_back : ∀ (f i x0 : Nat) (bs : List Int) (p x q : Nat), i + f = 11 → (∀ y ∈ bs, Byte y) → rdF f i x0 bs p = some (x, q) → ∃ y, x = x0 + y * 128 ^ i ∧ p < q ∧ q ≤ bs.length ∧ (bs.drop p).take (q - p) = vbN y ∧ (0 < i → 0 < y) ∧ (i = 9 → y ≤ 1) ∧ y < 128 ^ (10 - i) ∧ y * 128 ^ i < 18446744073709551616
  | 0, i, x0, bs, p, x, q, _, _, h => by simp [rdF] at h
  | f + 1, i, x0, bs, p, x, q, hif, hb, h => by
    by_cases hbad : bs.length ≤ p ∨ 9 < i ∨ (i = 9 ∧ 1 < bs.getD p 0) ∨ (0 < i ∧ bs.getD p 0 = 0)
    · rw [rdF_bad _ _ _ _ _ hbad] at h; cases h
    · have hp : p < bs.length := by omega
      have hi : i ≤ 9 := by omega
      have hdrop : bs.drop p = bs.getD p 0 :: bs.drop (p + 1) := by
        rw [List.drop_eq_getElem_cons hp, List.getD_eq_getElem?_getD, List.getElem?_eq_getElem hp]; rfl
      have hby : Byte (bs.getD p 0) := by
        rw [List.getD_eq_getElem?_getD, List.getElem?_eq_getElem hp]; exact hb _ (List.getElem_mem hp)
      unfold Byte at hby
      by_cases hc : bs.getD p 0 < 128
      · rw [rdF_end f i x0 bs p hbad hc] at h
        simp only [Option.some.injEq, Prod.mk.injEq] at h
        obtain ⟨rfl, rfl⟩ := h
        refine ⟨(bs.getD p 0).toNat, rfl, by omega, by omega, ?_, by omega, by omega, ?_, ?_⟩
        · rw [show p + 1 - p = 1 by omega, hdrop, vb_lo _ (by omega), List.take_succ_cons, List.take_zero, Int.toNat_of_nonneg hby.1]
        · rcases Nat.lt_or_ge i 9 with h9 | h9
          · refine Nat.lt_of_lt_of_le (show (bs.getD p 0).toNat < 128 by omega) ?_
            have := Nat.pow_le_pow_right (show 0 < 128 by omega) (show 1 ≤ 10 - i by omega)
            simpa using this
          · obtain rfl : i = 9 := by omega
            show _ < 128 ^ 1
            omega
        · rcases Nat.lt_or_ge i 9 with h9 | h9
          · have h1 : (bs.getD p 0).toNat * 128 ^ i ≤ 127 * 128 ^ i := Nat.mul_le_mul_right _ (by omega)
            have h2 : 127 * 128 ^ i ≤ 127 * 128 ^ 8 := Nat.mul_le_mul_left _ (Nat.pow_le_pow_right (by omega) (by omega))
            have h3 : 127 * 128 ^ 8 < 18446744073709551616 := by decide
            exact Nat.lt_of_le_of_lt (Nat.le_trans h1 h2) h3
          · obtain rfl : i = 9 := by omega
            have h1 : (bs.getD p 0).toNat * 128 ^ 9 ≤ 1 * 128 ^ 9 := Nat.mul_le_mul_right _ (by omega)
            exact Nat.lt_of_le_of_lt h1 (by decide)
      · rw [rdF_more f i x0 bs p hbad (by omega)] at h
        obtain ⟨y, rfl, hpq, hq, hv, hy0, hy9, hyl, hym⟩ := rdF_back f (i + 1) _ bs (p + 1) x q (by omega) hb h
        have hpw : (128 : Nat) ^ (i + 1) = 128 ^ i * 128 := Nat.pow_succ 128 i
        have hi8 : i ≤ 8 := by
          rcases Nat.lt_or_ge 8 i with h' | h'
          · have : i = 9 := by omega
            omega
          · exact h'
        have hmul : (y * 128 + ((bs.getD p 0).toNat - 128)) * 128 ^ i = y * 128 ^ (i + 1) + ((bs.getD p 0).toNat - 128) * 128 ^ i := by
          rw [Nat.add_mul, hpw, Nat.mul_assoc, Nat.mul_comm 128]
        have hyp := hy0 (by omega)
        refine ⟨y * 128 + ((bs.getD p 0).toNat - 128), ?_, by omega, hq, ?_, by omega, by omega, ?_, ?_⟩
        · rw [hmul]; omega
        · rw [hdrop, show q - p = (q - (p + 1)) + 1 by omega, List.take_succ_cons, hv, vb_hi (y * 128 + ((bs.getD p 0).toNat - 128)) (by omega)]
          congr 1
          · omega
          · congr 1; omega
        · have e : (128 : Nat) ^ (10 - i) = 128 ^ (10 - (i + 1)) * 128 := by rw [← Nat.pow_succ, show (10 - (i + 1)).succ = 10 - i by omega]
          rw [e]; omega
        · rw [hmul]
          have e2 : (128 : Nat) ^ (i + 1) * 2 ^ (64 - 7 * (i + 1)) = 18446744073709551616 := by
            rw [show (128 : Nat) = 2 ^ 7 from rfl, ← Nat.pow_mul, ← Nat.pow_add, show 7 * (i + 1) + (64 - 7 * (i + 1)) = 64 by omega]
          have hD : 0 < (128 : Nat) ^ (i + 1) := Nat.pow_pos (by omega)
          have h1 : y < 2 ^ (64 - 7 * (i + 1)) := by
            rw [← e2, Nat.mul_comm y] at hym
            exact Nat.lt_of_mul_lt_mul_left hym
          have h2 : 128 ^ (i + 1) * (y + 1) ≤ 128 ^ (i + 1) * 2 ^ (64 - 7 * (i + 1)) := Nat.mul_le_mul_left _ h1
          rw [e2, Nat.mul_add, Nat.mul_one] at h2
          have h3 : ((bs.getD p 0).toNat - 128) * 128 ^ i ≤ 127 * 128 ^ i := Nat.mul_le_mul_right _ (by omega)
          have h4 : 0 < (128 : Nat) ^ i := Nat.pow_pos (by omega)
          rw [Nat.mul_comm y]
          omega
end Go.Proofs.YtkgkpggfoieioaaDoor
