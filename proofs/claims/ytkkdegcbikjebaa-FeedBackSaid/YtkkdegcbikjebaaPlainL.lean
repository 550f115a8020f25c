import Derived.Test.YtkkdegcbikjebaaPlainK
namespace Go.Proofs.Ytkkdegcbikjebaa
set_option linter.unusedVariables false
/-! The changes between two texts, done. -/
def sw (c : Ch) : Ch := ⟨c.a, c.n, c.o⟩
theorem diffN_sw (xs ys : List Int) (k : Nat) : (diffN xs ys k).map sw = diffN ys xs k := by
  induction k with
  | zero => rfl
  | succ k ih =>
    by_cases h : atV xs k = atV ys k
    · rw [diffN_yes _ _ _ h, diffN_yes _ _ _ h.symm, ih]
    · rw [diffN_no _ _ _ h, diffN_no _ _ _ (fun e => h e.symm), List.map_append, ih]; rfl
theorem diffL_sw (xs ys : List Int) : (diffL xs ys).map sw = diffL ys xs := by
  unfold diffL
  rw [diffN_sw, Nat.max_comm]
theorem diffN_self (xs : List Int) (k : Nat) : diffN xs xs k = [] := by
  induction k with
  | zero => rfl
  | succ k ih => rw [diffN_yes _ _ _ rfl, ih]
theorem diffL_self (xs : List Int) : diffL xs xs = [] := diffN_self xs _
theorem diffN_mono (xs ys : List Int) {i j : Nat} (h : i ≤ j) : (diffN xs ys i).length ≤ (diffN xs ys j).length := by
  obtain ⟨t, ht⟩ := diffN_pre xs ys i (j - i)
  rw [Nat.add_sub_cancel' h] at ht
  rw [ht, List.length_append]; omega
/-- Each change stands for one place that is unlike. -/
theorem diffN_at (xs ys : List Int) : ∀ i k, k < (diffN xs ys i).length → ∃ j, j < i ∧ (diffN xs ys i)[k]? = some ⟨j, atV xs j, atV ys j⟩ ∧ atV xs j ≠ atV ys j ∧ k = (diffN xs ys j).length
  | 0, k, h => by simp [diffN] at h
  | i + 1, k, h => by
    by_cases hq : atV xs i = atV ys i
    · rw [diffN_yes _ _ _ hq] at h ⊢
      obtain ⟨j, h1, h2⟩ := diffN_at xs ys i k h
      exact ⟨j, by omega, h2⟩
    · rw [diffN_no _ _ _ hq] at h ⊢
      rw [List.length_append, List.length_singleton] at h
      rcases Nat.lt_or_ge k (diffN xs ys i).length with hk | hk
      · obtain ⟨j, h1, h2, h3⟩ := diffN_at xs ys i k hk
        exact ⟨j, by omega, by rw [List.getElem?_append_left hk]; exact h2, h3⟩
      · have hk2 : k = (diffN xs ys i).length := by omega
        exact ⟨i, by omega, by rw [List.getElem?_append_right hk, hk2, Nat.sub_self]; rfl, hq, hk2⟩
theorem chG_of {L : List Ch} {k : Nat} {c : Ch} (h : L[k]? = some c) : chG L k = c := by
  unfold chG; rw [List.getD_eq_getElem?_getD, h]; rfl
theorem atV_lt {xs ys : List Int} {i : Nat} (h : atV xs i ≠ atV ys i) : i < max xs.length ys.length := by
  rcases Nat.lt_or_ge i (max xs.length ys.length) with h1 | h1
  · exact h1
  · exact absurd ((atV_out xs i (by omega)).trans (atV_out ys i (by omega)).symm) h
theorem diff_chE (xs ys : List Int) (hx : ∀ x ∈ xs, Byte x) (hy : ∀ x ∈ ys, Byte x) (h1 : xs.length ≤ 6000) (h2 : ys.length ≤ 6000) (k : Nat) (hk : k < (diffL xs ys).length) : chE (diffL xs ys) k = 0 := by
  obtain ⟨j, hj, hg, hne, hkj⟩ := diffN_at xs ys _ k hk
  have hc : chG (diffL xs ys) k = ⟨j, atV xs j, atV ys j⟩ := chG_of hg
  have b1 := atV_bd xs hx j
  have b2 := atV_bd ys hy j
  refine chE_0 _ _ ?_ ?_
  · rw [hc]
    unfold badCh
    simp only [decide_eq_false_iff_not]
    omega
  · rintro ⟨h0, hle⟩
    obtain ⟨j', hj', hg', hne', hkj'⟩ := diffN_at xs ys _ (k - 1) (show k - 1 < (diffN xs ys (max xs.length ys.length)).length by unfold diffL at hk; omega)
    have hc' : chG (diffL xs ys) (k - 1) = ⟨j', atV xs j', atV ys j'⟩ := chG_of hg'
    rw [hc, hc'] at hle
    have hle2 : j ≤ j' := by
      have : (j : Int) ≤ (j' : Int) := hle
      omega
    have := diffN_mono xs ys hle2
    omega
theorem chkN_zero (L : List Ch) : ∀ n, (∀ i, i < n → chE L i = 0) → chkN L n = 0
  | 0, _ => rfl
  | n + 1, h => by rw [chkN_next L n (chkN_zero L n fun i hi => h i (by omega))]; exact h n (by omega)
theorem diff_chk (xs ys : List Int) (hx : ∀ x ∈ xs, Byte x) (hy : ∀ x ∈ ys, Byte x) (h1 : xs.length ≤ 6000) (h2 : ys.length ≤ 6000) : chkL (diffL xs ys) = 0 := by
  unfold chkL
  have := diffL_len xs ys h1 h2
  rw [if_neg (by omega)]
  exact chkN_zero _ _ fun i hi => diff_chE xs ys hx hy h1 h2 i hi
/-- The first i places are the new text's, the others the old one's. -/
def mixV (xs ys : List Int) (i : Nat) : List Int := (List.range 6000).map fun j => if j < i then atV ys j else atV xs j
theorem mixV_len (xs ys : List Int) (i : Nat) : (mixV xs ys i).length = 6000 := by simp [mixV]
theorem mixV_get (xs ys : List Int) (i j : Nat) : (mixV xs ys i)[j]? = if j < 6000 then some (if j < i then atV ys j else atV xs j) else none := by
  unfold mixV
  rw [List.getElem?_map]
  by_cases h : j < 6000
  · rw [List.getElem?_range h, if_pos h]; rfl
  · rw [List.getElem?_eq_none (by simp; omega), if_neg h]; rfl
theorem mixV_at (xs ys : List Int) (i j : Nat) (h : j < 6000) : at0 (mixV xs ys i) j = if j < i then atV ys j else atV xs j := by
  unfold at0; rw [List.getD_eq_getElem?_getD, mixV_get, if_pos h]; rfl
theorem mixV_same (xs ys : List Int) (i : Nat) (h : atV xs i = atV ys i) : mixV xs ys (i + 1) = mixV xs ys i := by
  refine List.ext_getElem? fun j => ?_
  rw [mixV_get, mixV_get]
  by_cases hj : j < 6000
  · rw [if_pos hj, if_pos hj]
    rcases Nat.lt_trichotomy j i with h1 | h1 | h1
    · rw [if_pos (by omega), if_pos h1]
    · subst h1; rw [if_pos (by omega), if_neg (by omega), h]
    · rw [if_neg (by omega), if_neg (by omega)]
  · rw [if_neg hj, if_neg hj]
theorem mixV_set (xs ys : List Int) (i : Nat) (hi : i < 6000) : (mixV xs ys i).set i (atV ys i) = mixV xs ys (i + 1) := by
  refine List.ext_getElem? fun j => ?_
  rw [List.getElem?_set, mixV_get, mixV_get, mixV_len]
  by_cases hq : i = j
  · subst hq; rw [if_pos rfl, if_pos hi, if_pos hi, if_pos (by omega)]
  · rw [if_neg hq]
    by_cases hj : j < 6000
    · rw [if_pos hj, if_pos hj]
      by_cases hl : j < i
      · rw [if_pos hl, if_pos (by omega)]
      · rw [if_neg hl, if_neg (by omega)]
    · rw [if_neg hj, if_neg hj]
theorem mixV_0 (xs ys : List Int) : mixV xs ys 0 = all0 xs := by
  unfold mixV all0
  exact List.map_congr_left fun j _ => if_neg (by omega)
theorem mixV_end (xs ys : List Int) (i : Nat) (h1 : xs.length ≤ i) (h2 : ys.length ≤ i) : mixV xs ys i = all0 ys := by
  unfold mixV all0
  refine List.map_congr_left fun j _ => ?_
  by_cases h : j < i
  · exact if_pos h
  · show (if j < i then _ else _) = _
    rw [if_neg h, atV_out xs j (by omega), atV_out ys j (by omega)]
theorem diff_appS (xs ys : List Int) (hx : ∀ x ∈ xs, Byte x) (hy : ∀ x ∈ ys, Byte x) (h1 : xs.length ≤ 6000) (h2 : ys.length ≤ 6000) : ∀ i, i ≤ max xs.length ys.length → appS (diffL xs ys) (all0 xs) (diffN xs ys i).length = (0, mixV xs ys i)
  | 0, _ => by rw [mixV_0]; rfl
  | i + 1, hi => by
    have ih := diff_appS xs ys hx hy h1 h2 i (by omega)
    by_cases hq : atV xs i = atV ys i
    · rw [diffN_yes _ _ _ hq, ih, mixV_same _ _ _ hq]
    · obtain ⟨hg, hlt⟩ := diffL_get xs ys i (by omega) hq
      have hc := chG_of hg
      have hE := diff_chE xs ys hx hy h1 h2 _ hlt
      have hl : (diffN xs ys (i + 1)).length = (diffN xs ys i).length + 1 := by rw [diffN_no _ _ _ hq]; simp
      have hz : (appS (diffL xs ys) (all0 xs) (diffN xs ys i).length).1 = 0 := by rw [ih]
      have hs : (appS (diffL xs ys) (all0 xs) (diffN xs ys i).length).2 = mixV xs ys i := by rw [ih]
      have ha : (chG (diffL xs ys) (diffN xs ys i).length).a.toNat = i := by rw [hc]; exact Int.toNat_natCast i
      have ho : (chG (diffL xs ys) (diffN xs ys i).length).o = atV xs i := by rw [hc]
      have hn : (chG (diffL xs ys) (diffN xs ys i).length).n = atV ys i := by rw [hc]
      rw [hl, appS_ok _ _ _ hz hE (by rw [hs, ha, ho, mixV_at _ _ _ _ (by omega), if_neg (by omega)]), hs, ha, hn, mixV_set _ _ _ (by omega)]
theorem all0_ix (ys : List Int) (hy : ∀ x ∈ ys, Byte x) (h2 : ys.length ≤ 6000) : ixL (all0 ys) = ys.length := by
  refine ixL_eq _ _ (fun i hi => ?_) ?_
  · rw [all0_at _ _ (by omega)]
    have h := atV_in ys i hi
    have := hy _ (List.mem_of_getElem? h)
    unfold Byte at this
    omega
  · rw [all0_len]
    rcases Nat.lt_or_ge ys.length 6000 with h | h
    · exact .inr ⟨h, by rw [all0_at _ _ h, atV_out _ _ (Nat.le_refl _)]⟩
    · exact .inl (by omega)
theorem all0_shp (ys : List Int) (hy : ∀ x ∈ ys, Byte x) (h2 : ys.length ≤ 6000) : shpB (all0 ys) = false := by
  cases h : shpB (all0 ys) with
  | false => rfl
  | true =>
    obtain ⟨i, h3, h4, h5⟩ := (shpB_iff _).1 h
    rw [all0_ix ys hy h2] at h3
    rw [all0_len] at h4
    rw [all0_at _ _ h4, atV_out _ _ h3] at h5
    omega
theorem all0_take (ys : List Int) (h2 : ys.length ≤ 6000) : (all0 ys).take ys.length = ys := by
  refine List.ext_getElem? fun i => ?_
  rcases Nat.lt_or_ge i ys.length with h | h
  · rw [List.getElem?_take_of_lt h, atV_in ys i h]
    unfold all0
    rw [List.getElem?_map, List.getElem?_range (by omega)]; rfl
  · rw [List.getElem?_eq_none (by rw [List.length_take]; omega), List.getElem?_eq_none h]
/-- What has changed makes of the old the new. -/
theorem diff_app (xs ys : List Int) (hx : ∀ x ∈ xs, Byte x) (hy : ∀ x ∈ ys, Byte x) (h1 : xs.length ≤ 6000) (h2 : ys.length ≤ 6000) : appE xs (diffL xs ys) = 0 ∧ appB xs (diffL xs ys) = ys := by
  have hR : appR xs (diffL xs ys) = (0, all0 ys) := by
    have := diff_appS xs ys hx hy h1 h2 _ (Nat.le_refl _)
    rw [mixV_end _ _ _ (by omega) (by omega)] at this
    exact this
  have hl := diffL_len xs ys h1 h2
  have hE : appE xs (diffL xs ys) = 0 := by
    unfold appE
    rw [if_neg (by omega), hR, if_neg (by simp), all0_shp ys hy h2]; rfl
  refine ⟨hE, ?_⟩
  unfold appB
  have hR2 : (appR xs (diffL xs ys)).2 = all0 ys := by rw [hR]
  rw [if_pos hE, hR2, all0_ix ys hy h2, all0_take ys h2]
/-! What is packed is read as it was. -/
theorem pkN_split (L : List Ch) (k d : Nat) : ∃ t, pkN L (k + d) = pkN L k ++ t := by
  induction d with
  | zero => exact ⟨[], by simp⟩
  | succ d ih =>
    obtain ⟨t, ht⟩ := ih
    exact ⟨t ++ pkO L (k + d), by rw [← Nat.add_assoc, pkN, ht, List.append_assoc]⟩
theorem pkB_len (L : List Ch) (hL : L.length ≤ 6000) : (pkB L).length ≤ 180010 := by
  unfold pkB
  split
  · rename_i h
    have hN : chkN L L.length = 0 := by unfold chkL at h; rwa [if_neg (by omega)] at h
    have := pkN_len L L.length hL hN L.length (Nat.le_refl _)
    omega
  · simp
end Go.Proofs.Ytkkdegcbikjebaa
