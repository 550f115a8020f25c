import Derived.Test.YtkkdegcbikjebaaPlainF
import Derived.Test.YtkkdegcbikjebaaPlainN
import Derived.Test.YtkkdegcbikjebaaPlainS
namespace Go.Proofs.Ytkkdegcbikjebaa
set_option linter.unusedVariables false
/-! Changes: what is wrong with them, what comes of them, and their bytes. -/
def sgnOk (n : Int) : Bool := decide (-1 ≤ n ∧ n ≤ 255)
def badCh (c : Ch) : Bool := decide (c.a < 0 ∨ 5999 < c.a ∨ ¬(-1 ≤ c.o ∧ c.o ≤ 255) ∨ ¬(-1 ≤ c.n ∧ c.n ≤ 255) ∨ c.o = c.n)
def chG (L : List Ch) (i : Nat) : Ch := L.getD i ⟨0, 0, 0⟩
theorem chG_get (L : List Ch) (i : Nat) (h : i < L.length) : L[i]? = some (chG L i) := by
  unfold chG; rw [List.getD_eq_getElem?_getD, List.getElem?_eq_getElem h]; rfl
def chE (L : List Ch) (i : Nat) : Int := if badCh (chG L i) = true then 1 else if 0 < i ∧ (chG L i).a ≤ (chG L (i - 1)).a then 5 else 0
theorem chE_1 (L : List Ch) (i : Nat) (h : badCh (chG L i) = true) : chE L i = 1 := if_pos h
theorem chE_5 (L : List Ch) (i : Nat) (h : badCh (chG L i) = false) (h2 : 0 < i ∧ (chG L i).a ≤ (chG L (i - 1)).a) : chE L i = 5 := by unfold chE; rw [if_neg (by simp [h]), if_pos h2]
theorem chE_0 (L : List Ch) (i : Nat) (h : badCh (chG L i) = false) (h2 : ¬(0 < i ∧ (chG L i).a ≤ (chG L (i - 1)).a)) : chE L i = 0 := by unfold chE; rw [if_neg (by simp [h]), if_neg h2]
theorem good_ch {c : Ch} (h : badCh c = false) : 0 ≤ c.a ∧ c.a ≤ 5999 ∧ -1 ≤ c.o ∧ c.o ≤ 255 ∧ -1 ≤ c.n ∧ c.n ≤ 255 ∧ c.o ≠ c.n := by
  unfold badCh at h
  simp only [decide_eq_false_iff_not] at h
  omega
theorem chE_good (L : List Ch) (i : Nat) (h : chE L i = 0) : badCh (chG L i) = false ∧ (0 < i → (chG L (i - 1)).a < (chG L i).a) := by
  cases hb : badCh (chG L i) with
  | true => rw [chE_1 L i hb] at h; cases h
  | false =>
    refine ⟨rfl, fun hi => ?_⟩
    by_cases h2 : 0 < i ∧ (chG L i).a ≤ (chG L (i - 1)).a
    · rw [chE_5 L i hb h2] at h; cases h
    · omega
def chkN (L : List Ch) : Nat → Int
  | 0 => 0
  | k + 1 => if chkN L k ≠ 0 then chkN L k else chE L k
def chkL (L : List Ch) : Int := if 6000 < L.length then 4 else chkN L L.length
theorem chkN_next (L : List Ch) (k : Nat) (h : chkN L k = 0) : chkN L (k + 1) = chE L k := by rw [chkN, if_neg (by simp [h])]
theorem chkN_stop (L : List Ch) (k : Nat) (h : chkN L k ≠ 0) : ∀ d, chkN L (k + d) = chkN L k
  | 0 => rfl
  | d + 1 => by rw [← Nat.add_assoc, chkN, chkN_stop L k h d, if_pos h]
theorem chkN_end (L : List Ch) (k n : Nat) (hk : k ≤ n) (h : chkN L k ≠ 0) : chkN L n = chkN L k := by
  have := chkN_stop L k h (n - k)
  rwa [Nat.add_sub_cancel' hk] at this
theorem chkN_pre (L : List Ch) (k n : Nat) (hk : k ≤ n) (h : chkN L n = 0) : chkN L k = 0 := Classical.byContradiction fun hh => by
  rw [chkN_end L k n hk hh] at h; exact hh h
theorem chkN_all (L : List Ch) (n : Nat) (h : chkN L n = 0) (i : Nat) (hi : i < n) : chE L i = 0 := by
  rw [← chkN_next L i (chkN_pre L i n (by omega) h)]
  exact chkN_pre L (i + 1) n (by omega) h
/-- The places, and what is wrong. -/
def appS (L : List Ch) (a0 : List Int) : Nat → Int × List Int
  | 0 => (0, a0)
  | k + 1 => if (appS L a0 k).1 ≠ 0 then appS L a0 k else if chE L k ≠ 0 then (chE L k, (appS L a0 k).2)
      else if at0 (appS L a0 k).2 (chG L k).a.toNat ≠ (chG L k).o then (7, (appS L a0 k).2) else (0, (appS L a0 k).2.set (chG L k).a.toNat (chG L k).n)
theorem appS_bad (L : List Ch) (a0 : List Int) (k : Nat) (h : (appS L a0 k).1 = 0) (h2 : chE L k ≠ 0) : appS L a0 (k + 1) = (chE L k, (appS L a0 k).2) := by rw [appS, if_neg (by simp [h]), if_pos h2]
theorem appS_7 (L : List Ch) (a0 : List Int) (k : Nat) (h : (appS L a0 k).1 = 0) (h2 : chE L k = 0) (h3 : at0 (appS L a0 k).2 (chG L k).a.toNat ≠ (chG L k).o) : appS L a0 (k + 1) = (7, (appS L a0 k).2) := by rw [appS, if_neg (by simp [h]), if_neg (by simp [h2]), if_pos h3]
theorem appS_ok (L : List Ch) (a0 : List Int) (k : Nat) (h : (appS L a0 k).1 = 0) (h2 : chE L k = 0) (h3 : at0 (appS L a0 k).2 (chG L k).a.toNat = (chG L k).o) : appS L a0 (k + 1) = (0, (appS L a0 k).2.set (chG L k).a.toNat (chG L k).n) := by rw [appS, if_neg (by simp [h]), if_neg (by simp [h2]), if_neg (by simp [h3])]
theorem appS_stop (L : List Ch) (a0 : List Int) (k : Nat) (h : (appS L a0 k).1 ≠ 0) : ∀ d, appS L a0 (k + d) = appS L a0 k
  | 0 => rfl
  | d + 1 => by rw [← Nat.add_assoc, appS, appS_stop L a0 k h d, if_pos h]
theorem appS_end (L : List Ch) (a0 : List Int) (k n : Nat) (hk : k ≤ n) (h : (appS L a0 k).1 ≠ 0) : appS L a0 n = appS L a0 k := by
  have := appS_stop L a0 k h (n - k)
  rwa [Nat.add_sub_cancel' hk] at this
theorem appS_len (L : List Ch) (a0 : List Int) (k : Nat) : (appS L a0 k).2.length = a0.length := by
  induction k with
  | zero => rfl
  | succ k ih =>
    rw [appS]
    repeat' split
    all_goals (try rw [List.length_set]); exact ih
/-- All that stands is a byte, or nothing. -/
def SgnL (l : List Int) : Prop := ∀ x ∈ l, -1 ≤ x ∧ x ≤ 255
theorem appS_sgn (L : List Ch) (a0 : List Int) (h : SgnL a0) (k : Nat) : SgnL (appS L a0 k).2 := by
  induction k with
  | zero => exact h
  | succ k ih =>
    rw [appS]
    split
    · exact ih
    · split
      · exact ih
      · rename_i h1 h2
        split
        · exact ih
        · intro x hx
          have hg := good_ch (chE_good L k (Classical.byContradiction fun h => h2 h)).1
          rcases List.mem_or_eq_of_mem_set hx with h3 | h3
          · exact ih x h3
          · subst h3; omega
def all0 (xs : List Int) : List Int := (List.range 6000).map (atV xs)
theorem all0_len (xs : List Int) : (all0 xs).length = 6000 := by simp [all0]
theorem all0_sgn (xs : List Int) (h : ∀ x ∈ xs, Byte x) : SgnL (all0 xs) := fun x hx => by
  unfold all0 at hx
  obtain ⟨i, _, rfl⟩ := List.mem_map.1 hx
  exact atV_bd xs h i
theorem all0_at (xs : List Int) (i : Nat) (h : i < 6000) : at0 (all0 xs) i = atV xs i := by
  unfold all0 at0
  rw [List.getD_eq_getElem?_getD, List.getElem?_map, List.getElem?_range h]; rfl
/-- How many places there are ahead of the first that is empty. -/
def ixL (l : List Int) : Nat := l.findIdx (fun x => decide (x = -1))
theorem ixL_le (l : List Int) : ixL l ≤ l.length := List.findIdx_le_length
theorem ixL_pre (l : List Int) (i : Nat) (h : i < ixL l) : at0 l i ≠ -1 := by
  have hl : i < l.length := Nat.lt_of_lt_of_le h (ixL_le l)
  have := List.not_of_lt_findIdx h
  unfold at0
  rw [List.getD_eq_getElem?_getD, List.getElem?_eq_getElem hl]
  simpa using this
theorem ixL_at (l : List Int) (h : ixL l < l.length) : at0 l (ixL l) = -1 := by
  have h3 : decide (l[ixL l]'h = -1) = true := List.findIdx_getElem (p := fun x : Int => decide (x = -1)) (w := h)
  unfold at0
  rw [List.getD_eq_getElem?_getD, List.getElem?_eq_getElem h]
  exact of_decide_eq_true h3
theorem ixL_eq (l : List Int) (n : Nat) (h : ∀ i, i < n → at0 l i ≠ -1) (h2 : n = l.length ∨ (n < l.length ∧ at0 l n = -1)) : ixL l = n := by
  have hn : n ≤ l.length := by omega
  rcases Nat.lt_trichotomy (ixL l) n with h3 | h3 | h3
  · exact absurd (ixL_at l (by omega)) (h _ h3)
  · exact h3
  · have h5 := ixL_le l
    rcases h2 with h4 | ⟨_, h4⟩
    · omega
    · exact absurd h4 (ixL_pre l n h3)
def shpB (l : List Int) : Bool := (l.drop (ixL l)).any (fun x => decide (0 ≤ x))
theorem shpB_iff (l : List Int) : shpB l = true ↔ ∃ i, ixL l ≤ i ∧ i < l.length ∧ 0 ≤ at0 l i := by
  unfold shpB
  rw [List.any_eq_true]
  constructor
  · rintro ⟨x, hx, h0⟩
    obtain ⟨j, hj, rfl⟩ := List.getElem_of_mem hx
    rw [List.length_drop] at hj
    refine ⟨ixL l + j, by omega, by omega, ?_⟩
    rw [List.getElem_drop] at h0
    unfold at0
    rw [List.getD_eq_getElem?_getD, List.getElem?_eq_getElem (by omega)]
    simpa using h0
  · rintro ⟨i, h1, h2, h3⟩
    refine ⟨at0 l i, ?_, by simpa using h3⟩
    have : (l.drop (ixL l))[i - ixL l]? = l[i]? := by rw [List.getElem?_drop]; congr 1; omega
    refine List.mem_of_getElem? (i := i - ixL l) ?_
    rw [this]
    unfold at0
    rw [List.getD_eq_getElem?_getD, List.getElem?_eq_getElem h2]; rfl
def appR (xs : List Int) (L : List Ch) : Int × List Int := appS L (all0 xs) L.length
def appE (xs : List Int) (L : List Ch) : Int := if 6000 < xs.length ∨ 6000 < L.length then 4 else if (appR xs L).1 ≠ 0 then (appR xs L).1 else if shpB (appR xs L).2 = true then 3 else 0
def appB (xs : List Int) (L : List Ch) : List Int := if appE xs L = 0 then (appR xs L).2.take (ixL (appR xs L).2) else []
theorem appB_byte (xs : List Int) (L : List Ch) (h : ∀ x ∈ xs, Byte x) : ∀ x ∈ appB xs L, Byte x := by
  unfold appB
  split
  · intro x hx
    obtain ⟨i, hi, rfl⟩ := List.getElem_of_mem hx
    rw [List.length_take] at hi
    have h1 := appS_sgn L (all0 xs) (all0_sgn xs h) L.length
    rw [List.getElem_take]
    have h2 := h1 _ (List.getElem_mem (show i < (appR xs L).2.length by omega))
    have h3 := ixL_pre (appR xs L).2 i (by omega)
    unfold at0 at h3
    rw [List.getD_eq_getElem?_getD, List.getElem?_eq_getElem (by omega)] at h3
    simp only [Option.getD_some] at h3
    unfold appR at *
    unfold Byte
    omega
  · intro x hx; cases hx
theorem appB_len (xs : List Int) (L : List Ch) : (appB xs L).length ≤ 6000 := by
  unfold appB
  split
  · rw [List.length_take]
    have := appS_len L (all0 xs) L.length
    rw [all0_len] at this
    unfold appR; omega
  · simp
/-- The bytes of changes. -/
def lastA (L : List Ch) (k : Nat) : Int := if k = 0 then 0 else (chG L (k - 1)).a
def pkO (L : List Ch) (k : Nat) : List Int := numL ((chG L k).a - lastA L k) ++ numL ((chG L k).o + 1) ++ numL ((chG L k).n + 1)
def pkN (L : List Ch) : Nat → List Int
  | 0 => numL L.length
  | k + 1 => pkN L k ++ pkO L k
def pkE (L : List Ch) : Int := chkL L
def pkB (L : List Ch) : List Int := if chkL L = 0 then pkN L L.length else []
theorem lastA_bd (L : List Ch) (n k : Nat) (h : chkN L n = 0) (hk : k ≤ n) : 0 ≤ lastA L k ∧ lastA L k ≤ 5999 := by
  unfold lastA
  split
  · omega
  · have := good_ch (chE_good L (k - 1) (chkN_all L n h (k - 1) (by omega))).1
    omega
theorem pkN_len (L : List Ch) (n : Nat) (hL : L.length ≤ 6000) (h : chkN L n = 0) : ∀ k, k ≤ n → (pkN L k).length ≤ 10 + 30 * k
  | 0, _ => by rw [pkN]; have := numL_len (L.length : Int) (by omega); omega
  | k + 1, hk => by
    rw [pkN, List.length_append]
    have ih := pkN_len L n hL h k (by omega)
    have h1 := good_ch (chE_good L k (chkN_all L n h k (by omega))).1
    have h2 := lastA_bd L n k h (by omega)
    unfold pkO
    rw [List.length_append, List.length_append]
    have a1 := numL_len ((chG L k).a - lastA L k) (by omega)
    have a2 := numL_len ((chG L k).o + 1) (by omega)
    have a3 := numL_len ((chG L k).n + 1) (by omega)
    omega
theorem pkN_byte (L : List Ch) (k : Nat) : ∀ y ∈ pkN L k, Byte y := by
  induction k with
  | zero => exact numL_byte _
  | succ k ih =>
    intro y hy
    rw [pkN, pkO] at hy
    simp only [List.mem_append] at hy
    rcases hy with h | (h | h) | h
    · exact ih y h
    · exact numL_byte _ y h
    · exact numL_byte _ y h
    · exact numL_byte _ y h
theorem pkB_byte (L : List Ch) : ∀ y ∈ pkB L, Byte y := by
  unfold pkB; split
  · exact pkN_byte L _
  · simp
end Go.Proofs.Ytkkdegcbikjebaa
