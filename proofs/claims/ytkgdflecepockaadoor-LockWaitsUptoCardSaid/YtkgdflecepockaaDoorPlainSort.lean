import Derived.Lib.Hide
namespace Go.Proofs.YtkgdflecepockaaDoor
set_option linter.unusedVariables false
/-! A stable sort in place, seen from outside: position k holds what stood at place t k. R gives each place its rank. -/
namespace Srt
def Inj (n : Nat) (t : Nat → Nat) : Prop := ∀ i j, i < n → j < n → t i = t j → i = j
/-- Sorted from a on, up to b. -/
def Up (R : Nat → Int) (t : Nat → Nat) (a b : Nat) : Prop := ∀ i j, a ≤ i → i < j → j < b → R (t i) < R (t j)
/-- Nothing has changed but between a and b, and there nothing has come in. -/
structure In (n : Nat) (t t' : Nat → Nat) (a b : Nat) : Prop where
  out : ∀ k, k < a ∨ b ≤ k → t' k = t k
  from_ : ∀ k, a ≤ k → k < b → ∃ j, a ≤ j ∧ j < b ∧ t' k = t j
  inj : Inj n t → Inj n t'
def swp (t : Nat → Nat) (i j : Nat) : Nat → Nat := fun k => if k = i then t j else if k = j then t i else t k
theorem In.refl (n : Nat) (t : Nat → Nat) (a b : Nat) : In n t t a b := ⟨fun _ _ => rfl, fun k h1 h2 => ⟨k, h1, h2, rfl⟩, fun h => h⟩
theorem In.trans {n a b : Nat} {t t' t'' : Nat → Nat} (h : In n t t' a b) (h' : In n t' t'' a b) : In n t t'' a b :=
  ⟨fun k hk => (h'.out k hk).trans (h.out k hk), fun k h1 h2 => by
    obtain ⟨j, j1, j2, j3⟩ := h'.from_ k h1 h2
    obtain ⟨i, i1, i2, i3⟩ := h.from_ j j1 j2
    exact ⟨i, i1, i2, j3.trans i3⟩, fun h0 => h'.inj (h.inj h0)⟩
theorem In.more {n a b a' b' : Nat} {t t' : Nat → Nat} (h : In n t t' a b) (ha : a' ≤ a) (hb : b ≤ b') : In n t t' a' b' :=
  ⟨fun k hk => h.out k (by omega), fun k h1 h2 => by
    by_cases hk : a ≤ k ∧ k < b
    · obtain ⟨j, j1, j2, j3⟩ := h.from_ k hk.1 hk.2
      exact ⟨j, by omega, by omega, j3⟩
    · exact ⟨k, h1, h2, h.out k (by omega)⟩, h.inj⟩
theorem swp_inj {n i j : Nat} {t : Nat → Nat} (h : Inj n t) (hi : i < n) (hj : j < n) : Inj n (swp t i j) := fun x y hx hy e => by
  unfold swp at e
  split at e <;> split at e <;> try split at e
  all_goals first
    | omega
    | (have := h _ _ (by omega) (by omega) e; omega)
    | (split at e <;> first | omega | (have := h _ _ (by omega) (by omega) e; omega))
theorem In.swp {n a b i j : Nat} (t : Nat → Nat) (hi : a ≤ i ∧ i < b) (hj : a ≤ j ∧ j < b) (hb : b ≤ n) : In n t (swp t i j) a b :=
  ⟨fun k hk => by unfold Srt.swp; rw [if_neg (by omega), if_neg (by omega)], fun k h1 h2 => by
    unfold Srt.swp
    by_cases e1 : k = i
    · exact ⟨j, hj.1, hj.2, by rw [if_pos e1]⟩
    · by_cases e2 : k = j
      · exact ⟨i, hi.1, hi.2, by rw [if_neg e1, if_pos e2]⟩
      · exact ⟨k, h1, h2, by rw [if_neg e1, if_neg e2]⟩, fun h => swp_inj h (by omega) (by omega)⟩
/-- What stands at i has gone down to j. -/
def down (t : Nat → Nat) (i j : Nat) : Nat → Nat := fun k => if k < j ∨ i < k then t k else if k = j then t i else t (k - 1)
/-- What stands at i has gone up to j. -/
def up (t : Nat → Nat) (i j : Nat) : Nat → Nat := fun k => if k < i ∨ j < k then t k else if k = j then t i else t (k + 1)
theorem down_self (t : Nat → Nat) (i : Nat) : down t i i = t := by
  funext k; unfold down
  by_cases h : k < i ∨ i < k
  · rw [if_pos h]
  · obtain rfl : k = i := by omega
    rw [if_neg h, if_pos rfl]
theorem up_self (t : Nat → Nat) (i : Nat) : up t i i = t := by
  funext k; unfold up
  by_cases h : k < i ∨ i < k
  · rw [if_pos h]
  · obtain rfl : k = i := by omega
    rw [if_neg h, if_pos rfl]
theorem down_step (t : Nat → Nat) (i j : Nat) (h0 : 0 < j) (h : j ≤ i) : swp (down t i j) j (j - 1) = down t i (j - 1) := by
  funext k; unfold swp down
  by_cases e1 : k = j
  · subst e1
    rw [if_pos rfl, if_pos (by omega), if_neg (by omega), if_neg (by omega)]
  · rw [if_neg e1]
    by_cases e2 : k = j - 1
    · subst e2
      rw [if_pos rfl, if_neg (by omega), if_pos rfl, if_neg (by omega), if_pos rfl]
    · rw [if_neg e2]
      by_cases e3 : k < j ∨ i < k
      · rw [if_pos e3, if_pos (by omega)]
      · rw [if_neg e3, if_neg e1, if_neg (by omega), if_neg (by omega)]
theorem up_step (t : Nat → Nat) (i j : Nat) (h : i ≤ j) : swp (up t i j) j (j + 1) = up t i (j + 1) := by
  funext k; unfold swp up
  by_cases e1 : k = j
  · subst e1
    rw [if_pos rfl, if_pos (by omega), if_neg (by omega), if_neg (by omega)]
  · rw [if_neg e1]
    by_cases e2 : k = j + 1
    · subst e2
      rw [if_pos rfl, if_neg (by omega), if_pos rfl, if_neg (by omega), if_pos rfl]
    · rw [if_neg e2]
      by_cases e3 : k < i ∨ j < k
      · rw [if_pos e3, if_pos (by omega)]
      · rw [if_neg e3, if_neg e1, if_neg (by omega), if_neg (by omega)]
theorem In.down {n a b i j : Nat} (t : Nat → Nat) (ha : a ≤ j) (hj : j ≤ i) (hi : i < b) (hb : b ≤ n) : In n t (down t i j) a b := by
  obtain ⟨d, hd⟩ : ∃ d, i = j + d := ⟨i - j, by omega⟩
  induction d generalizing j with
  | zero => obtain rfl : j = i := by omega
            rw [down_self]; exact In.refl _ _ _ _
  | succ d ih =>
    have h1 := ih (j := j + 1) (by omega) (by omega) (by omega)
    have h2 := In.swp (n := n) (a := a) (b := b) (i := j + 1) (j := j) (Srt.down t i (j + 1)) (by omega) (by omega) hb
    have h3 := down_step t i (j + 1) (by omega) (by omega)
    rw [show j + 1 - 1 = j by omega] at h3
    rw [h3] at h2
    exact h1.trans h2
theorem In.up {n a b i j : Nat} (t : Nat → Nat) (ha : a ≤ i) (hj : i ≤ j) (hi : j < b) (hb : b ≤ n) : In n t (up t i j) a b := by
  obtain ⟨d, hd⟩ : ∃ d, j = i + d := ⟨j - i, by omega⟩
  induction d generalizing j with
  | zero => obtain rfl : j = i := by omega
            rw [up_self]; exact In.refl _ _ _ _
  | succ d ih =>
    have h1 := ih (j := j - 1) (by omega) (by omega) (by omega)
    have h2 := In.swp (n := n) (a := a) (b := b) (i := j - 1) (j := j) (Srt.up t i (j - 1)) (by omega) (by omega) hb
    have h3 := up_step t i (j - 1) (by omega)
    rw [show j - 1 + 1 = j by omega] at h3
    rw [h3] at h2
    exact h1.trans h2
/-- Put down between those that are less and those that are not. -/
theorem up_down {R : Nat → Int} {t : Nat → Nat} {a i j : Nat} (hs : Up R t a i) (ha : a ≤ j) (hj : j ≤ i) (h1 : ∀ k, j ≤ k → k < i → R (t i) < R (t k)) (h2 : ∀ k, a ≤ k → k < j → R (t k) < R (t i)) : Up R (down t i j) a (i + 1) := fun x y hx hxy hy => by
  unfold down
  by_cases e1 : x < j
  · rw [if_pos (.inl e1)]
    by_cases e2 : y < j
    · rw [if_pos (.inl e2)]; exact hs x y hx hxy (by omega)
    · rw [if_neg (by omega)]
      by_cases e3 : y = j
      · rw [if_pos e3]; exact h2 x hx e1
      · rw [if_neg e3]; exact hs x (y - 1) hx (by omega) (by omega)
  · rw [if_neg (by omega), if_neg (by omega : ¬ (y < j ∨ i < y)), if_neg (by omega : ¬ y = j)]
    by_cases e3 : x = j
    · rw [if_pos e3]; exact h1 (y - 1) (by omega) (by omega)
    · rw [if_neg e3]; exact hs (x - 1) (y - 1) (by omega) (by omega) (by omega)
/-- Put up between those that are less and those that are not: a is less than none from j + 1 on, and than none up to j. -/
theorem up_up {R : Nat → Int} {t : Nat → Nat} {a b j : Nat} (hs : Up R t (a + 1) b) (ha : a ≤ j) (hj : j < b) (h1 : ∀ k, a < k → k ≤ j → R (t k) < R (t a)) (h2 : ∀ k, j < k → k < b → R (t a) < R (t k)) : Up R (up t a j) a b := fun x y hx hxy hy => by
  unfold up
  by_cases e1 : j < y
  · rw [if_pos (.inr e1 : y < a ∨ j < y)]
    by_cases e2 : j < x
    · rw [if_pos (.inr e2)]; exact hs x y (by omega) hxy hy
    · rw [if_neg (by omega)]
      by_cases e3 : x = j
      · rw [if_pos e3]; exact h2 y e1 hy
      · rw [if_neg e3]; exact hs (x + 1) y (by omega) (by omega) hy
  · rw [if_neg (by omega : ¬ (y < a ∨ j < y)), if_neg (by omega), if_neg (by omega : ¬ x = j)]
    by_cases e3 : y = j
    · rw [if_pos e3]; exact h1 (x + 1) (by omega) (by omega)
    · rw [if_neg e3]; exact hs (x + 1) (y + 1) (by omega) (by omega) (by omega)
/-- Two stretches of m places, exchanged, as far as c. -/
def swr (t : Nat → Nat) (a b m : Nat) : Nat → Nat := fun k => if a ≤ k ∧ k < a + m then t (k - a + b) else if b ≤ k ∧ k < b + m then t (k - b + a) else t k
theorem swr_zero (t : Nat → Nat) (a b : Nat) : swr t a b 0 = t := by
  funext k; unfold swr; rw [if_neg (by omega), if_neg (by omega)]
theorem swr_step (t : Nat → Nat) (a b m c : Nat) (h : a + c ≤ b) (hm : m < c) : swp (swr t a b m) (a + m) (b + m) = swr t a b (m + 1) := by
  funext k; unfold swp swr
  by_cases e1 : k = a + m
  · subst e1
    rw [if_pos rfl, if_neg (by omega), if_neg (by omega), if_pos (by omega)]
    congr 1; omega
  · rw [if_neg e1]
    by_cases e2 : k = b + m
    · subst e2
      rw [if_pos rfl, if_neg (by omega), if_neg (by omega), if_neg (by omega), if_pos (by omega)]
      congr 1; omega
    · rw [if_neg e2]
      by_cases e3 : a ≤ k ∧ k < a + m
      · rw [if_pos e3, if_pos (by omega)]
      · rw [if_neg e3]
        by_cases e4 : b ≤ k ∧ k < b + m
        · rw [if_pos e4, if_neg (by omega), if_pos (by omega)]
        · rw [if_neg e4, if_neg (by omega), if_neg (by omega)]
theorem In.swr {n a b m lo hi : Nat} (t : Nat → Nat) (h1 : lo ≤ a) (h2 : a + m ≤ b) (h3 : b + m ≤ hi) (h4 : hi ≤ n) : In n t (swr t a b m) lo hi := by
  have key : ∀ c, c ≤ m → In n t (Srt.swr t a b c) lo hi := fun c => by
    induction c with
    | zero => intro _; rw [swr_zero]; exact In.refl _ _ _ _
    | succ c ih =>
      intro hc
      have h := In.swp (n := n) (a := lo) (b := hi) (i := a + c) (j := b + c) (Srt.swr t a b c) (by omega) (by omega) h4
      rw [swr_step t a b c m h2 (by omega)] at h
      exact (ih (by omega)).trans h
  exact key m (Nat.le_refl _)
/-- What stood from m on comes ahead of what stood from a on. -/
def rot (t : Nat → Nat) (a m b : Nat) : Nat → Nat := fun k => if a ≤ k ∧ k < a + (b - m) then t (k + (m - a)) else if a + (b - m) ≤ k ∧ k < b then t (k - (b - m)) else t k
/-- While it is turned: what is left to turn lies round m, i ahead and j behind. -/
def Rot (T t : Nat → Nat) (m i j : Nat) : Prop := (∀ k, k < m - i ∨ m + j ≤ k → t k = T k) ∧ (∀ k, m - i ≤ k → k < m - i + j → T k = t (k + i)) ∧ ∀ k, m - i + j ≤ k → k < m + j → T k = t (k - j)
theorem Rot.start (t : Nat → Nat) (a m b : Nat) (h1 : a ≤ m) (h2 : m ≤ b) : Rot (rot t a m b) t m (m - a) (b - m) := by
  refine ⟨fun k hk => ?_, fun k h3 h4 => ?_, fun k h3 h4 => ?_⟩
  · unfold rot; rw [if_neg (by omega), if_neg (by omega)]
  · unfold rot; rw [if_pos (by omega)]
  · unfold rot; rw [if_neg (by omega), if_pos (by omega)]
theorem Rot.left {T t : Nat → Nat} {m i j : Nat} (h : Rot T t m i j) (hi : i ≤ m) (hj : j < i) : Rot T (swr t (m - i) m j) m (i - j) j := by
  obtain ⟨h1, h2, h3⟩ := h
  refine ⟨fun k hk => ?_, fun k k1 k2 => ?_, fun k k1 k2 => ?_⟩
  · unfold swr
    by_cases e : m - i ≤ k ∧ k < m - i + j
    · rw [if_pos e, h2 k e.1 e.2]; congr 1; omega
    · rw [if_neg e, if_neg (by omega)]; exact h1 k (by omega)
  · unfold swr
    rw [if_neg (by omega), if_pos (by omega), h3 k (by omega) (by omega)]; congr 1; omega
  · unfold swr
    rw [if_neg (by omega), if_neg (by omega), h3 k (by omega) (by omega)]
theorem Rot.right {T t : Nat → Nat} {m i j : Nat} (h : Rot T t m i j) (hi : i ≤ m) (hj : i < j) : Rot T (swr t (m - i) (m + j - i) i) m i (j - i) := by
  obtain ⟨h1, h2, h3⟩ := h
  refine ⟨fun k hk => ?_, fun k k1 k2 => ?_, fun k k1 k2 => ?_⟩
  · unfold swr
    by_cases e : m + j - i ≤ k ∧ k < m + j
    · rw [if_neg (by omega), if_pos (by omega), h3 k (by omega) (by omega)]; congr 1; omega
    · rw [if_neg (by omega), if_neg (by omega)]; exact h1 k (by omega)
  · unfold swr
    rw [if_neg (by omega), if_neg (by omega), h2 k (by omega) (by omega)]
  · unfold swr
    rw [if_pos (by omega), h2 k (by omega) (by omega)]; congr 1; omega
theorem Rot.last {T t : Nat → Nat} {m i : Nat} (h : Rot T t m i i) (hi : i ≤ m) : swr t (m - i) m i = T := by
  obtain ⟨h1, h2, h3⟩ := h
  funext k
  unfold swr
  by_cases e : m - i ≤ k ∧ k < m - i + i
  · rw [if_pos e, h2 k e.1 e.2]; congr 1; omega
  · rw [if_neg e]
    by_cases e2 : m ≤ k ∧ k < m + i
    · rw [if_pos e2, h3 k (by omega) (by omega)]; congr 1; omega
    · rw [if_neg e2]; exact h1 k (by omega)
/-- What is to be merged: two sorted stretches; what stands in the first stood ahead of all in the second. -/
structure Mrg (R : Nat → Int) (t : Nat → Nat) (a m b : Nat) : Prop where
  l : Up R t a m
  r : Up R t m b
  tag : ∀ i j, a ≤ i → i < m → m ≤ j → j < b → t i < t j
/-- Where both are parted: behind the search. -/
structure Cut (R : Nat → Int) (t : Nat → Nat) (a m b mid s : Nat) : Prop where
  lo : a ≤ s
  hi : s ≤ m
  e1 : m ≤ mid + m - s
  e2 : mid + m - s ≤ b
  s_mid : s ≤ mid
  c1 : ∀ i j, a ≤ i → i < s → mid + m - s ≤ j → j < b → R (t i) < R (t j)
  c2 : ∀ i j, s ≤ i → i < m → m ≤ j → j < mid + m - s → R (t j) < R (t i)
/-- The search is done. -/
theorem Cut.of {R : Nat → Int} {t : Nat → Nat} {a m b mid s s0 : Nat} (h : Mrg R t a m b) (h1 : a < m) (h2 : m < b) (hmid : mid = (a + b) / 2)
    (hs : (mid < m ∧ mid + m - b ≤ s ∧ s ≤ mid ∧ mid + m - b = s0) ∨ (m ≤ mid ∧ a ≤ s ∧ s ≤ m ∧ a = s0))
    (f1 : ∀ c, s0 ≤ c → c < s → R (t c) < R (t (mid + m - 1 - c))) (f2 : ∀ c, s ≤ c → c < (if mid < m then mid else m) → R (t (mid + m - 1 - c)) < R (t c)) : Cut R t a m b mid s := by
  have le : ∀ {i j}, m ≤ i → i ≤ j → j < b → R (t i) ≤ R (t j) := fun {i j} x y z => by
    rcases Nat.lt_or_ge i j with h' | h'
    · have := h.r i j x h' z; omega
    · obtain rfl : i = j := by omega
      omega
  have le' : ∀ {i j}, a ≤ i → i ≤ j → j < m → R (t i) ≤ R (t j) := fun {i j} x y z => by
    rcases Nat.lt_or_ge i j with h' | h'
    · have := h.l i j x h' z; omega
    · obtain rfl : i = j := by omega
      omega
  refine ⟨by omega, by omega, by omega, by omega, by omega, fun i j x1 x2 x3 x4 => ?_, fun i j x1 x2 x3 x4 => ?_⟩
  · rcases Nat.lt_or_ge s0 s with h' | h'
    · have g := f1 (s - 1) (by omega) (by omega)
      have g1 := le' (i := i) (j := s - 1) (by omega) (by omega) (by omega)
      have g2 := le (i := mid + m - 1 - (s - 1)) (j := j) (by omega) (by omega) (by omega)
      omega
    · omega
  · rcases Nat.lt_or_ge s (if mid < m then mid else m) with h' | h'
    · have g := f2 s (by omega) h'
      have g1 := le' (i := s) (j := i) (by omega) (by omega) (by omega)
      have g2 := le (i := j) (j := mid + m - 1 - s) (by omega) (by omega) (by split at h' <;> omega)
      omega
    · split at h' <;> omega
/-- Turned round, both halves are to be merged, and each of the first is less than each of the second. -/
theorem Cut.rot {R : Nat → Int} {t : Nat → Nat} {a m b mid s : Nat} (h : Mrg R t a m b) (c : Cut R t a m b mid s) (hm : mid ≤ b) :
    Mrg R (Srt.rot t s m (mid + m - s)) a s mid ∧ Mrg R (Srt.rot t s m (mid + m - s)) mid (mid + m - s) b ∧
      ∀ i j, a ≤ i → i < mid → mid ≤ j → j < b → R (Srt.rot t s m (mid + m - s) i) < R (Srt.rot t s m (mid + m - s) j) := by
  obtain ⟨l1, l2, l3, l4, l5, d1, d2⟩ := c
  have r1 : ∀ k, k < s → Srt.rot t s m (mid + m - s) k = t k := fun k hk => by unfold Srt.rot; rw [if_neg (by omega), if_neg (by omega)]
  have r2 : ∀ k, s ≤ k → k < mid → Srt.rot t s m (mid + m - s) k = t (k + (m - s)) := fun k h1 h2 => by unfold Srt.rot; rw [if_pos (by omega)]
  have r3 : ∀ k, mid ≤ k → k < mid + m - s → Srt.rot t s m (mid + m - s) k = t (k - (mid - s)) := fun k h1 h2 => by unfold Srt.rot; rw [if_neg (by omega), if_pos (by omega)]; congr 1; omega
  have r4 : ∀ k, mid + m - s ≤ k → Srt.rot t s m (mid + m - s) k = t k := fun k h1 => by unfold Srt.rot; rw [if_neg (by omega), if_neg (by omega)]
  refine ⟨⟨fun i j x1 x2 x3 => ?_, fun i j x1 x2 x3 => ?_, fun i j x1 x2 x3 x4 => ?_⟩, ⟨fun i j x1 x2 x3 => ?_, fun i j x1 x2 x3 => ?_, fun i j x1 x2 x3 x4 => ?_⟩, fun i j x1 x2 x3 x4 => ?_⟩
  · rw [r1 i (by omega), r1 j (by omega)]; exact h.l i j x1 x2 (by omega)
  · rw [r2 i (by omega) (by omega), r2 j (by omega) (by omega)]; exact h.r _ _ (by omega) (by omega) (by omega)
  · rw [r1 i (by omega), r2 j (by omega) (by omega)]; exact h.tag _ _ x1 (by omega) (by omega) (by omega)
  · rw [r3 i (by omega) (by omega), r3 j (by omega) (by omega)]; exact h.l _ _ (by omega) (by omega) (by omega)
  · rw [r4 i (by omega), r4 j (by omega)]; exact h.r _ _ (by omega) (by omega) (by omega)
  · rw [r3 i (by omega) (by omega), r4 j (by omega)]; exact h.tag _ _ (by omega) (by omega) (by omega) (by omega)
  · by_cases e1 : i < s
    · rw [r1 i e1]
      by_cases e2 : j < mid + m - s
      · rw [r3 j x3 e2]; exact h.l _ _ (by omega) (by omega) (by omega)
      · rw [r4 j (by omega)]; exact d1 i j x1 e1 (by omega) x4
    · rw [r2 i (by omega) x2]
      by_cases e2 : j < mid + m - s
      · rw [r3 j x3 e2]; exact d2 _ _ (by omega) (by omega) (by omega) (by omega)
      · rw [r4 j (by omega)]; exact h.r _ _ (by omega) (by omega) (by omega)
theorem In.rot {n a m b lo hi : Nat} (t : Nat → Nat) (h0 : lo ≤ a) (h1 : a ≤ m) (h2 : m ≤ b) (h3 : b ≤ hi) (h4 : hi ≤ n) : In n t (rot t a m b) lo hi :=
  ⟨fun k hk => by unfold Srt.rot; rw [if_neg (by omega), if_neg (by omega)], fun k k1 k2 => by
    unfold Srt.rot
    by_cases e1 : a ≤ k ∧ k < a + (b - m)
    · exact ⟨k + (m - a), by omega, by omega, by rw [if_pos e1]⟩
    · by_cases e2 : a + (b - m) ≤ k ∧ k < b
      · exact ⟨k - (b - m), by omega, by omega, by rw [if_neg e1, if_pos e2]⟩
      · exact ⟨k, k1, k2, by rw [if_neg e1, if_neg e2]⟩, fun hj x y hx hy e => by
    unfold Srt.rot at e
    by_cases e1 : a ≤ x ∧ x < a + (b - m)
    · rw [if_pos e1] at e
      by_cases f1 : a ≤ y ∧ y < a + (b - m)
      · rw [if_pos f1] at e; have := hj _ _ (by omega) (by omega) e; omega
      · rw [if_neg f1] at e
        by_cases f2 : a + (b - m) ≤ y ∧ y < b
        · rw [if_pos f2] at e; have := hj _ _ (by omega) (by omega) e; omega
        · rw [if_neg f2] at e; have := hj _ _ (by omega) (by omega) e; omega
    · rw [if_neg e1] at e
      by_cases e2 : a + (b - m) ≤ x ∧ x < b
      · rw [if_pos e2] at e
        by_cases f1 : a ≤ y ∧ y < a + (b - m)
        · rw [if_pos f1] at e; have := hj _ _ (by omega) (by omega) e; omega
        · rw [if_neg f1] at e
          by_cases f2 : a + (b - m) ≤ y ∧ y < b
          · rw [if_pos f2] at e; have := hj _ _ (by omega) (by omega) e; omega
          · rw [if_neg f2] at e; have := hj _ _ (by omega) (by omega) e; omega
      · rw [if_neg e2] at e
        by_cases f1 : a ≤ y ∧ y < a + (b - m)
        · rw [if_pos f1] at e; have := hj _ _ (by omega) (by omega) e; omega
        · rw [if_neg f1] at e
          by_cases f2 : a + (b - m) ≤ y ∧ y < b
          · rw [if_pos f2] at e; have := hj _ _ (by omega) (by omega) e; omega
          · rw [if_neg f2] at e; have := hj _ _ (by omega) (by omega) e; omega⟩
/-- Both halves merged: all is sorted. -/
theorem two_up {n : Nat} {R : Nat → Int} {t t1 t2 : Nat → Nat} {a mid b : Nat} (hb : b ≤ n) (ha : a ≤ mid) (hm : mid ≤ b) (hx : ∀ i j, a ≤ i → i < mid → mid ≤ j → j < b → R (t i) < R (t j))
    (h1 : In n t t1 a mid) (u1 : Up R t1 a mid) (h2 : In n t1 t2 mid b) (u2 : Up R t2 mid b) : Up R t2 a b ∧ In n t t2 a b := by
  refine ⟨fun i j x1 x2 x3 => ?_, (h1.more (Nat.le_refl _) hm).trans (h2.more ha (Nat.le_refl _))⟩
  by_cases e1 : i < mid
  · by_cases e2 : j < mid
    · rw [h2.out i (.inl e1), h2.out j (.inl e2)]; exact u1 i j x1 x2 e2
    · obtain ⟨y, y1, y2, y3⟩ := h2.from_ j (by omega) x3
      rw [h2.out i (.inl e1), y3, h1.out y (.inr y1)]
      obtain ⟨z, z1, z2, z3⟩ := h1.from_ i x1 e1
      rw [z3]
      exact hx z y z1 z2 y1 y2
  · exact u2 i j (by omega) x2 x3
/-- What is to be merged keeps so where nothing turns. -/
theorem Mrg.keep {R : Nat → Int} {t t' : Nat → Nat} {a m b : Nat} (h : Mrg R t a m b) (hk : ∀ k, a ≤ k → k < b → t' k = t k) (h1 : a ≤ m) (h2 : m ≤ b) : Mrg R t' a m b :=
  ⟨fun i j x y z => by rw [hk i x (by omega), hk j (by omega) (by omega)]; exact h.l i j x y z, fun i j x y z => by rw [hk i (by omega) (by omega), hk j (by omega) z]; exact h.r i j x y z,
    fun i j x y z u => by rw [hk i x (by omega), hk j (by omega) u]; exact h.tag i j x y z u⟩
theorem Mrg.noneL {R : Nat → Int} {t : Nat → Nat} {a b : Nat} (h : Mrg R t a a b) : Up R t a b := h.r
theorem Mrg.noneR {R : Nat → Int} {t : Nat → Nat} {a b : Nat} (h : Mrg R t a b b) : Up R t a b := h.l
end Srt
end Go.Proofs.YtkgdflecepockaaDoor
