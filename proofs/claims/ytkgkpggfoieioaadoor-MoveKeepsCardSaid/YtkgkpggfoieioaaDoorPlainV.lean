import Derived.Test.YtkgkpggfoieioaaDoorMrgi
namespace Go.Proofs.YtkgkpggfoieioaaDoor
set_option linter.unusedVariables false
theorem pathF_eq (f : GF) (hg : Good f) (fl : Bool) (far : List Int) (tq : Nat) (h : DTo f fl tq far) : ∀ (k k' a : Nat), a < f.ground.length → 0 ≤ at0 far a → at0 far a ≤ k → at0 far a ≤ k' → pathF f fl far tq k a = pathF f fl far tq k' a
  | 0, k', a, ha, h0, hk, hk' => by
    have e : a = tq := Classical.byContradiction fun hne => by
      have := next_spec f hg fl far tq a h ha h0 hne
      omega
    cases k' with
    | zero => rfl
    | succ k' => rw [pathF, pathF, if_pos e]
  | k + 1, k', a, ha, h0, hk, hk' => by
    by_cases e : a = tq
    · rw [pathF, if_pos e]
      cases k' with
      | zero => rfl
      | succ k' => rw [pathF, if_pos e]
    · obtain ⟨h1, h2, h3, h4, h5⟩ := next_spec f hg fl far tq a h ha h0 e
      cases k' with
      | zero => omega
      | succ k' => rw [pathF, pathF, if_neg e, if_neg e, pathF_eq f hg fl far tq h k k' _ h1 h4 (by omega) (by omega)]
/-- One step on a way. -/
theorem path_step (f : GF) (hg : Good f) (fl : Bool) (far : List Int) (tq a : Nat) (h : DTo f fl tq far) (ha : a < f.ground.length) (h0 : 0 ≤ at0 far a) (hne : a ≠ tq) :
    pathF f fl far tq (at0 far a).toNat a = nextL f fl far a :: pathF f fl far tq (at0 far (nextL f fl far a)).toNat (nextL f fl far a) := by
  obtain ⟨h1, h2, h3, h4, h5⟩ := next_spec f hg fl far tq a h ha h0 hne
  obtain ⟨k, hk⟩ : ∃ k, (at0 far a).toNat = k + 1 := ⟨(at0 far a).toNat - 1, by omega⟩
  rw [hk, pathF, if_neg hne, pathF_eq f hg fl far tq h k (at0 far (nextL f fl far a)).toNat _ h1 h4 (by omega) (by omega)]
theorem path_end (f : GF) (fl : Bool) (far : List Int) (tq k : Nat) : pathF f fl far tq k tq = [] := by
  cases k with
  | zero => rfl
  | succ k => rw [pathF, if_pos rfl]
def pathI (f : GF) (fl : Bool) (far : List Int) (src tq : Nat) : List Int := (pathL f fl far src tq).map (fun x : Nat => (x : Int))
/-- The cells that are near enough, of the first k. -/
def rchO (fr : List Int) (most : Int) (k : Nat) : List Int := if 0 ≤ at0 fr k ∧ at0 fr k ≤ most then [(k : Int)] else []
def rchN (fr : List Int) (most : Int) : Nat → List Int
  | 0 => []
  | k + 1 => rchN fr most k ++ rchO fr most k
theorem rchN_len (fr : List Int) (most : Int) (k : Nat) : (rchN fr most k).length ≤ k := by
  induction k with
  | zero => simp [rchN]
  | succ k ih => rw [rchN, List.length_append]; unfold rchO; split <;> simp <;> omega
theorem rchN_yes (fr : List Int) (most : Int) (k : Nat) (h : 0 ≤ at0 fr k ∧ at0 fr k ≤ most) : rchN fr most (k + 1) = rchN fr most k ++ [(k : Int)] := by rw [rchN, rchO, if_pos h]
theorem rchN_no (fr : List Int) (most : Int) (k : Nat) (h : ¬(0 ≤ at0 fr k ∧ at0 fr k ≤ most)) : rchN fr most (k + 1) = rchN fr most k := by rw [rchN, rchO, if_neg h, List.append_nil]
theorem mem_rch (fr : List Int) (most : Int) (k : Nat) (x : Int) : x ∈ rchN fr most k ↔ ∃ i : Nat, i < k ∧ x = (i : Int) ∧ 0 ≤ at0 fr i ∧ at0 fr i ≤ most := by
  induction k with
  | zero => simp [rchN]
  | succ k ih =>
    rw [rchN, List.mem_append, ih]
    constructor
    · rintro (⟨i, hi, h⟩ | h)
      · exact ⟨i, by omega, h⟩
      · unfold rchO at h
        by_cases hc : 0 ≤ at0 fr k ∧ at0 fr k ≤ most
        · rw [if_pos hc] at h
          exact ⟨k, by omega, by simpa using h, hc.1, hc.2⟩
        · rw [if_neg hc] at h; simp at h
    · rintro ⟨i, hi, hx, h1, h2⟩
      rcases Nat.lt_or_ge i k with h | h
      · exact .inl ⟨i, h, hx, h1, h2⟩
      · obtain rfl : i = k := by omega
        refine .inr ?_
        unfold rchO
        rw [if_pos ⟨h1, h2⟩, hx]; simp
theorem rch_sorted (fr : List Int) (most : Int) (k : Nat) : (rchN fr most k).Pairwise (· < ·) := by
  induction k with
  | zero => simp [rchN]
  | succ k ih =>
    rw [rchN, List.pairwise_append]
    refine ⟨ih, ?_, ?_⟩
    · unfold rchO; split <;> simp
    · intro x hx y hy
      obtain ⟨i, hi, rfl, _⟩ := (mem_rch fr most k x).1 hx
      unfold rchO at hy
      split at hy
      · obtain rfl := List.mem_singleton.1 hy; omega
      · simp at hy
end Go.Proofs.YtkgkpggfoieioaaDoor
