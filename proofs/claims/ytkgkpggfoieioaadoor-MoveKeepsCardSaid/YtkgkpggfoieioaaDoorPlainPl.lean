import Derived.Test.YtkgkpggfoieioaaDoorPlaceU
namespace Go.Proofs.YtkgkpggfoieioaaDoor
set_option linter.unusedVariables false
/-! Who is put is there, and the world stays one that may be. -/
theorem gu_app_lt {l : List GU} {u : GU} {i : Nat} (h : i < l.length) : gu (l ++ [u]) i = gu l i := by
  unfold gu; rw [List.getD_eq_getElem?_getD, List.getD_eq_getElem?_getD, List.getElem?_append_left h]
theorem gu_app_end {l : List GU} {u : GU} : gu (l ++ [u]) l.length = u := by
  unfold gu; rw [List.getD_eq_getElem?_getD, List.getElem?_append_right (Nat.le_refl _)]; simp
theorem first_app {α : Type} (p : α → Bool) (L : List α) (y : α) (h : 0 ≤ firstI p L) : firstI p (L ++ [y]) = firstI p L := by
  unfold firstI at h ⊢
  rw [List.findIdx?_append]
  rcases hc : L.findIdx? p with _ | i
  · rw [hc] at h; simp only at h; omega
  · rfl
theorem first_app_no {α : Type} (p : α → Bool) (L : List α) (y : α) (h : firstI p L < 0) (hy : p y = true) : firstI p (L ++ [y]) = L.length := by
  unfold firstI at h ⊢
  rw [List.findIdx?_append]
  rcases hc : L.findIdx? p with _ | i
  · simp [hy]
  · rw [hc] at h; simp only at h; omega
theorem headE_of {x : GW} (h : HeadOk x) : headE x = 0 := by
  unfold headE
  obtain ⟨h1, h2, h3, h4, h5⟩ := h
  have a1 : numB x.turn = true := by unfold numB; rw [decide_eq_true_iff]; exact h1
  have a2 : numB x.next = true := by unfold numB; rw [decide_eq_true_iff]; omega
  rw [if_neg (by rw [a1, a2]; rintro (c | c | c | c | c); (cases c); (cases c); all_goals omega), if_neg (by
    rw [Bool.not_eq_true, List.any_eq_false]
    intro n hn
    have a3 : numB n = true := by unfold numB; rw [decide_eq_true_iff]; exact h4 n hn
    rw [a3]; decide), if_neg (by omega)]
theorem unitE_of {L : List GK} {x : GW} {i : Nat} (h : UnitOk L x i) : unitE L x i = 0 := by
  obtain ⟨h1, h2, h3, h4, h5, h6, h7, h8, h9, h10, h11, h12⟩ := h
  unfold unitE
  rw [if_neg (by omega), if_neg (by rintro ⟨c1, c2⟩; have := h2 c1; omega), if_neg (by omega), if_neg (by omega), if_neg (by omega), if_neg (by
    rintro (c | c | ⟨c, d⟩)
    · exact h10 c
    · exact h11 c
    · exact c (h12 d))]
structure PutOk (L : List GK) (x : GW) (p k a : Int) : Prop where
  ok : WorldOk L x
  room : x.units.length < 40 ∧ x.next < 1000000
  player : 0 ≤ p ∧ p < x.gold.length
  kind : 0 ≤ k ∧ k < L.length
  spot : 0 ≤ a ∧ a < x.field.ground.length
  onto : ontoL x.field a.toNat (gk L k.toNat).flies ≠ 0
  free : onI x.units a < 0
theorem placeE_0 {L : List GK} {x : GW} {p k a : Int} (h : placeE L x p k a = 0) : PutOk L x p k a := by
  unfold placeE at h
  by_cases h1 : worldE L x = 0
  · rw [if_neg (fun c => c h1)] at h
    by_cases h2 : x.units.length < 40 ∧ x.next < 1000000
    · rw [if_neg (fun c => c h2)] at h
      by_cases h3 : p < 0 ∨ (x.gold.length : Int) ≤ p ∨ k < 0 ∨ (L.length : Int) ≤ k
      · rw [if_pos h3] at h; cases h
      rw [if_neg h3] at h
      by_cases h4 : a < 0 ∨ (x.field.ground.length : Int) ≤ a
      · rw [if_pos h4] at h; cases h
      rw [if_neg h4] at h
      by_cases h5 : ontoL x.field a.toNat (gk L k.toNat).flies = 0 ∨ 0 ≤ onI x.units a
      · rw [if_pos h5] at h; cases h
      exact ⟨worldE_0 h1, h2, by omega, by omega, by omega, fun c => h5 (.inl c), by
        by_cases c : 0 ≤ onI x.units a
        · exact absurd (.inr c) h5
        · omega⟩
    · rw [if_pos h2] at h; cases h
  · rw [if_pos h1] at h; exact absurd h h1
theorem kindsE_at {L : List GK} (h : kindsE L = 0) {k : Nat} (hk : k < L.length) : KindOk (gk L k) := (kindsE_0 h).each k hk
theorem put_ok {L : List GK} {x : GW} {p : Int} {k : Nat} {a : Int} (h : PutOk L x p k a) : WorldOk L (addX L x p k a) := by
  have hh := headE_ok h.ok.head
  have hk := h.kind
  have hK := kindsE_at h.ok.kinds (k := k) (by omega)
  have hon := h.onto
  rw [Int.toNat_natCast] at hon
  refine ⟨h.ok.kinds, h.ok.field, headE_of ⟨hh.turn, ?_, hh.players, hh.gold, ?_⟩, fun i hi => ?_, h.ok.few, fun i hi => ?_⟩
  · have := hh.next; have := h.room.2; unfold addX; simp only; omega
  · have := h.room.1; unfold addX; simp only [List.length_append, List.length_singleton]; omega
  · rw [show (addX L x p k a).units.length = x.units.length + 1 by unfold addX; simp] at hi
    refine unitE_of ?_
    by_cases hl : i < x.units.length
    · have hu := unitE_ok (h.ok.units i hl)
      have e1 : gu (addX L x p k a).units i = gu x.units i := gu_app_lt hl
      obtain ⟨h1, h2, h3, h4, h5, h6, h7, h8, h9, h10, h11, h12⟩ := hu
      refine ⟨?_, ?_, ?_, ?_, ?_, ?_, ?_, ?_, ?_, ?_, ?_, ?_⟩
      all_goals try rw [e1]
      · exact ⟨h1.1, by show _ < x.next + 1; omega⟩
      · intro h0
        have e2 : gu (addX L x p k a).units (i - 1) = gu x.units (i - 1) := gu_app_lt (by omega)
        rw [e2]
        exact h2 h0
      · exact h3
      · exact h4
      · exact h5
      · exact h6
      · exact h7
      · exact h8
      · exact h9
      · exact h10
      · have e3 : onI (addX L x p k a).units (gu x.units i).spot = onI x.units (gu x.units i).spot := first_app _ _ _ (by have : ¬ onI x.units (gu x.units i).spot < i := h11; unfold onI at this; omega)
        rw [e3]; exact h11
      · exact h12
    · have hie : i = x.units.length := by omega
      subst hie
      have e1 : gu (addX L x p k a).units x.units.length = ⟨x.next, p, (k : Int), a, (gk L k).life, 0, 0, 0⟩ := gu_app_end
      refine ⟨?_, ?_, ?_, ?_, ?_, ?_, ?_, ?_, ?_, ?_, ?_, ?_⟩
      all_goals try rw [e1]
      · have := hh.next; exact ⟨this.1, by show x.next < x.next + 1; omega⟩
      · intro h0
        have e2 : gu (addX L x p k a).units (x.units.length - 1) = gu x.units (x.units.length - 1) := gu_app_lt (by omega)
        rw [e2]
        exact (unitE_ok (h.ok.units (x.units.length - 1) (by omega))).id.2
      · exact h.player
      · exact hk
      · simp only [Int.toNat_natCast]; have := hK.life; omega
      · simp only [Int.toNat_natCast]; have := hK.carry; omega
      · simp
      · exact h.spot
      · have := h.spot; show (0 : Int) ≤ 0 ∧ (0 : Int) < (x.field.ground.length : Int); omega
      · simp only [Int.toNat_natCast]; exact hon
      · have e3 : onI (addX L x p k a).units a = x.units.length := first_app_no _ _ _ h.free (by simp)
        rw [e3]; omega
      · intro _; rfl
  · have hj := h.ok.jobs i hi
    change jobE L (addX L x p k a) (gj x.queue i) = 0
    unfold jobE at hj ⊢
    by_cases h1 : findId x.units (gj x.queue i).unit < 0
    · rw [if_pos h1] at hj; cases hj
    have e1 : findId (addX L x p k a).units (gj x.queue i).unit = findId x.units (gj x.queue i).unit := first_app _ _ _ (by unfold findId at h1; omega)
    have hl : (findId x.units (gj x.queue i).unit).toNat < x.units.length := by
      have := first_lt (fun v => v.id == (gj x.queue i).unit) x.units
      unfold findId at h1 ⊢
      omega
    have e2 : gu (addX L x p k a).units (findId x.units (gj x.queue i).unit).toNat = gu x.units (findId x.units (gj x.queue i).unit).toNat := gu_app_lt hl
    rw [e1, e2]
    exact hj
theorem put_find {L : List GK} {x : GW} {p : Int} {k : Nat} {a : Int} (h : WorldOk L x) : findId (addX L x p k a).units x.next = x.units.length := by
  refine first_app_no _ _ _ ?_ (by simp)
  rw [first_no]
  · decide
  · intro v hv
    obtain ⟨i, hi, rfl⟩ := gu_of hv
    have := (unitE_ok (h.units i hi)).id.2
    simp; omega
theorem put_twice {L : List GK} {x : GW} {p : Int} {k : Nat} {a : Int} (h : PutOk L x p k a) : placeE L (addX L x p k a) p k a ≠ 0 := fun c => by
  have h1 := (placeE_0 c).free
  have e3 : onI (addX L x p k a).units a = x.units.length := first_app_no _ _ _ h.free (by simp)
  rw [e3] at h1
  omega
end Go.Proofs.YtkgkpggfoieioaaDoor
