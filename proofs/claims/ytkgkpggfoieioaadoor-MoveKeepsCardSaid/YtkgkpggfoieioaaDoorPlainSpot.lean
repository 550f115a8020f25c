import Derived.Test.YtkgkpggfoieioaaDoorMrgb
import Derived.Test.YtkgkpggfoieioaaDoorPlainU
namespace Go.Proofs.YtkgkpggfoieioaaDoor
set_option linter.unusedVariables false
/-! Where a new unit comes: of the nearest cells that are free the first. -/
def spN (fr : List Int) (us : List GU) : Nat → Int × Int
  | 0 => (-1, 4)
  | k + 1 => if 0 ≤ at0 fr k ∧ at0 fr k < (spN fr us k).2 ∧ onI us (k : Int) < 0 then ((k : Int), at0 fr k) else spN fr us k
theorem spN_yes {fr : List Int} {us : List GU} {k : Nat} (h : 0 ≤ at0 fr k ∧ at0 fr k < (spN fr us k).2 ∧ onI us (k : Int) < 0) : spN fr us (k + 1) = ((k : Int), at0 fr k) := by
  unfold spN; rw [if_pos h]
theorem spN_no {fr : List Int} {us : List GU} {k : Nat} (h : ¬ (0 ≤ at0 fr k ∧ at0 fr k < (spN fr us k).2 ∧ onI us (k : Int) < 0)) : spN fr us (k + 1) = spN fr us k := by
  conv => lhs; unfold spN
  rw [if_neg h]
theorem spN_or (fr : List Int) (us : List GU) : ∀ k, spN fr us k = (-1, 4) ∨ ∃ c : Nat, c < k ∧ spN fr us k = ((c : Int), at0 fr c) ∧ 0 ≤ at0 fr c ∧ at0 fr c < 4 ∧ onI us (c : Int) < 0
  | 0 => .inl rfl
  | k + 1 => by
    by_cases h : 0 ≤ at0 fr k ∧ at0 fr k < (spN fr us k).2 ∧ onI us (k : Int) < 0
    · rw [spN_yes h]
      refine .inr ⟨k, Nat.lt_succ_self k, rfl, h.1, ?_, h.2.2⟩
      rcases spN_or fr us k with h1 | ⟨c, _, h1, _, h2, _⟩
      · rw [h1] at h; exact h.2.1
      · rw [h1] at h; have := h.2.1; dsimp only at this; omega
    · rw [spN_no h]
      rcases spN_or fr us k with h1 | ⟨c, h0, h1, h2⟩
      · exact .inl h1
      · exact .inr ⟨c, by omega, h1, h2⟩
theorem on_self {us : List GU} {i : Nat} (hi : i < us.length) : 0 ≤ onI us (gu us i).spot := by
  unfold onI firstI
  rcases hc : us.findIdx? (fun v => v.spot == (gu us i).spot) with _ | j
  · rw [List.findIdx?_eq_none_iff] at hc
    have := hc _ (gu_mem hi)
    simp at this
  · rw [hc]
    show (0 : Int) ≤ (j : Int)
    omega
/-- Who comes comes near. -/
theorem spot_law {f : GF} (hg : Good f) {fl : Bool} {us : List GU} {i c : Nat} {fr far : List Int} (hi : i < us.length) (hs : 0 ≤ (gu us i).spot) (hfr : DFrom f fl (gu us i).spot.toNat fr) (hfar : DTo f fl c far) (hc : c < f.ground.length) (h0 : 0 ≤ at0 fr c) (h4 : at0 fr c < 4) (hon : onI us (c : Int) < 0) :
    0 < at0 far (gu us i).spot.toNat ∧ at0 far (gu us i).spot.toNat ≤ 3 ∧ 0 < ontoL f c fl := by
  have hne : c ≠ (gu us i).spot.toNat := fun e => by
    have h1 := on_self hi
    rw [show (gu us i).spot = (c : Int) by omega] at h1
    omega
  obtain ⟨a, ha, hn, hcost, ha0, he⟩ := hfr.pred c hc h0 hne
  have h5 : 0 < ontoL f c fl := hcost
  have h6 : costFrom f fl a c = ontoL f c fl := rfl
  rcases to_from f hg fl _ c fr far hfr hfar with h | h
  · exact ⟨by omega, by omega, h5⟩
  · omega
end Go.Proofs.YtkgkpggfoieioaaDoor
