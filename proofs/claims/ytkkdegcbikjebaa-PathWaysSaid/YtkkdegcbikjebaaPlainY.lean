import Derived.Test.YtkkdegcbikjebaaPlainU
namespace Go.Proofs.Ytkkdegcbikjebaa
set_option linter.unusedVariables false
/-- Along a way it is no further than is told. -/
theorem goes_way {f : GF} (hg : Good f) {fl : Bool} {far : List Int} {to : Nat} {l : List Nat} (h : Goes f fl far to l) (a : Nat) (ha : l.getD 0 0 = a) : ∀ i, i < l.length → Way f.ground.length (NB f) (costFrom f fl) a (l.getD i 0) (at0 far a - at0 far (l.getD i 0))
  | 0, h0 => by
    have := goes_lt h 0 h0
    rw [ha] at this ⊢
    rw [Int.sub_self]
    exact .here _ this
  | i + 1, hi => by
    have ih := goes_way hg h a ha i (by omega)
    have hs := goes_at h i hi
    have := Way.step (nb := NB f) (cost := costFrom f fl) _ _ _ _ ih (goes_lt h (i + 1) hi) hs.2.1 (by unfold costFrom; exact hs.2.2.1)
    unfold costFrom at this
    rw [show at0 far a - at0 far (l.getD (i + 1) 0) = at0 far a - at0 far (l.getD i 0) + ontoL f (l.getD (i + 1) 0) fl by have := hs.2.2.2.2; omega]
    exact this
/-- Each cell of a way to one that may be reached may be reached. -/
theorem goes_reach {f : GF} (hg : Good f) {fl : Bool} {far fr : List Int} {to : Nat} {l : List Nat} (h : Goes f fl far to l) (a : Nat) (most : Int) (ha : l.getD 0 0 = a) (hfr : DFrom f fl a fr) (hm : at0 far a ≤ most) (h00 : 0 ≤ at0 far a) (i : Nat) (hi : i < l.length) : ((l.getD i 0 : Nat) : Int) ∈ rchN fr most f.ground.length := by
  have hw := goes_way hg h a ha i hi
  have hl := Dist.least hfr hw
  have h0 : 0 ≤ at0 far (l.getD i 0) := by
    cases i with
    | zero => rw [ha]; exact h00
    | succ i => exact (goes_at h i hi).2.2.2.1
  exact (mem_rch fr most _ _).2 ⟨l.getD i 0, goes_lt h i hi, rfl, hl.1, by omega⟩
def threeF : GF := ⟨3, 1, [0, 3, 0], [0, 0, 0]⟩
def frF : List Int := [0, 2, 3]
theorem threeF_dist : DFrom threeF false 0 frF := by
  have hp : ∀ b : Nat, b < 3 → b ≠ 0 → ∃ a : Nat, a < 3 ∧ (besL threeF (a : Int)).contains (b : Int) = true ∧ 0 < costFrom threeF false a b ∧ 0 ≤ at0 frF a ∧ at0 frF b = at0 frF a + costFrom threeF false a b := fun b hb hne => by
    have : b = 1 ∨ b = 2 := by omega
    rcases this with rfl | rfl
    · exact ⟨0, by decide +kernel⟩
    · exact ⟨1, by decide +kernel⟩
  have hr : ∀ a : Fin 3, ∀ b : Fin 3, (besL threeF (a.val : Int)).contains (b.val : Int) = true → 0 < costFrom threeF false a b → 0 ≤ at0 frF b ∧ at0 frF b ≤ at0 frF a + costFrom threeF false a b := by decide +kernel
  have hl : ∀ k : Fin 3, -1 ≤ at0 frF k ∧ at0 frF k ≤ 6 := by decide +kernel
  refine ⟨rfl, ⟨by decide, rfl⟩, fun k hk => hl ⟨k, hk⟩, ?_, ?_⟩
  · intro b hb h0 hne
    obtain ⟨a, h1, h2, h3⟩ := hp b hb hne
    exact ⟨a, h1, (nb_dec _ _ _).2 h2, h3⟩
  · intro a b ha hb hn hc h0
    exact hr ⟨a, ha⟩ ⟨b, hb⟩ ((nb_dec _ _ _).1 hn) hc
end Go.Proofs.Ytkkdegcbikjebaa
