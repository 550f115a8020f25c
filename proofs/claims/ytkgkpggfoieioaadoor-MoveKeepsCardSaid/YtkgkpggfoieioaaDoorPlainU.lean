import Derived.Test.YtkgkpggfoieioaaDoorPlainV
namespace Go.Proofs.YtkgkpggfoieioaaDoor
set_option linter.unusedVariables false
theorem goes_ne {f : GF} {fl : Bool} {far : List Int} {tq : Nat} {l : List Nat} (h : Goes f fl far tq l) : 0 < l.length ∧ l.getD (l.length - 1) 0 = tq := by
  induction h with
  | one _ => exact ⟨by simp, rfl⟩
  | more a b l hg ha hb h1 h2 h3 ih =>
    refine ⟨by simp, ?_⟩
    have := ih.2
    simp only [List.length_cons] at this ⊢
    rw [show l.length + 1 + 1 - 1 = (l.length + 1 - 1) + 1 by omega, List.getD_cons_succ]
    exact this
/-- From each cell of a way to the one behind it. -/
theorem goes_at {f : GF} {fl : Bool} {far : List Int} {tq : Nat} {l : List Nat} (h : Goes f fl far tq l) : ∀ i, i + 1 < l.length → l.getD i 0 < f.ground.length ∧ ((l.getD (i + 1) 0 : Nat) : Int) ∈ besL f (l.getD i 0) ∧ 0 < ontoL f (l.getD (i + 1) 0) fl ∧ 0 ≤ at0 far (l.getD (i + 1) 0) ∧ ontoL f (l.getD (i + 1) 0) fl + at0 far (l.getD (i + 1) 0) = at0 far (l.getD i 0) := by
  induction h with
  | one _ => intro i hi; simp at hi
  | more a b l hg ha hb h1 h2 h3 ih =>
    intro i hi
    cases i with
    | zero => exact ⟨ha, hb, h1, h2, h3⟩
    | succ i =>
      have := ih i (by simpa using hi)
      simpa using this
theorem goes_lt {f : GF} {fl : Bool} {far : List Int} {tq : Nat} {l : List Nat} (h : Goes f fl far tq l) : ∀ i, i < l.length → l.getD i 0 < f.ground.length := by
  induction h with
  | one ht => intro i hi; simp at hi; subst hi; exact ht
  | more a b l hg ha hb h1 h2 h3 ih =>
    intro i hi
    cases i with
    | zero => exact ha
    | succ i => have := ih i (by simpa using hi); simpa using this
theorem pathI_at (f : GF) (fl : Bool) (far : List Int) (src tq i : Nat) (h : i < (pathL f fl far src tq).length) : (pathI f fl far src tq)[i]? = some (((pathL f fl far src tq).getD i 0 : Nat) : Int) := by
  unfold pathI
  rw [List.getElem?_map, List.getElem?_eq_getElem h, List.getD_eq_getElem?_getD, List.getElem?_eq_getElem h]; rfl
theorem pathI_len (f : GF) (fl : Bool) (far : List Int) (src tq : Nat) : (pathI f fl far src tq).length = (pathL f fl far src tq).length := by unfold pathI; rw [List.length_map]
theorem pathL_goes (f : GF) (hg : Good f) (fl : Bool) (far : List Int) (tq a : Nat) (h : DTo f fl tq far) (ha : a < f.ground.length) (h0 : 0 ≤ at0 far a) : Goes f fl far tq (pathL f fl far a tq) :=
  path_goes f hg fl far tq h (at0 far a).toNat a ha h0 (by omega)
/-- The document's own example. -/
def twoF : GF := ⟨3, 2, [0, 1, 0, 0, 3, 0], [0, 0, 0, 0, 0, 0]⟩
def farF : List Int := [5, 1, 0, 4, 2, 1]
theorem nb_dec (f : GF) (a b : Nat) : NB f a b ↔ (besL f (a : Int)).contains (b : Int) = true := by unfold NB; rw [List.contains_iff_mem]
theorem twoF_dist : DTo twoF false 2 farF := by
  have hp : ∀ b : Nat, b < 6 → b ≠ 2 → ∃ a : Nat, a < 6 ∧ (besL twoF (a : Int)).contains (b : Int) = true ∧ 0 < costTo twoF false a b ∧ 0 ≤ at0 farF a ∧ at0 farF b = at0 farF a + costTo twoF false a b := fun b hb hne => by
    have : b = 0 ∨ b = 1 ∨ b = 3 ∨ b = 4 ∨ b = 5 := by omega
    rcases this with rfl | rfl | rfl | rfl | rfl
    · exact ⟨3, by decide +kernel⟩
    · exact ⟨2, by decide +kernel⟩
    · exact ⟨4, by decide +kernel⟩
    · exact ⟨5, by decide +kernel⟩
    · exact ⟨2, by decide +kernel⟩
  have hr : ∀ a : Fin 6, ∀ b : Fin 6, (besL twoF (a.val : Int)).contains (b.val : Int) = true → 0 < costTo twoF false a b → 0 ≤ at0 farF b ∧ at0 farF b ≤ at0 farF a + costTo twoF false a b := by decide +kernel
  have hl : ∀ k : Fin 6, -1 ≤ at0 farF k ∧ at0 farF k ≤ 12 := by decide +kernel
  refine ⟨rfl, ⟨by decide, rfl⟩, fun k hk => hl ⟨k, hk⟩, ?_, ?_⟩
  · intro b hb h0 hne
    obtain ⟨a, h1, h2, h3⟩ := hp b hb hne
    exact ⟨a, h1, (nb_dec _ _ _).2 h2, h3⟩
  · intro a b ha hb hn hc h0
    exact hr ⟨a, ha⟩ ⟨b, hb⟩ ((nb_dec _ _ _).1 hn) hc
end Go.Proofs.YtkgkpggfoieioaaDoor
