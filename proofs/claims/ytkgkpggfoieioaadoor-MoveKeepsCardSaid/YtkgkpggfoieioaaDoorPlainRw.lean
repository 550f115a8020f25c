import Derived.Test.YtkgkpggfoieioaaDoorPlainDo
namespace Go.Proofs.YtkgkpggfoieioaaDoor
set_option linter.unusedVariables false
/-! The reference's wish comes to the same: its best is none where the program's home is its own cell. -/
theorem toward_self {f : GF} (hg : Good f) (fl : Bool) {a : Nat} (ha : a < f.ground.length) : towardL f fl a a = a := by
  have hd := toF_dto hg fl ha
  unfold towardL
  rw [if_neg (by rw [hd.hsrc.2]; decide)]
  unfold nextL
  rcases findD_or (okN f fl (toF f fl a) a) a (besL f a) with ⟨h1, h2⟩ | ⟨h1, _⟩
  · exfalso
    unfold okN at h2
    simp only [Bool.and_eq_true, decide_eq_true_eq] at h2
    rw [hd.hsrc.2] at h2
    omega
  · rw [h1]; simp
/-- The reference's best and least. -/
noncomputable def bestN (L : List GK) (x : GW) (u : GU) (fl : Bool) : Nat → Int × Int
  | 0 => (-1, 0)
  | k + 1 => if homeB L u (gu x.units k) = true ∧ 0 ≤ at0 (toF x.field fl (gu x.units k).spot.toNat) u.spot.toNat ∧ ((bestN L x u fl k).1 < 0 ∨ at0 (toF x.field fl (gu x.units k).spot.toNat) u.spot.toNat < (bestN L x u fl k).2) then ((gu x.units k).spot, at0 (toF x.field fl (gu x.units k).spot.toNat) u.spot.toNat) else bestN L x u fl k
theorem best_home {L : List GK} {x : GW} {u : GU} {fl : Bool} (h : WM L x) : ∀ k, k ≤ x.units.length →
    ((bestN L x u fl k = (-1, 0) ∧ homeN L x u fl k = (u.spot.toNat, -1)) ∨ (0 ≤ (bestN L x u fl k).1 ∧ 0 ≤ (bestN L x u fl k).2 ∧ (bestN L x u fl k).1 = ((homeN L x u fl k).1 : Int) ∧ (bestN L x u fl k).2 = (homeN L x u fl k).2))
  | 0, _ => .inl ⟨rfl, rfl⟩
  | k + 1, hk => by
    have hs := h.spot k (by omega)
    have ih := best_home (u := u) (fl := fl) h k (by omega)
    unfold bestN homeN
    rcases ih with ⟨h1, h2⟩ | ⟨h1, h2, h3, h4⟩
    · rw [h1, h2]
      dsimp only
      by_cases c : homeB L u (gu x.units k) = true ∧ 0 ≤ at0 (toF x.field fl (gu x.units k).spot.toNat) u.spot.toNat
      · rw [if_pos ⟨c.1, c.2, .inl (by decide)⟩, if_pos ⟨c.1, c.2, .inl (by decide)⟩]
        exact .inr ⟨hs.1, c.2, by show (gu x.units k).spot = (((gu x.units k).spot.toNat : Nat) : Int); omega, rfl⟩
      · rw [if_neg (fun d => c ⟨d.1, d.2.1⟩), if_neg (fun d => c ⟨d.1, d.2.1⟩)]
        exact .inl ⟨rfl, rfl⟩
    · have hn : ¬ (bestN L x u fl k).1 < 0 := by omega
      have hn2 : ¬ (homeN L x u fl k).2 < 0 := by omega
      by_cases c : homeB L u (gu x.units k) = true ∧ 0 ≤ at0 (toF x.field fl (gu x.units k).spot.toNat) u.spot.toNat ∧ at0 (toF x.field fl (gu x.units k).spot.toNat) u.spot.toNat < (bestN L x u fl k).2
      · rw [if_pos ⟨c.1, c.2.1, .inr c.2.2⟩, if_pos ⟨c.1, c.2.1, .inr (by rw [← h4]; exact c.2.2)⟩]
        exact .inr ⟨hs.1, c.2.1, by show (gu x.units k).spot = (((gu x.units k).spot.toNat : Nat) : Int); omega, rfl⟩
      · rw [if_neg (fun d => c ⟨d.1, d.2.1, d.2.2.resolve_left hn⟩), if_neg (fun d => c ⟨d.1, d.2.1, by rw [h4]; exact d.2.2.resolve_left hn2⟩)]
        exact .inr ⟨h1, h2, h3, h4⟩
end Go.Proofs.YtkgkpggfoieioaaDoor
