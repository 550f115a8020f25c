import Derived.Test.YtkgkpggfoieioaaDoorMrgb
import Derived.Test.YtkgkpggfoieioaaDoorPlainV
namespace Go.Proofs.YtkgkpggfoieioaaDoor
set_option linter.unusedVariables false
/-! Where a unit wishes to go. -/
/-- How far it is to a cell, from each. -/
noncomputable def toF (f : GF) (fl : Bool) (b : Nat) : List Int := Classical.epsilon (fun far => DTo f fl b far)
theorem toF_eq {f : GF} {fl : Bool} {b : Nat} {far : List Int} (h : DTo f fl b far) : toF f fl b = far :=
  Dist.uniq (Classical.epsilon_spec (p := fun far => DTo f fl b far) ⟨far, h⟩) h
noncomputable def towardL (f : GF) (fl : Bool) (a b : Nat) : Nat := if at0 (toF f fl b) a < 0 then a else nextL f fl (toF f fl b) a
/-- Does a unit of this player stand there that trains? -/
def homeB (L : List GK) (u v : GU) : Bool := v.player == u.player && (gk L v.kind.toNat).trains
noncomputable def homeN (L : List GK) (x : GW) (u : GU) (fl : Bool) : Nat → Nat × Int
  | 0 => (u.spot.toNat, -1)
  | k + 1 => if homeB L u (gu x.units k) = true ∧ 0 ≤ at0 (toF x.field fl (gu x.units k).spot.toNat) u.spot.toNat ∧ ((homeN L x u fl k).2 < 0 ∨ at0 (toF x.field fl (gu x.units k).spot.toNat) u.spot.toNat < (homeN L x u fl k).2) then ((gu x.units k).spot.toNat, at0 (toF x.field fl (gu x.units k).spot.toNat) u.spot.toNat) else homeN L x u fl k
theorem homeN_yes {L : List GK} {x : GW} {u : GU} {fl : Bool} {k : Nat} (h : homeB L u (gu x.units k) = true ∧ 0 ≤ at0 (toF x.field fl (gu x.units k).spot.toNat) u.spot.toNat ∧ ((homeN L x u fl k).2 < 0 ∨ at0 (toF x.field fl (gu x.units k).spot.toNat) u.spot.toNat < (homeN L x u fl k).2)) : homeN L x u fl (k + 1) = ((gu x.units k).spot.toNat, at0 (toF x.field fl (gu x.units k).spot.toNat) u.spot.toNat) := by
  conv => lhs; unfold homeN
  rw [if_pos h]
theorem homeN_no {L : List GK} {x : GW} {u : GU} {fl : Bool} {k : Nat} (h : ¬ (homeB L u (gu x.units k) = true ∧ 0 ≤ at0 (toF x.field fl (gu x.units k).spot.toNat) u.spot.toNat ∧ ((homeN L x u fl k).2 < 0 ∨ at0 (toF x.field fl (gu x.units k).spot.toNat) u.spot.toNat < (homeN L x u fl k).2))) : homeN L x u fl (k + 1) = homeN L x u fl k := by
  conv => lhs; unfold homeN
  rw [if_neg h]
/-- What a wish asks of a world. -/
structure WM (L : List GK) (x : GW) : Prop where
  good : Good x.field
  kind : ∀ i, i < x.units.length → 0 ≤ (gu x.units i).kind ∧ (gu x.units i).kind < L.length
  spot : ∀ i, i < x.units.length → 0 ≤ (gu x.units i).spot ∧ (gu x.units i).spot < x.field.ground.length
  goal : ∀ i, i < x.units.length → 0 ≤ (gu x.units i).goal ∧ (gu x.units i).goal < x.field.ground.length
theorem WorldOk.wm {L : List GK} {x : GW} (h : WorldOk L x) : WM L x :=
  ⟨good_of x.field h.field, fun i hi => (unitE_ok (h.units i hi)).kind, fun i hi => (unitE_ok (h.units i hi)).spot, fun i hi => (unitE_ok (h.units i hi)).goal⟩
theorem homeN_in {L : List GK} {x : GW} {u : GU} {fl : Bool} (h : WM L x) (hu : u.spot.toNat < x.field.ground.length) : ∀ k, k ≤ x.units.length → (homeN L x u fl k).1 < x.field.ground.length
  | 0, _ => hu
  | k + 1, hk => by
    by_cases c : homeB L u (gu x.units k) = true ∧ 0 ≤ at0 (toF x.field fl (gu x.units k).spot.toNat) u.spot.toNat ∧ ((homeN L x u fl k).2 < 0 ∨ at0 (toF x.field fl (gu x.units k).spot.toNat) u.spot.toNat < (homeN L x u fl k).2)
    · rw [homeN_yes c]
      have := h.spot k (by omega)
      show (gu x.units k).spot.toNat < _
      omega
    · rw [homeN_no c]
      exact homeN_in h hu k (by omega)
def oreB (x : GW) (u : GU) (carry : Int) : Bool := decide (u.load < carry) && decide (0 < x.field.ore.getD u.goal.toNat 0)
noncomputable def wishU (L : List GK) (x : GW) (u : GU) : Nat :=
  if u.task = 1 then towardL x.field (gk L u.kind.toNat).flies u.spot.toNat u.goal.toNat
  else if u.task = 2 then
    if oreB x u (gk L u.kind.toNat).carry = true then towardL x.field (gk L u.kind.toNat).flies u.spot.toNat u.goal.toNat
    else towardL x.field (gk L u.kind.toNat).flies u.spot.toNat (homeN L x u (gk L u.kind.toNat).flies x.units.length).1
  else u.spot.toNat
end Go.Proofs.YtkgkpggfoieioaaDoor
