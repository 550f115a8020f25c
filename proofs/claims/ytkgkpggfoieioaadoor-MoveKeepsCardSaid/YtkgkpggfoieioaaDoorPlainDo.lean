import Derived.Test.YtkgkpggfoieioaaDoorPlainEx
namespace Go.Proofs.YtkgkpggfoieioaaDoor
set_option linter.unusedVariables false
/-! What a move does, in plain data. -/
structure EV where
  what : Int
  unit : Int
  arg : Int
deriving DecidableEq
def setU (x : GW) (i : Nat) (u : GU) : GW := { x with units := x.units.set i u }
theorem setU_len (x : GW) (i : Nat) (u : GU) : (setU x i u).units.length = x.units.length := by unfold setU; simp
theorem gu_setU {x : GW} {i j : Nat} {u : GU} (hi : i < x.units.length) : gu (setU x i u).units j = if i = j then u else gu x.units j := by
  unfold gu setU
  rw [List.getD_eq_getElem?_getD, List.getD_eq_getElem?_getD, List.getElem?_set]
  by_cases e : i = j
  · subst e; simp [hi]
  · simp [e]
theorem WM.setU {L : List GK} {x : GW} {i : Nat} {u : GU} (h : WM L x) (hi : i < x.units.length) (hk : 0 ≤ u.kind ∧ u.kind < L.length) (hs : 0 ≤ u.spot ∧ u.spot < x.field.ground.length) (hg : 0 ≤ u.goal ∧ u.goal < x.field.ground.length) : WM L (setU x i u) := by
  refine ⟨h.good, fun j hj => ?_, fun j hj => ?_, fun j hj => ?_⟩
  all_goals
    rw [setU_len] at hj
    rw [gu_setU hi]
    split
    · assumption
    · first | exact h.kind j hj | exact h.spot j hj | exact h.goal j hj
/-- Where a unit wishes to go there is a cell; and if it is another one, it is beside, and can be stepped on. -/
theorem wish_in {L : List GK} {x : GW} (h : WM L x) {i : Nat} (hi : i < x.units.length) : wishU L x (gu x.units i) < x.field.ground.length ∧ (wishU L x (gu x.units i) ≠ (gu x.units i).spot.toNat → NB x.field (gu x.units i).spot.toNat (wishU L x (gu x.units i)) ∧ 0 < ontoL x.field (wishU L x (gu x.units i)) (gk L (gu x.units i).kind.toNat).flies) := by
  have hs := h.spot i hi
  have hg := h.goal i hi
  have ha : (gu x.units i).spot.toNat < x.field.ground.length := by omega
  have hb : (gu x.units i).goal.toNat < x.field.ground.length := by omega
  have hh := homeN_in (fl := (gk L (gu x.units i).kind.toNat).flies) h ha x.units.length (Nat.le_refl _)
  unfold wishU
  split
  · exact toward_in h.good _ ha hb
  · split
    · split
      · exact toward_in h.good _ ha hb
      · exact toward_in h.good _ ha hh
    · exact ⟨ha, fun c => absurd rfl c⟩
/-- The way of one unit, step by step, while it may. -/
noncomputable def goU (L : List GK) (i : Nat) : Nat → GW → Int → List EV → GW × List EV
  | 0, x, _, ev => (x, ev)
  | q + 1, x, left, ev =>
    if ((wishU L x (gu x.units i) : Nat) : Int) = (gu x.units i).spot ∨ 0 ≤ onI x.units (wishU L x (gu x.units i) : Nat) ∨ left < ontoL x.field (wishU L x (gu x.units i)) (gk L (gu x.units i).kind.toNat).flies then (x, ev)
    else goU L i q (setU x i { gu x.units i with spot := ((wishU L x (gu x.units i) : Nat) : Int) }) (left - ontoL x.field (wishU L x (gu x.units i)) (gk L (gu x.units i).kind.toNat).flies) (ev ++ [⟨1, (gu x.units i).id, ((wishU L x (gu x.units i) : Nat) : Int)⟩])
/-- Who has come to its end rests. -/
def endU (x : GW) (i : Nat) : GW := if (gu x.units i).task = 1 ∧ (gu x.units i).spot = (gu x.units i).goal then setU x i { gu x.units i with task := 0, goal := 0 } else x
noncomputable def doN (L : List GK) (x : GW) : Nat → GW × List EV
  | 0 => (x, [])
  | k + 1 =>
    let y := doN L x k
    let z := goU L k (((gk L (gu y.1.units k).kind.toNat).speed).toNat + 1) y.1 (gk L (gu y.1.units k).kind.toNat).speed y.2
    (endU z.1 k, z.2)
noncomputable def doL (L : List GK) (x : GW) : GW × List EV := doN L x x.units.length
/-- No more steps than are left: the count is of no account. -/
theorem goU_more {L : List GK} {i : Nat} : ∀ (q : Nat) (x : GW) (left : Int) (ev : List EV), WM L x → i < x.units.length → left < q → 0 ≤ left → goU L i (q + 1) x left ev = goU L i q x left ev
  | 0, x, left, ev, _, _, hq, h0 => by omega
  | q + 1, x, left, ev, hm, hi, hq, h0 => by
    conv => lhs; unfold goU
    conv => rhs; unfold goU
    by_cases c : ((wishU L x (gu x.units i) : Nat) : Int) = (gu x.units i).spot ∨ 0 ≤ onI x.units (wishU L x (gu x.units i) : Nat) ∨ left < ontoL x.field (wishU L x (gu x.units i)) (gk L (gu x.units i).kind.toNat).flies
    · rw [if_pos c, if_pos c]
    · rw [if_neg c, if_neg c]
      have hw := wish_in hm hi
      have hs := hm.spot i hi
      have hne : wishU L x (gu x.units i) ≠ (gu x.units i).spot.toNat := fun e => c (.inl (by omega))
      have h1 := (hw.2 hne).2
      have h2 : ¬ left < ontoL x.field (wishU L x (gu x.units i)) (gk L (gu x.units i).kind.toNat).flies := fun d => c (.inr (.inr d))
      refine goU_more q _ _ _ (hm.setU hi (hm.kind i hi) ⟨by show (0 : Int) ≤ ((wishU L x (gu x.units i) : Nat) : Int); omega, by show ((wishU L x (gu x.units i) : Nat) : Int) < _; have := hw.1; omega⟩ (hm.goal i hi)) (by rw [setU_len]; exact hi) (by omega) (by omega)
end Go.Proofs.YtkgkpggfoieioaaDoor
