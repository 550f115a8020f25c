import Derived.Test.YtkgkpggfoieioaaDoorMrgg
import Derived.Test.YtkgkpggfoieioaaDoorPlainMk
import Derived.Test.YtkgkpggfoieioaaDoorPlainRw
namespace Go.Proofs.YtkgkpggfoieioaaDoor
set_option linter.unusedVariables false
/-! The fact's move: the fighter marches one cell. -/
def uM : GU := ⟨3, 1, 2, 3, 20, 0, 1, 2⟩
def fwM : GW := setU xS4 2 uM
theorem okM : WorldOk sortsL fwM :=
  set_ok okS4 (i := 2) (by decide) (by decide) (by decide) (by decide) (by decide) (by decide) (by decide) (by decide) (by decide) (by decide) (.inl (by decide)) (by decide)
theorem goU_stop {L : List GK} {i : Nat} {y : GW} {left : Int} {ev : List EV} (h : ((wishU L y (gu y.units i) : Nat) : Int) = (gu y.units i).spot) : ∀ q, goU L i q y left ev = (y, ev)
  | 0 => rfl
  | q + 1 => by
    unfold goU
    rw [if_pos (.inl h)]
theorem goU_rest {L : List GK} {i : Nat} {y : GW} {left : Int} {ev : List EV} (h : (gu y.units i).task = 0) (hs : 0 ≤ (gu y.units i).spot) (q : Nat) : goU L i q y left ev = (y, ev) :=
  goU_stop (by
    unfold wishU
    rw [if_neg (by omega), if_neg (by omega)]
    omega) q
theorem endU_no {x : GW} {i : Nat} (h : ¬ ((gu x.units i).task = 1 ∧ (gu x.units i).spot = (gu x.units i).goal)) : endU x i = x := by
  unfold endU; rw [if_neg h]
theorem fS_far : at0 (toF fS false 2) 2 = 0 ∧ at0 (toF fS false 2) 3 = 1 := by
  have hd := toF_dto (good_of fS fS_ok) false (b := 2) (by decide)
  have h2 := hd.hsrc.2
  have h3 := hd.relax 2 3 (by decide) (by decide) (by unfold NB; decide) (by decide) (by omega)
  have hc : costTo fS false 2 3 = 1 := by decide
  obtain ⟨a, ha, _, hc3, h4, h5⟩ := hd.pred 3 (by decide) h3.1 (by decide)
  omega
theorem wishM : wishU sortsL fwM uM = 2 := by
  unfold wishU
  rw [if_pos (by decide)]
  show towardL fS false 3 2 = 2
  obtain ⟨h2, h3⟩ := fS_far
  unfold towardL
  rw [if_neg (by rw [h3]; decide)]
  unfold nextL
  rw [show besL fS ((3 : Nat) : Int) = [2, 7] by decide]
  unfold findD
  rw [if_pos]
  · rfl
  · unfold okN
    rw [show (2 : Int).toNat = 2 by rfl, h2, h3]
    decide
def uM2 : GU := ⟨3, 1, 2, 2, 20, 0, 1, 2⟩
def uM3 : GU := ⟨3, 1, 2, 2, 20, 0, 0, 0⟩
theorem doM : doL sortsL fwM = (setU fwM 2 uM3, [⟨1, 3, 2⟩]) := by
  unfold doL
  rw [show fwM.units.length = 3 by decide]
  have d1 : doN sortsL fwM 1 = (fwM, []) := by
    unfold doN
    rw [show doN sortsL fwM 0 = (fwM, []) from rfl]
    dsimp only
    rw [goU_rest (by decide) (by decide), endU_no (by decide)]
  have d2 : doN sortsL fwM 2 = (fwM, []) := by
    unfold doN
    rw [d1]
    dsimp only
    rw [goU_rest (by decide) (by decide), endU_no (by decide)]
  unfold doN
  rw [d2]
  dsimp only
  have hw := wishM
  have e2 : gu fwM.units 2 = uM := by decide
  rw [e2, show (gk sortsL uM.kind.toNat).speed.toNat + 1 = 3 by rfl]
  have hgo : goU sortsL 2 3 fwM (gk sortsL uM.kind.toNat).speed [] = (setU fwM 2 uM2, [⟨1, 3, 2⟩]) := by
    unfold goU
    rw [e2, hw, if_neg (by decide)]
    refine goU_stop ?_ 2
    show ((wishU sortsL (setU fwM 2 uM2) (gu (setU fwM 2 uM2).units 2) : Nat) : Int) = _
    rw [show gu (setU fwM 2 uM2).units 2 = uM2 by decide]
    have : wishU sortsL (setU fwM 2 uM2) uM2 = 2 := by
      unfold wishU
      rw [if_pos (by decide)]
      exact toward_self (good_of fS fS_ok) false (by decide)
    rw [this]
    rfl
  rw [hgo]
  dsimp only
  unfold endU
  rw [if_pos (by decide)]
  rfl
end Go.Proofs.YtkgkpggfoieioaaDoor
