import Derived.Test.YtkgkpggfoieioaaDoorKindC
import Derived.Test.YtkgkpggfoieioaaDoorUnitF
import Derived.BigQuiet
import Derived.Deep.QuietTactic
import Derived.StillTailTactics
namespace Go.Proofs.YtkgkpggfoieioaaDoor
set_option linter.unusedVariables false
open Go.RowKit
/-! kinds.Worth. -/
/-- Is a unit none whose worth can be told? -/
def unitBad (L : List GK) (u : GU) : Bool := decide (u.player < 0) || decide (4 ≤ u.player) || decide (u.kind < 0) || decide ((L.length : Int) ≤ u.kind) || decide (u.life < 0) || decide ((gk L u.kind.toNat).life < u.life)
/-- What a unit is worth. -/
def worthU (L : List GK) (u : GU) : Int := (gk L u.kind.toNat).price * u.life / (gk L u.kind.toNat).life
def addW (L : List GK) (v : List Int) (u : GU) : List Int := v.set u.player.toNat (v.getD u.player.toNat 0 + worthU L u)
def worthN (L : List GK) (us : List GU) : Nat → List Int
  | 0 => [0, 0, 0, 0]
  | k + 1 => addW L (worthN L us k) (gu us k)
def worthE (L : List GK) (us : List GU) : Int := if kindsE L ≠ 0 then kindsE L else if 40 < us.length then 4 else if us.any (unitBad L) = true then 1 else 0
theorem worthN_len (L : List GK) (us : List GU) : ∀ k, (worthN L us k).length = 4
  | 0 => rfl
  | k + 1 => by rw [worthN, addW, List.length_set, worthN_len L us k]
theorem unitBad_no {L : List GK} {u : GU} (h : unitBad L u = false) : 0 ≤ u.player ∧ u.player ≤ 3 ∧ 0 ≤ u.kind ∧ u.kind < L.length ∧ 0 ≤ u.life ∧ u.life ≤ (gk L u.kind.toNat).life := by
  unfold unitBad at h
  simp only [Bool.or_eq_false_iff, decide_eq_false_iff_not] at h
  omega
theorem worthU_bd {L : List GK} {u : GU} (hK : KindsOk L) (h : unitBad L u = false) : 0 ≤ worthU L u ∧ worthU L u ≤ 1000 := by
  obtain ⟨h1, h2, h3, h4, h5, h6⟩ := unitBad_no h
  have hk := hK.each u.kind.toNat (by omega)
  unfold worthU
  have hl := hk.life
  have hp := hk.price
  generalize (gk L u.kind.toNat).price = p at *
  generalize (gk L u.kind.toNat).life = l at *
  refine ⟨Int.ediv_nonneg (Int.mul_nonneg hp.1 h5) (by omega), ?_⟩
  refine Int.ediv_le_of_le_mul (by omega) ?_
  exact Int.mul_le_mul hp.2 h6 h5 (by omega)
theorem worthN_bd {L : List GK} {us : List GU} (hK : KindsOk L) (h : us.any (unitBad L) = false) : ∀ k, k ≤ us.length → ∀ i, 0 ≤ (worthN L us k).getD i 0 ∧ (worthN L us k).getD i 0 ≤ 1000 * k
  | 0, _, i => by
    rcases (by omega : i = 0 ∨ i = 1 ∨ i = 2 ∨ i = 3 ∨ 4 ≤ i) with rfl | rfl | rfl | rfl | h
    · exact ⟨Int.le_refl _, Int.le_refl _⟩
    · exact ⟨Int.le_refl _, Int.le_refl _⟩
    · exact ⟨Int.le_refl _, Int.le_refl _⟩
    · exact ⟨Int.le_refl _, Int.le_refl _⟩
    · have : (worthN L us 0).getD i 0 = 0 := by
        rw [List.getD_eq_getElem?_getD, List.getElem?_eq_none (by rw [worthN_len]; exact h)]; rfl
      rw [this]; omega
  | k + 1, hk, i => by
    have ih := worthN_bd hK h k (by omega)
    have hb : unitBad L (gu us k) = false := by
      rw [List.any_eq_false] at h
      have := h _ (gu_mem (l := us) (i := k) (by omega))
      simpa using this
    have hw := worthU_bd hK hb
    rw [worthN, addW, List.getD_eq_getElem?_getD, List.getElem?_set]
    by_cases e : (gu us k).player.toNat = i
    · rw [if_pos e]
      have := ih (gu us k).player.toNat
      split
      · simp only [Option.getD_some]; omega
      · simp only [Option.getD_none]; omega
    · rw [if_neg e, ← List.getD_eq_getElem?_getD]
      have := ih i
      omega
end Go.Proofs.YtkgkpggfoieioaaDoor
