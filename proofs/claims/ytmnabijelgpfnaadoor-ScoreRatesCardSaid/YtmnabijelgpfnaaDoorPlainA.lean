import Derived.WalkKit
namespace Go.Proofs.YtmnabijelgpfnaaDoor
set_option linter.unusedVariables false
/-- What the rating function computes. -/
def rateE (a b : Int) : Int := min 950 (max 50 (500 + (a - b).tdiv 2))
def rateQ (e h : Int) : Int := ((500 * h - e) * 32).tdiv 1000
def rateC (d a b : Int) : Int := min (min (max (max d (-a)) (b - 4000)) (4000 - a)) b
def rateD (a b h : Int) : Int := rateC (rateQ (rateE a b) h) a b
theorem rateE_bd (a b : Int) : 50 ≤ rateE a b ∧ rateE a b ≤ 950 := by unfold rateE; omega
theorem tdiv2_bd (n k : Int) (h1 : -2 * k ≤ n) (h2 : n ≤ 2 * k) : -k ≤ n.tdiv 2 ∧ n.tdiv 2 ≤ k := by
  rcases Int.le_total 0 n with h | h
  · rw [Int.tdiv_eq_ediv_of_nonneg h]; omega
  · have : n = -(-n) := by omega
    rw [this, Int.neg_tdiv, Int.tdiv_eq_ediv_of_nonneg (by omega)]; omega
theorem tdiv1000_bd (n k : Int) (h1 : -1000 * k ≤ n) (h2 : n ≤ 1000 * k) : -k ≤ n.tdiv 1000 ∧ n.tdiv 1000 ≤ k := by
  rcases Int.le_total 0 n with h | h
  · rw [Int.tdiv_eq_ediv_of_nonneg h]; omega
  · have : n = -(-n) := by omega
    rw [this, Int.neg_tdiv, Int.tdiv_eq_ediv_of_nonneg (by omega)]; omega
theorem rateQ_bd (e h : Int) (h1 : 50 ≤ e) (h2 : e ≤ 950) (h3 : 0 ≤ h) (h4 : h ≤ 2) : -50 ≤ rateQ e h ∧ rateQ e h ≤ 50 := by
  unfold rateQ; exact tdiv1000_bd _ 50 (by omega) (by omega)
theorem rateC_bd (d a b : Int) (ha : 0 ≤ a) (ha' : a ≤ 4000) (hb : 0 ≤ b) (hb' : b ≤ 4000) :
    0 ≤ a + rateC d a b ∧ a + rateC d a b ≤ 4000 ∧ 0 ≤ b - rateC d a b ∧ b - rateC d a b ≤ 4000 := by unfold rateC; omega
theorem rateQ_2 (e : Int) (h1 : 50 ≤ e) (h2 : e ≤ 950) : 0 ≤ rateQ e 2 := by
  unfold rateQ; rw [Int.tdiv_eq_ediv_of_nonneg (by omega)]; omega
theorem rateQ_0 (e : Int) (h1 : 50 ≤ e) (h2 : e ≤ 950) : rateQ e 0 ≤ 0 := by
  unfold rateQ
  rw [show (500 * 0 - e) * 32 = -(e * 32) by omega, Int.neg_tdiv, Int.tdiv_eq_ediv_of_nonneg (by omega)]; omega
/-- Seen from the other side. -/
theorem rateE_flip (a b : Int) : rateE b a = 1000 - rateE a b := by
  unfold rateE
  rw [show b - a = -(a - b) by omega, Int.neg_tdiv]; omega
theorem rateQ_flip (e h : Int) : rateQ (1000 - e) (2 - h) = - rateQ e h := by
  unfold rateQ
  rw [show (500 * (2 - h) - (1000 - e)) * 32 = -((500 * h - e) * 32) by omega, Int.neg_tdiv]
theorem rateC_flip (d a b : Int) (ha : 0 ≤ a) (ha' : a ≤ 4000) (hb : 0 ≤ b) (hb' : b ≤ 4000) : rateC (-d) b a = - rateC d a b := by unfold rateC; omega
theorem rateD_flip (a b h : Int) (ha : 0 ≤ a) (ha' : a ≤ 4000) (hb : 0 ≤ b) (hb' : b ≤ 4000) : rateD b a (2 - h) = - rateD a b h := by
  unfold rateD; rw [rateE_flip, rateQ_flip, rateC_flip _ _ _ ha ha' hb hb']
theorem rateE_mono (a b m : Int) (h : a ≤ m) : rateE a b ≤ rateE m b := by
  have : (a - b).tdiv 2 ≤ (m - b).tdiv 2 := by
    rcases Int.le_total 0 (a - b) with h1 | h1 <;> rcases Int.le_total 0 (m - b) with h2 | h2
    · rw [Int.tdiv_eq_ediv_of_nonneg h1, Int.tdiv_eq_ediv_of_nonneg h2]; omega
    · rw [Int.tdiv_eq_ediv_of_nonneg h1, show m - b = -(-(m-b)) by omega, Int.neg_tdiv, Int.tdiv_eq_ediv_of_nonneg (by omega)]; omega
    · rw [show a - b = -(-(a-b)) by omega, Int.neg_tdiv, Int.tdiv_eq_ediv_of_nonneg (a := -(a-b)) (by omega), Int.tdiv_eq_ediv_of_nonneg h2]; omega
    · rw [show a - b = -(-(a-b)) by omega, Int.neg_tdiv, Int.tdiv_eq_ediv_of_nonneg (a := -(a-b)) (by omega), show m - b = -(-(m-b)) by omega, Int.neg_tdiv, Int.tdiv_eq_ediv_of_nonneg (a := -(m-b)) (by omega)]; omega
  unfold rateE; omega
theorem rateQ_anti (e f : Int) (_h1 : 50 ≤ e) (h2 : e ≤ f) (h3 : f ≤ 950) : rateQ f 2 ≤ rateQ e 2 := by
  unfold rateQ; rw [Int.tdiv_eq_ediv_of_nonneg (by omega), Int.tdiv_eq_ediv_of_nonneg (by omega)]; omega
theorem rateD_anti (a b m : Int) (h : a ≤ m) : rateD m b 2 ≤ rateD a b 2 := by
  have e1 := rateE_bd a b
  have e2 := rateE_bd m b
  have e3 := rateE_mono a b m h
  have q := rateQ_anti _ _ e1.1 e3 e2.2
  have q0 := rateQ_2 _ e2.1 e2.2
  have q1 := rateQ_2 _ e1.1 e1.2
  unfold rateD
  generalize rateQ (rateE m b) 2 = x at *
  generalize rateQ (rateE a b) 2 = y at *
  unfold rateC; omega
theorem rateD_fact : rateD 1000 1000 2 = 16 := by decide
theorem rateD_bd (a b h : Int) (ha : 0 ≤ a) (ha' : a ≤ 4000) (hb : 0 ≤ b) (hb' : b ≤ 4000) :
    0 ≤ a + rateD a b h ∧ a + rateD a b h ≤ 4000 ∧ 0 ≤ b - rateD a b h ∧ b - rateD a b h ≤ 4000 := rateC_bd _ a b ha ha' hb hb'
theorem rateD_2 (a b : Int) (ha' : a ≤ 4000) (hb : 0 ≤ b) : 0 ≤ rateD a b 2 := by
  have e1 := rateE_bd a b
  have q1 := rateQ_2 _ e1.1 e1.2
  unfold rateD
  generalize rateQ (rateE a b) 2 = x at *
  unfold rateC; omega
theorem rateD_0 (a b : Int) (ha : 0 ≤ a) (hb' : b ≤ 4000) : rateD a b 0 ≤ 0 := by
  have e1 := rateE_bd a b
  have q1 := rateQ_0 _ e1.1 e1.2
  unfold rateD
  generalize rateQ (rateE a b) 0 = x at *
  unfold rateC; omega
end Go.Proofs.YtmnabijelgpfnaaDoor
