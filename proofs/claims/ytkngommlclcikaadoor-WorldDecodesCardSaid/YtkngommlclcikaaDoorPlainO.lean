import Derived.Test.YtkngommlclcikaaDoorPlainX
namespace Go.Proofs.YtkngommlclcikaaDoor
set_option linter.unusedVariables false
/-! A world written, and read again. -/
/-- The numbers of a world, one by one. -/
def uN (u : GU) : List Int := [u.id, u.player, u.kind, u.spot, u.life, u.load, u.task, u.goal]
def jN (j : GJ) : List Int := [j.player, j.unit, j.kind, j.left]
def lN (l : List Int) : List Int := (l.length : Int) :: l
def wN (x : GW) : List Int := [x.turn, x.next, x.field.wide, x.field.high] ++ (lN x.field.ground ++ (lN x.field.ore ++ (lN x.gold ++ ((x.units.length : Int) :: x.units.flatMap uN ++ ((x.queue.length : Int) :: x.queue.flatMap jN)))))
/-- The bytes of a world. -/
def encL (x : GW) : List Int := (wN x).flatMap numL
/-- These numbers stand from p to q. -/
def Num_at (bs : List Int) (p : Nat) (l : List Int) (q : Nat) : Prop :=
  ∃ pre rest, bs = pre ++ (l.flatMap numL ++ rest) ∧ p = pre.length ∧ q = p + (l.flatMap numL).length ∧ ∀ n ∈ l, I64 n
theorem Num_at.le {bs l : List Int} {p q : Nat} (h : Num_at bs p l q) : p ≤ q ∧ q ≤ bs.length := by
  obtain ⟨pre, rest, rfl, rfl, rfl, _⟩ := h
  simp only [List.length_append]; omega
theorem Num_at.nil {bs : List Int} {p : Nat} (h : p ≤ bs.length) : Num_at bs p [] p :=
  ⟨bs.take p, bs.drop p, by simp, by rw [List.length_take]; omega, by simp, by simp⟩
theorem Num_at.nil_eq {bs : List Int} {p q : Nat} (h : Num_at bs p [] q) : q = p := by
  obtain ⟨_, _, _, _, h, _⟩ := h; simpa using h
theorem Num_at.join {bs l1 l2 : List Int} {p m q : Nat} (h1 : Num_at bs p l1 m) (h2 : Num_at bs m l2 q) : Num_at bs p (l1 ++ l2) q := by
  obtain ⟨pre, rest, e1, e2, e3, e4⟩ := h1
  obtain ⟨pre', rest', f1, f2, f3, f4⟩ := h2
  refine ⟨pre, rest', ?_, e2, by rw [f3, e3, List.flatMap_append, List.length_append]; omega, fun n hn => ?_⟩
  · have h3 : pre' = pre ++ l1.flatMap numL := by
      have h4 := f1
      rw [e1, ← List.append_assoc] at h4
      refine (List.append_inj h4 ?_).1.symm
      rw [List.length_append]; omega
    rw [f1, h3, List.flatMap_append, List.append_assoc, List.append_assoc]
  · rcases List.mem_append.1 hn with h | h
    · exact e4 n h
    · exact f4 n h
theorem Num_at.split {bs l1 l2 : List Int} {p q : Nat} (h : Num_at bs p (l1 ++ l2) q) : ∃ m, Num_at bs p l1 m ∧ Num_at bs m l2 q := by
  obtain ⟨pre, rest, e1, e2, e3, e4⟩ := h
  rw [List.flatMap_append] at e1 e3
  rw [List.length_append] at e3
  refine ⟨p + (l1.flatMap numL).length, ⟨pre, l2.flatMap numL ++ rest, by rw [e1, List.append_assoc], e2, rfl, fun n hn => e4 n (List.mem_append_left _ hn)⟩, ⟨pre ++ l1.flatMap numL, rest, by rw [e1]; simp only [List.append_assoc], by rw [List.length_append, e2], by omega, fun n hn => e4 n (List.mem_append_right _ hn)⟩⟩
theorem Num_at.rS {bs : List Int} {p q : Nat} {n : Int} (h : Num_at bs p [n] q) : rdS bs (some p) = (n, some q) := by
  obtain ⟨pre, rest, e1, e2, e3, e4⟩ := h
  have h1 := rdI_numL n pre rest (e4 n (by simp))
  simp only [List.flatMap_cons, List.flatMap_nil, List.append_nil] at e1 e3
  rw [e1, e2]
  unfold rdI at h1
  rw [List.append_assoc] at h1
  unfold Go.Proofs.YtkngommlclcikaaDoor.rdS
  cases hr : rdU (pre ++ (numL n ++ rest)) pre.length with
  | none => rw [hr] at h1; cases h1
  | some r =>
    obtain ⟨v, q'⟩ := r
    rw [hr] at h1
    simp only [Option.map_some, Option.some.injEq, Prod.mk.injEq] at h1
    obtain ⟨rfl, rfl⟩ := h1
    dsimp only
    rw [hr, e3, e2]; rfl
theorem rdS_back {bs : List Int} {p q : Nat} (hb : ∀ y ∈ bs, Byte y) (h : (rdS bs (some p)).2 = some q) : Num_at bs p [(rdS bs (some p)).1] q := by
  unfold rdS at h ⊢
  dsimp only at h ⊢
  cases hr : rdU bs p with
  | none => rw [hr] at h; cases h
  | some r =>
    obtain ⟨v, q'⟩ := r
    rw [hr] at h
    obtain rfl : q' = q := by have := h; simp only [toRS] at this; simpa using this
    obtain ⟨y, rfl, h2, h3, h4, _, _, _, h5⟩ := rdF_back 11 0 0 bs p v q' rfl hb hr
    show Num_at bs p [unz (0 + y * 128 ^ 0)] q'
    have hy : 0 + y * 128 ^ 0 = y := by omega
    have hy2 : y < 18446744073709551616 := by omega
    rw [hy]
    have hv : numL (unz y) = vb y := by unfold numL; rw [zz_unz]
    refine ⟨bs.take p, bs.drop q', ?_, by rw [List.length_take]; omega, ?_, fun n hn => ?_⟩
    · simp only [List.flatMap_cons, List.flatMap_nil, List.append_nil]
      rw [hv, ← h4]
      have e : bs.drop q' = (bs.drop p).drop (q' - p) := by rw [List.drop_drop]; congr 1; omega
      rw [e, List.take_append_drop, List.take_append_drop]
    · simp only [List.flatMap_cons, List.flatMap_nil, List.append_nil]
      rw [hv, ← h4, List.length_take, List.length_drop]; omega
    · rw [List.mem_singleton.1 hn]; exact unz_bd y hy2
theorem Num_at.rNs {bs : List Int} : ∀ (k : Nat) {l : List Int} {p q : Nat}, l.length = k → Num_at bs p l q → rdNs bs (some p) k = (l, some q)
  | 0, l, p, q, hl, h => by
    obtain rfl := List.length_eq_zero_iff.1 hl
    rw [h.nil_eq]; rfl
  | k + 1, l, p, q, hl, h => by
    obtain ⟨l', a, rfl⟩ : ∃ l' a, l = l' ++ [a] := by
      rcases List.eq_nil_or_concat l with rfl | ⟨l', a, rfl⟩
      · cases hl
      · exact ⟨l', a, List.concat_eq_append⟩
    obtain ⟨m, h1, h2⟩ := h.split
    have ih := Num_at.rNs k (l := l') (by rw [List.length_append] at hl; exact Nat.succ.inj hl) h1
    rw [Go.Proofs.YtkngommlclcikaaDoor.rdNs, ih, h2.rS]
theorem rdNs_back {bs : List Int} (hb : ∀ y ∈ bs, Byte y) {p : Nat} (hp : p ≤ bs.length) : ∀ (k : Nat) {q : Nat}, (rdNs bs (some p) k).2 = some q → Num_at bs p (rdNs bs (some p) k).1 q
  | 0, q, h => by
    obtain rfl : p = q := by simpa [rdNs] using h
    exact Num_at.nil hp
  | k + 1, q, h => by
    rw [rdNs] at h ⊢
    dsimp only at h ⊢
    cases hs : (rdNs bs (some p) k).2 with
    | none => rw [hs, rdS_none] at h; cases h
    | some m =>
      rw [hs] at h
      exact (rdNs_back hb hp k hs).join (rdS_back hb h)
theorem rdNs_from {bs : List Int} {st : Option Nat} {k q : Nat} (h : (rdNs bs st k).2 = some q) : ∃ p, st = some p := by
  cases st with
  | none => rw [rdNs_none] at h; cases h
  | some p => exact ⟨p, rfl⟩
theorem Num_at.rM {bs : List Int} {p q n : Nat} (h : Num_at bs p [(n : Int)] q) (hn : n ≤ 200) : rdM bs (some p) 200 = ((n : Int), some q) := by
  unfold Go.Proofs.YtkngommlclcikaaDoor.rdM
  rw [h.rS, if_neg (by dsimp only; omega)]
theorem rdM_back {bs : List Int} (hb : ∀ y ∈ bs, Byte y) {st : Option Nat} {q : Nat} (h : (rdM bs st 200).2 = some q) : ∃ p, st = some p ∧ Num_at bs p [((rdM bs st 200).1.toNat : Int)] q := by
  have h0 := rdM_bd bs st
  rw [Int.toNat_of_nonneg h0.1]
  cases st with
  | none => rw [rdM_none] at h; cases h
  | some p =>
    refine ⟨p, rfl, ?_⟩
    unfold rdM at h ⊢
    split at h
    · cases h
    · rename_i hn; rw [if_neg hn]; exact rdS_back hb h
theorem Num_at.rLs {bs l : List Int} {p q : Nat} (h : Num_at bs p (lN l) q) (hl : l.length ≤ 200) : rdLs bs (some p) = (l, some q) := by
  obtain ⟨m, h1, h2⟩ := Num_at.split (l1 := [(l.length : Int)]) (l2 := l) h
  unfold Go.Proofs.YtkngommlclcikaaDoor.rdLs
  rw [h1.rM hl]
  exact Num_at.rNs l.length (by simp) h2
theorem rdLs_back {bs : List Int} (hb : ∀ y ∈ bs, Byte y) {st : Option Nat} {q : Nat} (h : (rdLs bs st).2 = some q) : ∃ p, st = some p ∧ Num_at bs p (lN (rdLs bs st).1) q := by
  unfold rdLs at h
  obtain ⟨m, hm⟩ := rdNs_from h
  obtain ⟨p, hp, h1⟩ := rdM_back hb hm
  refine ⟨p, hp, ?_⟩
  rw [hm] at h
  have h2 := rdNs_back hb h1.le.2 _ h
  have e : lN (rdLs bs st).1 = [((rdM bs st 200).1.toNat : Int)] ++ (rdNs bs (some m) (rdM bs st 200).1.toNat).1 := by
    unfold lN rdLs; rw [rdNs_len, hm]; rfl
  rw [e]
  exact h1.join h2
theorem uOf_uN (u : GU) : uOf (uN u) = u := rfl
theorem jOf_jN (j : GJ) : jOf (jN j) = j := rfl
theorem uN_uOf : ∀ l : List Int, l.length = 8 → uN (uOf l) = l
  | [a, b, c, d, e, f, g, h], _ => rfl
theorem jN_jOf : ∀ l : List Int, l.length = 4 → jN (jOf l) = l
  | [a, b, c, d], _ => rfl
theorem Num_at.rUs {bs : List Int} : ∀ (k : Nat) {l : List GU} {p q : Nat}, l.length = k → Num_at bs p (l.flatMap uN) q → rdUs bs (some p) k = (l, some q)
  | 0, l, p, q, hl, h => by
    obtain rfl := List.length_eq_zero_iff.1 hl
    rw [Num_at.nil_eq h]; rfl
  | k + 1, l, p, q, hl, h => by
    obtain ⟨l', a, rfl⟩ : ∃ l' a, l = l' ++ [a] := by
      rcases List.eq_nil_or_concat l with rfl | ⟨l', a, rfl⟩
      · cases hl
      · exact ⟨l', a, List.concat_eq_append⟩
    rw [List.flatMap_append] at h
    obtain ⟨m, h1, h2⟩ := h.split
    have ih := Num_at.rUs k (l := l') (by rw [List.length_append] at hl; exact Nat.succ.inj hl) h1
    have h3 : rdNs bs (some m) 8 = (uN a, some q) := Num_at.rNs 8 (l := uN a) rfl (by simpa using h2)
    rw [Go.Proofs.YtkngommlclcikaaDoor.rdUs, ih]
    dsimp only
    rw [h3]; rfl
theorem Num_at.rJs {bs : List Int} : ∀ (k : Nat) {l : List GJ} {p q : Nat}, l.length = k → Num_at bs p (l.flatMap jN) q → rdJs bs (some p) k = (l, some q)
  | 0, l, p, q, hl, h => by
    obtain rfl := List.length_eq_zero_iff.1 hl
    rw [Num_at.nil_eq h]; rfl
  | k + 1, l, p, q, hl, h => by
    obtain ⟨l', a, rfl⟩ : ∃ l' a, l = l' ++ [a] := by
      rcases List.eq_nil_or_concat l with rfl | ⟨l', a, rfl⟩
      · cases hl
      · exact ⟨l', a, List.concat_eq_append⟩
    rw [List.flatMap_append] at h
    obtain ⟨m, h1, h2⟩ := h.split
    have ih := Num_at.rJs k (l := l') (by rw [List.length_append] at hl; exact Nat.succ.inj hl) h1
    have h3 : rdNs bs (some m) 4 = (jN a, some q) := Num_at.rNs 4 (l := jN a) rfl (by simpa using h2)
    rw [Go.Proofs.YtkngommlclcikaaDoor.rdJs, ih]
    dsimp only
    rw [h3]; rfl
theorem rdUs_back {bs : List Int} (hb : ∀ y ∈ bs, Byte y) {p : Nat} (hp : p ≤ bs.length) : ∀ (k : Nat) {q : Nat}, (rdUs bs (some p) k).2 = some q → Num_at bs p ((rdUs bs (some p) k).1.flatMap uN) q
  | 0, q, h => by
    obtain rfl : p = q := by simpa [rdUs] using h
    exact Num_at.nil hp
  | k + 1, q, h => by
    rw [rdUs] at h ⊢
    dsimp only at h ⊢
    obtain ⟨m, hs⟩ := rdNs_from h
    rw [hs] at h ⊢
    have h1 := rdUs_back hb hp k hs
    rw [List.flatMap_append, List.flatMap_cons, List.flatMap_nil, List.append_nil, uN_uOf _ (rdNs_len _ _ _)]
    exact h1.join (rdNs_back hb h1.le.2 8 h)
theorem rdJs_back {bs : List Int} (hb : ∀ y ∈ bs, Byte y) {p : Nat} (hp : p ≤ bs.length) : ∀ (k : Nat) {q : Nat}, (rdJs bs (some p) k).2 = some q → Num_at bs p ((rdJs bs (some p) k).1.flatMap jN) q
  | 0, q, h => by
    obtain rfl : p = q := by simpa [rdJs] using h
    exact Num_at.nil hp
  | k + 1, q, h => by
    rw [rdJs] at h ⊢
    dsimp only at h ⊢
    obtain ⟨m, hs⟩ := rdNs_from h
    rw [hs] at h ⊢
    have h1 := rdJs_back hb hp k hs
    rw [List.flatMap_append, List.flatMap_cons, List.flatMap_nil, List.append_nil, jN_jOf _ (rdNs_len _ _ _)]
    exact h1.join (rdNs_back hb h1.le.2 4 h)
theorem rdUs_from {bs : List Int} : ∀ {k : Nat} {st : Option Nat} {q : Nat}, (rdUs bs st k).2 = some q → ∃ p, st = some p
  | 0, st, q, h => ⟨q, h⟩
  | k + 1, st, q, h => by
    rw [rdUs] at h
    obtain ⟨m, hs⟩ := rdNs_from h
    exact rdUs_from hs
theorem rdJs_from {bs : List Int} : ∀ {k : Nat} {st : Option Nat} {q : Nat}, (rdJs bs st k).2 = some q → ∃ p, st = some p
  | 0, st, q, h => ⟨q, h⟩
  | k + 1, st, q, h => by
    rw [rdJs] at h
    obtain ⟨m, hs⟩ := rdNs_from h
    exact rdJs_from hs
/-- Lists that are not too long. -/
def Short (x : GW) : Prop := x.field.ground.length ≤ 200 ∧ x.field.ore.length ≤ 200 ∧ x.gold.length ≤ 200 ∧ x.units.length ≤ 200 ∧ x.queue.length ≤ 200
/-- What is written is read as it was. -/
theorem world_there (x : GW) (b : List Int) (hI : ∀ n ∈ wN x, I64 n) (hs : Short x) : dJ (encL x ++ b) = (x.queue, some (encL x).length) ∧ dW (encL x ++ b) = x := by
  obtain ⟨s1, s2, s3, s4, s5⟩ := hs
  have h : Num_at (encL x ++ b) 0 (wN x) (encL x).length := ⟨[], b, rfl, rfl, by simp [encL], hI⟩
  generalize encL x ++ b = bs at *
  generalize (encL x).length = q at *
  obtain ⟨p4, h4, h⟩ := Num_at.split h
  obtain ⟨pG, hG, h⟩ := Num_at.split h
  obtain ⟨pO, hO, h⟩ := Num_at.split h
  obtain ⟨pD, hD, h⟩ := Num_at.split h
  obtain ⟨pU, hU, hJ⟩ := Num_at.split h
  obtain ⟨pu, hu, hU⟩ := Num_at.split (l1 := [(x.units.length : Int)]) (l2 := x.units.flatMap uN) hU
  obtain ⟨pj, hj, hJ⟩ := Num_at.split (l1 := [(x.queue.length : Int)]) (l2 := x.queue.flatMap jN) hJ
  have e4 : dN bs 4 = ([x.turn, x.next, x.field.wide, x.field.high], some p4) := Num_at.rNs 4 rfl h4
  have eG : dG bs = (x.field.ground, some pG) := by unfold dG; rw [e4]; exact hG.rLs s1
  have eO : dO bs = (x.field.ore, some pO) := by unfold dO; rw [eG]; exact hO.rLs s2
  have eD : dD bs = (x.gold, some pD) := by unfold dD; rw [eO]; exact hD.rLs s3
  have eM : dMu bs = ((x.units.length : Int), some pu) := by unfold dMu; rw [eD]; exact hu.rM s4
  have eU : dU bs = (x.units, some pU) := by unfold dU; rw [eM]; exact Num_at.rUs _ (by simp) hU
  have eN : dMj bs = ((x.queue.length : Int), some pj) := by unfold dMj; rw [eU]; exact hj.rM s5
  have eJ : dJ bs = (x.queue, some q) := by unfold dJ; rw [eN]; exact Num_at.rJs _ (by simp) hJ
  refine ⟨eJ, ?_⟩
  unfold dW
  rw [e4, eG, eO, eD, eU, eJ]
  rfl
theorem dW_short (bs : List Int) : Short (dW bs) := by
  refine ⟨rdLs_len _ _, rdLs_len _ _, rdLs_len _ _, ?_, ?_⟩
  · show (dU bs).1.length ≤ 200
    unfold dU; rw [rdUs_len]; have := rdM_bd bs (dD bs).2; unfold dMu; omega
  · show (dJ bs).1.length ≤ 200
    unfold dJ; rw [rdJs_len]; have := rdM_bd bs (dU bs).2; unfold dMj; omega
/-- What any bytes are read as is written as these bytes. -/
theorem world_back (bs : List Int) (p : Nat) (hb : ∀ y ∈ bs, Byte y) (h : (dJ bs).2 = some p) : Num_at bs 0 (wN (dW bs)) p := by
  unfold dJ at h
  obtain ⟨pj, ej⟩ := rdJs_from h
  rw [ej] at h
  obtain ⟨pU, eU, hj⟩ := rdM_back hb ej
  have hU0 := eU
  unfold dU at eU
  obtain ⟨pu, eu⟩ := rdUs_from eU
  rw [eu] at eU
  obtain ⟨pD, eD, hu⟩ := rdM_back hb eu
  have hU := rdUs_back hb hu.le.2 _ eU
  have hJ := rdJs_back hb hj.le.2 _ h
  obtain ⟨pO, eO, hD⟩ := rdLs_back hb eD
  obtain ⟨pG, eG, hO⟩ := rdLs_back hb eO
  obtain ⟨p4, e4, hG⟩ := rdLs_back hb eG
  have h4 : Num_at bs 0 (dN bs 4).1 p4 := rdNs_back hb (Nat.zero_le _) 4 e4
  have e : wN (dW bs) = (dN bs 4).1 ++ (lN (dG bs).1 ++ (lN (dO bs).1 ++ (lN (dD bs).1 ++ (([((dMu bs).1.toNat : Int)] ++ (rdUs bs (some pu) (dMu bs).1.toNat).1.flatMap uN) ++ ([((dMj bs).1.toNat : Int)] ++ (rdJs bs (some pj) (dMj bs).1.toNat).1.flatMap jN))))) := by
    have l4 : (dN bs 4).1.length = 4 := rdNs_len _ _ _
    have f4 : [(dN bs 4).1.getD 0 0, (dN bs 4).1.getD 1 0, (dN bs 4).1.getD 2 0, (dN bs 4).1.getD 3 0] = (dN bs 4).1 := jN_jOf _ l4
    have fU : (dU bs).1 = (rdUs bs (some pu) (dMu bs).1.toNat).1 := by unfold dU; rw [eu]
    have fJ : (dJ bs).1 = (rdJs bs (some pj) (dMj bs).1.toNat).1 := by unfold dJ; rw [ej]
    have fu : (((dU bs).1.length : Nat) : Int) = ((dMu bs).1.toNat : Int) := by unfold dU; rw [rdUs_len]
    have fj : (((dJ bs).1.length : Nat) : Int) = ((dMj bs).1.toNat : Int) := by unfold dJ; rw [rdJs_len]
    unfold wN dW
    dsimp only
    rw [f4, fu, fj, fU, fJ]
    rfl
  rw [e]
  exact h4.join (hG.join (hO.join (hD.join ((hu.join hU).join (hj.join hJ)))))
theorem world_back' (bs : List Int) (p : Nat) (hb : ∀ y ∈ bs, Byte y) (h : (dJ bs).2 = some p) : (∀ n ∈ wN (dW bs), I64 n) ∧ encL (dW bs) = bs.take p ∧ (encL (dW bs)).length = p := by
  obtain ⟨pre, rest, e1, e2, e3, e4⟩ := world_back bs p hb h
  obtain rfl := List.length_eq_zero_iff.1 e2.symm
  have e5 : (encL (dW bs)).length = p := by unfold encL; omega
  refine ⟨e4, ?_, e5⟩
  have e6 : bs = encL (dW bs) ++ rest := e1
  generalize encL (dW bs) = z at *
  rw [e6, ← e5, List.take_left']
  rfl
/-- Without its last byte it is none. -/
theorem world_cut (x : GW) (hI : ∀ n ∈ wN x, I64 n) (hs : Short x) : (dJ ((encL x).take ((encL x).length - 1))).2 = none := by
  have hby : ∀ y ∈ encL x, Byte y := fun y hy => by
    obtain ⟨n, _, hn⟩ := List.mem_flatMap.1 hy
    exact numL_byte n y hn
  generalize hbs : (encL x).take ((encL x).length - 1) = bs
  have hb : ∀ y ∈ bs, Byte y := fun y hy => hby y (List.mem_of_mem_take (hbs ▸ hy))
  cases hc : (dJ bs).2 with
  | none => rfl
  | some p =>
    exfalso
    have h0 := (world_there x [] hI hs).1
    rw [List.append_nil] at h0
    have hpos : 0 < (encL x).length := by
      unfold encL wN
      rw [List.flatMap_append, List.length_append]
      have : 0 < ([x.turn, x.next, x.field.wide, x.field.high].flatMap numL).length := by
        rw [List.flatMap_cons, List.length_append]
        have := vb_pos (zz x.turn)
        unfold numL
        omega
      omega
    obtain ⟨g1, g2, g3⟩ := world_back' bs p hb hc
    have hle := (world_back bs p hb hc).le.2
    have hbl : bs.length = (encL x).length - 1 := by rw [← hbs, List.length_take]; omega
    have hex : encL x = encL (dW bs) ++ (encL x).drop p := by
      rw [g2, ← hbs, List.take_take, Nat.min_eq_left (by omega), List.take_append_drop]
    have h1 := (world_there (dW bs) ((encL x).drop p) g1 (dW_short bs)).1
    rw [← hex, h0] at h1
    have : (encL x).length = (encL (dW bs)).length := by
      have := congrArg Prod.snd h1
      simpa using this
    omega
theorem encL_pos (x : GW) : 0 < (encL x).length := by
  unfold encL wN
  rw [List.flatMap_append, List.length_append]
  have : 0 < ([x.turn, x.next, x.field.wide, x.field.high].flatMap numL).length := by
    rw [List.flatMap_cons, List.length_append]
    have := vb_pos (zz x.turn)
    unfold numL
    omega
  omega
theorem encL_byte (x : GW) : ∀ y ∈ encL x, Byte y := fun y hy => by
  obtain ⟨n, _, hn⟩ := List.mem_flatMap.1 hy
  exact numL_byte n y hn
end Go.Proofs.YtkngommlclcikaaDoor
