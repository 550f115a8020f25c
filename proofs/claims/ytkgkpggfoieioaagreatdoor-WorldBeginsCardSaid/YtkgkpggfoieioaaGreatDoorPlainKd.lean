import Derived.Test.YtkgkpggfoieioaaGreatDoorPlainW
import Derived.Lib.SlTrimSet
namespace Go.Proofs.YtkgkpggfoieioaaGreatDoor
set_option linter.unusedVariables false
/-! Kinds, in plain data. -/
structure GK where
  name : ByteArray
  life : Int
  hit : Int
  range : Int
  sight : Int
  speed : Int
  price : Int
  turns : Int
  carry : Int
  flies : Bool
  trains : Bool
def kC (k : GK) : List Value := [.string k.name, .int .i64 k.life, .int .i64 k.hit, .int .i64 k.range, .int .i64 k.sight, .int .i64 k.speed, .int .i64 k.price, .int .i64 k.turns, .int .i64 k.carry, .bool k.flies, .bool k.trains]
theorem kC_len (k : GK) : (kC k).length = 11 := rfl
theorem kC_one (k : GK) : ∀ v ∈ kC k, v.oneCell' = true := by
  intro v hv
  simp only [kC, List.mem_cons, List.not_mem_nil, or_false] at hv
  rcases hv with rfl | rfl | rfl | rfl | rfl | rfl | rfl | rfl | rfl | rfl | rfl <;> rfl
/-- A kind that was read: its numbers are int's. -/
def GK.ok (k : GK) : Prop := k.name.size ≤ 9223372036854775807 ∧ I64 k.life ∧ I64 k.hit ∧ I64 k.range ∧ I64 k.sight ∧ I64 k.speed ∧ I64 k.price ∧ I64 k.turns ∧ I64 k.carry
def gk (l : List GK) (i : Nat) : GK := l.getD i ⟨⟨#[]⟩, 0, 0, 0, 0, 0, 0, 0, 0, false, false⟩
theorem gk_get {l : List GK} {i : Nat} (h : i < l.length) : l[i]? = some (gk l i) := by unfold gk; rw [List.getD_eq_getElem?_getD, List.getElem?_eq_getElem h]; rfl
theorem gk_mem {l : List GK} {i : Nat} (h : i < l.length) : gk l i ∈ l := List.mem_of_getElem? (gk_get h)
theorem gk_of {l : List GK} {k : GK} (h : k ∈ l) : ∃ i, i < l.length ∧ gk l i = k := by
  obtain ⟨i, hi⟩ := List.mem_iff_getElem?.1 h
  have hl : i < l.length := (List.getElem?_eq_some_iff.1 hi).1
  rw [gk_get hl] at hi
  exact ⟨i, hl, by injection hi⟩
def letters : List UInt8 := [97, 98, 99, 100, 101, 102, 103, 104, 105, 106, 107, 108, 109, 110, 111, 112, 113, 114, 115, 116, 117, 118, 119, 120, 121, 122]
theorem letters_iff (b : UInt8) : letters.contains b = (decide (97 ≤ b.toNat) && decide (b.toNat ≤ 122)) := by
  have h : ∀ n : Fin 256, letters.contains (UInt8.ofFin n) = (decide (97 ≤ n.val) && decide (n.val ≤ 122)) := by decide +kernel
  exact h b.toFin
/-- Small letters alone? -/
def lowB (s : ByteArray) : Bool := s.data.toList.all fun b => decide (97 ≤ b.toNat) && decide (b.toNat ≤ 122)
theorem trim_low (l : List UInt8) : Lib.trimS l letters = [] ↔ (l.all fun b => decide (97 ≤ b.toNat) && decide (b.toNat ≤ 122)) = true := by
  have hq : (fun b => letters.contains b) = fun b : UInt8 => decide (97 ≤ b.toNat) && decide (b.toNat ≤ 122) := funext letters_iff
  unfold Lib.trimS Lib.trimLeftS Lib.trimRightS
  rw [hq]
  generalize (fun b : UInt8 => decide (97 ≤ b.toNat) && decide (b.toNat ≤ 122)) = q
  have h1 : ∀ m : List UInt8, m.dropWhile q = [] ↔ m.all q = true := fun m => by
    induction m with
    | nil => simp
    | cons x m ih =>
      rw [List.dropWhile_cons, List.all_cons]
      cases hx : q x with
      | true => simp [ih]
      | false => simp
  rw [h1, List.all_reverse]
  constructor
  · intro h
    have h2 : ∀ m : List UInt8, (m.dropWhile q).all q = true → m.all q = true := fun m => by
      induction m with
      | nil => simp
      | cons x m ih =>
        rw [List.dropWhile_cons, List.all_cons]
        cases hx : q x with
        | true => simpa using ih
        | false => simp [List.all_cons, hx]
    have := h2 _ h
    rwa [List.all_reverse] at this
  · intro h
    have : l.reverse.dropWhile q = [] := (h1 _).2 (by rwa [List.all_reverse])
    rw [this]; rfl
def numK (k : GK) : List Int := [k.life, k.hit, k.range, k.sight, k.speed, k.price, k.turns, k.carry]
/-- Is one of the numbers none that may be? -/
def badN (n : Int) : Bool := decide (n < 0) || decide (1000 < n)
def numsB (k : GK) : Bool := (numK k).any badN
def clashB (l : List GK) (i : Nat) : Bool := (l.take i).any fun x => x.name.toList == (gk l i).name.toList
/-- The fault of one, those ahead being right. -/
def kindE (l : List GK) (i : Nat) : Int :=
  if (gk l i).name.size = 0 ∨ 8 < (gk l i).name.size ∨ lowB (gk l i).name = false then 2
  else if clashB l i = true then 8
  else if (gk l i).life < 1 ∨ numsB (gk l i) = true then 1
  else if 4 < (gk l i).speed ∨ 12 < (gk l i).range ∨ 12 < (gk l i).sight then 1
  else 0
def kindsN (l : List GK) : Nat → Int
  | 0 => 0
  | k + 1 => if kindsN l k ≠ 0 then kindsN l k else kindE l k
def kindsE (l : List GK) : Int := if 8 < l.length then 4 else kindsN l l.length
theorem kindsN_mono (l : List GK) (k n : Nat) (h : k ≤ n) (hk : kindsN l k ≠ 0) : kindsN l n = kindsN l k := by
  induction n with
  | zero => have : k = 0 := by omega
            subst this; rfl
  | succ n ih =>
    rcases Nat.lt_or_ge k (n + 1) with h1 | h1
    · have := ih (by omega)
      rw [kindsN, this, if_pos hk]
    · have : k = n + 1 := by omega
      subst this; rfl
/-- A kind that may be. -/
structure KindOk (k : GK) : Prop where
  size : 1 ≤ k.name.size ∧ k.name.size ≤ 8
  low : lowB k.name = true
  life : 1 ≤ k.life ∧ k.life ≤ 1000
  hit : 0 ≤ k.hit ∧ k.hit ≤ 1000
  range : 0 ≤ k.range ∧ k.range ≤ 12
  sight : 0 ≤ k.sight ∧ k.sight ≤ 12
  speed : 0 ≤ k.speed ∧ k.speed ≤ 4
  price : 0 ≤ k.price ∧ k.price ≤ 1000
  turns : 0 ≤ k.turns ∧ k.turns ≤ 1000
  carry : 0 ≤ k.carry ∧ k.carry ≤ 1000
theorem badN_no {n : Int} (h : badN n = false) : 0 ≤ n ∧ n ≤ 1000 := by
  unfold badN at h
  rw [Bool.or_eq_false_iff, decide_eq_false_iff_not, decide_eq_false_iff_not] at h
  omega
theorem kindE_ok {l : List GK} {i : Nat} (h : kindE l i = 0) : KindOk (gk l i) ∧ clashB l i = false := by
  unfold kindE at h
  by_cases h1 : (gk l i).name.size = 0 ∨ 8 < (gk l i).name.size ∨ lowB (gk l i).name = false
  · rw [if_pos h1] at h; cases h
  rw [if_neg h1] at h
  by_cases h2 : clashB l i = true
  · rw [if_pos h2] at h; cases h
  rw [if_neg h2] at h
  by_cases h3 : (gk l i).life < 1 ∨ numsB (gk l i) = true
  · rw [if_pos h3] at h; cases h
  rw [if_neg h3] at h
  by_cases h4 : 4 < (gk l i).speed ∨ 12 < (gk l i).range ∨ 12 < (gk l i).sight
  · rw [if_pos h4] at h; cases h
  have h5 : numsB (gk l i) = false := by cases hb : numsB (gk l i) with
    | true => exact absurd (.inr hb) h3
    | false => rfl
  unfold numsB numK at h5
  simp only [List.any_cons, List.any_nil, Bool.or_false, Bool.or_eq_false_iff] at h5
  obtain ⟨n1, n2, n3, n4, n5, n6, n7, n8⟩ := h5
  have n1 := badN_no n1
  have n2 := badN_no n2
  have n3 := badN_no n3
  have n4 := badN_no n4
  have n5 := badN_no n5
  have n6 := badN_no n6
  have n7 := badN_no n7
  have n8 := badN_no n8
  have hlow : lowB (gk l i).name = true := by cases hb : lowB (gk l i).name with
    | true => rfl
    | false => exact absurd (.inr (.inr hb)) h1
  exact ⟨⟨by omega, hlow, by omega, by omega, by omega, by omega, by omega, by omega, by omega, by omega⟩, by simpa using h2⟩
/-- Kinds that may be. -/
structure KindsOk (l : List GK) : Prop where
  few : l.length ≤ 8
  each : ∀ i, i < l.length → KindOk (gk l i)
  apart : ∀ i j, j < i → i < l.length → (gk l j).name.toList ≠ (gk l i).name.toList
theorem kindsN_0 {l : List GK} : ∀ n, kindsN l n = 0 → ∀ i, i < n → kindE l i = 0
  | 0, _, i, hi => by omega
  | n + 1, h, i, hi => by
    have h1 : kindsN l n = 0 := by
      by_cases e : kindsN l n = 0
      · exact e
      · rw [kindsN, if_pos e] at h; exact h
    rw [kindsN, if_neg (fun e => e h1)] at h
    rcases Nat.lt_or_ge i n with h2 | h2
    · exact kindsN_0 n h1 i h2
    · have : i = n := by omega
      subst this; exact h
theorem kindsE_0 {l : List GK} (h : kindsE l = 0) : KindsOk l := by
  unfold kindsE at h
  by_cases h8 : 8 < l.length
  · rw [if_pos h8] at h; cases h
  rw [if_neg h8] at h
  have hz := kindsN_0 _ h
  refine ⟨by omega, fun i hi => (kindE_ok (hz i hi)).1, fun i j hj hi e => ?_⟩
  have hc := (kindE_ok (hz i hi)).2
  unfold clashB at hc
  rw [List.any_eq_false] at hc
  have hm : gk l j ∈ l.take i := by
    rw [List.mem_iff_getElem?]
    exact ⟨j, by rw [List.getElem?_take_of_lt hj]; exact gk_get (by omega)⟩
  exact hc _ hm (by rw [e]; simp)
end Go.Proofs.YtkgkpggfoieioaaGreatDoor
