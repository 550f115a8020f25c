import Derived.Test.YtkgkpggfoieioaaGreatDoorPlainKd
import Derived.Test.YtkgkpggfoieioaaGreatDoorPlainG
import Derived.Test.YtkgkpggfoieioaaGreatDoorFirst
namespace Go.Proofs.YtkgkpggfoieioaaGreatDoor
set_option linter.unusedVariables false
/-! What is wrong with a world. -/
def gu (l : List GU) (i : Nat) : GU := l.getD i ⟨0, 0, 0, 0, 0, 0, 0, 0⟩
theorem gu_get {l : List GU} {i : Nat} (h : i < l.length) : l[i]? = some (gu l i) := by unfold gu; rw [List.getD_eq_getElem?_getD, List.getElem?_eq_getElem h]; rfl
theorem gu_mem {l : List GU} {i : Nat} (h : i < l.length) : gu l i ∈ l := List.mem_of_getElem? (gu_get h)
theorem gu_of {l : List GU} {u : GU} (h : u ∈ l) : ∃ i, i < l.length ∧ gu l i = u := by
  obtain ⟨i, hi⟩ := List.mem_iff_getElem?.1 h
  have hl : i < l.length := (List.getElem?_eq_some_iff.1 hi).1
  rw [gu_get hl] at hi
  exact ⟨i, hl, by injection hi⟩
def gj (l : List GJ) (i : Nat) : GJ := l.getD i ⟨0, 0, 0, 0⟩
theorem gj_get {l : List GJ} {i : Nat} (h : i < l.length) : l[i]? = some (gj l i) := by unfold gj; rw [List.getD_eq_getElem?_getD, List.getElem?_eq_getElem h]; rfl
theorem gj_mem {l : List GJ} {i : Nat} (h : i < l.length) : gj l i ∈ l := List.mem_of_getElem? (gj_get h)
/-- Which unit is on a cell, which has an id: the first; -1: none. -/
def onI (us : List GU) (c : Int) : Int := firstI (fun v => v.spot == c) us
def findId (us : List GU) (c : Int) : Int := firstI (fun v => v.id == c) us
/-- The fault of a unit, those ahead being right. -/
def unitE (L : List GK) (x : GW) (i : Nat) : Int :=
  if (gu x.units i).id < 1 ∨ x.next ≤ (gu x.units i).id then 1
  else if 0 < i ∧ (gu x.units i).id ≤ (gu x.units (i - 1)).id then 5
  else if (gu x.units i).player < 0 ∨ (x.gold.length : Int) ≤ (gu x.units i).player ∨ (gu x.units i).kind < 0 ∨ (L.length : Int) ≤ (gu x.units i).kind then 1
  else if (gu x.units i).life < 1 ∨ (gk L (gu x.units i).kind.toNat).life < (gu x.units i).life ∨ (gu x.units i).load < 0 ∨ (gk L (gu x.units i).kind.toNat).carry < (gu x.units i).load ∨ (gu x.units i).task < 0 ∨ 2 < (gu x.units i).task then 1
  else if (gu x.units i).spot < 0 ∨ (x.field.ground.length : Int) ≤ (gu x.units i).spot ∨ (gu x.units i).goal < 0 ∨ (x.field.ground.length : Int) ≤ (gu x.units i).goal then 6
  else if ontoL x.field (gu x.units i).spot.toNat (gk L (gu x.units i).kind.toNat).flies = 0 ∨ onI x.units (gu x.units i).spot < i ∨ ((gu x.units i).goal ≠ 0 ∧ (gu x.units i).task = 0) then 7
  else 0
def jobE (L : List GK) (x : GW) (j : GJ) : Int :=
  if findId x.units j.unit < 0 then 6
  else if (gu x.units (findId x.units j.unit).toNat).player ≠ j.player ∨ (gk L (gu x.units (findId x.units j.unit).toNat).kind.toNat).trains = false then 7
  else if j.kind < 0 ∨ (L.length : Int) ≤ j.kind ∨ j.left < 1 ∨ 1000 < j.left then 1
  else 0
/-- The first fault of a row. -/
def seqE (e : Nat → Int) : Nat → Int
  | 0 => 0
  | k + 1 => if seqE e k ≠ 0 then seqE e k else e k
theorem seqE_mono (e : Nat → Int) (k n : Nat) (h : k ≤ n) (hk : seqE e k ≠ 0) : seqE e n = seqE e k := by
  induction n with
  | zero => have : k = 0 := by omega
            subst this; rfl
  | succ n ih =>
    rcases Nat.lt_or_ge k (n + 1) with h1 | h1
    · have := ih (by omega)
      rw [seqE, this, if_pos hk]
    · have : k = n + 1 := by omega
      subst this; rfl
theorem seqE_0 {e : Nat → Int} : ∀ n, seqE e n = 0 → ∀ i, i < n → e i = 0
  | 0, _, i, hi => by omega
  | n + 1, h, i, hi => by
    have h1 : seqE e n = 0 := by
      by_cases c : seqE e n = 0
      · exact c
      · rw [seqE, if_pos c] at h; exact h
    rw [seqE, if_neg (fun c => c h1)] at h
    rcases Nat.lt_or_ge i n with h2 | h2
    · exact seqE_0 n h1 i h2
    · have : i = n := by omega
      subst this; exact h
theorem seqE_all {e : Nat → Int} : ∀ n, (∀ i, i < n → e i = 0) → seqE e n = 0
  | 0, _ => rfl
  | n + 1, h => by
    rw [seqE, if_neg (fun c => c (seqE_all n fun i hi => h i (by omega)))]
    exact h n (by omega)
/-- The head of a world: its numbers, its players. -/
def headE (x : GW) : Int :=
  if numB x.turn = false ∨ numB x.next = false ∨ x.next = 0 ∨ x.gold.length < 1 ∨ 4 < x.gold.length then 1
  else if x.gold.any (fun n => !numB n) = true then 1
  else if 40 < x.units.length then 4
  else 0
def worldE (L : List GK) (x : GW) : Int :=
  if kindsE L ≠ 0 then kindsE L
  else if fieldE x.field ≠ 0 then fieldE x.field
  else if headE x ≠ 0 then headE x
  else if seqE (unitE L x) x.units.length ≠ 0 then seqE (unitE L x) x.units.length
  else if 12 < x.queue.length then 4
  else seqE (fun i => jobE L x (gj x.queue i)) x.queue.length
/-- A unit that may be. -/
structure UnitOk (L : List GK) (x : GW) (i : Nat) : Prop where
  id : 1 ≤ (gu x.units i).id ∧ (gu x.units i).id < x.next
  rise : 0 < i → (gu x.units (i - 1)).id < (gu x.units i).id
  player : 0 ≤ (gu x.units i).player ∧ (gu x.units i).player < x.gold.length
  kind : 0 ≤ (gu x.units i).kind ∧ (gu x.units i).kind < L.length
  life : 1 ≤ (gu x.units i).life ∧ (gu x.units i).life ≤ (gk L (gu x.units i).kind.toNat).life
  load : 0 ≤ (gu x.units i).load ∧ (gu x.units i).load ≤ (gk L (gu x.units i).kind.toNat).carry
  task : 0 ≤ (gu x.units i).task ∧ (gu x.units i).task ≤ 2
  spot : 0 ≤ (gu x.units i).spot ∧ (gu x.units i).spot < x.field.ground.length
  goal : 0 ≤ (gu x.units i).goal ∧ (gu x.units i).goal < x.field.ground.length
  onto : ontoL x.field (gu x.units i).spot.toNat (gk L (gu x.units i).kind.toNat).flies ≠ 0
  first : ¬ onI x.units (gu x.units i).spot < i
  rest : (gu x.units i).task = 0 → (gu x.units i).goal = 0
theorem unitE_ok {L : List GK} {x : GW} {i : Nat} (h : unitE L x i = 0) : UnitOk L x i := by
  unfold unitE at h
  by_cases h1 : (gu x.units i).id < 1 ∨ x.next ≤ (gu x.units i).id
  · rw [if_pos h1] at h; cases h
  rw [if_neg h1] at h
  by_cases h2 : 0 < i ∧ (gu x.units i).id ≤ (gu x.units (i - 1)).id
  · rw [if_pos h2] at h; cases h
  rw [if_neg h2] at h
  by_cases h3 : (gu x.units i).player < 0 ∨ (x.gold.length : Int) ≤ (gu x.units i).player ∨ (gu x.units i).kind < 0 ∨ (L.length : Int) ≤ (gu x.units i).kind
  · rw [if_pos h3] at h; cases h
  rw [if_neg h3] at h
  by_cases h4 : (gu x.units i).life < 1 ∨ (gk L (gu x.units i).kind.toNat).life < (gu x.units i).life ∨ (gu x.units i).load < 0 ∨ (gk L (gu x.units i).kind.toNat).carry < (gu x.units i).load ∨ (gu x.units i).task < 0 ∨ 2 < (gu x.units i).task
  · rw [if_pos h4] at h; cases h
  rw [if_neg h4] at h
  by_cases h5 : (gu x.units i).spot < 0 ∨ (x.field.ground.length : Int) ≤ (gu x.units i).spot ∨ (gu x.units i).goal < 0 ∨ (x.field.ground.length : Int) ≤ (gu x.units i).goal
  · rw [if_pos h5] at h; cases h
  rw [if_neg h5] at h
  by_cases h6 : ontoL x.field (gu x.units i).spot.toNat (gk L (gu x.units i).kind.toNat).flies = 0 ∨ onI x.units (gu x.units i).spot < i ∨ ((gu x.units i).goal ≠ 0 ∧ (gu x.units i).task = 0)
  · rw [if_pos h6] at h; cases h
  refine ⟨by omega, fun h0 => ?_, by omega, by omega, by omega, by omega, by omega, by omega, by omega, fun c => h6 (.inl c), fun c => h6 (.inr (.inl c)), fun c => ?_⟩
  · by_cases c : (gu x.units i).id ≤ (gu x.units (i - 1)).id
    · exact absurd ⟨h0, c⟩ h2
    · omega
  · by_cases d : (gu x.units i).goal = 0
    · exact d
    · exact absurd (.inr (.inr ⟨d, c⟩)) h6
structure HeadOk (x : GW) : Prop where
  turn : 0 ≤ x.turn ∧ x.turn ≤ 1000000
  next : 1 ≤ x.next ∧ x.next ≤ 1000000
  players : 1 ≤ x.gold.length ∧ x.gold.length ≤ 4
  gold : ∀ n ∈ x.gold, 0 ≤ n ∧ n ≤ 1000000
  units : x.units.length ≤ 40
theorem headE_ok {x : GW} (h : headE x = 0) : HeadOk x := by
  unfold headE at h
  by_cases h1 : numB x.turn = false ∨ numB x.next = false ∨ x.next = 0 ∨ x.gold.length < 1 ∨ 4 < x.gold.length
  · rw [if_pos h1] at h; cases h
  rw [if_neg h1] at h
  by_cases h2 : x.gold.any (fun n => !numB n) = true
  · rw [if_pos h2] at h; cases h
  rw [if_neg h2] at h
  by_cases h3 : 40 < x.units.length
  · rw [if_pos h3] at h; cases h
  have a1 : numB x.turn = true := by cases hb : numB x.turn with
    | true => rfl
    | false => exact absurd (.inl hb) h1
  have a2 : numB x.next = true := by cases hb : numB x.next with
    | true => rfl
    | false => exact absurd (.inr (.inl hb)) h1
  have a1 := numB_t a1
  have a2 := numB_t a2
  refine ⟨a1, by omega, by omega, fun n hn => ?_, by omega⟩
  cases hb : numB n with
  | true => exact numB_t hb
  | false => exact absurd (List.any_eq_true.2 ⟨n, hn, by rw [hb]; rfl⟩) h2
/-- A world that may be. -/
structure WorldOk (L : List GK) (x : GW) : Prop where
  kinds : kindsE L = 0
  field : fieldE x.field = 0
  head : headE x = 0
  units : ∀ i, i < x.units.length → unitE L x i = 0
  few : x.queue.length ≤ 12
  jobs : ∀ i, i < x.queue.length → jobE L x (gj x.queue i) = 0
theorem worldE_0 {L : List GK} {x : GW} (h : worldE L x = 0) : WorldOk L x := by
  unfold worldE at h
  by_cases h1 : kindsE L = 0
  · rw [if_neg (fun c => c h1)] at h
    by_cases h2 : fieldE x.field = 0
    · rw [if_neg (fun c => c h2)] at h
      by_cases h3 : headE x = 0
      · rw [if_neg (fun c => c h3)] at h
        by_cases h4 : seqE (unitE L x) x.units.length = 0
        · rw [if_neg (fun c => c h4)] at h
          by_cases h5 : 12 < x.queue.length
          · rw [if_pos h5] at h; cases h
          · rw [if_neg h5] at h
            exact ⟨h1, h2, h3, seqE_0 _ h4, by omega, seqE_0 (e := fun i => jobE L x (gj x.queue i)) _ h⟩
        · rw [if_pos h4] at h; exact absurd h h4
      · rw [if_pos h3] at h; exact absurd h h3
    · rw [if_pos h2] at h; exact absurd h h2
  · rw [if_pos h1] at h; exact absurd h h1
theorem worldE_ok {L : List GK} {x : GW} (h : WorldOk L x) : worldE L x = 0 := by
  unfold worldE
  rw [if_neg (fun c => c h.kinds), if_neg (fun c => c h.field), if_neg (fun c => c h.head), if_neg (fun c => c (seqE_all _ h.units)), if_neg (by have := h.few; omega), seqE_all _ h.jobs]
end Go.Proofs.YtkgkpggfoieioaaGreatDoor
