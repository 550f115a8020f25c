import Derived.Test.YtkgkpggfoieioaaGreatDoorMrgf
import Derived.Test.YtkgkpggfoieioaaGreatDoorMrga
import Derived.Test.YtkgkpggfoieioaaGreatDoorMrgc
import Derived.WalkKit
import Derived.WalkLawsBesides
import Derived.WalkSpells
import Derived.Outline
import Derived.IntWalk
import Derived.Lib.Hide
import Derived.OpenShut
import Derived.Lib.BufferRead
import Derived.Test.YtkgkpggfoieioaaGreatDoorMrgb
import Derived.Deep.QuietTactic
import Derived.BigQuiet
import Derived.StillTailTactics
import Derived.Shelf.Strings.SlTrimAscii
import Derived.Ground.NamesProg
import Derived.Test.YtkgkpggfoieioaaGreatDoorProg
import Derived.Deep.CutBlock
import Derived.Deep.DeepCutAuto
namespace Go.Proofs.YtkgkpggfoieioaaGreatDoor
set_option linter.unusedVariables false
/-! What is wrong with a world. -/
def gu (l : List GU) (i : Nat) : GU := l.getD i ⟨0, 0, 0, 0, 0, 0, 0, 0⟩
theorem gu_get {l : List GU} {i : Nat} (h : i < l.length) : l[i]? = some (gu l i) := by unfold gu; rw [List.getD_eq_getElem?_getD, List.getElem?_eq_getElem h]; rfl
theorem gu_mem {l : List GU} {i : Nat} (h : i < l.length) : gu l i ∈ l := List.mem_of_getElem? (gu_get h)
theorem gu_of {l : List GU} {u : GU} (h : u ∈ l) : ∃ i, i < l.length ∧ gu l i = u := by
  obtain ⟨i, hi⟩ := List.mem_iff_getElem?.1 h
  have hl : i < l.length := (List.getElem?_eq_some_iff.1 hi).1
  rw [gu_get hl] at hi
  exact ⟨i, hl, by injection hi⟩
def gj (l : List GJ) (i : Nat) : GJ := l.getD i ⟨0, 0, 0, 0⟩
theorem gj_get {l : List GJ} {i : Nat} (h : i < l.length) : l[i]? = some (gj l i) := by unfold gj; rw [List.getD_eq_getElem?_getD, List.getElem?_eq_getElem h]; rfl
theorem gj_mem {l : List GJ} {i : Nat} (h : i < l.length) : gj l i ∈ l := List.mem_of_getElem? (gj_get h)
/-- Which unit is on a cell, which has an id: the first; -1: none. -/
def onI (us : List GU) (c : Int) : Int := firstI (fun v => v.spot == c) us
def findId (us : List GU) (c : Int) : Int := firstI (fun v => v.id == c) us
/-- The fault of a unit, those ahead being right. -/
def unitE (L : List GK) (x : GW) (i : Nat) : Int :=
  if (gu x.units i).id < 1 ∨ x.next ≤ (gu x.units i).id then 1
  else if 0 < i ∧ (gu x.units i).id ≤ (gu x.units (i - 1)).id then 5
  else if (gu x.units i).player < 0 ∨ (x.gold.length : Int) ≤ (gu x.units i).player ∨ (gu x.units i).kind < 0 ∨ (L.length : Int) ≤ (gu x.units i).kind then 1
  else if (gu x.units i).life < 1 ∨ (gk L (gu x.units i).kind.toNat).life < (gu x.units i).life ∨ (gu x.units i).load < 0 ∨ (gk L (gu x.units i).kind.toNat).carry < (gu x.units i).load ∨ (gu x.units i).task < 0 ∨ 2 < (gu x.units i).task then 1
  else if (gu x.units i).spot < 0 ∨ (x.field.ground.length : Int) ≤ (gu x.units i).spot ∨ (gu x.units i).goal < 0 ∨ (x.field.ground.length : Int) ≤ (gu x.units i).goal then 6
  else if ontoL x.field (gu x.units i).spot.toNat (gk L (gu x.units i).kind.toNat).flies = 0 ∨ onI x.units (gu x.units i).spot < i ∨ ((gu x.units i).goal ≠ 0 ∧ (gu x.units i).task = 0) then 7
  else 0
def jobE (L : List GK) (x : GW) (j : GJ) : Int :=
  if findId x.units j.unit < 0 then 6
  else if (gu x.units (findId x.units j.unit).toNat).player ≠ j.player ∨ (gk L (gu x.units (findId x.units j.unit).toNat).kind.toNat).trains = false then 7
  else if j.kind < 0 ∨ (L.length : Int) ≤ j.kind ∨ j.left < 1 ∨ 1000 < j.left then 1
  else 0
/-- The first fault of a row. -/
def seqE (e : Nat → Int) : Nat → Int
  | 0 => 0
  | k + 1 => if seqE e k ≠ 0 then seqE e k else e k
theorem seqE_mono (e : Nat → Int) (k n : Nat) (h : k ≤ n) (hk : seqE e k ≠ 0) : seqE e n = seqE e k := by
  induction n with
  | zero => have : k = 0 := by omega
            subst this; rfl
  | succ n ih =>
    rcases Nat.lt_or_ge k (n + 1) with h1 | h1
    · have := ih (by omega)
      rw [seqE, this, if_pos hk]
    · have : k = n + 1 := by omega
      subst this; rfl
theorem seqE_0 {e : Nat → Int} : ∀ n, seqE e n = 0 → ∀ i, i < n → e i = 0
  | 0, _, i, hi => by omega
  | n + 1, h, i, hi => by
    have h1 : seqE e n = 0 := by
      by_cases c : seqE e n = 0
      · exact c
      · rw [seqE, if_pos c] at h; exact h
    rw [seqE, if_neg (fun c => c h1)] at h
    rcases Nat.lt_or_ge i n with h2 | h2
    · exact seqE_0 n h1 i h2
    · have : i = n := by omega
      subst this; exact h
theorem seqE_all {e : Nat → Int} : ∀ n, (∀ i, i < n → e i = 0) → seqE e n = 0
  | 0, _ => rfl
  | n + 1, h => by
    rw [seqE, if_neg (fun c => c (seqE_all n fun i hi => h i (by omega)))]
    exact h n (by omega)
/-- The head of a world: its numbers, its players. -/
def headE (x : GW) : Int :=
  if numB x.turn = false ∨ numB x.next = false ∨ x.next = 0 ∨ x.gold.length < 1 ∨ 4 < x.gold.length then 1
  else if x.gold.any (fun n => !numB n) = true then 1
  else if 40 < x.units.length then 4
  else 0
def worldE (L : List GK) (x : GW) : Int :=
  if kindsE L ≠ 0 then kindsE L
  else if fieldE x.field ≠ 0 then fieldE x.field
  else if headE x ≠ 0 then headE x
  else if seqE (unitE L x) x.units.length ≠ 0 then seqE (unitE L x) x.units.length
  else if 12 < x.queue.length then 4
  else seqE (fun i => jobE L x (gj x.queue i)) x.queue.length
/-- A unit that may be. -/
structure UnitOk (L : List GK) (x : GW) (i : Nat) : Prop where
  id : 1 ≤ (gu x.units i).id ∧ (gu x.units i).id < x.next
  rise : 0 < i → (gu x.units (i - 1)).id < (gu x.units i).id
  player : 0 ≤ (gu x.units i).player ∧ (gu x.units i).player < x.gold.length
  kind : 0 ≤ (gu x.units i).kind ∧ (gu x.units i).kind < L.length
  life : 1 ≤ (gu x.units i).life ∧ (gu x.units i).life ≤ (gk L (gu x.units i).kind.toNat).life
  load : 0 ≤ (gu x.units i).load ∧ (gu x.units i).load ≤ (gk L (gu x.units i).kind.toNat).carry
  task : 0 ≤ (gu x.units i).task ∧ (gu x.units i).task ≤ 2
  spot : 0 ≤ (gu x.units i).spot ∧ (gu x.units i).spot < x.field.ground.length
  goal : 0 ≤ (gu x.units i).goal ∧ (gu x.units i).goal < x.field.ground.length
  onto : ontoL x.field (gu x.units i).spot.toNat (gk L (gu x.units i).kind.toNat).flies ≠ 0
  first : ¬ onI x.units (gu x.units i).spot < i
  rest : (gu x.units i).task = 0 → (gu x.units i).goal = 0
theorem unitE_ok {L : List GK} {x : GW} {i : Nat} (h : unitE L x i = 0) : UnitOk L x i := by
  unfold unitE at h
  by_cases h1 : (gu x.units i).id < 1 ∨ x.next ≤ (gu x.units i).id
  · rw [if_pos h1] at h; cases h
  rw [if_neg h1] at h
  by_cases h2 : 0 < i ∧ (gu x.units i).id ≤ (gu x.units (i - 1)).id
  · rw [if_pos h2] at h; cases h
  rw [if_neg h2] at h
  by_cases h3 : (gu x.units i).player < 0 ∨ (x.gold.length : Int) ≤ (gu x.units i).player ∨ (gu x.units i).kind < 0 ∨ (L.length : Int) ≤ (gu x.units i).kind
  · rw [if_pos h3] at h; cases h
  rw [if_neg h3] at h
  by_cases h4 : (gu x.units i).life < 1 ∨ (gk L (gu x.units i).kind.toNat).life < (gu x.units i).life ∨ (gu x.units i).load < 0 ∨ (gk L (gu x.units i).kind.toNat).carry < (gu x.units i).load ∨ (gu x.units i).task < 0 ∨ 2 < (gu x.units i).task
  · rw [if_pos h4] at h; cases h
  rw [if_neg h4] at h
  by_cases h5 : (gu x.units i).spot < 0 ∨ (x.field.ground.length : Int) ≤ (gu x.units i).spot ∨ (gu x.units i).goal < 0 ∨ (x.field.ground.length : Int) ≤ (gu x.units i).goal
  · rw [if_pos h5] at h; cases h
  rw [if_neg h5] at h
  by_cases h6 : ontoL x.field (gu x.units i).spot.toNat (gk L (gu x.units i).kind.toNat).flies = 0 ∨ onI x.units (gu x.units i).spot < i ∨ ((gu x.units i).goal ≠ 0 ∧ (gu x.units i).task = 0)
  · rw [if_pos h6] at h; cases h
  refine ⟨by omega, fun h0 => ?_, by omega, by omega, by omega, by omega, by omega, by omega, by omega, fun c => h6 (.inl c), fun c => h6 (.inr (.inl c)), fun c => ?_⟩
  · by_cases c : (gu x.units i).id ≤ (gu x.units (i - 1)).id
    · exact absurd ⟨h0, c⟩ h2
    · omega
  · by_cases d : (gu x.units i).goal = 0
    · exact d
    · exact absurd (.inr (.inr ⟨d, c⟩)) h6
structure HeadOk (x : GW) : Prop where
  turn : 0 ≤ x.turn ∧ x.turn ≤ 1000000
  next : 1 ≤ x.next ∧ x.next ≤ 1000000
  players : 1 ≤ x.gold.length ∧ x.gold.length ≤ 4
  gold : ∀ n ∈ x.gold, 0 ≤ n ∧ n ≤ 1000000
  units : x.units.length ≤ 40
theorem headE_ok {x : GW} (h : headE x = 0) : HeadOk x := by
  unfold headE at h
  by_cases h1 : numB x.turn = false ∨ numB x.next = false ∨ x.next = 0 ∨ x.gold.length < 1 ∨ 4 < x.gold.length
  · rw [if_pos h1] at h; cases h
  rw [if_neg h1] at h
  by_cases h2 : x.gold.any (fun n => !numB n) = true
  · rw [if_pos h2] at h; cases h
  rw [if_neg h2] at h
  by_cases h3 : 40 < x.units.length
  · rw [if_pos h3] at h; cases h
  have a1 : numB x.turn = true := by cases hb : numB x.turn with
    | true => rfl
    | false => exact absurd (.inl hb) h1
  have a2 : numB x.next = true := by cases hb : numB x.next with
    | true => rfl
    | false => exact absurd (.inr (.inl hb)) h1
  have a1 := numB_t a1
  have a2 := numB_t a2
  refine ⟨a1, by omega, by omega, fun n hn => ?_, by omega⟩
  cases hb : numB n with
  | true => exact numB_t hb
  | false => exact absurd (List.any_eq_true.2 ⟨n, hn, by rw [hb]; rfl⟩) h2
/-- A world that may be. -/
structure WorldOk (L : List GK) (x : GW) : Prop where
  kinds : kindsE L = 0
  field : fieldE x.field = 0
  head : headE x = 0
  units : ∀ i, i < x.units.length → unitE L x i = 0
  few : x.queue.length ≤ 12
  jobs : ∀ i, i < x.queue.length → jobE L x (gj x.queue i) = 0
theorem worldE_0 {L : List GK} {x : GW} (h : worldE L x = 0) : WorldOk L x := by
  unfold worldE at h
  by_cases h1 : kindsE L = 0
  · rw [if_neg (fun c => c h1)] at h
    by_cases h2 : fieldE x.field = 0
    · rw [if_neg (fun c => c h2)] at h
      by_cases h3 : headE x = 0
      · rw [if_neg (fun c => c h3)] at h
        by_cases h4 : seqE (unitE L x) x.units.length = 0
        · rw [if_neg (fun c => c h4)] at h
          by_cases h5 : 12 < x.queue.length
          · rw [if_pos h5] at h; cases h
          · rw [if_neg h5] at h
            exact ⟨h1, h2, h3, seqE_0 _ h4, by omega, seqE_0 (e := fun i => jobE L x (gj x.queue i)) _ h⟩
        · rw [if_pos h4] at h; exact absurd h h4
      · rw [if_pos h3] at h; exact absurd h h3
    · rw [if_pos h2] at h; exact absurd h h2
  · rw [if_pos h1] at h; exact absurd h h1
theorem worldE_ok {L : List GK} {x : GW} (h : WorldOk L x) : worldE L x = 0 := by
  unfold worldE
  rw [if_neg (fun c => c h.kinds), if_neg (fun c => c h.field), if_neg (fun c => c h.head), if_neg (fun c => c (seqE_all _ h.units)), if_neg (by have := h.few; omega), seqE_all _ h.jobs]
end Go.Proofs.YtkgkpggfoieioaaGreatDoor
namespace Go.Proofs.YtkgkpggfoieioaaGreatDoor
set_option linter.unusedVariables false
open Go.RowKit
/-! Functions over slices of units. -/
abbrev uV (u : GU) : Value := .agg #[.int .i64 u.id, .int .i64 u.player, .int .i64 u.kind, .int .i64 u.spot, .int .i64 u.life, .int .i64 u.load, .int .i64 u.task, .int .i64 u.goal]
abbrev RU (w : World) (B : Nat) (A : Option Addr) (L : List GU) : Prop := RD w B 8 A L.length (L.flatMap uC)
theorem ru_at {w : World} {B : Nat} {A : Option Addr} {L : List GU} (h : RU w B A L) (k : Nat) (hk : k < L.length) :
    ∃ b o, A = some ⟨b, o, none⟩ ∧ b < B ∧ w.cell? ⟨b, o + k * 8, none⟩ = some (.int .i64 (gu L k).id) ∧ w.cell? ⟨b, o + k * 8 + 1, none⟩ = some (.int .i64 (gu L k).player) ∧ w.cell? ⟨b, o + k * 8 + 2, none⟩ = some (.int .i64 (gu L k).kind) ∧ w.cell? ⟨b, o + k * 8 + 3, none⟩ = some (.int .i64 (gu L k).spot) ∧
      w.cell? ⟨b, o + k * 8 + 4, none⟩ = some (.int .i64 (gu L k).life) ∧ w.cell? ⟨b, o + k * 8 + 5, none⟩ = some (.int .i64 (gu L k).load) ∧ w.cell? ⟨b, o + k * 8 + 6, none⟩ = some (.int .i64 (gu L k).task) ∧ w.cell? ⟨b, o + k * 8 + 7, none⟩ = some (.int .i64 (gu L k).goal) := by
  obtain ⟨b, o, hA, hb⟩ := h.addr (by omega)
  have key : ∀ j, j < 8 → w.cell? ⟨b, o + (k * 8 + j), none⟩ = (uC (gu L k))[j]? := fun j hj => by
    rw [h.at_ hA (by omega), flat_get uC 8 uC_len L k j hj, gu_get hk]; rfl
  exact ⟨b, o, hA, hb, key 0 (by omega), key 1 (by omega), key 2 (by omega), key 3 (by omega), key 4 (by omega), key 5 (by omega), key 6 (by omega), key 7 (by omega)⟩
theorem flat_takeU : ∀ (L : List GU) (p : Nat), (L.flatMap uC).take (p * 8) = (L.take p).flatMap uC
  | [], p => by simp
  | x :: L, 0 => by simp
  | x :: L, p + 1 => by
    rw [List.flatMap_cons, List.take_succ_cons, List.flatMap_cons, List.take_append, uC_len, List.take_of_length_le (by rw [uC_len]; omega), show (p + 1) * 8 - 8 = p * 8 by omega, flat_takeU L p]
set_option maxHeartbeats 1600000 in
set_option maxRecDepth 100000 in
theorem idxU_any (f : Nat) (cap : Value) (p : GU → Bool) (A : Option Addr) (c B : Nat) (L : List GU) (w : World) (h : RU w B A L) (hB : B ≤ w.heap.size) (hl : L.length ≤ 9223372036854775807)
    (he : ∀ args w, (callFunc f args).run Tryz.prog w = .ok (.enter f args) w)
    (law : ∀ x, x ∈ L → ∀ wz, Below w.heap.size w wz → Calls Tryz.prog f #[uV x, cap] wz fun e w' => e = .returned (.bool (p x)) ∧ Below wz.heap.size wz w') :
    Calls Tryz.prog 65 #[.slice A L.length c, .func (.func f) #[] #[cap]] w fun e w' => e = .returned (.int .i64 (firstI p L)) ∧ Below w.heap.size w w' := by
  replace h := Lib.hid h
  replace law := Lib.hid law
  go_enter Tryz.func65, Tryz.ntmps65
  go_wp2_with fail
  go_loopw [5, 8] (fun _ i wr => ∃ k : Nat, k ≤ L.length ∧ i = .int .i64 k ∧ Hid (∀ y ∈ L.take k, p y = false) ∧ Hid (Below w.heap.size w wr)) (fun _ i _ => L.length - (intOf i).toNat)
  case atStart => exact ⟨0, Nat.zero_le _, rfl, Lib.hid (by simp), Lib.hid (Below.refl _ _)⟩
  case round =>
    obtain ⟨k, hk, rfl, hK, hbw⟩ := hrel
    by_cases hlt : k < L.length
    · have i1 : (k : Int) < (L.length : Int) := by omega
      obtain ⟨b, o, hA, hbl, c0, c1, c2, c3, c4, c5, c6, c7⟩ := ru_at (h.out.below (hbw.out.mono hB)) k hlt
      have hs := hbw.out.size
      have hlw := law.out _ (gu_mem hlt) wr hbw.out
      have hget := gu_get hlt
      have hfa := first_at p L k _ hget
      have htn := take_no p L k _ hget hK.out
      subst hA
      generalize gu L k = x at *
      replace hlw := Lib.hid hlw
      replace hget := Lib.hid hget
      replace hfa := Lib.hid hfa
      replace htn := Lib.hid htn
      go_wp2_with fail
      refine hlw.out.mono ?_
      rintro e w' ⟨rfl, hb2⟩
      have hb3 := hbw.out.trans (hb2.mono hs)
      replace hb3 := Lib.hid hb3
      clear hb2 c0 c1 c2 c3 c4 c5 c6 c7
      cases hpx : p x with
      | true =>
        have hf := hfa.out hpx hK.out
        replace hf := Lib.hid hf
        replace hpx := Lib.hid hpx
        go_wp2_with fail
        go_ret
        exact ⟨by rw [hf.out]; rfl, hb3.out⟩
      | false =>
        have hn := Lib.hid (htn.out hpx)
        replace hpx := Lib.hid hpx
        go_wp2_with fail
        go_roundw
        case rel => exact ⟨k + 1, by omega, by go_num, hn, hb3⟩
        case measure => simp [intOf]; omega
    · have i1 : ¬ (k : Int) < (L.length : Int) := by omega
      have hf := first_no p L (by have := hK.out; rwa [List.take_of_length_le (by omega)] at this)
      replace hf := Lib.hid hf
      go_wp2_with fail
      go_ret
      exact ⟨by rw [hf.out]; rfl, hbw.out⟩
end Go.Proofs.YtkgkpggfoieioaaGreatDoor
namespace Go.Proofs.YtkgkpggfoieioaaGreatDoor
set_option linter.unusedVariables false
open Go.ChangeShapes Go.WideShapes Go.RowKit Go.Deep
/-- A slice that holds kinds. -/
def SLK (w : World) (s : SL) (xs : List GK) : Prop := RD w w.heap.size 11 s.A xs.length (xs.flatMap kC) ∧ (s.A = none → s.c = 0) ∧ xs.length ≤ s.c ∧ s.c ≤ maxLen ∧ ∀ x ∈ xs, x.ok
def vs : Value → ByteArray
  | .string s => s
  | _ => ⟨#[]⟩
def vb : Value → Bool
  | .bool b => b
  | _ => false
section
variable {H : Type} {enc : TypeId × Value → H} {w : World} {held : Bool} {m : Nat} {v : Value} {y : DataW H × List MemPlace}
set_option maxRecDepth 100000 in
theorem str_all {t : TypeId} (ht : Tryz.prog.underlying t = some .string) (h : DataW.trod enc Tryz.prog w 0 (fun _ => true) held m t [v] = some y) : v = .string (vs v) ∧ (vs v).size ≤ 9223372036854775807 := by
  obtain ⟨s, h1, _, h3⟩ := DataW.trod_string ht h
  injection h1 with h1
  subst h1
  have e : vs (Value.string s) = s := rfl
  rw [e]
  refine ⟨rfl, ?_⟩
  unfold maxLen at h3
  omega
set_option maxRecDepth 100000 in
theorem bool_all {t : TypeId} (ht : Tryz.prog.underlying t = some .bool) (h : DataW.trod enc Tryz.prog w 0 (fun _ => true) held m t [v] = some y) : v = .bool (vb v) := by
  obtain ⟨b, h1, _⟩ := DataW.trod_bool ht h
  injection h1 with h1
  subst h1
  rfl
end
def kOf (val : Nat → Value) : GK := ⟨vs (val 0), vi (val 1), vi (val 2), vi (val 3), vi (val 4), vi (val 5), vi (val 6), vi (val 7), vi (val 8), vb (val 9), vb (val 10)⟩
set_option maxRecDepth 100000 in
theorem slk_of {H : Type} {enc : TypeId × Value → H} {w : World} {held : Bool} {fuel : Nat} {v : Value} {x : DataW H × List MemPlace} (h : DataW.trod enc Tryz.prog w 0 (fun _ => true) held fuel 22 [v] = some x) :
    ∃ (s : SL) (xs : List GK), v = .slice s.A xs.length s.c ∧ SLK w s xs := by
  obtain ⟨A, n, c, val, hcs, hnil, hc, hm, hf, hr⟩ := opV Tryz.underlying22 Tryz.underlying41 (by kernel_rfl) (by kernel_rfl) (by decide) h
  injection hcs with hcs
  subst hcs
  have g1 : ∀ i, i < n → val i 1 = .int .i64 (vi (val i 1)) ∧ I64 (vi (val i 1)) := fun i hi => by
    obtain ⟨m, y, hy⟩ := hf i hi 1 _ rfl
    exact unit_all Tryz.underlying3 hy
  have g2 : ∀ i, i < n → val i 2 = .int .i64 (vi (val i 2)) ∧ I64 (vi (val i 2)) := fun i hi => by
    obtain ⟨m, y, hy⟩ := hf i hi 2 _ rfl
    exact unit_all Tryz.underlying3 hy
  have g3 : ∀ i, i < n → val i 3 = .int .i64 (vi (val i 3)) ∧ I64 (vi (val i 3)) := fun i hi => by
    obtain ⟨m, y, hy⟩ := hf i hi 3 _ rfl
    exact unit_all Tryz.underlying3 hy
  have g4 : ∀ i, i < n → val i 4 = .int .i64 (vi (val i 4)) ∧ I64 (vi (val i 4)) := fun i hi => by
    obtain ⟨m, y, hy⟩ := hf i hi 4 _ rfl
    exact unit_all Tryz.underlying3 hy
  have g5 : ∀ i, i < n → val i 5 = .int .i64 (vi (val i 5)) ∧ I64 (vi (val i 5)) := fun i hi => by
    obtain ⟨m, y, hy⟩ := hf i hi 5 _ rfl
    exact unit_all Tryz.underlying3 hy
  have g6 : ∀ i, i < n → val i 6 = .int .i64 (vi (val i 6)) ∧ I64 (vi (val i 6)) := fun i hi => by
    obtain ⟨m, y, hy⟩ := hf i hi 6 _ rfl
    exact unit_all Tryz.underlying3 hy
  have g7 : ∀ i, i < n → val i 7 = .int .i64 (vi (val i 7)) ∧ I64 (vi (val i 7)) := fun i hi => by
    obtain ⟨m, y, hy⟩ := hf i hi 7 _ rfl
    exact unit_all Tryz.underlying3 hy
  have g8 : ∀ i, i < n → val i 8 = .int .i64 (vi (val i 8)) ∧ I64 (vi (val i 8)) := fun i hi => by
    obtain ⟨m, y, hy⟩ := hf i hi 8 _ rfl
    exact unit_all Tryz.underlying3 hy
  have g0 : ∀ i, i < n → val i 0 = .string (vs (val i 0)) ∧ (vs (val i 0)).size ≤ 9223372036854775807 := fun i hi => by
    obtain ⟨m, y, hy⟩ := hf i hi 0 _ rfl
    exact str_all Tryz.underlying9 hy
  have g9 : ∀ i, i < n → val i 9 = .bool (vb (val i 9)) := fun i hi => by
    obtain ⟨m, y, hy⟩ := hf i hi 9 _ rfl
    exact bool_all Tryz.underlying4 hy
  have g10 : ∀ i, i < n → val i 10 = .bool (vb (val i 10)) := fun i hi => by
    obtain ⟨m, y, hy⟩ := hf i hi 10 _ rfl
    exact bool_all Tryz.underlying4 hy
  have e : ((List.range n).flatMap fun i => (List.range 11).map (val i)) = ((List.range n).map fun i => kOf (val i)).flatMap kC := by
    rw [List.flatMap_map]
    refine fm_congr fun i hi => ?_
    have hi := List.mem_range.1 hi
    show [val i 0, val i 1, val i 2, val i 3, val i 4, val i 5, val i 6, val i 7, val i 8, val i 9, val i 10] = _
    rw [(g0 i hi).1, (g1 i hi).1, (g2 i hi).1, (g3 i hi).1, (g4 i hi).1, (g5 i hi).1, (g6 i hi).1, (g7 i hi).1, (g8 i hi).1, g9 i hi, g10 i hi]
    rfl
  refine ⟨⟨A, c⟩, (List.range n).map fun i => kOf (val i), by simp, ?_, hnil, by simpa using hc, hm, ?_⟩
  · rw [← e]; simpa using hr
  · intro x hx
    obtain ⟨i, hi, rfl⟩ := List.mem_map.1 hx
    have hi := List.mem_range.1 hi
    exact ⟨(g0 i hi).2, (g1 i hi).2, (g2 i hi).2, (g3 i hi).2, (g4 i hi).2, (g5 i hi).2, (g6 i hi).2, (g7 i hi).2, (g8 i hi).2⟩
set_option maxRecDepth 100000 in
theorem openKinds {H : Type} {enc : TypeId × Value → H} {w : World} {r : Reach} {b0 : Nat} {held : Bool} {v : Value} {d : DataW H} {p : List MemPlace} (hv : Value.okWide Tryz.prog w r b0 22 v)
    (h : DataW.Trod enc Tryz.prog w 0 (fun _ => true) held 22 v d p) : ∃ (x : SL × List GK), v = .slice x.1.A x.2.length x.1.c ∧ SLK w x.1 x.2 := by
  obtain ⟨a, len, cap, rfl⟩ := okWide_slice Tryz.underlying22 hv
  obtain ⟨fuel, hf⟩ := h
  have hf : DataW.trod enc Tryz.prog w 0 (fun _ => true) held fuel 22 [.slice a len cap] = some (d, p) := hf
  obtain ⟨s, xs, e, ok⟩ := slk_of hf
  exact ⟨(s, xs), e, ok⟩
end Go.Proofs.YtkgkpggfoieioaaGreatDoor
namespace Go.Proofs.YtkgkpggfoieioaaGreatDoor
set_option linter.unusedVariables false
open Go.RowKit
/-! Functions over slices of kinds. -/
abbrev RK (w : World) (B : Nat) (A : Option Addr) (L : List GK) : Prop := RD w B 11 A L.length (L.flatMap kC)
abbrev kV (k : GK) : Value := .agg #[.string k.name, .int .i64 k.life, .int .i64 k.hit, .int .i64 k.range, .int .i64 k.sight, .int .i64 k.speed, .int .i64 k.price, .int .i64 k.turns, .int .i64 k.carry, .bool k.flies, .bool k.trains]
theorem rk_at {w : World} {B : Nat} {A : Option Addr} {L : List GK} (h : RK w B A L) (k : Nat) (hk : k < L.length) :
    ∃ b o, A = some ⟨b, o, none⟩ ∧ b < B ∧ w.cell? ⟨b, o + k * 11, none⟩ = some (.string (gk L k).name) ∧ w.cell? ⟨b, o + k * 11 + 1, none⟩ = some (.int .i64 (gk L k).life) ∧ w.cell? ⟨b, o + k * 11 + 2, none⟩ = some (.int .i64 (gk L k).hit) ∧ w.cell? ⟨b, o + k * 11 + 3, none⟩ = some (.int .i64 (gk L k).range) ∧
      w.cell? ⟨b, o + k * 11 + 4, none⟩ = some (.int .i64 (gk L k).sight) ∧ w.cell? ⟨b, o + k * 11 + 5, none⟩ = some (.int .i64 (gk L k).speed) ∧ w.cell? ⟨b, o + k * 11 + 6, none⟩ = some (.int .i64 (gk L k).price) ∧ w.cell? ⟨b, o + k * 11 + 7, none⟩ = some (.int .i64 (gk L k).turns) ∧
      w.cell? ⟨b, o + k * 11 + 8, none⟩ = some (.int .i64 (gk L k).carry) ∧ w.cell? ⟨b, o + k * 11 + 9, none⟩ = some (.bool (gk L k).flies) ∧ w.cell? ⟨b, o + k * 11 + 10, none⟩ = some (.bool (gk L k).trains) := by
  obtain ⟨b, o, hA, hb⟩ := h.addr (by omega)
  have key : ∀ j, j < 11 → w.cell? ⟨b, o + (k * 11 + j), none⟩ = (kC (gk L k))[j]? := fun j hj => by
    rw [h.at_ hA (by omega), flat_get kC 11 kC_len L k j hj, gk_get hk]; rfl
  exact ⟨b, o, hA, hb, key 0 (by omega), key 1 (by omega), key 2 (by omega), key 3 (by omega), key 4 (by omega), key 5 (by omega), key 6 (by omega), key 7 (by omega), key 8 (by omega), key 9 (by omega), key 10 (by omega)⟩
theorem flat_takeK : ∀ (L : List GK) (p : Nat), (L.flatMap kC).take (p * 11) = (L.take p).flatMap kC
  | [], p => by simp
  | x :: L, 0 => by simp
  | x :: L, p + 1 => by
    rw [List.flatMap_cons, List.take_succ_cons, List.flatMap_cons, List.take_append, kC_len, List.take_of_length_le (by rw [kC_len]; omega), show (p + 1) * 11 - 11 = p * 11 by omega, flat_takeK L p]
set_option maxHeartbeats 1600000 in
set_option maxRecDepth 100000 in
theorem idxK_any (f : Nat) (cap : Value) (p : GK → Bool) (A : Option Addr) (c B : Nat) (L : List GK) (w : World) (h : RK w B A L) (hB : B ≤ w.heap.size) (hl : L.length ≤ 1000000000)
    (he : ∀ args w, (callFunc f args).run Tryz.prog w = .ok (.enter f args) w)
    (law : ∀ x, x ∈ L → ∀ wz, Below w.heap.size w wz → Calls Tryz.prog f #[kV x, cap] wz fun e w' => e = .returned (.bool (p x)) ∧ Below wz.heap.size wz w') :
    Calls Tryz.prog 100 #[.slice A L.length c, .func (.func f) #[] #[cap]] w fun e w' => e = .returned (.int .i64 (firstI p L)) ∧ Below w.heap.size w w' := by
  replace h := Lib.hid h
  replace law := Lib.hid law
  go_enter Tryz.func100, Tryz.ntmps100
  go_wp2_with fail
  go_loopw [5, 8] (fun _ i wr => ∃ k : Nat, k ≤ L.length ∧ i = .int .i64 k ∧ Hid (∀ y ∈ L.take k, p y = false) ∧ Hid (Below w.heap.size w wr)) (fun _ i _ => L.length - (intOf i).toNat)
  case atStart => exact ⟨0, Nat.zero_le _, rfl, Lib.hid (by simp), Lib.hid (Below.refl _ _)⟩
  case round =>
    obtain ⟨k, hk, rfl, hK, hbw⟩ := hrel
    by_cases hlt : k < L.length
    · have i1 : (k : Int) < (L.length : Int) := by omega
      obtain ⟨b, o, hA, hbl, c0, c1, c2, c3, c4, c5, c6, c7, c8, c9, c10⟩ := rk_at (h.out.below (hbw.out.mono hB)) k hlt
      have hs := hbw.out.size
      have hlw := law.out _ (gk_mem hlt) wr hbw.out
      have hget := gk_get hlt
      have hfa := first_at p L k _ hget
      have htn := take_no p L k _ hget hK.out
      subst hA
      generalize gk L k = x at *
      replace hlw := Lib.hid hlw
      replace hget := Lib.hid hget
      replace hfa := Lib.hid hfa
      replace htn := Lib.hid htn
      go_wp2_with fail
      refine hlw.out.mono ?_
      rintro e w' ⟨rfl, hb2⟩
      have hb3 := hbw.out.trans (hb2.mono hs)
      replace hb3 := Lib.hid hb3
      clear hb2 c0 c1 c2 c3 c4 c5 c6 c7 c8 c9 c10
      cases hpx : p x with
      | true =>
        have hf := hfa.out hpx hK.out
        replace hf := Lib.hid hf
        replace hpx := Lib.hid hpx
        go_wp2_with fail
        go_ret
        exact ⟨by rw [hf.out]; rfl, hb3.out⟩
      | false =>
        have hn := Lib.hid (htn.out hpx)
        replace hpx := Lib.hid hpx
        go_wp2_with fail
        go_roundw
        case rel => exact ⟨k + 1, by omega, by go_num, hn, hb3⟩
        case measure => simp [intOf]; omega
    · have i1 : ¬ (k : Int) < (L.length : Int) := by omega
      have hf := first_no p L (by have := hK.out; rwa [List.take_of_length_le (by omega)] at this)
      replace hf := Lib.hid hf
      go_wp2_with fail
      go_ret
      exact ⟨by rw [hf.out]; rfl, hbw.out⟩
end Go.Proofs.YtkgkpggfoieioaaGreatDoor
namespace Go.Proofs.YtkgkpggfoieioaaGreatDoor
set_option linter.unusedVariables false
open Go.RowKit
set_option maxRecDepth 100000 in
theorem ctnK_any (f : Nat) (cap : Value) (p : GK → Bool) (A : Option Addr) (c B : Nat) (L : List GK) (w : World) (h : RK w B A L) (hB : B ≤ w.heap.size) (hl : L.length ≤ 1000000000)
    (he : ∀ args w, (callFunc f args).run Tryz.prog w = .ok (.enter f args) w)
    (law : ∀ x, x ∈ L → ∀ wz, Below w.heap.size w wz → Calls Tryz.prog f #[kV x, cap] wz fun e w' => e = .returned (.bool (p x)) ∧ Below wz.heap.size wz w') :
    Calls Tryz.prog 74 #[.slice A L.length c, .func (.func f) #[] #[cap]] w fun e w' => e = .returned (.bool (L.any p)) ∧ Below w.heap.size w w' := by
  have hi := idxK_any f cap p A c B L w h hB hl he law
  have h1 := first_ge p L
  have h2 := first_any p L
  clear h law
  generalize firstI p L = r at *
  replace hi := Lib.hid hi
  replace h2 := Lib.hid h2
  go_enter Tryz.func74, Tryz.ntmps74
  go_wp2_with fail
  refine hi.out.mono ?_
  rintro e w' ⟨rfl, hbw⟩
  replace hbw := Lib.hid hbw
  go_wp2_with fail
  go_ret
  exact ⟨by rw [← h2.out]; rfl, hbw.out⟩
/-- The closure of the names. -/
theorem kname_any (x : GK) (nm : ByteArray) (kb : Nat) (w : World) (hc : w.cell? ⟨kb, 0, none⟩ = some (.string nm)) (hb : kb < w.heap.size) :
    Calls Tryz.prog 75 #[kV x, .pointer (some ⟨kb, 0, none⟩)] w fun e w' => e = .returned (.bool (x.name.toList == nm.toList)) ∧ Below w.heap.size w w' := by
  go_enter Tryz.func75, Tryz.ntmps75
  go_wp2_with fail
  go_ret
  exact ⟨rfl, (Below.refl _ _).alloc (Nat.le_refl _) _⟩
theorem knum_any (n : Int) (b o : Nat) (w : World) (hc : w.cell? ⟨b, o, none⟩ = some (.int .i64 n)) :
    Calls Tryz.prog 78 #[.pointer (some ⟨b, o, none⟩)] w fun e w' => e = .returned (.bool (badN n)) ∧ w = w' := by
  unfold badN
  by_cases h1 : n < 0
  · rw [decide_eq_true h1]
    go_enter Tryz.func78, Tryz.ntmps78
    go_wp2_with fail
    go_ret
    exact ⟨by simp, rfl⟩
  · have d1 : decide (n < 0) = false := decide_eq_false h1
    rw [d1]
    go_enter Tryz.func78, Tryz.ntmps78
    go_wp2_with fail
    go_ret
    exact ⟨by simp, rfl⟩
set_option maxRecDepth 100000 in
theorem numbers_any (kb : Nat) (w : World) :
    Calls Tryz.prog 77 #[.pointer (some ⟨kb, 0, none⟩)] w fun e w' => e = .returned (.slice (some ⟨w.heap.size, 0, none⟩) 8 8) ∧ Blk w' w.heap.size 107 #[.pointer (some ⟨kb, 1, none⟩), .pointer (some ⟨kb, 2, none⟩), .pointer (some ⟨kb, 3, none⟩), .pointer (some ⟨kb, 4, none⟩), .pointer (some ⟨kb, 5, none⟩), .pointer (some ⟨kb, 6, none⟩), .pointer (some ⟨kb, 7, none⟩), .pointer (some ⟨kb, 8, none⟩)] ∧ Below w.heap.size w w' := by
  go_enter Tryz.func77, Tryz.ntmps77
  go_wp2_with fail
  go_still_tail 24, (by kernel_rfl)
  go_wp2_with fail
  go_ret
  exact ⟨rfl, Blk.new _ _ _, bdrewN ((Below.refl _ _).alloc (Nat.le_refl _) _) 1⟩
/-- The pointers, and the numbers behind them. -/
theorem ptr_cells {w : World} {sb kb : Nat} {k : GK} (hs : Blk w sb 107 #[.pointer (some ⟨kb, 1, none⟩), .pointer (some ⟨kb, 2, none⟩), .pointer (some ⟨kb, 3, none⟩), .pointer (some ⟨kb, 4, none⟩), .pointer (some ⟨kb, 5, none⟩), .pointer (some ⟨kb, 6, none⟩), .pointer (some ⟨kb, 7, none⟩), .pointer (some ⟨kb, 8, none⟩)]) (hk : Blk w kb 41 (kC k).toArray) (j : Nat) (hj : j < 8) :
    w.cell? ⟨sb, j, none⟩ = some (.pointer (some ⟨kb, j + 1, none⟩)) ∧ ∃ n, (numK k)[j]? = some n ∧ w.cell? ⟨kb, j + 1, none⟩ = some (.int .i64 n) := by
  rcases (by omega : j = 0 ∨ j = 1 ∨ j = 2 ∨ j = 3 ∨ j = 4 ∨ j = 5 ∨ j = 6 ∨ j = 7) with rfl | rfl | rfl | rfl | rfl | rfl | rfl | rfl
  · exact ⟨hs.cell 0, _, rfl, hk.cell 1⟩
  · exact ⟨hs.cell 1, _, rfl, hk.cell 2⟩
  · exact ⟨hs.cell 2, _, rfl, hk.cell 3⟩
  · exact ⟨hs.cell 3, _, rfl, hk.cell 4⟩
  · exact ⟨hs.cell 4, _, rfl, hk.cell 5⟩
  · exact ⟨hs.cell 5, _, rfl, hk.cell 6⟩
  · exact ⟨hs.cell 6, _, rfl, hk.cell 7⟩
  · exact ⟨hs.cell 7, _, rfl, hk.cell 8⟩
set_option maxRecDepth 100000 in
theorem idxN_any (sb kb : Nat) (k : GK) (w : World) (hs : Blk w sb 107 #[.pointer (some ⟨kb, 1, none⟩), .pointer (some ⟨kb, 2, none⟩), .pointer (some ⟨kb, 3, none⟩), .pointer (some ⟨kb, 4, none⟩), .pointer (some ⟨kb, 5, none⟩), .pointer (some ⟨kb, 6, none⟩), .pointer (some ⟨kb, 7, none⟩), .pointer (some ⟨kb, 8, none⟩)]) (hk : Blk w kb 41 (kC k).toArray) :
    Calls Tryz.prog 101 #[.slice (some ⟨sb, 0, none⟩) 8 8, .func (.func 78) #[] #[]] w fun e w' => e = .returned (.int .i64 (firstI badN (numK k))) ∧ w = w' := by
  have hsl := hs.lt
  replace hs := Lib.hid hs
  replace hk := Lib.hid hk
  go_enter Tryz.func101, Tryz.ntmps101
  go_wp2_with fail
  go_loop [5, 8] (fun _ i => ∃ j : Nat, j ≤ 8 ∧ i = .int .i64 j ∧ Hid (∀ y ∈ (numK k).take j, badN y = false)) (fun _ i => 8 - (intOf i).toNat)
  case atStart => exact ⟨0, by omega, rfl, Lib.hid (by simp)⟩
  case round =>
    obtain ⟨j, hj, rfl, hK⟩ := hrel
    by_cases hlt : j < 8
    · have i1 : (j : Int) < 8 := by omega
      obtain ⟨c0, n, hn, c1⟩ := ptr_cells hs.out hk.out j hlt
      have hlw := knum_any n kb (j + 1) w c1
      have hfa := first_at badN (numK k) j n hn
      have htn := take_no badN (numK k) j n hn hK.out
      replace hlw := Lib.hid hlw
      replace hn := Lib.hid hn
      replace hfa := Lib.hid hfa
      replace htn := Lib.hid htn
      replace c1 := Lib.hid c1
      go_wp2_with fail
      refine hlw.out.mono ?_
      rintro e w' ⟨rfl, rfl⟩
      cases hpx : badN n with
      | true =>
        have hf := hfa.out hpx hK.out
        replace hf := Lib.hid hf
        replace hpx := Lib.hid hpx
        go_wp2_with fail
        go_ret
        exact ⟨by rw [hf.out]; rfl, rfl⟩
      | false =>
        have hq := Lib.hid (htn.out hpx)
        replace hpx := Lib.hid hpx
        go_wp2_with fail
        go_round
        case rel => exact ⟨j + 1, by omega, by go_num, hq⟩
        case measure => simp [intOf]; omega
    · have i1 : ¬ (j : Int) < 8 := by omega
      have hf := first_no badN (numK k) (by have := hK.out; rwa [List.take_of_length_le (by simp [numK]; omega)] at this)
      replace hf := Lib.hid hf
      go_wp2_with fail
      go_ret
      exact ⟨by rw [hf.out]; rfl, rfl⟩
set_option maxRecDepth 100000 in
theorem ctnN_any (sb kb : Nat) (k : GK) (w : World) (hs : Blk w sb 107 #[.pointer (some ⟨kb, 1, none⟩), .pointer (some ⟨kb, 2, none⟩), .pointer (some ⟨kb, 3, none⟩), .pointer (some ⟨kb, 4, none⟩), .pointer (some ⟨kb, 5, none⟩), .pointer (some ⟨kb, 6, none⟩), .pointer (some ⟨kb, 7, none⟩), .pointer (some ⟨kb, 8, none⟩)]) (hk : Blk w kb 41 (kC k).toArray) :
    Calls Tryz.prog 76 #[.slice (some ⟨sb, 0, none⟩) 8 8, .func (.func 78) #[] #[]] w fun e w' => e = .returned (.bool (numsB k)) ∧ w = w' := by
  have hi := idxN_any sb kb k w hs hk
  have h1 := first_ge badN (numK k)
  have h2 := first_any badN (numK k)
  have h3 : numsB k = (numK k).any badN := rfl
  rw [← h3] at h2
  clear hs hk h3
  generalize firstI badN (numK k) = r at *
  replace hi := Lib.hid hi
  replace h2 := Lib.hid h2
  go_enter Tryz.func76, Tryz.ntmps76
  go_wp2_with fail
  refine hi.out.mono ?_
  rintro e w' ⟨rfl, rfl⟩
  go_wp2_with fail
  go_ret
  exact ⟨by rw [← h2.out]; rfl, rfl⟩
end Go.Proofs.YtkgkpggfoieioaaGreatDoor
/-
  DERIVED: THE SHELF's CONTRACTS AT THIS DUMP, IN PLAIN WORDS (tools/lay-plain.mjs out of 'YtkgkpggfoieioaaGreatDoorTrim0.lean', which tools/lay-shelf.mjs wrote): THE SAME DECLARATIONS UNDER THE SAME NAMES: 'import', 'namespace', 'open', 'def', 'theorem' AND NOTHING ELSE: no command of the shelf's: FOR A HAND-IN. Each laying: the table of numbers ('.._ren') and one theorem, a field a fact of the dump's own or the kernel's comparison; each contract: ONE APPLICATION.
-/
namespace Go.Proofs
open Go.Shelf
def Tryz.lays160_ren : Go.Shelf.Ren := ⟨fun | 160 => 73 | 232 => 94 | 231 => 93 | 227 => 95 | 234 => 97 | 233 => 96 | 236 => 99 | 235 => 98 | 228 => 107 | 271 => 110 | 151 => 109 | 197 => 108 | 120 => 113 | 152 => 112 | 260 => 111 | 137 => 114 | 119 => 115 | 224 => 116 | 225 => 117 | 217 => 118 | 266 => 119 | n => n, fun | 9 => 9 | 4 => 4 | 3 => 3 | 5 => 5 | 117 => 138 | 116 => 137 | 0 => 0 | 124 => 141 | 21 => 21 | 105 => 162 | 46 => 87 | 119 => 166 | 139 => 169 | 138 => 168 | n => n, fun | 3 => 1 | 4 => 2 | n => n⟩
theorem Tryz.lays160 : Go.Proofs.Lays.n160 Tryz.prog Tryz.lays160_ren := {
  mixed := by kernel_rfl
  f119 := Tryz.func115.trans (congrArg some (by kernel_rfl))
  f120 := Tryz.func113.trans (congrArg some (by kernel_rfl))
  f137 := Tryz.func114.trans (congrArg some (by kernel_rfl))
  f151 := Tryz.func109.trans (congrArg some (by kernel_rfl))
  f152 := Tryz.func112.trans (congrArg some (by kernel_rfl))
  f160 := Tryz.func73.trans (congrArg some (by kernel_rfl))
  f197 := Tryz.func108.trans (congrArg some (by kernel_rfl))
  f217 := Tryz.func118.trans (congrArg some (by kernel_rfl))
  f224 := Tryz.func116.trans (congrArg some (by kernel_rfl))
  f225 := Tryz.func117.trans (congrArg some (by kernel_rfl))
  f227 := Tryz.func95.trans (congrArg some (by kernel_rfl))
  f228 := Tryz.func107.trans (congrArg some (by kernel_rfl))
  f231 := Tryz.func93.trans (congrArg some (by kernel_rfl))
  f232 := Tryz.func94.trans (congrArg some (by kernel_rfl))
  f233 := Tryz.func96.trans (congrArg some (by kernel_rfl))
  f234 := Tryz.func97.trans (congrArg some (by kernel_rfl))
  f235 := Tryz.func98.trans (congrArg some (by kernel_rfl))
  f236 := Tryz.func99.trans (congrArg some (by kernel_rfl))
  f260 := Tryz.func111.trans (congrArg some (by kernel_rfl))
  f266 := Tryz.func119.trans (congrArg some (by kernel_rfl))
  f271 := Tryz.func110.trans (congrArg some (by kernel_rfl))
  t0 := Tryz.underlying0
  a0 := Tryz.isAgg0
  z0 := Tryz.sizeOf0
  v0 := Tryz.zeroValue0
  t3 := Tryz.underlying3
  a3 := Tryz.isAgg3
  z3 := Tryz.sizeOf3
  v3 := Tryz.zeroValue3
  t4 := Tryz.underlying4
  a4 := Tryz.isAgg4
  z4 := Tryz.sizeOf4
  v4 := Tryz.zeroValue4
  t5 := Tryz.underlying5
  a5 := Tryz.isAgg5
  z5 := Tryz.sizeOf5
  v5 := Tryz.zeroValue5
  t9 := Tryz.underlying9
  a9 := Tryz.isAgg9
  z9 := Tryz.sizeOf9
  v9 := Tryz.zeroValue9
  t21 := Tryz.underlying21
  a21 := Tryz.isAgg21
  z21 := Tryz.sizeOf21
  v21 := Tryz.zeroValue21
  t46 := Tryz.underlying87
  a46 := Tryz.isAgg87
  z46 := Tryz.sizeOf87
  v46 := Tryz.zeroValue87
  t105 := Tryz.underlying162
  a105 := Tryz.isAgg162
  z105 := Tryz.sizeOf162
  v105 := Tryz.zeroValue162
  t116 := Tryz.underlying137
  a116 := Tryz.isAgg137
  z116 := Tryz.sizeOf137
  t117 := Tryz.underlying138
  a117 := Tryz.isAgg138
  z117 := Tryz.sizeOf138
  v117 := Tryz.zeroValue138
  t119 := Tryz.underlying166
  a119 := Tryz.isAgg166
  z119 := Tryz.sizeOf166
  t124 := Tryz.underlying141
  a124 := Tryz.isAgg141
  z124 := Tryz.sizeOf141
  v124 := Tryz.zeroValue141
  t138 := Tryz.underlying168
  a138 := Tryz.isAgg168
  z138 := Tryz.sizeOf168
  v138 := Tryz.zeroValue168
  t139 := Tryz.underlying169
  a139 := Tryz.isAgg169
  z139 := Tryz.sizeOf169
  v139 := Tryz.zeroValue169
  g3 := by kernel_rfl
  g4 := by kernel_rfl }
open Go.RowKit in
/-- strings.Trim at an ASCII cutset. -/
theorem Tryz.trim_any (s c : ByteArray) (w : World) (hs : s.size ≤ 9223372036854775807) (hc : c.size < 4294967281) (ha : ∀ (j : Nat) b, c.data.toList[j]? = some b → b.toNat < 128) :
    Calls Tryz.prog 73 #[.string s, .string c] w fun e w' => e = .returned (.string ⟨(Lib.trimS s.data.toList c.data.toList).toArray⟩) ∧ Below w.heap.size w w' := Any.strings_Trim_laid Tryz.lays160 (by kernel_rfl) s c w hs hc ha
end Go.Proofs
namespace Go.Proofs.YtkgkpggfoieioaaGreatDoor
set_option linter.unusedVariables false
open Go.RowKit
/-- strings.Trim at the letters. -/
theorem trimK_any (s : ByteArray) (w : World) (hs : s.size ≤ 9223372036854775807) :
    Calls Tryz.prog 73 #[.string s, .string ⟨#[97, 98, 99, 100, 101, 102, 103, 104, 105, 106, 107, 108, 109, 110, 111, 112, 113, 114, 115, 116, 117, 118, 119, 120, 121, 122]⟩] w fun e w' => ∃ r : ByteArray, e = .returned (.string r) ∧ r.toList.isEmpty = lowB s ∧ Below w.heap.size w w' := by
  refine (Tryz.trim_any s ⟨#[97, 98, 99, 100, 101, 102, 103, 104, 105, 106, 107, 108, 109, 110, 111, 112, 113, 114, 115, 116, 117, 118, 119, 120, 121, 122]⟩ w hs (by decide) ?_).mono ?_
  · intro j b hj
    have hm : b ∈ letters := List.mem_of_getElem? hj
    have : ∀ b ∈ letters, b.toNat < 128 := by decide
    exact this b hm
  · rintro e w' ⟨rfl, hb⟩
    refine ⟨_, rfl, ?_, hb⟩
    rw [Lib.toList_data]
    show (Lib.trimS s.data.toList letters).isEmpty = lowB s
    rw [Bool.eq_iff_iff, List.isEmpty_iff, trim_low]; rfl
set_option maxHeartbeats 3200000 in
set_option maxRecDepth 100000 in
theorem kind_any (A : Option Addr) (c B i : Nat) (L : List GK) (w : World) (h : RK w B A L) (hB : B ≤ w.heap.size) (hl : L.length ≤ 1000000000) (hi : i < L.length) (hs : (gk L i).name.size ≤ 9223372036854775807) (hc : L.length ≤ c) (hcm : c ≤ 9223372036854775807) :
    Calls Tryz.prog 54 #[.slice A L.length c, .int .i64 (i : Int)] w fun e w' => e = .returned (errV (kindE L i)) ∧ Below w.heap.size w w' := by
  obtain ⟨b, o, hA, hbl, c0, c1, c2, c3, c4, c5, c6, c7, c8, c9, c10⟩ := rk_at h i hi
  have i1 : (i : Int) < (L.length : Int) := by omega
  subst hA
  have hpre := h.pre (m := i) (by omega)
  rw [show (L.flatMap kC).take (i * 11) = (L.take i).flatMap kC from flat_takeK L i] at hpre
  replace h := Lib.hid h
  replace hpre := Lib.hid hpre
  obtain ⟨x, hx⟩ : ∃ x, gk L i = x := ⟨_, rfl⟩
  rw [hx] at c0 c1 c2 c3 c4 c5 c6 c7 c8 c9 c10 hs
  replace hx := Lib.hid hx
  go_enter Tryz.func54, Tryz.ntmps54
  go_upto_region 2 with fail
  have hb1 : Below w.heap.size w (w.alloc (.cells (kC x).toArray 41)) := (Below.refl _ _).alloc (Nat.le_refl _) _
  have hk1 := Blk.new w 41 (kC x).toArray
  obtain ⟨kb, hkb⟩ : ∃ kb, w.heap.size = kb := ⟨_, rfl⟩
  have hWe : (w.alloc (.cells (kC x).toArray 41)) = w.alloc (.cells #[.string x.name, .int .i64 x.life, .int .i64 x.hit, .int .i64 x.range, .int .i64 x.sight, .int .i64 x.speed, .int .i64 x.price, .int .i64 x.turns, .int .i64 x.carry, .bool x.flies, .bool x.trains] 41) := rfl
  rw [← hWe, hkb]
  rw [hkb] at hk1
  generalize (w.alloc (.cells (kC x).toArray 41)) = wA at *
  replace hkb := Lib.hid hkb
  clear hWe c0 c1 c2 c3 c4 c5 c6 c7 c8 c9 c10
  have d0 : wA.cell? ⟨kb, 0, none⟩ = some (.string x.name) := hk1.cell 0
  have hkl := hk1.lt
  replace hk1 := Lib.hid hk1
  replace hb1 := Lib.hid hb1
  have hQ : ∀ w' E, kindE L i = E → Below w.heap.size w w' → Ending.returned (errV E) = Ending.returned (errV (kindE L i)) ∧ Below w.heap.size w w' := fun w' E h1 h2 => by rw [h1]; exact ⟨rfl, h2⟩
  have hE : kindE L i = if x.name.size = 0 ∨ 8 < x.name.size ∨ lowB x.name = false then 2 else if clashB L i = true then 8 else if x.life < 1 ∨ numsB x = true then 1 else if 4 < x.speed ∨ 12 < x.range ∨ 12 < x.sight then 1 else 0 := by
    unfold kindE; rw [hx.out]
  replace hQ := Lib.hid hQ
  have hsz : x.name.toList.length = x.name.size := by rw [Lib.toList_data, Lib.size_eq]
  by_cases hz : x.name.size = 0
  · have ht : x.name.toList = [] := List.eq_nil_of_length_eq_zero (by rw [hsz]; exact hz)
    rw [if_pos (.inl hz)] at hE
    replace hE := Lib.hid hE
    replace hz := Lib.hid hz
    replace hsz := Lib.hid hsz
    go_wp2_with fail
    go_ret
    exact hQ.out _ 2 hE.out hb1.out
  have ht : ¬ x.name.toList = [] := fun e => by rw [e] at hsz; exact hz hsz.symm
  have ht2 : (!x.name.toList.isEmpty) = true := by
    cases h : x.name.toList with
    | nil => exact absurd h ht
    | cons a r => rfl
  have ht3 : x.name.toList.isEmpty = false := by
    cases h : x.name.toList with
    | nil => exact absurd h ht
    | cons a r => rfl
  by_cases h8 : 8 < x.name.size
  · rw [if_pos (.inr (.inl h8))] at hE
    have h9 : (8 : Int) < (x.name.size : Int) := by omega
    replace hE := Lib.hid hE
    replace hz := Lib.hid hz
    replace hsz := Lib.hid hsz
    go_wp2_with fail
    go_ret
    exact hQ.out _ 2 hE.out hb1.out
  have h9 : ¬ (8 : Int) < (x.name.size : Int) := by omega
  have htr := trimK_any x.name wA hs
  replace hsz := Lib.hid hsz
  replace htr := Lib.hid htr
  cases hlow : lowB x.name with
  | false =>
    rw [if_pos (.inr (.inr hlow))] at hE
    replace hE := Lib.hid hE
    replace hz := Lib.hid hz
    go_wp2_with fail
    refine htr.out.mono ?_
    rintro e w2 ⟨r, rfl, hr, hb2⟩
    rw [hlow] at hr
    have hr1 : ¬ r.toList = [] := fun e => by rw [e] at hr; cases hr
    have hr2 : (!r.toList.isEmpty) = true := by rw [hr]; rfl
    have hb3 := hb1.out.trans (hb2.mono hb1.out.size)
    replace hlow := Lib.hid hlow
    replace hb3 := Lib.hid hb3
    clear hb2
    go_wp2_with fail
    go_ret
    exact hQ.out _ 2 hE.out hb3.out
  | true =>
    rw [if_neg (by rintro (h | h | h); exact hz h; exact h8 h; rw [hlow] at h; cases h)] at hE
    replace hz := Lib.hid hz
    replace hE := Lib.hid hE
    go_wp2_with fail
    refine htr.out.mono ?_
    rintro e w2 ⟨r, rfl, hr, hb2⟩
    rw [hlow] at hr
    have hr1 : r.toList = [] := List.isEmpty_iff.1 hr
    have hr2 : (!r.toList.isEmpty) = false := by rw [hr]; rfl
    have hb3 := hb1.out.trans (hb2.mono hb1.out.size)
    have hk2 := hk1.out.below hb2 hk1.out.lt
    have d0 : w2.cell? ⟨kb, 0, none⟩ = some (.string x.name) := hk2.cell 0
    have d1 : w2.cell? ⟨kb, 1, none⟩ = some (.int .i64 x.life) := hk2.cell 1
    have hkl2 := hk2.lt
    have hn1 := x.name
    have hct := ctnK_any 75 (.pointer (some ⟨kb, 0, none⟩)) (fun y => y.name.toList == x.name.toList) (some ⟨b, o, none⟩) c B (L.take i) w2 (by
      show RD w2 B 11 (some ⟨b, o, none⟩) (L.take i).length ((L.take i).flatMap kC)
      rw [List.length_take, Nat.min_eq_left (by omega)]
      exact hpre.out.below (hb3.mono hB)) (Nat.le_trans hB hb3.size) (by rw [List.length_take]; omega) (fun args w => by kernel_rfl) (fun y hy wz hz => kname_any y x.name kb wz ((hk2.below hz hk2.lt).cell 0) (by have := hz.size; omega))
    rw [show (L.take i).any (fun y => y.name.toList == x.name.toList) = clashB L i by unfold clashB; rw [hx.out], List.length_take, Nat.min_eq_left (by omega)] at hct
    replace hct := Lib.hid hct
    replace hk2 := Lib.hid hk2
    replace hlow := Lib.hid hlow
    replace hb3 := Lib.hid hb3
    replace hk1 := Lib.hid hk1
    clear hb2 hn1
    have hic : (i : Int) ≤ (c : Int) := by omega
    go_wp2_with fail
    refine hct.out.mono ?_
    clear hct
    rintro e w3 ⟨rfl, hb4⟩
    have hb5 := hb3.out.trans (hb4.mono hb3.out.size)
    have hk3 := hk2.out.below hb4 hk2.out.lt
    clear d0 d1 hkl2
    have d1 : w3.cell? ⟨kb, 1, none⟩ = some (.int .i64 x.life) := hk3.cell 1
    have d3 : w3.cell? ⟨kb, 3, none⟩ = some (.int .i64 x.range) := hk3.cell 3
    have d4 : w3.cell? ⟨kb, 4, none⟩ = some (.int .i64 x.sight) := hk3.cell 4
    have d5 : w3.cell? ⟨kb, 5, none⟩ = some (.int .i64 x.speed) := hk3.cell 5
    have hkl3 := hk3.lt
    replace hb5 := Lib.hid hb5
    replace hk3 := Lib.hid hk3
    clear hb4 hb3 hk2
    have hE2 := hE.out
    cases hcl : clashB L i with
    | true =>
      rw [if_pos hcl] at hE2
      replace hE2 := Lib.hid hE2
      replace hcl := Lib.hid hcl
      go_wp2_with fail
      go_ret
      exact hQ.out _ 8 hE2.out hb5.out
    | false =>
      rw [if_neg (by rw [hcl]; simp)] at hE2
      replace hcl := Lib.hid hcl
      by_cases hlf : x.life < 1
      · rw [if_pos (.inl hlf)] at hE2
        have e1 : decide (x.life < 1) = true := decide_eq_true hlf
        replace hE2 := Lib.hid hE2
        go_wp2_with fail
        go_ret
        exact hQ.out _ 1 hE2.out hb5.out
      · have e1 : decide (x.life < 1) = false := decide_eq_false hlf
        have hnb := numbers_any kb w3
        replace hnb := Lib.hid hnb
        go_wp2_with fail
        refine hnb.out.mono ?_
        clear hnb
        rintro e w4 ⟨rfl, hsb, hb6⟩
        have hb7 := hb5.out.trans (hb6.mono hb5.out.size)
        have hk4 := hk3.out.below hb6 hk3.out.lt
        have hcn := ctnN_any w3.heap.size kb x w4 hsb hk4
        clear d1 d3 d4 d5 hkl3
        have d3 : w4.cell? ⟨kb, 3, none⟩ = some (.int .i64 x.range) := hk4.cell 3
        have d4 : w4.cell? ⟨kb, 4, none⟩ = some (.int .i64 x.sight) := hk4.cell 4
        have d5 : w4.cell? ⟨kb, 5, none⟩ = some (.int .i64 x.speed) := hk4.cell 5
        have hkl4 := hk4.lt
        replace hcn := Lib.hid hcn
        replace hb7 := Lib.hid hb7
        replace hk4 := Lib.hid hk4
        clear hsb hb6 hb5 hk3
        go_wp2_with fail
        refine hcn.out.mono ?_
        clear hcn
        rintro e w5 ⟨rfl, rfl⟩
        cases hnm : numsB x with
        | true =>
          rw [if_pos (.inr hnm)] at hE2
          replace hE2 := Lib.hid hE2
          replace hnm := Lib.hid hnm
          go_wp2_with fail
          go_ret
          exact hQ.out _ 1 hE2.out hb7.out
        | false =>
          rw [if_neg (by rintro (h | h); omega; rw [hnm] at h; cases h)] at hE2
          replace hnm := Lib.hid hnm
          by_cases h5 : 4 < x.speed
          · rw [if_pos (.inl h5)] at hE2
            have e5 : decide (4 < x.speed) = true := decide_eq_true h5
            replace hE2 := Lib.hid hE2
            go_wp2_with fail
            go_ret
            exact hQ.out _ 1 hE2.out hb7.out
          have e5 : decide (4 < x.speed) = false := decide_eq_false h5
          by_cases h6 : 12 < x.range
          · rw [if_pos (.inr (.inl h6))] at hE2
            have e6 : decide (12 < x.range) = true := decide_eq_true h6
            replace hE2 := Lib.hid hE2
            go_wp2_with fail
            go_ret
            exact hQ.out _ 1 hE2.out hb7.out
          have e6 : decide (12 < x.range) = false := decide_eq_false h6
          by_cases h7 : 12 < x.sight
          · rw [if_pos (.inr (.inr h7))] at hE2
            have e7 : decide (12 < x.sight) = true := decide_eq_true h7
            replace hE2 := Lib.hid hE2
            go_wp2_with fail
            go_ret
            exact hQ.out _ 1 hE2.out hb7.out
          have e7 : decide (12 < x.sight) = false := decide_eq_false h7
          rw [if_neg (by omega)] at hE2
          replace hE2 := Lib.hid hE2
          go_wp2_with fail
          go_ret
          exact hQ.out _ 0 hE2.out hb7.out
end Go.Proofs.YtkgkpggfoieioaaGreatDoor
