import Derived.Test.YtkgkpggfoieioaaDoorMrga
import Derived.Lib.SlTrimSet
import Derived.WalkKit
import Derived.WalkLawsBesides
import Derived.WalkSpells
import Derived.Outline
import Derived.IntWalk
import Derived.Lib.Hide
import Derived.OpenShut
import Derived.Lib.BufferRead
namespace Go.Proofs.YtkgkpggfoieioaaDoor
set_option linter.unusedVariables false
open Go.ChangeShapes Go.WideShapes Go.RowKit Go.Deep
/-- A slice that holds a list: nil has no room. -/
def SLI (w : World) (s : SL) (xs : List Int) : Prop := RD w w.heap.size 1 s.A xs.length (xs.map (.int .i64)) ∧ (s.A = none → s.c = 0) ∧ xs.length ≤ s.c ∧ s.c ≤ maxLen ∧ ∀ x ∈ xs, I64 x
def SLU (w : World) (s : SL) (xs : List GU) : Prop := RD w w.heap.size 8 s.A xs.length (xs.flatMap uC) ∧ (s.A = none → s.c = 0) ∧ xs.length ≤ s.c ∧ s.c ≤ maxLen ∧ ∀ x ∈ xs, x.ok
def SLJ (w : World) (s : SL) (xs : List GJ) : Prop := RD w w.heap.size 4 s.A xs.length (xs.flatMap jC) ∧ (s.A = none → s.c = 0) ∧ xs.length ≤ s.c ∧ s.c ≤ maxLen ∧ ∀ x ∈ xs, x.ok
theorem sli_of {H : Type} {enc : TypeId × Value → H} {w : World} {held : Bool} {fuel : Nat} {v : Value} {x : DataW H × List MemPlace} (h : DataW.trod enc Tryd.prog w 0 (fun _ => true) held fuel 34 [v] = some x) :
    ∃ (s : SL) (xs : List Int), v = .slice s.A xs.length s.c ∧ SLI w s xs := by
  obtain ⟨A, n, c, xs, hcs, hn, hr, hw, hnil, hc, hm⟩ := opI Tryd.underlying34 Tryd.underlying3 (by kernel_rfl) h
  injection hcs with hcs
  subst hcs; subst hn
  exact ⟨⟨A, c⟩, xs, rfl, hr, hnil, hc, hm, fun x hx => i64_wf (hw x hx)⟩
theorem slu_of {H : Type} {enc : TypeId × Value → H} {w : World} {held : Bool} {fuel : Nat} {v : Value} {x : DataW H × List MemPlace} (h : DataW.trod enc Tryd.prog w 0 (fun _ => true) held fuel 29 [v] = some x) :
    ∃ (s : SL) (xs : List GU), v = .slice s.A xs.length s.c ∧ SLU w s xs := by
  obtain ⟨A, n, c, val, hcs, hnil, hc, hm, hf, hr⟩ := opV Tryd.underlying29 Tryd.underlying33 (by kernel_rfl) (by kernel_rfl) (by decide) h
  injection hcs with hcs
  subst hcs
  have g : ∀ i, i < n → ∀ j f, _ → val i j = .int .i64 (vi (val i j)) ∧ I64 (vi (val i j)) := fun i hi j f hj => by
    obtain ⟨m, y, hy⟩ := hf i hi j f hj
    have : f.type = 3 := by
      rcases j with _ | _ | _ | _ | _ | _ | _ | _ | j
      all_goals first | (injection hj with hj; subst hj; rfl) | (simp at hj)
    rw [this] at hy
    exact unit_all Tryd.underlying3 hy
  have e : ((List.range n).flatMap fun i => (List.range 8).map (val i)) = ((List.range n).map fun i => (⟨vi (val i 0), vi (val i 1), vi (val i 2), vi (val i 3), vi (val i 4), vi (val i 5), vi (val i 6), vi (val i 7)⟩ : GU)).flatMap uC := by
    rw [List.flatMap_map]
    refine fm_congr fun i hi => ?_
    have hi := List.mem_range.1 hi
    show [val i 0, val i 1, val i 2, val i 3, val i 4, val i 5, val i 6, val i 7] = _
    rw [(g i hi 0 _ rfl).1, (g i hi 1 _ rfl).1, (g i hi 2 _ rfl).1, (g i hi 3 _ rfl).1, (g i hi 4 _ rfl).1, (g i hi 5 _ rfl).1, (g i hi 6 _ rfl).1, (g i hi 7 _ rfl).1]
    rfl
  refine ⟨⟨A, c⟩, (List.range n).map fun i => ⟨vi (val i 0), vi (val i 1), vi (val i 2), vi (val i 3), vi (val i 4), vi (val i 5), vi (val i 6), vi (val i 7)⟩, by simp, ?_, hnil, by simpa using hc, hm, ?_⟩
  · rw [← e]; simpa using hr
  · intro x hx
    obtain ⟨i, hi, rfl⟩ := List.mem_map.1 hx
    have hi := List.mem_range.1 hi
    exact ⟨(g i hi 0 _ rfl).2, (g i hi 1 _ rfl).2, (g i hi 2 _ rfl).2, (g i hi 3 _ rfl).2, (g i hi 4 _ rfl).2, (g i hi 5 _ rfl).2, (g i hi 6 _ rfl).2, (g i hi 7 _ rfl).2⟩
theorem slj_of {H : Type} {enc : TypeId × Value → H} {w : World} {held : Bool} {fuel : Nat} {v : Value} {x : DataW H × List MemPlace} (h : DataW.trod enc Tryd.prog w 0 (fun _ => true) held fuel 53 [v] = some x) :
    ∃ (s : SL) (xs : List GJ), v = .slice s.A xs.length s.c ∧ SLJ w s xs := by
  obtain ⟨A, n, c, val, hcs, hnil, hc, hm, hf, hr⟩ := opV Tryd.underlying53 Tryd.underlying126 (by kernel_rfl) (by kernel_rfl) (by decide) h
  injection hcs with hcs
  subst hcs
  have g : ∀ i, i < n → ∀ j f, _ → val i j = .int .i64 (vi (val i j)) ∧ I64 (vi (val i j)) := fun i hi j f hj => by
    obtain ⟨m, y, hy⟩ := hf i hi j f hj
    have : f.type = 3 := by
      rcases j with _ | _ | _ | _ | j
      all_goals first | (injection hj with hj; subst hj; rfl) | (simp at hj)
    rw [this] at hy
    exact unit_all Tryd.underlying3 hy
  have e : ((List.range n).flatMap fun i => (List.range 4).map (val i)) = ((List.range n).map fun i => (⟨vi (val i 0), vi (val i 1), vi (val i 2), vi (val i 3)⟩ : GJ)).flatMap jC := by
    rw [List.flatMap_map]
    refine fm_congr fun i hi => ?_
    have hi := List.mem_range.1 hi
    show [val i 0, val i 1, val i 2, val i 3] = _
    rw [(g i hi 0 _ rfl).1, (g i hi 1 _ rfl).1, (g i hi 2 _ rfl).1, (g i hi 3 _ rfl).1]
    rfl
  refine ⟨⟨A, c⟩, (List.range n).map fun i => ⟨vi (val i 0), vi (val i 1), vi (val i 2), vi (val i 3)⟩, by simp, ?_, hnil, by simpa using hc, hm, ?_⟩
  · rw [← e]; simpa using hr
  · intro x hx
    obtain ⟨i, hi, rfl⟩ := List.mem_map.1 hx
    have hi := List.mem_range.1 hi
    exact ⟨(g i hi 0 _ rfl).2, (g i hi 1 _ rfl).2, (g i hi 2 _ rfl).2, (g i hi 3 _ rfl).2⟩
/-- A field, and a world, by value: the numbers, and the slices of its lists. -/
structure SF where
  ground : SL
  ore : SL
structure SW where
  field : SF
  gold : SL
  units : SL
  queue : SL
def fV (s : SF) (f : GF) : List Value := [.int .i64 f.wide, .int .i64 f.high, .slice s.ground.A f.ground.length s.ground.c, .slice s.ore.A f.ore.length s.ore.c]
def FOk (w : World) (s : SF) (f : GF) : Prop := I64 f.wide ∧ I64 f.high ∧ SLI w s.ground f.ground ∧ SLI w s.ore f.ore
def wV (s : SW) (x : GW) : List Value := [.int .i64 x.turn, .int .i64 x.next, .int .i64 x.field.wide, .int .i64 x.field.high, .slice s.field.ground.A x.field.ground.length s.field.ground.c, .slice s.field.ore.A x.field.ore.length s.field.ore.c,
  .slice s.gold.A x.gold.length s.gold.c, .slice s.units.A x.units.length s.units.c, .slice s.queue.A x.queue.length s.queue.c]
def WOk (w : World) (s : SW) (x : GW) : Prop := I64 x.turn ∧ I64 x.next ∧ FOk w s.field x.field ∧ SLI w s.gold x.gold ∧ SLU w s.units x.units ∧ SLJ w s.queue x.queue
theorem field_of {H : Type} {enc : TypeId × Value → H} {w : World} {held : Bool} {fuel : Nat} {v0 v1 v2 v3 : Value} {x : DataW H × List MemPlace} (h : DataW.trod enc Tryd.prog w 0 (fun _ => true) held fuel 52 [v0, v1, v2, v3] = some x) :
    ∃ (s : SF) (f : GF), [v0, v1, v2, v3] = fV s f ∧ FOk w s f := by
  have c1 : Tryd.prog.cellsOf 3 = 1 := by kernel_rfl
  have c2 : Tryd.prog.cellsOf 34 = 1 := by kernel_rfl
  obtain ⟨_, _, f0⟩ := trod_fld Tryd.underlying52 h 0 0 3 1 rfl c1
  obtain ⟨_, _, f1⟩ := trod_fld Tryd.underlying52 h 1 1 3 1 rfl c1
  obtain ⟨_, _, f2⟩ := trod_fld Tryd.underlying52 h 2 2 34 1 rfl c2
  obtain ⟨_, _, f3⟩ := trod_fld Tryd.underlying52 h 3 3 34 1 rfl c2
  obtain ⟨e0, r0⟩ := unit_all (P := Tryd.prog) (v := v0) Tryd.underlying3 f0
  obtain ⟨e1, r1⟩ := unit_all (P := Tryd.prog) (v := v1) Tryd.underlying3 f1
  obtain ⟨s2, g2, e2, r2⟩ := sli_of (v := v2) f2
  obtain ⟨s3, g3, e3, r3⟩ := sli_of (v := v3) f3
  subst e2; subst e3
  exact ⟨⟨s2, s3⟩, ⟨vi v0, vi v1, g2, g3⟩, by rw [e0, e1]; rfl, r0, r1, r2, r3⟩
set_option maxRecDepth 100000 in
theorem openField {H : Type} {enc : TypeId × Value → H} {w : World} {r : Reach} {b0 : Nat} {held : Bool} {v : Value} {d : DataW H} {p : List MemPlace} (hv : Value.okWide Tryd.prog w r b0 52 v)
    (h : DataW.Trod enc Tryd.prog w 0 (fun _ => true) held 52 v d p) : ∃ (x : SF × GF), v = .agg (fV x.1 x.2).toArray ∧ FOk w x.1 x.2 := by
  obtain ⟨cs, rfl, hsz⟩ := okWide_struct Tryd.underlying52 hv
  obtain ⟨l⟩ := cs
  have hl : l.length = 4 := hsz.trans (by kernel_rfl)
  match l, hl with
  | [v0, v1, v2, v3], _ =>
    obtain ⟨fuel, hf⟩ := h
    obtain ⟨s, f, e, ok⟩ := field_of hf
    exact ⟨(s, f), by rw [← e], ok⟩
theorem world_of {H : Type} {enc : TypeId × Value → H} {w : World} {held : Bool} {fuel : Nat} {v0 v1 v2 v3 v4 v5 v6 v7 v8 : Value} {x : DataW H × List MemPlace} (h : DataW.trod enc Tryd.prog w 0 (fun _ => true) held fuel 55 [v0, v1, v2, v3, v4, v5, v6, v7, v8] = some x) :
    ∃ (s : SW) (f : GW), [v0, v1, v2, v3, v4, v5, v6, v7, v8] = wV s f ∧ WOk w s f := by
  have c1 : Tryd.prog.cellsOf 3 = 1 := by kernel_rfl
  have c2 : Tryd.prog.cellsOf 34 = 1 := by kernel_rfl
  have c3 : Tryd.prog.cellsOf 52 = 4 := by kernel_rfl
  have c4 : Tryd.prog.cellsOf 29 = 1 := by kernel_rfl
  have c5 : Tryd.prog.cellsOf 53 = 1 := by kernel_rfl
  obtain ⟨_, _, f0⟩ := trod_fld Tryd.underlying55 h 0 0 3 1 rfl c1
  obtain ⟨_, _, f1⟩ := trod_fld Tryd.underlying55 h 1 1 3 1 rfl c1
  obtain ⟨_, _, f2⟩ := trod_fld Tryd.underlying55 h 2 2 52 4 rfl c3
  obtain ⟨_, _, f3⟩ := trod_fld Tryd.underlying55 h 3 6 34 1 rfl c2
  obtain ⟨_, _, f4⟩ := trod_fld Tryd.underlying55 h 4 7 29 1 rfl c4
  obtain ⟨_, _, f5⟩ := trod_fld Tryd.underlying55 h 5 8 53 1 rfl c5
  obtain ⟨e0, r0⟩ := unit_all (P := Tryd.prog) (v := v0) Tryd.underlying3 f0
  obtain ⟨e1, r1⟩ := unit_all (P := Tryd.prog) (v := v1) Tryd.underlying3 f1
  obtain ⟨s2, g2, e2, r2⟩ := field_of (v0 := v2) (v1 := v3) (v2 := v4) (v3 := v5) f2
  obtain ⟨s3, g3, e3, r3⟩ := sli_of (v := v6) f3
  obtain ⟨s4, g4, e4, r4⟩ := slu_of (v := v7) f4
  obtain ⟨s5, g5, e5, r5⟩ := slj_of (v := v8) f5
  simp only [fV, List.cons.injEq, and_true] at e2
  obtain ⟨rfl, rfl, rfl, rfl⟩ := e2
  subst e3; subst e4; subst e5
  exact ⟨⟨s2, s3, s4, s5⟩, ⟨vi v0, vi v1, g2, g3, g4, g5⟩, by rw [e0, e1]; rfl, r0, r1, r2, r3, r4, r5⟩
set_option maxRecDepth 100000 in
theorem openWorld {H : Type} {enc : TypeId × Value → H} {w : World} {r : Reach} {b0 : Nat} {held : Bool} {v : Value} {d : DataW H} {p : List MemPlace} (hv : Value.okWide Tryd.prog w r b0 55 v)
    (h : DataW.Trod enc Tryd.prog w 0 (fun _ => true) held 55 v d p) : ∃ (x : SW × GW), v = .agg (wV x.1 x.2).toArray ∧ WOk w x.1 x.2 := by
  obtain ⟨cs, rfl, hsz⟩ := okWide_struct Tryd.underlying55 hv
  obtain ⟨l⟩ := cs
  have hl : l.length = 9 := hsz.trans (by kernel_rfl)
  match l, hl with
  | [v0, v1, v2, v3, v4, v5, v6, v7, v8], _ =>
    obtain ⟨fuel, hf⟩ := h
    obtain ⟨s, f, e, ok⟩ := world_of hf
    exact ⟨(s, f), by rw [← e], ok⟩
end Go.Proofs.YtkgkpggfoieioaaDoor
namespace Go.Proofs.YtkgkpggfoieioaaDoor
set_option linter.unusedVariables false
/-! Kinds, in plain data. -/
structure GK where
  name : ByteArray
  life : Int
  hit : Int
  range : Int
  sight : Int
  speed : Int
  price : Int
  turns : Int
  carry : Int
  flies : Bool
  trains : Bool
def kC (k : GK) : List Value := [.string k.name, .int .i64 k.life, .int .i64 k.hit, .int .i64 k.range, .int .i64 k.sight, .int .i64 k.speed, .int .i64 k.price, .int .i64 k.turns, .int .i64 k.carry, .bool k.flies, .bool k.trains]
theorem kC_len (k : GK) : (kC k).length = 11 := rfl
theorem kC_one (k : GK) : ∀ v ∈ kC k, v.oneCell' = true := by
  intro v hv
  simp only [kC, List.mem_cons, List.not_mem_nil, or_false] at hv
  rcases hv with rfl | rfl | rfl | rfl | rfl | rfl | rfl | rfl | rfl | rfl | rfl <;> rfl
/-- A kind that was read: its numbers are int's. -/
def GK.ok (k : GK) : Prop := k.name.size ≤ 9223372036854775807 ∧ I64 k.life ∧ I64 k.hit ∧ I64 k.range ∧ I64 k.sight ∧ I64 k.speed ∧ I64 k.price ∧ I64 k.turns ∧ I64 k.carry
def gk (l : List GK) (i : Nat) : GK := l.getD i ⟨⟨#[]⟩, 0, 0, 0, 0, 0, 0, 0, 0, false, false⟩
theorem gk_get {l : List GK} {i : Nat} (h : i < l.length) : l[i]? = some (gk l i) := by unfold gk; rw [List.getD_eq_getElem?_getD, List.getElem?_eq_getElem h]; rfl
theorem gk_mem {l : List GK} {i : Nat} (h : i < l.length) : gk l i ∈ l := List.mem_of_getElem? (gk_get h)
theorem gk_of {l : List GK} {k : GK} (h : k ∈ l) : ∃ i, i < l.length ∧ gk l i = k := by
  obtain ⟨i, hi⟩ := List.mem_iff_getElem?.1 h
  have hl : i < l.length := (List.getElem?_eq_some_iff.1 hi).1
  rw [gk_get hl] at hi
  exact ⟨i, hl, by injection hi⟩
def letters : List UInt8 := [97, 98, 99, 100, 101, 102, 103, 104, 105, 106, 107, 108, 109, 110, 111, 112, 113, 114, 115, 116, 117, 118, 119, 120, 121, 122]
theorem letters_iff (b : UInt8) : letters.contains b = (decide (97 ≤ b.toNat) && decide (b.toNat ≤ 122)) := by
  have h : ∀ n : Fin 256, letters.contains (UInt8.ofFin n) = (decide (97 ≤ n.val) && decide (n.val ≤ 122)) := by decide +kernel
  exact h b.toFin
/-- Small letters alone? -/
def lowB (s : ByteArray) : Bool := s.data.toList.all fun b => decide (97 ≤ b.toNat) && decide (b.toNat ≤ 122)
theorem trim_low (l : List UInt8) : Lib.trimS l letters = [] ↔ (l.all fun b => decide (97 ≤ b.toNat) && decide (b.toNat ≤ 122)) = true := by
  have hq : (fun b => letters.contains b) = fun b : UInt8 => decide (97 ≤ b.toNat) && decide (b.toNat ≤ 122) := funext letters_iff
  unfold Lib.trimS Lib.trimLeftS Lib.trimRightS
  rw [hq]
  generalize (fun b : UInt8 => decide (97 ≤ b.toNat) && decide (b.toNat ≤ 122)) = q
  have h1 : ∀ m : List UInt8, m.dropWhile q = [] ↔ m.all q = true := fun m => by
    induction m with
    | nil => simp
    | cons x m ih =>
      rw [List.dropWhile_cons, List.all_cons]
      cases hx : q x with
      | true => simp [ih]
      | false => simp
  rw [h1, List.all_reverse]
  constructor
  · intro h
    have h2 : ∀ m : List UInt8, (m.dropWhile q).all q = true → m.all q = true := fun m => by
      induction m with
      | nil => simp
      | cons x m ih =>
        rw [List.dropWhile_cons, List.all_cons]
        cases hx : q x with
        | true => simpa using ih
        | false => simp [List.all_cons, hx]
    have := h2 _ h
    rwa [List.all_reverse] at this
  · intro h
    have : l.reverse.dropWhile q = [] := (h1 _).2 (by rwa [List.all_reverse])
    rw [this]; rfl
def numK (k : GK) : List Int := [k.life, k.hit, k.range, k.sight, k.speed, k.price, k.turns, k.carry]
/-- Is one of the numbers none that may be? -/
def badN (n : Int) : Bool := decide (n < 0) || decide (1000 < n)
def numsB (k : GK) : Bool := (numK k).any badN
def clashB (l : List GK) (i : Nat) : Bool := (l.take i).any fun x => x.name.toList == (gk l i).name.toList
/-- The fault of one, those ahead being right. -/
def kindE (l : List GK) (i : Nat) : Int :=
  if (gk l i).name.size = 0 ∨ 8 < (gk l i).name.size ∨ lowB (gk l i).name = false then 2
  else if clashB l i = true then 8
  else if (gk l i).life < 1 ∨ numsB (gk l i) = true then 1
  else if 4 < (gk l i).speed ∨ 12 < (gk l i).range ∨ 12 < (gk l i).sight then 1
  else 0
def kindsN (l : List GK) : Nat → Int
  | 0 => 0
  | k + 1 => if kindsN l k ≠ 0 then kindsN l k else kindE l k
def kindsE (l : List GK) : Int := if 8 < l.length then 4 else kindsN l l.length
theorem kindsN_mono (l : List GK) (k n : Nat) (h : k ≤ n) (hk : kindsN l k ≠ 0) : kindsN l n = kindsN l k := by
  induction n with
  | zero => have : k = 0 := by omega
            subst this; rfl
  | succ n ih =>
    rcases Nat.lt_or_ge k (n + 1) with h1 | h1
    · have := ih (by omega)
      rw [kindsN, this, if_pos hk]
    · have : k = n + 1 := by omega
      subst this; rfl
/-- A kind that may be. -/
structure KindOk (k : GK) : Prop where
  size : 1 ≤ k.name.size ∧ k.name.size ≤ 8
  low : lowB k.name = true
  life : 1 ≤ k.life ∧ k.life ≤ 1000
  hit : 0 ≤ k.hit ∧ k.hit ≤ 1000
  range : 0 ≤ k.range ∧ k.range ≤ 12
  sight : 0 ≤ k.sight ∧ k.sight ≤ 12
  speed : 0 ≤ k.speed ∧ k.speed ≤ 4
  price : 0 ≤ k.price ∧ k.price ≤ 1000
  turns : 0 ≤ k.turns ∧ k.turns ≤ 1000
  carry : 0 ≤ k.carry ∧ k.carry ≤ 1000
theorem badN_no {n : Int} (h : badN n = false) : 0 ≤ n ∧ n ≤ 1000 := by
  unfold badN at h
  rw [Bool.or_eq_false_iff, decide_eq_false_iff_not, decide_eq_false_iff_not] at h
  omega
theorem kindE_ok {l : List GK} {i : Nat} (h : kindE l i = 0) : KindOk (gk l i) ∧ clashB l i = false := by
  unfold kindE at h
  by_cases h1 : (gk l i).name.size = 0 ∨ 8 < (gk l i).name.size ∨ lowB (gk l i).name = false
  · rw [if_pos h1] at h; cases h
  rw [if_neg h1] at h
  by_cases h2 : clashB l i = true
  · rw [if_pos h2] at h; cases h
  rw [if_neg h2] at h
  by_cases h3 : (gk l i).life < 1 ∨ numsB (gk l i) = true
  · rw [if_pos h3] at h; cases h
  rw [if_neg h3] at h
  by_cases h4 : 4 < (gk l i).speed ∨ 12 < (gk l i).range ∨ 12 < (gk l i).sight
  · rw [if_pos h4] at h; cases h
  have h5 : numsB (gk l i) = false := by cases hb : numsB (gk l i) with
    | true => exact absurd (.inr hb) h3
    | false => rfl
  unfold numsB numK at h5
  simp only [List.any_cons, List.any_nil, Bool.or_false, Bool.or_eq_false_iff] at h5
  obtain ⟨n1, n2, n3, n4, n5, n6, n7, n8⟩ := h5
  have n1 := badN_no n1
  have n2 := badN_no n2
  have n3 := badN_no n3
  have n4 := badN_no n4
  have n5 := badN_no n5
  have n6 := badN_no n6
  have n7 := badN_no n7
  have n8 := badN_no n8
  have hlow : lowB (gk l i).name = true := by cases hb : lowB (gk l i).name with
    | true => rfl
    | false => exact absurd (.inr (.inr hb)) h1
  exact ⟨⟨by omega, hlow, by omega, by omega, by omega, by omega, by omega, by omega, by omega, by omega⟩, by simpa using h2⟩
/-- Kinds that may be. -/
structure KindsOk (l : List GK) : Prop where
  few : l.length ≤ 8
  each : ∀ i, i < l.length → KindOk (gk l i)
  apart : ∀ i j, j < i → i < l.length → (gk l j).name.toList ≠ (gk l i).name.toList
theorem kindsN_0 {l : List GK} : ∀ n, kindsN l n = 0 → ∀ i, i < n → kindE l i = 0
  | 0, _, i, hi => by omega
  | n + 1, h, i, hi => by
    have h1 : kindsN l n = 0 := by
      by_cases e : kindsN l n = 0
      · exact e
      · rw [kindsN, if_pos e] at h; exact h
    rw [kindsN, if_neg (fun e => e h1)] at h
    rcases Nat.lt_or_ge i n with h2 | h2
    · exact kindsN_0 n h1 i h2
    · have : i = n := by omega
      subst this; exact h
theorem kindsE_0 {l : List GK} (h : kindsE l = 0) : KindsOk l := by
  unfold kindsE at h
  by_cases h8 : 8 < l.length
  · rw [if_pos h8] at h; cases h
  rw [if_neg h8] at h
  have hz := kindsN_0 _ h
  refine ⟨by omega, fun i hi => (kindE_ok (hz i hi)).1, fun i j hj hi e => ?_⟩
  have hc := (kindE_ok (hz i hi)).2
  unfold clashB at hc
  rw [List.any_eq_false] at hc
  have hm : gk l j ∈ l.take i := by
    rw [List.mem_iff_getElem?]
    exact ⟨j, by rw [List.getElem?_take_of_lt hj]; exact gk_get (by omega)⟩
  exact hc _ hm (by rw [e]; simp)
end Go.Proofs.YtkgkpggfoieioaaDoor
namespace Go.Proofs.YtkgkpggfoieioaaDoor
set_option linter.unusedVariables false
/-! A field's faults, its cells, and what is beside each. -/
def sideB (n : Int) : Bool := decide (1 ≤ n ∧ n ≤ 12)
def numB (n : Int) : Bool := decide (0 ≤ n ∧ n ≤ 1000000)
theorem sideB_t {n : Int} (h : sideB n = true) : 1 ≤ n ∧ n ≤ 12 := by simpa [sideB] using h
theorem sideB_f {n : Int} (h : sideB n = false) : ¬(1 ≤ n ∧ n ≤ 12) := by simpa [sideB] using h
theorem numB_t {n : Int} (h : numB n = true) : 0 ≤ n ∧ n ≤ 1000000 := by simpa [numB] using h
theorem numB_f {n : Int} (h : numB n = false) : ¬(0 ≤ n ∧ n ≤ 1000000) := by simpa [numB] using h
/-- The first fault of cells. -/
def cellsE : List Int → List Int → Int
  | g :: gs, o :: os => if g < 0 ∨ 3 < g ∨ numB o = false then 1 else if 0 < o ∧ g ≠ 0 then 7 else cellsE gs os
  | _, _ => 0
def fieldE (f : GF) : Int :=
  if sideB f.wide = false ∨ sideB f.high = false then 1
  else if (f.ground.length : Int) ≠ f.wide * f.high ∨ (f.ore.length : Int) ≠ f.wide * f.high then 3
  else cellsE f.ground f.ore
def cellE (f : GF) (at_ : Int) : Int := if fieldE f ≠ 0 then fieldE f else if at_ < 0 ∨ (f.ground.length : Int) ≤ at_ then 6 else 0
theorem cellsE_drop (gs os : List Int) (k : Nat) (g o : Int) (hg : gs[k]? = some g) (ho : os[k]? = some o) : cellsE (gs.drop k) (os.drop k) = if g < 0 ∨ 3 < g ∨ numB o = false then 1 else if 0 < o ∧ g ≠ 0 then 7 else cellsE (gs.drop (k + 1)) (os.drop (k + 1)) := by
  have h1 : gs.drop k = g :: gs.drop (k + 1) := by
    obtain ⟨hl, e⟩ := List.getElem?_eq_some_iff.1 hg
    rw [List.drop_eq_getElem_cons hl, e]
  have h2 : os.drop k = o :: os.drop (k + 1) := by
    obtain ⟨hl, e⟩ := List.getElem?_eq_some_iff.1 ho
    rw [List.drop_eq_getElem_cons hl, e]
  rw [h1, h2, cellsE]
theorem cellsE_end (gs os : List Int) (k : Nat) (h : gs.length ≤ k) : cellsE (gs.drop k) (os.drop k) = 0 := by
  rw [List.drop_of_length_le h]; unfold cellsE; rfl
theorem cellsE_good : ∀ (gs os : List Int), cellsE gs os = 0 → gs.length = os.length → ∀ (k : Nat) (g o : Int), gs[k]? = some g → os[k]? = some o → 0 ≤ g ∧ g ≤ 3 ∧ 0 ≤ o ∧ o ≤ 1000000 ∧ (0 < o → g = 0)
  | [], _, _, _, k, g, o, hg, _ => by simp at hg
  | _ :: _, [], _, hl, _, _, _, _, _ => by simp at hl
  | a :: gs, b :: os, h, hl, k, g, o, hg, ho => by
    rw [cellsE] at h
    by_cases h1 : a < 0 ∨ 3 < a ∨ numB b = false
    · rw [if_pos h1] at h; cases h
    · rw [if_neg h1] at h
      by_cases h2 : 0 < b ∧ a ≠ 0
      · rw [if_pos h2] at h; cases h
      · rw [if_neg h2] at h
        cases k with
        | zero =>
          simp only [List.getElem?_cons_zero, Option.some.injEq] at hg ho
          subst hg; subst ho
          have hb : numB b = true := by cases hb : numB b with
            | true => rfl
            | false => exact absurd (.inr (.inr hb)) h1
          have := numB_t hb
          exact ⟨by omega, by omega, this.1, this.2, by omega⟩
        | succ k => exact cellsE_good gs os h (by simpa using hl) k g o (by simpa using hg) (by simpa using ho)
/-- What holds of a field without a fault. -/
structure Good (f : GF) : Prop where
  wide : 1 ≤ f.wide ∧ f.wide ≤ 12
  high : 1 ≤ f.high ∧ f.high ≤ 12
  lg : (f.ground.length : Int) = f.wide * f.high
  lo : (f.ore.length : Int) = f.wide * f.high
  cells : cellsE f.ground f.ore = 0
theorem good_of (f : GF) (h : fieldE f = 0) : Good f := by
  unfold fieldE at h
  by_cases h1 : sideB f.wide = false ∨ sideB f.high = false
  · rw [if_pos h1] at h; cases h
  · rw [if_neg h1] at h
    by_cases h2 : (f.ground.length : Int) ≠ f.wide * f.high ∨ (f.ore.length : Int) ≠ f.wide * f.high
    · rw [if_pos h2] at h; cases h
    · rw [if_neg h2] at h
      have hw : sideB f.wide = true := by cases hb : sideB f.wide with
        | true => rfl
        | false => exact absurd (.inl hb) h1
      have hh : sideB f.high = true := by cases hb : sideB f.high with
        | true => rfl
        | false => exact absurd (.inr hb) h1
      exact ⟨sideB_t hw, sideB_t hh, by omega, by omega, h⟩
theorem good_to (f : GF) (h : Good f) : fieldE f = 0 := by
  unfold fieldE
  rw [if_neg, if_neg]
  · exact h.cells
  · have := h.lg; have := h.lo; omega
  · simp [sideB]; have := h.wide; have := h.high; omega
theorem mul_le_of {a b c d : Int} (h1 : 0 ≤ a) (h2 : a ≤ c) (h3 : 0 ≤ b) (h4 : b ≤ d) : a * b ≤ c * d :=
  Int.le_trans (Int.mul_le_mul_of_nonneg_right h2 h3) (Int.mul_le_mul_of_nonneg_left h4 (by omega))
theorem Good.len {f : GF} (h : Good f) : f.ground.length ≤ 144 ∧ 1 ≤ f.ground.length ∧ f.ore.length = f.ground.length := by
  have h1 := h.lg
  have h2 := h.lo
  have h3 : f.wide * f.high ≤ 12 * 12 := mul_le_of (by have := h.wide; omega) h.wide.2 (by have := h.high; omega) h.high.2
  have h4 : 1 * 1 ≤ f.wide * f.high := mul_le_of (by omega) h.wide.1 (by omega) h.high.1
  omega
theorem Good.cell {f : GF} (h : Good f) (k : Nat) (g : Int) (hg : f.ground[k]? = some g) : 0 ≤ g ∧ g ≤ 3 := by
  have hl := h.len
  have hk : k < f.ground.length := (List.getElem?_eq_some_iff.1 hg).1
  have := cellsE_good f.ground f.ore h.cells (by omega) k g (f.ore[k]'(by omega)) hg (List.getElem?_eq_getElem (by omega))
  exact ⟨this.1, this.2.1⟩
/-- How far it is onto a cell of a ground. -/
def ontoG (g : Int) (fl : Bool) : Int := if g = 1 ∨ (g = 2 ∧ fl = false) then 0 else if g = 3 ∧ fl = false then 2 else 1
def gAt (f : GF) (k : Nat) : Int := f.ground.getD k 0
def ontoL (f : GF) (k : Nat) (fl : Bool) : Int := ontoG (gAt f k) fl
/-- The cells beside a cell: above, to the left, to the right, below. -/
def besS (f : GF) (a : Int) : Nat → List Int
  | 0 => if a / f.wide - 1 < 0 then [] else [a - f.wide]
  | 1 => if a % f.wide - 1 < 0 then [] else [a - 1]
  | 2 => if a % f.wide + 1 < f.wide then [a + 1] else []
  | 3 => if a / f.wide + 1 < f.high then [a + f.wide] else []
  | _ => []
def besN (f : GF) (a : Int) : Nat → List Int
  | 0 => []
  | k + 1 => besN f a k ++ besS f a k
def besL (f : GF) (a : Int) : List Int := besN f a 4
theorem besS_len (f : GF) (a : Int) (k : Nat) : (besS f a k).length ≤ 1 := by
  unfold besS; split <;> (try split) <;> simp
theorem besN_len (f : GF) (a : Int) (k : Nat) : (besN f a k).length ≤ k := by
  induction k with
  | zero => simp [besN]
  | succ k ih => rw [besN, List.length_append]; have := besS_len f a k; omega
end Go.Proofs.YtkgkpggfoieioaaDoor
namespace Go.Proofs.YtkgkpggfoieioaaDoor
set_option linter.unusedVariables false
/-- The first that is so; -1: none. -/
def firstI {α : Type} (p : α → Bool) (L : List α) : Int := match L.findIdx? p with
  | some i => i
  | none => -1
theorem first_any {α : Type} (p : α → Bool) (L : List α) : decide (0 ≤ firstI p L) = L.any p := by
  unfold firstI
  rw [Bool.eq_iff_iff, decide_eq_true_iff]
  rcases h : L.findIdx? p with _ | i
  · rw [List.findIdx?_eq_none_iff] at h
    simp only [List.any_eq_true]
    constructor
    · intro h1; omega
    · rintro ⟨x, hx, hp⟩
      rw [h x hx] at hp; cases hp
  · obtain ⟨h1, h2⟩ := List.findIdx?_eq_some_iff_getElem.1 h
    simp only [List.any_eq_true]
    constructor
    · intro _
      exact ⟨L[i], List.getElem_mem _, h2.1⟩
    · intro _; omega
theorem first_no {α : Type} (p : α → Bool) (L : List α) (h : ∀ x ∈ L, p x = false) : firstI p L = -1 := by
  unfold firstI
  rw [List.findIdx?_eq_none_iff.2 h]
theorem first_at {α : Type} (p : α → Bool) (L : List α) (k : Nat) (x : α) (hk : L[k]? = some x) (hx : p x = true) (h : ∀ y ∈ L.take k, p y = false) : firstI p L = k := by
  unfold firstI
  have hl : k < L.length := (List.getElem?_eq_some_iff.1 hk).1
  have : L.findIdx? p = some k := by
    rw [List.findIdx?_eq_some_iff_getElem]
    refine ⟨hl, ?_, fun j hj => ?_⟩
    · have e : L[k] = x := by rw [List.getElem?_eq_getElem hl] at hk; injection hk
      rw [e]; exact hx
    · have := h L[j] (by rw [List.mem_iff_getElem?]; exact ⟨j, by rw [List.getElem?_take_of_lt hj, List.getElem?_eq_getElem]⟩)
      simp [this]
  rw [this]
theorem first_lt {α : Type} (p : α → Bool) (L : List α) : -1 ≤ firstI p L ∧ firstI p L < L.length ∨ firstI p L = -1 := by
  unfold firstI
  rcases h : L.findIdx? p with _ | i
  · exact .inr rfl
  · obtain ⟨h1, _⟩ := List.findIdx?_eq_some_iff_getElem.1 h
    exact .inl ⟨by simp only; omega, by simp only; omega⟩
theorem first_ge {α : Type} (p : α → Bool) (L : List α) : -1 ≤ firstI p L := by
  unfold firstI
  rcases L.findIdx? p with _ | i <;> simp only <;> omega
theorem take_no {α : Type} (p : α → Bool) (L : List α) (k : Nat) (x : α) (hk : L[k]? = some x) (h : ∀ y ∈ L.take k, p y = false) (hx : p x = false) : ∀ y ∈ L.take (k + 1), p y = false := fun y hy => by
  have hl : k < L.length := (List.getElem?_eq_some_iff.1 hk).1
  have e : L[k] = x := by rw [List.getElem?_eq_getElem hl] at hk; injection hk
  rw [List.take_succ_eq_append_getElem hl, List.mem_append, List.mem_singleton] at hy
  rcases hy with hy | hy
  · exact h y hy
  · rw [hy, e]; exact hx
end Go.Proofs.YtkgkpggfoieioaaDoor
namespace Go.Proofs.YtkgkpggfoieioaaDoor
set_option linter.unusedVariables false
/-! What is wrong with a world. -/
def gu (l : List GU) (i : Nat) : GU := l.getD i ⟨0, 0, 0, 0, 0, 0, 0, 0⟩
theorem gu_get {l : List GU} {i : Nat} (h : i < l.length) : l[i]? = some (gu l i) := by unfold gu; rw [List.getD_eq_getElem?_getD, List.getElem?_eq_getElem h]; rfl
theorem gu_mem {l : List GU} {i : Nat} (h : i < l.length) : gu l i ∈ l := List.mem_of_getElem? (gu_get h)
theorem gu_of {l : List GU} {u : GU} (h : u ∈ l) : ∃ i, i < l.length ∧ gu l i = u := by
  obtain ⟨i, hi⟩ := List.mem_iff_getElem?.1 h
  have hl : i < l.length := (List.getElem?_eq_some_iff.1 hi).1
  rw [gu_get hl] at hi
  exact ⟨i, hl, by injection hi⟩
def gj (l : List GJ) (i : Nat) : GJ := l.getD i ⟨0, 0, 0, 0⟩
theorem gj_get {l : List GJ} {i : Nat} (h : i < l.length) : l[i]? = some (gj l i) := by unfold gj; rw [List.getD_eq_getElem?_getD, List.getElem?_eq_getElem h]; rfl
theorem gj_mem {l : List GJ} {i : Nat} (h : i < l.length) : gj l i ∈ l := List.mem_of_getElem? (gj_get h)
/-- Which unit is on a cell, which has an id: the first; -1: none. -/
def onI (us : List GU) (c : Int) : Int := firstI (fun v => v.spot == c) us
def findId (us : List GU) (c : Int) : Int := firstI (fun v => v.id == c) us
/-- The fault of a unit, those ahead being right. -/
def unitE (L : List GK) (x : GW) (i : Nat) : Int :=
  if (gu x.units i).id < 1 ∨ x.next ≤ (gu x.units i).id then 1
  else if 0 < i ∧ (gu x.units i).id ≤ (gu x.units (i - 1)).id then 5
  else if (gu x.units i).player < 0 ∨ (x.gold.length : Int) ≤ (gu x.units i).player ∨ (gu x.units i).kind < 0 ∨ (L.length : Int) ≤ (gu x.units i).kind then 1
  else if (gu x.units i).life < 1 ∨ (gk L (gu x.units i).kind.toNat).life < (gu x.units i).life ∨ (gu x.units i).load < 0 ∨ (gk L (gu x.units i).kind.toNat).carry < (gu x.units i).load ∨ (gu x.units i).task < 0 ∨ 2 < (gu x.units i).task then 1
  else if (gu x.units i).spot < 0 ∨ (x.field.ground.length : Int) ≤ (gu x.units i).spot ∨ (gu x.units i).goal < 0 ∨ (x.field.ground.length : Int) ≤ (gu x.units i).goal then 6
  else if ontoL x.field (gu x.units i).spot.toNat (gk L (gu x.units i).kind.toNat).flies = 0 ∨ onI x.units (gu x.units i).spot < i ∨ ((gu x.units i).goal ≠ 0 ∧ (gu x.units i).task = 0) then 7
  else 0
def jobE (L : List GK) (x : GW) (j : GJ) : Int :=
  if findId x.units j.unit < 0 then 6
  else if (gu x.units (findId x.units j.unit).toNat).player ≠ j.player ∨ (gk L (gu x.units (findId x.units j.unit).toNat).kind.toNat).trains = false then 7
  else if j.kind < 0 ∨ (L.length : Int) ≤ j.kind ∨ j.left < 1 ∨ 1000 < j.left then 1
  else 0
/-- The first fault of a row. -/
def seqE (e : Nat → Int) : Nat → Int
  | 0 => 0
  | k + 1 => if seqE e k ≠ 0 then seqE e k else e k
theorem seqE_mono (e : Nat → Int) (k n : Nat) (h : k ≤ n) (hk : seqE e k ≠ 0) : seqE e n = seqE e k := by
  induction n with
  | zero => have : k = 0 := by omega
            subst this; rfl
  | succ n ih =>
    rcases Nat.lt_or_ge k (n + 1) with h1 | h1
    · have := ih (by omega)
      rw [seqE, this, if_pos hk]
    · have : k = n + 1 := by omega
      subst this; rfl
theorem seqE_0 {e : Nat → Int} : ∀ n, seqE e n = 0 → ∀ i, i < n → e i = 0
  | 0, _, i, hi => by omega
  | n + 1, h, i, hi => by
    have h1 : seqE e n = 0 := by
      by_cases c : seqE e n = 0
      · exact c
      · rw [seqE, if_pos c] at h; exact h
    rw [seqE, if_neg (fun c => c h1)] at h
    rcases Nat.lt_or_ge i n with h2 | h2
    · exact seqE_0 n h1 i h2
    · have : i = n := by omega
      subst this; exact h
theorem seqE_all {e : Nat → Int} : ∀ n, (∀ i, i < n → e i = 0) → seqE e n = 0
  | 0, _ => rfl
  | n + 1, h => by
    rw [seqE, if_neg (fun c => c (seqE_all n fun i hi => h i (by omega)))]
    exact h n (by omega)
/-- The head of a world: its numbers, its players. -/
def headE (x : GW) : Int :=
  if numB x.turn = false ∨ numB x.next = false ∨ x.next = 0 ∨ x.gold.length < 1 ∨ 4 < x.gold.length then 1
  else if x.gold.any (fun n => !numB n) = true then 1
  else if 40 < x.units.length then 4
  else 0
def worldE (L : List GK) (x : GW) : Int :=
  if kindsE L ≠ 0 then kindsE L
  else if fieldE x.field ≠ 0 then fieldE x.field
  else if headE x ≠ 0 then headE x
  else if seqE (unitE L x) x.units.length ≠ 0 then seqE (unitE L x) x.units.length
  else if 12 < x.queue.length then 4
  else seqE (fun i => jobE L x (gj x.queue i)) x.queue.length
/-- A unit that may be. -/
structure UnitOk (L : List GK) (x : GW) (i : Nat) : Prop where
  id : 1 ≤ (gu x.units i).id ∧ (gu x.units i).id < x.next
  rise : 0 < i → (gu x.units (i - 1)).id < (gu x.units i).id
  player : 0 ≤ (gu x.units i).player ∧ (gu x.units i).player < x.gold.length
  kind : 0 ≤ (gu x.units i).kind ∧ (gu x.units i).kind < L.length
  life : 1 ≤ (gu x.units i).life ∧ (gu x.units i).life ≤ (gk L (gu x.units i).kind.toNat).life
  load : 0 ≤ (gu x.units i).load ∧ (gu x.units i).load ≤ (gk L (gu x.units i).kind.toNat).carry
  task : 0 ≤ (gu x.units i).task ∧ (gu x.units i).task ≤ 2
  spot : 0 ≤ (gu x.units i).spot ∧ (gu x.units i).spot < x.field.ground.length
  goal : 0 ≤ (gu x.units i).goal ∧ (gu x.units i).goal < x.field.ground.length
  onto : ontoL x.field (gu x.units i).spot.toNat (gk L (gu x.units i).kind.toNat).flies ≠ 0
  first : ¬ onI x.units (gu x.units i).spot < i
  rest : (gu x.units i).task = 0 → (gu x.units i).goal = 0
theorem unitE_ok {L : List GK} {x : GW} {i : Nat} (h : unitE L x i = 0) : UnitOk L x i := by
  unfold unitE at h
  by_cases h1 : (gu x.units i).id < 1 ∨ x.next ≤ (gu x.units i).id
  · rw [if_pos h1] at h; cases h
  rw [if_neg h1] at h
  by_cases h2 : 0 < i ∧ (gu x.units i).id ≤ (gu x.units (i - 1)).id
  · rw [if_pos h2] at h; cases h
  rw [if_neg h2] at h
  by_cases h3 : (gu x.units i).player < 0 ∨ (x.gold.length : Int) ≤ (gu x.units i).player ∨ (gu x.units i).kind < 0 ∨ (L.length : Int) ≤ (gu x.units i).kind
  · rw [if_pos h3] at h; cases h
  rw [if_neg h3] at h
  by_cases h4 : (gu x.units i).life < 1 ∨ (gk L (gu x.units i).kind.toNat).life < (gu x.units i).life ∨ (gu x.units i).load < 0 ∨ (gk L (gu x.units i).kind.toNat).carry < (gu x.units i).load ∨ (gu x.units i).task < 0 ∨ 2 < (gu x.units i).task
  · rw [if_pos h4] at h; cases h
  rw [if_neg h4] at h
  by_cases h5 : (gu x.units i).spot < 0 ∨ (x.field.ground.length : Int) ≤ (gu x.units i).spot ∨ (gu x.units i).goal < 0 ∨ (x.field.ground.length : Int) ≤ (gu x.units i).goal
  · rw [if_pos h5] at h; cases h
  rw [if_neg h5] at h
  by_cases h6 : ontoL x.field (gu x.units i).spot.toNat (gk L (gu x.units i).kind.toNat).flies = 0 ∨ onI x.units (gu x.units i).spot < i ∨ ((gu x.units i).goal ≠ 0 ∧ (gu x.units i).task = 0)
  · rw [if_pos h6] at h; cases h
  refine ⟨by omega, fun h0 => ?_, by omega, by omega, by omega, by omega, by omega, by omega, by omega, fun c => h6 (.inl c), fun c => h6 (.inr (.inl c)), fun c => ?_⟩
  · by_cases c : (gu x.units i).id ≤ (gu x.units (i - 1)).id
    · exact absurd ⟨h0, c⟩ h2
    · omega
  · by_cases d : (gu x.units i).goal = 0
    · exact d
    · exact absurd (.inr (.inr ⟨d, c⟩)) h6
structure HeadOk (x : GW) : Prop where
  turn : 0 ≤ x.turn ∧ x.turn ≤ 1000000
  next : 1 ≤ x.next ∧ x.next ≤ 1000000
  players : 1 ≤ x.gold.length ∧ x.gold.length ≤ 4
  gold : ∀ n ∈ x.gold, 0 ≤ n ∧ n ≤ 1000000
  units : x.units.length ≤ 40
theorem headE_ok {x : GW} (h : headE x = 0) : HeadOk x := by
  unfold headE at h
  by_cases h1 : numB x.turn = false ∨ numB x.next = false ∨ x.next = 0 ∨ x.gold.length < 1 ∨ 4 < x.gold.length
  · rw [if_pos h1] at h; cases h
  rw [if_neg h1] at h
  by_cases h2 : x.gold.any (fun n => !numB n) = true
  · rw [if_pos h2] at h; cases h
  rw [if_neg h2] at h
  by_cases h3 : 40 < x.units.length
  · rw [if_pos h3] at h; cases h
  have a1 : numB x.turn = true := by cases hb : numB x.turn with
    | true => rfl
    | false => exact absurd (.inl hb) h1
  have a2 : numB x.next = true := by cases hb : numB x.next with
    | true => rfl
    | false => exact absurd (.inr (.inl hb)) h1
  have a1 := numB_t a1
  have a2 := numB_t a2
  refine ⟨a1, by omega, by omega, fun n hn => ?_, by omega⟩
  cases hb : numB n with
  | true => exact numB_t hb
  | false => exact absurd (List.any_eq_true.2 ⟨n, hn, by rw [hb]; rfl⟩) h2
/-- A world that may be. -/
structure WorldOk (L : List GK) (x : GW) : Prop where
  kinds : kindsE L = 0
  field : fieldE x.field = 0
  head : headE x = 0
  units : ∀ i, i < x.units.length → unitE L x i = 0
  few : x.queue.length ≤ 12
  jobs : ∀ i, i < x.queue.length → jobE L x (gj x.queue i) = 0
theorem worldE_0 {L : List GK} {x : GW} (h : worldE L x = 0) : WorldOk L x := by
  unfold worldE at h
  by_cases h1 : kindsE L = 0
  · rw [if_neg (fun c => c h1)] at h
    by_cases h2 : fieldE x.field = 0
    · rw [if_neg (fun c => c h2)] at h
      by_cases h3 : headE x = 0
      · rw [if_neg (fun c => c h3)] at h
        by_cases h4 : seqE (unitE L x) x.units.length = 0
        · rw [if_neg (fun c => c h4)] at h
          by_cases h5 : 12 < x.queue.length
          · rw [if_pos h5] at h; cases h
          · rw [if_neg h5] at h
            exact ⟨h1, h2, h3, seqE_0 _ h4, by omega, seqE_0 (e := fun i => jobE L x (gj x.queue i)) _ h⟩
        · rw [if_pos h4] at h; exact absurd h h4
      · rw [if_pos h3] at h; exact absurd h h3
    · rw [if_pos h2] at h; exact absurd h h2
  · rw [if_pos h1] at h; exact absurd h h1
theorem worldE_ok {L : List GK} {x : GW} (h : WorldOk L x) : worldE L x = 0 := by
  unfold worldE
  rw [if_neg (fun c => c h.kinds), if_neg (fun c => c h.field), if_neg (fun c => c h.head), if_neg (fun c => c (seqE_all _ h.units)), if_neg (by have := h.few; omega), seqE_all _ h.jobs]
end Go.Proofs.YtkgkpggfoieioaaDoor
namespace Go.Proofs.YtkgkpggfoieioaaDoor
set_option linter.unusedVariables false
open Go.RowKit
/-! Functions over slices of units. -/
abbrev uV (u : GU) : Value := .agg #[.int .i64 u.id, .int .i64 u.player, .int .i64 u.kind, .int .i64 u.spot, .int .i64 u.life, .int .i64 u.load, .int .i64 u.task, .int .i64 u.goal]
abbrev RU (w : World) (B : Nat) (A : Option Addr) (L : List GU) : Prop := RD w B 8 A L.length (L.flatMap uC)
theorem ru_at {w : World} {B : Nat} {A : Option Addr} {L : List GU} (h : RU w B A L) (k : Nat) (hk : k < L.length) :
    ∃ b o, A = some ⟨b, o, none⟩ ∧ b < B ∧ w.cell? ⟨b, o + k * 8, none⟩ = some (.int .i64 (gu L k).id) ∧ w.cell? ⟨b, o + k * 8 + 1, none⟩ = some (.int .i64 (gu L k).player) ∧ w.cell? ⟨b, o + k * 8 + 2, none⟩ = some (.int .i64 (gu L k).kind) ∧ w.cell? ⟨b, o + k * 8 + 3, none⟩ = some (.int .i64 (gu L k).spot) ∧
      w.cell? ⟨b, o + k * 8 + 4, none⟩ = some (.int .i64 (gu L k).life) ∧ w.cell? ⟨b, o + k * 8 + 5, none⟩ = some (.int .i64 (gu L k).load) ∧ w.cell? ⟨b, o + k * 8 + 6, none⟩ = some (.int .i64 (gu L k).task) ∧ w.cell? ⟨b, o + k * 8 + 7, none⟩ = some (.int .i64 (gu L k).goal) := by
  obtain ⟨b, o, hA, hb⟩ := h.addr (by omega)
  have key : ∀ j, j < 8 → w.cell? ⟨b, o + (k * 8 + j), none⟩ = (uC (gu L k))[j]? := fun j hj => by
    rw [h.at_ hA (by omega), flat_get uC 8 uC_len L k j hj, gu_get hk]; rfl
  exact ⟨b, o, hA, hb, key 0 (by omega), key 1 (by omega), key 2 (by omega), key 3 (by omega), key 4 (by omega), key 5 (by omega), key 6 (by omega), key 7 (by omega)⟩
theorem flat_takeU : ∀ (L : List GU) (p : Nat), (L.flatMap uC).take (p * 8) = (L.take p).flatMap uC
  | [], p => by simp
  | x :: L, 0 => by simp
  | x :: L, p + 1 => by
    rw [List.flatMap_cons, List.take_succ_cons, List.flatMap_cons, List.take_append, uC_len, List.take_of_length_le (by rw [uC_len]; omega), show (p + 1) * 8 - 8 = p * 8 by omega, flat_takeU L p]
set_option maxHeartbeats 1600000 in
set_option maxRecDepth 100000 in
theorem idxU_any (f : Nat) (cap : Value) (p : GU → Bool) (A : Option Addr) (c B : Nat) (L : List GU) (w : World) (h : RU w B A L) (hB : B ≤ w.heap.size) (hl : L.length ≤ 9223372036854775807)
    (he : ∀ args w, (callFunc f args).run Tryd.prog w = .ok (.enter f args) w)
    (law : ∀ x, x ∈ L → ∀ wz, Below w.heap.size w wz → Calls Tryd.prog f #[uV x, cap] wz fun e w' => e = .returned (.bool (p x)) ∧ Below wz.heap.size wz w') :
    Calls Tryd.prog 86 #[.slice A L.length c, .func (.func f) #[] #[cap]] w fun e w' => e = .returned (.int .i64 (firstI p L)) ∧ Below w.heap.size w w' := by
  replace h := Lib.hid h
  replace law := Lib.hid law
  go_enter Tryd.func86, Tryd.ntmps86
  go_wp2_with fail
  go_loopw [5, 8] (fun _ i wr => ∃ k : Nat, k ≤ L.length ∧ i = .int .i64 k ∧ Hid (∀ y ∈ L.take k, p y = false) ∧ Hid (Below w.heap.size w wr)) (fun _ i _ => L.length - (intOf i).toNat)
  case atStart => exact ⟨0, Nat.zero_le _, rfl, Lib.hid (by simp), Lib.hid (Below.refl _ _)⟩
  case round =>
    obtain ⟨k, hk, rfl, hK, hbw⟩ := hrel
    by_cases hlt : k < L.length
    · have i1 : (k : Int) < (L.length : Int) := by omega
      obtain ⟨b, o, hA, hbl, c0, c1, c2, c3, c4, c5, c6, c7⟩ := ru_at (h.out.below (hbw.out.mono hB)) k hlt
      have hs := hbw.out.size
      have hlw := law.out _ (gu_mem hlt) wr hbw.out
      have hget := gu_get hlt
      have hfa := first_at p L k _ hget
      have htn := take_no p L k _ hget hK.out
      subst hA
      generalize gu L k = x at *
      replace hlw := Lib.hid hlw
      replace hget := Lib.hid hget
      replace hfa := Lib.hid hfa
      replace htn := Lib.hid htn
      go_wp2_with fail
      refine hlw.out.mono ?_
      rintro e w' ⟨rfl, hb2⟩
      have hb3 := hbw.out.trans (hb2.mono hs)
      replace hb3 := Lib.hid hb3
      clear hb2 c0 c1 c2 c3 c4 c5 c6 c7
      cases hpx : p x with
      | true =>
        have hf := hfa.out hpx hK.out
        replace hf := Lib.hid hf
        replace hpx := Lib.hid hpx
        go_wp2_with fail
        go_ret
        exact ⟨by rw [hf.out]; rfl, hb3.out⟩
      | false =>
        have hn := Lib.hid (htn.out hpx)
        replace hpx := Lib.hid hpx
        go_wp2_with fail
        go_roundw
        case rel => exact ⟨k + 1, by omega, by go_num, hn, hb3⟩
        case measure => simp [intOf]; omega
    · have i1 : ¬ (k : Int) < (L.length : Int) := by omega
      have hf := first_no p L (by have := hK.out; rwa [List.take_of_length_le (by omega)] at this)
      replace hf := Lib.hid hf
      go_wp2_with fail
      go_ret
      exact ⟨by rw [hf.out]; rfl, hbw.out⟩
end Go.Proofs.YtkgkpggfoieioaaDoor
namespace Go.Proofs.YtkgkpggfoieioaaDoor
set_option linter.unusedVariables false
open Go.ChangeShapes Go.WideShapes Go.RowKit Go.Deep
/-- A slice that holds kinds. -/
def SLK (w : World) (s : SL) (xs : List GK) : Prop := RD w w.heap.size 11 s.A xs.length (xs.flatMap kC) ∧ (s.A = none → s.c = 0) ∧ xs.length ≤ s.c ∧ s.c ≤ maxLen ∧ ∀ x ∈ xs, x.ok
def vs : Value → ByteArray
  | .string s => s
  | _ => ⟨#[]⟩
def vb : Value → Bool
  | .bool b => b
  | _ => false
section
variable {H : Type} {enc : TypeId × Value → H} {w : World} {held : Bool} {m : Nat} {v : Value} {y : DataW H × List MemPlace}
set_option maxRecDepth 100000 in
theorem str_all {t : TypeId} (ht : Tryd.prog.underlying t = some .string) (h : DataW.trod enc Tryd.prog w 0 (fun _ => true) held m t [v] = some y) : v = .string (vs v) ∧ (vs v).size ≤ 9223372036854775807 := by
  obtain ⟨s, h1, _, h3⟩ := DataW.trod_string ht h
  injection h1 with h1
  subst h1
  have e : vs (Value.string s) = s := rfl
  rw [e]
  refine ⟨rfl, ?_⟩
  unfold maxLen at h3
  omega
set_option maxRecDepth 100000 in
theorem bool_all {t : TypeId} (ht : Tryd.prog.underlying t = some .bool) (h : DataW.trod enc Tryd.prog w 0 (fun _ => true) held m t [v] = some y) : v = .bool (vb v) := by
  obtain ⟨b, h1, _⟩ := DataW.trod_bool ht h
  injection h1 with h1
  subst h1
  rfl
end
def kOf (val : Nat → Value) : GK := ⟨vs (val 0), vi (val 1), vi (val 2), vi (val 3), vi (val 4), vi (val 5), vi (val 6), vi (val 7), vi (val 8), vb (val 9), vb (val 10)⟩
set_option maxRecDepth 100000 in
theorem slk_of {H : Type} {enc : TypeId × Value → H} {w : World} {held : Bool} {fuel : Nat} {v : Value} {x : DataW H × List MemPlace} (h : DataW.trod enc Tryd.prog w 0 (fun _ => true) held fuel 22 [v] = some x) :
    ∃ (s : SL) (xs : List GK), v = .slice s.A xs.length s.c ∧ SLK w s xs := by
  obtain ⟨A, n, c, val, hcs, hnil, hc, hm, hf, hr⟩ := opV Tryd.underlying22 Tryd.underlying31 (by kernel_rfl) (by kernel_rfl) (by decide) h
  injection hcs with hcs
  subst hcs
  have g1 : ∀ i, i < n → val i 1 = .int .i64 (vi (val i 1)) ∧ I64 (vi (val i 1)) := fun i hi => by
    obtain ⟨m, y, hy⟩ := hf i hi 1 _ rfl
    exact unit_all Tryd.underlying3 hy
  have g2 : ∀ i, i < n → val i 2 = .int .i64 (vi (val i 2)) ∧ I64 (vi (val i 2)) := fun i hi => by
    obtain ⟨m, y, hy⟩ := hf i hi 2 _ rfl
    exact unit_all Tryd.underlying3 hy
  have g3 : ∀ i, i < n → val i 3 = .int .i64 (vi (val i 3)) ∧ I64 (vi (val i 3)) := fun i hi => by
    obtain ⟨m, y, hy⟩ := hf i hi 3 _ rfl
    exact unit_all Tryd.underlying3 hy
  have g4 : ∀ i, i < n → val i 4 = .int .i64 (vi (val i 4)) ∧ I64 (vi (val i 4)) := fun i hi => by
    obtain ⟨m, y, hy⟩ := hf i hi 4 _ rfl
    exact unit_all Tryd.underlying3 hy
  have g5 : ∀ i, i < n → val i 5 = .int .i64 (vi (val i 5)) ∧ I64 (vi (val i 5)) := fun i hi => by
    obtain ⟨m, y, hy⟩ := hf i hi 5 _ rfl
    exact unit_all Tryd.underlying3 hy
  have g6 : ∀ i, i < n → val i 6 = .int .i64 (vi (val i 6)) ∧ I64 (vi (val i 6)) := fun i hi => by
    obtain ⟨m, y, hy⟩ := hf i hi 6 _ rfl
    exact unit_all Tryd.underlying3 hy
  have g7 : ∀ i, i < n → val i 7 = .int .i64 (vi (val i 7)) ∧ I64 (vi (val i 7)) := fun i hi => by
    obtain ⟨m, y, hy⟩ := hf i hi 7 _ rfl
    exact unit_all Tryd.underlying3 hy
  have g8 : ∀ i, i < n → val i 8 = .int .i64 (vi (val i 8)) ∧ I64 (vi (val i 8)) := fun i hi => by
    obtain ⟨m, y, hy⟩ := hf i hi 8 _ rfl
    exact unit_all Tryd.underlying3 hy
  have g0 : ∀ i, i < n → val i 0 = .string (vs (val i 0)) ∧ (vs (val i 0)).size ≤ 9223372036854775807 := fun i hi => by
    obtain ⟨m, y, hy⟩ := hf i hi 0 _ rfl
    exact str_all Tryd.underlying9 hy
  have g9 : ∀ i, i < n → val i 9 = .bool (vb (val i 9)) := fun i hi => by
    obtain ⟨m, y, hy⟩ := hf i hi 9 _ rfl
    exact bool_all Tryd.underlying4 hy
  have g10 : ∀ i, i < n → val i 10 = .bool (vb (val i 10)) := fun i hi => by
    obtain ⟨m, y, hy⟩ := hf i hi 10 _ rfl
    exact bool_all Tryd.underlying4 hy
  have e : ((List.range n).flatMap fun i => (List.range 11).map (val i)) = ((List.range n).map fun i => kOf (val i)).flatMap kC := by
    rw [List.flatMap_map]
    refine fm_congr fun i hi => ?_
    have hi := List.mem_range.1 hi
    show [val i 0, val i 1, val i 2, val i 3, val i 4, val i 5, val i 6, val i 7, val i 8, val i 9, val i 10] = _
    rw [(g0 i hi).1, (g1 i hi).1, (g2 i hi).1, (g3 i hi).1, (g4 i hi).1, (g5 i hi).1, (g6 i hi).1, (g7 i hi).1, (g8 i hi).1, g9 i hi, g10 i hi]
    rfl
  refine ⟨⟨A, c⟩, (List.range n).map fun i => kOf (val i), by simp, ?_, hnil, by simpa using hc, hm, ?_⟩
  · rw [← e]; simpa using hr
  · intro x hx
    obtain ⟨i, hi, rfl⟩ := List.mem_map.1 hx
    have hi := List.mem_range.1 hi
    exact ⟨(g0 i hi).2, (g1 i hi).2, (g2 i hi).2, (g3 i hi).2, (g4 i hi).2, (g5 i hi).2, (g6 i hi).2, (g7 i hi).2, (g8 i hi).2⟩
set_option maxRecDepth 100000 in
theorem openKinds {H : Type} {enc : TypeId × Value → H} {w : World} {r : Reach} {b0 : Nat} {held : Bool} {v : Value} {d : DataW H} {p : List MemPlace} (hv : Value.okWide Tryd.prog w r b0 22 v)
    (h : DataW.Trod enc Tryd.prog w 0 (fun _ => true) held 22 v d p) : ∃ (x : SL × List GK), v = .slice x.1.A x.2.length x.1.c ∧ SLK w x.1 x.2 := by
  obtain ⟨a, len, cap, rfl⟩ := okWide_slice Tryd.underlying22 hv
  obtain ⟨fuel, hf⟩ := h
  have hf : DataW.trod enc Tryd.prog w 0 (fun _ => true) held fuel 22 [.slice a len cap] = some (d, p) := hf
  obtain ⟨s, xs, e, ok⟩ := slk_of hf
  exact ⟨(s, xs), e, ok⟩
end Go.Proofs.YtkgkpggfoieioaaDoor
