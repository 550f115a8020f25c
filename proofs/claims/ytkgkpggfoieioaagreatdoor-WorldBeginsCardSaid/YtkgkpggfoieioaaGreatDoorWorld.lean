import Derived.Test.YtkgkpggfoieioaaGreatDoorOpen
import Derived.Test.YtkgkpggfoieioaaGreatDoorPlainW
import Derived.Test.YtkgkpggfoieioaaGreatDoorSl
namespace Go.Proofs.YtkgkpggfoieioaaGreatDoor
set_option linter.unusedVariables false
open Go.ChangeShapes Go.WideShapes Go.RowKit Go.Deep
/-- A slice that holds a list: nil has no room. -/
def SLI (w : World) (s : SL) (xs : List Int) : Prop := RD w w.heap.size 1 s.A xs.length (xs.map (.int .i64)) ∧ (s.A = none → s.c = 0) ∧ xs.length ≤ s.c ∧ s.c ≤ maxLen ∧ ∀ x ∈ xs, I64 x
def SLU (w : World) (s : SL) (xs : List GU) : Prop := RD w w.heap.size 8 s.A xs.length (xs.flatMap uC) ∧ (s.A = none → s.c = 0) ∧ xs.length ≤ s.c ∧ s.c ≤ maxLen ∧ ∀ x ∈ xs, x.ok
def SLJ (w : World) (s : SL) (xs : List GJ) : Prop := RD w w.heap.size 4 s.A xs.length (xs.flatMap jC) ∧ (s.A = none → s.c = 0) ∧ xs.length ≤ s.c ∧ s.c ≤ maxLen ∧ ∀ x ∈ xs, x.ok
theorem sli_of {H : Type} {enc : TypeId × Value → H} {w : World} {held : Bool} {fuel : Nat} {v : Value} {x : DataW H × List MemPlace} (h : DataW.trod enc Tryz.prog w 0 (fun _ => true) held fuel 23 [v] = some x) :
    ∃ (s : SL) (xs : List Int), v = .slice s.A xs.length s.c ∧ SLI w s xs := by
  obtain ⟨A, n, c, xs, hcs, hn, hr, hw, hnil, hc, hm⟩ := opI Tryz.underlying23 Tryz.underlying3 (by kernel_rfl) h
  injection hcs with hcs
  subst hcs; subst hn
  exact ⟨⟨A, c⟩, xs, rfl, hr, hnil, hc, hm, fun x hx => i64_wf (hw x hx)⟩
theorem slu_of {H : Type} {enc : TypeId × Value → H} {w : World} {held : Bool} {fuel : Nat} {v : Value} {x : DataW H × List MemPlace} (h : DataW.trod enc Tryz.prog w 0 (fun _ => true) held fuel 26 [v] = some x) :
    ∃ (s : SL) (xs : List GU), v = .slice s.A xs.length s.c ∧ SLU w s xs := by
  obtain ⟨A, n, c, val, hcs, hnil, hc, hm, hf, hr⟩ := opV Tryz.underlying26 Tryz.underlying45 (by kernel_rfl) (by kernel_rfl) (by decide) h
  injection hcs with hcs
  subst hcs
  have g : ∀ i, i < n → ∀ j f, _ → val i j = .int .i64 (vi (val i j)) ∧ I64 (vi (val i j)) := fun i hi j f hj => by
    obtain ⟨m, y, hy⟩ := hf i hi j f hj
    have : f.type = 3 := by
      rcases j with _ | _ | _ | _ | _ | _ | _ | _ | j
      all_goals first | (injection hj with hj; subst hj; rfl) | (simp at hj)
    rw [this] at hy
    exact unit_all Tryz.underlying3 hy
  have e : ((List.range n).flatMap fun i => (List.range 8).map (val i)) = ((List.range n).map fun i => (⟨vi (val i 0), vi (val i 1), vi (val i 2), vi (val i 3), vi (val i 4), vi (val i 5), vi (val i 6), vi (val i 7)⟩ : GU)).flatMap uC := by
    rw [List.flatMap_map]
    refine fm_congr fun i hi => ?_
    have hi := List.mem_range.1 hi
    show [val i 0, val i 1, val i 2, val i 3, val i 4, val i 5, val i 6, val i 7] = _
    rw [(g i hi 0 _ rfl).1, (g i hi 1 _ rfl).1, (g i hi 2 _ rfl).1, (g i hi 3 _ rfl).1, (g i hi 4 _ rfl).1, (g i hi 5 _ rfl).1, (g i hi 6 _ rfl).1, (g i hi 7 _ rfl).1]
    rfl
  refine ⟨⟨A, c⟩, (List.range n).map fun i => ⟨vi (val i 0), vi (val i 1), vi (val i 2), vi (val i 3), vi (val i 4), vi (val i 5), vi (val i 6), vi (val i 7)⟩, by simp, ?_, hnil, by simpa using hc, hm, ?_⟩
  · rw [← e]; simpa using hr
  · intro x hx
    obtain ⟨i, hi, rfl⟩ := List.mem_map.1 hx
    have hi := List.mem_range.1 hi
    exact ⟨(g i hi 0 _ rfl).2, (g i hi 1 _ rfl).2, (g i hi 2 _ rfl).2, (g i hi 3 _ rfl).2, (g i hi 4 _ rfl).2, (g i hi 5 _ rfl).2, (g i hi 6 _ rfl).2, (g i hi 7 _ rfl).2⟩
theorem slj_of {H : Type} {enc : TypeId × Value → H} {w : World} {held : Bool} {fuel : Nat} {v : Value} {x : DataW H × List MemPlace} (h : DataW.trod enc Tryz.prog w 0 (fun _ => true) held fuel 27 [v] = some x) :
    ∃ (s : SL) (xs : List GJ), v = .slice s.A xs.length s.c ∧ SLJ w s xs := by
  obtain ⟨A, n, c, val, hcs, hnil, hc, hm, hf, hr⟩ := opV Tryz.underlying27 Tryz.underlying71 (by kernel_rfl) (by kernel_rfl) (by decide) h
  injection hcs with hcs
  subst hcs
  have g : ∀ i, i < n → ∀ j f, _ → val i j = .int .i64 (vi (val i j)) ∧ I64 (vi (val i j)) := fun i hi j f hj => by
    obtain ⟨m, y, hy⟩ := hf i hi j f hj
    have : f.type = 3 := by
      rcases j with _ | _ | _ | _ | j
      all_goals first | (injection hj with hj; subst hj; rfl) | (simp at hj)
    rw [this] at hy
    exact unit_all Tryz.underlying3 hy
  have e : ((List.range n).flatMap fun i => (List.range 4).map (val i)) = ((List.range n).map fun i => (⟨vi (val i 0), vi (val i 1), vi (val i 2), vi (val i 3)⟩ : GJ)).flatMap jC := by
    rw [List.flatMap_map]
    refine fm_congr fun i hi => ?_
    have hi := List.mem_range.1 hi
    show [val i 0, val i 1, val i 2, val i 3] = _
    rw [(g i hi 0 _ rfl).1, (g i hi 1 _ rfl).1, (g i hi 2 _ rfl).1, (g i hi 3 _ rfl).1]
    rfl
  refine ⟨⟨A, c⟩, (List.range n).map fun i => ⟨vi (val i 0), vi (val i 1), vi (val i 2), vi (val i 3)⟩, by simp, ?_, hnil, by simpa using hc, hm, ?_⟩
  · rw [← e]; simpa using hr
  · intro x hx
    obtain ⟨i, hi, rfl⟩ := List.mem_map.1 hx
    have hi := List.mem_range.1 hi
    exact ⟨(g i hi 0 _ rfl).2, (g i hi 1 _ rfl).2, (g i hi 2 _ rfl).2, (g i hi 3 _ rfl).2⟩
/-- A field, and a world, by value: the numbers, and the slices of its lists. -/
structure SF where
  ground : SL
  ore : SL
structure SW where
  field : SF
  gold : SL
  units : SL
  queue : SL
def fV (s : SF) (f : GF) : List Value := [.int .i64 f.wide, .int .i64 f.high, .slice s.ground.A f.ground.length s.ground.c, .slice s.ore.A f.ore.length s.ore.c]
def FOk (w : World) (s : SF) (f : GF) : Prop := I64 f.wide ∧ I64 f.high ∧ SLI w s.ground f.ground ∧ SLI w s.ore f.ore
def wV (s : SW) (x : GW) : List Value := [.int .i64 x.turn, .int .i64 x.next, .int .i64 x.field.wide, .int .i64 x.field.high, .slice s.field.ground.A x.field.ground.length s.field.ground.c, .slice s.field.ore.A x.field.ore.length s.field.ore.c,
  .slice s.gold.A x.gold.length s.gold.c, .slice s.units.A x.units.length s.units.c, .slice s.queue.A x.queue.length s.queue.c]
def WOk (w : World) (s : SW) (x : GW) : Prop := I64 x.turn ∧ I64 x.next ∧ FOk w s.field x.field ∧ SLI w s.gold x.gold ∧ SLU w s.units x.units ∧ SLJ w s.queue x.queue
theorem field_of {H : Type} {enc : TypeId × Value → H} {w : World} {held : Bool} {fuel : Nat} {v0 v1 v2 v3 : Value} {x : DataW H × List MemPlace} (h : DataW.trod enc Tryz.prog w 0 (fun _ => true) held fuel 25 [v0, v1, v2, v3] = some x) :
    ∃ (s : SF) (f : GF), [v0, v1, v2, v3] = fV s f ∧ FOk w s f := by
  have c1 : Tryz.prog.cellsOf 3 = 1 := by kernel_rfl
  have c2 : Tryz.prog.cellsOf 23 = 1 := by kernel_rfl
  obtain ⟨_, _, f0⟩ := trod_fld Tryz.underlying25 h 0 0 3 1 rfl c1
  obtain ⟨_, _, f1⟩ := trod_fld Tryz.underlying25 h 1 1 3 1 rfl c1
  obtain ⟨_, _, f2⟩ := trod_fld Tryz.underlying25 h 2 2 23 1 rfl c2
  obtain ⟨_, _, f3⟩ := trod_fld Tryz.underlying25 h 3 3 23 1 rfl c2
  obtain ⟨e0, r0⟩ := unit_all (P := Tryz.prog) (v := v0) Tryz.underlying3 f0
  obtain ⟨e1, r1⟩ := unit_all (P := Tryz.prog) (v := v1) Tryz.underlying3 f1
  obtain ⟨s2, g2, e2, r2⟩ := sli_of (v := v2) f2
  obtain ⟨s3, g3, e3, r3⟩ := sli_of (v := v3) f3
  subst e2; subst e3
  exact ⟨⟨s2, s3⟩, ⟨vi v0, vi v1, g2, g3⟩, by rw [e0, e1]; rfl, r0, r1, r2, r3⟩
set_option maxRecDepth 100000 in
theorem openField {H : Type} {enc : TypeId × Value → H} {w : World} {r : Reach} {b0 : Nat} {held : Bool} {v : Value} {d : DataW H} {p : List MemPlace} (hv : Value.okWide Tryz.prog w r b0 25 v)
    (h : DataW.Trod enc Tryz.prog w 0 (fun _ => true) held 25 v d p) : ∃ (x : SF × GF), v = .agg (fV x.1 x.2).toArray ∧ FOk w x.1 x.2 := by
  obtain ⟨cs, rfl, hsz⟩ := okWide_struct Tryz.underlying25 hv
  obtain ⟨l⟩ := cs
  have hl : l.length = 4 := hsz.trans (by kernel_rfl)
  match l, hl with
  | [v0, v1, v2, v3], _ =>
    obtain ⟨fuel, hf⟩ := h
    obtain ⟨s, f, e, ok⟩ := field_of hf
    exact ⟨(s, f), by rw [← e], ok⟩
theorem world_of {H : Type} {enc : TypeId × Value → H} {w : World} {held : Bool} {fuel : Nat} {v0 v1 v2 v3 v4 v5 v6 v7 v8 : Value} {x : DataW H × List MemPlace} (h : DataW.trod enc Tryz.prog w 0 (fun _ => true) held fuel 29 [v0, v1, v2, v3, v4, v5, v6, v7, v8] = some x) :
    ∃ (s : SW) (f : GW), [v0, v1, v2, v3, v4, v5, v6, v7, v8] = wV s f ∧ WOk w s f := by
  have c1 : Tryz.prog.cellsOf 3 = 1 := by kernel_rfl
  have c2 : Tryz.prog.cellsOf 23 = 1 := by kernel_rfl
  have c3 : Tryz.prog.cellsOf 25 = 4 := by kernel_rfl
  have c4 : Tryz.prog.cellsOf 26 = 1 := by kernel_rfl
  have c5 : Tryz.prog.cellsOf 27 = 1 := by kernel_rfl
  obtain ⟨_, _, f0⟩ := trod_fld Tryz.underlying29 h 0 0 3 1 rfl c1
  obtain ⟨_, _, f1⟩ := trod_fld Tryz.underlying29 h 1 1 3 1 rfl c1
  obtain ⟨_, _, f2⟩ := trod_fld Tryz.underlying29 h 2 2 25 4 rfl c3
  obtain ⟨_, _, f3⟩ := trod_fld Tryz.underlying29 h 3 6 23 1 rfl c2
  obtain ⟨_, _, f4⟩ := trod_fld Tryz.underlying29 h 4 7 26 1 rfl c4
  obtain ⟨_, _, f5⟩ := trod_fld Tryz.underlying29 h 5 8 27 1 rfl c5
  obtain ⟨e0, r0⟩ := unit_all (P := Tryz.prog) (v := v0) Tryz.underlying3 f0
  obtain ⟨e1, r1⟩ := unit_all (P := Tryz.prog) (v := v1) Tryz.underlying3 f1
  obtain ⟨s2, g2, e2, r2⟩ := field_of (v0 := v2) (v1 := v3) (v2 := v4) (v3 := v5) f2
  obtain ⟨s3, g3, e3, r3⟩ := sli_of (v := v6) f3
  obtain ⟨s4, g4, e4, r4⟩ := slu_of (v := v7) f4
  obtain ⟨s5, g5, e5, r5⟩ := slj_of (v := v8) f5
  simp only [fV, List.cons.injEq, and_true] at e2
  obtain ⟨rfl, rfl, rfl, rfl⟩ := e2
  subst e3; subst e4; subst e5
  exact ⟨⟨s2, s3, s4, s5⟩, ⟨vi v0, vi v1, g2, g3, g4, g5⟩, by rw [e0, e1]; rfl, r0, r1, r2, r3, r4, r5⟩
set_option maxRecDepth 100000 in
theorem openWorld {H : Type} {enc : TypeId × Value → H} {w : World} {r : Reach} {b0 : Nat} {held : Bool} {v : Value} {d : DataW H} {p : List MemPlace} (hv : Value.okWide Tryz.prog w r b0 29 v)
    (h : DataW.Trod enc Tryz.prog w 0 (fun _ => true) held 29 v d p) : ∃ (x : SW × GW), v = .agg (wV x.1 x.2).toArray ∧ WOk w x.1 x.2 := by
  obtain ⟨cs, rfl, hsz⟩ := okWide_struct Tryz.underlying29 hv
  obtain ⟨l⟩ := cs
  have hl : l.length = 9 := hsz.trans (by kernel_rfl)
  match l, hl with
  | [v0, v1, v2, v3, v4, v5, v6, v7, v8], _ =>
    obtain ⟨fuel, hf⟩ := h
    obtain ⟨s, f, e, ok⟩ := world_of hf
    exact ⟨(s, f), by rw [← e], ok⟩
end Go.Proofs.YtkgkpggfoieioaaGreatDoor
