import Derived.Test.YtkgkpggfoieioaaGreatDoorMrgb
import Derived.Test.YtkgkpggfoieioaaGreatDoorMrga
import Derived.Maps.AppendAt
import Derived.WalkKit
import Derived.WalkLawsBesides
import Derived.Outline
import Derived.OwnWalk
import Derived.BigQuiet
import Derived.IntWalk
import Derived.Deep.QuietTactic
import Derived.Deep.DeepCutAuto
import Derived.Deep.DeepFit
import Derived.Deep.DeepMust
import Derived.Lib.Hide
namespace Go.Proofs.YtkgkpggfoieioaaGreatDoor
set_option linter.unusedVariables false
open Go.ChangeShapes Go.WideShapes Go.RowKit Go.Deep
/-- A slice that holds a list: nil has no room. -/
def SLI (w : World) (s : SL) (xs : List Int) : Prop := RD w w.heap.size 1 s.A xs.length (xs.map (.int .i64)) ∧ (s.A = none → s.c = 0) ∧ xs.length ≤ s.c ∧ s.c ≤ maxLen ∧ ∀ x ∈ xs, I64 x
def SLU (w : World) (s : SL) (xs : List GU) : Prop := RD w w.heap.size 8 s.A xs.length (xs.flatMap uC) ∧ (s.A = none → s.c = 0) ∧ xs.length ≤ s.c ∧ s.c ≤ maxLen ∧ ∀ x ∈ xs, x.ok
def SLJ (w : World) (s : SL) (xs : List GJ) : Prop := RD w w.heap.size 4 s.A xs.length (xs.flatMap jC) ∧ (s.A = none → s.c = 0) ∧ xs.length ≤ s.c ∧ s.c ≤ maxLen ∧ ∀ x ∈ xs, x.ok
theorem sli_of {H : Type} {enc : TypeId × Value → H} {w : World} {held : Bool} {fuel : Nat} {v : Value} {x : DataW H × List MemPlace} (h : DataW.trod enc Tryz.prog w 0 (fun _ => true) held fuel 23 [v] = some x) :
    ∃ (s : SL) (xs : List Int), v = .slice s.A xs.length s.c ∧ SLI w s xs := by
  obtain ⟨A, n, c, xs, hcs, hn, hr, hw, hnil, hc, hm⟩ := opI Tryz.underlying23 Tryz.underlying3 (by kernel_rfl) h
  injection hcs with hcs
  subst hcs; subst hn
  exact ⟨⟨A, c⟩, xs, rfl, hr, hnil, hc, hm, fun x hx => i64_wf (hw x hx)⟩
theorem slu_of {H : Type} {enc : TypeId × Value → H} {w : World} {held : Bool} {fuel : Nat} {v : Value} {x : DataW H × List MemPlace} (h : DataW.trod enc Tryz.prog w 0 (fun _ => true) held fuel 26 [v] = some x) :
    ∃ (s : SL) (xs : List GU), v = .slice s.A xs.length s.c ∧ SLU w s xs := by
  obtain ⟨A, n, c, val, hcs, hnil, hc, hm, hf, hr⟩ := opV Tryz.underlying26 Tryz.underlying45 (by kernel_rfl) (by kernel_rfl) (by decide) h
  injection hcs with hcs
  subst hcs
  have g : ∀ i, i < n → ∀ j f, _ → val i j = .int .i64 (vi (val i j)) ∧ I64 (vi (val i j)) := fun i hi j f hj => by
    obtain ⟨m, y, hy⟩ := hf i hi j f hj
    have : f.type = 3 := by
      rcases j with _ | _ | _ | _ | _ | _ | _ | _ | j
      all_goals first | (injection hj with hj; subst hj; rfl) | (simp at hj)
    rw [this] at hy
    exact unit_all Tryz.underlying3 hy
  have e : ((List.range n).flatMap fun i => (List.range 8).map (val i)) = ((List.range n).map fun i => (⟨vi (val i 0), vi (val i 1), vi (val i 2), vi (val i 3), vi (val i 4), vi (val i 5), vi (val i 6), vi (val i 7)⟩ : GU)).flatMap uC := by
    rw [List.flatMap_map]
    refine fm_congr fun i hi => ?_
    have hi := List.mem_range.1 hi
    show [val i 0, val i 1, val i 2, val i 3, val i 4, val i 5, val i 6, val i 7] = _
    rw [(g i hi 0 _ rfl).1, (g i hi 1 _ rfl).1, (g i hi 2 _ rfl).1, (g i hi 3 _ rfl).1, (g i hi 4 _ rfl).1, (g i hi 5 _ rfl).1, (g i hi 6 _ rfl).1, (g i hi 7 _ rfl).1]
    rfl
  refine ⟨⟨A, c⟩, (List.range n).map fun i => ⟨vi (val i 0), vi (val i 1), vi (val i 2), vi (val i 3), vi (val i 4), vi (val i 5), vi (val i 6), vi (val i 7)⟩, by simp, ?_, hnil, by simpa using hc, hm, ?_⟩
  · rw [← e]; simpa using hr
  · intro x hx
    obtain ⟨i, hi, rfl⟩ := List.mem_map.1 hx
    have hi := List.mem_range.1 hi
    exact ⟨(g i hi 0 _ rfl).2, (g i hi 1 _ rfl).2, (g i hi 2 _ rfl).2, (g i hi 3 _ rfl).2, (g i hi 4 _ rfl).2, (g i hi 5 _ rfl).2, (g i hi 6 _ rfl).2, (g i hi 7 _ rfl).2⟩
theorem slj_of {H : Type} {enc : TypeId × Value → H} {w : World} {held : Bool} {fuel : Nat} {v : Value} {x : DataW H × List MemPlace} (h : DataW.trod enc Tryz.prog w 0 (fun _ => true) held fuel 27 [v] = some x) :
    ∃ (s : SL) (xs : List GJ), v = .slice s.A xs.length s.c ∧ SLJ w s xs := by
  obtain ⟨A, n, c, val, hcs, hnil, hc, hm, hf, hr⟩ := opV Tryz.underlying27 Tryz.underlying71 (by kernel_rfl) (by kernel_rfl) (by decide) h
  injection hcs with hcs
  subst hcs
  have g : ∀ i, i < n → ∀ j f, _ → val i j = .int .i64 (vi (val i j)) ∧ I64 (vi (val i j)) := fun i hi j f hj => by
    obtain ⟨m, y, hy⟩ := hf i hi j f hj
    have : f.type = 3 := by
      rcases j with _ | _ | _ | _ | j
      all_goals first | (injection hj with hj; subst hj; rfl) | (simp at hj)
    rw [this] at hy
    exact unit_all Tryz.underlying3 hy
  have e : ((List.range n).flatMap fun i => (List.range 4).map (val i)) = ((List.range n).map fun i => (⟨vi (val i 0), vi (val i 1), vi (val i 2), vi (val i 3)⟩ : GJ)).flatMap jC := by
    rw [List.flatMap_map]
    refine fm_congr fun i hi => ?_
    have hi := List.mem_range.1 hi
    show [val i 0, val i 1, val i 2, val i 3] = _
    rw [(g i hi 0 _ rfl).1, (g i hi 1 _ rfl).1, (g i hi 2 _ rfl).1, (g i hi 3 _ rfl).1]
    rfl
  refine ⟨⟨A, c⟩, (List.range n).map fun i => ⟨vi (val i 0), vi (val i 1), vi (val i 2), vi (val i 3)⟩, by simp, ?_, hnil, by simpa using hc, hm, ?_⟩
  · rw [← e]; simpa using hr
  · intro x hx
    obtain ⟨i, hi, rfl⟩ := List.mem_map.1 hx
    have hi := List.mem_range.1 hi
    exact ⟨(g i hi 0 _ rfl).2, (g i hi 1 _ rfl).2, (g i hi 2 _ rfl).2, (g i hi 3 _ rfl).2⟩
/-- A field, and a world, by value: the numbers, and the slices of its lists. -/
structure SF where
  ground : SL
  ore : SL
structure SW where
  field : SF
  gold : SL
  units : SL
  queue : SL
def fV (s : SF) (f : GF) : List Value := [.int .i64 f.wide, .int .i64 f.high, .slice s.ground.A f.ground.length s.ground.c, .slice s.ore.A f.ore.length s.ore.c]
def FOk (w : World) (s : SF) (f : GF) : Prop := I64 f.wide ∧ I64 f.high ∧ SLI w s.ground f.ground ∧ SLI w s.ore f.ore
def wV (s : SW) (x : GW) : List Value := [.int .i64 x.turn, .int .i64 x.next, .int .i64 x.field.wide, .int .i64 x.field.high, .slice s.field.ground.A x.field.ground.length s.field.ground.c, .slice s.field.ore.A x.field.ore.length s.field.ore.c,
  .slice s.gold.A x.gold.length s.gold.c, .slice s.units.A x.units.length s.units.c, .slice s.queue.A x.queue.length s.queue.c]
def WOk (w : World) (s : SW) (x : GW) : Prop := I64 x.turn ∧ I64 x.next ∧ FOk w s.field x.field ∧ SLI w s.gold x.gold ∧ SLU w s.units x.units ∧ SLJ w s.queue x.queue
theorem field_of {H : Type} {enc : TypeId × Value → H} {w : World} {held : Bool} {fuel : Nat} {v0 v1 v2 v3 : Value} {x : DataW H × List MemPlace} (h : DataW.trod enc Tryz.prog w 0 (fun _ => true) held fuel 25 [v0, v1, v2, v3] = some x) :
    ∃ (s : SF) (f : GF), [v0, v1, v2, v3] = fV s f ∧ FOk w s f := by
  have c1 : Tryz.prog.cellsOf 3 = 1 := by kernel_rfl
  have c2 : Tryz.prog.cellsOf 23 = 1 := by kernel_rfl
  obtain ⟨_, _, f0⟩ := trod_fld Tryz.underlying25 h 0 0 3 1 rfl c1
  obtain ⟨_, _, f1⟩ := trod_fld Tryz.underlying25 h 1 1 3 1 rfl c1
  obtain ⟨_, _, f2⟩ := trod_fld Tryz.underlying25 h 2 2 23 1 rfl c2
  obtain ⟨_, _, f3⟩ := trod_fld Tryz.underlying25 h 3 3 23 1 rfl c2
  obtain ⟨e0, r0⟩ := unit_all (P := Tryz.prog) (v := v0) Tryz.underlying3 f0
  obtain ⟨e1, r1⟩ := unit_all (P := Tryz.prog) (v := v1) Tryz.underlying3 f1
  obtain ⟨s2, g2, e2, r2⟩ := sli_of (v := v2) f2
  obtain ⟨s3, g3, e3, r3⟩ := sli_of (v := v3) f3
  subst e2; subst e3
  exact ⟨⟨s2, s3⟩, ⟨vi v0, vi v1, g2, g3⟩, by rw [e0, e1]; rfl, r0, r1, r2, r3⟩
set_option maxRecDepth 100000 in
theorem openField {H : Type} {enc : TypeId × Value → H} {w : World} {r : Reach} {b0 : Nat} {held : Bool} {v : Value} {d : DataW H} {p : List MemPlace} (hv : Value.okWide Tryz.prog w r b0 25 v)
    (h : DataW.Trod enc Tryz.prog w 0 (fun _ => true) held 25 v d p) : ∃ (x : SF × GF), v = .agg (fV x.1 x.2).toArray ∧ FOk w x.1 x.2 := by
  obtain ⟨cs, rfl, hsz⟩ := okWide_struct Tryz.underlying25 hv
  obtain ⟨l⟩ := cs
  have hl : l.length = 4 := hsz.trans (by kernel_rfl)
  match l, hl with
  | [v0, v1, v2, v3], _ =>
    obtain ⟨fuel, hf⟩ := h
    obtain ⟨s, f, e, ok⟩ := field_of hf
    exact ⟨(s, f), by rw [← e], ok⟩
theorem world_of {H : Type} {enc : TypeId × Value → H} {w : World} {held : Bool} {fuel : Nat} {v0 v1 v2 v3 v4 v5 v6 v7 v8 : Value} {x : DataW H × List MemPlace} (h : DataW.trod enc Tryz.prog w 0 (fun _ => true) held fuel 29 [v0, v1, v2, v3, v4, v5, v6, v7, v8] = some x) :
    ∃ (s : SW) (f : GW), [v0, v1, v2, v3, v4, v5, v6, v7, v8] = wV s f ∧ WOk w s f := by
  have c1 : Tryz.prog.cellsOf 3 = 1 := by kernel_rfl
  have c2 : Tryz.prog.cellsOf 23 = 1 := by kernel_rfl
  have c3 : Tryz.prog.cellsOf 25 = 4 := by kernel_rfl
  have c4 : Tryz.prog.cellsOf 26 = 1 := by kernel_rfl
  have c5 : Tryz.prog.cellsOf 27 = 1 := by kernel_rfl
  obtain ⟨_, _, f0⟩ := trod_fld Tryz.underlying29 h 0 0 3 1 rfl c1
  obtain ⟨_, _, f1⟩ := trod_fld Tryz.underlying29 h 1 1 3 1 rfl c1
  obtain ⟨_, _, f2⟩ := trod_fld Tryz.underlying29 h 2 2 25 4 rfl c3
  obtain ⟨_, _, f3⟩ := trod_fld Tryz.underlying29 h 3 6 23 1 rfl c2
  obtain ⟨_, _, f4⟩ := trod_fld Tryz.underlying29 h 4 7 26 1 rfl c4
  obtain ⟨_, _, f5⟩ := trod_fld Tryz.underlying29 h 5 8 27 1 rfl c5
  obtain ⟨e0, r0⟩ := unit_all (P := Tryz.prog) (v := v0) Tryz.underlying3 f0
  obtain ⟨e1, r1⟩ := unit_all (P := Tryz.prog) (v := v1) Tryz.underlying3 f1
  obtain ⟨s2, g2, e2, r2⟩ := field_of (v0 := v2) (v1 := v3) (v2 := v4) (v3 := v5) f2
  obtain ⟨s3, g3, e3, r3⟩ := sli_of (v := v6) f3
  obtain ⟨s4, g4, e4, r4⟩ := slu_of (v := v7) f4
  obtain ⟨s5, g5, e5, r5⟩ := slj_of (v := v8) f5
  simp only [fV, List.cons.injEq, and_true] at e2
  obtain ⟨rfl, rfl, rfl, rfl⟩ := e2
  subst e3; subst e4; subst e5
  exact ⟨⟨s2, s3, s4, s5⟩, ⟨vi v0, vi v1, g2, g3, g4, g5⟩, by rw [e0, e1]; rfl, r0, r1, r2, r3, r4, r5⟩
set_option maxRecDepth 100000 in
theorem openWorld {H : Type} {enc : TypeId × Value → H} {w : World} {r : Reach} {b0 : Nat} {held : Bool} {v : Value} {d : DataW H} {p : List MemPlace} (hv : Value.okWide Tryz.prog w r b0 29 v)
    (h : DataW.Trod enc Tryz.prog w 0 (fun _ => true) held 29 v d p) : ∃ (x : SW × GW), v = .agg (wV x.1 x.2).toArray ∧ WOk w x.1 x.2 := by
  obtain ⟨cs, rfl, hsz⟩ := okWide_struct Tryz.underlying29 hv
  obtain ⟨l⟩ := cs
  have hl : l.length = 9 := hsz.trans (by kernel_rfl)
  match l, hl with
  | [v0, v1, v2, v3, v4, v5, v6, v7, v8], _ =>
    obtain ⟨fuel, hf⟩ := h
    obtain ⟨s, f, e, ok⟩ := world_of hf
    exact ⟨(s, f), by rw [← e], ok⟩
end Go.Proofs.YtkgkpggfoieioaaGreatDoor
namespace Go.Proofs.YtkgkpggfoieioaaGreatDoor
set_option linter.unusedVariables false
open Go.RowKit
/-- Where a row lies behind a step: where it lay, or in a new block. -/
def At (w : World) (r r' : Option Nat) : Prop := r' = r ∨ ∃ g, r' = some g ∧ w.heap.size ≤ g
theorem At.refl (w : World) (r : Option Nat) : At w r r := .inl rfl
theorem At.trans {a b : World} {r r' r'' : Option Nat} (h : At a r r') (k : At b r' r'') (hs : a.heap.size ≤ b.heap.size) : At a r r'' := by
  rcases k with rfl | ⟨g, rfl, hg⟩
  · exact h
  · exact .inr ⟨g, rfl, by omega⟩
theorem grown_at {a b c : World} {r r' : Option Nat} (h : a.grownBy b r) (k : b.grownBy c r') (hr : At a r r') : a.grownBy c r :=
  ⟨k.os.trans h.os, k.tape.trans h.tape, k.output.trans h.output, Nat.le_trans h.size k.size, fun x hx hne => (k.block x (Nat.lt_of_lt_of_le hx h.size) (by
    rcases hr with rfl | ⟨g, rfl, hg⟩
    · exact hne
    · intro e; injection e with e; omega)).trans (h.block x hx hne)⟩
theorem grown_below {a b : World} {B : Nat} {r : Option Nat} (h : a.grownBy b r) (hB : B ≤ a.heap.size) (hr : ∀ g, r = some g → B ≤ g) : Below B a b :=
  ⟨h.os, h.tape, h.output, h.size, fun k hk => h.block k (by omega) (fun e => by have := hr k e.symm; omega)⟩
theorem grown_drewN {a b : World} {r : Option Nat} (h : a.grownBy b r) (n : Nat) : a.grownBy (b.drewN n) r := ⟨h.os, h.tape, h.output, h.size, h.block⟩
/-- append of one element that was just boxed, and where the row lies then. -/
theorem wpList_app1a {P : Program} {ops : Array Oper} {rest : List Oper} {o : Oper} {a : Act} {Q : Exit → Act → World → Prop} (hgd : o.guard = none) (s x : Operand) (t : TypeId)
    (ho : o.op = .call { callee := .builtin .append, args := #[s, x], argTypes := #[t, t] })
    (base : Nat) (e : TypeId) (i : TypeInfo) (z : Value) (size bytes : Nat) (ht : P.underlying t = some (.slice e)) (hi : P.info? e = some i) (hz : i.zero = some z)
    (hsize : i.size = size) (hby : i.bytes = bytes) (hzs : z.cells.size = size) (hsz : 0 < size) (hb24 : bytes ≤ 1000)
    (w0 : World) (cs : Array Value) (v : Value) (n : Nat) (xs : List Value) (hs : a.eval s = v) (hown : w0.ownsRow base e size v n xs)
    (hx : a.eval x = .slice (some ⟨w0.heap.size, 0, none⟩) 1 1) (hcs : cs.size = size) (h1 : cs.toList.all (·.oneCell') = true) (hn : n < 10000000000) (hbase : base ≤ w0.heap.size)
    (h : ∀ v' w', w'.ownsRow base e size v' (n + 1) (xs ++ cs.toList) → w0.grownBy w' v.ownBlock → At w0 v.ownBlock v'.ownBlock → wpList P ops Q rest (a.put o.dst v') w') : wpList P ops Q (o :: rest) a (w0.alloc (.cells cs e)) := by
  have hmul : (n + 1) * bytes ≤ 10000000000 * 1000 := Nat.mul_le_mul (by omega) hb24
  refine wpList_append_own_at _ hgd s x t ho base e i z size bytes ht hi hz hsize hby hzs hsz v n xs hs (hown.alloc _) ⟨w0.heap.size, 0, none⟩ 1 1 cs.toList hx (by simp [hcs]) ?_ (List.all_eq_true.1 h1) (by unfold maxLen; omega) (by omega) (by simp; omega) ?_
  · intro j u hu
    have hc := (Blk.new w0 e cs).cell j
    rw [show ((⟨w0.heap.size, 0, none⟩ : Addr).add j) = ⟨w0.heap.size, j, none⟩ from by unfold Addr.add; split <;> simp_all]
    rw [hc, ← hu]; simp
  · intro v' w' h2 h3 _ h5
    refine h v' w' h2 (grownBy_trans (World.grownBy_alloc w0 _ _) h3) ?_
    rcases h5 with h5 | h5
    · exact .inl h5
    · exact .inr ⟨_, h5, by simp⟩
/-- append of what reads as a list, and where the row lies then. -/
theorem wpList_append_rda {P : Program} {ops : Array Oper} {rest : List Oper} {o : Oper} {a : Act} {Q : Exit → Act → World → Prop} (hgd : o.guard = none) (s x : Operand) (t : TypeId)
    (ho : o.op = .call { callee := .builtin .append, args := #[s, x], argTypes := #[t, t] })
    (base : Nat) (e : TypeId) (i : TypeInfo) (z : Value) (size bytes : Nat) (ht : P.underlying t = some (.slice e)) (hi : P.info? e = some i) (hz : i.zero = some z)
    (hsize : i.size = size) (hby : i.bytes = bytes) (hzs : z.cells.size = size) (hsz : 0 < size)
    (w : World) (v : Value) (n : Nat) (xs : List Value) (hs : a.eval s = v) (hown : w.ownsRow base e size v n xs)
    (B : Nat) (A : Option Addr) (m c : Nat) (news : List Value) (hx : a.eval x = .slice A m c) (hnil : A = none → c = 0) (hr : RD w B size A m news) (h1 : news.all (·.oneCell') = true)
    (h63 : n + m ≤ maxLen) (hbytes : (n + m) * bytes ≤ 140737488355328) (hbase : base ≤ w.heap.size)
    (h : ∀ v' w', w'.ownsRow base e size v' (n + m) (xs ++ news) → w.grownBy w' v.ownBlock → At w v.ownBlock v'.ownBlock → wpList P ops Q rest (a.put o.dst v') w') : wpList P ops Q (o :: rest) a w := by
  rcases A with _ | ad
  · have hm : m = 0 := by
      rcases Nat.eq_zero_or_pos m with h0 | h0
      · exact h0
      · obtain ⟨b, off, e, _⟩ := hr.2 h0
        cases e
    subst hm
    have hc := hnil rfl
    subst hc
    have hn : news = [] := List.eq_nil_of_length_eq_zero (by simpa using hr.1)
    subst hn
    refine wpList_append_own_none hgd s x t ho base e i size ht hi v n xs hs hown hx (h v w ?_ (World.grownBy.refl w _) (.inl rfl))
    simpa using hown
  · refine wpList_append_own_at _ hgd s x t ho base e i z size bytes ht hi hz hsize hby hzs hsz v n xs hs hown ad m c news hx hr.1 ?_ (List.all_eq_true.1 h1) h63 hbytes hbase (fun v' w' h2 h3 _ h5 => h v' w' h2 h3 ?_)
    · intro j u hu
      have hj : j < m * size := by
        rw [← hr.1]
        rcases Nat.lt_or_ge j news.length with h | h
        · exact h
        · rw [List.getElem?_eq_none h] at hu; cases hu
      have hm : 0 < m := by
        rcases Nat.eq_zero_or_pos m with h0 | h0
        · subst h0; omega
        · exact h0
      obtain ⟨b, off, e, _, hc⟩ := hr.2 hm
      injection e with e
      subst e
      rw [addr_add, hc j hj, hu]
    · rcases h5 with h5 | h5
      · exact .inl h5
      · exact .inr ⟨_, h5, Nat.le_refl _⟩
end Go.Proofs.YtkgkpggfoieioaaGreatDoor
namespace Go.Proofs.YtkgkpggfoieioaaGreatDoor
set_option linter.unusedVariables false
open Go.RowKit
def erE (n : Int) : Value := .iface 65 (.int .i64 n)
def errV (n : Int) : Value := if n = 0 then .nilIface else erE n
def fA (s : SF) (f : GF) : Value := .agg #[.int .i64 f.wide, .int .i64 f.high, .slice s.ground.A f.ground.length s.ground.c, .slice s.ore.A f.ore.length s.ore.c]
theorem SLI.below {w w' : World} {s : SL} {xs : List Int} (h : SLI w s xs) (hb : Below w.heap.size w w') : SLI w' s xs := ⟨(h.1.below hb).more hb.size, h.2⟩
theorem SLI.drewN {w : World} {s : SL} {xs : List Int} (h : SLI w s xs) (n : Nat) : SLI (w.drewN n) s xs := h
theorem FOk.below {w w' : World} {s : SF} {f : GF} (h : FOk w s f) (hb : Below w.heap.size w w') : FOk w' s f := ⟨h.1, h.2.1, h.2.2.1.below hb, h.2.2.2.below hb⟩
theorem FOk.drewN {w : World} {s : SF} {f : GF} (h : FOk w s f) (n : Nat) : FOk (w.drewN n) s f := h
theorem SLI.at_ {w : World} {s : SL} {xs : List Int} (h : SLI w s xs) {k : Nat} (hk : k < xs.length) : ∃ b o, s.A = some ⟨b, o, none⟩ ∧ w.cell? ⟨b, o + k, none⟩ = some (.int .i64 (xs.getD k 0)) ∧ b < w.heap.size := by
  obtain ⟨b, o, hA, hb⟩ := h.1.addr (by omega)
  refine ⟨b, o, hA, ?_, hb⟩
  rw [h.1.at_ hA (by omega), List.getElem?_map, List.getD_eq_getElem?_getD, List.getElem?_eq_getElem hk]; rfl
theorem side_any (n : Int) (w : World) :
    Calls Tryz.prog 55 #[.int .i64 n] w fun e w' => e = .returned (.bool (sideB n)) ∧ w = w' := by
  have hs : sideB n = (decide (1 ≤ n) && decide (n ≤ 12)) := by unfold sideB; rw [Bool.eq_iff_iff]; simp
  rw [hs]
  clear hs
  go_enter Tryz.func55, Tryz.ntmps55
  by_cases h1 : 1 ≤ n
  · go_wp2
    go_ret
    exact ⟨by simp; omega, rfl⟩
  · go_wp2
    go_ret
    exact ⟨by simp; omega, rfl⟩
theorem numb_any (n : Int) (w : World) :
    Calls Tryz.prog 32 #[.int .i64 n] w fun e w' => e = .returned (.bool (numB n)) ∧ w = w' := by
  have hs : numB n = (decide (0 ≤ n) && decide (n ≤ 1000000)) := by unfold numB; rw [Bool.eq_iff_iff]; simp
  rw [hs]
  clear hs
  go_enter Tryz.func32, Tryz.ntmps32
  by_cases h1 : 0 ≤ n
  · go_wp2
    go_ret
    exact ⟨by simp; omega, rfl⟩
  · go_wp2
    go_ret
    exact ⟨by simp; omega, rfl⟩
set_option maxHeartbeats 1600000 in
set_option maxRecDepth 100000 in
theorem fcheck_loop (s : SF) (f : GF) (w : World) (h : FOk w s f) (hw : sideB f.wide = true) (hh : sideB f.high = true) (hg : (f.ground.length : Int) = f.wide * f.high) (ho : (f.ore.length : Int) = f.wide * f.high) :
    Calls Tryz.prog 30 #[fA s f] w fun e w' => e = .returned (errV (fieldE f)) ∧ Below w.heap.size w w' := by
  have hE : fieldE f = cellsE f.ground f.ore := by unfold fieldE; rw [if_neg (by rw [hw, hh]; simp), if_neg (by omega)]
  rw [hE]
  have hq : ((f.ground.length : Int) != f.wide * f.high) = false := by simp [hg]
  have hq2 : ((f.ore.length : Int) != f.wide * f.high) = false := by simp [ho]
  have hll : f.ore.length = f.ground.length := by omega
  have hwb := sideB_t hw
  have hhb := sideB_t hh
  have hm1 : f.wide * f.high ≤ 144 := mul_le_of (c := 12) (d := 12) (by omega) hwb.2 (by omega) hhb.2
  have hm0 : 0 ≤ f.wide * f.high := Int.mul_nonneg (by omega) (by omega)
  have hlen : f.ground.length ≤ 144 := by omega
  have H := Lib.hid h
  replace hg := Lib.hid hg
  replace ho := Lib.hid ho
  clear h hE
  unfold fA
  obtain ⟨wd, hi, gr, ore⟩ := f
  obtain ⟨⟨Ag, cg⟩, ⟨Ao, co⟩⟩ := s
  dsimp only at *
  have hsum : ∀ k : Nat, k ≤ gr.length → True := fun _ _ => trivial
  clear hsum
  have e1 : IntKind.i64.wrap (wd * hi) = wd * hi := IntWalk.i64_in _ (by omega)
  have e2 := e1
  rw [IntWalk.i64_left] at e2
  have hE0 : ∀ E, E = cellsE gr ore → Hid (cellsE (gr.drop 0) (ore.drop 0) = E) := fun E h => Lib.hid (by simp [h])
  generalize hEE : cellsE gr ore = E at *
  have hE1 := hE0 _ rfl
  clear hE0
  replace hEE := Lib.hid hEE
  go_enter Tryz.func30, Tryz.ntmps30
  go_wp2_with (first | (go_at_call 55; refine (side_any _ _).mono ?_; rintro e w' ⟨rfl, rfl⟩))
  have hb1 : Below w.heap.size w (w.alloc (.cells #[.int .i64 wd, .int .i64 hi, .slice Ag gr.length cg, .slice Ao gr.length co] 25)) := (Below.refl _ _).alloc (Nat.le_refl _) _
  have hk1 := Blk.new w 25 #[.int .i64 wd, .int .i64 hi, .slice Ag gr.length cg, .slice Ao gr.length co]
  generalize (w.alloc (.cells #[.int .i64 wd, .int .i64 hi, .slice Ag gr.length cg, .slice Ao gr.length co] 25)) = W at *
  have c2 : W.cell? ⟨w.heap.size, 2, none⟩ = some (.slice Ag gr.length cg) := hk1.cell 2
  have c3 : W.cell? ⟨w.heap.size, 3, none⟩ = some (.slice Ao gr.length co) := hk1.cell 3
  have HF := Lib.hid (H.out.below hb1)
  have hb2 := Lib.hid hb1
  clear hk1 hb1 H
  go_loop [42] (fun i => ∃ k : Nat, k ≤ gr.length ∧ i = .int .i64 k ∧ Hid (cellsE (gr.drop k) (ore.drop k) = E)) (fun i => gr.length - (intOf i).toNat)
  case atStart => exact ⟨0, Nat.zero_le _, rfl, hE1⟩
  case round =>
    obtain ⟨k, hk, rfl, hKE⟩ := hrel
    by_cases hlt : k < gr.length
    · obtain ⟨bg, og, hAg, cg1, hbg⟩ := HF.out.2.2.1.at_ (k := k) hlt
      obtain ⟨bo, oo, hAo, co1, hbo⟩ := HF.out.2.2.2.at_ (k := k) (show k < ore.length by omega)
      dsimp only at hAg hAo cg1 co1
      subst hAg; subst hAo
      have hst := cellsE_drop gr ore k (gr.getD k 0) (ore.getD k 0) (by rw [List.getD_eq_getElem?_getD, List.getElem?_eq_getElem hlt]; rfl) (by rw [List.getD_eq_getElem?_getD, List.getElem?_eq_getElem (by omega)]; rfl)
      rw [hKE.out] at hst
      generalize gr.getD k 0 = x at *
      generalize ore.getD k 0 = y at *
      have i1 : (k : Int) < (gr.length : Int) := by omega
      by_cases hx : x < 0 ∨ 3 < x ∨ numB y = false
      · rw [if_pos hx] at hst
        replace hst := Lib.hid hst
        rcases (by omega : x < 0 ∨ (0 ≤ x ∧ 3 < x) ∨ (0 ≤ x ∧ x ≤ 3)) with h1 | ⟨h1, h2⟩ | ⟨h1, h2⟩
        · clear hx
          go_wp2_with fail
          go_ret
          exact ⟨by rw [hst.out]; rfl, hb2.out⟩
        · clear hx
          go_wp2_with fail
          go_ret
          exact ⟨by rw [hst.out]; rfl, hb2.out⟩
        · have hy : numB y = false := by rcases hx with h | h | h; · omega
                                         · omega
                                         · exact h
          clear hx
          go_wp2_with (go_at_call 32; refine (numb_any _ _).mono ?_; rintro e w' ⟨rfl, rfl⟩)
          go_ret
          exact ⟨by rw [hst.out]; rfl, hb2.out⟩
      · rw [if_neg hx] at hst
        have hy : numB y = true := by cases hb : numB y with
          | true => rfl
          | false => exact absurd (.inr (.inr hb)) hx
        have hyb := numB_t hy
        have hx1 : 0 ≤ x ∧ x ≤ 3 := by omega
        clear hx
        obtain ⟨hx1, hx2⟩ := hx1
        by_cases h7 : 0 < y ∧ x ≠ 0
        · rw [if_pos h7] at hst
          replace hst := Lib.hid hst
          obtain ⟨h7, h8⟩ := h7
          have h9 : (x != 0) = true := by simp; omega
          go_wp2_with (go_at_call 32; refine (numb_any _ _).mono ?_; rintro e w' ⟨rfl, rfl⟩)
          go_ret
          exact ⟨by rw [hst.out]; rfl, hb2.out⟩
        · rw [if_neg h7] at hst
          replace hst := Lib.hid hst.symm
          rcases (by omega : y ≤ 0 ∨ (0 < y ∧ x = 0)) with h8 | ⟨h8, h9⟩
          · clear h7
            go_wp2_with (go_at_call 32; refine (numb_any _ _).mono ?_; rintro e w' ⟨rfl, rfl⟩)
            go_round
            case rel => exact ⟨k + 1, by omega, by go_num, hst⟩
            case measure => simp [intOf]; omega
          · clear h7
            have h10 : (x != 0) = false := by simp; omega
            replace h9 := Lib.hid h9
            go_wp2_with (go_at_call 32; refine (numb_any _ _).mono ?_; rintro e w' ⟨rfl, rfl⟩)
            go_round
            case rel => exact ⟨k + 1, by omega, by go_num, hst⟩
            case measure => simp [intOf]; omega
    · have hend := cellsE_end gr ore k (by omega)
      have hE2 := hKE.out
      rw [hend] at hE2
      replace hE2 := Lib.hid hE2
      clear hend
      go_wp2_with fail
      go_ret
      exact ⟨by rw [← hE2.out]; rfl, hb2.out⟩
set_option maxHeartbeats 1600000 in
set_option maxRecDepth 100000 in
theorem fcheck_any (s : SF) (f : GF) (w : World) (h : FOk w s f) :
    Calls Tryz.prog 30 #[fA s f] w fun e w' => e = .returned (errV (fieldE f)) ∧ Below w.heap.size w w' := by
  by_cases h1 : sideB f.wide = false ∨ sideB f.high = false
  · have hE : fieldE f = 1 := by unfold fieldE; rw [if_pos h1]
    rw [hE]
    unfold fA
    obtain ⟨wd, hi, gr, ore⟩ := f
    dsimp only at *
    clear hE h
    rcases (by cases hb : sideB wd with
      | true => exact .inr ⟨rfl, by rcases h1 with h | h; · rw [hb] at h; cases h
                                    · exact h⟩
      | false => exact .inl rfl : sideB wd = false ∨ (sideB wd = true ∧ sideB hi = false)) with h2 | ⟨h2, h3⟩
    all_goals
      clear h1
      go_enter Tryz.func30, Tryz.ntmps30
      go_wp2_with (go_at_call 55; refine (side_any _ _).mono ?_; rintro e w' ⟨rfl, rfl⟩)
      go_ret
      exact ⟨rfl, (Below.refl _ _).alloc (Nat.le_refl _) _⟩
  · have hw : sideB f.wide = true := by cases hb : sideB f.wide with
      | true => rfl
      | false => exact absurd (.inl hb) h1
    have hh : sideB f.high = true := by cases hb : sideB f.high with
      | true => rfl
      | false => exact absurd (.inr hb) h1
    by_cases h2 : (f.ground.length : Int) ≠ f.wide * f.high ∨ (f.ore.length : Int) ≠ f.wide * f.high
    · have hE : fieldE f = 3 := by unfold fieldE; rw [if_neg h1, if_pos h2]
      rw [hE]
      unfold fA
      have hwb := sideB_t hw
      have hhb := sideB_t hh
      have hm1 : f.wide * f.high ≤ 144 := mul_le_of (c := 12) (d := 12) (by omega) hwb.2 (by omega) hhb.2
      have hm0 : 0 ≤ f.wide * f.high := Int.mul_nonneg (by omega) (by omega)
      have hl1 : (f.ground.length : Int) ≤ 9223372036854775807 := by have a := h.2.2.1.2.2.1; have b := h.2.2.1.2.2.2.1; unfold maxLen at b; omega
      have hl2 : (f.ore.length : Int) ≤ 9223372036854775807 := by have a := h.2.2.2.2.2.1; have b := h.2.2.2.2.2.2.1; unfold maxLen at b; omega
      obtain ⟨wd, hi, gr, ore⟩ := f
      dsimp only at *
      clear hE h h1
      generalize gr.length = n at *
      generalize ore.length = m at *
      rcases (by
        by_cases e : (n : Int) = wd * hi
        · exact .inr ⟨by simp [e], by
            have : (m : Int) ≠ wd * hi := by rcases h2 with h | h; · exact absurd e h
                                             · exact h
            simpa using this⟩
        · exact .inl (by simpa using e) : ((n : Int) != wd * hi) = true ∨ (((n : Int) != wd * hi) = false ∧ ((m : Int) != wd * hi) = true)) with h3 | ⟨h3, h4⟩
      all_goals
        clear h2
        go_enter Tryz.func30, Tryz.ntmps30
        go_wp2_with (go_at_call 55; refine (side_any _ _).mono ?_; rintro e w' ⟨rfl, rfl⟩)
        go_ret
        exact ⟨rfl, (Below.refl _ _).alloc (Nat.le_refl _) _⟩
    · exact fcheck_loop s f w h hw hh (by omega) (by omega)
end Go.Proofs.YtkgkpggfoieioaaGreatDoor
namespace Go.Proofs.YtkgkpggfoieioaaGreatDoor
set_option linter.unusedVariables false
open Go.RowKit
theorem errV0 : errV 0 = .nilIface := rfl
theorem errVn (n : Int) (h : n ≠ 0) : errV n = erE n := if_neg h
def badC (n x : Int) : Bool := decide (x < 0 ∨ n ≤ x)
theorem badC_eq (n x : Int) : badC n x = (decide (x < 0) || decide (n ≤ x)) := by unfold badC; rw [Bool.eq_iff_iff]; simp
theorem cellsfn_any (x : Int) (gb : Nat) (A : Option Addr) (n c : Nat) (w : World) (hc : w.cell? ⟨gb, 2, none⟩ = some (.slice A n c)) :
    Calls Tryz.prog 105 #[.int .i64 x, .pointer (some ⟨gb, 0, none⟩)] w fun e w' => e = .returned (.bool (badC n x)) ∧ w = w' := by
  rw [badC_eq]
  by_cases h : x < 0
  · go_enter Tryz.func105, Tryz.ntmps105
    go_wp2_with fail
    go_ret
    exact ⟨by simp; omega, rfl⟩
  · go_enter Tryz.func105, Tryz.ntmps105
    go_wp2_with fail
    go_ret
    exact ⟨by simp; omega, rfl⟩
def IdxPost (P : Bool) (w : World) (e : Ending) (w' : World) : Prop := ∃ r : Int, e = .returned (.int .i64 r) ∧ -1 ≤ r ∧ r ≤ 1000000000 ∧ decide (0 ≤ r) = P ∧ w = w'
theorem any_take_succ (p : Int → Bool) (ls : List Int) (k : Nat) (h : k < ls.length) : (ls.take (k + 1)).any p = ((ls.take k).any p || p (ls.getD k 0)) := by
  rw [List.take_succ_eq_append_getElem h, List.any_append, List.getD_eq_getElem?_getD, List.getElem?_eq_getElem h]; simp
theorem any_of_take (p : Int → Bool) (ls : List Int) (k : Nat) (h : (ls.take k).any p = true) : ls.any p = true := by
  obtain ⟨x, hx, hp⟩ := List.any_eq_true.1 h
  exact List.any_eq_true.2 ⟨x, List.mem_of_mem_take hx, hp⟩
set_option maxRecDepth 100000 in
theorem idxf_cells (gb : Nat) (A A' : Option Addr) (c n c' : Nat) (ls : List Int) (w : World) (ha : RD w w.heap.size 1 A ls.length (ls.map (.int .i64))) (hl : ls.length ≤ 1000000000) (hc : w.cell? ⟨gb, 2, none⟩ = some (.slice A' n c')) :
    Calls Tryz.prog 85 #[.slice A ls.length c, .func (.func 105) #[] #[.pointer (some ⟨gb, 0, none⟩)]] w (IdxPost (ls.any (badC n)) w) := by
  have HA := Lib.hid ha
  clear ha
  go_enter Tryz.func85, Tryz.ntmps85
  go_wp2_with fail
  go_loop [5, 8] (fun _ i => ∃ k : Nat, k ≤ ls.length ∧ i = .int .i64 k ∧ Hid ((ls.take k).any (badC n) = false)) (fun _ i => ls.length - (intOf i).toNat)
  case atStart => exact ⟨0, Nat.zero_le _, rfl, Lib.hid (by simp)⟩
  case round =>
    obtain ⟨k, hk, rfl, hK⟩ := hrel
    by_cases hlt : k < ls.length
    · obtain ⟨b, o, hA, hbl⟩ := HA.out.addr (by omega)
      have hcell := HA.out.at_ hA (j := k) (by omega)
      have hst := any_take_succ (badC n) ls k hlt
      rw [hK.out, Bool.false_or] at hst
      rw [List.getElem?_map, List.getElem?_eq_getElem hlt] at hcell
      have hgd : ls.getD k 0 = ls[k] := by rw [List.getD_eq_getElem?_getD, List.getElem?_eq_getElem hlt]; rfl
      simp only [Option.map_some, ← hgd] at hcell
      subst hA
      replace hgd := Lib.hid hgd
      generalize ls.getD k 0 = x at *
      have i1 : (k : Int) < (ls.length : Int) := by omega
      cases hb : badC n x with
      | true =>
        rw [hb] at hst
        have hall := any_of_take _ _ _ hst
        replace hall := Lib.hid hall
        replace hst := Lib.hid hst
        go_wp2_with (go_at_call 105; refine (cellsfn_any x gb A' n c' _ hc).mono ?_; rintro e w' ⟨rfl, rfl⟩)
        go_ret
        exact ⟨k, rfl, by omega, by omega, by rw [hall.out]; simp, rfl⟩
      | false =>
        rw [hb] at hst
        replace hst := Lib.hid hst
        go_wp2_with (go_at_call 105; refine (cellsfn_any x gb A' n c' _ hc).mono ?_; rintro e w' ⟨rfl, rfl⟩)
        go_round
        case rel => exact ⟨k + 1, by omega, by go_num, hst⟩
        case measure => simp [intOf]; omega
    · have hall : ls.any (badC n) = false := by have := hK.out; rwa [List.take_of_length_le (by omega)] at this
      replace hall := Lib.hid hall
      go_wp2_with fail
      go_ret
      exact ⟨-1, rfl, by omega, by omega, by rw [hall.out]; rfl, rfl⟩
theorem ctn_cells (gb : Nat) (A A' : Option Addr) (c n c' : Nat) (ls : List Int) (w : World) (ha : RD w w.heap.size 1 A ls.length (ls.map (.int .i64))) (hl : ls.length ≤ 1000000000) (hc : w.cell? ⟨gb, 2, none⟩ = some (.slice A' n c')) :
    Calls Tryz.prog 61 #[.slice A ls.length c, .func (.func 105) #[] #[.pointer (some ⟨gb, 0, none⟩)]] w fun e w' => e = .returned (.bool (ls.any (badC n))) ∧ w = w' := by
  have HA := Lib.hid ha
  clear ha
  go_enter Tryz.func61, Tryz.ntmps61
  go_wp2_with fail
  refine (idxf_cells gb A A' c n c' ls w HA.out hl hc).mono ?_
  rintro e w' ⟨r, rfl, h1, h2, h3, rfl⟩
  replace h3 := Lib.hid h3
  go_wp2_with fail
  go_ret
  exact ⟨by rw [← h3.out]; rfl, rfl⟩
/-- What is wrong with a field, and with cells of it. -/
def faultL (f : GF) (ls : List Int) : Int := if fieldE f ≠ 0 then fieldE f else if ls.any (badC f.ground.length) then 6 else 0
theorem faultL_e (f : GF) (ls : List Int) (h : fieldE f ≠ 0) : faultL f ls = fieldE f := if_pos h
theorem faultL_6 (f : GF) (ls : List Int) (h : fieldE f = 0) (h2 : ls.any (badC f.ground.length) = true) : faultL f ls = 6 := by unfold faultL; rw [if_neg (by simp [h]), if_pos h2]
theorem faultL_0 (f : GF) (ls : List Int) (h : fieldE f = 0) (h2 : ls.any (badC f.ground.length) = false) : faultL f ls = 0 := by unfold faultL; rw [if_neg (by simp [h]), if_neg (by simp [h2])]
theorem faultL_1 (f : GF) (a : Int) : faultL f [a] = cellE f a := by
  unfold faultL cellE
  have : ([a].any (badC f.ground.length)) = badC f.ground.length a := by simp
  rw [this]
  unfold badC
  simp only [decide_eq_true_eq]
set_option maxRecDepth 100000 in
theorem fcells_any (s : SF) (f : GF) (A : Option Addr) (c : Nat) (ls : List Int) (w : World) (h : FOk w s f) (ha : RD w w.heap.size 1 A ls.length (ls.map (.int .i64))) (hl : ls.length ≤ 100) :
    Calls Tryz.prog 86 #[fA s f, .slice A ls.length c] w fun e w' => e = .returned (errV (faultL f ls)) ∧ Below w.heap.size w w' := by
  have H := Lib.hid h
  have HA := Lib.hid ha
  clear h ha
  by_cases hE : fieldE f = 0
  · unfold fA
    go_enter Tryz.func86, Tryz.ntmps86
    go_wp2_with fail
    have hb1 : Below w.heap.size w (w.alloc (.cells #[.int .i64 f.wide, .int .i64 f.high, .slice s.ground.A f.ground.length s.ground.c, .slice s.ore.A f.ore.length s.ore.c] 25)) := (Below.refl _ _).alloc (Nat.le_refl _) _
    have hk1 := Blk.new w 25 #[.int .i64 f.wide, .int .i64 f.high, .slice s.ground.A f.ground.length s.ground.c, .slice s.ore.A f.ore.length s.ore.c]
    generalize (w.alloc (.cells #[.int .i64 f.wide, .int .i64 f.high, .slice s.ground.A f.ground.length s.ground.c, .slice s.ore.A f.ore.length s.ore.c] 25)) = W at *
    have HF := H.out.below hb1
    refine (fcheck_any s f W HF).mono ?_
    rintro e W2 ⟨rfl, hb2⟩
    rw [hE, errV0]
    have c2 : W2.cell? ⟨w.heap.size, 2, none⟩ = some (.slice s.ground.A f.ground.length s.ground.c) := (hk1.below hb2 hk1.lt).cell 2
    have hb3 := hb1.trans (hb2.mono hb1.size)
    have HA3 := (HA.out.below hb3).more hb3.size
    clear hk1 hb1 hb2 HF
    replace HA3 := Lib.hid HA3
    go_wp2_with fail
    refine (ctn_cells w.heap.size A s.ground.A c f.ground.length s.ground.c ls W2 HA3.out (by omega) c2).mono ?_
    rintro e W3 ⟨rfl, rfl⟩
    cases hany : ls.any (badC f.ground.length) with
    | true =>
      have hF := faultL_6 f ls hE hany
      replace hF := Lib.hid hF
      replace hany := Lib.hid hany
      replace hE := Lib.hid hE
      go_wp2_with fail
      go_ret
      exact ⟨by rw [hF.out]; rfl, hb3⟩
    | false =>
      have hF := faultL_0 f ls hE hany
      replace hF := Lib.hid hF
      replace hany := Lib.hid hany
      replace hE := Lib.hid hE
      go_wp2_with fail
      go_ret
      exact ⟨by rw [hF.out]; rfl, hb3⟩
  · rw [faultL_e f ls hE]
    unfold fA
    go_enter Tryz.func86, Tryz.ntmps86
    go_wp2_with fail
    have hb1 : Below w.heap.size w (w.alloc (.cells #[.int .i64 f.wide, .int .i64 f.high, .slice s.ground.A f.ground.length s.ground.c, .slice s.ore.A f.ore.length s.ore.c] 25)) := (Below.refl _ _).alloc (Nat.le_refl _) _
    generalize (w.alloc (.cells #[.int .i64 f.wide, .int .i64 f.high, .slice s.ground.A f.ground.length s.ground.c, .slice s.ore.A f.ore.length s.ore.c] 25)) = W at *
    have HF := H.out.below hb1
    refine (fcheck_any s f W HF).mono ?_
    rintro e W2 ⟨rfl, hb2⟩
    rw [errVn _ hE]
    unfold erE
    have hb3 := hb1.trans (hb2.mono hb1.size)
    replace hE := Lib.hid hE
    go_wp2_with fail
    go_ret
    exact ⟨by rw [errVn _ hE.out]; rfl, hb3⟩
end Go.Proofs.YtkgkpggfoieioaaGreatDoor
