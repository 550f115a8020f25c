import Derived.Test.YtkgkpggfoieioaaGreatDoorNewW
import Derived.Test.YtkgkpggfoieioaaGreatDoorRefCopy
import Derived.Test.YtkgkpggfoieioaaGreatDoorRefKd
import Derived.Test.YtkgkpggfoieioaaGreatDoorRefWc
import Derived.Test.YtkgkpggfoieioaaGreatDoorSameW
import Derived.Test.YtkgkpggfoieioaaGreatDoorTold
import Derived.Laws.Tables
namespace Go.Proofs.YtkgkpggfoieioaaGreatDoor
set_option linter.unusedVariables false
open Go.RowKit
/-! WorldBegins. -/
def zeroX : GW := ⟨0, 0, ⟨0, 0, [], []⟩, [], [], []⟩
def nilS : SW := ⟨⟨⟨none, 0⟩, ⟨none, 0⟩⟩, ⟨none, 0⟩, ⟨none, 0⟩, ⟨none, 0⟩⟩
theorem WRd.zero (w : World) : WRd w w.heap.size nilS zeroX := ⟨RD.nil_, RD.nil_, RD.nil_, RD.nil_, RD.nil_⟩
theorem WOwn.rd {w : World} {b : Nat} {s : SW} {x : GW} (h : WOwn w b s x) : WRd w w.heap.size s x := ⟨RD.of_own h.g, RD.of_own h.o, RD.of_own h.d, RD.of_own h.u, RD.of_own h.q⟩
def FewX (x : GW) : Prop := x.field.ground.length ≤ 1000000000 ∧ x.field.ore.length ≤ 1000000000 ∧ x.gold.length ≤ 1000000000 ∧ x.units.length ≤ 1000000000 ∧ x.queue.length ≤ 1000000000
theorem zero_few : FewX zeroX := by unfold FewX zeroX; simp
def wantN (L : List GK) (f : GF) (n g : Int) : GW := if newE L f n g = 0 then newX f n g else zeroX
def wantP (L : List GK) (x : GW) (p k a : Int) : GW := if placeE L x p k a = 0 then addX L x p k.toNat a else zeroX
theorem newE_0 {L : List GK} {f : GF} {n g : Int} (h : newE L f n g = 0) : kindsE L = 0 ∧ fieldE f = 0 ∧ 1 ≤ n ∧ n ≤ 4 ∧ 0 ≤ g ∧ g ≤ 1000000 := by
  unfold newE at h
  by_cases z1 : kindsE L = 0
  · rw [if_neg (fun c => c z1)] at h
    by_cases z2 : fieldE f = 0
    · rw [if_neg (fun c => c z2)] at h
      by_cases z3 : (1 ≤ n ∧ n ≤ 4 ∧ 0 ≤ g ∧ g ≤ 1000000)
      · exact ⟨z1, z2, z3⟩
      · rw [if_pos z3] at h; cases h
    · rw [if_pos z2] at h; exact absurd h z2
  · rw [if_pos z1] at h; exact absurd h z1
theorem wantN_few (L : List GK) (f : GF) (n g : Int) : FewX (wantN L f n g) := by
  unfold wantN
  by_cases h : newE L f n g = 0
  · rw [if_pos h]
    obtain ⟨_, z2, z3⟩ := newE_0 h
    have := (good_of f z2).len
    unfold FewX newX
    simp
    omega
  · rw [if_neg h]; exact zero_few
theorem wantP_few (L : List GK) (x : GW) (p k a : Int) : FewX (wantP L x p k a) := by
  unfold wantP
  by_cases h : placeE L x p k a = 0
  · rw [if_pos h]
    have z := placeE_0 h
    have z2 := (good_of x.field z.ok.field).len
    have z3 := headE_ok z.ok.head
    have z4 := z3.players
    have z5 := z3.units
    have z6 := z.ok.few
    unfold FewX addX
    simp
    omega
  · rw [if_neg h]; exact zero_few
/-- world.New, whatever comes of it. -/
theorem new_any (sK : SL) (L : List GK) (s : SF) (f : GF) (n g : Int) (w : World) (hK : KS w w.heap.size sK L) (hF : FOk w s f) :
    Calls Tryz.prog 8 #[.slice sK.A L.length sK.c, .agg #[.int .i64 f.wide, .int .i64 f.high, .slice s.ground.A f.ground.length s.ground.c, .slice s.ore.A f.ore.length s.ore.c], .int .i64 n, .int .i64 g] w fun e w' => ∃ s', e = .returned (.tuple #[wA s' (wantN L f n g), errV (newE L f n g)]) ∧ WRd w' w'.heap.size s' (wantN L f n g) ∧ Below w.heap.size w w' := by
  unfold wantN
  by_cases h : newE L f n g = 0
  · rw [if_pos h, h]
    refine (new_ok sK L s f n g w hK hF h).mono ?_
    rintro e w' ⟨s', rfl, h1, h2⟩
    exact ⟨s', rfl, h1.rd, h2⟩
  · rw [if_neg h, errV_ne h]
    refine (new_no sK L s f n g w hK hF h).mono ?_
    rintro e w' ⟨rfl, h2⟩
    exact ⟨nilS, rfl, WRd.zero _, h2⟩
/-- world.Place, whatever comes of it. -/
theorem place_any (sK : SL) (L : List GK) (s : SW) (x : GW) (p k a : Int) (w : World) (hK : KS w w.heap.size sK L) (hW : WOk w s x) :
    Calls Tryz.prog 15 #[.slice sK.A L.length sK.c, wA s x, .int .i64 p, .int .i64 k, .int .i64 a] w fun e w' => ∃ s', e = .returned (.tuple #[wA s' (wantP L x p k a), errV (placeE L x p k a)]) ∧ WRd w' w'.heap.size s' (wantP L x p k a) ∧ Below w.heap.size w w' := by
  unfold wantP
  by_cases h : placeE L x p k a = 0
  · rw [if_pos h, h]
    have z := placeE_0 h
    obtain ⟨kd, rfl⟩ : ∃ kd : Nat, k = (kd : Int) := ⟨k.toNat, by have := z.kind; omega⟩
    obtain ⟨sp, rfl⟩ : ∃ sp : Nat, a = (sp : Int) := ⟨a.toNat, by have := z.spot; omega⟩
    refine (place_ok sK L s x p kd sp w hK hW z).mono ?_
    rintro e w' ⟨s', rfl, h1, h2⟩
    exact ⟨s', rfl, h1.rd, h2⟩
  · rw [if_neg h, errV_ne h]
    refine (place_no sK L s x p k a w hK hW h).mono ?_
    rintro e w' ⟨rfl, h2⟩
    exact ⟨nilS, rfl, WRd.zero _, h2⟩
theorem act_gen {P : Program} {C : Code} {Q : Exit → Act → World → Prop} {T : Array Value} {ds : _} {w : World} (h : ∀ T', T' = T → C.wp P Q { tmps := T', defers := ds } w) : C.wp P Q { tmps := T, defers := ds } w := h T rfl
theorem lt_sz {T : Array Value} {i : Nat} (h : T.size = 207) (hi : Nat.blt i 207 = true) : i < T.size := by rw [h]; exact Nat.le_of_ble_eq_true hi
theorem get_of {T : Array Value} {i : Nat} {v : Value} (h : T[i]? = some v) (hi : i < T.size) : T[i] = v := by
  rw [Array.getElem?_eq_getElem hi] at h
  injection h
theorem set_same {T T' : Array Value} {i : Nat} {v : Value} (h : T' = T.setIfInBounds i v) (hz : T.size = 207) (hi : i < 207) : T'[i]? = some v := by
  subst h; rw [Array.getElem?_setIfInBounds_self_of_lt (by rw [hz]; exact hi)]
theorem set_keep {T T' : Array Value} {i j : Nat} {v u : Value} (h : T' = T.setIfInBounds i v) (hne : i ≠ j) (hu : T[j]? = some u) : T'[j]? = some u := by
  subst h
  rw [Array.getElem?_setIfInBounds_ne hne]
  exact hu
theorem set_size {T T' : Array Value} {i : Nat} {v : Value} (h : T' = T.setIfInBounds i v) (hz : T.size = 207) : T'.size = 207 := by
  subst h; rw [Array.size_setIfInBounds]; exact hz
theorem eval_of {T : Array Value} {ds : _} {i : Nat} {v : Value} (h : T[i]? = some v) : Act.eval { tmps := T, defers := ds } (.tmp i) = v := by
  show T.getD i undef = v
  rw [Array.getD_eq_getD_getElem?, h]; rfl
theorem step_bs {P : Program} {ops : Array Oper} {o : Oper} {a : Act} {w w' : World} {K : Act → World → Prop} {Q : Exit → Act → World → Prop} {E : Prop} (hgd : o.guard = none) (t : TypeId) (n : Nat) (parts : Array (Nat × Operand)) (ho : o.op = .buildSlice t n parts)
    (vals : Array (Nat × Value)) (r : Value) (h0 : (Instr.buildSlice t n vals).run P w = .ok r w') (hv : (parts.map fun (i, x) => (i, a.eval x)) = vals) (h : K (a.put o.dst r) w') :
    if Region.wanted o (yielded ops a.tmps) = true then Oper.wp P o a w K Q else E := by
  have hw : Region.wanted o (yielded ops a.tmps) = true := by simp [Region.wanted, hgd]
  rw [if_pos hw]
  unfold Oper.wp execOp
  simp only [ho, Sem.run_bind, hv, h0, Result.andThen_ok]
  exact h
theorem act_genH {P : Program} {md : Region.Mode} {ops : Array Oper} {Q : Exit → Act → World → Prop} {S : World → Prop} {fuel : Nat} {listed : Array Bool} {T : Array Value} {ds : _} {w : World} {d : Option Tmp} (i : Nat) {v : Value} (hd : d = some i)
    (h : ∀ T', T' = T.setIfInBounds i v → wpAnyH P md ops Q S fuel listed { tmps := T', defers := ds } w) : wpAnyH P md ops Q S fuel listed (Act.put { tmps := T, defers := ds } d v) w := by
  subst hd; exact h _ rfl
theorem act_genS {P : Program} {md : Region.Mode} {ops : Array Oper} {Q : Exit → Act → World → Prop} {S : World → Prop} {fuel : Nat} {listed : Array Bool} {T : Array Value} {ds : _} {w : World}
    (h : ∀ T', T' = T → wpAnyH P md ops Q S fuel listed { tmps := T', defers := ds } w) : wpAnyH P md ops Q S fuel listed { tmps := T, defers := ds } w := h T rfl
theorem own_row {w : World} {base n sz b : Nat} {e : TypeId} {v : Value} {xs : List Value} {cs : Array Value} (ho : w.ownsRow base e sz v n xs) (hb : b < base) : (w.setRow b cs).ownsRow base e sz v n xs :=
  ⟨ho.1, ho.2.imp id (fun ⟨g, cap, cur, hv, hbg, hh, r⟩ => ⟨g, cap, cur, hv, hbg, (setRow_other w b g cs (by omega)).trans hh, r⟩)⟩
theorem WOwn.row {w : World} {base b : Nat} {cs : Array Value} {s : SW} {x : GW} (h : WOwn w base s x) (hb : b < base) : WOwn (w.setRow b cs) base s x := ⟨own_row h.g hb, own_row h.o hb, own_row h.d hb, own_row h.u hb, own_row h.q hb⟩
theorem Blk.row {w : World} {b : Nat} {t : TypeId} {cs cs' : Array Value} (h : Blk w b t cs) : Blk (w.setRow b cs') b t cs' := setRow_heap w b _ _ t _ h
theorem bs_unitB (y0 y1 y2 y3 y4 y5 y6 y7 : Int) (w : World) : (Instr.buildSlice 26 1 #[(0, .agg #[.int .i64 y0, .int .i64 y1, .int .i64 y2, .int .i64 y3, .int .i64 y4, .int .i64 y5, .int .i64 y6, .int .i64 y7])]).run Tryz.prog w = .ok (.slice (some ⟨w.heap.size, 0, none⟩) 1 1) (w.alloc (.cells #[.int .i64 y0, .int .i64 y1, .int .i64 y2, .int .i64 y3, .int .i64 y4, .int .i64 y5, .int .i64 y6, .int .i64 y7] 45)) := by kernel_rfl
structure BG (w0 w : World) (sK : SL) (L : List GK) (sf : SF) (f : GF) (s : SW) (x : GW) (fb wb : Nat) : Prop where
  b : Below w0.heap.size w0 w
  kf : Blk w fb 25 #[.int .i64 f.wide, .int .i64 f.high, .slice sf.ground.A f.ground.length sf.ground.c, .slice sf.ore.A f.ore.length sf.ore.c]
  kw : Blk w wb 29 #[.int .i64 x.turn, .int .i64 x.next, .int .i64 x.field.wide, .int .i64 x.field.high, .slice s.field.ground.A x.field.ground.length s.field.ground.c, .slice s.field.ore.A x.field.ore.length s.field.ore.c, .slice s.gold.A x.gold.length s.gold.c, .slice s.units.A x.units.length s.units.c, .slice s.queue.A x.queue.length s.queue.c]
  ks : KS w0 w0.heap.size sK L
  fo : FOk w0 sf f
  wo : WOk w0 s x
  hv : HV w0
  p1 : w0.heap.size ≤ fb
  p2 : fb < wb
section
variable {w0 w w' : World} {sK : SL} {L : List GK} {sf : SF} {f : GF} {s : SW} {x : GW} {fb wb : Nat}
theorem BG.below (h : BG w0 w sK L sf f s x fb wb) (hb : Below w.heap.size w w') : BG w0 w' sK L sf f s x fb wb := ⟨h.b.trans (hb.mono h.b.size), h.kf.below hb h.kf.lt, h.kw.below hb h.kw.lt, h.ks, h.fo, h.wo, h.hv, h.p1, h.p2⟩
theorem BG.drewN (h : BG w0 w sK L sf f s x fb wb) (n : Nat) : BG w0 (w.drewN n) sK L sf f s x fb wb := h.below ⟨rfl, rfl, rfl, Nat.le_refl _, fun _ _ => rfl⟩
theorem BG.alloc (h : BG w0 w sK L sf f s x fb wb) (o : Obj) : BG w0 (w.alloc o) sK L sf f s x fb wb := h.below ((Below.refl _ _).alloc (Nat.le_refl _) o)
theorem BG.far {b i : Nat} (h : BG w0 w sK L sf f s x fb wb) (hb : wb < b) (u : Value) : BG w0 (w.setCell ⟨b, i, none⟩ u) sK L sf f s x fb wb :=
  ⟨h.b.setCell (p := ⟨b, i, none⟩) (by have := h.p1; have := h.p2; show w0.heap.size ≤ b; omega) _, h.kf.far (p := ⟨b, i, none⟩) (by have := h.p2; show fb ≠ b; omega) u, h.kw.far (p := ⟨b, i, none⟩) (by show wb ≠ b; omega) u, h.ks, h.fo, h.wo, h.hv, h.p1, h.p2⟩
theorem BG.grown {row : Option Nat} (h : BG w0 w sK L sf f s x fb wb) (hg : w.grownBy w' row) (hr : ∀ b, row = some b → wb < b) : BG w0 w' sK L sf f s x fb wb :=
  ⟨h.b.grown hg h.b.size (fun b e => by have := hr b e; have := h.p1; have := h.p2; omega), h.kf.grown hg (fun e => by have := hr fb e.symm; have := h.p2; omega), h.kw.grown hg (fun e => by have := hr wb e.symm; omega), h.ks, h.fo, h.wo, h.hv, h.p1, h.p2⟩
theorem BG.row {b : Nat} (h : BG w0 w sK L sf f s x fb wb) (hb : wb < b) (hl : b < w.heap.size) (xs : Array Value) : BG w0 (w.setRow b xs) sK L sf f s x fb wb :=
  ⟨below_setRow h.b (by have := h.p1; have := h.p2; omega) xs, (setRow_other w b fb xs (by have := h.p2; omega)).trans h.kf, (setRow_other w b wb xs (by omega)).trans h.kw, h.ks, h.fo, h.wo, h.hv, h.p1, h.p2⟩
theorem BG.ks_ (h : BG w0 w sK L sf f s x fb wb) : KS w w.heap.size sK L := (h.ks.below h.b).more h.b.size
theorem BG.fo_ (h : BG w0 w sK L sf f s x fb wb) : FOk w sf f := h.fo.below h.b
theorem BG.wo_ (h : BG w0 w sK L sf f s x fb wb) : WOk w s x := h.wo.below h.b
theorem BG.hv_ (h : BG w0 w sK L sf f s x fb wb) : HV w := h.hv.below h.b
theorem BG.cells (h : BG w0 w sK L sf f s x fb wb) : w.cell? ⟨wb, 0, none⟩ = some (.int .i64 x.turn) ∧ w.cell? ⟨wb, 1, none⟩ = some (.int .i64 x.next) ∧ w.cell? ⟨wb, 2, none⟩ = some (.int .i64 x.field.wide) ∧ w.cell? ⟨wb, 3, none⟩ = some (.int .i64 x.field.high) ∧ w.cell? ⟨wb, 4, none⟩ = some (.slice s.field.ground.A x.field.ground.length s.field.ground.c) ∧ w.cell? ⟨wb, 5, none⟩ = some (.slice s.field.ore.A x.field.ore.length s.field.ore.c) ∧ w.cell? ⟨wb, 6, none⟩ = some (.slice s.gold.A x.gold.length s.gold.c) ∧ w.cell? ⟨wb, 7, none⟩ = some (.slice s.units.A x.units.length s.units.c) ∧ w.cell? ⟨wb, 8, none⟩ = some (.slice s.queue.A x.queue.length s.queue.c) ∧ wb < w.heap.size ∧ w.cell? ⟨fb, 0, none⟩ = some (.int .i64 f.wide) ∧ w.cell? ⟨fb, 1, none⟩ = some (.int .i64 f.high) ∧ w.cell? ⟨fb, 2, none⟩ = some (.slice sf.ground.A f.ground.length sf.ground.c) ∧ w.cell? ⟨fb, 3, none⟩ = some (.slice sf.ore.A f.ore.length sf.ore.c) ∧ fb < w.heap.size :=
  ⟨h.kw.cell 0, h.kw.cell 1, h.kw.cell 2, h.kw.cell 3, h.kw.cell 4, h.kw.cell 5, h.kw.cell 6, h.kw.cell 7, h.kw.cell 8, h.kw.lt, h.kf.cell 0, h.kf.cell 1, h.kf.cell 2, h.kf.cell 3, h.kf.lt⟩
end
/-- The code behind so many steps of a function's body. -/
def sndC : Code → Code
  | .seq _ b => b
  | c => c
def tailC : Nat → Code → Code
  | 0, c => c
  | k + 1, c => tailC k (sndC c)
def bodyC (f : Func) : Code := match f.body with
  | some c => c
  | none => .ret
end Go.Proofs.YtkgkpggfoieioaaGreatDoor
