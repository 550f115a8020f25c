import Derived.Test.YtkngommlclcikaaDoorDecP
import Derived.Test.YtkngommlclcikaaDoorPhase2
import Derived.Deep.AppendLies
import Derived.Laws.Tables
import Derived.StillTailTactics
namespace Go.Proofs.YtkngommlclcikaaDoor
set_option linter.unusedVariables false
open Go.RowKit
def zW : Array Value := #[.int .i64 0, .int .i64 0, .int .i64 0, .int .i64 0, .slice none 0 0, .slice none 0 0, .slice none 0 0, .slice none 0 0, .slice none 0 0]
def cW (x1 x2 x3 x4 : Int) (vg vo vd vu vj : Value) : Array Value := #[.int .i64 x1, .int .i64 x2, .int .i64 x3, .int .i64 x4, vg, vo, vd, vu, vj]
theorem Blk.newD (w : World) (t : TypeId) (cs : Array Value) (g : Nat) (h : g = w.heap.size) : Blk (w.alloc (.cells cs t)) g t cs := by subst h; exact Blk.new w t cs
theorem unit_inf : (Tryd.prog.info? 62).map (fun i => (i.zero, i.size, i.bytes)) = some (some (.agg #[.int .i64 0, .int .i64 0, .int .i64 0, .int .i64 0, .int .i64 0, .int .i64 0, .int .i64 0, .int .i64 0]), 8, 64) := by kernel_rfl
theorem job_inf : (Tryd.prog.info? 127).map (fun i => (i.zero, i.size, i.bytes)) = some (some (.agg #[.int .i64 0, .int .i64 0, .int .i64 0, .int .i64 0]), 4, 32) := by kernel_rfl
theorem wp_buildK {P : Program} {o : Oper} {a : Act} {w : World} {K : Act → World → Prop} {Q : Exit → Act → World → Prop} (t : TypeId) (parts : Array (Nat × Operand)) (cells : Array Value) (ho : o.op = .build t parts)
    (vals : List (Nat × Value)) (h0 : P.built t vals = some cells) (hv : (parts.map fun (i, x) => (i, a.eval x)).toList = vals) (h : K (a.put o.dst (.agg cells)) w) : o.wp P a w K Q :=
  wp_build t parts ho (by rw [hv, h0]; rfl) (by rw [hv, h0]; exact h)
theorem built_unit (y1 y2 y3 y4 y5 y6 y7 y8 : Int) : Tryd.prog.built 62 [(0, .int .i64 y1), (1, .int .i64 y2), (2, .int .i64 y3), (3, .int .i64 y4), (4, .int .i64 y5), (5, .int .i64 y6), (6, .int .i64 y7), (7, .int .i64 y8)] = some #[.int .i64 y1, .int .i64 y2, .int .i64 y3, .int .i64 y4, .int .i64 y5, .int .i64 y6, .int .i64 y7, .int .i64 y8] := by kernel_rfl
theorem built_job (y1 y2 y3 y4 : Int) : Tryd.prog.built 127 [(0, .int .i64 y1), (1, .int .i64 y2), (2, .int .i64 y3), (3, .int .i64 y4)] = some #[.int .i64 y1, .int .i64 y2, .int .i64 y3, .int .i64 y4] := by kernel_rfl
theorem wp_bsK {P : Program} {o : Oper} {a : Act} {w w' : World} {K : Act → World → Prop} {Q : Exit → Act → World → Prop} (t : TypeId) (n : Nat) (parts : Array (Nat × Operand)) (r : Value) (ho : o.op = .buildSlice t n parts)
    (vals : Array (Nat × Value)) (h0 : (Instr.buildSlice t n vals).run P w = .ok r w') (hv : (parts.map fun (i, x) => (i, a.eval x)) = vals) (h : K (a.put o.dst r) w') : o.wp P a w K Q := by
  unfold Oper.wp execOp
  simp only [ho, Sem.run_bind, hv, h0, Result.andThen_ok]
  exact h
theorem bs_unit (y1 y2 y3 y4 y5 y6 y7 y8 : Int) (w : World) : (Instr.buildSlice 26 1 #[(0, .agg #[.int .i64 y1, .int .i64 y2, .int .i64 y3, .int .i64 y4, .int .i64 y5, .int .i64 y6, .int .i64 y7, .int .i64 y8])]).run Tryd.prog w =
    .ok (.slice (some ⟨w.heap.size, 0, none⟩) 1 1) (w.alloc (.cells #[.int .i64 y1, .int .i64 y2, .int .i64 y3, .int .i64 y4, .int .i64 y5, .int .i64 y6, .int .i64 y7, .int .i64 y8] 62)) := by kernel_rfl
theorem bs_job (y1 y2 y3 y4 : Int) (w : World) : (Instr.buildSlice 27 1 #[(0, .agg #[.int .i64 y1, .int .i64 y2, .int .i64 y3, .int .i64 y4])]).run Tryd.prog w =
    .ok (.slice (some ⟨w.heap.size, 0, none⟩) 1 1) (w.alloc (.cells #[.int .i64 y1, .int .i64 y2, .int .i64 y3, .int .i64 y4] 127)) := by kernel_rfl
theorem results_ctt {P : Program} {fn : Func} {p u v : Tmp} {ty : TypeId} (h : fn.results = #[.cell p ty, .tmp u, .tmp v]) (tmps : Array Value) (w : World) (g : Nat) (t : TypeId) (cs : Array Value) (d : TypeDesc)
    (hp : tmps.getD p undef = .pointer (some ⟨g, 0, none⟩)) (hg : w.heap[g]? = some (.cells cs t (0, 0)))
    (hu : P.underlying ty = some d) (hd : (match d with | .struct _ | .array _ _ => true | _ => false) = true) (hi : (P.info? ty).map (·.size) = some cs.size) :
    (results fn tmps).run P w = .ok (.tuple #[.agg cs, tmps.getD u undef, tmps.getD v undef]) w := by
  have hp' : tmps[p]?.getD undef = .pointer (some ⟨g, 0, none⟩) := by simpa using hp
  simp [results, h, hp', asAddr, run_loadVar_row w g t ty cs (0, 0) d hg hu hd hi]
theorem exec_load_row {P : Program} {o : Oper} {a : Act} {w : World} (ty : TypeId) (x : Operand) (ho : o.op = .load ty x) (g : Nat) (hx : a.eval x = .pointer (some ⟨g, 0, none⟩)) (t : TypeId) (cs : Array Value) (d : TypeDesc) (hg : Blk w g t cs)
    (hu : P.underlying ty = some d) (hd : (match d with | .struct _ | .array _ _ => true | _ => false) = true) (hi : (P.info? ty).map (·.size) = some cs.size) : (execOp a.eval o).run P w = .ok (.value (.agg cs)) w := by
  unfold execOp
  simp only [ho, hx, Instr.loadAt, Instr.sureAddr, Sem.run_bind, Sem.run_pure, Result.andThen_ok, run_loadVar_row w g t ty cs (0, 0) d hg hu hd hi]
/-- append of one unit at a step of a region that draws its order. -/
theorem step_unit {ops : Array Oper} {o : Oper} {a : Act} {K : Act → World → Prop} {Q : Exit → Act → World → Prop} {E : Prop} {w : World} (hgd : o.guard = none) (s x : Operand)
    (ho : o.op = .call { callee := .builtin .append, args := #[s, x], argTypes := #[26, 26] })
    (bu : Nat) (v : Value) (n : Nat) (xs : List Value) (y0 y1 y2 y3 y4 y5 y6 y7 : Value) (hs : a.eval s = v) (hown : w.ownsRow bu 62 8 v n xs)
    (ad c : Nat) (hx : a.eval x = .slice (some ⟨ad, 0, none⟩) 1 c) (hb : Blk w ad 62 #[y0, y1, y2, y3, y4, y5, y6, y7]) (h1 : ∀ u ∈ [y0, y1, y2, y3, y4, y5, y6, y7], u.oneCell' = true) (hn : n ≤ 100000) (hbu : bu ≤ w.heap.size)
    (h : ∀ gn cap w', w'.ownsRow bu 62 8 (.slice (some ⟨gn, 0, none⟩) (n + 1) cap) (n + 1) (xs ++ [y0, y1, y2, y3, y4, y5, y6, y7]) → w.grownBy w' v.ownBlock → K (a.put o.dst (.slice (some ⟨gn, 0, none⟩) (n + 1) cap)) w') :
    if Region.wanted o (yielded ops a.tmps) = true then Oper.wp Tryd.prog o a w K Q else E := by
  obtain ⟨i0, hi0, hz0, hz1, hz2⟩ := info_parts unit_inf
  refine step_append_lies w hgd s x 26 ho bu 62 i0 _ 8 64 Tryd.underlying26 hi0 hz0 hz1 hz2 rfl (by decide) v n xs hs hown ⟨ad, 0, none⟩ 1 c [y0, y1, y2, y3, y4, y5, y6, y7] hx rfl (World.news_of_block (cs := #[y0, y1, y2, y3, y4, y5, y6, y7]) hb) h1 (by decide) (by unfold maxLen; omega) (by omega) hbu w.heap.size rfl ?_
  intro g cap w' hown' hgrow hat hlt'
  exact h g cap w' hown' hgrow
/-- append of one job at a step of a region that draws its order. -/
theorem step_job {ops : Array Oper} {o : Oper} {a : Act} {K : Act → World → Prop} {Q : Exit → Act → World → Prop} {E : Prop} {w : World} (hgd : o.guard = none) (s x : Operand)
    (ho : o.op = .call { callee := .builtin .append, args := #[s, x], argTypes := #[27, 27] })
    (bu : Nat) (v : Value) (n : Nat) (xs : List Value) (y0 y1 y2 y3 : Value) (hs : a.eval s = v) (hown : w.ownsRow bu 127 4 v n xs)
    (ad c : Nat) (hx : a.eval x = .slice (some ⟨ad, 0, none⟩) 1 c) (hb : Blk w ad 127 #[y0, y1, y2, y3]) (h1 : ∀ u ∈ [y0, y1, y2, y3], u.oneCell' = true) (hn : n ≤ 100000) (hbu : bu ≤ w.heap.size)
    (h : ∀ gn cap w', w'.ownsRow bu 127 4 (.slice (some ⟨gn, 0, none⟩) (n + 1) cap) (n + 1) (xs ++ [y0, y1, y2, y3]) → w.grownBy w' v.ownBlock → K (a.put o.dst (.slice (some ⟨gn, 0, none⟩) (n + 1) cap)) w') :
    if Region.wanted o (yielded ops a.tmps) = true then Oper.wp Tryd.prog o a w K Q else E := by
  obtain ⟨i0, hi0, hz0, hz1, hz2⟩ := info_parts job_inf
  refine step_append_lies w hgd s x 27 ho bu 127 i0 _ 4 32 Tryd.underlying27 hi0 hz0 hz1 hz2 rfl (by decide) v n xs hs hown ⟨ad, 0, none⟩ 1 c [y0, y1, y2, y3] hx rfl (World.news_of_block (cs := #[y0, y1, y2, y3]) hb) h1 (by decide) (by unfold maxLen; omega) (by omega) hbu w.heap.size rfl ?_
  intro g cap w' hown' hgrow hat hlt'
  exact h g cap w' hown' hgrow
/-- What Decode brings: none, or a world, by value, and how many bytes it is. -/
def DecPost (w : World) (bs : List Int) (e : Ending) (w' : World) : Prop := Below w.heap.size w w' ∧
  (((dJ bs).2 = none ∧ e = .returned (.tuple #[.agg zW, .int .i64 0, .iface 130 (.int .i64 9)])) ∨
    ∃ p : Nat, (dJ bs).2 = some p ∧ p ≤ bs.length ∧ ∃ Ag cg Ao co Ad cd Au cu Aj cj,
      e = .returned (.tuple #[.agg (cW (dW bs).turn (dW bs).next (dW bs).field.wide (dW bs).field.high (.slice Ag (dG bs).1.length cg) (.slice Ao (dO bs).1.length co) (.slice Ad (dD bs).1.length cd) (.slice Au (dU bs).1.length cu) (.slice Aj (dJ bs).1.length cj)), .int .i64 p, .nilIface]) ∧
      RD w' w'.heap.size 1 Ag (dG bs).1.length ((dG bs).1.map (.int .i64)) ∧ RD w' w'.heap.size 1 Ao (dO bs).1.length ((dO bs).1.map (.int .i64)) ∧ RD w' w'.heap.size 1 Ad (dD bs).1.length ((dD bs).1.map (.int .i64)) ∧
      RD w' w'.heap.size 8 Au (dU bs).1.length ((dU bs).1.flatMap uC) ∧ RD w' w'.heap.size 4 Aj (dJ bs).1.length ((dJ bs).1.flatMap jC))
set_option maxHeartbeats 12800000 in
set_option maxRecDepth 100000 in
theorem decode_any (A : Option Addr) (c : Nat) (bs : List Int) (w : World) (h : RD w w.heap.size 1 A bs.length (bs.map (.int .u8))) (hbs : ∀ x ∈ bs, Byte x) (hl : bs.length ≤ 9223372036854775807) :
    Calls Tryd.prog 13 #[.slice A bs.length c] w (DecPost w bs) := by
  have H := Lib.hid h
  have HB := Lib.hid hbs
  clear h hbs
  obtain ⟨x1, s1, f1⟩ : ∃ x s, rdS bs (some 0) = (x, s) := ⟨_, _, rfl⟩
  obtain ⟨x2, s2, f2⟩ : ∃ x s, rdS bs s1 = (x, s) := ⟨_, _, rfl⟩
  obtain ⟨x3, s3, f3⟩ : ∃ x s, rdS bs s2 = (x, s) := ⟨_, _, rfl⟩
  obtain ⟨x4, s4, f4⟩ : ∃ x s, rdS bs s3 = (x, s) := ⟨_, _, rfl⟩
  obtain ⟨G, sG, fG⟩ : ∃ x s, rdLs bs s4 = (x, s) := ⟨_, _, rfl⟩
  obtain ⟨O, sO, fO⟩ : ∃ x s, rdLs bs sG = (x, s) := ⟨_, _, rfl⟩
  obtain ⟨D, sD, fD⟩ : ∃ x s, rdLs bs sO = (x, s) := ⟨_, _, rfl⟩
  obtain ⟨mu, sU, fU⟩ : ∃ m : Nat, ∃ s, rdM bs sD 200 = ((m : Int), s) := ⟨(rdM bs sD 200).1.toNat, (rdM bs sD 200).2, by rw [Int.toNat_of_nonneg (rdM_bd bs sD).1]⟩
  have hmu : mu ≤ 200 := by have := (rdM_bd bs sD).2; rw [fU] at this; dsimp only at this; omega
  have qN : dN bs 4 = ([x1, x2, x3, x4], s4) := by simp only [dN, rdNs, f1, f2, f3, f4, List.nil_append, List.cons_append]
  have qG : dG bs = (G, sG) := by unfold dG; rw [qN]; exact fG
  have qO : dO bs = (O, sO) := by unfold dO; rw [qG]; exact fO
  have qD : dD bs = (D, sD) := by unfold dD; rw [qO]; exact fD
  have qU : dU bs = rdUs bs sU mu := by unfold dU dMu; rw [qD, fU]; rfl
  obtain ⟨mj, sJ, fJ⟩ : ∃ m : Nat, ∃ s, rdM bs (rdUs bs sU mu).2 200 = ((m : Int), s) := ⟨(rdM bs (rdUs bs sU mu).2 200).1.toNat, (rdM bs (rdUs bs sU mu).2 200).2, by rw [Int.toNat_of_nonneg (rdM_bd bs (rdUs bs sU mu).2).1]⟩
  have hmj : mj ≤ 200 := by have := (rdM_bd bs (rdUs bs sU mu).2).2; rw [fJ] at this; dsimp only at this; omega
  have qJ : dJ bs = rdJs bs sJ mj := by unfold dJ dMj; rw [qU, fJ]; rfl
  have qW : (dW bs).turn = x1 ∧ (dW bs).next = x2 ∧ (dW bs).field.wide = x3 ∧ (dW bs).field.high = x4 := by unfold dW; rw [qN]; exact ⟨rfl, rfl, rfl, rfl⟩
  replace f1 := Lib.hid f1
  replace f2 := Lib.hid f2
  replace f3 := Lib.hid f3
  replace f4 := Lib.hid f4
  replace fG := Lib.hid fG
  replace fO := Lib.hid fO
  replace fD := Lib.hid fD
  replace fU := Lib.hid fU
  replace qN := Lib.hid qN
  replace qG := Lib.hid qG
  replace qO := Lib.hid qO
  replace qD := Lib.hid qD
  replace qU := Lib.hid qU
  replace fJ := Lib.hid fJ
  replace qJ := Lib.hid qJ
  replace qW := Lib.hid qW
  go_enter Tryd.func13, Tryd.ntmps13
  go_upto_region 2 with fail
  have hs1 : ((w.alloc (.cells zW 29)).alloc (.cells #[.slice A bs.length c, .int .i64 0, .bool false] 129)).heap.size = w.heap.size + 1 + 1 := by simp
  have hz1 : Blk ((w.alloc (.cells zW 29)).alloc (.cells #[.slice A bs.length c, .int .i64 0, .bool false] 129)) w.heap.size 29 zW := (Blk.new w _ _).alloc _
  have hr1 : ROk ((w.alloc (.cells zW 29)).alloc (.cells #[.slice A bs.length c, .int .i64 0, .bool false] 129)) (w.heap.size + 1) A c w.heap.size bs (some 0) :=
    ROk.mk' (q := 0) false (Blk.newD _ 129 #[.slice A bs.length c, .int .i64 0, .bool false] _ (by simp)) rfl (Nat.zero_le _) (fun p h => by injection h) ((H.out.alloc (Nat.le_refl _) _).alloc (by simp) _) (fun b o e hp => by
      obtain ⟨b', o', e', hlt, _⟩ := H.out.2 hp
      rw [e] at e'
      injection e' with e'
      injection e' with e1 e2
      omega)
  have hb1 : Below w.heap.size w ((w.alloc (.cells zW 29)).alloc (.cells #[.slice A bs.length c, .int .i64 0, .bool false] 129)) := ((Below.refl _ _).alloc (Nat.le_refl _) _).alloc (by simp) _
  change Code.wp _ _ _ _ ((w.alloc (.cells zW 29)).alloc (.cells #[.slice A bs.length c, .int .i64 0, .bool false] 129))
  generalize ((w.alloc (.cells zW 29)).alloc (.cells #[.slice A bs.length c, .int .i64 0, .bool false] 129)) = W1 at *
  generalize hr0 : w.heap.size = r0 at *
  generalize hg : r0 + 1 = g at *
  replace hz1 := Lib.hid hz1
  replace hr1 := Lib.hid hr1
  replace hb1 := Lib.hid hb1
  have hn := rnum_any (some 0) W1 hr1.out HB.out hl
  rw [f1.out] at hn
  replace hn := Lib.hid hn
  go_wp2_with fail
  refine hn.out.mono ?_
  clear hn
  rintro e W2 ⟨rfl, hr2, hq2⟩
  replace hz1 := Lib.hid (hz1.out.grown hq2 (fun e => by injection e; omega))
  replace hb1 := Lib.hid (hb1.out.grown hq2 (by omega) (fun b e => by injection e; omega))
  have hs2 := hq2.size
  have hn := rnum_any s1 W2 hr2 HB.out hl
  rw [f2.out] at hn
  replace hn := Lib.hid hn
  clear hq2 hr2 hr1
  go_wp2_with fail
  refine hn.out.mono ?_
  clear hn
  rintro e W3 ⟨rfl, hr3, hq3⟩
  replace hz1 := Lib.hid (hz1.out.grown hq3 (fun e => by injection e; omega))
  replace hb1 := Lib.hid (hb1.out.grown hq3 (by omega) (fun b e => by injection e; omega))
  have hs3 := hq3.size
  replace hr3 := Lib.hid hr3
  clear hq3
  go_upto_region 3 with fail
  have hD : DW w r0 g W3.heap.size zW A c bs s2 (W3.heap.size + 1) [] (cW x1 x2 0 0 (.slice none 0 0) (.slice none 0 0) (.slice none 0 0) (.slice none 0 0) (.slice none 0 0)) (W3.alloc (.cells (cW x1 x2 0 0 (.slice none 0 0) (.slice none 0 0) (.slice none 0 0) (.slice none 0 0) (.slice none 0 0)) 29)) :=
    ⟨hz1.out.alloc _, hr3.out.grown (World.grownBy_alloc W3 _ none) (by simp) (by simp), hb1.out.alloc (by omega) _, Blk.new W3 _ _, Fin_.nil _ _ _, by omega, by omega, by omega, by simp⟩
  change Code.wp _ _ _ _ (W3.alloc (.cells (cW x1 x2 0 0 (.slice none 0 0) (.slice none 0 0) (.slice none 0 0) (.slice none 0 0) (.slice none 0 0)) 29))
  generalize (W3.alloc (.cells (cW x1 x2 0 0 (.slice none 0 0) (.slice none 0 0) (.slice none 0 0) (.slice none 0 0) (.slice none 0 0)) 29)) = W4 at *
  generalize W3.heap.size = q at *
  clear hz1 hr3 hb1 hs1 hs2 hs3
  have D4 := Lib.hid hD
  clear hD
  have hn := D4.out.num HB.out hl
  rw [f3.out] at hn
  replace hn := Lib.hid hn
  go_wp2_with fail
  refine hn.out.mono ?_
  clear hn
  rintro e W5 ⟨rfl, D5, _⟩
  replace D5 := Lib.hid D5
  clear D4
  have hn := D5.out.num HB.out hl
  rw [f4.out] at hn
  replace hn := Lib.hid hn
  go_wp2_with fail
  refine hn.out.mono ?_
  clear hn
  rintro e W6 ⟨rfl, D6, _⟩
  replace D6 := Lib.hid D6
  clear D5
  have hn := D6.out.list HB.out hl
  rw [fG.out] at hn
  replace hn := Lib.hid hn
  go_wp2_with fail
  refine hn.out.mono ?_
  clear hn
  rintro e W7 ⟨Ag, cg, rfl, D7⟩
  replace D7 := Lib.hid D7
  clear D6
  have hn := D7.out.list HB.out hl
  rw [fO.out] at hn
  replace hn := Lib.hid hn
  go_wp2_with fail
  refine hn.out.mono ?_
  clear hn
  rintro e W8 ⟨Ao, co, rfl, D8⟩
  replace D8 := Lib.hid D8
  clear D7
  have c2 : W8.cell? ⟨q, 2, none⟩ = some (.int .i64 0) := D8.out.wb.cell 2
  have c3 : W8.cell? ⟨q, 3, none⟩ = some (.int .i64 0) := D8.out.wb.cell 3
  have c4 : W8.cell? ⟨q, 4, none⟩ = some (.slice none 0 0) := D8.out.wb.cell 4
  have c5 : W8.cell? ⟨q, 5, none⟩ = some (.slice none 0 0) := D8.out.wb.cell 5
  have z2 := D8.out.wb.frozen 2
  have z3 := D8.out.wb.frozen 3
  have z4 := D8.out.wb.frozen 4
  have z5 := D8.out.wb.frozen 5
  have lq := D8.out.wb.lt
  go_upto_region 4 with fail
  have D9 : DW w r0 g q zW A c bs sO W8.heap.size [⟨3, 1, .slice Ao O.length co, O.length, O.map (.int .i64)⟩, ⟨3, 1, .slice Ag G.length cg, G.length, G.map (.int .i64)⟩] (cW x1 x2 x3 x4 (.slice Ag G.length cg) (.slice Ao O.length co) (.slice none 0 0) (.slice none 0 0) (.slice none 0 0)) ((((W8.setCell ⟨q, 2, none⟩ (.int .i64 x3)).setCell ⟨q, 3, none⟩ (.int .i64 x4)).setCell ⟨q, 4, none⟩ (.slice Ag G.length cg)).setCell ⟨q, 5, none⟩ (.slice Ao O.length co)) := (((D8.out.set 2 (.int .i64 x3)).set 3 (.int .i64 x4)).set 4 (.slice Ag G.length cg)).set 5 (.slice Ao O.length co)
  replace D9 := Lib.hid D9
  clear c2 c3 c4 c5 z2 z3 z4 z5 lq D8
  generalize ((((W8.setCell ⟨q, 2, none⟩ (.int .i64 x3)).setCell ⟨q, 3, none⟩ (.int .i64 x4)).setCell ⟨q, 4, none⟩ (.slice Ag G.length cg)).setCell ⟨q, 5, none⟩ (.slice Ao O.length co)) = W9 at *
  generalize W8.heap.size = b9 at *
  have hn := D9.out.list HB.out hl
  rw [fD.out] at hn
  replace hn := Lib.hid hn
  go_wp2_with fail
  refine hn.out.mono ?_
  clear hn
  rintro e W10 ⟨Ad, cd, rfl, D10⟩
  replace D10 := Lib.hid D10
  clear D9
  have c6 : W10.cell? ⟨q, 6, none⟩ = some (.slice none 0 0) := D10.out.wb.cell 6
  have z6 := D10.out.wb.frozen 6
  have lq := D10.out.wb.lt
  go_upto_region 5 with fail
  have D11 : DW w r0 g q zW A c bs sD W10.heap.size [⟨3, 1, .slice Ad D.length cd, D.length, D.map (.int .i64)⟩, ⟨3, 1, .slice Ao O.length co, O.length, O.map (.int .i64)⟩, ⟨3, 1, .slice Ag G.length cg, G.length, G.map (.int .i64)⟩] (cW x1 x2 x3 x4 (.slice Ag G.length cg) (.slice Ao O.length co) (.slice Ad D.length cd) (.slice none 0 0) (.slice none 0 0)) (W10.setCell ⟨q, 6, none⟩ (.slice Ad D.length cd)) := D10.out.set 6 (.slice Ad D.length cd)
  replace D11 := Lib.hid D11
  clear c6 z6 lq D10
  generalize (W10.setCell ⟨q, 6, none⟩ (.slice Ad D.length cd)) = W11 at *
  generalize W10.heap.size = b11 at *
  have hn := D11.out.many HB.out hl
  rw [fU.out] at hn
  replace hn := Lib.hid hn
  go_wp2_with fail
  refine hn.out.mono ?_
  clear hn
  rintro e W12 ⟨rfl, D12, _⟩
  replace D12 := Lib.hid D12
  clear D11
  go_wp2_with fail
  go_loopw [30] (fun vi wr => ∃ k : Nat, ∃ Au cu, vi = .int .i64 k ∧ k ≤ mu ∧ Hid (DW w r0 g q zW A c bs (rdUs bs sU k).2 b11 [⟨3, 1, .slice Ad D.length cd, D.length, D.map (.int .i64)⟩, ⟨3, 1, .slice Ao O.length co, O.length, O.map (.int .i64)⟩, ⟨3, 1, .slice Ag G.length cg, G.length, G.map (.int .i64)⟩] (cW x1 x2 x3 x4 (.slice Ag G.length cg) (.slice Ao O.length co) (.slice Ad D.length cd) (.slice Au k cu) (.slice none 0 0)) wr) ∧ Hid (wr.ownsRow b11 62 8 (.slice Au k cu) k ((rdUs bs sU k).1.flatMap uC))) (fun vi _ => mu - (intOf vi).toNat)
  case atStart => exact ⟨0, none, 0, rfl, Nat.zero_le _, D12, Lib.hid (World.ownsRow_nil _ _ _ _)⟩
  case round =>
    clear D12
    obtain ⟨k, Au, cu, rfl, hk, hD, ho⟩ := hrel
    by_cases hlt : k < mu
    · as_aux_lemma =>
      have j1 : (k : Int) < (mu : Int) := by omega
      have hnx : rdUs bs sU (k + 1) = ((rdUs bs sU k).1 ++ [uOf (rdNs bs (rdUs bs sU k).2 8).1], (rdNs bs (rdUs bs sU k).2 8).2) := rfl
      generalize hst : (rdUs bs sU k).2 = s0 at *
      generalize hcs : (rdUs bs sU k).1.flatMap uC = cs0 at *
      have hcs0 := Lib.hid hcs
      clear hst
      obtain ⟨y1, t1, e1⟩ : ∃ x s, rdS bs s0 = (x, s) := ⟨_, _, rfl⟩
      obtain ⟨y2, t2, e2⟩ : ∃ x s, rdS bs t1 = (x, s) := ⟨_, _, rfl⟩
      obtain ⟨y3, t3, e3⟩ : ∃ x s, rdS bs t2 = (x, s) := ⟨_, _, rfl⟩
      obtain ⟨y4, t4, e4⟩ : ∃ x s, rdS bs t3 = (x, s) := ⟨_, _, rfl⟩
      obtain ⟨y5, t5, e5⟩ : ∃ x s, rdS bs t4 = (x, s) := ⟨_, _, rfl⟩
      obtain ⟨y6, t6, e6⟩ : ∃ x s, rdS bs t5 = (x, s) := ⟨_, _, rfl⟩
      obtain ⟨y7, t7, e7⟩ : ∃ x s, rdS bs t6 = (x, s) := ⟨_, _, rfl⟩
      obtain ⟨y8, t8, e8⟩ : ∃ x s, rdS bs t7 = (x, s) := ⟨_, _, rfl⟩
      have h8 : rdNs bs s0 8 = ([y1, y2, y3, y4, y5, y6, y7, y8], t8) := by simp only [rdNs, e1, e2, e3, e4, e5, e6, e7, e8, List.nil_append, List.cons_append]
      have hn1 : (rdUs bs sU (k + 1)).2 = t8 := by rw [hnx, h8]
      have hn2 : (rdUs bs sU (k + 1)).1.flatMap uC = cs0 ++ [.int .i64 y1, .int .i64 y2, .int .i64 y3, .int .i64 y4, .int .i64 y5, .int .i64 y6, .int .i64 y7, .int .i64 y8] := by
        rw [hnx, h8, List.flatMap_append, hcs]; rfl
      replace hn1 := Lib.hid hn1
      replace hn2 := Lib.hid hn2
      clear hnx h8 hcs
      replace e1 := Lib.hid e1
      replace e2 := Lib.hid e2
      replace e3 := Lib.hid e3
      replace e4 := Lib.hid e4
      replace e5 := Lib.hid e5
      replace e6 := Lib.hid e6
      replace e7 := Lib.hid e7
      replace e8 := Lib.hid e8
      go_upto_region 7 with fail
      refine wp_region_noPanic ?_
      refine wp_region_twoB (fun w' : World => w'.cell? ⟨q, 7, none⟩ = some (.slice Au k cu)) 21 2 (by kernel_rfl) rfl (by kernel_rfl) ?_
      have hD0 := hD.out.drewN 1
      have ho0 : wr.drew.ownsRow b11 62 8 (.slice Au k cu) k cs0 := ho.out
      have hH0 : wr.drew.cell? ⟨q, 7, none⟩ = some (.slice Au k cu) := hD0.wb.cell 7
      replace hD0 := Lib.hid hD0
      replace ho0 := Lib.hid ho0
      refine wpAnyH_take (i := 0) (oi := _) (v := ?_) rfl (by kernel_rfl) (by kernel_rfl) (by kernel_rfl) (fun _ _ _ h => h) (Or.inl ⟨by rfl, ?_⟩) hH0 ?_
      rotate_left
      · intro w' hSw
        (try dsimp only at hSw)
        first | (go_simp; done) | (go_simp; with_reducible rfl)
      try simp only [List.getElem_toArray, List.getElem_cons_zero, Act.put, List.setIfInBounds_toArray, List.set_cons_zero, List.set_cons_succ]
      refine wpAnyH_take (i := 1) (oi := _) (v := ?_) rfl (by kernel_rfl) (by kernel_rfl) (by kernel_rfl) (fun _ _ _ h => h) (Or.inl ⟨by rfl, ?_⟩) hH0 ?_
      rotate_left
      · intro w' hSw
        (try dsimp only at hSw)
        first | (go_simp; done) | (go_simp; with_reducible rfl)
      try simp only [List.getElem_toArray, List.getElem_cons_zero, List.getElem_cons_succ, Act.put, List.setIfInBounds_toArray, List.set_cons_zero, List.set_cons_succ]
      refine wpAnyH_take (i := 2) (oi := _) (v := ?_) rfl (by kernel_rfl) (by kernel_rfl) (by kernel_rfl) (fun _ _ _ h => h) (Or.inl ⟨by rfl, ?_⟩) hH0 ?_
      rotate_left
      · intro w' hSw
        (try dsimp only at hSw)
        first | (go_simp; done) | (go_simp; with_reducible rfl)
      try simp only [List.getElem_toArray, List.getElem_cons_zero, List.getElem_cons_succ, Act.put, List.setIfInBounds_toArray, List.set_cons_zero, List.set_cons_succ]
      refine wpAnyH_take (i := 4) (oi := _) (v := ?_) rfl (by kernel_rfl) (by kernel_rfl) (by kernel_rfl) (fun _ _ _ h => h) (Or.inl ⟨by rfl, ?_⟩) hH0 ?_
      rotate_left
      · intro w' hSw
        (try dsimp only at hSw)
        first | (go_simp; done) | (go_simp; with_reducible rfl)
      try simp only [List.getElem_toArray, List.getElem_cons_zero, List.getElem_cons_succ, Act.put, List.setIfInBounds_toArray, List.set_cons_zero, List.set_cons_succ]
      refine wpAnyH_take (i := 6) (oi := _) (v := ?_) rfl (by kernel_rfl) (by kernel_rfl) (by kernel_rfl) (fun _ _ _ h => h) (Or.inl ⟨by rfl, ?_⟩) hH0 ?_
      rotate_left
      · intro w' hSw
        (try dsimp only at hSw)
        first | (go_simp; done) | (go_simp; with_reducible rfl)
      try simp only [List.getElem_toArray, List.getElem_cons_zero, List.getElem_cons_succ, Act.put, List.setIfInBounds_toArray, List.set_cons_zero, List.set_cons_succ]
      refine wpAnyH_take (i := 8) (oi := _) (v := ?_) rfl (by kernel_rfl) (by kernel_rfl) (by kernel_rfl) (fun _ _ _ h => h) (Or.inl ⟨by rfl, ?_⟩) hH0 ?_
      rotate_left
      · intro w' hSw
        (try dsimp only at hSw)
        first | (go_simp; done) | (go_simp; with_reducible rfl)
      try simp only [List.getElem_toArray, List.getElem_cons_zero, List.getElem_cons_succ, Act.put, List.setIfInBounds_toArray, List.set_cons_zero, List.set_cons_succ]
      refine wpAnyH_take (i := 10) (oi := _) (v := ?_) rfl (by kernel_rfl) (by kernel_rfl) (by kernel_rfl) (fun _ _ _ h => h) (Or.inl ⟨by rfl, ?_⟩) hH0 ?_
      rotate_left
      · intro w' hSw
        (try dsimp only at hSw)
        first | (go_simp; done) | (go_simp; with_reducible rfl)
      try simp only [List.getElem_toArray, List.getElem_cons_zero, List.getElem_cons_succ, Act.put, List.setIfInBounds_toArray, List.set_cons_zero, List.set_cons_succ]
      refine wpAnyH_take (i := 12) (oi := _) (v := ?_) rfl (by kernel_rfl) (by kernel_rfl) (by kernel_rfl) (fun _ _ _ h => h) (Or.inl ⟨by rfl, ?_⟩) hH0 ?_
      rotate_left
      · intro w' hSw
        (try dsimp only at hSw)
        first | (go_simp; done) | (go_simp; with_reducible rfl)
      try simp only [List.getElem_toArray, List.getElem_cons_zero, List.getElem_cons_succ, Act.put, List.setIfInBounds_toArray, List.set_cons_zero, List.set_cons_succ]
      refine wpAnyH_take (i := 14) (oi := _) (v := ?_) rfl (by kernel_rfl) (by kernel_rfl) (by kernel_rfl) (fun _ _ _ h => h) (Or.inl ⟨by rfl, ?_⟩) hH0 ?_
      rotate_left
      · intro w' hSw
        (try dsimp only at hSw)
        first | (go_simp; done) | (go_simp; with_reducible rfl)
      try simp only [List.getElem_toArray, List.getElem_cons_zero, List.getElem_cons_succ, Act.put, List.setIfInBounds_toArray, List.set_cons_zero, List.set_cons_succ]
      refine wpAnyH_take (i := 16) (oi := _) (v := ?_) rfl (by kernel_rfl) (by kernel_rfl) (by kernel_rfl) (fun _ _ _ h => h) (Or.inl ⟨by rfl, ?_⟩) hH0 ?_
      rotate_left
      · intro w' hSw
        (try dsimp only at hSw)
        first | (go_simp; done) | (go_simp; with_reducible rfl)
      try simp only [List.getElem_toArray, List.getElem_cons_zero, List.getElem_cons_succ, Act.put, List.setIfInBounds_toArray, List.set_cons_zero, List.set_cons_succ]
      refine wpAnyH_ready (rs := [3]) (by kernel_rfl) (by simp) ?_
      refine AllReadyH.cons (o := { dst := some 35, op := .call { callee := .value (.func 71), args := #[.tmp 34], argTypes := _ }, type := _, pos := _, after := _, guard := none }) rfl (fun K hK => ?_) AllReadyH.nil
      go_simp
      have hn := hD0.out.num HB.out hl
      rw [e1.out] at hn
      refine hn.mono ?_
      clear hn
      rintro e w1 ⟨rfl, hD1, hg⟩
      have ho1 := hD0.out.own_num ho0.out hg
      replace hD1 := Lib.hid hD1
      replace ho1 := Lib.hid ho1
      clear hg
      go_wp2_with fail
      refine hK.out _ _ (hD1.out.wb.cell 7) (fun hHeld => ?_)
      clear hK K
      try simp only [List.getElem_toArray, List.getElem_cons_zero, List.getElem_cons_succ, Act.put, List.setIfInBounds_toArray, List.set_cons_zero, List.set_cons_succ]
      refine wpAnyH_ready (rs := [5]) (by kernel_rfl) (by simp) ?_
      refine AllReadyH.cons (o := { dst := some 37, op := .call { callee := .value (.func 71), args := #[.tmp 36], argTypes := _ }, type := _, pos := _, after := _, guard := none }) rfl (fun K hK => ?_) AllReadyH.nil
      go_simp
      have hn := hD1.out.num HB.out hl
      rw [e2.out] at hn
      refine hn.mono ?_
      clear hn
      rintro e w2 ⟨rfl, hD2, hg⟩
      have ho2 := hD1.out.own_num ho1.out hg
      replace hD2 := Lib.hid hD2
      replace ho2 := Lib.hid ho2
      clear hg
      go_wp2_with fail
      refine hK.out _ _ (hD2.out.wb.cell 7) (fun hHeld => ?_)
      clear hK K
      try simp only [List.getElem_toArray, List.getElem_cons_zero, List.getElem_cons_succ, Act.put, List.setIfInBounds_toArray, List.set_cons_zero, List.set_cons_succ]
      refine wpAnyH_ready (rs := [7]) (by kernel_rfl) (by simp) ?_
      refine AllReadyH.cons (o := { dst := some 39, op := .call { callee := .value (.func 71), args := #[.tmp 38], argTypes := _ }, type := _, pos := _, after := _, guard := none }) rfl (fun K hK => ?_) AllReadyH.nil
      go_simp
      have hn := hD2.out.num HB.out hl
      rw [e3.out] at hn
      refine hn.mono ?_
      clear hn
      rintro e w3 ⟨rfl, hD3, hg⟩
      have ho3 := hD2.out.own_num ho2.out hg
      replace hD3 := Lib.hid hD3
      replace ho3 := Lib.hid ho3
      clear hg
      go_wp2_with fail
      refine hK.out _ _ (hD3.out.wb.cell 7) (fun hHeld => ?_)
      clear hK K
      try simp only [List.getElem_toArray, List.getElem_cons_zero, List.getElem_cons_succ, Act.put, List.setIfInBounds_toArray, List.set_cons_zero, List.set_cons_succ]
      refine wpAnyH_ready (rs := [9]) (by kernel_rfl) (by simp) ?_
      refine AllReadyH.cons (o := { dst := some 41, op := .call { callee := .value (.func 71), args := #[.tmp 40], argTypes := _ }, type := _, pos := _, after := _, guard := none }) rfl (fun K hK => ?_) AllReadyH.nil
      go_simp
      have hn := hD3.out.num HB.out hl
      rw [e4.out] at hn
      refine hn.mono ?_
      clear hn
      rintro e w4 ⟨rfl, hD4, hg⟩
      have ho4 := hD3.out.own_num ho3.out hg
      replace hD4 := Lib.hid hD4
      replace ho4 := Lib.hid ho4
      clear hg
      go_wp2_with fail
      refine hK.out _ _ (hD4.out.wb.cell 7) (fun hHeld => ?_)
      clear hK K
      try simp only [List.getElem_toArray, List.getElem_cons_zero, List.getElem_cons_succ, Act.put, List.setIfInBounds_toArray, List.set_cons_zero, List.set_cons_succ]
      refine wpAnyH_ready (rs := [11]) (by kernel_rfl) (by simp) ?_
      refine AllReadyH.cons (o := { dst := some 43, op := .call { callee := .value (.func 71), args := #[.tmp 42], argTypes := _ }, type := _, pos := _, after := _, guard := none }) rfl (fun K hK => ?_) AllReadyH.nil
      go_simp
      have hn := hD4.out.num HB.out hl
      rw [e5.out] at hn
      refine hn.mono ?_
      clear hn
      rintro e w5 ⟨rfl, hD5, hg⟩
      have ho5 := hD4.out.own_num ho4.out hg
      replace hD5 := Lib.hid hD5
      replace ho5 := Lib.hid ho5
      clear hg
      go_wp2_with fail
      refine hK.out _ _ (hD5.out.wb.cell 7) (fun hHeld => ?_)
      clear hK K
      try simp only [List.getElem_toArray, List.getElem_cons_zero, List.getElem_cons_succ, Act.put, List.setIfInBounds_toArray, List.set_cons_zero, List.set_cons_succ]
      refine wpAnyH_ready (rs := [13]) (by kernel_rfl) (by simp) ?_
      refine AllReadyH.cons (o := { dst := some 45, op := .call { callee := .value (.func 71), args := #[.tmp 44], argTypes := _ }, type := _, pos := _, after := _, guard := none }) rfl (fun K hK => ?_) AllReadyH.nil
      go_simp
      have hn := hD5.out.num HB.out hl
      rw [e6.out] at hn
      refine hn.mono ?_
      clear hn
      rintro e w6 ⟨rfl, hD6, hg⟩
      have ho6 := hD5.out.own_num ho5.out hg
      replace hD6 := Lib.hid hD6
      replace ho6 := Lib.hid ho6
      clear hg
      go_wp2_with fail
      refine hK.out _ _ (hD6.out.wb.cell 7) (fun hHeld => ?_)
      clear hK K
      try simp only [List.getElem_toArray, List.getElem_cons_zero, List.getElem_cons_succ, Act.put, List.setIfInBounds_toArray, List.set_cons_zero, List.set_cons_succ]
      refine wpAnyH_ready (rs := [15]) (by kernel_rfl) (by simp) ?_
      refine AllReadyH.cons (o := { dst := some 47, op := .call { callee := .value (.func 71), args := #[.tmp 46], argTypes := _ }, type := _, pos := _, after := _, guard := none }) rfl (fun K hK => ?_) AllReadyH.nil
      go_simp
      have hn := hD6.out.num HB.out hl
      rw [e7.out] at hn
      refine hn.mono ?_
      clear hn
      rintro e w7 ⟨rfl, hD7, hg⟩
      have ho7 := hD6.out.own_num ho6.out hg
      replace hD7 := Lib.hid hD7
      replace ho7 := Lib.hid ho7
      clear hg
      go_wp2_with fail
      refine hK.out _ _ (hD7.out.wb.cell 7) (fun hHeld => ?_)
      clear hK K
      try simp only [List.getElem_toArray, List.getElem_cons_zero, List.getElem_cons_succ, Act.put, List.setIfInBounds_toArray, List.set_cons_zero, List.set_cons_succ]
      refine wpAnyH_ready (rs := [17]) (by kernel_rfl) (by simp) ?_
      refine AllReadyH.cons (o := { dst := some 49, op := .call { callee := .value (.func 71), args := #[.tmp 48], argTypes := _ }, type := _, pos := _, after := _, guard := none }) rfl (fun K hK => ?_) AllReadyH.nil
      go_simp
      have hn := hD7.out.num HB.out hl
      rw [e8.out] at hn
      refine hn.mono ?_
      clear hn
      rintro e w8 ⟨rfl, hD8, hg⟩
      have ho8 := hD7.out.own_num ho7.out hg
      replace hD8 := Lib.hid hD8
      replace ho8 := Lib.hid ho8
      clear hg
      go_wp2_with fail
      refine hK.out _ _ (hD8.out.wb.cell 7) (fun hHeld => ?_)
      clear hK K
      try simp only [List.getElem_toArray, List.getElem_cons_zero, List.getElem_cons_succ, Act.put, List.setIfInBounds_toArray, List.set_cons_zero, List.set_cons_succ]
      refine wpAnyH_ready (rs := [18]) (by kernel_rfl) (by simp) ?_
      refine AllReadyH.cons (o := { dst := some 50, op := .build 62 #[(0, .tmp 35), (1, .tmp 37), (2, .tmp 39), (3, .tmp 41), (4, .tmp 43), (5, .tmp 45), (6, .tmp 47), (7, .tmp 49)], type := _, pos := _, after := _, guard := none }) rfl (fun K hK => ?_) AllReadyH.nil
      rw [if_pos (by rfl)]
      refine wp_buildK _ _ #[.int .i64 y1, .int .i64 y2, .int .i64 y3, .int .i64 y4, .int .i64 y5, .int .i64 y6, .int .i64 y7, .int .i64 y8] rfl _ (built_unit y1 y2 y3 y4 y5 y6 y7 y8) (by simp only [List.map_toArray, List.map_cons, List.map_nil]; rfl) ?_
      refine hK.out _ _ hHeld (fun hHeld => ?_)
      clear hK K
      try simp only [Act.put, List.setIfInBounds_toArray, List.set_cons_zero, List.set_cons_succ]
      refine wpAnyH_ready (rs := [19]) (by kernel_rfl) (by simp) ?_
      refine AllReadyH.cons (o := { dst := some 51, op := .buildSlice 26 1 #[(0, .tmp 50)], type := _, pos := _, after := _, guard := none }) rfl (fun K hK => ?_) AllReadyH.nil
      rw [if_pos (by rfl)]
      refine wp_bsK _ _ _ _ rfl _ (bs_unit y1 y2 y3 y4 y5 y6 y7 y8 w8) (by simp only [List.map_toArray, List.map_cons, List.map_nil]; rfl) ?_
      have hDa := hD8.out.alloc (.cells #[.int .i64 y1, .int .i64 y2, .int .i64 y3, .int .i64 y4, .int .i64 y5, .int .i64 y6, .int .i64 y7, .int .i64 y8] 62)
      have hoa := ho8.out.alloc (.cells #[.int .i64 y1, .int .i64 y2, .int .i64 y3, .int .i64 y4, .int .i64 y5, .int .i64 y6, .int .i64 y7, .int .i64 y8] 62)
      have hba := Blk.newD w8 62 #[.int .i64 y1, .int .i64 y2, .int .i64 y3, .int .i64 y4, .int .i64 y5, .int .i64 y6, .int .i64 y7, .int .i64 y8] _ rfl
      replace hDa := Lib.hid hDa
      replace hoa := Lib.hid hoa
      replace hba := Lib.hid hba
      refine hK.out _ _ (hDa.out.wb.cell 7) (fun hHeld => ?_)
      clear hK K
      try simp only [Act.put, List.setIfInBounds_toArray, List.set_cons_zero, List.set_cons_succ]
      refine wpAnyH_ready (rs := [20]) (by kernel_rfl) (by simp) ?_
      refine AllReadyH.cons (o := _) rfl (fun K hK => ?_) AllReadyH.nil
      refine step_unit (by rfl) (.tmp 33) (.tmp 51) (by rfl) b11 (.slice Au k cu) k cs0 (.int .i64 y1) (.int .i64 y2) (.int .i64 y3) (.int .i64 y4) (.int .i64 y5) (.int .i64 y6) (.int .i64 y7) (.int .i64 y8) (by rfl) hoa.out _ _ (by rfl) hba.out (by simp [Value.oneCell']) (by omega) hDa.out.lt4 ?_
      intro gn cn wb hob hgb
      have hDb := hDa.out.grown hgb (fun b e => (hoa.out.lt b e).1)
      replace hDb := Lib.hid hDb
      replace hob := Lib.hid hob
      clear hgb
      refine hK.out _ _ (hDb.out.wb.cell 7) (fun hHeld => ?_)
      clear hK K
      try simp only [List.getElem_toArray, List.getElem_cons_zero, List.getElem_cons_succ, Act.put, List.setIfInBounds_toArray, List.set_cons_zero, List.set_cons_succ]
      refine wpAnyH_done (by kernel_rfl) ?_ _
      have fz := hDb.out.wb.frozen 7
      have cz := hDb.out.wb.cell 7
      refine wpAny_of_held (S := fun _ => True) _ _ _ _ ?_
      refine wpAnyH_take (i := 21) (oi := _) (v := ?_) rfl (by kernel_rfl) (by kernel_rfl) (by kernel_rfl) (fun _ _ _ h => h) (Or.inl ⟨by rfl, ?_⟩) trivial ?_
      rotate_left
      · intro w' hSw
        (try dsimp only at hSw)
        first | (go_simp; done) | (go_simp; with_reducible rfl)
      try simp only [List.getElem_toArray, List.getElem_cons_zero, List.getElem_cons_succ, Act.put, List.setIfInBounds_toArray, List.set_cons_zero, List.set_cons_succ]
      refine wpAnyH_ready (rs := [22]) (by kernel_rfl) (by simp) ?_
      refine AllReadyH.cons (o := _) rfl (fun K hK => ?_) AllReadyH.nil
      go_simp
      refine hK.out _ _ trivial (fun _ => ?_)
      clear hK K
      try simp only [List.getElem_toArray, List.getElem_cons_zero, List.getElem_cons_succ, Act.put, List.setIfInBounds_toArray, List.set_cons_zero, List.set_cons_succ]
      refine wpAnyH_done (by kernel_rfl) ?_ _
      refine NoPanic.normal ?_
      have hDc := hDb.out.set 7 (.slice (some ⟨gn, 0, none⟩) (k + 1) cn)
      have hoc := hDb.out.own_set hob.out 7 (.slice (some ⟨gn, 0, none⟩) (k + 1) cn)
      replace hDc := Lib.hid hDc
      replace hoc := Lib.hid hoc
      clear fz cz
      go_wp2_with fail
      go_roundw
      case rel => exact ⟨k + 1, some ⟨gn, 0, none⟩, cn, by go_num, by omega, Lib.hid (by rw [hn1.out]; exact hDc.out), Lib.hid (by rw [hn2.out]; exact hoc.out)⟩
      case measure => simp [intOf]; omega
    · have j1 : ¬ (k : Int) < (mu : Int) := by omega
      obtain rfl : k = mu := by omega
      have D13 := hD.out.row ⟨62, 8, .slice Au k cu, k, (rdUs bs sU k).1.flatMap uC⟩ ho.out
      replace D13 := Lib.hid D13
      generalize wr.heap.size = b13 at *
      generalize wr = W13 at *
      clear hD ho
      have hn := D13.out.many HB.out hl
      rw [fJ.out] at hn
      replace hn := Lib.hid hn
      go_wp2_with fail
      refine hn.out.mono ?_
      clear hn
      rintro e W14 ⟨rfl, D14, _⟩
      replace D14 := Lib.hid D14
      clear D13
      go_wp2_with fail
      go_loopw [57] (fun vi wr => ∃ j : Nat, ∃ Aj cj, vi = .int .i64 j ∧ j ≤ mj ∧ Hid (DW w r0 g q zW A c bs (rdJs bs sJ j).2 b13 [⟨62, 8, .slice Au k cu, k, (rdUs bs sU k).1.flatMap uC⟩, ⟨3, 1, .slice Ad D.length cd, D.length, D.map (.int .i64)⟩, ⟨3, 1, .slice Ao O.length co, O.length, O.map (.int .i64)⟩, ⟨3, 1, .slice Ag G.length cg, G.length, G.map (.int .i64)⟩] (cW x1 x2 x3 x4 (.slice Ag G.length cg) (.slice Ao O.length co) (.slice Ad D.length cd) (.slice Au k cu) (.slice Aj j cj)) wr) ∧ Hid (wr.ownsRow b13 127 4 (.slice Aj j cj) j ((rdJs bs sJ j).1.flatMap jC))) (fun vi _ => mj - (intOf vi).toNat)
      case atStart => exact ⟨0, none, 0, rfl, Nat.zero_le _, D14, Lib.hid (World.ownsRow_nil _ _ _ _)⟩
      case round =>
        clear D14
        generalize hmk : k = K0 at *
        obtain ⟨k, Aj, cj, rfl, hk2, hD, ho⟩ := hrel
        by_cases hlt : k < mj
        · as_aux_lemma =>
          have j1 : (k : Int) < (mj : Int) := by omega
          have hnx : rdJs bs sJ (k + 1) = ((rdJs bs sJ k).1 ++ [jOf (rdNs bs (rdJs bs sJ k).2 4).1], (rdNs bs (rdJs bs sJ k).2 4).2) := rfl
          generalize hst : (rdJs bs sJ k).2 = s0 at *
          generalize hcs : (rdJs bs sJ k).1.flatMap jC = cs0 at *
          have hcs0 := Lib.hid hcs
          clear hst
          obtain ⟨y1, t1, e1⟩ : ∃ x s, rdS bs s0 = (x, s) := ⟨_, _, rfl⟩
          obtain ⟨y2, t2, e2⟩ : ∃ x s, rdS bs t1 = (x, s) := ⟨_, _, rfl⟩
          obtain ⟨y3, t3, e3⟩ : ∃ x s, rdS bs t2 = (x, s) := ⟨_, _, rfl⟩
          obtain ⟨y4, t4, e4⟩ : ∃ x s, rdS bs t3 = (x, s) := ⟨_, _, rfl⟩
          have h8 : rdNs bs s0 4 = ([y1, y2, y3, y4], t4) := by simp only [rdNs, e1, e2, e3, e4, List.nil_append, List.cons_append]
          have hn1 : (rdJs bs sJ (k + 1)).2 = t4 := by rw [hnx, h8]
          have hn2 : (rdJs bs sJ (k + 1)).1.flatMap jC = cs0 ++ [.int .i64 y1, .int .i64 y2, .int .i64 y3, .int .i64 y4] := by
            rw [hnx, h8, List.flatMap_append, hcs]; rfl
          replace hn1 := Lib.hid hn1
          replace hn2 := Lib.hid hn2
          replace hmk := Lib.hid hmk
          clear hnx h8 hcs
          replace e1 := Lib.hid e1
          replace e2 := Lib.hid e2
          replace e3 := Lib.hid e3
          replace e4 := Lib.hid e4
          go_upto_region 11 with fail
          refine wp_region_noPanic ?_
          refine wp_region_twoB (fun w' : World => w'.cell? ⟨q, 8, none⟩ = some (.slice Aj k cj)) 13 2 (by kernel_rfl) rfl (by kernel_rfl) ?_
          have hD0 := hD.out.drewN 1
          have ho0 : wr.drew.ownsRow b13 127 4 (.slice Aj k cj) k cs0 := ho.out
          have hH0 : wr.drew.cell? ⟨q, 8, none⟩ = some (.slice Aj k cj) := hD0.wb.cell 8
          replace hD0 := Lib.hid hD0
          replace ho0 := Lib.hid ho0
          refine wpAnyH_take (i := 0) (oi := _) (v := ?_) rfl (by kernel_rfl) (by kernel_rfl) (by kernel_rfl) (fun _ _ _ h => h) (Or.inl ⟨by rfl, ?_⟩) hH0 ?_
          rotate_left
          · intro w' hSw
            (try dsimp only at hSw)
            first | (go_simp; done) | (go_simp; with_reducible rfl)
          try simp only [List.getElem_toArray, List.getElem_cons_zero, Act.put, List.setIfInBounds_toArray, List.set_cons_zero, List.set_cons_succ]
          refine wpAnyH_take (i := 1) (oi := _) (v := ?_) rfl (by kernel_rfl) (by kernel_rfl) (by kernel_rfl) (fun _ _ _ h => h) (Or.inl ⟨by rfl, ?_⟩) hH0 ?_
          rotate_left
          · intro w' hSw
            (try dsimp only at hSw)
            first | (go_simp; done) | (go_simp; with_reducible rfl)
          try simp only [List.getElem_toArray, List.getElem_cons_zero, List.getElem_cons_succ, Act.put, List.setIfInBounds_toArray, List.set_cons_zero, List.set_cons_succ]
          refine wpAnyH_take (i := 2) (oi := _) (v := ?_) rfl (by kernel_rfl) (by kernel_rfl) (by kernel_rfl) (fun _ _ _ h => h) (Or.inl ⟨by rfl, ?_⟩) hH0 ?_
          rotate_left
          · intro w' hSw
            (try dsimp only at hSw)
            first | (go_simp; done) | (go_simp; with_reducible rfl)
          try simp only [List.getElem_toArray, List.getElem_cons_zero, List.getElem_cons_succ, Act.put, List.setIfInBounds_toArray, List.set_cons_zero, List.set_cons_succ]
          refine wpAnyH_take (i := 4) (oi := _) (v := ?_) rfl (by kernel_rfl) (by kernel_rfl) (by kernel_rfl) (fun _ _ _ h => h) (Or.inl ⟨by rfl, ?_⟩) hH0 ?_
          rotate_left
          · intro w' hSw
            (try dsimp only at hSw)
            first | (go_simp; done) | (go_simp; with_reducible rfl)
          try simp only [List.getElem_toArray, List.getElem_cons_zero, List.getElem_cons_succ, Act.put, List.setIfInBounds_toArray, List.set_cons_zero, List.set_cons_succ]
          refine wpAnyH_take (i := 6) (oi := _) (v := ?_) rfl (by kernel_rfl) (by kernel_rfl) (by kernel_rfl) (fun _ _ _ h => h) (Or.inl ⟨by rfl, ?_⟩) hH0 ?_
          rotate_left
          · intro w' hSw
            (try dsimp only at hSw)
            first | (go_simp; done) | (go_simp; with_reducible rfl)
          try simp only [List.getElem_toArray, List.getElem_cons_zero, List.getElem_cons_succ, Act.put, List.setIfInBounds_toArray, List.set_cons_zero, List.set_cons_succ]
          refine wpAnyH_take (i := 8) (oi := _) (v := ?_) rfl (by kernel_rfl) (by kernel_rfl) (by kernel_rfl) (fun _ _ _ h => h) (Or.inl ⟨by rfl, ?_⟩) hH0 ?_
          rotate_left
          · intro w' hSw
            (try dsimp only at hSw)
            first | (go_simp; done) | (go_simp; with_reducible rfl)
          try simp only [List.getElem_toArray, List.getElem_cons_zero, List.getElem_cons_succ, Act.put, List.setIfInBounds_toArray, List.set_cons_zero, List.set_cons_succ]
          refine wpAnyH_ready (rs := [3]) (by kernel_rfl) (by simp) ?_
          refine AllReadyH.cons (o := { dst := some 62, op := .call { callee := .value (.func 71), args := #[.tmp 61], argTypes := _ }, type := _, pos := _, after := _, guard := none }) rfl (fun K hK => ?_) AllReadyH.nil
          go_simp
          have hn := hD0.out.num HB.out hl
          rw [e1.out] at hn
          refine hn.mono ?_
          clear hn
          rintro e w1 ⟨rfl, hD1, hg⟩
          have ho1 := hD0.out.own_num ho0.out hg
          replace hD1 := Lib.hid hD1
          replace ho1 := Lib.hid ho1
          clear hg
          go_wp2_with fail
          refine hK.out _ _ (hD1.out.wb.cell 8) (fun hHeld => ?_)
          clear hK K
          try simp only [List.getElem_toArray, List.getElem_cons_zero, List.getElem_cons_succ, Act.put, List.setIfInBounds_toArray, List.set_cons_zero, List.set_cons_succ]
          refine wpAnyH_ready (rs := [5]) (by kernel_rfl) (by simp) ?_
          refine AllReadyH.cons (o := { dst := some 64, op := .call { callee := .value (.func 71), args := #[.tmp 63], argTypes := _ }, type := _, pos := _, after := _, guard := none }) rfl (fun K hK => ?_) AllReadyH.nil
          go_simp
          have hn := hD1.out.num HB.out hl
          rw [e2.out] at hn
          refine hn.mono ?_
          clear hn
          rintro e w2 ⟨rfl, hD2, hg⟩
          have ho2 := hD1.out.own_num ho1.out hg
          replace hD2 := Lib.hid hD2
          replace ho2 := Lib.hid ho2
          clear hg
          go_wp2_with fail
          refine hK.out _ _ (hD2.out.wb.cell 8) (fun hHeld => ?_)
          clear hK K
          try simp only [List.getElem_toArray, List.getElem_cons_zero, List.getElem_cons_succ, Act.put, List.setIfInBounds_toArray, List.set_cons_zero, List.set_cons_succ]
          refine wpAnyH_ready (rs := [7]) (by kernel_rfl) (by simp) ?_
          refine AllReadyH.cons (o := { dst := some 66, op := .call { callee := .value (.func 71), args := #[.tmp 65], argTypes := _ }, type := _, pos := _, after := _, guard := none }) rfl (fun K hK => ?_) AllReadyH.nil
          go_simp
          have hn := hD2.out.num HB.out hl
          rw [e3.out] at hn
          refine hn.mono ?_
          clear hn
          rintro e w3 ⟨rfl, hD3, hg⟩
          have ho3 := hD2.out.own_num ho2.out hg
          replace hD3 := Lib.hid hD3
          replace ho3 := Lib.hid ho3
          clear hg
          go_wp2_with fail
          refine hK.out _ _ (hD3.out.wb.cell 8) (fun hHeld => ?_)
          clear hK K
          try simp only [List.getElem_toArray, List.getElem_cons_zero, List.getElem_cons_succ, Act.put, List.setIfInBounds_toArray, List.set_cons_zero, List.set_cons_succ]
          refine wpAnyH_ready (rs := [9]) (by kernel_rfl) (by simp) ?_
          refine AllReadyH.cons (o := { dst := some 68, op := .call { callee := .value (.func 71), args := #[.tmp 67], argTypes := _ }, type := _, pos := _, after := _, guard := none }) rfl (fun K hK => ?_) AllReadyH.nil
          go_simp
          have hn := hD3.out.num HB.out hl
          rw [e4.out] at hn
          refine hn.mono ?_
          clear hn
          rintro e w4 ⟨rfl, hD4, hg⟩
          have ho4 := hD3.out.own_num ho3.out hg
          replace hD4 := Lib.hid hD4
          replace ho4 := Lib.hid ho4
          clear hg
          go_wp2_with fail
          refine hK.out _ _ (hD4.out.wb.cell 8) (fun hHeld => ?_)
          clear hK K
          try simp only [List.getElem_toArray, List.getElem_cons_zero, List.getElem_cons_succ, Act.put, List.setIfInBounds_toArray, List.set_cons_zero, List.set_cons_succ]
          refine wpAnyH_ready (rs := [10]) (by kernel_rfl) (by simp) ?_
          refine AllReadyH.cons (o := { dst := some 69, op := .build 127 #[(0, .tmp 62), (1, .tmp 64), (2, .tmp 66), (3, .tmp 68)], type := _, pos := _, after := _, guard := none }) rfl (fun K hK => ?_) AllReadyH.nil
          rw [if_pos (by rfl)]
          refine wp_buildK _ _ #[.int .i64 y1, .int .i64 y2, .int .i64 y3, .int .i64 y4] rfl _ (built_job y1 y2 y3 y4) (by simp only [List.map_toArray, List.map_cons, List.map_nil]; rfl) ?_
          refine hK.out _ _ hHeld (fun hHeld => ?_)
          clear hK K
          try simp only [Act.put, List.setIfInBounds_toArray, List.set_cons_zero, List.set_cons_succ]
          refine wpAnyH_ready (rs := [11]) (by kernel_rfl) (by simp) ?_
          refine AllReadyH.cons (o := { dst := some 70, op := .buildSlice 27 1 #[(0, .tmp 69)], type := _, pos := _, after := _, guard := none }) rfl (fun K hK => ?_) AllReadyH.nil
          rw [if_pos (by rfl)]
          refine wp_bsK _ _ _ _ rfl _ (bs_job y1 y2 y3 y4 w4) (by simp only [List.map_toArray, List.map_cons, List.map_nil]; rfl) ?_
          have hDa := hD4.out.alloc (.cells #[.int .i64 y1, .int .i64 y2, .int .i64 y3, .int .i64 y4] 127)
          have hoa := ho4.out.alloc (.cells #[.int .i64 y1, .int .i64 y2, .int .i64 y3, .int .i64 y4] 127)
          have hba := Blk.newD w4 127 #[.int .i64 y1, .int .i64 y2, .int .i64 y3, .int .i64 y4] _ rfl
          replace hDa := Lib.hid hDa
          replace hoa := Lib.hid hoa
          replace hba := Lib.hid hba
          refine hK.out _ _ (hDa.out.wb.cell 8) (fun hHeld => ?_)
          clear hK K
          try simp only [Act.put, List.setIfInBounds_toArray, List.set_cons_zero, List.set_cons_succ]
          refine wpAnyH_ready (rs := [12]) (by kernel_rfl) (by simp) ?_
          refine AllReadyH.cons (o := _) rfl (fun K hK => ?_) AllReadyH.nil
          refine step_job (by rfl) (.tmp 60) (.tmp 70) (by rfl) b13 (.slice Aj k cj) k cs0 (.int .i64 y1) (.int .i64 y2) (.int .i64 y3) (.int .i64 y4) (by rfl) hoa.out _ _ (by rfl) hba.out (by simp [Value.oneCell']) (by omega) hDa.out.lt4 ?_
          intro gn cn wb hob hgb
          have hDb := hDa.out.grown hgb (fun b e => (hoa.out.lt b e).1)
          replace hDb := Lib.hid hDb
          replace hob := Lib.hid hob
          clear hgb
          refine hK.out _ _ (hDb.out.wb.cell 8) (fun hHeld => ?_)
          clear hK K
          try simp only [List.getElem_toArray, List.getElem_cons_zero, List.getElem_cons_succ, Act.put, List.setIfInBounds_toArray, List.set_cons_zero, List.set_cons_succ]
          refine wpAnyH_done (by kernel_rfl) ?_ _
          have fz := hDb.out.wb.frozen 8
          have cz := hDb.out.wb.cell 8
          refine wpAny_of_held (S := fun _ => True) _ _ _ _ ?_
          refine wpAnyH_take (i := 13) (oi := _) (v := ?_) rfl (by kernel_rfl) (by kernel_rfl) (by kernel_rfl) (fun _ _ _ h => h) (Or.inl ⟨by rfl, ?_⟩) trivial ?_
          rotate_left
          · intro w' hSw
            (try dsimp only at hSw)
            first | (go_simp; done) | (go_simp; with_reducible rfl)
          try simp only [List.getElem_toArray, List.getElem_cons_zero, List.getElem_cons_succ, Act.put, List.setIfInBounds_toArray, List.set_cons_zero, List.set_cons_succ]
          refine wpAnyH_ready (rs := [14]) (by kernel_rfl) (by simp) ?_
          refine AllReadyH.cons (o := _) rfl (fun K hK => ?_) AllReadyH.nil
          go_simp
          refine hK.out _ _ trivial (fun _ => ?_)
          clear hK K
          try simp only [List.getElem_toArray, List.getElem_cons_zero, List.getElem_cons_succ, Act.put, List.setIfInBounds_toArray, List.set_cons_zero, List.set_cons_succ]
          refine wpAnyH_done (by kernel_rfl) ?_ _
          refine NoPanic.normal ?_
          have hDc := hDb.out.set 8 (.slice (some ⟨gn, 0, none⟩) (k + 1) cn)
          have hoc := hDb.out.own_set hob.out 8 (.slice (some ⟨gn, 0, none⟩) (k + 1) cn)
          replace hDc := Lib.hid hDc
          replace hoc := Lib.hid hoc
          clear fz cz
          go_wp2_with fail
          go_roundw
          case rel => exact ⟨k + 1, some ⟨gn, 0, none⟩, cn, by go_num, by omega, Lib.hid (by rw [hn1.out]; exact hDc.out), Lib.hid (by rw [hn2.out]; exact hoc.out)⟩
          case measure => simp [intOf]; omega
        · have j1 : ¬ (k : Int) < (mj : Int) := by omega
          obtain rfl : k = mj := by omega
          have D15 := hD.out.row ⟨127, 4, .slice Aj k cj, k, (rdJs bs sJ k).1.flatMap jC⟩ ho.out
          replace D15 := Lib.hid D15
          generalize wr.heap.size = b15 at *
          generalize wr = W15 at *
          clear hD ho
          obtain ⟨qq, hqb, hql, hqp⟩ := D15.out.rok.blk
          have lr0 := D15.out.zer.lt
          have lq0 := D15.out.wb.lt
          have lg0 := hqb.lt
          have hbel := D15.out.bel
          replace hbel := Lib.hid hbel
          have zc0 : W15.cell? ⟨r0, 0, none⟩ = some (.int .i64 0) := D15.out.zer.cell 0
          have zf0 := D15.out.zer.frozen 0
          have zc1 : W15.cell? ⟨r0, 1, none⟩ = some (.int .i64 0) := D15.out.zer.cell 1
          have zf1 := D15.out.zer.frozen 1
          have zc2 : W15.cell? ⟨r0, 2, none⟩ = some (.int .i64 0) := D15.out.zer.cell 2
          have zf2 := D15.out.zer.frozen 2
          have zc3 : W15.cell? ⟨r0, 3, none⟩ = some (.int .i64 0) := D15.out.zer.cell 3
          have zf3 := D15.out.zer.frozen 3
          have zc4 : W15.cell? ⟨r0, 4, none⟩ = some (.slice none 0 0) := D15.out.zer.cell 4
          have zf4 := D15.out.zer.frozen 4
          have zc5 : W15.cell? ⟨r0, 5, none⟩ = some (.slice none 0 0) := D15.out.zer.cell 5
          have zf5 := D15.out.zer.frozen 5
          have zc6 : W15.cell? ⟨r0, 6, none⟩ = some (.slice none 0 0) := D15.out.zer.cell 6
          have zf6 := D15.out.zer.frozen 6
          have zc7 : W15.cell? ⟨r0, 7, none⟩ = some (.slice none 0 0) := D15.out.zer.cell 7
          have zf7 := D15.out.zer.frozen 7
          have zc8 : W15.cell? ⟨r0, 8, none⟩ = some (.slice none 0 0) := D15.out.zer.cell 8
          have zf8 := D15.out.zer.frozen 8
          cases hst : (rdJs bs sJ k).2 with
          | none =>
            rw [hst] at hqb
            have rc2 : W15.cell? ⟨g, 2, none⟩ = some (.bool true) := hqb.cell 2
            have hJn : (dJ bs).2 = none := by rw [qJ.out]; exact hst
            replace hJn := Lib.hid hJn
            clear hst
            replace hqb := Lib.hid hqb
            have hzB : Blk (((((((((W15.setCell ⟨r0, 0, none⟩ (.int .i64 0)).setCell ⟨r0, 1, none⟩ (.int .i64 0)).setCell ⟨r0, 2, none⟩ (.int .i64 0)).setCell ⟨r0, 3, none⟩ (.int .i64 0)).setCell ⟨r0, 4, none⟩ (.slice none 0 0)).setCell ⟨r0, 5, none⟩ (.slice none 0 0)).setCell ⟨r0, 6, none⟩ (.slice none 0 0)).setCell ⟨r0, 7, none⟩ (.slice none 0 0)).setCell ⟨r0, 8, none⟩ (.slice none 0 0)) r0 29 zW := (((((((((D15.out.zer.set_ 0 (.int .i64 0)).set_ 1 (.int .i64 0)).set_ 2 (.int .i64 0)).set_ 3 (.int .i64 0)).set_ 4 (.slice none 0 0)).set_ 5 (.slice none 0 0)).set_ 6 (.slice none 0 0)).set_ 7 (.slice none 0 0)).set_ 8 (.slice none 0 0))
            have hbB : Below r0 w (((((((((W15.setCell ⟨r0, 0, none⟩ (.int .i64 0)).setCell ⟨r0, 1, none⟩ (.int .i64 0)).setCell ⟨r0, 2, none⟩ (.int .i64 0)).setCell ⟨r0, 3, none⟩ (.int .i64 0)).setCell ⟨r0, 4, none⟩ (.slice none 0 0)).setCell ⟨r0, 5, none⟩ (.slice none 0 0)).setCell ⟨r0, 6, none⟩ (.slice none 0 0)).setCell ⟨r0, 7, none⟩ (.slice none 0 0)).setCell ⟨r0, 8, none⟩ (.slice none 0 0)) := (((((((((hbel.out.setCell (p := ⟨r0, 0, none⟩) (Nat.le_refl _) (.int .i64 0)).setCell (p := ⟨r0, 1, none⟩) (Nat.le_refl _) (.int .i64 0)).setCell (p := ⟨r0, 2, none⟩) (Nat.le_refl _) (.int .i64 0)).setCell (p := ⟨r0, 3, none⟩) (Nat.le_refl _) (.int .i64 0)).setCell (p := ⟨r0, 4, none⟩) (Nat.le_refl _) (.slice none 0 0)).setCell (p := ⟨r0, 5, none⟩) (Nat.le_refl _) (.slice none 0 0)).setCell (p := ⟨r0, 6, none⟩) (Nat.le_refl _) (.slice none 0 0)).setCell (p := ⟨r0, 7, none⟩) (Nat.le_refl _) (.slice none 0 0)).setCell (p := ⟨r0, 8, none⟩) (Nat.le_refl _) (.slice none 0 0))
            replace hzB := Lib.hid hzB
            replace hbB := Lib.hid hbB
            go_wp2_with fail
            (try simp only [Exit.inBlock, Exit.then])
            refine bodyPost_ret (results_ctt rfl _ _ r0 _ zW _ rfl hzB.out Tryd.underlying29 rfl (by kernel_rfl)) rfl ?_
            exact ⟨hr0 ▸ hbB.out, .inl ⟨hJn.out, rfl⟩⟩
          | some p =>
            obtain rfl := hqp p hst
            rw [hst] at hqb
            have rc1 : W15.cell? ⟨g, 1, none⟩ = some (.int .i64 (qq : Int)) := hqb.cell 1
            have rc2 : W15.cell? ⟨g, 2, none⟩ = some (.bool false) := hqb.cell 2
            have hJn : (dJ bs).2 = some qq := by rw [qJ.out]; exact hst
            replace hJn := Lib.hid hJn
            have hst' := Lib.hid hst
            clear hst
            have hcw := D15.out
            rw [hst'.out] at hcw
            have hqB : Blk W15 q 29 #[.int .i64 x1, .int .i64 x2, .int .i64 x3, .int .i64 x4, .slice Ag G.length cg, .slice Ao O.length co, .slice Ad D.length cd, .slice Au K0 cu, .slice Aj k cj] := hcw.wb
            have hgB := hqb
            have n1 : q ≠ r0 := by have := hcw.lt1; have := hcw.lt2; omega
            have n2 : g ≠ r0 := by have := hcw.lt1; omega
            replace hqB := Lib.hid hqB
            replace hgB := Lib.hid hgB
            replace n1 := Lib.hid n1
            replace n2 := Lib.hid n2
            replace hcw := Lib.hid hcw
            replace hqb := Lib.hid hqb
            go_upto_region 15 with fail
            refine wp_region_noPanic ?_
            refine wp_region_held_drew (S := fun w' => Blk w' q 29 #[.int .i64 x1, .int .i64 x2, .int .i64 x3, .int .i64 x4, .slice Ag G.length cg, .slice Ao O.length co, .slice Ad D.length cd, .slice Au K0 cu, .slice Aj k cj] ∧ Blk w' g 129 #[.slice A bs.length c, .int .i64 (qq : Int), .bool false]) (by kernel_rfl) ⟨hqB.out.drew, hgB.out.drew⟩ (fun hH0 => ?_)
            refine wpAnyH_take (i := 0) (oi := _) (v := ?_) rfl (by kernel_rfl) (by kernel_rfl) (by kernel_rfl) (fun _ _ _ h => h) (Or.inl ⟨by rfl, ?_⟩) hH0 ?_
            rotate_left
            · intro w' hSw
              (try dsimp only at hSw)
              (refine exec_load_row 29 (.tmp 6) ?_ q ?_ _ _ _ hSw.1 Tryd.underlying29 rfl (by kernel_rfl) <;> rfl)
            try simp only [List.getElem_toArray, List.getElem_cons_zero, Act.put, List.setIfInBounds_toArray, List.set_cons_zero, List.set_cons_succ]
            refine wpAnyH_take (i := 1) (oi := _) (v := ?_) rfl (by kernel_rfl) (by kernel_rfl) (by kernel_rfl) (fun _ _ _ h => h) (Or.inl ⟨by rfl, ?_⟩) hH0 ?_
            rotate_left
            · intro w' hSw
              (try dsimp only at hSw)
              first | (go_simp; done) | (go_simp; with_reducible rfl)
            try simp only [List.getElem_toArray, List.getElem_cons_zero, List.getElem_cons_succ, Act.put, List.setIfInBounds_toArray, List.set_cons_zero, List.set_cons_succ]
            refine wpAnyH_take (i := 2) (oi := _) (v := ?_) rfl (by kernel_rfl) (by kernel_rfl) (by kernel_rfl) (fun _ _ _ h => h) (Or.inl ⟨by rfl, ?_⟩) hH0 ?_
            rotate_left
            · intro w' hSw
              (try dsimp only at hSw)
              first | (go_simp; done) | (go_simp; with_reducible rfl)
            try simp only [List.getElem_toArray, List.getElem_cons_zero, List.getElem_cons_succ, Act.put, List.setIfInBounds_toArray, List.set_cons_zero, List.set_cons_succ]
            refine wpAnyH_take (i := 3) (oi := _) (v := ?_) rfl (by kernel_rfl) (by kernel_rfl) (by kernel_rfl) (fun _ _ _ h => h) (Or.inl ⟨by rfl, ?_⟩) hH0 ?_
            rotate_left
            · intro w' hSw
              (try dsimp only at hSw)
              first | (go_simp; done) | (go_simp; with_reducible rfl)
            try simp only [List.getElem_toArray, List.getElem_cons_zero, List.getElem_cons_succ, Act.put, List.setIfInBounds_toArray, List.set_cons_zero, List.set_cons_succ]
            refine wpAnyH_take (i := 4) (oi := _) (v := ?_) rfl (by kernel_rfl) (by kernel_rfl) (by kernel_rfl) (fun _ _ _ h => h) (Or.inl ⟨by rfl, ?_⟩) hH0 ?_
            rotate_left
            · intro w' hSw
              (try dsimp only at hSw)
              have h1 := hSw.2.cell 1
              change w'.cell? ⟨g, 1, none⟩ = some (.int .i64 (qq : Int)) at h1
              first | (go_simp; done) | (go_simp; with_reducible rfl)
            try simp only [List.getElem_toArray, List.getElem_cons_zero, List.getElem_cons_succ, Act.put, List.setIfInBounds_toArray, List.set_cons_zero, List.set_cons_succ]
            have zcB : Blk (((((((((W15.setCell ⟨r0, 0, none⟩ (.int .i64 x1)).setCell ⟨r0, 1, none⟩ (.int .i64 x2)).setCell ⟨r0, 2, none⟩ (.int .i64 x3)).setCell ⟨r0, 3, none⟩ (.int .i64 x4)).setCell ⟨r0, 4, none⟩ (.slice Ag G.length cg)).setCell ⟨r0, 5, none⟩ (.slice Ao O.length co)).setCell ⟨r0, 6, none⟩ (.slice Ad D.length cd)).setCell ⟨r0, 7, none⟩ (.slice Au K0 cu)).setCell ⟨r0, 8, none⟩ (.slice Aj k cj)).drew r0 29 #[.int .i64 x1, .int .i64 x2, .int .i64 x3, .int .i64 x4, .slice Ag G.length cg, .slice Ao O.length co, .slice Ad D.length cd, .slice Au K0 cu, .slice Aj k cj] := by
              have h := (((((((((D15.out.zer.set_ 0 (.int .i64 x1)).set_ 1 (.int .i64 x2)).set_ 2 (.int .i64 x3)).set_ 3 (.int .i64 x4)).set_ 4 (.slice Ag G.length cg)).set_ 5 (.slice Ao O.length co)).set_ 6 (.slice Ad D.length cd)).set_ 7 (.slice Au K0 cu)).set_ 8 (.slice Aj k cj))
              unfold zW at h
              simp only [List.setIfInBounds_toArray, List.set_cons_zero, List.set_cons_succ] at h
              exact h.drew
            have zbB : Below r0 w ((((((((((W15.setCell ⟨r0, 0, none⟩ (.int .i64 x1)).setCell ⟨r0, 1, none⟩ (.int .i64 x2)).setCell ⟨r0, 2, none⟩ (.int .i64 x3)).setCell ⟨r0, 3, none⟩ (.int .i64 x4)).setCell ⟨r0, 4, none⟩ (.slice Ag G.length cg)).setCell ⟨r0, 5, none⟩ (.slice Ao O.length co)).setCell ⟨r0, 6, none⟩ (.slice Ad D.length cd)).setCell ⟨r0, 7, none⟩ (.slice Au K0 cu)).setCell ⟨r0, 8, none⟩ (.slice Aj k cj)).drew) := (((((((((hbel.out.setCell (p := ⟨r0, 0, none⟩) (Nat.le_refl _) (.int .i64 x1)).setCell (p := ⟨r0, 1, none⟩) (Nat.le_refl _) (.int .i64 x2)).setCell (p := ⟨r0, 2, none⟩) (Nat.le_refl _) (.int .i64 x3)).setCell (p := ⟨r0, 3, none⟩) (Nat.le_refl _) (.int .i64 x4)).setCell (p := ⟨r0, 4, none⟩) (Nat.le_refl _) (.slice Ag G.length cg)).setCell (p := ⟨r0, 5, none⟩) (Nat.le_refl _) (.slice Ao O.length co)).setCell (p := ⟨r0, 6, none⟩) (Nat.le_refl _) (.slice Ad D.length cd)).setCell (p := ⟨r0, 7, none⟩) (Nat.le_refl _) (.slice Au K0 cu)).setCell (p := ⟨r0, 8, none⟩) (Nat.le_refl _) (.slice Aj k cj)).drew
            have zqB : Blk (((((((((W15.setCell ⟨r0, 0, none⟩ (.int .i64 x1)).setCell ⟨r0, 1, none⟩ (.int .i64 x2)).setCell ⟨r0, 2, none⟩ (.int .i64 x3)).setCell ⟨r0, 3, none⟩ (.int .i64 x4)).setCell ⟨r0, 4, none⟩ (.slice Ag G.length cg)).setCell ⟨r0, 5, none⟩ (.slice Ao O.length co)).setCell ⟨r0, 6, none⟩ (.slice Ad D.length cd)).setCell ⟨r0, 7, none⟩ (.slice Au K0 cu)).setCell ⟨r0, 8, none⟩ (.slice Aj k cj)).drew q 29 #[.int .i64 x1, .int .i64 x2, .int .i64 x3, .int .i64 x4, .slice Ag G.length cg, .slice Ao O.length co, .slice Ad D.length cd, .slice Au K0 cu, .slice Aj k cj] := (((((((((hqB.out.far (p := ⟨r0, 0, none⟩) n1.out (.int .i64 x1)).far (p := ⟨r0, 1, none⟩) n1.out (.int .i64 x2)).far (p := ⟨r0, 2, none⟩) n1.out (.int .i64 x3)).far (p := ⟨r0, 3, none⟩) n1.out (.int .i64 x4)).far (p := ⟨r0, 4, none⟩) n1.out (.slice Ag G.length cg)).far (p := ⟨r0, 5, none⟩) n1.out (.slice Ao O.length co)).far (p := ⟨r0, 6, none⟩) n1.out (.slice Ad D.length cd)).far (p := ⟨r0, 7, none⟩) n1.out (.slice Au K0 cu)).far (p := ⟨r0, 8, none⟩) n1.out (.slice Aj k cj)).drew
            have zgB : Blk (((((((((W15.setCell ⟨r0, 0, none⟩ (.int .i64 x1)).setCell ⟨r0, 1, none⟩ (.int .i64 x2)).setCell ⟨r0, 2, none⟩ (.int .i64 x3)).setCell ⟨r0, 3, none⟩ (.int .i64 x4)).setCell ⟨r0, 4, none⟩ (.slice Ag G.length cg)).setCell ⟨r0, 5, none⟩ (.slice Ao O.length co)).setCell ⟨r0, 6, none⟩ (.slice Ad D.length cd)).setCell ⟨r0, 7, none⟩ (.slice Au K0 cu)).setCell ⟨r0, 8, none⟩ (.slice Aj k cj)).drew g 129 #[.slice A bs.length c, .int .i64 (qq : Int), .bool false] := (((((((((hgB.out.far (p := ⟨r0, 0, none⟩) n2.out (.int .i64 x1)).far (p := ⟨r0, 1, none⟩) n2.out (.int .i64 x2)).far (p := ⟨r0, 2, none⟩) n2.out (.int .i64 x3)).far (p := ⟨r0, 3, none⟩) n2.out (.int .i64 x4)).far (p := ⟨r0, 4, none⟩) n2.out (.slice Ag G.length cg)).far (p := ⟨r0, 5, none⟩) n2.out (.slice Ao O.length co)).far (p := ⟨r0, 6, none⟩) n2.out (.slice Ad D.length cd)).far (p := ⟨r0, 7, none⟩) n2.out (.slice Au K0 cu)).far (p := ⟨r0, 8, none⟩) n2.out (.slice Aj k cj)).drew
            have zf16 := D15.out.fin.kept (grownBy_drew (grownBy_trans (grownBy_trans (grownBy_trans (grownBy_trans (grownBy_trans (grownBy_trans (grownBy_trans (grownBy_trans (grownBy_trans (World.grownBy.refl W15 (some r0)) (grownBy_set _ r0 0 (.int .i64 x1))) (grownBy_set _ r0 1 (.int .i64 x2))) (grownBy_set _ r0 2 (.int .i64 x3))) (grownBy_set _ r0 3 (.int .i64 x4))) (grownBy_set _ r0 4 (.slice Ag G.length cg))) (grownBy_set _ r0 5 (.slice Ao O.length co))) (grownBy_set _ r0 6 (.slice Ad D.length cd))) (grownBy_set _ r0 7 (.slice Au K0 cu))) (grownBy_set _ r0 8 (.slice Aj k cj)))) (fun b e => .inl (by have := D15.out.lt1; have := D15.out.lt2; injection e; omega))
            change Fin_ ((((((((((W15.setCell ⟨r0, 0, none⟩ (.int .i64 x1)).setCell ⟨r0, 1, none⟩ (.int .i64 x2)).setCell ⟨r0, 2, none⟩ (.int .i64 x3)).setCell ⟨r0, 3, none⟩ (.int .i64 x4)).setCell ⟨r0, 4, none⟩ (.slice Ag G.length cg)).setCell ⟨r0, 5, none⟩ (.slice Ao O.length co)).setCell ⟨r0, 6, none⟩ (.slice Ad D.length cd)).setCell ⟨r0, 7, none⟩ (.slice Au K0 cu)).setCell ⟨r0, 8, none⟩ (.slice Aj k cj)).drew) q b15 _ at zf16
            replace zf16 := Lib.hid zf16
            replace zcB := Lib.hid zcB
            replace zbB := Lib.hid zbB
            replace zqB := Lib.hid zqB
            replace zgB := Lib.hid zgB
            refine wpAnyH_ready (rs := [5]) (by kernel_rfl) (by simp) ?_
            refine AllReadyH.cons (o := { dst := none, op := .store 29 (.tmp 2) (.tmp 80), type := _, pos := _, after := _, guard := none }) rfl (fun K hK => ?_) AllReadyH.nil
            go_simp
            refine hK.out _ _ ⟨zqB.out, zgB.out⟩ (fun hHeld => ?_)
            clear hK K
            generalize (((((((((W15.setCell ⟨r0, 0, none⟩ (.int .i64 x1)).setCell ⟨r0, 1, none⟩ (.int .i64 x2)).setCell ⟨r0, 2, none⟩ (.int .i64 x3)).setCell ⟨r0, 3, none⟩ (.int .i64 x4)).setCell ⟨r0, 4, none⟩ (.slice Ag G.length cg)).setCell ⟨r0, 5, none⟩ (.slice Ao O.length co)).setCell ⟨r0, 6, none⟩ (.slice Ad D.length cd)).setCell ⟨r0, 7, none⟩ (.slice Au K0 cu)).setCell ⟨r0, 8, none⟩ (.slice Aj k cj)).drew = W16 at *
            try simp only [Act.put, List.setIfInBounds_toArray, List.set_cons_zero, List.set_cons_succ]
            refine wpAnyH_ready (rs := [6]) (by kernel_rfl) (by simp) ?_
            refine AllReadyH.cons (o := _) rfl (fun K hK => ?_) AllReadyH.nil
            go_simp
            refine hK.out _ _ hHeld (fun hHeld => ?_)
            clear hK K
            try simp only [List.getElem_toArray, List.getElem_cons_zero, List.getElem_cons_succ, Act.put, List.setIfInBounds_toArray, List.set_cons_zero, List.set_cons_succ]
            refine wpAnyH_ready (rs := [7]) (by kernel_rfl) (by simp) ?_
            refine AllReadyH.cons (o := _) rfl (fun K hK => ?_) AllReadyH.nil
            go_simp
            refine hK.out _ _ hHeld (fun hHeld => ?_)
            clear hK K
            try simp only [List.getElem_toArray, List.getElem_cons_zero, List.getElem_cons_succ, Act.put, List.setIfInBounds_toArray, List.set_cons_zero, List.set_cons_succ]
            refine wpAnyH_done (by kernel_rfl) ?_ _
            refine NoPanic.normal ?_
            go_wp2_with fail
            (try simp only [Exit.inBlock, Exit.then])
            refine bodyPost_ret (results_ctt rfl _ _ r0 _ #[.int .i64 x1, .int .i64 x2, .int .i64 x3, .int .i64 x4, .slice Ag G.length cg, .slice Ao O.length co, .slice Ad D.length cd, .slice Au K0 cu, .slice Aj k cj] _ rfl zcB.out Tryd.underlying29 rfl (by kernel_rfl)) rfl ?_
            have eG : (dG bs).1 = G := by rw [qG.out]
            have eO : (dO bs).1 = O := by rw [qO.out]
            have eD : (dD bs).1 = D := by rw [qD.out]
            have eU : (dU bs).1 = (rdUs bs sU K0).1 := by rw [qU.out]
            have eJ : (dJ bs).1 = (rdJs bs sJ k).1 := by rw [qJ.out]
            have lU : (dU bs).1.length = K0 := by rw [eU, rdUs_len]
            have lJ : (dJ bs).1.length = k := by rw [eJ, rdJs_len]
            have hf := zf16.out
            refine ⟨hr0 ▸ zbB.out, .inr ⟨qq, hJn.out, hql, Ag, cg, Ao, co, Ad, cd, Au, cu, Aj, cj, ?_, ?_, ?_, ?_, ?_, ?_⟩⟩
            · rw [eG, eO, eD, lU, lJ, qW.out.1, qW.out.2.1, qW.out.2.2.1, qW.out.2.2.2]; rfl
            · rw [eG]; exact RD.of_own (hf _ (by simp only [List.mem_cons]; exact .inr (.inr (.inr (.inr (.inl rfl)))))).1
            · rw [eO]; exact RD.of_own (hf _ (by simp only [List.mem_cons]; exact .inr (.inr (.inr (.inl rfl))))).1
            · rw [eD]; exact RD.of_own (hf _ (by simp only [List.mem_cons]; exact .inr (.inr (.inl rfl)))).1
            · rw [lU, eU]; exact RD.of_own (hf _ (by simp only [List.mem_cons]; exact .inr (.inl rfl))).1
            · rw [lJ, eJ]; exact RD.of_own (hf _ (by simp only [List.mem_cons]; exact .inl rfl)).1
end Go.Proofs.YtkngommlclcikaaDoor
