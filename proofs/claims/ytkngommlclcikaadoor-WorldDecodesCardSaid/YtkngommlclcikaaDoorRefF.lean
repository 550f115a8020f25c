import Derived.Test.YtkngommlclcikaaDoorRefE
import Derived.Test.YtkngommlclcikaaDoorPlainO
import Derived.Test.YtkngommlclcikaaDoorSameW
import Derived.Deep.CutBlock
namespace Go.Proofs.YtkngommlclcikaaDoor
set_option linter.unusedVariables false
open Go.RowKit
theorem wp_bsF {P : Program} {ops : Array Oper} {rest : List Oper} {o : Oper} {a : Act} {w w' : World} {Q : Exit → Act → World → Prop} (hg : o.guard = none) (t : TypeId) (n : Nat) (parts : Array (Nat × Operand)) (r : Value) (ho : o.op = .buildSlice t n parts)
    (vals : Array (Nat × Value)) (h0 : (Instr.buildSlice t n vals).run P w = .ok r w') (hv : (parts.map fun (i, x) => (i, a.eval x)) = vals) (h : wpList P ops Q rest (a.put o.dst r) w') : wpList P ops Q (o :: rest) a w := by
  refine wpList_plain hg fun _ hK => ?_
  unfold Oper.wp execOp
  simp only [ho, Sem.run_bind, hv, h0, Result.andThen_ok]
  exact hK _ _ h
theorem rdUs_stays {bs : List Int} {st : Option Nat} {k : Nat} (h : (rdUs bs st k).2 = none) : ∀ {n : Nat}, k ≤ n → (rdUs bs st n).2 = none
  | 0, hn => by obtain rfl : k = 0 := by omega
                exact h
  | n + 1, hn => by
    rcases Nat.lt_or_ge n k with h1 | h1
    · obtain rfl : k = n + 1 := by omega
      exact h
    · rw [rdUs, rdUs_stays h h1]; exact rdNs_none bs 8
theorem rdJs_stays {bs : List Int} {st : Option Nat} {k : Nat} (h : (rdJs bs st k).2 = none) : ∀ {n : Nat}, k ≤ n → (rdJs bs st n).2 = none
  | 0, hn => by obtain rfl : k = 0 := by omega
                exact h
  | n + 1, hn => by
    rcases Nat.lt_or_ge n k with h1 | h1
    · obtain rfl : k = n + 1 := by omega
      exact h
    · rw [rdJs, rdJs_stays h h1]; exact rdNs_none bs 4
theorem all_some (bs : List Int) (p : Nat) (h : (dJ bs).2 = some p) : (dG bs).2 ≠ none ∧ (dO bs).2 ≠ none ∧ (dD bs).2 ≠ none ∧ (dU bs).2 ≠ none := by
  have hU : (dU bs).2 ≠ none := fun e => by
    unfold dJ dMj at h
    rw [e, rdM_none] at h
    obtain ⟨m, hm⟩ := rdJs_from h
    cases hm
  have hD : (dD bs).2 ≠ none := fun e => hU (by
    unfold dU dMu
    rw [e, rdM_none]; rfl)
  have hO : (dO bs).2 ≠ none := fun e => hD (by
    unfold dD
    rw [e, rdLs_none])
  have hG : (dG bs).2 ≠ none := fun e => hO (by
    unfold dO
    rw [e, rdLs_none])
  exact ⟨hG, hO, hD, hU⟩
section
variable {w0 w w' : World} {r0 g q c bu : Nat} {z0 cs : Array Value} {A : Option Addr} {bs : List Int} {st : Option Nat} {rows : List Row}
theorem DWT.numD (h : DWT 124 w0 r0 g q z0 A c bs st bu rows cs w) (hbs : ∀ x ∈ bs, Byte x) (hl : bs.length ≤ 9223372036854775807) :
    Calls Tryd.prog 68 #[.pointer (some ⟨g, 0, none⟩)] w fun e w' => e = .returned (.int .i64 (rdS bs st).1) ∧ DWT 124 w0 r0 g q z0 A c bs (rdS bs st).2 bu rows cs w' ∧ w.grownBy w' (some g) := by
  refine (dnum_any st w h.rok hbs hl).mono ?_
  rintro e w' ⟨rfl, ho, hg⟩
  exact ⟨rfl, h.reader hg ho, hg⟩
theorem DWT.manyD (h : DWT 124 w0 r0 g q z0 A c bs st bu rows cs w) (hbs : ∀ x ∈ bs, Byte x) (hl : bs.length ≤ 9223372036854775807) :
    Calls Tryd.prog 70 #[.pointer (some ⟨g, 0, none⟩), .int .i64 200] w fun e w' => e = .returned (.int .i64 (rdM bs st 200).1) ∧ DWT 124 w0 r0 g q z0 A c bs (rdM bs st 200).2 bu rows cs w' ∧ w.grownBy w' (some g) := by
  refine (dmany_any st 200 w h.rok hbs hl).mono ?_
  rintro e w' ⟨rfl, ho, hg⟩
  exact ⟨rfl, h.reader hg ho, hg⟩
theorem DWT.listD (h : DWT 124 w0 r0 g q z0 A c bs st bu rows cs w) (hbs : ∀ x ∈ bs, Byte x) (hl : bs.length ≤ 9223372036854775807) :
    Calls Tryd.prog 69 #[.pointer (some ⟨g, 0, none⟩)] w fun e w' => ∃ Al cl, ∃ l : List Int, e = .returned (.slice Al l.length cl) ∧ l.length ≤ 200 ∧ DWT 124 w0 r0 g q z0 A c bs (rdLs bs st).2 w'.heap.size (⟨3, 1, .slice Al l.length cl, l.length, l.map (.int .i64)⟩ :: rows) cs w' ∧ ((rdLs bs st).2 ≠ none → l = (rdLs bs st).1) := by
  have h1 := h.lt1; have h2 := h.lt2; have h3 := h.lt3; have h4 := h.lt4
  refine (dlist_any st w h.rok hbs hl (by omega)).mono ?_
  rintro e w' ⟨v, l, rfl, hl2, hown, ho, hg, he⟩
  obtain ⟨Al, cl, rfl, _⟩ := own_slice hown
  exact ⟨Al, cl, l, rfl, hl2, (h.reader hg ho).row ⟨3, 1, .slice Al l.length cl, l.length, l.map (.int .i64)⟩ (own_low hown (by omega)), he⟩
end
/-- A thing is being read, in block gu, to be put behind those in the row vu. -/
structure US (w0 : World) (r0 g q : Nat) (A : Option Addr) (c : Nat) (bs : List Int) (bu : Nat) (rows : List Row) (cs : Array Value) (T : TypeId) (sz k : Nat) (xs : List Value) (vu : Value) (gu : Nat) (st : Option Nat) (us : Array Value) (w : World) : Prop where
  d : DWT 124 w0 r0 g q zW A c bs st bu rows cs w
  o : w.ownsRow bu T sz vu k xs
  b : Blk w gu T us
  n : bu ≤ gu
  m : vu.ownBlock ≠ some gu
section
variable {w0 w w' : World} {r0 g q c bu sz k gu : Nat} {cs us : Array Value} {A : Option Addr} {bs : List Int} {st : Option Nat} {rows : List Row} {T : TypeId} {xs : List Value} {vu : Value}
theorem US.start (us : Array Value) (d : DWT 124 w0 r0 g q zW A c bs st bu rows cs w) (o : w.ownsRow bu T sz vu k xs) : US w0 r0 g q A c bs bu rows cs T sz k xs vu w.heap.size st us (w.alloc (.cells us T)) :=
  ⟨d.alloc _, o.alloc _, Blk.new w T us, d.lt4, fun e => by have := (o.lt _ e).2; omega⟩
theorem US.num (h : US w0 r0 g q A c bs bu rows cs T sz k xs vu gu st us w) (hbs : ∀ x ∈ bs, Byte x) (hl : bs.length ≤ 9223372036854775807) :
    Calls Tryd.prog 68 #[.pointer (some ⟨g, 0, none⟩)] w fun e w' => e = .returned (.int .i64 (rdS bs st).1) ∧ US w0 r0 g q A c bs bu rows cs T sz k xs vu gu (rdS bs st).2 us w' := by
  have h2 := h.d.lt2; have h3 := h.d.lt3; have hn := h.n
  refine (dnum_any st w h.d.rok hbs hl).mono ?_
  rintro e w' ⟨rfl, ho, hg⟩
  exact ⟨rfl, h.d.reader hg ho, h.d.own_num h.o hg, h.b.grown hg (fun e => by injection e; omega), h.n, h.m⟩
theorem US.set (h : US w0 r0 g q A c bs bu rows cs T sz k xs vu gu st us w) (i : Nat) (u : Value) : US w0 r0 g q A c bs bu rows cs T sz k xs vu gu st (us.setIfInBounds i u) (w.setCell ⟨gu, i, none⟩ u) := by
  have hn := h.n; have hm := h.m
  exact ⟨h.d.grown (grownBy_set w gu i u) (fun b e => by injection e; omega), h.o.kept (grownBy_set w gu i u) (by
    cases hv : vu.ownBlock with
    | none => exact .inl rfl
    | some b => exact .inr (fun e => hm (by rw [hv, e]))), h.b.set_ i u, hn, hm⟩
end
/-- What the document's Decode brings. -/
def RDecPost (w : World) (bs : List Int) (e : Ending) (w' : World) : Prop := Below w.heap.size w w' ∧
  (((dJ bs).2 = none ∧ e = .returned (.tuple #[.agg zW, .int .i64 0, .bool false])) ∨
    ∃ p : Nat, (dJ bs).2 = some p ∧ ∃ s, e = .returned (.tuple #[.agg (wV s (dW bs)).toArray, .int .i64 p, .bool true]) ∧ WRd w' w'.heap.size s (dW bs))
set_option maxHeartbeats 12800000 in
set_option maxRecDepth 100000 in
theorem rdec_any (A : Option Addr) (c : Nat) (bs : List Int) (w : World) (h : RD w w.heap.size 1 A bs.length (bs.map (.int .u8))) (hbs : ∀ x ∈ bs, Byte x) (hl : bs.length ≤ 9223372036854775807) :
    Calls Tryd.prog 12 #[.slice A bs.length c] w (RDecPost w bs) := by
  have H := Lib.hid h
  have HB := Lib.hid hbs
  clear h hbs
  have hsm := all_some bs
  obtain ⟨x1, s1, f1⟩ : ∃ x s, rdS bs (some 0) = (x, s) := ⟨_, _, rfl⟩
  obtain ⟨x2, s2, f2⟩ : ∃ x s, rdS bs s1 = (x, s) := ⟨_, _, rfl⟩
  obtain ⟨x3, s3, f3⟩ : ∃ x s, rdS bs s2 = (x, s) := ⟨_, _, rfl⟩
  obtain ⟨x4, s4, f4⟩ : ∃ x s, rdS bs s3 = (x, s) := ⟨_, _, rfl⟩
  obtain ⟨G, sG, fG⟩ : ∃ x s, rdLs bs s4 = (x, s) := ⟨_, _, rfl⟩
  obtain ⟨O, sO, fO⟩ : ∃ x s, rdLs bs sG = (x, s) := ⟨_, _, rfl⟩
  obtain ⟨D, sD, fD⟩ : ∃ x s, rdLs bs sO = (x, s) := ⟨_, _, rfl⟩
  obtain ⟨mu, sU, fU⟩ : ∃ m : Nat, ∃ s, rdM bs sD 200 = ((m : Int), s) := ⟨(rdM bs sD 200).1.toNat, (rdM bs sD 200).2, by rw [Int.toNat_of_nonneg (rdM_bd bs sD).1]⟩
  have hmu : mu ≤ 200 := by have := (rdM_bd bs sD).2; rw [fU] at this; dsimp only at this; omega
  have qN : dN bs 4 = ([x1, x2, x3, x4], s4) := by simp only [dN, rdNs, f1, f2, f3, f4, List.nil_append, List.cons_append]
  have qG : dG bs = (G, sG) := by unfold dG; rw [qN]; exact fG
  have qO : dO bs = (O, sO) := by unfold dO; rw [qG]; exact fO
  have qD : dD bs = (D, sD) := by unfold dD; rw [qO]; exact fD
  have qU : dU bs = rdUs bs sU mu := by unfold dU dMu; rw [qD, fU]; rfl
  obtain ⟨mj, sJ, fJ⟩ : ∃ m : Nat, ∃ s, rdM bs (rdUs bs sU mu).2 200 = ((m : Int), s) := ⟨(rdM bs (rdUs bs sU mu).2 200).1.toNat, (rdM bs (rdUs bs sU mu).2 200).2, by rw [Int.toNat_of_nonneg (rdM_bd bs (rdUs bs sU mu).2).1]⟩
  have hmj : mj ≤ 200 := by have := (rdM_bd bs (rdUs bs sU mu).2).2; rw [fJ] at this; dsimp only at this; omega
  have qJ : dJ bs = rdJs bs sJ mj := by unfold dJ dMj; rw [qU, fJ]; rfl
  have qW : (dW bs).turn = x1 ∧ (dW bs).next = x2 ∧ (dW bs).field.wide = x3 ∧ (dW bs).field.high = x4 := by unfold dW; rw [qN]; exact ⟨rfl, rfl, rfl, rfl⟩
  rw [qG, qO, qD, qU] at hsm
  replace hsm := Lib.hid hsm
  replace f1 := Lib.hid f1
  replace f2 := Lib.hid f2
  replace f3 := Lib.hid f3
  replace f4 := Lib.hid f4
  replace fG := Lib.hid fG
  replace fO := Lib.hid fO
  replace fD := Lib.hid fD
  replace fU := Lib.hid fU
  replace qN := Lib.hid qN
  replace qG := Lib.hid qG
  replace qO := Lib.hid qO
  replace qD := Lib.hid qD
  replace qU := Lib.hid qU
  replace fJ := Lib.hid fJ
  replace qJ := Lib.hid qJ
  replace qW := Lib.hid qW
  go_enter Tryd.func12, Tryd.ntmps12
  go_upto_region 3 with fail
  have hs1 : ((w.alloc (.cells zW 29)).alloc (.cells #[.slice A bs.length c, .int .i64 0, .bool false] 124)).heap.size = w.heap.size + 1 + 1 := by simp
  have hz1 : Blk ((w.alloc (.cells zW 29)).alloc (.cells #[.slice A bs.length c, .int .i64 0, .bool false] 124)) w.heap.size 29 zW := (Blk.new w _ _).alloc _
  have hr1 : DOk ((w.alloc (.cells zW 29)).alloc (.cells #[.slice A bs.length c, .int .i64 0, .bool false] 124)) (w.heap.size + 1) A c w.heap.size bs (some 0) :=
    ROkT.mk' (q := 0) false (Blk.newD _ 124 #[.slice A bs.length c, .int .i64 0, .bool false] _ (by simp)) rfl (Nat.zero_le _) (fun p h => by injection h) ((H.out.alloc (Nat.le_refl _) _).alloc (by simp) _) (fun b o e hp => by
      obtain ⟨b', o', e', hlt, _⟩ := H.out.2 hp
      rw [e] at e'
      injection e' with e'
      injection e' with e1 e2
      omega)
  have hb1 : Below w.heap.size w ((w.alloc (.cells zW 29)).alloc (.cells #[.slice A bs.length c, .int .i64 0, .bool false] 124)) := ((Below.refl _ _).alloc (Nat.le_refl _) _).alloc (by simp) _
  have hD : DWT 124 w w.heap.size (w.heap.size + 1) (w.heap.size + 1 + 1) zW A c bs (some 0) (w.heap.size + 1 + 1 + 1) [] (cW 0 0 0 0 (.slice none 0 0) (.slice none 0 0) (.slice none 0 0) (.slice none 0 0) (.slice none 0 0)) (((w.alloc (.cells zW 29)).alloc (.cells #[.slice A bs.length c, .int .i64 0, .bool false] 124)).alloc (.cells zW 29)) :=
    ⟨hz1.alloc _, hr1.grown (World.grownBy_alloc _ _ none) (by simp) (by simp), hb1.alloc (by omega) _, Blk.newD _ _ _ _ (by omega), Fin_.nil _ _ _, by omega, by omega, by omega, by simp⟩
  change Code.wp _ _ _ _ (((w.alloc (.cells zW 29)).alloc (.cells #[.slice A bs.length c, .int .i64 0, .bool false] 124)).alloc (.cells zW 29))
  generalize (((w.alloc (.cells zW 29)).alloc (.cells #[.slice A bs.length c, .int .i64 0, .bool false] 124)).alloc (.cells zW 29)) = W0 at *
  generalize hr0 : w.heap.size = r0 at *
  generalize hg : r0 + 1 = g at *
  generalize hq : g + 1 = q at *
  generalize hbu : q + 1 = b0 at *
  replace hbu := Lib.hid hbu
  replace hq := Lib.hid hq
  replace hg := Lib.hid hg
  have E0 := Lib.hid hD
  clear hD hs1 hz1 hr1 hb1
  have hn := E0.out.numD HB.out hl
  rw [f1.out] at hn
  replace hn := Lib.hid hn
  go_wp2_with fail
  refine hn.out.mono ?_
  clear hn
  rintro e V0 ⟨rfl, F0, _⟩
  replace F0 := Lib.hid F0
  clear E0
  have c0 := F0.out.wb.cell 0
  have z0 := F0.out.wb.frozen 0
  have lq := F0.out.wb.lt
  go_upto_region 4 with fail
  have E1 : DWT 124 w r0 g q zW A c bs s1 b0 [] (cW x1 0 0 0 (.slice none 0 0) (.slice none 0 0) (.slice none 0 0) (.slice none 0 0) (.slice none 0 0)) (V0.setCell ⟨q, 0, none⟩ (.int .i64 x1)) := F0.out.set 0 (.int .i64 x1)
  replace E1 := Lib.hid E1
  clear c0 z0 lq F0
  generalize (V0.setCell ⟨q, 0, none⟩ (.int .i64 x1)) = W1 at *
  have hn := E1.out.numD HB.out hl
  rw [f2.out] at hn
  replace hn := Lib.hid hn
  go_wp2_with fail
  refine hn.out.mono ?_
  clear hn
  rintro e V1 ⟨rfl, F1, _⟩
  replace F1 := Lib.hid F1
  clear E1
  have c1 := F1.out.wb.cell 1
  have z1 := F1.out.wb.frozen 1
  have lq := F1.out.wb.lt
  go_upto_region 5 with fail
  have E2 : DWT 124 w r0 g q zW A c bs s2 b0 [] (cW x1 x2 0 0 (.slice none 0 0) (.slice none 0 0) (.slice none 0 0) (.slice none 0 0) (.slice none 0 0)) (V1.setCell ⟨q, 1, none⟩ (.int .i64 x2)) := F1.out.set 1 (.int .i64 x2)
  replace E2 := Lib.hid E2
  clear c1 z1 lq F1
  generalize (V1.setCell ⟨q, 1, none⟩ (.int .i64 x2)) = W2 at *
  have hn := E2.out.numD HB.out hl
  rw [f3.out] at hn
  replace hn := Lib.hid hn
  go_wp2_with fail
  refine hn.out.mono ?_
  clear hn
  rintro e V2 ⟨rfl, F2, _⟩
  replace F2 := Lib.hid F2
  clear E2
  have c2 := F2.out.wb.cell 2
  have z2 := F2.out.wb.frozen 2
  have lq := F2.out.wb.lt
  go_upto_region 6 with fail
  have E3 : DWT 124 w r0 g q zW A c bs s3 b0 [] (cW x1 x2 x3 0 (.slice none 0 0) (.slice none 0 0) (.slice none 0 0) (.slice none 0 0) (.slice none 0 0)) (V2.setCell ⟨q, 2, none⟩ (.int .i64 x3)) := F2.out.set 2 (.int .i64 x3)
  replace E3 := Lib.hid E3
  clear c2 z2 lq F2
  generalize (V2.setCell ⟨q, 2, none⟩ (.int .i64 x3)) = W3 at *
  have hn := E3.out.numD HB.out hl
  rw [f4.out] at hn
  replace hn := Lib.hid hn
  go_wp2_with fail
  refine hn.out.mono ?_
  clear hn
  rintro e V3 ⟨rfl, F3, _⟩
  replace F3 := Lib.hid F3
  clear E3
  have c3 := F3.out.wb.cell 3
  have z3 := F3.out.wb.frozen 3
  have lq := F3.out.wb.lt
  go_upto_region 7 with fail
  have E4 : DWT 124 w r0 g q zW A c bs s4 b0 [] (cW x1 x2 x3 x4 (.slice none 0 0) (.slice none 0 0) (.slice none 0 0) (.slice none 0 0) (.slice none 0 0)) (V3.setCell ⟨q, 3, none⟩ (.int .i64 x4)) := F3.out.set 3 (.int .i64 x4)
  replace E4 := Lib.hid E4
  clear c3 z3 lq F3
  generalize (V3.setCell ⟨q, 3, none⟩ (.int .i64 x4)) = W4 at *
  have hn := E4.out.listD HB.out hl
  rw [fG.out] at hn
  replace hn := Lib.hid hn
  go_wp2_with fail
  refine hn.out.mono ?_
  clear hn
  rintro e V4 ⟨Ag, cg, Lg, rfl, leng, F4, hLg⟩
  try dsimp only at F4 hLg
  replace hLg := Lib.hid hLg
  replace F4 := Lib.hid F4
  clear E4
  generalize V4.heap.size = bbg at *
  have c4 := F4.out.wb.cell 4
  have z4 := F4.out.wb.frozen 4
  have lq := F4.out.wb.lt
  go_upto_region 8 with fail
  have E5 : DWT 124 w r0 g q zW A c bs sG bbg [⟨3, 1, .slice Ag Lg.length cg, Lg.length, Lg.map (.int .i64)⟩] (cW x1 x2 x3 x4 (.slice Ag Lg.length cg) (.slice none 0 0) (.slice none 0 0) (.slice none 0 0) (.slice none 0 0)) (V4.setCell ⟨q, 4, none⟩ (.slice Ag Lg.length cg)) := F4.out.set 4 (.slice Ag Lg.length cg)
  replace E5 := Lib.hid E5
  clear c4 z4 lq F4
  generalize (V4.setCell ⟨q, 4, none⟩ (.slice Ag Lg.length cg)) = W5 at *
  have hn := E5.out.listD HB.out hl
  rw [fO.out] at hn
  replace hn := Lib.hid hn
  go_wp2_with fail
  refine hn.out.mono ?_
  clear hn
  rintro e V5 ⟨Ao, co, Lo, rfl, leno, F5, hLo⟩
  try dsimp only at F5 hLo
  replace hLo := Lib.hid hLo
  replace F5 := Lib.hid F5
  clear E5
  generalize V5.heap.size = bbo at *
  have c5 := F5.out.wb.cell 5
  have z5 := F5.out.wb.frozen 5
  have lq := F5.out.wb.lt
  go_upto_region 9 with fail
  have E6 : DWT 124 w r0 g q zW A c bs sO bbo [⟨3, 1, .slice Ao Lo.length co, Lo.length, Lo.map (.int .i64)⟩, ⟨3, 1, .slice Ag Lg.length cg, Lg.length, Lg.map (.int .i64)⟩] (cW x1 x2 x3 x4 (.slice Ag Lg.length cg) (.slice Ao Lo.length co) (.slice none 0 0) (.slice none 0 0) (.slice none 0 0)) (V5.setCell ⟨q, 5, none⟩ (.slice Ao Lo.length co)) := F5.out.set 5 (.slice Ao Lo.length co)
  replace E6 := Lib.hid E6
  clear c5 z5 lq F5
  generalize (V5.setCell ⟨q, 5, none⟩ (.slice Ao Lo.length co)) = W6 at *
  have hn := E6.out.listD HB.out hl
  rw [fD.out] at hn
  replace hn := Lib.hid hn
  go_wp2_with fail
  refine hn.out.mono ?_
  clear hn
  rintro e V6 ⟨Ad, cd, Ld, rfl, lend, F6, hLd⟩
  try dsimp only at F6 hLd
  replace hLd := Lib.hid hLd
  replace F6 := Lib.hid F6
  clear E6
  generalize V6.heap.size = bbd at *
  have c6 := F6.out.wb.cell 6
  have z6 := F6.out.wb.frozen 6
  have lq := F6.out.wb.lt
  go_upto_region 10 with fail
  have E7 : DWT 124 w r0 g q zW A c bs sD bbd [⟨3, 1, .slice Ad Ld.length cd, Ld.length, Ld.map (.int .i64)⟩, ⟨3, 1, .slice Ao Lo.length co, Lo.length, Lo.map (.int .i64)⟩, ⟨3, 1, .slice Ag Lg.length cg, Lg.length, Lg.map (.int .i64)⟩] (cW x1 x2 x3 x4 (.slice Ag Lg.length cg) (.slice Ao Lo.length co) (.slice Ad Ld.length cd) (.slice none 0 0) (.slice none 0 0)) (V6.setCell ⟨q, 6, none⟩ (.slice Ad Ld.length cd)) := F6.out.set 6 (.slice Ad Ld.length cd)
  replace E7 := Lib.hid E7
  clear c6 z6 lq F6
  generalize (V6.setCell ⟨q, 6, none⟩ (.slice Ad Ld.length cd)) = W7 at *
  have hn := E7.out.manyD HB.out hl
  rw [fU.out] at hn
  replace hn := Lib.hid hn
  go_wp2_with fail
  refine hn.out.mono ?_
  clear hn
  rintro e W8 ⟨rfl, E8, _⟩
  replace E8 := Lib.hid E8
  clear E7
  go_upto_block 0 with fail
  go_cut [8] from 42 to 83 (fun _ wx0 => ∃ wx, wx = wx0 ∧ ∃ vu, ∃ L : List GU, Hid (DWT 124 w r0 g q zW A c bs (rdUs bs sU mu).2 bbd [⟨3, 1, .slice Ad Ld.length cd, Ld.length, Ld.map (.int .i64)⟩, ⟨3, 1, .slice Ao Lo.length co, Lo.length, Lo.map (.int .i64)⟩, ⟨3, 1, .slice Ag Lg.length cg, Lg.length, Lg.map (.int .i64)⟩] (cW x1 x2 x3 x4 (.slice Ag Lg.length cg) (.slice Ao Lo.length co) (.slice Ad Ld.length cd) vu (.slice none 0 0)) wx) ∧ Hid (wx.ownsRow bbd 62 8 vu L.length (L.flatMap uC)) ∧ Hid (L.length ≤ 200) ∧ Hid ((rdUs bs sU mu).2 ≠ none → L = (rdUs bs sU mu).1))
  case first =>
    go_wp2_with fail
    go_loopw [8] (fun vi wr => ∃ k : Nat, ∃ vu, vi = .int .i64 k ∧ k ≤ mu ∧ Hid (DWT 124 w r0 g q zW A c bs (rdUs bs sU k).2 bbd [⟨3, 1, .slice Ad Ld.length cd, Ld.length, Ld.map (.int .i64)⟩, ⟨3, 1, .slice Ao Lo.length co, Lo.length, Lo.map (.int .i64)⟩, ⟨3, 1, .slice Ag Lg.length cg, Lg.length, Lg.map (.int .i64)⟩] (cW x1 x2 x3 x4 (.slice Ag Lg.length cg) (.slice Ao Lo.length co) (.slice Ad Ld.length cd) vu (.slice none 0 0)) wr) ∧ Hid (wr.ownsRow bbd 62 8 vu k ((rdUs bs sU k).1.flatMap uC))) (fun vi _ => mu - (intOf vi).toNat)
    case atStart => exact ⟨0, _, rfl, Nat.zero_le _, E8, Lib.hid (World.ownsRow_nil _ _ _ _)⟩
    case round =>
      clear E8
      obtain ⟨k, vu, rfl, hk, hD, ho⟩ := hrel
      obtain ⟨qq, hqb, hql, hqp⟩ := hD.out.rok.blk
      have lg := hqb.lt
      have cb := hqb.cell 2
      replace hqb := Lib.hid hqb
      replace hqp := Lib.hid hqp
      by_cases hlt : k < mu
      · have j1 : (k : Int) < (mu : Int) := by omega
        cases hst : (rdUs bs sU k).2 with
        | none =>
          as_aux_lemma =>
          rw [hst] at cb
          change wr.cell? ⟨g, 2, none⟩ = some (.bool true) at cb
          have hE := rdUs_stays hst (n := mu) (by omega)
          have hD2 := hD.out
          rw [hst] at hD2
          have hfin : ∃ vu, ∃ L : List GU, Hid (DWT 124 w r0 g q zW A c bs (rdUs bs sU mu).2 bbd [⟨3, 1, .slice Ad Ld.length cd, Ld.length, Ld.map (.int .i64)⟩, ⟨3, 1, .slice Ao Lo.length co, Lo.length, Lo.map (.int .i64)⟩, ⟨3, 1, .slice Ag Lg.length cg, Lg.length, Lg.map (.int .i64)⟩] (cW x1 x2 x3 x4 (.slice Ag Lg.length cg) (.slice Ao Lo.length co) (.slice Ad Ld.length cd) vu (.slice none 0 0)) wr) ∧ Hid (wr.ownsRow bbd 62 8 vu L.length (L.flatMap uC)) ∧ Hid (L.length ≤ 200) ∧ Hid ((rdUs bs sU mu).2 ≠ none → L = (rdUs bs sU mu).1) := ⟨vu, (rdUs bs sU k).1, Lib.hid (by rw [hE]; exact hD2), Lib.hid (by rw [rdUs_len]; exact ho.out), Lib.hid (by rw [rdUs_len]; omega), Lib.hid (fun h => absurd hE h)⟩
          replace hfin := Lib.hid hfin
          clear hst hE hD2 hD ho
          go_wp2_with fail
          go_meet
          case rel => exact ⟨_, rfl, hfin.out⟩
        | some pk =>
          as_aux_lemma =>
          rw [hst] at cb
          change wr.cell? ⟨g, 2, none⟩ = some (.bool false) at cb
          have hnx : rdUs bs sU (k + 1) = ((rdUs bs sU k).1 ++ [uOf (rdNs bs (rdUs bs sU k).2 8).1], (rdNs bs (rdUs bs sU k).2 8).2) := rfl
          clear hst
          generalize hst : (rdUs bs sU k).2 = t0 at *
          generalize hcs : (rdUs bs sU k).1.flatMap uC = cs0 at *
          replace hst := Lib.hid hst
          have hcs0 := Lib.hid hcs
          obtain ⟨y1, t1, e1⟩ : ∃ x s, rdS bs t0 = (x, s) := ⟨_, _, rfl⟩
          obtain ⟨y2, t2, e2⟩ : ∃ x s, rdS bs t1 = (x, s) := ⟨_, _, rfl⟩
          obtain ⟨y3, t3, e3⟩ : ∃ x s, rdS bs t2 = (x, s) := ⟨_, _, rfl⟩
          obtain ⟨y4, t4, e4⟩ : ∃ x s, rdS bs t3 = (x, s) := ⟨_, _, rfl⟩
          obtain ⟨y5, t5, e5⟩ : ∃ x s, rdS bs t4 = (x, s) := ⟨_, _, rfl⟩
          obtain ⟨y6, t6, e6⟩ : ∃ x s, rdS bs t5 = (x, s) := ⟨_, _, rfl⟩
          obtain ⟨y7, t7, e7⟩ : ∃ x s, rdS bs t6 = (x, s) := ⟨_, _, rfl⟩
          obtain ⟨y8, t8, e8⟩ : ∃ x s, rdS bs t7 = (x, s) := ⟨_, _, rfl⟩
          have h8 : rdNs bs t0 8 = ([y1, y2, y3, y4, y5, y6, y7, y8], t8) := by simp only [rdNs, e1, e2, e3, e4, e5, e6, e7, e8, List.nil_append, List.cons_append]
          have hn1 : (rdUs bs sU (k + 1)).2 = t8 := by rw [hnx, h8]
          have hn2 : (rdUs bs sU (k + 1)).1.flatMap uC = cs0 ++ [.int .i64 y1, .int .i64 y2, .int .i64 y3, .int .i64 y4, .int .i64 y5, .int .i64 y6, .int .i64 y7, .int .i64 y8] := by
            rw [hnx, h8, List.flatMap_append, hcs]; rfl
          replace hn1 := Lib.hid hn1
          replace hn2 := Lib.hid hn2
          clear hnx h8 hcs
          replace e1 := Lib.hid e1
          replace e2 := Lib.hid e2
          replace e3 := Lib.hid e3
          replace e4 := Lib.hid e4
          replace e5 := Lib.hid e5
          replace e6 := Lib.hid e6
          replace e7 := Lib.hid e7
          replace e8 := Lib.hid e8
          go_upto_region 15 with fail
          have U0 := US.start #[.int .i64 0, .int .i64 0, .int .i64 0, .int .i64 0, .int .i64 0, .int .i64 0, .int .i64 0, .int .i64 0] hD.out ho.out
          change Code.wp _ _ _ _ (wr.alloc (.cells #[.int .i64 0, .int .i64 0, .int .i64 0, .int .i64 0, .int .i64 0, .int .i64 0, .int .i64 0, .int .i64 0] 62))
          generalize (wr.alloc (.cells #[.int .i64 0, .int .i64 0, .int .i64 0, .int .i64 0, .int .i64 0, .int .i64 0, .int .i64 0, .int .i64 0] 62)) = w0 at *
          generalize wr.heap.size = gu at *
          replace U0 := Lib.hid U0
          clear hD ho hqb lg cb
          have hn := U0.out.num HB.out hl
          rw [e1.out] at hn
          replace hn := Lib.hid hn
          go_wp2_with fail
          refine hn.out.mono ?_
          clear hn
          rintro e v0 ⟨rfl, M0⟩
          replace M0 := Lib.hid M0
          clear U0
          have cc := M0.out.b.cell 0
          have cz := M0.out.b.frozen 0
          have cl := M0.out.b.lt
          go_upto_region 16 with fail
          have U1 : US w r0 g q A c bs bbd [⟨3, 1, .slice Ad Ld.length cd, Ld.length, Ld.map (.int .i64)⟩, ⟨3, 1, .slice Ao Lo.length co, Lo.length, Lo.map (.int .i64)⟩, ⟨3, 1, .slice Ag Lg.length cg, Lg.length, Lg.map (.int .i64)⟩] (cW x1 x2 x3 x4 (.slice Ag Lg.length cg) (.slice Ao Lo.length co) (.slice Ad Ld.length cd) vu (.slice none 0 0)) 62 8 k cs0 vu gu t1 #[.int .i64 y1, .int .i64 0, .int .i64 0, .int .i64 0, .int .i64 0, .int .i64 0, .int .i64 0, .int .i64 0] (v0.setCell ⟨gu, 0, none⟩ (.int .i64 y1)) := M0.out.set 0 (.int .i64 y1)
          replace U1 := Lib.hid U1
          clear cc cz cl M0
          generalize (v0.setCell ⟨gu, 0, none⟩ (.int .i64 y1)) = w1 at *
          have hn := U1.out.num HB.out hl
          rw [e2.out] at hn
          replace hn := Lib.hid hn
          go_wp2_with fail
          refine hn.out.mono ?_
          clear hn
          rintro e v1 ⟨rfl, M1⟩
          replace M1 := Lib.hid M1
          clear U1
          have cc := M1.out.b.cell 1
          have cz := M1.out.b.frozen 1
          have cl := M1.out.b.lt
          go_upto_region 17 with fail
          have U2 : US w r0 g q A c bs bbd [⟨3, 1, .slice Ad Ld.length cd, Ld.length, Ld.map (.int .i64)⟩, ⟨3, 1, .slice Ao Lo.length co, Lo.length, Lo.map (.int .i64)⟩, ⟨3, 1, .slice Ag Lg.length cg, Lg.length, Lg.map (.int .i64)⟩] (cW x1 x2 x3 x4 (.slice Ag Lg.length cg) (.slice Ao Lo.length co) (.slice Ad Ld.length cd) vu (.slice none 0 0)) 62 8 k cs0 vu gu t2 #[.int .i64 y1, .int .i64 y2, .int .i64 0, .int .i64 0, .int .i64 0, .int .i64 0, .int .i64 0, .int .i64 0] (v1.setCell ⟨gu, 1, none⟩ (.int .i64 y2)) := M1.out.set 1 (.int .i64 y2)
          replace U2 := Lib.hid U2
          clear cc cz cl M1
          generalize (v1.setCell ⟨gu, 1, none⟩ (.int .i64 y2)) = w2 at *
          have hn := U2.out.num HB.out hl
          rw [e3.out] at hn
          replace hn := Lib.hid hn
          go_wp2_with fail
          refine hn.out.mono ?_
          clear hn
          rintro e v2 ⟨rfl, M2⟩
          replace M2 := Lib.hid M2
          clear U2
          have cc := M2.out.b.cell 2
          have cz := M2.out.b.frozen 2
          have cl := M2.out.b.lt
          go_upto_region 18 with fail
          have U3 : US w r0 g q A c bs bbd [⟨3, 1, .slice Ad Ld.length cd, Ld.length, Ld.map (.int .i64)⟩, ⟨3, 1, .slice Ao Lo.length co, Lo.length, Lo.map (.int .i64)⟩, ⟨3, 1, .slice Ag Lg.length cg, Lg.length, Lg.map (.int .i64)⟩] (cW x1 x2 x3 x4 (.slice Ag Lg.length cg) (.slice Ao Lo.length co) (.slice Ad Ld.length cd) vu (.slice none 0 0)) 62 8 k cs0 vu gu t3 #[.int .i64 y1, .int .i64 y2, .int .i64 y3, .int .i64 0, .int .i64 0, .int .i64 0, .int .i64 0, .int .i64 0] (v2.setCell ⟨gu, 2, none⟩ (.int .i64 y3)) := M2.out.set 2 (.int .i64 y3)
          replace U3 := Lib.hid U3
          clear cc cz cl M2
          generalize (v2.setCell ⟨gu, 2, none⟩ (.int .i64 y3)) = w3 at *
          have hn := U3.out.num HB.out hl
          rw [e4.out] at hn
          replace hn := Lib.hid hn
          go_wp2_with fail
          refine hn.out.mono ?_
          clear hn
          rintro e v3 ⟨rfl, M3⟩
          replace M3 := Lib.hid M3
          clear U3
          have cc := M3.out.b.cell 3
          have cz := M3.out.b.frozen 3
          have cl := M3.out.b.lt
          go_upto_region 19 with fail
          have U4 : US w r0 g q A c bs bbd [⟨3, 1, .slice Ad Ld.length cd, Ld.length, Ld.map (.int .i64)⟩, ⟨3, 1, .slice Ao Lo.length co, Lo.length, Lo.map (.int .i64)⟩, ⟨3, 1, .slice Ag Lg.length cg, Lg.length, Lg.map (.int .i64)⟩] (cW x1 x2 x3 x4 (.slice Ag Lg.length cg) (.slice Ao Lo.length co) (.slice Ad Ld.length cd) vu (.slice none 0 0)) 62 8 k cs0 vu gu t4 #[.int .i64 y1, .int .i64 y2, .int .i64 y3, .int .i64 y4, .int .i64 0, .int .i64 0, .int .i64 0, .int .i64 0] (v3.setCell ⟨gu, 3, none⟩ (.int .i64 y4)) := M3.out.set 3 (.int .i64 y4)
          replace U4 := Lib.hid U4
          clear cc cz cl M3
          generalize (v3.setCell ⟨gu, 3, none⟩ (.int .i64 y4)) = w4 at *
          have hn := U4.out.num HB.out hl
          rw [e5.out] at hn
          replace hn := Lib.hid hn
          go_wp2_with fail
          refine hn.out.mono ?_
          clear hn
          rintro e v4 ⟨rfl, M4⟩
          replace M4 := Lib.hid M4
          clear U4
          have cc := M4.out.b.cell 4
          have cz := M4.out.b.frozen 4
          have cl := M4.out.b.lt
          go_upto_region 20 with fail
          have U5 : US w r0 g q A c bs bbd [⟨3, 1, .slice Ad Ld.length cd, Ld.length, Ld.map (.int .i64)⟩, ⟨3, 1, .slice Ao Lo.length co, Lo.length, Lo.map (.int .i64)⟩, ⟨3, 1, .slice Ag Lg.length cg, Lg.length, Lg.map (.int .i64)⟩] (cW x1 x2 x3 x4 (.slice Ag Lg.length cg) (.slice Ao Lo.length co) (.slice Ad Ld.length cd) vu (.slice none 0 0)) 62 8 k cs0 vu gu t5 #[.int .i64 y1, .int .i64 y2, .int .i64 y3, .int .i64 y4, .int .i64 y5, .int .i64 0, .int .i64 0, .int .i64 0] (v4.setCell ⟨gu, 4, none⟩ (.int .i64 y5)) := M4.out.set 4 (.int .i64 y5)
          replace U5 := Lib.hid U5
          clear cc cz cl M4
          generalize (v4.setCell ⟨gu, 4, none⟩ (.int .i64 y5)) = w5 at *
          have hn := U5.out.num HB.out hl
          rw [e6.out] at hn
          replace hn := Lib.hid hn
          go_wp2_with fail
          refine hn.out.mono ?_
          clear hn
          rintro e v5 ⟨rfl, M5⟩
          replace M5 := Lib.hid M5
          clear U5
          have cc := M5.out.b.cell 5
          have cz := M5.out.b.frozen 5
          have cl := M5.out.b.lt
          go_upto_region 21 with fail
          have U6 : US w r0 g q A c bs bbd [⟨3, 1, .slice Ad Ld.length cd, Ld.length, Ld.map (.int .i64)⟩, ⟨3, 1, .slice Ao Lo.length co, Lo.length, Lo.map (.int .i64)⟩, ⟨3, 1, .slice Ag Lg.length cg, Lg.length, Lg.map (.int .i64)⟩] (cW x1 x2 x3 x4 (.slice Ag Lg.length cg) (.slice Ao Lo.length co) (.slice Ad Ld.length cd) vu (.slice none 0 0)) 62 8 k cs0 vu gu t6 #[.int .i64 y1, .int .i64 y2, .int .i64 y3, .int .i64 y4, .int .i64 y5, .int .i64 y6, .int .i64 0, .int .i64 0] (v5.setCell ⟨gu, 5, none⟩ (.int .i64 y6)) := M5.out.set 5 (.int .i64 y6)
          replace U6 := Lib.hid U6
          clear cc cz cl M5
          generalize (v5.setCell ⟨gu, 5, none⟩ (.int .i64 y6)) = w6 at *
          have hn := U6.out.num HB.out hl
          rw [e7.out] at hn
          replace hn := Lib.hid hn
          go_wp2_with fail
          refine hn.out.mono ?_
          clear hn
          rintro e v6 ⟨rfl, M6⟩
          replace M6 := Lib.hid M6
          clear U6
          have cc := M6.out.b.cell 6
          have cz := M6.out.b.frozen 6
          have cl := M6.out.b.lt
          go_upto_region 22 with fail
          have U7 : US w r0 g q A c bs bbd [⟨3, 1, .slice Ad Ld.length cd, Ld.length, Ld.map (.int .i64)⟩, ⟨3, 1, .slice Ao Lo.length co, Lo.length, Lo.map (.int .i64)⟩, ⟨3, 1, .slice Ag Lg.length cg, Lg.length, Lg.map (.int .i64)⟩] (cW x1 x2 x3 x4 (.slice Ag Lg.length cg) (.slice Ao Lo.length co) (.slice Ad Ld.length cd) vu (.slice none 0 0)) 62 8 k cs0 vu gu t7 #[.int .i64 y1, .int .i64 y2, .int .i64 y3, .int .i64 y4, .int .i64 y5, .int .i64 y6, .int .i64 y7, .int .i64 0] (v6.setCell ⟨gu, 6, none⟩ (.int .i64 y7)) := M6.out.set 6 (.int .i64 y7)
          replace U7 := Lib.hid U7
          clear cc cz cl M6
          generalize (v6.setCell ⟨gu, 6, none⟩ (.int .i64 y7)) = w7 at *
          have hn := U7.out.num HB.out hl
          rw [e8.out] at hn
          replace hn := Lib.hid hn
          go_wp2_with fail
          refine hn.out.mono ?_
          clear hn
          rintro e v7 ⟨rfl, M7⟩
          replace M7 := Lib.hid M7
          clear U7
          have cc := M7.out.b.cell 7
          have cz := M7.out.b.frozen 7
          have cl := M7.out.b.lt
          go_upto_region 23 with fail
          have U8 : US w r0 g q A c bs bbd [⟨3, 1, .slice Ad Ld.length cd, Ld.length, Ld.map (.int .i64)⟩, ⟨3, 1, .slice Ao Lo.length co, Lo.length, Lo.map (.int .i64)⟩, ⟨3, 1, .slice Ag Lg.length cg, Lg.length, Lg.map (.int .i64)⟩] (cW x1 x2 x3 x4 (.slice Ag Lg.length cg) (.slice Ao Lo.length co) (.slice Ad Ld.length cd) vu (.slice none 0 0)) 62 8 k cs0 vu gu t8 #[.int .i64 y1, .int .i64 y2, .int .i64 y3, .int .i64 y4, .int .i64 y5, .int .i64 y6, .int .i64 y7, .int .i64 y8] (v7.setCell ⟨gu, 7, none⟩ (.int .i64 y8)) := M7.out.set 7 (.int .i64 y8)
          replace U8 := Lib.hid U8
          clear cc cz cl M7
          generalize (v7.setCell ⟨gu, 7, none⟩ (.int .i64 y8)) = w8 at *
          have c0 : w8.cell? ⟨gu, 0, none⟩ = some (.int .i64 y1) := U8.out.b.cell 0
          have c1 : w8.cell? ⟨gu, 1, none⟩ = some (.int .i64 y2) := U8.out.b.cell 1
          have c2 : w8.cell? ⟨gu, 2, none⟩ = some (.int .i64 y3) := U8.out.b.cell 2
          have c3 : w8.cell? ⟨gu, 3, none⟩ = some (.int .i64 y4) := U8.out.b.cell 3
          have c4 : w8.cell? ⟨gu, 4, none⟩ = some (.int .i64 y5) := U8.out.b.cell 4
          have c5 : w8.cell? ⟨gu, 5, none⟩ = some (.int .i64 y6) := U8.out.b.cell 5
          have c6 : w8.cell? ⟨gu, 6, none⟩ = some (.int .i64 y7) := U8.out.b.cell 6
          have c7 : w8.cell? ⟨gu, 7, none⟩ = some (.int .i64 y8) := U8.out.b.cell 7
          have cv := U8.out.d.wb.cell 7
          change w8.cell? ⟨q, 7, none⟩ = some vu at cv
          have clu := U8.out.b.lt
          have clq := U8.out.d.wb.lt
          have hln := U8.out.o.1
          obtain ⟨i0, hi0, hz0, hz1, hz2⟩ := info_parts unit_inf
          have hbq := U8.out.d.lt4
          go_wp2_with (first | (at_builtin; refine wpList_app1 rfl (.tmp 79) (.tmp 81) 26 rfl bbd 62 i0 _ 8 64 Tryd.underlying26 hi0 hz0 hz1 hz2 rfl (by decide) (by decide) w8 #[.int .i64 y1, .int .i64 y2, .int .i64 y3, .int .i64 y4, .int .i64 y5, .int .i64 y6, .int .i64 y7, .int .i64 y8] vu k cs0 rfl U8.out.o rfl rfl rfl (by omega) hbq ?_; intro v' W3 hown' hgrow; obtain ⟨A', c', rfl, _⟩ := own_slice hown'; have hd3 := U8.out.d.grown hgrow (fun b e => (U8.out.o.lt b e).1); have cv3 := hd3.wb.cell 7; have cz3 := hd3.wb.frozen 7; have cl3 := hd3.wb.lt; replace hd3 := Lib.hid hd3; replace hown' := Lib.hid hown'; clear hgrow) | refine wp_bsF rfl _ _ _ _ rfl _ (bs_unit y1 y2 y3 y4 y5 y6 y7 y8 _) (by simp only [List.map_toArray, List.map_cons, List.map_nil]; rfl) ?_)
          have hd4 : DWT 124 w r0 g q zW A c bs t8 bbd [⟨3, 1, .slice Ad Ld.length cd, Ld.length, Ld.map (.int .i64)⟩, ⟨3, 1, .slice Ao Lo.length co, Lo.length, Lo.map (.int .i64)⟩, ⟨3, 1, .slice Ag Lg.length cg, Lg.length, Lg.map (.int .i64)⟩] (cW x1 x2 x3 x4 (.slice Ag Lg.length cg) (.slice Ao Lo.length co) (.slice Ad Ld.length cd) (.slice A' (k + 1) c') (.slice none 0 0)) (W3.setCell ⟨q, 7, none⟩ (.slice A' (k + 1) c')) := hd3.out.set 7 (.slice A' (k + 1) c')
          have ho4 := hd3.out.own_set hown'.out 7 (.slice A' (k + 1) c')
          replace hd4 := Lib.hid hd4
          replace ho4 := Lib.hid ho4
          clear hd3 hown' U8 cv c0 c1 c2 c3 c4 c5 c6 c7 clu clq hln hi0 hz0 hz1 hz2
          go_roundw
          case rel => exact ⟨k + 1, .slice A' (k + 1) c', by go_num, by omega, Lib.hid (by rw [hn1.out]; exact hd4.out), Lib.hid (by rw [hn2.out]; exact ho4.out)⟩
          case measure => simp [intOf]; omega
      · as_aux_lemma =>
        have j1 : ¬ (k : Int) < (mu : Int) := by omega
        obtain rfl : k = mu := by omega
        have hfin : ∃ vu, ∃ L : List GU, Hid (DWT 124 w r0 g q zW A c bs (rdUs bs sU k).2 bbd [⟨3, 1, .slice Ad Ld.length cd, Ld.length, Ld.map (.int .i64)⟩, ⟨3, 1, .slice Ao Lo.length co, Lo.length, Lo.map (.int .i64)⟩, ⟨3, 1, .slice Ag Lg.length cg, Lg.length, Lg.map (.int .i64)⟩] (cW x1 x2 x3 x4 (.slice Ag Lg.length cg) (.slice Ao Lo.length co) (.slice Ad Ld.length cd) vu (.slice none 0 0)) wr) ∧ Hid (wr.ownsRow bbd 62 8 vu L.length (L.flatMap uC)) ∧ Hid (L.length ≤ 200) ∧ Hid ((rdUs bs sU k).2 ≠ none → L = (rdUs bs sU k).1) := ⟨vu, (rdUs bs sU k).1, hD, Lib.hid (by rw [rdUs_len]; exact ho.out), Lib.hid (by rw [rdUs_len]; omega), Lib.hid (fun _ => rfl)⟩
        replace hfin := Lib.hid hfin
        clear hD ho
        go_wp2_with fail
        go_meet
        case rel => exact ⟨_, rfl, hfin.out⟩
  case rest =>
  obtain ⟨wxunit, rfl, vu, Lunit, hdunit, hownunit, hlenunit, hLunit⟩ := hcut
  clear E8
  obtain ⟨Aunit, cunit, rfl, _⟩ := own_slice hownunit.out
  have E9 := hdunit.out.row ⟨62, 8, .slice Aunit Lunit.length cunit, Lunit.length, Lunit.flatMap uC⟩ hownunit.out
  generalize wxunit.heap.size = bbunit at *
  replace E9 := Lib.hid E9
  clear hdunit hownunit
  have hn := E9.out.manyD HB.out hl
  rw [fJ.out] at hn
  replace hn := Lib.hid hn
  go_wp2_with fail
  refine hn.out.mono ?_
  clear hn
  rintro e W10 ⟨rfl, E10, _⟩
  replace E10 := Lib.hid E10
  clear E9
  go_upto_block 2 with fail
  go_cut [10] from 86 to 115 (fun _ wx0 => ∃ wx, wx = wx0 ∧ ∃ vu, ∃ L : List GJ, Hid (DWT 124 w r0 g q zW A c bs (rdJs bs sJ mj).2 bbunit [⟨62, 8, .slice Aunit Lunit.length cunit, Lunit.length, Lunit.flatMap uC⟩, ⟨3, 1, .slice Ad Ld.length cd, Ld.length, Ld.map (.int .i64)⟩, ⟨3, 1, .slice Ao Lo.length co, Lo.length, Lo.map (.int .i64)⟩, ⟨3, 1, .slice Ag Lg.length cg, Lg.length, Lg.map (.int .i64)⟩] (cW x1 x2 x3 x4 (.slice Ag Lg.length cg) (.slice Ao Lo.length co) (.slice Ad Ld.length cd) (.slice Aunit Lunit.length cunit) vu) wx) ∧ Hid (wx.ownsRow bbunit 127 4 vu L.length (L.flatMap jC)) ∧ Hid (L.length ≤ 200) ∧ Hid ((rdJs bs sJ mj).2 ≠ none → L = (rdJs bs sJ mj).1))
  case first =>
    go_wp2_with fail
    go_loopw [10] (fun vi wr => ∃ k : Nat, ∃ vu, vi = .int .i64 k ∧ k ≤ mj ∧ Hid (DWT 124 w r0 g q zW A c bs (rdJs bs sJ k).2 bbunit [⟨62, 8, .slice Aunit Lunit.length cunit, Lunit.length, Lunit.flatMap uC⟩, ⟨3, 1, .slice Ad Ld.length cd, Ld.length, Ld.map (.int .i64)⟩, ⟨3, 1, .slice Ao Lo.length co, Lo.length, Lo.map (.int .i64)⟩, ⟨3, 1, .slice Ag Lg.length cg, Lg.length, Lg.map (.int .i64)⟩] (cW x1 x2 x3 x4 (.slice Ag Lg.length cg) (.slice Ao Lo.length co) (.slice Ad Ld.length cd) (.slice Aunit Lunit.length cunit) vu) wr) ∧ Hid (wr.ownsRow bbunit 127 4 vu k ((rdJs bs sJ k).1.flatMap jC))) (fun vi _ => mj - (intOf vi).toNat)
    case atStart => exact ⟨0, _, rfl, Nat.zero_le _, E10, Lib.hid (World.ownsRow_nil _ _ _ _)⟩
    case round =>
      clear E10
      obtain ⟨k, vu, rfl, hk, hD, ho⟩ := hrel
      obtain ⟨qq, hqb, hql, hqp⟩ := hD.out.rok.blk
      have lg := hqb.lt
      have cb := hqb.cell 2
      replace hqb := Lib.hid hqb
      replace hqp := Lib.hid hqp
      by_cases hlt : k < mj
      · have j1 : (k : Int) < (mj : Int) := by omega
        cases hst : (rdJs bs sJ k).2 with
        | none =>
          as_aux_lemma =>
          rw [hst] at cb
          change wr.cell? ⟨g, 2, none⟩ = some (.bool true) at cb
          have hE := rdJs_stays hst (n := mj) (by omega)
          have hD2 := hD.out
          rw [hst] at hD2
          have hfin : ∃ vu, ∃ L : List GJ, Hid (DWT 124 w r0 g q zW A c bs (rdJs bs sJ mj).2 bbunit [⟨62, 8, .slice Aunit Lunit.length cunit, Lunit.length, Lunit.flatMap uC⟩, ⟨3, 1, .slice Ad Ld.length cd, Ld.length, Ld.map (.int .i64)⟩, ⟨3, 1, .slice Ao Lo.length co, Lo.length, Lo.map (.int .i64)⟩, ⟨3, 1, .slice Ag Lg.length cg, Lg.length, Lg.map (.int .i64)⟩] (cW x1 x2 x3 x4 (.slice Ag Lg.length cg) (.slice Ao Lo.length co) (.slice Ad Ld.length cd) (.slice Aunit Lunit.length cunit) vu) wr) ∧ Hid (wr.ownsRow bbunit 127 4 vu L.length (L.flatMap jC)) ∧ Hid (L.length ≤ 200) ∧ Hid ((rdJs bs sJ mj).2 ≠ none → L = (rdJs bs sJ mj).1) := ⟨vu, (rdJs bs sJ k).1, Lib.hid (by rw [hE]; exact hD2), Lib.hid (by rw [rdJs_len]; exact ho.out), Lib.hid (by rw [rdJs_len]; omega), Lib.hid (fun h => absurd hE h)⟩
          replace hfin := Lib.hid hfin
          clear hst hE hD2 hD ho
          go_wp2_with fail
          go_meet
          case rel => exact ⟨_, rfl, hfin.out⟩
        | some pk =>
          as_aux_lemma =>
          rw [hst] at cb
          change wr.cell? ⟨g, 2, none⟩ = some (.bool false) at cb
          have hnx : rdJs bs sJ (k + 1) = ((rdJs bs sJ k).1 ++ [jOf (rdNs bs (rdJs bs sJ k).2 4).1], (rdNs bs (rdJs bs sJ k).2 4).2) := rfl
          clear hst
          generalize hst : (rdJs bs sJ k).2 = t0 at *
          generalize hcs : (rdJs bs sJ k).1.flatMap jC = cs0 at *
          replace hst := Lib.hid hst
          have hcs0 := Lib.hid hcs
          obtain ⟨y1, t1, e1⟩ : ∃ x s, rdS bs t0 = (x, s) := ⟨_, _, rfl⟩
          obtain ⟨y2, t2, e2⟩ : ∃ x s, rdS bs t1 = (x, s) := ⟨_, _, rfl⟩
          obtain ⟨y3, t3, e3⟩ : ∃ x s, rdS bs t2 = (x, s) := ⟨_, _, rfl⟩
          obtain ⟨y4, t4, e4⟩ : ∃ x s, rdS bs t3 = (x, s) := ⟨_, _, rfl⟩
          have h8 : rdNs bs t0 4 = ([y1, y2, y3, y4], t4) := by simp only [rdNs, e1, e2, e3, e4, List.nil_append, List.cons_append]
          have hn1 : (rdJs bs sJ (k + 1)).2 = t4 := by rw [hnx, h8]
          have hn2 : (rdJs bs sJ (k + 1)).1.flatMap jC = cs0 ++ [.int .i64 y1, .int .i64 y2, .int .i64 y3, .int .i64 y4] := by
            rw [hnx, h8, List.flatMap_append, hcs]; rfl
          replace hn1 := Lib.hid hn1
          replace hn2 := Lib.hid hn2
          clear hnx h8 hcs
          replace e1 := Lib.hid e1
          replace e2 := Lib.hid e2
          replace e3 := Lib.hid e3
          replace e4 := Lib.hid e4
          go_upto_region 29 with fail
          have U0 := US.start #[.int .i64 0, .int .i64 0, .int .i64 0, .int .i64 0] hD.out ho.out
          change Code.wp _ _ _ _ (wr.alloc (.cells #[.int .i64 0, .int .i64 0, .int .i64 0, .int .i64 0] 127))
          generalize (wr.alloc (.cells #[.int .i64 0, .int .i64 0, .int .i64 0, .int .i64 0] 127)) = w0 at *
          generalize wr.heap.size = gu at *
          replace U0 := Lib.hid U0
          clear hD ho hqb lg cb
          have hn := U0.out.num HB.out hl
          rw [e1.out] at hn
          replace hn := Lib.hid hn
          go_wp2_with fail
          refine hn.out.mono ?_
          clear hn
          rintro e v0 ⟨rfl, M0⟩
          replace M0 := Lib.hid M0
          clear U0
          have cc := M0.out.b.cell 0
          have cz := M0.out.b.frozen 0
          have cl := M0.out.b.lt
          go_upto_region 30 with fail
          have U1 : US w r0 g q A c bs bbunit [⟨62, 8, .slice Aunit Lunit.length cunit, Lunit.length, Lunit.flatMap uC⟩, ⟨3, 1, .slice Ad Ld.length cd, Ld.length, Ld.map (.int .i64)⟩, ⟨3, 1, .slice Ao Lo.length co, Lo.length, Lo.map (.int .i64)⟩, ⟨3, 1, .slice Ag Lg.length cg, Lg.length, Lg.map (.int .i64)⟩] (cW x1 x2 x3 x4 (.slice Ag Lg.length cg) (.slice Ao Lo.length co) (.slice Ad Ld.length cd) (.slice Aunit Lunit.length cunit) vu) 127 4 k cs0 vu gu t1 #[.int .i64 y1, .int .i64 0, .int .i64 0, .int .i64 0] (v0.setCell ⟨gu, 0, none⟩ (.int .i64 y1)) := M0.out.set 0 (.int .i64 y1)
          replace U1 := Lib.hid U1
          clear cc cz cl M0
          generalize (v0.setCell ⟨gu, 0, none⟩ (.int .i64 y1)) = w1 at *
          have hn := U1.out.num HB.out hl
          rw [e2.out] at hn
          replace hn := Lib.hid hn
          go_wp2_with fail
          refine hn.out.mono ?_
          clear hn
          rintro e v1 ⟨rfl, M1⟩
          replace M1 := Lib.hid M1
          clear U1
          have cc := M1.out.b.cell 1
          have cz := M1.out.b.frozen 1
          have cl := M1.out.b.lt
          go_upto_region 31 with fail
          have U2 : US w r0 g q A c bs bbunit [⟨62, 8, .slice Aunit Lunit.length cunit, Lunit.length, Lunit.flatMap uC⟩, ⟨3, 1, .slice Ad Ld.length cd, Ld.length, Ld.map (.int .i64)⟩, ⟨3, 1, .slice Ao Lo.length co, Lo.length, Lo.map (.int .i64)⟩, ⟨3, 1, .slice Ag Lg.length cg, Lg.length, Lg.map (.int .i64)⟩] (cW x1 x2 x3 x4 (.slice Ag Lg.length cg) (.slice Ao Lo.length co) (.slice Ad Ld.length cd) (.slice Aunit Lunit.length cunit) vu) 127 4 k cs0 vu gu t2 #[.int .i64 y1, .int .i64 y2, .int .i64 0, .int .i64 0] (v1.setCell ⟨gu, 1, none⟩ (.int .i64 y2)) := M1.out.set 1 (.int .i64 y2)
          replace U2 := Lib.hid U2
          clear cc cz cl M1
          generalize (v1.setCell ⟨gu, 1, none⟩ (.int .i64 y2)) = w2 at *
          have hn := U2.out.num HB.out hl
          rw [e3.out] at hn
          replace hn := Lib.hid hn
          go_wp2_with fail
          refine hn.out.mono ?_
          clear hn
          rintro e v2 ⟨rfl, M2⟩
          replace M2 := Lib.hid M2
          clear U2
          have cc := M2.out.b.cell 2
          have cz := M2.out.b.frozen 2
          have cl := M2.out.b.lt
          go_upto_region 32 with fail
          have U3 : US w r0 g q A c bs bbunit [⟨62, 8, .slice Aunit Lunit.length cunit, Lunit.length, Lunit.flatMap uC⟩, ⟨3, 1, .slice Ad Ld.length cd, Ld.length, Ld.map (.int .i64)⟩, ⟨3, 1, .slice Ao Lo.length co, Lo.length, Lo.map (.int .i64)⟩, ⟨3, 1, .slice Ag Lg.length cg, Lg.length, Lg.map (.int .i64)⟩] (cW x1 x2 x3 x4 (.slice Ag Lg.length cg) (.slice Ao Lo.length co) (.slice Ad Ld.length cd) (.slice Aunit Lunit.length cunit) vu) 127 4 k cs0 vu gu t3 #[.int .i64 y1, .int .i64 y2, .int .i64 y3, .int .i64 0] (v2.setCell ⟨gu, 2, none⟩ (.int .i64 y3)) := M2.out.set 2 (.int .i64 y3)
          replace U3 := Lib.hid U3
          clear cc cz cl M2
          generalize (v2.setCell ⟨gu, 2, none⟩ (.int .i64 y3)) = w3 at *
          have hn := U3.out.num HB.out hl
          rw [e4.out] at hn
          replace hn := Lib.hid hn
          go_wp2_with fail
          refine hn.out.mono ?_
          clear hn
          rintro e v3 ⟨rfl, M3⟩
          replace M3 := Lib.hid M3
          clear U3
          have cc := M3.out.b.cell 3
          have cz := M3.out.b.frozen 3
          have cl := M3.out.b.lt
          go_upto_region 33 with fail
          have U4 : US w r0 g q A c bs bbunit [⟨62, 8, .slice Aunit Lunit.length cunit, Lunit.length, Lunit.flatMap uC⟩, ⟨3, 1, .slice Ad Ld.length cd, Ld.length, Ld.map (.int .i64)⟩, ⟨3, 1, .slice Ao Lo.length co, Lo.length, Lo.map (.int .i64)⟩, ⟨3, 1, .slice Ag Lg.length cg, Lg.length, Lg.map (.int .i64)⟩] (cW x1 x2 x3 x4 (.slice Ag Lg.length cg) (.slice Ao Lo.length co) (.slice Ad Ld.length cd) (.slice Aunit Lunit.length cunit) vu) 127 4 k cs0 vu gu t4 #[.int .i64 y1, .int .i64 y2, .int .i64 y3, .int .i64 y4] (v3.setCell ⟨gu, 3, none⟩ (.int .i64 y4)) := M3.out.set 3 (.int .i64 y4)
          replace U4 := Lib.hid U4
          clear cc cz cl M3
          generalize (v3.setCell ⟨gu, 3, none⟩ (.int .i64 y4)) = w4 at *
          have c0 : w4.cell? ⟨gu, 0, none⟩ = some (.int .i64 y1) := U4.out.b.cell 0
          have c1 : w4.cell? ⟨gu, 1, none⟩ = some (.int .i64 y2) := U4.out.b.cell 1
          have c2 : w4.cell? ⟨gu, 2, none⟩ = some (.int .i64 y3) := U4.out.b.cell 2
          have c3 : w4.cell? ⟨gu, 3, none⟩ = some (.int .i64 y4) := U4.out.b.cell 3
          have cv := U4.out.d.wb.cell 8
          change w4.cell? ⟨q, 8, none⟩ = some vu at cv
          have clu := U4.out.b.lt
          have clq := U4.out.d.wb.lt
          have hln := U4.out.o.1
          obtain ⟨i0, hi0, hz0, hz1, hz2⟩ := info_parts job_inf
          have hbq := U4.out.d.lt4
          go_wp2_with (first | (at_builtin; refine wpList_app1 rfl (.tmp 111) (.tmp 113) 27 rfl bbunit 127 i0 _ 4 32 Tryd.underlying27 hi0 hz0 hz1 hz2 rfl (by decide) (by decide) w4 #[.int .i64 y1, .int .i64 y2, .int .i64 y3, .int .i64 y4] vu k cs0 rfl U4.out.o rfl rfl rfl (by omega) hbq ?_; intro v' W3 hown' hgrow; obtain ⟨A', c', rfl, _⟩ := own_slice hown'; have hd3 := U4.out.d.grown hgrow (fun b e => (U4.out.o.lt b e).1); have cv3 := hd3.wb.cell 8; have cz3 := hd3.wb.frozen 8; have cl3 := hd3.wb.lt; replace hd3 := Lib.hid hd3; replace hown' := Lib.hid hown'; clear hgrow) | refine wp_bsF rfl _ _ _ _ rfl _ (bs_job y1 y2 y3 y4 _) (by simp only [List.map_toArray, List.map_cons, List.map_nil]; rfl) ?_)
          have hd4 : DWT 124 w r0 g q zW A c bs t4 bbunit [⟨62, 8, .slice Aunit Lunit.length cunit, Lunit.length, Lunit.flatMap uC⟩, ⟨3, 1, .slice Ad Ld.length cd, Ld.length, Ld.map (.int .i64)⟩, ⟨3, 1, .slice Ao Lo.length co, Lo.length, Lo.map (.int .i64)⟩, ⟨3, 1, .slice Ag Lg.length cg, Lg.length, Lg.map (.int .i64)⟩] (cW x1 x2 x3 x4 (.slice Ag Lg.length cg) (.slice Ao Lo.length co) (.slice Ad Ld.length cd) (.slice Aunit Lunit.length cunit) (.slice A' (k + 1) c')) (W3.setCell ⟨q, 8, none⟩ (.slice A' (k + 1) c')) := hd3.out.set 8 (.slice A' (k + 1) c')
          have ho4 := hd3.out.own_set hown'.out 8 (.slice A' (k + 1) c')
          replace hd4 := Lib.hid hd4
          replace ho4 := Lib.hid ho4
          clear hd3 hown' U4 cv c0 c1 c2 c3 clu clq hln hi0 hz0 hz1 hz2
          go_roundw
          case rel => exact ⟨k + 1, .slice A' (k + 1) c', by go_num, by omega, Lib.hid (by rw [hn1.out]; exact hd4.out), Lib.hid (by rw [hn2.out]; exact ho4.out)⟩
          case measure => simp [intOf]; omega
      · as_aux_lemma =>
        have j1 : ¬ (k : Int) < (mj : Int) := by omega
        obtain rfl : k = mj := by omega
        have hfin : ∃ vu, ∃ L : List GJ, Hid (DWT 124 w r0 g q zW A c bs (rdJs bs sJ k).2 bbunit [⟨62, 8, .slice Aunit Lunit.length cunit, Lunit.length, Lunit.flatMap uC⟩, ⟨3, 1, .slice Ad Ld.length cd, Ld.length, Ld.map (.int .i64)⟩, ⟨3, 1, .slice Ao Lo.length co, Lo.length, Lo.map (.int .i64)⟩, ⟨3, 1, .slice Ag Lg.length cg, Lg.length, Lg.map (.int .i64)⟩] (cW x1 x2 x3 x4 (.slice Ag Lg.length cg) (.slice Ao Lo.length co) (.slice Ad Ld.length cd) (.slice Aunit Lunit.length cunit) vu) wr) ∧ Hid (wr.ownsRow bbunit 127 4 vu L.length (L.flatMap jC)) ∧ Hid (L.length ≤ 200) ∧ Hid ((rdJs bs sJ k).2 ≠ none → L = (rdJs bs sJ k).1) := ⟨vu, (rdJs bs sJ k).1, hD, Lib.hid (by rw [rdJs_len]; exact ho.out), Lib.hid (by rw [rdJs_len]; omega), Lib.hid (fun _ => rfl)⟩
        replace hfin := Lib.hid hfin
        clear hD ho
        go_wp2_with fail
        go_meet
        case rel => exact ⟨_, rfl, hfin.out⟩
  case rest =>
  obtain ⟨wxjob, rfl, vu, Ljob, hdjob, hownjob, hlenjob, hLjob⟩ := hcut
  clear E10
  obtain ⟨Ajob, cjob, rfl, _⟩ := own_slice hownjob.out
  have E11 := hdjob.out.row ⟨127, 4, .slice Ajob Ljob.length cjob, Ljob.length, Ljob.flatMap jC⟩ hownjob.out
  generalize wxjob.heap.size = bbjob at *
  replace E11 := Lib.hid E11
  clear hdjob hownjob
  obtain ⟨qq, hqb, hql, hqp⟩ := E11.out.rok.blk
  have lr0 := E11.out.zer.lt
  have lq0 := E11.out.wb.lt
  have lg0 := hqb.lt
  have hbel := E11.out.bel
  replace hbel := Lib.hid hbel
  have zc0 : wxjob.cell? ⟨r0, 0, none⟩ = some (.int .i64 0) := E11.out.zer.cell 0
  have zf0 := E11.out.zer.frozen 0
  have zc1 : wxjob.cell? ⟨r0, 1, none⟩ = some (.int .i64 0) := E11.out.zer.cell 1
  have zf1 := E11.out.zer.frozen 1
  have zc2 : wxjob.cell? ⟨r0, 2, none⟩ = some (.int .i64 0) := E11.out.zer.cell 2
  have zf2 := E11.out.zer.frozen 2
  have zc3 : wxjob.cell? ⟨r0, 3, none⟩ = some (.int .i64 0) := E11.out.zer.cell 3
  have zf3 := E11.out.zer.frozen 3
  have zc4 : wxjob.cell? ⟨r0, 4, none⟩ = some (.slice none 0 0) := E11.out.zer.cell 4
  have zf4 := E11.out.zer.frozen 4
  have zc5 : wxjob.cell? ⟨r0, 5, none⟩ = some (.slice none 0 0) := E11.out.zer.cell 5
  have zf5 := E11.out.zer.frozen 5
  have zc6 : wxjob.cell? ⟨r0, 6, none⟩ = some (.slice none 0 0) := E11.out.zer.cell 6
  have zf6 := E11.out.zer.frozen 6
  have zc7 : wxjob.cell? ⟨r0, 7, none⟩ = some (.slice none 0 0) := E11.out.zer.cell 7
  have zf7 := E11.out.zer.frozen 7
  have zc8 : wxjob.cell? ⟨r0, 8, none⟩ = some (.slice none 0 0) := E11.out.zer.cell 8
  have zf8 := E11.out.zer.frozen 8
  cases hst : (rdJs bs sJ mj).2 with
  | none =>
    rw [hst] at hqb
    have rc2 : wxjob.cell? ⟨g, 2, none⟩ = some (.bool true) := hqb.cell 2
    have hJn : (dJ bs).2 = none := by rw [qJ.out]; exact hst
    replace hJn := Lib.hid hJn
    clear hst
    replace hqb := Lib.hid hqb
    have hzB : Blk (((((((((wxjob.setCell ⟨r0, 0, none⟩ (.int .i64 0)).setCell ⟨r0, 1, none⟩ (.int .i64 0)).setCell ⟨r0, 2, none⟩ (.int .i64 0)).setCell ⟨r0, 3, none⟩ (.int .i64 0)).setCell ⟨r0, 4, none⟩ (.slice none 0 0)).setCell ⟨r0, 5, none⟩ (.slice none 0 0)).setCell ⟨r0, 6, none⟩ (.slice none 0 0)).setCell ⟨r0, 7, none⟩ (.slice none 0 0)).setCell ⟨r0, 8, none⟩ (.slice none 0 0)) r0 29 zW := (((((((((E11.out.zer.set_ 0 (.int .i64 0)).set_ 1 (.int .i64 0)).set_ 2 (.int .i64 0)).set_ 3 (.int .i64 0)).set_ 4 (.slice none 0 0)).set_ 5 (.slice none 0 0)).set_ 6 (.slice none 0 0)).set_ 7 (.slice none 0 0)).set_ 8 (.slice none 0 0))
    have hbB : Below r0 w (((((((((wxjob.setCell ⟨r0, 0, none⟩ (.int .i64 0)).setCell ⟨r0, 1, none⟩ (.int .i64 0)).setCell ⟨r0, 2, none⟩ (.int .i64 0)).setCell ⟨r0, 3, none⟩ (.int .i64 0)).setCell ⟨r0, 4, none⟩ (.slice none 0 0)).setCell ⟨r0, 5, none⟩ (.slice none 0 0)).setCell ⟨r0, 6, none⟩ (.slice none 0 0)).setCell ⟨r0, 7, none⟩ (.slice none 0 0)).setCell ⟨r0, 8, none⟩ (.slice none 0 0)) := (((((((((hbel.out.setCell (p := ⟨r0, 0, none⟩) (Nat.le_refl _) (.int .i64 0)).setCell (p := ⟨r0, 1, none⟩) (Nat.le_refl _) (.int .i64 0)).setCell (p := ⟨r0, 2, none⟩) (Nat.le_refl _) (.int .i64 0)).setCell (p := ⟨r0, 3, none⟩) (Nat.le_refl _) (.int .i64 0)).setCell (p := ⟨r0, 4, none⟩) (Nat.le_refl _) (.slice none 0 0)).setCell (p := ⟨r0, 5, none⟩) (Nat.le_refl _) (.slice none 0 0)).setCell (p := ⟨r0, 6, none⟩) (Nat.le_refl _) (.slice none 0 0)).setCell (p := ⟨r0, 7, none⟩) (Nat.le_refl _) (.slice none 0 0)).setCell (p := ⟨r0, 8, none⟩) (Nat.le_refl _) (.slice none 0 0))
    replace hzB := Lib.hid hzB
    replace hbB := Lib.hid hbB
    go_wp2_with fail
    (try simp only [Exit.inBlock, Exit.then])
    refine bodyPost_ret (results_ctt rfl _ _ r0 _ zW _ rfl hzB.out Tryd.underlying29 rfl (by kernel_rfl)) rfl ?_
    exact ⟨hr0 ▸ hbB.out, .inl ⟨hJn.out, rfl⟩⟩
  | some p =>
    obtain rfl := hqp p hst
    rw [hst] at hqb
    have rc1 : wxjob.cell? ⟨g, 1, none⟩ = some (.int .i64 (qq : Int)) := hqb.cell 1
    have rc2 : wxjob.cell? ⟨g, 2, none⟩ = some (.bool false) := hqb.cell 2
    have hJn : (dJ bs).2 = some qq := by rw [qJ.out]; exact hst
    replace hJn := Lib.hid hJn
    have hst' := Lib.hid hst
    clear hst
    have hcw := E11.out
    rw [hst'.out] at hcw
    have hqB : Blk wxjob q 29 #[.int .i64 x1, .int .i64 x2, .int .i64 x3, .int .i64 x4, .slice Ag Lg.length cg, .slice Ao Lo.length co, .slice Ad Ld.length cd, .slice Aunit Lunit.length cunit, .slice Ajob Ljob.length cjob] := hcw.wb
    have hgB := hqb
    have n1 : q ≠ r0 := by have := hcw.lt1; have := hcw.lt2; omega
    have n2 : g ≠ r0 := by have := hcw.lt1; omega
    replace hqB := Lib.hid hqB
    replace hgB := Lib.hid hgB
    replace n1 := Lib.hid n1
    replace n2 := Lib.hid n2
    replace hcw := Lib.hid hcw
    replace hqb := Lib.hid hqb
    go_upto_region 36 with fail
    refine wp_region_noPanic ?_
    refine wp_region_held_drew (S := fun w' => Blk w' q 29 #[.int .i64 x1, .int .i64 x2, .int .i64 x3, .int .i64 x4, .slice Ag Lg.length cg, .slice Ao Lo.length co, .slice Ad Ld.length cd, .slice Aunit Lunit.length cunit, .slice Ajob Ljob.length cjob] ∧ Blk w' g 124 #[.slice A bs.length c, .int .i64 (qq : Int), .bool false]) (by kernel_rfl) ⟨hqB.out.drew, hgB.out.drew⟩ (fun hH0 => ?_)
    refine wpAnyH_take (i := 0) (oi := _) (v := ?_) rfl (by kernel_rfl) (by kernel_rfl) (by kernel_rfl) (fun _ _ _ h => h) (Or.inl ⟨by rfl, ?_⟩) hH0 ?_
    rotate_left
    · intro w' hSw
      (try dsimp only at hSw)
      (refine exec_load_row 29 (.tmp 6) ?_ q ?_ _ _ _ hSw.1 Tryd.underlying29 rfl (by kernel_rfl) <;> rfl)
    try simp only [List.getElem_toArray, List.getElem_cons_zero, Act.put, List.setIfInBounds_toArray, List.set_cons_zero, List.set_cons_succ]
    refine wpAnyH_take (i := 1) (oi := _) (v := ?_) rfl (by kernel_rfl) (by kernel_rfl) (by kernel_rfl) (fun _ _ _ h => h) (Or.inl ⟨by rfl, ?_⟩) hH0 ?_
    rotate_left
    · intro w' hSw
      (try dsimp only at hSw)
      first | (go_simp; done) | (go_simp; with_reducible rfl)
    try simp only [List.getElem_toArray, List.getElem_cons_zero, List.getElem_cons_succ, Act.put, List.setIfInBounds_toArray, List.set_cons_zero, List.set_cons_succ]
    refine wpAnyH_take (i := 2) (oi := _) (v := ?_) rfl (by kernel_rfl) (by kernel_rfl) (by kernel_rfl) (fun _ _ _ h => h) (Or.inl ⟨by rfl, ?_⟩) hH0 ?_
    rotate_left
    · intro w' hSw
      (try dsimp only at hSw)
      first | (go_simp; done) | (go_simp; with_reducible rfl)
    try simp only [List.getElem_toArray, List.getElem_cons_zero, List.getElem_cons_succ, Act.put, List.setIfInBounds_toArray, List.set_cons_zero, List.set_cons_succ]
    refine wpAnyH_take (i := 3) (oi := _) (v := ?_) rfl (by kernel_rfl) (by kernel_rfl) (by kernel_rfl) (fun _ _ _ h => h) (Or.inl ⟨by rfl, ?_⟩) hH0 ?_
    rotate_left
    · intro w' hSw
      (try dsimp only at hSw)
      first | (go_simp; done) | (go_simp; with_reducible rfl)
    try simp only [List.getElem_toArray, List.getElem_cons_zero, List.getElem_cons_succ, Act.put, List.setIfInBounds_toArray, List.set_cons_zero, List.set_cons_succ]
    refine wpAnyH_take (i := 4) (oi := _) (v := ?_) rfl (by kernel_rfl) (by kernel_rfl) (by kernel_rfl) (fun _ _ _ h => h) (Or.inl ⟨by rfl, ?_⟩) hH0 ?_
    rotate_left
    · intro w' hSw
      (try dsimp only at hSw)
      have h1 := hSw.2.cell 1
      change w'.cell? ⟨g, 1, none⟩ = some (.int .i64 (qq : Int)) at h1
      first | (go_simp; done) | (go_simp; with_reducible rfl)
    try simp only [List.getElem_toArray, List.getElem_cons_zero, List.getElem_cons_succ, Act.put, List.setIfInBounds_toArray, List.set_cons_zero, List.set_cons_succ]
    have zcB : Blk (((((((((wxjob.setCell ⟨r0, 0, none⟩ (.int .i64 x1)).setCell ⟨r0, 1, none⟩ (.int .i64 x2)).setCell ⟨r0, 2, none⟩ (.int .i64 x3)).setCell ⟨r0, 3, none⟩ (.int .i64 x4)).setCell ⟨r0, 4, none⟩ (.slice Ag Lg.length cg)).setCell ⟨r0, 5, none⟩ (.slice Ao Lo.length co)).setCell ⟨r0, 6, none⟩ (.slice Ad Ld.length cd)).setCell ⟨r0, 7, none⟩ (.slice Aunit Lunit.length cunit)).setCell ⟨r0, 8, none⟩ (.slice Ajob Ljob.length cjob)).drew r0 29 #[.int .i64 x1, .int .i64 x2, .int .i64 x3, .int .i64 x4, .slice Ag Lg.length cg, .slice Ao Lo.length co, .slice Ad Ld.length cd, .slice Aunit Lunit.length cunit, .slice Ajob Ljob.length cjob] := by
      have h := (((((((((E11.out.zer.set_ 0 (.int .i64 x1)).set_ 1 (.int .i64 x2)).set_ 2 (.int .i64 x3)).set_ 3 (.int .i64 x4)).set_ 4 (.slice Ag Lg.length cg)).set_ 5 (.slice Ao Lo.length co)).set_ 6 (.slice Ad Ld.length cd)).set_ 7 (.slice Aunit Lunit.length cunit)).set_ 8 (.slice Ajob Ljob.length cjob))
      unfold zW at h
      simp only [List.setIfInBounds_toArray, List.set_cons_zero, List.set_cons_succ] at h
      exact h.drew
    have zbB : Below r0 w ((((((((((wxjob.setCell ⟨r0, 0, none⟩ (.int .i64 x1)).setCell ⟨r0, 1, none⟩ (.int .i64 x2)).setCell ⟨r0, 2, none⟩ (.int .i64 x3)).setCell ⟨r0, 3, none⟩ (.int .i64 x4)).setCell ⟨r0, 4, none⟩ (.slice Ag Lg.length cg)).setCell ⟨r0, 5, none⟩ (.slice Ao Lo.length co)).setCell ⟨r0, 6, none⟩ (.slice Ad Ld.length cd)).setCell ⟨r0, 7, none⟩ (.slice Aunit Lunit.length cunit)).setCell ⟨r0, 8, none⟩ (.slice Ajob Ljob.length cjob)).drew) := (((((((((hbel.out.setCell (p := ⟨r0, 0, none⟩) (Nat.le_refl _) (.int .i64 x1)).setCell (p := ⟨r0, 1, none⟩) (Nat.le_refl _) (.int .i64 x2)).setCell (p := ⟨r0, 2, none⟩) (Nat.le_refl _) (.int .i64 x3)).setCell (p := ⟨r0, 3, none⟩) (Nat.le_refl _) (.int .i64 x4)).setCell (p := ⟨r0, 4, none⟩) (Nat.le_refl _) (.slice Ag Lg.length cg)).setCell (p := ⟨r0, 5, none⟩) (Nat.le_refl _) (.slice Ao Lo.length co)).setCell (p := ⟨r0, 6, none⟩) (Nat.le_refl _) (.slice Ad Ld.length cd)).setCell (p := ⟨r0, 7, none⟩) (Nat.le_refl _) (.slice Aunit Lunit.length cunit)).setCell (p := ⟨r0, 8, none⟩) (Nat.le_refl _) (.slice Ajob Ljob.length cjob)).drew
    have zqB : Blk (((((((((wxjob.setCell ⟨r0, 0, none⟩ (.int .i64 x1)).setCell ⟨r0, 1, none⟩ (.int .i64 x2)).setCell ⟨r0, 2, none⟩ (.int .i64 x3)).setCell ⟨r0, 3, none⟩ (.int .i64 x4)).setCell ⟨r0, 4, none⟩ (.slice Ag Lg.length cg)).setCell ⟨r0, 5, none⟩ (.slice Ao Lo.length co)).setCell ⟨r0, 6, none⟩ (.slice Ad Ld.length cd)).setCell ⟨r0, 7, none⟩ (.slice Aunit Lunit.length cunit)).setCell ⟨r0, 8, none⟩ (.slice Ajob Ljob.length cjob)).drew q 29 #[.int .i64 x1, .int .i64 x2, .int .i64 x3, .int .i64 x4, .slice Ag Lg.length cg, .slice Ao Lo.length co, .slice Ad Ld.length cd, .slice Aunit Lunit.length cunit, .slice Ajob Ljob.length cjob] := (((((((((hqB.out.far (p := ⟨r0, 0, none⟩) n1.out (.int .i64 x1)).far (p := ⟨r0, 1, none⟩) n1.out (.int .i64 x2)).far (p := ⟨r0, 2, none⟩) n1.out (.int .i64 x3)).far (p := ⟨r0, 3, none⟩) n1.out (.int .i64 x4)).far (p := ⟨r0, 4, none⟩) n1.out (.slice Ag Lg.length cg)).far (p := ⟨r0, 5, none⟩) n1.out (.slice Ao Lo.length co)).far (p := ⟨r0, 6, none⟩) n1.out (.slice Ad Ld.length cd)).far (p := ⟨r0, 7, none⟩) n1.out (.slice Aunit Lunit.length cunit)).far (p := ⟨r0, 8, none⟩) n1.out (.slice Ajob Ljob.length cjob)).drew
    have zgB : Blk (((((((((wxjob.setCell ⟨r0, 0, none⟩ (.int .i64 x1)).setCell ⟨r0, 1, none⟩ (.int .i64 x2)).setCell ⟨r0, 2, none⟩ (.int .i64 x3)).setCell ⟨r0, 3, none⟩ (.int .i64 x4)).setCell ⟨r0, 4, none⟩ (.slice Ag Lg.length cg)).setCell ⟨r0, 5, none⟩ (.slice Ao Lo.length co)).setCell ⟨r0, 6, none⟩ (.slice Ad Ld.length cd)).setCell ⟨r0, 7, none⟩ (.slice Aunit Lunit.length cunit)).setCell ⟨r0, 8, none⟩ (.slice Ajob Ljob.length cjob)).drew g 124 #[.slice A bs.length c, .int .i64 (qq : Int), .bool false] := (((((((((hgB.out.far (p := ⟨r0, 0, none⟩) n2.out (.int .i64 x1)).far (p := ⟨r0, 1, none⟩) n2.out (.int .i64 x2)).far (p := ⟨r0, 2, none⟩) n2.out (.int .i64 x3)).far (p := ⟨r0, 3, none⟩) n2.out (.int .i64 x4)).far (p := ⟨r0, 4, none⟩) n2.out (.slice Ag Lg.length cg)).far (p := ⟨r0, 5, none⟩) n2.out (.slice Ao Lo.length co)).far (p := ⟨r0, 6, none⟩) n2.out (.slice Ad Ld.length cd)).far (p := ⟨r0, 7, none⟩) n2.out (.slice Aunit Lunit.length cunit)).far (p := ⟨r0, 8, none⟩) n2.out (.slice Ajob Ljob.length cjob)).drew
    have zf16 := E11.out.fin.kept (grownBy_drew (grownBy_trans (grownBy_trans (grownBy_trans (grownBy_trans (grownBy_trans (grownBy_trans (grownBy_trans (grownBy_trans (grownBy_trans (World.grownBy.refl wxjob (some r0)) (grownBy_set _ r0 0 (.int .i64 x1))) (grownBy_set _ r0 1 (.int .i64 x2))) (grownBy_set _ r0 2 (.int .i64 x3))) (grownBy_set _ r0 3 (.int .i64 x4))) (grownBy_set _ r0 4 (.slice Ag Lg.length cg))) (grownBy_set _ r0 5 (.slice Ao Lo.length co))) (grownBy_set _ r0 6 (.slice Ad Ld.length cd))) (grownBy_set _ r0 7 (.slice Aunit Lunit.length cunit))) (grownBy_set _ r0 8 (.slice Ajob Ljob.length cjob)))) (fun b e => .inl (by have := E11.out.lt1; have := E11.out.lt2; injection e; omega))
    change Fin_ ((((((((((wxjob.setCell ⟨r0, 0, none⟩ (.int .i64 x1)).setCell ⟨r0, 1, none⟩ (.int .i64 x2)).setCell ⟨r0, 2, none⟩ (.int .i64 x3)).setCell ⟨r0, 3, none⟩ (.int .i64 x4)).setCell ⟨r0, 4, none⟩ (.slice Ag Lg.length cg)).setCell ⟨r0, 5, none⟩ (.slice Ao Lo.length co)).setCell ⟨r0, 6, none⟩ (.slice Ad Ld.length cd)).setCell ⟨r0, 7, none⟩ (.slice Aunit Lunit.length cunit)).setCell ⟨r0, 8, none⟩ (.slice Ajob Ljob.length cjob)).drew) q bbjob _ at zf16
    replace zf16 := Lib.hid zf16
    replace zcB := Lib.hid zcB
    replace zbB := Lib.hid zbB
    replace zqB := Lib.hid zqB
    replace zgB := Lib.hid zgB
    refine wpAnyH_ready (rs := [5]) (by kernel_rfl) (by simp) ?_
    refine AllReadyH.cons (o := { dst := none, op := .store 29 (.tmp 2) (.tmp 121), type := _, pos := _, after := _, guard := none }) rfl (fun K hK => ?_) AllReadyH.nil
    go_simp
    refine hK.out _ _ ⟨zqB.out, zgB.out⟩ (fun hHeld => ?_)
    clear hK K
    generalize (((((((((wxjob.setCell ⟨r0, 0, none⟩ (.int .i64 x1)).setCell ⟨r0, 1, none⟩ (.int .i64 x2)).setCell ⟨r0, 2, none⟩ (.int .i64 x3)).setCell ⟨r0, 3, none⟩ (.int .i64 x4)).setCell ⟨r0, 4, none⟩ (.slice Ag Lg.length cg)).setCell ⟨r0, 5, none⟩ (.slice Ao Lo.length co)).setCell ⟨r0, 6, none⟩ (.slice Ad Ld.length cd)).setCell ⟨r0, 7, none⟩ (.slice Aunit Lunit.length cunit)).setCell ⟨r0, 8, none⟩ (.slice Ajob Ljob.length cjob)).drew = Wend at *
    try simp only [Act.put, List.setIfInBounds_toArray, List.set_cons_zero, List.set_cons_succ]
    refine wpAnyH_ready (rs := [6]) (by kernel_rfl) (by simp) ?_
    refine AllReadyH.cons (o := _) rfl (fun K hK => ?_) AllReadyH.nil
    go_simp
    refine hK.out _ _ hHeld (fun hHeld => ?_)
    clear hK K
    try simp only [List.getElem_toArray, List.getElem_cons_zero, List.getElem_cons_succ, Act.put, List.setIfInBounds_toArray, List.set_cons_zero, List.set_cons_succ]
    refine wpAnyH_ready (rs := [7]) (by kernel_rfl) (by simp) ?_
    refine AllReadyH.cons (o := _) rfl (fun K hK => ?_) AllReadyH.nil
    go_simp
    refine hK.out _ _ hHeld (fun hHeld => ?_)
    clear hK K
    try simp only [List.getElem_toArray, List.getElem_cons_zero, List.getElem_cons_succ, Act.put, List.setIfInBounds_toArray, List.set_cons_zero, List.set_cons_succ]
    refine wpAnyH_done (by kernel_rfl) ?_ _
    refine NoPanic.normal ?_
    go_wp2_with fail
    (try simp only [Exit.inBlock, Exit.then])
    refine bodyPost_ret (results_ctt rfl _ _ r0 _ #[.int .i64 x1, .int .i64 x2, .int .i64 x3, .int .i64 x4, .slice Ag Lg.length cg, .slice Ao Lo.length co, .slice Ad Ld.length cd, .slice Aunit Lunit.length cunit, .slice Ajob Ljob.length cjob] _ rfl zcB.out Tryd.underlying29 rfl (by kernel_rfl)) rfl ?_

    obtain ⟨k1, k2, k3, k4⟩ := hsm.out qq hJn.out
    have eG : Lg = (dG bs).1 := by rw [qG.out]; exact hLg.out k1
    have eO : Lo = (dO bs).1 := by rw [qO.out]; exact hLo.out k2
    have eD : Ld = (dD bs).1 := by rw [qD.out]; exact hLd.out k3
    have eU : Lunit = (dU bs).1 := by rw [qU.out]; exact hLunit.out k4
    have eJ : Ljob = (dJ bs).1 := by rw [qJ.out]; exact hLjob.out (by rw [hst'.out]; simp)
    have hf := zf16.out
    rw [eG, eO, eD, eU, eJ] at hf
    refine ⟨hr0 ▸ zbB.out, .inr ⟨qq, hJn.out, ⟨⟨⟨Ag, cg⟩, ⟨Ao, co⟩⟩, ⟨Ad, cd⟩, ⟨Aunit, cunit⟩, ⟨Ajob, cjob⟩⟩, ?_, ?_, ?_, ?_, ?_, ?_⟩⟩
    · rw [eG, eO, eD, eU, eJ]
      unfold wV
      rw [qW.out.1, qW.out.2.1, qW.out.2.2.1, qW.out.2.2.2]; rfl
    · exact RD.of_own (hf _ (by simp only [List.mem_cons]; exact .inr (.inr (.inr (.inr (.inl rfl)))))).1
    · exact RD.of_own (hf _ (by simp only [List.mem_cons]; exact .inr (.inr (.inr (.inl rfl))))).1
    · exact RD.of_own (hf _ (by simp only [List.mem_cons]; exact .inr (.inr (.inl rfl)))).1
    · exact RD.of_own (hf _ (by simp only [List.mem_cons]; exact .inr (.inl rfl))).1
    · exact RD.of_own (hf _ (by simp only [List.mem_cons]; exact .inl rfl)).1
end Go.Proofs.YtkngommlclcikaaDoor
