import Derived.Test.YtkgkpggfoieioaaDoorEnc
import Derived.Test.YtkgkpggfoieioaaDoorPlainEn
namespace Go.Proofs.YtkgkpggfoieioaaDoor
set_option linter.unusedVariables false
open Go.RowKit
theorem wp_bsE {P : Program} {ops : Array Oper} {rest : List Oper} {o : Oper} {a : Act} {w w' : World} {Q : Exit → Act → World → Prop} (hg : o.guard = none) (t : TypeId) (n : Nat) (parts : Array (Nat × Operand)) (r : Value) (ho : o.op = .buildSlice t n parts)
    (vals : Array (Nat × Value)) (h0 : (Instr.buildSlice t n vals).run P w = .ok r w') (hv : (parts.map fun (i, x) => (i, a.eval x)) = vals) (h : wpList P ops Q rest (a.put o.dst r) w') : wpList P ops Q (o :: rest) a w := by
  refine wpList_plain hg fun _ hK => ?_
  unfold Oper.wp execOp
  simp only [ho, Sem.run_bind, hv, h0, Result.andThen_ok]
  exact hK _ _ h
theorem bs_i8 (y1 y2 y3 y4 y5 y6 y7 y8 : Int) (w : World) : (Instr.buildSlice 34 8 #[(0, .int .i64 y1), (1, .int .i64 y2), (2, .int .i64 y3), (3, .int .i64 y4), (4, .int .i64 y5), (5, .int .i64 y6), (6, .int .i64 y7), (7, .int .i64 y8)]).run Tryd.prog w =
    .ok (.slice (some ⟨w.heap.size, 0, none⟩) 8 8) (w.alloc (.cells #[.int .i64 y1, .int .i64 y2, .int .i64 y3, .int .i64 y4, .int .i64 y5, .int .i64 y6, .int .i64 y7, .int .i64 y8] 3)) := by kernel_rfl
theorem bs_i4 (y1 y2 y3 y4 : Int) (w : World) : (Instr.buildSlice 34 4 #[(0, .int .i64 y1), (1, .int .i64 y2), (2, .int .i64 y3), (3, .int .i64 y4)]).run Tryd.prog w =
    .ok (.slice (some ⟨w.heap.size, 0, none⟩) 4 4) (w.alloc (.cells #[.int .i64 y1, .int .i64 y2, .int .i64 y3, .int .i64 y4] 3)) := by kernel_rfl
set_option maxHeartbeats 6400000 in
set_option maxRecDepth 100000 in
theorem encode_big (s : SW) (x : GW) (w : World) (hG : RD w w.heap.size 1 s.field.ground.A x.field.ground.length (x.field.ground.map (.int .i64))) (hO : RD w w.heap.size 1 s.field.ore.A x.field.ore.length (x.field.ore.map (.int .i64)))
    (hD : RD w w.heap.size 1 s.gold.A x.gold.length (x.gold.map (.int .i64))) (hU : RD w w.heap.size 8 s.units.A x.units.length (x.units.flatMap uC)) (hJ : RD w w.heap.size 4 s.queue.A x.queue.length (x.queue.flatMap jC))
    (hI : ∀ n ∈ wN x, I64 n) (hl1 : x.field.ground.length ≤ 1048576) (hl2 : x.field.ore.length ≤ 1048576) (hl3 : x.gold.length ≤ 1048576) (hl4 : x.units.length ≤ 1048576) (hl5 : x.queue.length ≤ 1048576) :
    Calls Tryd.prog 31 #[.agg (wV s x).toArray] w fun e w' => ∃ v, e = .returned v ∧ w'.ownsRow (w.heap.size + 2) 5 1 v (encL x).length ((encL x).map (.int .u8)) ∧ Below w.heap.size w w' := by
  have i0 : I64 x.turn ∧ I64 x.next ∧ I64 x.field.wide ∧ I64 x.field.high := ⟨hI _ (by simp [wN]), hI _ (by simp [wN]), hI _ (by simp [wN]), hI _ (by simp [wN])⟩
  have iG : ∀ n ∈ x.field.ground, I64 n := fun n hn => hI n (by simp [wN, lN, hn])
  have iO : ∀ n ∈ x.field.ore, I64 n := fun n hn => hI n (by simp [wN, lN, hn])
  have iD : ∀ n ∈ x.gold, I64 n := fun n hn => hI n (by simp [wN, lN, hn])
  have iU : ∀ u ∈ x.units, ∀ n ∈ uN u, I64 n := fun u hu n hn => hI n (by simp only [wN, List.mem_append, List.mem_cons, List.mem_flatMap]; exact .inr (.inr (.inr (.inr (.inl (.inr ⟨u, hu, hn⟩))))))
  have iJ : ∀ u ∈ x.queue, ∀ n ∈ jN u, I64 n := fun u hu n hn => hI n (by simp only [wN, List.mem_append, List.mem_cons, List.mem_flatMap]; exact .inr (.inr (.inr (.inr (.inr (.inr ⟨u, hu, hn⟩))))))
  replace hG := Lib.hid hG
  replace hO := Lib.hid hO
  replace hD := Lib.hid hD
  replace hU := Lib.hid hU
  replace hJ := Lib.hid hJ
  replace i0 := Lib.hid i0
  replace iG := Lib.hid iG
  replace iO := Lib.hid iO
  replace iD := Lib.hid iD
  replace iU := Lib.hid iU
  replace iJ := Lib.hid iJ
  clear hI
  unfold wV
  go_enter Tryd.func31, Tryd.ntmps31
  go_upto_region 3 with fail
  have hs1 : ((w.alloc (.cells #[.int .i64 x.turn, .int .i64 x.next, .int .i64 x.field.wide, .int .i64 x.field.high, .slice s.field.ground.A x.field.ground.length s.field.ground.c, .slice s.field.ore.A x.field.ore.length s.field.ore.c, .slice s.gold.A x.gold.length s.gold.c, .slice s.units.A x.units.length s.units.c, .slice s.queue.A x.queue.length s.queue.c] 55)).alloc (.cells #[.slice none 0 0] 65)).heap.size = w.heap.size + 1 + 1 := by simp
  have E1 : EB w w.heap.size [(w.heap.size, 55, #[.int .i64 x.turn, .int .i64 x.next, .int .i64 x.field.wide, .int .i64 x.field.high, .slice s.field.ground.A x.field.ground.length s.field.ground.c, .slice s.field.ore.A x.field.ore.length s.field.ore.c, .slice s.gold.A x.gold.length s.gold.c, .slice s.units.A x.units.length s.units.c, .slice s.queue.A x.queue.length s.queue.c])] [] 0 ((w.alloc (.cells #[.int .i64 x.turn, .int .i64 x.next, .int .i64 x.field.wide, .int .i64 x.field.high, .slice s.field.ground.A x.field.ground.length s.field.ground.c, .slice s.field.ore.A x.field.ore.length s.field.ore.c, .slice s.gold.A x.gold.length s.gold.c, .slice s.units.A x.units.length s.units.c, .slice s.queue.A x.queue.length s.queue.c] 55)).alloc (.cells #[.slice none 0 0] 65)) := by
    refine ⟨fun p hp => ?_, ⟨none, 0, ?_, World.ownsRow_nil _ _ _ _, fun p hp => by simp [Value.ownBlock]⟩, ((Below.refl _ _).alloc (Nat.le_refl _) _).alloc (by simp) _, by omega, by simp⟩
    · rcases List.mem_singleton.1 hp with rfl
      exact ⟨(Blk.new w _ _).alloc _, by show w.heap.size ≠ w.heap.size + 1; omega⟩
    · have := Blk.new (w.alloc (.cells #[.int .i64 x.turn, .int .i64 x.next, .int .i64 x.field.wide, .int .i64 x.field.high, .slice s.field.ground.A x.field.ground.length s.field.ground.c, .slice s.field.ore.A x.field.ore.length s.field.ore.c, .slice s.gold.A x.gold.length s.gold.c, .slice s.units.A x.units.length s.units.c, .slice s.queue.A x.queue.length s.queue.c] 55)) 65 #[.slice none 0 0]
      rwa [show (w.alloc (.cells #[.int .i64 x.turn, .int .i64 x.next, .int .i64 x.field.wide, .int .i64 x.field.high, .slice s.field.ground.A x.field.ground.length s.field.ground.c, .slice s.field.ore.A x.field.ore.length s.field.ore.c, .slice s.gold.A x.gold.length s.gold.c, .slice s.units.A x.units.length s.units.c, .slice s.queue.A x.queue.length s.queue.c] 55)).heap.size = w.heap.size + 1 by simp] at this
  generalize ((w.alloc (.cells #[.int .i64 x.turn, .int .i64 x.next, .int .i64 x.field.wide, .int .i64 x.field.high, .slice s.field.ground.A x.field.ground.length s.field.ground.c, .slice s.field.ore.A x.field.ore.length s.field.ore.c, .slice s.gold.A x.gold.length s.gold.c, .slice s.units.A x.units.length s.units.c, .slice s.queue.A x.queue.length s.queue.c] 55)).alloc (.cells #[.slice none 0 0] 65)) = W1 at *
  generalize hr0 : w.heap.size = r0 at *
  replace E1 := Lib.hid E1
  clear hs1
  have hb := (E1.out.wb (r0, 55, #[.int .i64 x.turn, .int .i64 x.next, .int .i64 x.field.wide, .int .i64 x.field.high, .slice s.field.ground.A x.field.ground.length s.field.ground.c, .slice s.field.ore.A x.field.ore.length s.field.ore.c, .slice s.gold.A x.gold.length s.gold.c, .slice s.units.A x.units.length s.units.c, .slice s.queue.A x.queue.length s.queue.c]) (by simp)).1
  have c0 : W1.cell? ⟨r0, 0, none⟩ = some (.int .i64 x.turn) := hb.cell 0
  have c1 : W1.cell? ⟨r0, 1, none⟩ = some (.int .i64 x.next) := hb.cell 1
  have c2 : W1.cell? ⟨r0, 2, none⟩ = some (.int .i64 x.field.wide) := hb.cell 2
  have c3 : W1.cell? ⟨r0, 3, none⟩ = some (.int .i64 x.field.high) := hb.cell 3
  have lb := hb.lt
  replace hb := Lib.hid hb
  have hc := put_temp E1.out [x.turn, x.next, x.field.wide, x.field.high] (by intro n hn; simp only [List.mem_cons, List.not_mem_nil, or_false] at hn; obtain ⟨i1, i2, i3, i4⟩ := i0.out; rcases hn with rfl | rfl | rfl | rfl <;> assumption) (by simp)
  replace hc := Lib.hid hc
  go_wp2_with fail
  refine hc.out.mono ?_
  clear hc
  rintro e W2 ⟨rfl, E2⟩
  rw [List.nil_append] at E2
  replace E2 := Lib.hid E2
  clear E1
  clear c0 c1 c2 c3 lb hb
  have hb := (E2.out.wb (r0, 55, #[.int .i64 x.turn, .int .i64 x.next, .int .i64 x.field.wide, .int .i64 x.field.high, .slice s.field.ground.A x.field.ground.length s.field.ground.c, .slice s.field.ore.A x.field.ore.length s.field.ore.c, .slice s.gold.A x.gold.length s.gold.c, .slice s.units.A x.units.length s.units.c, .slice s.queue.A x.queue.length s.queue.c]) (by simp)).1
  have c4 : W2.cell? ⟨r0, 4, none⟩ = some (.slice s.field.ground.A x.field.ground.length s.field.ground.c) := hb.cell 4
  have c5 : W2.cell? ⟨r0, 5, none⟩ = some (.slice s.field.ore.A x.field.ore.length s.field.ore.c) := hb.cell 5
  have c6 : W2.cell? ⟨r0, 6, none⟩ = some (.slice s.gold.A x.gold.length s.gold.c) := hb.cell 6
  have lb := hb.lt
  replace hb := Lib.hid hb
  have E3 := E2.out.keep 34 #[.slice s.field.ground.A x.field.ground.length s.field.ground.c, .slice s.field.ore.A x.field.ore.length s.field.ore.c, .slice s.gold.A x.gold.length s.gold.c]
  generalize hb33 : W2.heap.size = b33 at *
  replace E3 := Lib.hid E3
  go_wp2_with fail
  generalize (W2.alloc (.cells #[.slice s.field.ground.A x.field.ground.length s.field.ground.c, .slice s.field.ore.A x.field.ore.length s.field.ore.c, .slice s.gold.A x.gold.length s.gold.c] 34)) = W3 at *
  replace hb33 := Lib.hid hb33
  have NE : ∀ N : List Int, ∀ l : List Int, (N.flatMap numL ++ [(l.length : Int)].flatMap numL) ++ l.flatMap numL = (N ++ lN l).flatMap numL := fun N l => by unfold lN; simp [List.flatMap_append, List.flatMap_cons]
  replace NE := Lib.hid NE
  have E4 : EB w r0 [(b33, 34, #[.slice s.field.ground.A x.field.ground.length s.field.ground.c, .slice s.field.ore.A x.field.ore.length s.field.ore.c, .slice s.gold.A x.gold.length s.gold.c]), (r0, 55, #[.int .i64 x.turn, .int .i64 x.next, .int .i64 x.field.wide, .int .i64 x.field.high, .slice s.field.ground.A x.field.ground.length s.field.ground.c, .slice s.field.ore.A x.field.ore.length s.field.ore.c, .slice s.gold.A x.gold.length s.gold.c, .slice s.units.A x.units.length s.units.c, .slice s.queue.A x.queue.length s.queue.c])] (([x.turn, x.next, x.field.wide, x.field.high] ++ ([x.field.ground, x.field.ore, x.gold].take 0).flatMap lN).flatMap numL) 40 W3 := by simpa using E3.out
  clear c4 c5 c6 lb hb
  replace E4 := Lib.hid E4
  clear E3 E2
  go_loopw [6, 35] (fun _ vi wr => ∃ k : Nat, vi = .int .i64 k ∧ k ≤ 3 ∧ Hid (EB w r0 [(b33, 34, #[.slice s.field.ground.A x.field.ground.length s.field.ground.c, .slice s.field.ore.A x.field.ore.length s.field.ore.c, .slice s.gold.A x.gold.length s.gold.c]), (r0, 55, #[.int .i64 x.turn, .int .i64 x.next, .int .i64 x.field.wide, .int .i64 x.field.high, .slice s.field.ground.A x.field.ground.length s.field.ground.c, .slice s.field.ore.A x.field.ore.length s.field.ore.c, .slice s.gold.A x.gold.length s.gold.c, .slice s.units.A x.units.length s.units.c, .slice s.queue.A x.queue.length s.queue.c])] (([x.turn, x.next, x.field.wide, x.field.high] ++ ([x.field.ground, x.field.ore, x.gold].take k).flatMap lN).flatMap numL) (40 + 10485770 * k) wr)) (fun _ vi _ => 3 - (intOf vi).toNat)
  case atStart => exact ⟨0, rfl, Nat.zero_le _, E4⟩
  case round =>
    clear E4
    obtain ⟨k, rfl, hk, hE⟩ := hrel
    rcases (by omega : k = 0 ∨ k = 1 ∨ k = 2 ∨ k = 3) with rfl | rfl | rfl | rfl
    · as_aux_lemma =>
      have hb := (hE.out.wb (b33, 34, #[.slice s.field.ground.A x.field.ground.length s.field.ground.c, .slice s.field.ore.A x.field.ore.length s.field.ore.c, .slice s.gold.A x.gold.length s.gold.c]) (by simp)).1
      have ck : wr.cell? ⟨b33, 0, none⟩ = some (.slice s.field.ground.A x.field.ground.length s.field.ground.c) := hb.cell 0
      have lb := hb.lt
      replace hb := Lib.hid hb
      have hc := put_temp hE.out [(x.field.ground.length : Int)] (by intro n hn; simp only [List.mem_singleton] at hn; subst hn; unfold I64; omega) (by simp)
      replace hc := Lib.hid hc
      go_wp2_with fail
      refine hc.out.mono ?_
      clear hc ck lb hb
      rintro e Wa ⟨rfl, Ea⟩
      replace Ea := Lib.hid Ea
      have hc := put_list Ea.out hr0.symm s.field.ground.A s.field.ground.c x.field.ground (by rw [hr0]; exact hG.out) iG.out (by simp; omega)
      rw [NE.out] at hc
      replace hc := Lib.hid hc
      go_wp2_with fail
      refine hc.out.mono ?_
      clear hc
      rintro e Wb ⟨rfl, Eb⟩
      have E5 : EB w r0 [(b33, 34, #[.slice s.field.ground.A x.field.ground.length s.field.ground.c, .slice s.field.ore.A x.field.ore.length s.field.ore.c, .slice s.gold.A x.gold.length s.gold.c]), (r0, 55, #[.int .i64 x.turn, .int .i64 x.next, .int .i64 x.field.wide, .int .i64 x.field.high, .slice s.field.ground.A x.field.ground.length s.field.ground.c, .slice s.field.ore.A x.field.ore.length s.field.ore.c, .slice s.gold.A x.gold.length s.gold.c, .slice s.units.A x.units.length s.units.c, .slice s.queue.A x.queue.length s.queue.c])] (([x.turn, x.next, x.field.wide, x.field.high] ++ ([x.field.ground, x.field.ore, x.gold].take 1).flatMap lN).flatMap numL) (40 + 10485770 * 1) Wb := by
        have e1 : ([x.turn, x.next, x.field.wide, x.field.high] ++ ([x.field.ground, x.field.ore, x.gold].take 0).flatMap lN) ++ lN x.field.ground = [x.turn, x.next, x.field.wide, x.field.high] ++ ([x.field.ground, x.field.ore, x.gold].take 1).flatMap lN := by simp
        rw [e1] at Eb
        exact ⟨Eb.wb, Eb.ex, Eb.bel, Eb.sz, by have := Eb.lim; simp only [List.length_singleton] at this; omega⟩
      replace E5 := Lib.hid E5
      clear Eb Ea
      go_wp2_with fail
      go_roundw
      case rel => exact ⟨1, by go_num, by omega, E5⟩
      case measure => simp [intOf]
    · as_aux_lemma =>
      have hb := (hE.out.wb (b33, 34, #[.slice s.field.ground.A x.field.ground.length s.field.ground.c, .slice s.field.ore.A x.field.ore.length s.field.ore.c, .slice s.gold.A x.gold.length s.gold.c]) (by simp)).1
      have ck : wr.cell? ⟨b33, 1, none⟩ = some (.slice s.field.ore.A x.field.ore.length s.field.ore.c) := hb.cell 1
      have lb := hb.lt
      replace hb := Lib.hid hb
      have hc := put_temp hE.out [(x.field.ore.length : Int)] (by intro n hn; simp only [List.mem_singleton] at hn; subst hn; unfold I64; omega) (by simp)
      replace hc := Lib.hid hc
      go_wp2_with fail
      refine hc.out.mono ?_
      clear hc ck lb hb
      rintro e Wa ⟨rfl, Ea⟩
      replace Ea := Lib.hid Ea
      have hc := put_list Ea.out hr0.symm s.field.ore.A s.field.ore.c x.field.ore (by rw [hr0]; exact hO.out) iO.out (by simp; omega)
      rw [NE.out] at hc
      replace hc := Lib.hid hc
      go_wp2_with fail
      refine hc.out.mono ?_
      clear hc
      rintro e Wb ⟨rfl, Eb⟩
      have E5 : EB w r0 [(b33, 34, #[.slice s.field.ground.A x.field.ground.length s.field.ground.c, .slice s.field.ore.A x.field.ore.length s.field.ore.c, .slice s.gold.A x.gold.length s.gold.c]), (r0, 55, #[.int .i64 x.turn, .int .i64 x.next, .int .i64 x.field.wide, .int .i64 x.field.high, .slice s.field.ground.A x.field.ground.length s.field.ground.c, .slice s.field.ore.A x.field.ore.length s.field.ore.c, .slice s.gold.A x.gold.length s.gold.c, .slice s.units.A x.units.length s.units.c, .slice s.queue.A x.queue.length s.queue.c])] (([x.turn, x.next, x.field.wide, x.field.high] ++ ([x.field.ground, x.field.ore, x.gold].take 2).flatMap lN).flatMap numL) (40 + 10485770 * 2) Wb := by
        have e1 : ([x.turn, x.next, x.field.wide, x.field.high] ++ ([x.field.ground, x.field.ore, x.gold].take 1).flatMap lN) ++ lN x.field.ore = [x.turn, x.next, x.field.wide, x.field.high] ++ ([x.field.ground, x.field.ore, x.gold].take 2).flatMap lN := by simp
        rw [e1] at Eb
        exact ⟨Eb.wb, Eb.ex, Eb.bel, Eb.sz, by have := Eb.lim; simp only [List.length_singleton] at this; omega⟩
      replace E5 := Lib.hid E5
      clear Eb Ea
      go_wp2_with fail
      go_roundw
      case rel => exact ⟨2, by go_num, by omega, E5⟩
      case measure => simp [intOf]
    · as_aux_lemma =>
      have hb := (hE.out.wb (b33, 34, #[.slice s.field.ground.A x.field.ground.length s.field.ground.c, .slice s.field.ore.A x.field.ore.length s.field.ore.c, .slice s.gold.A x.gold.length s.gold.c]) (by simp)).1
      have ck : wr.cell? ⟨b33, 2, none⟩ = some (.slice s.gold.A x.gold.length s.gold.c) := hb.cell 2
      have lb := hb.lt
      replace hb := Lib.hid hb
      have hc := put_temp hE.out [(x.gold.length : Int)] (by intro n hn; simp only [List.mem_singleton] at hn; subst hn; unfold I64; omega) (by simp)
      replace hc := Lib.hid hc
      go_wp2_with fail
      refine hc.out.mono ?_
      clear hc ck lb hb
      rintro e Wa ⟨rfl, Ea⟩
      replace Ea := Lib.hid Ea
      have hc := put_list Ea.out hr0.symm s.gold.A s.gold.c x.gold (by rw [hr0]; exact hD.out) iD.out (by simp; omega)
      rw [NE.out] at hc
      replace hc := Lib.hid hc
      go_wp2_with fail
      refine hc.out.mono ?_
      clear hc
      rintro e Wb ⟨rfl, Eb⟩
      have E5 : EB w r0 [(b33, 34, #[.slice s.field.ground.A x.field.ground.length s.field.ground.c, .slice s.field.ore.A x.field.ore.length s.field.ore.c, .slice s.gold.A x.gold.length s.gold.c]), (r0, 55, #[.int .i64 x.turn, .int .i64 x.next, .int .i64 x.field.wide, .int .i64 x.field.high, .slice s.field.ground.A x.field.ground.length s.field.ground.c, .slice s.field.ore.A x.field.ore.length s.field.ore.c, .slice s.gold.A x.gold.length s.gold.c, .slice s.units.A x.units.length s.units.c, .slice s.queue.A x.queue.length s.queue.c])] (([x.turn, x.next, x.field.wide, x.field.high] ++ ([x.field.ground, x.field.ore, x.gold].take 3).flatMap lN).flatMap numL) (40 + 10485770 * 3) Wb := by
        have e1 : ([x.turn, x.next, x.field.wide, x.field.high] ++ ([x.field.ground, x.field.ore, x.gold].take 2).flatMap lN) ++ lN x.gold = [x.turn, x.next, x.field.wide, x.field.high] ++ ([x.field.ground, x.field.ore, x.gold].take 3).flatMap lN := by simp
        rw [e1] at Eb
        exact ⟨Eb.wb, Eb.ex, Eb.bel, Eb.sz, by have := Eb.lim; simp only [List.length_singleton] at this; omega⟩
      replace E5 := Lib.hid E5
      clear Eb Ea
      go_wp2_with fail
      go_roundw
      case rel => exact ⟨3, by go_num, by omega, E5⟩
      case measure => simp [intOf]
    · have E6 := hE.out.drop
      replace E6 := Lib.hid E6
      clear hE
      generalize wr = W6 at *
      generalize hN3 : ([x.turn, x.next, x.field.wide, x.field.high] ++ ([x.field.ground, x.field.ore, x.gold].take 3).flatMap lN) = N3 at *
      replace hN3 := Lib.hid hN3
      have hb := (E6.out.wb (r0, 55, #[.int .i64 x.turn, .int .i64 x.next, .int .i64 x.field.wide, .int .i64 x.field.high, .slice s.field.ground.A x.field.ground.length s.field.ground.c, .slice s.field.ore.A x.field.ore.length s.field.ore.c, .slice s.gold.A x.gold.length s.gold.c, .slice s.units.A x.units.length s.units.c, .slice s.queue.A x.queue.length s.queue.c]) (by simp)).1
      have c7 : W6.cell? ⟨r0, 7, none⟩ = some (.slice s.units.A x.units.length s.units.c) := hb.cell 7
      have lb := hb.lt
      replace hb := Lib.hid hb
      have hc := put_temp E6.out [(x.units.length : Int)] (by intro n hn; simp only [List.mem_singleton] at hn; subst hn; unfold I64; omega) (by simp only [List.length_singleton]; omega)
      rw [← List.flatMap_append] at hc
      replace hc := Lib.hid hc
      go_wp2_with fail
      refine hc.out.mono ?_
      clear hc
      clear c7 lb hb
      rintro e W7 ⟨rfl, E7⟩
      replace E7 := Lib.hid E7
      have hb := (E7.out.wb (r0, 55, #[.int .i64 x.turn, .int .i64 x.next, .int .i64 x.field.wide, .int .i64 x.field.high, .slice s.field.ground.A x.field.ground.length s.field.ground.c, .slice s.field.ore.A x.field.ore.length s.field.ore.c, .slice s.gold.A x.gold.length s.gold.c, .slice s.units.A x.units.length s.units.c, .slice s.queue.A x.queue.length s.queue.c]) (by simp)).1
      have c7 : W7.cell? ⟨r0, 7, none⟩ = some (.slice s.units.A x.units.length s.units.c) := hb.cell 7
      have lb := hb.lt
      replace hb := Lib.hid hb
      go_wp2_with fail
      clear c7 lb hb
      go_loopw [8, 57] (fun _ vi wr => ∃ k : Nat, vi = .int .i64 k ∧ k ≤ x.units.length ∧ Hid (EB w r0 [(r0, 55, #[.int .i64 x.turn, .int .i64 x.next, .int .i64 x.field.wide, .int .i64 x.field.high, .slice s.field.ground.A x.field.ground.length s.field.ground.c, .slice s.field.ore.A x.field.ore.length s.field.ore.c, .slice s.gold.A x.gold.length s.gold.c, .slice s.units.A x.units.length s.units.c, .slice s.queue.A x.queue.length s.queue.c])] ((N3 ++ [(x.units.length : Int)] ++ (x.units.take k).flatMap uN).flatMap numL) ((40 + 10485770 * 3) + 10 + 80 * k) wr)) (fun _ vi _ => x.units.length - (intOf vi).toNat)
      case atStart => exact ⟨0, rfl, Nat.zero_le _, Lib.hid (by have := E7.out; simp only [List.take_zero, List.flatMap_nil, List.append_nil]; exact ⟨this.wb, this.ex, this.bel, this.sz, by have := this.lim; simp only [List.length_singleton] at this; omega⟩)⟩
      case round =>
        clear E7 E6
        obtain ⟨k, rfl, hk, hE⟩ := hrel
        by_cases hlt : k < x.units.length
        · as_aux_lemma =>
          have j1 : (k : Int) < (x.units.length : Int) := by omega
          have hR : RD wr r0 8 _ _ _ := RD.below hU.out hE.out.bel
          obtain ⟨b, off, hA, hbB, hcs⟩ := hR.2 (by omega)
          have hsz := hE.out.sz
          have hg : x.units[k]? = some x.units[k] := List.getElem?_eq_getElem hlt
          have hcc : ∀ j, j < 8 → wr.cell? ⟨b, off + (k * 8 + j), none⟩ = (uC x.units[k])[j]? := fun j hj => by rw [hcs (k * 8 + j) (by omega), flat_get uC 8 (fun _ => rfl) x.units k j hj, hg]; rfl
          have hIu := iU.out x.units[k] (List.getElem_mem hlt)
          have htk : N3 ++ [(x.units.length : Int)] ++ (x.units.take (k + 1)).flatMap uN = N3 ++ [(x.units.length : Int)] ++ (x.units.take k).flatMap uN ++ uN x.units[k] := by rw [List.take_succ_eq_append_getElem hlt, List.flatMap_append]; simp
          generalize x.units[k] = u at *
          have hbl : b < wr.heap.size := by omega
          have e0 : wr.cell? ⟨b, off + k * 8, none⟩ = some (.int .i64 u.id) := hcc 0 (by omega)
          have e1 : wr.cell? ⟨b, off + k * 8 + 1, none⟩ = some (.int .i64 u.player) := hcc 1 (by omega)
          have e2 : wr.cell? ⟨b, off + k * 8 + 2, none⟩ = some (.int .i64 u.kind) := hcc 2 (by omega)
          have e3 : wr.cell? ⟨b, off + k * 8 + 3, none⟩ = some (.int .i64 u.spot) := hcc 3 (by omega)
          have e4 : wr.cell? ⟨b, off + k * 8 + 4, none⟩ = some (.int .i64 u.life) := hcc 4 (by omega)
          have e5 : wr.cell? ⟨b, off + k * 8 + 5, none⟩ = some (.int .i64 u.load) := hcc 5 (by omega)
          have e6 : wr.cell? ⟨b, off + k * 8 + 6, none⟩ = some (.int .i64 u.task) := hcc 6 (by omega)
          have e7 : wr.cell? ⟨b, off + k * 8 + 7, none⟩ = some (.int .i64 u.goal) := hcc 7 (by omega)
          clear hcc hcs hg hR
          rw [hA]
          replace hA := Lib.hid hA
          replace htk := Lib.hid htk
          replace hIu := Lib.hid hIu
          go_upto_region 14 with fail
          have E8 := hE.out.alloc (.cells #[.int .i64 u.id, .int .i64 u.player, .int .i64 u.kind, .int .i64 u.spot, .int .i64 u.life, .int .i64 u.load, .int .i64 u.task, .int .i64 u.goal] 33)
          have hbx := Blk.new wr 33 #[.int .i64 u.id, .int .i64 u.player, .int .i64 u.kind, .int .i64 u.spot, .int .i64 u.life, .int .i64 u.load, .int .i64 u.task, .int .i64 u.goal]
          generalize (wr.alloc (.cells #[.int .i64 u.id, .int .i64 u.player, .int .i64 u.kind, .int .i64 u.spot, .int .i64 u.life, .int .i64 u.load, .int .i64 u.task, .int .i64 u.goal] 33)) = W8 at *
          generalize wr.heap.size = g8 at *
          replace E8 := Lib.hid E8
          have lbx := hbx.lt
          have d0 : W8.cell? ⟨g8, 0, none⟩ = some (.int .i64 u.id) := hbx.cell 0
          have d1 : W8.cell? ⟨g8, 1, none⟩ = some (.int .i64 u.player) := hbx.cell 1
          have d2 : W8.cell? ⟨g8, 2, none⟩ = some (.int .i64 u.kind) := hbx.cell 2
          have d3 : W8.cell? ⟨g8, 3, none⟩ = some (.int .i64 u.spot) := hbx.cell 3
          have d4 : W8.cell? ⟨g8, 4, none⟩ = some (.int .i64 u.life) := hbx.cell 4
          have d5 : W8.cell? ⟨g8, 5, none⟩ = some (.int .i64 u.load) := hbx.cell 5
          have d6 : W8.cell? ⟨g8, 6, none⟩ = some (.int .i64 u.task) := hbx.cell 6
          have d7 : W8.cell? ⟨g8, 7, none⟩ = some (.int .i64 u.goal) := hbx.cell 7
          have hc := put_temp E8.out (uN u) hIu.out (by show _ + 10 * 8 ≤ _; omega)
          rw [← List.flatMap_append, ← htk.out] at hc
          replace hc := Lib.hid hc
          replace hbx := Lib.hid hbx
          clear e0 e1 e2 e3 e4 e5 e6 e7
          go_wp2_with (refine wp_bsE rfl _ _ _ _ rfl _ (bs_i8 u.id u.player u.kind u.spot u.life u.load u.task u.goal _) (by simp only [List.map_toArray, List.map_cons, List.map_nil]; rfl) ?_)
          refine hc.out.mono ?_
          clear hc d0 d1 d2 d3 d4 d5 d6 d7 lbx
          rintro e W9 ⟨rfl, E9⟩
          have E10 : EB w r0 [(r0, 55, #[.int .i64 x.turn, .int .i64 x.next, .int .i64 x.field.wide, .int .i64 x.field.high, .slice s.field.ground.A x.field.ground.length s.field.ground.c, .slice s.field.ore.A x.field.ore.length s.field.ore.c, .slice s.gold.A x.gold.length s.gold.c, .slice s.units.A x.units.length s.units.c, .slice s.queue.A x.queue.length s.queue.c])] ((N3 ++ [(x.units.length : Int)] ++ (x.units.take (k + 1)).flatMap uN).flatMap numL) ((40 + 10485770 * 3) + 10 + 80 * (k + 1)) W9 := ⟨E9.wb, E9.ex, E9.bel, E9.sz, by have h1 := E9.lim; have h2 : (uN u).length = 8 := rfl; rw [h2] at h1; omega⟩
          rw [hA.out] at E10
          replace E10 := Lib.hid E10
          clear E9
          go_wp2_with fail
          go_roundw
          case rel => exact ⟨k + 1, by go_num, by omega, E10⟩
          case measure => simp [intOf]; omega
        · have j1 : ¬ (k : Int) < (x.units.length : Int) := by omega
          have F1 : EB w r0 [(r0, 55, #[.int .i64 x.turn, .int .i64 x.next, .int .i64 x.field.wide, .int .i64 x.field.high, .slice s.field.ground.A x.field.ground.length s.field.ground.c, .slice s.field.ore.A x.field.ore.length s.field.ore.c, .slice s.gold.A x.gold.length s.gold.c, .slice s.units.A x.units.length s.units.c, .slice s.queue.A x.queue.length s.queue.c])] ((N3 ++ [(x.units.length : Int)] ++ x.units.flatMap uN).flatMap numL) ((40 + 10485770 * 3) + 10 + 80 * x.units.length) wr := by
            have := hE.out
            rwa [show k = x.units.length by omega, List.take_of_length_le (Nat.le_refl _)] at this
          replace F1 := Lib.hid F1
          clear hE
          generalize wr = Wu at *
          generalize hN4 : N3 ++ [(x.units.length : Int)] ++ x.units.flatMap uN = N4 at *
          replace hN4 := Lib.hid hN4
          clear j1
          have hb := (F1.out.wb (r0, 55, #[.int .i64 x.turn, .int .i64 x.next, .int .i64 x.field.wide, .int .i64 x.field.high, .slice s.field.ground.A x.field.ground.length s.field.ground.c, .slice s.field.ore.A x.field.ore.length s.field.ore.c, .slice s.gold.A x.gold.length s.gold.c, .slice s.units.A x.units.length s.units.c, .slice s.queue.A x.queue.length s.queue.c]) (by simp)).1
          have c8 : Wu.cell? ⟨r0, 8, none⟩ = some (.slice s.queue.A x.queue.length s.queue.c) := hb.cell 8
          have lb := hb.lt
          replace hb := Lib.hid hb
          have hc := put_temp F1.out [(x.queue.length : Int)] (by intro n hn; simp only [List.mem_singleton] at hn; subst hn; unfold I64; omega) (by simp only [List.length_singleton]; omega)
          rw [← List.flatMap_append] at hc
          replace hc := Lib.hid hc
          go_wp2_with fail
          refine hc.out.mono ?_
          clear hc
          clear c8 lb hb
          rintro e W7 ⟨rfl, E7⟩
          replace E7 := Lib.hid E7
          have hb := (E7.out.wb (r0, 55, #[.int .i64 x.turn, .int .i64 x.next, .int .i64 x.field.wide, .int .i64 x.field.high, .slice s.field.ground.A x.field.ground.length s.field.ground.c, .slice s.field.ore.A x.field.ore.length s.field.ore.c, .slice s.gold.A x.gold.length s.gold.c, .slice s.units.A x.units.length s.units.c, .slice s.queue.A x.queue.length s.queue.c]) (by simp)).1
          have c8 : W7.cell? ⟨r0, 8, none⟩ = some (.slice s.queue.A x.queue.length s.queue.c) := hb.cell 8
          have lb := hb.lt
          replace hb := Lib.hid hb
          go_wp2_with fail
          clear c8 lb hb
          go_loopw [10, 90] (fun _ vi wr => ∃ k : Nat, vi = .int .i64 k ∧ k ≤ x.queue.length ∧ Hid (EB w r0 [(r0, 55, #[.int .i64 x.turn, .int .i64 x.next, .int .i64 x.field.wide, .int .i64 x.field.high, .slice s.field.ground.A x.field.ground.length s.field.ground.c, .slice s.field.ore.A x.field.ore.length s.field.ore.c, .slice s.gold.A x.gold.length s.gold.c, .slice s.units.A x.units.length s.units.c, .slice s.queue.A x.queue.length s.queue.c])] ((N4 ++ [(x.queue.length : Int)] ++ (x.queue.take k).flatMap jN).flatMap numL) ((40 + 10485770 * 3 + 10 + 80 * x.units.length) + 10 + 40 * k) wr)) (fun _ vi _ => x.queue.length - (intOf vi).toNat)
          case atStart => exact ⟨0, rfl, Nat.zero_le _, Lib.hid (by have := E7.out; simp only [List.take_zero, List.flatMap_nil, List.append_nil]; exact ⟨this.wb, this.ex, this.bel, this.sz, by have := this.lim; simp only [List.length_singleton] at this; omega⟩)⟩
          case round =>
            clear E7 F1
            obtain ⟨k, rfl, hk, hE⟩ := hrel
            by_cases hlt : k < x.queue.length
            · as_aux_lemma =>
              have j1 : (k : Int) < (x.queue.length : Int) := by omega
              have hR : RD wr r0 4 _ _ _ := RD.below hJ.out hE.out.bel
              obtain ⟨b, off, hA, hbB, hcs⟩ := hR.2 (by omega)
              have hsz := hE.out.sz
              have hg : x.queue[k]? = some x.queue[k] := List.getElem?_eq_getElem hlt
              have hcc : ∀ j, j < 4 → wr.cell? ⟨b, off + (k * 4 + j), none⟩ = (jC x.queue[k])[j]? := fun j hj => by rw [hcs (k * 4 + j) (by omega), flat_get jC 4 (fun _ => rfl) x.queue k j hj, hg]; rfl
              have hIu := iJ.out x.queue[k] (List.getElem_mem hlt)
              have htk : N4 ++ [(x.queue.length : Int)] ++ (x.queue.take (k + 1)).flatMap jN = N4 ++ [(x.queue.length : Int)] ++ (x.queue.take k).flatMap jN ++ jN x.queue[k] := by rw [List.take_succ_eq_append_getElem hlt, List.flatMap_append]; simp
              generalize x.queue[k] = u at *
              have hbl : b < wr.heap.size := by omega
              have e0 : wr.cell? ⟨b, off + k * 4, none⟩ = some (.int .i64 u.player) := hcc 0 (by omega)
              have e1 : wr.cell? ⟨b, off + k * 4 + 1, none⟩ = some (.int .i64 u.unit) := hcc 1 (by omega)
              have e2 : wr.cell? ⟨b, off + k * 4 + 2, none⟩ = some (.int .i64 u.kind) := hcc 2 (by omega)
              have e3 : wr.cell? ⟨b, off + k * 4 + 3, none⟩ = some (.int .i64 u.left) := hcc 3 (by omega)
              clear hcc hcs hg hR
              rw [hA]
              replace hA := Lib.hid hA
              replace htk := Lib.hid htk
              replace hIu := Lib.hid hIu
              go_upto_region 20 with fail
              have E8 := hE.out.alloc (.cells #[.int .i64 u.player, .int .i64 u.unit, .int .i64 u.kind, .int .i64 u.left] 126)
              have hbx := Blk.new wr 126 #[.int .i64 u.player, .int .i64 u.unit, .int .i64 u.kind, .int .i64 u.left]
              generalize (wr.alloc (.cells #[.int .i64 u.player, .int .i64 u.unit, .int .i64 u.kind, .int .i64 u.left] 126)) = W8 at *
              generalize wr.heap.size = g8 at *
              replace E8 := Lib.hid E8
              have lbx := hbx.lt
              have d0 : W8.cell? ⟨g8, 0, none⟩ = some (.int .i64 u.player) := hbx.cell 0
              have d1 : W8.cell? ⟨g8, 1, none⟩ = some (.int .i64 u.unit) := hbx.cell 1
              have d2 : W8.cell? ⟨g8, 2, none⟩ = some (.int .i64 u.kind) := hbx.cell 2
              have d3 : W8.cell? ⟨g8, 3, none⟩ = some (.int .i64 u.left) := hbx.cell 3
              have hc := put_temp E8.out (jN u) hIu.out (by show _ + 10 * 4 ≤ _; omega)
              rw [← List.flatMap_append, ← htk.out] at hc
              replace hc := Lib.hid hc
              replace hbx := Lib.hid hbx
              clear e0 e1 e2 e3
              go_wp2_with (refine wp_bsE rfl _ _ _ _ rfl _ (bs_i4 u.player u.unit u.kind u.left _) (by simp only [List.map_toArray, List.map_cons, List.map_nil]; rfl) ?_)
              refine hc.out.mono ?_
              clear hc d0 d1 d2 d3 lbx
              rintro e W9 ⟨rfl, E9⟩
              have E10 : EB w r0 [(r0, 55, #[.int .i64 x.turn, .int .i64 x.next, .int .i64 x.field.wide, .int .i64 x.field.high, .slice s.field.ground.A x.field.ground.length s.field.ground.c, .slice s.field.ore.A x.field.ore.length s.field.ore.c, .slice s.gold.A x.gold.length s.gold.c, .slice s.units.A x.units.length s.units.c, .slice s.queue.A x.queue.length s.queue.c])] ((N4 ++ [(x.queue.length : Int)] ++ (x.queue.take (k + 1)).flatMap jN).flatMap numL) ((40 + 10485770 * 3 + 10 + 80 * x.units.length) + 10 + 40 * (k + 1)) W9 := ⟨E9.wb, E9.ex, E9.bel, E9.sz, by have h1 := E9.lim; have h2 : (jN u).length = 4 := rfl; rw [h2] at h1; omega⟩
              rw [hA.out] at E10
              replace E10 := Lib.hid E10
              clear E9
              go_wp2_with fail
              go_roundw
              case rel => exact ⟨k + 1, by go_num, by omega, E10⟩
              case measure => simp [intOf]; omega
            · have j1 : ¬ (k : Int) < (x.queue.length : Int) := by omega
              have G1 : EB w r0 [(r0, 55, #[.int .i64 x.turn, .int .i64 x.next, .int .i64 x.field.wide, .int .i64 x.field.high, .slice s.field.ground.A x.field.ground.length s.field.ground.c, .slice s.field.ore.A x.field.ore.length s.field.ore.c, .slice s.gold.A x.gold.length s.gold.c, .slice s.units.A x.units.length s.units.c, .slice s.queue.A x.queue.length s.queue.c])] ((N4 ++ [(x.queue.length : Int)] ++ x.queue.flatMap jN).flatMap numL) ((40 + 10485770 * 3 + 10 + 80 * x.units.length) + 10 + 40 * x.queue.length) wr := by
                have := hE.out
                rwa [show k = x.queue.length by omega, List.take_of_length_le (Nat.le_refl _)] at this
              replace G1 := Lib.hid G1
              clear hE
              obtain ⟨Ab, cb, hBx, hown, _⟩ := G1.out.ex
              have c0 := hBx.cell 0
              have lb := hBx.lt
              have hbel := G1.out.bel
              replace hbel := Lib.hid hbel
              replace hBx := Lib.hid hBx
              have hL : (N4 ++ [(x.queue.length : Int)] ++ x.queue.flatMap jN).flatMap numL = encL x := by
                rw [← hN4.out, ← hN3.out]
                unfold encL wN
                congr 1
                simp
              rw [hL] at hown c0
              obtain ⟨L, hLe⟩ : ∃ L, encL x = L := ⟨_, rfl⟩
              rw [hLe] at hown c0
              replace hLe := Lib.hid hLe
              replace hown := Lib.hid hown
              clear hL
              go_wp2_with fail
              go_ret
              refine ⟨_, rfl, ?_, hr0 ▸ hbel.out⟩
              rw [hLe.out]
              first | exact hown.out | (rw [hr0]; exact hown.out)
end Go.Proofs.YtkgkpggfoieioaaDoor
