import Derived.Test.YtkgkpggfoieioaaDoorMrgb
import Derived.Test.YtkgkpggfoieioaaDoorInts
import Derived.Laws.StructEq
import Derived.Deep.Cut
namespace Go.Proofs.YtkgkpggfoieioaaDoor
set_option linter.unusedVariables false
open Go.RowKit
/-- The lists of a world read as they are. -/
structure WRd (w : World) (B : Nat) (s : SW) (x : GW) : Prop where
  g : RD w B 1 s.field.ground.A x.field.ground.length (x.field.ground.map (.int .i64))
  o : RD w B 1 s.field.ore.A x.field.ore.length (x.field.ore.map (.int .i64))
  d : RD w B 1 s.gold.A x.gold.length (x.gold.map (.int .i64))
  u : RD w B 8 s.units.A x.units.length (x.units.flatMap uC)
  j : RD w B 4 s.queue.A x.queue.length (x.queue.flatMap jC)
theorem WRd.more {w : World} {s : SW} {x : GW} {B C : Nat} (h : WRd w B s x) (hB : B ≤ C) : WRd w C s x := ⟨h.g.more hB, h.o.more hB, h.d.more hB, h.u.more hB, h.j.more hB⟩
theorem WRd.below {w w' : World} {s : SW} {x : GW} {B : Nat} (h : WRd w B s x) (hb : Below B w w') : WRd w' B s x := ⟨h.g.below hb, h.o.below hb, h.d.below hb, h.u.below hb, h.j.below hb⟩
theorem WRd.drewN {w : World} {s : SW} {x : GW} {B : Nat} (h : WRd w B s x) (n : Nat) : WRd (w.drewN n) B s x := ⟨h.g, h.o, h.d, h.u, h.j⟩
theorem WOk.rd {w : World} {s : SW} {x : GW} (h : WOk w s x) : WRd w w.heap.size s x := ⟨h.2.2.1.2.2.1.1, h.2.2.1.2.2.2.1, h.2.2.2.1.1, h.2.2.2.2.1.1, h.2.2.2.2.2.1⟩
set_option maxRecDepth 100000 in
theorem samef_rd (s s' : SF) (f : GF) (w : World) (B : Nat) (hg : RD w B 1 s.ground.A f.ground.length (f.ground.map (.int .i64))) (hg' : RD w B 1 s'.ground.A f.ground.length (f.ground.map (.int .i64)))
    (ho : RD w B 1 s.ore.A f.ore.length (f.ore.map (.int .i64))) (ho' : RD w B 1 s'.ore.A f.ore.length (f.ore.map (.int .i64))) (hl1 : f.ground.length ≤ 100000000000000) (hl2 : f.ore.length ≤ 100000000000000) (hB : B ≤ w.heap.size) :
    Calls Tryd.prog 51 #[.agg #[.int .i64 f.wide, .int .i64 f.high, .slice s.ground.A f.ground.length s.ground.c, .slice s.ore.A f.ore.length s.ore.c], .agg #[.int .i64 f.wide, .int .i64 f.high, .slice s'.ground.A f.ground.length s'.ground.c, .slice s'.ore.A f.ore.length s'.ore.c]] w fun e w' => e = .returned (.bool true) ∧ Below w.heap.size w w' := by
  go_enter Tryd.func51, Tryd.ntmps51
  go_wp2_with fail
  have hb1 : Below w.heap.size w ((w.alloc (.cells #[.int .i64 f.wide, .int .i64 f.high, .slice s.ground.A f.ground.length s.ground.c, .slice s.ore.A f.ore.length s.ore.c] 52)).alloc (.cells #[.int .i64 f.wide, .int .i64 f.high, .slice s'.ground.A f.ground.length s'.ground.c, .slice s'.ore.A f.ore.length s'.ore.c] 52)) := ((Below.refl _ _).alloc (Nat.le_refl _) _).alloc (by simp) _
  have hk1 : Blk ((w.alloc (.cells #[.int .i64 f.wide, .int .i64 f.high, .slice s.ground.A f.ground.length s.ground.c, .slice s.ore.A f.ore.length s.ore.c] 52)).alloc (.cells #[.int .i64 f.wide, .int .i64 f.high, .slice s'.ground.A f.ground.length s'.ground.c, .slice s'.ore.A f.ore.length s'.ore.c] 52)) w.heap.size 52 #[.int .i64 f.wide, .int .i64 f.high, .slice s.ground.A f.ground.length s.ground.c, .slice s.ore.A f.ore.length s.ore.c] := (Blk.new w _ _).alloc _
  have hk2 : Blk ((w.alloc (.cells #[.int .i64 f.wide, .int .i64 f.high, .slice s.ground.A f.ground.length s.ground.c, .slice s.ore.A f.ore.length s.ore.c] 52)).alloc (.cells #[.int .i64 f.wide, .int .i64 f.high, .slice s'.ground.A f.ground.length s'.ground.c, .slice s'.ore.A f.ore.length s'.ore.c] 52)) (w.heap.size + 1) 52 #[.int .i64 f.wide, .int .i64 f.high, .slice s'.ground.A f.ground.length s'.ground.c, .slice s'.ore.A f.ore.length s'.ore.c] := by
    have := Blk.new (w.alloc (.cells #[.int .i64 f.wide, .int .i64 f.high, .slice s.ground.A f.ground.length s.ground.c, .slice s.ore.A f.ore.length s.ore.c] 52)) 52 #[.int .i64 f.wide, .int .i64 f.high, .slice s'.ground.A f.ground.length s'.ground.c, .slice s'.ore.A f.ore.length s'.ore.c]
    rwa [World.size_alloc] at this
  generalize ((w.alloc (.cells #[.int .i64 f.wide, .int .i64 f.high, .slice s.ground.A f.ground.length s.ground.c, .slice s.ore.A f.ore.length s.ore.c] 52)).alloc (.cells #[.int .i64 f.wide, .int .i64 f.high, .slice s'.ground.A f.ground.length s'.ground.c, .slice s'.ore.A f.ore.length s'.ore.c] 52)) = W at *
  have HG := (hg.more hB).below hb1
  have HG' := (hg'.more hB).below hb1
  have HO := (ho.more hB).below hb1
  have HO' := (ho'.more hB).below hb1
  have c0 := hk1.cell 0
  have c1 := hk1.cell 1
  have c3 := hk1.cell 3
  have d0 := hk2.cell 0
  have d1 := hk2.cell 1
  have d3 := hk2.cell 3
  refine (ints_any s.ground.A s'.ground.A s.ground.c s'.ground.c w.heap.size f.ground f.ground W HG HG' hl1).mono ?_
  rintro e w' ⟨q, rfl, rfl⟩
  rw [eqL_yes rfl]
  go_wp2_with fail
  refine (ints_any s.ore.A s'.ore.A s.ore.c s'.ore.c w.heap.size f.ore f.ore (W.drewN q) HO HO' hl2).mono ?_
  rintro e w' ⟨q2, rfl, rfl⟩
  rw [eqL_yes rfl]
  replace hb1 := Lib.hid hb1
  clear hk1 hk2 HG HG' HO HO' hg hg' ho ho'
  go_wp2_with fail
  go_ret
  exact ⟨rfl, bdrewN hb1.out _⟩
set_option maxHeartbeats 3200000 in
set_option maxRecDepth 100000 in
theorem samew_eq (s s' : SW) (x : GW) (w : World) (B : Nat) (h : WRd w B s x) (h' : WRd w B s' x) (hl1 : x.field.ground.length ≤ 100000000000000) (hl2 : x.field.ore.length ≤ 100000000000000)
    (hl3 : x.gold.length ≤ 100000000000000) (hl4 : x.units.length ≤ 100000000000000) (hl5 : x.queue.length ≤ 100000000000000) (hB : B ≤ w.heap.size) :
    Calls Tryd.prog 53 #[.agg (wV s x).toArray, .agg (wV s' x).toArray] w fun e w' => e = .returned (.bool true) ∧ Below w.heap.size w w' := by
  replace h := Lib.hid h
  replace h' := Lib.hid h'
  unfold wV
  go_enter Tryd.func53, Tryd.ntmps53
  go_upto_region 1 with fail
  have hb1 : Below w.heap.size w ((w.alloc (.cells #[.int .i64 x.turn, .int .i64 x.next, .int .i64 x.field.wide, .int .i64 x.field.high, .slice s.field.ground.A x.field.ground.length s.field.ground.c, .slice s.field.ore.A x.field.ore.length s.field.ore.c, .slice s.gold.A x.gold.length s.gold.c, .slice s.units.A x.units.length s.units.c, .slice s.queue.A x.queue.length s.queue.c] 55)).alloc (.cells #[.int .i64 x.turn, .int .i64 x.next, .int .i64 x.field.wide, .int .i64 x.field.high, .slice s'.field.ground.A x.field.ground.length s'.field.ground.c, .slice s'.field.ore.A x.field.ore.length s'.field.ore.c, .slice s'.gold.A x.gold.length s'.gold.c, .slice s'.units.A x.units.length s'.units.c, .slice s'.queue.A x.queue.length s'.queue.c] 55)) := ((Below.refl _ _).alloc (Nat.le_refl _) _).alloc (by simp) _
  have hk1 : Blk ((w.alloc (.cells #[.int .i64 x.turn, .int .i64 x.next, .int .i64 x.field.wide, .int .i64 x.field.high, .slice s.field.ground.A x.field.ground.length s.field.ground.c, .slice s.field.ore.A x.field.ore.length s.field.ore.c, .slice s.gold.A x.gold.length s.gold.c, .slice s.units.A x.units.length s.units.c, .slice s.queue.A x.queue.length s.queue.c] 55)).alloc (.cells #[.int .i64 x.turn, .int .i64 x.next, .int .i64 x.field.wide, .int .i64 x.field.high, .slice s'.field.ground.A x.field.ground.length s'.field.ground.c, .slice s'.field.ore.A x.field.ore.length s'.field.ore.c, .slice s'.gold.A x.gold.length s'.gold.c, .slice s'.units.A x.units.length s'.units.c, .slice s'.queue.A x.queue.length s'.queue.c] 55)) w.heap.size 55 #[.int .i64 x.turn, .int .i64 x.next, .int .i64 x.field.wide, .int .i64 x.field.high, .slice s.field.ground.A x.field.ground.length s.field.ground.c, .slice s.field.ore.A x.field.ore.length s.field.ore.c, .slice s.gold.A x.gold.length s.gold.c, .slice s.units.A x.units.length s.units.c, .slice s.queue.A x.queue.length s.queue.c] := (Blk.new w _ _).alloc _
  have hk2 : Blk ((w.alloc (.cells #[.int .i64 x.turn, .int .i64 x.next, .int .i64 x.field.wide, .int .i64 x.field.high, .slice s.field.ground.A x.field.ground.length s.field.ground.c, .slice s.field.ore.A x.field.ore.length s.field.ore.c, .slice s.gold.A x.gold.length s.gold.c, .slice s.units.A x.units.length s.units.c, .slice s.queue.A x.queue.length s.queue.c] 55)).alloc (.cells #[.int .i64 x.turn, .int .i64 x.next, .int .i64 x.field.wide, .int .i64 x.field.high, .slice s'.field.ground.A x.field.ground.length s'.field.ground.c, .slice s'.field.ore.A x.field.ore.length s'.field.ore.c, .slice s'.gold.A x.gold.length s'.gold.c, .slice s'.units.A x.units.length s'.units.c, .slice s'.queue.A x.queue.length s'.queue.c] 55)) (w.heap.size + 1) 55 #[.int .i64 x.turn, .int .i64 x.next, .int .i64 x.field.wide, .int .i64 x.field.high, .slice s'.field.ground.A x.field.ground.length s'.field.ground.c, .slice s'.field.ore.A x.field.ore.length s'.field.ore.c, .slice s'.gold.A x.gold.length s'.gold.c, .slice s'.units.A x.units.length s'.units.c, .slice s'.queue.A x.queue.length s'.queue.c] := by
    have := Blk.new (w.alloc (.cells #[.int .i64 x.turn, .int .i64 x.next, .int .i64 x.field.wide, .int .i64 x.field.high, .slice s.field.ground.A x.field.ground.length s.field.ground.c, .slice s.field.ore.A x.field.ore.length s.field.ore.c, .slice s.gold.A x.gold.length s.gold.c, .slice s.units.A x.units.length s.units.c, .slice s.queue.A x.queue.length s.queue.c] 55)) 55 #[.int .i64 x.turn, .int .i64 x.next, .int .i64 x.field.wide, .int .i64 x.field.high, .slice s'.field.ground.A x.field.ground.length s'.field.ground.c, .slice s'.field.ore.A x.field.ore.length s'.field.ore.c, .slice s'.gold.A x.gold.length s'.gold.c, .slice s'.units.A x.units.length s'.units.c, .slice s'.queue.A x.queue.length s'.queue.c]
    rwa [World.size_alloc] at this
  generalize ((w.alloc (.cells #[.int .i64 x.turn, .int .i64 x.next, .int .i64 x.field.wide, .int .i64 x.field.high, .slice s.field.ground.A x.field.ground.length s.field.ground.c, .slice s.field.ore.A x.field.ore.length s.field.ore.c, .slice s.gold.A x.gold.length s.gold.c, .slice s.units.A x.units.length s.units.c, .slice s.queue.A x.queue.length s.queue.c] 55)).alloc (.cells #[.int .i64 x.turn, .int .i64 x.next, .int .i64 x.field.wide, .int .i64 x.field.high, .slice s'.field.ground.A x.field.ground.length s'.field.ground.c, .slice s'.field.ore.A x.field.ore.length s'.field.ore.c, .slice s'.gold.A x.gold.length s'.gold.c, .slice s'.units.A x.units.length s'.units.c, .slice s'.queue.A x.queue.length s'.queue.c] 55)) = W at *
  have hs1 := hb1.size
  have HW := h.out.below (B := B) (hb1.mono hB)
  have HW' := h'.out.below (B := B) (hb1.mono hB)
  have l1 := hk1.lt
  have l2 := hk2.lt
  have c2 := hk1.cell 2
  have d2 := hk2.cell 2
  have c3 := hk1.cell 3
  have d3 := hk2.cell 3
  have c4 := hk1.cell 4
  have d4 := hk2.cell 4
  have c5 := hk1.cell 5
  have d5 := hk2.cell 5
  replace HW := Lib.hid HW
  replace HW' := Lib.hid HW'
  replace hk1 := Lib.hid hk1
  replace hk2 := Lib.hid hk2
  replace hb1 := Lib.hid hb1
  go_wp2_with fail
  refine (samef_rd s.field s'.field x.field W B HW.out.g HW'.out.g HW.out.o HW'.out.o hl1 hl2 (by omega)).mono ?_
  rintro e W1 ⟨rfl, hb2⟩
  have hs2 := hb2.size
  have hb3 : Below w.heap.size w W1 := hb1.out.trans (hb2.mono hs1)
  have HX := HW.out.below (B := B) (hb2.mono (by omega))
  have HX' := HW'.out.below (B := B) (hb2.mono (by omega))
  have k1 := hk1.out.below hb2 l1
  have k2 := hk2.out.below hb2 l2
  clear c2 c3 c4 c5 d2 d3 d4 d5 HW HW' hk1 hk2 hb1 hb2
  have m1 := k1.lt
  have m2 := k2.lt
  have c6 := k1.cell 6
  have d6 := k2.cell 6
  replace hb3 := Lib.hid hb3
  replace HX := Lib.hid HX
  replace HX' := Lib.hid HX'
  replace k1 := Lib.hid k1
  replace k2 := Lib.hid k2
  go_wp2_with fail
  refine (ints_any s.gold.A s'.gold.A s.gold.c s'.gold.c B x.gold x.gold W1 HX.out.d HX'.out.d hl3).mono ?_
  rintro e W2 ⟨q, rfl, rfl⟩
  rw [eqL_yes rfl]
  have hb4 : Below w.heap.size w (W1.drewN q) := bdrewN hb3.out _
  have HY : WRd (W1.drewN q) B s x := HX.out.drewN q
  have HY' : WRd (W1.drewN q) B s' x := HX'.out.drewN q
  clear c6 d6 hb3 HX HX'
  have n1 : Blk (W1.drewN q) _ _ _ := k1.out
  have n2 : Blk (W1.drewN q) _ _ _ := k2.out
  clear k1 k2 m1 m2
  generalize W1.drewN q = W2 at *
  replace hb4 := Lib.hid hb4
  replace HY := Lib.hid HY
  replace HY' := Lib.hid HY'
  have c0 := n1.cell 0
  have d0 := n2.cell 0
  have c1 := n1.cell 1
  have d1 := n2.cell 1
  have c7 := n1.cell 7
  have d7 := n2.cell 7
  have c8 := n1.cell 8
  have d8 := n2.cell 8
  have m1 := n1.lt
  have m2 := n2.lt
  replace n1 := Lib.hid n1
  replace n2 := Lib.hid n2
  have hBW : B ≤ W2.heap.size := by have := hb4.out.size; omega
  go_wp2_with fail
  go_loopw [7] (fun vi wr => ∃ k : Nat, vi = .int .i64 k ∧ k ≤ x.units.length ∧ Hid (Below W2.heap.size W2 wr)) (fun vi _ => x.units.length - (intOf vi).toNat)
  case atStart => exact ⟨0, rfl, Nat.zero_le _, Lib.hid (Below.refl _ _)⟩
  case round =>
    obtain ⟨k, rfl, hk, hb⟩ := hrel
    have hs := hb.out.size
    have o1 := n1.out.below hb.out m1
    have o2 := n2.out.below hb.out m2
    have p1 := o1.lt
    have p2 := o2.lt
    clear c0 c1 c7 c8 d0 d1 d7 d8
    have c7 := o1.cell 7
    have d7 := o2.cell 7
    replace o1 := Lib.hid o1
    replace o2 := Lib.hid o2
    by_cases hlt : k < x.units.length
    · as_aux_lemma =>
      have j1 : (k : Int) < (x.units.length : Int) := by omega
      have hR : RD wr B 8 _ _ _ := HY.out.u.below (hb.out.mono hBW)
      have hR' : RD wr B 8 _ _ _ := HY'.out.u.below (hb.out.mono hBW)
      obtain ⟨b, off, hA, hbB, hcs⟩ := hR.2 (by omega)
      obtain ⟨b', off', hA', hbB', hcs'⟩ := hR'.2 (by omega)
      have hg : x.units[k]? = some x.units[k] := List.getElem?_eq_getElem hlt
      have hcc : ∀ j, j < 8 → wr.cell? ⟨b, off + (k * 8 + j), none⟩ = (uC x.units[k])[j]? := fun j hj => by rw [hcs (k * 8 + j) (by omega), flat_get uC 8 (fun _ => rfl) x.units k j hj, hg]; rfl
      have hcc' : ∀ j, j < 8 → wr.cell? ⟨b', off' + (k * 8 + j), none⟩ = (uC x.units[k])[j]? := fun j hj => by rw [hcs' (k * 8 + j) (by omega), flat_get uC 8 (fun _ => rfl) x.units k j hj, hg]; rfl
      clear hR hR' hcs hcs'
      generalize x.units[k] = u at *
      obtain ⟨u0, u1, u2, u3, u4, u5, u6, u7⟩ := u
      have hbl : b < wr.heap.size := by omega
      have hbl' : b' < wr.heap.size := by omega
      have e0 : wr.cell? ⟨b, off + k * 8, none⟩ = some (.int .i64 u0) := hcc 0 (by omega)
      have f0 : wr.cell? ⟨b', off' + k * 8, none⟩ = some (.int .i64 u0) := hcc' 0 (by omega)
      have e1 : wr.cell? ⟨b, off + k * 8 + 1, none⟩ = some (.int .i64 u1) := hcc 1 (by omega)
      have f1 : wr.cell? ⟨b', off' + k * 8 + 1, none⟩ = some (.int .i64 u1) := hcc' 1 (by omega)
      have e2 : wr.cell? ⟨b, off + k * 8 + 2, none⟩ = some (.int .i64 u2) := hcc 2 (by omega)
      have f2 : wr.cell? ⟨b', off' + k * 8 + 2, none⟩ = some (.int .i64 u2) := hcc' 2 (by omega)
      have e3 : wr.cell? ⟨b, off + k * 8 + 3, none⟩ = some (.int .i64 u3) := hcc 3 (by omega)
      have f3 : wr.cell? ⟨b', off' + k * 8 + 3, none⟩ = some (.int .i64 u3) := hcc' 3 (by omega)
      have e4 : wr.cell? ⟨b, off + k * 8 + 4, none⟩ = some (.int .i64 u4) := hcc 4 (by omega)
      have f4 : wr.cell? ⟨b', off' + k * 8 + 4, none⟩ = some (.int .i64 u4) := hcc' 4 (by omega)
      have e5 : wr.cell? ⟨b, off + k * 8 + 5, none⟩ = some (.int .i64 u5) := hcc 5 (by omega)
      have f5 : wr.cell? ⟨b', off' + k * 8 + 5, none⟩ = some (.int .i64 u5) := hcc' 5 (by omega)
      have e6 : wr.cell? ⟨b, off + k * 8 + 6, none⟩ = some (.int .i64 u6) := hcc 6 (by omega)
      have f6 : wr.cell? ⟨b', off' + k * 8 + 6, none⟩ = some (.int .i64 u6) := hcc' 6 (by omega)
      have e7 : wr.cell? ⟨b, off + k * 8 + 7, none⟩ = some (.int .i64 u7) := hcc 7 (by omega)
      have f7 : wr.cell? ⟨b', off' + k * 8 + 7, none⟩ = some (.int .i64 u7) := hcc' 7 (by omega)
      rw [hA] at c7
      rw [hA'] at d7
      replace hA := Lib.hid hA
      replace hA' := Lib.hid hA'
      clear hcc hcc' hg
      have j2 : 0 ≤ (k : Int) := by omega
      go_wp2_with fail
      go_quiet (fail)
      go_wp2_with fail
      go_roundw
      case rel => exact ⟨k + 1, by go_num, by omega, Lib.hid (hb.out.trans ⟨rfl, rfl, rfl, Nat.le_refl _, fun _ _ => rfl⟩)⟩
      case measure => simp [intOf]; omega
    · have j1 : ¬ (k : Int) < (x.units.length : Int) := by omega
      have hY2 := HY.out.below (B := B) (hb.out.mono hBW)
      have hY2' := HY'.out.below (B := B) (hb.out.mono hBW)
      have hb5 : Below w.heap.size w wr := hb4.out.trans (hb.out.mono (by have := hb4.out.size; omega))
      clear HY HY' hb4 n1 n2 m1 m2 hb c7 d7
      replace hY2 := Lib.hid hY2
      replace hY2' := Lib.hid hY2'
      replace hb5 := Lib.hid hb5
      have c7 := o1.out.cell 7
      have c8 := o1.out.cell 8
      have d8 := o2.out.cell 8
      have hBW : B ≤ wr.heap.size := by omega
      generalize wr = W3 at *
      have n1 := o1
      have n2 := o2
      have m1 := p1
      have m2 := p2
      have HY := hY2
      have HY' := hY2'
      clear o1 o2 p1 p2 hY2 hY2'
      go_wp2_with fail
      go_loopw [8] (fun vi wr => ∃ k : Nat, vi = .int .i64 k ∧ k ≤ x.queue.length ∧ Hid (Below W3.heap.size W3 wr)) (fun vi _ => x.queue.length - (intOf vi).toNat)
      case atStart => exact ⟨0, rfl, Nat.zero_le _, Lib.hid (Below.refl _ _)⟩
      case round =>
        obtain ⟨k, rfl, hk, hb⟩ := hrel
        have hs := hb.out.size
        have o1 := n1.out.below hb.out m1
        have o2 := n2.out.below hb.out m2
        have p1 := o1.lt
        have p2 := o2.lt
        clear c7 c8 d8
        have c8 := o1.cell 8
        have d8 := o2.cell 8
        replace o1 := Lib.hid o1
        replace o2 := Lib.hid o2
        by_cases hlt : k < x.queue.length
        · as_aux_lemma =>
          have j1 : (k : Int) < (x.queue.length : Int) := by omega
          have hR : RD wr B 4 _ _ _ := HY.out.j.below (hb.out.mono hBW)
          have hR' : RD wr B 4 _ _ _ := HY'.out.j.below (hb.out.mono hBW)
          obtain ⟨b, off, hA, hbB, hcs⟩ := hR.2 (by omega)
          obtain ⟨b', off', hA', hbB', hcs'⟩ := hR'.2 (by omega)
          have hg : x.queue[k]? = some x.queue[k] := List.getElem?_eq_getElem hlt
          have hcc : ∀ j, j < 4 → wr.cell? ⟨b, off + (k * 4 + j), none⟩ = (jC x.queue[k])[j]? := fun j hj => by rw [hcs (k * 4 + j) (by omega), flat_get jC 4 (fun _ => rfl) x.queue k j hj, hg]; rfl
          have hcc' : ∀ j, j < 4 → wr.cell? ⟨b', off' + (k * 4 + j), none⟩ = (jC x.queue[k])[j]? := fun j hj => by rw [hcs' (k * 4 + j) (by omega), flat_get jC 4 (fun _ => rfl) x.queue k j hj, hg]; rfl
          clear hR hR' hcs hcs'
          generalize x.queue[k] = u at *
          obtain ⟨u0, u1, u2, u3⟩ := u
          have hbl : b < wr.heap.size := by omega
          have hbl' : b' < wr.heap.size := by omega
          have e0 : wr.cell? ⟨b, off + k * 4, none⟩ = some (.int .i64 u0) := hcc 0 (by omega)
          have f0 : wr.cell? ⟨b', off' + k * 4, none⟩ = some (.int .i64 u0) := hcc' 0 (by omega)
          have e1 : wr.cell? ⟨b, off + k * 4 + 1, none⟩ = some (.int .i64 u1) := hcc 1 (by omega)
          have f1 : wr.cell? ⟨b', off' + k * 4 + 1, none⟩ = some (.int .i64 u1) := hcc' 1 (by omega)
          have e2 : wr.cell? ⟨b, off + k * 4 + 2, none⟩ = some (.int .i64 u2) := hcc 2 (by omega)
          have f2 : wr.cell? ⟨b', off' + k * 4 + 2, none⟩ = some (.int .i64 u2) := hcc' 2 (by omega)
          have e3 : wr.cell? ⟨b, off + k * 4 + 3, none⟩ = some (.int .i64 u3) := hcc 3 (by omega)
          have f3 : wr.cell? ⟨b', off' + k * 4 + 3, none⟩ = some (.int .i64 u3) := hcc' 3 (by omega)
          rw [hA] at c8
          rw [hA'] at d8
          replace hA := Lib.hid hA
          replace hA' := Lib.hid hA'
          clear hcc hcc' hg
          have j2 : 0 ≤ (k : Int) := by omega
          go_wp2_with fail
          go_quiet (fail)
          go_wp2_with fail
          go_roundw
          case rel => exact ⟨k + 1, by go_num, by omega, Lib.hid (hb.out.trans ⟨rfl, rfl, rfl, Nat.le_refl _, fun _ _ => rfl⟩)⟩
          case measure => simp [intOf]; omega
        · have j1 : ¬ (k : Int) < (x.queue.length : Int) := by omega
          have hb6 : Below w.heap.size w wr := hb5.out.trans (hb.out.mono (by have := hb5.out.size; omega))
          replace hb6 := Lib.hid hb6
          clear HY HY' hb5 n1 n2 d8
          go_wp2_with fail
          go_ret
          exact ⟨rfl, hb6.out⟩
end Go.Proofs.YtkgkpggfoieioaaDoor
