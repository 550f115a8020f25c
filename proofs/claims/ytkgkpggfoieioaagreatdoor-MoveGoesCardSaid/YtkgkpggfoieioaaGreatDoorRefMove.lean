import Derived.Test.YtkgkpggfoieioaaGreatDoorRefWishB
import Derived.Test.YtkgkpggfoieioaaGreatDoorDo
import Derived.Test.YtkgkpggfoieioaaGreatDoorRefCopy
import Derived.Test.YtkgkpggfoieioaaGreatDoorRefWc
namespace Go.Proofs.YtkgkpggfoieioaaGreatDoor
set_option linter.unusedVariables false
open Go.RowKit
/-! The reference's move. -/
def b01 : Value → Nat
  | .bool true => 1
  | _ => 0
set_option maxHeartbeats 12800000 in
set_option maxRecDepth 100000 in
theorem rmove_any (sK : SL) (L : List GK) (s : SW) (x : GW) (w : World) (hK : KS w w.heap.size sK L) (hW : WOk w s x) (hx : WorldOk L x) :
    Calls Tryz.prog 16 #[.slice sK.A L.length sK.c, .agg #[.int .i64 x.turn, .int .i64 x.next, .int .i64 x.field.wide, .int .i64 x.field.high, .slice s.field.ground.A x.field.ground.length s.field.ground.c, .slice s.field.ore.A x.field.ore.length s.field.ore.c, .slice s.gold.A x.gold.length s.gold.c, .slice s.units.A x.units.length s.units.c, .slice s.queue.A x.queue.length s.queue.c]] w fun e w' => ∃ s' A c, e = .returned (.tuple #[.agg #[.int .i64 (doL L x).1.turn, .int .i64 (doL L x).1.next, .int .i64 (doL L x).1.field.wide, .int .i64 (doL L x).1.field.high, .slice s'.field.ground.A (doL L x).1.field.ground.length s'.field.ground.c, .slice s'.field.ore.A (doL L x).1.field.ore.length s'.field.ore.c, .slice s'.gold.A (doL L x).1.gold.length s'.gold.c, .slice s'.units.A (doL L x).1.units.length s'.units.c, .slice s'.queue.A (doL L x).1.queue.length s'.queue.c], .slice A (doL L x).2.length c]) ∧ WOwn w' w.heap.size s' (doL L x).1 ∧ WInt (doL L x).1 ∧ w'.ownsRow w.heap.size 77 3 (.slice A (doL L x).2.length c) (doL L x).2.length ((doL L x).2.flatMap eC) ∧ Below w.heap.size w w' := by
  obtain ⟨sA, sc⟩ := sK
  dsimp only
  obtain ⟨yF, evF, hyF⟩ : ∃ yF evF, doL L x = (yF, evF) := ⟨_, _, rfl⟩
  rw [hyF]
  dsimp only
  replace hyF := Lib.hid hyF
  have hX : CW w ((w.alloc (.cells #[.int .i64 x.turn, .int .i64 x.next, .int .i64 x.field.wide, .int .i64 x.field.high, .slice s.field.ground.A x.field.ground.length s.field.ground.c, .slice s.field.ore.A x.field.ore.length s.field.ore.c, .slice s.gold.A x.gold.length s.gold.c, .slice s.units.A x.units.length s.units.c, .slice s.queue.A x.queue.length s.queue.c] 29)).alloc (.cells #[.int .i64 0, .int .i64 0, .int .i64 0, .int .i64 0, .slice none 0 0, .slice none 0 0, .slice none 0 0, .slice none 0 0, .slice none 0 0] 29)) s x w.heap.size (w.heap.size + 1) #[.int .i64 x.turn, .int .i64 x.next, .int .i64 x.field.wide, .int .i64 x.field.high, .slice s.field.ground.A x.field.ground.length s.field.ground.c, .slice s.field.ore.A x.field.ore.length s.field.ore.c, .slice s.gold.A x.gold.length s.gold.c, .slice s.units.A x.units.length s.units.c, .slice s.queue.A x.queue.length s.queue.c] := by
    obtain ⟨hb1, hk1, hk2⟩ := two_boxes w 29 29 #[.int .i64 x.turn, .int .i64 x.next, .int .i64 x.field.wide, .int .i64 x.field.high, .slice s.field.ground.A x.field.ground.length s.field.ground.c, .slice s.field.ore.A x.field.ore.length s.field.ore.c, .slice s.gold.A x.gold.length s.gold.c, .slice s.units.A x.units.length s.units.c, .slice s.queue.A x.queue.length s.queue.c] #[.int .i64 0, .int .i64 0, .int .i64 0, .int .i64 0, .slice none 0 0, .slice none 0 0, .slice none 0 0, .slice none 0 0, .slice none 0 0]
    exact ⟨hb1, hk1, hk2, hW, Nat.le_refl _, by omega⟩
  have hul := hW.ulen
  have hh := headE_ok hx.head
  have hgd := (good_of x.field hx.field).len
  have hin := hW.int
  have hq := hx.few
  have hun := hh.units
  replace hX := Lib.hid hX
  replace hK := Lib.hid hK
  replace hin := Lib.hid hin
  replace hgd := Lib.hid hgd
  replace hh := Lib.hid hh
  replace hx := Lib.hid hx
  clear hW
  go_enter Tryz.func16, Tryz.ntmps16
  go_upto_region 1 with fail
  generalize ((w.alloc (.cells #[.int .i64 x.turn, .int .i64 x.next, .int .i64 x.field.wide, .int .i64 x.field.high, .slice s.field.ground.A x.field.ground.length s.field.ground.c, .slice s.field.ore.A x.field.ore.length s.field.ore.c, .slice s.gold.A x.gold.length s.gold.c, .slice s.units.A x.units.length s.units.c, .slice s.queue.A x.queue.length s.queue.c] 29)).alloc (.cells #[.int .i64 0, .int .i64 0, .int .i64 0, .int .i64 0, .slice none 0 0, .slice none 0 0, .slice none 0 0, .slice none 0 0, .slice none 0 0] 29)) = W at *
  obtain ⟨wb, hwb⟩ : ∃ wb, w.heap.size = wb := ⟨_, rfl⟩
  obtain ⟨rb, hrb⟩ : ∃ rb, wb + 1 = rb := ⟨_, rfl⟩
  rw [hwb]
  try rw [hrb]
  replace hX : CW w W s x wb rb #[.int .i64 x.turn, .int .i64 x.next, .int .i64 x.field.wide, .int .i64 x.field.high, .slice s.field.ground.A x.field.ground.length s.field.ground.c, .slice s.field.ore.A x.field.ore.length s.field.ore.c, .slice s.gold.A x.gold.length s.gold.c, .slice s.units.A x.units.length s.units.c, .slice s.queue.A x.queue.length s.queue.c] := by rw [← hrb, ← hwb]; exact hX.out
  replace hX := Lib.hid hX
  replace hwb := Lib.hid hwb
  replace hrb := Lib.hid hrb
  obtain ⟨m0, m1, m2, m3, m4, m5, m6, m7, m8, mll, rll⟩ := hX.out.wcells
  have hnrw : rb ≠ wb := by have := hX.out.p2; omega
  have hwr1 : wb < rb + 1 := by have := hX.out.p2; omega
  have hszc : rb + 1 ≤ W.heap.size := hX.out.kr.lt
  have hwsz : w.heap.size + 2 ≤ rb + 1 := by have := hwb.out; have := hrb.out; omega
  replace hnrw := Lib.hid hnrw
  replace hwr1 := Lib.hid hwr1
  replace hszc := Lib.hid hszc
  replace hwsz := Lib.hid hwsz
  have hcl : Calls Tryz.prog 14 #[.agg #[.int .i64 x.turn, .int .i64 x.next, .int .i64 x.field.wide, .int .i64 x.field.high, .slice s.field.ground.A x.field.ground.length s.field.ground.c, .slice s.field.ore.A x.field.ore.length s.field.ore.c, .slice s.gold.A x.gold.length s.gold.c, .slice s.units.A x.units.length s.units.c, .slice s.queue.A x.queue.length s.queue.c]] W fun e w' => ∃ s', e = .returned (.agg #[.int .i64 x.turn, .int .i64 x.next, .int .i64 x.field.wide, .int .i64 x.field.high, .slice s'.field.ground.A x.field.ground.length s'.field.ground.c, .slice s'.field.ore.A x.field.ore.length s'.field.ore.c, .slice s'.gold.A x.gold.length s'.gold.c, .slice s'.units.A x.units.length s'.units.c, .slice s'.queue.A x.queue.length s'.queue.c]) ∧ WOwn w' (W.heap.size + 3) s' x ∧ Below W.heap.size W w' := rcopy_any s x W hX.out.wo_ (by have := hgd.out; omega) (by have := hgd.out; omega) (by have := hh.out.players; omega) (by omega) (by omega)
  replace hcl := Lib.hid hcl
  go_wp2_with fail
  refine hcl.out.mono ?_
  clear hcl m0 m1 m2 m3 m4 m5 m6 m7 m8 mll rll
  rintro e w7 ⟨s1, rfl, hO, hb7⟩
  replace hX := Lib.hid (hX.out.below hb7)
  clear hb7
  have hO1 : WOwn w7 (rb + 1) s1 x := hO.base (by have := hszc.out; omega)
  clear hO
  replace hO1 := Lib.hid hO1
  have k0 : w7.cell? ⟨wb, 0, none⟩ = some (.int .i64 x.turn) := hX.out.kw.cell 0
  have y0 := hX.out.kw.frozen 0
  have k1 : w7.cell? ⟨wb, 1, none⟩ = some (.int .i64 x.next) := hX.out.kw.cell 1
  have y1 := hX.out.kw.frozen 1
  have k2 : w7.cell? ⟨wb, 2, none⟩ = some (.int .i64 x.field.wide) := hX.out.kw.cell 2
  have y2 := hX.out.kw.frozen 2
  have k3 : w7.cell? ⟨wb, 3, none⟩ = some (.int .i64 x.field.high) := hX.out.kw.cell 3
  have y3 := hX.out.kw.frozen 3
  have k4 : w7.cell? ⟨wb, 4, none⟩ = some (.slice s.field.ground.A x.field.ground.length s.field.ground.c) := hX.out.kw.cell 4
  have y4 := hX.out.kw.frozen 4
  have k5 : w7.cell? ⟨wb, 5, none⟩ = some (.slice s.field.ore.A x.field.ore.length s.field.ore.c) := hX.out.kw.cell 5
  have y5 := hX.out.kw.frozen 5
  have k6 : w7.cell? ⟨wb, 6, none⟩ = some (.slice s.gold.A x.gold.length s.gold.c) := hX.out.kw.cell 6
  have y6 := hX.out.kw.frozen 6
  have k7 : w7.cell? ⟨wb, 7, none⟩ = some (.slice s.units.A x.units.length s.units.c) := hX.out.kw.cell 7
  have y7 := hX.out.kw.frozen 7
  have k8 : w7.cell? ⟨wb, 8, none⟩ = some (.slice s.queue.A x.queue.length s.queue.c) := hX.out.kw.cell 8
  have y8 := hX.out.kw.frozen 8
  have kll := hX.out.kw.lt
  go_upto_region 2 with fail
  have hrw : w.heap.size ≤ wb := hX.out.p1
  have hkw8 : Blk (((((((((w7.setCell ⟨wb, 0, none⟩ (.int .i64 x.turn)).setCell ⟨wb, 1, none⟩ (.int .i64 x.next)).setCell ⟨wb, 2, none⟩ (.int .i64 x.field.wide)).setCell ⟨wb, 3, none⟩ (.int .i64 x.field.high)).setCell ⟨wb, 4, none⟩ (.slice s1.field.ground.A x.field.ground.length s1.field.ground.c)).setCell ⟨wb, 5, none⟩ (.slice s1.field.ore.A x.field.ore.length s1.field.ore.c)).setCell ⟨wb, 6, none⟩ (.slice s1.gold.A x.gold.length s1.gold.c)).setCell ⟨wb, 7, none⟩ (.slice s1.units.A x.units.length s1.units.c)).setCell ⟨wb, 8, none⟩ (.slice s1.queue.A x.queue.length s1.queue.c)) wb 29 #[.int .i64 x.turn, .int .i64 x.next, .int .i64 x.field.wide, .int .i64 x.field.high, .slice s1.field.ground.A x.field.ground.length s1.field.ground.c, .slice s1.field.ore.A x.field.ore.length s1.field.ore.c, .slice s1.gold.A x.gold.length s1.gold.c, .slice s1.units.A x.units.length s1.units.c, .slice s1.queue.A x.queue.length s1.queue.c] := by
    have h := (((((((((hX.out.kw.set_ 0 (.int .i64 x.turn)).set_ 1 (.int .i64 x.next)).set_ 2 (.int .i64 x.field.wide)).set_ 3 (.int .i64 x.field.high)).set_ 4 (.slice s1.field.ground.A x.field.ground.length s1.field.ground.c)).set_ 5 (.slice s1.field.ore.A x.field.ore.length s1.field.ore.c)).set_ 6 (.slice s1.gold.A x.gold.length s1.gold.c)).set_ 7 (.slice s1.units.A x.units.length s1.units.c)).set_ 8 (.slice s1.queue.A x.queue.length s1.queue.c))
    simp only [List.setIfInBounds_toArray, List.set_cons_zero, List.set_cons_succ] at h
    exact h
  have hkr8 : Blk (((((((((w7.setCell ⟨wb, 0, none⟩ (.int .i64 x.turn)).setCell ⟨wb, 1, none⟩ (.int .i64 x.next)).setCell ⟨wb, 2, none⟩ (.int .i64 x.field.wide)).setCell ⟨wb, 3, none⟩ (.int .i64 x.field.high)).setCell ⟨wb, 4, none⟩ (.slice s1.field.ground.A x.field.ground.length s1.field.ground.c)).setCell ⟨wb, 5, none⟩ (.slice s1.field.ore.A x.field.ore.length s1.field.ore.c)).setCell ⟨wb, 6, none⟩ (.slice s1.gold.A x.gold.length s1.gold.c)).setCell ⟨wb, 7, none⟩ (.slice s1.units.A x.units.length s1.units.c)).setCell ⟨wb, 8, none⟩ (.slice s1.queue.A x.queue.length s1.queue.c)) rb 29 #[.int .i64 0, .int .i64 0, .int .i64 0, .int .i64 0, .slice none 0 0, .slice none 0 0, .slice none 0 0, .slice none 0 0, .slice none 0 0] := (((((((((hX.out.kr.far (p := ⟨wb, 0, none⟩) hnrw.out (.int .i64 x.turn)).far (p := ⟨wb, 1, none⟩) hnrw.out (.int .i64 x.next)).far (p := ⟨wb, 2, none⟩) hnrw.out (.int .i64 x.field.wide)).far (p := ⟨wb, 3, none⟩) hnrw.out (.int .i64 x.field.high)).far (p := ⟨wb, 4, none⟩) hnrw.out (.slice s1.field.ground.A x.field.ground.length s1.field.ground.c)).far (p := ⟨wb, 5, none⟩) hnrw.out (.slice s1.field.ore.A x.field.ore.length s1.field.ore.c)).far (p := ⟨wb, 6, none⟩) hnrw.out (.slice s1.gold.A x.gold.length s1.gold.c)).far (p := ⟨wb, 7, none⟩) hnrw.out (.slice s1.units.A x.units.length s1.units.c)).far (p := ⟨wb, 8, none⟩) hnrw.out (.slice s1.queue.A x.queue.length s1.queue.c))
  have hbe8 : Below w.heap.size w (((((((((w7.setCell ⟨wb, 0, none⟩ (.int .i64 x.turn)).setCell ⟨wb, 1, none⟩ (.int .i64 x.next)).setCell ⟨wb, 2, none⟩ (.int .i64 x.field.wide)).setCell ⟨wb, 3, none⟩ (.int .i64 x.field.high)).setCell ⟨wb, 4, none⟩ (.slice s1.field.ground.A x.field.ground.length s1.field.ground.c)).setCell ⟨wb, 5, none⟩ (.slice s1.field.ore.A x.field.ore.length s1.field.ore.c)).setCell ⟨wb, 6, none⟩ (.slice s1.gold.A x.gold.length s1.gold.c)).setCell ⟨wb, 7, none⟩ (.slice s1.units.A x.units.length s1.units.c)).setCell ⟨wb, 8, none⟩ (.slice s1.queue.A x.queue.length s1.queue.c)) := (((((((((hX.out.b.setCell (p := ⟨wb, 0, none⟩) hrw (.int .i64 x.turn)).setCell (p := ⟨wb, 1, none⟩) hrw (.int .i64 x.next)).setCell (p := ⟨wb, 2, none⟩) hrw (.int .i64 x.field.wide)).setCell (p := ⟨wb, 3, none⟩) hrw (.int .i64 x.field.high)).setCell (p := ⟨wb, 4, none⟩) hrw (.slice s1.field.ground.A x.field.ground.length s1.field.ground.c)).setCell (p := ⟨wb, 5, none⟩) hrw (.slice s1.field.ore.A x.field.ore.length s1.field.ore.c)).setCell (p := ⟨wb, 6, none⟩) hrw (.slice s1.gold.A x.gold.length s1.gold.c)).setCell (p := ⟨wb, 7, none⟩) hrw (.slice s1.units.A x.units.length s1.units.c)).setCell (p := ⟨wb, 8, none⟩) hrw (.slice s1.queue.A x.queue.length s1.queue.c))
  have hO8 : WOwn (((((((((w7.setCell ⟨wb, 0, none⟩ (.int .i64 x.turn)).setCell ⟨wb, 1, none⟩ (.int .i64 x.next)).setCell ⟨wb, 2, none⟩ (.int .i64 x.field.wide)).setCell ⟨wb, 3, none⟩ (.int .i64 x.field.high)).setCell ⟨wb, 4, none⟩ (.slice s1.field.ground.A x.field.ground.length s1.field.ground.c)).setCell ⟨wb, 5, none⟩ (.slice s1.field.ore.A x.field.ore.length s1.field.ore.c)).setCell ⟨wb, 6, none⟩ (.slice s1.gold.A x.gold.length s1.gold.c)).setCell ⟨wb, 7, none⟩ (.slice s1.units.A x.units.length s1.units.c)).setCell ⟨wb, 8, none⟩ (.slice s1.queue.A x.queue.length s1.queue.c)) (rb + 1) s1 x := (WOwn.farW (b := wb) (i := 8) (u := .slice s1.queue.A x.queue.length s1.queue.c) (WOwn.farW (b := wb) (i := 7) (u := .slice s1.units.A x.units.length s1.units.c) (WOwn.farW (b := wb) (i := 6) (u := .slice s1.gold.A x.gold.length s1.gold.c) (WOwn.farW (b := wb) (i := 5) (u := .slice s1.field.ore.A x.field.ore.length s1.field.ore.c) (WOwn.farW (b := wb) (i := 4) (u := .slice s1.field.ground.A x.field.ground.length s1.field.ground.c) (WOwn.farW (b := wb) (i := 3) (u := .int .i64 x.field.high) (WOwn.farW (b := wb) (i := 2) (u := .int .i64 x.field.wide) (WOwn.farW (b := wb) (i := 1) (u := .int .i64 x.next) (WOwn.farW (b := wb) (i := 0) (u := .int .i64 x.turn) hO1.out hwr1.out) hwr1.out) hwr1.out) hwr1.out) hwr1.out) hwr1.out) hwr1.out) hwr1.out) hwr1.out)
  clear k0 y0 k1 y1 k2 y2 k3 y3 k4 y4 k5 y5 k6 y6 k7 y7 k8 y8 kll
  generalize (((((((((w7.setCell ⟨wb, 0, none⟩ (.int .i64 x.turn)).setCell ⟨wb, 1, none⟩ (.int .i64 x.next)).setCell ⟨wb, 2, none⟩ (.int .i64 x.field.wide)).setCell ⟨wb, 3, none⟩ (.int .i64 x.field.high)).setCell ⟨wb, 4, none⟩ (.slice s1.field.ground.A x.field.ground.length s1.field.ground.c)).setCell ⟨wb, 5, none⟩ (.slice s1.field.ore.A x.field.ore.length s1.field.ore.c)).setCell ⟨wb, 6, none⟩ (.slice s1.gold.A x.gold.length s1.gold.c)).setCell ⟨wb, 7, none⟩ (.slice s1.units.A x.units.length s1.units.c)).setCell ⟨wb, 8, none⟩ (.slice s1.queue.A x.queue.length s1.queue.c)) = w8 at *
  have hM : MvR w8 w8 ⟨sA, sc⟩ L s1 x wb (rb + 1) [] none 0 := ⟨Below.refl _ _, hkr8.lt, hwr1.out, hkw8, (hK.out.below hbe8).more (by have := hwsz.out; omega), hO8, hin.out, World.ownsRow_nil _ _ _ _⟩
  replace hkr8 := Lib.hid hkr8
  replace hbe8 := Lib.hid hbe8
  clear hO1 hX hkw8 hO8 hrw
  obtain ⟨n, hn⟩ : ∃ n, x.units.length = n := ⟨_, rfl⟩
  go_upto_block 0 with fail
  go_cut [6] (fun v6 wx0 => ∃ wx, wx = wx0 ∧ ∃ A c, v6 = .slice A evF.length c ∧ Hid (MvR w8 wx ⟨sA, sc⟩ L s1 yF wb (rb + 1) evF A c))
  case first =>
    as_aux_lemma =>
    by_cases h0 : x.units.length = 0
    · as_aux_lemma =>
      have hd : yF = x ∧ evF = [] := by
        have h := hyF.out
        unfold doL at h
        rw [h0] at h
        injection h with h1 h2
        exact ⟨h1.symm, h2.symm⟩
      obtain ⟨rfl, rfl⟩ := hd
      have z1 : ¬ ((0 : Int) < (yF.units.length : Int)) := by omega
      obtain ⟨m0, m1, m2, m3, m4, m5, m6, m7, m8, mll⟩ := hM.cells
      replace hM := Lib.hid hM
      replace h0 := Lib.hid h0
      replace hn := Lib.hid hn
      go_wp2_with fail
      go_loopw [6, 7] (fun v6 v7 wr => v6 = .slice none 0 0 ∧ v7 = .int .i64 0 ∧ w8 = wr) (fun _ _ _ => 0)
      case atStart => exact ⟨rfl, rfl, rfl⟩
      case round =>
        obtain ⟨rfl, rfl, rfl⟩ := hrel
        go_wp2_with fail
        go_meet
        exact ⟨_, rfl, none, 0, rfl, hM⟩
    obtain ⟨g, hA, -, -⟩ := hM.row (by omega)
    obtain ⟨bk, okk, hAk, -⟩ := rk_at hM.ks.rd (gu x.units 0).kind.toNat (by have := hx.out.wm.kind 0 (by omega); omega)
    obtain ⟨sf, sg, ⟨uA, uc⟩, sq⟩ := s1
    dsimp only at hAk hA
    subst hAk; subst hA
    have hcap := hM.ks.cap
    have hmx := hM.ks.max
    dsimp only at hcap hmx
    replace hM := Lib.hid hM
    have hd0 : Hid (doN L x 0 = (x, [])) := Lib.hid rfl
    clear h0
    rw [hn] at hul hun
    replace hn := Lib.hid hn
    go_wp2_with fail
    go_loopw [6, 7] (fun v6 v7 wr => ∃ (k : Nat) (y : GW) (ev : List EV) (A : Option Addr) (c : Nat), v6 = .slice A ev.length c ∧ v7 = .int .i64 k ∧ k ≤ n ∧ Hid (doN L x k = (y, ev)) ∧ Hid (MvR w8 wr ⟨some ⟨bk, okk, none⟩, sc⟩ L ⟨sf, sg, ⟨some ⟨g, 0, none⟩, uc⟩, sq⟩ y wb (rb + 1) ev A c)) (fun _ v7 _ => n - (intOf v7).toNat)
    case atStart => exact ⟨0, x, [], none, 0, rfl, rfl, Nat.zero_le _, hd0, hM⟩
    case round =>
      clear hM hd0
      obtain ⟨k, y, ev, A, c, rfl, rfl, hk, hd, hM⟩ := hrel
      obtain ⟨wo, hwo⟩ : ∃ wo : World, wo = wr := ⟨_, rfl⟩
      subst hwo
      have hylen : y.units.length = n := by have := (doN_kp hx.out k (by rw [hn.out]; exact hk)).len; rw [hd.out, hn.out] at this; exact this
      obtain ⟨m0, m1, m2, m3, m4, m5, m6, m7, m8, mll⟩ := hM.out.cells
      dsimp only at m0 m1 m2 m3 m4 m5 m6 m7 m8
      by_cases hlt : k < n
      case neg =>
        as_aux_lemma =>
        have z1 : ¬ (k : Int) < (y.units.length : Int) := by omega
        have hfin : yF = y ∧ evF = ev := by
          have h := hyF.out
          unfold doL at h
          rw [hn.out, show n = k by omega, hd.out] at h
          injection h with h1 h2
          exact ⟨h1.symm, h2.symm⟩
        obtain ⟨rfl, rfl⟩ := hfin
        replace hylen := Lib.hid hylen
        go_wp2_with fail
        go_meet
        exact ⟨_, rfl, A, c, rfl, hM⟩
      case pos =>
      have hkx : k < x.units.length := by rw [hn.out]; exact hlt
      have hst0 := GoR.start hx.out hkx hd.out
      have hky : k < y.units.length := by rw [hst0.kp.len]; exact hkx
      have hkyi : (k : Int) < (y.units.length : Int) := by omega
      have hyl : y.units.length ≤ 40 := by rw [hst0.kp.len, hn.out]; exact hun
      obtain ⟨kv, hkv⟩ : ∃ kv : Nat, (gu y.units k).kind = (kv : Int) := ⟨(gu y.units k).kind.toNat, by have := hst0.kp.ok.wm.kind k hky; omega⟩
      have hkvl : kv < L.length := by have := hst0.kp.ok.wm.kind k hky; omega
      have hkvi : (kv : Int) < (L.length : Int) := by omega
      have hksp := hM.out.speed kv hkvl
      obtain ⟨sp, hsp⟩ : ∃ sp, (gk L (gu y.units k).kind.toNat).speed = sp := ⟨_, rfl⟩
      rw [hsp] at hst0
      have hsp2 : (gk L kv).speed = sp := by rw [← hsp, hkv, Int.toNat_natCast]
      rw [hsp2] at hksp
      have hspr : 0 ≤ sp ∧ sp ≤ 4 := by rw [← hsp2]; exact (kindsE_at hx.out.kinds hkvl).speed
      replace hst0 := Lib.hid hst0
      replace hsp := Lib.hid hsp
      replace hkv := Lib.hid hkv
      replace hylen := Lib.hid hylen
      clear hsp2
      obtain ⟨p0, p1, p2, p3, p4, p5, p6, p7⟩ := hM.out.ucells rfl hky
      rw [hkv.out] at p2
      replace hd := Lib.hid hd.out
      go_upto_region 7 with fail
      go_wp2_with fail
      clear hksp hkv hkvl hkvi p0 p1 p2 p3 p4 p5 p6 p7 m0 m1 m2 m3 m4 m5 m6 m7 m8 mll
      go_loopw [6, 8, 9] (fun v6 v8 v9 wr => ∃ (y1 : GW) (ev1 : List EV) (A1 : Option Addr) (c1 : Nat) (lf : Int) (m : Nat) (b : Bool), v6 = .slice A1 ev1.length c1 ∧ v8 = .int .i64 lf ∧ v9 = .bool b ∧ Hid (GoR L x k y ev sp y1 ev1 lf m) ∧ Hid (b = false → StopU L y1 k lf) ∧ Hid (MvR w8 wr ⟨some ⟨bk, okk, none⟩, sc⟩ L ⟨sf, sg, ⟨some ⟨g, 0, none⟩, uc⟩, sq⟩ y1 wb (rb + 1) ev1 A1 c1)) (fun _ v8 v9 _ => 2 * (intOf v8).toNat + b01 v9)
      case atStart => exact ⟨y, ev, A, c, sp, _, true, rfl, rfl, rfl, hst0, Lib.hid (fun h => by cases h), hM⟩
      case round =>
        clear hM hst0
        obtain ⟨y0, ev0, A0, c0, e1, e2, e3, e4⟩ : ∃ (y0 : GW) (ev0 : List EV) (A0 : Option Addr) (c0 : Nat), y0 = y ∧ ev0 = ev ∧ A0 = A ∧ c0 = c := ⟨_, _, _, _, rfl, rfl, rfl, rfl⟩
        subst e1; subst e2; subst e3; subst e4
        obtain ⟨y, ev, A, c, lf, m, b, rfl, rfl, rfl, hg, hbs, hM⟩ := hrel
        clear hky hkyi hyl hylen
        have hok := hg.out.kp.ok
        have hky : k < y.units.length := by rw [hg.out.kp.len]; exact hkx
        have hkyi : (k : Int) < (y.units.length : Int) := by omega
        have hyl : y.units.length ≤ 40 := by rw [hg.out.kp.len, hn.out]; exact hun
        obtain ⟨a, hsa⟩ : ∃ a : Nat, (gu y.units k).spot = (a : Int) := ⟨(gu y.units k).spot.toNat, by have := hok.wm.spot k hky; omega⟩
        cases b with
        | false =>
          as_aux_lemma =>
          have hstop := hbs.out rfl
          have hfin := hg.out.fin hkx hd.out hsp.out.symm hstop
          replace hfin := Lib.hid hfin
          replace hstop := Lib.hid hstop
          replace hok := Lib.hid hok
          replace hsa := Lib.hid hsa
          obtain ⟨m0, m1, m2, m3, m4, m5, m6, m7, m8, mll⟩ := hM.out.cells
          dsimp only at m0 m1 m2 m3 m4 m5 m6 m7 m8
          obtain ⟨p0, p1, p2, p3, p4, p5, p6, p7⟩ := hM.out.ucells rfl hky
          rw [hsa.out] at p3
          generalize htk : (gu y.units k).task = tk at *
          generalize hgl' : (gu y.units k).goal = gl at *
          by_cases c1 : tk = 1
          case neg =>
            have d1 : (tk == 1) = false := by simp [c1]
            have he : endU y k = y := by unfold endU; rw [if_neg (fun h => c1 (by rw [← htk]; exact h.1))]
            rw [he] at hfin
            replace he := Lib.hid he
            replace htk := Lib.hid htk
            replace hgl' := Lib.hid hgl'
            replace c1 := Lib.hid c1
            go_wp2_with fail
            go_quiet (fail)
            go_wp2_with fail
            go_roundw
            case rel => exact ⟨k + 1, y, ev, A, c, rfl, by go_num, by omega, hfin, Lib.hid (hM.out.drewN _)⟩
            case measure => simp [intOf]; omega
          case pos =>
          have d1 : (tk == 1) = true := by simp [c1]
          by_cases c2 : (a : Int) = gl
          case neg =>
            have d2 : ((a : Int) == gl) = false := by simp [c2]
            have he : endU y k = y := by unfold endU; rw [if_neg (fun h => c2 (by rw [← hgl', ← hsa.out]; exact h.2))]
            rw [he] at hfin
            replace he := Lib.hid he
            replace htk := Lib.hid htk
            replace hgl' := Lib.hid hgl'
            replace c1 := Lib.hid c1
            replace c2 := Lib.hid c2
            go_wp2_with fail
            go_quiet (fail)
            go_wp2_with fail
            go_roundw
            case rel => exact ⟨k + 1, y, ev, A, c, rfl, by go_num, by omega, hfin, Lib.hid (hM.out.drewN _)⟩
            case measure => simp [intOf]; omega
          case pos =>
          have d2 : ((a : Int) == gl) = true := by simp [c2]
          have he : endU y k = setU y k { gu y.units k with task := 0, goal := 0 } := by unfold endU; rw [if_pos ⟨by rw [htk]; exact c1, by rw [hgl', hsa.out]; exact c2⟩]
          rw [he] at hfin
          replace he := Lib.hid he
          replace htk := Lib.hid htk
          replace hgl' := Lib.hid hgl'
          replace c1 := Lib.hid c1
          replace c2 := Lib.hid c2
          go_wp2_with fail
          go_quiet (fail)
          have hMq := hM.out.drewN nq
          clear hM p0 p1 p2 p3 p4 p5 p6 p7 m0 m1 m2 m3 m4 m5 m6 m7 m8 mll
          generalize wr.drewN nq = Wq at *
          have hMe := hMq.restU rfl hky
          have f6 : Wq.frozen? ⟨g, k * 8 + 6, none⟩ = false := hMq.ufree rfl _
          have f7 : Wq.frozen? ⟨g, k * 8 + 7, none⟩ = false := hMq.ufree rfl _
          obtain ⟨_, _, _, _, _, _, p6, p7⟩ := hMq.ucells rfl hky
          obtain ⟨hgb, hgw⟩ := (hMq.rowg rfl).lt g rfl
          obtain ⟨_, _, _, _, _, _, _, m7, _, mll⟩ := hMq.cells
          dsimp only at m7
          have hgwb : g ≠ wb := by have := hMq.lt; omega
          replace hMe := Lib.hid hMe
          replace hMq := Lib.hid hMq
          go_wp2_with fail
          go_roundw
          case rel => exact ⟨k + 1, _, ev, A, c, rfl, by go_num, by omega, hfin, hMe⟩
          case measure => simp [intOf]; omega
        | true =>
        as_aux_lemma =>
        clear hbs
        have hgl : y.field.ground.length ≤ 144 := by have := hok.wm.good.len; omega
        obtain ⟨kv, hkv⟩ : ∃ kv : Nat, (gu y.units k).kind = (kv : Int) := ⟨(gu y.units k).kind.toNat, by have := hok.wm.kind k hky; omega⟩
        have hkvl : kv < L.length := by have := hok.wm.kind k hky; omega
        have hkvi : (kv : Int) < (L.length : Int) := by omega
        obtain ⟨R, hR⟩ : ∃ R, wishU L y (gu y.units k) = R := ⟨_, rfl⟩
        have hRl : R < y.field.ground.length := by rw [← hR]; exact (wish_in hok.wm hky).1
        obtain ⟨kf, hkf⟩ : ∃ kf, (gk L kv).flies = kf := ⟨_, rfl⟩
        obtain ⟨ov, hov⟩ : ∃ ov, ontoL y.field R kf = ov := ⟨_, rfl⟩
        obtain ⟨oi, hoi⟩ : ∃ oi, onI y.units (R : Int) = oi := ⟨_, rfl⟩
        have hstp : StopU L y k lf ↔ ((R : Int) = (a : Int) ∨ 0 ≤ oi ∨ lf < ov) := by unfold StopU; rw [hR, hsa, hkv, Int.toNat_natCast, hkf, hov, hoi]
        have hlf0 : 0 ≤ lf := by have := hg.out.kp.pos k hkx; rw [hg.out.lf] at this; exact this
        have hevl : ev.length ≤ 205 ∧ lf ≤ 205 := by have h1 := hg.out.ln; have h2 := hg.out.lt; omega
        have hov2 : 0 ≤ ov ∧ ov ≤ 2 := by rw [← hov]; unfold ontoL ontoG; repeat' split
                                          all_goals omega
        have hgr : 0 ≤ gAt y.field R ∧ gAt y.field R ≤ 3 := hok.wm.good.cell R _ (by unfold gAt; rw [List.getD_eq_getElem?_getD, List.getElem?_eq_getElem hRl]; rfl)
        have hwi : Calls Tryz.prog 19 #[.slice (some ⟨bk, okk, none⟩) L.length sc, .agg #[.int .i64 y.turn, .int .i64 y.next, .int .i64 y.field.wide, .int .i64 y.field.high, .slice sf.ground.A y.field.ground.length sf.ground.c, .slice sf.ore.A y.field.ore.length sf.ore.c, .slice sg.A y.gold.length sg.c, .slice (some ⟨g, 0, none⟩) y.units.length uc, .slice sq.A y.queue.length sq.c], .int .i64 (k : Int)] wr fun e w' => e = .returned (.int .i64 (R : Int)) ∧ Below wr.heap.size wr w' := by
          have := rwish_any ⟨some ⟨bk, okk, none⟩, sc⟩ L ⟨sf, sg, ⟨some ⟨g, 0, none⟩, uc⟩, sq⟩ y k wr hM.out.ks_ hM.out.wo_ hok.wm hky (unitE_ok (hok.units k hky)).task
          rw [hR] at this; exact this
        have hot : ∀ wz, (MvR w8 wz ⟨some ⟨bk, okk, none⟩, sc⟩ L ⟨sf, sg, ⟨some ⟨g, 0, none⟩, uc⟩, sq⟩ y wb (rb + 1) ev A c) → Calls Tryz.prog 12 #[.agg #[.int .i64 y.field.wide, .int .i64 y.field.high, .slice sf.ground.A y.field.ground.length sf.ground.c, .slice sf.ore.A y.field.ore.length sf.ore.c], .int .i64 (R : Int), .bool kf] wz fun e w' => e = .returned (.int .i64 ov) ∧ (MvR w8 w' ⟨some ⟨bk, okk, none⟩, sc⟩ L ⟨sf, sg, ⟨some ⟨g, 0, none⟩, uc⟩, sq⟩ y wb (rb + 1) ev A c) := fun wz h => by
          have := ronto_any sf y.field R kf wz h.wo_.2.2.1 hRl hgr
          rw [hov] at this
          exact this.mono fun _ _ ⟨h1, h2⟩ => ⟨h1, h.below h2⟩
        have hon : ∀ wz, (MvR w8 wz ⟨some ⟨bk, okk, none⟩, sc⟩ L ⟨sf, sg, ⟨some ⟨g, 0, none⟩, uc⟩, sq⟩ y wb (rb + 1) ev A c) → Calls Tryz.prog 13 #[.agg #[.int .i64 y.turn, .int .i64 y.next, .int .i64 y.field.wide, .int .i64 y.field.high, .slice sf.ground.A y.field.ground.length sf.ground.c, .slice sf.ore.A y.field.ore.length sf.ore.c, .slice sg.A y.gold.length sg.c, .slice (some ⟨g, 0, none⟩) y.units.length uc, .slice sq.A y.queue.length sq.c], .int .i64 (R : Int)] wz fun e w' => e = .returned (.int .i64 oi) ∧ (MvR w8 w' ⟨some ⟨bk, okk, none⟩, sc⟩ L ⟨sf, sg, ⟨some ⟨g, 0, none⟩, uc⟩, sq⟩ y wb (rb + 1) ev A c) := fun wz h => by
          have := ron_any ⟨sf, sg, ⟨some ⟨g, 0, none⟩, uc⟩, sq⟩ y (R : Int) wz h.wo_
          rw [hoi] at this
          exact this.mono fun _ _ ⟨h1, h2⟩ => ⟨h1, h.below h2⟩
        have hS : ∀ wz, (MvR w8 wz ⟨some ⟨bk, okk, none⟩, sc⟩ L ⟨sf, sg, ⟨some ⟨g, 0, none⟩, uc⟩, sq⟩ y wb (rb + 1) ev A c) → (fun wz : World => wz.cell? ⟨g, k * 8 + 2, none⟩ = some (.int .i64 (kv : Int)) ∧ wz.cell? ⟨g, k * 8 + 3, none⟩ = some (.int .i64 (a : Int)) ∧ wz.cell? ⟨bk, okk + kv * 11 + 9, none⟩ = some (.bool kf) ∧ wz.cell? ⟨wb, 0, none⟩ = some (.int .i64 y.turn) ∧ wz.cell? ⟨wb, 1, none⟩ = some (.int .i64 y.next) ∧ wz.cell? ⟨wb, 2, none⟩ = some (.int .i64 y.field.wide) ∧ wz.cell? ⟨wb, 3, none⟩ = some (.int .i64 y.field.high) ∧ wz.cell? ⟨wb, 4, none⟩ = some (.slice sf.ground.A y.field.ground.length sf.ground.c) ∧ wz.cell? ⟨wb, 5, none⟩ = some (.slice sf.ore.A y.field.ore.length sf.ore.c) ∧ wz.cell? ⟨wb, 6, none⟩ = some (.slice sg.A y.gold.length sg.c) ∧ wz.cell? ⟨wb, 7, none⟩ = some (.slice (some ⟨g, 0, none⟩) y.units.length uc) ∧ wz.cell? ⟨wb, 8, none⟩ = some (.slice sq.A y.queue.length sq.c)) wz := fun wz h => by
          obtain ⟨m0, m1, m2, m3, m4, m5, m6, m7, m8, mll⟩ := h.cells
          obtain ⟨p0, p1, p2, p3, p4, p5, p6, p7⟩ := h.ucells rfl hky
          have k9 := h.flies kv hkvl
          rw [hkf] at k9; rw [hkv] at p2; rw [hsa] at p3
          exact ⟨p2, p3, k9, m0, m1, m2, m3, m4, m5, m6, m7, m8⟩
        replace hstp := Lib.hid hstp
        replace hwi := Lib.hid hwi
        replace hot := Lib.hid hot
        replace hon := Lib.hid hon
        replace hS := Lib.hid hS
        replace hR := Lib.hid hR
        replace hov := Lib.hid hov
        replace hoi := Lib.hid hoi
        replace hkf := Lib.hid hkf
        replace hkv := Lib.hid hkv
        replace hsa := Lib.hid hsa
        replace hok := Lib.hid hok
        obtain ⟨m0, m1, m2, m3, m4, m5, m6, m7, m8, mll⟩ := hM.out.cells
        dsimp only at m0 m1 m2 m3 m4 m5 m6 m7 m8
        obtain ⟨p0, p1, p2, p3, p4, p5, p6, p7⟩ := hM.out.ucells rfl hky
        rw [hkv.out] at p2
        go_upto_region 10 with (go_at_call 19; refine hwi.out.mono ?_; rintro e W2 ⟨rfl, hb2⟩)
        have hM2 := (hM.out.below hb2).drewN 1
        clear hwi hM hb2 p0 p1 p2 p3 p4 p5 p6 p7 m0 m1 m2 m3 m4 m5 m6 m7 m8 mll
        have hMd : Hid (MvR w8 W2.drew ⟨some ⟨bk, okk, none⟩, sc⟩ L ⟨sf, sg, ⟨some ⟨g, 0, none⟩, uc⟩, sq⟩ y wb (rb + 1) ev A c) := Lib.hid hM2
        clear hM2
        have hS0 := hS.out _ hMd.out
        refine wp_region_noPanic ?_
        refine wp_region_held_drew (S := (fun wz : World => wz.cell? ⟨g, k * 8 + 2, none⟩ = some (.int .i64 (kv : Int)) ∧ wz.cell? ⟨g, k * 8 + 3, none⟩ = some (.int .i64 (a : Int)) ∧ wz.cell? ⟨bk, okk + kv * 11 + 9, none⟩ = some (.bool kf) ∧ wz.cell? ⟨wb, 0, none⟩ = some (.int .i64 y.turn) ∧ wz.cell? ⟨wb, 1, none⟩ = some (.int .i64 y.next) ∧ wz.cell? ⟨wb, 2, none⟩ = some (.int .i64 y.field.wide) ∧ wz.cell? ⟨wb, 3, none⟩ = some (.int .i64 y.field.high) ∧ wz.cell? ⟨wb, 4, none⟩ = some (.slice sf.ground.A y.field.ground.length sf.ground.c) ∧ wz.cell? ⟨wb, 5, none⟩ = some (.slice sf.ore.A y.field.ore.length sf.ore.c) ∧ wz.cell? ⟨wb, 6, none⟩ = some (.slice sg.A y.gold.length sg.c) ∧ wz.cell? ⟨wb, 7, none⟩ = some (.slice (some ⟨g, 0, none⟩) y.units.length uc) ∧ wz.cell? ⟨wb, 8, none⟩ = some (.slice sq.A y.queue.length sq.c))) (by kernel_rfl) hS0 (fun hHeld => ?_)
        clear hS0
        generalize W2.drew = Wd at *
        refine wpAnyH_take (i := 0) (oi := _) (v := ?_) rfl (by kernel_rfl) (by kernel_rfl) (by kernel_rfl) (fun _ _ _ h => h) (Or.inl ⟨by rfl, ?_⟩) (by assumption) ?_
        rotate_left
        · intro w' hSw
          try dsimp only at hSw
          first | (go_simp; done) | (go_simp; with_reducible rfl)
        try simp only [Act.put]
        try simp only [List.setIfInBounds_toArray]
        try simp only [List.set_cons_succ, List.set_cons_zero]
        try simp only [List.getElem_toArray]
        try simp only [List.getElem_cons_succ]
        try simp only [List.getElem_cons_zero]
        refine wpAnyH_take (i := 1) (oi := _) (v := ?_) rfl (by kernel_rfl) (by kernel_rfl) (by kernel_rfl) (fun _ _ _ h => h) (Or.inl ⟨by rfl, ?_⟩) (by assumption) ?_
        rotate_left
        · intro w' hSw
          try dsimp only at hSw
          first | (go_simp; done) | (go_simp; with_reducible rfl)
        try simp only [Act.put]
        try simp only [List.setIfInBounds_toArray]
        try simp only [List.set_cons_succ, List.set_cons_zero]
        try simp only [List.getElem_toArray]
        try simp only [List.getElem_cons_succ]
        try simp only [List.getElem_cons_zero]
        refine wpAnyH_take (i := 2) (oi := _) (v := ?_) rfl (by kernel_rfl) (by kernel_rfl) (by kernel_rfl) (fun _ _ _ h => h) (Or.inl ⟨by rfl, ?_⟩) (by assumption) ?_
        rotate_left
        · intro w' hSw
          try dsimp only at hSw
          first | (go_simp; done) | (go_simp; with_reducible rfl)
        try simp only [Act.put]
        try simp only [List.setIfInBounds_toArray]
        try simp only [List.set_cons_succ, List.set_cons_zero]
        try simp only [List.getElem_toArray]
        try simp only [List.getElem_cons_succ]
        try simp only [List.getElem_cons_zero]
        refine wpAnyH_take (i := 3) (oi := _) (v := ?_) rfl (by kernel_rfl) (by kernel_rfl) (by kernel_rfl) (fun _ _ _ h => h) (Or.inl ⟨by rfl, ?_⟩) (by assumption) ?_
        rotate_left
        · intro w' hSw
          try dsimp only at hSw
          first | (go_simp; done) | (go_simp; with_reducible rfl)
        try simp only [Act.put]
        try simp only [List.setIfInBounds_toArray]
        try simp only [List.set_cons_succ, List.set_cons_zero]
        try simp only [List.getElem_toArray]
        try simp only [List.getElem_cons_succ]
        try simp only [List.getElem_cons_zero]
        refine wpAnyH_take (i := 4) (oi := _) (v := ?_) rfl (by kernel_rfl) (by kernel_rfl) (by kernel_rfl) (fun _ _ _ h => h) (Or.inl ⟨by rfl, ?_⟩) (by assumption) ?_
        rotate_left
        · intro w' hSw
          try dsimp only at hSw
          first | (go_simp; done) | (go_simp; with_reducible rfl)
        try simp only [Act.put]
        try simp only [List.setIfInBounds_toArray]
        try simp only [List.set_cons_succ, List.set_cons_zero]
        try simp only [List.getElem_toArray]
        try simp only [List.getElem_cons_succ]
        try simp only [List.getElem_cons_zero]
        refine wpAnyH_take (i := 5) (oi := _) (v := ?_) rfl (by kernel_rfl) (by kernel_rfl) (by kernel_rfl) (fun _ _ _ h => h) (Or.inl ⟨by rfl, ?_⟩) (by assumption) ?_
        rotate_left
        · intro w' hSw
          try dsimp only at hSw
          first | (go_simp; done) | (go_simp; with_reducible rfl)
        try simp only [Act.put]
        try simp only [List.setIfInBounds_toArray]
        try simp only [List.set_cons_succ, List.set_cons_zero]
        try simp only [List.getElem_toArray]
        try simp only [List.getElem_cons_succ]
        try simp only [List.getElem_cons_zero]
        refine wpAnyH_take (i := 6) (oi := _) (v := ?_) rfl (by kernel_rfl) (by kernel_rfl) (by kernel_rfl) (fun _ _ _ h => h) (Or.inl ⟨by rfl, ?_⟩) (by assumption) ?_
        rotate_left
        · intro w' hSw
          try dsimp only at hSw
          first | (go_simp; done) | (go_simp; with_reducible rfl)
        try simp only [Act.put]
        try simp only [List.setIfInBounds_toArray]
        try simp only [List.set_cons_succ, List.set_cons_zero]
        try simp only [List.getElem_toArray]
        try simp only [List.getElem_cons_succ]
        try simp only [List.getElem_cons_zero]
        refine wpAnyH_take (i := 7) (oi := _) (v := ?_) rfl (by kernel_rfl) (by kernel_rfl) (by kernel_rfl) (fun _ _ _ h => h) (Or.inl ⟨by rfl, ?_⟩) (by assumption) ?_
        rotate_left
        · intro w' hSw
          try dsimp only at hSw
          first | (go_simp; done) | (go_simp; with_reducible rfl)
        try simp only [Act.put]
        try simp only [List.setIfInBounds_toArray]
        try simp only [List.set_cons_succ, List.set_cons_zero]
        try simp only [List.getElem_toArray]
        try simp only [List.getElem_cons_succ]
        try simp only [List.getElem_cons_zero]
        refine wpAnyH_take (i := 8) (oi := _) (v := ?_) rfl (by kernel_rfl) (by kernel_rfl) (by kernel_rfl) (fun _ _ _ h => h) (Or.inl ⟨by rfl, ?_⟩) (by assumption) ?_
        rotate_left
        · intro w' hSw
          try dsimp only at hSw
          first | (go_simp; done) | (go_simp; with_reducible rfl)
        try simp only [Act.put]
        try simp only [List.setIfInBounds_toArray]
        try simp only [List.set_cons_succ, List.set_cons_zero]
        try simp only [List.getElem_toArray]
        try simp only [List.getElem_cons_succ]
        try simp only [List.getElem_cons_zero]
        refine wpAnyH_take (i := 9) (oi := _) (v := ?_) rfl (by kernel_rfl) (by kernel_rfl) (by kernel_rfl) (fun _ _ _ h => h) (Or.inl ⟨by rfl, ?_⟩) (by assumption) ?_
        rotate_left
        · intro w' hSw
          try dsimp only at hSw
          first | (go_simp; done) | (go_simp; with_reducible rfl)
        try simp only [Act.put]
        try simp only [List.setIfInBounds_toArray]
        try simp only [List.set_cons_succ, List.set_cons_zero]
        try simp only [List.getElem_toArray]
        try simp only [List.getElem_cons_succ]
        try simp only [List.getElem_cons_zero]
        refine wpAnyH_take (i := 10) (oi := _) (v := ?_) rfl (by kernel_rfl) (by kernel_rfl) (by kernel_rfl) (fun _ _ _ h => h) (Or.inl ⟨by rfl, ?_⟩) (by assumption) ?_
        rotate_left
        · intro w' hSw
          try dsimp only at hSw
          first | (go_simp; done) | (go_simp; with_reducible rfl)
        try simp only [Act.put]
        try simp only [List.setIfInBounds_toArray]
        try simp only [List.set_cons_succ, List.set_cons_zero]
        try simp only [List.getElem_toArray]
        try simp only [List.getElem_cons_succ]
        try simp only [List.getElem_cons_zero]
        refine wpAnyH_take (i := 11) (oi := _) (v := ?_) rfl (by kernel_rfl) (by kernel_rfl) (by kernel_rfl) (fun _ _ _ h => h) (Or.inl ⟨by rfl, ?_⟩) (by assumption) ?_
        rotate_left
        · intro w' hSw
          try dsimp only at hSw
          first | (go_simp; done) | (go_simp; with_reducible rfl)
        try simp only [Act.put]
        try simp only [List.setIfInBounds_toArray]
        try simp only [List.set_cons_succ, List.set_cons_zero]
        try simp only [List.getElem_toArray]
        try simp only [List.getElem_cons_succ]
        try simp only [List.getElem_cons_zero]
        refine wpAnyH_take (i := 12) (oi := _) (v := ?_) rfl (by kernel_rfl) (by kernel_rfl) (by kernel_rfl) (fun _ _ _ h => h) (Or.inl ⟨by rfl, ?_⟩) (by assumption) ?_
        rotate_left
        · intro w' hSw
          try dsimp only at hSw
          first | (go_simp; done) | (go_simp; with_reducible rfl)
        try simp only [Act.put]
        try simp only [List.setIfInBounds_toArray]
        try simp only [List.set_cons_succ, List.set_cons_zero]
        try simp only [List.getElem_toArray]
        try simp only [List.getElem_cons_succ]
        try simp only [List.getElem_cons_zero]
        refine wpAnyH_ready (rs := [13]) (by kernel_rfl) (by simp) ?_
        refine AllReadyH.cons (o := { dst := some 50, op := .call { callee := .value (.func 12), args := #[.tmp 38, .tmp 39, .tmp 49], argTypes := #[25, 3, 4] }, type := _, pos := _, after := _, guard := none }) rfl (fun K hK => ?_) AllReadyH.nil
        go_simp
        refine (hot.out _ hMd.out).mono ?_
        rintro e w6 ⟨rfl, hM6⟩
        clear hHeld
        refine hK.out _ _ (hS.out _ hM6) (fun hHeld => ?_)
        clear hK K
        clear hMd
        have hMd := Lib.hid hM6
        clear hM6
        try simp only [Act.put]
        try simp only [List.setIfInBounds_toArray]
        try simp only [List.set_cons_succ, List.set_cons_zero]
        try simp only [List.getElem_toArray]
        try simp only [List.getElem_cons_succ]
        try simp only [List.getElem_cons_zero]
        refine wpAnyH_take (i := 14) (oi := _) (v := ?_) rfl (by kernel_rfl) (by kernel_rfl) (by kernel_rfl) (fun _ _ _ h => h) (Or.inl ⟨by rfl, ?_⟩) (by assumption) ?_
        rotate_left
        · intro w' hSw
          try dsimp only at hSw
          first | (go_simp; done) | (go_simp; with_reducible rfl)
        try simp only [Act.put]
        try simp only [List.setIfInBounds_toArray]
        try simp only [List.set_cons_succ, List.set_cons_zero]
        try simp only [List.getElem_toArray]
        try simp only [List.getElem_cons_succ]
        try simp only [List.getElem_cons_zero]
        refine wpAnyH_done (by kernel_rfl) ?_ _
        refine NoPanic.normal ?_
        clear hHeld hot
        try dsimp only [List.set]
        have hon6 := hon.out _ hMd.out
        replace hon6 := Lib.hid hon6
        obtain ⟨m0, m1, m2, m3, m4, m5, m6, m7, m8, mll⟩ := hMd.out.cells
        dsimp only at m0 m1 m2 m3 m4 m5 m6 m7 m8
        go_upto_region 12 with (go_at_call 13; refine hon6.out.mono ?_; rintro e W7 ⟨rfl, hM7⟩)
        clear hon6 hon hMd m0 m1 m2 m3 m4 m5 m6 m7 m8 mll
        have hMd := Lib.hid hM7
        clear hM7
        obtain ⟨m0, m1, m2, m3, m4, m5, m6, m7, m8, mll⟩ := hMd.out.cells
        dsimp only at m0 m1 m2 m3 m4 m5 m6 m7 m8
        obtain ⟨p0, p1, p2, p3, p4, p5, p6, p7⟩ := hMd.out.ucells rfl hky
        rw [hsa.out] at p3
        by_cases c1 : R = a
        · as_aux_lemma =>
          have d1 : ((R : Int) != (a : Int)) = false := by simp [c1]
          have hst : Hid (false = false → StopU L y k lf) := Lib.hid (fun _ => hstp.out.2 (.inl (by rw [c1])))
          replace c1 := Lib.hid c1
          clear hS
          go_wp2_with fail
          go_roundw
          case rel => exact ⟨y, ev, A, c, lf, m, false, rfl, rfl, rfl, hg, hst, hMd⟩
          case measure => simp [intOf, b01]
        have d1 : ((R : Int) != (a : Int)) = true := by simp; omega
        replace c1 := Lib.hid c1
        by_cases c2 : 0 ≤ oi
        · as_aux_lemma =>
          have d2 : decide (oi < 0) = false := by rw [decide_eq_false_iff_not]; omega
          have hst : Hid (false = false → StopU L y k lf) := Lib.hid (fun _ => hstp.out.2 (.inr (.inl c2)))
          replace c2 := Lib.hid c2
          clear hS
          go_wp2_with fail
          go_roundw
          case rel => exact ⟨y, ev, A, c, lf, m, false, rfl, rfl, rfl, hg, hst, hMd⟩
          case measure => simp [intOf, b01]
        have d2 : decide (oi < 0) = true := by rw [decide_eq_true_iff]; omega
        by_cases c3 : lf < ov
        · as_aux_lemma =>
          have d3 : decide (ov ≤ lf) = false := by rw [decide_eq_false_iff_not]; omega
          have hst : Hid (false = false → StopU L y k lf) := Lib.hid (fun _ => hstp.out.2 (.inr (.inr c3)))
          replace c2 := Lib.hid c2
          replace c3 := Lib.hid c3
          clear hS
          go_wp2_with fail
          go_roundw
          case rel => exact ⟨y, ev, A, c, lf, m, false, rfl, rfl, rfl, hg, hst, hMd⟩
          case measure => simp [intOf, b01]
        as_aux_lemma =>
        have d3 : decide (ov ≤ lf) = true := by rw [decide_eq_true_iff]; omega
        have hgo : ¬ StopU L y k lf := fun h => by rcases hstp.out.1 h with h | h | h; exact c1.out (by omega); exact c2 h; exact c3 h
        obtain ⟨m', hm', hg2⟩ := hg.out.go hx.out hkx hgo
        rw [hR.out, hkv.out, Int.toNat_natCast, hkf.out, hov.out] at hg2
        have hle : ov ≤ lf ∧ 1 ≤ ov := by
          have h1 := hg.out.kp.ok.wm
          have h2 := wish_in h1 hky
          rw [hR.out, hkv.out, Int.toNat_natCast, hkf.out, hov.out, hsa.out, Int.toNat_natCast] at h2
          have h4 := (h2.2 (fun e => c1.out e)).2
          omega
        obtain ⟨id, hid⟩ : ∃ id, (gu y.units k).id = id := ⟨_, rfl⟩
        rw [hid] at hg2
        replace c2 := Lib.hid c2
        replace c3 := Lib.hid c3
        replace hgo := Lib.hid hgo
        replace hg2 := Lib.hid hg2
        replace hid := Lib.hid hid
        clear hm' hstp hS
        have f3 : W7.frozen? ⟨g, k * 8 + 3, none⟩ = false := hMd.out.ufree rfl _
        obtain ⟨_, hgw⟩ := (hMd.out.rowg rfl).lt g rfl
        go_upto_region 16 with fail
        have hMn := hMd.out.spotU rfl hky R (by omega)
        clear hMd f3 hgw p0 p1 p2 p3 p4 p5 p6 p7 m0 m1 m2 m3 m4 m5 m6 m7 m8 mll
        generalize W7.setCell ⟨g, k * 8 + 3, none⟩ (.int .i64 (R : Int)) = W8 at *
        have hkz : k < (setU y k { gu y.units k with spot := (R : Int) }).units.length := by rw [setU_len]; exact hky
        obtain ⟨p0, _⟩ := hMn.ucells rfl hkz
        rw [gu_setU hky, if_pos rfl] at p0
        rw [show ({ gu y.units k with spot := (R : Int) } : GU).id = id from hid.out] at p0
        obtain ⟨_, _, _, _, _, _, _, m7, _, mll⟩ := hMn.cells
        dsimp only at m7
        rw [setU_len] at m7
        have hoe := hMn.ev_
        have hsz := hMn.sz
        replace hoe := Lib.hid hoe
        replace hsz := Lib.hid hsz
        replace hMn := Lib.hid hMn
        obtain ⟨i0, hi0, hz0, hz1, hz2⟩ := info_parts eventV_inf
        replace hi0 := Lib.hid hi0
        replace hz0 := Lib.hid hz0
        replace hz1 := Lib.hid hz1
        replace hz2 := Lib.hid hz2
        go_wp2_with (at_builtin; refine wpList_app1 rfl (.tmp 81) (.tmp 90) 48 rfl (rb + 1) 77 i0 _ 3 24 Tryz.underlying48 hi0.out hz0.out hz1.out hz2.out rfl (by decide) (by decide) W8 #[.int .i64 1, .int .i64 id, .int .i64 (R : Int)] (.slice A ev.length c) ev.length _ rfl hoe.out rfl rfl rfl (by omega) hsz.out ?_; intro v' w2 hown' hgrow)
        obtain ⟨A', c', rfl, _⟩ := own_slice hown'
        have hMe := hMn.out.more (e := ⟨1, id, (R : Int)⟩) hown' hgrow
        replace hMe := Lib.hid hMe
        clear hown' hgrow hMn hoe m7 mll p0
        go_wp2_with fail
        go_roundw
        case rel => exact ⟨_, ev ++ [⟨1, id, (R : Int)⟩], A', c', _, m', true, by rw [List.length_append, List.length_singleton], rfl, rfl, hg2, Lib.hid (fun h => by cases h), hMe⟩
        case measure => simp [intOf, b01]; omega
  case rest =>
  obtain ⟨w9, rfl, A, c, rfl, hM9⟩ := hcut
  replace hM9 := hM9.out
  have hkw9 := hM9.kw
  have hkr9 := hkr8.out.below hM9.b (Nat.lt_succ_self rb)
  have hbe : Below w.heap.size w w9 := hbe8.out.trans (hM9.b.mono (by have := hwsz.out; omega))
  have hO9 := hM9.wo
  have hE9 := hM9.ev_
  have hI9 := hM9.int
  clear hkr8 hbe8 hM9 hM
  have q0 : w9.cell? ⟨wb, 0, none⟩ = some (.int .i64 yF.turn) := hkw9.cell 0
  have r0 : w9.cell? ⟨rb, 0, none⟩ = some (.int .i64 0) := hkr9.cell 0
  have j0 := hkr9.frozen 0
  have q1 : w9.cell? ⟨wb, 1, none⟩ = some (.int .i64 yF.next) := hkw9.cell 1
  have r1 : w9.cell? ⟨rb, 1, none⟩ = some (.int .i64 0) := hkr9.cell 1
  have j1 := hkr9.frozen 1
  have q2 : w9.cell? ⟨wb, 2, none⟩ = some (.int .i64 yF.field.wide) := hkw9.cell 2
  have r2 : w9.cell? ⟨rb, 2, none⟩ = some (.int .i64 0) := hkr9.cell 2
  have j2 := hkr9.frozen 2
  have q3 : w9.cell? ⟨wb, 3, none⟩ = some (.int .i64 yF.field.high) := hkw9.cell 3
  have r3 : w9.cell? ⟨rb, 3, none⟩ = some (.int .i64 0) := hkr9.cell 3
  have j3 := hkr9.frozen 3
  have q4 : w9.cell? ⟨wb, 4, none⟩ = some (.slice s1.field.ground.A yF.field.ground.length s1.field.ground.c) := hkw9.cell 4
  have r4 : w9.cell? ⟨rb, 4, none⟩ = some (.slice none 0 0) := hkr9.cell 4
  have j4 := hkr9.frozen 4
  have q5 : w9.cell? ⟨wb, 5, none⟩ = some (.slice s1.field.ore.A yF.field.ore.length s1.field.ore.c) := hkw9.cell 5
  have r5 : w9.cell? ⟨rb, 5, none⟩ = some (.slice none 0 0) := hkr9.cell 5
  have j5 := hkr9.frozen 5
  have q6 : w9.cell? ⟨wb, 6, none⟩ = some (.slice s1.gold.A yF.gold.length s1.gold.c) := hkw9.cell 6
  have r6 : w9.cell? ⟨rb, 6, none⟩ = some (.slice none 0 0) := hkr9.cell 6
  have j6 := hkr9.frozen 6
  have q7 : w9.cell? ⟨wb, 7, none⟩ = some (.slice s1.units.A yF.units.length s1.units.c) := hkw9.cell 7
  have r7 : w9.cell? ⟨rb, 7, none⟩ = some (.slice none 0 0) := hkr9.cell 7
  have j7 := hkr9.frozen 7
  have q8 : w9.cell? ⟨wb, 8, none⟩ = some (.slice s1.queue.A yF.queue.length s1.queue.c) := hkw9.cell 8
  have r8 : w9.cell? ⟨rb, 8, none⟩ = some (.slice none 0 0) := hkr9.cell 8
  have j8 := hkr9.frozen 8
  have qll := hkw9.lt
  have rll := hkr9.lt
  have nwr : wb ≠ rb := fun e => hnrw.out e.symm
  have hwbr : w.heap.size ≤ rb := by have := hwr1.out; have := hwb.out; omega
  have hzB : Blk (((((((((w9.setCell ⟨rb, 0, none⟩ (.int .i64 yF.turn)).setCell ⟨rb, 1, none⟩ (.int .i64 yF.next)).setCell ⟨rb, 2, none⟩ (.int .i64 yF.field.wide)).setCell ⟨rb, 3, none⟩ (.int .i64 yF.field.high)).setCell ⟨rb, 4, none⟩ (.slice s1.field.ground.A yF.field.ground.length s1.field.ground.c)).setCell ⟨rb, 5, none⟩ (.slice s1.field.ore.A yF.field.ore.length s1.field.ore.c)).setCell ⟨rb, 6, none⟩ (.slice s1.gold.A yF.gold.length s1.gold.c)).setCell ⟨rb, 7, none⟩ (.slice s1.units.A yF.units.length s1.units.c)).setCell ⟨rb, 8, none⟩ (.slice s1.queue.A yF.queue.length s1.queue.c)) rb 29 #[.int .i64 yF.turn, .int .i64 yF.next, .int .i64 yF.field.wide, .int .i64 yF.field.high, .slice s1.field.ground.A yF.field.ground.length s1.field.ground.c, .slice s1.field.ore.A yF.field.ore.length s1.field.ore.c, .slice s1.gold.A yF.gold.length s1.gold.c, .slice s1.units.A yF.units.length s1.units.c, .slice s1.queue.A yF.queue.length s1.queue.c] := by
    have h := (((((((((hkr9.set_ 0 (.int .i64 yF.turn)).set_ 1 (.int .i64 yF.next)).set_ 2 (.int .i64 yF.field.wide)).set_ 3 (.int .i64 yF.field.high)).set_ 4 (.slice s1.field.ground.A yF.field.ground.length s1.field.ground.c)).set_ 5 (.slice s1.field.ore.A yF.field.ore.length s1.field.ore.c)).set_ 6 (.slice s1.gold.A yF.gold.length s1.gold.c)).set_ 7 (.slice s1.units.A yF.units.length s1.units.c)).set_ 8 (.slice s1.queue.A yF.queue.length s1.queue.c))
    simp only [List.setIfInBounds_toArray, List.set_cons_zero, List.set_cons_succ] at h
    exact h
  have hbB : Below w.heap.size w (((((((((w9.setCell ⟨rb, 0, none⟩ (.int .i64 yF.turn)).setCell ⟨rb, 1, none⟩ (.int .i64 yF.next)).setCell ⟨rb, 2, none⟩ (.int .i64 yF.field.wide)).setCell ⟨rb, 3, none⟩ (.int .i64 yF.field.high)).setCell ⟨rb, 4, none⟩ (.slice s1.field.ground.A yF.field.ground.length s1.field.ground.c)).setCell ⟨rb, 5, none⟩ (.slice s1.field.ore.A yF.field.ore.length s1.field.ore.c)).setCell ⟨rb, 6, none⟩ (.slice s1.gold.A yF.gold.length s1.gold.c)).setCell ⟨rb, 7, none⟩ (.slice s1.units.A yF.units.length s1.units.c)).setCell ⟨rb, 8, none⟩ (.slice s1.queue.A yF.queue.length s1.queue.c)) := (((((((((hbe.setCell (p := ⟨rb, 0, none⟩) hwbr (.int .i64 yF.turn)).setCell (p := ⟨rb, 1, none⟩) hwbr (.int .i64 yF.next)).setCell (p := ⟨rb, 2, none⟩) hwbr (.int .i64 yF.field.wide)).setCell (p := ⟨rb, 3, none⟩) hwbr (.int .i64 yF.field.high)).setCell (p := ⟨rb, 4, none⟩) hwbr (.slice s1.field.ground.A yF.field.ground.length s1.field.ground.c)).setCell (p := ⟨rb, 5, none⟩) hwbr (.slice s1.field.ore.A yF.field.ore.length s1.field.ore.c)).setCell (p := ⟨rb, 6, none⟩) hwbr (.slice s1.gold.A yF.gold.length s1.gold.c)).setCell (p := ⟨rb, 7, none⟩) hwbr (.slice s1.units.A yF.units.length s1.units.c)).setCell (p := ⟨rb, 8, none⟩) hwbr (.slice s1.queue.A yF.queue.length s1.queue.c))
  have hOB : WOwn (((((((((w9.setCell ⟨rb, 0, none⟩ (.int .i64 yF.turn)).setCell ⟨rb, 1, none⟩ (.int .i64 yF.next)).setCell ⟨rb, 2, none⟩ (.int .i64 yF.field.wide)).setCell ⟨rb, 3, none⟩ (.int .i64 yF.field.high)).setCell ⟨rb, 4, none⟩ (.slice s1.field.ground.A yF.field.ground.length s1.field.ground.c)).setCell ⟨rb, 5, none⟩ (.slice s1.field.ore.A yF.field.ore.length s1.field.ore.c)).setCell ⟨rb, 6, none⟩ (.slice s1.gold.A yF.gold.length s1.gold.c)).setCell ⟨rb, 7, none⟩ (.slice s1.units.A yF.units.length s1.units.c)).setCell ⟨rb, 8, none⟩ (.slice s1.queue.A yF.queue.length s1.queue.c)) (rb + 1) s1 yF := (WOwn.farW (b := rb) (i := 8) (u := .slice s1.queue.A yF.queue.length s1.queue.c) (WOwn.farW (b := rb) (i := 7) (u := .slice s1.units.A yF.units.length s1.units.c) (WOwn.farW (b := rb) (i := 6) (u := .slice s1.gold.A yF.gold.length s1.gold.c) (WOwn.farW (b := rb) (i := 5) (u := .slice s1.field.ore.A yF.field.ore.length s1.field.ore.c) (WOwn.farW (b := rb) (i := 4) (u := .slice s1.field.ground.A yF.field.ground.length s1.field.ground.c) (WOwn.farW (b := rb) (i := 3) (u := .int .i64 yF.field.high) (WOwn.farW (b := rb) (i := 2) (u := .int .i64 yF.field.wide) (WOwn.farW (b := rb) (i := 1) (u := .int .i64 yF.next) (WOwn.farW (b := rb) (i := 0) (u := .int .i64 yF.turn) hO9 (Nat.lt_succ_self _)) (Nat.lt_succ_self _)) (Nat.lt_succ_self _)) (Nat.lt_succ_self _)) (Nat.lt_succ_self _)) (Nat.lt_succ_self _)) (Nat.lt_succ_self _)) (Nat.lt_succ_self _)) (Nat.lt_succ_self _))
  have hEB : World.ownsRow (((((((((w9.setCell ⟨rb, 0, none⟩ (.int .i64 yF.turn)).setCell ⟨rb, 1, none⟩ (.int .i64 yF.next)).setCell ⟨rb, 2, none⟩ (.int .i64 yF.field.wide)).setCell ⟨rb, 3, none⟩ (.int .i64 yF.field.high)).setCell ⟨rb, 4, none⟩ (.slice s1.field.ground.A yF.field.ground.length s1.field.ground.c)).setCell ⟨rb, 5, none⟩ (.slice s1.field.ore.A yF.field.ore.length s1.field.ore.c)).setCell ⟨rb, 6, none⟩ (.slice s1.gold.A yF.gold.length s1.gold.c)).setCell ⟨rb, 7, none⟩ (.slice s1.units.A yF.units.length s1.units.c)).setCell ⟨rb, 8, none⟩ (.slice s1.queue.A yF.queue.length s1.queue.c)) (rb + 1) 77 3 (.slice A evF.length c) evF.length (evF.flatMap eC) := (own_farW (b := rb) (i := 8) (u := .slice s1.queue.A yF.queue.length s1.queue.c) (own_farW (b := rb) (i := 7) (u := .slice s1.units.A yF.units.length s1.units.c) (own_farW (b := rb) (i := 6) (u := .slice s1.gold.A yF.gold.length s1.gold.c) (own_farW (b := rb) (i := 5) (u := .slice s1.field.ore.A yF.field.ore.length s1.field.ore.c) (own_farW (b := rb) (i := 4) (u := .slice s1.field.ground.A yF.field.ground.length s1.field.ground.c) (own_farW (b := rb) (i := 3) (u := .int .i64 yF.field.high) (own_farW (b := rb) (i := 2) (u := .int .i64 yF.field.wide) (own_farW (b := rb) (i := 1) (u := .int .i64 yF.next) (own_farW (b := rb) (i := 0) (u := .int .i64 yF.turn) hE9 (Nat.lt_succ_self _)) (Nat.lt_succ_self _)) (Nat.lt_succ_self _)) (Nat.lt_succ_self _)) (Nat.lt_succ_self _)) (Nat.lt_succ_self _)) (Nat.lt_succ_self _)) (Nat.lt_succ_self _)) (Nat.lt_succ_self _))
  replace hzB := Lib.hid hzB
  replace hbB := Lib.hid hbB
  replace hOB := Lib.hid hOB
  replace hEB := Lib.hid hEB
  replace hI9 := Lib.hid hI9
  clear hkw9 hkr9 hbe hO9 hE9
  go_wp2_with fail
  refine bodyPost_ret (results_ct rfl _ _ rb _ #[.int .i64 yF.turn, .int .i64 yF.next, .int .i64 yF.field.wide, .int .i64 yF.field.high, .slice s1.field.ground.A yF.field.ground.length s1.field.ground.c, .slice s1.field.ore.A yF.field.ore.length s1.field.ore.c, .slice s1.gold.A yF.gold.length s1.gold.c, .slice s1.units.A yF.units.length s1.units.c, .slice s1.queue.A yF.queue.length s1.queue.c] _ rfl hzB.out Tryz.underlying29 rfl (by kernel_rfl)) rfl ?_
  exact ⟨s1, A, c, rfl, hOB.out.base (by have := hwsz.out; omega), hI9.out, own_base hEB.out (by have := hwsz.out; omega), hbB.out⟩
end Go.Proofs.YtkgkpggfoieioaaGreatDoor
