import Derived.Test.YtkgkpggfoieioaaDoorDo
import Derived.Test.YtkgkpggfoieioaaDoorPlaceO
namespace Go.Proofs.YtkgkpggfoieioaaDoor
set_option linter.unusedVariables false
open Go.RowKit
/-! move.Move. -/
theorem results_ctt4 {P : Program} {fn : Func} {p u v : Tmp} {ty : TypeId} (h : fn.results = #[.cell p ty, .tmp u, .tmp v]) (tmps : Array Value) (w : World) (g : Nat) (t : TypeId) (cs : Array Value) (d : TypeDesc)
    (hp : tmps.getD p undef = .pointer (some ⟨g, 0, none⟩)) (hg : w.heap[g]? = some (.cells cs t (0, 0)))
    (hu : P.underlying ty = some d) (hd : (match d with | .struct _ | .array _ _ => true | _ => false) = true) (hi : (P.info? ty).map (·.size) = some cs.size) :
    (results fn tmps).run P w = .ok (.tuple #[.agg cs, tmps.getD u undef, tmps.getD v undef]) w := by
  have hp' : tmps[p]?.getD undef = .pointer (some ⟨g, 0, none⟩) := by simpa using hp
  simp [results, h, hp', asAddr, run_loadVar_row w g t ty cs (0, 0) d hg hu hd hi]
set_option maxHeartbeats 12800000 in
set_option maxRecDepth 100000 in
theorem move_ok (sK : SL) (L : List GK) (s : SW) (x : GW) (w : World) (hK : KS w w.heap.size sK L) (hW : WOk w s x) (hok : WorldOk L x) :
    Calls Tryd.prog 49 #[.slice sK.A L.length sK.c, .agg #[.int .i64 x.turn, .int .i64 x.next, .int .i64 x.field.wide, .int .i64 x.field.high, .slice s.field.ground.A x.field.ground.length s.field.ground.c, .slice s.field.ore.A x.field.ore.length s.field.ore.c, .slice s.gold.A x.gold.length s.gold.c, .slice s.units.A x.units.length s.units.c, .slice s.queue.A x.queue.length s.queue.c]] w fun e w' => ∃ s' A c, e = .returned (.tuple #[.agg #[.int .i64 (doL L x).1.turn, .int .i64 (doL L x).1.next, .int .i64 (doL L x).1.field.wide, .int .i64 (doL L x).1.field.high, .slice s'.field.ground.A (doL L x).1.field.ground.length s'.field.ground.c, .slice s'.field.ore.A (doL L x).1.field.ore.length s'.field.ore.c, .slice s'.gold.A (doL L x).1.gold.length s'.gold.c, .slice s'.units.A (doL L x).1.units.length s'.units.c, .slice s'.queue.A (doL L x).1.queue.length s'.queue.c], .slice A (doL L x).2.length c, .nilIface]) ∧ WOwn w' w.heap.size s' (doL L x).1 ∧ WInt (doL L x).1 ∧ w'.ownsRow w.heap.size 85 3 (.slice A (doL L x).2.length c) (doL L x).2.length ((doL L x).2.flatMap eC) ∧ Below w.heap.size w w' := by
  obtain ⟨sA, sc⟩ := sK
  dsimp only
  obtain ⟨y, ev, hy⟩ : ∃ y ev, doL L x = (y, ev) := ⟨_, _, rfl⟩
  rw [hy]
  dsimp only
  replace hy := Lib.hid hy
  have hX : CW w ((w.alloc (.cells #[.int .i64 x.turn, .int .i64 x.next, .int .i64 x.field.wide, .int .i64 x.field.high, .slice s.field.ground.A x.field.ground.length s.field.ground.c, .slice s.field.ore.A x.field.ore.length s.field.ore.c, .slice s.gold.A x.gold.length s.gold.c, .slice s.units.A x.units.length s.units.c, .slice s.queue.A x.queue.length s.queue.c] 55)).alloc (.cells #[.int .i64 0, .int .i64 0, .int .i64 0, .int .i64 0, .slice none 0 0, .slice none 0 0, .slice none 0 0, .slice none 0 0, .slice none 0 0] 55)) s x w.heap.size (w.heap.size + 1) #[.int .i64 x.turn, .int .i64 x.next, .int .i64 x.field.wide, .int .i64 x.field.high, .slice s.field.ground.A x.field.ground.length s.field.ground.c, .slice s.field.ore.A x.field.ore.length s.field.ore.c, .slice s.gold.A x.gold.length s.gold.c, .slice s.units.A x.units.length s.units.c, .slice s.queue.A x.queue.length s.queue.c] := by
    obtain ⟨hb1, hk1, hk2⟩ := two_boxes w 55 55 #[.int .i64 x.turn, .int .i64 x.next, .int .i64 x.field.wide, .int .i64 x.field.high, .slice s.field.ground.A x.field.ground.length s.field.ground.c, .slice s.field.ore.A x.field.ore.length s.field.ore.c, .slice s.gold.A x.gold.length s.gold.c, .slice s.units.A x.units.length s.units.c, .slice s.queue.A x.queue.length s.queue.c] #[.int .i64 0, .int .i64 0, .int .i64 0, .int .i64 0, .slice none 0 0, .slice none 0 0, .slice none 0 0, .slice none 0 0, .slice none 0 0]
    exact ⟨hb1, hk1, hk2, hW, Nat.le_refl _, by omega⟩
  have hul := hW.ulen
  have hh := headE_ok hok.head
  have hgd := (good_of x.field hok.field).len
  have hin := hW.int
  have hq := hok.few
  have hwe := worldE_ok hok
  have hun := hh.units
  replace hX := Lib.hid hX
  replace hK := Lib.hid hK
  replace hin := Lib.hid hin
  replace hgd := Lib.hid hgd
  replace hh := Lib.hid hh
  replace hok := Lib.hid hok
  clear hW
  go_enter Tryd.func49, Tryd.ntmps49
  go_upto_region 1 with fail
  generalize ((w.alloc (.cells #[.int .i64 x.turn, .int .i64 x.next, .int .i64 x.field.wide, .int .i64 x.field.high, .slice s.field.ground.A x.field.ground.length s.field.ground.c, .slice s.field.ore.A x.field.ore.length s.field.ore.c, .slice s.gold.A x.gold.length s.gold.c, .slice s.units.A x.units.length s.units.c, .slice s.queue.A x.queue.length s.queue.c] 55)).alloc (.cells #[.int .i64 0, .int .i64 0, .int .i64 0, .int .i64 0, .slice none 0 0, .slice none 0 0, .slice none 0 0, .slice none 0 0, .slice none 0 0] 55)) = W at *
  obtain ⟨wb, hwb⟩ : ∃ wb, w.heap.size = wb := ⟨_, rfl⟩
  obtain ⟨rb, hrb⟩ : ∃ rb, wb + 1 = rb := ⟨_, rfl⟩
  rw [hwb]
  try rw [hrb]
  replace hX : CW w W s x wb rb #[.int .i64 x.turn, .int .i64 x.next, .int .i64 x.field.wide, .int .i64 x.field.high, .slice s.field.ground.A x.field.ground.length s.field.ground.c, .slice s.field.ore.A x.field.ore.length s.field.ore.c, .slice s.gold.A x.gold.length s.gold.c, .slice s.units.A x.units.length s.units.c, .slice s.queue.A x.queue.length s.queue.c] := by rw [← hrb, ← hwb]; exact hX.out
  replace hX := Lib.hid hX
  replace hwb := Lib.hid hwb
  replace hrb := Lib.hid hrb
  obtain ⟨m0, m1, m2, m3, m4, m5, m6, m7, m8, mll, rll⟩ := hX.out.wcells
  have hwc : Calls Tryd.prog 28 #[.slice sA L.length sc, .agg #[.int .i64 x.turn, .int .i64 x.next, .int .i64 x.field.wide, .int .i64 x.field.high, .slice s.field.ground.A x.field.ground.length s.field.ground.c, .slice s.field.ore.A x.field.ore.length s.field.ore.c, .slice s.gold.A x.gold.length s.gold.c, .slice s.units.A x.units.length s.units.c, .slice s.queue.A x.queue.length s.queue.c]] W fun e w' => e = .returned (errV (worldE L x)) ∧ Below W.heap.size W w' := wcheck_any ⟨sA, sc⟩ L s x W ((hK.out.below hX.out.b).more hX.out.b.size) hX.out.wo_
  rw [hwe] at hwc
  replace hwc : Calls Tryd.prog 28 #[.slice sA L.length sc, .agg #[.int .i64 x.turn, .int .i64 x.next, .int .i64 x.field.wide, .int .i64 x.field.high, .slice s.field.ground.A x.field.ground.length s.field.ground.c, .slice s.field.ore.A x.field.ore.length s.field.ore.c, .slice s.gold.A x.gold.length s.gold.c, .slice s.units.A x.units.length s.units.c, .slice s.queue.A x.queue.length s.queue.c]] W fun e w' => e = .returned .nilIface ∧ Below W.heap.size W w' := hwc
  replace hwc := Lib.hid hwc
  clear hwe
  go_upto_region 4 with (go_at_call 28; refine hwc.out.mono ?_; clear m0 m1 m2 m3 m4 m5 m6 m7 m8 mll rll; rintro e w2 ⟨rfl, hb2⟩)
  clear hwc
  replace hX := Lib.hid (hX.out.below hb2)
  clear hb2
  obtain ⟨m0, m1, m2, m3, m4, m5, m6, m7, m8, mll, rll⟩ := hX.out.wcells
  have hnrw : rb ≠ wb := by have := hX.out.p2; omega
  have hwr1 : wb < rb + 1 := by have := hX.out.p2; omega
  have hszc : rb + 1 ≤ w2.heap.size := hX.out.kr.lt
  have hwsz : w.heap.size + 2 ≤ rb + 1 := by have := hwb.out; have := hrb.out; omega
  replace hnrw := Lib.hid hnrw
  replace hwr1 := Lib.hid hwr1
  replace hszc := Lib.hid hszc
  replace hwsz := Lib.hid hwsz
  have hcl : Calls Tryd.prog 77 #[.agg #[.int .i64 x.turn, .int .i64 x.next, .int .i64 x.field.wide, .int .i64 x.field.high, .slice s.field.ground.A x.field.ground.length s.field.ground.c, .slice s.field.ore.A x.field.ore.length s.field.ore.c, .slice s.gold.A x.gold.length s.gold.c, .slice s.units.A x.units.length s.units.c, .slice s.queue.A x.queue.length s.queue.c]] w2 fun e w' => ∃ s', e = .returned (.agg #[.int .i64 x.turn, .int .i64 x.next, .int .i64 x.field.wide, .int .i64 x.field.high, .slice s'.field.ground.A x.field.ground.length s'.field.ground.c, .slice s'.field.ore.A x.field.ore.length s'.field.ore.c, .slice s'.gold.A x.gold.length s'.gold.c, .slice s'.units.A x.units.length s'.units.c, .slice s'.queue.A x.queue.length s'.queue.c]) ∧ WOwn w' (w2.heap.size + 2) s' x ∧ Below w2.heap.size w2 w' := wclone_any s x w2 hX.out.wo_ (by have := hgd.out; omega) (by have := hgd.out; omega) (by have := hh.out.players; omega) (by omega) (by omega)
  replace hcl := Lib.hid hcl
  go_wp2_with fail
  refine hcl.out.mono ?_
  clear hcl m0 m1 m2 m3 m4 m5 m6 m7 m8 mll rll
  rintro e w7 ⟨s1, rfl, hO, hb7⟩
  replace hX := Lib.hid (hX.out.below hb7)
  clear hb7
  have hO1 : WOwn w7 (rb + 1) s1 x := hO.base (by have := hszc.out; omega)
  clear hO
  replace hO1 := Lib.hid hO1
  have k0 : w7.cell? ⟨wb, 0, none⟩ = some (.int .i64 x.turn) := hX.out.kw.cell 0
  have y0 := hX.out.kw.frozen 0
  have k1 : w7.cell? ⟨wb, 1, none⟩ = some (.int .i64 x.next) := hX.out.kw.cell 1
  have y1 := hX.out.kw.frozen 1
  have k2 : w7.cell? ⟨wb, 2, none⟩ = some (.int .i64 x.field.wide) := hX.out.kw.cell 2
  have y2 := hX.out.kw.frozen 2
  have k3 : w7.cell? ⟨wb, 3, none⟩ = some (.int .i64 x.field.high) := hX.out.kw.cell 3
  have y3 := hX.out.kw.frozen 3
  have k4 : w7.cell? ⟨wb, 4, none⟩ = some (.slice s.field.ground.A x.field.ground.length s.field.ground.c) := hX.out.kw.cell 4
  have y4 := hX.out.kw.frozen 4
  have k5 : w7.cell? ⟨wb, 5, none⟩ = some (.slice s.field.ore.A x.field.ore.length s.field.ore.c) := hX.out.kw.cell 5
  have y5 := hX.out.kw.frozen 5
  have k6 : w7.cell? ⟨wb, 6, none⟩ = some (.slice s.gold.A x.gold.length s.gold.c) := hX.out.kw.cell 6
  have y6 := hX.out.kw.frozen 6
  have k7 : w7.cell? ⟨wb, 7, none⟩ = some (.slice s.units.A x.units.length s.units.c) := hX.out.kw.cell 7
  have y7 := hX.out.kw.frozen 7
  have k8 : w7.cell? ⟨wb, 8, none⟩ = some (.slice s.queue.A x.queue.length s.queue.c) := hX.out.kw.cell 8
  have y8 := hX.out.kw.frozen 8
  have kll := hX.out.kw.lt
  go_upto_region 5 with fail
  have hrw : w.heap.size ≤ wb := hX.out.p1
  have hkw8 : Blk (((((((((w7.setCell ⟨wb, 0, none⟩ (.int .i64 x.turn)).setCell ⟨wb, 1, none⟩ (.int .i64 x.next)).setCell ⟨wb, 2, none⟩ (.int .i64 x.field.wide)).setCell ⟨wb, 3, none⟩ (.int .i64 x.field.high)).setCell ⟨wb, 4, none⟩ (.slice s1.field.ground.A x.field.ground.length s1.field.ground.c)).setCell ⟨wb, 5, none⟩ (.slice s1.field.ore.A x.field.ore.length s1.field.ore.c)).setCell ⟨wb, 6, none⟩ (.slice s1.gold.A x.gold.length s1.gold.c)).setCell ⟨wb, 7, none⟩ (.slice s1.units.A x.units.length s1.units.c)).setCell ⟨wb, 8, none⟩ (.slice s1.queue.A x.queue.length s1.queue.c)) wb 55 #[.int .i64 x.turn, .int .i64 x.next, .int .i64 x.field.wide, .int .i64 x.field.high, .slice s1.field.ground.A x.field.ground.length s1.field.ground.c, .slice s1.field.ore.A x.field.ore.length s1.field.ore.c, .slice s1.gold.A x.gold.length s1.gold.c, .slice s1.units.A x.units.length s1.units.c, .slice s1.queue.A x.queue.length s1.queue.c] := by
    have h := (((((((((hX.out.kw.set_ 0 (.int .i64 x.turn)).set_ 1 (.int .i64 x.next)).set_ 2 (.int .i64 x.field.wide)).set_ 3 (.int .i64 x.field.high)).set_ 4 (.slice s1.field.ground.A x.field.ground.length s1.field.ground.c)).set_ 5 (.slice s1.field.ore.A x.field.ore.length s1.field.ore.c)).set_ 6 (.slice s1.gold.A x.gold.length s1.gold.c)).set_ 7 (.slice s1.units.A x.units.length s1.units.c)).set_ 8 (.slice s1.queue.A x.queue.length s1.queue.c))
    simp only [List.setIfInBounds_toArray, List.set_cons_zero, List.set_cons_succ] at h
    exact h
  have hkr8 : Blk (((((((((w7.setCell ⟨wb, 0, none⟩ (.int .i64 x.turn)).setCell ⟨wb, 1, none⟩ (.int .i64 x.next)).setCell ⟨wb, 2, none⟩ (.int .i64 x.field.wide)).setCell ⟨wb, 3, none⟩ (.int .i64 x.field.high)).setCell ⟨wb, 4, none⟩ (.slice s1.field.ground.A x.field.ground.length s1.field.ground.c)).setCell ⟨wb, 5, none⟩ (.slice s1.field.ore.A x.field.ore.length s1.field.ore.c)).setCell ⟨wb, 6, none⟩ (.slice s1.gold.A x.gold.length s1.gold.c)).setCell ⟨wb, 7, none⟩ (.slice s1.units.A x.units.length s1.units.c)).setCell ⟨wb, 8, none⟩ (.slice s1.queue.A x.queue.length s1.queue.c)) rb 55 #[.int .i64 0, .int .i64 0, .int .i64 0, .int .i64 0, .slice none 0 0, .slice none 0 0, .slice none 0 0, .slice none 0 0, .slice none 0 0] := (((((((((hX.out.kr.far (p := ⟨wb, 0, none⟩) hnrw.out (.int .i64 x.turn)).far (p := ⟨wb, 1, none⟩) hnrw.out (.int .i64 x.next)).far (p := ⟨wb, 2, none⟩) hnrw.out (.int .i64 x.field.wide)).far (p := ⟨wb, 3, none⟩) hnrw.out (.int .i64 x.field.high)).far (p := ⟨wb, 4, none⟩) hnrw.out (.slice s1.field.ground.A x.field.ground.length s1.field.ground.c)).far (p := ⟨wb, 5, none⟩) hnrw.out (.slice s1.field.ore.A x.field.ore.length s1.field.ore.c)).far (p := ⟨wb, 6, none⟩) hnrw.out (.slice s1.gold.A x.gold.length s1.gold.c)).far (p := ⟨wb, 7, none⟩) hnrw.out (.slice s1.units.A x.units.length s1.units.c)).far (p := ⟨wb, 8, none⟩) hnrw.out (.slice s1.queue.A x.queue.length s1.queue.c))
  have hbe8 : Below w.heap.size w (((((((((w7.setCell ⟨wb, 0, none⟩ (.int .i64 x.turn)).setCell ⟨wb, 1, none⟩ (.int .i64 x.next)).setCell ⟨wb, 2, none⟩ (.int .i64 x.field.wide)).setCell ⟨wb, 3, none⟩ (.int .i64 x.field.high)).setCell ⟨wb, 4, none⟩ (.slice s1.field.ground.A x.field.ground.length s1.field.ground.c)).setCell ⟨wb, 5, none⟩ (.slice s1.field.ore.A x.field.ore.length s1.field.ore.c)).setCell ⟨wb, 6, none⟩ (.slice s1.gold.A x.gold.length s1.gold.c)).setCell ⟨wb, 7, none⟩ (.slice s1.units.A x.units.length s1.units.c)).setCell ⟨wb, 8, none⟩ (.slice s1.queue.A x.queue.length s1.queue.c)) := (((((((((hX.out.b.setCell (p := ⟨wb, 0, none⟩) hrw (.int .i64 x.turn)).setCell (p := ⟨wb, 1, none⟩) hrw (.int .i64 x.next)).setCell (p := ⟨wb, 2, none⟩) hrw (.int .i64 x.field.wide)).setCell (p := ⟨wb, 3, none⟩) hrw (.int .i64 x.field.high)).setCell (p := ⟨wb, 4, none⟩) hrw (.slice s1.field.ground.A x.field.ground.length s1.field.ground.c)).setCell (p := ⟨wb, 5, none⟩) hrw (.slice s1.field.ore.A x.field.ore.length s1.field.ore.c)).setCell (p := ⟨wb, 6, none⟩) hrw (.slice s1.gold.A x.gold.length s1.gold.c)).setCell (p := ⟨wb, 7, none⟩) hrw (.slice s1.units.A x.units.length s1.units.c)).setCell (p := ⟨wb, 8, none⟩) hrw (.slice s1.queue.A x.queue.length s1.queue.c))
  have hO8 : WOwn (((((((((w7.setCell ⟨wb, 0, none⟩ (.int .i64 x.turn)).setCell ⟨wb, 1, none⟩ (.int .i64 x.next)).setCell ⟨wb, 2, none⟩ (.int .i64 x.field.wide)).setCell ⟨wb, 3, none⟩ (.int .i64 x.field.high)).setCell ⟨wb, 4, none⟩ (.slice s1.field.ground.A x.field.ground.length s1.field.ground.c)).setCell ⟨wb, 5, none⟩ (.slice s1.field.ore.A x.field.ore.length s1.field.ore.c)).setCell ⟨wb, 6, none⟩ (.slice s1.gold.A x.gold.length s1.gold.c)).setCell ⟨wb, 7, none⟩ (.slice s1.units.A x.units.length s1.units.c)).setCell ⟨wb, 8, none⟩ (.slice s1.queue.A x.queue.length s1.queue.c)) (rb + 1) s1 x := (WOwn.farW (b := wb) (i := 8) (u := .slice s1.queue.A x.queue.length s1.queue.c) (WOwn.farW (b := wb) (i := 7) (u := .slice s1.units.A x.units.length s1.units.c) (WOwn.farW (b := wb) (i := 6) (u := .slice s1.gold.A x.gold.length s1.gold.c) (WOwn.farW (b := wb) (i := 5) (u := .slice s1.field.ore.A x.field.ore.length s1.field.ore.c) (WOwn.farW (b := wb) (i := 4) (u := .slice s1.field.ground.A x.field.ground.length s1.field.ground.c) (WOwn.farW (b := wb) (i := 3) (u := .int .i64 x.field.high) (WOwn.farW (b := wb) (i := 2) (u := .int .i64 x.field.wide) (WOwn.farW (b := wb) (i := 1) (u := .int .i64 x.next) (WOwn.farW (b := wb) (i := 0) (u := .int .i64 x.turn) hO1.out hwr1.out) hwr1.out) hwr1.out) hwr1.out) hwr1.out) hwr1.out) hwr1.out) hwr1.out) hwr1.out)
  clear k0 y0 k1 y1 k2 y2 k3 y3 k4 y4 k5 y5 k6 y6 k7 y7 k8 y8 kll
  generalize (((((((((w7.setCell ⟨wb, 0, none⟩ (.int .i64 x.turn)).setCell ⟨wb, 1, none⟩ (.int .i64 x.next)).setCell ⟨wb, 2, none⟩ (.int .i64 x.field.wide)).setCell ⟨wb, 3, none⟩ (.int .i64 x.field.high)).setCell ⟨wb, 4, none⟩ (.slice s1.field.ground.A x.field.ground.length s1.field.ground.c)).setCell ⟨wb, 5, none⟩ (.slice s1.field.ore.A x.field.ore.length s1.field.ore.c)).setCell ⟨wb, 6, none⟩ (.slice s1.gold.A x.gold.length s1.gold.c)).setCell ⟨wb, 7, none⟩ (.slice s1.units.A x.units.length s1.units.c)).setCell ⟨wb, 8, none⟩ (.slice s1.queue.A x.queue.length s1.queue.c)) = w8 at *
  have hdo : Calls Tryd.prog 101 #[.slice sA L.length sc, .pointer (some ⟨wb, 0, none⟩)] w8 fun e w' => ∃ A c, e = .returned (.slice A ev.length c) ∧ MvR w8 w' ⟨sA, sc⟩ L s1 y wb (rb + 1) ev A c := by
    have h := do_any ⟨sA, sc⟩ L s1 x wb (rb + 1) w8 ((hK.out.below hbe8).more (by have := hwsz.out; omega)) hkw8 hO8 hwr1.out hkr8.lt hin.out hok.out
    rw [hy.out] at h
    exact h
  replace hdo := Lib.hid hdo
  replace hkr8 := Lib.hid hkr8
  replace hbe8 := Lib.hid hbe8
  clear hO1 hX hkw8 hO8
  go_upto_region 6 with (go_at_call 101; refine hdo.out.mono ?_; rintro e w9 ⟨A, c, rfl, hM9⟩)
  clear hdo
  have hkw9 := hM9.kw
  have hkr9 := hkr8.out.below hM9.b (Nat.lt_succ_self rb)
  have hbe : Below w.heap.size w w9 := hbe8.out.trans (hM9.b.mono (by have := hwsz.out; omega))
  have hO9 := hM9.wo
  have hE9 := hM9.ev_
  have hI9 := hM9.int
  clear hkr8 hbe8 hM9
  have q0 : w9.cell? ⟨wb, 0, none⟩ = some (.int .i64 y.turn) := hkw9.cell 0
  have r0 : w9.cell? ⟨rb, 0, none⟩ = some (.int .i64 0) := hkr9.cell 0
  have j0 := hkr9.frozen 0
  have q1 : w9.cell? ⟨wb, 1, none⟩ = some (.int .i64 y.next) := hkw9.cell 1
  have r1 : w9.cell? ⟨rb, 1, none⟩ = some (.int .i64 0) := hkr9.cell 1
  have j1 := hkr9.frozen 1
  have q2 : w9.cell? ⟨wb, 2, none⟩ = some (.int .i64 y.field.wide) := hkw9.cell 2
  have r2 : w9.cell? ⟨rb, 2, none⟩ = some (.int .i64 0) := hkr9.cell 2
  have j2 := hkr9.frozen 2
  have q3 : w9.cell? ⟨wb, 3, none⟩ = some (.int .i64 y.field.high) := hkw9.cell 3
  have r3 : w9.cell? ⟨rb, 3, none⟩ = some (.int .i64 0) := hkr9.cell 3
  have j3 := hkr9.frozen 3
  have q4 : w9.cell? ⟨wb, 4, none⟩ = some (.slice s1.field.ground.A y.field.ground.length s1.field.ground.c) := hkw9.cell 4
  have r4 : w9.cell? ⟨rb, 4, none⟩ = some (.slice none 0 0) := hkr9.cell 4
  have j4 := hkr9.frozen 4
  have q5 : w9.cell? ⟨wb, 5, none⟩ = some (.slice s1.field.ore.A y.field.ore.length s1.field.ore.c) := hkw9.cell 5
  have r5 : w9.cell? ⟨rb, 5, none⟩ = some (.slice none 0 0) := hkr9.cell 5
  have j5 := hkr9.frozen 5
  have q6 : w9.cell? ⟨wb, 6, none⟩ = some (.slice s1.gold.A y.gold.length s1.gold.c) := hkw9.cell 6
  have r6 : w9.cell? ⟨rb, 6, none⟩ = some (.slice none 0 0) := hkr9.cell 6
  have j6 := hkr9.frozen 6
  have q7 : w9.cell? ⟨wb, 7, none⟩ = some (.slice s1.units.A y.units.length s1.units.c) := hkw9.cell 7
  have r7 : w9.cell? ⟨rb, 7, none⟩ = some (.slice none 0 0) := hkr9.cell 7
  have j7 := hkr9.frozen 7
  have q8 : w9.cell? ⟨wb, 8, none⟩ = some (.slice s1.queue.A y.queue.length s1.queue.c) := hkw9.cell 8
  have r8 : w9.cell? ⟨rb, 8, none⟩ = some (.slice none 0 0) := hkr9.cell 8
  have j8 := hkr9.frozen 8
  have qll := hkw9.lt
  have rll := hkr9.lt
  have nwr : wb ≠ rb := fun e => hnrw.out e.symm
  have hwbr : w.heap.size ≤ rb := by have := hwr1.out; omega
  have hzB : Blk (((((((((w9.setCell ⟨rb, 0, none⟩ (.int .i64 y.turn)).setCell ⟨rb, 1, none⟩ (.int .i64 y.next)).setCell ⟨rb, 2, none⟩ (.int .i64 y.field.wide)).setCell ⟨rb, 3, none⟩ (.int .i64 y.field.high)).setCell ⟨rb, 4, none⟩ (.slice s1.field.ground.A y.field.ground.length s1.field.ground.c)).setCell ⟨rb, 5, none⟩ (.slice s1.field.ore.A y.field.ore.length s1.field.ore.c)).setCell ⟨rb, 6, none⟩ (.slice s1.gold.A y.gold.length s1.gold.c)).setCell ⟨rb, 7, none⟩ (.slice s1.units.A y.units.length s1.units.c)).setCell ⟨rb, 8, none⟩ (.slice s1.queue.A y.queue.length s1.queue.c)) rb 55 #[.int .i64 y.turn, .int .i64 y.next, .int .i64 y.field.wide, .int .i64 y.field.high, .slice s1.field.ground.A y.field.ground.length s1.field.ground.c, .slice s1.field.ore.A y.field.ore.length s1.field.ore.c, .slice s1.gold.A y.gold.length s1.gold.c, .slice s1.units.A y.units.length s1.units.c, .slice s1.queue.A y.queue.length s1.queue.c] := by
    have h := (((((((((hkr9.set_ 0 (.int .i64 y.turn)).set_ 1 (.int .i64 y.next)).set_ 2 (.int .i64 y.field.wide)).set_ 3 (.int .i64 y.field.high)).set_ 4 (.slice s1.field.ground.A y.field.ground.length s1.field.ground.c)).set_ 5 (.slice s1.field.ore.A y.field.ore.length s1.field.ore.c)).set_ 6 (.slice s1.gold.A y.gold.length s1.gold.c)).set_ 7 (.slice s1.units.A y.units.length s1.units.c)).set_ 8 (.slice s1.queue.A y.queue.length s1.queue.c))
    simp only [List.setIfInBounds_toArray, List.set_cons_zero, List.set_cons_succ] at h
    exact h
  have hbB : Below w.heap.size w (((((((((w9.setCell ⟨rb, 0, none⟩ (.int .i64 y.turn)).setCell ⟨rb, 1, none⟩ (.int .i64 y.next)).setCell ⟨rb, 2, none⟩ (.int .i64 y.field.wide)).setCell ⟨rb, 3, none⟩ (.int .i64 y.field.high)).setCell ⟨rb, 4, none⟩ (.slice s1.field.ground.A y.field.ground.length s1.field.ground.c)).setCell ⟨rb, 5, none⟩ (.slice s1.field.ore.A y.field.ore.length s1.field.ore.c)).setCell ⟨rb, 6, none⟩ (.slice s1.gold.A y.gold.length s1.gold.c)).setCell ⟨rb, 7, none⟩ (.slice s1.units.A y.units.length s1.units.c)).setCell ⟨rb, 8, none⟩ (.slice s1.queue.A y.queue.length s1.queue.c)) := (((((((((hbe.setCell (p := ⟨rb, 0, none⟩) hwbr (.int .i64 y.turn)).setCell (p := ⟨rb, 1, none⟩) hwbr (.int .i64 y.next)).setCell (p := ⟨rb, 2, none⟩) hwbr (.int .i64 y.field.wide)).setCell (p := ⟨rb, 3, none⟩) hwbr (.int .i64 y.field.high)).setCell (p := ⟨rb, 4, none⟩) hwbr (.slice s1.field.ground.A y.field.ground.length s1.field.ground.c)).setCell (p := ⟨rb, 5, none⟩) hwbr (.slice s1.field.ore.A y.field.ore.length s1.field.ore.c)).setCell (p := ⟨rb, 6, none⟩) hwbr (.slice s1.gold.A y.gold.length s1.gold.c)).setCell (p := ⟨rb, 7, none⟩) hwbr (.slice s1.units.A y.units.length s1.units.c)).setCell (p := ⟨rb, 8, none⟩) hwbr (.slice s1.queue.A y.queue.length s1.queue.c))
  have hOB : WOwn (((((((((w9.setCell ⟨rb, 0, none⟩ (.int .i64 y.turn)).setCell ⟨rb, 1, none⟩ (.int .i64 y.next)).setCell ⟨rb, 2, none⟩ (.int .i64 y.field.wide)).setCell ⟨rb, 3, none⟩ (.int .i64 y.field.high)).setCell ⟨rb, 4, none⟩ (.slice s1.field.ground.A y.field.ground.length s1.field.ground.c)).setCell ⟨rb, 5, none⟩ (.slice s1.field.ore.A y.field.ore.length s1.field.ore.c)).setCell ⟨rb, 6, none⟩ (.slice s1.gold.A y.gold.length s1.gold.c)).setCell ⟨rb, 7, none⟩ (.slice s1.units.A y.units.length s1.units.c)).setCell ⟨rb, 8, none⟩ (.slice s1.queue.A y.queue.length s1.queue.c)) (rb + 1) s1 y := (WOwn.farW (b := rb) (i := 8) (u := .slice s1.queue.A y.queue.length s1.queue.c) (WOwn.farW (b := rb) (i := 7) (u := .slice s1.units.A y.units.length s1.units.c) (WOwn.farW (b := rb) (i := 6) (u := .slice s1.gold.A y.gold.length s1.gold.c) (WOwn.farW (b := rb) (i := 5) (u := .slice s1.field.ore.A y.field.ore.length s1.field.ore.c) (WOwn.farW (b := rb) (i := 4) (u := .slice s1.field.ground.A y.field.ground.length s1.field.ground.c) (WOwn.farW (b := rb) (i := 3) (u := .int .i64 y.field.high) (WOwn.farW (b := rb) (i := 2) (u := .int .i64 y.field.wide) (WOwn.farW (b := rb) (i := 1) (u := .int .i64 y.next) (WOwn.farW (b := rb) (i := 0) (u := .int .i64 y.turn) hO9 (Nat.lt_succ_self _)) (Nat.lt_succ_self _)) (Nat.lt_succ_self _)) (Nat.lt_succ_self _)) (Nat.lt_succ_self _)) (Nat.lt_succ_self _)) (Nat.lt_succ_self _)) (Nat.lt_succ_self _)) (Nat.lt_succ_self _))
  have hEB : World.ownsRow (((((((((w9.setCell ⟨rb, 0, none⟩ (.int .i64 y.turn)).setCell ⟨rb, 1, none⟩ (.int .i64 y.next)).setCell ⟨rb, 2, none⟩ (.int .i64 y.field.wide)).setCell ⟨rb, 3, none⟩ (.int .i64 y.field.high)).setCell ⟨rb, 4, none⟩ (.slice s1.field.ground.A y.field.ground.length s1.field.ground.c)).setCell ⟨rb, 5, none⟩ (.slice s1.field.ore.A y.field.ore.length s1.field.ore.c)).setCell ⟨rb, 6, none⟩ (.slice s1.gold.A y.gold.length s1.gold.c)).setCell ⟨rb, 7, none⟩ (.slice s1.units.A y.units.length s1.units.c)).setCell ⟨rb, 8, none⟩ (.slice s1.queue.A y.queue.length s1.queue.c)) (rb + 1) 85 3 (.slice A ev.length c) ev.length (ev.flatMap eC) := (own_farW (b := rb) (i := 8) (u := .slice s1.queue.A y.queue.length s1.queue.c) (own_farW (b := rb) (i := 7) (u := .slice s1.units.A y.units.length s1.units.c) (own_farW (b := rb) (i := 6) (u := .slice s1.gold.A y.gold.length s1.gold.c) (own_farW (b := rb) (i := 5) (u := .slice s1.field.ore.A y.field.ore.length s1.field.ore.c) (own_farW (b := rb) (i := 4) (u := .slice s1.field.ground.A y.field.ground.length s1.field.ground.c) (own_farW (b := rb) (i := 3) (u := .int .i64 y.field.high) (own_farW (b := rb) (i := 2) (u := .int .i64 y.field.wide) (own_farW (b := rb) (i := 1) (u := .int .i64 y.next) (own_farW (b := rb) (i := 0) (u := .int .i64 y.turn) hE9 (Nat.lt_succ_self _)) (Nat.lt_succ_self _)) (Nat.lt_succ_self _)) (Nat.lt_succ_self _)) (Nat.lt_succ_self _)) (Nat.lt_succ_self _)) (Nat.lt_succ_self _)) (Nat.lt_succ_self _)) (Nat.lt_succ_self _))
  replace hzB := Lib.hid hzB
  replace hbB := Lib.hid hbB
  replace hOB := Lib.hid hOB
  replace hEB := Lib.hid hEB
  replace hI9 := Lib.hid hI9
  clear hkw9 hkr9 hbe hO9 hE9
  go_wp2_with fail
  refine bodyPost_ret (results_ctt4 rfl _ _ rb _ #[.int .i64 y.turn, .int .i64 y.next, .int .i64 y.field.wide, .int .i64 y.field.high, .slice s1.field.ground.A y.field.ground.length s1.field.ground.c, .slice s1.field.ore.A y.field.ore.length s1.field.ore.c, .slice s1.gold.A y.gold.length s1.gold.c, .slice s1.units.A y.units.length s1.units.c, .slice s1.queue.A y.queue.length s1.queue.c] _ rfl hzB.out Tryd.underlying55 rfl (by kernel_rfl)) rfl ?_
  exact ⟨s1, A, c, rfl, hOB.out.base (by have := hwsz.out; omega), hI9.out, own_base hEB.out (by have := hwsz.out; omega), hbB.out⟩
set_option maxHeartbeats 12800000 in
set_option maxRecDepth 100000 in
theorem move_no (sK : SL) (L : List GK) (s : SW) (x : GW) (w : World) (hK : KS w w.heap.size sK L) (hW : WOk w s x) (hne : worldE L x ≠ 0) :
    Calls Tryd.prog 49 #[.slice sK.A L.length sK.c, .agg #[.int .i64 x.turn, .int .i64 x.next, .int .i64 x.field.wide, .int .i64 x.field.high, .slice s.field.ground.A x.field.ground.length s.field.ground.c, .slice s.field.ore.A x.field.ore.length s.field.ore.c, .slice s.gold.A x.gold.length s.gold.c, .slice s.units.A x.units.length s.units.c, .slice s.queue.A x.queue.length s.queue.c]] w fun e w' => e = .returned (.tuple #[.agg #[.int .i64 0, .int .i64 0, .int .i64 0, .int .i64 0, .slice none 0 0, .slice none 0 0, .slice none 0 0, .slice none 0 0, .slice none 0 0], .slice none 0 0, .iface 93 (.int .i64 (worldE L x))]) ∧ Below w.heap.size w w' := by
  obtain ⟨sA, sc⟩ := sK
  dsimp only
  have hX : CW w ((w.alloc (.cells #[.int .i64 x.turn, .int .i64 x.next, .int .i64 x.field.wide, .int .i64 x.field.high, .slice s.field.ground.A x.field.ground.length s.field.ground.c, .slice s.field.ore.A x.field.ore.length s.field.ore.c, .slice s.gold.A x.gold.length s.gold.c, .slice s.units.A x.units.length s.units.c, .slice s.queue.A x.queue.length s.queue.c] 55)).alloc (.cells #[.int .i64 0, .int .i64 0, .int .i64 0, .int .i64 0, .slice none 0 0, .slice none 0 0, .slice none 0 0, .slice none 0 0, .slice none 0 0] 55)) s x w.heap.size (w.heap.size + 1) #[.int .i64 x.turn, .int .i64 x.next, .int .i64 x.field.wide, .int .i64 x.field.high, .slice s.field.ground.A x.field.ground.length s.field.ground.c, .slice s.field.ore.A x.field.ore.length s.field.ore.c, .slice s.gold.A x.gold.length s.gold.c, .slice s.units.A x.units.length s.units.c, .slice s.queue.A x.queue.length s.queue.c] := by
    obtain ⟨hb1, hk1, hk2⟩ := two_boxes w 55 55 #[.int .i64 x.turn, .int .i64 x.next, .int .i64 x.field.wide, .int .i64 x.field.high, .slice s.field.ground.A x.field.ground.length s.field.ground.c, .slice s.field.ore.A x.field.ore.length s.field.ore.c, .slice s.gold.A x.gold.length s.gold.c, .slice s.units.A x.units.length s.units.c, .slice s.queue.A x.queue.length s.queue.c] #[.int .i64 0, .int .i64 0, .int .i64 0, .int .i64 0, .slice none 0 0, .slice none 0 0, .slice none 0 0, .slice none 0 0, .slice none 0 0]
    exact ⟨hb1, hk1, hk2, hW, Nat.le_refl _, by omega⟩
  have hul := hW.ulen
  obtain ⟨E, hE⟩ : ∃ E, worldE L x = E := ⟨_, rfl⟩
  rw [hE] at hne ⊢
  have hev : errV E = .iface 93 (.int .i64 E) := by unfold errV; rw [if_neg hne]; rfl
  replace hX := Lib.hid hX
  replace hK := Lib.hid hK
  replace hE := Lib.hid hE
  replace hne := Lib.hid hne
  clear hW
  go_enter Tryd.func49, Tryd.ntmps49
  go_upto_region 1 with fail
  generalize ((w.alloc (.cells #[.int .i64 x.turn, .int .i64 x.next, .int .i64 x.field.wide, .int .i64 x.field.high, .slice s.field.ground.A x.field.ground.length s.field.ground.c, .slice s.field.ore.A x.field.ore.length s.field.ore.c, .slice s.gold.A x.gold.length s.gold.c, .slice s.units.A x.units.length s.units.c, .slice s.queue.A x.queue.length s.queue.c] 55)).alloc (.cells #[.int .i64 0, .int .i64 0, .int .i64 0, .int .i64 0, .slice none 0 0, .slice none 0 0, .slice none 0 0, .slice none 0 0, .slice none 0 0] 55)) = W at *
  obtain ⟨wb, hwb⟩ : ∃ wb, w.heap.size = wb := ⟨_, rfl⟩
  obtain ⟨rb, hrb⟩ : ∃ rb, wb + 1 = rb := ⟨_, rfl⟩
  rw [hwb]
  try rw [hrb]
  replace hX : CW w W s x wb rb #[.int .i64 x.turn, .int .i64 x.next, .int .i64 x.field.wide, .int .i64 x.field.high, .slice s.field.ground.A x.field.ground.length s.field.ground.c, .slice s.field.ore.A x.field.ore.length s.field.ore.c, .slice s.gold.A x.gold.length s.gold.c, .slice s.units.A x.units.length s.units.c, .slice s.queue.A x.queue.length s.queue.c] := by rw [← hrb, ← hwb]; exact hX.out
  replace hX := Lib.hid hX
  replace hwb := Lib.hid hwb
  replace hrb := Lib.hid hrb
  obtain ⟨m0, m1, m2, m3, m4, m5, m6, m7, m8, mll, rll⟩ := hX.out.wcells
  have hwc : Calls Tryd.prog 28 #[.slice sA L.length sc, .agg #[.int .i64 x.turn, .int .i64 x.next, .int .i64 x.field.wide, .int .i64 x.field.high, .slice s.field.ground.A x.field.ground.length s.field.ground.c, .slice s.field.ore.A x.field.ore.length s.field.ore.c, .slice s.gold.A x.gold.length s.gold.c, .slice s.units.A x.units.length s.units.c, .slice s.queue.A x.queue.length s.queue.c]] W fun e w' => e = .returned (errV (worldE L x)) ∧ Below W.heap.size W w' := wcheck_any ⟨sA, sc⟩ L s x W ((hK.out.below hX.out.b).more hX.out.b.size) hX.out.wo_
  rw [hE.out, hev] at hwc
  replace hwc := Lib.hid hwc
  replace hev := Lib.hid hev
  go_upto_region 2 with (go_at_call 28; refine hwc.out.mono ?_; clear m0 m1 m2 m3 m4 m5 m6 m7 m8 mll rll; rintro e w2 ⟨rfl, hb2⟩)
  clear hwc
  replace hX := Lib.hid (hX.out.below hb2)
  clear hb2
  obtain ⟨r0, g0, r1, g1, r2, g2, r3, g3, r4, g4, r5, g5, r6, g6, r7, g7, r8, g8⟩ := hX.out.rcells
  obtain ⟨hzB, hbB⟩ := hX.out.zero
  replace hzB := Lib.hid hzB
  replace hbB := Lib.hid hbB
  go_wp2_with fail
  (try simp only [Exit.inBlock, Exit.then])
  refine bodyPost_ret (results_ctt4 rfl _ _ rb _ #[.int .i64 0, .int .i64 0, .int .i64 0, .int .i64 0, .slice none 0 0, .slice none 0 0, .slice none 0 0, .slice none 0 0, .slice none 0 0] _ rfl hzB.out Tryd.underlying55 rfl (by kernel_rfl)) rfl ?_
  exact ⟨rfl, hbB.out⟩
end Go.Proofs.YtkgkpggfoieioaaDoor
