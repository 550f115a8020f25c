import Derived.Test.YtkkdegcbikjebaaDoorPathAll
import Derived.OpenShut
import Derived.Deep.RegionHeld3
namespace Go.Proofs.YtkkdegcbikjebaaDoor
set_option linter.unusedVariables false
open Go.RowKit
set_option maxHeartbeats 6400000 in
set_option maxRecDepth 100000 in
theorem pathFinds_1 (s : SF) (f : GF) (a : Int) (b : Int) (m : Int) (fl : Bool) (w : World) (hv : HV w) (h : FOk w s f) (hET0 : cellE f b ≠ 0) (hEF0 : cellE f a ≠ 0) :
    Calls Tryd.prog 6 #[fA s f, .int .i64 a, .int .i64 b, .int .i64 m, .bool fl] w fun e w' => e = .returned (.bool true) ∧ Below w.heap.size w w' := by
  obtain ⟨i0, hi0, hz0, hz1, hz2⟩ := info_parts int_inf
  have H := Lib.hid h
  have HVH := Lib.hid hv
  clear h hv
  have hET := Lib.hid hET0
  have hFL := Lib.hid (faultL_a f a b hET0)
  have ht1 : (cellE f b == 0) = false := by simpa using hET0
  clear hET0
  have hEF := Lib.hid hEF0
  have ht2 : (cellE f a == 0) = false := by simpa using hEF0
  clear hEF0
  unfold fA
  go_enter Tryd.func6, Tryd.ntmps6
  go_wp2_with fail
  have hb1 : Below w.heap.size w (w.alloc (.cells #[.int .i64 f.wide, .int .i64 f.high, .slice s.ground.A f.ground.length s.ground.c, .slice s.ore.A f.ore.length s.ore.c] 25)) := (Below.refl _ _).alloc (Nat.le_refl _) _
  have hk1 := Blk.new w 25 #[.int .i64 f.wide, .int .i64 f.high, .slice s.ground.A f.ground.length s.ground.c, .slice s.ore.A f.ore.length s.ore.c]
  generalize w.alloc (.cells #[.int .i64 f.wide, .int .i64 f.high, .slice s.ground.A f.ground.length s.ground.c, .slice s.ore.A f.ore.length s.ore.c] 25) = W0 at *
  have hs1 := hb1.size
  have hlt1 := hk1.lt
  have hcl : ∀ w', Below W0.heap.size W0 w' → Blk w' w.heap.size 25 #[.int .i64 f.wide, .int .i64 f.high, .slice s.ground.A f.ground.length s.ground.c, .slice s.ore.A f.ore.length s.ore.c] ∧ FOk w' s f ∧ HV w' ∧ Below w.heap.size w w' ∧ W0.heap.size ≤ w'.heap.size := fun w' hb =>
    ⟨hk1.below hb hlt1, H.out.below (hb1.trans (hb.mono hs1)), HVH.out.below (hb1.trans (hb.mono hs1)), hb1.trans (hb.mono hs1), hb.size⟩
  replace hcl := Lib.hid hcl
  obtain ⟨_, F0, V0, _, s0⟩ := hcl.out W0 (Below.refl _ _)
  have hp0 := Lib.hid (Below.refl W0.heap.size W0)
  replace F0 := Lib.hid F0
  replace V0 := Lib.hid V0
  replace hk1 := Lib.hid hk1
  replace hb1 := Lib.hid hb1
  refine (rcell_any s f b W0 F0.out).mono ?_
  rintro e W1 ⟨rfl, hq⟩
  have hp1 := hp0.out.trans (hq.mono s0)
  obtain ⟨k1, F1, V1, B1, s1⟩ := hcl.out W1 hp1
  have c0 := k1.cell 0
  have c1 := k1.cell 1
  have c2 := k1.cell 2
  have c3 := k1.cell 3
  replace k1 := Lib.hid k1
  replace F1 := Lib.hid F1
  replace V1 := Lib.hid V1
  replace B1 := Lib.hid B1
  replace hp1 := Lib.hid hp1
  clear hq
  go_wp2_with fail
  clear c0 c1 c2 c3
  refine (far_no s f b fl W1 F1.out hET.out).mono ?_
  rintro e W2 ⟨rfl, hq⟩
  have hp2 := hp1.out.trans (hq.mono s1)
  obtain ⟨k2, F2, V2, B2, s2⟩ := hcl.out W2 hp2
  have c0 := k2.cell 0
  have c1 := k2.cell 1
  have c2 := k2.cell 2
  have c3 := k2.cell 3
  replace k2 := Lib.hid k2
  replace F2 := Lib.hid F2
  replace V2 := Lib.hid V2
  replace B2 := Lib.hid B2
  replace hp2 := Lib.hid hp2
  clear hq
  go_wp2_with fail
  clear c0 c1 c2 c3
  refine (err2_erE (cellE f b) hET.out W2 V2.out).mono ?_
  rintro e W3 ⟨rfl, hq⟩
  have hp3 := hp2.out.trans (hq.mono s2)
  obtain ⟨k3, F3, V3, B3, s3⟩ := hcl.out W3 hp3
  have c0 := k3.cell 0
  have c1 := k3.cell 1
  have c2 := k3.cell 2
  have c3 := k3.cell 3
  replace k3 := Lib.hid k3
  replace F3 := Lib.hid F3
  replace V3 := Lib.hid V3
  replace B3 := Lib.hid B3
  replace hp3 := Lib.hid hp3
  clear hq
  go_wp2_with fail
  clear c0 c1 c2 c3
  refine (ints_nil W3).mono ?_
  rintro e W4 ⟨rfl, hq⟩
  have hp4 := hp3.out.trans (hq.mono s3)
  obtain ⟨k4, F4, V4, B4, s4⟩ := hcl.out W4 hp4
  have c0 := k4.cell 0
  have c1 := k4.cell 1
  have c2 := k4.cell 2
  have c3 := k4.cell 3
  replace k4 := Lib.hid k4
  replace F4 := Lib.hid F4
  replace V4 := Lib.hid V4
  replace B4 := Lib.hid B4
  replace hp4 := Lib.hid hp4
  clear hq
  go_wp2_with fail
  clear c0 c1 c2 c3
  refine (nxt_no s f a b fl W4 F4.out (by rw [hFL.out]; exact hET.out)).mono ?_
  rintro e W5 ⟨rfl, hq⟩
  have hp5 := hp4.out.trans (hq.mono s4)
  obtain ⟨k5, F5, V5, B5, s5⟩ := hcl.out W5 hp5
  have c0 := k5.cell 0
  have c1 := k5.cell 1
  have c2 := k5.cell 2
  have c3 := k5.cell 3
  replace k5 := Lib.hid k5
  replace F5 := Lib.hid F5
  replace V5 := Lib.hid V5
  replace B5 := Lib.hid B5
  replace hp5 := Lib.hid hp5
  clear hq
  rw [hFL.out]
  go_wp2_with fail
  clear c0 c1 c2 c3
  refine (err2_erE (cellE f b) hET.out W5 V5.out).mono ?_
  rintro e W6 ⟨rfl, hq⟩
  have hp6 := hp5.out.trans (hq.mono s5)
  obtain ⟨k6, F6, V6, B6, s6⟩ := hcl.out W6 hp6
  have c0 := k6.cell 0
  have c1 := k6.cell 1
  have c2 := k6.cell 2
  have c3 := k6.cell 3
  replace k6 := Lib.hid k6
  replace F6 := Lib.hid F6
  replace V6 := Lib.hid V6
  replace B6 := Lib.hid B6
  replace hp6 := Lib.hid hp6
  clear hq
  go_wp2_with fail
  clear c0 c1 c2 c3
  refine (path_no s f a b fl W6 F6.out (by rw [hFL.out]; exact hET.out)).mono ?_
  rintro e W7 ⟨rfl, hq⟩
  have hp7 := hp6.out.trans (hq.mono s6)
  obtain ⟨k7, F7, V7, B7, s7⟩ := hcl.out W7 hp7
  have c0 := k7.cell 0
  have c1 := k7.cell 1
  have c2 := k7.cell 2
  have c3 := k7.cell 3
  replace k7 := Lib.hid k7
  replace F7 := Lib.hid F7
  replace V7 := Lib.hid V7
  replace B7 := Lib.hid B7
  replace hp7 := Lib.hid hp7
  clear hq
  rw [hFL.out]
  go_wp2_with fail
  clear c0 c1 c2 c3
  refine (err2_erE (cellE f b) hET.out W7 V7.out).mono ?_
  rintro e W8 ⟨rfl, hq⟩
  have hp8 := hp7.out.trans (hq.mono s7)
  obtain ⟨k8, F8, V8, B8, s8⟩ := hcl.out W8 hp8
  have c0 := k8.cell 0
  have c1 := k8.cell 1
  have c2 := k8.cell 2
  have c3 := k8.cell 3
  replace k8 := Lib.hid k8
  replace F8 := Lib.hid F8
  replace V8 := Lib.hid V8
  replace B8 := Lib.hid B8
  replace hp8 := Lib.hid hp8
  clear hq
  go_wp2_with fail
  clear c0 c1 c2 c3
  refine (ints_nil W8).mono ?_
  rintro e W9 ⟨rfl, hq⟩
  have hp9 := hp8.out.trans (hq.mono s8)
  obtain ⟨k9, F9, V9, B9, s9⟩ := hcl.out W9 hp9
  have c0 := k9.cell 0
  have c1 := k9.cell 1
  have c2 := k9.cell 2
  have c3 := k9.cell 3
  replace k9 := Lib.hid k9
  replace F9 := Lib.hid F9
  replace V9 := Lib.hid V9
  replace B9 := Lib.hid B9
  replace hp9 := Lib.hid hp9
  clear hq
  go_wp2_with fail
  clear c0 c1 c2 c3
  refine (rcell_any s f a W9 F9.out).mono ?_
  rintro e W10 ⟨rfl, hq⟩
  have hp10 := hp9.out.trans (hq.mono s9)
  obtain ⟨k10, F10, V10, B10, s10⟩ := hcl.out W10 hp10
  have c0 := k10.cell 0
  have c1 := k10.cell 1
  have c2 := k10.cell 2
  have c3 := k10.cell 3
  replace k10 := Lib.hid k10
  replace F10 := Lib.hid F10
  replace V10 := Lib.hid V10
  replace B10 := Lib.hid B10
  replace hp10 := Lib.hid hp10
  clear hq
  go_wp2_with fail
  clear c0 c1 c2 c3
  go_loopw [25, 26, 27] (fun vl _ _ wr => vl = .slice none 0 0 ∧ W10 = wr) (fun _ _ _ _ => 0)
  case atStart => exact ⟨rfl, rfl⟩
  case round =>
  obtain ⟨rfl, rfl⟩ := hrel
  have c0 := k10.out.cell 0
  have c1 := k10.out.cell 1
  have c2 := k10.out.cell 2
  have c3 := k10.out.cell 3
  go_wp2_with fail
  clear c0 c1 c2 c3
  refine (reach_no s f a m fl W10 F10.out hEF.out).mono ?_
  rintro e W11 ⟨rfl, hq⟩
  have hp11 := hp10.out.trans (hq.mono s10)
  obtain ⟨k11, F11, V11, B11, s11⟩ := hcl.out W11 hp11
  have c0 := k11.cell 0
  have c1 := k11.cell 1
  have c2 := k11.cell 2
  have c3 := k11.cell 3
  replace k11 := Lib.hid k11
  replace F11 := Lib.hid F11
  replace V11 := Lib.hid V11
  replace B11 := Lib.hid B11
  replace hp11 := Lib.hid hp11
  clear hq
  go_wp2_with fail
  clear c0 c1 c2 c3
  refine (err2_erE (cellE f a) hEF.out W11 V11.out).mono ?_
  rintro e W12 ⟨rfl, hq⟩
  have hp12 := hp11.out.trans (hq.mono s11)
  obtain ⟨k12, F12, V12, B12, s12⟩ := hcl.out W12 hp12
  have c0 := k12.cell 0
  have c1 := k12.cell 1
  have c2 := k12.cell 2
  have c3 := k12.cell 3
  replace k12 := Lib.hid k12
  replace F12 := Lib.hid F12
  replace V12 := Lib.hid V12
  replace B12 := Lib.hid B12
  replace hp12 := Lib.hid hp12
  clear hq
  go_wp2_with fail
  clear c0 c1 c2 c3
  refine (ints_nil W12).mono ?_
  rintro e W13 ⟨rfl, hq⟩
  have hp13 := hp12.out.trans (hq.mono s12)
  obtain ⟨k13, F13, V13, B13, s13⟩ := hcl.out W13 hp13
  have c0 := k13.cell 0
  have c1 := k13.cell 1
  have c2 := k13.cell 2
  have c3 := k13.cell 3
  replace k13 := Lib.hid k13
  replace F13 := Lib.hid F13
  replace V13 := Lib.hid V13
  replace B13 := Lib.hid B13
  replace hp13 := Lib.hid hp13
  clear hq
  go_wp2_with fail
  go_ret
  exact ⟨rfl, B13.out⟩
set_option maxHeartbeats 6400000 in
set_option maxRecDepth 100000 in
theorem pathFinds_2 (s : SF) (f : GF) (a : Nat) (b : Int) (m : Int) (fl : Bool) (w : World) (hv : HV w) (h : FOk w s f) (hET0 : cellE f b ≠ 0) (hEF0 : cellE f a = 0) (hm0 : numB m = false) :
    Calls Tryd.prog 6 #[fA s f, .int .i64 a, .int .i64 b, .int .i64 m, .bool fl] w fun e w' => e = .returned (.bool true) ∧ Below w.heap.size w w' := by
  obtain ⟨i0, hi0, hz0, hz1, hz2⟩ := info_parts int_inf
  have H := Lib.hid h
  have HVH := Lib.hid hv
  clear h hv
  have hET := Lib.hid hET0
  have hFL := Lib.hid (faultL_a f a b hET0)
  have ht1 : (cellE f b == 0) = false := by simpa using hET0
  clear hET0
  obtain ⟨hg0, _, ha1⟩ := cellE_in f a hEF0
  have han : a < f.ground.length := by omega
  have hgl := hg0.len.1
  have hg := Lib.hid hg0
  have hEF := Lib.hid hEF0
  clear hEF0 hg0
  have hm := Lib.hid hm0
  clear hm0
  unfold fA
  go_enter Tryd.func6, Tryd.ntmps6
  go_wp2_with fail
  have hb1 : Below w.heap.size w (w.alloc (.cells #[.int .i64 f.wide, .int .i64 f.high, .slice s.ground.A f.ground.length s.ground.c, .slice s.ore.A f.ore.length s.ore.c] 25)) := (Below.refl _ _).alloc (Nat.le_refl _) _
  have hk1 := Blk.new w 25 #[.int .i64 f.wide, .int .i64 f.high, .slice s.ground.A f.ground.length s.ground.c, .slice s.ore.A f.ore.length s.ore.c]
  generalize w.alloc (.cells #[.int .i64 f.wide, .int .i64 f.high, .slice s.ground.A f.ground.length s.ground.c, .slice s.ore.A f.ore.length s.ore.c] 25) = W0 at *
  have hs1 := hb1.size
  have hlt1 := hk1.lt
  have hcl : ∀ w', Below W0.heap.size W0 w' → Blk w' w.heap.size 25 #[.int .i64 f.wide, .int .i64 f.high, .slice s.ground.A f.ground.length s.ground.c, .slice s.ore.A f.ore.length s.ore.c] ∧ FOk w' s f ∧ HV w' ∧ Below w.heap.size w w' ∧ W0.heap.size ≤ w'.heap.size := fun w' hb =>
    ⟨hk1.below hb hlt1, H.out.below (hb1.trans (hb.mono hs1)), HVH.out.below (hb1.trans (hb.mono hs1)), hb1.trans (hb.mono hs1), hb.size⟩
  replace hcl := Lib.hid hcl
  obtain ⟨_, F0, V0, _, s0⟩ := hcl.out W0 (Below.refl _ _)
  have hp0 := Lib.hid (Below.refl W0.heap.size W0)
  replace F0 := Lib.hid F0
  replace V0 := Lib.hid V0
  replace hk1 := Lib.hid hk1
  replace hb1 := Lib.hid hb1
  refine (rcell_any s f b W0 F0.out).mono ?_
  rintro e W1 ⟨rfl, hq⟩
  have hp1 := hp0.out.trans (hq.mono s0)
  obtain ⟨k1, F1, V1, B1, s1⟩ := hcl.out W1 hp1
  have c0 := k1.cell 0
  have c1 := k1.cell 1
  have c2 := k1.cell 2
  have c3 := k1.cell 3
  replace k1 := Lib.hid k1
  replace F1 := Lib.hid F1
  replace V1 := Lib.hid V1
  replace B1 := Lib.hid B1
  replace hp1 := Lib.hid hp1
  clear hq
  go_wp2_with fail
  clear c0 c1 c2 c3
  refine (far_no s f b fl W1 F1.out hET.out).mono ?_
  rintro e W2 ⟨rfl, hq⟩
  have hp2 := hp1.out.trans (hq.mono s1)
  obtain ⟨k2, F2, V2, B2, s2⟩ := hcl.out W2 hp2
  have c0 := k2.cell 0
  have c1 := k2.cell 1
  have c2 := k2.cell 2
  have c3 := k2.cell 3
  replace k2 := Lib.hid k2
  replace F2 := Lib.hid F2
  replace V2 := Lib.hid V2
  replace B2 := Lib.hid B2
  replace hp2 := Lib.hid hp2
  clear hq
  go_wp2_with fail
  clear c0 c1 c2 c3
  refine (err2_erE (cellE f b) hET.out W2 V2.out).mono ?_
  rintro e W3 ⟨rfl, hq⟩
  have hp3 := hp2.out.trans (hq.mono s2)
  obtain ⟨k3, F3, V3, B3, s3⟩ := hcl.out W3 hp3
  have c0 := k3.cell 0
  have c1 := k3.cell 1
  have c2 := k3.cell 2
  have c3 := k3.cell 3
  replace k3 := Lib.hid k3
  replace F3 := Lib.hid F3
  replace V3 := Lib.hid V3
  replace B3 := Lib.hid B3
  replace hp3 := Lib.hid hp3
  clear hq
  go_wp2_with fail
  clear c0 c1 c2 c3
  refine (ints_nil W3).mono ?_
  rintro e W4 ⟨rfl, hq⟩
  have hp4 := hp3.out.trans (hq.mono s3)
  obtain ⟨k4, F4, V4, B4, s4⟩ := hcl.out W4 hp4
  have c0 := k4.cell 0
  have c1 := k4.cell 1
  have c2 := k4.cell 2
  have c3 := k4.cell 3
  replace k4 := Lib.hid k4
  replace F4 := Lib.hid F4
  replace V4 := Lib.hid V4
  replace B4 := Lib.hid B4
  replace hp4 := Lib.hid hp4
  clear hq
  go_wp2_with fail
  clear c0 c1 c2 c3
  refine (nxt_no s f a b fl W4 F4.out (by rw [hFL.out]; exact hET.out)).mono ?_
  rintro e W5 ⟨rfl, hq⟩
  have hp5 := hp4.out.trans (hq.mono s4)
  obtain ⟨k5, F5, V5, B5, s5⟩ := hcl.out W5 hp5
  have c0 := k5.cell 0
  have c1 := k5.cell 1
  have c2 := k5.cell 2
  have c3 := k5.cell 3
  replace k5 := Lib.hid k5
  replace F5 := Lib.hid F5
  replace V5 := Lib.hid V5
  replace B5 := Lib.hid B5
  replace hp5 := Lib.hid hp5
  clear hq
  rw [hFL.out]
  go_wp2_with fail
  clear c0 c1 c2 c3
  refine (err2_erE (cellE f b) hET.out W5 V5.out).mono ?_
  rintro e W6 ⟨rfl, hq⟩
  have hp6 := hp5.out.trans (hq.mono s5)
  obtain ⟨k6, F6, V6, B6, s6⟩ := hcl.out W6 hp6
  have c0 := k6.cell 0
  have c1 := k6.cell 1
  have c2 := k6.cell 2
  have c3 := k6.cell 3
  replace k6 := Lib.hid k6
  replace F6 := Lib.hid F6
  replace V6 := Lib.hid V6
  replace B6 := Lib.hid B6
  replace hp6 := Lib.hid hp6
  clear hq
  go_wp2_with fail
  clear c0 c1 c2 c3
  refine (path_no s f a b fl W6 F6.out (by rw [hFL.out]; exact hET.out)).mono ?_
  rintro e W7 ⟨rfl, hq⟩
  have hp7 := hp6.out.trans (hq.mono s6)
  obtain ⟨k7, F7, V7, B7, s7⟩ := hcl.out W7 hp7
  have c0 := k7.cell 0
  have c1 := k7.cell 1
  have c2 := k7.cell 2
  have c3 := k7.cell 3
  replace k7 := Lib.hid k7
  replace F7 := Lib.hid F7
  replace V7 := Lib.hid V7
  replace B7 := Lib.hid B7
  replace hp7 := Lib.hid hp7
  clear hq
  rw [hFL.out]
  go_wp2_with fail
  clear c0 c1 c2 c3
  refine (err2_erE (cellE f b) hET.out W7 V7.out).mono ?_
  rintro e W8 ⟨rfl, hq⟩
  have hp8 := hp7.out.trans (hq.mono s7)
  obtain ⟨k8, F8, V8, B8, s8⟩ := hcl.out W8 hp8
  have c0 := k8.cell 0
  have c1 := k8.cell 1
  have c2 := k8.cell 2
  have c3 := k8.cell 3
  replace k8 := Lib.hid k8
  replace F8 := Lib.hid F8
  replace V8 := Lib.hid V8
  replace B8 := Lib.hid B8
  replace hp8 := Lib.hid hp8
  clear hq
  go_wp2_with fail
  clear c0 c1 c2 c3
  refine (ints_nil W8).mono ?_
  rintro e W9 ⟨rfl, hq⟩
  have hp9 := hp8.out.trans (hq.mono s8)
  obtain ⟨k9, F9, V9, B9, s9⟩ := hcl.out W9 hp9
  have c0 := k9.cell 0
  have c1 := k9.cell 1
  have c2 := k9.cell 2
  have c3 := k9.cell 3
  replace k9 := Lib.hid k9
  replace F9 := Lib.hid F9
  replace V9 := Lib.hid V9
  replace B9 := Lib.hid B9
  replace hp9 := Lib.hid hp9
  clear hq
  go_wp2_with fail
  clear c0 c1 c2 c3
  refine (rcell_any s f a W9 F9.out).mono ?_
  rintro e W10 ⟨rfl, hq⟩
  have hp10 := hp9.out.trans (hq.mono s9)
  obtain ⟨k10, F10, V10, B10, s10⟩ := hcl.out W10 hp10
  have c0 := k10.cell 0
  have c1 := k10.cell 1
  have c2 := k10.cell 2
  have c3 := k10.cell 3
  replace k10 := Lib.hid k10
  replace F10 := Lib.hid F10
  replace V10 := Lib.hid V10
  replace B10 := Lib.hid B10
  replace hp10 := Lib.hid hp10
  clear hq
  rw [hEF.out]
  go_upto_region 28 with fail
  go_cut [128] (fun t wx => t = .bool true ∧ W10 = wx)
  case first =>
    have hmm := numB_f hm.out
    by_cases hm1 : m < 0
    · have d1 : decide (m < 0) = true := by simp; omega
      go_wp2_with fail
      go_meet
      exact ⟨rfl, rfl⟩
    · have d1 : decide (m < 0) = false := by simp; omega
      have d2 : decide ((1000000 : Int) < m) = true := by simp; omega
      go_wp2_with fail
      go_meet
      exact ⟨rfl, rfl⟩
  case rest =>
  obtain ⟨rfl, rfl⟩ := hcut
  go_wp2_with fail
  clear c0 c1 c2 c3
  go_loopw [25, 26, 27] (fun vl _ _ wr => vl = .slice none 0 0 ∧ W10 = wr) (fun _ _ _ _ => 0)
  case atStart => exact ⟨rfl, rfl⟩
  case round =>
  obtain ⟨rfl, rfl⟩ := hrel
  have c0 := k10.out.cell 0
  have c1 := k10.out.cell 1
  have c2 := k10.out.cell 2
  have c3 := k10.out.cell 3
  go_wp2_with fail
  clear c0 c1 c2 c3
  refine (reach_num s f a m fl W10 F10.out hEF.out hm.out).mono ?_
  rintro e W11 ⟨rfl, hq⟩
  have hp11 := hp10.out.trans (hq.mono s10)
  obtain ⟨k11, F11, V11, B11, s11⟩ := hcl.out W11 hp11
  have c0 := k11.cell 0
  have c1 := k11.cell 1
  have c2 := k11.cell 2
  have c3 := k11.cell 3
  replace k11 := Lib.hid k11
  replace F11 := Lib.hid F11
  replace V11 := Lib.hid V11
  replace B11 := Lib.hid B11
  replace hp11 := Lib.hid hp11
  clear hq
  go_wp2_with fail
  clear c0 c1 c2 c3
  refine (err2_erE 1 (by decide) W11 V11.out).mono ?_
  rintro e W12 ⟨rfl, hq⟩
  have hp12 := hp11.out.trans (hq.mono s11)
  obtain ⟨k12, F12, V12, B12, s12⟩ := hcl.out W12 hp12
  have c0 := k12.cell 0
  have c1 := k12.cell 1
  have c2 := k12.cell 2
  have c3 := k12.cell 3
  replace k12 := Lib.hid k12
  replace F12 := Lib.hid F12
  replace V12 := Lib.hid V12
  replace B12 := Lib.hid B12
  replace hp12 := Lib.hid hp12
  clear hq
  go_wp2_with fail
  clear c0 c1 c2 c3
  refine (ints_nil W12).mono ?_
  rintro e W13 ⟨rfl, hq⟩
  have hp13 := hp12.out.trans (hq.mono s12)
  obtain ⟨k13, F13, V13, B13, s13⟩ := hcl.out W13 hp13
  have c0 := k13.cell 0
  have c1 := k13.cell 1
  have c2 := k13.cell 2
  have c3 := k13.cell 3
  replace k13 := Lib.hid k13
  replace F13 := Lib.hid F13
  replace V13 := Lib.hid V13
  replace B13 := Lib.hid B13
  replace hp13 := Lib.hid hp13
  clear hq
  go_wp2_with fail
  go_ret
  exact ⟨rfl, B13.out⟩
set_option maxHeartbeats 6400000 in
set_option maxRecDepth 100000 in
theorem pathFinds_4 (s : SF) (f : GF) (a : Int) (b : Nat) (m : Int) (fl : Bool) (w : World) (hv : HV w) (h : FOk w s f) (hET0 : cellE f b = 0) (hEF0 : cellE f a ≠ 0) :
    Calls Tryd.prog 6 #[fA s f, .int .i64 a, .int .i64 b, .int .i64 m, .bool fl] w fun e w' => e = .returned (.bool true) ∧ Below w.heap.size w w' := by
  obtain ⟨i0, hi0, hz0, hz1, hz2⟩ := info_parts int_inf
  have H := Lib.hid h
  have HVH := Lib.hid hv
  clear h hv
  obtain ⟨hg9, _, hb9⟩ := cellE_in f b hET0
  have hbn : b < f.ground.length := by omega
  have hgl := hg9.len.1
  have hg := Lib.hid hg9
  have hFL := Lib.hid (faultL_b f a b hET0)
  have hET := Lib.hid hET0
  clear hET0 hg9
  have hEF := Lib.hid hEF0
  have ht2 : (cellE f a == 0) = false := by simpa using hEF0
  clear hEF0
  unfold fA
  go_enter Tryd.func6, Tryd.ntmps6
  go_wp2_with fail
  have hb1 : Below w.heap.size w (w.alloc (.cells #[.int .i64 f.wide, .int .i64 f.high, .slice s.ground.A f.ground.length s.ground.c, .slice s.ore.A f.ore.length s.ore.c] 25)) := (Below.refl _ _).alloc (Nat.le_refl _) _
  have hk1 := Blk.new w 25 #[.int .i64 f.wide, .int .i64 f.high, .slice s.ground.A f.ground.length s.ground.c, .slice s.ore.A f.ore.length s.ore.c]
  generalize w.alloc (.cells #[.int .i64 f.wide, .int .i64 f.high, .slice s.ground.A f.ground.length s.ground.c, .slice s.ore.A f.ore.length s.ore.c] 25) = W0 at *
  have hs1 := hb1.size
  have hlt1 := hk1.lt
  have hcl : ∀ w', Below W0.heap.size W0 w' → Blk w' w.heap.size 25 #[.int .i64 f.wide, .int .i64 f.high, .slice s.ground.A f.ground.length s.ground.c, .slice s.ore.A f.ore.length s.ore.c] ∧ FOk w' s f ∧ HV w' ∧ Below w.heap.size w w' ∧ W0.heap.size ≤ w'.heap.size := fun w' hb =>
    ⟨hk1.below hb hlt1, H.out.below (hb1.trans (hb.mono hs1)), HVH.out.below (hb1.trans (hb.mono hs1)), hb1.trans (hb.mono hs1), hb.size⟩
  replace hcl := Lib.hid hcl
  obtain ⟨_, F0, V0, _, s0⟩ := hcl.out W0 (Below.refl _ _)
  have hp0 := Lib.hid (Below.refl W0.heap.size W0)
  replace F0 := Lib.hid F0
  replace V0 := Lib.hid V0
  replace hk1 := Lib.hid hk1
  replace hb1 := Lib.hid hb1
  refine (rcell_any s f b W0 F0.out).mono ?_
  rintro e W1 ⟨rfl, hq⟩
  have hp1 := hp0.out.trans (hq.mono s0)
  obtain ⟨k1, F1, V1, B1, s1⟩ := hcl.out W1 hp1
  have c0 := k1.cell 0
  have c1 := k1.cell 1
  have c2 := k1.cell 2
  have c3 := k1.cell 3
  replace k1 := Lib.hid k1
  replace F1 := Lib.hid F1
  replace V1 := Lib.hid V1
  replace B1 := Lib.hid B1
  replace hp1 := Lib.hid hp1
  clear hq
  rw [hET.out]
  go_wp2_with fail
  clear c0 c1 c2 c3
  refine (rto_any s f b fl W1 F1.out hg.out hbn).mono ?_
  rintro e W2 ⟨g1, far, rfl, hd, _, bk1, hq⟩
  have hdl : far.length = f.ground.length := hd.len
  replace hd : Hid (DTo f fl b far) := Lib.hid hd
  replace bk1 := Lib.hid bk1
  replace hdl := Lib.hid hdl
  have hp2 := hp1.out.trans (hq.mono s1)
  obtain ⟨k2, F2, V2, B2, s2⟩ := hcl.out W2 hp2
  have c0 := k2.cell 0
  have c1 := k2.cell 1
  have c2 := k2.cell 2
  have c3 := k2.cell 3
  replace k2 := Lib.hid k2
  replace F2 := Lib.hid F2
  replace V2 := Lib.hid V2
  replace B2 := Lib.hid B2
  replace hp2 := Lib.hid hp2
  clear hq
  go_wp2_with fail
  clear c0 c1 c2 c3
  refine (far_ok s f b fl W2 F2.out hET.out).mono ?_
  rintro e W3 ⟨g2, far2, rfl, hd2, _, bk2, hq⟩
  rw [Dist.uniq hd2 hd.out] at bk2
  clear hd2
  replace bk2 := Lib.hid bk2
  replace bk1 := Lib.hid (bk1.out.below hq bk1.out.lt)
  have hp3 := hp2.out.trans (hq.mono s2)
  obtain ⟨k3, F3, V3, B3, s3⟩ := hcl.out W3 hp3
  have c0 := k3.cell 0
  have c1 := k3.cell 1
  have c2 := k3.cell 2
  have c3 := k3.cell 3
  replace k3 := Lib.hid k3
  replace F3 := Lib.hid F3
  replace V3 := Lib.hid V3
  replace B3 := Lib.hid B3
  replace hp3 := Lib.hid hp3
  clear hq
  go_wp2_with fail
  clear c0 c1 c2 c3
  refine (err2_nil W3 V3.out).mono ?_
  rintro e W4 ⟨rfl, hq⟩
  replace bk1 := Lib.hid (bk1.out.below hq bk1.out.lt)
  replace bk2 := Lib.hid (bk2.out.below hq bk2.out.lt)
  have hp4 := hp3.out.trans (hq.mono s3)
  obtain ⟨k4, F4, V4, B4, s4⟩ := hcl.out W4 hp4
  have c0 := k4.cell 0
  have c1 := k4.cell 1
  have c2 := k4.cell 2
  have c3 := k4.cell 3
  replace k4 := Lib.hid k4
  replace F4 := Lib.hid F4
  replace V4 := Lib.hid V4
  replace B4 := Lib.hid B4
  replace hp4 := Lib.hid hp4
  clear hq
  go_wp2_with fail
  clear c0 c1 c2 c3
  refine (ints_same (some ⟨g2, 0, none⟩) (some ⟨g1, 0, none⟩) f.ground.length f.ground.length f.ground.length far W4 hdl.out bk2.out.rdI bk1.out.rdI (by omega)).mono ?_
  rintro e W5 ⟨rfl, hq⟩
  replace bk1 := Lib.hid (bk1.out.below hq bk1.out.lt)
  replace bk2 := Lib.hid (bk2.out.below hq bk2.out.lt)
  have hp5 := hp4.out.trans (hq.mono s4)
  obtain ⟨k5, F5, V5, B5, s5⟩ := hcl.out W5 hp5
  have c0 := k5.cell 0
  have c1 := k5.cell 1
  have c2 := k5.cell 2
  have c3 := k5.cell 3
  replace k5 := Lib.hid k5
  replace F5 := Lib.hid F5
  replace V5 := Lib.hid V5
  replace B5 := Lib.hid B5
  replace hp5 := Lib.hid hp5
  clear hq
  go_wp2_with fail
  clear c0 c1 c2 c3
  refine (rcell_any s f a W5 F5.out).mono ?_
  rintro e W6 ⟨rfl, hq⟩
  replace bk1 := Lib.hid (bk1.out.below hq bk1.out.lt)
  have hp6 := hp5.out.trans (hq.mono s5)
  obtain ⟨k6, F6, V6, B6, s6⟩ := hcl.out W6 hp6
  have c0 := k6.cell 0
  have c1 := k6.cell 1
  have c2 := k6.cell 2
  have c3 := k6.cell 3
  replace k6 := Lib.hid k6
  replace F6 := Lib.hid F6
  replace V6 := Lib.hid V6
  replace B6 := Lib.hid B6
  replace hp6 := Lib.hid hp6
  clear hq
  go_wp2_with fail
  clear c0 c1 c2 c3
  refine (nxt_no s f a b fl W6 F6.out (by rw [hFL.out]; exact hEF.out)).mono ?_
  rintro e W7 ⟨rfl, hq⟩
  replace bk1 := Lib.hid (bk1.out.below hq bk1.out.lt)
  have hp7 := hp6.out.trans (hq.mono s6)
  obtain ⟨k7, F7, V7, B7, s7⟩ := hcl.out W7 hp7
  have c0 := k7.cell 0
  have c1 := k7.cell 1
  have c2 := k7.cell 2
  have c3 := k7.cell 3
  replace k7 := Lib.hid k7
  replace F7 := Lib.hid F7
  replace V7 := Lib.hid V7
  replace B7 := Lib.hid B7
  replace hp7 := Lib.hid hp7
  clear hq
  rw [hFL.out]
  go_wp2_with fail
  clear c0 c1 c2 c3
  refine (err2_erE (cellE f a) hEF.out W7 V7.out).mono ?_
  rintro e W8 ⟨rfl, hq⟩
  replace bk1 := Lib.hid (bk1.out.below hq bk1.out.lt)
  have hp8 := hp7.out.trans (hq.mono s7)
  obtain ⟨k8, F8, V8, B8, s8⟩ := hcl.out W8 hp8
  have c0 := k8.cell 0
  have c1 := k8.cell 1
  have c2 := k8.cell 2
  have c3 := k8.cell 3
  replace k8 := Lib.hid k8
  replace F8 := Lib.hid F8
  replace V8 := Lib.hid V8
  replace B8 := Lib.hid B8
  replace hp8 := Lib.hid hp8
  clear hq
  go_wp2_with fail
  clear c0 c1 c2 c3
  refine (path_no s f a b fl W8 F8.out (by rw [hFL.out]; exact hEF.out)).mono ?_
  rintro e W9 ⟨rfl, hq⟩
  replace bk1 := Lib.hid (bk1.out.below hq bk1.out.lt)
  have hp9 := hp8.out.trans (hq.mono s8)
  obtain ⟨k9, F9, V9, B9, s9⟩ := hcl.out W9 hp9
  have c0 := k9.cell 0
  have c1 := k9.cell 1
  have c2 := k9.cell 2
  have c3 := k9.cell 3
  replace k9 := Lib.hid k9
  replace F9 := Lib.hid F9
  replace V9 := Lib.hid V9
  replace B9 := Lib.hid B9
  replace hp9 := Lib.hid hp9
  clear hq
  rw [hFL.out]
  go_wp2_with fail
  clear c0 c1 c2 c3
  refine (err2_erE (cellE f a) hEF.out W9 V9.out).mono ?_
  rintro e W10 ⟨rfl, hq⟩
  replace bk1 := Lib.hid (bk1.out.below hq bk1.out.lt)
  have hp10 := hp9.out.trans (hq.mono s9)
  obtain ⟨k10, F10, V10, B10, s10⟩ := hcl.out W10 hp10
  have c0 := k10.cell 0
  have c1 := k10.cell 1
  have c2 := k10.cell 2
  have c3 := k10.cell 3
  replace k10 := Lib.hid k10
  replace F10 := Lib.hid F10
  replace V10 := Lib.hid V10
  replace B10 := Lib.hid B10
  replace hp10 := Lib.hid hp10
  clear hq
  go_wp2_with fail
  clear c0 c1 c2 c3
  refine (ints_nil W10).mono ?_
  rintro e W11 ⟨rfl, hq⟩
  replace bk1 := Lib.hid (bk1.out.below hq bk1.out.lt)
  have hp11 := hp10.out.trans (hq.mono s10)
  obtain ⟨k11, F11, V11, B11, s11⟩ := hcl.out W11 hp11
  have c0 := k11.cell 0
  have c1 := k11.cell 1
  have c2 := k11.cell 2
  have c3 := k11.cell 3
  replace k11 := Lib.hid k11
  replace F11 := Lib.hid F11
  replace V11 := Lib.hid V11
  replace B11 := Lib.hid B11
  replace hp11 := Lib.hid hp11
  clear hq
  go_wp2_with fail
  clear c0 c1 c2 c3
  refine (rcell_any s f a W11 F11.out).mono ?_
  rintro e W12 ⟨rfl, hq⟩
  replace bk1 := Lib.hid (bk1.out.below hq bk1.out.lt)
  have hp12 := hp11.out.trans (hq.mono s11)
  obtain ⟨k12, F12, V12, B12, s12⟩ := hcl.out W12 hp12
  have c0 := k12.cell 0
  have c1 := k12.cell 1
  have c2 := k12.cell 2
  have c3 := k12.cell 3
  replace k12 := Lib.hid k12
  replace F12 := Lib.hid F12
  replace V12 := Lib.hid V12
  replace B12 := Lib.hid B12
  replace hp12 := Lib.hid hp12
  clear hq
  go_wp2_with fail
  clear c0 c1 c2 c3
  go_loopw [25, 26, 27] (fun vl _ _ wr => vl = .slice none 0 0 ∧ W12 = wr) (fun _ _ _ _ => 0)
  case atStart => exact ⟨rfl, rfl⟩
  case round =>
  obtain ⟨rfl, rfl⟩ := hrel
  have c0 := k12.out.cell 0
  have c1 := k12.out.cell 1
  have c2 := k12.out.cell 2
  have c3 := k12.out.cell 3
  go_wp2_with fail
  clear c0 c1 c2 c3
  refine (reach_no s f a m fl W12 F12.out hEF.out).mono ?_
  rintro e W13 ⟨rfl, hq⟩
  replace bk1 := Lib.hid (bk1.out.below hq bk1.out.lt)
  have hp13 := hp12.out.trans (hq.mono s12)
  obtain ⟨k13, F13, V13, B13, s13⟩ := hcl.out W13 hp13
  have c0 := k13.cell 0
  have c1 := k13.cell 1
  have c2 := k13.cell 2
  have c3 := k13.cell 3
  replace k13 := Lib.hid k13
  replace F13 := Lib.hid F13
  replace V13 := Lib.hid V13
  replace B13 := Lib.hid B13
  replace hp13 := Lib.hid hp13
  clear hq
  go_wp2_with fail
  clear c0 c1 c2 c3
  refine (err2_erE (cellE f a) hEF.out W13 V13.out).mono ?_
  rintro e W14 ⟨rfl, hq⟩
  replace bk1 := Lib.hid (bk1.out.below hq bk1.out.lt)
  have hp14 := hp13.out.trans (hq.mono s13)
  obtain ⟨k14, F14, V14, B14, s14⟩ := hcl.out W14 hp14
  have c0 := k14.cell 0
  have c1 := k14.cell 1
  have c2 := k14.cell 2
  have c3 := k14.cell 3
  replace k14 := Lib.hid k14
  replace F14 := Lib.hid F14
  replace V14 := Lib.hid V14
  replace B14 := Lib.hid B14
  replace hp14 := Lib.hid hp14
  clear hq
  go_wp2_with fail
  clear c0 c1 c2 c3
  refine (ints_nil W14).mono ?_
  rintro e W15 ⟨rfl, hq⟩
  replace bk1 := Lib.hid (bk1.out.below hq bk1.out.lt)
  have hp15 := hp14.out.trans (hq.mono s14)
  obtain ⟨k15, F15, V15, B15, s15⟩ := hcl.out W15 hp15
  have c0 := k15.cell 0
  have c1 := k15.cell 1
  have c2 := k15.cell 2
  have c3 := k15.cell 3
  replace k15 := Lib.hid k15
  replace F15 := Lib.hid F15
  replace V15 := Lib.hid V15
  replace B15 := Lib.hid B15
  replace hp15 := Lib.hid hp15
  clear hq
  go_wp2_with fail
  go_ret
  exact ⟨rfl, B15.out⟩
end Go.Proofs.YtkkdegcbikjebaaDoor
