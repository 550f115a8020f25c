import Derived.Test.YtkkdegcbikjebaaDoorRefNear
import Derived.Test.YtkkdegcbikjebaaDoorRefPrint
import Derived.Test.YtkkdegcbikjebaaDoorPrint
import Derived.Test.YtkkdegcbikjebaaDoorInts
import Derived.Test.YtkkdegcbikjebaaDoorTold
namespace Go.Proofs.YtkkdegcbikjebaaDoor
set_option linter.unusedVariables false
open Go.RowKit
theorem err2_errV (k : Int) (w : World) (hv : HV w) : Calls Tryd.prog 11 #[errV k, .int .i64 k] w fun e w' => e = .returned (.bool true) ∧ Below w.heap.size w w' := error_same k w hv
theorem err2_erE (k : Int) (hk : k ≠ 0) (w : World) (hv : HV w) : Calls Tryd.prog 11 #[erE k, .int .i64 k] w fun e w' => e = .returned (.bool true) ∧ Below w.heap.size w w' := by
  have := error_same k w hv
  unfold errT at this
  rw [if_neg hk] at this
  exact this
theorem err2_nil (w : World) (hv : HV w) : Calls Tryd.prog 11 #[.nilIface, .int .i64 0] w fun e w' => e = .returned (.bool true) ∧ Below w.heap.size w w' := error_same 0 w hv
theorem good_g {f : GF} (hg : Good f) (k : Nat) : 0 ≤ gAt f k ∧ gAt f k ≤ 3 := by
  have := hg.ores k
  exact ⟨this.2.2.2.1, this.2.2.2.2⟩
set_option maxHeartbeats 6400000 in
set_option maxRecDepth 100000 in
theorem fieldChecks_a (s : SF) (f : GF) (a : Int) (fl : Bool) (w : World) (hv : HV w) (h : FOk w s f) (hE0 : fieldE f ≠ 0) :
    Calls Tryd.prog 5 #[fA s f, .int .i64 a, .bool fl] w fun e w' => e = .returned (.bool true) ∧ Below w.heap.size w w' := by
  have H := Lib.hid h
  have HVH := Lib.hid hv
  clear h hv
  have hE := Lib.hid hE0
  have hC := Lib.hid (show cellE f a = fieldE f from if_pos hE0)
  clear hE0
  unfold fA
  go_enter Tryd.func5, Tryd.ntmps5
  go_wp2_with fail
  have hb1 : Below w.heap.size w (w.alloc (.cells #[.int .i64 f.wide, .int .i64 f.high, .slice s.ground.A f.ground.length s.ground.c, .slice s.ore.A f.ore.length s.ore.c] 25)) := (Below.refl _ _).alloc (Nat.le_refl _) _
  have hk1 := Blk.new w 25 #[.int .i64 f.wide, .int .i64 f.high, .slice s.ground.A f.ground.length s.ground.c, .slice s.ore.A f.ore.length s.ore.c]
  generalize w.alloc (.cells #[.int .i64 f.wide, .int .i64 f.high, .slice s.ground.A f.ground.length s.ground.c, .slice s.ore.A f.ore.length s.ore.c] 25) = W0 at *
  have hs1 := hb1.size
  have hlt1 := hk1.lt
  have hcl : ∀ w', Below W0.heap.size W0 w' → Blk w' w.heap.size 25 #[.int .i64 f.wide, .int .i64 f.high, .slice s.ground.A f.ground.length s.ground.c, .slice s.ore.A f.ore.length s.ore.c] ∧ FOk w' s f ∧ HV w' ∧ Below w.heap.size w w' ∧ W0.heap.size ≤ w'.heap.size := fun w' hb =>
    ⟨hk1.below hb hlt1, H.out.below (hb1.trans (hb.mono hs1)), HVH.out.below (hb1.trans (hb.mono hs1)), hb1.trans (hb.mono hs1), hb.size⟩
  replace hcl := Lib.hid hcl
  obtain ⟨_, F0, V0, _, s0⟩ := hcl.out W0 (Below.refl _ _)
  have hp0 := Lib.hid (Below.refl W0.heap.size W0)
  replace F0 := Lib.hid F0
  replace V0 := Lib.hid V0
  replace hk1 := Lib.hid hk1
  replace hb1 := Lib.hid hb1
  refine (rfield_any s f W0 F0.out).mono ?_
  rintro e W1 ⟨rfl, hq⟩
  have hp1 := hp0.out.trans (hq.mono s0)
  obtain ⟨k1, F1, V1, B1, s1⟩ := hcl.out W1 hp1
  have c0 := k1.cell 0
  have c1 := k1.cell 1
  have c2 := k1.cell 2
  have c3 := k1.cell 3
  replace k1 := Lib.hid k1
  replace F1 := Lib.hid F1
  replace V1 := Lib.hid V1
  replace B1 := Lib.hid B1
  replace hp1 := Lib.hid hp1
  clear hq
  have hz : (fieldE f == 0) = false := by simpa using hE.out
  go_wp2_with fail
  clear c0 c1 c2 c3
  refine (fcheck_any s f W1 F1.out).mono ?_
  rintro e W2 ⟨rfl, hq⟩
  have hp2 := hp1.out.trans (hq.mono s1)
  obtain ⟨k2, F2, V2, B2, s2⟩ := hcl.out W2 hp2
  have c0 := k2.cell 0
  have c1 := k2.cell 1
  have c2 := k2.cell 2
  have c3 := k2.cell 3
  replace k2 := Lib.hid k2
  replace F2 := Lib.hid F2
  replace V2 := Lib.hid V2
  replace B2 := Lib.hid B2
  replace hp2 := Lib.hid hp2
  clear hq
  go_wp2_with fail
  clear c0 c1 c2 c3
  refine (err2_errV (fieldE f) W2 V2.out).mono ?_
  rintro e W3 ⟨rfl, hq⟩
  have hp3 := hp2.out.trans (hq.mono s2)
  obtain ⟨k3, F3, V3, B3, s3⟩ := hcl.out W3 hp3
  have c0 := k3.cell 0
  have c1 := k3.cell 1
  have c2 := k3.cell 2
  have c3 := k3.cell 3
  replace k3 := Lib.hid k3
  replace F3 := Lib.hid F3
  replace V3 := Lib.hid V3
  replace B3 := Lib.hid B3
  replace hp3 := Lib.hid hp3
  clear hq
  go_wp2_with fail
  clear c0 c1 c2 c3
  refine (print_no s f W3 F3.out hE.out).mono ?_
  rintro e W4 ⟨rfl, hq⟩
  have hp4 := hp3.out.trans (hq.mono s3)
  obtain ⟨k4, F4, V4, B4, s4⟩ := hcl.out W4 hp4
  have c0 := k4.cell 0
  have c1 := k4.cell 1
  have c2 := k4.cell 2
  have c3 := k4.cell 3
  replace k4 := Lib.hid k4
  replace F4 := Lib.hid F4
  replace V4 := Lib.hid V4
  replace B4 := Lib.hid B4
  replace hp4 := Lib.hid hp4
  clear hq
  go_wp2_with fail
  clear c0 c1 c2 c3
  refine (err2_erE (fieldE f) hE.out W4 V4.out).mono ?_
  rintro e W5 ⟨rfl, hq⟩
  have hp5 := hp4.out.trans (hq.mono s4)
  obtain ⟨k5, F5, V5, B5, s5⟩ := hcl.out W5 hp5
  have c0 := k5.cell 0
  have c1 := k5.cell 1
  have c2 := k5.cell 2
  have c3 := k5.cell 3
  replace k5 := Lib.hid k5
  replace F5 := Lib.hid F5
  replace V5 := Lib.hid V5
  replace B5 := Lib.hid B5
  replace hp5 := Lib.hid hp5
  clear hq
  go_wp2_with fail
  clear c0 c1 c2 c3
  refine (rcell_any s f a W5 F5.out).mono ?_
  rintro e W6 ⟨rfl, hq⟩
  have hp6 := hp5.out.trans (hq.mono s5)
  obtain ⟨k6, F6, V6, B6, s6⟩ := hcl.out W6 hp6
  have c0 := k6.cell 0
  have c1 := k6.cell 1
  have c2 := k6.cell 2
  have c3 := k6.cell 3
  replace k6 := Lib.hid k6
  replace F6 := Lib.hid F6
  replace V6 := Lib.hid V6
  replace B6 := Lib.hid B6
  replace hp6 := Lib.hid hp6
  clear hq
  rw [hC.out]
  go_wp2_with fail
  clear c0 c1 c2 c3
  refine (near_no s f a W6 F6.out (by rw [hC.out]; exact hE.out)).mono ?_
  rintro e W7 ⟨rfl, hq⟩
  have hp7 := hp6.out.trans (hq.mono s6)
  obtain ⟨k7, F7, V7, B7, s7⟩ := hcl.out W7 hp7
  have c0 := k7.cell 0
  have c1 := k7.cell 1
  have c2 := k7.cell 2
  have c3 := k7.cell 3
  replace k7 := Lib.hid k7
  replace F7 := Lib.hid F7
  replace V7 := Lib.hid V7
  replace B7 := Lib.hid B7
  replace hp7 := Lib.hid hp7
  clear hq
  rw [hC.out]
  go_wp2_with fail
  clear c0 c1 c2 c3
  refine (err2_erE (fieldE f) hE.out W7 V7.out).mono ?_
  rintro e W8 ⟨rfl, hq⟩
  have hp8 := hp7.out.trans (hq.mono s7)
  obtain ⟨k8, F8, V8, B8, s8⟩ := hcl.out W8 hp8
  have c0 := k8.cell 0
  have c1 := k8.cell 1
  have c2 := k8.cell 2
  have c3 := k8.cell 3
  replace k8 := Lib.hid k8
  replace F8 := Lib.hid F8
  replace V8 := Lib.hid V8
  replace B8 := Lib.hid B8
  replace hp8 := Lib.hid hp8
  clear hq
  go_wp2_with fail
  clear c0 c1 c2 c3
  refine (step_no s f a fl W8 F8.out (by rw [hC.out]; exact hE.out)).mono ?_
  rintro e W9 ⟨rfl, hq⟩
  have hp9 := hp8.out.trans (hq.mono s8)
  obtain ⟨k9, F9, V9, B9, s9⟩ := hcl.out W9 hp9
  have c0 := k9.cell 0
  have c1 := k9.cell 1
  have c2 := k9.cell 2
  have c3 := k9.cell 3
  replace k9 := Lib.hid k9
  replace F9 := Lib.hid F9
  replace V9 := Lib.hid V9
  replace B9 := Lib.hid B9
  replace hp9 := Lib.hid hp9
  clear hq
  rw [hC.out]
  go_wp2_with fail
  clear c0 c1 c2 c3
  refine (err2_erE (fieldE f) hE.out W9 V9.out).mono ?_
  rintro e W10 ⟨rfl, hq⟩
  have hp10 := hp9.out.trans (hq.mono s9)
  obtain ⟨k10, F10, V10, B10, s10⟩ := hcl.out W10 hp10
  have c0 := k10.cell 0
  have c1 := k10.cell 1
  have c2 := k10.cell 2
  have c3 := k10.cell 3
  replace k10 := Lib.hid k10
  replace F10 := Lib.hid F10
  replace V10 := Lib.hid V10
  replace B10 := Lib.hid B10
  replace hp10 := Lib.hid hp10
  clear hq
  go_wp2_with fail
  clear c0 c1 c2 c3
  refine (ints_any none none 0 0 W10.heap.size [] [] W10 RD.nil_ RD.nil_ (by simp)).mono ?_
  rintro e w' ⟨q, rfl, rfl⟩
  rw [eqL_yes rfl]
  have hfin := bdrewN B10.out q
  replace hfin := Lib.hid hfin
  go_wp2_with fail
  go_ret
  exact ⟨rfl, hfin.out⟩
set_option maxHeartbeats 6400000 in
set_option maxRecDepth 100000 in
theorem fieldChecks_b (s : SF) (f : GF) (a : Int) (fl : Bool) (w : World) (hv : HV w) (h : FOk w s f) (hE0 : fieldE f = 0) (hC0 : cellE f a = 6) :
    Calls Tryd.prog 5 #[fA s f, .int .i64 a, .bool fl] w fun e w' => e = .returned (.bool true) ∧ Below w.heap.size w w' := by
  have H := Lib.hid h
  have HVH := Lib.hid hv
  clear h hv
  have hE := Lib.hid hE0
  have hC := Lib.hid hC0
  clear hE0 hC0
  unfold fA
  go_enter Tryd.func5, Tryd.ntmps5
  go_wp2_with fail
  have hb1 : Below w.heap.size w (w.alloc (.cells #[.int .i64 f.wide, .int .i64 f.high, .slice s.ground.A f.ground.length s.ground.c, .slice s.ore.A f.ore.length s.ore.c] 25)) := (Below.refl _ _).alloc (Nat.le_refl _) _
  have hk1 := Blk.new w 25 #[.int .i64 f.wide, .int .i64 f.high, .slice s.ground.A f.ground.length s.ground.c, .slice s.ore.A f.ore.length s.ore.c]
  generalize w.alloc (.cells #[.int .i64 f.wide, .int .i64 f.high, .slice s.ground.A f.ground.length s.ground.c, .slice s.ore.A f.ore.length s.ore.c] 25) = W0 at *
  have hs1 := hb1.size
  have hlt1 := hk1.lt
  have hcl : ∀ w', Below W0.heap.size W0 w' → Blk w' w.heap.size 25 #[.int .i64 f.wide, .int .i64 f.high, .slice s.ground.A f.ground.length s.ground.c, .slice s.ore.A f.ore.length s.ore.c] ∧ FOk w' s f ∧ HV w' ∧ Below w.heap.size w w' ∧ W0.heap.size ≤ w'.heap.size := fun w' hb =>
    ⟨hk1.below hb hlt1, H.out.below (hb1.trans (hb.mono hs1)), HVH.out.below (hb1.trans (hb.mono hs1)), hb1.trans (hb.mono hs1), hb.size⟩
  replace hcl := Lib.hid hcl
  obtain ⟨_, F0, V0, _, s0⟩ := hcl.out W0 (Below.refl _ _)
  have hp0 := Lib.hid (Below.refl W0.heap.size W0)
  replace F0 := Lib.hid F0
  replace V0 := Lib.hid V0
  replace hk1 := Lib.hid hk1
  replace hb1 := Lib.hid hb1
  refine (rfield_any s f W0 F0.out).mono ?_
  rintro e W1 ⟨rfl, hq⟩
  have hp1 := hp0.out.trans (hq.mono s0)
  obtain ⟨k1, F1, V1, B1, s1⟩ := hcl.out W1 hp1
  have c0 := k1.cell 0
  have c1 := k1.cell 1
  have c2 := k1.cell 2
  have c3 := k1.cell 3
  replace k1 := Lib.hid k1
  replace F1 := Lib.hid F1
  replace V1 := Lib.hid V1
  replace B1 := Lib.hid B1
  replace hp1 := Lib.hid hp1
  clear hq
  rw [hE.out]
  go_wp2_with fail
  clear c0 c1 c2 c3
  refine (fcheck_any s f W1 F1.out).mono ?_
  rintro e W2 ⟨rfl, hq⟩
  have hp2 := hp1.out.trans (hq.mono s1)
  obtain ⟨k2, F2, V2, B2, s2⟩ := hcl.out W2 hp2
  have c0 := k2.cell 0
  have c1 := k2.cell 1
  have c2 := k2.cell 2
  have c3 := k2.cell 3
  replace k2 := Lib.hid k2
  replace F2 := Lib.hid F2
  replace V2 := Lib.hid V2
  replace B2 := Lib.hid B2
  replace hp2 := Lib.hid hp2
  clear hq
  rw [hE.out, errV0]
  go_wp2_with fail
  clear c0 c1 c2 c3
  refine (err2_nil W2 V2.out).mono ?_
  rintro e W3 ⟨rfl, hq⟩
  have hp3 := hp2.out.trans (hq.mono s2)
  obtain ⟨k3, F3, V3, B3, s3⟩ := hcl.out W3 hp3
  have c0 := k3.cell 0
  have c1 := k3.cell 1
  have c2 := k3.cell 2
  have c3 := k3.cell 3
  replace k3 := Lib.hid k3
  replace F3 := Lib.hid F3
  replace V3 := Lib.hid V3
  replace B3 := Lib.hid B3
  replace hp3 := Lib.hid hp3
  clear hq
  go_wp2_with fail
  clear c0 c1 c2 c3
  refine (rprint_any s f W3 F3.out hE.out).mono ?_
  rintro e W4 ⟨rfl, hq⟩
  have hp4 := hp3.out.trans (hq.mono s3)
  obtain ⟨k4, F4, V4, B4, s4⟩ := hcl.out W4 hp4
  have c0 := k4.cell 0
  have c1 := k4.cell 1
  have c2 := k4.cell 2
  have c3 := k4.cell 3
  replace k4 := Lib.hid k4
  replace F4 := Lib.hid F4
  replace V4 := Lib.hid V4
  replace B4 := Lib.hid B4
  replace hp4 := Lib.hid hp4
  clear hq
  go_wp2_with fail
  clear c0 c1 c2 c3
  refine (print_ok s f W4 F4.out hE.out).mono ?_
  rintro e W5 ⟨rfl, hq⟩
  have hp5 := hp4.out.trans (hq.mono s4)
  obtain ⟨k5, F5, V5, B5, s5⟩ := hcl.out W5 hp5
  have c0 := k5.cell 0
  have c1 := k5.cell 1
  have c2 := k5.cell 2
  have c3 := k5.cell 3
  replace k5 := Lib.hid k5
  replace F5 := Lib.hid F5
  replace V5 := Lib.hid V5
  replace B5 := Lib.hid B5
  replace hp5 := Lib.hid hp5
  clear hq
  go_wp2_with fail
  clear c0 c1 c2 c3
  refine (err2_nil W5 V5.out).mono ?_
  rintro e W6 ⟨rfl, hq⟩
  have hp6 := hp5.out.trans (hq.mono s5)
  obtain ⟨k6, F6, V6, B6, s6⟩ := hcl.out W6 hp6
  have c0 := k6.cell 0
  have c1 := k6.cell 1
  have c2 := k6.cell 2
  have c3 := k6.cell 3
  replace k6 := Lib.hid k6
  replace F6 := Lib.hid F6
  replace V6 := Lib.hid V6
  replace B6 := Lib.hid B6
  replace hp6 := Lib.hid hp6
  clear hq
  go_wp2_with fail
  clear c0 c1 c2 c3
  refine (rcell_any s f a W6 F6.out).mono ?_
  rintro e W7 ⟨rfl, hq⟩
  have hp7 := hp6.out.trans (hq.mono s6)
  obtain ⟨k7, F7, V7, B7, s7⟩ := hcl.out W7 hp7
  have c0 := k7.cell 0
  have c1 := k7.cell 1
  have c2 := k7.cell 2
  have c3 := k7.cell 3
  replace k7 := Lib.hid k7
  replace F7 := Lib.hid F7
  replace V7 := Lib.hid V7
  replace B7 := Lib.hid B7
  replace hp7 := Lib.hid hp7
  clear hq
  rw [hC.out]
  go_wp2_with fail
  clear c0 c1 c2 c3
  refine (near_no s f a W7 F7.out (by rw [hC.out]; decide)).mono ?_
  rintro e W8 ⟨rfl, hq⟩
  have hp8 := hp7.out.trans (hq.mono s7)
  obtain ⟨k8, F8, V8, B8, s8⟩ := hcl.out W8 hp8
  have c0 := k8.cell 0
  have c1 := k8.cell 1
  have c2 := k8.cell 2
  have c3 := k8.cell 3
  replace k8 := Lib.hid k8
  replace F8 := Lib.hid F8
  replace V8 := Lib.hid V8
  replace B8 := Lib.hid B8
  replace hp8 := Lib.hid hp8
  clear hq
  rw [hC.out]
  go_wp2_with fail
  clear c0 c1 c2 c3
  refine (err2_erE 6 (by decide) W8 V8.out).mono ?_
  rintro e W9 ⟨rfl, hq⟩
  have hp9 := hp8.out.trans (hq.mono s8)
  obtain ⟨k9, F9, V9, B9, s9⟩ := hcl.out W9 hp9
  have c0 := k9.cell 0
  have c1 := k9.cell 1
  have c2 := k9.cell 2
  have c3 := k9.cell 3
  replace k9 := Lib.hid k9
  replace F9 := Lib.hid F9
  replace V9 := Lib.hid V9
  replace B9 := Lib.hid B9
  replace hp9 := Lib.hid hp9
  clear hq
  go_wp2_with fail
  clear c0 c1 c2 c3
  refine (step_no s f a fl W9 F9.out (by rw [hC.out]; decide)).mono ?_
  rintro e W10 ⟨rfl, hq⟩
  have hp10 := hp9.out.trans (hq.mono s9)
  obtain ⟨k10, F10, V10, B10, s10⟩ := hcl.out W10 hp10
  have c0 := k10.cell 0
  have c1 := k10.cell 1
  have c2 := k10.cell 2
  have c3 := k10.cell 3
  replace k10 := Lib.hid k10
  replace F10 := Lib.hid F10
  replace V10 := Lib.hid V10
  replace B10 := Lib.hid B10
  replace hp10 := Lib.hid hp10
  clear hq
  rw [hC.out]
  go_wp2_with fail
  clear c0 c1 c2 c3
  refine (err2_erE 6 (by decide) W10 V10.out).mono ?_
  rintro e W11 ⟨rfl, hq⟩
  have hp11 := hp10.out.trans (hq.mono s10)
  obtain ⟨k11, F11, V11, B11, s11⟩ := hcl.out W11 hp11
  have c0 := k11.cell 0
  have c1 := k11.cell 1
  have c2 := k11.cell 2
  have c3 := k11.cell 3
  replace k11 := Lib.hid k11
  replace F11 := Lib.hid F11
  replace V11 := Lib.hid V11
  replace B11 := Lib.hid B11
  replace hp11 := Lib.hid hp11
  clear hq
  go_wp2_with fail
  clear c0 c1 c2 c3
  refine (ints_any none none 0 0 W11.heap.size [] [] W11 RD.nil_ RD.nil_ (by simp)).mono ?_
  rintro e w' ⟨q, rfl, rfl⟩
  rw [eqL_yes rfl]
  have hfin := bdrewN B11.out q
  replace hfin := Lib.hid hfin
  go_wp2_with fail
  go_ret
  exact ⟨rfl, hfin.out⟩
set_option maxHeartbeats 6400000 in
set_option maxRecDepth 100000 in
theorem fieldChecks_c (s : SF) (f : GF) (t : Nat) (fl : Bool) (w : World) (hv : HV w) (h : FOk w s f) (hC0 : cellE f (t : Int) = 0) :
    Calls Tryd.prog 5 #[fA s f, .int .i64 t, .bool fl] w fun e w' => e = .returned (.bool true) ∧ Below w.heap.size w w' := by
  have H := Lib.hid h
  have HVH := Lib.hid hv
  clear h hv
  obtain ⟨hg0, ha0, ha1⟩ := cellE_in f t hC0
  have hE := Lib.hid (good_to f hg0)
  have hC := Lib.hid hC0
  have hat : Hid (0 ≤ (t : Int) ∧ (t : Int) < f.wide * f.high) := Lib.hid ⟨ha0, by rw [← hg0.lg]; exact ha1⟩
  have htn : t < f.ground.length := by omega
  have hg := Lib.hid hg0
  have hb4 := besL_len f (t : Int)
  clear hC0 hg0
  unfold fA
  go_enter Tryd.func5, Tryd.ntmps5
  go_wp2_with fail
  have hb1 : Below w.heap.size w (w.alloc (.cells #[.int .i64 f.wide, .int .i64 f.high, .slice s.ground.A f.ground.length s.ground.c, .slice s.ore.A f.ore.length s.ore.c] 25)) := (Below.refl _ _).alloc (Nat.le_refl _) _
  have hk1 := Blk.new w 25 #[.int .i64 f.wide, .int .i64 f.high, .slice s.ground.A f.ground.length s.ground.c, .slice s.ore.A f.ore.length s.ore.c]
  generalize w.alloc (.cells #[.int .i64 f.wide, .int .i64 f.high, .slice s.ground.A f.ground.length s.ground.c, .slice s.ore.A f.ore.length s.ore.c] 25) = W0 at *
  have hs1 := hb1.size
  have hlt1 := hk1.lt
  have hcl : ∀ w', Below W0.heap.size W0 w' → Blk w' w.heap.size 25 #[.int .i64 f.wide, .int .i64 f.high, .slice s.ground.A f.ground.length s.ground.c, .slice s.ore.A f.ore.length s.ore.c] ∧ FOk w' s f ∧ HV w' ∧ Below w.heap.size w w' ∧ W0.heap.size ≤ w'.heap.size := fun w' hb =>
    ⟨hk1.below hb hlt1, H.out.below (hb1.trans (hb.mono hs1)), HVH.out.below (hb1.trans (hb.mono hs1)), hb1.trans (hb.mono hs1), hb.size⟩
  replace hcl := Lib.hid hcl
  obtain ⟨_, F0, V0, _, s0⟩ := hcl.out W0 (Below.refl _ _)
  have hp0 := Lib.hid (Below.refl W0.heap.size W0)
  replace F0 := Lib.hid F0
  replace V0 := Lib.hid V0
  replace hk1 := Lib.hid hk1
  replace hb1 := Lib.hid hb1
  refine (rfield_any s f W0 F0.out).mono ?_
  rintro e W1 ⟨rfl, hq⟩
  have hp1 := hp0.out.trans (hq.mono s0)
  obtain ⟨k1, F1, V1, B1, s1⟩ := hcl.out W1 hp1
  have c0 := k1.cell 0
  have c1 := k1.cell 1
  have c2 := k1.cell 2
  have c3 := k1.cell 3
  replace k1 := Lib.hid k1
  replace F1 := Lib.hid F1
  replace V1 := Lib.hid V1
  replace B1 := Lib.hid B1
  replace hp1 := Lib.hid hp1
  clear hq
  rw [hE.out]
  go_wp2_with fail
  clear c0 c1 c2 c3
  refine (fcheck_any s f W1 F1.out).mono ?_
  rintro e W2 ⟨rfl, hq⟩
  have hp2 := hp1.out.trans (hq.mono s1)
  obtain ⟨k2, F2, V2, B2, s2⟩ := hcl.out W2 hp2
  have c0 := k2.cell 0
  have c1 := k2.cell 1
  have c2 := k2.cell 2
  have c3 := k2.cell 3
  replace k2 := Lib.hid k2
  replace F2 := Lib.hid F2
  replace V2 := Lib.hid V2
  replace B2 := Lib.hid B2
  replace hp2 := Lib.hid hp2
  clear hq
  rw [hE.out, errV0]
  go_wp2_with fail
  clear c0 c1 c2 c3
  refine (err2_nil W2 V2.out).mono ?_
  rintro e W3 ⟨rfl, hq⟩
  have hp3 := hp2.out.trans (hq.mono s2)
  obtain ⟨k3, F3, V3, B3, s3⟩ := hcl.out W3 hp3
  have c0 := k3.cell 0
  have c1 := k3.cell 1
  have c2 := k3.cell 2
  have c3 := k3.cell 3
  replace k3 := Lib.hid k3
  replace F3 := Lib.hid F3
  replace V3 := Lib.hid V3
  replace B3 := Lib.hid B3
  replace hp3 := Lib.hid hp3
  clear hq
  go_wp2_with fail
  clear c0 c1 c2 c3
  refine (rprint_any s f W3 F3.out hE.out).mono ?_
  rintro e W4 ⟨rfl, hq⟩
  have hp4 := hp3.out.trans (hq.mono s3)
  obtain ⟨k4, F4, V4, B4, s4⟩ := hcl.out W4 hp4
  have c0 := k4.cell 0
  have c1 := k4.cell 1
  have c2 := k4.cell 2
  have c3 := k4.cell 3
  replace k4 := Lib.hid k4
  replace F4 := Lib.hid F4
  replace V4 := Lib.hid V4
  replace B4 := Lib.hid B4
  replace hp4 := Lib.hid hp4
  clear hq
  go_wp2_with fail
  clear c0 c1 c2 c3
  refine (print_ok s f W4 F4.out hE.out).mono ?_
  rintro e W5 ⟨rfl, hq⟩
  have hp5 := hp4.out.trans (hq.mono s4)
  obtain ⟨k5, F5, V5, B5, s5⟩ := hcl.out W5 hp5
  have c0 := k5.cell 0
  have c1 := k5.cell 1
  have c2 := k5.cell 2
  have c3 := k5.cell 3
  replace k5 := Lib.hid k5
  replace F5 := Lib.hid F5
  replace V5 := Lib.hid V5
  replace B5 := Lib.hid B5
  replace hp5 := Lib.hid hp5
  clear hq
  go_wp2_with fail
  clear c0 c1 c2 c3
  refine (err2_nil W5 V5.out).mono ?_
  rintro e W6 ⟨rfl, hq⟩
  have hp6 := hp5.out.trans (hq.mono s5)
  obtain ⟨k6, F6, V6, B6, s6⟩ := hcl.out W6 hp6
  have c0 := k6.cell 0
  have c1 := k6.cell 1
  have c2 := k6.cell 2
  have c3 := k6.cell 3
  replace k6 := Lib.hid k6
  replace F6 := Lib.hid F6
  replace V6 := Lib.hid V6
  replace B6 := Lib.hid B6
  replace hp6 := Lib.hid hp6
  clear hq
  go_wp2_with fail
  clear c0 c1 c2 c3
  refine (rcell_any s f t W6 F6.out).mono ?_
  rintro e W7 ⟨rfl, hq⟩
  have hp7 := hp6.out.trans (hq.mono s6)
  obtain ⟨k7, F7, V7, B7, s7⟩ := hcl.out W7 hp7
  have c0 := k7.cell 0
  have c1 := k7.cell 1
  have c2 := k7.cell 2
  have c3 := k7.cell 3
  replace k7 := Lib.hid k7
  replace F7 := Lib.hid F7
  replace V7 := Lib.hid V7
  replace B7 := Lib.hid B7
  replace hp7 := Lib.hid hp7
  clear hq
  rw [hC.out]
  go_wp2_with fail
  clear c0 c1 c2 c3
  refine (rnear_any s f t W7 hg.out.wide hg.out.high hat.out).mono ?_
  rintro e W8 ⟨v, rfl, o1, hq⟩
  obtain ⟨A1, cc1, rfl, _⟩ := own_slice o1
  replace o1 := Lib.hid o1
  have hp8 := hp7.out.trans (hq.mono s7)
  obtain ⟨k8, F8, V8, B8, s8⟩ := hcl.out W8 hp8
  have c0 := k8.cell 0
  have c1 := k8.cell 1
  have c2 := k8.cell 2
  have c3 := k8.cell 3
  replace k8 := Lib.hid k8
  replace F8 := Lib.hid F8
  replace V8 := Lib.hid V8
  replace B8 := Lib.hid B8
  replace hp8 := Lib.hid hp8
  clear hq
  go_wp2_with fail
  clear c0 c1 c2 c3
  refine (ronto_any s f t fl W8 F8.out htn (good_g hg.out t)).mono ?_
  rintro e W9 ⟨rfl, hq⟩
  replace o1 := Lib.hid (own_below o1.out hq)
  have hp9 := hp8.out.trans (hq.mono s8)
  obtain ⟨k9, F9, V9, B9, s9⟩ := hcl.out W9 hp9
  have c0 := k9.cell 0
  have c1 := k9.cell 1
  have c2 := k9.cell 2
  have c3 := k9.cell 3
  replace k9 := Lib.hid k9
  replace F9 := Lib.hid F9
  replace V9 := Lib.hid V9
  replace B9 := Lib.hid B9
  replace hp9 := Lib.hid hp9
  clear hq
  go_wp2_with fail
  clear c0 c1 c2 c3
  refine (near_ok s f t W9 F9.out hC.out).mono ?_
  rintro e W10 ⟨A2, cc2, rfl, o2, hq⟩
  replace o2 := Lib.hid o2
  replace o1 := Lib.hid (own_below o1.out hq)
  have hp10 := hp9.out.trans (hq.mono s9)
  obtain ⟨k10, F10, V10, B10, s10⟩ := hcl.out W10 hp10
  have c0 := k10.cell 0
  have c1 := k10.cell 1
  have c2 := k10.cell 2
  have c3 := k10.cell 3
  replace k10 := Lib.hid k10
  replace F10 := Lib.hid F10
  replace V10 := Lib.hid V10
  replace B10 := Lib.hid B10
  replace hp10 := Lib.hid hp10
  clear hq
  go_wp2_with fail
  clear c0 c1 c2 c3
  refine (err2_nil W10 V10.out).mono ?_
  rintro e W11 ⟨rfl, hq⟩
  replace o1 := Lib.hid (own_below o1.out hq)
  replace o2 := Lib.hid (own_below o2.out hq)
  have hp11 := hp10.out.trans (hq.mono s10)
  obtain ⟨k11, F11, V11, B11, s11⟩ := hcl.out W11 hp11
  have c0 := k11.cell 0
  have c1 := k11.cell 1
  have c2 := k11.cell 2
  have c3 := k11.cell 3
  replace k11 := Lib.hid k11
  replace F11 := Lib.hid F11
  replace V11 := Lib.hid V11
  replace B11 := Lib.hid B11
  replace hp11 := Lib.hid hp11
  clear hq
  go_wp2_with fail
  clear c0 c1 c2 c3
  refine (step_ok s f t fl W11 F11.out hC.out).mono ?_
  rintro e W12 ⟨rfl, hq⟩
  replace o1 := Lib.hid (own_below o1.out hq)
  replace o2 := Lib.hid (own_below o2.out hq)
  have hp12 := hp11.out.trans (hq.mono s11)
  obtain ⟨k12, F12, V12, B12, s12⟩ := hcl.out W12 hp12
  have c0 := k12.cell 0
  have c1 := k12.cell 1
  have c2 := k12.cell 2
  have c3 := k12.cell 3
  replace k12 := Lib.hid k12
  replace F12 := Lib.hid F12
  replace V12 := Lib.hid V12
  replace B12 := Lib.hid B12
  replace hp12 := Lib.hid hp12
  clear hq
  go_wp2_with fail
  clear c0 c1 c2 c3
  refine (err2_nil W12 V12.out).mono ?_
  rintro e W13 ⟨rfl, hq⟩
  replace o1 := Lib.hid (own_below o1.out hq)
  replace o2 := Lib.hid (own_below o2.out hq)
  have hp13 := hp12.out.trans (hq.mono s12)
  obtain ⟨k13, F13, V13, B13, s13⟩ := hcl.out W13 hp13
  have c0 := k13.cell 0
  have c1 := k13.cell 1
  have c2 := k13.cell 2
  have c3 := k13.cell 3
  replace k13 := Lib.hid k13
  replace F13 := Lib.hid F13
  replace V13 := Lib.hid V13
  replace B13 := Lib.hid B13
  replace hp13 := Lib.hid hp13
  clear hq
  go_wp2_with fail
  clear c0 c1 c2 c3
  refine (ints_any A2 A1 cc2 cc1 W13.heap.size (besL f t) (besL f t) W13 (RD.of_own o2.out) (RD.of_own o1.out) (by omega)).mono ?_
  rintro e w' ⟨q, rfl, rfl⟩
  rw [eqL_yes rfl]
  have hfin := bdrewN B13.out q
  replace hfin := Lib.hid hfin
  go_wp2_with fail
  go_ret
  exact ⟨rfl, hfin.out⟩
theorem cellE_6 (f : GF) (a : Int) (h : fieldE f = 0) (hc : cellE f a ≠ 0) : cellE f a = 6 := by
  unfold cellE at *
  rw [if_neg (by simp [h])] at *
  split
  · rfl
  · rename_i h2; rw [if_neg h2] at hc; exact absurd rfl hc
theorem fieldChecks_walk (v0 : Value) (x0 : SF × GF) (a1 : Int) (b2 : Bool) (w : World) (hv : HV w) (w0 : v0 = .agg (fV x0.1 x0.2).toArray ∧ FOk w x0.1 x0.2) (w1 : (Lit.int .i64 a1).wf = true) :
    Calls Tryd.prog 5 #[v0, .int .i64 a1, .bool b2] w fun e w' => e = .returned (.bool true) ∧ Below w.heap.size w w' := by
  obtain ⟨s, f⟩ := x0
  obtain ⟨rfl, h⟩ := w0
  by_cases hE : fieldE f = 0
  · by_cases hC : cellE f a1 = 0
    · obtain ⟨_, ha0, _⟩ := cellE_in f a1 hC
      obtain ⟨t, rfl⟩ : ∃ t : Nat, a1 = (t : Int) := ⟨a1.toNat, by omega⟩
      exact fieldChecks_c s f t b2 w hv h hC
    · exact fieldChecks_b s f a1 b2 w hv h hE (cellE_6 f a1 hE hC)
  · exact fieldChecks_a s f a1 b2 w hv h hE
end Go.Proofs.YtkkdegcbikjebaaDoor
