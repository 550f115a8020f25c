import Derived.Test.YtkgkpggfoieioaaGreatDoorBeginsB
namespace Go.Proofs.YtkgkpggfoieioaaGreatDoor
set_option linter.unusedVariables false
open Go.RowKit
/-! WorldBegins, from world.New on. -/
set_option maxHeartbeats 51200000 in
set_option maxRecDepth 100000 in
theorem begins_C (sK : SL) (L : List GK) (sf : SF) (f : GF) (n g : Int) (s : SW) (x : GW) (p k a : Int) (w : World) (i0 : TypeInfo) (hi0 : Tryz.prog.info? 3 = some i0) (hz0 : i0.zero = some (.int .i64 0)) (hz1 : i0.size = 1) (hz2 : i0.bytes = 8) (hul : x.units.length ≤ 9223372036854775807) (fb wb nb : Nat) (hwn : Hid (wb < nb)) (X : GW) (s2 : SW) (E3 : Int) (hE3 : Hid (newE L f n g = E3)) (hfew : Hid (FewX X)) (hXe : Hid (wantN L f n g = X)) (bz : Bool) (hbz : Hid ((E3 == 0) = bz)) (W4 : World) (hX : Hid (BG w W4 sK L sf f s x fb wb)) (hn0 : Hid (Blk W4 nb 29 #[.int .i64 X.turn, .int .i64 X.next, .int .i64 X.field.wide, .int .i64 X.field.high, .slice s2.field.ground.A X.field.ground.length s2.field.ground.c, .slice s2.field.ore.A X.field.ore.length s2.field.ore.c, .slice s2.gold.A X.gold.length s2.gold.c, .slice s2.units.A X.units.length s2.units.c, .slice s2.queue.A X.queue.length s2.queue.c])) (hR2 : Hid (WRd W4 W4.heap.size s2 X)) (u19 u29 u30 u31 u32 u33 u34 u35 u36 u37 u38 u39 u40 u41 u42 u43 u44 u45 u46 u47 u48 u49 u50 u51 u52 u53 u54 u55 u56 u57 u58 u59 u60 u61 u62 u63 u64 u65 u66 u67 u68 u69 u70 u71 u72 u73 u74 u75 u76 u77 u78 u79 u80 u81 u82 u83 u84 u85 u86 u87 u88 u89 u90 u91 u92 u93 u94 u95 u96 u97 u98 u99 u100 u101 u102 u103 u104 u105 u106 u107 u108 u109 u110 u111 u112 u113 u114 u115 u116 u117 u118 u119 u120 u121 u122 u123 u124 u125 u126 u127 u128 u129 u130 u131 u132 u133 u134 u135 u136 u137 u138 u139 u140 u141 u142 u143 u144 u145 u146 u147 u148 u149 u150 u151 u152 u153 u154 u155 u156 u157 u158 u159 u160 u161 u162 u163 u164 u165 u166 u167 u168 u169 u170 u171 u172 u173 u174 u175 u176 u177 u178 u179 u180 u181 u182 u183 u184 u185 u186 u187 u188 u189 u190 u191 u192 u193 u194 u195 u196 u197 u198 u199 u200 u201 u202 u203 u204 u205 u206 : Value) :
    Code.wp Tryz.prog (tailC 6 (bodyC Tryz.f3)) (bodyPost Tryz.prog Tryz.f3 fun e w' => e = .returned (.bool true) ∧ Below w.heap.size w w') { tmps := #[.slice sK.A L.length sK.c, .agg #[.int .i64 f.wide, .int .i64 f.high, .slice sf.ground.A f.ground.length sf.ground.c, .slice sf.ore.A f.ore.length sf.ore.c], .int .i64 n, .int .i64 g, .agg #[.int .i64 x.turn, .int .i64 x.next, .int .i64 x.field.wide, .int .i64 x.field.high, .slice s.field.ground.A x.field.ground.length s.field.ground.c, .slice s.field.ore.A x.field.ore.length s.field.ore.c, .slice s.gold.A x.gold.length s.gold.c, .slice s.units.A x.units.length s.units.c, .slice s.queue.A x.queue.length s.queue.c], .int .i64 p, .int .i64 k, .int .i64 a, undef, .pointer (some ⟨fb, 0, none⟩), undef, undef, .pointer (some ⟨wb, 0, none⟩), undef, undef, undef, .bool false, .int .i64 E3, .pointer (some ⟨nb, 0, none⟩), u19, undef, undef, undef, undef, undef, undef, undef, undef, undef, u29, u30, u31, u32, u33, u34, u35, u36, u37, u38, u39, u40, u41, u42, u43, u44, u45, u46, u47, u48, u49, u50, u51, u52, u53, u54, u55, u56, u57, u58, u59, u60, u61, u62, u63, u64, u65, u66, u67, u68, u69, u70, u71, u72, u73, u74, u75, u76, u77, u78, u79, u80, u81, u82, u83, u84, u85, u86, u87, u88, u89, u90, u91, u92, u93, u94, u95, u96, u97, u98, u99, u100, u101, u102, u103, u104, u105, u106, u107, u108, u109, u110, u111, u112, u113, u114, u115, u116, u117, u118, u119, u120, u121, u122, u123, u124, u125, u126, u127, u128, u129, u130, u131, u132, u133, u134, u135, u136, u137, u138, u139, u140, u141, u142, u143, u144, u145, u146, u147, u148, u149, u150, u151, u152, u153, u154, u155, u156, u157, u158, u159, u160, u161, u162, u163, u164, u165, u166, u167, u168, u169, u170, u171, u172, u173, u174, u175, u176, u177, u178, u179, u180, u181, u182, u183, u184, u185, u186, u187, u188, u189, u190, u191, u192, u193, u194, u195, u196, u197, u198, u199, u200, u201, u202, u203, u204, u205, u206], defers := [] } W4 := by
  conv => arg 2; whnf
  have hnew := new_any sK L sf f n g W4 hX.out.ks_ hX.out.fo_
  rw [hXe.out, hE3.out] at hnew
  replace hnew := Lib.hid hnew
  obtain ⟨m0, m1, m2, m3, m4, m5, m6, m7, m8, mll, q0, q1, q2, q3, qll⟩ := hX.out.cells
  go_upto_region 15 with (go_at_call 8; refine hnew.out.mono ?_; clear m0 m1 m2 m3 m4 m5 m6 m7 m8 mll q0 q1 q2 q3 qll; rintro e w5 ⟨s1, rfl, hR1, hb5⟩)
  clear hnew
  have hXn := (hX.out.below hb5).alloc (.cells #[.int .i64 X.turn, .int .i64 X.next, .int .i64 X.field.wide, .int .i64 X.field.high, .slice s1.field.ground.A X.field.ground.length s1.field.ground.c, .slice s1.field.ore.A X.field.ore.length s1.field.ore.c, .slice s1.gold.A X.gold.length s1.gold.c, .slice s1.units.A X.units.length s1.units.c, .slice s1.queue.A X.queue.length s1.queue.c] 29)
  have hvn := (hn0.out.below hb5 hn0.out.lt).alloc (.cells #[.int .i64 X.turn, .int .i64 X.next, .int .i64 X.field.wide, .int .i64 X.field.high, .slice s1.field.ground.A X.field.ground.length s1.field.ground.c, .slice s1.field.ore.A X.field.ore.length s1.field.ore.c, .slice s1.gold.A X.gold.length s1.gold.c, .slice s1.units.A X.units.length s1.units.c, .slice s1.queue.A X.queue.length s1.queue.c] 29)
  have hxn := Blk.new w5 29 #[.int .i64 X.turn, .int .i64 X.next, .int .i64 X.field.wide, .int .i64 X.field.high, .slice s1.field.ground.A X.field.ground.length s1.field.ground.c, .slice s1.field.ore.A X.field.ore.length s1.field.ore.c, .slice s1.gold.A X.gold.length s1.gold.c, .slice s1.units.A X.units.length s1.units.c, .slice s1.queue.A X.queue.length s1.queue.c]
  have hal : Below w5.heap.size w5 (w5.alloc (.cells #[.int .i64 X.turn, .int .i64 X.next, .int .i64 X.field.wide, .int .i64 X.field.high, .slice s1.field.ground.A X.field.ground.length s1.field.ground.c, .slice s1.field.ore.A X.field.ore.length s1.field.ore.c, .slice s1.gold.A X.gold.length s1.gold.c, .slice s1.units.A X.units.length s1.units.c, .slice s1.queue.A X.queue.length s1.queue.c] 29)) := (Below.refl _ _).alloc (Nat.le_refl _) _
  have hRan := (hR1.below hal).more hal.size
  have hRbn := (hR2.out.below (hb5.trans (hal.mono hb5.size))).more (Nat.le_trans hb5.size hal.size)
  generalize (w5.alloc (.cells #[.int .i64 X.turn, .int .i64 X.next, .int .i64 X.field.wide, .int .i64 X.field.high, .slice s1.field.ground.A X.field.ground.length s1.field.ground.c, .slice s1.field.ore.A X.field.ore.length s1.field.ore.c, .slice s1.gold.A X.gold.length s1.gold.c, .slice s1.units.A X.units.length s1.units.c, .slice s1.queue.A X.queue.length s1.queue.c] 29)) = W6 at *
  obtain ⟨xb, hxb⟩ : ∃ xb, w5.heap.size = xb := ⟨_, rfl⟩
  rw [hxb] at hxn
  rw [hxb]
  clear hX hn0 hb5 hR1 hR2 hal
  have hX := Lib.hid hXn
  have hn0 := Lib.hid hvn
  have hx0 := Lib.hid hxn
  have hR1 := Lib.hid hRan
  have hR2 := Lib.hid hRbn
  clear hXn hvn hxn hRan hRbn
  replace hxb := Lib.hid hxb
  have her := error_same E3 W6 hX.out.hv_
  replace her : Calls Tryz.prog 9 #[errV E3, .int .i64 E3] W6 fun e w' => e = .returned (.bool true) ∧ Below W6.heap.size W6 w' := her
  replace her := Lib.hid her
  go_upto_region 16 with (go_at_call 9; refine her.out.mono ?_; rintro e W7 ⟨rfl, hb5⟩)
  clear her
  have hXn := hX.out.below hb5
  have hvn := hn0.out.below hb5 hn0.out.lt
  have hxn := hx0.out.below hb5 hx0.out.lt
  have hRan := (hR1.out.below hb5).more hb5.size
  have hRbn := (hR2.out.below hb5).more hb5.size
  clear hX hn0 hx0 hb5 hR1 hR2
  have hX := Lib.hid hXn
  have hn0 := Lib.hid hvn
  have hx0 := Lib.hid hxn
  have hR1 := Lib.hid hRan
  have hR2 := Lib.hid hRbn
  clear hXn hvn hxn hRan hRbn
  have hsm := samew_eq s1 s2 X W7 W7.heap.size hR1.out hR2.out (by have := hfew.out.1; omega) (by have := hfew.out.2.1; omega) (by have := hfew.out.2.2.1; omega) (by have := hfew.out.2.2.2.1; omega) (by have := hfew.out.2.2.2.2; omega) (Nat.le_refl _)
  replace hsm : Calls Tryz.prog 10 #[.agg #[.int .i64 X.turn, .int .i64 X.next, .int .i64 X.field.wide, .int .i64 X.field.high, .slice s1.field.ground.A X.field.ground.length s1.field.ground.c, .slice s1.field.ore.A X.field.ore.length s1.field.ore.c, .slice s1.gold.A X.gold.length s1.gold.c, .slice s1.units.A X.units.length s1.units.c, .slice s1.queue.A X.queue.length s1.queue.c], .agg #[.int .i64 X.turn, .int .i64 X.next, .int .i64 X.field.wide, .int .i64 X.field.high, .slice s2.field.ground.A X.field.ground.length s2.field.ground.c, .slice s2.field.ore.A X.field.ore.length s2.field.ore.c, .slice s2.gold.A X.gold.length s2.gold.c, .slice s2.units.A X.units.length s2.units.c, .slice s2.queue.A X.queue.length s2.queue.c]] W7 fun e w' => e = .returned (.bool true) ∧ Below W7.heap.size W7 w' := hsm
  replace hsm := Lib.hid hsm
  have r0 : W7.cell? ⟨nb, 0, none⟩ = some (.int .i64 X.turn) := hn0.out.cell 0
  have y0 : W7.cell? ⟨xb, 0, none⟩ = some (.int .i64 X.turn) := hx0.out.cell 0
  have r1 : W7.cell? ⟨nb, 1, none⟩ = some (.int .i64 X.next) := hn0.out.cell 1
  have y1 : W7.cell? ⟨xb, 1, none⟩ = some (.int .i64 X.next) := hx0.out.cell 1
  have r2 : W7.cell? ⟨nb, 2, none⟩ = some (.int .i64 X.field.wide) := hn0.out.cell 2
  have y2 : W7.cell? ⟨xb, 2, none⟩ = some (.int .i64 X.field.wide) := hx0.out.cell 2
  have r3 : W7.cell? ⟨nb, 3, none⟩ = some (.int .i64 X.field.high) := hn0.out.cell 3
  have y3 : W7.cell? ⟨xb, 3, none⟩ = some (.int .i64 X.field.high) := hx0.out.cell 3
  have r4 : W7.cell? ⟨nb, 4, none⟩ = some (.slice s2.field.ground.A X.field.ground.length s2.field.ground.c) := hn0.out.cell 4
  have y4 : W7.cell? ⟨xb, 4, none⟩ = some (.slice s1.field.ground.A X.field.ground.length s1.field.ground.c) := hx0.out.cell 4
  have r5 : W7.cell? ⟨nb, 5, none⟩ = some (.slice s2.field.ore.A X.field.ore.length s2.field.ore.c) := hn0.out.cell 5
  have y5 : W7.cell? ⟨xb, 5, none⟩ = some (.slice s1.field.ore.A X.field.ore.length s1.field.ore.c) := hx0.out.cell 5
  have r6 : W7.cell? ⟨nb, 6, none⟩ = some (.slice s2.gold.A X.gold.length s2.gold.c) := hn0.out.cell 6
  have y6 : W7.cell? ⟨xb, 6, none⟩ = some (.slice s1.gold.A X.gold.length s1.gold.c) := hx0.out.cell 6
  have r7 : W7.cell? ⟨nb, 7, none⟩ = some (.slice s2.units.A X.units.length s2.units.c) := hn0.out.cell 7
  have y7 : W7.cell? ⟨xb, 7, none⟩ = some (.slice s1.units.A X.units.length s1.units.c) := hx0.out.cell 7
  have r8 : W7.cell? ⟨nb, 8, none⟩ = some (.slice s2.queue.A X.queue.length s2.queue.c) := hn0.out.cell 8
  have y8 : W7.cell? ⟨xb, 8, none⟩ = some (.slice s1.queue.A X.queue.length s1.queue.c) := hx0.out.cell 8
  have nl := hn0.out.lt
  have xl := hx0.out.lt
  go_upto_region 17 with (go_at_call 10; refine hsm.out.mono ?_; clear r0 y0 r1 y1 r2 y2 r3 y3 r4 y4 r5 y5 r6 y6 r7 y7 r8 y8 nl xl; rintro e W8 ⟨rfl, hb5⟩)
  clear hsm
  have hXn := hX.out.below hb5
  have hvn := hn0.out.below hb5 hn0.out.lt
  clear hX hn0 hx0 hR1 hR2 hb5 hXe hE3 hfew
  have hX := Lib.hid hXn
  have hn0 := Lib.hid hvn
  clear hXn hvn
  obtain ⟨F1, hF1⟩ : ∃ F1, worldE L x = F1 := ⟨_, rfl⟩
  have hrk := rwcheck_any sK L s x W8 hX.out.ks_ hX.out.wo_
  rw [hF1] at hrk
  replace hF1 := Lib.hid hF1
  replace hrk : Calls Tryz.prog 11 #[.slice sK.A L.length sK.c, .agg #[.int .i64 x.turn, .int .i64 x.next, .int .i64 x.field.wide, .int .i64 x.field.high, .slice s.field.ground.A x.field.ground.length s.field.ground.c, .slice s.field.ore.A x.field.ore.length s.field.ore.c, .slice s.gold.A x.gold.length s.gold.c, .slice s.units.A x.units.length s.units.c, .slice s.queue.A x.queue.length s.queue.c]] W8 fun e w' => e = .returned (.int .i64 F1) ∧ Below W8.heap.size W8 w' := hrk
  replace hrk := Lib.hid hrk
  obtain ⟨m0, m1, m2, m3, m4, m5, m6, m7, m8, mll, q0, q1, q2, q3, qll⟩ := hX.out.cells
  go_upto_region 18 with (go_at_call 11; refine hrk.out.mono ?_; clear m0 m1 m2 m3 m4 m5 m6 m7 m8 mll q0 q1 q2 q3 qll; rintro e W9 ⟨rfl, hb5⟩)
  clear hrk
  have hXn := hX.out.below hb5
  have hvn := hn0.out.below hb5 hn0.out.lt
  clear hX hn0 hb5
  have hX := Lib.hid hXn
  have hn0 := Lib.hid hvn
  clear hXn hvn
  go_upto_region 18 with fail
  go_cut [99] (fun t wx => t = .bool (decide (F1 = 0 ∧ (40 ≤ (x.units.length : Int) ∨ 1000000 ≤ x.next))) ∧ W9 = wx)
  case first =>
    as_aux_lemma =>
    by_cases z : F1 = 0
    · have z1 : (F1 == 0) = true := by simp [z]
      replace z := Lib.hid z
      obtain ⟨m0, m1, m2, m3, m4, m5, m6, m7, m8, mll, q0, q1, q2, q3, qll⟩ := hX.out.cells
      by_cases c0 : 40 ≤ (x.units.length : Int)
      · have d0 : decide (40 ≤ (x.units.length : Int)) = true := decide_eq_true c0
        have r : decide (F1 = 0 ∧ (40 ≤ (x.units.length : Int) ∨ 1000000 ≤ x.next)) = true := decide_eq_true ⟨z.out, by omega⟩
        go_wp2_with fail
        go_meet
        exact ⟨congrArg Value.bool r.symm, rfl⟩
      have d0 : decide (40 ≤ (x.units.length : Int)) = false := decide_eq_false c0
      by_cases c1 : 1000000 ≤ x.next
      · have d1 : decide (1000000 ≤ x.next) = true := decide_eq_true c1
        have r : decide (F1 = 0 ∧ (40 ≤ (x.units.length : Int) ∨ 1000000 ≤ x.next)) = true := decide_eq_true ⟨z.out, by omega⟩
        go_wp2_with fail
        go_meet
        exact ⟨congrArg Value.bool r.symm, rfl⟩
      have d1 : decide (1000000 ≤ x.next) = false := decide_eq_false c1
      have r : decide (F1 = 0 ∧ (40 ≤ (x.units.length : Int) ∨ 1000000 ≤ x.next)) = false := decide_eq_false (fun h => by have := h.2; omega)
      go_wp2_with fail
      go_meet
      exact ⟨congrArg Value.bool r.symm, rfl⟩
    · have z1 : (F1 == 0) = false := by simp [z]
      have r : decide (F1 = 0 ∧ (40 ≤ (x.units.length : Int) ∨ 1000000 ≤ x.next)) = false := decide_eq_false (fun h => z h.1)
      go_wp2_with fail
      go_meet
      exact ⟨congrArg Value.bool r.symm, rfl⟩
  case rest =>
  obtain ⟨rfl, rfl⟩ := hcut
  obtain ⟨b3, hb3⟩ : ∃ b3, decide (F1 = 0 ∧ (40 ≤ (x.units.length : Int) ∨ 1000000 ≤ x.next)) = b3 := ⟨_, rfl⟩
  rw [hb3]
  obtain ⟨F2, hF2⟩ : ∃ F2, (if b3 = true then 4 else F1) = F2 := ⟨_, rfl⟩
  replace hb3 := Lib.hid hb3
  replace hF2 := Lib.hid hF2
  go_upto_if 99 with fail
  go_cut [17] (fun v wx => v = .int .i64 F2 ∧ W9 = wx)
  case first =>
    cases b3
    · have e : F1 = F2 := hF2.out
      subst e
      go_wp2_with fail
      go_meet
      exact ⟨rfl, rfl⟩
    · have e : 4 = F2 := hF2.out
      subst e
      go_wp2_with fail
      go_meet
      exact ⟨rfl, rfl⟩
  case rest =>
  obtain ⟨rfl, rfl⟩ := hcut
  have kF2 : F2 = if F1 = 0 ∧ (40 ≤ (x.units.length : Int) ∨ 1000000 ≤ x.next) then 4 else F1 := by
    rw [← hF2.out, ← hb3.out]
    by_cases z : F1 = 0 ∧ (40 ≤ (x.units.length : Int) ∨ 1000000 ≤ x.next)
    · rw [if_pos z, decide_eq_true z]; rfl
    · rw [if_neg z, decide_eq_false z]; rfl
  replace kF2 := Lib.hid kF2
  clear hF2 hb3
  go_upto_region 20 with fail
  go_cut [122] (fun t wx => t = .bool (decide (F2 = 0 ∧ (p < 0 ∨ (x.gold.length : Int) ≤ p ∨ k < 0 ∨ (L.length : Int) ≤ k))) ∧ W9 = wx)
  case first =>
    as_aux_lemma =>
    by_cases z : F2 = 0
    · have z1 : (F2 == 0) = true := by simp [z]
      replace z := Lib.hid z
      obtain ⟨m0, m1, m2, m3, m4, m5, m6, m7, m8, mll, q0, q1, q2, q3, qll⟩ := hX.out.cells
      by_cases c0 : p < 0
      · have d0 : decide (p < 0) = true := decide_eq_true c0
        have r : decide (F2 = 0 ∧ (p < 0 ∨ (x.gold.length : Int) ≤ p ∨ k < 0 ∨ (L.length : Int) ≤ k)) = true := decide_eq_true ⟨z.out, by omega⟩
        go_wp2_with fail
        go_meet
        exact ⟨congrArg Value.bool r.symm, rfl⟩
      have d0 : decide (p < 0) = false := decide_eq_false c0
      by_cases c1 : (x.gold.length : Int) ≤ p
      · have d1 : decide ((x.gold.length : Int) ≤ p) = true := decide_eq_true c1
        have r : decide (F2 = 0 ∧ (p < 0 ∨ (x.gold.length : Int) ≤ p ∨ k < 0 ∨ (L.length : Int) ≤ k)) = true := decide_eq_true ⟨z.out, by omega⟩
        go_wp2_with fail
        go_meet
        exact ⟨congrArg Value.bool r.symm, rfl⟩
      have d1 : decide ((x.gold.length : Int) ≤ p) = false := decide_eq_false c1
      by_cases c2 : k < 0
      · have d2 : decide (k < 0) = true := decide_eq_true c2
        have r : decide (F2 = 0 ∧ (p < 0 ∨ (x.gold.length : Int) ≤ p ∨ k < 0 ∨ (L.length : Int) ≤ k)) = true := decide_eq_true ⟨z.out, by omega⟩
        go_wp2_with fail
        go_meet
        exact ⟨congrArg Value.bool r.symm, rfl⟩
      have d2 : decide (k < 0) = false := decide_eq_false c2
      by_cases c3 : (L.length : Int) ≤ k
      · have d3 : decide ((L.length : Int) ≤ k) = true := decide_eq_true c3
        have r : decide (F2 = 0 ∧ (p < 0 ∨ (x.gold.length : Int) ≤ p ∨ k < 0 ∨ (L.length : Int) ≤ k)) = true := decide_eq_true ⟨z.out, by omega⟩
        go_wp2_with fail
        go_meet
        exact ⟨congrArg Value.bool r.symm, rfl⟩
      have d3 : decide ((L.length : Int) ≤ k) = false := decide_eq_false c3
      have r : decide (F2 = 0 ∧ (p < 0 ∨ (x.gold.length : Int) ≤ p ∨ k < 0 ∨ (L.length : Int) ≤ k)) = false := decide_eq_false (fun h => by have := h.2; omega)
      go_wp2_with fail
      go_meet
      exact ⟨congrArg Value.bool r.symm, rfl⟩
    · have z1 : (F2 == 0) = false := by simp [z]
      have r : decide (F2 = 0 ∧ (p < 0 ∨ (x.gold.length : Int) ≤ p ∨ k < 0 ∨ (L.length : Int) ≤ k)) = false := decide_eq_false (fun h => z h.1)
      go_wp2_with fail
      go_meet
      exact ⟨congrArg Value.bool r.symm, rfl⟩
  case rest =>
  obtain ⟨rfl, rfl⟩ := hcut
  obtain ⟨b3, hb3⟩ : ∃ b3, decide (F2 = 0 ∧ (p < 0 ∨ (x.gold.length : Int) ≤ p ∨ k < 0 ∨ (L.length : Int) ≤ k)) = b3 := ⟨_, rfl⟩
  rw [hb3]
  obtain ⟨F3, hF3⟩ : ∃ F3, (if b3 = true then 1 else F2) = F3 := ⟨_, rfl⟩
  replace hb3 := Lib.hid hb3
  replace hF3 := Lib.hid hF3
  go_upto_if 122 with fail
  go_cut [17] (fun v wx => v = .int .i64 F3 ∧ W9 = wx)
  case first =>
    cases b3
    · have e : F2 = F3 := hF3.out
      subst e
      go_wp2_with fail
      go_meet
      exact ⟨rfl, rfl⟩
    · have e : 1 = F3 := hF3.out
      subst e
      go_wp2_with fail
      go_meet
      exact ⟨rfl, rfl⟩
  case rest =>
  obtain ⟨rfl, rfl⟩ := hcut
  have kF3 : F3 = if F2 = 0 ∧ (p < 0 ∨ (x.gold.length : Int) ≤ p ∨ k < 0 ∨ (L.length : Int) ≤ k) then 1 else F2 := by
    rw [← hF3.out, ← hb3.out]
    by_cases z : F2 = 0 ∧ (p < 0 ∨ (x.gold.length : Int) ≤ p ∨ k < 0 ∨ (L.length : Int) ≤ k)
    · rw [if_pos z, decide_eq_true z]; rfl
    · rw [if_neg z, decide_eq_false z]; rfl
  replace kF3 := Lib.hid kF3
  clear hF3 hb3
  go_upto_region 22 with fail
  go_cut [136] (fun t wx => t = .bool (decide (F3 = 0 ∧ (a < 0 ∨ (x.field.ground.length : Int) ≤ a))) ∧ W9 = wx)
  case first =>
    as_aux_lemma =>
    by_cases z : F3 = 0
    · have z1 : (F3 == 0) = true := by simp [z]
      replace z := Lib.hid z
      obtain ⟨m0, m1, m2, m3, m4, m5, m6, m7, m8, mll, q0, q1, q2, q3, qll⟩ := hX.out.cells
      by_cases c0 : a < 0
      · have d0 : decide (a < 0) = true := decide_eq_true c0
        have r : decide (F3 = 0 ∧ (a < 0 ∨ (x.field.ground.length : Int) ≤ a)) = true := decide_eq_true ⟨z.out, by omega⟩
        go_wp2_with fail
        go_meet
        exact ⟨congrArg Value.bool r.symm, rfl⟩
      have d0 : decide (a < 0) = false := decide_eq_false c0
      by_cases c1 : (x.field.ground.length : Int) ≤ a
      · have d1 : decide ((x.field.ground.length : Int) ≤ a) = true := decide_eq_true c1
        have r : decide (F3 = 0 ∧ (a < 0 ∨ (x.field.ground.length : Int) ≤ a)) = true := decide_eq_true ⟨z.out, by omega⟩
        go_wp2_with fail
        go_meet
        exact ⟨congrArg Value.bool r.symm, rfl⟩
      have d1 : decide ((x.field.ground.length : Int) ≤ a) = false := decide_eq_false c1
      have r : decide (F3 = 0 ∧ (a < 0 ∨ (x.field.ground.length : Int) ≤ a)) = false := decide_eq_false (fun h => by have := h.2; omega)
      go_wp2_with fail
      go_meet
      exact ⟨congrArg Value.bool r.symm, rfl⟩
    · have z1 : (F3 == 0) = false := by simp [z]
      have r : decide (F3 = 0 ∧ (a < 0 ∨ (x.field.ground.length : Int) ≤ a)) = false := decide_eq_false (fun h => z h.1)
      go_wp2_with fail
      go_meet
      exact ⟨congrArg Value.bool r.symm, rfl⟩
  case rest =>
  obtain ⟨rfl, rfl⟩ := hcut
  obtain ⟨b3, hb3⟩ : ∃ b3, decide (F3 = 0 ∧ (a < 0 ∨ (x.field.ground.length : Int) ≤ a)) = b3 := ⟨_, rfl⟩
  rw [hb3]
  obtain ⟨F4, hF4⟩ : ∃ F4, (if b3 = true then 6 else F3) = F4 := ⟨_, rfl⟩
  replace hb3 := Lib.hid hb3
  replace hF4 := Lib.hid hF4
  go_upto_if 136 with fail
  go_cut [17] (fun v wx => v = .int .i64 F4 ∧ W9 = wx)
  case first =>
    cases b3
    · have e : F3 = F4 := hF4.out
      subst e
      go_wp2_with fail
      go_meet
      exact ⟨rfl, rfl⟩
    · have e : 6 = F4 := hF4.out
      subst e
      go_wp2_with fail
      go_meet
      exact ⟨rfl, rfl⟩
  case rest =>
  obtain ⟨rfl, rfl⟩ := hcut
  have kF4 : F4 = if F3 = 0 ∧ (a < 0 ∨ (x.field.ground.length : Int) ≤ a) then 6 else F3 := by
    rw [← hF4.out, ← hb3.out]
    by_cases z : F3 = 0 ∧ (a < 0 ∨ (x.field.ground.length : Int) ≤ a)
    · rw [if_pos z, decide_eq_true z]; rfl
    · rw [if_neg z, decide_eq_false z]; rfl
  replace kF4 := Lib.hid kF4
  clear hF4 hb3
  obtain ⟨F5, hF5⟩ : ∃ F5, placeE L x p k a = F5 := ⟨_, rfl⟩
  have h45 : F4 = 0 → WorldOk L x ∧ 0 ≤ p ∧ p < x.gold.length ∧ 0 ≤ k ∧ k < L.length ∧ 0 ≤ a ∧ a < x.field.ground.length ∧ F5 = if (ontoL x.field a.toNat (gk L k.toNat).flies = 0 ∨ 0 ≤ onI x.units a) then 7 else 0 := fun z => by
    have h4 := kF4.out
    rw [z] at h4
    by_cases z3 : F3 = 0
    · by_cases p3 : a < 0 ∨ (x.field.ground.length : Int) ≤ a
      · rw [if_pos ⟨z3, p3⟩] at h4; cases h4
      · have h3 := kF3.out
        rw [z3] at h3
        by_cases z2 : F2 = 0
        · by_cases p2 : p < 0 ∨ (x.gold.length : Int) ≤ p ∨ k < 0 ∨ (L.length : Int) ≤ k
          · rw [if_pos ⟨z2, p2⟩] at h3; cases h3
          · have h2 := kF2.out
            rw [z2] at h2
            by_cases z1 : F1 = 0
            · by_cases p1 : 40 ≤ (x.units.length : Int) ∨ 1000000 ≤ x.next
              · rw [if_pos ⟨z1, p1⟩] at h2; cases h2
              · have e1 : worldE L x = 0 := hF1.out.trans z1
                refine ⟨worldE_0 e1, by omega, by omega, by omega, by omega, by omega, by omega, ?_⟩
                rw [← hF5]
                unfold placeE
                rw [if_neg (fun c => c e1), if_neg (fun c => c ⟨by omega, by omega⟩), if_neg p2, if_neg p3]
            · rw [if_neg (fun c => z1 c.1)] at h2; exact absurd h2.symm z1
        · rw [if_neg (fun c => z2 c.1)] at h3; exact absurd h3.symm z2
    · rw [if_neg (fun c => z3 c.1)] at h4; exact absurd h4.symm z3
  have h46 : F4 ≠ 0 → F5 = F4 := fun z => by
    have h4 := kF4.out
    have h3 := kF3.out
    have h2 := kF2.out
    have h1 := hF1.out
    rw [← hF5]
    unfold placeE
    rw [h1]
    by_cases z1 : F1 = 0
    · rw [if_neg (fun c => c z1)]
      by_cases p1 : 40 ≤ (x.units.length : Int) ∨ 1000000 ≤ x.next
      · rw [if_pos ⟨z1, p1⟩] at h2
        subst h2
        rw [if_neg (by omega)] at h3
        subst h3
        rw [if_neg (by omega)] at h4
        rw [h4, if_pos (by omega)]
      · rw [if_neg (fun c => p1 c.2), z1] at h2
        rw [if_neg (by omega : ¬ ¬ (x.units.length < 40 ∧ x.next < 1000000))]
        by_cases p2 : p < 0 ∨ (x.gold.length : Int) ≤ p ∨ k < 0 ∨ (L.length : Int) ≤ k
        · rw [if_pos ⟨h2, p2⟩] at h3
          subst h3
          rw [if_neg (by omega)] at h4
          rw [h4, if_pos p2]
        · rw [if_neg (fun c => p2 c.2), h2] at h3
          rw [if_neg p2]
          by_cases p3 : a < 0 ∨ (x.field.ground.length : Int) ≤ a
          · rw [if_pos ⟨h3, p3⟩] at h4
            rw [h4, if_pos p3]
          · rw [if_neg (fun c => p3 c.2), h3] at h4
            exact absurd h4 z
    · rw [if_pos z1]
      rw [if_neg (fun c => z1 c.1)] at h2
      subst h2
      rw [if_neg (fun c => z1 c.1)] at h3
      subst h3
      rw [if_neg (fun c => z1 c.1)] at h4
      exact h4.symm
  replace hF5 := Lib.hid hF5
  replace h45 := Lib.hid h45
  replace h46 := Lib.hid h46
  clear kF4 kF3 kF2 hF1
  go_upto_if 138 with fail
  obtain ⟨bz, hbz⟩ : ∃ b : Bool, (F4 == 0) = b := ⟨_, rfl⟩
  rw [hbz]
  replace hbz := Lib.hid hbz
  go_cut [17, 24, 25] (fun e _ _ wx0 => ∃ wx, wx = wx0 ∧ e = .int .i64 F5 ∧ Hid (BG w wx sK L sf f s x fb wb) ∧ Hid (Blk wx nb 29 #[.int .i64 X.turn, .int .i64 X.next, .int .i64 X.field.wide, .int .i64 X.field.high, .slice s2.field.ground.A X.field.ground.length s2.field.ground.c, .slice s2.field.ore.A X.field.ore.length s2.field.ore.c, .slice s2.gold.A X.gold.length s2.gold.c, .slice s2.units.A X.units.length s2.units.c, .slice s2.queue.A X.queue.length s2.queue.c]))
  case first =>
    as_aux_lemma =>
    cases bz
    case false =>
      have z : ¬ F4 = 0 := by simpa using hbz.out
      have e := h46.out z
      subst e
      go_wp2_with fail
      go_meet
      exact ⟨_, rfl, rfl, hX, hn0⟩
    case true =>
      have z : F4 = 0 := by simpa using hbz.out
      obtain ⟨hok, g1, g2, g3, g4, g5, g6, hF⟩ := h45.out z
      obtain ⟨kd, rfl⟩ : ∃ kd : Nat, k = (kd : Int) := ⟨k.toNat, by omega⟩
      obtain ⟨sp, rfl⟩ : ∃ sp : Nat, a = (sp : Int) := ⟨a.toNat, by omega⟩
      rw [Int.toNat_natCast, Int.toNat_natCast] at hF
      have hkd : kd < L.length := by omega
      have hsp : sp < x.field.ground.length := by omega
      have hcap := hX.out.ks.cap
      have hmx := hX.out.ks.max
      have hgd := good_gW (good_of x.field hok.field) sp
      obtain ⟨bk, okk, hAk, hbk, _, _, _, _, _, _, _, _, _, k9, _⟩ := rk_at hX.out.ks_.rd kd hkd
      obtain ⟨sA, sc⟩ := sK
      dsimp only at hAk hcap hmx
      subst hAk
      dsimp only at hX k9 hcap ⊢
      obtain ⟨kf, hkf⟩ : ∃ kf, (gk L kd).flies = kf := ⟨_, rfl⟩
      rw [hkf] at k9
      obtain ⟨ov, hov⟩ : ∃ ov, ontoL x.field sp kf = ov := ⟨_, rfl⟩
      obtain ⟨oi, hoi⟩ : ∃ oi, onI x.units (sp : Int) = oi := ⟨_, rfl⟩
      rw [hkf, hov, hoi] at hF
      replace hF := Lib.hid hF
      replace hkf := Lib.hid hkf
      replace z := Lib.hid z
      replace hok := Lib.hid hok
      have hS : ∀ wz, BG w wz ⟨some ⟨bk, okk, none⟩, sc⟩ L sf f s x fb wb → (fun wz => wz.cell? ⟨wb, 2, none⟩ = some (.int .i64 x.field.wide) ∧ wz.cell? ⟨wb, 3, none⟩ = some (.int .i64 x.field.high) ∧ wz.cell? ⟨wb, 4, none⟩ = some (.slice s.field.ground.A x.field.ground.length s.field.ground.c) ∧ wz.cell? ⟨wb, 5, none⟩ = some (.slice s.field.ore.A x.field.ore.length s.field.ore.c) ∧ wz.cell? ⟨bk, okk + kd * 11 + 9, none⟩ = some (.bool kf)) wz := fun wz h => by
        obtain ⟨_, _, m2, m3, m4, m5, _⟩ := h.cells
        obtain ⟨b', o', hA', _, _, _, _, _, _, _, _, _, _, k9, _⟩ := rk_at h.ks_.rd kd hkd
        dsimp only at hA'
        injection hA' with hA'
        injection hA' with e3 e4
        subst e3; subst e4
        rw [hkf.out] at k9
        exact ⟨m2, m3, m4, m5, k9⟩
      have hon : ∀ wz, BG w wz ⟨some ⟨bk, okk, none⟩, sc⟩ L sf f s x fb wb ∧ Blk wz nb 29 #[.int .i64 X.turn, .int .i64 X.next, .int .i64 X.field.wide, .int .i64 X.field.high, .slice s2.field.ground.A X.field.ground.length s2.field.ground.c, .slice s2.field.ore.A X.field.ore.length s2.field.ore.c, .slice s2.gold.A X.gold.length s2.gold.c, .slice s2.units.A X.units.length s2.units.c, .slice s2.queue.A X.queue.length s2.queue.c] → Calls Tryz.prog 12 #[.agg #[.int .i64 x.field.wide, .int .i64 x.field.high, .slice s.field.ground.A x.field.ground.length s.field.ground.c, .slice s.field.ore.A x.field.ore.length s.field.ore.c], .int .i64 (sp : Int), .bool kf] wz fun e w' => e = .returned (.int .i64 ov) ∧ (BG w w' ⟨some ⟨bk, okk, none⟩, sc⟩ L sf f s x fb wb ∧ Blk w' nb 29 #[.int .i64 X.turn, .int .i64 X.next, .int .i64 X.field.wide, .int .i64 X.field.high, .slice s2.field.ground.A X.field.ground.length s2.field.ground.c, .slice s2.field.ore.A X.field.ore.length s2.field.ore.c, .slice s2.gold.A X.gold.length s2.gold.c, .slice s2.units.A X.units.length s2.units.c, .slice s2.queue.A X.queue.length s2.queue.c]) := fun wz h => by
        have := ronto_any s.field x.field sp kf wz h.1.wo_.2.2.1 hsp hgd
        rw [hov] at this
        exact this.mono fun _ _ ⟨h1, h2⟩ => ⟨h1, h.1.below h2, h.2.below h2 h.2.lt⟩
      have hoc : ∀ wz, BG w wz ⟨some ⟨bk, okk, none⟩, sc⟩ L sf f s x fb wb ∧ Blk wz nb 29 #[.int .i64 X.turn, .int .i64 X.next, .int .i64 X.field.wide, .int .i64 X.field.high, .slice s2.field.ground.A X.field.ground.length s2.field.ground.c, .slice s2.field.ore.A X.field.ore.length s2.field.ore.c, .slice s2.gold.A X.gold.length s2.gold.c, .slice s2.units.A X.units.length s2.units.c, .slice s2.queue.A X.queue.length s2.queue.c] → Calls Tryz.prog 13 #[.agg #[.int .i64 x.turn, .int .i64 x.next, .int .i64 x.field.wide, .int .i64 x.field.high, .slice s.field.ground.A x.field.ground.length s.field.ground.c, .slice s.field.ore.A x.field.ore.length s.field.ore.c, .slice s.gold.A x.gold.length s.gold.c, .slice s.units.A x.units.length s.units.c, .slice s.queue.A x.queue.length s.queue.c], .int .i64 (sp : Int)] wz fun e w' => e = .returned (.int .i64 oi) ∧ (BG w w' ⟨some ⟨bk, okk, none⟩, sc⟩ L sf f s x fb wb ∧ Blk w' nb 29 #[.int .i64 X.turn, .int .i64 X.next, .int .i64 X.field.wide, .int .i64 X.field.high, .slice s2.field.ground.A X.field.ground.length s2.field.ground.c, .slice s2.field.ore.A X.field.ore.length s2.field.ore.c, .slice s2.gold.A X.gold.length s2.gold.c, .slice s2.units.A X.units.length s2.units.c, .slice s2.queue.A X.queue.length s2.queue.c]) := fun wz h => by
        have := ron_any s x (sp : Int) wz h.1.wo_
        rw [hoi] at this
        exact this.mono fun _ _ ⟨h1, h2⟩ => ⟨h1, h.1.below h2, h.2.below h2 h.2.lt⟩
      have hQd : BG w (W9.drewN 1) ⟨some ⟨bk, okk, none⟩, sc⟩ L sf f s x fb wb ∧ Blk (W9.drewN 1) nb 29 #[.int .i64 X.turn, .int .i64 X.next, .int .i64 X.field.wide, .int .i64 X.field.high, .slice s2.field.ground.A X.field.ground.length s2.field.ground.c, .slice s2.field.ore.A X.field.ore.length s2.field.ore.c, .slice s2.gold.A X.gold.length s2.gold.c, .slice s2.units.A X.units.length s2.units.c, .slice s2.queue.A X.queue.length s2.queue.c] := ⟨hX.out.drewN 1, hn0.out.drewN 1⟩
      have q0 := Lib.hid (hS _ hQd.1)
      have hkdi : (kd : Int) < (L.length : Int) := by omega
      replace hQd := Lib.hid hQd
      replace hov := Lib.hid hov
      replace hoi := Lib.hid hoi
      replace hS := Lib.hid hS
      replace hon := Lib.hid hon
      replace hoc := Lib.hid hoc
      replace hgd := Lib.hid hgd
      clear k9
      go_upto_region 25 with fail
      go_region_held3 (fun wz => wz.cell? ⟨wb, 2, none⟩ = some (.int .i64 x.field.wide) ∧ wz.cell? ⟨wb, 3, none⟩ = some (.int .i64 x.field.high) ∧ wz.cell? ⟨wb, 4, none⟩ = some (.slice s.field.ground.A x.field.ground.length s.field.ground.c) ∧ wz.cell? ⟨wb, 5, none⟩ = some (.slice s.field.ore.A x.field.ore.length s.field.ore.c) ∧ wz.cell? ⟨bk, okk + kd * 11 + 9, none⟩ = some (.bool kf)) (first | exact q0.out | exact q2.out) ((go_at_call 12; refine (hon.out _ hQd.out).mono ?_; rintro e w5 ⟨rfl, hQ1⟩; have q2 := Lib.hid (hS.out _ hQ1.1); replace hQ1 := Lib.hid hQ1; clear hQd))
      clear q0 hS hon q2 hX hn0
      obtain ⟨m0, m1, m2, m3, m4, m5, m6, m7, m8, mll, q0, q1, q2, q3, qll⟩ := hQ1.out.1.cells
      have hoc2 := hoc.out _ hQ1.out
      replace hoc2 := Lib.hid hoc2
      clear hoc
      go_upto_region 27 with (go_at_call 13; refine hoc2.out.mono ?_; clear m0 m1 m2 m3 m4 m5 m6 m7 m8 mll q0 q1 q2 q3 qll; rintro e w6 ⟨rfl, hQ6⟩)
      clear hoc2 hQ1
      by_cases c1 : ov = 0
      · have z1 : (ov == 0) = true := by simp [c1]
        have e := hF.out
        rw [if_pos (.inl c1)] at e
        replace c1 := Lib.hid c1
        replace e := Lib.hid e
        go_wp2_with fail
        go_meet
        exact ⟨_, rfl, by rw [e.out], Lib.hid hQ6.1, Lib.hid hQ6.2⟩
      · have z1 : (ov == 0) = false := by simp [c1]
        by_cases c2 : 0 ≤ oi
        · have d2 : decide (0 ≤ oi) = true := decide_eq_true c2
          have e := hF.out
          rw [if_pos (.inr c2)] at e
          replace e := Lib.hid e
          go_wp2_with fail
          go_meet
          exact ⟨_, rfl, by rw [e.out], Lib.hid hQ6.1, Lib.hid hQ6.2⟩
        · have d2 : decide (0 ≤ oi) = false := decide_eq_false c2
          have e := hF.out
          rw [if_neg (fun h => h.elim c1 c2)] at e
          replace e := Lib.hid e
          replace z : F4 = F5 := z.out.trans e.out.symm
          subst z
          go_wp2_with fail
          go_meet
          exact ⟨_, rfl, rfl, Lib.hid hQ6.1, Lib.hid hQ6.2⟩
  case rest =>
  obtain ⟨W10, rfl, rfl, hX, hn0⟩ := hcut
  rename_i hcont
  refine hcont _ _ ?_
  clear hcont
  exact begins_B sK L sf f n g s x p k a w i0 hi0 hz0 hz1 hz2 hul fb wb nb xb hwn X s2 E3 F5 hF5 W10 hX hn0 _ _ _ _ _ _ _ _ _ _ _ _ _ _ _ _ _ _ _ _ _ _ _ _ _ _ _ _ _ _ _ _ _ _ _ _ _ _ _ _ _ _ _ _ _ _ _ _ _ _ _ _ _ _ _ _ _ _ _ _ _ _ _ _ _ _ _ _ _ _ _ _ _ _ _ _ _ _ _ _ _ _ _ _ _ _ _ _ _ _ _ _ _ _ _ _ _ _ _ _ _ _ _ _ _ _ _ _ _ _ _ _ _ _ _ _ _ _ _ _ _ _ _ _ _ _ _ _ _ _ _ _ _ _ _ _ _ _ _ _ _ _ _ _ _ _ _ _ _ _ _ _ _ _ _ _ _ _ _ _ _ _ _ _ _ _ _ _ _ _ _ _ _ _ _ _ _ _ _ _ _
end Go.Proofs.YtkgkpggfoieioaaGreatDoor
