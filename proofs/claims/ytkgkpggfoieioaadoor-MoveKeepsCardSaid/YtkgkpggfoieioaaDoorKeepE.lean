import Derived.Test.YtkgkpggfoieioaaDoorKeepB
import Derived.Deep.CutBlock
import Derived.Deep.DeepCutAuto
import Derived.BigQuiet
import Derived.Deep.QuietTactic
namespace Go.Proofs.YtkgkpggfoieioaaDoor
set_option linter.unusedVariables false
open Go.RowKit
/-! MoveKeeps, the units compared, and the end. -/
theorem run_neU (t0 t1 t2 t3 t4 t5 t6 t7 : Int) (w : World) : (binOp .neq 33 (.agg #[.int .i64 t0, .int .i64 t1, .int .i64 t2, .int .i64 t3, .int .i64 t4, .int .i64 t5, .int .i64 t6, .int .i64 t7]) (.agg #[.int .i64 t0, .int .i64 t1, .int .i64 t2, .int .i64 t3, .int .i64 t4, .int .i64 t5, .int .i64 t6, .int .i64 t7])).run Tryd.prog w = .ok (.bool false) w := by
  go_simp
set_option maxHeartbeats 12800000 in
set_option maxRecDepth 100000 in
theorem keeps_E (sA : Option Addr) (sc : Nat) (L : List GK) (s : SW) (x : GW) (w : World) (hun : x.units.length ≤ 40) (hx : Hid (WorldOk L x)) (Y : GW) (EV : List EV) (hkp : Hid (Kp L x Y EV x.units.length)) (wb xb : Nat) (s2 : SW) (A : Option Addr) (B lb ab : Nat) (W0 : World) (hKn : Hid (KpB w W0 ⟨sA, sc⟩ L s x wb xb s2 Y A EV B lb ab (rpRun L x EV).1 (rpRun L x EV).2)) (u2 u4 u5 u6 u7 u8 u9 u11 u12 u13 u15 u16 u17 u18 u19 u20 u21 u22 u23 u24 u25 u26 u27 u28 u29 u30 u31 u32 u33 u34 u35 u36 u37 u38 u39 u40 u41 u42 u43 u44 u45 u46 u47 u48 u49 u50 u51 u52 u53 u54 u55 u56 u57 u58 u59 u60 u61 u62 u63 u64 u65 u66 u67 u68 u69 u70 u71 u72 u73 u74 u75 u76 u77 u78 u79 u80 u81 u82 u83 u84 u85 u86 u87 u88 u89 u90 u91 u92 u93 u94 u95 u96 u97 u98 u99 u100 u101 u102 u103 u104 u105 u106 u107 u108 u109 u110 u111 u112 u113 u114 u115 u116 u117 u118 u119 u120 u121 u122 u123 u124 u125 u126 u127 u128 u129 u130 u131 u132 u133 u134 u135 u136 u137 u138 u139 u140 u141 u142 u143 u144 u145 u146 u147 u148 u149 u150 u151 u152 u153 u154 u155 u156 u157 u158 u159 u160 u161 u162 u163 u164 u165 u166 u167 u168 u169 u170 u171 u172 u173 u174 u175 u176 u177 u178 u179 u180 u181 u182 u183 u184 u185 u186 u187 u188 u189 u190 u191 u192 u193 u194 u195 u196 u197 u198 u199 u200 u201 u202 u203 u204 u205 u206 u207 u208 u209 u210 u211 u212 u213 u214 u215 u216 u217 u218 u219 u220 u221 u222 u223 u224 u225 u226 u227 u228 u229 u230 u231 u232 u233 u234 u235 u236 u237 u238 u239 u240 u241 u242 u243 u244 u245 u246 u247 u248 u249 u250 u251 u252 u253 u254 u255 u256 u257 u258 u259 u260 u261 u262 u263 u264 u265 u266 u267 u268 u269 u270 u271 u272 u273 u274 u275 u276 u277 u278 u279 u280 u281 u282 u283 u284 u285 u286 u287 u288 u289 u290 u291 u292 u293 u294 u295 u296 u297 u298 u299 u300 u301 u302 u303 u304 u305 u306 u307 u308 u309 u310 u311 u312 u313 u314 u315 u316 u317 u318 u319 u320 u321 u322 u323 u324 u325 u326 u327 u328 u329 u330 u331 u332 u333 u334 u335 u336 u337 u338 u339 u340 : Value) :
    Code.wp Tryd.prog (tailC 15 (bodyC Tryd.f10)) (bodyPost Tryd.prog Tryd.f10 fun e w' => e = .returned (.bool true) ∧ Below w.heap.size w w') { tmps := #[.slice sA L.length sc, .agg #[.int .i64 x.turn, .int .i64 x.next, .int .i64 x.field.wide, .int .i64 x.field.high, .slice s.field.ground.A x.field.ground.length s.field.ground.c, .slice s.field.ore.A x.field.ore.length s.field.ore.c, .slice s.gold.A x.gold.length s.gold.c, .slice s.units.A x.units.length s.units.c, .slice s.queue.A x.queue.length s.queue.c], u2, .pointer (some ⟨wb, 0, none⟩), u4, u5, u6, u7, u8, u9, .pointer (some ⟨xb, 0, none⟩), u11, u12, u13, .slice (some ⟨ab, 0, none⟩) x.units.length x.units.length, u15, u16, u17, u18, u19, u20, u21, u22, u23, u24, u25, u26, u27, u28, u29, u30, u31, u32, u33, u34, u35, u36, u37, u38, u39, u40, u41, u42, u43, u44, u45, u46, u47, u48, u49, u50, u51, u52, u53, u54, u55, u56, u57, u58, u59, u60, u61, u62, u63, u64, u65, u66, u67, u68, u69, u70, u71, u72, u73, u74, u75, u76, u77, u78, u79, u80, u81, u82, u83, u84, u85, u86, u87, u88, u89, u90, u91, u92, u93, u94, u95, u96, u97, u98, u99, u100, u101, u102, u103, u104, u105, u106, u107, u108, u109, u110, u111, u112, u113, u114, u115, u116, u117, u118, u119, u120, u121, u122, u123, u124, u125, u126, u127, u128, u129, u130, u131, u132, u133, u134, u135, u136, u137, u138, u139, u140, u141, u142, u143, u144, u145, u146, u147, u148, u149, u150, u151, u152, u153, u154, u155, u156, u157, u158, u159, u160, u161, u162, u163, u164, u165, u166, u167, u168, u169, u170, u171, u172, u173, u174, u175, u176, u177, u178, u179, u180, u181, u182, u183, u184, u185, u186, u187, u188, u189, u190, u191, u192, u193, u194, u195, u196, u197, u198, u199, u200, u201, u202, u203, u204, u205, u206, u207, u208, u209, u210, u211, u212, u213, u214, u215, u216, u217, u218, u219, u220, u221, u222, u223, u224, u225, u226, u227, u228, u229, u230, u231, u232, u233, u234, u235, u236, u237, u238, u239, u240, u241, u242, u243, u244, u245, u246, u247, u248, u249, u250, u251, u252, u253, u254, u255, u256, u257, u258, u259, u260, u261, u262, u263, u264, u265, u266, u267, u268, u269, u270, u271, u272, u273, u274, u275, u276, u277, u278, u279, u280, u281, u282, u283, u284, u285, u286, u287, u288, u289, u290, u291, u292, u293, u294, u295, u296, u297, u298, u299, u300, u301, u302, u303, u304, u305, u306, u307, u308, u309, u310, u311, u312, u313, u314, u315, u316, u317, u318, u319, u320, u321, u322, u323, u324, u325, u326, u327, u328, u329, u330, u331, u332, u333, u334, u335, u336, u337, u338, u339, u340], defers := [] } W0 := by
  conv => arg 2; whnf
  obtain ⟨ls, as_, hla⟩ : ∃ ls as_, rpRun L x EV = (ls, as_) := ⟨_, _, rfl⟩
  rw [hla] at hKn
  dsimp only at hKn
  replace hla := Lib.hid hla
  go_wp2_with fail
  go_loopw [24] (fun v24 wr => ∃ k : Nat, v24 = .int .i64 k ∧ k ≤ x.units.length ∧ Hid (KpB w wr ⟨sA, sc⟩ L s x wb xb s2 Y A EV B lb ab ls as_)) (fun v24 _ => x.units.length - (intOf v24).toNat)
  case atStart => exact ⟨0, rfl, Nat.zero_le _, hKn⟩
  case round =>
    clear hKn
    obtain ⟨k, rfl, hk, hKn⟩ := hrel
    by_cases hlt : k < x.units.length
    case pos =>
      as_aux_lemma =>
      have z1 : (k : Int) < (x.units.length : Int) := by omega
      have hYl := hkp.out.len
      have hky : k < Y.units.length := by rw [hYl]; exact hlt
      have z2 : (k : Int) < (Y.units.length : Int) := by omega
      obtain ⟨e0, e1, e2, e4, e5, eT⟩ := hkp.out.keep k hlt
      have hsp := hkp.out.spots k hlt
      rw [hla.out] at hsp
      dsimp only at hsp
      have hal : as_.length = x.units.length := by have := (rp_len L x EV).2; rw [hla.out] at this; exact this
      obtain ⟨ug, uo, hUA, -⟩ := ru_at hKn.out.sb.wo_.2.2.2.2.1.1 k hlt
      obtain ⟨yg, yo, hYA, -⟩ := ru_at hKn.out.ry.u k hky
      obtain ⟨p0, p1, p2, p3, p4, p5, p6, p7⟩ := hKn.out.ucell hlt hUA
      obtain ⟨q0, q1, q2, q3, q4, q5, q6, q7⟩ := hKn.out.ycell hky hYA
      obtain ⟨m0, m1, m2, m3, m4, m5, m6, m7, m8, mll⟩ := hKn.out.cells
      rw [hUA] at m7
      have y7 : wr.cell? ⟨xb, 7, none⟩ = some (.slice (some ⟨yg, yo, none⟩) Y.units.length s2.units.c) := by rw [← hYA]; exact hKn.out.kx.cell 7
      have xl := hKn.out.kx.lt
      have ca := hKn.out.ka.atI k (by rw [hal]; exact hlt)
      rw [at0_getD, hsp] at ca
      obtain ⟨t0, t1, t2, t3, t4, t5, t6, t7, hu⟩ : ∃ t0 t1 t2 t3 t4 t5 t6 t7, gu x.units k = ⟨t0, t1, t2, t3, t4, t5, t6, t7⟩ := ⟨_, _, _, _, _, _, _, _, rfl⟩
      obtain ⟨y0, y1, y2, sy, y4, y5, ty, gy, hv⟩ : ∃ y0 y1 y2 sy y4 y5 ty gy, gu Y.units k = ⟨y0, y1, y2, sy, y4, y5, ty, gy⟩ := ⟨_, _, _, _, _, _, _, _, rfl⟩
      rw [hu, hv] at e0 e1 e2 e4 e5 eT
      dsimp only at e0 e1 e2 e4 e5 eT
      replace e0 := e0.symm
      subst e0
      replace e1 := e1.symm
      subst e1
      replace e2 := e2.symm
      subst e2
      replace e4 := e4.symm
      subst e4
      replace e5 := e5.symm
      subst e5
      rw [hu] at p0 p1 p2 p3 p4 p5 p6 p7
      rw [hv] at q0 q1 q2 q3 q4 q5 q6 q7 ca
      dsimp only at p0 p1 p2 p3 p4 p5 p6 p7 q0 q1 q2 q3 q4 q5 q6 q7 ca
      have k0 : (gu Y.units k).id = _ := congrArg GU.id hv
      have k1 : (gu Y.units k).player = _ := congrArg GU.player hv
      have k2 : (gu Y.units k).kind = _ := congrArg GU.kind hv
      have k3 : (gu Y.units k).spot = _ := congrArg GU.spot hv
      have k4 : (gu Y.units k).life = _ := congrArg GU.life hv
      have k5 : (gu Y.units k).load = _ := congrArg GU.load hv
      have k6 : (gu Y.units k).task = _ := congrArg GU.task hv
      have k7 : (gu Y.units k).goal = _ := congrArg GU.goal hv
      dsimp only at k0 k1 k2 k3 k4 k5 k6 k7
      replace k0 := Lib.hid k0
      replace k1 := Lib.hid k1
      replace k2 := Lib.hid k2
      replace k3 := Lib.hid k3
      replace k4 := Lib.hid k4
      replace k5 := Lib.hid k5
      replace k6 := Lib.hid k6
      replace k7 := Lib.hid k7
      replace hu := Lib.hid hu
      replace hv := Lib.hid hv
      replace hUA := Lib.hid hUA
      replace hYA := Lib.hid hYA
      replace hYl := Lib.hid hYl
      replace hsp := Lib.hid hsp
      replace hal := Lib.hid hal
      replace eT := Lib.hid eT
      go_upto_region 43 with fail
      have hKn1 := hKn.out.alloc (.cells #[.int .i64 t0, .int .i64 t1, .int .i64 t2, .int .i64 t3, .int .i64 t4, .int .i64 t5, .int .i64 t6, .int .i64 t7] 33)
      have hb1 : Blk (wr.alloc (.cells #[.int .i64 t0, .int .i64 t1, .int .i64 t2, .int .i64 t3, .int .i64 t4, .int .i64 t5, .int .i64 t6, .int .i64 t7] 33)) wr.heap.size 33 #[.int .i64 t0, .int .i64 t1, .int .i64 t2, .int .i64 t3, .int .i64 t4, .int .i64 t5, .int .i64 t6, .int .i64 t7] := Blk.new _ _ _
      clear hKn p0 p1 p2 p3 p4 p5 p6 p7 m0 m1 m2 m3 m4 m5 m6 m7 m8 mll y7 xl q0 q1 q2 q3 q4 q5 q6 q7 ca
      generalize (wr.alloc (.cells #[.int .i64 t0, .int .i64 t1, .int .i64 t2, .int .i64 t3, .int .i64 t4, .int .i64 t5, .int .i64 t6, .int .i64 t7] 33)) = W2 at *
      obtain ⟨b1, hb1e⟩ : ∃ b1, wr.heap.size = b1 := ⟨_, rfl⟩
      rw [hb1e] at hb1 ⊢
      clear hb1e
      obtain ⟨q0, q1, q2, q3, q4, q5, q6, q7⟩ := hKn1.ycell hky hYA.out
      rw [k0] at q0
      rw [k1] at q1
      rw [k2] at q2
      rw [k3] at q3
      rw [k4] at q4
      rw [k5] at q5
      rw [k6] at q6
      rw [k7] at q7
      have y7 : W2.cell? ⟨xb, 7, none⟩ = some (.slice (some ⟨yg, yo, none⟩) Y.units.length s2.units.c) := by rw [← hYA.out]; exact hKn1.kx.cell 7
      have xl := hKn1.kx.lt
      replace hKn1 := Lib.hid hKn1
      replace hb1 := Lib.hid hb1
      go_upto_region 44 with fail
      have hKn2 := hKn1.out.alloc (.cells #[.int .i64 t0, .int .i64 t1, .int .i64 t2, .int .i64 sy, .int .i64 t4, .int .i64 t5, .int .i64 ty, .int .i64 gy] 33)
      have hb2 : Blk (W2.alloc (.cells #[.int .i64 t0, .int .i64 t1, .int .i64 t2, .int .i64 sy, .int .i64 t4, .int .i64 t5, .int .i64 ty, .int .i64 gy] 33)) W2.heap.size 33 #[.int .i64 t0, .int .i64 t1, .int .i64 t2, .int .i64 sy, .int .i64 t4, .int .i64 t5, .int .i64 ty, .int .i64 gy] := Blk.new _ _ _
      have hb1n := hb1.out.alloc (.cells #[.int .i64 t0, .int .i64 t1, .int .i64 t2, .int .i64 sy, .int .i64 t4, .int .i64 t5, .int .i64 ty, .int .i64 gy] 33)
      clear hKn1 hb1 q0 q1 q2 q3 q4 q5 q6 q7 y7 xl
      generalize (W2.alloc (.cells #[.int .i64 t0, .int .i64 t1, .int .i64 t2, .int .i64 sy, .int .i64 t4, .int .i64 t5, .int .i64 ty, .int .i64 gy] 33)) = W3 at *
      obtain ⟨b2, hb2e⟩ : ∃ b2, W2.heap.size = b2 := ⟨_, rfl⟩
      rw [hb2e] at hb2 ⊢
      clear hb2e
      have ca : W3.cell? ⟨ab, k, none⟩ = some (.int .i64 sy) := by
        have := hKn2.ka.atI k (by rw [hal.out]; exact hlt)
        rw [at0_getD, hsp.out, k3.out] at this
        exact this
      have al := hKn2.ka.lt
      have v0 : W3.cell? ⟨b1, 0, none⟩ = some (.int .i64 t0) := hb1n.cell 0
      have o0 : W3.cell? ⟨b2, 0, none⟩ = some (.int .i64 t0) := hb2.cell 0
      have v1 : W3.cell? ⟨b1, 1, none⟩ = some (.int .i64 t1) := hb1n.cell 1
      have o1 : W3.cell? ⟨b2, 1, none⟩ = some (.int .i64 t1) := hb2.cell 1
      have v2 : W3.cell? ⟨b1, 2, none⟩ = some (.int .i64 t2) := hb1n.cell 2
      have o2 : W3.cell? ⟨b2, 2, none⟩ = some (.int .i64 t2) := hb2.cell 2
      have v3 : W3.cell? ⟨b1, 3, none⟩ = some (.int .i64 t3) := hb1n.cell 3
      have o3 : W3.cell? ⟨b2, 3, none⟩ = some (.int .i64 sy) := hb2.cell 3
      have v4 : W3.cell? ⟨b1, 4, none⟩ = some (.int .i64 t4) := hb1n.cell 4
      have o4 : W3.cell? ⟨b2, 4, none⟩ = some (.int .i64 t4) := hb2.cell 4
      have v5 : W3.cell? ⟨b1, 5, none⟩ = some (.int .i64 t5) := hb1n.cell 5
      have o5 : W3.cell? ⟨b2, 5, none⟩ = some (.int .i64 t5) := hb2.cell 5
      have v6 : W3.cell? ⟨b1, 6, none⟩ = some (.int .i64 t6) := hb1n.cell 6
      have o6 : W3.cell? ⟨b2, 6, none⟩ = some (.int .i64 ty) := hb2.cell 6
      have v7 : W3.cell? ⟨b1, 7, none⟩ = some (.int .i64 t7) := hb1n.cell 7
      have o7 : W3.cell? ⟨b2, 7, none⟩ = some (.int .i64 gy) := hb2.cell 7
      have vl := hb1n.lt
      have ol := hb2.lt
      have d0 : (t0 != t0) = false := by simp
      have d1 : (t1 != t1) = false := by simp
      have d2 : (t2 != t2) = false := by simp
      have d3 : (sy != sy) = false := by simp
      have d4 : (t4 != t4) = false := by simp
      have d5 : (t5 != t5) = false := by simp
      replace hKn2 := Lib.hid hKn2
      replace hb2 := Lib.hid hb2
      replace hb1n := Lib.hid hb1n
      by_cases hz : t6 = 0
      · as_aux_lemma =>
        have hE := eT.out hz
        injection hE with f0 f1 f2 f3 f4 f5 f6 f7
        clear f0 f1 f2 f4 f5
        subst f3; subst f6; subst f7
        have hz1 : (ty == 0) = true := by simp [hz]
        replace hz := Lib.hid hz
        have hne := run_neU t0 t1 t2 sy t4 t5 ty gy
        go_wp2_with fail
        go_quiet (fail)
        go_wp2_with fail
        go_roundw
        case rel => exact ⟨k + 1, by go_num, by omega, Lib.hid (hKn2.out.drewN _)⟩
        case measure => simp [intOf]; omega
      · as_aux_lemma =>
        have hz1 : (t6 == 0) = false := by simp [hz]
        replace hz := Lib.hid hz
        go_wp2_with fail
        go_quiet (fail)
        go_wp2_with fail
        go_roundw
        case rel => exact ⟨k + 1, by go_num, by omega, Lib.hid (hKn2.out.drewN _)⟩
        case measure => simp [intOf]; omega
    case neg =>
    as_aux_lemma =>
    have z1 : ¬ (k : Int) < (x.units.length : Int) := by omega
    obtain ⟨m0, m1, m2, m3, m4, m5, m6, m7, m8, mll⟩ := hKn.out.cells
    have y2 : wr.cell? ⟨xb, 2, none⟩ = some (.int .i64 Y.field.wide) := hKn.out.kx.cell 2
    have y3 : wr.cell? ⟨xb, 3, none⟩ = some (.int .i64 Y.field.high) := hKn.out.kx.cell 3
    have y4 : wr.cell? ⟨xb, 4, none⟩ = some (.slice s2.field.ground.A Y.field.ground.length s2.field.ground.c) := hKn.out.kx.cell 4
    have y5 : wr.cell? ⟨xb, 5, none⟩ = some (.slice s2.field.ore.A Y.field.ore.length s2.field.ore.c) := hKn.out.kx.cell 5
    have y6 : wr.cell? ⟨xb, 6, none⟩ = some (.slice s2.gold.A Y.gold.length s2.gold.c) := hKn.out.kx.cell 6
    have xl := hKn.out.kx.lt
    have hfe : Y.field = x.field := hkp.out.field
    have hge : Y.gold = x.gold := by rw [hkp.out.same]
    have hry := hKn.out.ry
    have hrx := hKn.out.sb.wo_.rd
    have hBl : B ≤ wr.heap.size := by have := hKn.out.kl.lt; have := hKn.out.p4; omega
    have hg1 := hry.g
    have ho1 := hry.o
    have hd1 := hry.d
    rw [hfe] at y2 y3 y4 y5 hg1 ho1
    rw [hge] at y6 hd1
    have hgl := Lib.hid (good_of x.field hx.out.field).len
    have hpl := (headE_ok hx.out.head).players
    have hci : Calls Tryd.prog 37 #[.slice s2.gold.A x.gold.length s2.gold.c, .slice s.gold.A x.gold.length s.gold.c] wr fun e w' => e = .returned (.bool true) ∧ ∃ q, w' = wr.drewN q := by
      refine (ints_any s2.gold.A s.gold.A s2.gold.c s.gold.c wr.heap.size x.gold x.gold wr (hd1.more hBl) hrx.d (by omega)).mono ?_
      rintro e w' ⟨q, rfl, h⟩
      exact ⟨by rw [eqL_yes rfl], q, h⟩
    replace hci := Lib.hid hci
    replace hfe := Lib.hid hfe
    replace hge := Lib.hid hge
    clear hry hrx hg1 ho1 hd1
    go_upto_region 47 with (go_at_call 37; refine hci.out.mono ?_; rintro e W5 ⟨rfl, q, rfl⟩)
    have hKq := hKn.out.drewN q
    clear hci hKn y2 y3 y4 y5 y6 xl m0 m1 m2 m3 m4 m5 m6 m7 m8 mll
    generalize wr.drewN q = Wq at *
    obtain ⟨m0, m1, m2, m3, m4, m5, m6, m7, m8, mll⟩ := hKq.cells
    have y2 : Wq.cell? ⟨xb, 2, none⟩ = some (.int .i64 Y.field.wide) := hKq.kx.cell 2
    have y3 : Wq.cell? ⟨xb, 3, none⟩ = some (.int .i64 Y.field.high) := hKq.kx.cell 3
    have y4 : Wq.cell? ⟨xb, 4, none⟩ = some (.slice s2.field.ground.A Y.field.ground.length s2.field.ground.c) := hKq.kx.cell 4
    have y5 : Wq.cell? ⟨xb, 5, none⟩ = some (.slice s2.field.ore.A Y.field.ore.length s2.field.ore.c) := hKq.kx.cell 5
    have xl := hKq.kx.lt
    have hg1 := hKq.ry.g
    have ho1 := hKq.ry.o
    have hrx := hKq.sb.wo_.rd
    have hBq : B ≤ Wq.heap.size := by have := hKq.kl.lt; have := hKq.p4; omega
    rw [hfe.out] at y2 y3 y4 y5 hg1 ho1
    have hc : Calls Tryd.prog 51 #[.agg #[.int .i64 x.field.wide, .int .i64 x.field.high, .slice s2.field.ground.A x.field.ground.length s2.field.ground.c, .slice s2.field.ore.A x.field.ore.length s2.field.ore.c], .agg #[.int .i64 x.field.wide, .int .i64 x.field.high, .slice s.field.ground.A x.field.ground.length s.field.ground.c, .slice s.field.ore.A x.field.ore.length s.field.ore.c]] Wq fun e w' => e = .returned (.bool true) ∧ Below Wq.heap.size Wq w' :=
      samef_rd s2.field s.field x.field Wq Wq.heap.size (hg1.more hBq) hrx.g (ho1.more hBq) hrx.o (by have := hgl.out; omega) (by have := hgl.out; omega) (Nat.le_refl _)
    replace hc := Lib.hid hc
    have hbf := hKq.sb.b
    replace hbf := Lib.hid hbf
    clear hg1 ho1 hrx hKq
    go_upto_region 48 with (go_at_call 51; refine hc.out.mono ?_; clear m0 m1 m2 m3 m4 m5 m6 m7 m8 mll y2 y3 y4 y5 xl; rintro e W6 ⟨rfl, hb⟩)
    have hbg : Below w.heap.size w W6 := hbf.out.trans (hb.mono hbf.out.size)
    replace hbg := Lib.hid hbg
    clear hb
    go_wp2_with fail
    go_ret
    exact ⟨rfl, hbg.out⟩
end Go.Proofs.YtkgkpggfoieioaaDoor
