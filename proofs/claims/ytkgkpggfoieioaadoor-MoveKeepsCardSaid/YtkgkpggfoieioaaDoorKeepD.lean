import Derived.Test.YtkgkpggfoieioaaDoorKeepE
import Derived.Deep.CutBlock
import Derived.Deep.DeepCutAuto
import Derived.BigQuiet
import Derived.Deep.QuietTactic
namespace Go.Proofs.YtkgkpggfoieioaaDoor
set_option linter.unusedVariables false
open Go.RowKit
/-! MoveKeeps, from what has happened on. -/
set_option maxHeartbeats 12800000 in
set_option maxRecDepth 100000 in
theorem keeps_D (sA : Option Addr) (sc : Nat) (L : List GK) (s : SW) (x : GW) (w : World) (hcap : L.length ≤ sc) (hmx : sc ≤ 9223372036854775807) (hun : x.units.length ≤ 40) (hx : Hid (WorldOk L x)) (Y : GW) (EV : List EV) (hkp : Hid (Kp L x Y EV x.units.length)) (hel : EV.length ≤ 200) (wb xb : Nat) (s2 : SW) (A : Option Addr) (c B lb ab : Nat) (W0 : World) (hKn : Hid (KpB w W0 ⟨sA, sc⟩ L s x wb xb s2 Y A EV B lb ab (x.units.map (fun u => (gk L u.kind.toNat).speed)) (x.units.map GU.spot))) (u2 u5 u6 u7 u9 u11 u12 u15 u16 u17 u18 u19 u20 u21 u22 u23 u24 u25 u26 u27 u28 u29 u30 u31 u32 u33 u34 u35 u36 u37 u38 u39 u40 u41 u42 u43 u44 u45 u46 u47 u48 u49 u50 u51 u52 u53 u54 u55 u56 u57 u58 u59 u60 u61 u62 u63 u64 u65 u66 u67 u68 u69 u70 u71 u72 u73 u74 u75 u76 u77 u78 u79 u80 u81 u82 u83 u84 u85 u86 u87 u88 u89 u90 u91 u92 u93 u94 u95 u96 u97 u98 u99 u100 u101 u102 u103 u104 u105 u106 u107 u108 u109 u110 u111 u112 u113 u114 u115 u116 u117 u118 u119 u120 u121 u122 u123 u124 u125 u126 u127 u128 u129 u130 u131 u132 u133 u134 u135 u136 u137 u138 u139 u140 u141 u142 u143 u144 u145 u146 u147 u148 u149 u150 u151 u152 u153 u154 u155 u156 u157 u158 u159 u160 u161 u162 u163 u164 u165 u166 u167 u168 u169 u170 u171 u172 u173 u174 u175 u176 u177 u178 u179 u180 u181 u182 u183 u184 u185 u186 u187 u188 u189 u190 u191 u192 u193 u194 u195 u196 u197 u198 u199 u200 u201 u202 u203 u204 u205 u206 u207 u208 u209 u210 u211 u212 u213 u214 u215 u216 u217 u218 u219 u220 u221 u222 u223 u224 u225 u226 u227 u228 u229 u230 u231 u232 u233 u234 u235 u236 u237 u238 u239 u240 u241 u242 u243 u244 u245 u246 u247 u248 u249 u250 u251 u252 u253 u254 u255 u256 u257 u258 u259 u260 u261 u262 u263 u264 u265 u266 u267 u268 u269 u270 u271 u272 u273 u274 u275 u276 u277 u278 u279 u280 u281 u282 u283 u284 u285 u286 u287 u288 u289 u290 u291 u292 u293 u294 u295 u296 u297 u298 u299 u300 u301 u302 u303 u304 u305 u306 u307 u308 u309 u310 u311 u312 u313 u314 u315 u316 u317 u318 u319 u320 u321 u322 u323 u324 u325 u326 u327 u328 u329 u330 u331 u332 u333 u334 u335 u336 u337 u338 u339 u340 : Value) :
    Code.wp Tryd.prog (tailC 14 (bodyC Tryd.f10)) (bodyPost Tryd.prog Tryd.f10 fun e w' => e = .returned (.bool true) ∧ Below w.heap.size w w') { tmps := #[.slice sA L.length sc, .agg #[.int .i64 x.turn, .int .i64 x.next, .int .i64 x.field.wide, .int .i64 x.field.high, .slice s.field.ground.A x.field.ground.length s.field.ground.c, .slice s.field.ore.A x.field.ore.length s.field.ore.c, .slice s.gold.A x.gold.length s.gold.c, .slice s.units.A x.units.length s.units.c, .slice s.queue.A x.queue.length s.queue.c], u2, .pointer (some ⟨wb, 0, none⟩), .bool false, u5, u6, u7, .slice A EV.length c, u9, .pointer (some ⟨xb, 0, none⟩), u11, u12, .slice (some ⟨lb, 0, none⟩) x.units.length x.units.length, .slice (some ⟨ab, 0, none⟩) x.units.length x.units.length, u15, u16, u17, u18, u19, u20, u21, u22, u23, u24, u25, u26, u27, u28, u29, u30, u31, u32, u33, u34, u35, u36, u37, u38, u39, u40, u41, u42, u43, u44, u45, u46, u47, u48, u49, u50, u51, u52, u53, u54, u55, u56, u57, u58, u59, u60, u61, u62, u63, u64, u65, u66, u67, u68, u69, u70, u71, u72, u73, u74, u75, u76, u77, u78, u79, u80, u81, u82, u83, u84, u85, u86, u87, u88, u89, u90, u91, u92, u93, u94, u95, u96, u97, u98, u99, u100, u101, u102, u103, u104, u105, u106, u107, u108, u109, u110, u111, u112, u113, u114, u115, u116, u117, u118, u119, u120, u121, u122, u123, u124, u125, u126, u127, u128, u129, u130, u131, u132, u133, u134, u135, u136, u137, u138, u139, u140, u141, u142, u143, u144, u145, u146, u147, u148, u149, u150, u151, u152, u153, u154, u155, u156, u157, u158, u159, u160, u161, u162, u163, u164, u165, u166, u167, u168, u169, u170, u171, u172, u173, u174, u175, u176, u177, u178, u179, u180, u181, u182, u183, u184, u185, u186, u187, u188, u189, u190, u191, u192, u193, u194, u195, u196, u197, u198, u199, u200, u201, u202, u203, u204, u205, u206, u207, u208, u209, u210, u211, u212, u213, u214, u215, u216, u217, u218, u219, u220, u221, u222, u223, u224, u225, u226, u227, u228, u229, u230, u231, u232, u233, u234, u235, u236, u237, u238, u239, u240, u241, u242, u243, u244, u245, u246, u247, u248, u249, u250, u251, u252, u253, u254, u255, u256, u257, u258, u259, u260, u261, u262, u263, u264, u265, u266, u267, u268, u269, u270, u271, u272, u273, u274, u275, u276, u277, u278, u279, u280, u281, u282, u283, u284, u285, u286, u287, u288, u289, u290, u291, u292, u293, u294, u295, u296, u297, u298, u299, u300, u301, u302, u303, u304, u305, u306, u307, u308, u309, u310, u311, u312, u313, u314, u315, u316, u317, u318, u319, u320, u321, u322, u323, u324, u325, u326, u327, u328, u329, u330, u331, u332, u333, u334, u335, u336, u337, u338, u339, u340], defers := [] } W0 := by
  conv => arg 2; whnf
  obtain ⟨sf, sg, ⟨uA, uc⟩, sq⟩ := s
  dsimp only
  replace hKn : Hid (KpB w W0 ⟨sA, sc⟩ L ⟨sf, sg, ⟨uA, uc⟩, sq⟩ x wb xb s2 Y A EV B lb ab (x.units.map (fun u => (gk L u.kind.toNat).speed)) (x.units.map GU.spot)) := hKn
  go_upto_block 2 with fail
  go_cut [16, 17, 18, 19, 20, 21, 22, 23] from 147 to 257 (fun _ _ _ _ _ _ _ _ wx0 => ∃ wx, wx = wx0 ∧ Hid (KpB w wx ⟨sA, sc⟩ L ⟨sf, sg, ⟨uA, uc⟩, sq⟩ x wb xb s2 Y A EV B lb ab (rpRun L x EV).1 (rpRun L x EV).2))
  case first =>
    as_aux_lemma =>
    have hK0 : Hid (KpB w W0 ⟨sA, sc⟩ L ⟨sf, sg, ⟨uA, uc⟩, sq⟩ x wb xb s2 Y A EV B lb ab (rpRun L x (EV.take 0)).1 (rpRun L x (EV.take 0)).2) := hKn
    clear hKn
    go_wp2_with fail
    go_loopw [16] (fun v16 wr => ∃ i : Nat, v16 = .int .i64 i ∧ i ≤ EV.length ∧ Hid (KpB w wr ⟨sA, sc⟩ L ⟨sf, sg, ⟨uA, uc⟩, sq⟩ x wb xb s2 Y A EV B lb ab (rpRun L x (EV.take i)).1 (rpRun L x (EV.take i)).2)) (fun v16 _ => EV.length - (intOf v16).toNat)
    case atStart => exact ⟨0, rfl, Nat.zero_le _, hK0⟩
    case round =>
      clear hK0
      obtain ⟨i, rfl, hi, hKn⟩ := hrel
      by_cases hlt : i < EV.length
      case neg =>
        as_aux_lemma =>
        have z1 : ¬ (i : Int) < (EV.length : Int) := by omega
        rw [List.take_of_length_le (by omega)] at hKn
        go_wp2_with fail
        go_meet
        exact ⟨_, rfl, hKn⟩
      case pos =>
      as_aux_lemma =>
      have z1 : (i : Int) < (EV.length : Int) := by omega
      have hok := hkp.out.good i hlt
      have hnx := rpRun_take L x EV hlt
      have hle4 := rp_le hx.out (EV.take i)
      have hlen := rp_len L x (EV.take i)
      generalize rpRun L x (EV.take i) = r at *
      obtain ⟨ls, as_⟩ := r
      dsimp only at hlen hle4 hKn
      obtain ⟨hwho, hwhat, hnear, hcell, hfrom, hstep, hleft⟩ := hok
      dsimp only at hnear hfrom hleft
      have hql := find_lt hwho
      unfold rpStep at hnx
      dsimp only at hnx
      obtain ⟨q, hq⟩ : ∃ q : Nat, findId x.units (evAt EV i).unit = (q : Int) := ⟨(findId x.units (evAt EV i).unit).toNat, by omega⟩
      rw [hq, Int.toNat_natCast] at hnear hfrom hstep hleft hql hnx
      obtain ⟨a, ha⟩ : ∃ a : Nat, as_.getD q 0 = (a : Int) := ⟨(as_.getD q 0).toNat, by omega⟩
      obtain ⟨g0, hg0⟩ : ∃ g0 : Nat, (evAt EV i).arg = (g0 : Int) := ⟨(evAt EV i).arg.toNat, by omega⟩
      obtain ⟨kq, hkq⟩ : ∃ kq : Nat, (gu x.units q).kind = (kq : Int) := ⟨(gu x.units q).kind.toNat, by have := (unitE_ok (hx.out.units q hql)).kind; omega⟩
      have hkql : kq < L.length := by have := (unitE_ok (hx.out.units q hql)).kind; omega
      obtain ⟨kf, hkf⟩ : ∃ kf, (gk L kq).flies = kf := ⟨_, rfl⟩
      rw [ha] at hnear hfrom
      rw [hg0] at hnear hcell hnx
      rw [hg0, hkq, Int.toNat_natCast, Int.toNat_natCast, hkf] at hstep hleft
      rw [hkq, Int.toNat_natCast, Int.toNat_natCast, hkf] at hnx
      obtain ⟨ov, hov⟩ : ∃ ov, ontoL x.field g0 kf = ov := ⟨_, rfl⟩
      obtain ⟨lv, hlv⟩ : ∃ lv, ls.getD q 0 = lv := ⟨_, rfl⟩
      rw [hov] at hstep hleft hnx
      rw [hlv] at hleft hnx
      have hlv4 : lv ≤ 4 := by rw [← hlv]; exact hle4 q
      obtain ⟨eu, heu⟩ : ∃ eu, (evAt EV i).unit = eu := ⟨_, rfl⟩
      have hwh := hwhat
      have hge : ge EV i = evAt EV i := rfl
      have hgood := good_of x.field hx.out.field
      have hca : a < x.field.ground.length := by omega
      have hcg : g0 < x.field.ground.length := by omega
      have hqi : (q : Int) < (x.units.length : Int) := by omega
      have hkqi : (kq : Int) < (L.length : Int) := by omega
      clear hle4 hfrom hcell hwhat hwho
      obtain ⟨ug, uo, hUA, -⟩ := ru_at hKn.out.sb.wo_.2.2.2.2.1.1 q hql
      obtain ⟨bk, okk, hAk, -⟩ := rk_at hKn.out.sb.ks_.rd kq hkql
      obtain ⟨eb, eo, hEA, -⟩ := re_at hKn.out.re i hlt
      dsimp only at hUA hAk
      subst hUA; subst hAk; subst hEA
      have hS : ∀ wz, (KpB w wz ⟨some ⟨bk, okk, none⟩, sc⟩ L ⟨sf, sg, ⟨some ⟨ug, uo, none⟩, uc⟩, sq⟩ x wb xb s2 Y (some ⟨eb, eo, none⟩) EV B lb ab ls as_) → (fun wz : World => wz.cell? ⟨wb, 0, none⟩ = some (.int .i64 x.turn) ∧ wz.cell? ⟨wb, 1, none⟩ = some (.int .i64 x.next) ∧ wz.cell? ⟨wb, 2, none⟩ = some (.int .i64 x.field.wide) ∧ wz.cell? ⟨wb, 3, none⟩ = some (.int .i64 x.field.high) ∧ wz.cell? ⟨wb, 4, none⟩ = some (.slice sf.ground.A x.field.ground.length sf.ground.c) ∧ wz.cell? ⟨wb, 5, none⟩ = some (.slice sf.ore.A x.field.ore.length sf.ore.c) ∧ wz.cell? ⟨wb, 6, none⟩ = some (.slice sg.A x.gold.length sg.c) ∧ wz.cell? ⟨wb, 7, none⟩ = some (.slice (some ⟨ug, uo, none⟩) x.units.length uc) ∧ wz.cell? ⟨wb, 8, none⟩ = some (.slice sq.A x.queue.length sq.c) ∧ wz.cell? ⟨eb, eo + i * 3 + 1, none⟩ = some (.int .i64 eu) ∧ wz.cell? ⟨eb, eo + i * 3 + 2, none⟩ = some (.int .i64 (g0 : Int)) ∧ wz.cell? ⟨ab, q, none⟩ = some (.int .i64 (a : Int)) ∧ wz.cell? ⟨ug, uo + q * 8 + 2, none⟩ = some (.int .i64 (kq : Int)) ∧ wz.cell? ⟨bk, okk + kq * 11 + 9, none⟩ = some (.bool kf)) wz := fun wz h => by
        obtain ⟨m0, m1, m2, m3, m4, m5, m6, m7, m8, mll⟩ := h.cells
        dsimp only at m0 m1 m2 m3 m4 m5 m6 m7 m8
        obtain ⟨eb', eo', hEA', _, c0, c1, c2⟩ := re_at h.re i hlt
        injection hEA' with hEA'
        injection hEA' with e3 e4
        subst e3; subst e4
        rw [hge] at c0 c1 c2
        rw [heu] at c1
        rw [hg0] at c2
        have ca := h.ka.atI q (by rw [hlen.2]; exact hql)
        rw [at0_getD, ha] at ca
        obtain ⟨_, _, p2, _⟩ := h.ucell hql rfl
        rw [hkq] at p2
        have k9 := h.sb.flies kq hkql
        rw [hkf] at k9
        exact ⟨m0, m1, m2, m3, m4, m5, m6, m7, m8, c1, c2, ca, p2, k9⟩
      have hfi : ∀ wz, (KpB w wz ⟨some ⟨bk, okk, none⟩, sc⟩ L ⟨sf, sg, ⟨some ⟨ug, uo, none⟩, uc⟩, sq⟩ x wb xb s2 Y (some ⟨eb, eo, none⟩) EV B lb ab ls as_) → Calls Tryd.prog 34 #[.agg #[.int .i64 x.turn, .int .i64 x.next, .int .i64 x.field.wide, .int .i64 x.field.high, .slice sf.ground.A x.field.ground.length sf.ground.c, .slice sf.ore.A x.field.ore.length sf.ore.c, .slice sg.A x.gold.length sg.c, .slice (some ⟨ug, uo, none⟩) x.units.length uc, .slice sq.A x.queue.length sq.c], .int .i64 eu] wz fun e w' => e = .returned (.int .i64 (q : Int)) ∧ (KpB w w' ⟨some ⟨bk, okk, none⟩, sc⟩ L ⟨sf, sg, ⟨some ⟨ug, uo, none⟩, uc⟩, sq⟩ x wb xb s2 Y (some ⟨eb, eo, none⟩) EV B lb ab ls as_) := fun wz h => by
        have := rwfind_any ⟨sf, sg, ⟨some ⟨ug, uo, none⟩, uc⟩, sq⟩ x eu wz h.sb.wo_
        rw [← heu, hq, heu] at this
        exact this.mono fun _ _ ⟨h1, h2⟩ => ⟨h1, h.below h2⟩
      obtain ⟨NL, hNL⟩ : ∃ NL, besL x.field (a : Int) = NL := ⟨_, rfl⟩
      have hNl : NL.length ≤ 4 := by rw [← hNL]; exact besN_len _ _ 4
      rw [hNL] at hnear
      have hne : ∀ wz, (KpB w wz ⟨some ⟨bk, okk, none⟩, sc⟩ L ⟨sf, sg, ⟨some ⟨ug, uo, none⟩, uc⟩, sq⟩ x wb xb s2 Y (some ⟨eb, eo, none⟩) EV B lb ab ls as_) → Calls Tryd.prog 50 #[.agg #[.int .i64 x.field.wide, .int .i64 x.field.high, .slice sf.ground.A x.field.ground.length sf.ground.c, .slice sf.ore.A x.field.ore.length sf.ore.c], .int .i64 (a : Int)] wz fun e w' => ∃ NA NC, e = .returned (.tuple #[.slice NA NL.length NC, .nilIface]) ∧ RD w' w'.heap.size 1 NA NL.length (NL.map (.int .i64)) ∧ (KpB w w' ⟨some ⟨bk, okk, none⟩, sc⟩ L ⟨sf, sg, ⟨some ⟨ug, uo, none⟩, uc⟩, sq⟩ x wb xb s2 Y (some ⟨eb, eo, none⟩) EV B lb ab ls as_) := fun wz h => by
        have := near_ok sf x.field (a : Int) wz h.sb.wo_.2.2.1 (cellE_ok x.field _ hgood (by omega) (by omega))
        rw [hNL] at this
        exact this.mono fun _ _ ⟨A', C', h1, h2, h3⟩ => ⟨A', C', h1, RD.of_own h2, h.below h3⟩
      have hst : ∀ wz, (KpB w wz ⟨some ⟨bk, okk, none⟩, sc⟩ L ⟨sf, sg, ⟨some ⟨ug, uo, none⟩, uc⟩, sq⟩ x wb xb s2 Y (some ⟨eb, eo, none⟩) EV B lb ab ls as_) → Calls Tryd.prog 42 #[.agg #[.int .i64 x.field.wide, .int .i64 x.field.high, .slice sf.ground.A x.field.ground.length sf.ground.c, .slice sf.ore.A x.field.ore.length sf.ore.c], .int .i64 (g0 : Int), .bool kf] wz fun e w' => e = .returned (.tuple #[.int .i64 ov, .nilIface]) ∧ (KpB w w' ⟨some ⟨bk, okk, none⟩, sc⟩ L ⟨sf, sg, ⟨some ⟨ug, uo, none⟩, uc⟩, sq⟩ x wb xb s2 Y (some ⟨eb, eo, none⟩) EV B lb ab ls as_) ∧ Below wz.heap.size wz w' := fun wz h => by
        have := step_ok sf x.field g0 kf wz h.sb.wo_.2.2.1 (cellE_ok x.field _ hgood (by omega) (by omega))
        rw [hov] at this
        exact this.mono fun _ _ ⟨h1, h2⟩ => ⟨h1, h.below h2, h2⟩
      replace hS := Lib.hid hS
      replace hfi := Lib.hid hfi
      replace hne := Lib.hid hne
      replace hst := Lib.hid hst
      replace hNL := Lib.hid hNL
      replace hnear := Lib.hid hnear
      replace hgood := Lib.hid hgood
      replace hge := Lib.hid hge
      replace hlen := Lib.hid hlen
      replace hnx := Lib.hid hnx
      replace hq := Lib.hid hq
      replace hkf := Lib.hid hkf
      replace hov := Lib.hid hov
      replace hlv := Lib.hid hlv
      replace ha := Lib.hid ha
      replace hkq := Lib.hid hkq
      replace heu := Lib.hid heu
      replace hg0 := Lib.hid hg0
      replace hwh := Lib.hid hwh
      go_upto_region 25 with fail
      have hKn2 := hKn.out.drewN 1
      have hS0 := hS.out _ hKn2
      clear hKn
      have hKn : Hid (KpB w wr.drew ⟨some ⟨bk, okk, none⟩, sc⟩ L ⟨sf, sg, ⟨some ⟨ug, uo, none⟩, uc⟩, sq⟩ x wb xb s2 Y (some ⟨eb, eo, none⟩) EV B lb ab ls as_) := Lib.hid hKn2
      clear hKn2
      refine wp_region_noPanic ?_
      refine wp_region_held_drew (S := (fun wz : World => wz.cell? ⟨wb, 0, none⟩ = some (.int .i64 x.turn) ∧ wz.cell? ⟨wb, 1, none⟩ = some (.int .i64 x.next) ∧ wz.cell? ⟨wb, 2, none⟩ = some (.int .i64 x.field.wide) ∧ wz.cell? ⟨wb, 3, none⟩ = some (.int .i64 x.field.high) ∧ wz.cell? ⟨wb, 4, none⟩ = some (.slice sf.ground.A x.field.ground.length sf.ground.c) ∧ wz.cell? ⟨wb, 5, none⟩ = some (.slice sf.ore.A x.field.ore.length sf.ore.c) ∧ wz.cell? ⟨wb, 6, none⟩ = some (.slice sg.A x.gold.length sg.c) ∧ wz.cell? ⟨wb, 7, none⟩ = some (.slice (some ⟨ug, uo, none⟩) x.units.length uc) ∧ wz.cell? ⟨wb, 8, none⟩ = some (.slice sq.A x.queue.length sq.c) ∧ wz.cell? ⟨eb, eo + i * 3 + 1, none⟩ = some (.int .i64 eu) ∧ wz.cell? ⟨eb, eo + i * 3 + 2, none⟩ = some (.int .i64 (g0 : Int)) ∧ wz.cell? ⟨ab, q, none⟩ = some (.int .i64 (a : Int)) ∧ wz.cell? ⟨ug, uo + q * 8 + 2, none⟩ = some (.int .i64 (kq : Int)) ∧ wz.cell? ⟨bk, okk + kq * 11 + 9, none⟩ = some (.bool kf))) (by kernel_rfl) hS0 (fun hHeld => ?_)
      clear hS0
      generalize wr.drew = Wd at *
      refine wpAnyH_take (i := 0) (oi := _) (v := ?_) rfl (by kernel_rfl) (by kernel_rfl) (by kernel_rfl) (fun _ _ _ h => h) (Or.inl ⟨by rfl, ?_⟩) (by assumption) ?_
      rotate_left
      · intro w' hSw
        try dsimp only at hSw
        first | (go_simp; done) | (go_simp; with_reducible rfl)
      try simp only [Act.put]
      try simp only [List.setIfInBounds_toArray]
      try simp only [List.set_cons_succ, List.set_cons_zero]
      try simp only [List.getElem_toArray]
      try simp only [List.getElem_cons_succ]
      try simp only [List.getElem_cons_zero]
      refine wpAnyH_take (i := 1) (oi := _) (v := ?_) rfl (by kernel_rfl) (by kernel_rfl) (by kernel_rfl) (fun _ _ _ h => h) (Or.inl ⟨by rfl, ?_⟩) (by assumption) ?_
      rotate_left
      · intro w' hSw
        try dsimp only at hSw
        first | (go_simp; done) | (go_simp; with_reducible rfl)
      try simp only [Act.put]
      try simp only [List.setIfInBounds_toArray]
      try simp only [List.set_cons_succ, List.set_cons_zero]
      try simp only [List.getElem_toArray]
      try simp only [List.getElem_cons_succ]
      try simp only [List.getElem_cons_zero]
      refine wpAnyH_take (i := 2) (oi := _) (v := ?_) rfl (by kernel_rfl) (by kernel_rfl) (by kernel_rfl) (fun _ _ _ h => h) (Or.inl ⟨by rfl, ?_⟩) (by assumption) ?_
      rotate_left
      · intro w' hSw
        try dsimp only at hSw
        first | (go_simp; done) | (go_simp; with_reducible rfl)
      try simp only [Act.put]
      try simp only [List.setIfInBounds_toArray]
      try simp only [List.set_cons_succ, List.set_cons_zero]
      try simp only [List.getElem_toArray]
      try simp only [List.getElem_cons_succ]
      try simp only [List.getElem_cons_zero]
      refine wpAnyH_take (i := 3) (oi := _) (v := ?_) rfl (by kernel_rfl) (by kernel_rfl) (by kernel_rfl) (fun _ _ _ h => h) (Or.inl ⟨by rfl, ?_⟩) (by assumption) ?_
      rotate_left
      · intro w' hSw
        try dsimp only at hSw
        first | (go_simp; done) | (go_simp; with_reducible rfl)
      try simp only [Act.put]
      try simp only [List.setIfInBounds_toArray]
      try simp only [List.set_cons_succ, List.set_cons_zero]
      try simp only [List.getElem_toArray]
      try simp only [List.getElem_cons_succ]
      try simp only [List.getElem_cons_zero]
      refine wpAnyH_take (i := 4) (oi := _) (v := ?_) rfl (by kernel_rfl) (by kernel_rfl) (by kernel_rfl) (fun _ _ _ h => h) (Or.inl ⟨by rfl, ?_⟩) (by assumption) ?_
      rotate_left
      · intro w' hSw
        try dsimp only at hSw
        first | (go_simp; done) | (go_simp; with_reducible rfl)
      try simp only [Act.put]
      try simp only [List.setIfInBounds_toArray]
      try simp only [List.set_cons_succ, List.set_cons_zero]
      try simp only [List.getElem_toArray]
      try simp only [List.getElem_cons_succ]
      try simp only [List.getElem_cons_zero]
      refine wpAnyH_take (i := 5) (oi := _) (v := ?_) rfl (by kernel_rfl) (by kernel_rfl) (by kernel_rfl) (fun _ _ _ h => h) (Or.inl ⟨by rfl, ?_⟩) (by assumption) ?_
      rotate_left
      · intro w' hSw
        try dsimp only at hSw
        first | (go_simp; done) | (go_simp; with_reducible rfl)
      try simp only [Act.put]
      try simp only [List.setIfInBounds_toArray]
      try simp only [List.set_cons_succ, List.set_cons_zero]
      try simp only [List.getElem_toArray]
      try simp only [List.getElem_cons_succ]
      try simp only [List.getElem_cons_zero]
      refine wpAnyH_ready (rs := [6]) (by kernel_rfl) (by simp) ?_
      refine AllReadyH.cons (o := { dst := some 159, op := .call { callee := .value (.func 34), args := #[.tmp 153, .tmp 158], argTypes := #[55, 3] }, type := _, pos := _, after := _, guard := none }) rfl (fun K hK => ?_) AllReadyH.nil
      go_simp
      refine (hfi.out _ hKn.out).mono ?_
      rintro e W9 ⟨rfl, hKw⟩
      clear hHeld
      refine hK.out _ _ (hS.out _ hKw) (fun hHeld => ?_)
      clear hK K hKn
      have hKn := Lib.hid hKw
      clear hKw
      try simp only [Act.put]
      try simp only [List.setIfInBounds_toArray]
      try simp only [List.set_cons_succ, List.set_cons_zero]
      try simp only [List.getElem_toArray]
      try simp only [List.getElem_cons_succ]
      try simp only [List.getElem_cons_zero]
      refine wpAnyH_take (i := 7) (oi := _) (v := ?_) rfl (by kernel_rfl) (by kernel_rfl) (by kernel_rfl) (fun _ _ _ h => h) (Or.inl ⟨by rfl, ?_⟩) (by assumption) ?_
      rotate_left
      · intro w' hSw
        try dsimp only at hSw
        first | (go_simp; done) | (go_simp; with_reducible rfl)
      try simp only [Act.put]
      try simp only [List.setIfInBounds_toArray]
      try simp only [List.set_cons_succ, List.set_cons_zero]
      try simp only [List.getElem_toArray]
      try simp only [List.getElem_cons_succ]
      try simp only [List.getElem_cons_zero]
      refine wpAnyH_done (by kernel_rfl) ?_ _
      refine NoPanic.normal ?_
      clear hHeld
      try dsimp only [List.set]
      clear hfi
      obtain ⟨eb', eo', hEA', _, c0, _, _⟩ := re_at hKn.out.re i hlt
      injection hEA' with hEA'
      injection hEA' with e3 e4
      subst e3; subst e4
      rw [hge.out, hwh.out] at c0
      go_upto_region 28 with fail
      clear c0
      have hKn2 := hKn.out.drewN 1
      have hS0 := hS.out _ hKn2
      clear hKn
      have hKn : Hid (KpB w W9.drew ⟨some ⟨bk, okk, none⟩, sc⟩ L ⟨sf, sg, ⟨some ⟨ug, uo, none⟩, uc⟩, sq⟩ x wb xb s2 Y (some ⟨eb, eo, none⟩) EV B lb ab ls as_) := Lib.hid hKn2
      clear hKn2
      refine wp_region_noPanic ?_
      refine wp_region_held_drew (S := (fun wz : World => wz.cell? ⟨wb, 0, none⟩ = some (.int .i64 x.turn) ∧ wz.cell? ⟨wb, 1, none⟩ = some (.int .i64 x.next) ∧ wz.cell? ⟨wb, 2, none⟩ = some (.int .i64 x.field.wide) ∧ wz.cell? ⟨wb, 3, none⟩ = some (.int .i64 x.field.high) ∧ wz.cell? ⟨wb, 4, none⟩ = some (.slice sf.ground.A x.field.ground.length sf.ground.c) ∧ wz.cell? ⟨wb, 5, none⟩ = some (.slice sf.ore.A x.field.ore.length sf.ore.c) ∧ wz.cell? ⟨wb, 6, none⟩ = some (.slice sg.A x.gold.length sg.c) ∧ wz.cell? ⟨wb, 7, none⟩ = some (.slice (some ⟨ug, uo, none⟩) x.units.length uc) ∧ wz.cell? ⟨wb, 8, none⟩ = some (.slice sq.A x.queue.length sq.c) ∧ wz.cell? ⟨eb, eo + i * 3 + 1, none⟩ = some (.int .i64 eu) ∧ wz.cell? ⟨eb, eo + i * 3 + 2, none⟩ = some (.int .i64 (g0 : Int)) ∧ wz.cell? ⟨ab, q, none⟩ = some (.int .i64 (a : Int)) ∧ wz.cell? ⟨ug, uo + q * 8 + 2, none⟩ = some (.int .i64 (kq : Int)) ∧ wz.cell? ⟨bk, okk + kq * 11 + 9, none⟩ = some (.bool kf))) (by kernel_rfl) hS0 (fun hHeld => ?_)
      clear hS0
      generalize W9.drew = Wd at *
      refine wpAnyH_take (i := 0) (oi := _) (v := ?_) rfl (by kernel_rfl) (by kernel_rfl) (by kernel_rfl) (fun _ _ _ h => h) (Or.inl ⟨by rfl, ?_⟩) (by assumption) ?_
      rotate_left
      · intro w' hSw
        try dsimp only at hSw
        first | (go_simp; done) | (go_simp; with_reducible rfl)
      try simp only [Act.put]
      try simp only [List.setIfInBounds_toArray]
      try simp only [List.set_cons_succ, List.set_cons_zero]
      try simp only [List.getElem_toArray]
      try simp only [List.getElem_cons_succ]
      try simp only [List.getElem_cons_zero]
      refine wpAnyH_take (i := 1) (oi := _) (v := ?_) rfl (by kernel_rfl) (by kernel_rfl) (by kernel_rfl) (fun _ _ _ h => h) (Or.inl ⟨by rfl, ?_⟩) (by assumption) ?_
      rotate_left
      · intro w' hSw
        try dsimp only at hSw
        first | (go_simp; done) | (go_simp; with_reducible rfl)
      try simp only [Act.put]
      try simp only [List.setIfInBounds_toArray]
      try simp only [List.set_cons_succ, List.set_cons_zero]
      try simp only [List.getElem_toArray]
      try simp only [List.getElem_cons_succ]
      try simp only [List.getElem_cons_zero]
      refine wpAnyH_take (i := 2) (oi := _) (v := ?_) rfl (by kernel_rfl) (by kernel_rfl) (by kernel_rfl) (fun _ _ _ h => h) (Or.inl ⟨by rfl, ?_⟩) (by assumption) ?_
      rotate_left
      · intro w' hSw
        try dsimp only at hSw
        first | (go_simp; done) | (go_simp; with_reducible rfl)
      try simp only [Act.put]
      try simp only [List.setIfInBounds_toArray]
      try simp only [List.set_cons_succ, List.set_cons_zero]
      try simp only [List.getElem_toArray]
      try simp only [List.getElem_cons_succ]
      try simp only [List.getElem_cons_zero]
      refine wpAnyH_take (i := 3) (oi := _) (v := ?_) rfl (by kernel_rfl) (by kernel_rfl) (by kernel_rfl) (fun _ _ _ h => h) (Or.inl ⟨by rfl, ?_⟩) (by assumption) ?_
      rotate_left
      · intro w' hSw
        try dsimp only at hSw
        first | (go_simp; done) | (go_simp; with_reducible rfl)
      try simp only [Act.put]
      try simp only [List.setIfInBounds_toArray]
      try simp only [List.set_cons_succ, List.set_cons_zero]
      try simp only [List.getElem_toArray]
      try simp only [List.getElem_cons_succ]
      try simp only [List.getElem_cons_zero]
      refine wpAnyH_take (i := 4) (oi := _) (v := ?_) rfl (by kernel_rfl) (by kernel_rfl) (by kernel_rfl) (fun _ _ _ h => h) (Or.inl ⟨by rfl, ?_⟩) (by assumption) ?_
      rotate_left
      · intro w' hSw
        try dsimp only at hSw
        first | (go_simp; done) | (go_simp; with_reducible rfl)
      try simp only [Act.put]
      try simp only [List.setIfInBounds_toArray]
      try simp only [List.set_cons_succ, List.set_cons_zero]
      try simp only [List.getElem_toArray]
      try simp only [List.getElem_cons_succ]
      try simp only [List.getElem_cons_zero]
      refine wpAnyH_take (i := 5) (oi := _) (v := ?_) rfl (by kernel_rfl) (by kernel_rfl) (by kernel_rfl) (fun _ _ _ h => h) (Or.inl ⟨by rfl, ?_⟩) (by assumption) ?_
      rotate_left
      · intro w' hSw
        try dsimp only at hSw
        first | (go_simp; done) | (go_simp; with_reducible rfl)
      try simp only [Act.put]
      try simp only [List.setIfInBounds_toArray]
      try simp only [List.set_cons_succ, List.set_cons_zero]
      try simp only [List.getElem_toArray]
      try simp only [List.getElem_cons_succ]
      try simp only [List.getElem_cons_zero]
      refine wpAnyH_ready (rs := [6]) (by kernel_rfl) (by simp) ?_
      refine AllReadyH.cons (o := { dst := some 177, op := .call { callee := .value (.func 50), args := #[.tmp 172, .tmp 176], argTypes := #[52, 3] }, type := _, pos := _, after := _, guard := none }) rfl (fun K hK => ?_) AllReadyH.nil
      go_simp
      refine (hne.out _ hKn.out).mono ?_
      rintro e W9 ⟨NA, NC, rfl, hN, hKw⟩
      replace hN := Lib.hid hN
      clear hHeld
      refine hK.out _ _ (hS.out _ hKw) (fun hHeld => ?_)
      clear hK K hKn
      have hKn := Lib.hid hKw
      clear hKw
      try simp only [Act.put]
      try simp only [List.setIfInBounds_toArray]
      try simp only [List.set_cons_succ, List.set_cons_zero]
      try simp only [List.getElem_toArray]
      try simp only [List.getElem_cons_succ]
      try simp only [List.getElem_cons_zero]
      refine wpAnyH_take (i := 7) (oi := _) (v := ?_) rfl (by kernel_rfl) (by kernel_rfl) (by kernel_rfl) (fun _ _ _ h => h) (Or.inl ⟨by rfl, ?_⟩) (by assumption) ?_
      rotate_left
      · intro w' hSw
        try dsimp only at hSw
        first | (go_simp; done) | (go_simp; with_reducible rfl)
      try simp only [Act.put]
      try simp only [List.setIfInBounds_toArray]
      try simp only [List.set_cons_succ, List.set_cons_zero]
      try simp only [List.getElem_toArray]
      try simp only [List.getElem_cons_succ]
      try simp only [List.getElem_cons_zero]
      refine wpAnyH_take (i := 8) (oi := _) (v := ?_) rfl (by kernel_rfl) (by kernel_rfl) (by kernel_rfl) (fun _ _ _ h => h) (Or.inl ⟨by rfl, ?_⟩) (by assumption) ?_
      rotate_left
      · intro w' hSw
        try dsimp only at hSw
        first | (go_simp; done) | (go_simp; with_reducible rfl)
      try simp only [Act.put]
      try simp only [List.setIfInBounds_toArray]
      try simp only [List.set_cons_succ, List.set_cons_zero]
      try simp only [List.getElem_toArray]
      try simp only [List.getElem_cons_succ]
      try simp only [List.getElem_cons_zero]
      refine wpAnyH_take (i := 9) (oi := _) (v := ?_) rfl (by kernel_rfl) (by kernel_rfl) (by kernel_rfl) (fun _ _ _ h => h) (Or.inl ⟨by rfl, ?_⟩) (by assumption) ?_
      rotate_left
      · intro w' hSw
        try dsimp only at hSw
        first | (go_simp; done) | (go_simp; with_reducible rfl)
      try simp only [Act.put]
      try simp only [List.setIfInBounds_toArray]
      try simp only [List.set_cons_succ, List.set_cons_zero]
      try simp only [List.getElem_toArray]
      try simp only [List.getElem_cons_succ]
      try simp only [List.getElem_cons_zero]
      refine wpAnyH_take (i := 10) (oi := _) (v := ?_) rfl (by kernel_rfl) (by kernel_rfl) (by kernel_rfl) (fun _ _ _ h => h) (Or.inl ⟨by rfl, ?_⟩) (by assumption) ?_
      rotate_left
      · intro w' hSw
        try dsimp only at hSw
        first | (go_simp; done) | (go_simp; with_reducible rfl)
      try simp only [Act.put]
      try simp only [List.setIfInBounds_toArray]
      try simp only [List.set_cons_succ, List.set_cons_zero]
      try simp only [List.getElem_toArray]
      try simp only [List.getElem_cons_succ]
      try simp only [List.getElem_cons_zero]
      refine wpAnyH_take (i := 11) (oi := _) (v := ?_) rfl (by kernel_rfl) (by kernel_rfl) (by kernel_rfl) (fun _ _ _ h => h) (Or.inl ⟨by rfl, ?_⟩) (by assumption) ?_
      rotate_left
      · intro w' hSw
        try dsimp only at hSw
        first | (go_simp; done) | (go_simp; with_reducible rfl)
      try simp only [Act.put]
      try simp only [List.setIfInBounds_toArray]
      try simp only [List.set_cons_succ, List.set_cons_zero]
      try simp only [List.getElem_toArray]
      try simp only [List.getElem_cons_succ]
      try simp only [List.getElem_cons_zero]
      refine wpAnyH_done (by kernel_rfl) ?_ _
      refine NoPanic.normal ?_
      clear hHeld
      try dsimp only [List.set]
      clear hne
      go_upto_region 29 with fail
      have hKn2 := hKn.out.drewN 1
      have hS0 := hS.out _ hKn2
      clear hKn
      have hKn : Hid (KpB w W9.drew ⟨some ⟨bk, okk, none⟩, sc⟩ L ⟨sf, sg, ⟨some ⟨ug, uo, none⟩, uc⟩, sq⟩ x wb xb s2 Y (some ⟨eb, eo, none⟩) EV B lb ab ls as_) := Lib.hid hKn2
      clear hKn2
      have hN2 : RD W9.drew W9.drew.heap.size 1 NA NL.length (NL.map (.int .i64)) := hN.out.drewN 1
      clear hN
      have hN := Lib.hid hN2
      clear hN2
      refine wp_region_noPanic ?_
      refine wp_region_held_drew (S := (fun wz : World => wz.cell? ⟨wb, 0, none⟩ = some (.int .i64 x.turn) ∧ wz.cell? ⟨wb, 1, none⟩ = some (.int .i64 x.next) ∧ wz.cell? ⟨wb, 2, none⟩ = some (.int .i64 x.field.wide) ∧ wz.cell? ⟨wb, 3, none⟩ = some (.int .i64 x.field.high) ∧ wz.cell? ⟨wb, 4, none⟩ = some (.slice sf.ground.A x.field.ground.length sf.ground.c) ∧ wz.cell? ⟨wb, 5, none⟩ = some (.slice sf.ore.A x.field.ore.length sf.ore.c) ∧ wz.cell? ⟨wb, 6, none⟩ = some (.slice sg.A x.gold.length sg.c) ∧ wz.cell? ⟨wb, 7, none⟩ = some (.slice (some ⟨ug, uo, none⟩) x.units.length uc) ∧ wz.cell? ⟨wb, 8, none⟩ = some (.slice sq.A x.queue.length sq.c) ∧ wz.cell? ⟨eb, eo + i * 3 + 1, none⟩ = some (.int .i64 eu) ∧ wz.cell? ⟨eb, eo + i * 3 + 2, none⟩ = some (.int .i64 (g0 : Int)) ∧ wz.cell? ⟨ab, q, none⟩ = some (.int .i64 (a : Int)) ∧ wz.cell? ⟨ug, uo + q * 8 + 2, none⟩ = some (.int .i64 (kq : Int)) ∧ wz.cell? ⟨bk, okk + kq * 11 + 9, none⟩ = some (.bool kf))) (by kernel_rfl) hS0 (fun hHeld => ?_)
      clear hS0
      generalize W9.drew = Wd at *
      refine wpAnyH_take (i := 0) (oi := _) (v := ?_) rfl (by kernel_rfl) (by kernel_rfl) (by kernel_rfl) (fun _ _ _ h => h) (Or.inl ⟨by rfl, ?_⟩) (by assumption) ?_
      rotate_left
      · intro w' hSw
        try dsimp only at hSw
        first | (go_simp; done) | (go_simp; with_reducible rfl)
      try simp only [Act.put]
      try simp only [List.setIfInBounds_toArray]
      try simp only [List.set_cons_succ, List.set_cons_zero]
      try simp only [List.getElem_toArray]
      try simp only [List.getElem_cons_succ]
      try simp only [List.getElem_cons_zero]
      refine wpAnyH_take (i := 1) (oi := _) (v := ?_) rfl (by kernel_rfl) (by kernel_rfl) (by kernel_rfl) (fun _ _ _ h => h) (Or.inl ⟨by rfl, ?_⟩) (by assumption) ?_
      rotate_left
      · intro w' hSw
        try dsimp only at hSw
        first | (go_simp; done) | (go_simp; with_reducible rfl)
      try simp only [Act.put]
      try simp only [List.setIfInBounds_toArray]
      try simp only [List.set_cons_succ, List.set_cons_zero]
      try simp only [List.getElem_toArray]
      try simp only [List.getElem_cons_succ]
      try simp only [List.getElem_cons_zero]
      refine wpAnyH_take (i := 2) (oi := _) (v := ?_) rfl (by kernel_rfl) (by kernel_rfl) (by kernel_rfl) (fun _ _ _ h => h) (Or.inl ⟨by rfl, ?_⟩) (by assumption) ?_
      rotate_left
      · intro w' hSw
        try dsimp only at hSw
        first | (go_simp; done) | (go_simp; with_reducible rfl)
      try simp only [Act.put]
      try simp only [List.setIfInBounds_toArray]
      try simp only [List.set_cons_succ, List.set_cons_zero]
      try simp only [List.getElem_toArray]
      try simp only [List.getElem_cons_succ]
      try simp only [List.getElem_cons_zero]
      refine wpAnyH_take (i := 3) (oi := _) (v := ?_) rfl (by kernel_rfl) (by kernel_rfl) (by kernel_rfl) (fun _ _ _ h => h) (Or.inl ⟨by rfl, ?_⟩) (by assumption) ?_
      rotate_left
      · intro w' hSw
        try dsimp only at hSw
        first | (go_simp; done) | (go_simp; with_reducible rfl)
      try simp only [Act.put]
      try simp only [List.setIfInBounds_toArray]
      try simp only [List.set_cons_succ, List.set_cons_zero]
      try simp only [List.getElem_toArray]
      try simp only [List.getElem_cons_succ]
      try simp only [List.getElem_cons_zero]
      refine wpAnyH_take (i := 4) (oi := _) (v := ?_) rfl (by kernel_rfl) (by kernel_rfl) (by kernel_rfl) (fun _ _ _ h => h) (Or.inl ⟨by rfl, ?_⟩) (by assumption) ?_
      rotate_left
      · intro w' hSw
        try dsimp only at hSw
        first | (go_simp; done) | (go_simp; with_reducible rfl)
      try simp only [Act.put]
      try simp only [List.setIfInBounds_toArray]
      try simp only [List.set_cons_succ, List.set_cons_zero]
      try simp only [List.getElem_toArray]
      try simp only [List.getElem_cons_succ]
      try simp only [List.getElem_cons_zero]
      refine wpAnyH_take (i := 5) (oi := _) (v := ?_) rfl (by kernel_rfl) (by kernel_rfl) (by kernel_rfl) (fun _ _ _ h => h) (Or.inl ⟨by rfl, ?_⟩) (by assumption) ?_
      rotate_left
      · intro w' hSw
        try dsimp only at hSw
        first | (go_simp; done) | (go_simp; with_reducible rfl)
      try simp only [Act.put]
      try simp only [List.setIfInBounds_toArray]
      try simp only [List.set_cons_succ, List.set_cons_zero]
      try simp only [List.getElem_toArray]
      try simp only [List.getElem_cons_succ]
      try simp only [List.getElem_cons_zero]
      refine wpAnyH_take (i := 6) (oi := _) (v := ?_) rfl (by kernel_rfl) (by kernel_rfl) (by kernel_rfl) (fun _ _ _ h => h) (Or.inl ⟨by rfl, ?_⟩) (by assumption) ?_
      rotate_left
      · intro w' hSw
        try dsimp only at hSw
        first | (go_simp; done) | (go_simp; with_reducible rfl)
      try simp only [Act.put]
      try simp only [List.setIfInBounds_toArray]
      try simp only [List.set_cons_succ, List.set_cons_zero]
      try simp only [List.getElem_toArray]
      try simp only [List.getElem_cons_succ]
      try simp only [List.getElem_cons_zero]
      refine wpAnyH_take (i := 7) (oi := _) (v := ?_) rfl (by kernel_rfl) (by kernel_rfl) (by kernel_rfl) (fun _ _ _ h => h) (Or.inl ⟨by rfl, ?_⟩) (by assumption) ?_
      rotate_left
      · intro w' hSw
        try dsimp only at hSw
        first | (go_simp; done) | (go_simp; with_reducible rfl)
      try simp only [Act.put]
      try simp only [List.setIfInBounds_toArray]
      try simp only [List.set_cons_succ, List.set_cons_zero]
      try simp only [List.getElem_toArray]
      try simp only [List.getElem_cons_succ]
      try simp only [List.getElem_cons_zero]
      refine wpAnyH_take (i := 8) (oi := _) (v := ?_) rfl (by kernel_rfl) (by kernel_rfl) (by kernel_rfl) (fun _ _ _ h => h) (Or.inl ⟨by rfl, ?_⟩) (by assumption) ?_
      rotate_left
      · intro w' hSw
        try dsimp only at hSw
        first | (go_simp; done) | (go_simp; with_reducible rfl)
      try simp only [Act.put]
      try simp only [List.setIfInBounds_toArray]
      try simp only [List.set_cons_succ, List.set_cons_zero]
      try simp only [List.getElem_toArray]
      try simp only [List.getElem_cons_succ]
      try simp only [List.getElem_cons_zero]
      refine wpAnyH_take (i := 9) (oi := _) (v := ?_) rfl (by kernel_rfl) (by kernel_rfl) (by kernel_rfl) (fun _ _ _ h => h) (Or.inl ⟨by rfl, ?_⟩) (by assumption) ?_
      rotate_left
      · intro w' hSw
        try dsimp only at hSw
        first | (go_simp; done) | (go_simp; with_reducible rfl)
      try simp only [Act.put]
      try simp only [List.setIfInBounds_toArray]
      try simp only [List.set_cons_succ, List.set_cons_zero]
      try simp only [List.getElem_toArray]
      try simp only [List.getElem_cons_succ]
      try simp only [List.getElem_cons_zero]
      refine wpAnyH_take (i := 10) (oi := _) (v := ?_) rfl (by kernel_rfl) (by kernel_rfl) (by kernel_rfl) (fun _ _ _ h => h) (Or.inl ⟨by rfl, ?_⟩) (by assumption) ?_
      rotate_left
      · intro w' hSw
        try dsimp only at hSw
        first | (go_simp; done) | (go_simp; with_reducible rfl)
      try simp only [Act.put]
      try simp only [List.setIfInBounds_toArray]
      try simp only [List.set_cons_succ, List.set_cons_zero]
      try simp only [List.getElem_toArray]
      try simp only [List.getElem_cons_succ]
      try simp only [List.getElem_cons_zero]
      refine wpAnyH_take (i := 11) (oi := _) (v := ?_) rfl (by kernel_rfl) (by kernel_rfl) (by kernel_rfl) (fun _ _ _ h => h) (Or.inl ⟨by rfl, ?_⟩) (by assumption) ?_
      rotate_left
      · intro w' hSw
        try dsimp only at hSw
        first | (go_simp; done) | (go_simp; with_reducible rfl)
      try simp only [Act.put]
      try simp only [List.setIfInBounds_toArray]
      try simp only [List.set_cons_succ, List.set_cons_zero]
      try simp only [List.getElem_toArray]
      try simp only [List.getElem_cons_succ]
      try simp only [List.getElem_cons_zero]
      refine wpAnyH_take (i := 12) (oi := _) (v := ?_) rfl (by kernel_rfl) (by kernel_rfl) (by kernel_rfl) (fun _ _ _ h => h) (Or.inl ⟨by rfl, ?_⟩) (by assumption) ?_
      rotate_left
      · intro w' hSw
        try dsimp only at hSw
        first | (go_simp; done) | (go_simp; with_reducible rfl)
      try simp only [Act.put]
      try simp only [List.setIfInBounds_toArray]
      try simp only [List.set_cons_succ, List.set_cons_zero]
      try simp only [List.getElem_toArray]
      try simp only [List.getElem_cons_succ]
      try simp only [List.getElem_cons_zero]
      refine wpAnyH_take (i := 13) (oi := _) (v := ?_) rfl (by kernel_rfl) (by kernel_rfl) (by kernel_rfl) (fun _ _ _ h => h) (Or.inl ⟨by rfl, ?_⟩) (by assumption) ?_
      rotate_left
      · intro w' hSw
        try dsimp only at hSw
        first | (go_simp; done) | (go_simp; with_reducible rfl)
      try simp only [Act.put]
      try simp only [List.setIfInBounds_toArray]
      try simp only [List.set_cons_succ, List.set_cons_zero]
      try simp only [List.getElem_toArray]
      try simp only [List.getElem_cons_succ]
      try simp only [List.getElem_cons_zero]
      refine wpAnyH_take (i := 14) (oi := _) (v := ?_) rfl (by kernel_rfl) (by kernel_rfl) (by kernel_rfl) (fun _ _ _ h => h) (Or.inl ⟨by rfl, ?_⟩) (by assumption) ?_
      rotate_left
      · intro w' hSw
        try dsimp only at hSw
        first | (go_simp; done) | (go_simp; with_reducible rfl)
      try simp only [Act.put]
      try simp only [List.setIfInBounds_toArray]
      try simp only [List.set_cons_succ, List.set_cons_zero]
      try simp only [List.getElem_toArray]
      try simp only [List.getElem_cons_succ]
      try simp only [List.getElem_cons_zero]
      refine wpAnyH_take (i := 15) (oi := _) (v := ?_) rfl (by kernel_rfl) (by kernel_rfl) (by kernel_rfl) (fun _ _ _ h => h) (Or.inl ⟨by rfl, ?_⟩) (by assumption) ?_
      rotate_left
      · intro w' hSw
        try dsimp only at hSw
        first | (go_simp; done) | (go_simp; with_reducible rfl)
      try simp only [Act.put]
      try simp only [List.setIfInBounds_toArray]
      try simp only [List.set_cons_succ, List.set_cons_zero]
      try simp only [List.getElem_toArray]
      try simp only [List.getElem_cons_succ]
      try simp only [List.getElem_cons_zero]
      refine wpAnyH_take (i := 16) (oi := _) (v := ?_) rfl (by kernel_rfl) (by kernel_rfl) (by kernel_rfl) (fun _ _ _ h => h) (Or.inl ⟨by rfl, ?_⟩) (by assumption) ?_
      rotate_left
      · intro w' hSw
        try dsimp only at hSw
        first | (go_simp; done) | (go_simp; with_reducible rfl)
      try simp only [Act.put]
      try simp only [List.setIfInBounds_toArray]
      try simp only [List.set_cons_succ, List.set_cons_zero]
      try simp only [List.getElem_toArray]
      try simp only [List.getElem_cons_succ]
      try simp only [List.getElem_cons_zero]
      refine wpAnyH_ready (rs := [17]) (by kernel_rfl) (by simp) ?_
      refine AllReadyH.cons (o := { dst := some 198, op := .call { callee := .value (.func 42), args := #[.tmp 182, .tmp 187, .tmp 197], argTypes := #[52, 3, 4] }, type := _, pos := _, after := _, guard := none }) rfl (fun K hK => ?_) AllReadyH.nil
      go_simp
      refine (hst.out _ hKn.out).mono ?_
      rintro e W9 ⟨rfl, hKw, hbs⟩
      have hNn := (hN.out.below hbs).more hbs.size
      clear hN
      have hN := Lib.hid hNn
      clear hNn hbs
      clear hHeld
      refine hK.out _ _ (hS.out _ hKw) (fun hHeld => ?_)
      clear hK K hKn
      have hKn := Lib.hid hKw
      clear hKw
      try simp only [Act.put]
      try simp only [List.setIfInBounds_toArray]
      try simp only [List.set_cons_succ, List.set_cons_zero]
      try simp only [List.getElem_toArray]
      try simp only [List.getElem_cons_succ]
      try simp only [List.getElem_cons_zero]
      refine wpAnyH_take (i := 18) (oi := _) (v := ?_) rfl (by kernel_rfl) (by kernel_rfl) (by kernel_rfl) (fun _ _ _ h => h) (Or.inl ⟨by rfl, ?_⟩) (by assumption) ?_
      rotate_left
      · intro w' hSw
        try dsimp only at hSw
        first | (go_simp; done) | (go_simp; with_reducible rfl)
      try simp only [Act.put]
      try simp only [List.setIfInBounds_toArray]
      try simp only [List.set_cons_succ, List.set_cons_zero]
      try simp only [List.getElem_toArray]
      try simp only [List.getElem_cons_succ]
      try simp only [List.getElem_cons_zero]
      refine wpAnyH_take (i := 19) (oi := _) (v := ?_) rfl (by kernel_rfl) (by kernel_rfl) (by kernel_rfl) (fun _ _ _ h => h) (Or.inl ⟨by rfl, ?_⟩) (by assumption) ?_
      rotate_left
      · intro w' hSw
        try dsimp only at hSw
        first | (go_simp; done) | (go_simp; with_reducible rfl)
      try simp only [Act.put]
      try simp only [List.setIfInBounds_toArray]
      try simp only [List.set_cons_succ, List.set_cons_zero]
      try simp only [List.getElem_toArray]
      try simp only [List.getElem_cons_succ]
      try simp only [List.getElem_cons_zero]
      refine wpAnyH_take (i := 20) (oi := _) (v := ?_) rfl (by kernel_rfl) (by kernel_rfl) (by kernel_rfl) (fun _ _ _ h => h) (Or.inl ⟨by rfl, ?_⟩) (by assumption) ?_
      rotate_left
      · intro w' hSw
        try dsimp only at hSw
        first | (go_simp; done) | (go_simp; with_reducible rfl)
      try simp only [Act.put]
      try simp only [List.setIfInBounds_toArray]
      try simp only [List.set_cons_succ, List.set_cons_zero]
      try simp only [List.getElem_toArray]
      try simp only [List.getElem_cons_succ]
      try simp only [List.getElem_cons_zero]
      refine wpAnyH_take (i := 21) (oi := _) (v := ?_) rfl (by kernel_rfl) (by kernel_rfl) (by kernel_rfl) (fun _ _ _ h => h) (Or.inl ⟨by rfl, ?_⟩) (by assumption) ?_
      rotate_left
      · intro w' hSw
        try dsimp only at hSw
        first | (go_simp; done) | (go_simp; with_reducible rfl)
      try simp only [Act.put]
      try simp only [List.setIfInBounds_toArray]
      try simp only [List.set_cons_succ, List.set_cons_zero]
      try simp only [List.getElem_toArray]
      try simp only [List.getElem_cons_succ]
      try simp only [List.getElem_cons_zero]
      refine wpAnyH_take (i := 22) (oi := _) (v := ?_) rfl (by kernel_rfl) (by kernel_rfl) (by kernel_rfl) (fun _ _ _ h => h) (Or.inl ⟨by rfl, ?_⟩) (by assumption) ?_
      rotate_left
      · intro w' hSw
        try dsimp only at hSw
        first | (go_simp; done) | (go_simp; with_reducible rfl)
      try simp only [Act.put]
      try simp only [List.setIfInBounds_toArray]
      try simp only [List.set_cons_succ, List.set_cons_zero]
      try simp only [List.getElem_toArray]
      try simp only [List.getElem_cons_succ]
      try simp only [List.getElem_cons_zero]
      refine wpAnyH_done (by kernel_rfl) ?_ _
      refine NoPanic.normal ?_
      clear hHeld
      try dsimp only [List.set]
      clear hst hS
      go_upto_block 4 with fail
      have hKs := hKn
      clear hKn
      obtain ⟨W10, hW10⟩ : ∃ W10 : World, W10 = W9 := ⟨_, rfl⟩
      rw [← hW10] at hKs hN ⊢
      clear hW10
      go_cut [22, 23] from 201 to 219 (fun v22 _ wx0 => v22 = .bool true ∧ ∃ nq, wx0 = W10.drewN nq)
      case first =>
        as_aux_lemma =>
        obtain ⟨eb', eo', hEA', _, _, _, c2⟩ := re_at hKs.out.re i hlt
        injection hEA' with hEA'
        injection hEA' with e3 e4
        subst e3; subst e4
        rw [hge.out, hg0.out] at c2
        go_wp2_with fail
        go_loopw [22, 23] (fun v22 v23 wr => ∃ (k : Nat) (nq : Nat), v22 = .bool ((NL.take k).any (fun y => y == (g0 : Int))) ∧ v23 = .int .i64 k ∧ k ≤ NL.length ∧ wr = W10.drewN nq) (fun _ v23 _ => NL.length - (intOf v23).toNat)
        case atStart => exact ⟨0, 0, rfl, rfl, Nat.zero_le _, rfl⟩
        case round =>
          obtain ⟨k, nq, rfl, rfl, hk, rfl⟩ := hrel
          by_cases hkl : k < NL.length
          case neg =>
            as_aux_lemma =>
            have z2 : ¬ (k : Int) < (NL.length : Int) := by omega
            have hany : NL.any (fun y => y == (g0 : Int)) = true := List.any_eq_true.2 ⟨_, hnear.out, by simp⟩
            rw [List.take_of_length_le (by omega), hany]
            replace hany := Lib.hid hany
            go_wp2_with fail
            go_meet
            exact ⟨rfl, _, rfl⟩
          case pos =>
          as_aux_lemma =>
          have z2 : (k : Int) < (NL.length : Int) := by omega
          obtain ⟨nb, no, hNA, _⟩ := hN.out.addr (by omega)
          have hcn := hN.out.at_ hNA (j := k) (by omega)
          subst hNA
          rw [List.getElem?_map, List.getElem?_eq_getElem hkl] at hcn
          replace hcn : W10.cell? ⟨nb, no + k, none⟩ = some (.int .i64 NL[k]) := hcn
          have htk : (NL.take (k + 1)).any (fun y => y == (g0 : Int)) = ((NL.take k).any (fun y => y == (g0 : Int)) || (NL[k] == (g0 : Int))) := by
            rw [List.take_succ_eq_append_getElem hkl, List.any_append]; simp
          generalize NL[k] = nk at *
          generalize (NL.take k).any (fun y => y == (g0 : Int)) = tv at *
          obtain ⟨ev, hev⟩ : ∃ ev, (nk == (g0 : Int)) = ev := ⟨_, rfl⟩
          rw [hev] at htk
          replace htk := Lib.hid htk
          cases tv with
          | true =>
            replace hev := Lib.hid hev
            go_wp2_with fail
            go_quiet (fail)
            go_wp2_with fail
            go_roundw
            case rel => exact ⟨k + 1, _, by rw [htk.out]; rfl, by go_num, by omega, rfl⟩
            case measure => simp [intOf]; omega
          | false =>
            go_wp2_with fail
            go_quiet (fail)
            go_wp2_with fail
            go_roundw
            case rel => exact ⟨k + 1, _, by rw [htk.out]; rfl, by go_num, by omega, rfl⟩
            case measure => simp [intOf]; omega
      case rest =>
      obtain ⟨rfl, nq, rfl⟩ := hcut
      have hKd := hKs.out.drewN nq
      clear hKs hN
      generalize W10.drewN nq = W11 at *
      have hcl := hKd.kl.atI q (by rw [hlen.out.1]; exact hql)
      rw [at0_getD, hlv.out] at hcl
      have fl : W11.frozen? ⟨lb, q, none⟩ = false := hKd.kl.frozen q
      have lbl := hKd.kl.lt
      replace hKd := Lib.hid hKd
      go_upto_region 36 with fail
      have hKm := hKd.out.setL q (lv - ov)
      clear hKd fl hcl lbl
      generalize W11.setCell ⟨lb, q, none⟩ (.int .i64 (lv - ov)) = W12 at *
      have hca := hKm.ka.atI q (by rw [hlen.out.2]; exact hql)
      have fa : W12.frozen? ⟨ab, q, none⟩ = false := hKm.ka.frozen q
      have abl := hKm.ka.lt
      obtain ⟨eb', eo', hEA', _, _, _, c2⟩ := re_at hKm.re i hlt
      injection hEA' with hEA'
      injection hEA' with e3 e4
      subst e3; subst e4
      rw [hge.out, hg0.out] at c2
      rw [at0_getD, ha.out] at hca
      replace hKm := Lib.hid hKm
      go_upto_region 37 with fail
      have hKe := hKm.out.setA q (g0 : Int)
      clear hKm fa hca abl c2
      generalize W12.setCell ⟨ab, q, none⟩ (.int .i64 (g0 : Int)) = W13 at *
      have hcl := hKe.kl.atI q (by rw [List.length_set, hlen.out.1]; exact hql)
      rw [at0_getD, getD_set' (by rw [hlen.out.1]; exact hql), if_pos rfl] at hcl
      have lbl := hKe.kl.lt
      have t1 : decide (ov < 1) = false := by rw [decide_eq_false_iff_not]; omega
      have t2 : decide (lv - ov < 0) = false := by rw [decide_eq_false_iff_not]; omega
      replace hKe := Lib.hid hKe
      go_wp2_with fail
      go_roundw
      case rel => exact ⟨i + 1, by go_num, by omega, by rw [hnx.out]; exact hKe⟩
      case measure => simp [intOf]; omega
  case rest =>
  obtain ⟨W1, rfl, hKn⟩ := hcut
  refine (‹∀ (a : Act) (w : World), Code.wp Tryd.prog _ _ a w → _›) _ _ ?_
  exact keeps_E sA sc L ⟨sf, sg, ⟨uA, uc⟩, sq⟩ x w hun hx Y EV hkp wb xb s2 A B lb ab W1 hKn _ _ _ _ _ _ _ _ _ _ _ _ _ _ _ _ _ _ _ _ _ _ _ _ _ _ _ _ _ _ _ _ _ _ _ _ _ _ _ _ _ _ _ _ _ _ _ _ _ _ _ _ _ _ _ _ _ _ _ _ _ _ _ _ _ _ _ _ _ _ _ _ _ _ _ _ _ _ _ _ _ _ _ _ _ _ _ _ _ _ _ _ _ _ _ _ _ _ _ _ _ _ _ _ _ _ _ _ _ _ _ _ _ _ _ _ _ _ _ _ _ _ _ _ _ _ _ _ _ _ _ _ _ _ _ _ _ _ _ _ _ _ _ _ _ _ _ _ _ _ _ _ _ _ _ _ _ _ _ _ _ _ _ _ _ _ _ _ _ _ _ _ _ _ _ _ _ _ _ _ _ _ _ _ _ _ _ _ _ _ _ _ _ _ _ _ _ _ _ _ _ _ _ _ _ _ _ _ _ _ _ _ _ _ _ _ _ _ _ _ _ _ _ _ _ _ _ _ _ _ _ _ _ _ _ _ _ _ _ _ _ _ _ _ _ _ _ _ _ _ _ _ _ _ _ _ _ _ _ _ _ _ _ _ _ _ _ _ _ _ _ _ _ _ _ _ _ _ _ _ _ _ _ _ _ _ _ _ _ _ _ _ _ _ _ _ _ _ _ _ _ _ _ _ _ _ _ _ _ _ _ _ _ _ _ _ _ _ _ _ _ _ _ _ _ _ _ _ _ _ _ _ _ _ _ _
end Go.Proofs.YtkgkpggfoieioaaDoor
