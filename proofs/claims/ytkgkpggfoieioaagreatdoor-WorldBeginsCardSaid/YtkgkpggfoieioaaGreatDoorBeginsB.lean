import Derived.Test.YtkgkpggfoieioaaGreatDoorBeginsH
namespace Go.Proofs.YtkgkpggfoieioaaGreatDoor
set_option linter.unusedVariables false
open Go.RowKit
/-! WorldBegins, from the unit on. -/
set_option maxHeartbeats 51200000 in
set_option maxRecDepth 100000 in
theorem begins_B (sK : SL) (L : List GK) (sf : SF) (f : GF) (n g : Int) (s : SW) (x : GW) (p k a : Int) (w : World) (i0 : TypeInfo) (hi0 : Tryz.prog.info? 3 = some i0) (hz0 : i0.zero = some (.int .i64 0)) (hz1 : i0.size = 1) (hz2 : i0.bytes = 8) (hul : x.units.length ≤ 9223372036854775807) (fb wb nb xb : Nat) (hwn : Hid (wb < nb)) (X : GW) (s2 : SW) (E3 F5 : Int) (hF5 : Hid (placeE L x p k a = F5)) (W10 : World) (hX : Hid (BG w W10 sK L sf f s x fb wb)) (hn0 : Hid (Blk W10 nb 29 #[.int .i64 X.turn, .int .i64 X.next, .int .i64 X.field.wide, .int .i64 X.field.high, .slice s2.field.ground.A X.field.ground.length s2.field.ground.c, .slice s2.field.ore.A X.field.ore.length s2.field.ore.c, .slice s2.gold.A X.gold.length s2.gold.c, .slice s2.units.A X.units.length s2.units.c, .slice s2.queue.A X.queue.length s2.queue.c])) (u19 u24 u25 u29 u30 u31 u32 u33 u34 u35 u36 u37 u38 u39 u40 u41 u42 u43 u44 u45 u46 u47 u48 u49 u50 u51 u52 u53 u54 u55 u56 u57 u58 u59 u60 u61 u62 u63 u64 u65 u66 u67 u68 u69 u70 u71 u72 u73 u74 u75 u76 u77 u78 u79 u80 u81 u82 u83 u84 u85 u86 u87 u88 u89 u90 u91 u92 u93 u94 u95 u96 u97 u98 u99 u100 u101 u102 u103 u104 u105 u106 u107 u108 u109 u110 u111 u112 u113 u114 u115 u116 u117 u118 u119 u120 u121 u122 u123 u124 u125 u126 u127 u128 u129 u130 u131 u132 u133 u134 u135 u136 u137 u138 u139 u140 u141 u142 u143 u144 u145 u146 u147 u148 u149 u150 u151 u152 u153 u154 u155 u156 u157 u158 u159 u160 u161 u162 u163 u164 u165 u166 u167 u168 u169 u170 u171 u172 u173 u174 u175 u176 u177 u178 u179 u180 u181 u182 u183 u184 u185 u186 u187 u188 u189 u190 u191 u192 u193 u194 u195 u196 u197 u198 u199 u200 u201 u202 u203 u204 u205 u206 : Value) :
    Code.wp Tryz.prog (tailC 14 (bodyC Tryz.f3)) (bodyPost Tryz.prog Tryz.f3 fun e w' => e = .returned (.bool true) ∧ Below w.heap.size w w') { tmps := #[.slice sK.A L.length sK.c, .agg #[.int .i64 f.wide, .int .i64 f.high, .slice sf.ground.A f.ground.length sf.ground.c, .slice sf.ore.A f.ore.length sf.ore.c], .int .i64 n, .int .i64 g, .agg #[.int .i64 x.turn, .int .i64 x.next, .int .i64 x.field.wide, .int .i64 x.field.high, .slice s.field.ground.A x.field.ground.length s.field.ground.c, .slice s.field.ore.A x.field.ore.length s.field.ore.c, .slice s.gold.A x.gold.length s.gold.c, .slice s.units.A x.units.length s.units.c, .slice s.queue.A x.queue.length s.queue.c], .int .i64 p, .int .i64 k, .int .i64 a, undef, .pointer (some ⟨fb, 0, none⟩), undef, undef, .pointer (some ⟨wb, 0, none⟩), undef, undef, undef, .bool false, .int .i64 F5, .pointer (some ⟨nb, 0, none⟩), u19, .pointer (some ⟨xb, 0, none⟩), errV E3, .bool true, .bool true, u24, u25, undef, undef, undef, u29, u30, u31, u32, u33, u34, u35, u36, u37, u38, u39, u40, u41, u42, u43, u44, u45, u46, u47, u48, u49, u50, u51, u52, u53, u54, u55, u56, u57, u58, u59, u60, u61, u62, u63, u64, u65, u66, u67, u68, u69, u70, u71, u72, u73, u74, u75, u76, u77, u78, u79, u80, u81, u82, u83, u84, u85, u86, u87, u88, u89, u90, u91, u92, u93, u94, u95, u96, u97, u98, u99, u100, u101, u102, u103, u104, u105, u106, u107, u108, u109, u110, u111, u112, u113, u114, u115, u116, u117, u118, u119, u120, u121, u122, u123, u124, u125, u126, u127, u128, u129, u130, u131, u132, u133, u134, u135, u136, u137, u138, u139, u140, u141, u142, u143, u144, u145, u146, u147, u148, u149, u150, u151, u152, u153, u154, u155, u156, u157, u158, u159, u160, u161, u162, u163, u164, u165, u166, u167, u168, u169, u170, u171, u172, u173, u174, u175, u176, u177, u178, u179, u180, u181, u182, u183, u184, u185, u186, u187, u188, u189, u190, u191, u192, u193, u194, u195, u196, u197, u198, u199, u200, u201, u202, u203, u204, u205, u206], defers := [] } W10 := by
  conv => arg 2; whnf
  have r0 : W10.cell? ⟨nb, 0, none⟩ = some (.int .i64 X.turn) := hn0.out.cell 0
  have y0 := hn0.out.frozen 0
  have r1 : W10.cell? ⟨nb, 1, none⟩ = some (.int .i64 X.next) := hn0.out.cell 1
  have y1 := hn0.out.frozen 1
  have r2 : W10.cell? ⟨nb, 2, none⟩ = some (.int .i64 X.field.wide) := hn0.out.cell 2
  have y2 := hn0.out.frozen 2
  have r3 : W10.cell? ⟨nb, 3, none⟩ = some (.int .i64 X.field.high) := hn0.out.cell 3
  have y3 := hn0.out.frozen 3
  have r4 : W10.cell? ⟨nb, 4, none⟩ = some (.slice s2.field.ground.A X.field.ground.length s2.field.ground.c) := hn0.out.cell 4
  have y4 := hn0.out.frozen 4
  have r5 : W10.cell? ⟨nb, 5, none⟩ = some (.slice s2.field.ore.A X.field.ore.length s2.field.ore.c) := hn0.out.cell 5
  have y5 := hn0.out.frozen 5
  have r6 : W10.cell? ⟨nb, 6, none⟩ = some (.slice s2.gold.A X.gold.length s2.gold.c) := hn0.out.cell 6
  have y6 := hn0.out.frozen 6
  have r7 : W10.cell? ⟨nb, 7, none⟩ = some (.slice s2.units.A X.units.length s2.units.c) := hn0.out.cell 7
  have y7 := hn0.out.frozen 7
  have r8 : W10.cell? ⟨nb, 8, none⟩ = some (.slice s2.queue.A X.queue.length s2.queue.c) := hn0.out.cell 8
  have y8 := hn0.out.frozen 8
  have nl := hn0.out.lt
  go_upto_region 30 with fail
  have hXn := (((((((((hX.out.far (b := nb) (i := 0) hwn.out (.int .i64 0)).far (b := nb) (i := 1) hwn.out (.int .i64 0)).far (b := nb) (i := 2) hwn.out (.int .i64 0)).far (b := nb) (i := 3) hwn.out (.int .i64 0)).far (b := nb) (i := 4) hwn.out (.slice none 0 0)).far (b := nb) (i := 5) hwn.out (.slice none 0 0)).far (b := nb) (i := 6) hwn.out (.slice none 0 0)).far (b := nb) (i := 7) hwn.out (.slice none 0 0)).far (b := nb) (i := 8) hwn.out (.slice none 0 0))
  have hvn : Blk (((((((((W10.setCell ⟨nb, 0, none⟩ (.int .i64 0)).setCell ⟨nb, 1, none⟩ (.int .i64 0)).setCell ⟨nb, 2, none⟩ (.int .i64 0)).setCell ⟨nb, 3, none⟩ (.int .i64 0)).setCell ⟨nb, 4, none⟩ (.slice none 0 0)).setCell ⟨nb, 5, none⟩ (.slice none 0 0)).setCell ⟨nb, 6, none⟩ (.slice none 0 0)).setCell ⟨nb, 7, none⟩ (.slice none 0 0)).setCell ⟨nb, 8, none⟩ (.slice none 0 0)) nb 29 #[.int .i64 0, .int .i64 0, .int .i64 0, .int .i64 0, .slice none 0 0, .slice none 0 0, .slice none 0 0, .slice none 0 0, .slice none 0 0] := by
    have h := (((((((((hn0.out.set_ 0 (.int .i64 0)).set_ 1 (.int .i64 0)).set_ 2 (.int .i64 0)).set_ 3 (.int .i64 0)).set_ 4 (.slice none 0 0)).set_ 5 (.slice none 0 0)).set_ 6 (.slice none 0 0)).set_ 7 (.slice none 0 0)).set_ 8 (.slice none 0 0))
    simp only [List.setIfInBounds_toArray, List.set_cons_zero, List.set_cons_succ] at h
    exact h
  clear hX hn0 nl r0 y0 r1 y1 r2 y2 r3 y3 r4 y4 r5 y5 r6 y6 r7 y7 r8 y8
  generalize (((((((((W10.setCell ⟨nb, 0, none⟩ (.int .i64 0)).setCell ⟨nb, 1, none⟩ (.int .i64 0)).setCell ⟨nb, 2, none⟩ (.int .i64 0)).setCell ⟨nb, 3, none⟩ (.int .i64 0)).setCell ⟨nb, 4, none⟩ (.slice none 0 0)).setCell ⟨nb, 5, none⟩ (.slice none 0 0)).setCell ⟨nb, 6, none⟩ (.slice none 0 0)).setCell ⟨nb, 7, none⟩ (.slice none 0 0)).setCell ⟨nb, 8, none⟩ (.slice none 0 0)) = W11 at *
  have hX := Lib.hid hXn
  have hn0 := Lib.hid hvn
  clear hXn hvn
  obtain ⟨X2, hX2e⟩ : ∃ X2, wantP L x p k a = X2 := ⟨_, rfl⟩
  have hfew := wantP_few L x p k a
  rw [hX2e] at hfew
  replace hfew := Lib.hid hfew
  replace hX2e := Lib.hid hX2e
  go_upto_if 159 with fail
  obtain ⟨bz, hbz⟩ : ∃ b : Bool, (F5 == 0) = b := ⟨_, rfl⟩
  rw [hbz]
  replace hbz := Lib.hid hbz
  go_cut [] (fun wx0 => ∃ wx, wx = wx0 ∧ ∃ s4 : SW, Hid (BG w wx sK L sf f s x fb wb) ∧ Hid (Blk wx nb 29 #[.int .i64 X2.turn, .int .i64 X2.next, .int .i64 X2.field.wide, .int .i64 X2.field.high, .slice s4.field.ground.A X2.field.ground.length s4.field.ground.c, .slice s4.field.ore.A X2.field.ore.length s4.field.ore.c, .slice s4.gold.A X2.gold.length s4.gold.c, .slice s4.units.A X2.units.length s4.units.c, .slice s4.queue.A X2.queue.length s4.queue.c]) ∧ Hid (WRd wx wx.heap.size s4 X2))
  case first =>
    as_aux_lemma =>
    cases bz
    case false =>
      have z : ¬ F5 = 0 := by simpa using hbz.out
      have hw := hX2e.out
      unfold wantP at hw
      rw [hF5.out, if_neg z] at hw
      subst hw
      go_wp2_with fail
      go_meet
      exact ⟨_, rfl, nilS, hX, hn0, Lib.hid (WRd.zero _)⟩
    case true =>
      have z : F5 = 0 := by simpa using hbz.out
      have hw := hX2e.out
      unfold wantP at hw
      rw [hF5.out, if_pos z] at hw
      have hP := placeE_0 (hF5.out.trans z)
      obtain ⟨kd, rfl⟩ : ∃ kd : Nat, k = (kd : Int) := ⟨k.toNat, by have := hP.kind; omega⟩
      obtain ⟨sp, rfl⟩ : ∃ sp : Nat, a = (sp : Int) := ⟨a.toNat, by have := hP.spot; omega⟩
      rw [Int.toNat_natCast] at hw
      have hkd : kd < L.length := by have := hP.kind; omega
      have hcap := hX.out.ks.cap
      have hmx := hX.out.ks.max
      have hgl := (good_of x.field hP.ok.field).len
      have hhd := headE_ok hP.ok.head
      have hroom := hP.room
      have hfewq := hP.ok.few
      obtain ⟨bk, okk, hAk, hbk, _, k1, _, _, _, _, _, _, _, _, _⟩ := rk_at hX.out.ks_.rd kd hkd
      obtain ⟨sA, sc⟩ := sK
      dsimp only at hAk hcap hmx
      subst hAk
      dsimp only at hX k1 hcap ⊢
      obtain ⟨lf, hlf⟩ : ∃ lf, (gk L kd).life = lf := ⟨_, rfl⟩
      have hkdi : (kd : Int) < (L.length : Int) := by omega
      have e1 : IntKind.i64.wrap (x.next + 1) = x.next + 1 := IntWalk.i64_in _ (by have := hhd.next; omega)
      have hcp := rcopy_any s x W11 hX.out.wo_ (by omega) (by omega) (by have := hhd.players; omega) (by omega) (by omega)
      replace hcp : Calls Tryz.prog 14 #[.agg #[.int .i64 x.turn, .int .i64 x.next, .int .i64 x.field.wide, .int .i64 x.field.high, .slice s.field.ground.A x.field.ground.length s.field.ground.c, .slice s.field.ore.A x.field.ore.length s.field.ore.c, .slice s.gold.A x.gold.length s.gold.c, .slice s.units.A x.units.length s.units.c, .slice s.queue.A x.queue.length s.queue.c]] W11 fun e w' => ∃ s', e = .returned (wA s' x) ∧ WOwn w' (W11.heap.size + 3) s' x ∧ Below W11.heap.size W11 w' := hcp
      replace hcp := Lib.hid hcp
      have hn11 : nb < W11.heap.size + 3 := by have := hn0.out.lt; omega
      replace hlf := Lib.hid hlf
      replace hP := Lib.hid hP
      replace hw := Lib.hid hw
      replace z := Lib.hid z
      replace hhd := Lib.hid hhd
      replace hgl := Lib.hid hgl
      replace hn11 := Lib.hid hn11
      clear k1
      obtain ⟨m0, m1, m2, m3, m4, m5, m6, m7, m8, mll, q0, q1, q2, q3, qll⟩ := hX.out.cells
      go_wp2_with fail
      refine hcp.out.mono ?_
      clear hcp m0 m1 m2 m3 m4 m5 m6 m7 m8 mll q0 q1 q2 q3 qll
      rintro e W12 ⟨s3, rfl, hO, hb5⟩
      have hXn := hX.out.below hb5
      have hvn := hn0.out.below hb5 hn0.out.lt
      have hsz12 : W11.heap.size ≤ W12.heap.size := hb5.size
      clear hX hn0 hb5
      have hX := Lib.hid hXn
      have hn0 := Lib.hid hvn
      replace hO := Lib.hid hO
      clear hXn hvn
      have hcell : W12.heap[nb]? = some (.cells #[.int .i64 0, .int .i64 0, .int .i64 0, .int .i64 0, .slice none 0 0, .slice none 0 0, .slice none 0 0, .slice none 0 0, .slice none 0 0] 29 (0, 0)) := hn0.out
      rename_i hcont
      refine hcont _ _ ?_
      clear hcont
      refine wpList_store_row rfl 29 (.tmp 18) (.tmp 161) rfl nb #[.int .i64 x.turn, .int .i64 x.next, .int .i64 x.field.wide, .int .i64 x.field.high, .slice s3.field.ground.A x.field.ground.length s3.field.ground.c, .slice s3.field.ore.A x.field.ore.length s3.field.ore.c, .slice s3.gold.A x.gold.length s3.gold.c, .slice s3.units.A x.units.length s3.units.c, .slice s3.queue.A x.queue.length s3.queue.c] rfl rfl 29 _ hcell (by kernel_rfl) rfl (by simp [Value.oneCell']) ?_
      have hXn := hX.out.row hwn.out hn0.out.lt #[.int .i64 x.turn, .int .i64 x.next, .int .i64 x.field.wide, .int .i64 x.field.high, .slice s3.field.ground.A x.field.ground.length s3.field.ground.c, .slice s3.field.ore.A x.field.ore.length s3.field.ore.c, .slice s3.gold.A x.gold.length s3.gold.c, .slice s3.units.A x.units.length s3.units.c, .slice s3.queue.A x.queue.length s3.queue.c]
      have hvn : Blk (W12.setRow nb #[.int .i64 x.turn, .int .i64 x.next, .int .i64 x.field.wide, .int .i64 x.field.high, .slice s3.field.ground.A x.field.ground.length s3.field.ground.c, .slice s3.field.ore.A x.field.ore.length s3.field.ore.c, .slice s3.gold.A x.gold.length s3.gold.c, .slice s3.units.A x.units.length s3.units.c, .slice s3.queue.A x.queue.length s3.queue.c]) nb 29 #[.int .i64 x.turn, .int .i64 x.next, .int .i64 x.field.wide, .int .i64 x.field.high, .slice s3.field.ground.A x.field.ground.length s3.field.ground.c, .slice s3.field.ore.A x.field.ore.length s3.field.ore.c, .slice s3.gold.A x.gold.length s3.gold.c, .slice s3.units.A x.units.length s3.units.c, .slice s3.queue.A x.queue.length s3.queue.c] := hn0.out.row
      have hO2 : WOwn (W12.setRow nb #[.int .i64 x.turn, .int .i64 x.next, .int .i64 x.field.wide, .int .i64 x.field.high, .slice s3.field.ground.A x.field.ground.length s3.field.ground.c, .slice s3.field.ore.A x.field.ore.length s3.field.ore.c, .slice s3.gold.A x.gold.length s3.gold.c, .slice s3.units.A x.units.length s3.units.c, .slice s3.queue.A x.queue.length s3.queue.c]) (nb + 1) s3 x := (hO.out.base (by have := hn11.out; omega)).row (Nat.lt_succ_self _)
      clear hX hn0 hO hsz12 hcell
      generalize (W12.setRow nb #[.int .i64 x.turn, .int .i64 x.next, .int .i64 x.field.wide, .int .i64 x.field.high, .slice s3.field.ground.A x.field.ground.length s3.field.ground.c, .slice s3.field.ore.A x.field.ore.length s3.field.ore.c, .slice s3.gold.A x.gold.length s3.gold.c, .slice s3.units.A x.units.length s3.units.c, .slice s3.queue.A x.queue.length s3.queue.c]) = W13 at *
      try simp only [Act.put]
      have hX := Lib.hid hXn
      have hn0 := Lib.hid hvn
      have hO := Lib.hid hO2
      clear hXn hvn hO2
      go_upto_region 32 with fail
      have hcells : ∀ wz, BG w wz ⟨some ⟨bk, okk, none⟩, sc⟩ L sf f s x fb wb → Blk wz nb 29 #[.int .i64 x.turn, .int .i64 x.next, .int .i64 x.field.wide, .int .i64 x.field.high, .slice s3.field.ground.A x.field.ground.length s3.field.ground.c, .slice s3.field.ore.A x.field.ore.length s3.field.ore.c, .slice s3.gold.A x.gold.length s3.gold.c, .slice s3.units.A x.units.length s3.units.c, .slice s3.queue.A x.queue.length s3.queue.c] → (fun wz => wz.cell? ⟨nb, 7, none⟩ = some (.slice s3.units.A x.units.length s3.units.c) ∧ wz.cell? ⟨wb, 1, none⟩ = some (.int .i64 x.next) ∧ wz.cell? ⟨bk, okk + kd * 11 + 1, none⟩ = some (.int .i64 lf)) wz := fun wz h h2 => by
        obtain ⟨_, m1, _⟩ := h.cells
        obtain ⟨b', o', hA', _, _, k1, _, _, _, _, _, _, _, _, _⟩ := rk_at h.ks_.rd kd hkd
        dsimp only at hA'
        injection hA' with hA'
        injection hA' with e3 e4
        subst e3; subst e4
        rw [hlf.out] at k1
        exact ⟨h2.cell 7, m1, k1⟩
      replace hcells := Lib.hid hcells
      go_cut [] (fun wx0 => ∃ wx, wx = wx0 ∧ ∃ gn cn, Hid (BG w wx ⟨some ⟨bk, okk, none⟩, sc⟩ L sf f s x fb wb) ∧ Hid (Blk wx nb 29 #[.int .i64 x.turn, .int .i64 x.next, .int .i64 x.field.wide, .int .i64 x.field.high, .slice s3.field.ground.A x.field.ground.length s3.field.ground.c, .slice s3.field.ore.A x.field.ore.length s3.field.ore.c, .slice s3.gold.A x.gold.length s3.gold.c, .slice (some ⟨gn, 0, none⟩) (x.units.length + 1) cn, .slice s3.queue.A x.queue.length s3.queue.c]) ∧ Hid (WOwn wx (nb + 1) ⟨s3.field, s3.gold, ⟨some ⟨gn, 0, none⟩, cn⟩, s3.queue⟩ (addX L x p kd (sp : Int))))
      case first =>
        as_aux_lemma =>
        have hHeld : (fun wz => wz.cell? ⟨nb, 7, none⟩ = some (.slice s3.units.A x.units.length s3.units.c) ∧ wz.cell? ⟨wb, 1, none⟩ = some (.int .i64 x.next) ∧ wz.cell? ⟨bk, okk + kd * 11 + 1, none⟩ = some (.int .i64 lf)) W13.drew := hcells.out _ (hX.out.drewN 1) (hn0.out.drewN 1)
        refine act_gen (fun T hT => ?_)
        have t0 : T[0]? = some (.slice (some ⟨bk, okk, none⟩) L.length sc) := by rw [hT]; rfl
        have t5 : T[5]? = some (.int .i64 p) := by rw [hT]; rfl
        have t6 : T[6]? = some (.int .i64 (kd : Int)) := by rw [hT]; rfl
        have t7 : T[7]? = some (.int .i64 (sp : Int)) := by rw [hT]; rfl
        have t12 : T[12]? = some (.pointer (some ⟨wb, 0, none⟩)) := by rw [hT]; rfl
        have t18 : T[18]? = some (.pointer (some ⟨nb, 0, none⟩)) := by rw [hT]; rfl
        have zT : T.size = 207 := by rw [hT]; rfl
        have tT_0 := Lib.hid t0
        have tT_5 := Lib.hid t5
        have tT_6 := Lib.hid t6
        have tT_7 := Lib.hid t7
        have tT_12 := Lib.hid t12
        have tT_18 := Lib.hid t18
        clear t0 t5 t6 t7 t12 t18
        replace hT := Lib.hid hT
        refine wp_region_noPanic ?_
        refine wp_region_twoC (fun wz => wz.cell? ⟨nb, 7, none⟩ = some (.slice s3.units.A x.units.length s3.units.c) ∧ wz.cell? ⟨wb, 1, none⟩ = some (.int .i64 x.next) ∧ wz.cell? ⟨bk, okk + kd * 11 + 1, none⟩ = some (.int .i64 lf)) 15 2 (by kernel_rfl) rfl (by kernel_rfl) ?_
        have g18 := get_of tT_18.out (lt_sz (i := 18) zT rfl)
        refine wpAnyH_take (i := 0) (oi := _) (v := .pointer (some ⟨nb, 7, none⟩)) rfl (by kernel_rfl) (by kernel_rfl) (by kernel_rfl) (fun _ _ _ h => h) (Or.inl ⟨by rfl, ?_⟩) hHeld ?_
        · intro w' hSw
          try dsimp only at hSw
          first | (go_simp; done) | (go_simp; with_reducible rfl) | (go_simp; rfl)
        refine act_genH 162 (by rfl) (fun T0 hT0 => ?_)
        clear g18
        have zT0 := set_size hT0 zT
        have tT0_162 := Lib.hid (set_same hT0 zT (by decide))
        have tT0_0 := Lib.hid (set_keep hT0 (by decide) tT_0.out)
        have tT0_5 := Lib.hid (set_keep hT0 (by decide) tT_5.out)
        have tT0_6 := Lib.hid (set_keep hT0 (by decide) tT_6.out)
        have tT0_7 := Lib.hid (set_keep hT0 (by decide) tT_7.out)
        have tT0_12 := Lib.hid (set_keep hT0 (by decide) tT_12.out)
        have tT0_18 := Lib.hid (set_keep hT0 (by decide) tT_18.out)
        clear zT tT_0 tT_5 tT_6 tT_7 tT_12 tT_18
        replace hT0 := Lib.hid hT0
        have g162 := get_of tT0_162.out (lt_sz (i := 162) zT0 rfl)
        refine wpAnyH_take (i := 1) (oi := _) (v := .slice s3.units.A x.units.length s3.units.c) rfl (by kernel_rfl) (by kernel_rfl) (by kernel_rfl) (fun _ _ _ h => h) (Or.inl ⟨by rfl, ?_⟩) hHeld ?_
        · intro w' hSw
          try dsimp only at hSw
          first | (go_simp; done) | (go_simp; with_reducible rfl) | (go_simp; rfl)
        refine act_genH 163 (by rfl) (fun T1 hT1 => ?_)
        clear g162
        have zT1 := set_size hT1 zT0
        have tT1_163 := Lib.hid (set_same hT1 zT0 (by decide))
        have tT1_0 := Lib.hid (set_keep hT1 (by decide) tT0_0.out)
        have tT1_5 := Lib.hid (set_keep hT1 (by decide) tT0_5.out)
        have tT1_6 := Lib.hid (set_keep hT1 (by decide) tT0_6.out)
        have tT1_7 := Lib.hid (set_keep hT1 (by decide) tT0_7.out)
        have tT1_12 := Lib.hid (set_keep hT1 (by decide) tT0_12.out)
        have tT1_18 := Lib.hid (set_keep hT1 (by decide) tT0_18.out)
        clear zT0 tT0_162 tT0_0 tT0_5 tT0_6 tT0_7 tT0_12 tT0_18
        replace hT1 := Lib.hid hT1
        have g12 := get_of tT1_12.out (lt_sz (i := 12) zT1 rfl)
        refine wpAnyH_take (i := 2) (oi := _) (v := .pointer (some ⟨wb, 1, none⟩)) rfl (by kernel_rfl) (by kernel_rfl) (by kernel_rfl) (fun _ _ _ h => h) (Or.inl ⟨by rfl, ?_⟩) hHeld ?_
        · intro w' hSw
          try dsimp only at hSw
          first | (go_simp; done) | (go_simp; with_reducible rfl) | (go_simp; rfl)
        refine act_genH 164 (by rfl) (fun T2 hT2 => ?_)
        clear g12
        have zT2 := set_size hT2 zT1
        have tT2_164 := Lib.hid (set_same hT2 zT1 (by decide))
        have tT2_163 := Lib.hid (set_keep hT2 (by decide) tT1_163.out)
        have tT2_0 := Lib.hid (set_keep hT2 (by decide) tT1_0.out)
        have tT2_5 := Lib.hid (set_keep hT2 (by decide) tT1_5.out)
        have tT2_6 := Lib.hid (set_keep hT2 (by decide) tT1_6.out)
        have tT2_7 := Lib.hid (set_keep hT2 (by decide) tT1_7.out)
        have tT2_18 := Lib.hid (set_keep hT2 (by decide) tT1_18.out)
        clear zT1 tT1_163 tT1_0 tT1_5 tT1_6 tT1_7 tT1_12 tT1_18
        replace hT2 := Lib.hid hT2
        have g164 := get_of tT2_164.out (lt_sz (i := 164) zT2 rfl)
        refine wpAnyH_take (i := 3) (oi := _) (v := .int .i64 x.next) rfl (by kernel_rfl) (by kernel_rfl) (by kernel_rfl) (fun _ _ _ h => h) (Or.inl ⟨by rfl, ?_⟩) hHeld ?_
        · intro w' hSw
          try dsimp only at hSw
          first | (go_simp; done) | (go_simp; with_reducible rfl) | (go_simp; rfl)
        refine act_genH 165 (by rfl) (fun T3 hT3 => ?_)
        clear g164
        have zT3 := set_size hT3 zT2
        have tT3_165 := Lib.hid (set_same hT3 zT2 (by decide))
        have tT3_163 := Lib.hid (set_keep hT3 (by decide) tT2_163.out)
        have tT3_0 := Lib.hid (set_keep hT3 (by decide) tT2_0.out)
        have tT3_5 := Lib.hid (set_keep hT3 (by decide) tT2_5.out)
        have tT3_6 := Lib.hid (set_keep hT3 (by decide) tT2_6.out)
        have tT3_7 := Lib.hid (set_keep hT3 (by decide) tT2_7.out)
        have tT3_18 := Lib.hid (set_keep hT3 (by decide) tT2_18.out)
        clear zT2 tT2_164 tT2_163 tT2_0 tT2_5 tT2_6 tT2_7 tT2_18
        replace hT3 := Lib.hid hT3
        have g5 := get_of tT3_5.out (lt_sz (i := 5) zT3 rfl)
        refine wpAnyH_take (i := 4) (oi := _) (v := .int .i64 p) rfl (by kernel_rfl) (by kernel_rfl) (by kernel_rfl) (fun _ _ _ h => h) (Or.inl ⟨by rfl, ?_⟩) hHeld ?_
        · intro w' hSw
          try dsimp only at hSw
          first | (go_simp; done) | (go_simp; with_reducible rfl) | (go_simp; rfl)
        refine act_genH 166 (by rfl) (fun T4 hT4 => ?_)
        clear g5
        have zT4 := set_size hT4 zT3
        have tT4_166 := Lib.hid (set_same hT4 zT3 (by decide))
        have tT4_165 := Lib.hid (set_keep hT4 (by decide) tT3_165.out)
        have tT4_163 := Lib.hid (set_keep hT4 (by decide) tT3_163.out)
        have tT4_0 := Lib.hid (set_keep hT4 (by decide) tT3_0.out)
        have tT4_6 := Lib.hid (set_keep hT4 (by decide) tT3_6.out)
        have tT4_7 := Lib.hid (set_keep hT4 (by decide) tT3_7.out)
        have tT4_18 := Lib.hid (set_keep hT4 (by decide) tT3_18.out)
        clear zT3 tT3_165 tT3_163 tT3_0 tT3_5 tT3_6 tT3_7 tT3_18
        replace hT4 := Lib.hid hT4
        have g6 := get_of tT4_6.out (lt_sz (i := 6) zT4 rfl)
        refine wpAnyH_take (i := 5) (oi := _) (v := .int .i64 (kd : Int)) rfl (by kernel_rfl) (by kernel_rfl) (by kernel_rfl) (fun _ _ _ h => h) (Or.inl ⟨by rfl, ?_⟩) hHeld ?_
        · intro w' hSw
          try dsimp only at hSw
          first | (go_simp; done) | (go_simp; with_reducible rfl) | (go_simp; rfl)
        refine act_genH 167 (by rfl) (fun T5 hT5 => ?_)
        clear g6
        have zT5 := set_size hT5 zT4
        have tT5_167 := Lib.hid (set_same hT5 zT4 (by decide))
        have tT5_166 := Lib.hid (set_keep hT5 (by decide) tT4_166.out)
        have tT5_165 := Lib.hid (set_keep hT5 (by decide) tT4_165.out)
        have tT5_163 := Lib.hid (set_keep hT5 (by decide) tT4_163.out)
        have tT5_0 := Lib.hid (set_keep hT5 (by decide) tT4_0.out)
        have tT5_6 := Lib.hid (set_keep hT5 (by decide) tT4_6.out)
        have tT5_7 := Lib.hid (set_keep hT5 (by decide) tT4_7.out)
        have tT5_18 := Lib.hid (set_keep hT5 (by decide) tT4_18.out)
        clear zT4 tT4_166 tT4_165 tT4_163 tT4_0 tT4_6 tT4_7 tT4_18
        replace hT5 := Lib.hid hT5
        have g7 := get_of tT5_7.out (lt_sz (i := 7) zT5 rfl)
        refine wpAnyH_take (i := 6) (oi := _) (v := .int .i64 (sp : Int)) rfl (by kernel_rfl) (by kernel_rfl) (by kernel_rfl) (fun _ _ _ h => h) (Or.inl ⟨by rfl, ?_⟩) hHeld ?_
        · intro w' hSw
          try dsimp only at hSw
          first | (go_simp; done) | (go_simp; with_reducible rfl) | (go_simp; rfl)
        refine act_genH 168 (by rfl) (fun T6 hT6 => ?_)
        clear g7
        have zT6 := set_size hT6 zT5
        have tT6_168 := Lib.hid (set_same hT6 zT5 (by decide))
        have tT6_167 := Lib.hid (set_keep hT6 (by decide) tT5_167.out)
        have tT6_166 := Lib.hid (set_keep hT6 (by decide) tT5_166.out)
        have tT6_165 := Lib.hid (set_keep hT6 (by decide) tT5_165.out)
        have tT6_163 := Lib.hid (set_keep hT6 (by decide) tT5_163.out)
        have tT6_0 := Lib.hid (set_keep hT6 (by decide) tT5_0.out)
        have tT6_6 := Lib.hid (set_keep hT6 (by decide) tT5_6.out)
        have tT6_18 := Lib.hid (set_keep hT6 (by decide) tT5_18.out)
        clear zT5 tT5_167 tT5_166 tT5_165 tT5_163 tT5_0 tT5_6 tT5_7 tT5_18
        replace hT6 := Lib.hid hT6
        have g0 := get_of tT6_0.out (lt_sz (i := 0) zT6 rfl)
        refine wpAnyH_take (i := 7) (oi := _) (v := .slice (some ⟨bk, okk, none⟩) L.length sc) rfl (by kernel_rfl) (by kernel_rfl) (by kernel_rfl) (fun _ _ _ h => h) (Or.inl ⟨by rfl, ?_⟩) hHeld ?_
        · intro w' hSw
          try dsimp only at hSw
          first | (go_simp; done) | (go_simp; with_reducible rfl) | (go_simp; rfl)
        refine act_genH 169 (by rfl) (fun T7 hT7 => ?_)
        clear g0
        have zT7 := set_size hT7 zT6
        have tT7_169 := Lib.hid (set_same hT7 zT6 (by decide))
        have tT7_168 := Lib.hid (set_keep hT7 (by decide) tT6_168.out)
        have tT7_167 := Lib.hid (set_keep hT7 (by decide) tT6_167.out)
        have tT7_166 := Lib.hid (set_keep hT7 (by decide) tT6_166.out)
        have tT7_165 := Lib.hid (set_keep hT7 (by decide) tT6_165.out)
        have tT7_163 := Lib.hid (set_keep hT7 (by decide) tT6_163.out)
        have tT7_6 := Lib.hid (set_keep hT7 (by decide) tT6_6.out)
        have tT7_18 := Lib.hid (set_keep hT7 (by decide) tT6_18.out)
        clear zT6 tT6_168 tT6_167 tT6_166 tT6_165 tT6_163 tT6_0 tT6_6 tT6_18
        replace hT7 := Lib.hid hT7
        have g6 := get_of tT7_6.out (lt_sz (i := 6) zT7 rfl)
        refine wpAnyH_take (i := 8) (oi := _) (v := .int .i64 (kd : Int)) rfl (by kernel_rfl) (by kernel_rfl) (by kernel_rfl) (fun _ _ _ h => h) (Or.inl ⟨by rfl, ?_⟩) hHeld ?_
        · intro w' hSw
          try dsimp only at hSw
          first | (go_simp; done) | (go_simp; with_reducible rfl) | (go_simp; rfl)
        refine act_genH 170 (by rfl) (fun T8 hT8 => ?_)
        clear g6
        have zT8 := set_size hT8 zT7
        have tT8_170 := Lib.hid (set_same hT8 zT7 (by decide))
        have tT8_169 := Lib.hid (set_keep hT8 (by decide) tT7_169.out)
        have tT8_168 := Lib.hid (set_keep hT8 (by decide) tT7_168.out)
        have tT8_167 := Lib.hid (set_keep hT8 (by decide) tT7_167.out)
        have tT8_166 := Lib.hid (set_keep hT8 (by decide) tT7_166.out)
        have tT8_165 := Lib.hid (set_keep hT8 (by decide) tT7_165.out)
        have tT8_163 := Lib.hid (set_keep hT8 (by decide) tT7_163.out)
        have tT8_18 := Lib.hid (set_keep hT8 (by decide) tT7_18.out)
        clear zT7 tT7_169 tT7_168 tT7_167 tT7_166 tT7_165 tT7_163 tT7_6 tT7_18
        replace hT8 := Lib.hid hT8
        have g169 := get_of tT8_169.out (lt_sz (i := 169) zT8 rfl)
        have g170 := get_of tT8_170.out (lt_sz (i := 170) zT8 rfl)
        refine wpAnyH_take (i := 9) (oi := _) (v := .pointer (some ⟨bk, okk + kd * 11, none⟩)) rfl (by kernel_rfl) (by kernel_rfl) (by kernel_rfl) (fun _ _ _ h => h) (Or.inl ⟨by rfl, ?_⟩) hHeld ?_
        · intro w' hSw
          try dsimp only at hSw
          first | (go_simp; done) | (go_simp; with_reducible rfl) | (go_simp; rfl)
        refine act_genH 171 (by rfl) (fun T9 hT9 => ?_)
        clear g169 g170
        have zT9 := set_size hT9 zT8
        have tT9_171 := Lib.hid (set_same hT9 zT8 (by decide))
        have tT9_168 := Lib.hid (set_keep hT9 (by decide) tT8_168.out)
        have tT9_167 := Lib.hid (set_keep hT9 (by decide) tT8_167.out)
        have tT9_166 := Lib.hid (set_keep hT9 (by decide) tT8_166.out)
        have tT9_165 := Lib.hid (set_keep hT9 (by decide) tT8_165.out)
        have tT9_163 := Lib.hid (set_keep hT9 (by decide) tT8_163.out)
        have tT9_18 := Lib.hid (set_keep hT9 (by decide) tT8_18.out)
        clear zT8 tT8_170 tT8_169 tT8_168 tT8_167 tT8_166 tT8_165 tT8_163 tT8_18
        replace hT9 := Lib.hid hT9
        have g171 := get_of tT9_171.out (lt_sz (i := 171) zT9 rfl)
        refine wpAnyH_take (i := 10) (oi := _) (v := .pointer (some ⟨bk, okk + kd * 11 + 1, none⟩)) rfl (by kernel_rfl) (by kernel_rfl) (by kernel_rfl) (fun _ _ _ h => h) (Or.inl ⟨by rfl, ?_⟩) hHeld ?_
        · intro w' hSw
          try dsimp only at hSw
          first | (go_simp; done) | (go_simp; with_reducible rfl) | (go_simp; rfl)
        refine act_genH 172 (by rfl) (fun T10 hT10 => ?_)
        clear g171
        have zT10 := set_size hT10 zT9
        have tT10_172 := Lib.hid (set_same hT10 zT9 (by decide))
        have tT10_168 := Lib.hid (set_keep hT10 (by decide) tT9_168.out)
        have tT10_167 := Lib.hid (set_keep hT10 (by decide) tT9_167.out)
        have tT10_166 := Lib.hid (set_keep hT10 (by decide) tT9_166.out)
        have tT10_165 := Lib.hid (set_keep hT10 (by decide) tT9_165.out)
        have tT10_163 := Lib.hid (set_keep hT10 (by decide) tT9_163.out)
        have tT10_18 := Lib.hid (set_keep hT10 (by decide) tT9_18.out)
        clear zT9 tT9_171 tT9_168 tT9_167 tT9_166 tT9_165 tT9_163 tT9_18
        replace hT10 := Lib.hid hT10
        have g172 := get_of tT10_172.out (lt_sz (i := 172) zT10 rfl)
        refine wpAnyH_take (i := 11) (oi := _) (v := .int .i64 lf) rfl (by kernel_rfl) (by kernel_rfl) (by kernel_rfl) (fun _ _ _ h => h) (Or.inl ⟨by rfl, ?_⟩) hHeld ?_
        · intro w' hSw
          try dsimp only at hSw
          first | (go_simp; done) | (go_simp; with_reducible rfl) | (go_simp; rfl)
        refine act_genH 173 (by rfl) (fun T11 hT11 => ?_)
        clear g172
        have zT11 := set_size hT11 zT10
        have tT11_173 := Lib.hid (set_same hT11 zT10 (by decide))
        have tT11_168 := Lib.hid (set_keep hT11 (by decide) tT10_168.out)
        have tT11_167 := Lib.hid (set_keep hT11 (by decide) tT10_167.out)
        have tT11_166 := Lib.hid (set_keep hT11 (by decide) tT10_166.out)
        have tT11_165 := Lib.hid (set_keep hT11 (by decide) tT10_165.out)
        have tT11_163 := Lib.hid (set_keep hT11 (by decide) tT10_163.out)
        have tT11_18 := Lib.hid (set_keep hT11 (by decide) tT10_18.out)
        clear zT10 tT10_172 tT10_168 tT10_167 tT10_166 tT10_165 tT10_163 tT10_18
        replace hT11 := Lib.hid hT11
        have g165 := get_of tT11_165.out (lt_sz (i := 165) zT11 rfl)
        have g166 := get_of tT11_166.out (lt_sz (i := 166) zT11 rfl)
        have g167 := get_of tT11_167.out (lt_sz (i := 167) zT11 rfl)
        have g168 := get_of tT11_168.out (lt_sz (i := 168) zT11 rfl)
        have g173 := get_of tT11_173.out (lt_sz (i := 173) zT11 rfl)
        refine wpAnyH_take (i := 12) (oi := _) (v := .agg #[.int .i64 x.next, .int .i64 p, .int .i64 (kd : Int), .int .i64 (sp : Int), .int .i64 lf, .int .i64 0, .int .i64 0, .int .i64 0]) rfl (by kernel_rfl) (by kernel_rfl) (by kernel_rfl) (fun _ _ _ h => h) (Or.inl ⟨by rfl, ?_⟩) hHeld ?_
        · intro w' hSw
          try dsimp only at hSw
          first | (go_simp; done) | (go_simp; with_reducible rfl) | (go_simp; rfl)
        refine act_genH 174 (by rfl) (fun T12 hT12 => ?_)
        clear g165 g166 g167 g168 g173
        have zT12 := set_size hT12 zT11
        have tT12_174 := Lib.hid (set_same hT12 zT11 (by decide))
        have tT12_163 := Lib.hid (set_keep hT12 (by decide) tT11_163.out)
        have tT12_18 := Lib.hid (set_keep hT12 (by decide) tT11_18.out)
        clear zT11 tT11_173 tT11_168 tT11_167 tT11_166 tT11_165 tT11_163 tT11_18
        replace hT12 := Lib.hid hT12
        have g174 := get_of tT12_174.out (lt_sz (i := 174) zT12 rfl)
        refine wpAnyH_ready (rs := [13]) (by kernel_rfl) (by simp) ?_
        refine AllReadyH.cons (o := _) rfl (fun K hK => ?_) AllReadyH.nil
        have hXa : BG w (W13.drew.alloc (.cells #[.int .i64 x.next, .int .i64 p, .int .i64 (kd : Int), .int .i64 (sp : Int), .int .i64 lf, .int .i64 0, .int .i64 0, .int .i64 0] 45)) ⟨some ⟨bk, okk, none⟩, sc⟩ L sf f s x fb wb := (hX.out.drewN 1).alloc _
        have hna : Blk (W13.drew.alloc (.cells #[.int .i64 x.next, .int .i64 p, .int .i64 (kd : Int), .int .i64 (sp : Int), .int .i64 lf, .int .i64 0, .int .i64 0, .int .i64 0] 45)) nb 29 #[.int .i64 x.turn, .int .i64 x.next, .int .i64 x.field.wide, .int .i64 x.field.high, .slice s3.field.ground.A x.field.ground.length s3.field.ground.c, .slice s3.field.ore.A x.field.ore.length s3.field.ore.c, .slice s3.gold.A x.gold.length s3.gold.c, .slice s3.units.A x.units.length s3.units.c, .slice s3.queue.A x.queue.length s3.queue.c] := (hn0.out.drewN 1).alloc _
        have hv174 : (#[(0, Operand.tmp 174)] : Array (Nat × Operand)).map (fun (i, x) => (i, Act.eval { tmps := T12, defers := [] } x)) = #[(0, .agg #[.int .i64 x.next, .int .i64 p, .int .i64 (kd : Int), .int .i64 (sp : Int), .int .i64 lf, .int .i64 0, .int .i64 0, .int .i64 0])] := by
          have e := eval_of (ds := []) tT12_174.out
          simp only [List.map_toArray, List.map_cons, List.map_nil]
          rw [e]
        refine step_bs (by rfl) 26 1 #[(0, .tmp 174)] (by rfl) #[(0, .agg #[.int .i64 x.next, .int .i64 p, .int .i64 (kd : Int), .int .i64 (sp : Int), .int .i64 lf, .int .i64 0, .int .i64 0, .int .i64 0])] (.slice (some ⟨W13.drew.heap.size, 0, none⟩) 1 1) (w' := W13.drew.alloc (.cells #[.int .i64 x.next, .int .i64 p, .int .i64 (kd : Int), .int .i64 (sp : Int), .int .i64 lf, .int .i64 0, .int .i64 0, .int .i64 0] 45)) (bs_unitB x.next p (kd : Int) (sp : Int) lf 0 0 0 W13.drew) hv174 ?_
        refine hK.out _ _ (hcells.out _ hXa hna) (fun hHeld => ?_)
        clear hK K
        refine act_genH 175 (by rfl) (fun T13 hT13 => ?_)
        clear g174 hv174
        have zT13 := set_size hT13 zT12
        have tT13_175 := Lib.hid (set_same hT13 zT12 (by decide))
        have tT13_163 := Lib.hid (set_keep hT13 (by decide) tT12_163.out)
        have tT13_18 := Lib.hid (set_keep hT13 (by decide) tT12_18.out)
        clear zT12 tT12_174 tT12_163 tT12_18
        replace hT13 := Lib.hid hT13
        have hoa : (W13.drew.alloc (.cells #[.int .i64 x.next, .int .i64 p, .int .i64 (kd : Int), .int .i64 (sp : Int), .int .i64 lf, .int .i64 0, .int .i64 0, .int .i64 0] 45)).ownsRow (nb + 1) 45 8 (.slice s3.units.A x.units.length s3.units.c) x.units.length (x.units.flatMap uC) := World.ownsRow.alloc (w := W13.drew) hO.out.u _
        have hba : Blk (W13.drew.alloc (.cells #[.int .i64 x.next, .int .i64 p, .int .i64 (kd : Int), .int .i64 (sp : Int), .int .i64 lf, .int .i64 0, .int .i64 0, .int .i64 0] 45)) W13.drew.heap.size 45 #[.int .i64 x.next, .int .i64 p, .int .i64 (kd : Int), .int .i64 (sp : Int), .int .i64 lf, .int .i64 0, .int .i64 0, .int .i64 0] := Blk.new _ _ _
        have hbs : nb + 1 ≤ (W13.drew.alloc (.cells #[.int .i64 x.next, .int .i64 p, .int .i64 (kd : Int), .int .i64 (sp : Int), .int .i64 lf, .int .i64 0, .int .i64 0, .int .i64 0] 45)).heap.size := hna.lt
        replace hoa := Lib.hid hoa
        replace hba := Lib.hid hba
        replace hbs := Lib.hid hbs
        refine wpAnyH_ready (rs := [14]) (by kernel_rfl) (by simp) ?_
        refine AllReadyH.cons (o := _) rfl (fun K hK => ?_) AllReadyH.nil
        refine step_uA (by rfl) (.tmp 163) (.tmp 175) (by rfl) (nb + 1) (.slice s3.units.A x.units.length s3.units.c) x.units.length (x.units.flatMap uC) (.int .i64 x.next) (.int .i64 p) (.int .i64 (kd : Int)) (.int .i64 (sp : Int)) (.int .i64 lf) (.int .i64 0) (.int .i64 0) (.int .i64 0) (eval_of tT13_163.out) hoa.out W13.drew.heap.size 1 (eval_of tT13_175.out) hba.out (by simp [Value.oneCell']) (by omega) hbs.out ?_
        intro gn cn W2 hob hgb
        have hrow : ∀ b, (Value.ownBlock (.slice s3.units.A x.units.length s3.units.c)) = some b → nb + 1 ≤ b := fun b e => (hoa.out.lt b e).1
        have hXb : BG w W2 ⟨some ⟨bk, okk, none⟩, sc⟩ L sf f s x fb wb := hXa.grown hgb (fun b e => by have := hrow b e; have := hwn.out; omega)
        have hnb2 : Blk W2 nb 29 #[.int .i64 x.turn, .int .i64 x.next, .int .i64 x.field.wide, .int .i64 x.field.high, .slice s3.field.ground.A x.field.ground.length s3.field.ground.c, .slice s3.field.ore.A x.field.ore.length s3.field.ore.c, .slice s3.gold.A x.gold.length s3.gold.c, .slice s3.units.A x.units.length s3.units.c, .slice s3.queue.A x.queue.length s3.queue.c] := hna.grown hgb (fun e => by have := hrow nb e.symm; omega)
        have og : W2.ownsRow (nb + 1) 3 1 (.slice s3.field.ground.A x.field.ground.length s3.field.ground.c) x.field.ground.length (x.field.ground.map (.int .i64)) := (World.ownsRow.alloc (w := W13.drew) hO.out.g (.cells #[.int .i64 x.next, .int .i64 p, .int .i64 (kd : Int), .int .i64 (sp : Int), .int .i64 lf, .int .i64 0, .int .i64 0, .int .i64 0] 45)).kept hgb (own_ne (by decide) hoa.out (World.ownsRow.alloc (w := W13.drew) hO.out.g (.cells #[.int .i64 x.next, .int .i64 p, .int .i64 (kd : Int), .int .i64 (sp : Int), .int .i64 lf, .int .i64 0, .int .i64 0, .int .i64 0] 45)))
        have oo : W2.ownsRow (nb + 1) 3 1 (.slice s3.field.ore.A x.field.ore.length s3.field.ore.c) x.field.ore.length (x.field.ore.map (.int .i64)) := (World.ownsRow.alloc (w := W13.drew) hO.out.o (.cells #[.int .i64 x.next, .int .i64 p, .int .i64 (kd : Int), .int .i64 (sp : Int), .int .i64 lf, .int .i64 0, .int .i64 0, .int .i64 0] 45)).kept hgb (own_ne (by decide) hoa.out (World.ownsRow.alloc (w := W13.drew) hO.out.o (.cells #[.int .i64 x.next, .int .i64 p, .int .i64 (kd : Int), .int .i64 (sp : Int), .int .i64 lf, .int .i64 0, .int .i64 0, .int .i64 0] 45)))
        have od : W2.ownsRow (nb + 1) 3 1 (.slice s3.gold.A x.gold.length s3.gold.c) x.gold.length (x.gold.map (.int .i64)) := (World.ownsRow.alloc (w := W13.drew) hO.out.d (.cells #[.int .i64 x.next, .int .i64 p, .int .i64 (kd : Int), .int .i64 (sp : Int), .int .i64 lf, .int .i64 0, .int .i64 0, .int .i64 0] 45)).kept hgb (own_ne (by decide) hoa.out (World.ownsRow.alloc (w := W13.drew) hO.out.d (.cells #[.int .i64 x.next, .int .i64 p, .int .i64 (kd : Int), .int .i64 (sp : Int), .int .i64 lf, .int .i64 0, .int .i64 0, .int .i64 0] 45)))
        have oq : W2.ownsRow (nb + 1) 71 4 (.slice s3.queue.A x.queue.length s3.queue.c) x.queue.length (x.queue.flatMap jC) := (World.ownsRow.alloc (w := W13.drew) hO.out.q (.cells #[.int .i64 x.next, .int .i64 p, .int .i64 (kd : Int), .int .i64 (sp : Int), .int .i64 lf, .int .i64 0, .int .i64 0, .int .i64 0] 45)).kept hgb (own_ne (by decide) hoa.out (World.ownsRow.alloc (w := W13.drew) hO.out.q (.cells #[.int .i64 x.next, .int .i64 p, .int .i64 (kd : Int), .int .i64 (sp : Int), .int .i64 lf, .int .i64 0, .int .i64 0, .int .i64 0] 45)))
        refine hK.out _ _ (hcells.out _ hXb hnb2) (fun hHeld => ?_)
        clear hK K hrow hgb hoa hba hXa hna
        refine act_genH 176 (by rfl) (fun T14 hT14 => ?_)
        have zT14 := set_size hT14 zT13
        have tT14_176 := Lib.hid (set_same hT14 zT13 (by decide))
        have tT14_18 := Lib.hid (set_keep hT14 (by decide) tT13_18.out)
        clear zT13 tT13_175 tT13_163 tT13_18
        replace hT14 := Lib.hid hT14
        refine wpAnyH_done (by kernel_rfl) ?_ _
        refine wpAny_of_held (S := fun _ => True) _ _ _ _ ?_
        have nl2 := hnb2.lt
        have fz := hnb2.frozen 7
        have cz : W2.cell? ⟨nb, 7, none⟩ = some (.slice s3.units.A x.units.length s3.units.c) := hnb2.cell 7
        have hx : (addX L x p kd (sp : Int)).units.length = x.units.length + 1 := by unfold addX; simp
        have hf : (addX L x p kd (sp : Int)).units.flatMap uC = x.units.flatMap uC ++ [.int .i64 x.next, .int .i64 p, .int .i64 (kd : Int), .int .i64 (sp : Int), .int .i64 lf, .int .i64 0, .int .i64 0, .int .i64 0] := by unfold addX; rw [hlf.out]; simp [List.flatMap_append, uC]
        have hnb3 : Blk (W2.setCell ⟨nb, 7, none⟩ (.slice (some ⟨gn, 0, none⟩) (x.units.length + 1) cn)) nb 29 #[.int .i64 x.turn, .int .i64 x.next, .int .i64 x.field.wide, .int .i64 x.field.high, .slice s3.field.ground.A x.field.ground.length s3.field.ground.c, .slice s3.field.ore.A x.field.ore.length s3.field.ore.c, .slice s3.gold.A x.gold.length s3.gold.c, .slice (some ⟨gn, 0, none⟩) (x.units.length + 1) cn, .slice s3.queue.A x.queue.length s3.queue.c] := by
          have h := hnb2.set_ 7 (.slice (some ⟨gn, 0, none⟩) (x.units.length + 1) cn)
          simp only [List.setIfInBounds_toArray, List.set_cons_zero, List.set_cons_succ] at h
          exact h
        have hXc := hXb.far (b := nb) (i := 7) hwn.out (.slice (some ⟨gn, 0, none⟩) (x.units.length + 1) cn)
        have hW3 : WOwn (W2.setCell ⟨nb, 7, none⟩ (.slice (some ⟨gn, 0, none⟩) (x.units.length + 1) cn)) (nb + 1) ⟨s3.field, s3.gold, ⟨some ⟨gn, 0, none⟩, cn⟩, s3.queue⟩ (addX L x p kd (sp : Int)) := ⟨own_farW og (Nat.lt_succ_self _), own_farW oo (Nat.lt_succ_self _), own_farW od (Nat.lt_succ_self _), by dsimp only; rw [hx, hf]; exact own_farW hob (Nat.lt_succ_self _), own_farW oq (Nat.lt_succ_self _)⟩
        replace hnb3 := Lib.hid hnb3
        replace hXc := Lib.hid hXc
        replace hW3 := Lib.hid hW3
        replace hnb2 := Lib.hid hnb2
        clear hx hf og oo od oq hob hXb hX hn0 hO
        have g18 := get_of tT14_18.out (lt_sz (i := 18) zT14 rfl)
        refine wpAnyH_take (i := 15) (oi := _) (v := .pointer (some ⟨nb, 7, none⟩)) rfl (by kernel_rfl) (by kernel_rfl) (by kernel_rfl) (fun _ _ _ h => h) (Or.inl ⟨by rfl, ?_⟩) trivial ?_
        · intro w' hSw
          try dsimp only at hSw
          first | (go_simp; done) | (go_simp; with_reducible rfl) | (go_simp; rfl)
        refine act_genH 177 (by rfl) (fun T15 hT15 => ?_)
        clear g18
        have zT15 := set_size hT15 zT14
        have tT15_177 := Lib.hid (set_same hT15 zT14 (by decide))
        have tT15_176 := Lib.hid (set_keep hT15 (by decide) tT14_176.out)
        clear zT14 tT14_176 tT14_18
        replace hT15 := Lib.hid hT15
        have g176 := get_of tT15_176.out (lt_sz (i := 176) zT15 rfl)
        have g177 := get_of tT15_177.out (lt_sz (i := 177) zT15 rfl)
        refine wpAnyH_ready (rs := [16]) (by kernel_rfl) (by simp) ?_
        refine AllReadyH.cons (o := _) rfl (fun K hK => ?_) AllReadyH.nil
        go_simp
        refine hK.out _ _ trivial (fun _ => ?_)
        clear hK K
        refine wpAnyH_done (by kernel_rfl) ?_ _
        refine NoPanic.normal ?_
        clear fz cz nl2
        rw [hT15.out, hT14.out, hT13.out, hT12.out, hT11.out, hT10.out, hT9.out, hT8.out, hT7.out, hT6.out, hT5.out, hT4.out, hT3.out, hT2.out, hT1.out, hT0.out, hT.out]
        simp only [List.setIfInBounds_toArray, List.set_cons_succ, List.set_cons_zero]
        go_wp2_with fail
        go_meet
        exact ⟨_, rfl, gn, cn, hXc, hnb3, hW3⟩
      case rest =>
      obtain ⟨W14, rfl, gn, cn, hX, hn0, hO⟩ := hcut
      have r1 : W14.cell? ⟨nb, 1, none⟩ = some (.int .i64 x.next) := hn0.out.cell 1
      have y1 := hn0.out.frozen 1
      have nl := hn0.out.lt
      have hXn := hX.out.far (b := nb) (i := 1) hwn.out (.int .i64 (x.next + 1))
      have hvn : Blk (W14.setCell ⟨nb, 1, none⟩ (.int .i64 (x.next + 1))) nb 29 #[.int .i64 x.turn, .int .i64 (x.next + 1), .int .i64 x.field.wide, .int .i64 x.field.high, .slice s3.field.ground.A x.field.ground.length s3.field.ground.c, .slice s3.field.ore.A x.field.ore.length s3.field.ore.c, .slice s3.gold.A x.gold.length s3.gold.c, .slice (some ⟨gn, 0, none⟩) (x.units.length + 1) cn, .slice s3.queue.A x.queue.length s3.queue.c] := by
        have h := hn0.out.set_ 1 (.int .i64 (x.next + 1))
        simp only [List.setIfInBounds_toArray, List.set_cons_zero, List.set_cons_succ] at h
        exact h
      have hOn := hO.out.farW (b := nb) (i := 1) (u := .int .i64 (x.next + 1)) (Nat.lt_succ_self _)
      replace hXn := Lib.hid hXn
      replace hvn := Lib.hid hvn
      replace hOn := Lib.hid hOn
      clear hX hn0 hO hcells
      go_wp2_with fail
      go_meet
      have hw2 := hw.out
      subst hw2
      have hx : (addX L x p kd (sp : Int)).units.length = x.units.length + 1 := by unfold addX; simp
      refine ⟨_, rfl, ⟨s3.field, s3.gold, ⟨some ⟨gn, 0, none⟩, cn⟩, s3.queue⟩, hXn, Lib.hid ?_, Lib.hid hOn.out.rd⟩
      rw [hx]
      exact hvn.out
  case rest =>
  obtain ⟨W15, rfl, s4, hX, hn0, hR4⟩ := hcut
  have hnew := place_any sK L s x p k a W15 hX.out.ks_ hX.out.wo_
  rw [hX2e.out, hF5.out] at hnew
  replace hnew : Calls Tryz.prog 15 #[.slice sK.A L.length sK.c, .agg #[.int .i64 x.turn, .int .i64 x.next, .int .i64 x.field.wide, .int .i64 x.field.high, .slice s.field.ground.A x.field.ground.length s.field.ground.c, .slice s.field.ore.A x.field.ore.length s.field.ore.c, .slice s.gold.A x.gold.length s.gold.c, .slice s.units.A x.units.length s.units.c, .slice s.queue.A x.queue.length s.queue.c], .int .i64 p, .int .i64 k, .int .i64 a] W15 fun e w' => ∃ s', e = .returned (.tuple #[wA s' X2, errV F5]) ∧ WRd w' w'.heap.size s' X2 ∧ Below W15.heap.size W15 w' := hnew
  replace hnew := Lib.hid hnew
  obtain ⟨m0, m1, m2, m3, m4, m5, m6, m7, m8, mll, q0, q1, q2, q3, qll⟩ := hX.out.cells
  go_upto_region 35 with (go_at_call 15; refine hnew.out.mono ?_; clear m0 m1 m2 m3 m4 m5 m6 m7 m8 mll q0 q1 q2 q3 qll; rintro e w16 ⟨s5, rfl, hR5, hb5⟩)
  clear hnew
  have hXn := (hX.out.below hb5).alloc (.cells #[.int .i64 X2.turn, .int .i64 X2.next, .int .i64 X2.field.wide, .int .i64 X2.field.high, .slice s5.field.ground.A X2.field.ground.length s5.field.ground.c, .slice s5.field.ore.A X2.field.ore.length s5.field.ore.c, .slice s5.gold.A X2.gold.length s5.gold.c, .slice s5.units.A X2.units.length s5.units.c, .slice s5.queue.A X2.queue.length s5.queue.c] 29)
  have hvn := (hn0.out.below hb5 hn0.out.lt).alloc (.cells #[.int .i64 X2.turn, .int .i64 X2.next, .int .i64 X2.field.wide, .int .i64 X2.field.high, .slice s5.field.ground.A X2.field.ground.length s5.field.ground.c, .slice s5.field.ore.A X2.field.ore.length s5.field.ore.c, .slice s5.gold.A X2.gold.length s5.gold.c, .slice s5.units.A X2.units.length s5.units.c, .slice s5.queue.A X2.queue.length s5.queue.c] 29)
  have hxn := Blk.new w16 29 #[.int .i64 X2.turn, .int .i64 X2.next, .int .i64 X2.field.wide, .int .i64 X2.field.high, .slice s5.field.ground.A X2.field.ground.length s5.field.ground.c, .slice s5.field.ore.A X2.field.ore.length s5.field.ore.c, .slice s5.gold.A X2.gold.length s5.gold.c, .slice s5.units.A X2.units.length s5.units.c, .slice s5.queue.A X2.queue.length s5.queue.c]
  have hal : Below w16.heap.size w16 (w16.alloc (.cells #[.int .i64 X2.turn, .int .i64 X2.next, .int .i64 X2.field.wide, .int .i64 X2.field.high, .slice s5.field.ground.A X2.field.ground.length s5.field.ground.c, .slice s5.field.ore.A X2.field.ore.length s5.field.ore.c, .slice s5.gold.A X2.gold.length s5.gold.c, .slice s5.units.A X2.units.length s5.units.c, .slice s5.queue.A X2.queue.length s5.queue.c] 29)) := (Below.refl _ _).alloc (Nat.le_refl _) _
  have hRan := (hR5.below hal).more hal.size
  have hRbn := (hR4.out.below (hb5.trans (hal.mono hb5.size))).more (Nat.le_trans hb5.size hal.size)
  generalize (w16.alloc (.cells #[.int .i64 X2.turn, .int .i64 X2.next, .int .i64 X2.field.wide, .int .i64 X2.field.high, .slice s5.field.ground.A X2.field.ground.length s5.field.ground.c, .slice s5.field.ore.A X2.field.ore.length s5.field.ore.c, .slice s5.gold.A X2.gold.length s5.gold.c, .slice s5.units.A X2.units.length s5.units.c, .slice s5.queue.A X2.queue.length s5.queue.c] 29)) = W16 at *
  obtain ⟨yb, hyb⟩ : ∃ yb, w16.heap.size = yb := ⟨_, rfl⟩
  rw [hyb] at hxn
  rw [hyb]
  clear hX hn0 hb5 hR5 hR4 hal
  have hX := Lib.hid hXn
  have hn0 := Lib.hid hvn
  have hx0 := Lib.hid hxn
  have hR5 := Lib.hid hRan
  have hR4 := Lib.hid hRbn
  clear hXn hvn hxn hRan hRbn
  replace hyb := Lib.hid hyb
  have her := error_same F5 W16 hX.out.hv_
  replace her : Calls Tryz.prog 9 #[errV F5, .int .i64 F5] W16 fun e w' => e = .returned (.bool true) ∧ Below W16.heap.size W16 w' := her
  replace her := Lib.hid her
  go_upto_region 36 with (go_at_call 9; refine her.out.mono ?_; rintro e W17 ⟨rfl, hb5⟩)
  clear her
  have hXn := hX.out.below hb5
  have hvn := hn0.out.below hb5 hn0.out.lt
  have hxn := hx0.out.below hb5 hx0.out.lt
  have hRan := (hR5.out.below hb5).more hb5.size
  have hRbn := (hR4.out.below hb5).more hb5.size
  clear hX hn0 hx0 hb5 hR5 hR4
  have hX := Lib.hid hXn
  have hn0 := Lib.hid hvn
  have hx0 := Lib.hid hxn
  have hR5 := Lib.hid hRan
  have hR4 := Lib.hid hRbn
  clear hXn hvn hxn hRan hRbn
  have hsm := samew_eq s5 s4 X2 W17 W17.heap.size hR5.out hR4.out (by have := hfew.out.1; omega) (by have := hfew.out.2.1; omega) (by have := hfew.out.2.2.1; omega) (by have := hfew.out.2.2.2.1; omega) (by have := hfew.out.2.2.2.2; omega) (Nat.le_refl _)
  replace hsm : Calls Tryz.prog 10 #[.agg #[.int .i64 X2.turn, .int .i64 X2.next, .int .i64 X2.field.wide, .int .i64 X2.field.high, .slice s5.field.ground.A X2.field.ground.length s5.field.ground.c, .slice s5.field.ore.A X2.field.ore.length s5.field.ore.c, .slice s5.gold.A X2.gold.length s5.gold.c, .slice s5.units.A X2.units.length s5.units.c, .slice s5.queue.A X2.queue.length s5.queue.c], .agg #[.int .i64 X2.turn, .int .i64 X2.next, .int .i64 X2.field.wide, .int .i64 X2.field.high, .slice s4.field.ground.A X2.field.ground.length s4.field.ground.c, .slice s4.field.ore.A X2.field.ore.length s4.field.ore.c, .slice s4.gold.A X2.gold.length s4.gold.c, .slice s4.units.A X2.units.length s4.units.c, .slice s4.queue.A X2.queue.length s4.queue.c]] W17 fun e w' => e = .returned (.bool true) ∧ Below W17.heap.size W17 w' := hsm
  replace hsm := Lib.hid hsm
  have r0 : W17.cell? ⟨nb, 0, none⟩ = some (.int .i64 X2.turn) := hn0.out.cell 0
  have y0 : W17.cell? ⟨yb, 0, none⟩ = some (.int .i64 X2.turn) := hx0.out.cell 0
  have r1 : W17.cell? ⟨nb, 1, none⟩ = some (.int .i64 X2.next) := hn0.out.cell 1
  have y1 : W17.cell? ⟨yb, 1, none⟩ = some (.int .i64 X2.next) := hx0.out.cell 1
  have r2 : W17.cell? ⟨nb, 2, none⟩ = some (.int .i64 X2.field.wide) := hn0.out.cell 2
  have y2 : W17.cell? ⟨yb, 2, none⟩ = some (.int .i64 X2.field.wide) := hx0.out.cell 2
  have r3 : W17.cell? ⟨nb, 3, none⟩ = some (.int .i64 X2.field.high) := hn0.out.cell 3
  have y3 : W17.cell? ⟨yb, 3, none⟩ = some (.int .i64 X2.field.high) := hx0.out.cell 3
  have r4 : W17.cell? ⟨nb, 4, none⟩ = some (.slice s4.field.ground.A X2.field.ground.length s4.field.ground.c) := hn0.out.cell 4
  have y4 : W17.cell? ⟨yb, 4, none⟩ = some (.slice s5.field.ground.A X2.field.ground.length s5.field.ground.c) := hx0.out.cell 4
  have r5 : W17.cell? ⟨nb, 5, none⟩ = some (.slice s4.field.ore.A X2.field.ore.length s4.field.ore.c) := hn0.out.cell 5
  have y5 : W17.cell? ⟨yb, 5, none⟩ = some (.slice s5.field.ore.A X2.field.ore.length s5.field.ore.c) := hx0.out.cell 5
  have r6 : W17.cell? ⟨nb, 6, none⟩ = some (.slice s4.gold.A X2.gold.length s4.gold.c) := hn0.out.cell 6
  have y6 : W17.cell? ⟨yb, 6, none⟩ = some (.slice s5.gold.A X2.gold.length s5.gold.c) := hx0.out.cell 6
  have r7 : W17.cell? ⟨nb, 7, none⟩ = some (.slice s4.units.A X2.units.length s4.units.c) := hn0.out.cell 7
  have y7 : W17.cell? ⟨yb, 7, none⟩ = some (.slice s5.units.A X2.units.length s5.units.c) := hx0.out.cell 7
  have r8 : W17.cell? ⟨nb, 8, none⟩ = some (.slice s4.queue.A X2.queue.length s4.queue.c) := hn0.out.cell 8
  have y8 : W17.cell? ⟨yb, 8, none⟩ = some (.slice s5.queue.A X2.queue.length s5.queue.c) := hx0.out.cell 8
  have nl := hn0.out.lt
  have xl := hx0.out.lt
  go_upto_region 37 with (go_at_call 10; refine hsm.out.mono ?_; clear r0 y0 r1 y1 r2 y2 r3 y3 r4 y4 r5 y5 r6 y6 r7 y7 r8 y8 nl xl; rintro e W18 ⟨rfl, hb5⟩)
  clear hsm
  have hbf := (hX.out.below hb5).b
  replace hbf := Lib.hid hbf
  clear hX hn0 hx0 hR5 hR4 hb5
  go_wp2_with fail
  go_ret
  exact ⟨rfl, hbf.out⟩
end Go.Proofs.YtkgkpggfoieioaaGreatDoor
