import Derived.Test.YtkgkpggfoieioaaDoorScoreT
import Derived.Test.YtkgkpggfoieioaaDoorRefWc
import Derived.Deep.AppendLies
namespace Go.Proofs.YtkgkpggfoieioaaDoor
set_option linter.unusedVariables false
open Go.RowKit
/-! ScoreTells. -/
theorem errT_V (k : Int) : errT k = errV k := rfl
theorem Below.drawT {B : Nat} {w w' : World} (h : Below B w w') : Below B w w'.drew := bdrewN h 1
theorem HV.wb {B wb : Nat} {w0 w : World} {sK : SL} {L : List GK} {s : SW} {x : GW} (hv : HV w0) (h : WB B w0 w sK L s x wb) (hB : B = w0.heap.size) : HV w := hv.below (by subst hB; exact h.b)
theorem rkW_len (z : List Int) : (rkW z).length ≤ 200 := by
  unfold rkW
  by_cases h : 200 < z.length
  · rw [if_pos h]; simp
  · rw [if_neg h]; simp [rankL]; omega
def rkT (z : List Int) (k : Nat) : List Value := ((rkW z).take k).map (.int .i64)
theorem drewN_drewN (w : World) (p q : Nat) : (w.drewN p).drewN q = w.drewN (p + q) := by
  simp [World.drewN, Nat.add_assoc]
set_option maxHeartbeats 12800000 in
set_option maxRecDepth 100000 in
theorem scoreTells_any (v0 : Value) (x0 : SL × List GK) (v1 : Value) (x1 : SW × GW) (a2 : Option Addr) (len2 cap2 : Nat) (z2 : List Int) (w : World) (hv : HV w) (h0 : v0 = .slice x0.1.A x0.2.length x0.1.c ∧ SLK w x0.1 x0.2) (h1 : v1 = .agg (wV x1.1 x1.2).toArray ∧ WOk w x1.1 x1.2) (h2 : IsRow .i64 w a2 len2 cap2 z2) :
    Calls Tryd.prog 7 #[v0, v1, .slice a2 len2 cap2] w fun e w' => e = .returned (.bool true) ∧ Below w.heap.size w w' := by
  obtain ⟨i0, hi0, hz0, hz1, hz2⟩ := info_parts int_info
  obtain ⟨rfl, hK⟩ := h0
  obtain ⟨rfl, hW⟩ := h1
  obtain ⟨sK, L⟩ := x0
  obtain ⟨⟨sf, ⟨gA, gc⟩, ⟨uA, uc⟩, sq⟩, x⟩ := x1
  obtain ⟨z, rfl, hz, hzw, hzl, _⟩ := isRow_rd h2
  have hKS := hK.ks
  clear h2 hK
  dsimp only at hKS hW ⊢
  have hcap := hKS.cap
  have hmx := hKS.max
  have hul := hW.ulen
  have hgl : x.gold.length ≤ 9223372036854775807 := by
    have a := hW.2.2.2.1.2.2.1
    have b := hW.2.2.2.1.2.2.2.1
    unfold maxLen at b; omega
  have hzl2 : z.length ≤ 9223372036854775807 := by unfold maxLen at hzl; omega
  clear hzl hzw
  have hB : WB w.heap.size w (w.alloc (.cells #[.int .i64 x.turn, .int .i64 x.next, .int .i64 x.field.wide, .int .i64 x.field.high, .slice sf.ground.A x.field.ground.length sf.ground.c, .slice sf.ore.A x.field.ore.length sf.ore.c, .slice gA x.gold.length gc, .slice uA x.units.length uc, .slice sq.A x.queue.length sq.c] 55)) sK L ⟨sf, ⟨gA, gc⟩, ⟨uA, uc⟩, sq⟩ x w.heap.size := by
    have hb1 : Below w.heap.size w (w.alloc (.cells #[.int .i64 x.turn, .int .i64 x.next, .int .i64 x.field.wide, .int .i64 x.field.high, .slice sf.ground.A x.field.ground.length sf.ground.c, .slice sf.ore.A x.field.ore.length sf.ore.c, .slice gA x.gold.length gc, .slice uA x.units.length uc, .slice sq.A x.queue.length sq.c] 55)) := (Below.refl _ _).alloc (Nat.le_refl _) _
    exact ⟨hb1, hb1.size, Blk.new _ _ _, hW.below hb1, hKS.up hb1⟩
  replace hB := Lib.hid hB
  replace hz := Lib.hid hz
  replace hv := Lib.hid hv
  clear hKS hW
  unfold wV
  go_enter Tryd.func7, Tryd.ntmps7
  go_upto_region 1 with fail
  generalize (w.alloc (.cells #[.int .i64 x.turn, .int .i64 x.next, .int .i64 x.field.wide, .int .i64 x.field.high, .slice sf.ground.A x.field.ground.length sf.ground.c, .slice sf.ore.A x.field.ore.length sf.ore.c, .slice gA x.gold.length gc, .slice uA x.units.length uc, .slice sq.A x.queue.length sq.c] 55)) = W at *
  obtain ⟨wb, hwb⟩ : ∃ wb, w.heap.size = wb := ⟨_, rfl⟩
  rw [hwb]
  replace hB : WB w.heap.size w W sK L ⟨sf, ⟨gA, gc⟩, ⟨uA, uc⟩, sq⟩ x wb := by rw [← hwb]; exact hB.out
  replace hwb := Lib.hid hwb
  obtain ⟨E, hE⟩ : ∃ E, worldE L x = E := ⟨_, rfl⟩
  have hrc := rwcheck_any sK L ⟨sf, ⟨gA, gc⟩, ⟨uA, uc⟩, sq⟩ x W hB.ks hB.wo
  rw [hE] at hrc
  replace hE := Lib.hid hE
  obtain ⟨m0, m1, m2, m3, m4, m5, m6, m7, m8, mll⟩ := hB.wcells
  dsimp only at m6 m7 m8
  replace hB := Lib.hid hB
  replace hrc := Lib.hid hrc
  go_wp2_with fail
  refine hrc.out.mono ?_
  clear hrc m0 m1 m2 m3 m4 m5 m6 m7 m8 mll
  rintro e W2 ⟨rfl, hb2⟩
  have hB2 := hB.out.below hb2
  clear hb2 hB
  replace hB2 := Lib.hid hB2
  go_upto_if 32 with fail
  go_cut [7, 8] (fun ve vw wx0 => ∃ wx, wx = wx0 ∧ ∃ U c, ve = .int .i64 E ∧ vw = .slice U (ptW L x).length c ∧ Hid (RI wx wx.heap.size U (ptW L x)) ∧ Hid (WB w.heap.size w wx sK L ⟨sf, ⟨gA, gc⟩, ⟨uA, uc⟩, sq⟩ x wb))
  case first =>
    as_aux_lemma =>
    by_cases hE0 : E = 0
    · subst hE0
      have hok := worldE_0 hE.out
      obtain ⟨hub, hu40, hg4, hgb⟩ := wok_worth hok
      obtain ⟨m0, m1, m2, m3, m4, m5, m6, m7, m8, mll⟩ := hB2.out.wcells
      dsimp only at m6 m7 m8
      have hwo := rworth_ok sK L W2.heap.size uA uc x.units W2 hB2.out.ks hB2.out.wo.ru (Nat.le_refl _) hu40 hB2.out.wo.uok hok.kinds hub
      have hwb1 := worthN_bd (us := x.units) (kindsE_0 hok.kinds) hub x.units.length (Nat.le_refl _)
      have hwl := worthN_len L x.units x.units.length
      have hpw := ptW_ok hE.out
      replace hwo := Lib.hid hwo
      replace hub := Lib.hid hub
      replace hok := Lib.hid hok
      replace hgb := Lib.hid hgb
      go_wp2_with fail
      refine hwo.out.mono ?_
      clear hwo m0 m1 m2 m3 m4 m5 m6 m7 m8 mll
      rintro e W3 ⟨ob, rfl, hob, hobs, hb3⟩
      have hB3 := hB2.out.below hb3
      clear hb3 hB2
      obtain ⟨V, hVe⟩ : ∃ V, worthN L x.units x.units.length = V := ⟨_, rfl⟩
      rw [hVe] at hob hwb1 hwl hpw
      replace hVe := Lib.hid hVe
      replace hpw := Lib.hid hpw
      have hgr := hB3.wo.2.2.2.1.1
      dsimp only at hgr
      have hobl := hob.lt
      obtain ⟨m0, m1, m2, m3, m4, m5, m6, m7, m8, mll⟩ := hB3.wcells
      dsimp only at m6 m7 m8
      replace hB3 := Lib.hid hB3
      replace hob := Lib.hid hob
      replace hgr := Lib.hid hgr
      replace hwb1 := Lib.hid hwb1
      go_wp2_with fail
      clear m0 m1 m2 m3 m4 m5 m6 m7 m8 mll
      go_loopw [8, 11] (fun vo vi wr => ∃ k : Nat, vi = .int .i64 k ∧ k ≤ x.gold.length ∧ Hid (wr.ownsRow W3.heap.size 3 1 vo k ((ptL V x.gold k).map (.int .i64))) ∧ Hid (Below W3.heap.size W3 wr)) (fun _ vi _ => x.gold.length - (intOf vi).toNat)
      case atStart => exact ⟨0, rfl, Nat.zero_le _, Lib.hid (World.ownsRow_nil _ _ _ _), Lib.hid (Below.refl _ _)⟩
      case round =>
        obtain ⟨k, rfl, hk, hown, hb⟩ := hrel
        obtain ⟨U, cu, rfl, _⟩ := own_slice hown.out
        have hs := hb.out.size
        have hBr := hB3.out.below hb.out
        obtain ⟨m0, m1, m2, m3, m4, m5, m6, m7, m8, mll⟩ := hBr.wcells
        dsimp only at m6 m7 m8
        replace hBr := Lib.hid hBr
        by_cases hlt : k < x.gold.length
        · have z1 : (k : Int) < (x.gold.length : Int) := by omega
          obtain ⟨bg, og, hA, hbl⟩ := hgr.out.addr (by omega)
          subst hA
          have hgd : x.gold.getD k 0 = x.gold[k] := by rw [List.getD_eq_getElem?_getD, List.getElem?_eq_getElem hlt]; rfl
          have hgk := hgb.out x.gold[k] (List.getElem_mem _)
          have hvd : V.getD k 0 = V[k] := by rw [List.getD_eq_getElem?_getD, List.getElem?_eq_getElem (by omega)]; rfl
          have hvb := hwb1.out k
          rw [hvd] at hvb
          have hcells : ∀ wz, Below W3.heap.size W3 wz → wz.cell? ⟨wb, 6, none⟩ = some (.slice (some ⟨bg, og, none⟩) x.gold.length gc) ∧ wz.cell? ⟨bg, og + k, none⟩ = some (.int .i64 x.gold[k]) ∧ wz.cell? ⟨ob, k, none⟩ = some (.int .i64 V[k]) := fun wz hbz => by
            have hcell := (hgr.out.below hbz).at_ rfl (j := k) (by omega)
            rw [List.getElem?_map, List.getElem?_eq_getElem hlt] at hcell
            have hvc := (hob.out.below hbz hobl).cell k
            rw [List.getElem?_toArray, List.getElem?_map, List.getElem?_eq_getElem (by omega)] at hvc
            exact ⟨(hB3.out.kw.below hbz hB3.out.kw.lt).cell 6, hcell, hvc⟩
          have hpt : ptL V x.gold (k + 1) = ptL V x.gold k ++ [x.gold[k] + 10 * V[k]] := by rw [ptL, hgd, hvd]
          have hnx : ∀ (v8 : Value) (w8 : World), w8.ownsRow W3.heap.size 3 1 v8 (k + 1) ((ptL V x.gold k).map (.int .i64) ++ [.int .i64 (x.gold[k] + 10 * V[k])]) → Hid (w8.ownsRow W3.heap.size 3 1 v8 (k + 1) ((ptL V x.gold (k + 1)).map (.int .i64))) := fun v8 w8 ho => Lib.hid (by rw [hpt, List.map_append]; exact ho)
          generalize x.gold[k] = gk at *
          generalize V[k] = vk at *
          have e1 : IntKind.i64.wrap (10 * vk) = 10 * vk := IntWalk.i64_in _ (by omega)
          have e2 : IntKind.i64.wrap (gk + 10 * vk) = gk + 10 * vk := IntWalk.i64_in _ (by omega)
          have hk4 : (k : Int) < 4 := by omega
          have hk5 : (0 : Int) ≤ (k : Int) := by omega
          obtain ⟨cs, hcs⟩ : ∃ cs, (ptL V x.gold k).map (Value.int .i64) = cs := ⟨_, rfl⟩
          rw [hcs] at hown hnx
          replace hcs := Lib.hid hcs
          replace hnx := Lib.hid hnx
          replace hgd := Lib.hid hgd
          replace hvd := Lib.hid hvd
          replace hpt := Lib.hid hpt
          replace hcells := Lib.hid hcells
          go_upto_region 9 with fail
          clear m0 m1 m2 m3 m4 m5 m6 m7 m8 mll
          go_region_held3 (fun wz => wz.cell? ⟨wb, 6, none⟩ = some (.slice (some ⟨bg, og, none⟩) x.gold.length gc) ∧ wz.cell? ⟨bg, og + k, none⟩ = some (.int .i64 gk) ∧ wz.cell? ⟨ob, k, none⟩ = some (.int .i64 vk)) (first | exact hcells.out _ hK1 | exact hcells.out _ (by repeat (first | exact hb.out | apply Below.drawT | refine Below.alloc ?_ (by first | omega | (simp; omega)) _))) ((refine step_i1 (by rfl) (.tmp 52) (.tmp 64) (by rfl) W3 W3.heap.size (.slice U k cu) k cs (.int .i64 (gk + 10 * vk)) (by rfl) (by repeat (first | exact hown.out | apply World.ownsRow.alloc)) (by repeat (first | exact hb.out | apply Below.drawT | refine Below.alloc ?_ (by first | omega | (simp; omega)) _)) _ _ (by rfl) (by repeat (first | exact Blk.newT _ _ _ _ (by first | rfl | simp) | apply Blk.drew | apply Blk.alloc)) (by simp [Value.oneCell']) (by omega) (Nat.le_refl _) ?_; intro v8 W8 hown8 hK1))
          have hr1 := hnx.out _ _ hown8
          replace hK1 := Lib.hid hK1
          obtain ⟨A8, c8, rfl, _⟩ := own_slice hown8
          clear hown8
          go_wp2_with fail
          go_roundw
          case rel => exact ⟨k + 1, by go_num, by omega, hr1, hK1⟩
          case measure => simp [intOf]; omega
        · have z1 : ¬ (k : Int) < (x.gold.length : Int) := by omega
          obtain rfl : k = x.gold.length := by omega
          have hR : Hid (RI wr wr.heap.size U (ptW L x)) := Lib.hid (by
            have h := RD.of_own hown.out
            rw [hpw.out]
            show RD _ _ _ _ (ptL V x.gold x.gold.length).length _
            rw [ptL_len]; exact h)
          have hl : (ptW L x).length = x.gold.length := by rw [hpw.out, ptL_len]
          go_wp2_with fail
          go_meet
          exact ⟨_, rfl, U, cu, rfl, by rw [hl], hR, hBr⟩
    · have e0 : (E == 0) = false := by simp [hE0]
      have hp0 : ptW L x = [] := ptW_no (by rw [hE.out]; exact hE0)
      replace hp0 := Lib.hid hp0
      replace hE0 := Lib.hid hE0
      go_wp2_with fail
      go_meet
      exact ⟨_, rfl, none, 0, rfl, by rw [hp0.out]; rfl, Lib.hid (by rw [hp0.out]; exact RD.nil_), hB2⟩
  case rest =>
  obtain ⟨wx, rfl, U, cu, rfl, rfl, hR, hB3⟩ := hcut
  clear hB2
  obtain ⟨m0, m1, m2, m3, m4, m5, m6, m7, m8, mll⟩ := hB3.out.wcells
  dsimp only at m6 m7 m8
  have hpc := points_any sK L ⟨sf, ⟨gA, gc⟩, ⟨uA, uc⟩, sq⟩ x wx hB3.out.ks hB3.out.wo
  rw [hE.out] at hpc
  replace hpc := Lib.hid hpc
  go_wp2_with fail
  refine hpc.out.mono ?_
  clear hpc m0 m1 m2 m3 m4 m5 m6 m7 m8 mll
  rintro e W4 ⟨U2, c2, rfl, hR2, hb4⟩
  have hB4 := hB3.out.below hb4
  have hR4 := (hR.out.below hb4).more hb4.size
  clear hb4 hR hB3
  have hes := error_same E W4 (HV.wb hv.out hB4 rfl)
  rw [errT_V] at hes
  replace hes := Lib.hid hes
  replace hB4 := Lib.hid hB4
  replace hR2 := Lib.hid hR2
  replace hR4 := Lib.hid hR4
  generalize errV E = ev at *
  go_wp2_with fail
  refine hes.out.mono ?_
  clear hes
  rintro e W5 ⟨rfl, hb5⟩
  have hB5 := hB4.out.below hb5
  have hR5 := (hR4.out.below hb5).more hb5.size
  have hR6 := (hR2.out.below hb5).more hb5.size
  clear hb5 hB4 hR2 hR4
  have hpl : (ptW L x).length ≤ 100000000000000 := by
    by_cases h : worldE L x = 0
    · have := (wok_worth (worldE_0 h)).2.2.1
      rw [ptW_ok h, ptL_len]; omega
    · rw [ptW_no h]; simp
  have his := ints_any U2 U c2 cu W5.heap.size (ptW L x) (ptW L x) W5 hR6 hR5 hpl
  rw [eqL_yes rfl] at his
  replace his := Lib.hid his
  replace hB5 := Lib.hid hB5
  clear hR5 hR6 hpl
  generalize (ptW L x).length = pn at *
  go_wp2_with fail
  refine his.out.mono ?_
  clear his
  rintro e W6 ⟨q, rfl, rfl⟩
  replace hB5 := Lib.hid (hB5.out.drewN q)
  generalize W5.drewN q = W6 at *
  obtain ⟨m0, m1, m2, m3, m4, m5, m6, m7, m8, mll⟩ := hB5.out.wcells
  dsimp only at m6 m7 m8
  have hwin := wonP_end x.units
  replace hwin := Lib.hid hwin
  have hw0 : wonP x.units 0 = decide (0 < x.units.length) := by unfold wonP; simp
  replace hw0 := Lib.hid hw0
  go_wp2_with fail
  clear m0 m1 m2 m3 m4 m5 m6 m7 m8 mll
  go_loopw [16, 18] (fun vw vi wr => ∃ k : Nat, vi = .int .i64 k ∧ k ≤ x.units.length ∧ vw = .bool (wonP x.units k) ∧ Hid (WB w.heap.size w wr sK L ⟨sf, ⟨gA, gc⟩, ⟨uA, uc⟩, sq⟩ x wb)) (fun _ vi _ => x.units.length - (intOf vi).toNat)
  case atStart => exact ⟨0, rfl, Nat.zero_le _, by first | rw [hw0.out] | (rw [hw0.out]; simp), hB5⟩
  case round =>
    clear hB5
    obtain ⟨k, rfl, hk, rfl, hB5⟩ := hrel
    obtain ⟨m0, m1, m2, m3, m4, m5, m6, m7, m8, mll⟩ := hB5.out.wcells
    dsimp only at m6 m7 m8
    by_cases hlt : k < x.units.length
    · as_aux_lemma =>
      have z1 : (k : Int) < (x.units.length : Int) := by omega
      have z0 : (0 : Int) < (x.units.length : Int) := by omega
      obtain ⟨b, o, hA, hbl, _, y1, _, _, _, _, _, _⟩ := ru_at hB5.out.wo.ru k hlt
      obtain ⟨b', o', hA', _, _, y2, _, _, _, _, _, _⟩ := ru_at hB5.out.wo.ru 0 (by omega)
      dsimp only at hA hA'
      rw [hA] at hA'
      injection hA' with hA'
      injection hA' with e3 e4
      subst e3; subst e4
      subst hA
      rw [Nat.zero_mul, Nat.add_zero] at y2
      have hnx := wonP_next hlt
      have hB6 : ∀ q, Hid (WB w.heap.size w (wr.drewN q) sK L ⟨sf, ⟨gA, gc⟩, ⟨some ⟨b, o, none⟩, uc⟩, sq⟩ x wb) := fun q => Lib.hid (hB5.out.drewN q)
      generalize (gu x.units k).player = pk at *
      generalize (gu x.units 0).player = p0 at *
      cases hwk : wonP x.units k with
      | false =>
        rw [hwk, Bool.false_and] at hnx
        replace hnx := Lib.hid hnx
        replace hwk := Lib.hid hwk
        replace hB6 := Lib.hid hB6
        go_wp2_with fail
        go_quiet (fail)
        go_wp2_with fail
        go_roundw
        case rel => exact ⟨k + 1, by go_num, by omega, by rw [hnx.out], hB6.out _⟩
        case measure => simp [intOf]; omega
      | true =>
        rw [hwk, Bool.true_and] at hnx
        replace hnx := Lib.hid hnx
        replace hwk := Lib.hid hwk
        replace hB6 := Lib.hid hB6
        go_wp2_with fail
        go_quiet (fail)
        go_wp2_with fail
        go_roundw
        case rel => exact ⟨k + 1, by go_num, by omega, by rw [hnx.out], hB6.out _⟩
        case measure => simp [intOf]; omega
    · have z1 : ¬ (k : Int) < (x.units.length : Int) := by omega
      obtain rfl : k = x.units.length := by omega
      have hw1 : (winner x.units).2 = wonP x.units x.units.length := hwin.out.1
      have hw2 := hwin.out.2
      obtain ⟨wo, rfl⟩ : ∃ wo : World, wo = wr := ⟨_, rfl⟩
      go_upto_if 104 with fail
      go_cut [16, 17] (fun vw vh wx => vw = .bool (wonP x.units x.units.length) ∧ vh = .int .i64 (winner x.units).1 ∧ wo = wx)
      case first =>
        as_aux_lemma =>
        cases hwk : wonP x.units x.units.length with
        | true =>
          have hpos : 0 < x.units.length := by
            unfold wonP at hwk
            rw [Bool.and_eq_true, decide_eq_true_iff] at hwk
            exact hwk.1
          have z0 : (0 : Int) < (x.units.length : Int) := by omega
          obtain ⟨b', o', hA', _, _, y2, _, _, _, _, _, _⟩ := ru_at hB5.out.wo.ru 0 (by omega)
          dsimp only at hA'
          subst hA'
          rw [Nat.zero_mul, Nat.add_zero] at y2
          rw [hwk, if_pos rfl] at hw2
          replace hw2 := Lib.hid hw2
          replace hw1 := Lib.hid hw1
          replace hwk := Lib.hid hwk
          go_wp2_with fail
          go_meet
          exact ⟨by rw [hwk.out], by rw [hw2.out], rfl⟩
        | false =>
          rw [hwk, if_neg (by simp)] at hw2
          replace hw2 := Lib.hid hw2
          replace hw1 := Lib.hid hw1
          replace hwk := Lib.hid hwk
          go_wp2_with fail
          go_meet
          exact ⟨by rw [hwk.out], by rw [hw2.out], rfl⟩
      case rest =>
      obtain ⟨rfl, rfl, rfl⟩ := hcut
      have hwc := winner_any ⟨sf, ⟨gA, gc⟩, ⟨uA, uc⟩, sq⟩ x wo hB5.out.wo
      rw [hw1] at hwc
      generalize (winner x.units).1 = who at *
      generalize wonP x.units x.units.length = won at *
      clear hw1 hw2
      replace hwc := Lib.hid hwc
      go_wp2_with fail
      refine hwc.out.mono ?_
      clear hwc m0 m1 m2 m3 m4 m5 m6 m7 m8 mll
      rintro e W7 ⟨rfl, hb7⟩
      have hB7 := hB5.out.below hb7
      clear hb7 hB5
      replace hB7 := Lib.hid hB7
      go_upto_if 117 with fail
      go_cut [7] (fun ve wx => ve = .int .i64 (rkE z) ∧ W7 = wx)
      case first =>
        by_cases h2 : 200 < z.length
        · have z3 : (200 : Int) < (z.length : Int) := by omega
          have hr : rkE z = 4 := if_pos h2
          replace hr := Lib.hid hr
          go_wp2_with fail
          go_meet
          exact ⟨by rw [hr.out], rfl⟩
        · have z3 : ¬ (200 : Int) < (z.length : Int) := by omega
          have hr : rkE z = 0 := if_neg h2
          replace hr := Lib.hid hr
          go_wp2_with fail
          go_meet
          exact ⟨by rw [hr.out], rfl⟩
      case rest =>
      obtain ⟨rfl, rfl⟩ := hcut
      have hlen := rkW_len z
      replace hlen := Lib.hid hlen
      go_wp2_with fail
      go_loopw [21, 22, 23, 24] (fun vp vi _ _ wr => ∃ k : Nat, vi = .int .i64 k ∧ k ≤ (rkW z).length ∧ Hid (wr.ownsRow W7.heap.size 3 1 vp k (rkT z k)) ∧ Hid (Below W7.heap.size W7 wr)) (fun _ vi _ _ _ => (rkW z).length - (intOf vi).toNat)
      case atStart => exact ⟨0, rfl, Nat.zero_le _, Lib.hid (World.ownsRow_nil _ _ _ _), Lib.hid (Below.refl _ _)⟩
      case round =>
        obtain ⟨k, rfl, hk, hown, hb⟩ := hrel
        obtain ⟨Up, cp, rfl, _⟩ := own_slice hown.out
        have hs := hb.out.size
        by_cases h2 : 200 < z.length
        · as_aux_lemma =>
          have hr : rkE z = 4 := if_pos h2
          have hw0 : rkW z = [] := if_pos h2
          have hk0 : k = 0 := by rw [hw0] at hk; simpa using hk
          subst hk0
          have z3 : (0 : Int) < (z.length : Int) := by omega
          have z4 : (rkE z == 0) = false := by rw [hr]; rfl
          have hRP : Hid (RI wr wr.heap.size Up (rkW z)) := Lib.hid (by rw [hw0]; exact RD.nil_)
          have hl0 : (rkW z).length = 0 := by rw [hw0]; rfl
          replace hr := Lib.hid hr
          replace hw0 := Lib.hid hw0
          replace hl0 := Lib.hid hl0
          have hTR := (hz.out.below hB7.out.b).below (hb.out.mono hB7.out.sz)
          have hrn := rank_un a2 cap2 w.heap.size z wr (Nat.le_trans hB7.out.sz hb.out.size) hTR
          replace hrn := Lib.hid hrn
          have hBr := hB7.out.below hb.out
          replace hBr := Lib.hid hBr
          clear hTR
          go_wp2_with fail
          refine hrn.out.mono ?_
          clear hrn
          rintro e W8 ⟨U3, c3, rfl, hR3, hb8⟩
          have hB8 := hBr.out.below hb8
          have hR4 := (hRP.out.below hb8).more hb8.size
          clear hb8 hBr hRP
          have hes := error_same (rkE z) W8 (HV.wb hv.out hB8 rfl)
          rw [errT_V] at hes
          replace hes := Lib.hid hes
          replace hB8 := Lib.hid hB8
          replace hR3 := Lib.hid hR3
          replace hR4 := Lib.hid hR4
          generalize errV (rkE z) = ev at *
          go_wp2_with fail
          refine hes.out.mono ?_
          clear hes
          rintro e W9 ⟨rfl, hb9⟩
          have hB9 := hB8.out.below hb9
          have hR5 := (hR4.out.below hb9).more hb9.size
          have hR6 := (hR3.out.below hb9).more hb9.size
          clear hb9 hB8 hR3 hR4
          have his := ints_at U3 Up (rkW z).length 0 c3 cp W9.heap.size (rkW z) (rkW z) W9 rfl hl0.out.symm hR6 hR5 (by have := rkW_len z; omega)
          rw [eqL_yes rfl] at his
          replace his := Lib.hid his
          replace hB9 := Lib.hid hB9
          clear hR5 hR6
          go_wp2_with fail
          refine his.out.mono ?_
          clear his
          rintro e W10 ⟨q, rfl, rfl⟩
          replace hB9 := Lib.hid (hB9.out.drewN q).b
          generalize W9.drewN q = W10 at *
          go_wp2_with fail
          go_ret
          exact ⟨by simp, hB9.out⟩
        · have hr : rkE z = 0 := if_neg h2
          have hwr : rkW z = rankL z := if_neg h2
          have hzl3 : (rkW z).length = z.length := by rw [hwr]; simp [rankL]
          by_cases hlt : k < z.length
          · as_aux_lemma =>
            have z1 : (k : Int) < (z.length : Int) := by omega
            have z4 : (rkE z == 0) = true := by rw [hr]; rfl
            replace hr := Lib.hid hr
            replace hzl3 := Lib.hid hzl3
            have hzr : RI wr w.heap.size a2 z := (hz.out.below hB7.out.b).below (hb.out.mono hB7.out.sz)
            obtain ⟨bz, oz, hA⟩ := hzr.addr (by omega)
            have ck := hzr.cell hA hlt
            have hbz : bz < w.heap.size := by
              obtain ⟨b', o', h1, h2', _⟩ := hzr.2 (by omega)
              rw [hA] at h1; injection h1 with h1; injection h1 with h1 _; omega
            subst hA
            have hrk := rank_take z k hlt
            rw [← hwr] at hrk
            have hnx : ∀ (v8 : Value) (w8 : World), w8.ownsRow W7.heap.size 3 1 v8 (k + 1) (rkT z k ++ [.int .i64 (rk z (z.getD k 0))]) → Hid (w8.ownsRow W7.heap.size 3 1 v8 (k + 1) (rkT z (k + 1))) := fun v8 w8 ho => Lib.hid (by unfold rkT; rw [hrk, List.map_append]; exact ho)
            generalize hp : z.getD k 0 = p at *
            replace hp := Lib.hid hp
            replace hrk := Lib.hid hrk
            replace hnx := Lib.hid hnx
            replace hwr := Lib.hid hwr
            replace hzr := Lib.hid hzr
            obtain ⟨wo, rfl⟩ : ∃ wo : World, wo = wr := ⟨_, rfl⟩
            go_wp2_with fail
            go_loopw [23, 24] (fun vn vj wr => ∃ t : Nat, vj = .int .i64 t ∧ t ≤ z.length ∧ vn = .int .i64 (1 + (gtN p z t : Nat)) ∧ ∃ q, wr = wo.drewN q) (fun _ vj _ => z.length - (intOf vj).toNat)
            case atStart => exact ⟨0, rfl, Nat.zero_le _, by rw [gtN_zero]; rfl, 0, rfl⟩
            case round =>
              obtain ⟨t, rfl, ht, rfl, q, rfl⟩ := hrel
              by_cases htl : t < z.length
              · have z5 : (t : Int) < (z.length : Int) := by omega
                have ct : wo.cell? ⟨bz, oz + t, none⟩ = some (.int .i64 (z.getD t 0)) := hzr.out.cell rfl htl
                have gl := gtN_le p z t
                have gy := gtN_yes p z t htl
                have gn := gtN_no p z t htl
                generalize z.getD t 0 = g at *
                by_cases hq : p < g
                · have f1 := Lib.hid (gy hq)
                  have dq : decide (p < g) = true := decide_eq_true hq
                  clear gy gn
                  generalize gtN p z t = C at *
                  go_wp2_with fail
                  go_quiet (fail)
                  go_wp2_with fail
                  go_roundw
                  case rel => exact ⟨t + 1, by go_num, by omega, by rw [f1.out]; go_num, _, rfl⟩
                  case measure => simp [intOf]; omega
                · have f1 := Lib.hid (gn hq)
                  have dq : decide (p < g) = false := decide_eq_false hq
                  clear gy gn
                  generalize gtN p z t = C at *
                  go_wp2_with fail
                  go_quiet (fail)
                  go_wp2_with fail
                  go_roundw
                  case rel => exact ⟨t + 1, by go_num, by omega, by rw [f1.out], _, rfl⟩
                  case measure => simp [intOf]; omega
              · have z5 : ¬ (t : Int) < (z.length : Int) := by omega
                have e : rk z p = 1 + (gtN p z t : Nat) := by unfold rk; rw [show t = z.length by omega]
                rw [← e]
                replace e := Lib.hid e
                obtain ⟨wq, hwq⟩ : ∃ wq, wo.drewN q = wq := ⟨_, rfl⟩
                have hownq : wq.ownsRow W7.heap.size 3 1 (.slice Up k cp) k (rkT z k) := by subst hwq; exact hown.out
                have hbq : Below W7.heap.size W7 wq := by subst hwq; exact bdrewN hb.out q
                have hsq := hbq.size
                obtain ⟨cs, hcs⟩ : ∃ cs, rkT z k = cs := ⟨_, rfl⟩
                rw [hcs] at hownq
                have hnx2 := hnx.out
                rw [hcs] at hnx2
                replace hnx2 := Lib.hid hnx2
                replace hcs := Lib.hid hcs
                generalize rk z p = R at *
                rw [hwq]
                replace hownq := Lib.hid hownq
                replace hbq := Lib.hid hbq
                replace hwq := Lib.hid hwq
                clear ck
                go_wp2_with (first | (at_builtin; refine wpList_app1 rfl (.tmp 145) (.tmp 147) 34 rfl W7.heap.size 3 i0 _ 1 8 Tryd.underlying34 hi0 hz0 hz1 hz2 rfl (by decide) (by decide) wq #[.int .i64 R] (.slice Up k cp) k cs rfl hownq.out rfl rfl rfl (by omega) hsq ?_; intro v8 w8 hown8 hg8; have hr1 := hnx2.out v8 w8 hown8; have hr2 := Lib.hid (hbq.out.grown hg8 hsq (fun b e => (hownq.out.lt b e).1)); obtain ⟨A8, c8, rfl, _⟩ := own_slice hown8; clear hown8 hg8))
                go_roundw
                case rel => first | exact ⟨k + 1, by go_num, by have := hzl3.out; omega, hr1, hr2⟩ | exact ⟨k + 1, by omega, by have := hzl3.out; omega, hr1⟩
                case measure => have := hzl3.out; simp [intOf]; omega
          · as_aux_lemma =>
            have z1 : ¬ (k : Int) < (z.length : Int) := by omega
            have hkz : k = (rkW z).length := by omega
            have hRP : Hid (RI wr wr.heap.size Up (rkW z)) := Lib.hid (by
              have h := RD.of_own hown.out
              unfold rkT at h
              rw [List.take_of_length_le (by omega), hkz] at h
              exact h)
            rw [hkz]
            replace hwr := Lib.hid hwr
            replace hr := Lib.hid hr
            replace hkz := Lib.hid hkz
            replace hzl3 := Lib.hid hzl3
            have hTR := (hz.out.below hB7.out.b).below (hb.out.mono hB7.out.sz)
            have hrn := rank_un a2 cap2 w.heap.size z wr (Nat.le_trans hB7.out.sz hb.out.size) hTR
            replace hrn := Lib.hid hrn
            have hBr := hB7.out.below hb.out
            replace hBr := Lib.hid hBr
            clear hTR
            go_wp2_with fail
            refine hrn.out.mono ?_
            clear hrn
            rintro e W8 ⟨U3, c3, rfl, hR3, hb8⟩
            have hB8 := hBr.out.below hb8
            have hR4 := (hRP.out.below hb8).more hb8.size
            clear hb8 hBr hRP
            have hes := error_same (rkE z) W8 (HV.wb hv.out hB8 rfl)
            rw [errT_V] at hes
            replace hes := Lib.hid hes
            replace hB8 := Lib.hid hB8
            replace hR3 := Lib.hid hR3
            replace hR4 := Lib.hid hR4
            generalize errV (rkE z) = ev at *
            go_wp2_with fail
            refine hes.out.mono ?_
            clear hes
            rintro e W9 ⟨rfl, hb9⟩
            have hB9 := hB8.out.below hb9
            have hR5 := (hR4.out.below hb9).more hb9.size
            have hR6 := (hR3.out.below hb9).more hb9.size
            clear hb9 hB8 hR3 hR4
            have his := ints_at U3 Up (rkW z).length (rkW z).length c3 cp W9.heap.size (rkW z) (rkW z) W9 rfl rfl hR6 hR5 (by have := rkW_len z; omega)
            rw [eqL_yes rfl] at his
            replace his := Lib.hid his
            replace hB9 := Lib.hid hB9
            clear hR5 hR6
            go_wp2_with fail
            refine his.out.mono ?_
            clear his
            rintro e W10 ⟨q, rfl, rfl⟩
            replace hB9 := Lib.hid (hB9.out.drewN q).b
            generalize W9.drewN q = W10 at *
            go_wp2_with fail
            go_ret
            exact ⟨by simp, hB9.out⟩
end Go.Proofs.YtkgkpggfoieioaaDoor
