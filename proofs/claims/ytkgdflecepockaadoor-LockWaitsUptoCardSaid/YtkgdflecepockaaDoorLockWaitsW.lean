import Derived.Test.YtkgdflecepockaaDoorLockWaitsL
import Derived.Test.YtkgdflecepockaaDoorOrdEq
import Derived.Test.YtkgdflecepockaaDoorOpenO
import Derived.Test.YtkgdflecepockaaDoorRowsI
import Derived.Test.YtkgdflecepockaaDoorInts
import Derived.Test.YtkgdflecepockaaDoorTold
import Derived.BigQuiet
import Derived.Deep.QuietTactic
import Derived.Deep.CutBlock
import Derived.StillTailTactics
import Derived.Deep.DeepCutAuto
namespace Go.Proofs.YtkgdflecepockaaDoor
set_option linter.unusedVariables false
open Go.RowKit
set_option maxHeartbeats 6400000 in
set_option maxRecDepth 100000 in
theorem waits_in (pl de : Int) (sA : Option Addr) (sn sc : Nat) (rows : List (SV × List Int)) (oA : Option Addr) (oc : Nat) (L : List Od) (w : World) (hv : HV w) (hp6 : I6 pl) (hd6 : I6 de) (hs : RIOk w ⟨sA, sn, sc⟩ rows) (hr : RO w w.heap.size oA L) (hnil : oA = none → oc = 0) (hl : L.length ≤ 1048576) :
    Calls Tryd.prog 5 #[.int .i64 pl, .int .i64 de, .slice sA sn sc, .slice oA L.length oc] w fun e w' => e = .returned (.bool true) ∧ Below w.heap.size w w' := by
  obtain ⟨hsn, hrs, _, hsc, hscm, hrow⟩ := hs
  dsimp only at hsn hrs hsc hscm
  unfold maxLen at hscm
  unfold I6 at hp6 hd6
  have hvp := hv.lt
  replace hv := Lib.hid hv
  replace hrs := Lib.hid hrs
  replace hrow := Lib.hid hrow
  replace hr := Lib.hid hr
  replace hnil := Lib.hid hnil
  replace hsn := Lib.hid hsn
  by_cases hbad : pl < 1 ∨ 4 < pl ∨ de < 0 ∨ 20 < de
  · have hc := lnew_bad pl de w hbad
    have he := error_same 1 w hv.out
    unfold erL at hc
    unfold errT at he
    rw [if_neg (by decide)] at he
    as_aux_lemma =>
    replace hc := Lib.hid hc
    replace he := Lib.hid he
    rcases (by omega : pl < 1 ∨ (1 ≤ pl ∧ 4 < pl) ∨ (1 ≤ pl ∧ pl ≤ 4 ∧ de < 0) ∨ (1 ≤ pl ∧ pl ≤ 4 ∧ 0 ≤ de ∧ 20 < de)) with h1 | ⟨h1, h2⟩ | ⟨h1, h2, h3⟩ | ⟨h1, h2, h3, h4⟩
    · have b1 : decide (pl < 1) = true := decide_eq_true h1
      clear hbad
      go_enter Tryd.func5, Tryd.ntmps5
      go_wp2_with (first | (go_at_call 22; refine hc.out.mono ?_; rintro e w4 ⟨rfl, rfl⟩) | (go_at_call 12; refine he.out.mono ?_; rintro e w5 ⟨rfl, hb5⟩; replace hb5 := Lib.hid hb5))
      go_ret
      exact ⟨rfl, hb5.out⟩
    · have b1 : decide (pl < 1) = false := decide_eq_false (by omega)
      have b2 : decide (4 < pl) = true := decide_eq_true h2
      clear hbad
      go_enter Tryd.func5, Tryd.ntmps5
      go_wp2_with (first | (go_at_call 22; refine hc.out.mono ?_; rintro e w4 ⟨rfl, rfl⟩) | (go_at_call 12; refine he.out.mono ?_; rintro e w5 ⟨rfl, hb5⟩; replace hb5 := Lib.hid hb5))
      go_ret
      exact ⟨rfl, hb5.out⟩
    · have b1 : decide (pl < 1) = false := decide_eq_false (by omega)
      have b2 : decide (4 < pl) = false := decide_eq_false (by omega)
      have b3 : decide (de < 0) = true := decide_eq_true h3
      clear hbad
      go_enter Tryd.func5, Tryd.ntmps5
      go_wp2_with (first | (go_at_call 22; refine hc.out.mono ?_; rintro e w4 ⟨rfl, rfl⟩) | (go_at_call 12; refine he.out.mono ?_; rintro e w5 ⟨rfl, hb5⟩; replace hb5 := Lib.hid hb5))
      go_ret
      exact ⟨rfl, hb5.out⟩
    · have b1 : decide (pl < 1) = false := decide_eq_false (by omega)
      have b2 : decide (4 < pl) = false := decide_eq_false (by omega)
      have b3 : decide (de < 0) = false := decide_eq_false (by omega)
      have b4 : decide (20 < de) = true := decide_eq_true h4
      clear hbad
      go_enter Tryd.func5, Tryd.ntmps5
      go_wp2_with (first | (go_at_call 22; refine hc.out.mono ?_; rintro e w4 ⟨rfl, rfl⟩) | (go_at_call 12; refine he.out.mono ?_; rintro e w5 ⟨rfl, hb5⟩; replace hb5 := Lib.hid hb5))
      go_ret
      exact ⟨rfl, hb5.out⟩
  · obtain ⟨P, rfl⟩ : ∃ P : Nat, pl = (P : Int) := ⟨pl.toNat, by omega⟩
    have hP1 : 1 ≤ P := by omega
    have hP4 : P ≤ 4 := by omega
    have hde : 0 ≤ de ∧ de ≤ 20 := by omega
    have b1 : decide ((P : Int) < 1) = false := decide_eq_false (by omega)
    have b2 : decide (4 < (P : Int)) = false := decide_eq_false (by omega)
    have b3 : decide (de < 0) = false := decide_eq_false (by omega)
    have b4 : decide (20 < de) = false := decide_eq_false (by omega)
    have he := fun w' => error_nil 0 w'
    replace he := Lib.hid he
    go_enter Tryd.func5, Tryd.ntmps5
    go_wp2_with fail
    refine (lnew_ok P de w ⟨hP1, hP4⟩ hde).mono ?_
    rintro e w1 ⟨G, O, M, rfl, hL1, hb1⟩
    have hs1 := hb1.size
    have hv1 := hv.out.below hb1
    replace hL1 := Lib.hid hL1
    replace hb1 := Lib.hid hb1
    replace hv1 := Lib.hid hv1
    clear hbad hp6 hd6
    go_wp2_with (go_at_call 12; refine (he.out _).mono ?_; rintro e w5 ⟨rfl, rfl⟩)
    have hW0 := ws_new (G := G) hL1.out hb1.out hv.out ⟨hP1, hP4⟩ hde
    obtain ⟨g, hg⟩ : ∃ g, w1.heap.size = g := ⟨_, rfl⟩
    rw [hg] at hW0 ⊢
    generalize (w1.alloc (.cells #[.int .i64 (P : Int), .int .i64 de, .int .i64 0, .bool false, .bool false, .bool false, .bool false, .slice none 0 0] 63)) = w2 at *
    replace hW0 := Lib.hid hW0
    replace hg := Lib.hid hg
    clear hL1 hb1 hv1 hs1 he
    go_loopw [14] (fun vi wr => ∃ i : Nat, vi = .int .i64 i ∧ i ≤ sn ∧ i ≤ 60 ∧ Hid (WSx w.heap.size w wr G O M g de P i)) (fun vi _ => 60 - (intOf vi).toNat)
    case atStart => exact ⟨0, rfl, Nat.zero_le _, by omega, hW0⟩
    case round =>
      clear hW0
      obtain ⟨i, rfl, hi1, hi2, hW⟩ := hrel
      by_cases hi3 : i < sn
      · by_cases hi4 : i < 60
        · have i1 : (i : Int) < (sn : Int) := by omega
          have i2 : decide ((i : Int) < 60) = true := decide_eq_true (by omega)
          obtain ⟨n, now, outs, S, E, hws⟩ := hW.out
          have hbz := hws.bel
          have hil : i < rows.length := by rw [hsn.out]; exact hi3
          obtain ⟨b, o, hA, hbl⟩ := hrs.out.addr (by omega)
          have hcr := fun wz (hz : Below w.heap.size w wz) => (hrs.out.below hz).at_ hA (j := i) (by omega)
          rw [List.getElem?_map, List.getElem?_eq_getElem hil] at hcr
          have hro := hrow.out rows[i] (List.getElem_mem hil)
          generalize rows[i] = r at *
          obtain ⟨⟨rA, rn, rc⟩, xs⟩ := r
          obtain ⟨hxl, hrx, _, hrcc, hrcm, hwf⟩ := hro
          dsimp only [Option.map_some, SV.v] at hcr hxl hrx hrcc hrcm hwf
          unfold maxLen at hrcm
          subst hA
          replace hcr := Lib.hid hcr
          replace hrx := Lib.hid hrx
          replace hwf := Lib.hid hwf
          replace hxl := Lib.hid hxl
          replace hbz := Lib.hid hbz
          replace hws := Lib.hid hws
          clear hW
          obtain ⟨wo, rfl⟩ : ∃ wo : World, wo = wr := ⟨_, rfl⟩
          go_upto_block 2 with fail
          have hV0 : VR wo wo.heap.size (wo.alloc (.cells #[.int .i64 0, .int .i64 0, .int .i64 0] 64)) := ⟨0, 0, 0, by unfold I6; omega, by unfold I6; omega, by unfold I6; omega, Blk.new _ _ _, (Below.refl _ _).alloc (Nat.le_refl _) _⟩
          obtain ⟨vb, hvb⟩ : ∃ vb, wo.heap.size = vb := ⟨_, rfl⟩
          rw [hvb] at hV0 ⊢
          generalize (wo.alloc (.cells #[.int .i64 0, .int .i64 0, .int .i64 0] 64)) = wv at *
          replace hV0 := Lib.hid hV0
          replace hvb := Lib.hid hvb
          go_cut [] (fun wx0 => ∃ wx, wx = wx0 ∧ Hid (VR wo vb wx))
          case first =>
            as_aux_lemma =>
            go_wp2_with fail
            go_loopw [16] (fun vj wq => ∃ j : Nat, vj = .int .i64 j ∧ j ≤ 3 ∧ Hid (VR wo vb wq)) (fun vj _ => 3 - (intOf vj).toNat)
            case atStart => exact ⟨0, rfl, by omega, hV0⟩
            case round =>
              obtain ⟨j, rfl, hj, hV⟩ := hrel
              obtain ⟨q1, q2, q3, _, _, _, hbv, hbq⟩ := hV.out
              have hc1 := hcr.out wr (hbz.out.trans (hbq.mono (by rw [← hvb.out]; exact hws.out.lk.size)))
              have hvl := hbv.lt
              have f0 := hbv.frozen j
              have hbw : b < wr.heap.size := by
                have h1 := hbq.size
                have h2 := hws.out.lk.size
                have h3 := hvb.out
                omega
              have hrq : RD wr w.heap.size 1 rA rn (xs.map (.int .i64)) := hrx.out.below (hbz.out.trans (hbq.mono (by rw [← hvb.out]; exact hws.out.lk.size)))
              replace hbq := Lib.hid hbq
              by_cases hj1 : j < rn
              · have j1 : (j : Int) < (rn : Int) := by omega
                by_cases hj2 : j < 3
                · have j2 : decide ((j : Int) < 3) = true := decide_eq_true (by omega)
                  have j3 : (j : Int) < 3 := by omega
                  obtain ⟨b2, o2, hA2, hbl2⟩ := hrq.addr (by omega)
                  subst hA2
                  have hcx := hrq.at_ rfl (j := j) (by omega)
                  have hjx : j < xs.length := by rw [hxl.out]; exact hj1
                  rw [List.getElem?_map, List.getElem?_eq_getElem hjx, Option.map_some] at hcx
                  have hx6 := i6_wf (hwf.out xs[j] (List.getElem_mem hjx))
                  generalize xs[j] = x at *
                  have hVs := hV.out.set_ j hj2 x hx6
                  have c3 := hbv.cell j
                  obtain ⟨y, hy⟩ : ∃ y, wr.cell? ⟨vb, j, none⟩ = some y := by
                    rcases (by omega : j = 0 ∨ j = 1 ∨ j = 2) with rfl | rfl | rfl
                    · exact ⟨_, hbv.cell 0⟩
                    · exact ⟨_, hbv.cell 1⟩
                    · exact ⟨_, hbv.cell 2⟩
                  replace hVs := Lib.hid hVs
                  replace hbv := Lib.hid hbv
                  replace hx6 := Lib.hid hx6
                  replace hrq := Lib.hid hrq
                  clear c3
                  go_wp2_with fail
                  go_roundw
                  case rel => exact ⟨j + 1, by go_num, by omega, hVs⟩
                  case measure => simp [intOf]; omega
                · have j2 : decide ((j : Int) < 3) = false := decide_eq_false (by omega)
                  replace hbv := Lib.hid hbv
                  replace hrq := Lib.hid hrq
                  go_wp2_with fail
                  go_meet
                  exact ⟨_, rfl, hV⟩
              · have j1 : ¬ (j : Int) < (rn : Int) := by omega
                replace hbv := Lib.hid hbv
                replace hrq := Lib.hid hrq
                go_wp2_with fail
                go_meet
                exact ⟨_, rfl, hV⟩
          case rest =>
          obtain ⟨wx, rfl, hV⟩ := hcut
          obtain ⟨a, b', c', k1, k2, k3, hbv, hbx⟩ := hV.out
          have x0 := hbv.cell 0
          have x1 := hbv.cell 1
          have x2 := hbv.cell 2
          replace x0 : wx.cell? ⟨vb, 0, none⟩ = some (.int .i64 a) := x0
          replace x1 : wx.cell? ⟨vb, 1, none⟩ = some (.int .i64 b') := x1
          replace x2 : wx.cell? ⟨vb, 2, none⟩ = some (.int .i64 c') := x2
          have hvl := hbv.lt
          rw [← hvb.out] at hbx
          have hwx := hws.out.below hbx
          replace hbx := Lib.hid hbx
          replace hbv := Lib.hid hbv
          replace hwx := Lib.hid hwx
          clear hws hV hV0
          go_upto_block 4 with fail
          go_cut [12] (fun told wx1 => ∃ wx2, wx2 = wx1 ∧ told = .bool true ∧ Hid (WSx w.heap.size w wx2 G O M g de P (i + 1)))
          case first =>
            as_aux_lemma =>
            go_upto_if 126 with fail
            go_cut [126] (fun t wx1 => wx = wx1 ∧ t = .bool (decide (a = 0 ∨ a = 1 ∨ a = 2)))
            case first =>
              as_aux_lemma =>
              rcases (by omega : a = 0 ∨ a = 1 ∨ a = 2 ∨ (a ≠ 0 ∧ a ≠ 1 ∧ a ≠ 2)) with rfl | rfl | rfl | ⟨q0, q1, q2⟩
              · go_wp2_with fail
                go_meet
                exact ⟨rfl, rfl⟩
              · go_wp2_with fail
                go_meet
                exact ⟨rfl, rfl⟩
              · go_wp2_with fail
                go_meet
                exact ⟨rfl, rfl⟩
              · have r0 : (a == 0) = false := by simp [q0]
                have r1 : (a == 1) = false := by simp [q1]
                have r2 : (a == 2) = false := by simp [q2]
                have hd : decide (a = 0 ∨ a = 1 ∨ a = 2) = false := decide_eq_false (by omega)
                replace hd := Lib.hid hd
                replace q0 := Lib.hid q0
                replace q1 := Lib.hid q1
                replace q2 := Lib.hid q2
                go_wp2_with fail
                go_meet
                exact ⟨rfl, by rw [hd.out]⟩
            case rest =>
            obtain ⟨rfl, rfl⟩ := hcut
            by_cases ha : a = 0 ∨ a = 1 ∨ a = 2
            · as_aux_lemma =>
              rw [decide_eq_true ha]
              replace ha := Lib.hid ha
              have hlen5 := hl
              clear hrx hwf hcr hxl hbl
              obtain ⟨w8, rfl⟩ : ∃ w8 : World, w8 = wx := ⟨_, rfl⟩
              have hr8 := (hr.out.below hwx.out.bel).more hwx.out.lk.size
              have hvec := hbv.out
              replace hr8 := Lib.hid hr8
              replace hvec := Lib.hid hvec
              go_upto_block 5 with fail
              go_cut [17] (fun vo wx0 => ∃ wx A c, wx = wx0 ∧ vo = .slice A (pickL L b' (c' == 7)).length c ∧ Hid (Below w8.heap.size w8 wx) ∧ Hid (wx.ownsRow w8.heap.size 66 4 (.slice A (pickL L b' (c' == 7)).length c) (pickL L b' (c' == 7)).length ((pickL L b' (c' == 7)).flatMap oC)))
              case first =>
                as_aux_lemma =>
                obtain ⟨i0, hi0, hz0, hz1, hz2⟩ := info_parts ord_info
                clear x0 x1 x2 hbx
                go_wp2_with fail
                go_loopw [17, 18] (fun v vi wr => ∃ k : Nat, vi = .int .i64 k ∧ k ≤ L.length ∧ Hid (PRel w8 L b' (c' == 7) k v wr)) (fun _ vi _ => L.length - (intOf vi).toNat)
                case atStart => exact ⟨0, rfl, Nat.zero_le _, Lib.hid ⟨Below.refl _ _, World.ownsRow_nil _ _ _ _⟩⟩
                case round =>
                  obtain ⟨k, rfl, hk, hM⟩ := hrel
                  obtain ⟨hb, hown⟩ := hM.out
                  clear hM
                  have hs := hb.size
                  have hml := pickL_len L b' (c' == 7) k
                  have hbv1 := hvec.out.below hb hvec.out.lt
                  have y1 := hbv1.cell 1
                  have y2 := hbv1.cell 2
                  replace y1 : wr.cell? ⟨vb, 1, none⟩ = some (.int .i64 b') := y1
                  replace y2 : wr.cell? ⟨vb, 2, none⟩ = some (.int .i64 c') := y2
                  have hvl1 := hbv1.lt
                  replace hbv1 := Lib.hid hbv1
                  replace hown := Lib.hid hown
                  by_cases hlt : k < L.length
                  · have j1 : (k : Int) < (L.length : Int) := by omega
                    obtain ⟨b2, o2, hA2, hbl2, d0, d1, d2, d3⟩ := ro_at (hr8.out.below hb) k hlt
                    have hps := pickL_s L b' (c' == 7) k hlt
                    subst hA2
                    generalize od L k = x at *
                    replace hb := Lib.hid hb
                    by_cases hx : ((x.player == b') || (c' == 7)) = true
                    · rw [if_pos hx] at hps
                      replace hps := Lib.hid hps
                      have hl10 : k < 10000000000 := by omega
                      generalize hq : pickL (L.take k) b' (c' == 7) = q at *
                      replace hq := Lib.hid hq
                      have harm : ∀ wz, Below wr.heap.size wr wz → wz.ownsRow w8.heap.size 66 4 u17 q.length (q.flatMap oC) := fun wz hz => own_below hown.out hz
                      replace harm := Lib.hid harm
                      cases hx1 : (x.player == b') with
                      | true =>
                        replace hx := Lib.hid hx
                        go_wp2_with fail
                        go_quiet (fail)
                        go_wp2_with (at_builtin; refine wpList_app1 rfl (.tmp 149) (.tmp 154) 55 rfl w8.heap.size 66 i0 _ 4 32 Tryd.underlying55 hi0 hz0 hz1 hz2 rfl (by decide) (by decide) (wr.drewN nq) #[.int .i64 x.player, .int .i64 x.unit, .int .i64 x.what, .int .i64 x.arg] u17 q.length _ rfl (harm.out _ (bdrewN (Below.refl _ _) _)) rfl rfl rfl (by omega) (by simpa using hs) ?_; intro v' w9 hown' hgrow)
                        have hM9 : PRel w8 L b' (c' == 7) (k + 1) v' w9 := ⟨(bdrewN hb.out nq).grown hgrow hs (fun b e => (hown.out.lt b e).1), by rw [hps.out, List.length_append, List.flatMap_append]; exact hown'⟩
                        replace hM9 := Lib.hid hM9
                        clear hown' hgrow d0 d1 d2 d3 y1 y2
                        go_wp2_with fail
                        go_roundw
                        case rel => exact ⟨k + 1, by go_num, by omega, hM9⟩
                        case measure => simp [intOf]; omega
                      | false =>
                        have hc7 : (c' == 7) = true := by rw [hx1, Bool.false_or] at hx; exact hx
                        replace hx := Lib.hid hx
                        go_wp2_with fail
                        go_quiet (fail)
                        go_wp2_with (at_builtin; refine wpList_app1 rfl (.tmp 149) (.tmp 154) 55 rfl w8.heap.size 66 i0 _ 4 32 Tryd.underlying55 hi0 hz0 hz1 hz2 rfl (by decide) (by decide) (wr.drewN nq) #[.int .i64 x.player, .int .i64 x.unit, .int .i64 x.what, .int .i64 x.arg] u17 q.length _ rfl (harm.out _ (bdrewN (Below.refl _ _) _)) rfl rfl rfl (by omega) (by simpa using hs) ?_; intro v' w9 hown' hgrow)
                        have hM9 : PRel w8 L b' (c' == 7) (k + 1) v' w9 := ⟨(bdrewN hb.out nq).grown hgrow hs (fun b e => (hown.out.lt b e).1), by rw [hps.out, List.length_append, List.flatMap_append]; exact hown'⟩
                        replace hM9 := Lib.hid hM9
                        clear hown' hgrow d0 d1 d2 d3 y1 y2
                        go_wp2_with fail
                        go_roundw
                        case rel => exact ⟨k + 1, by go_num, by omega, hM9⟩
                        case measure => simp [intOf]; omega
                    · rw [if_neg hx, List.append_nil] at hps
                      have hM9 : ∀ q, Hid (PRel w8 L b' (c' == 7) (k + 1) u17 (wr.drewN q)) := fun q => Lib.hid ⟨bdrewN hb.out q, by rw [hps]; exact hown.out⟩
                      have hx1 : (x.player == b') = false := by cases h : (x.player == b') with
                        | true => rw [h] at hx; simp at hx
                        | false => rfl
                      have hx2 : (c' == 7) = false := by cases h : (c' == 7) with
                        | true => rw [h] at hx; simp at hx
                        | false => rfl
                      replace hM9 := Lib.hid hM9
                      replace hps := Lib.hid hps
                      replace hx := Lib.hid hx
                      go_wp2_with fail
                      go_quiet (fail)
                      go_wp2_with fail
                      go_roundw
                      case rel => exact ⟨k + 1, by go_num, by omega, hM9.out _⟩
                      case measure => simp [intOf]; omega
                  · have j1 : ¬ (k : Int) < (L.length : Int) := by omega
                    have hown2 := hown.out
                    rw [List.take_of_length_le (by omega)] at hown2
                    obtain ⟨A9, c9, rfl, _⟩ := own_slice hown2
                    replace hown2 := Lib.hid hown2
                    replace hb := Lib.hid hb
                    go_wp2_with fail
                    go_meet
                    exact ⟨_, A9, c9, rfl, rfl, hb, hown2⟩
              case rest =>
              as_aux_lemma =>
              obtain ⟨w9, Ao, co, rfl, rfl, hb9, ho9⟩ := hcut
              have hpl : (pickL L b' (c' == 7)).length ≤ 1048576 := Nat.le_trans (List.length_filter_le _ _) hl
              obtain ⟨Lo, hLo⟩ : ∃ Lo, pickL L b' (c' == 7) = Lo := ⟨_, rfl⟩
              rw [hLo] at hpl ho9 ⊢
              replace hLo := Lib.hid hLo
              have hw9 := hwx.out.below hb9.out
              have hms : MS w.heap.size w w9 G O M g n de now outs S S E vb a b' c' Ao Lo := ⟨hw9.lk, hw9.rl, hvec.out.below hb9.out hvec.out.lt, RD.of_own ho9.out, kept_own ho9.out, hw9.bel, hw9.hv, hw9.pos⟩
              have hnil9 := (own_roomC ho9.out).2
              have hn1 := hw9.n1
              have hn2 := hw9.n2
              have hn3 := hw9.n3
              have hlen := hw9.len
              have hpos := hw9.pos
              obtain ⟨k, hk⟩ : ∃ k, sendE outs now de S b' c' Lo = k := ⟨_, rfl⟩
              have hxs := (hms.drewN 1).xsend (co := co) hnil9 hpl k2 k3 (by omega)
              have hsn := fun wz n1 S1 (h : MS w.heap.size w wz G O M g n1 de now outs S1 S E vb a b' c' Ao Lo) h0 h9 => MS.msend (n := n) (co := co) h h0 h9 hnil9 hpl k2 k3 (by omega)
              simp only [hk] at hxs hsn
              have y1 : w9.cell? ⟨vb, 1, none⟩ = some (.int .i64 b') := hms.vec.cell 1
              have y2 : w9.cell? ⟨vb, 2, none⟩ = some (.int .i64 c') := hms.vec.cell 2
              have hvl9 := hms.vec.lt
              replace hxs := Lib.hid hxs
              replace hsn := Lib.hid hsn
              replace hk := Lib.hid hk
              replace hms := Lib.hid hms
              replace hw9 := Lib.hid hw9
              replace hnil9 := Lib.hid hnil9
              replace hlen := Lib.hid hlen
              clear x0 x1 x2 hb9 ho9 hvec hvl
              go_upto_region 36 with fail
              go_region_held3 (fun wz => wz.cell? ⟨vb, 1, none⟩ = some (.int .i64 b') ∧ wz.cell? ⟨vb, 2, none⟩ = some (.int .i64 c')) (first | exact hS12 | exact hS11 | exact hS10 | exact ⟨y1, y2⟩) (first | (go_at_call 23; refine hxs.out.mono ?_; rintro e w10 ⟨rfl, n1, S1, q0, q9, hm10⟩; have hS10 : w10.cell? ⟨vb, 1, none⟩ = some (.int .i64 b') ∧ w10.cell? ⟨vb, 2, none⟩ = some (.int .i64 c') := ⟨hm10.vec.cell 1, hm10.vec.cell 2⟩; replace hm10 := Lib.hid hm10; replace q0 := Lib.hid q0; replace q9 := Lib.hid q9) | (go_at_call 24; refine (hsn.out _ _ _ hm10.out q0.out q9.out).mono ?_; rintro e w11 ⟨rfl, n2, S2, E2, p1, p2, hL11, hR11, hB11, hV11, hv11⟩; have hS11 : w11.cell? ⟨vb, 1, none⟩ = some (.int .i64 b') ∧ w11.cell? ⟨vb, 2, none⟩ = some (.int .i64 c') := ⟨hv11.cell 1, hv11.cell 2⟩; replace hL11 := Lib.hid hL11; replace hR11 := Lib.hid hR11; replace hB11 := Lib.hid hB11; replace hV11 := Lib.hid hV11; replace hv11 := Lib.hid hv11; clear hS10) | (go_at_call 12; refine (error_same k _ hV11.out).mono ?_; rintro e w12 ⟨rfl, hb12⟩; have hv12 := hv11.out.below hb12 hv11.out.lt; have hS12 : w12.cell? ⟨vb, 1, none⟩ = some (.int .i64 b') ∧ w12.cell? ⟨vb, 2, none⟩ = some (.int .i64 c') := ⟨hv12.cell 1, hv12.cell 2⟩; replace hv12 := Lib.hid hv12; replace hb12 := Lib.hid hb12; clear hS11))
              have hfin : Hid (WSx w.heap.size w w12 G O M g de P (i + 1)) := Lib.hid ⟨n2, now, outs, S2, E2, WS.below ⟨hL11.out, hR11.out, hlen.out, by omega, by omega, by omega, hB11.out, hV11.out, hpos⟩ hb12.out⟩
              clear hS12
              go_wp2_with fail
              go_meet
              exact ⟨_, rfl, rfl, hfin⟩
            · as_aux_lemma =>
              rw [decide_eq_false ha]
              replace ha := Lib.hid ha
              by_cases h3 : a = 3
              · subst h3
                have hnp := hwx.out.lk.np
                have hlen := hwx.out.len
                have hpos := hwx.out.pos
                have hn1 := hwx.out.n1
                have hn2 := hwx.out.n2
                have hn3 := hwx.out.n3
                have hbad1 : ∀ k wz, WS w.heap.size w wz G O M g de P i n now outs S E → k ≠ 0 → Calls Tryd.prog 12 #[.iface 80 (.int .i64 k), .int .i64 k] wz fun e w' => e = .returned (.bool true) ∧ Hid (WSx w.heap.size w w' G O M g de P (i + 1)) := fun k wz hz hk => by
                  have := error_same k wz hz.hv
                  unfold errT at this
                  rw [if_neg hk] at this
                  exact this.mono fun e w' h => ⟨h.1, Lib.hid ⟨_, _, _, _, _, (hz.below h.2).more⟩⟩
                replace hbad1 := Lib.hid hbad1
                rcases (by omega : b' < 0 ∨ (0 ≤ b' ∧ (P : Int) ≤ b') ∨ (0 ≤ b' ∧ b' < (P : Int))) with h1 | ⟨h1, h2⟩ | ⟨h1, h2⟩
                · as_aux_lemma =>
                  have d1 : decide (b' < 0) = true := decide_eq_true h1
                  have hpl : plE outs b' = 1 := by unfold plE; rw [if_pos (.inl h1)]
                  have hdr := fun q => ldrop_no b' (hwx.out.lk.drewN q) (by rw [hpl]; decide)
                  rw [hpl] at hdr
                  replace hdr := Lib.hid hdr
                  replace hpl := Lib.hid hpl
                  replace hlen := Lib.hid hlen
                  unfold erL at hdr
                  have hee := hbad1.out 1 wx hwx.out (by decide)
                  have hdr0 := hdr.out 0
                  replace hdr0 := Lib.hid hdr0
                  replace hee := Lib.hid hee
                  go_wp2_with fail
                  refine hdr0.out.mono ?_
                  rintro e w6 ⟨rfl, rfl⟩
                  go_wp2_with fail
                  refine hee.out.mono ?_
                  rintro e w7 ⟨rfl, hw9⟩
                  go_wp2_with fail
                  go_meet
                  exact ⟨_, rfl, rfl, hw9⟩
                · as_aux_lemma =>
                  have d1 : decide (b' < 0) = false := decide_eq_false (by omega)
                  have d2 : decide ((P : Int) ≤ b') = true := decide_eq_true h2
                  have hpl : plE outs b' = 1 := by unfold plE; rw [if_pos (.inr (by rw [hlen]; exact h2))]
                  have hdr := fun q => ldrop_no b' (hwx.out.lk.drewN q) (by rw [hpl]; decide)
                  rw [hpl] at hdr
                  replace hdr := Lib.hid hdr
                  replace hpl := Lib.hid hpl
                  replace hlen := Lib.hid hlen
                  unfold erL at hdr
                  have hee := hbad1.out 1 wx hwx.out (by decide)
                  have hdr0 := hdr.out 0
                  replace hdr0 := Lib.hid hdr0
                  replace hee := Lib.hid hee
                  go_wp2_with fail
                  refine hdr0.out.mono ?_
                  rintro e w6 ⟨rfl, rfl⟩
                  go_wp2_with fail
                  refine hee.out.mono ?_
                  rintro e w7 ⟨rfl, hw9⟩
                  go_wp2_with fail
                  go_meet
                  exact ⟨_, rfl, rfl, hw9⟩
                · obtain ⟨k, rfl⟩ : ∃ k : Nat, b' = (k : Int) := ⟨b'.toNat, by omega⟩
                  have hkl : k < outs.length := by omega
                  have d1 : decide ((k : Int) < 0) = false := decide_eq_false (by omega)
                  have d2 : decide ((P : Int) ≤ (k : Int)) = false := decide_eq_false (by omega)
                  have d3 : decide (P ≤ k) = false := decide_eq_false (by omega)
                  have k4 : (k : Int) < 4 := by omega
                  have o1 := hwx.out.rl.out_at hkl
                  have hgl := hwx.out.rl.lt
                  have hpe : plE outs (k : Int) = if outs.getD k false = true then 7 else 0 := by unfold plE; rw [if_neg (by omega)]; simp
                  replace hlen := Lib.hid hlen
                  cases hob : outs.getD k false with
                  | true =>
                    as_aux_lemma =>
                    rw [hob] at o1 hpe
                    rw [if_pos rfl] at hpe
                    have hdr := fun q => ldrop_no (k : Int) (hwx.out.lk.drewN q) (by rw [hpe]; decide)
                    rw [hpe] at hdr
                    replace hpe := Lib.hid hpe
                    replace hob := Lib.hid hob
                    unfold erL at hdr
                    have hee := fun q => hbad1.out 7 (wx.drewN q) (hwx.out.below ⟨rfl, rfl, rfl, Nat.le_refl _, fun _ _ => rfl⟩) (by decide)
                    replace hdr := Lib.hid hdr
                    replace hee := Lib.hid hee
                    go_wp2_with fail
                    go_quiet (fail)
                    go_wp2_with fail
                    refine (hdr.out _).mono ?_
                    rintro e w6 ⟨rfl, rfl⟩
                    go_wp2_with fail
                    refine (hee.out _).mono ?_
                    rintro e w7 ⟨rfl, hw9⟩
                    go_wp2_with fail
                    go_meet
                    exact ⟨_, rfl, rfl, hw9⟩
                  | false =>
                    as_aux_lemma =>
                    rw [hob] at o1 hpe
                    rw [if_neg (by simp)] at hpe
                    replace hpe := Lib.hid hpe
                    have hdo := fun q => (hwx.out.rl.drewN q).out hkl
                    replace hdo := Lib.hid hdo
                    have hob2 := hob
                    replace hob2 := Lib.hid hob2
                    replace hob := Lib.hid hob
                    obtain ⟨AE, cE, hbg, _⟩ := hwx.out.rl.row
                    have f3 := hbg.frozen (3 + k)
                    replace hbg := Lib.hid hbg
                    go_wp2_with fail
                    go_quiet (fail)
                    have y1 : (wx.drewN nq).cell? ⟨vb, 1, none⟩ = some (.int .i64 (k : Int)) := x1
                    have o2 : (wx.drewN nq).cell? ⟨g, 3 + k, none⟩ = some (.bool false) := o1
                    have f4 : (wx.drewN nq).frozen? ⟨g, 3 + k, none⟩ = false := f3
                    have hgl2 : g < (wx.drewN nq).heap.size := hgl
                    have hvl2 : vb < (wx.drewN nq).heap.size := hvl
                    have hwq : WS w.heap.size w (wx.drewN nq) G O M g de P i n now outs S E := hwx.out.below ⟨rfl, rfl, rfl, Nat.le_refl _, fun _ _ => rfl⟩
                    generalize wx.drewN nq = wz at *
                    have hnx := hwq.rl.out hkl
                    have hR1 := hnx.1.drewN 1
                    have hL1 := (hwq.lk.te hnx.2).drewN 1
                    have hbz1 : Below w.heap.size w ((wz.setCell ⟨g, 3 + k, none⟩ (.bool true)).drew) := bdrewN (hwq.bel.trans hnx.2.bel) 1
                    have hv1 : HV ((wz.setCell ⟨g, 3 + k, none⟩ (.bool true)).drew) := hwq.hv.belowB (bdrewN hnx.2.bel 1) hwq.pos
                    have hdk : Calls Tryd.prog 25 #[.pointer (some ⟨G, 0, none⟩), .int .i64 (k : Int)] ((wz.setCell ⟨g, 3 + k, none⟩ (.bool true)).drew) _ := ldrop_ok k hL1 hkl hob.out
                    have hlen2 : (outs.set k true).length = P := by rw [List.length_set]; exact hlen.out
                    replace hnx := Lib.hid hnx
                    replace hR1 := Lib.hid hR1
                    replace hL1 := Lib.hid hL1
                    replace hbz1 := Lib.hid hbz1
                    replace hv1 := Lib.hid hv1
                    replace hdk := Lib.hid hdk
                    replace hlen2 := Lib.hid hlen2
                    replace hwq := Lib.hid hwq
                    clear x0 x1 x2 o1 f3
                    go_upto_region 43 with fail
                    go_still_tail 6, (by kernel_rfl)
                    go_wp2_with fail
                    refine hdk.out.mono ?_
                    clear hdk
                    rintro e w7 ⟨rfl, hL7, hE7⟩
                    have hb7 := hE7.below hL1.out.size hL1.out.low
                    have hw7 : Hid (WSx w.heap.size w w7 G O M g de P (i + 1)) := Lib.hid ⟨n, now, _, S, E, ⟨hL7, hR1.out.eff hL1.out hE7, hlen2.out, by omega, by omega, by omega, hbz1.out.trans hb7, hv1.out.belowB hb7 hpos, hpos⟩⟩
                    have hee := error_nil 0 w7
                    replace hee := Lib.hid hee
                    clear hL7 hE7 hb7
                    go_wp2_with fail
                    refine hee.out.mono ?_
                    rintro e w8 ⟨rfl, rfl⟩
                    go_wp2_with fail
                    go_meet
                    exact ⟨_, rfl, rfl, hw7⟩
              · have r3 : (a == 3) = false := by simp [h3]
                replace h3 := Lib.hid h3
                obtain ⟨z0, z1, z2⟩ := hwx.out.rl.nums
                have hgl := hwx.out.rl.lt
                go_upto_region 19 with fail
                clear z0 z1 z2
                have hnp := hwx.out.lk.np
                have hnow := hwx.out.n2
                have hnw := hwx.out.lk.nw
                have hB0 := hwx.out.lk.size
                by_cases hwt : waitL outs S now outs.length = []
                · as_aux_lemma =>
                  have hrt := rtake_any hwx.out.rl hwt (by omega)
                  have hgl6 := hwx.out.rl.got_len outs.length
                  replace hrt := Lib.hid hrt
                  replace hwt := Lib.hid hwt
                  go_wp2_with fail
                  refine hrt.out.mono ?_
                  clear hrt
                  rintro e w6 (⟨he, rfl, hb6⟩ | ⟨he, A6, c6, R, rfl, hI, ho6, hR6, hT6⟩)
                  · have hw6 := hwx.out.below hb6
                    have hxt := ltake_bad hw6.lk hwt.out (by omega) he
                    have hne : (ordsE (gotL S now outs.length) != 0) = true := by simp [he]
                    generalize ordsE (gotL S now outs.length) = k at *
                    replace hxt := Lib.hid hxt
                    replace hw6 := Lib.hid hw6
                    replace he := Lib.hid he
                    clear hb6
                    go_wp2_with fail
                    refine hxt.out.mono ?_
                    clear hxt
                    rintro e w7 ⟨rfl, hb7⟩
                    have hw7 := hw6.out.below hb7
                    have hee := error_same k w7 hw7.hv
                    unfold errT at hee
                    rw [if_neg he.out] at hee
                    replace hee := Lib.hid hee
                    replace hw7 := Lib.hid hw7
                    clear hb7
                    go_wp2_with fail
                    refine hee.out.mono ?_
                    clear hee
                    rintro e w8 ⟨rfl, hb8⟩
                    have hw8 := hw7.out.below hb8
                    have hoo := ordersEq_any none none 0 0 w8.heap.size [] w8 RD.nil_ RD.nil_ (by simp) (Nat.le_refl _)
                    replace hoo := Lib.hid hoo
                    replace hw8 := Lib.hid hw8
                    clear hb8
                    go_wp2_with fail
                    refine hoo.out.mono ?_
                    clear hoo
                    rintro e w9 ⟨rfl, hb9⟩
                    have hw9 : Hid (WSx w.heap.size w w9 G O M g de P (i + 1)) := Lib.hid ⟨_, _, _, _, _, (hw8.out.below hb9).more⟩
                    clear hb9
                    go_wp2_with fail
                    go_meet
                    exact ⟨_, rfl, rfl, hw9⟩
                  · have hL6 := hwx.out.lk.te hT6
                    have hxt := ltake_ok hL6 hwt.out (by omega) (by omega) he
                    have hI6 := hI
                    have hk6 := kept_own ho6
                    have hro6 : RO w6 w6.heap.size A6 R := RD.of_own ho6
                    have hb6 := hT6.bel
                    have hbz6 := hwx.out.bel.trans hb6
                    have hv6 := hwx.out.hv.belowB hb6 hwx.out.pos
                    have hn1 := hwx.out.n1
                    have hn3 := hwx.out.n3
                    have hlen := hwx.out.len
                    have hpos := hwx.out.pos
                    have hRl : R.length ≤ 1000 := Nat.le_trans hI.len (by omega)
                    replace hxt := Lib.hid hxt
                    replace hI6 := Lib.hid hI6
                    replace hk6 := Lib.hid hk6
                    replace hro6 := Lib.hid hro6
                    replace hL6 := Lib.hid hL6
                    replace hR6 := Lib.hid hR6
                    replace hbz6 := Lib.hid hbz6
                    replace hv6 := Lib.hid hv6
                    replace he := Lib.hid he
                    replace hlen := Lib.hid hlen
                    clear hI ho6 hT6 hb6
                    go_wp2_with fail
                    refine hxt.out.mono ?_
                    clear hxt
                    rintro e w7 ⟨A7, c7, R7, rfl, hI7, ho7, hL7, hE7⟩
                    obtain rfl := hI7.unique hI6.out
                    have hw7 : WS w.heap.size w w7 G O M g de P (i + 1) n (now + 1) outs (gone S now outs.length) E := ⟨hL7, hR6.out.eff hL6.out hE7, hlen.out, by omega, by omega, by omega, hbz6.out.trans (hE7.below hL6.out.size hL6.out.low), hv6.out.belowB (hE7.below hL6.out.size hL6.out.low) hpos, hpos⟩
                    have hro7 := hro6.out.kept hk6.out hE7.size (hL6.out.ordEff hE7)
                    have hoo := ordersEq_any A7 A6 c7 c6 w7.heap.size R7 w7 (RD.of_own ho7) hro7 (by omega) (Nat.le_refl _)
                    have hee := error_nil 0 w7
                    replace hoo := Lib.hid hoo
                    replace hee := Lib.hid hee
                    replace hw7 := Lib.hid hw7
                    clear hI7 ho7 hL7 hE7 hro7
                    go_wp2_with fail
                    refine hee.out.mono ?_
                    clear hee
                    rintro e w8 ⟨rfl, rfl⟩
                    go_wp2_with fail
                    refine hoo.out.mono ?_
                    clear hoo
                    rintro e w9 ⟨rfl, hb9⟩
                    have hw9 : Hid (WSx w.heap.size w w9 G O M g de P (i + 1)) := Lib.hid ⟨_, _, _, _, _, hw7.out.below hb9⟩
                    clear hb9
                    go_wp2_with fail
                    go_meet
                    exact ⟨_, rfl, rfl, hw9⟩
                · as_aux_lemma =>
                  have hrt := rtake_no hwx.out.rl hwt
                  replace hrt := Lib.hid hrt
                  replace hwt := Lib.hid hwt
                  go_wp2_with fail
                  refine hrt.out.mono ?_
                  clear hrt
                  rintro e w6 ⟨rfl, hb6⟩
                  have hw6 := hwx.out.below hb6
                  have hxt := ltake_no hw6.lk hwt.out
                  replace hxt := Lib.hid hxt
                  replace hw6 := Lib.hid hw6
                  clear hb6
                  go_wp2_with fail
                  refine hxt.out.mono ?_
                  clear hxt
                  unfold erL
                  rintro e w7 ⟨rfl, hb7⟩
                  have hw7 := hw6.out.below hb7
                  have hee := error_same 7 w7 hw7.hv
                  unfold errT at hee
                  rw [if_neg (by decide)] at hee
                  replace hee := Lib.hid hee
                  replace hw7 := Lib.hid hw7
                  clear hb7
                  go_wp2_with fail
                  refine hee.out.mono ?_
                  clear hee
                  rintro e w8 ⟨rfl, hb8⟩
                  have hw8 := hw7.out.below hb8
                  have hoo := ordersEq_any none none 0 0 w8.heap.size [] w8 RD.nil_ RD.nil_ (by simp) (Nat.le_refl _)
                  replace hoo := Lib.hid hoo
                  replace hw8 := Lib.hid hw8
                  clear hb8
                  go_wp2_with fail
                  refine hoo.out.mono ?_
                  clear hoo
                  rintro e w9 ⟨rfl, hb9⟩
                  have hw9 : Hid (WSx w.heap.size w w9 G O M g de P (i + 1)) := Lib.hid ⟨_, _, _, _, _, (hw8.out.below hb9).more⟩
                  clear hb9
                  go_wp2_with fail
                  go_meet
                  exact ⟨_, rfl, rfl, hw9⟩
          case rest =>
          obtain ⟨wy, rfl, rfl, hWy⟩ := hcut
          as_aux_lemma =>
          obtain ⟨n', now', outs', S', E', hwy⟩ := hWy.out
          have hrw := rwaits_any hwy.rl
          have hnp := hwy.lk.np
          have hnw := hwy.lk.nw
          have hwl := waitL_len outs' S' now' outs'.length
          obtain ⟨l, hl9⟩ : ∃ l, waitL outs' S' now' outs'.length = l := ⟨_, rfl⟩
          rw [hl9] at hrw hwl
          replace hl9 := Lib.hid hl9
          replace hrw := Lib.hid hrw
          replace hwy := Lib.hid hwy
          clear x0 x1 x2 hvl hbx hbv hwx hrx hwf hcr hxl hbl
          go_wp2_with fail
          refine hrw.out.mono ?_
          clear hrw
          rintro e w3 ⟨v3, rfl, ho3, hb3⟩
          obtain ⟨A3, c3, rfl, _⟩ := own_slice ho3
          have hw3 := hwy.out.below hb3
          have hlw := lwaits_any hw3.lk
          rw [hl9.out] at hlw
          have hri3 : RI w3 w3.heap.size A3 l := RD.of_own ho3
          replace hlw := Lib.hid hlw
          replace hw3 := Lib.hid hw3
          replace hri3 := Lib.hid hri3
          clear ho3 hb3
          go_wp2_with fail
          refine hlw.out.mono ?_
          clear hlw
          rintro e w4 ⟨v4, rfl, ho4, hb4⟩
          obtain ⟨A4, c4, rfl, _⟩ := own_slice ho4
          have hw4 := hw3.out.below hb4
          have hri4 : RI w4 w4.heap.size A4 l := RD.of_own ho4
          have hri5 : RI w4 w4.heap.size A3 l := (hri3.out.below hb4).more hb4.size
          have hie := ints_any A4 A3 c4 c3 w4.heap.size l l w4 hri4 hri5 (by omega)
          rw [eqL_yes rfl] at hie
          replace hie := Lib.hid hie
          replace hw4 := Lib.hid hw4
          clear ho4 hb4 hri4 hri5 hri3
          go_wp2_with fail
          refine hie.out.mono ?_
          clear hie
          rintro e w5 ⟨q5, rfl, rfl⟩
          have hw5 := hw4.out.below (w' := w4.drewN q5) ⟨rfl, rfl, rfl, Nat.le_refl _, fun _ _ => rfl⟩
          obtain ⟨_, _, z2⟩ := hw5.rl.nums
          have hgl5 := hw5.rl.lt
          generalize w4.drewN q5 = w5 at *
          have hkl := fun wz hz => lready_any (hw5.lk.below (w' := wz) hz) l hl9.out
          have hkn := fun wz hz => lnow_any (hw5.lk.below (w' := wz) hz)
          have hkc : ∀ wz, Below w5.heap.size w5 wz → wz.cell? ⟨g, 2, none⟩ = some (.int .i64 now') := fun wz hz => (hw5.rl.below hz).nums.2.2
          have hfin : ∀ wz, Below w5.heap.size w5 wz → Hid (WSx w.heap.size w wz G O M g de P (i + 1)) := fun wz hz => Lib.hid ⟨_, _, _, _, _, hw5.below hz⟩
          replace hkl := Lib.hid hkl
          replace hkn := Lib.hid hkn
          replace hkc := Lib.hid hkc
          replace hfin := Lib.hid hfin
          replace hw5 := Lib.hid hw5
          replace hw4 := Lib.hid hw4
          replace hw3 := Lib.hid hw3
          go_upto_region 47 with fail
          cases l with
          | nil =>
            go_region_held3 (fun wz => wz.cell? ⟨g, 2, none⟩ = some (.int .i64 now')) (first | exact hkc.out _ hb9 | exact z2) (first | (go_at_call 32; refine (hkn.out _ (bdrewN (Below.refl _ _) _)).mono ?_; rintro e w9 ⟨rfl, rfl⟩) | (go_at_call 33; refine (hkl.out _ (bdrewN (Below.refl _ _) _)).mono ?_; rintro e w9 ⟨rfl, hb8⟩; have hb9 : Below w5.heap.size w5 w9 := (bdrewN (Below.refl _ _) 1).trans hb8; clear hb8))
            have hW9 := hfin.out _ hb9
            replace hb9 := Lib.hid hb9
            go_wp2_with fail
            go_roundw
            case rel => exact ⟨i + 1, by go_num, by omega, by omega, hW9⟩
            case measure => simp [intOf]; omega
          | cons x l =>
            have e1 : ((((x :: l).length : Nat) : Int) == 0) = false := by simp; omega
            have e2 : (((l.length : Int) + 1) == 0) = false := by simp; omega
            go_region_held3 (fun wz => wz.cell? ⟨g, 2, none⟩ = some (.int .i64 now')) (first | exact hkc.out _ hb9 | exact z2) (first | (go_at_call 32; refine (hkn.out _ (bdrewN (Below.refl _ _) _)).mono ?_; rintro e w9 ⟨rfl, rfl⟩) | (go_at_call 33; refine (hkl.out _ (bdrewN (Below.refl _ _) _)).mono ?_; rintro e w9 ⟨rfl, hb8⟩; have hb9 : Below w5.heap.size w5 w9 := (bdrewN (Below.refl _ _) 1).trans hb8; clear hb8))
            have hW9 := hfin.out _ hb9
            replace hb9 := Lib.hid hb9
            go_wp2_with fail
            go_roundw
            case rel => exact ⟨i + 1, by go_num, by omega, by omega, hW9⟩
            case measure => simp [intOf]; omega
        · have i1 : (i : Int) < (sn : Int) := by omega
          have i2 : decide ((i : Int) < 60) = false := decide_eq_false (by omega)
          obtain ⟨n, now, outs, S, E, hws⟩ := hW.out
          have hbz := hws.bel
          replace hbz := Lib.hid hbz
          replace hws := Lib.hid hws
          go_wp2_with fail
          go_ret
          exact ⟨rfl, hbz.out⟩
      · have i1 : ¬ (i : Int) < (sn : Int) := by omega
        obtain ⟨n, now, outs, S, E, hws⟩ := hW.out
        have hbz := hws.bel
        replace hbz := Lib.hid hbz
        replace hws := Lib.hid hws
        go_wp2_with fail
        go_ret
        exact ⟨rfl, hbz.out⟩
end Go.Proofs.YtkgdflecepockaaDoor
