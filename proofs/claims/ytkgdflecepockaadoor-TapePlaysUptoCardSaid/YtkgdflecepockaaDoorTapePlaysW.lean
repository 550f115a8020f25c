import Derived.Test.YtkgdflecepockaaDoorTP
import Derived.Test.YtkgdflecepockaaDoorRowsI
import Derived.Test.YtkgdflecepockaaDoorCatFrames
import Derived.OpenShut
import Derived.Deep.RegionWith
import Derived.Deep.CutBlock
import Derived.Deep.DeepCutAuto
import Derived.Deep.RegionHeld3
namespace Go.Proofs.YtkgdflecepockaaDoor
set_option linter.unusedVariables false
open Go.RowKit
set_option maxHeartbeats 6400000 in
set_option maxRecDepth 100000 in
theorem plays_in (sA : Option Addr) (sn sc : Nat) (rows : List (SV × List Int)) (bA : Option Addr) (bc : Nat) (ys : List Int) (w : World) (h : RIOk w ⟨sA, sn, sc⟩ rows) (hv : HV w) (hb : RD w w.heap.size 1 bA ys.length (ys.map (.int .u8))) (hby : ∀ x ∈ ys, Byte x) (hnil : bA = none → bc = 0) (hbc : ys.length ≤ bc) (hl : ys.length ≤ 1048576) :
    Calls Tryd.prog 3 #[.slice sA sn sc, .slice bA ys.length bc] w fun e w' => e = .returned (.bool true) ∧ Below w.heap.size w w' := by
  obtain ⟨hrn, hrd, hsnil, hsl, hsm, hrows⟩ := h
  dsimp only at hrn hrd hsnil hsl hsm
  unfold maxLen at hsm
  have hsn : sn ≤ 9223372036854775807 := by omega
  clear hsl hsm hsnil
  replace hrn := Lib.hid hrn
  replace hrd := Lib.hid hrd
  replace hrows := Lib.hid hrows
  replace hv := Lib.hid hv
  replace hb := Lib.hid hb
  replace hby := Lib.hid hby
  replace hnil := Lib.hid hnil
  go_enter Tryd.func3, Tryd.ntmps3
  go_wp2_with fail
  refine (tnew_any _).mono ?_
  rintro e w1 ⟨g, rfl, hT, hb1⟩
  have hP : TP w.heap.size w1 g none 0 none 0 [] 0 0 (-1) := ⟨hT, World.ownsRow_nil _ _ _ _, fun b hb => (by simp [ob, Value.ownBlock] at hb), by simp, Nat.le_refl _, by simp⟩
  replace hP := Lib.hid hP
  replace hb1 := Lib.hid hb1
  clear hT
  go_upto_block 0 with fail
  go_cut [10] (fun vi wx0 => ∃ wx, wx = wx0 ∧ ∃ i : Nat, vi = .int .i64 i ∧ Hid (Below w.heap.size w wx))
  case first =>
    as_aux_lemma =>
    go_wp2_with fail
    go_loopw [6, 7, 8, 9, 10] (fun va vs vd vp vi wr => ∃ (i safe : Nat) (steps stop : Int) (xs : List Int) (A A2 : Option Addr) (c c2 : Nat), vi = .int .i64 i ∧ va = .slice A2 xs.length c2 ∧ vs = .int .i64 (safe : Int) ∧ vd = .int .i64 steps ∧ vp = .int .i64 stop ∧ i ≤ sn ∧ i ≤ 60 ∧ 0 ≤ steps ∧ steps ≤ (i : Int) ∧ -9223372036854775808 ≤ stop ∧ stop ≤ 9223372036854775807 ∧ Hid (TP w.heap.size wr g A c A2 c2 xs safe steps stop) ∧ Hid (Below w.heap.size w wr)) (fun _ _ _ _ vi _ => 60 - (intOf vi).toNat)
    case atStart => exact ⟨0, 0, 0, -1, [], none, none, 0, 0, rfl, rfl, rfl, rfl, rfl, Nat.zero_le _, by omega, by omega, by omega, by omega, by omega, hP, hb1⟩
    case round =>
      clear hP hb1
      obtain ⟨i, safe, steps, stop, xs, A, A2, c, c2, rfl, rfl, rfl, rfl, rfl, hi, hi60, hst0, hst1, hsp0, hsp1, hP, hbw⟩ := hrel
      obtain ⟨wo, rfl⟩ : ∃ wo : World, wo = wr := ⟨_, rfl⟩
      by_cases hlt : i < sn
      · have i1 : (i : Int) < (sn : Int) := by omega
        by_cases hl6 : i < 60
        · have i2 : (i : Int) < 60 := by omega
          have hs := hbw.out.size
          have hrw := hrd.out.below hbw.out
          obtain ⟨b, o, hA, hbl⟩ := hrw.addr (by omega)
          have hcl := hrw.at_ hA (j := i) (by omega)
          have hlr : i < rows.length := by rw [hrn.out]; exact hlt
          rw [List.getElem?_map, List.getElem?_eq_getElem hlr] at hcl
          simp only [Option.map_some] at hcl
          have hok := hrows.out rows[i] (List.getElem_mem hlr)
          generalize rows[i] = rw_ at *
          obtain ⟨⟨zA, zn, zc⟩, zs⟩ := rw_
          obtain ⟨hzn, hzr, hznil, hzl, hzm, hzw⟩ := hok
          dsimp only at hzn hzr hznil hzl hzm hzw
          unfold maxLen at hzm
          have hzn2 : zn ≤ 9223372036854775807 := by omega
          dsimp only [SV.v] at hcl
          subst hA
          replace hzr := Lib.hid (hzr.below hbw.out)
          replace hzn := Lib.hid hzn
          replace hzw := Lib.hid hzw
          replace hrw := Lib.hid hrw
          have hblt : b < wo.heap.size := by omega
          have HC := Lib.hid hcl
          clear hznil hzl hzm hlr hcl
          have hkv := Blk.new wo 26 #[.int .i64 0, .int .i64 0]
          have hbv : Below wo.heap.size wo (wo.alloc (.cells #[.int .i64 0, .int .i64 0] 26)) := (Below.refl _ _).alloc (Nat.le_refl _) _
          replace hkv := Lib.hid hkv
          replace hbv := Lib.hid hbv
          go_upto_block 2 with fail
          generalize (wo.alloc (.cells #[.int .i64 0, .int .i64 0] 26)) = wv at *
          go_cut [12] (fun vj wx0 => ∃ wx, wx = wx0 ∧ ∃ (j : Nat) (x y : Int), vj = .int .i64 j ∧ -9223372036854775808 ≤ x ∧ x ≤ 9223372036854775807 ∧ -9223372036854775808 ≤ y ∧ y ≤ 9223372036854775807 ∧ Hid (Blk wx wo.heap.size 26 #[.int .i64 x, .int .i64 y]) ∧ Hid (Below wo.heap.size wo wx))
          case first =>
            as_aux_lemma =>
            go_wp2_with fail
            go_loopw [12] (fun vj wq => ∃ (j : Nat) (x y : Int), vj = .int .i64 j ∧ j ≤ 2 ∧ j ≤ zn ∧ -9223372036854775808 ≤ x ∧ x ≤ 9223372036854775807 ∧ -9223372036854775808 ≤ y ∧ y ≤ 9223372036854775807 ∧ Hid (Blk wq wo.heap.size 26 #[.int .i64 x, .int .i64 y]) ∧ Hid (Below wo.heap.size wo wq)) (fun vj _ => 2 - (intOf vj).toNat)
            case atStart => exact ⟨0, 0, 0, rfl, by omega, Nat.zero_le _, by omega, by omega, by omega, by omega, hkv, hbv⟩
            case round =>
              clear hkv hbv
              obtain ⟨j, x, y, rfl, hj2, hjn, hx0, hx1, hy0, hy1, hkv, hbv⟩ := hrel
              have hcl := (hbv.out.cell (p := ⟨b, o + i, none⟩) hblt).trans HC.out
              by_cases hj : j < zn
              · have j1 : (j : Int) < (zn : Int) := by omega
                by_cases hjl : j < 2
                · have j2 : (j : Int) < 2 := by omega
                  have hzb := hzr.out.below (hbv.out.mono hs)
                  obtain ⟨b2, o2, hzA, hb2⟩ := hzb.addr (by omega)
                  have hcz := hzb.at_ hzA (j := j) (by omega)
                  have hjz : j < zs.length := by rw [hzn.out]; exact hj
                  rw [List.getElem?_map, List.getElem?_eq_getElem hjz] at hcz
                  simp only [Option.map_some] at hcz
                  obtain ⟨z0, z1⟩ := bounds_i64 (hzw.out _ (List.getElem_mem hjz))
                  generalize zs[j] = z at *
                  subst hzA
                  have k0 := hkv.out.cell 0
                  have k1 := hkv.out.cell 1
                  have f0 := hkv.out.frozen 0
                  have f1 := hkv.out.frozen 1
                  have hgl := hkv.out.lt
                  have hb5 := hbv.out.setCell (p := ⟨wo.heap.size, j, none⟩) (Nat.le_refl _) (.int .i64 z)
                  replace hb5 := Lib.hid hb5
                  replace hzb := Lib.hid hzb
                  rcases (by omega : j = 0 ∨ j = 1) with rfl | rfl
                  · have hk5 := Lib.hid (hkv.out.set_ 0 (.int .i64 z))
                    rw [show ((0 : Nat) : Int) = 0 from rfl]
                    rw [Nat.add_zero] at hcz
                    go_wp2_with fail
                    go_roundw
                    case rel => exact ⟨1, z, y, by go_num, by omega, by omega, z0, z1, hy0, hy1, hk5, hb5⟩
                    case measure => simp [intOf]
                  · have hk5 := Lib.hid (hkv.out.set_ 1 (.int .i64 z))
                    rw [show ((1 : Nat) : Int) = 1 from rfl]
                    go_wp2_with fail
                    go_roundw
                    case rel => exact ⟨2, x, z, by go_num, by omega, by omega, hx0, hx1, z0, z1, hk5, hb5⟩
                    case measure => simp [intOf]
                · have j2 : ¬ (j : Int) < 2 := by omega
                  go_wp2_with fail
                  go_meet
                  exact ⟨_, rfl, j, x, y, rfl, hx0, hx1, hy0, hy1, hkv, hbv⟩
              · have j1 : ¬ (j : Int) < (zn : Int) := by omega
                go_wp2_with fail
                go_meet
                exact ⟨_, rfl, j, x, y, rfl, hx0, hx1, hy0, hy1, hkv, hbv⟩
          case rest =>
          clear hkv hbv
          obtain ⟨wx, rfl, j, x, y, rfl, hx0, hx1, hy0, hy1, hkv, hbv⟩ := hcut
          have hPx := hP.out.below hbv.out
          have hbx := hbw.out.trans (hbv.out.mono hs)
          have k0 := hkv.out.cell 0
          have k1 := hkv.out.cell 1
          have hgl := hkv.out.lt
          have hsx := hbx.size
          replace hPx := Lib.hid hPx
          replace hbx := Lib.hid hbx
          clear hP hbw HC hzr hzn hzw hrw
          obtain ⟨i0, hi0, hz0, hz1, hz2⟩ := info_parts u8_info
          go_upto_region 15 with fail
          go_cut [66] (fun vt wz => wx = wz ∧ ∃ B : Bool, vt = .bool B ∧ Hid (B = decide (0 ≤ stop ∧ stop ≤ steps)))
          case first =>
            rcases (by omega : stop < 0 ∨ (0 ≤ stop ∧ steps < stop) ∨ (0 ≤ stop ∧ stop ≤ steps)) with d1 | ⟨d1, d2⟩ | ⟨d1, d2⟩
            · have e1 : decide (0 ≤ stop) = false := decide_eq_false (by omega)
              go_wp2_with fail
              go_meet
              exact ⟨rfl, false, rfl, Lib.hid (by simp; omega)⟩
            · have e1 : decide (0 ≤ stop) = true := decide_eq_true d1
              have e2 : decide (stop ≤ steps) = false := decide_eq_false (by omega)
              go_wp2_with fail
              go_meet
              exact ⟨rfl, false, rfl, Lib.hid (by simp; omega)⟩
            · have e1 : decide (0 ≤ stop) = true := decide_eq_true d1
              have e2 : decide (stop ≤ steps) = true := decide_eq_true d2
              go_wp2_with fail
              go_meet
              exact ⟨rfl, true, rfl, Lib.hid (by simp; omega)⟩
          case rest =>
          obtain ⟨rfl, B, rfl, hB⟩ := hcut
          go_upto_if 66 with fail
          go_cut [13] (fun ve wz => wx = wz ∧ ve = .int .i64 (if B = true then 7 else 0))
          case first =>
            cases B with
            | true =>
              go_wp2_with fail
              go_meet
              exact ⟨rfl, rfl⟩
            | false =>
              go_wp2_with fail
              go_meet
              exact ⟨rfl, rfl⟩
          case rest =>
          obtain ⟨rfl, rfl⟩ := hcut
          go_upto_block 4 with fail
          go_cut [6, 7, 8, 9, 13, 14, 15, 16] (fun va vs vd vp ve vr vn vw wx0 => ∃ wx, wx = wx0 ∧ ∃ (s' : Nat) (d' st' p' e n : Int) (xs' : List Int) (A' A2' : Option Addr) (c' c2' : Nat), va = .slice A2' xs'.length c2' ∧ vs = .int .i64 (s' : Int) ∧ vd = .int .i64 d' ∧ vp = .int .i64 p' ∧ ve = .int .i64 e ∧ vr = errT e ∧ vn = .int .i64 n ∧ vw = .int .i64 n ∧ 0 ≤ d' ∧ d' ≤ (i : Int) ∧ -9223372036854775808 ≤ p' ∧ p' ≤ 9223372036854775807 ∧ Hid (st' = if e = 0 ∧ x < 4 then d' + 1 else d') ∧ Hid (TP w.heap.size wx g A' c' A2' c2' xs' s' st' p') ∧ Hid (Below w.heap.size w wx) ∧ Hid (Blk wx wo.heap.size 26 #[.int .i64 x, .int .i64 y]))
          case first =>
            cases B with
            | true =>
              have hstp : 0 ≤ stop ∧ stop ≤ steps := of_decide_eq_true hB.out.symm
              rw [if_pos rfl]
              replace hstp := Lib.hid hstp
              rcases (by omega : (x = 0 ∨ x = 1) ∨ x = 2 ∨ x = 3 ∨ x = 4 ∨ x = 5 ∨ (x < 0 ∨ 5 < x)) with hx | hx | hx | hx | hx | hx
              · rcases hx with hx | hx
                · as_aux_lemma =>
                  subst hx
                  go_wp2_with fail
                  refine (tappend_no bA ys.length bc 7 hPx.out.t hPx.out.xl (by omega) (.inl ⟨hstp.out.1, hstp.out.2, rfl⟩)).mono ?_
                  unfold erI
                  rintro e w2 ⟨rfl, q, rfl⟩
                  go_wp2_with fail
                  go_meet
                  exact ⟨_, rfl, safe, steps, steps, stop, 7, 0, xs, A, A2, c, c2, rfl, rfl, rfl, rfl, rfl, by unfold errT; rfl, rfl, rfl, hst0, hst1, hsp0, hsp1, Lib.hid (by rw [if_neg (by omega)]), Lib.hid (hPx.out.drewN q), Lib.hid (bdrewN hbx.out q), Lib.hid (hkv.out.drewN q)⟩
                · as_aux_lemma =>
                  subst hx
                  go_wp2_with fail
                  refine (tappend_no bA ys.length bc 7 hPx.out.t hPx.out.xl (by omega) (.inl ⟨hstp.out.1, hstp.out.2, rfl⟩)).mono ?_
                  unfold erI
                  rintro e w2 ⟨rfl, q, rfl⟩
                  go_wp2_with fail
                  go_meet
                  exact ⟨_, rfl, safe, steps, steps, stop, 7, 0, xs, A, A2, c, c2, rfl, rfl, rfl, rfl, rfl, by unfold errT; rfl, rfl, rfl, hst0, hst1, hsp0, hsp1, Lib.hid (by rw [if_neg (by omega)]), Lib.hid (hPx.out.drewN q), Lib.hid (bdrewN hbx.out q), Lib.hid (hkv.out.drewN q)⟩
              · as_aux_lemma =>
                subst hx
                go_wp2_with fail
                refine (tsync_no hPx.out.t hstp.out).mono ?_
                unfold erI
                rintro e w2 ⟨rfl, q, rfl⟩
                go_wp2_with fail
                go_meet
                exact ⟨_, rfl, safe, steps, steps, stop, 7, 0, xs, A, A2, c, c2, rfl, rfl, rfl, rfl, rfl, by unfold errT; rfl, rfl, rfl, hst0, hst1, hsp0, hsp1, Lib.hid (by rw [if_neg (by omega)]), Lib.hid (hPx.out.drewN q), Lib.hid (bdrewN hbx.out q), Lib.hid (hkv.out.drewN q)⟩
              · as_aux_lemma =>
                subst hx
                go_wp2_with fail
                refine (tcut_no y 7 hPx.out.t hPx.out.xl (.inl ⟨hstp.out.1, hstp.out.2, rfl⟩)).mono ?_
                unfold erI
                rintro e w2 ⟨rfl, q, rfl⟩
                go_wp2_with fail
                go_meet
                exact ⟨_, rfl, safe, steps, steps, stop, 7, 0, xs, A, A2, c, c2, rfl, rfl, rfl, rfl, rfl, by unfold errT; rfl, rfl, rfl, hst0, hst1, hsp0, hsp1, Lib.hid (by rw [if_neg (by omega)]), Lib.hid (hPx.out.drewN q), Lib.hid (bdrewN hbx.out q), Lib.hid (hkv.out.drewN q)⟩
              · as_aux_lemma =>
                subst hx
                have hfv : wo.heap.size ≠ g := fun e => (hkv.out.ne_ hPx.out.t.blk (by decide)) e
                replace hfv := Lib.hid hfv
                have hroom := (own_room hPx.out.own).1
                have hsl := hPx.out.sl
                have hxl := hPx.out.xl
                obtain ⟨m, hm⟩ : ∃ m : Nat, (y ≤ 0 ∧ m = safe) ∨ (0 < y ∧ y ≤ ((xs.length - safe : Nat) : Int) ∧ (m : Int) = safe + y) ∨ (((xs.length - safe : Nat) : Int) < y ∧ 0 < y ∧ m = xs.length) := by
                  rcases (by omega : y ≤ 0 ∨ (0 < y ∧ y ≤ ((xs.length - safe : Nat) : Int)) ∨ (((xs.length - safe : Nat) : Int) < y ∧ 0 < y)) with h | h | h
                  · exact ⟨safe, .inl ⟨h, rfl⟩⟩
                  · exact ⟨safe + y.toNat, .inr (.inl ⟨h.1, h.2, by omega⟩)⟩
                  · exact ⟨xs.length, .inr (.inr ⟨h.1, h.2, rfl⟩)⟩
                have hml2 : m ≤ xs.length := by omega
                have hmc : m ≤ c2 := by omega
                replace hm := Lib.hid hm
                go_wp2_with fail
                refine (tcrash_any y safe m rfl hsl hm.out hPx.out.t (by omega) ⟨hy0, hy1⟩).mono ?_
                rintro e w2 ⟨rfl, h2, he⟩
                have hP2 := Lib.hid (hPx.out.cut hml2 h2 he (Nat.le_refl _))
                have hk2 := Lib.hid (hkv.out.eff he hfv.out (by simp))
                have hb2 : Hid (Below w.heap.size w w2) := Lib.hid (hbx.out.trans (he.below hPx.out.t.low (by simp) hsx))
                have k0 := hk2.out.cell 0
                have k1 := hk2.out.cell 1
                have hgl := hk2.out.lt
                have hml : (xs.take m).length = m := by rw [List.length_take]; omega
                replace hml := Lib.hid hml
                clear h2 he
                rcases hm.out with ⟨h1, h2⟩ | ⟨h1, h2, h3⟩ | ⟨h1, h2, h3⟩
                · subst h2
                  clear hm
                  rcases (by omega : y < 0 ∨ y = 0) with h4 | rfl
                  · have j1 : ¬ ((xs.length : Int) - (m : Int)) < 0 := by omega
                    go_wp2_with fail
                    go_meet
                    exact ⟨_, rfl, m, 0, 0, (-1), 0, 0, (xs.take m), A, A2, c, c2, by rw [hml.out], rfl, rfl, rfl, rfl, by unfold errT; rfl, rfl, rfl, by omega, by omega, by omega, by omega, Lib.hid (by rw [if_neg (by omega)]), hP2, hb2, hk2⟩
                  · have j1 : ¬ ((xs.length : Int) - (m : Int)) < 0 := by omega
                    go_wp2_with fail
                    go_meet
                    exact ⟨_, rfl, m, 0, 0, (-1), 0, 0, (xs.take m), A, A2, c, c2, by rw [hml.out], rfl, rfl, rfl, rfl, by unfold errT; rfl, rfl, rfl, by omega, by omega, by omega, by omega, Lib.hid (by rw [if_neg (by omega)]), hP2, hb2, hk2⟩
                · obtain ⟨q, rfl⟩ : ∃ q : Nat, y = (q : Int) := ⟨y.toNat, by omega⟩
                  obtain rfl : m = safe + q := by omega
                  clear hm h3
                  have j1 : ¬ ((xs.length : Int) - (safe : Int)) < (q : Int) := by omega
                  have j2 : ¬ (q : Int) < 0 := by omega
                  go_wp2_with fail
                  go_meet
                  exact ⟨_, rfl, (safe + q), 0, 0, (-1), 0, 0, (xs.take (safe + q)), A, A2, c, c2, by rw [hml.out], by go_num, rfl, rfl, rfl, by unfold errT; rfl, rfl, rfl, by omega, by omega, by omega, by omega, Lib.hid (by rw [if_neg (by omega)]), hP2, hb2, hk2⟩
                · subst h3
                  clear hm
                  have j1 : ((xs.length : Int) - (safe : Int)) < y := by omega
                  have j2 : ¬ y < 0 := by omega
                  have j3 : ((safe : Int) + ((xs.length : Int) - (safe : Int))).toNat = xs.length := by omega
                  have j4 : (safe : Int) + ((xs.length : Int) - (safe : Int)) = (xs.length : Int) := by omega
                  go_wp2_with fail
                  go_meet
                  exact ⟨_, rfl, xs.length, 0, 0, (-1), 0, 0, (xs.take xs.length), A, A2, c, c2, by rw [hml.out], rfl, rfl, rfl, rfl, by unfold errT; rfl, rfl, rfl, by omega, by omega, by omega, by omega, Lib.hid (by rw [if_neg (by omega)]), hP2, hb2, hk2⟩
              · as_aux_lemma =>
                subst hx
                rcases Int.lt_or_le y 0 with hyn | hyn
                · have hfv : wo.heap.size ≠ g := fun e => (hkv.out.ne_ hPx.out.t.blk (by decide)) e
                  replace hfv := Lib.hid hfv
                  have hsv : Hid ((-1) = if y < 0 then -1 else y) := Lib.hid (by rw [if_pos hyn])
                  go_wp2_with fail
                  refine (tfail_any y (-1) hPx.out.t hsv.out ⟨hy0, hy1⟩).mono ?_
                  rintro e w2 ⟨rfl, h2, he⟩
                  have hP2 := Lib.hid (hPx.out.eff h2 he hPx.out.sl)
                  have hk2 := Lib.hid (hkv.out.eff he hfv.out (by simp))
                  have hb2 : Hid (Below w.heap.size w w2) := Lib.hid (hbx.out.trans (he.below hPx.out.t.low (by simp) hsx))
                  have k0 := hk2.out.cell 0
                  have k1 := hk2.out.cell 1
                  have hgl := hk2.out.lt
                  clear h2 he hsv
                  go_wp2_with fail
                  go_meet
                  exact ⟨_, rfl, safe, steps, steps, (-1), 0, 0, xs, A, A2, c, c2, rfl, rfl, rfl, rfl, rfl, by unfold errT; rfl, rfl, rfl, hst0, hst1, by omega, by omega, Lib.hid (by rw [if_neg (by omega)]), hP2, hb2, hk2⟩
                · have hyn2 : ¬ y < 0 := by omega
                  have hfv : wo.heap.size ≠ g := fun e => (hkv.out.ne_ hPx.out.t.blk (by decide)) e
                  replace hfv := Lib.hid hfv
                  have hsv : Hid (y = if y < 0 then -1 else y) := Lib.hid (by rw [if_neg (by omega)])
                  go_wp2_with fail
                  refine (tfail_any y y hPx.out.t hsv.out ⟨hy0, hy1⟩).mono ?_
                  rintro e w2 ⟨rfl, h2, he⟩
                  have hP2 := Lib.hid (hPx.out.eff h2 he hPx.out.sl)
                  have hk2 := Lib.hid (hkv.out.eff he hfv.out (by simp))
                  have hb2 : Hid (Below w.heap.size w w2) := Lib.hid (hbx.out.trans (he.below hPx.out.t.low (by simp) hsx))
                  have k0 := hk2.out.cell 0
                  have k1 := hk2.out.cell 1
                  have hgl := hk2.out.lt
                  clear h2 he hsv
                  go_wp2_with fail
                  go_meet
                  exact ⟨_, rfl, safe, steps, steps, y, 0, 0, xs, A, A2, c, c2, rfl, rfl, rfl, rfl, rfl, by unfold errT; rfl, rfl, rfl, hst0, hst1, by omega, by omega, Lib.hid (by rw [if_neg (by omega)]), hP2, hb2, hk2⟩
              · as_aux_lemma =>
                have x0 : (x == 0) = false := by rw [beq_eq_false_iff_ne]; omega
                have x1 : (x == 1) = false := by rw [beq_eq_false_iff_ne]; omega
                have x2 : (x == 2) = false := by rw [beq_eq_false_iff_ne]; omega
                have x3 : (x == 3) = false := by rw [beq_eq_false_iff_ne]; omega
                have x4 : (x == 4) = false := by rw [beq_eq_false_iff_ne]; omega
                have x5 : (x == 5) = false := by rw [beq_eq_false_iff_ne]; omega
                clear hx
                go_wp2_with fail
                go_roundw
                case rel => exact ⟨i + 1, safe, steps, stop, xs, A, A2, c, c2, by go_num, rfl, rfl, rfl, rfl, by omega, by omega, hst0, by omega, hsp0, hsp1, hPx, hbx⟩
                case measure => simp [intOf]; omega
            | false =>
              have hstp : stop < 0 ∨ steps < stop := by have := of_decide_eq_false hB.out.symm; omega
              rw [if_neg (by simp)]
              replace hstp := Lib.hid hstp
              rcases (by omega : (x = 0 ∨ x = 1) ∨ x = 2 ∨ x = 3 ∨ x = 4 ∨ x = 5 ∨ (x < 0 ∨ 5 < x)) with hx | hx | hx | hx | hx | hx
              · rcases hx with hx | hx
                · as_aux_lemma =>
                  subst hx
                  have hxl := hPx.out.xl
                  rcases Nat.lt_or_ge 6000 (xs.length + ys.length) with hfull | hfull
                  · have b1 : (6000 : Int) < (xs.length : Int) + (ys.length : Int) := by omega
                    go_wp2_with fail
                    refine (tappend_no bA ys.length bc 4 hPx.out.t hPx.out.xl (by omega) (.inr ⟨hstp.out, hfull, rfl⟩)).mono ?_
                    unfold erI
                    rintro e w2 ⟨rfl, q, rfl⟩
                    go_wp2_with fail
                    go_meet
                    exact ⟨_, rfl, safe, steps, steps, stop, 4, 0, xs, A, A2, c, c2, rfl, rfl, rfl, rfl, rfl, by unfold errT; rfl, rfl, rfl, hst0, hst1, hsp0, hsp1, Lib.hid (by rw [if_neg (by omega)]), Lib.hid (hPx.out.drewN q), Lib.hid (bdrewN hbx.out q), Lib.hid (hkv.out.drewN q)⟩
                  · have hfv : wo.heap.size ≠ g := fun e => (hkv.out.ne_ hPx.out.t.blk (by decide)) e
                    replace hfv := Lib.hid hfv
                    have hxl := hPx.out.xl
                    have hbY := (hb.out.below hbx.out)
                    replace hbY := Lib.hid hbY
                    have b1 : ¬ (6000 : Int) < (xs.length : Int) + (ys.length : Int) := by omega
                    go_wp2_with fail
                    refine (tappend_okL bA ys.length bc w.heap.size ys hPx.out.t hstp.out (by omega) (Nat.le_refl _) hbY.out rfl hnil.out (by omega)).mono ?_
                    rintro e w2 ⟨A', c', rfl, h2, he, hloc⟩
                    have hown1 := hPx.out.own1 he
                    have hk2 := hkv.out.eff he hfv.out (fun e => (own_ob_ne hPx.out.t.own hkv.out (by decide)) e.symm)
                    have hb2 := hbx.out.trans (he.below hPx.out.t.low hPx.out.rowLow hsx)
                    have hbY2 := hb.out.below hb2
                    replace hbY2 := Lib.hid hbY2
                    replace hown1 := Lib.hid hown1
                    replace h2 := Lib.hid h2
                    replace he := Lib.hid he
                    replace hloc := Lib.hid hloc
                    replace hk2 := Lib.hid hk2
                    replace hb2 := Lib.hid hb2
                    go_wp2_with (at_builtin; refine wpList_append_rdL rfl (.tmp 90) (.tmp 91) 23 rfl w.heap.size 5 i0 _ 1 1 Tryd.underlying23 hi0 hz0 hz1 hz2 rfl (by decide) w2 (.slice A2 xs.length c2) xs.length _ rfl hown1.out w.heap.size bA ys.length bc (ys.map (.int .u8)) rfl hnil.out hbY2.out (by simp [Value.oneCell']) ?_ ?_ ?_ ?_)
                    · unfold maxLen; omega
                    · omega
                    · exact hb2.out.size
                    · intro v' w3 hown3 hgr hl3
                      obtain ⟨A2', c2', rfl, _⟩ := own_slice hown3
                      rw [ob_eq] at hgr
                      rw [ob_eq, ob_eq] at hl3
                      have hP2 := Lib.hid (hPx.out.app h2.out he.out hloc.out hown3 hgr hl3 hby.out (by omega))
                      have hk3 := Lib.hid (hk2.out.grown hgr (fun e => (own_ob_ne hown1.out hk2.out (by decide)) e.symm))
                      have hb3 := Lib.hid (hb2.out.grown hgr hb2.out.size (fun b hb => hPx.out.rowLow2 b hb))
                      have hll : (xs ++ ys).length = xs.length + ys.length := List.length_append
                      replace hll := Lib.hid hll
                      clear hown3 hgr hl3 hk2 hb2 hown1 h2 he hloc
                      go_wp2_with fail
                      go_meet
                      exact ⟨_, rfl, safe, steps, (steps + 1), stop, 0, _, (xs ++ ys), A', A2', c', c2', by rw [hll.out], rfl, rfl, rfl, rfl, by unfold errT; rfl, rfl, rfl, hst0, hst1, hsp0, hsp1, Lib.hid (by rw [if_pos (by omega)]), hP2, hb3, hk3⟩
                · as_aux_lemma =>
                  subst hx
                  have hxl := hPx.out.xl
                  rcases Nat.lt_or_ge 6000 (xs.length + ys.length) with hfull | hfull
                  · have b1 : (6000 : Int) < (xs.length : Int) + (ys.length : Int) := by omega
                    go_wp2_with fail
                    refine (tappend_no bA ys.length bc 4 hPx.out.t hPx.out.xl (by omega) (.inr ⟨hstp.out, hfull, rfl⟩)).mono ?_
                    unfold erI
                    rintro e w2 ⟨rfl, q, rfl⟩
                    go_wp2_with fail
                    go_meet
                    exact ⟨_, rfl, safe, steps, steps, stop, 4, 0, xs, A, A2, c, c2, rfl, rfl, rfl, rfl, rfl, by unfold errT; rfl, rfl, rfl, hst0, hst1, hsp0, hsp1, Lib.hid (by rw [if_neg (by omega)]), Lib.hid (hPx.out.drewN q), Lib.hid (bdrewN hbx.out q), Lib.hid (hkv.out.drewN q)⟩
                  · have hfv : wo.heap.size ≠ g := fun e => (hkv.out.ne_ hPx.out.t.blk (by decide)) e
                    replace hfv := Lib.hid hfv
                    have hxl := hPx.out.xl
                    have hbY := (hb.out.below hbx.out)
                    replace hbY := Lib.hid hbY
                    have b1 : ¬ (6000 : Int) < (xs.length : Int) + (ys.length : Int) := by omega
                    go_wp2_with fail
                    refine (tappend_okL bA ys.length bc w.heap.size ys hPx.out.t hstp.out (by omega) (Nat.le_refl _) hbY.out rfl hnil.out (by omega)).mono ?_
                    rintro e w2 ⟨A', c', rfl, h2, he, hloc⟩
                    have hown1 := hPx.out.own1 he
                    have hk2 := hkv.out.eff he hfv.out (fun e => (own_ob_ne hPx.out.t.own hkv.out (by decide)) e.symm)
                    have hb2 := hbx.out.trans (he.below hPx.out.t.low hPx.out.rowLow hsx)
                    have hbY2 := hb.out.below hb2
                    replace hbY2 := Lib.hid hbY2
                    replace hown1 := Lib.hid hown1
                    replace h2 := Lib.hid h2
                    replace he := Lib.hid he
                    replace hloc := Lib.hid hloc
                    replace hk2 := Lib.hid hk2
                    replace hb2 := Lib.hid hb2
                    go_wp2_with (at_builtin; refine wpList_append_rdL rfl (.tmp 90) (.tmp 91) 23 rfl w.heap.size 5 i0 _ 1 1 Tryd.underlying23 hi0 hz0 hz1 hz2 rfl (by decide) w2 (.slice A2 xs.length c2) xs.length _ rfl hown1.out w.heap.size bA ys.length bc (ys.map (.int .u8)) rfl hnil.out hbY2.out (by simp [Value.oneCell']) ?_ ?_ ?_ ?_)
                    · unfold maxLen; omega
                    · omega
                    · exact hb2.out.size
                    · intro v' w3 hown3 hgr hl3
                      obtain ⟨A2', c2', rfl, _⟩ := own_slice hown3
                      rw [ob_eq] at hgr
                      rw [ob_eq, ob_eq] at hl3
                      have hP2 := Lib.hid (hPx.out.app h2.out he.out hloc.out hown3 hgr hl3 hby.out (by omega))
                      have hk3 := Lib.hid (hk2.out.grown hgr (fun e => (own_ob_ne hown1.out hk2.out (by decide)) e.symm))
                      have hb3 := Lib.hid (hb2.out.grown hgr hb2.out.size (fun b hb => hPx.out.rowLow2 b hb))
                      have hll : (xs ++ ys).length = xs.length + ys.length := List.length_append
                      replace hll := Lib.hid hll
                      clear hown3 hgr hl3 hk2 hb2 hown1 h2 he hloc
                      go_wp2_with fail
                      go_meet
                      exact ⟨_, rfl, safe, steps, (steps + 1), stop, 0, _, (xs ++ ys), A', A2', c', c2', by rw [hll.out], rfl, rfl, rfl, rfl, by unfold errT; rfl, rfl, rfl, hst0, hst1, hsp0, hsp1, Lib.hid (by rw [if_pos (by omega)]), hP2, hb3, hk3⟩
              · as_aux_lemma =>
                subst hx
                have hfv : wo.heap.size ≠ g := fun e => (hkv.out.ne_ hPx.out.t.blk (by decide)) e
                replace hfv := Lib.hid hfv
                go_wp2_with fail
                refine (tsync_ok hPx.out.t hstp.out (by omega)).mono ?_
                rintro e w2 ⟨rfl, h2, he⟩
                have hP2 := Lib.hid (hPx.out.eff h2 he (Nat.le_refl _))
                have hk2 := Lib.hid (hkv.out.eff he hfv.out (by simp))
                have hb2 : Hid (Below w.heap.size w w2) := Lib.hid (hbx.out.trans (he.below hPx.out.t.low (by simp) hsx))
                clear h2 he
                go_wp2_with fail
                go_meet
                exact ⟨_, rfl, xs.length, steps, (steps + 1), stop, 0, 0, xs, A, A2, c, c2, rfl, rfl, rfl, rfl, rfl, by unfold errT; rfl, rfl, rfl, hst0, hst1, hsp0, hsp1, Lib.hid (by rw [if_pos (by omega)]), hP2, hb2, hk2⟩
              · as_aux_lemma =>
                subst hx
                have hxl := hPx.out.xl
                rcases (by omega : y < 0 ∨ (0 ≤ y ∧ (xs.length : Int) < y) ∨ (0 ≤ y ∧ y ≤ (xs.length : Int))) with hyc | hyc | hyc
                · have b1 : decide (y < 0) = true := decide_eq_true hyc
                  go_wp2_with fail
                  refine (tcut_no y 1 hPx.out.t hPx.out.xl (.inr ⟨hstp.out, .inl hyc, rfl⟩)).mono ?_
                  unfold erI
                  rintro e w2 ⟨rfl, q, rfl⟩
                  go_wp2_with fail
                  go_meet
                  exact ⟨_, rfl, safe, steps, steps, stop, 1, 0, xs, A, A2, c, c2, rfl, rfl, rfl, rfl, rfl, by unfold errT; rfl, rfl, rfl, hst0, hst1, hsp0, hsp1, Lib.hid (by rw [if_neg (by omega)]), Lib.hid (hPx.out.drewN q), Lib.hid (bdrewN hbx.out q), Lib.hid (hkv.out.drewN q)⟩
                · have b1 : decide (y < 0) = false := decide_eq_false (by omega)
                  have b2 : (xs.length : Int) < y := hyc.2
                  go_wp2_with fail
                  refine (tcut_no y 1 hPx.out.t hPx.out.xl (.inr ⟨hstp.out, .inr hyc.2, rfl⟩)).mono ?_
                  unfold erI
                  rintro e w2 ⟨rfl, q, rfl⟩
                  go_wp2_with fail
                  go_meet
                  exact ⟨_, rfl, safe, steps, steps, stop, 1, 0, xs, A, A2, c, c2, rfl, rfl, rfl, rfl, rfl, by unfold errT; rfl, rfl, rfl, hst0, hst1, hsp0, hsp1, Lib.hid (by rw [if_neg (by omega)]), Lib.hid (hPx.out.drewN q), Lib.hid (bdrewN hbx.out q), Lib.hid (hkv.out.drewN q)⟩
                · obtain ⟨m, hmy⟩ : ∃ m : Nat, y = (m : Int) := ⟨y.toNat, by omega⟩
                  subst hmy
                  have hm : m ≤ xs.length := by omega
                  have hfv : wo.heap.size ≠ g := fun e => (hkv.out.ne_ hPx.out.t.blk (by decide)) e
                  replace hfv := Lib.hid hfv
                  have hroom := (own_room hPx.out.own).1
                  have hsl := hPx.out.sl
                  have hcv : ((if m < safe then m else safe : Nat) : Int) = if (m : Int) < (safe : Int) then (m : Int) else (safe : Int) := by split <;> split <;> omega
                  replace hcv := Lib.hid hcv
                  have b1 : decide ((m : Int) < 0) = false := by simp
                  have b2 : ¬ (xs.length : Int) < (m : Int) := by omega
                  go_wp2_with fail
                  refine (tcut_ok m safe _ hPx.out.t hstp.out (by omega) hm hPx.out.xl rfl hcv.out).mono ?_
                  rintro e w2 ⟨rfl, h2, he⟩
                  have hP2 := Lib.hid (hPx.out.cut hm h2 he (by split <;> omega))
                  have hk2 := Lib.hid (hkv.out.eff he hfv.out (by simp))
                  have hb2 : Hid (Below w.heap.size w w2) := Lib.hid (hbx.out.trans (he.below hPx.out.t.low (by simp) hsx))
                  have k0 := hk2.out.cell 0
                  have k1 := hk2.out.cell 1
                  have hgl := hk2.out.lt
                  have hml : (xs.take m).length = m := by rw [List.length_take]; omega
                  replace hml := Lib.hid hml
                  have hmc : m ≤ c2 := by omega
                  clear h2 he
                  rcases Nat.lt_or_ge m safe with hms | hms
                  · have j1 : (m : Int) < (safe : Int) := by omega
                    have hif : (if m < safe then m else safe) = m := if_pos hms
                    replace hif := Lib.hid hif
                    go_wp2_with fail
                    go_meet
                    exact ⟨_, rfl, _, steps, (steps + 1), stop, 0, 0, (xs.take m), A, A2, c, c2, by rw [hml.out], by rw [hif.out], rfl, rfl, rfl, by unfold errT; rfl, rfl, rfl, hst0, hst1, hsp0, hsp1, Lib.hid (by rw [if_pos (by omega)]), hP2, hb2, hk2⟩
                  · have j1 : ¬ (m : Int) < (safe : Int) := by omega
                    have hif : (if m < safe then m else safe) = safe := if_neg (by omega)
                    replace hif := Lib.hid hif
                    go_wp2_with fail
                    go_meet
                    exact ⟨_, rfl, _, steps, (steps + 1), stop, 0, 0, (xs.take m), A, A2, c, c2, by rw [hml.out], by rw [hif.out], rfl, rfl, rfl, by unfold errT; rfl, rfl, rfl, hst0, hst1, hsp0, hsp1, Lib.hid (by rw [if_pos (by omega)]), hP2, hb2, hk2⟩
              · as_aux_lemma =>
                subst hx
                have hfv : wo.heap.size ≠ g := fun e => (hkv.out.ne_ hPx.out.t.blk (by decide)) e
                replace hfv := Lib.hid hfv
                have hroom := (own_room hPx.out.own).1
                have hsl := hPx.out.sl
                have hxl := hPx.out.xl
                obtain ⟨m, hm⟩ : ∃ m : Nat, (y ≤ 0 ∧ m = safe) ∨ (0 < y ∧ y ≤ ((xs.length - safe : Nat) : Int) ∧ (m : Int) = safe + y) ∨ (((xs.length - safe : Nat) : Int) < y ∧ 0 < y ∧ m = xs.length) := by
                  rcases (by omega : y ≤ 0 ∨ (0 < y ∧ y ≤ ((xs.length - safe : Nat) : Int)) ∨ (((xs.length - safe : Nat) : Int) < y ∧ 0 < y)) with h | h | h
                  · exact ⟨safe, .inl ⟨h, rfl⟩⟩
                  · exact ⟨safe + y.toNat, .inr (.inl ⟨h.1, h.2, by omega⟩)⟩
                  · exact ⟨xs.length, .inr (.inr ⟨h.1, h.2, rfl⟩)⟩
                have hml2 : m ≤ xs.length := by omega
                have hmc : m ≤ c2 := by omega
                replace hm := Lib.hid hm
                go_wp2_with fail
                refine (tcrash_any y safe m rfl hsl hm.out hPx.out.t (by omega) ⟨hy0, hy1⟩).mono ?_
                rintro e w2 ⟨rfl, h2, he⟩
                have hP2 := Lib.hid (hPx.out.cut hml2 h2 he (Nat.le_refl _))
                have hk2 := Lib.hid (hkv.out.eff he hfv.out (by simp))
                have hb2 : Hid (Below w.heap.size w w2) := Lib.hid (hbx.out.trans (he.below hPx.out.t.low (by simp) hsx))
                have k0 := hk2.out.cell 0
                have k1 := hk2.out.cell 1
                have hgl := hk2.out.lt
                have hml : (xs.take m).length = m := by rw [List.length_take]; omega
                replace hml := Lib.hid hml
                clear h2 he
                rcases hm.out with ⟨h1, h2⟩ | ⟨h1, h2, h3⟩ | ⟨h1, h2, h3⟩
                · subst h2
                  clear hm
                  rcases (by omega : y < 0 ∨ y = 0) with h4 | rfl
                  · have j1 : ¬ ((xs.length : Int) - (m : Int)) < 0 := by omega
                    go_wp2_with fail
                    go_meet
                    exact ⟨_, rfl, m, 0, 0, (-1), 0, 0, (xs.take m), A, A2, c, c2, by rw [hml.out], rfl, rfl, rfl, rfl, by unfold errT; rfl, rfl, rfl, by omega, by omega, by omega, by omega, Lib.hid (by rw [if_neg (by omega)]), hP2, hb2, hk2⟩
                  · have j1 : ¬ ((xs.length : Int) - (m : Int)) < 0 := by omega
                    go_wp2_with fail
                    go_meet
                    exact ⟨_, rfl, m, 0, 0, (-1), 0, 0, (xs.take m), A, A2, c, c2, by rw [hml.out], rfl, rfl, rfl, rfl, by unfold errT; rfl, rfl, rfl, by omega, by omega, by omega, by omega, Lib.hid (by rw [if_neg (by omega)]), hP2, hb2, hk2⟩
                · obtain ⟨q, rfl⟩ : ∃ q : Nat, y = (q : Int) := ⟨y.toNat, by omega⟩
                  obtain rfl : m = safe + q := by omega
                  clear hm h3
                  have j1 : ¬ ((xs.length : Int) - (safe : Int)) < (q : Int) := by omega
                  have j2 : ¬ (q : Int) < 0 := by omega
                  go_wp2_with fail
                  go_meet
                  exact ⟨_, rfl, (safe + q), 0, 0, (-1), 0, 0, (xs.take (safe + q)), A, A2, c, c2, by rw [hml.out], by go_num, rfl, rfl, rfl, by unfold errT; rfl, rfl, rfl, by omega, by omega, by omega, by omega, Lib.hid (by rw [if_neg (by omega)]), hP2, hb2, hk2⟩
                · subst h3
                  clear hm
                  have j1 : ((xs.length : Int) - (safe : Int)) < y := by omega
                  have j2 : ¬ y < 0 := by omega
                  have j3 : ((safe : Int) + ((xs.length : Int) - (safe : Int))).toNat = xs.length := by omega
                  have j4 : (safe : Int) + ((xs.length : Int) - (safe : Int)) = (xs.length : Int) := by omega
                  go_wp2_with fail
                  go_meet
                  exact ⟨_, rfl, xs.length, 0, 0, (-1), 0, 0, (xs.take xs.length), A, A2, c, c2, by rw [hml.out], rfl, rfl, rfl, rfl, by unfold errT; rfl, rfl, rfl, by omega, by omega, by omega, by omega, Lib.hid (by rw [if_neg (by omega)]), hP2, hb2, hk2⟩
              · as_aux_lemma =>
                subst hx
                rcases Int.lt_or_le y 0 with hyn | hyn
                · have hfv : wo.heap.size ≠ g := fun e => (hkv.out.ne_ hPx.out.t.blk (by decide)) e
                  replace hfv := Lib.hid hfv
                  have hsv : Hid ((-1) = if y < 0 then -1 else y) := Lib.hid (by rw [if_pos hyn])
                  go_wp2_with fail
                  refine (tfail_any y (-1) hPx.out.t hsv.out ⟨hy0, hy1⟩).mono ?_
                  rintro e w2 ⟨rfl, h2, he⟩
                  have hP2 := Lib.hid (hPx.out.eff h2 he hPx.out.sl)
                  have hk2 := Lib.hid (hkv.out.eff he hfv.out (by simp))
                  have hb2 : Hid (Below w.heap.size w w2) := Lib.hid (hbx.out.trans (he.below hPx.out.t.low (by simp) hsx))
                  have k0 := hk2.out.cell 0
                  have k1 := hk2.out.cell 1
                  have hgl := hk2.out.lt
                  clear h2 he hsv
                  go_wp2_with fail
                  go_meet
                  exact ⟨_, rfl, safe, steps, steps, (-1), 0, 0, xs, A, A2, c, c2, rfl, rfl, rfl, rfl, rfl, by unfold errT; rfl, rfl, rfl, hst0, hst1, by omega, by omega, Lib.hid (by rw [if_neg (by omega)]), hP2, hb2, hk2⟩
                · have hyn2 : ¬ y < 0 := by omega
                  have hfv : wo.heap.size ≠ g := fun e => (hkv.out.ne_ hPx.out.t.blk (by decide)) e
                  replace hfv := Lib.hid hfv
                  have hsv : Hid (y = if y < 0 then -1 else y) := Lib.hid (by rw [if_neg (by omega)])
                  go_wp2_with fail
                  refine (tfail_any y y hPx.out.t hsv.out ⟨hy0, hy1⟩).mono ?_
                  rintro e w2 ⟨rfl, h2, he⟩
                  have hP2 := Lib.hid (hPx.out.eff h2 he hPx.out.sl)
                  have hk2 := Lib.hid (hkv.out.eff he hfv.out (by simp))
                  have hb2 : Hid (Below w.heap.size w w2) := Lib.hid (hbx.out.trans (he.below hPx.out.t.low (by simp) hsx))
                  have k0 := hk2.out.cell 0
                  have k1 := hk2.out.cell 1
                  have hgl := hk2.out.lt
                  clear h2 he hsv
                  go_wp2_with fail
                  go_meet
                  exact ⟨_, rfl, safe, steps, steps, y, 0, 0, xs, A, A2, c, c2, rfl, rfl, rfl, rfl, rfl, by unfold errT; rfl, rfl, rfl, hst0, hst1, by omega, by omega, Lib.hid (by rw [if_neg (by omega)]), hP2, hb2, hk2⟩
              · as_aux_lemma =>
                have x0 : (x == 0) = false := by rw [beq_eq_false_iff_ne]; omega
                have x1 : (x == 1) = false := by rw [beq_eq_false_iff_ne]; omega
                have x2 : (x == 2) = false := by rw [beq_eq_false_iff_ne]; omega
                have x3 : (x == 3) = false := by rw [beq_eq_false_iff_ne]; omega
                have x4 : (x == 4) = false := by rw [beq_eq_false_iff_ne]; omega
                have x5 : (x == 5) = false := by rw [beq_eq_false_iff_ne]; omega
                clear hx
                go_wp2_with fail
                go_roundw
                case rel => exact ⟨i + 1, safe, steps, stop, xs, A, A2, c, c2, by go_num, rfl, rfl, rfl, rfl, by omega, by omega, hst0, by omega, hsp0, hsp1, hPx, hbx⟩
                case measure => simp [intOf]; omega
          case rest =>
          clear hPx hbx hkv hbv hB k0 k1 hgl
          obtain ⟨wy, rfl, safe, d', st', stop, e, n, xs, A, A2, c, c2, rfl, rfl, rfl, rfl, rfl, rfl, rfl, rfl, hd0, hd1, hsp0, hsp1, hst, hPx, hbx, hkv⟩ := hcut
          have hvy := hv.out.below (hbx.out.mono (Nat.le_refl _))
          replace hvy := Lib.hid hvy
          have k0 := hkv.out.cell 0
          have hgl := hkv.out.lt
          by_cases he : e = 0
          · subst he
            by_cases hx4 : x < 4
            · as_aux_lemma =>
              obtain rfl : st' = d' + 1 := by rw [hst.out, if_pos ⟨rfl, hx4⟩]
              clear hst hkv
              go_wp2_with fail
              refine (error_same 0 wy hvy.out).mono ?_
              rintro e2 w4 ⟨rfl, hb4⟩
              have hP4 := hPx.out.below hb4
              have hb5 := hbx.out.trans (hb4.mono hbx.out.size)
              replace hP4 := Lib.hid hP4
              replace hb5 := Lib.hid hb5
              clear hb4 hPx hbx
              go_wp2_with fail
              refine (tbytes_any hP4.out.t (by have := hP4.out.xl; omega)).mono ?_
              rintro e2 w6 ⟨A3, c3, rfl, ho3, hb6⟩
              have hP6 := hP4.out.below hb6
              have hb7 := hb5.out.trans (hb6.mono hb5.out.size)
              have s1 := str_run w6 _ A3 xs.length c3 xs rfl (RD.of_own ho3) hP6.byte
              have s2 := str_run w6 _ A2 xs.length c2 xs rfl (RD.of_own hP6.own) hP6.byte
              replace hP6 := Lib.hid hP6
              replace hb7 := Lib.hid hb7
              clear hb5 hP4 hb6 ho3
              generalize toS xs = tx at *
              go_wp2_with (first | (go_at_call 14; refine (tsafe_any hP6.out.t).mono ?_; rintro e2 w' ⟨rfl, rfl⟩) | (go_at_call 15; refine (tsteps_any hP6.out.t).mono ?_; rintro e2 w' ⟨rfl, rfl⟩))
              go_roundw
              case rel => exact ⟨i + 1, safe, d' + 1, stop, xs, A, A2, c, c2, by go_num, rfl, rfl, rfl, rfl, by omega, by omega, by omega, by omega, hsp0, hsp1, hP6, hb7⟩
              case measure => simp [intOf]; omega
            · as_aux_lemma =>
              obtain rfl : d' = st' := by rw [hst.out, if_neg (fun h => hx4 h.2)]
              clear hst hkv
              go_wp2_with fail
              refine (error_same 0 wy hvy.out).mono ?_
              rintro e2 w4 ⟨rfl, hb4⟩
              have hP4 := hPx.out.below hb4
              have hb5 := hbx.out.trans (hb4.mono hbx.out.size)
              replace hP4 := Lib.hid hP4
              replace hb5 := Lib.hid hb5
              clear hb4 hPx hbx
              go_wp2_with fail
              refine (tbytes_any hP4.out.t (by have := hP4.out.xl; omega)).mono ?_
              rintro e2 w6 ⟨A3, c3, rfl, ho3, hb6⟩
              have hP6 := hP4.out.below hb6
              have hb7 := hb5.out.trans (hb6.mono hb5.out.size)
              have s1 := str_run w6 _ A3 xs.length c3 xs rfl (RD.of_own ho3) hP6.byte
              have s2 := str_run w6 _ A2 xs.length c2 xs rfl (RD.of_own hP6.own) hP6.byte
              replace hP6 := Lib.hid hP6
              replace hb7 := Lib.hid hb7
              clear hb5 hP4 hb6 ho3
              generalize toS xs = tx at *
              go_wp2_with (first | (go_at_call 14; refine (tsafe_any hP6.out.t).mono ?_; rintro e2 w' ⟨rfl, rfl⟩) | (go_at_call 15; refine (tsteps_any hP6.out.t).mono ?_; rintro e2 w' ⟨rfl, rfl⟩))
              go_roundw
              case rel => exact ⟨i + 1, safe, d', stop, xs, A, A2, c, c2, by go_num, rfl, rfl, rfl, rfl, by omega, by omega, by omega, by omega, hsp0, hsp1, hP6, hb7⟩
              case measure => simp [intOf]; omega
          · as_aux_lemma =>
            obtain rfl : d' = st' := by rw [hst.out, if_neg (fun h => he h.1)]
            have g1 : (e == 0) = false := by simp [he]
            clear hst hkv he
            go_wp2_with fail
            refine (error_same e wy hvy.out).mono ?_
            rintro e2 w4 ⟨rfl, hb4⟩
            have hP4 := hPx.out.below hb4
            have hb5 := hbx.out.trans (hb4.mono hbx.out.size)
            replace hP4 := Lib.hid hP4
            replace hb5 := Lib.hid hb5
            clear hb4 hPx hbx
            go_wp2_with fail
            refine (tbytes_any hP4.out.t (by have := hP4.out.xl; omega)).mono ?_
            rintro e2 w6 ⟨A3, c3, rfl, ho3, hb6⟩
            have hP6 := hP4.out.below hb6
            have hb7 := hb5.out.trans (hb6.mono hb5.out.size)
            have s1 := str_run w6 _ A3 xs.length c3 xs rfl (RD.of_own ho3) hP6.byte
            have s2 := str_run w6 _ A2 xs.length c2 xs rfl (RD.of_own hP6.own) hP6.byte
            replace hP6 := Lib.hid hP6
            replace hb7 := Lib.hid hb7
            clear hb5 hP4 hb6 ho3
            generalize toS xs = tx at *
            go_wp2_with (first | (go_at_call 14; refine (tsafe_any hP6.out.t).mono ?_; rintro e2 w' ⟨rfl, rfl⟩) | (go_at_call 15; refine (tsteps_any hP6.out.t).mono ?_; rintro e2 w' ⟨rfl, rfl⟩))
            go_roundw
            case rel => exact ⟨i + 1, safe, d', stop, xs, A, A2, c, c2, by go_num, rfl, rfl, rfl, rfl, by omega, by omega, by omega, by omega, hsp0, hsp1, hP6, hb7⟩
            case measure => simp [intOf]; omega
        · have i2 : ¬ (i : Int) < 60 := by omega
          go_wp2_with fail
          go_meet
          exact ⟨_, rfl, i, rfl, hbw⟩
      · have i1 : ¬ (i : Int) < (sn : Int) := by omega
        go_wp2_with fail
        go_meet
        exact ⟨_, rfl, i, rfl, hbw⟩
  case rest =>
  clear hP hb1
  obtain ⟨wp, rfl, i, rfl, hbw⟩ := hcut
  have hs := hbw.out.size
  obtain ⟨iT, hj0, hy0, hy1, hy2⟩ := info_parts row_info
  clear hrd hrows hrn hv
  go_upto_block 5 with fail
  go_cut [20, 21, 22] (fun v i _ wx0 => ∃ wx, wx = wx0 ∧ ∃ fs : List (Value × List Int), i = .int .i64 ((framesL ys).2 : Int) ∧ fs.length ≤ ys.length ∧ Hid (fs.map (·.2) = (framesL ys).1) ∧ Hid (wx.ownsRow w.heap.size 23 1 v fs.length (fs.map (·.1))) ∧ Hid (FV w fs) ∧ Hid (Below w.heap.size w wx))
  case first =>
    as_aux_lemma =>
    go_wp2_with fail
    go_loopw [20, 21, 22] (fun v i _ wr => FR2 w ys v i wr) (fun _ i _ _ => ys.length - (intOf i).toNat)
    case atStart => exact ⟨0, ys.length, [], rfl, by omega, by omega, by simp, Lib.hid ⟨by simp [framesL], rfl⟩, Lib.hid (World.ownsRow_nil _ _ _ _), Lib.hid (by intro r h; simp at h), hbw⟩
    case round =>
      clear hbw
      obtain ⟨p, f, fs, rfl, hp, hf, hrl, hfr, hown, hfv, hb5⟩ := hrel
      by_cases h2 : p + 2 ≤ ys.length
      · have hHr := hb.out.below hb5.out
        obtain ⟨b, o, hA, hbl⟩ := hHr.addr (by omega)
        have hcell : ∀ j, j < ys.length → wr.cell? ⟨b, o + j, none⟩ = some (.int .u8 (ys.getD j 0)) := fun j hj => by
          rw [hHr.at_ hA (by omega), List.getElem?_map, List.getD_eq_getElem?_getD, List.getElem?_eq_getElem hj]; rfl
        subst hA
        have c0 := hcell p (by omega)
        have c1 := hcell (p + 1) (by omega)
        have b0 : Byte (ys.getD p 0) := by
          rw [List.getD_eq_getElem?_getD, List.getElem?_eq_getElem (by omega)]
          exact hby.out _ (List.getElem_mem _)
        have b1 : Byte (ys.getD (p + 1) 0) := by
          rw [List.getD_eq_getElem?_getD, List.getElem?_eq_getElem (by omega)]
          exact hby.out _ (List.getElem_mem _)
        unfold Byte at b0 b1
        have hK : frK ys p = if p + 2 + ((ys.getD p 0).toNat * 256 + (ys.getD (p + 1) 0).toNat) ≤ ys.length then some ((ys.getD p 0).toNat * 256 + (ys.getD (p + 1) 0).toNat) else none := by unfold frK; rw [if_pos h2]
        replace hK := Lib.hid hK
        replace hHr := Lib.hid hHr
        replace hcell := Lib.hid hcell
        generalize ys.getD p 0 = x at *
        generalize ys.getD (p + 1) 0 = y at *
        have i0 : (p : Int) < (ys.length : Int) := by omega
        have i1 : (p : Int) + 1 < (ys.length : Int) := by omega
        have i2 : 0 ≤ (p : Int) + 1 := by omega
        have i3 : p < ys.length := by omega
        have i4 : p + 1 < ys.length := by omega
        have hlt := hHr.out.addr (by omega)
        clear hlt
        obtain ⟨wo, rfl⟩ : ∃ wo : World, wo = wr := ⟨_, rfl⟩
        go_upto_region 68 with fail
        go_cut [22] (fun vn wx0 => ∃ wx, wx = wx0 ∧ vn = .int .i64 (x * 256 + y) ∧ Hid (Below wo.heap.size wo wx))
        case first =>
          as_aux_lemma =>
          have i5 : ((p : Int) + 1).toNat = p + 1 := by omega
          have i6 : IntKind.i64.wrap ((p : Int) + 1) = (p : Int) + 1 := IntWalk.i64_in _ (by omega)
          have w1 : IntKind.i64.wrap x = x := IntWalk.i64_in _ (by omega)
          have w2 : IntKind.i64.wrap (x * 256) = x * 256 := IntWalk.i64_in _ (by omega)
          have w3 : IntKind.i64.wrap y = y := IntWalk.i64_in _ (by omega)
          have w4 : IntKind.i64.wrap (x * 256 + y) = x * 256 + y := IntWalk.i64_in _ (by omega)
          go_quiet (fail)
          go_wp2_with fail
          go_meet
          exact ⟨_, rfl, rfl, Lib.hid (bdrewN (Below.refl _ _) _)⟩
        case rest =>
        obtain ⟨wx, rfl, rfl, hbx⟩ := hcut
        obtain ⟨K, hKe⟩ : ∃ K : Nat, x * 256 + y = (K : Int) := ⟨(x * 256 + y).toNat, by omega⟩
        have hKn : x.toNat * 256 + y.toNat = K := by omega
        rw [hKe]
        rw [hKn] at hK
        clear b0 b1 c0 c1 hKe hKn
        have hownx := own_below hown.out hbx.out
        have hs5 := hb5.out.size
        have hb6 := hb5.out.trans (hbx.out.mono hs5)
        have hs6 := hb6.size
        replace hownx := Lib.hid hownx
        replace hb6 := Lib.hid hb6
        clear hown hb5 hbx hcell hHr hs5
        by_cases hk : p + 2 + K ≤ ys.length
        · have hS : frK ys p = some K := by rw [hK.out, if_pos hk]
          obtain ⟨f', hf'⟩ : ∃ f', f = f' + 1 := ⟨f - 1, by omega⟩
          have e := frF_some f' ys p K hS
          rw [← hf'] at e
          have h1 := hfr.out
          rw [e] at h1
          replace h1 := Lib.hid h1
          replace hf' := Lib.hid hf'
          clear e hS hK hfr
          have hlen : ((ys.drop (p + 2)).take K).length = K := by rw [List.length_take, List.length_drop]; omega
          have hbz : ∀ z ∈ (ys.drop (p + 2)).take K, Byte z := fun z hz => hby.out z (List.mem_of_mem_drop (List.mem_of_mem_take hz))
          have hRd : ∀ (a : Addr), (0 < K → a = ⟨b, o + (p + 2), none⟩) → RD w w.heap.size 1 (some a) K (((ys.drop (p + 2)).take K).map (.int .u8)) := fun a ha => by
            refine ⟨by rw [List.length_map, hlen]; omega, fun hK0 => ?_⟩
            refine ⟨b, o + (p + 2), by rw [ha hK0], hbl, fun j hj => ?_⟩
            rw [show o + (p + 2) + j = o + (p + 2 + j) by omega, hb.out.at_ rfl (j := p + 2 + j) (by omega), List.getElem?_map, List.getElem?_map, List.getElem?_take_of_lt (by omega), List.getElem?_drop]
          generalize (ys.drop (p + 2)).take K = zs at *
          replace hlen := Lib.hid hlen
          replace hRd := Lib.hid hRd
          replace hbz := Lib.hid hbz
          have hl2 : fs.length < 10000000000 := by omega
          have i7 : ¬ (ys.length : Int) - (p : Int) - 2 < (K : Int) := by omega
          by_cases hcp : bc = p + 2
          · go_wp2_with (at_builtin; refine wpList_app1 rfl (.tmp 237) (.tmp 246) 38 rfl w.heap.size 23 iT _ 1 24 Tryd.underlying38 hj0 hy0 hy1 hy2 rfl (by decide) (by decide) wx #[.slice (some _) K _] u20 fs.length _ rfl hownx.out rfl rfl rfl hl2 hs6 ?_; intro v' w2 hown' hgrow)
            have hfv2 := Lib.hid (hfv.out.snoc (c := 0) hlen.out (hRd.out ⟨b, o, none⟩ (fun hK0 => by exfalso; omega)) hbz.out)
            have hb7 := Lib.hid (hb6.out.grown hgrow hs6 (fun b hb => (hownx.out.lt b hb).1))
            have hff := hf'.out
            have hl9 : (fs ++ [(Value.nilIface, zs)]).length = fs.length + 1 := by simp
            replace hl9 := Lib.hid hl9
            clear hgrow
            replace hown' := Lib.hid hown'
            go_wp2_with fail
            go_roundw
            case rel => exact ⟨p + 2 + K, f', fs ++ [(.slice (some ⟨b, o, none⟩) K 0, zs)], by go_num, by omega, by omega, by simp; omega, Lib.hid ⟨by rw [← h1.out.1]; simp, h1.out.2⟩, Lib.hid (by simpa using hown'.out), hfv2, hb7⟩
            case measure => simp [intOf]; omega
          · go_wp2_with (at_builtin; refine wpList_app1 rfl (.tmp 237) (.tmp 246) 38 rfl w.heap.size 23 iT _ 1 24 Tryd.underlying38 hj0 hy0 hy1 hy2 rfl (by decide) (by decide) wx #[.slice (some _) K _] u20 fs.length _ rfl hownx.out rfl rfl rfl hl2 hs6 ?_; intro v' w2 hown' hgrow)
            have hfv2 := Lib.hid (hfv.out.snoc (c := bc - (p + 2)) hlen.out (hRd.out ⟨b, o + (p + 2), none⟩ (fun _ => rfl)) hbz.out)
            have hb7 := Lib.hid (hb6.out.grown hgrow hs6 (fun b hb => (hownx.out.lt b hb).1))
            have hff := hf'.out
            have hl9 : (fs ++ [(Value.nilIface, zs)]).length = fs.length + 1 := by simp
            replace hl9 := Lib.hid hl9
            clear hgrow
            replace hown' := Lib.hid hown'
            go_wp2_with fail
            go_roundw
            case rel => exact ⟨p + 2 + K, f', fs ++ [(.slice (some ⟨b, o + (p + 2), none⟩) K (bc - (p + 2)), zs)], by go_num, by omega, by omega, by simp; omega, Lib.hid ⟨by rw [← h1.out.1]; simp, h1.out.2⟩, Lib.hid (by simpa using hown'.out), hfv2, hb7⟩
            case measure => simp [intOf]; omega
        · have hN : frK ys p = none := by rw [hK.out, if_neg hk]
          have e := frF_none f ys p hN
          have h1 := hfr.out
          rw [e] at h1
          simp only [List.append_nil] at h1
          replace h1 := Lib.hid h1
          have hkk : (ys.length : Int) - (p : Int) - 2 < (K : Int) := by omega
          clear hN hfr hK
          go_wp2_with fail
          go_meet
          exact ⟨_, rfl, fs, by rw [h1.out.2], by omega, Lib.hid h1.out.1, hownx, hfv, hb6⟩
      · have hN : frK ys p = none := by unfold frK; rw [if_neg h2]
        have e := frF_none f ys p hN
        have h1 := hfr.out
        rw [e] at h1
        simp only [List.append_nil] at h1
        replace h1 := Lib.hid h1
        clear hN hfr
        go_wp2_with fail
        go_meet
        exact ⟨_, rfl, fs, by rw [h1.out.2], by omega, Lib.hid h1.out.1, hown, hfv, hb5⟩
  case rest =>
  clear hbw
  obtain ⟨wp, rfl, fs, rfl, hfsl, hfl, hown, hfv, hbw⟩ := hcut
  have hs2 := hbw.out.size
  have hbp := hb.out.below hbw.out
  go_wp2_with fail
  refine (frames_any bA bc w.heap.size ys _ hnil.out hs2 hbp hby.out hbc (by omega)).mono ?_
  rintro e w3 ⟨v3, rows3, rfl, hr3, ho3, hrows3, hb3⟩
  have hlr : rows3.length = fs.length := by
    have e1 := congrArg List.length hr3
    have e2 := congrArg List.length hfl.out
    simp only [List.length_map] at e1 e2
    omega
  obtain ⟨A3, c3, rfl, _⟩ := own_slice ho3
  obtain ⟨A4, c4, rfl, _⟩ := own_slice hown.out
  have ho4 := own_below hown.out hb3
  have hb4 := hbw.out.trans (hb3.mono hs2)
  have heq : ∀ i (h : i < fs.length), (rows3[i]'(by omega)).2 = fs[i].2 := fun i h => by
    have e : rows3.map (·.2) = fs.map (·.2) := by rw [hr3, hfl.out]
    have := congrArg (fun l : List (List Int) => l[i]?) e
    simp only [List.getElem?_map, List.getElem?_eq_getElem h, List.getElem?_eq_getElem (show i < rows3.length by omega), Option.map_some, Option.some.injEq] at this
    exact this
  rw [hlr]
  replace ho3 := Lib.hid ho3
  replace ho4 := Lib.hid ho4
  replace hrows3 := Lib.hid hrows3
  replace heq := Lib.hid heq
  replace hb4 := Lib.hid hb4
  replace hlr := Lib.hid hlr
  clear hb3 hbw hbp hown hr3 hfl
  generalize (framesL ys).2 = NN at *
  obtain ⟨wo, rfl⟩ : ∃ wo : World, wo = w3 := ⟨_, rfl⟩
  go_upto_block 7 with fail
  go_cut [25] (fun vi wx0 => ∃ wx, wx = wx0 ∧ ∃ i : Nat, vi = .int .i64 i ∧ Hid (Below wo.heap.size wo wx))
  case first =>
    as_aux_lemma =>
    go_wp2_with fail
    go_loopw [25] (fun vi wr => ∃ i : Nat, vi = .int .i64 i ∧ i ≤ fs.length ∧ Hid (Below wo.heap.size wo wr)) (fun vi _ => fs.length - (intOf vi).toNat)
    case atStart => exact ⟨0, rfl, Nat.zero_le _, Lib.hid (Below.refl _ _)⟩
    case round =>
      obtain ⟨i, rfl, hi, hbq⟩ := hrel
      by_cases hlt : i < fs.length
      · have i1 : (i : Int) < (fs.length : Int) := by omega
        have hl3 : i < rows3.length := by rw [hlr.out]; exact hlt
        have hR3 := RD.of_own ((hlr.out ▸ ho3.out : wo.ownsRow _ 23 1 (.slice A3 fs.length c3) fs.length (rows3.map (·.1))))
        have hR4 := RD.of_own ho4.out
        obtain ⟨b3, o3, e3, hb3l⟩ := hR3.addr (by omega)
        obtain ⟨b4, o4, e4, hb4l⟩ := hR4.addr (by omega)
        have k3 := hR3.at_ e3 (j := i) (by omega)
        have k4 := hR4.at_ e4 (j := i) (by omega)
        subst e3; subst e4
        rw [List.getElem?_map, List.getElem?_eq_getElem hl3] at k3
        rw [List.getElem?_map, List.getElem?_eq_getElem hlt] at k4
        simp only [Option.map_some] at k3 k4
        obtain ⟨A6, c6, e6, hr6, hb6⟩ := hfv.out fs[i] (List.getElem_mem hlt)
        have ho5 := hrows3.out rows3[i] (List.getElem_mem hl3)
        obtain ⟨A5, c5, e5, _⟩ := own_slice ho5
        rw [e5] at k3 ho5
        rw [e6] at k4
        have he := heq.out i hlt
        rw [he] at k3 ho5
        have q3 := (hbq.out.cell (p := ⟨b3, o3 + i, none⟩) hb3l).trans k3
        have q4 := (hbq.out.cell (p := ⟨b4, o4 + i, none⟩) hb4l).trans k4
        generalize fs[i] = r at *
        obtain ⟨rv, rl⟩ := r
        dsimp only at *
        have s10 := fun q => str_run (wr.drewN q) _ A5 rl.length c5 rl rfl (((RD.of_own ho5).below hbq.out).drewN q) hb6
        have s20 := fun q => str_run (wr.drewN q) _ A6 rl.length c6 rl rfl (((hr6.below hb4.out).below (hbq.out.mono hb4.out.size)).drewN q) hb6
        have hne : ((toS rl).toList == (toS rl).toList) = true := by simp
        have l3 : b3 < wr.heap.size := by have := hbq.out.size; omega
        have l4 : b4 < wr.heap.size := by have := hbq.out.size; omega
        replace hr6 := Lib.hid hr6
        replace ho5 := Lib.hid ho5
        replace hb6 := Lib.hid hb6
        have hi2 : i + 1 ≤ fs.length := hlt
        have hi3 : fs.length - (i + 1) < fs.length - i := by omega
        clear hR3 hR4 k3 k4 e5 e6 he
        generalize toS rl = tx at *
        go_wp2_with fail
        go_quiet (fail)
        go_wp2_with fail
        go_roundw
        case rel => exact ⟨i + 1, by go_num, by omega, Lib.hid (bdrewN hbq.out _)⟩
        case measure => simp [intOf]; first | exact hi3 | omega
      · have i1 : ¬ (i : Int) < (fs.length : Int) := by omega
        go_wp2_with fail
        go_meet
        exact ⟨_, rfl, i, rfl, hbq⟩
  case rest =>
  obtain ⟨wx, rfl, i, rfl, hbx⟩ := hcut
  have hb5 := hb4.out.trans (hbx.out.mono hb4.out.size)
  clear ho3 ho4 hrows3 heq hlr hb4 hbx
  go_wp2_with fail
  refine (frame_rd2 bA ys.length bc w.heap.size ys wx rfl hnil.out hb5.size (hb.out.below hb5) (by omega)).mono ?_
  rintro e w9 ⟨G, d, rfl, hF, hd, hb9⟩
  have hbz := hb5.trans (hb9.mono hb5.size)
  have k0 := hF.at_ rfl (j := 0) (by omega)
  have k1 := hF.at_ rfl (j := 1) (by omega)
  rw [Nat.zero_add] at k0 k1
  replace k0 : w9.cell? ⟨G, 0, none⟩ = some (.int .u8 ((ys.length : Int) / 256 % 256)) := k0
  replace k1 : w9.cell? ⟨G, 1, none⟩ = some (.int .u8 ((ys.length : Int) % 256)) := k1
  have sB := fun q => str_run (w9.drewN q) _ bA ys.length bc ys rfl ((hb.out.below hbz).drewN q) hby.out
  have hne : ((toS ys).toList == (toS ys).toList) = true := by simp
  have hG : G < w9.heap.size := (hF.addr (by omega)).elim fun b h => h.elim fun o h => by obtain ⟨h1, h2⟩ := h; injection h1 with h1; injection h1 with h1; omega
  replace hbz := Lib.hid hbz
  have e1 : (((2 + ys.length : Nat) : Int) == (ys.length : Int) + 2) = true := by rw [beq_iff_eq]; omega
  have e1b : ((2 + (ys.length : Int)) == (ys.length : Int) + 2) = true := by rw [beq_iff_eq]; omega
  have e2 : IntKind.i64.wrap ((ys.length : Int) + 2) = (ys.length : Int) + 2 := IntWalk.i64_in _ (by omega)
  have e3 : IntKind.i64.wrap ((ys.length : Int) / 256 % 256) = (ys.length : Int) / 256 % 256 := IntWalk.i64_in _ (by omega)
  have e4 : IntKind.i64.wrap ((ys.length : Int) % 256) = (ys.length : Int) % 256 := IntWalk.i64_in _ (by omega)
  have e5 : ((ys.length : Int).tdiv 256) = (ys.length : Int) / 256 := Int.tdiv_eq_ediv_of_nonneg (by omega)
  have e6 : ((ys.length : Int) / 256).tmod 256 = (ys.length : Int) / 256 % 256 := Int.tmod_eq_emod_of_nonneg (by omega)
  have e7 : ((ys.length : Int)).tmod 256 = (ys.length : Int) % 256 := Int.tmod_eq_emod_of_nonneg (by omega)
  by_cases hd2 : d = 2
  · subst hd2
    have h0 : ys = [] := List.eq_nil_of_length_eq_zero (by omega)
    subst h0
    have sA := fun q => str_run (w9.drewN q) w9.heap.size (some ⟨G, 0, none⟩) 0 0 [] rfl RD.nil_ (by simp)
    have sC : ∀ q, (convert 23 9 (.slice bA 0 bc)).run Tryd.prog (w9.drewN q) = .ok (.string (toS [])) (w9.drewN q) := sB
    clear hF sB
    go_wp2_with fail
    go_quiet (fail)
    go_wp2_with fail
    go_ret
    exact ⟨rfl, bdrewN hbz.out _⟩
  · have hF2 : RD w9 w9.heap.size 1 (some ⟨G, 2, none⟩) ys.length (ys.map (.int .u8)) := by
      refine ⟨by simp, fun h => ⟨G, 2, rfl, hG, fun j hj => ?_⟩⟩
      have := hF.at_ rfl (j := 2 + j) (by omega)
      rw [Nat.zero_add] at this
      rw [this]
      show (_ :: _ :: (ys.map _))[2 + j]? = _
      rw [show 2 + j = j + 1 + 1 by omega, List.getElem?_cons_succ, List.getElem?_cons_succ]
    have sA := fun q => str_run (w9.drewN q) _ (some ⟨G, 2, none⟩) ys.length (d - 2) ys rfl (hF2.drewN q) hby.out
    replace hF2 := Lib.hid hF2
    clear hF
    generalize toS ys = tx at *
    go_wp2_with fail
    go_quiet (fail)
    go_wp2_with fail
    go_ret
    exact ⟨rfl, bdrewN hbz.out _⟩

end Go.Proofs.YtkgdflecepockaaDoor
