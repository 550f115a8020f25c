import Derived.Test.YtkkdegcbikjebaaDoorRefCell
namespace Go.Proofs.YtkkdegcbikjebaaDoor
set_option linter.unusedVariables false
open Go.RowKit
def RnRel (f : GF) (a : Int) (W : World) (k : Nat) (v : Value) (wx : World) : Prop :=
  Hid (wx.ownsRow W.heap.size 3 1 v (besN f a k).length ((besN f a k).map (.int .i64))) ∧ Hid (Below W.heap.size W wx)
theorem rn_yes {f : GF} {a x : Int} {k : Nat} (h : besS f a k = [x]) : (besN f a (k + 1)).length = (besN f a k).length + 1 ∧ (besN f a (k + 1)).map (Value.int .i64) = (besN f a k).map (.int .i64) ++ [.int .i64 x] := by
  rw [besN, h]; simp
theorem rn_no {f : GF} {a : Int} {k : Nat} (h : besS f a k = []) : besN f a (k + 1) = besN f a k := by rw [besN, h, List.append_nil]
set_option maxHeartbeats 3200000 in
set_option maxRecDepth 100000 in
theorem rnear_any (s : SF) (f : GF) (a : Int) (w : World) (hw : 1 ≤ f.wide ∧ f.wide ≤ 12) (hh : 1 ≤ f.high ∧ f.high ≤ 12) (ha : 0 ≤ a ∧ a < f.wide * f.high) :
    Calls Tryd.prog 21 #[fA s f, .int .i64 a] w fun e w' => ∃ v, e = .returned v ∧ w'.ownsRow w.heap.size 3 1 v (besL f a).length ((besL f a).map (.int .i64)) ∧ Below w.heap.size w w' := by
  obtain ⟨i0, hi0, hz0, hz1, hz2⟩ := info_parts int_info
  have hr1 : 0 ≤ a / f.wide := Int.ediv_nonneg ha.1 (by omega)
  have hr2 : a / f.wide < f.high := Int.ediv_lt_of_lt_mul (by omega) (by rw [Int.mul_comm]; exact ha.2)
  have hc1 : 0 ≤ a % f.wide := Int.emod_nonneg _ (by omega)
  have hc2 : a % f.wide < f.wide := Int.emod_lt_of_pos _ (by omega)
  have ht1 : a.tmod f.wide = a % f.wide := Int.tmod_eq_emod_of_nonneg ha.1
  have ht2 : a.tdiv f.wide = a / f.wide := Int.tdiv_eq_ediv_of_nonneg ha.1
  have hm : f.wide * f.high ≤ 144 := mul_le_of (c := 12) (d := 12) (by omega) hw.2 (by omega) hh.2
  have ha2 : a ≤ 144 := by omega
  have hbl : besL f a = besN f a 4 := rfl
  rw [hbl]
  clear hbl
  have S0 : besS f a 0 = if a / f.wide - 1 < 0 then [] else [a - f.wide] := rfl
  have S1 : besS f a 1 = if a % f.wide - 1 < 0 then [] else [a - 1] := rfl
  have S2 : besS f a 2 = if a % f.wide + 1 < f.wide then [a + 1] else [] := rfl
  have S3 : besS f a 3 = if a / f.wide + 1 < f.high then [a + f.wide] else [] := rfl
  have hN : ∀ k, (besN f a k).length ≤ k := besN_len f a
  have ha0 := ha.1
  have hw0 : (f.wide == 0) = false := by simp; omega
  have hw1 := hw.1
  have hw2 := hw.2
  have hh1 := hh.1
  have hh2 := hh.2
  generalize hR : a / f.wide = R at *
  generalize hC : a % f.wide = C at *
  replace hR := Lib.hid hR
  replace hC := Lib.hid hC
  replace S0 := Lib.hid S0
  replace S1 := Lib.hid S1
  replace S2 := Lib.hid S2
  replace S3 := Lib.hid S3
  replace hN := Lib.hid hN
  clear ha hm hw hh
  unfold fA
  go_enter Tryd.func21, Tryd.ntmps21
  go_upto_region 2 with fail
  have hb1 : Below w.heap.size w (w.alloc (.cells #[.int .i64 f.wide, .int .i64 f.high, .slice s.ground.A f.ground.length s.ground.c, .slice s.ore.A f.ore.length s.ore.c] 25)) := (Below.refl _ _).alloc (Nat.le_refl _) _
  have hk1 := Blk.new w 25 #[.int .i64 f.wide, .int .i64 f.high, .slice s.ground.A f.ground.length s.ground.c, .slice s.ore.A f.ore.length s.ore.c]
  generalize w.alloc (.cells #[.int .i64 f.wide, .int .i64 f.high, .slice s.ground.A f.ground.length s.ground.c, .slice s.ore.A f.ore.length s.ore.c] 25) = W at *
  have c0 := hk1.cell 0
  have c1 := hk1.cell 1
  have hk1lt := hk1.lt
  have hs1 := hb1.size
  have hrel0 : RnRel f a W 0 (.slice none 0 0) W := ⟨Lib.hid (World.ownsRow_nil _ _ _ _), Lib.hid (Below.refl _ _)⟩
  replace hk1 := Lib.hid hk1
  replace hb1 := Lib.hid hb1
  go_upto_if 17 with fail
  go_cut [5] (fun v wx0 => ∃ wx, wx = wx0 ∧ RnRel f a W 1 v wx)
  case first =>
    obtain ⟨ho, hb⟩ := hrel0
    have hs := hb.out.size
    have hNk := hN.out 0
    by_cases q : 0 < R
    · have e1 : decide (0 < R) = true := by simp; omega
      have e2 := S0.out
      rw [if_neg (by omega)] at e2
      obtain ⟨e3, e4⟩ := rn_yes e2
      replace e2 := Lib.hid e2
      replace e3 := Lib.hid e3
      replace e4 := Lib.hid e4
      go_wp2_with (at_builtin; refine wpList_app1 rfl (.tmp 18) (.tmp 23) 23 rfl W.heap.size 3 i0 _ 1 8 Tryd.underlying23 hi0 hz0 hz1 hz2 rfl (by decide) (by decide) W #[.int .i64 (a - f.wide)] (.slice none 0 0) (besN f a 0).length _ rfl ho.out rfl rfl rfl (by omega) hs ?_; intro v' w6 hown' hgrow)
      go_meet
      exact ⟨_, rfl, Lib.hid (by rw [e3.out, e4.out]; exact hown'), Lib.hid (hb.out.grown hgrow hs (fun g hg => (ho.out.lt g hg).1))⟩
    · have e1 : decide (0 < R) = false := by simp; omega
      have e2 := S0.out
      rw [if_pos (by omega)] at e2
      have e3 := rn_no e2
      replace e2 := Lib.hid e2
      replace e3 := Lib.hid e3
      go_wp2_with fail
      go_meet
      exact ⟨_, rfl, by unfold RnRel; rw [e3.out]; exact ⟨ho, hb⟩⟩
  case rest =>
  obtain ⟨W1, rfl, hrel1⟩ := hcut
  have hkk1 := hk1.out.below hrel1.2.out hk1lt
  have c0 := hkk1.cell 0
  have c1 := hkk1.cell 1
  obtain ⟨A1, cc1, rfl, _⟩ := own_slice hrel1.1.out
  replace hkk1 := Lib.hid hkk1
  go_upto_if 26 with fail
  go_cut [5] (fun v wx0 => ∃ wx, wx = wx0 ∧ RnRel f a W 2 v wx)
  case first =>
    obtain ⟨ho, hb⟩ := hrel1
    have hs := hb.out.size
    have hNk := hN.out 1
    by_cases q : 0 < C
    · have e1 : decide (0 < C) = true := by simp; omega
      have e2 := S1.out
      rw [if_neg (by omega)] at e2
      obtain ⟨e3, e4⟩ := rn_yes e2
      replace e2 := Lib.hid e2
      replace e3 := Lib.hid e3
      replace e4 := Lib.hid e4
      go_wp2_with (at_builtin; refine wpList_app1 rfl (.tmp 27) (.tmp 30) 23 rfl W.heap.size 3 i0 _ 1 8 Tryd.underlying23 hi0 hz0 hz1 hz2 rfl (by decide) (by decide) W1 #[.int .i64 (a - 1)] (.slice A1 (besN f a 1).length cc1) (besN f a 1).length _ rfl ho.out rfl rfl rfl (by omega) hs ?_; intro v' w6 hown' hgrow)
      go_meet
      exact ⟨_, rfl, Lib.hid (by rw [e3.out, e4.out]; exact hown'), Lib.hid (hb.out.grown hgrow hs (fun g hg => (ho.out.lt g hg).1))⟩
    · have e1 : decide (0 < C) = false := by simp; omega
      have e2 := S1.out
      rw [if_pos (by omega)] at e2
      have e3 := rn_no e2
      replace e2 := Lib.hid e2
      replace e3 := Lib.hid e3
      go_wp2_with fail
      go_meet
      exact ⟨_, rfl, by unfold RnRel; rw [e3.out]; exact ⟨ho, hb⟩⟩
  case rest =>
  obtain ⟨W2, rfl, hrel2⟩ := hcut
  have hkk2 := hk1.out.below hrel2.2.out hk1lt
  have c0 := hkk2.cell 0
  have c1 := hkk2.cell 1
  obtain ⟨A2, cc2, rfl, _⟩ := own_slice hrel2.1.out
  replace hkk2 := Lib.hid hkk2
  go_upto_if 36 with fail
  go_cut [5] (fun v wx0 => ∃ wx, wx = wx0 ∧ RnRel f a W 3 v wx)
  case first =>
    obtain ⟨ho, hb⟩ := hrel2
    have hs := hb.out.size
    have hNk := hN.out 2
    by_cases q : C < f.wide - 1
    · have e1 : decide (C < f.wide - 1) = true := by simp; omega
      have e2 := S2.out
      rw [if_pos (by omega)] at e2
      obtain ⟨e3, e4⟩ := rn_yes e2
      replace e2 := Lib.hid e2
      replace e3 := Lib.hid e3
      replace e4 := Lib.hid e4
      go_wp2_with (at_builtin; refine wpList_app1 rfl (.tmp 37) (.tmp 40) 23 rfl W.heap.size 3 i0 _ 1 8 Tryd.underlying23 hi0 hz0 hz1 hz2 rfl (by decide) (by decide) W2 #[.int .i64 (a + 1)] (.slice A2 (besN f a 2).length cc2) (besN f a 2).length _ rfl ho.out rfl rfl rfl (by omega) hs ?_; intro v' w6 hown' hgrow)
      go_meet
      exact ⟨_, rfl, Lib.hid (by rw [e3.out, e4.out]; exact hown'), Lib.hid (hb.out.grown hgrow hs (fun g hg => (ho.out.lt g hg).1))⟩
    · have e1 : decide (C < f.wide - 1) = false := by simp; omega
      have e2 := S2.out
      rw [if_neg (by omega)] at e2
      have e3 := rn_no e2
      replace e2 := Lib.hid e2
      replace e3 := Lib.hid e3
      go_wp2_with fail
      go_meet
      exact ⟨_, rfl, by unfold RnRel; rw [e3.out]; exact ⟨ho, hb⟩⟩
  case rest =>
  obtain ⟨W3, rfl, hrel3⟩ := hcut
  have hkk3 := hk1.out.below hrel3.2.out hk1lt
  have c0 := hkk3.cell 0
  have c1 := hkk3.cell 1
  obtain ⟨A3, cc3, rfl, _⟩ := own_slice hrel3.1.out
  replace hkk3 := Lib.hid hkk3
  go_upto_if 46 with fail
  go_cut [5] (fun v wx0 => ∃ wx, wx = wx0 ∧ RnRel f a W 4 v wx)
  case first =>
    obtain ⟨ho, hb⟩ := hrel3
    have hs := hb.out.size
    have hNk := hN.out 3
    by_cases q : R < f.high - 1
    · have e1 : decide (R < f.high - 1) = true := by simp; omega
      have e2 := S3.out
      rw [if_pos (by omega)] at e2
      obtain ⟨e3, e4⟩ := rn_yes e2
      replace e2 := Lib.hid e2
      replace e3 := Lib.hid e3
      replace e4 := Lib.hid e4
      go_wp2_with (at_builtin; refine wpList_app1 rfl (.tmp 47) (.tmp 52) 23 rfl W.heap.size 3 i0 _ 1 8 Tryd.underlying23 hi0 hz0 hz1 hz2 rfl (by decide) (by decide) W3 #[.int .i64 (a + f.wide)] (.slice A3 (besN f a 3).length cc3) (besN f a 3).length _ rfl ho.out rfl rfl rfl (by omega) hs ?_; intro v' w6 hown' hgrow)
      go_meet
      exact ⟨_, rfl, Lib.hid (by rw [e3.out, e4.out]; exact hown'), Lib.hid (hb.out.grown hgrow hs (fun g hg => (ho.out.lt g hg).1))⟩
    · have e1 : decide (R < f.high - 1) = false := by simp; omega
      have e2 := S3.out
      rw [if_neg (by omega)] at e2
      have e3 := rn_no e2
      replace e2 := Lib.hid e2
      replace e3 := Lib.hid e3
      go_wp2_with fail
      go_meet
      exact ⟨_, rfl, by unfold RnRel; rw [e3.out]; exact ⟨ho, hb⟩⟩
  case rest =>
  obtain ⟨W4, rfl, hrel4⟩ := hcut
  have hkk4 := hk1.out.below hrel4.2.out hk1lt
  have c0 := hkk4.cell 0
  have c1 := hkk4.cell 1
  obtain ⟨A4, cc4, rfl, _⟩ := own_slice hrel4.1.out
  replace hkk4 := Lib.hid hkk4
  obtain ⟨ho, hb⟩ := hrel4
  have hfin := hb1.out.trans (hb.out.mono hs1)
  have hof := own_base ho.out hs1
  replace hfin := Lib.hid hfin
  replace hof := Lib.hid hof
  go_wp2_with fail
  go_ret
  exact ⟨_, rfl, hof.out, hfin.out⟩
end Go.Proofs.YtkkdegcbikjebaaDoor
