import Derived.Test.YtkgkpggfoieioaaDoorWorthW
import Derived.Test.YtkgkpggfoieioaaDoorRefKd
import Derived.Deep.CutBlock
import Derived.Deep.DeepCutAuto
namespace Go.Proofs.YtkgkpggfoieioaaDoor
set_option linter.unusedVariables false
open Go.RowKit
/-! The reference's Worth, of kinds and units that may be. -/
set_option maxHeartbeats 3200000 in
set_option maxRecDepth 100000 in
theorem rworth_ok (s : SL) (L : List GK) (B : Nat) (A : Option Addr) (c : Nat) (us : List GU) (w : World) (h : KS w B s L) (hu : RU w B A us) (hB : B ≤ w.heap.size) (hul : us.length ≤ 40) (hI : ∀ u ∈ us, u.ok) (hk : kindsE L = 0) (hno0 : us.any (unitBad L) = false) :
    Calls Tryd.prog 35 #[.slice s.A L.length s.c, .slice A us.length c] w fun e w' => ∃ ob, e = .returned (.tuple #[.slice (some ⟨ob, 0, none⟩) 4 4, .int .i64 0]) ∧ Blk w' ob 3 ((worthN L us us.length).map (Value.int .i64)).toArray ∧ w.heap.size ≤ ob ∧ Below w.heap.size w w' := by
  have hkc := rkinds_any s L B w h hB
  have hcap := h.cap
  have hmx := h.max
  have hK := kindsE_0 hk
  rw [hk] at hkc
  obtain ⟨sA, sc⟩ := s
  dsimp only at hkc hcap hmx ⊢
  replace hkc := Lib.hid hkc
  replace h := Lib.hid h
  replace hu := Lib.hid hu
  replace hk := Lib.hid hk
  replace hI := Lib.hid hI
  replace hno0 := Lib.hid hno0
  · have z1 : ¬ (40 : Int) < (us.length : Int) := by omega
    have hl8 := hK.few
    replace hK := Lib.hid hK
    go_enter Tryd.func35, Tryd.ntmps35
    go_wp2_with fail
    refine hkc.out.mono ?_
    clear hkc
    rintro e w1 ⟨rfl, hb1⟩
    have hs1 := hb1.size
    have hob := Blk.new w1 3 #[.int .i64 0, .int .i64 0, .int .i64 0, .int .i64 0]
    have hb2 : Below w1.heap.size w1 (w1.alloc (.cells #[.int .i64 0, .int .i64 0, .int .i64 0, .int .i64 0] 3)) := (Below.refl _ _).alloc (Nat.le_refl _) _
    replace hb1 := Lib.hid hb1
    have hmk : ∀ w, (Instr.makeSlice 34 (.int .i64 4) (.int .i64 4)).run Tryd.prog w = .ok (.slice (some ⟨w.heap.size, 0, none⟩) 4 4) (w.alloc (.cells #[.int .i64 0, .int .i64 0, .int .i64 0, .int .i64 0] 3)) := fun _ => by kernel_rfl
    go_wp2_with fail
    obtain ⟨ob, hobe⟩ : ∃ ob, w1.heap.size = ob := ⟨_, rfl⟩
    have hbz := hb1.out.trans (hb2.mono hs1)
    rw [hobe] at hob
    rw [hobe]
    generalize (w1.alloc (.cells #[.int .i64 0, .int .i64 0, .int .i64 0, .int .i64 0] 3)) = w2 at *
    have hobs : w.heap.size ≤ ob := by omega
    replace hob := Lib.hid hob
    replace hbz := Lib.hid hbz
    replace hobe := Lib.hid hobe
    clear hb2 hmk hb1
    go_loopw [8] (fun vi wr => ∃ k : Nat, vi = .int .i64 k ∧ k ≤ us.length ∧ Hid ((us.take k).any (unitBad L) = false) ∧ Hid (Blk wr ob 3 ((worthN L us k).map (Value.int .i64)).toArray) ∧ Hid (Below w.heap.size w wr)) (fun vi _ => us.length - (intOf vi).toNat)
    case atStart => exact ⟨0, rfl, Nat.zero_le _, Lib.hid rfl, hob, hbz⟩
    case round =>
      clear hob hbz
      obtain ⟨k, rfl, hkl, hno, hob, hb⟩ := hrel
      by_cases hlt : k < us.length
      · have i1 : (k : Int) < (us.length : Int) := by omega
        have hs := hb.out.size
        obtain ⟨b, o, hA, hbl, c0, c1, c2, c3, c4, c5, c6, c7⟩ := ru_at (hu.out.below (hb.out.mono hB)) k hlt
        subst hA
        have hgood : unitBad L (gu us k) = false := by have := List.any_eq_false.1 hno0.out _ (gu_mem (l := us) (i := k) hlt); simpa using this
        have hset := worthN_set L us k
        obtain ⟨x, hx⟩ : ∃ x, gu us k = x := ⟨_, rfl⟩
        have hnx : unitBad L x = false → Hid ((us.take (k + 1)).any (unitBad L) = false) := fun e => Lib.hid (by
          rw [List.take_succ_eq_append_getElem hlt, List.any_append, hno.out]
          have : us[k] = x := by rw [← hx]; unfold gu; rw [List.getD_eq_getElem?_getD, List.getElem?_eq_getElem hlt]; rfl
          rw [this]; simp [e])
        have hIx : x.ok := by rw [← hx]; exact hI.out _ (gu_mem hlt)
        rw [hx] at c0 c1 c2 c3 c4 c5 c6 c7 hgood hset
        replace hx := Lib.hid hx
        obtain ⟨xi, xp, xk, xs, xl, xo, xt, xg⟩ := x
        obtain ⟨_, q1, q2, _, q4, _⟩ := hIx
        unfold I64 at q1 q2 q4
        dsimp only at c0 c1 c2 c3 c4 c5 c6 c7 q1 q2 q4
        have hxA := Blk.new wr 33 #[.int .i64 xi, .int .i64 xp, .int .i64 xk, .int .i64 xs, .int .i64 xl, .int .i64 xo, .int .i64 xt, .int .i64 xg]
        have hbA : Below w.heap.size w (wr.alloc (.cells #[.int .i64 xi, .int .i64 xp, .int .i64 xk, .int .i64 xs, .int .i64 xl, .int .i64 xo, .int .i64 xt, .int .i64 xg] 33)) := hb.out.alloc hs _
        have hoA := hob.out.alloc (.cells #[.int .i64 xi, .int .i64 xp, .int .i64 xk, .int .i64 xs, .int .i64 xl, .int .i64 xo, .int .i64 xt, .int .i64 xg] 33)
        go_upto_region 11 with fail
        obtain ⟨xb, hxb⟩ : ∃ xb, wr.heap.size = xb := ⟨_, rfl⟩
        rw [hxb] at hxA ⊢
        generalize (wr.alloc (.cells #[.int .i64 xi, .int .i64 xp, .int .i64 xk, .int .i64 xs, .int .i64 xl, .int .i64 xo, .int .i64 xt, .int .i64 xg] 33)) = wA at *
        replace hxb := Lib.hid hxb
        have y1 : wA.cell? ⟨xb, 1, none⟩ = some (.int .i64 xp) := hxA.cell 1
        have y2 : wA.cell? ⟨xb, 2, none⟩ = some (.int .i64 xk) := hxA.cell 2
        have y4 : wA.cell? ⟨xb, 4, none⟩ = some (.int .i64 xl) := hxA.cell 4
        have hxl := hxA.lt
        replace hxA := Lib.hid hxA
        replace hbA := Lib.hid hbA
        replace hoA := Lib.hid hoA
        replace hb := Lib.hid hb.out
        replace hob := Lib.hid hob.out
        clear c0 c1 c2 c3 c4 c5 c6 c7
        obtain ⟨f1, f2, f3, f4, f5, f6⟩ := unitBad_no hgood
        dsimp only at f1 f2 f3 f4 f5 f6
        have d0 : decide (xp < 0) = false := decide_eq_false (by omega)
        have d1 : decide (3 < xp) = false := decide_eq_false (by omega)
        have d2 : decide (xk < 0) = false := decide_eq_false (by omega)
        have d3 : decide ((L.length : Int) ≤ xk) = false := decide_eq_false (by omega)
        have d4 : decide (xl < 0) = false := decide_eq_false (by omega)
        obtain ⟨kd, rfl⟩ : ∃ kd : Nat, xk = (kd : Int) := ⟨xk.toNat, by omega⟩
        have hkd : kd < L.length := by omega
        rw [Int.toNat_natCast] at f6
        obtain ⟨bk, okk, hAk, hbk, _, k1, _, _, _, _, k6, _⟩ := rk_at (h.out.rd.below (hbA.out.mono hB)) kd hkd
        dsimp only at hAk
        subst hAk
        have hkind := hK.out.each kd hkd
        have hlf := hkind.life
        have hpr := hkind.price
        replace hkind := Lib.hid hkind
        have d3n : decide (L.length ≤ kd) = false := decide_eq_false (by omega)
        have i3 : (kd : Int) < (L.length : Int) := by omega
        have d5 : decide ((gk L kd).life < xl) = false := decide_eq_false (by omega)
        have hub : unitBad L ⟨xi, xp, (kd : Int), xs, xl, xo, xt, xg⟩ = false := by
          exact hgood
        have hno2 := hnx hub
        obtain ⟨q, rfl⟩ : ∃ q : Nat, xp = (q : Int) := ⟨xp.toNat, by omega⟩
        have hq4 : q < 4 := by omega
        have hset2 := hset q (by simp)
        have hwu : worthU L ⟨xi, (q : Int), (kd : Int), xs, xl, xo, xt, xg⟩ = (gk L kd).price * xl / (gk L kd).life := by unfold worthU; simp
        have hwb := worthU_bd hK.out hub
        rw [hwu] at hset2 hwb
        have hob1 := hoA.out.cell q
        have hlen := worthN_len L us k
        rw [List.getElem?_toArray, List.getElem?_map, List.getElem?_eq_getElem (by omega)] at hob1
        have hgd : (worthN L us k).getD q 0 = (worthN L us k)[q] := by rw [List.getD_eq_getElem?_getD, List.getElem?_eq_getElem (by omega)]; rfl
        have hnoT := hno.out
        have hvb : 0 ≤ (worthN L us k).getD q 0 ∧ (worthN L us k).getD q 0 ≤ 1000 * k := by
          have := worthN_bd (us := us.take k) hK.out hnoT k (by rw [List.length_take]; omega) q
          rwa [worthN_take L us k k (Nat.le_refl _)] at this
        rw [← hgd] at hob1
        simp only [Option.map_some] at hob1
        have hMb : 0 ≤ (gk L kd).price * xl ∧ (gk L kd).price * xl ≤ 1000000 := ⟨Int.mul_nonneg hpr.1 (by omega), Int.le_trans (Int.mul_le_mul hpr.2 (show xl ≤ 1000 by omega) (by omega) (by omega)) (by decide)⟩
        have hdv : ((gk L kd).price * xl).tdiv (gk L kd).life = (gk L kd).price * xl / (gk L kd).life := Int.tdiv_eq_ediv_of_nonneg hMb.1
        have hfr := hoA.out.frozen q
        have hol := hoA.out.lt
        have hbkl : bk < wA.heap.size := Nat.lt_of_lt_of_le hbk (Nat.le_trans hB hbA.out.size)
        have hk40 : k ≤ 40 := by omega
        generalize (worthN L us k).getD q 0 = ov at *
        generalize (gk L kd).price = pr at *
        generalize (gk L kd).life = kl at *
        obtain ⟨Mv, hMv⟩ : ∃ Mv, pr * xl = Mv := ⟨_, rfl⟩
        rw [hMv] at hMb hdv hset2 hwb hwu
        have e1 : IntKind.i64.wrap (pr * xl) = Mv := by rw [hMv]; exact IntWalk.i64_in _ (by omega)
        have e4 : ¬ kl = 0 := by omega
        obtain ⟨Wt, hWt⟩ : ∃ Wt, Mv / kl = Wt := ⟨_, rfl⟩
        rw [hWt] at hdv hset2 hwb hwu
        have hMv2 : IntKind.i64.wrap Mv = Mv := IntWalk.i64_in _ (by omega)
        have e2 : IntKind.i64.wrap Wt = Wt := IntWalk.i64_in _ (by omega)
        have e3 : IntKind.i64.wrap (ov + Wt) = ov + Wt := IntWalk.i64_in _ (by omega)
        replace hset2 := Lib.hid hset2
        replace hwu := Lib.hid hwu
        replace hgd := Lib.hid hgd
        replace hnoT := Lib.hid hnoT
        replace hub := Lib.hid hub
        replace hWt := Lib.hid hWt
        replace hlen := Lib.hid hlen
        replace hset := Lib.hid hset
        replace hnx := Lib.hid hnx
        go_wp2_with fail
        go_quiet (fail)
        have z1 : (wA.drewN nq).cell? ⟨xb, 1, none⟩ = some (.int .i64 (q : Int)) := y1
        have z2 : (wA.drewN nq).cell? ⟨xb, 2, none⟩ = some (.int .i64 (kd : Int)) := y2
        have z4 : (wA.drewN nq).cell? ⟨xb, 4, none⟩ = some (.int .i64 xl) := y4
        have z5 : (wA.drewN nq).cell? ⟨bk, okk + kd * 11 + 1, none⟩ = some (.int .i64 kl) := k1
        have z6 : (wA.drewN nq).cell? ⟨bk, okk + kd * 11 + 6, none⟩ = some (.int .i64 pr) := k6
        have z7 : (wA.drewN nq).cell? ⟨ob, q, none⟩ = some (.int .i64 ov) := hob1
        have z8 : (wA.drewN nq).frozen? ⟨ob, q, none⟩ = false := hfr
        have z9 : ob < (wA.drewN nq).heap.size := hol
        have z10 : xb < (wA.drewN nq).heap.size := hxl
        have z11 : bk < (wA.drewN nq).heap.size := hbkl
        have hbz : Below w.heap.size w ((wA.drewN nq).setCell ⟨ob, q, none⟩ (.int .i64 (ov + Wt))) := (bdrewN hbA.out nq).setCell hobs _
        have hoz := (hoA.out.drewN nq).set_ q (.int .i64 (ov + Wt))
        rw [hset2.out] at hoz
        generalize wA.drewN nq = wz at *
        replace hbz := Lib.hid hbz
        replace hoz := Lib.hid hoz
        clear y1 y2 y4 k1 k6 hob1 hfr hol hxl hbkl
        have z12 : (q : Int) < 4 := by omega
        go_wp2_with fail
        go_still_tail 26, (by kernel_rfl)
        go_wp2_with fail
        go_roundw
        case rel => exact ⟨k + 1, by go_num, by omega, hno2, Lib.hid (hoz.out.drewN 1), Lib.hid (bdrewN hbz.out 1)⟩
        case measure => simp [intOf]; omega
      · have i1 : ¬ (k : Int) < (us.length : Int) := by omega
        obtain rfl : k = us.length := by omega
        go_wp2_with fail
        go_ret2
        exact ⟨ob, rfl, hob.out, hobs, hb.out⟩
end Go.Proofs.YtkgkpggfoieioaaDoor
