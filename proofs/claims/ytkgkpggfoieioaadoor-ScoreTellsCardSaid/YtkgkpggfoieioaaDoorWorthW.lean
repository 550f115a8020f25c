import Derived.Test.YtkgkpggfoieioaaDoorWorth
import Derived.Deep.CutBlock
import Derived.Deep.DeepCutAuto
namespace Go.Proofs.YtkgkpggfoieioaaDoor
set_option linter.unusedVariables false
open Go.RowKit
def WorthPost (L : List GK) (us : List GU) (w : World) (e : Ending) (w' : World) : Prop :=
  (worthE L us ≠ 0 ∧ e = .returned (.tuple #[.slice none 0 0, erE (worthE L us)]) ∧ Below w.heap.size w w') ∨
  (worthE L us = 0 ∧ ∃ ob, e = .returned (.tuple #[.slice (some ⟨ob, 0, none⟩) 4 4, .nilIface]) ∧ Blk w' ob 3 ((worthN L us us.length).map (Value.int .i64)).toArray ∧ w.heap.size ≤ ob ∧ Below w.heap.size w w')
theorem any_at {L : List GK} {us : List GU} {k : Nat} (h : k < us.length) (hb : unitBad L (gu us k) = true) : us.any (unitBad L) = true := List.any_eq_true.2 ⟨_, gu_mem h, hb⟩
theorem worthN_set (L : List GK) (us : List GU) (k : Nat) (p : Nat) (hp : (gu us k).player.toNat = p) : ((worthN L us k).map (Value.int .i64)).toArray.setIfInBounds p (.int .i64 ((worthN L us k).getD p 0 + worthU L (gu us k))) = ((worthN L us (k + 1)).map (Value.int .i64)).toArray := by
  rw [worthN, addW, hp]
  simp [List.map_set]
theorem worthN_take (L : List GK) (us : List GU) (m : Nat) : ∀ k, k ≤ m → worthN L (us.take m) k = worthN L us k
  | 0, _ => rfl
  | k + 1, h => by
    rw [worthN, worthN, worthN_take L us m k (by omega)]
    have : gu (us.take m) k = gu us k := by unfold gu; rw [List.getD_eq_getElem?_getD, List.getElem?_take_of_lt (by omega), ← List.getD_eq_getElem?_getD]
    rw [this]
set_option maxHeartbeats 3200000 in
set_option maxRecDepth 100000 in
theorem worth_any (s : SL) (L : List GK) (B : Nat) (A : Option Addr) (c : Nat) (us : List GU) (w : World) (h : KS w B s L) (hu : RU w B A us) (hB : B ≤ w.heap.size) (hul : us.length ≤ 9223372036854775807) (hI : ∀ u ∈ us, u.ok) :
    Calls Tryd.prog 15 #[.slice s.A L.length s.c, .slice A us.length c] w (WorthPost L us w) := by
  have hkc := kcheck_any s L B w h hB
  have hcap := h.cap
  have hmx := h.max
  have hQ : ∀ k w', worthE L us = k → k ≠ 0 → Below w.heap.size w w' → WorthPost L us w (.returned (.tuple #[.slice none 0 0, .iface 93 (.int .i64 k)])) w' := fun k w' h1 h2 h3 => .inl ⟨by rw [h1]; exact h2, by rw [h1]; rfl, h3⟩
  replace hQ := Lib.hid hQ
  replace hI := Lib.hid hI
  have hWE : worthE L us = if kindsE L ≠ 0 then kindsE L else if 40 < us.length then 4 else if us.any (unitBad L) = true then 1 else 0 := rfl
  by_cases hk : kindsE L = 0
  · have hK := kindsE_0 hk
    rw [if_neg (fun e => e hk)] at hWE
    rw [hk] at hkc
    replace hkc : Calls Tryd.prog 14 #[.slice s.A L.length s.c] w fun e w' => e = .returned .nilIface ∧ Below w.heap.size w w' := hkc
    obtain ⟨sA, sc⟩ := s
    dsimp only at hkc hcap hmx ⊢
    replace hkc := Lib.hid hkc
    replace h := Lib.hid h
    replace hu := Lib.hid hu
    replace hk := Lib.hid hk
    by_cases h40 : 40 < us.length
    · rw [if_pos h40] at hWE
      have z1 : (40 : Int) < (us.length : Int) := by omega
      replace hWE := Lib.hid hWE
      go_enter Tryd.func15, Tryd.ntmps15
      go_wp2_with fail
      refine hkc.out.mono ?_
      rintro e w1 ⟨rfl, hb1⟩
      replace hb1 := Lib.hid hb1
      go_wp2_with fail
      go_ret2
      exact hQ.out 4 _ hWE.out (by decide) hb1.out
    rw [if_neg h40] at hWE
    have z1 : ¬ (40 : Int) < (us.length : Int) := by omega
    have hl8 := hK.few
    replace hWE := Lib.hid hWE
    replace hK := Lib.hid hK
    go_enter Tryd.func15, Tryd.ntmps15
    go_wp2_with fail
    refine hkc.out.mono ?_
    clear hkc
    rintro e w1 ⟨rfl, hb1⟩
    have hs1 := hb1.size
    have hob := Blk.new w1 3 #[.int .i64 0, .int .i64 0, .int .i64 0, .int .i64 0]
    have hb2 : Below w1.heap.size w1 (w1.alloc (.cells #[.int .i64 0, .int .i64 0, .int .i64 0, .int .i64 0] 3)) := (Below.refl _ _).alloc (Nat.le_refl _) _
    replace hb1 := Lib.hid hb1
    have hmk : ∀ w, (Instr.makeSlice 34 (.int .i64 4) (.int .i64 4)).run Tryd.prog w = .ok (.slice (some ⟨w.heap.size, 0, none⟩) 4 4) (w.alloc (.cells #[.int .i64 0, .int .i64 0, .int .i64 0, .int .i64 0] 3)) := fun _ => by kernel_rfl
    go_wp2_with fail
    obtain ⟨ob, hobe⟩ : ∃ ob, w1.heap.size = ob := ⟨_, rfl⟩
    have hbz := hb1.out.trans (hb2.mono hs1)
    rw [hobe] at hob
    rw [hobe]
    generalize (w1.alloc (.cells #[.int .i64 0, .int .i64 0, .int .i64 0, .int .i64 0] 3)) = w2 at *
    have hobs : w.heap.size ≤ ob := by omega
    replace hob := Lib.hid hob
    replace hbz := Lib.hid hbz
    replace hobe := Lib.hid hobe
    clear hb2 hmk hb1
    go_loopw [22] (fun vi wr => ∃ k : Nat, vi = .int .i64 k ∧ k ≤ us.length ∧ Hid ((us.take k).any (unitBad L) = false) ∧ Hid (Blk wr ob 3 ((worthN L us k).map (Value.int .i64)).toArray) ∧ Hid (Below w.heap.size w wr)) (fun vi _ => us.length - (intOf vi).toNat)
    case atStart => exact ⟨0, rfl, Nat.zero_le _, Lib.hid rfl, hob, hbz⟩
    case round =>
      clear hob hbz
      obtain ⟨k, rfl, hkl, hno, hob, hb⟩ := hrel
      by_cases hlt : k < us.length
      · have i1 : (k : Int) < (us.length : Int) := by omega
        have hs := hb.out.size
        obtain ⟨b, o, hA, hbl, c0, c1, c2, c3, c4, c5, c6, c7⟩ := ru_at (hu.out.below (hb.out.mono hB)) k hlt
        subst hA
        have hat := any_at (L := L) hlt
        have hbadE : unitBad L (gu us k) = true → worthE L us = 1 := fun e => by rw [hWE.out, if_pos (hat e)]
        have hset := worthN_set L us k
        obtain ⟨x, hx⟩ : ∃ x, gu us k = x := ⟨_, rfl⟩
        have hnx : unitBad L x = false → Hid ((us.take (k + 1)).any (unitBad L) = false) := fun e => Lib.hid (by
          rw [List.take_succ_eq_append_getElem hlt, List.any_append, hno.out]
          have : us[k] = x := by rw [← hx]; unfold gu; rw [List.getD_eq_getElem?_getD, List.getElem?_eq_getElem hlt]; rfl
          rw [this]; simp [e])
        have hIx : x.ok := by rw [← hx]; exact hI.out _ (gu_mem hlt)
        rw [hx] at c0 c1 c2 c3 c4 c5 c6 c7 hbadE hset
        replace hx := Lib.hid hx
        clear hat
        obtain ⟨xi, xp, xk, xs, xl, xo, xt, xg⟩ := x
        obtain ⟨_, q1, q2, _, q4, _⟩ := hIx
        unfold I64 at q1 q2 q4
        dsimp only at c0 c1 c2 c3 c4 c5 c6 c7 q1 q2 q4
        have hxA := Blk.new wr 33 #[.int .i64 xi, .int .i64 xp, .int .i64 xk, .int .i64 xs, .int .i64 xl, .int .i64 xo, .int .i64 xt, .int .i64 xg]
        have hbA : Below w.heap.size w (wr.alloc (.cells #[.int .i64 xi, .int .i64 xp, .int .i64 xk, .int .i64 xs, .int .i64 xl, .int .i64 xo, .int .i64 xt, .int .i64 xg] 33)) := hb.out.alloc hs _
        have hoA := hob.out.alloc (.cells #[.int .i64 xi, .int .i64 xp, .int .i64 xk, .int .i64 xs, .int .i64 xl, .int .i64 xo, .int .i64 xt, .int .i64 xg] 33)
        go_upto_region 10 with fail
        obtain ⟨xb, hxb⟩ : ∃ xb, wr.heap.size = xb := ⟨_, rfl⟩
        rw [hxb] at hxA ⊢
        generalize (wr.alloc (.cells #[.int .i64 xi, .int .i64 xp, .int .i64 xk, .int .i64 xs, .int .i64 xl, .int .i64 xo, .int .i64 xt, .int .i64 xg] 33)) = wA at *
        replace hxb := Lib.hid hxb
        have y1 : wA.cell? ⟨xb, 1, none⟩ = some (.int .i64 xp) := hxA.cell 1
        have y2 : wA.cell? ⟨xb, 2, none⟩ = some (.int .i64 xk) := hxA.cell 2
        have y4 : wA.cell? ⟨xb, 4, none⟩ = some (.int .i64 xl) := hxA.cell 4
        have hxl := hxA.lt
        replace hxA := Lib.hid hxA
        replace hbA := Lib.hid hbA
        replace hoA := Lib.hid hoA
        replace hb := Lib.hid hb.out
        replace hob := Lib.hid hob.out
        clear c0 c1 c2 c3 c4 c5 c6 c7
        by_cases p0 : xp < 0
        · have d0 : decide (xp < 0) = true := decide_eq_true p0
          have hE1 := hbadE (by unfold unitBad; simp; omega)
          replace hE1 := Lib.hid hE1
          replace hbadE := Lib.hid hbadE
          go_wp2_with fail
          go_quiet (fail)
          go_wp2_with fail
          go_ret2
          exact hQ.out 1 _ hE1.out (by decide) (bdrewN hbA.out _)
        have d0 : decide (xp < 0) = false := decide_eq_false p0
        by_cases p1 : 4 ≤ xp
        · have d1 : decide (4 ≤ xp) = true := decide_eq_true p1
          have hE1 := hbadE (by unfold unitBad; simp; omega)
          replace hE1 := Lib.hid hE1
          replace hbadE := Lib.hid hbadE
          go_wp2_with fail
          go_quiet (fail)
          go_wp2_with fail
          go_ret2
          exact hQ.out 1 _ hE1.out (by decide) (bdrewN hbA.out _)
        have d1 : decide (4 ≤ xp) = false := decide_eq_false p1
        by_cases p2 : xk < 0
        · have d2 : decide (xk < 0) = true := decide_eq_true p2
          have hE1 := hbadE (by unfold unitBad; simp; omega)
          replace hE1 := Lib.hid hE1
          replace hbadE := Lib.hid hbadE
          go_wp2_with fail
          go_quiet (fail)
          go_wp2_with fail
          go_ret2
          exact hQ.out 1 _ hE1.out (by decide) (bdrewN hbA.out _)
        have d2 : decide (xk < 0) = false := decide_eq_false p2
        by_cases p3 : (L.length : Int) ≤ xk
        · have d3 : decide ((L.length : Int) ≤ xk) = true := decide_eq_true p3
          have hE1 := hbadE (by unfold unitBad; simp; omega)
          replace hE1 := Lib.hid hE1
          replace hbadE := Lib.hid hbadE
          go_wp2_with fail
          go_quiet (fail)
          go_wp2_with fail
          go_ret2
          exact hQ.out 1 _ hE1.out (by decide) (bdrewN hbA.out _)
        have d3 : decide ((L.length : Int) ≤ xk) = false := decide_eq_false p3
        by_cases p4 : xl < 0
        · have d4 : decide (xl < 0) = true := decide_eq_true p4
          have hE1 := hbadE (by unfold unitBad; simp; omega)
          replace hE1 := Lib.hid hE1
          replace hbadE := Lib.hid hbadE
          go_wp2_with fail
          go_quiet (fail)
          go_wp2_with fail
          go_ret2
          exact hQ.out 1 _ hE1.out (by decide) (bdrewN hbA.out _)
        have d4 : decide (xl < 0) = false := decide_eq_false p4
        obtain ⟨kd, rfl⟩ : ∃ kd : Nat, xk = (kd : Int) := ⟨xk.toNat, by omega⟩
        have hkd : kd < L.length := by omega
        obtain ⟨bk, okk, hAk, hbk, _, k1, _, _, _, _, k6, _⟩ := rk_at (h.out.rd.below (hbA.out.mono hB)) kd hkd
        dsimp only at hAk
        subst hAk
        have hkind := hK.out.each kd hkd
        have hlf := hkind.life
        have hpr := hkind.price
        replace hkind := Lib.hid hkind
        have d3n : decide (L.length ≤ kd) = false := decide_eq_false (by omega)
        have i3 : (kd : Int) < (L.length : Int) := by omega
        by_cases p5 : (gk L kd).life < xl
        · have d5 : decide ((gk L kd).life < xl) = true := decide_eq_true p5
          have hE1 := hbadE (by unfold unitBad; simp; omega)
          replace hE1 := Lib.hid hE1
          replace hbadE := Lib.hid hbadE
          generalize (gk L kd).life = kl at *
          go_wp2_with fail
          go_quiet (fail)
          go_wp2_with fail
          go_ret2
          exact hQ.out 1 _ hE1.out (by decide) (bdrewN hbA.out _)
        have d5 : decide ((gk L kd).life < xl) = false := decide_eq_false p5
        have hub : unitBad L ⟨xi, xp, (kd : Int), xs, xl, xo, xt, xg⟩ = false := by
          unfold unitBad; dsimp only; rw [d0, d1, d2, d3, d4]; simp; omega
        have hno2 := hnx hub
        obtain ⟨q, rfl⟩ : ∃ q : Nat, xp = (q : Int) := ⟨xp.toNat, by omega⟩
        have hq4 : q < 4 := by omega
        have hset2 := hset q (by simp)
        have hwu : worthU L ⟨xi, (q : Int), (kd : Int), xs, xl, xo, xt, xg⟩ = (gk L kd).price * xl / (gk L kd).life := by unfold worthU; simp
        have hwb := worthU_bd hK.out hub
        rw [hwu] at hset2 hwb
        have hob1 := hoA.out.cell q
        have hlen := worthN_len L us k
        rw [List.getElem?_toArray, List.getElem?_map, List.getElem?_eq_getElem (by omega)] at hob1
        have hgd : (worthN L us k).getD q 0 = (worthN L us k)[q] := by rw [List.getD_eq_getElem?_getD, List.getElem?_eq_getElem (by omega)]; rfl
        have hnoT := hno.out
        have hvb : 0 ≤ (worthN L us k).getD q 0 ∧ (worthN L us k).getD q 0 ≤ 1000 * k := by
          have := worthN_bd (us := us.take k) hK.out hnoT k (by rw [List.length_take]; omega) q
          rwa [worthN_take L us k k (Nat.le_refl _)] at this
        rw [← hgd] at hob1
        simp only [Option.map_some] at hob1
        have hMb : 0 ≤ (gk L kd).price * xl ∧ (gk L kd).price * xl ≤ 1000000 := ⟨Int.mul_nonneg hpr.1 (by omega), Int.le_trans (Int.mul_le_mul hpr.2 (show xl ≤ 1000 by omega) (by omega) (by omega)) (by decide)⟩
        have hdv : ((gk L kd).price * xl).tdiv (gk L kd).life = (gk L kd).price * xl / (gk L kd).life := Int.tdiv_eq_ediv_of_nonneg hMb.1
        have hfr := hoA.out.frozen q
        have hol := hoA.out.lt
        have hbkl : bk < wA.heap.size := Nat.lt_of_lt_of_le hbk (Nat.le_trans hB hbA.out.size)
        have hk40 : k ≤ 40 := by omega
        generalize (worthN L us k).getD q 0 = ov at *
        generalize (gk L kd).price = pr at *
        generalize (gk L kd).life = kl at *
        obtain ⟨Mv, hMv⟩ : ∃ Mv, pr * xl = Mv := ⟨_, rfl⟩
        rw [hMv] at hMb hdv hset2 hwb hwu
        have e1 : IntKind.i64.wrap (pr * xl) = Mv := by rw [hMv]; exact IntWalk.i64_in _ (by omega)
        have e4 : ¬ kl = 0 := by omega
        obtain ⟨Wt, hWt⟩ : ∃ Wt, Mv / kl = Wt := ⟨_, rfl⟩
        rw [hWt] at hdv hset2 hwb hwu
        have hMv2 : IntKind.i64.wrap Mv = Mv := IntWalk.i64_in _ (by omega)
        have e2 : IntKind.i64.wrap Wt = Wt := IntWalk.i64_in _ (by omega)
        have e3 : IntKind.i64.wrap (ov + Wt) = ov + Wt := IntWalk.i64_in _ (by omega)
        replace hset2 := Lib.hid hset2
        replace hwu := Lib.hid hwu
        replace hgd := Lib.hid hgd
        replace hnoT := Lib.hid hnoT
        replace hub := Lib.hid hub
        replace hWt := Lib.hid hWt
        replace hlen := Lib.hid hlen
        replace hset := Lib.hid hset
        replace hnx := Lib.hid hnx
        replace hbadE := Lib.hid hbadE
        go_wp2_with fail
        go_quiet (fail)
        have z1 : (wA.drewN nq).cell? ⟨xb, 1, none⟩ = some (.int .i64 (q : Int)) := y1
        have z2 : (wA.drewN nq).cell? ⟨xb, 2, none⟩ = some (.int .i64 (kd : Int)) := y2
        have z4 : (wA.drewN nq).cell? ⟨xb, 4, none⟩ = some (.int .i64 xl) := y4
        have z5 : (wA.drewN nq).cell? ⟨bk, okk + kd * 11 + 1, none⟩ = some (.int .i64 kl) := k1
        have z6 : (wA.drewN nq).cell? ⟨bk, okk + kd * 11 + 6, none⟩ = some (.int .i64 pr) := k6
        have z7 : (wA.drewN nq).cell? ⟨ob, q, none⟩ = some (.int .i64 ov) := hob1
        have z8 : (wA.drewN nq).frozen? ⟨ob, q, none⟩ = false := hfr
        have z9 : ob < (wA.drewN nq).heap.size := hol
        have z10 : xb < (wA.drewN nq).heap.size := hxl
        have z11 : bk < (wA.drewN nq).heap.size := hbkl
        have hbz : Below w.heap.size w ((wA.drewN nq).setCell ⟨ob, q, none⟩ (.int .i64 (ov + Wt))) := (bdrewN hbA.out nq).setCell hobs _
        have hoz := (hoA.out.drewN nq).set_ q (.int .i64 (ov + Wt))
        rw [hset2.out] at hoz
        generalize wA.drewN nq = wz at *
        replace hbz := Lib.hid hbz
        replace hoz := Lib.hid hoz
        clear y1 y2 y4 k1 k6 hob1 hfr hol hxl hbkl
        have z12 : (q : Int) < 4 := by omega
        go_wp2_with fail
        go_still_tail 23, (by kernel_rfl)
        go_wp2_with fail
        go_roundw
        case rel => exact ⟨k + 1, by go_num, by omega, hno2, Lib.hid (hoz.out.drewN 1), Lib.hid (bdrewN hbz.out 1)⟩
        case measure => simp [intOf]; omega
      · have i1 : ¬ (k : Int) < (us.length : Int) := by omega
        obtain rfl : k = us.length := by omega
        have hE0 : worthE L us = 0 := by
          have := hno.out
          rw [List.take_length] at this
          rw [hWE.out, if_neg (by rw [this]; simp)]
        replace hE0 := Lib.hid hE0
        go_wp2_with fail
        go_ret2
        exact .inr ⟨hE0.out, ob, rfl, hob.out, hobs, hb.out⟩
  · rw [if_pos hk] at hWE
    have hev : errV (kindsE L) = erE (kindsE L) := by unfold errV; rw [if_neg hk]
    rw [hev] at hkc
    unfold erE at hkc
    obtain ⟨sA, sc⟩ := s
    dsimp only at hkc hcap hmx ⊢
    generalize kindsE L = E at *
    replace hkc := Lib.hid hkc
    replace h := Lib.hid h
    replace hu := Lib.hid hu
    replace hk := Lib.hid hk
    replace hWE := Lib.hid hWE
    replace hev := Lib.hid hev
    go_enter Tryd.func15, Tryd.ntmps15
    go_wp2_with fail
    refine hkc.out.mono ?_
    rintro e w1 ⟨rfl, hb1⟩
    replace hb1 := Lib.hid hb1
    go_wp2_with fail
    go_ret2
    exact hQ.out E _ hWE.out hk.out hb1.out
end Go.Proofs.YtkgkpggfoieioaaDoor
