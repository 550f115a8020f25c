import Derived.Test.YtkgkpggfoieioaaGreatDoorRefWish
import Derived.Test.YtkgkpggfoieioaaGreatDoorPlainRw
import Derived.BigQuiet
import Derived.Deep.QuietTactic
import Derived.Deep.CutBlock
import Derived.Deep.DeepCutAuto
namespace Go.Proofs.YtkgkpggfoieioaaGreatDoor
set_option linter.unusedVariables false
open Go.RowKit
/-! The reference's wish. -/
theorem bestN_yes {L : List GK} {x : GW} {u : GU} {fl : Bool} {k : Nat} (h : homeB L u (gu x.units k) = true ∧ 0 ≤ at0 (toF x.field fl (gu x.units k).spot.toNat) u.spot.toNat ∧ ((bestN L x u fl k).1 < 0 ∨ at0 (toF x.field fl (gu x.units k).spot.toNat) u.spot.toNat < (bestN L x u fl k).2)) : bestN L x u fl (k + 1) = ((gu x.units k).spot, at0 (toF x.field fl (gu x.units k).spot.toNat) u.spot.toNat) := by
  conv => lhs; unfold bestN
  rw [if_pos h]
theorem bestN_no {L : List GK} {x : GW} {u : GU} {fl : Bool} {k : Nat} (h : ¬ (homeB L u (gu x.units k) = true ∧ 0 ≤ at0 (toF x.field fl (gu x.units k).spot.toNat) u.spot.toNat ∧ ((bestN L x u fl k).1 < 0 ∨ at0 (toF x.field fl (gu x.units k).spot.toNat) u.spot.toNat < (bestN L x u fl k).2))) : bestN L x u fl (k + 1) = bestN L x u fl k := by
  conv => lhs; unfold bestN
  rw [if_neg h]
structure RwB (w0 w : World) (sK : SL) (L : List GK) (s : SW) (x : GW) (wb ub : Nat) (u : GU) (kd a b : Nat) : Prop where
  sb : SBx w0 w sK L s x wb
  ku : Blk w ub 45 #[.int .i64 u.id, .int .i64 u.player, .int .i64 (kd : Int), .int .i64 (a : Int), .int .i64 u.life, .int .i64 u.load, .int .i64 u.task, .int .i64 (b : Int)]
section
variable {w0 w w' : World} {sK : SL} {L : List GK} {s : SW} {x : GW} {wb ub : Nat} {u : GU} {kd a b : Nat}
theorem RwB.below (h : RwB w0 w sK L s x wb ub u kd a b) (hb : Below w.heap.size w w') : RwB w0 w' sK L s x wb ub u kd a b := ⟨h.sb.below hb, h.ku.below hb h.ku.lt⟩
theorem RwB.drewN (h : RwB w0 w sK L s x wb ub u kd a b) (n : Nat) : RwB w0 (w.drewN n) sK L s x wb ub u kd a b := h.below ⟨rfl, rfl, rfl, Nat.le_refl _, fun _ _ => rfl⟩
theorem RwB.alloc (h : RwB w0 w sK L s x wb ub u kd a b) (o : Obj) : RwB w0 (w.alloc o) sK L s x wb ub u kd a b := h.below ((Below.refl _ _).alloc (Nat.le_refl _) o)
theorem RwB.ucells (h : RwB w0 w sK L s x wb ub u kd a b) : w.cell? ⟨ub, 0, none⟩ = some (.int .i64 u.id) ∧ w.cell? ⟨ub, 1, none⟩ = some (.int .i64 u.player) ∧ w.cell? ⟨ub, 2, none⟩ = some (.int .i64 (kd : Int)) ∧ w.cell? ⟨ub, 3, none⟩ = some (.int .i64 (a : Int)) ∧ w.cell? ⟨ub, 4, none⟩ = some (.int .i64 u.life) ∧ w.cell? ⟨ub, 5, none⟩ = some (.int .i64 u.load) ∧ w.cell? ⟨ub, 6, none⟩ = some (.int .i64 u.task) ∧ w.cell? ⟨ub, 7, none⟩ = some (.int .i64 (b : Int)) ∧ ub < w.heap.size := ⟨h.ku.cell 0, h.ku.cell 1, h.ku.cell 2, h.ku.cell 3, h.ku.cell 4, h.ku.cell 5, h.ku.cell 6, h.ku.cell 7, h.ku.lt⟩
theorem SBx.carry {bk okk sc : Nat} (h : SBx w0 w ⟨some ⟨bk, okk, none⟩, sc⟩ L s x wb) (kd : Nat) (hkd : kd < L.length) : w.cell? ⟨bk, okk + kd * 11 + 8, none⟩ = some (.int .i64 (gk L kd).carry) := by
  obtain ⟨b', o', hA', _, _, _, _, _, _, _, _, _, k8, _⟩ := rk_at h.ks_.rd kd hkd
  dsimp only at hA'
  injection hA' with hA'
  injection hA' with e3 e4
  subst e3; subst e4
  exact k8
end
set_option maxHeartbeats 12800000 in
set_option maxRecDepth 100000 in
theorem rwish_any (sK : SL) (L : List GK) (s : SW) (x : GW) (i : Nat) (w : World) (hK : KS w w.heap.size sK L) (hW : WOk w s x) (hm : WM L x) (hi : i < x.units.length) (htk : 0 ≤ (gu x.units i).task ∧ (gu x.units i).task ≤ 2) :
    Calls Tryz.prog 19 #[.slice sK.A L.length sK.c, .agg #[.int .i64 x.turn, .int .i64 x.next, .int .i64 x.field.wide, .int .i64 x.field.high, .slice s.field.ground.A x.field.ground.length s.field.ground.c, .slice s.field.ore.A x.field.ore.length s.field.ore.c, .slice s.gold.A x.gold.length s.gold.c, .slice s.units.A x.units.length s.units.c, .slice s.queue.A x.queue.length s.queue.c], .int .i64 (i : Int)] w fun e w' => e = .returned (.int .i64 ((wishU L x (gu x.units i) : Nat) : Int)) ∧ Below w.heap.size w w' := by
  obtain ⟨kd, hkd⟩ : ∃ kd : Nat, (gu x.units i).kind = (kd : Int) := ⟨(gu x.units i).kind.toNat, by have := hm.kind i hi; omega⟩
  obtain ⟨a, hsa⟩ : ∃ a : Nat, (gu x.units i).spot = (a : Int) := ⟨(gu x.units i).spot.toNat, by have := hm.spot i hi; omega⟩
  obtain ⟨b, hsb⟩ : ∃ b : Nat, (gu x.units i).goal = (b : Int) := ⟨(gu x.units i).goal.toNat, by have := hm.goal i hi; omega⟩
  have hkl : kd < L.length := by have := hm.kind i hi; omega
  have ha : a < x.field.ground.length := by have := hm.spot i hi; omega
  have hb : b < x.field.ground.length := by have := hm.goal i hi; omega
  have hgl : x.field.ground.length ≤ 144 := by have := hm.good.len; omega
  have hol : x.field.ore.length = x.field.ground.length := by have := hm.good.len; omega
  obtain ⟨R, hR⟩ : ∃ R, wishU L x (gu x.units i) = R := ⟨_, rfl⟩
  rw [hR]
  unfold wishU at hR
  rw [hkd, hsa, hsb, Int.toNat_natCast, Int.toNat_natCast, Int.toNat_natCast] at hR
  have hin0 : ∀ fl, (homeN L x (gu x.units i) fl x.units.length).1 < x.field.ground.length := fun fl => homeN_in hm (by rw [hsa, Int.toNat_natCast]; exact ha) _ (Nat.le_refl _)
  have hbh := fun fl => best_home (u := gu x.units i) (fl := fl) hm x.units.length (Nat.le_refl _)
  rw [hsa, Int.toNat_natCast] at hbh
  have hii : (i : Int) < (x.units.length : Int) := by omega
  have hkli : (kd : Int) < (L.length : Int) := by omega
  have hB : SBx w (w.alloc (.cells #[.int .i64 x.turn, .int .i64 x.next, .int .i64 x.field.wide, .int .i64 x.field.high, .slice s.field.ground.A x.field.ground.length s.field.ground.c, .slice s.field.ore.A x.field.ore.length s.field.ore.c, .slice s.gold.A x.gold.length s.gold.c, .slice s.units.A x.units.length s.units.c, .slice s.queue.A x.queue.length s.queue.c] 29)) sK L s x w.heap.size := sbx_start w sK L s x hK hW
  obtain ⟨sA, sc⟩ := sK
  dsimp only
  have hcap := hK.cap
  have hmx := hK.max
  have hul := hW.ulen
  dsimp only at hcap hmx
  replace hB := Lib.hid hB
  replace hm := Lib.hid hm
  replace hR := Lib.hid hR
  replace hol := Lib.hid hol
  replace hin0 := Lib.hid hin0
  replace hbh := Lib.hid hbh
  clear hK hW
  go_enter Tryz.func19, Tryz.ntmps19
  go_upto_region 1 with fail
  generalize (w.alloc (.cells #[.int .i64 x.turn, .int .i64 x.next, .int .i64 x.field.wide, .int .i64 x.field.high, .slice s.field.ground.A x.field.ground.length s.field.ground.c, .slice s.field.ore.A x.field.ore.length s.field.ore.c, .slice s.gold.A x.gold.length s.gold.c, .slice s.units.A x.units.length s.units.c, .slice s.queue.A x.queue.length s.queue.c] 29)) = W at *
  obtain ⟨wb, hwb⟩ : ∃ wb, w.heap.size = wb := ⟨_, rfl⟩
  rw [hwb] at hB
  rw [hwb]
  replace hB : SBx w W ⟨sA, sc⟩ L s x wb := hB.out
  replace hB := Lib.hid hB
  replace hwb := Lib.hid hwb
  obtain ⟨bk, okk, hAk, -⟩ := rk_at hB.out.ks_.rd kd hkl
  dsimp only at hAk
  subst hAk
  obtain ⟨xb, xo, hXA, _, p0, p1, p2, p3, p4, p5, p6, p7⟩ := ru_at hB.out.wo_.2.2.2.2.1.1 i hi
  rw [hkd] at p2
  rw [hsa] at p3
  rw [hsb] at p7
  obtain ⟨u, hu⟩ : ∃ u, gu x.units i = u := ⟨_, rfl⟩
  obtain ⟨kf, hkf⟩ : ∃ kf, (gk L kd).flies = kf := ⟨_, rfl⟩
  obtain ⟨kc, hkc⟩ : ∃ kc, (gk L kd).carry = kc := ⟨_, rfl⟩
  rw [hu] at p0 p1 p4 p5 p6 htk
  rw [hu] at hR hin0 hsa hkd hsb hbh
  rw [hkf, hkc] at hR
  replace hu := Lib.hid hu
  replace hsa := Lib.hid hsa
  replace hsb := Lib.hid hsb
  replace hkd := Lib.hid hkd
  obtain ⟨_, _, _, _, _, _, _, m7, _, mll⟩ := hB.out.cells
  rw [hXA] at m7
  replace hXA := Lib.hid hXA
  replace htk := Lib.hid htk
  go_upto_region 2 with fail
  have hku : Blk (W.alloc (.cells #[.int .i64 u.id, .int .i64 u.player, .int .i64 (kd : Int), .int .i64 (a : Int), .int .i64 u.life, .int .i64 u.load, .int .i64 u.task, .int .i64 (b : Int)] 45)) W.heap.size 45 #[.int .i64 u.id, .int .i64 u.player, .int .i64 (kd : Int), .int .i64 (a : Int), .int .i64 u.life, .int .i64 u.load, .int .i64 u.task, .int .i64 (b : Int)] := Blk.new _ _ _
  have hBn := hB.out.alloc (.cells #[.int .i64 u.id, .int .i64 u.player, .int .i64 (kd : Int), .int .i64 (a : Int), .int .i64 u.life, .int .i64 u.load, .int .i64 u.task, .int .i64 (b : Int)] 45)
  clear hB p0 p1 p2 p3 p4 p5 p6 p7 m7 mll
  generalize (W.alloc (.cells #[.int .i64 u.id, .int .i64 u.player, .int .i64 (kd : Int), .int .i64 (a : Int), .int .i64 u.life, .int .i64 u.load, .int .i64 u.task, .int .i64 (b : Int)] 45)) = W3 at *
  obtain ⟨ub, hub⟩ : ∃ ub, W.heap.size = ub := ⟨_, rfl⟩
  rw [hub] at hku ⊢
  clear hub
  have hB : Hid (RwB w W3 ⟨some ⟨bk, okk, none⟩, sc⟩ L s x wb ub u kd a b) := Lib.hid ⟨hBn, hku⟩
  clear hBn hku
  have g9 := hB.out.sb.flies kd hkl
  have g8 := hB.out.sb.carry kd hkl
  rw [hkf] at g9
  rw [hkc] at g8
  replace hkf := Lib.hid hkf
  replace hkc := Lib.hid hkc
  obtain ⟨v0, v1, v2, v3, v4, v5, v6, v7, vl⟩ := hB.out.ucells
  obtain ⟨m0, m1, m2, m3, m4, m5, m6, m7, m8, mll⟩ := hB.out.sb.cells
  by_cases t0 : u.task = 0
  · as_aux_lemma =>
    have hr := hR.out
    rw [if_neg (by rw [t0]; decide), if_neg (by rw [t0]; decide)] at hr
    subst hr
    clear hR
    have d0 : (u.task == 0) = true := by simp [t0]
    replace t0 := Lib.hid t0
    have hbf := hB.out.sb.b
    replace hbf := Lib.hid hbf
    go_wp2_with fail
    go_ret
    exact ⟨rfl, hbf.out⟩
  have d0 : (u.task == 0) = false := by simp [t0]
  replace t0 := Lib.hid t0
  have hor : SLI W3 s.field.ore x.field.ore := hB.out.sb.wo_.2.2.1.2.2.2
  obtain ⟨ob, oo, hOA, _⟩ := hor.1.addr (by rw [hol.out]; omega)
  have hoc : W3.cell? ⟨ob, oo + b, none⟩ = some (.int .i64 (x.field.ore.getD b 0)) := by
    have hbl : b < x.field.ore.length := by rw [hol.out]; exact hb
    have := hor.1.at_ hOA (j := b) (by omega)
    rw [List.getElem?_map, List.getElem?_eq_getElem hbl] at this
    rw [List.getD_eq_getElem?_getD, List.getElem?_eq_getElem hbl]
    simpa using this
  have hr := hR.out
  unfold oreB at hr
  rw [hsb.out, Int.toNat_natCast] at hr
  clear hR
  obtain ⟨ov, hov⟩ : ∃ ov, x.field.ore.getD b 0 = ov := ⟨_, rfl⟩
  rw [hov] at hoc hr
  have hbo : (b : Int) < (x.field.ore.length : Int) := by have := hol.out; omega
  rw [hOA] at m5
  clear hor hov
  replace hOA := Lib.hid hOA
  replace hr := Lib.hid hr
  go_upto_region 5 with fail
  obtain ⟨q, hq⟩ : ∃ q, (decide (u.task = 1) || (decide (u.load < kc) && decide (0 < ov))) = q := ⟨_, rfl⟩
  replace hq := Lib.hid hq
  go_cut [53] (fun t wx => t = .bool q ∧ ∃ nq, wx = W3.drewN nq)
  case first =>
    as_aux_lemma =>
    have hq1 := hq.out
    clear hq hr
    by_cases t1 : u.task = 1
    · have d1 : (u.task == 1) = true := by simp [t1]
      rw [decide_eq_true t1, Bool.true_or] at hq1
      subst hq1
      replace t1 := Lib.hid t1
      go_wp2_with fail
      go_quiet (fail)
      go_wp2_with fail
      go_meet
      exact ⟨rfl, _, rfl⟩
    have d1 : (u.task == 1) = false := by simp [t1]
    rw [decide_eq_false t1, Bool.false_or] at hq1
    replace t1 := Lib.hid t1
    by_cases c1 : u.load < kc
    · have e1 : decide (u.load < kc) = true := decide_eq_true c1
      by_cases c2 : 0 < ov
      · have e2 : decide (0 < ov) = true := decide_eq_true c2
        rw [e1, e2] at hq1
        subst hq1
        go_wp2_with fail
        go_quiet (fail)
        go_wp2_with fail
        go_meet
        exact ⟨rfl, _, rfl⟩
      · have e2 : decide (0 < ov) = false := decide_eq_false c2
        rw [e1, e2] at hq1
        subst hq1
        go_wp2_with fail
        go_quiet (fail)
        go_wp2_with fail
        go_meet
        exact ⟨rfl, _, rfl⟩
    · have e1 : decide (u.load < kc) = false := decide_eq_false c1
      rw [e1, Bool.false_and] at hq1
      subst hq1
      go_wp2_with fail
      go_quiet (fail)
      go_wp2_with fail
      go_meet
      exact ⟨rfl, _, rfl⟩
  case rest =>
  obtain ⟨rfl, nq, rfl⟩ := hcut
  have hBn := hB.out.drewN nq
  clear hoc hbo g9 g8 hB
  clear m0 m1 m2 m3 m4 m5 m6 m7 m8 mll
  clear v0 v1 v2 v3 v4 v5 v6 v7 vl
  generalize W3.drewN nq = W4 at *
  have hB := Lib.hid hBn
  clear hBn
  obtain ⟨v0, v1, v2, v3, v4, v5, v6, v7, vl⟩ := hB.out.ucells
  obtain ⟨m0, m1, m2, m3, m4, m5, m6, m7, m8, mll⟩ := hB.out.sb.cells
  cases q with
  | true =>
    as_aux_lemma =>
    have hrR : towardL x.field kf a b = R := by
      have h1 := hr.out
      have h2 := hq.out
      have h3 := t0.out
      have h4 := htk.out
      by_cases t1 : u.task = 1
      · rw [if_pos t1] at h1; exact h1
      · rw [if_neg t1, if_pos (by omega)] at h1
        rw [decide_eq_false t1, Bool.false_or] at h2
        rw [if_pos h2] at h1; exact h1
    have htw : Calls Tryz.prog 45 #[.agg #[.int .i64 x.turn, .int .i64 x.next, .int .i64 x.field.wide, .int .i64 x.field.high, .slice s.field.ground.A x.field.ground.length s.field.ground.c, .slice s.field.ore.A x.field.ore.length s.field.ore.c, .slice s.gold.A x.gold.length s.gold.c, .slice s.units.A x.units.length s.units.c, .slice s.queue.A x.queue.length s.queue.c], .int .i64 (a : Int), .int .i64 (b : Int), .bool kf] W4 fun e w' => e = .returned (.int .i64 ((towardL x.field kf a b : Nat) : Int)) ∧ Below W4.heap.size W4 w' := rtoward_any s x a b kf W4 hB.out.sb.wo_ hm.out.good ha hb
    rw [hrR] at htw
    replace htw := Lib.hid htw
    clear hrR hr
    have hbf := hB.out.sb.b
    replace hbf := Lib.hid hbf
    go_wp2_with fail
    refine htw.out.mono ?_
    rintro e W5 ⟨rfl, hb4⟩
    have hbg := hbf.out.trans (hb4.mono hbf.out.size)
    clear hb4
    replace hbg := Lib.hid hbg
    clear v0 v1 v2 v3 v4 v5 v6 v7 vl
    clear m0 m1 m2 m3 m4 m5 m6 m7 m8 mll
    go_wp2_with fail
    go_ret
    exact ⟨rfl, hbg.out⟩
  | false =>
  have hr1 : towardL x.field kf a (homeN L x u kf x.units.length).1 = R := by
    have h1 := hr.out
    have h2 := hq.out
    have h3 := t0.out
    have h4 := htk.out
    rw [Bool.or_eq_false_iff, decide_eq_false_iff_not] at h2
    rw [if_neg h2.1, if_pos (by omega), if_neg (by rw [h2.2]; decide)] at h1
    exact h1
  clear hr hq
  have hr := Lib.hid hr1
  clear hr1
  replace m7 : W4.cell? ⟨wb, 7, none⟩ = some (.slice (some ⟨xb, xo, none⟩) x.units.length s.units.c) := by rw [← hXA.out]; exact m7
  go_wp2_with fail
  clear v0 v1 v2 v3 v4 v5 v6 v7 vl
  clear m0 m1 m2 m3 m4 m5 m6 m7 m8 mll
  go_loopw [9, 10, 11] (fun v9 v10 v11 wr => ∃ k : Nat, v11 = .int .i64 k ∧ k ≤ x.units.length ∧ v9 = .int .i64 (bestN L x u kf k).1 ∧ v10 = .int .i64 (bestN L x u kf k).2 ∧ Hid (RwB w wr ⟨some ⟨bk, okk, none⟩, sc⟩ L s x wb ub u kd a b)) (fun _ _ v11 _ => x.units.length - (intOf v11).toNat)
  case atStart => exact ⟨0, rfl, Nat.zero_le _, rfl, rfl, hB⟩
  case round =>
    clear hB
    obtain ⟨k, rfl, hk, rfl, rfl, hB⟩ := hrel
    obtain ⟨m0, m1, m2, m3, m4, m5, m6, m7, m8, mll⟩ := hB.out.sb.cells
    by_cases hlt : k < x.units.length
    · as_aux_lemma =>
      replace m7 : wr.cell? ⟨wb, 7, none⟩ = some (.slice (some ⟨xb, xo, none⟩) x.units.length s.units.c) := by rw [← hXA.out]; exact m7
      have z1 : (k : Int) < (x.units.length : Int) := by omega
      have hyes := @bestN_yes L x u kf k
      have hno := @bestN_no L x u kf k
      unfold homeB at hyes hno
      obtain ⟨xb', xo', hXA', _, p0, p1, p2, p3, p4, p5, p6, p7⟩ := ru_at hB.out.sb.wo_.2.2.2.2.1.1 k hlt
      rw [hXA.out] at hXA'
      injection hXA' with hA'
      injection hA' with e3 e4
      subst e3; subst e4
      obtain ⟨c, hsc⟩ : ∃ c : Nat, (gu x.units k).spot = (c : Int) := ⟨(gu x.units k).spot.toNat, by have := hm.out.spot k hlt; omega⟩
      obtain ⟨kv, hkv⟩ : ∃ kv : Nat, (gu x.units k).kind = (kv : Int) := ⟨(gu x.units k).kind.toNat, by have := hm.out.kind k hlt; omega⟩
      have hcl : c < x.field.ground.length := by have := hm.out.spot k hlt; omega
      have hkvl : kv < L.length := by have := hm.out.kind k hlt; omega
      have hkvi : (kv : Int) < (L.length : Int) := by omega
      have hai : (a : Int) < (x.field.ground.length : Int) := by omega
      rw [hsc, hkv, hsa.out, Int.toNat_natCast, Int.toNat_natCast, Int.toNat_natCast] at hyes hno
      rw [hsc] at p3
      rw [hkv] at p2
      clear hsc hkv
      generalize gu x.units k = v at *
      obtain ⟨hl, hhl⟩ : ∃ hl, bestN L x u kf k = hl := ⟨_, rfl⟩
      rw [hhl] at hyes hno ⊢
      obtain ⟨hh, ll⟩ := hl
      dsimp only at hyes hno ⊢
      clear hhl
      replace hyes := Lib.hid hyes
      replace hno := Lib.hid hno
      go_upto_region 13 with fail
      clear p0 p1 p2 p3 p4 p5 p6 p7 m0 m1 m2 m3 m4 m5 m6 m7 m8 mll
      have hv : Blk (wr.alloc (.cells #[.int .i64 v.id, .int .i64 v.player, .int .i64 (kv : Int), .int .i64 (c : Int), .int .i64 v.life, .int .i64 v.load, .int .i64 v.task, .int .i64 v.goal] 45)) wr.heap.size 45 #[.int .i64 v.id, .int .i64 v.player, .int .i64 (kv : Int), .int .i64 (c : Int), .int .i64 v.life, .int .i64 v.load, .int .i64 v.task, .int .i64 v.goal] := Blk.new _ _ _
      have hBn := hB.out.alloc (.cells #[.int .i64 v.id, .int .i64 v.player, .int .i64 (kv : Int), .int .i64 (c : Int), .int .i64 v.life, .int .i64 v.load, .int .i64 v.task, .int .i64 v.goal] 45)
      clear hB
      generalize (wr.alloc (.cells #[.int .i64 v.id, .int .i64 v.player, .int .i64 (kv : Int), .int .i64 (c : Int), .int .i64 v.life, .int .i64 v.load, .int .i64 v.task, .int .i64 v.goal] 45)) = W5 at *
      obtain ⟨vb, hvb⟩ : ∃ vb, wr.heap.size = vb := ⟨_, rfl⟩
      rw [hvb] at hv ⊢
      clear hvb
      have hB := Lib.hid hBn
      clear hBn
      have g1 : W5.cell? ⟨vb, 1, none⟩ = some (.int .i64 v.player) := hv.cell 1
      have g2 : W5.cell? ⟨vb, 2, none⟩ = some (.int .i64 (kv : Int)) := hv.cell 2
      have g10 := hB.out.sb.trains kv hkvl
      have v1 : W5.cell? ⟨ub, 1, none⟩ = some (.int .i64 u.player) := hB.out.ku.cell 1
      replace hv := Lib.hid hv
      obtain ⟨tr, htr⟩ : ∃ tr, (gk L kv).trains = tr := ⟨_, rfl⟩
      rw [htr] at g10
      by_cases e1 : v.player = u.player
      case neg =>
        have q1 : (v.player != u.player) = true := by simp [e1]
        have hs := Lib.hid (hno.out (fun c => e1 (by have := c.1; rw [Bool.and_eq_true] at this; simpa using this.1)))
        clear hyes hno htr
        replace e1 := Lib.hid e1
        go_wp2_with fail
        go_roundw
        case rel => exact ⟨k + 1, by go_num, by omega, by rw [hs.out], by rw [hs.out], hB⟩
        case measure => simp [intOf]; omega
      have q1 : (v.player != u.player) = false := by simp [e1]
      cases tr with
      | false =>
        have hs := Lib.hid (hno.out (fun c => by have := c.1; rw [Bool.and_eq_true, htr] at this; cases this.2))
        clear hyes hno
        replace htr := Lib.hid htr
        replace e1 := Lib.hid e1
        go_wp2_with fail
        go_roundw
        case rel => exact ⟨k + 1, by go_num, by omega, by rw [hs.out], by rw [hs.out], hB⟩
        case measure => simp [intOf]; omega
      | true =>
        have hhb : (v.player == u.player && (gk L kv).trains) = true := by rw [htr]; simp [e1]
        replace hhb := Lib.hid hhb
        replace htr := Lib.hid htr
        replace e1 := Lib.hid e1
        go_upto_region 14 with fail
        clear g1 g2 g10 v1 q1
        have hS : ∀ wz, (RwB w wz ⟨some ⟨bk, okk, none⟩, sc⟩ L s x wb ub u kd a b) → Blk wz vb 45 #[.int .i64 v.id, .int .i64 v.player, .int .i64 (kv : Int), .int .i64 (c : Int), .int .i64 v.life, .int .i64 v.load, .int .i64 v.task, .int .i64 v.goal] → (fun wz : World => wz.cell? ⟨wb, 2, none⟩ = some (.int .i64 x.field.wide) ∧ wz.cell? ⟨wb, 3, none⟩ = some (.int .i64 x.field.high) ∧ wz.cell? ⟨wb, 4, none⟩ = some (.slice s.field.ground.A x.field.ground.length s.field.ground.c) ∧ wz.cell? ⟨wb, 5, none⟩ = some (.slice s.field.ore.A x.field.ore.length s.field.ore.c) ∧ wz.cell? ⟨vb, 3, none⟩ = some (.int .i64 (c : Int)) ∧ wz.cell? ⟨ub, 3, none⟩ = some (.int .i64 (a : Int))) wz := fun wz h h2 => by
          obtain ⟨_, _, m2, m3, m4, m5, _, _, _, _⟩ := h.sb.cells
          exact ⟨m2, m3, m4, m5, h2.cell 3, h.ku.cell 3⟩
        have hBn := hB.out.drewN 1
        have hvn := hv.out.drewN 1
        clear hB hv
        have hB : Hid (RwB w W5.drew ⟨some ⟨bk, okk, none⟩, sc⟩ L s x wb ub u kd a b) := Lib.hid hBn
        have hv : Hid (Blk W5.drew vb 45 #[.int .i64 v.id, .int .i64 v.player, .int .i64 (kv : Int), .int .i64 (c : Int), .int .i64 v.life, .int .i64 v.load, .int .i64 v.task, .int .i64 v.goal]) := Lib.hid hvn
        clear hBn hvn
        have hto : Calls Tryz.prog 46 #[.agg #[.int .i64 x.field.wide, .int .i64 x.field.high, .slice s.field.ground.A x.field.ground.length s.field.ground.c, .slice s.field.ore.A x.field.ore.length s.field.ore.c], .int .i64 (c : Int), .bool kf] W5.drew (SprPost W5.drew x.field c (costTo x.field kf)) := rto_any s.field x.field c kf W5.drew hB.out.sb.wo_.2.2.1 hm.out.good hcl
        replace hto := Lib.hid hto
        have hS0 := hS _ hB.out hv.out
        replace hS := Lib.hid hS
        refine wp_region_noPanic ?_
        refine wp_region_held_drew (S := (fun wz : World => wz.cell? ⟨wb, 2, none⟩ = some (.int .i64 x.field.wide) ∧ wz.cell? ⟨wb, 3, none⟩ = some (.int .i64 x.field.high) ∧ wz.cell? ⟨wb, 4, none⟩ = some (.slice s.field.ground.A x.field.ground.length s.field.ground.c) ∧ wz.cell? ⟨wb, 5, none⟩ = some (.slice s.field.ore.A x.field.ore.length s.field.ore.c) ∧ wz.cell? ⟨vb, 3, none⟩ = some (.int .i64 (c : Int)) ∧ wz.cell? ⟨ub, 3, none⟩ = some (.int .i64 (a : Int)))) (by kernel_rfl) hS0 (fun hHeld => ?_)
        clear hS0
        generalize W5.drew = Wd at *
        refine wpAnyH_take (i := 0) (oi := _) (v := ?_) rfl (by kernel_rfl) (by kernel_rfl) (by kernel_rfl) (fun _ _ _ h => h) (Or.inl ⟨by rfl, ?_⟩) (by assumption) ?_
        rotate_left
        · intro w' hSw
          try dsimp only at hSw
          first | (go_simp; done) | (go_simp; with_reducible rfl)
        try simp only [Act.put]
        try simp only [List.setIfInBounds_toArray]
        try simp only [List.set_cons_succ, List.set_cons_zero]
        try simp only [List.getElem_toArray]
        try simp only [List.getElem_cons_succ]
        try simp only [List.getElem_cons_zero]
        refine wpAnyH_take (i := 1) (oi := _) (v := ?_) rfl (by kernel_rfl) (by kernel_rfl) (by kernel_rfl) (fun _ _ _ h => h) (Or.inl ⟨by rfl, ?_⟩) (by assumption) ?_
        rotate_left
        · intro w' hSw
          try dsimp only at hSw
          first | (go_simp; done) | (go_simp; with_reducible rfl)
        try simp only [Act.put]
        try simp only [List.setIfInBounds_toArray]
        try simp only [List.set_cons_succ, List.set_cons_zero]
        try simp only [List.getElem_toArray]
        try simp only [List.getElem_cons_succ]
        try simp only [List.getElem_cons_zero]
        refine wpAnyH_take (i := 2) (oi := _) (v := ?_) rfl (by kernel_rfl) (by kernel_rfl) (by kernel_rfl) (fun _ _ _ h => h) (Or.inl ⟨by rfl, ?_⟩) (by assumption) ?_
        rotate_left
        · intro w' hSw
          try dsimp only at hSw
          first | (go_simp; done) | (go_simp; with_reducible rfl)
        try simp only [Act.put]
        try simp only [List.setIfInBounds_toArray]
        try simp only [List.set_cons_succ, List.set_cons_zero]
        try simp only [List.getElem_toArray]
        try simp only [List.getElem_cons_succ]
        try simp only [List.getElem_cons_zero]
        refine wpAnyH_take (i := 3) (oi := _) (v := ?_) rfl (by kernel_rfl) (by kernel_rfl) (by kernel_rfl) (fun _ _ _ h => h) (Or.inl ⟨by rfl, ?_⟩) (by assumption) ?_
        rotate_left
        · intro w' hSw
          try dsimp only at hSw
          first | (go_simp; done) | (go_simp; with_reducible rfl)
        try simp only [Act.put]
        try simp only [List.setIfInBounds_toArray]
        try simp only [List.set_cons_succ, List.set_cons_zero]
        try simp only [List.getElem_toArray]
        try simp only [List.getElem_cons_succ]
        try simp only [List.getElem_cons_zero]
        refine wpAnyH_take (i := 4) (oi := _) (v := ?_) rfl (by kernel_rfl) (by kernel_rfl) (by kernel_rfl) (fun _ _ _ h => h) (Or.inl ⟨by rfl, ?_⟩) (by assumption) ?_
        rotate_left
        · intro w' hSw
          try dsimp only at hSw
          first | (go_simp; done) | (go_simp; with_reducible rfl)
        try simp only [Act.put]
        try simp only [List.setIfInBounds_toArray]
        try simp only [List.set_cons_succ, List.set_cons_zero]
        try simp only [List.getElem_toArray]
        try simp only [List.getElem_cons_succ]
        try simp only [List.getElem_cons_zero]
        refine wpAnyH_take (i := 6) (oi := _) (v := ?_) rfl (by kernel_rfl) (by kernel_rfl) (by kernel_rfl) (fun _ _ _ h => h) (Or.inl ⟨by rfl, ?_⟩) (by assumption) ?_
        rotate_left
        · intro w' hSw
          try dsimp only at hSw
          first | (go_simp; done) | (go_simp; with_reducible rfl)
        try simp only [Act.put]
        try simp only [List.setIfInBounds_toArray]
        try simp only [List.set_cons_succ, List.set_cons_zero]
        try simp only [List.getElem_toArray]
        try simp only [List.getElem_cons_succ]
        try simp only [List.getElem_cons_zero]
        refine wpAnyH_take (i := 7) (oi := _) (v := ?_) rfl (by kernel_rfl) (by kernel_rfl) (by kernel_rfl) (fun _ _ _ h => h) (Or.inl ⟨by rfl, ?_⟩) (by assumption) ?_
        rotate_left
        · intro w' hSw
          try dsimp only at hSw
          first | (go_simp; done) | (go_simp; with_reducible rfl)
        try simp only [Act.put]
        try simp only [List.setIfInBounds_toArray]
        try simp only [List.set_cons_succ, List.set_cons_zero]
        try simp only [List.getElem_toArray]
        try simp only [List.getElem_cons_succ]
        try simp only [List.getElem_cons_zero]
        refine wpAnyH_ready (rs := [5]) (by kernel_rfl) (by simp) ?_
        refine AllReadyH.cons (o := { dst := some 92, op := .call { callee := .value (.func 46), args := #[.tmp 88, .tmp 90, .tmp 91], argTypes := #[25, 3, 4] }, type := _, pos := _, after := _, guard := none }) rfl (fun K hK => ?_) AllReadyH.nil
        go_simp
        refine hto.out.mono ?_
        rintro e W6 ⟨g, far, rfl, hd, hgg, hkg, hb6⟩
        have hBn := hB.out.below hb6
        have hvn := hv.out.below hb6 hv.out.lt
        clear hB hv hHeld hb6 hto hgg
        have hB := Lib.hid hBn
        have hv := Lib.hid hvn
        clear hBn hvn
        replace hd := Lib.hid hd
        refine hK.out _ _ (hS.out _ hB.out hv.out) (fun hHeld => ?_)
        clear hK K
        try simp only [Act.put]
        try simp only [List.setIfInBounds_toArray]
        try simp only [List.set_cons_succ, List.set_cons_zero]
        try simp only [List.getElem_toArray]
        try simp only [List.getElem_cons_succ]
        try simp only [List.getElem_cons_zero]
        have cf := hkg.atI a (by rw [hd.out.len]; exact ha)
        replace hkg := Lib.hid hkg
        refine wpAnyH_take (i := 8) (oi := _) (v := ?_) rfl (by kernel_rfl) (by kernel_rfl) (by kernel_rfl) (fun _ _ _ h => h) (Or.inl ⟨by rfl, ?_⟩) (by assumption) ?_
        rotate_left
        · intro w' hSw
          try dsimp only at hSw
          first | (go_simp; done) | (go_simp; with_reducible rfl)
        try simp only [Act.put]
        try simp only [List.setIfInBounds_toArray]
        try simp only [List.set_cons_succ, List.set_cons_zero]
        try simp only [List.getElem_toArray]
        try simp only [List.getElem_cons_succ]
        try simp only [List.getElem_cons_zero]
        refine wpAnyH_ready (rs := [9]) (by kernel_rfl) (by simp) ?_
        refine AllReadyH.cons (o := _) rfl (fun K hK => ?_) AllReadyH.nil
        go_simp
        refine hK.out _ _ hHeld (fun hHeld => ?_)
        clear hK K
        try simp only [Act.put]
        try simp only [List.setIfInBounds_toArray]
        try simp only [List.set_cons_succ, List.set_cons_zero]
        try simp only [List.getElem_toArray]
        try simp only [List.getElem_cons_succ]
        try simp only [List.getElem_cons_zero]
        refine wpAnyH_take (i := 10) (oi := _) (v := ?_) rfl (by kernel_rfl) (by kernel_rfl) (by kernel_rfl) (fun _ _ _ h => h) (Or.inl ⟨by rfl, ?_⟩) (by assumption) ?_
        rotate_left
        · intro w' hSw
          try dsimp only at hSw
          first | (go_simp; done) | (go_simp; with_reducible rfl)
        try simp only [Act.put]
        try simp only [List.setIfInBounds_toArray]
        try simp only [List.set_cons_succ, List.set_cons_zero]
        try simp only [List.getElem_toArray]
        try simp only [List.getElem_cons_succ]
        try simp only [List.getElem_cons_zero]
        refine wpAnyH_done (by kernel_rfl) ?_ _
        refine NoPanic.normal ?_
        clear hHeld hS cf
        try dsimp only [List.set]
        have hdo := hyes.out
        have hdn := hno.out
        rw [toF_eq hd.out] at hdo hdn
        clear hyes hno hd
        have hyes := Lib.hid (fun (h : 0 ≤ at0 far a ∧ (hh < 0 ∨ at0 far a < ll)) => hdo ⟨hhb.out, h⟩)
        have hno := Lib.hid (fun (h : ¬ (0 ≤ at0 far a ∧ (hh < 0 ∨ at0 far a < ll))) => hdn (fun c => h c.2))
        clear hdo hdn hhb
        generalize at0 far a = d at *
        have g3 : W6.cell? ⟨vb, 3, none⟩ = some (.int .i64 (c : Int)) := hv.out.cell 3
        by_cases d0 : 0 ≤ d
        case neg =>
          have hs := Lib.hid (hno.out (fun c => d0 c.1))
          have f0 : decide (0 ≤ d) = false := decide_eq_false d0
          clear hyes hno
          go_wp2_with fail
          go_roundw
          case rel => exact ⟨k + 1, by go_num, by omega, by rw [hs.out], by rw [hs.out], hB⟩
          case measure => simp [intOf]; omega
        have f0 : decide (0 ≤ d) = true := decide_eq_true d0
        by_cases d1 : hh < 0
        · have hs := Lib.hid (hyes.out ⟨d0, .inl d1⟩)
          have f1 : decide (hh < 0) = true := decide_eq_true d1
          clear hyes hno
          go_wp2_with fail
          go_roundw
          case rel => exact ⟨k + 1, by go_num, by omega, by rw [hs.out], by rw [hs.out], hB⟩
          case measure => simp [intOf]; omega
        have f1 : decide (hh < 0) = false := decide_eq_false d1
        by_cases d2 : d < ll
        · have hs := Lib.hid (hyes.out ⟨d0, .inr d2⟩)
          have f2 : decide (d < ll) = true := decide_eq_true d2
          clear hyes hno
          go_wp2_with fail
          go_roundw
          case rel => exact ⟨k + 1, by go_num, by omega, by rw [hs.out], by rw [hs.out], hB⟩
          case measure => simp [intOf]; omega
        · have hs := Lib.hid (hno.out (fun c => c.2.elim d1 d2))
          have f2 : decide (d < ll) = false := decide_eq_false d2
          clear hyes hno
          go_wp2_with fail
          go_roundw
          case rel => exact ⟨k + 1, by go_num, by omega, by rw [hs.out], by rw [hs.out], hB⟩
          case measure => simp [intOf]; omega
    · as_aux_lemma =>
      have z1 : ¬ (k : Int) < (x.units.length : Int) := by omega
      obtain rfl : k = x.units.length := by omega
      have hhn := hin0.out kf
      have hbb := hbh.out kf
      have hr1 := hr.out
      clear hr
      generalize homeN L x u kf x.units.length = hl at *
      generalize bestN L x u kf x.units.length = bl at *
      obtain ⟨hh, ll⟩ := hl
      obtain ⟨be, le⟩ := bl
      dsimp only at hhn hr1 hbb ⊢
      have hbf := hB.out.sb.b
      replace hbf := Lib.hid hbf
      obtain ⟨v0, v1, v2, v3, v4, v5, v6, v7, vl⟩ := hB.out.ucells
      rcases hbb with ⟨h1, h2⟩ | ⟨h1, h2, h3, h4⟩
      · injection h1 with h1 h1b
        injection h2 with h2 h2b
        subst h1
        have hra : (R : Int) = (a : Int) := by rw [← hr1, h2, toward_self hm.out.good kf ha]
        replace hra := Lib.hid hra
        clear hr1 h2
        go_wp2_with fail
        go_ret
        exact ⟨by rw [hra.out]; rfl, hbf.out⟩
      · subst h3
        have f1 : decide ((hh : Int) < 0) = false := by rw [decide_eq_false_iff_not]; omega
        have htw : Calls Tryz.prog 45 #[.agg #[.int .i64 x.turn, .int .i64 x.next, .int .i64 x.field.wide, .int .i64 x.field.high, .slice s.field.ground.A x.field.ground.length s.field.ground.c, .slice s.field.ore.A x.field.ore.length s.field.ore.c, .slice s.gold.A x.gold.length s.gold.c, .slice s.units.A x.units.length s.units.c, .slice s.queue.A x.queue.length s.queue.c], .int .i64 (a : Int), .int .i64 (hh : Int), .bool kf] wr fun e w' => e = .returned (.int .i64 ((towardL x.field kf a hh : Nat) : Int)) ∧ Below wr.heap.size wr w' := rtoward_any s x a hh kf wr hB.out.sb.wo_ hm.out.good ha hhn
        rw [hr1] at htw
        replace htw := Lib.hid htw
        clear hr1 h1 h2 h4
        go_wp2_with fail
        refine htw.out.mono ?_
        rintro e W5 ⟨rfl, hb4⟩
        have hbg := hbf.out.trans (hb4.mono hbf.out.size)
        clear hb4
        replace hbg := Lib.hid hbg
        clear v0 v1 v2 v3 v4 v5 v6 v7 vl
        clear m0 m1 m2 m3 m4 m5 m6 m7 m8 mll
        go_wp2_with fail
        go_ret
        exact ⟨rfl, hbg.out⟩
end Go.Proofs.YtkgkpggfoieioaaGreatDoor
