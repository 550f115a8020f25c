import Derived.Test.YtkgkpggfoieioaaDoorSpot
import Derived.Test.YtkgkpggfoieioaaDoorNextP
import Derived.Test.YtkgkpggfoieioaaDoorPlainWish
namespace Go.Proofs.YtkgkpggfoieioaaDoor
set_option linter.unusedVariables false
open Go.RowKit
/-! move.toward, move.wish, move.Wish. -/
theorem faultL_two {f : GF} {a b : Nat} (hg : Good f) (ha : a < f.ground.length) (hb : b < f.ground.length) : faultL f [(a : Int), (b : Int)] = 0 := by
  refine faultL_0 f _ (good_to f hg) ?_
  have h1 : badC f.ground.length (a : Int) = false := by unfold badC; rw [decide_eq_false_iff_not]; omega
  have h2 : badC f.ground.length (b : Int) = false := by unfold badC; rw [decide_eq_false_iff_not]; omega
  simp [h1, h2]
set_option maxRecDepth 100000 in
theorem toward_any (s : SF) (f : GF) (a b : Nat) (fl : Bool) (w : World) (hF : FOk w s f) (hg : Good f) (ha : a < f.ground.length) (hb : b < f.ground.length) :
    Calls Tryd.prog 133 #[.agg #[.int .i64 f.wide, .int .i64 f.high, .slice s.ground.A f.ground.length s.ground.c, .slice s.ore.A f.ore.length s.ore.c], .int .i64 (a : Int), .int .i64 (b : Int), .bool fl] w fun e w' => e = .returned (.int .i64 ((towardL f fl a b : Nat) : Int)) ∧ Below w.heap.size w w' := by
  have hkb : Blk (w.alloc (.cells #[.int .i64 f.wide, .int .i64 f.high, .slice s.ground.A f.ground.length s.ground.c, .slice s.ore.A f.ore.length s.ore.c] 52)) w.heap.size 52 #[.int .i64 f.wide, .int .i64 f.high, .slice s.ground.A f.ground.length s.ground.c, .slice s.ore.A f.ore.length s.ore.c] := Blk.new _ _ _
  have hbe : Below w.heap.size w (w.alloc (.cells #[.int .i64 f.wide, .int .i64 f.high, .slice s.ground.A f.ground.length s.ground.c, .slice s.ore.A f.ore.length s.ore.c] 52)) := (Below.refl _ _).alloc (Nat.le_refl _) _
  have hnx : Calls Tryd.prog 158 #[.agg #[.int .i64 f.wide, .int .i64 f.high, .slice s.ground.A f.ground.length s.ground.c, .slice s.ore.A f.ore.length s.ore.c], .int .i64 (a : Int), .int .i64 (b : Int), .bool fl] (w.alloc (.cells #[.int .i64 f.wide, .int .i64 f.high, .slice s.ground.A f.ground.length s.ground.c, .slice s.ore.A f.ore.length s.ore.c] 52)) fun e w' => Below (w.alloc (.cells #[.int .i64 f.wide, .int .i64 f.high, .slice s.ground.A f.ground.length s.ground.c, .slice s.ore.A f.ore.length s.ore.c] 52)).heap.size (w.alloc (.cells #[.int .i64 f.wide, .int .i64 f.high, .slice s.ground.A f.ground.length s.ground.c, .slice s.ore.A f.ore.length s.ore.c] 52)) w' ∧ ∃ far, DTo f fl b far ∧ ((at0 far a < 0 ∧ e = .returned (.tuple #[.int .i64 0, erE 7])) ∨ (0 ≤ at0 far a ∧ e = .returned (.tuple #[.int .i64 (nextL f fl far a), .nilIface]))) := nxt_ok s f a b fl _ (hF.below hbe) (faultL_two hg ha hb)
  obtain ⟨R, hR⟩ : ∃ R, towardL f fl a b = R := ⟨_, rfl⟩
  rw [hR]
  replace hR := Lib.hid hR
  replace hkb := Lib.hid hkb
  replace hbe := Lib.hid hbe
  replace hnx := Lib.hid hnx
  clear hF hg
  go_enter Tryd.func133, Tryd.ntmps133
  go_upto_region 1 with fail
  generalize (w.alloc (.cells #[.int .i64 f.wide, .int .i64 f.high, .slice s.ground.A f.ground.length s.ground.c, .slice s.ore.A f.ore.length s.ore.c] 52)) = W at *
  obtain ⟨m0, m1, m2, m3⟩ : W.cell? ⟨w.heap.size, 0, none⟩ = some (.int .i64 f.wide) ∧ W.cell? ⟨w.heap.size, 1, none⟩ = some (.int .i64 f.high) ∧ W.cell? ⟨w.heap.size, 2, none⟩ = some (.slice s.ground.A f.ground.length s.ground.c) ∧ W.cell? ⟨w.heap.size, 3, none⟩ = some (.slice s.ore.A f.ore.length s.ore.c) := ⟨hkb.out.cell 0, hkb.out.cell 1, hkb.out.cell 2, hkb.out.cell 3⟩
  have ml := hkb.out.lt
  go_wp2_with fail
  refine hnx.out.mono ?_
  clear hnx m0 m1 m2 m3 ml hkb
  rintro e W2 ⟨hb2, far, hd, ⟨h0, rfl⟩ | ⟨h0, rfl⟩⟩
  · have hr : R = a := by rw [← hR.out]; unfold towardL; rw [toF_eq hd, if_pos h0]
    have hbf := hbe.out.trans (hb2.mono hbe.out.size)
    replace hr := Lib.hid hr
    clear hd h0
    replace hbf := Lib.hid hbf
    unfold erE
    go_wp2_with fail
    go_ret
    exact ⟨by rw [hr.out]; rfl, hbf.out⟩
  · have hr : R = nextL f fl far a := by rw [← hR.out]; unfold towardL; rw [toF_eq hd, if_neg (by omega)]
    have hbf := hbe.out.trans (hb2.mono hbe.out.size)
    replace hr := Lib.hid hr
    clear hd h0
    replace hbf := Lib.hid hbf
    go_wp2_with fail
    go_ret
    exact ⟨by rw [hr.out]; rfl, hbf.out⟩
/-- While a wish is told: the world in a box, the unit, its kind. -/
structure WsB (w0 w : World) (sK : SL) (L : List GK) (s : SW) (x : GW) (wb ub kb : Nat) (u : GU) (kd a b : Nat) (kk : GK) : Prop where
  sb : SBx w0 w sK L s x wb
  ku : Blk w ub 33 #[.int .i64 u.id, .int .i64 u.player, .int .i64 (kd : Int), .int .i64 (a : Int), .int .i64 u.life, .int .i64 u.load, .int .i64 u.task, .int .i64 (b : Int)]
  kk : Blk w kb 31 #[.string kk.name, .int .i64 kk.life, .int .i64 kk.hit, .int .i64 kk.range, .int .i64 kk.sight, .int .i64 kk.speed, .int .i64 kk.price, .int .i64 kk.turns, .int .i64 kk.carry, .bool kk.flies, .bool kk.trains]
section
variable {w0 w w' : World} {sK : SL} {L : List GK} {s : SW} {x : GW} {wb ub kb : Nat} {u : GU} {kd a b : Nat} {kk : GK}
theorem WsB.below (h : WsB w0 w sK L s x wb ub kb u kd a b kk) (hb : Below w.heap.size w w') : WsB w0 w' sK L s x wb ub kb u kd a b kk := ⟨h.sb.below hb, h.ku.below hb h.ku.lt, h.kk.below hb h.kk.lt⟩
theorem WsB.drewN (h : WsB w0 w sK L s x wb ub kb u kd a b kk) (n : Nat) : WsB w0 (w.drewN n) sK L s x wb ub kb u kd a b kk := h.below ⟨rfl, rfl, rfl, Nat.le_refl _, fun _ _ => rfl⟩
theorem WsB.alloc (h : WsB w0 w sK L s x wb ub kb u kd a b kk) (o : Obj) : WsB w0 (w.alloc o) sK L s x wb ub kb u kd a b kk := h.below ((Below.refl _ _).alloc (Nat.le_refl _) o)
theorem WsB.ucells (h : WsB w0 w sK L s x wb ub kb u kd a b kk) : w.cell? ⟨ub, 0, none⟩ = some (.int .i64 u.id) ∧ w.cell? ⟨ub, 1, none⟩ = some (.int .i64 u.player) ∧ w.cell? ⟨ub, 2, none⟩ = some (.int .i64 (kd : Int)) ∧ w.cell? ⟨ub, 3, none⟩ = some (.int .i64 (a : Int)) ∧ w.cell? ⟨ub, 4, none⟩ = some (.int .i64 u.life) ∧ w.cell? ⟨ub, 5, none⟩ = some (.int .i64 u.load) ∧ w.cell? ⟨ub, 6, none⟩ = some (.int .i64 u.task) ∧ w.cell? ⟨ub, 7, none⟩ = some (.int .i64 (b : Int)) ∧ ub < w.heap.size := ⟨h.ku.cell 0, h.ku.cell 1, h.ku.cell 2, h.ku.cell 3, h.ku.cell 4, h.ku.cell 5, h.ku.cell 6, h.ku.cell 7, h.ku.lt⟩
theorem WsB.kcells (h : WsB w0 w sK L s x wb ub kb u kd a b kk) : w.cell? ⟨kb, 8, none⟩ = some (.int .i64 kk.carry) ∧ w.cell? ⟨kb, 9, none⟩ = some (.bool kk.flies) ∧ kb < w.heap.size := ⟨h.kk.cell 8, h.kk.cell 9, h.kk.lt⟩
theorem SBx.trains {bk okk sc : Nat} (h : SBx w0 w ⟨some ⟨bk, okk, none⟩, sc⟩ L s x wb) (kd : Nat) (hkd : kd < L.length) : w.cell? ⟨bk, okk + kd * 11 + 10, none⟩ = some (.bool (gk L kd).trains) := by
  obtain ⟨b', o', hA', _, _, _, _, _, _, _, _, _, _, _, k10⟩ := rk_at h.ks_.rd kd hkd
  dsimp only at hA'
  injection hA' with hA'
  injection hA' with e3 e4
  subst e3; subst e4
  exact k10
end
set_option maxHeartbeats 12800000 in
set_option maxRecDepth 100000 in
theorem wish_any (sK : SL) (L : List GK) (s : SW) (x : GW) (i : Nat) (w : World) (hK : KS w w.heap.size sK L) (hW : WOk w s x) (hm : WM L x) (hi : i < x.units.length) :
    Calls Tryd.prog 103 #[.slice sK.A L.length sK.c, .agg #[.int .i64 x.turn, .int .i64 x.next, .int .i64 x.field.wide, .int .i64 x.field.high, .slice s.field.ground.A x.field.ground.length s.field.ground.c, .slice s.field.ore.A x.field.ore.length s.field.ore.c, .slice s.gold.A x.gold.length s.gold.c, .slice s.units.A x.units.length s.units.c, .slice s.queue.A x.queue.length s.queue.c], .int .i64 (i : Int)] w fun e w' => e = .returned (.int .i64 ((wishU L x (gu x.units i) : Nat) : Int)) ∧ Below w.heap.size w w' := by
  obtain ⟨kd, hkd⟩ : ∃ kd : Nat, (gu x.units i).kind = (kd : Int) := ⟨(gu x.units i).kind.toNat, by have := hm.kind i hi; omega⟩
  obtain ⟨a, hsa⟩ : ∃ a : Nat, (gu x.units i).spot = (a : Int) := ⟨(gu x.units i).spot.toNat, by have := hm.spot i hi; omega⟩
  obtain ⟨b, hsb⟩ : ∃ b : Nat, (gu x.units i).goal = (b : Int) := ⟨(gu x.units i).goal.toNat, by have := hm.goal i hi; omega⟩
  have hkl : kd < L.length := by have := hm.kind i hi; omega
  have ha : a < x.field.ground.length := by have := hm.spot i hi; omega
  have hb : b < x.field.ground.length := by have := hm.goal i hi; omega
  have hgl : x.field.ground.length ≤ 144 := by have := hm.good.len; omega
  have hol : x.field.ore.length = x.field.ground.length := by have := hm.good.len; omega
  obtain ⟨R, hR⟩ : ∃ R, wishU L x (gu x.units i) = R := ⟨_, rfl⟩
  rw [hR]
  unfold wishU at hR
  rw [hkd, hsa, hsb, Int.toNat_natCast, Int.toNat_natCast, Int.toNat_natCast] at hR
  have hin0 : ∀ fl, (homeN L x (gu x.units i) fl x.units.length).1 < x.field.ground.length := fun fl => homeN_in hm (by rw [hsa, Int.toNat_natCast]; exact ha) _ (Nat.le_refl _)
  have hii : (i : Int) < (x.units.length : Int) := by omega
  have hkli : (kd : Int) < (L.length : Int) := by omega
  have hB : SBx w (w.alloc (.cells #[.int .i64 x.turn, .int .i64 x.next, .int .i64 x.field.wide, .int .i64 x.field.high, .slice s.field.ground.A x.field.ground.length s.field.ground.c, .slice s.field.ore.A x.field.ore.length s.field.ore.c, .slice s.gold.A x.gold.length s.gold.c, .slice s.units.A x.units.length s.units.c, .slice s.queue.A x.queue.length s.queue.c] 55)) sK L s x w.heap.size := sbx_start w sK L s x hK hW
  obtain ⟨sA, sc⟩ := sK
  dsimp only
  have hcap := hK.cap
  have hmx := hK.max
  have hul := hW.ulen
  dsimp only at hcap hmx
  replace hB := Lib.hid hB
  replace hm := Lib.hid hm
  replace hR := Lib.hid hR
  replace hol := Lib.hid hol
  replace hin0 := Lib.hid hin0
  clear hK hW
  go_enter Tryd.func103, Tryd.ntmps103
  go_upto_region 1 with fail
  generalize (w.alloc (.cells #[.int .i64 x.turn, .int .i64 x.next, .int .i64 x.field.wide, .int .i64 x.field.high, .slice s.field.ground.A x.field.ground.length s.field.ground.c, .slice s.field.ore.A x.field.ore.length s.field.ore.c, .slice s.gold.A x.gold.length s.gold.c, .slice s.units.A x.units.length s.units.c, .slice s.queue.A x.queue.length s.queue.c] 55)) = W at *
  obtain ⟨wb, hwb⟩ : ∃ wb, w.heap.size = wb := ⟨_, rfl⟩
  rw [hwb] at hB
  rw [hwb]
  replace hB : SBx w W ⟨sA, sc⟩ L s x wb := hB.out
  replace hB := Lib.hid hB
  replace hwb := Lib.hid hwb
  obtain ⟨bk, okk, hAk, _, k0, k1, k2, k3, k4, k5, k6, k7, k8, k9, k10⟩ := rk_at hB.out.ks_.rd kd hkl
  dsimp only at hAk
  subst hAk
  obtain ⟨xb, xo, hXA, _, p0, p1, p2, p3, p4, p5, p6, p7⟩ := ru_at hB.out.wo_.2.2.2.2.1.1 i hi
  rw [hkd] at p2
  rw [hsa] at p3
  rw [hsb] at p7
  obtain ⟨u, hu⟩ : ∃ u, gu x.units i = u := ⟨_, rfl⟩
  obtain ⟨kk, hkk⟩ : ∃ kk, gk L kd = kk := ⟨_, rfl⟩
  rw [hu] at p0 p1 p4 p5 p6
  rw [hu] at hR hin0 hsa hkd hsb
  rw [hkk] at k0 k1 k2 k3 k4 k5 k6 k7 k8 k9 k10 hR
  replace hu := Lib.hid hu
  replace hkk := Lib.hid hkk
  replace hsa := Lib.hid hsa
  replace hsb := Lib.hid hsb
  replace hkd := Lib.hid hkd
  obtain ⟨_, _, _, _, _, _, _, m7, _, mll⟩ := hB.out.cells
  rw [hXA] at m7
  replace hXA := Lib.hid hXA
  go_upto_region 2 with fail
  have hku : Blk (W.alloc (.cells #[.int .i64 u.id, .int .i64 u.player, .int .i64 (kd : Int), .int .i64 (a : Int), .int .i64 u.life, .int .i64 u.load, .int .i64 u.task, .int .i64 (b : Int)] 33)) W.heap.size 33 #[.int .i64 u.id, .int .i64 u.player, .int .i64 (kd : Int), .int .i64 (a : Int), .int .i64 u.life, .int .i64 u.load, .int .i64 u.task, .int .i64 (b : Int)] := Blk.new _ _ _
  have hBn := hB.out.alloc (.cells #[.int .i64 u.id, .int .i64 u.player, .int .i64 (kd : Int), .int .i64 (a : Int), .int .i64 u.life, .int .i64 u.load, .int .i64 u.task, .int .i64 (b : Int)] 33)
  have hbw : Below W.heap.size W (W.alloc (.cells #[.int .i64 u.id, .int .i64 u.player, .int .i64 (kd : Int), .int .i64 (a : Int), .int .i64 u.life, .int .i64 u.load, .int .i64 u.task, .int .i64 (b : Int)] 33)) := (Below.refl _ _).alloc (Nat.le_refl _) _
  obtain ⟨b', o', hA', _, j0, j1, j2, j3, j4, j5, j6, j7, j8, j9, j10⟩ := rk_at hBn.ks_.rd kd hkl
  dsimp only at hA'
  injection hA' with hA'
  injection hA' with e3 e4
  subst e3; subst e4
  rw [hkk.out] at j0 j1 j2 j3 j4 j5 j6 j7 j8 j9 j10
  clear hB k0 k1 k2 k3 k4 k5 k6 k7 k8 k9 k10 p0 p1 p2 p3 p4 p5 p6 p7 m7 mll hbw
  have hB := Lib.hid hBn
  clear hBn
  generalize (W.alloc (.cells #[.int .i64 u.id, .int .i64 u.player, .int .i64 (kd : Int), .int .i64 (a : Int), .int .i64 u.life, .int .i64 u.load, .int .i64 u.task, .int .i64 (b : Int)] 33)) = W2 at *
  obtain ⟨ub, hub⟩ : ∃ ub, W.heap.size = ub := ⟨_, rfl⟩
  rw [hub] at hku ⊢
  clear hub
  have v2 : W2.cell? ⟨ub, 2, none⟩ = some (.int .i64 (kd : Int)) := hku.cell 2
  have vl := hku.lt
  replace hku := Lib.hid hku
  go_upto_region 3 with fail
  clear v2 vl j0 j1 j2 j3 j4 j5 j6 j7 j8 j9 j10
  have hBn : WsB w (W2.alloc (.cells #[.string kk.name, .int .i64 kk.life, .int .i64 kk.hit, .int .i64 kk.range, .int .i64 kk.sight, .int .i64 kk.speed, .int .i64 kk.price, .int .i64 kk.turns, .int .i64 kk.carry, .bool kk.flies, .bool kk.trains] 31)) ⟨some ⟨bk, okk, none⟩, sc⟩ L s x wb ub W2.heap.size u kd a b kk := ⟨hB.out.alloc _, hku.out.alloc _, Blk.new _ _ _⟩
  clear hB hku
  generalize (W2.alloc (.cells #[.string kk.name, .int .i64 kk.life, .int .i64 kk.hit, .int .i64 kk.range, .int .i64 kk.sight, .int .i64 kk.speed, .int .i64 kk.price, .int .i64 kk.turns, .int .i64 kk.carry, .bool kk.flies, .bool kk.trains] 31)) = W3 at *
  obtain ⟨kb, hkb⟩ : ∃ kb, W2.heap.size = kb := ⟨_, rfl⟩
  rw [hkb] at hBn ⊢
  clear hkb
  have hB := Lib.hid hBn
  clear hBn
  obtain ⟨v0, v1, v2, v3, v4, v5, v6, v7, vl⟩ := hB.out.ucells
  obtain ⟨y8, y9, yl⟩ := hB.out.kcells
  obtain ⟨m0, m1, m2, m3, m4, m5, m6, m7, m8, mll⟩ := hB.out.sb.cells
  by_cases t1 : u.task = 1
  · as_aux_lemma =>
    have hr := hR.out
    rw [if_pos t1] at hr
    clear hR
    have htw : Calls Tryd.prog 133 #[.agg #[.int .i64 x.field.wide, .int .i64 x.field.high, .slice s.field.ground.A x.field.ground.length s.field.ground.c, .slice s.field.ore.A x.field.ore.length s.field.ore.c], .int .i64 (a : Int), .int .i64 (b : Int), .bool kk.flies] W3 fun e w' => e = .returned (.int .i64 ((towardL x.field kk.flies a b : Nat) : Int)) ∧ Below W3.heap.size W3 w' := toward_any s.field x.field a b kk.flies W3 hB.out.sb.wo_.2.2.1 hm.out.good ha hb
    rw [hr] at htw
    replace htw := Lib.hid htw
    replace hr := Lib.hid hr
    have t2 : (u.task == 1) = true := by simp [t1]
    replace t1 := Lib.hid t1
    have hbf := hB.out.sb.b
    replace hbf := Lib.hid hbf
    go_wp2_with fail
    refine htw.out.mono ?_
    rintro e W4 ⟨rfl, hb4⟩
    have hbg := hbf.out.trans (hb4.mono hbf.out.size)
    clear hb4
    replace hbg := Lib.hid hbg
    clear v0 v1 v2 v3 v4 v5 v6 v7 vl y8 y9 yl
    clear m0 m1 m2 m3 m4 m5 m6 m7 m8 mll
    go_wp2_with fail
    go_ret
    exact ⟨rfl, hbg.out⟩
  have t2 : (u.task == 1) = false := by simp [t1]
  by_cases t3 : u.task = 2
  case neg =>
    as_aux_lemma =>
    have hr := hR.out
    rw [if_neg t1, if_neg t3] at hr
    subst hr
    clear hR
    have t4 : (u.task == 2) = false := by simp [t3]
    replace t1 := Lib.hid t1
    replace t3 := Lib.hid t3
    have hbf := hB.out.sb.b
    replace hbf := Lib.hid hbf
    go_wp2_with fail
    go_ret
    exact ⟨rfl, hbf.out⟩
  have hr := hR.out
  rw [if_neg t1, if_pos t3] at hr
  clear hR
  have t4 : (u.task == 2) = true := by simp [t3]
  replace t1 := Lib.hid t1
  replace t3 := Lib.hid t3
  have hor : SLI W3 s.field.ore x.field.ore := hB.out.sb.wo_.2.2.1.2.2.2
  obtain ⟨ob, oo, hOA, _⟩ := hor.1.addr (by rw [hol.out]; omega)
  have hoc : W3.cell? ⟨ob, oo + b, none⟩ = some (.int .i64 (x.field.ore.getD b 0)) := by
    have hbl : b < x.field.ore.length := by rw [hol.out]; exact hb
    have := hor.1.at_ hOA (j := b) (by omega)
    rw [List.getElem?_map, List.getElem?_eq_getElem hbl] at this
    rw [List.getD_eq_getElem?_getD, List.getElem?_eq_getElem hbl]
    simpa using this
  unfold oreB at hr
  rw [hsb.out, Int.toNat_natCast] at hr
  obtain ⟨ov, hov⟩ : ∃ ov, x.field.ore.getD b 0 = ov := ⟨_, rfl⟩
  rw [hov] at hoc hr
  have hbo : (b : Int) < (x.field.ore.length : Int) := by have := hol.out; omega
  rw [hOA] at m5
  clear hor hov
  replace hOA := Lib.hid hOA
  go_upto_region 7 with fail
  obtain ⟨q, hq⟩ : ∃ q, (decide (u.load < kk.carry) && decide (0 < ov)) = q := ⟨_, rfl⟩
  rw [hq] at hr
  replace hq := Lib.hid hq
  replace hr := Lib.hid hr
  go_cut [53] (fun t wx => t = .bool q ∧ W3 = wx)
  case first =>
    as_aux_lemma =>
    have hq1 := hq.out
    clear hq hr
    by_cases c1 : u.load < kk.carry
    · have d1 : decide (u.load < kk.carry) = true := decide_eq_true c1
      by_cases c2 : 0 < ov
      · have d2 : decide (0 < ov) = true := decide_eq_true c2
        rw [d1, d2] at hq1
        subst hq1
        go_wp2_with fail
        go_meet
        exact ⟨rfl, rfl⟩
      · have d2 : decide (0 < ov) = false := decide_eq_false c2
        rw [d1, d2] at hq1
        subst hq1
        go_wp2_with fail
        go_meet
        exact ⟨rfl, rfl⟩
    · have d1 : decide (u.load < kk.carry) = false := decide_eq_false c1
      rw [d1, Bool.false_and] at hq1
      subst hq1
      go_wp2_with fail
      go_meet
      exact ⟨rfl, rfl⟩
  case rest =>
  obtain ⟨rfl, rfl⟩ := hcut
  clear hoc hbo
  clear m0 m1 m2 m3 m4 m5 m6 m7 m8 mll
  obtain ⟨m0, m1, m2, m3, m4, m5, m6, m7, m8, mll⟩ := hB.out.sb.cells
  cases q with
  | true =>
    as_aux_lemma =>
    have hr1 := hr.out
    rw [if_pos rfl] at hr1
    have htw : Calls Tryd.prog 133 #[.agg #[.int .i64 x.field.wide, .int .i64 x.field.high, .slice s.field.ground.A x.field.ground.length s.field.ground.c, .slice s.field.ore.A x.field.ore.length s.field.ore.c], .int .i64 (a : Int), .int .i64 (b : Int), .bool kk.flies] W3 fun e w' => e = .returned (.int .i64 ((towardL x.field kk.flies a b : Nat) : Int)) ∧ Below W3.heap.size W3 w' := toward_any s.field x.field a b kk.flies W3 hB.out.sb.wo_.2.2.1 hm.out.good ha hb
    rw [hr1] at htw
    replace htw := Lib.hid htw
    clear hr1 hr
    have hbf := hB.out.sb.b
    replace hbf := Lib.hid hbf
    go_wp2_with fail
    refine htw.out.mono ?_
    rintro e W4 ⟨rfl, hb4⟩
    have hbg := hbf.out.trans (hb4.mono hbf.out.size)
    clear hb4
    replace hbg := Lib.hid hbg
    clear v0 v1 v2 v3 v4 v5 v6 v7 vl y8 y9 yl
    clear m0 m1 m2 m3 m4 m5 m6 m7 m8 mll
    go_wp2_with fail
    go_ret
    exact ⟨rfl, hbg.out⟩
  | false =>
  have hr1 := hr.out
  rw [if_neg (by decide)] at hr1
  clear hr
  have hr := Lib.hid hr1
  clear hr1
  replace m7 : W3.cell? ⟨wb, 7, none⟩ = some (.slice (some ⟨xb, xo, none⟩) x.units.length s.units.c) := by rw [← hXA.out]; exact m7
  go_wp2_with fail
  clear v0 v1 v2 v3 v4 v5 v6 v7 vl y8 y9 yl
  clear m0 m1 m2 m3 m4 m5 m6 m7 m8 mll
  go_loopw [9, 10, 68] (fun v9 v10 v68 wr => ∃ k : Nat, v68 = .int .i64 k ∧ k ≤ x.units.length ∧ v9 = .int .i64 (((homeN L x u kk.flies k).1 : Nat) : Int) ∧ v10 = .int .i64 (homeN L x u kk.flies k).2 ∧ Hid (WsB w wr ⟨some ⟨bk, okk, none⟩, sc⟩ L s x wb ub kb u kd a b kk)) (fun _ _ v68 _ => x.units.length - (intOf v68).toNat)
  case atStart => exact ⟨0, rfl, Nat.zero_le _, by show _ = Value.int .i64 ((u.spot.toNat : Nat) : Int); rw [hsa.out]; rfl, rfl, hB⟩
  case round =>
    clear hB
    obtain ⟨k, rfl, hk, rfl, rfl, hB⟩ := hrel
    by_cases hlt : k < x.units.length
    · as_aux_lemma =>
      have z1 : (k : Int) < (x.units.length : Int) := by omega
      have hyes := @homeN_yes L x u kk.flies k
      have hno := @homeN_no L x u kk.flies k
      unfold homeB at hyes hno
      obtain ⟨xb', xo', hXA', _, p0, p1, p2, p3, p4, p5, p6, p7⟩ := ru_at hB.out.sb.wo_.2.2.2.2.1.1 k hlt
      rw [hXA.out] at hXA'
      injection hXA' with hA'
      injection hA' with e3 e4
      subst e3; subst e4
      obtain ⟨c, hsc⟩ : ∃ c : Nat, (gu x.units k).spot = (c : Int) := ⟨(gu x.units k).spot.toNat, by have := hm.out.spot k hlt; omega⟩
      obtain ⟨kv, hkv⟩ : ∃ kv : Nat, (gu x.units k).kind = (kv : Int) := ⟨(gu x.units k).kind.toNat, by have := hm.out.kind k hlt; omega⟩
      have hcl : c < x.field.ground.length := by have := hm.out.spot k hlt; omega
      have hkvl : kv < L.length := by have := hm.out.kind k hlt; omega
      have hkvi : (kv : Int) < (L.length : Int) := by omega
      have hai : (a : Int) < (x.field.ground.length : Int) := by omega
      rw [hsc, hkv, hsa.out, Int.toNat_natCast, Int.toNat_natCast, Int.toNat_natCast] at hyes hno
      rw [hsc] at p3
      rw [hkv] at p2
      clear hsc hkv
      generalize gu x.units k = v at *
      obtain ⟨hl, hhl⟩ : ∃ hl, homeN L x u kk.flies k = hl := ⟨_, rfl⟩
      rw [hhl] at hyes hno ⊢
      obtain ⟨hh, ll⟩ := hl
      dsimp only at hyes hno ⊢
      clear hhl
      replace hyes := Lib.hid hyes
      replace hno := Lib.hid hno
      go_upto_region 13 with fail
      clear p0 p1 p2 p3 p4 p5 p6 p7
      have hv : Blk (wr.alloc (.cells #[.int .i64 v.id, .int .i64 v.player, .int .i64 (kv : Int), .int .i64 (c : Int), .int .i64 v.life, .int .i64 v.load, .int .i64 v.task, .int .i64 v.goal] 33)) wr.heap.size 33 #[.int .i64 v.id, .int .i64 v.player, .int .i64 (kv : Int), .int .i64 (c : Int), .int .i64 v.life, .int .i64 v.load, .int .i64 v.task, .int .i64 v.goal] := Blk.new _ _ _
      have hBn := hB.out.alloc (.cells #[.int .i64 v.id, .int .i64 v.player, .int .i64 (kv : Int), .int .i64 (c : Int), .int .i64 v.life, .int .i64 v.load, .int .i64 v.task, .int .i64 v.goal] 33)
      clear hB
      generalize (wr.alloc (.cells #[.int .i64 v.id, .int .i64 v.player, .int .i64 (kv : Int), .int .i64 (c : Int), .int .i64 v.life, .int .i64 v.load, .int .i64 v.task, .int .i64 v.goal] 33)) = W5 at *
      obtain ⟨vb, hvb⟩ : ∃ vb, wr.heap.size = vb := ⟨_, rfl⟩
      rw [hvb] at hv ⊢
      clear hvb
      have hB := Lib.hid hBn
      clear hBn
      have g1 : W5.cell? ⟨vb, 1, none⟩ = some (.int .i64 v.player) := hv.cell 1
      have g2 : W5.cell? ⟨vb, 2, none⟩ = some (.int .i64 (kv : Int)) := hv.cell 2
      have g10 := hB.out.sb.trains kv hkvl
      have v1 : W5.cell? ⟨ub, 1, none⟩ = some (.int .i64 u.player) := hB.out.ku.cell 1
      replace hv := Lib.hid hv
      obtain ⟨tr, htr⟩ : ∃ tr, (gk L kv).trains = tr := ⟨_, rfl⟩
      rw [htr] at g10
      by_cases e1 : v.player = u.player
      case neg =>
        have q1 : (v.player != u.player) = true := by simp [e1]
        have hs := Lib.hid (hno.out (fun c => e1 (by have := c.1; rw [Bool.and_eq_true] at this; simpa using this.1)))
        clear hyes hno htr
        replace e1 := Lib.hid e1
        go_wp2_with fail
        go_roundw
        case rel => exact ⟨k + 1, by go_num, by omega, by rw [hs.out], by rw [hs.out], hB⟩
        case measure => simp [intOf]; omega
      have q1 : (v.player != u.player) = false := by simp [e1]
      cases tr with
      | false =>
        have hs := Lib.hid (hno.out (fun c => by have := c.1; rw [Bool.and_eq_true, htr] at this; cases this.2))
        clear hyes hno
        replace htr := Lib.hid htr
        replace e1 := Lib.hid e1
        go_wp2_with fail
        go_roundw
        case rel => exact ⟨k + 1, by go_num, by omega, by rw [hs.out], by rw [hs.out], hB⟩
        case measure => simp [intOf]; omega
      | true =>
        have hhb : (v.player == u.player && (gk L kv).trains) = true := by rw [htr]; simp [e1]
        replace hhb := Lib.hid hhb
        replace htr := Lib.hid htr
        replace e1 := Lib.hid e1
        go_upto_region 14 with fail
        clear g1 g2 g10 v1 q1
        have hS : ∀ wz, (WsB w wz ⟨some ⟨bk, okk, none⟩, sc⟩ L s x wb ub kb u kd a b kk) → Blk wz vb 33 #[.int .i64 v.id, .int .i64 v.player, .int .i64 (kv : Int), .int .i64 (c : Int), .int .i64 v.life, .int .i64 v.load, .int .i64 v.task, .int .i64 v.goal] → (fun wz => wz.cell? ⟨wb, 2, none⟩ = some (.int .i64 x.field.wide) ∧ wz.cell? ⟨wb, 3, none⟩ = some (.int .i64 x.field.high) ∧ wz.cell? ⟨wb, 4, none⟩ = some (.slice s.field.ground.A x.field.ground.length s.field.ground.c) ∧ wz.cell? ⟨wb, 5, none⟩ = some (.slice s.field.ore.A x.field.ore.length s.field.ore.c) ∧ wz.cell? ⟨vb, 3, none⟩ = some (.int .i64 (c : Int)) ∧ wz.cell? ⟨kb, 9, none⟩ = some (.bool kk.flies) ∧ wz.cell? ⟨ub, 3, none⟩ = some (.int .i64 (a : Int))) wz := fun wz h h2 => by
          obtain ⟨_, _, m2, m3, m4, m5, _, _, _, _⟩ := h.sb.cells
          exact ⟨m2, m3, m4, m5, h2.cell 3, h.kk.cell 9, h.ku.cell 3⟩
        have hBn := hB.out.drewN 1
        have hvn := hv.out.drewN 1
        clear hB hv
        have hB : Hid (WsB w W5.drew ⟨some ⟨bk, okk, none⟩, sc⟩ L s x wb ub kb u kd a b kk) := Lib.hid hBn
        have hv : Hid (Blk W5.drew vb 33 #[.int .i64 v.id, .int .i64 v.player, .int .i64 (kv : Int), .int .i64 (c : Int), .int .i64 v.life, .int .i64 v.load, .int .i64 v.task, .int .i64 v.goal]) := Lib.hid hvn
        clear hBn hvn
        have hto : Calls Tryd.prog 98 #[.agg #[.int .i64 x.field.wide, .int .i64 x.field.high, .slice s.field.ground.A x.field.ground.length s.field.ground.c, .slice s.field.ore.A x.field.ore.length s.field.ore.c], .int .i64 (c : Int), .bool kk.flies] W5.drew (SprPost W5.drew x.field c (costTo x.field kk.flies)) := to_any s.field x.field c kk.flies W5.drew hB.out.sb.wo_.2.2.1 hm.out.good hcl
        replace hto := Lib.hid hto
        have hS0 := hS _ hB.out hv.out
        replace hS := Lib.hid hS
        refine wp_region_noPanic ?_
        refine wp_region_held_drew (S := (fun wz => wz.cell? ⟨wb, 2, none⟩ = some (.int .i64 x.field.wide) ∧ wz.cell? ⟨wb, 3, none⟩ = some (.int .i64 x.field.high) ∧ wz.cell? ⟨wb, 4, none⟩ = some (.slice s.field.ground.A x.field.ground.length s.field.ground.c) ∧ wz.cell? ⟨wb, 5, none⟩ = some (.slice s.field.ore.A x.field.ore.length s.field.ore.c) ∧ wz.cell? ⟨vb, 3, none⟩ = some (.int .i64 (c : Int)) ∧ wz.cell? ⟨kb, 9, none⟩ = some (.bool kk.flies) ∧ wz.cell? ⟨ub, 3, none⟩ = some (.int .i64 (a : Int)))) (by kernel_rfl) hS0 (fun hHeld => ?_)
        clear hS0
        generalize W5.drew = Wd at *
        refine wpAnyH_take (i := 0) (oi := _) (v := ?_) rfl (by kernel_rfl) (by kernel_rfl) (by kernel_rfl) (fun _ _ _ h => h) (Or.inl ⟨by rfl, ?_⟩) (by assumption) ?_
        rotate_left
        · intro w' hSw
          try dsimp only at hSw
          first | (go_simp; done) | (go_simp; with_reducible rfl)
        try simp only [Act.put]
        try simp only [List.setIfInBounds_toArray]
        try simp only [List.set_cons_succ, List.set_cons_zero]
        try simp only [List.getElem_toArray]
        try simp only [List.getElem_cons_succ]
        try simp only [List.getElem_cons_zero]
        refine wpAnyH_take (i := 1) (oi := _) (v := ?_) rfl (by kernel_rfl) (by kernel_rfl) (by kernel_rfl) (fun _ _ _ h => h) (Or.inl ⟨by rfl, ?_⟩) (by assumption) ?_
        rotate_left
        · intro w' hSw
          try dsimp only at hSw
          first | (go_simp; done) | (go_simp; with_reducible rfl)
        try simp only [Act.put]
        try simp only [List.setIfInBounds_toArray]
        try simp only [List.set_cons_succ, List.set_cons_zero]
        try simp only [List.getElem_toArray]
        try simp only [List.getElem_cons_succ]
        try simp only [List.getElem_cons_zero]
        refine wpAnyH_take (i := 2) (oi := _) (v := ?_) rfl (by kernel_rfl) (by kernel_rfl) (by kernel_rfl) (fun _ _ _ h => h) (Or.inl ⟨by rfl, ?_⟩) (by assumption) ?_
        rotate_left
        · intro w' hSw
          try dsimp only at hSw
          first | (go_simp; done) | (go_simp; with_reducible rfl)
        try simp only [Act.put]
        try simp only [List.setIfInBounds_toArray]
        try simp only [List.set_cons_succ, List.set_cons_zero]
        try simp only [List.getElem_toArray]
        try simp only [List.getElem_cons_succ]
        try simp only [List.getElem_cons_zero]
        refine wpAnyH_take (i := 3) (oi := _) (v := ?_) rfl (by kernel_rfl) (by kernel_rfl) (by kernel_rfl) (fun _ _ _ h => h) (Or.inl ⟨by rfl, ?_⟩) (by assumption) ?_
        rotate_left
        · intro w' hSw
          try dsimp only at hSw
          first | (go_simp; done) | (go_simp; with_reducible rfl)
        try simp only [Act.put]
        try simp only [List.setIfInBounds_toArray]
        try simp only [List.set_cons_succ, List.set_cons_zero]
        try simp only [List.getElem_toArray]
        try simp only [List.getElem_cons_succ]
        try simp only [List.getElem_cons_zero]
        refine wpAnyH_take (i := 4) (oi := _) (v := ?_) rfl (by kernel_rfl) (by kernel_rfl) (by kernel_rfl) (fun _ _ _ h => h) (Or.inl ⟨by rfl, ?_⟩) (by assumption) ?_
        rotate_left
        · intro w' hSw
          try dsimp only at hSw
          first | (go_simp; done) | (go_simp; with_reducible rfl)
        try simp only [Act.put]
        try simp only [List.setIfInBounds_toArray]
        try simp only [List.set_cons_succ, List.set_cons_zero]
        try simp only [List.getElem_toArray]
        try simp only [List.getElem_cons_succ]
        try simp only [List.getElem_cons_zero]
        refine wpAnyH_take (i := 5) (oi := _) (v := ?_) rfl (by kernel_rfl) (by kernel_rfl) (by kernel_rfl) (fun _ _ _ h => h) (Or.inl ⟨by rfl, ?_⟩) (by assumption) ?_
        rotate_left
        · intro w' hSw
          try dsimp only at hSw
          first | (go_simp; done) | (go_simp; with_reducible rfl)
        try simp only [Act.put]
        try simp only [List.setIfInBounds_toArray]
        try simp only [List.set_cons_succ, List.set_cons_zero]
        try simp only [List.getElem_toArray]
        try simp only [List.getElem_cons_succ]
        try simp only [List.getElem_cons_zero]
        refine wpAnyH_take (i := 7) (oi := _) (v := ?_) rfl (by kernel_rfl) (by kernel_rfl) (by kernel_rfl) (fun _ _ _ h => h) (Or.inl ⟨by rfl, ?_⟩) (by assumption) ?_
        rotate_left
        · intro w' hSw
          try dsimp only at hSw
          first | (go_simp; done) | (go_simp; with_reducible rfl)
        try simp only [Act.put]
        try simp only [List.setIfInBounds_toArray]
        try simp only [List.set_cons_succ, List.set_cons_zero]
        try simp only [List.getElem_toArray]
        try simp only [List.getElem_cons_succ]
        try simp only [List.getElem_cons_zero]
        refine wpAnyH_take (i := 8) (oi := _) (v := ?_) rfl (by kernel_rfl) (by kernel_rfl) (by kernel_rfl) (fun _ _ _ h => h) (Or.inl ⟨by rfl, ?_⟩) (by assumption) ?_
        rotate_left
        · intro w' hSw
          try dsimp only at hSw
          first | (go_simp; done) | (go_simp; with_reducible rfl)
        try simp only [Act.put]
        try simp only [List.setIfInBounds_toArray]
        try simp only [List.set_cons_succ, List.set_cons_zero]
        try simp only [List.getElem_toArray]
        try simp only [List.getElem_cons_succ]
        try simp only [List.getElem_cons_zero]
        refine wpAnyH_ready (rs := [6]) (by kernel_rfl) (by simp) ?_
        refine AllReadyH.cons (o := { dst := some 92, op := .call { callee := .value (.func 98), args := #[.tmp 87, .tmp 89, .tmp 91], argTypes := #[52, 3, 4] }, type := _, pos := _, after := _, guard := none }) rfl (fun K hK => ?_) AllReadyH.nil
        go_simp
        refine hto.out.mono ?_
        rintro e W6 ⟨g, far, rfl, hd, hgg, hkg, hb6⟩
        have hBn := hB.out.below hb6
        have hvn := hv.out.below hb6 hv.out.lt
        clear hB hv hHeld hb6 hto hgg
        have hB := Lib.hid hBn
        have hv := Lib.hid hvn
        clear hBn hvn
        replace hd := Lib.hid hd
        refine hK.out _ _ (hS.out _ hB.out hv.out) (fun hHeld => ?_)
        clear hK K
        try simp only [Act.put]
        try simp only [List.setIfInBounds_toArray]
        try simp only [List.set_cons_succ, List.set_cons_zero]
        try simp only [List.getElem_toArray]
        try simp only [List.getElem_cons_succ]
        try simp only [List.getElem_cons_zero]
        have cf := hkg.atI a (by rw [hd.out.len]; exact ha)
        replace hkg := Lib.hid hkg
        refine wpAnyH_take (i := 9) (oi := _) (v := ?_) rfl (by kernel_rfl) (by kernel_rfl) (by kernel_rfl) (fun _ _ _ h => h) (Or.inl ⟨by rfl, ?_⟩) (by assumption) ?_
        rotate_left
        · intro w' hSw
          try dsimp only at hSw
          first | (go_simp; done) | (go_simp; with_reducible rfl)
        try simp only [Act.put]
        try simp only [List.setIfInBounds_toArray]
        try simp only [List.set_cons_succ, List.set_cons_zero]
        try simp only [List.getElem_toArray]
        try simp only [List.getElem_cons_succ]
        try simp only [List.getElem_cons_zero]
        refine wpAnyH_ready (rs := [10]) (by kernel_rfl) (by simp) ?_
        refine AllReadyH.cons (o := _) rfl (fun K hK => ?_) AllReadyH.nil
        go_simp
        refine hK.out _ _ hHeld (fun hHeld => ?_)
        clear hK K
        try simp only [Act.put]
        try simp only [List.setIfInBounds_toArray]
        try simp only [List.set_cons_succ, List.set_cons_zero]
        try simp only [List.getElem_toArray]
        try simp only [List.getElem_cons_succ]
        try simp only [List.getElem_cons_zero]
        refine wpAnyH_take (i := 11) (oi := _) (v := ?_) rfl (by kernel_rfl) (by kernel_rfl) (by kernel_rfl) (fun _ _ _ h => h) (Or.inl ⟨by rfl, ?_⟩) (by assumption) ?_
        rotate_left
        · intro w' hSw
          try dsimp only at hSw
          first | (go_simp; done) | (go_simp; with_reducible rfl)
        try simp only [Act.put]
        try simp only [List.setIfInBounds_toArray]
        try simp only [List.set_cons_succ, List.set_cons_zero]
        try simp only [List.getElem_toArray]
        try simp only [List.getElem_cons_succ]
        try simp only [List.getElem_cons_zero]
        refine wpAnyH_done (by kernel_rfl) ?_ _
        refine NoPanic.normal ?_
        clear hHeld hS cf
        try dsimp only [List.set]
        have hdo := hyes.out
        have hdn := hno.out
        rw [toF_eq hd.out] at hdo hdn
        clear hyes hno hd
        have hyes := Lib.hid (fun (h : 0 ≤ at0 far a ∧ (ll < 0 ∨ at0 far a < ll)) => hdo ⟨hhb.out, h⟩)
        have hno := Lib.hid (fun (h : ¬ (0 ≤ at0 far a ∧ (ll < 0 ∨ at0 far a < ll))) => hdn (fun c => h c.2))
        clear hdo hdn hhb
        generalize at0 far a = d at *
        have g3 : W6.cell? ⟨vb, 3, none⟩ = some (.int .i64 (c : Int)) := hv.out.cell 3
        by_cases d0 : 0 ≤ d
        case neg =>
          have hs := Lib.hid (hno.out (fun c => d0 c.1))
          have f0 : decide (0 ≤ d) = false := decide_eq_false d0
          clear hyes hno
          go_wp2_with fail
          go_roundw
          case rel => exact ⟨k + 1, by go_num, by omega, by rw [hs.out], by rw [hs.out], hB⟩
          case measure => simp [intOf]; omega
        have f0 : decide (0 ≤ d) = true := decide_eq_true d0
        by_cases d1 : ll < 0
        · have hs := Lib.hid (hyes.out ⟨d0, .inl d1⟩)
          have f1 : decide (ll < 0) = true := decide_eq_true d1
          clear hyes hno
          go_wp2_with fail
          go_roundw
          case rel => exact ⟨k + 1, by go_num, by omega, by rw [hs.out], by rw [hs.out], hB⟩
          case measure => simp [intOf]; omega
        have f1 : decide (ll < 0) = false := decide_eq_false d1
        by_cases d2 : d < ll
        · have hs := Lib.hid (hyes.out ⟨d0, .inr d2⟩)
          have f2 : decide (d < ll) = true := decide_eq_true d2
          clear hyes hno
          go_wp2_with fail
          go_roundw
          case rel => exact ⟨k + 1, by go_num, by omega, by rw [hs.out], by rw [hs.out], hB⟩
          case measure => simp [intOf]; omega
        · have hs := Lib.hid (hno.out (fun c => c.2.elim d1 d2))
          have f2 : decide (d < ll) = false := decide_eq_false d2
          clear hyes hno
          go_wp2_with fail
          go_roundw
          case rel => exact ⟨k + 1, by go_num, by omega, by rw [hs.out], by rw [hs.out], hB⟩
          case measure => simp [intOf]; omega
    · as_aux_lemma =>
      have z1 : ¬ (k : Int) < (x.units.length : Int) := by omega
      obtain rfl : k = x.units.length := by omega
      have hhn := hin0.out kk.flies
      have hr1 := hr.out
      generalize homeN L x u kk.flies x.units.length = hl at *
      obtain ⟨hh, ll⟩ := hl
      dsimp only at hhn hr1 ⊢
      have htw : Calls Tryd.prog 133 #[.agg #[.int .i64 x.field.wide, .int .i64 x.field.high, .slice s.field.ground.A x.field.ground.length s.field.ground.c, .slice s.field.ore.A x.field.ore.length s.field.ore.c], .int .i64 (a : Int), .int .i64 (hh : Int), .bool kk.flies] wr fun e w' => e = .returned (.int .i64 ((towardL x.field kk.flies a hh : Nat) : Int)) ∧ Below wr.heap.size wr w' := toward_any s.field x.field a hh kk.flies wr hB.out.sb.wo_.2.2.1 hm.out.good ha hhn
      rw [hr1] at htw
      replace htw := Lib.hid htw
      clear hr1 hr
      have hbf := hB.out.sb.b
      replace hbf := Lib.hid hbf
      obtain ⟨v0, v1, v2, v3, v4, v5, v6, v7, vl⟩ := hB.out.ucells
      obtain ⟨y8, y9, yl⟩ := hB.out.kcells
      obtain ⟨m0, m1, m2, m3, m4, m5, m6, m7, m8, mll⟩ := hB.out.sb.cells
      go_wp2_with fail
      refine htw.out.mono ?_
      rintro e W4 ⟨rfl, hb4⟩
      have hbg := hbf.out.trans (hb4.mono hbf.out.size)
      clear hb4
      replace hbg := Lib.hid hbg
      clear v0 v1 v2 v3 v4 v5 v6 v7 vl y8 y9 yl
      clear m0 m1 m2 m3 m4 m5 m6 m7 m8 mll
      go_wp2_with fail
      go_ret
      exact ⟨rfl, hbg.out⟩
set_option maxHeartbeats 6400000 in
set_option maxRecDepth 100000 in
theorem wwish_no (sK : SL) (L : List GK) (s : SW) (x : GW) (k : Int) (w : World) (hK : KS w w.heap.size sK L) (hW : WOk w s x) (h : worldE L x ≠ 0 ∨ k < 0 ∨ (x.units.length : Int) ≤ k) :
    Calls Tryd.prog 52 #[.slice sK.A L.length sK.c, .agg #[.int .i64 x.turn, .int .i64 x.next, .int .i64 x.field.wide, .int .i64 x.field.high, .slice s.field.ground.A x.field.ground.length s.field.ground.c, .slice s.field.ore.A x.field.ore.length s.field.ore.c, .slice s.gold.A x.gold.length s.gold.c, .slice s.units.A x.units.length s.units.c, .slice s.queue.A x.queue.length s.queue.c], .int .i64 k] w fun e w' => (∃ E, e = .returned (.tuple #[.int .i64 0, .iface 93 (.int .i64 E)])) ∧ Below w.heap.size w w' := by
  have hB : SBx w (w.alloc (.cells #[.int .i64 x.turn, .int .i64 x.next, .int .i64 x.field.wide, .int .i64 x.field.high, .slice s.field.ground.A x.field.ground.length s.field.ground.c, .slice s.field.ore.A x.field.ore.length s.field.ore.c, .slice s.gold.A x.gold.length s.gold.c, .slice s.units.A x.units.length s.units.c, .slice s.queue.A x.queue.length s.queue.c] 55)) sK L s x w.heap.size := sbx_start w sK L s x hK hW
  obtain ⟨sA, sc⟩ := sK
  dsimp only
  have hul := hW.ulen
  replace hB := Lib.hid hB
  clear hK hW
  go_enter Tryd.func52, Tryd.ntmps52
  go_upto_region 1 with fail
  generalize (w.alloc (.cells #[.int .i64 x.turn, .int .i64 x.next, .int .i64 x.field.wide, .int .i64 x.field.high, .slice s.field.ground.A x.field.ground.length s.field.ground.c, .slice s.field.ore.A x.field.ore.length s.field.ore.c, .slice s.gold.A x.gold.length s.gold.c, .slice s.units.A x.units.length s.units.c, .slice s.queue.A x.queue.length s.queue.c] 55)) = W at *
  obtain ⟨wb, hwb⟩ : ∃ wb, w.heap.size = wb := ⟨_, rfl⟩
  rw [hwb] at hB
  rw [hwb]
  replace hB : SBx w W ⟨sA, sc⟩ L s x wb := hB.out
  replace hB := Lib.hid hB
  replace hwb := Lib.hid hwb
  have hc : Calls Tryd.prog 28 #[.slice sA L.length sc, .agg #[.int .i64 x.turn, .int .i64 x.next, .int .i64 x.field.wide, .int .i64 x.field.high, .slice s.field.ground.A x.field.ground.length s.field.ground.c, .slice s.field.ore.A x.field.ore.length s.field.ore.c, .slice s.gold.A x.gold.length s.gold.c, .slice s.units.A x.units.length s.units.c, .slice s.queue.A x.queue.length s.queue.c]] W fun e w' => e = .returned (errV (worldE L x)) ∧ Below W.heap.size W w' := wcheck_any ⟨sA, sc⟩ L s x W hB.out.ks_ hB.out.wo_
  by_cases z1 : worldE L x = 0
  case neg =>
    as_aux_lemma =>
    rw [errV_ne z1] at hc
    generalize worldE L x = E at *
    replace hc := Lib.hid hc
    replace z1 := Lib.hid z1
    replace h := Lib.hid h
    obtain ⟨m0, m1, m2, m3, m4, m5, m6, m7, m8, mll⟩ := hB.out.cells
    go_wp2_with fail
    refine hc.out.mono ?_
    clear m0 m1 m2 m3 m4 m5 m6 m7 m8 mll
    rintro e W2 ⟨rfl, hb⟩
    have hB2 := hB.out.below hb
    go_wp2_with fail
    go_ret2
    exact ⟨⟨E, rfl⟩, hB2.b⟩
  rw [z1] at hc
  replace hc : Calls Tryd.prog 28 #[.slice sA L.length sc, .agg #[.int .i64 x.turn, .int .i64 x.next, .int .i64 x.field.wide, .int .i64 x.field.high, .slice s.field.ground.A x.field.ground.length s.field.ground.c, .slice s.field.ore.A x.field.ore.length s.field.ore.c, .slice s.gold.A x.gold.length s.gold.c, .slice s.units.A x.units.length s.units.c, .slice s.queue.A x.queue.length s.queue.c]] W fun e w' => e = .returned .nilIface ∧ Below W.heap.size W w' := hc
  replace hc := Lib.hid hc
  replace h : k < 0 ∨ (x.units.length : Int) ≤ k := h.resolve_left (fun c => c z1)
  replace z1 := Lib.hid z1
  obtain ⟨m0, m1, m2, m3, m4, m5, m6, m7, m8, mll⟩ := hB.out.cells
  go_upto_region 4 with (go_at_call 28; refine hc.out.mono ?_; clear m0 m1 m2 m3 m4 m5 m6 m7 m8 mll; rintro e W2 ⟨rfl, hb⟩)
  clear hc
  replace hB := Lib.hid (hB.out.below hb)
  clear hb
  obtain ⟨m0, m1, m2, m3, m4, m5, m6, m7, m8, mll⟩ := hB.out.cells
  by_cases h2 : k < 0
  · have d2 : decide (k < 0) = true := decide_eq_true h2
    clear h
    go_wp2_with fail
    go_ret2
    exact ⟨⟨6, rfl⟩, hB.out.b⟩
  · have h3 : (x.units.length : Int) ≤ k := by omega
    have d2 : decide (k < 0) = false := decide_eq_false h2
    have d3 : decide ((x.units.length : Int) ≤ k) = true := decide_eq_true h3
    clear h
    go_wp2_with fail
    go_ret2
    exact ⟨⟨6, rfl⟩, hB.out.b⟩
set_option maxHeartbeats 6400000 in
set_option maxRecDepth 100000 in
theorem wwish_ok (sK : SL) (L : List GK) (s : SW) (x : GW) (i : Nat) (w : World) (hK : KS w w.heap.size sK L) (hW : WOk w s x) (hok : WorldOk L x) (hi : i < x.units.length) :
    Calls Tryd.prog 52 #[.slice sK.A L.length sK.c, .agg #[.int .i64 x.turn, .int .i64 x.next, .int .i64 x.field.wide, .int .i64 x.field.high, .slice s.field.ground.A x.field.ground.length s.field.ground.c, .slice s.field.ore.A x.field.ore.length s.field.ore.c, .slice s.gold.A x.gold.length s.gold.c, .slice s.units.A x.units.length s.units.c, .slice s.queue.A x.queue.length s.queue.c], .int .i64 (i : Int)] w fun e w' => e = .returned (.tuple #[.int .i64 ((wishU L x (gu x.units i) : Nat) : Int), .nilIface]) ∧ Below w.heap.size w w' := by
  have hm := hok.wm
  have hwe := worldE_ok hok
  obtain ⟨R, hR⟩ : ∃ R, wishU L x (gu x.units i) = R := ⟨_, rfl⟩
  rw [hR]
  replace hR := Lib.hid hR
  replace hm := Lib.hid hm
  clear hok
  have hB : SBx w (w.alloc (.cells #[.int .i64 x.turn, .int .i64 x.next, .int .i64 x.field.wide, .int .i64 x.field.high, .slice s.field.ground.A x.field.ground.length s.field.ground.c, .slice s.field.ore.A x.field.ore.length s.field.ore.c, .slice s.gold.A x.gold.length s.gold.c, .slice s.units.A x.units.length s.units.c, .slice s.queue.A x.queue.length s.queue.c] 55)) sK L s x w.heap.size := sbx_start w sK L s x hK hW
  obtain ⟨sA, sc⟩ := sK
  dsimp only
  have hul := hW.ulen
  replace hB := Lib.hid hB
  clear hK hW
  go_enter Tryd.func52, Tryd.ntmps52
  go_upto_region 1 with fail
  generalize (w.alloc (.cells #[.int .i64 x.turn, .int .i64 x.next, .int .i64 x.field.wide, .int .i64 x.field.high, .slice s.field.ground.A x.field.ground.length s.field.ground.c, .slice s.field.ore.A x.field.ore.length s.field.ore.c, .slice s.gold.A x.gold.length s.gold.c, .slice s.units.A x.units.length s.units.c, .slice s.queue.A x.queue.length s.queue.c] 55)) = W at *
  obtain ⟨wb, hwb⟩ : ∃ wb, w.heap.size = wb := ⟨_, rfl⟩
  rw [hwb] at hB
  rw [hwb]
  replace hB : SBx w W ⟨sA, sc⟩ L s x wb := hB.out
  replace hB := Lib.hid hB
  replace hwb := Lib.hid hwb
  have hc : Calls Tryd.prog 28 #[.slice sA L.length sc, .agg #[.int .i64 x.turn, .int .i64 x.next, .int .i64 x.field.wide, .int .i64 x.field.high, .slice s.field.ground.A x.field.ground.length s.field.ground.c, .slice s.field.ore.A x.field.ore.length s.field.ore.c, .slice s.gold.A x.gold.length s.gold.c, .slice s.units.A x.units.length s.units.c, .slice s.queue.A x.queue.length s.queue.c]] W fun e w' => e = .returned (errV (worldE L x)) ∧ Below W.heap.size W w' := wcheck_any ⟨sA, sc⟩ L s x W hB.out.ks_ hB.out.wo_
  rw [hwe] at hc
  replace hc : Calls Tryd.prog 28 #[.slice sA L.length sc, .agg #[.int .i64 x.turn, .int .i64 x.next, .int .i64 x.field.wide, .int .i64 x.field.high, .slice s.field.ground.A x.field.ground.length s.field.ground.c, .slice s.field.ore.A x.field.ore.length s.field.ore.c, .slice s.gold.A x.gold.length s.gold.c, .slice s.units.A x.units.length s.units.c, .slice s.queue.A x.queue.length s.queue.c]] W fun e w' => e = .returned .nilIface ∧ Below W.heap.size W w' := hc
  replace hc := Lib.hid hc
  clear hwe
  obtain ⟨m0, m1, m2, m3, m4, m5, m6, m7, m8, mll⟩ := hB.out.cells
  go_upto_region 4 with (go_at_call 28; refine hc.out.mono ?_; clear m0 m1 m2 m3 m4 m5 m6 m7 m8 mll; rintro e W2 ⟨rfl, hb⟩)
  clear hc
  replace hB := Lib.hid (hB.out.below hb)
  clear hb
  have hc : Calls Tryd.prog 103 #[.slice sA L.length sc, .agg #[.int .i64 x.turn, .int .i64 x.next, .int .i64 x.field.wide, .int .i64 x.field.high, .slice s.field.ground.A x.field.ground.length s.field.ground.c, .slice s.field.ore.A x.field.ore.length s.field.ore.c, .slice s.gold.A x.gold.length s.gold.c, .slice s.units.A x.units.length s.units.c, .slice s.queue.A x.queue.length s.queue.c], .int .i64 (i : Int)] W2 fun e w' => e = .returned (.int .i64 ((wishU L x (gu x.units i) : Nat) : Int)) ∧ Below W2.heap.size W2 w' := wish_any ⟨sA, sc⟩ L s x i W2 hB.out.ks_ hB.out.wo_ hm.out hi
  rw [hR.out] at hc
  replace hc := Lib.hid hc
  have n1 : ¬ (i : Int) < 0 := by omega
  have n2 : ¬ (x.units.length : Int) ≤ (i : Int) := by omega
  have hbf := hB.out.b
  replace hbf := Lib.hid hbf
  obtain ⟨m0, m1, m2, m3, m4, m5, m6, m7, m8, mll⟩ := hB.out.cells
  go_wp2_with fail
  refine hc.out.mono ?_
  clear m0 m1 m2 m3 m4 m5 m6 m7 m8 mll
  rintro e W3 ⟨rfl, hb⟩
  have hbg := hbf.out.trans (hb.mono hbf.out.size)
  replace hbg := Lib.hid hbg
  clear hb
  go_wp2_with fail
  go_ret2
  exact ⟨rfl, hbg.out⟩
end Go.Proofs.YtkgkpggfoieioaaDoor
