import Derived.Test.YtkgkpggfoieioaaDoorSmallW
import Derived.Test.YtkgkpggfoieioaaDoorSumW
namespace Go.Proofs.YtkgkpggfoieioaaDoor
set_option linter.unusedVariables false
open Go.RowKit
/-! WorldPuts. -/
/-- A world in a box, and kinds. -/
structure PBx (w0 w : World) (sK : SL) (L : List GK) (s : SW) (x : GW) (wb : Nat) : Prop where
  b : Below w0.heap.size w0 w
  kw : Blk w wb 55 #[.int .i64 x.turn, .int .i64 x.next, .int .i64 x.field.wide, .int .i64 x.field.high, .slice s.field.ground.A x.field.ground.length s.field.ground.c, .slice s.field.ore.A x.field.ore.length s.field.ore.c, .slice s.gold.A x.gold.length s.gold.c, .slice s.units.A x.units.length s.units.c, .slice s.queue.A x.queue.length s.queue.c]
  ks : KS w0 w0.heap.size sK L
  wo : WOk w0 s x
section
variable {w0 w w' : World} {sK : SL} {L : List GK} {s : SW} {x : GW} {wb : Nat}
theorem PBx.below (h : PBx w0 w sK L s x wb) (hb : Below w.heap.size w w') : PBx w0 w' sK L s x wb := ⟨h.b.trans (hb.mono h.b.size), h.kw.below hb h.kw.lt, h.ks, h.wo⟩
theorem PBx.alloc (h : PBx w0 w sK L s x wb) (o : Obj) : PBx w0 (w.alloc o) sK L s x wb := h.below ((Below.refl _ _).alloc (Nat.le_refl _) o)
theorem PBx.drewN (h : PBx w0 w sK L s x wb) (n : Nat) : PBx w0 (w.drewN n) sK L s x wb := h.below ⟨rfl, rfl, rfl, Nat.le_refl _, fun _ _ => rfl⟩
theorem PBx.ks_ (h : PBx w0 w sK L s x wb) : KS w w.heap.size sK L := (h.ks.below h.b).more h.b.size
theorem PBx.wo_ (h : PBx w0 w sK L s x wb) : WOk w s x := h.wo.below h.b
theorem PBx.cells (h : PBx w0 w sK L s x wb) : w.cell? ⟨wb, 0, none⟩ = some (.int .i64 x.turn) ∧ w.cell? ⟨wb, 1, none⟩ = some (.int .i64 x.next) ∧ w.cell? ⟨wb, 2, none⟩ = some (.int .i64 x.field.wide) ∧ w.cell? ⟨wb, 3, none⟩ = some (.int .i64 x.field.high) ∧ w.cell? ⟨wb, 4, none⟩ = some (.slice s.field.ground.A x.field.ground.length s.field.ground.c) ∧ w.cell? ⟨wb, 5, none⟩ = some (.slice s.field.ore.A x.field.ore.length s.field.ore.c) ∧ w.cell? ⟨wb, 6, none⟩ = some (.slice s.gold.A x.gold.length s.gold.c) ∧ w.cell? ⟨wb, 7, none⟩ = some (.slice s.units.A x.units.length s.units.c) ∧ w.cell? ⟨wb, 8, none⟩ = some (.slice s.queue.A x.queue.length s.queue.c) ∧ wb < w.heap.size := ⟨h.kw.cell 0, h.kw.cell 1, h.kw.cell 2, h.kw.cell 3, h.kw.cell 4, h.kw.cell 5, h.kw.cell 6, h.kw.cell 7, h.kw.cell 8, h.kw.lt⟩
end
theorem small_z : ∃ z : GW, z.units.length = 3 ∧ z.next = 4 ∧ (gu z.units 1).id = 2 ∧ ∀ w : World, Calls Tryd.prog 25 #[] w fun e w' => ∃ s, e = .returned (.tuple #[.agg #[.int .i64 z.turn, .int .i64 z.next, .int .i64 z.field.wide, .int .i64 z.field.high, .slice s.field.ground.A z.field.ground.length s.field.ground.c, .slice s.field.ore.A z.field.ore.length s.field.ore.c, .slice s.gold.A z.gold.length s.gold.c, .slice s.units.A z.units.length s.units.c, .slice s.queue.A z.queue.length s.queue.c], .bool true]) ∧ WOk w' s z ∧ Below w.heap.size w w' :=
  ⟨xS4, xS4_len.1, xS4_len.2.2, xS4_ids.2.1, fun w => (small_any w).mono fun _ _ ⟨s, h1, h2, h3⟩ => ⟨s, h1, h2.wok wintS4, h3⟩⟩
set_option maxHeartbeats 12800000 in
set_option maxRecDepth 100000 in
theorem worldPuts_in (sK : SL) (L : List GK) (s : SW) (x : GW) (p k a : Int) (w : World) (hK : KS w w.heap.size sK L) (hW : WOk w s x) (hf : FewB x) :
    Calls Tryd.prog 5 #[.slice sK.A L.length sK.c, .agg #[.int .i64 x.turn, .int .i64 x.next, .int .i64 x.field.wide, .int .i64 x.field.high, .slice s.field.ground.A x.field.ground.length s.field.ground.c, .slice s.field.ore.A x.field.ore.length s.field.ore.c, .slice s.gold.A x.gold.length s.gold.c, .slice s.units.A x.units.length s.units.c, .slice s.queue.A x.queue.length s.queue.c], .int .i64 p, .int .i64 k, .int .i64 a] w fun e w' => e = .returned (.bool true) ∧ Below w.heap.size w w' := by
  obtain ⟨sA, sc⟩ := sK
  dsimp only
  have hul := hW.ulen
  have hin := hW.int
  have hB : PBx w (w.alloc (.cells #[.int .i64 x.turn, .int .i64 x.next, .int .i64 x.field.wide, .int .i64 x.field.high, .slice s.field.ground.A x.field.ground.length s.field.ground.c, .slice s.field.ore.A x.field.ore.length s.field.ore.c, .slice s.gold.A x.gold.length s.gold.c, .slice s.units.A x.units.length s.units.c, .slice s.queue.A x.queue.length s.queue.c] 55)) ⟨sA, sc⟩ L s x w.heap.size := ⟨(Below.refl _ _).alloc (Nat.le_refl _) _, Blk.new _ _ _, hK, hW⟩
  obtain ⟨z, hz1, hz2, hz3, hsm⟩ := small_z
  replace hB := Lib.hid hB
  replace hf := Lib.hid hf
  replace hin := Lib.hid hin
  replace hul := Lib.hid hul
  replace hz1 := Lib.hid hz1
  replace hz2 := Lib.hid hz2
  replace hz3 := Lib.hid hz3
  replace hsm := Lib.hid hsm
  clear hK hW
  go_enter Tryd.func5, Tryd.ntmps5
  go_upto_region 1 with fail
  generalize (w.alloc (.cells #[.int .i64 x.turn, .int .i64 x.next, .int .i64 x.field.wide, .int .i64 x.field.high, .slice s.field.ground.A x.field.ground.length s.field.ground.c, .slice s.field.ore.A x.field.ore.length s.field.ore.c, .slice s.gold.A x.gold.length s.gold.c, .slice s.units.A x.units.length s.units.c, .slice s.queue.A x.queue.length s.queue.c] 55)) = W at *
  obtain ⟨wb, hwb⟩ : ∃ wb, w.heap.size = wb := ⟨_, rfl⟩
  rw [hwb] at hB
  rw [hwb]
  replace hB : PBx w W ⟨sA, sc⟩ L s x wb := hB.out
  replace hB := Lib.hid hB
  replace hwb := Lib.hid hwb
  go_upto_region 2 with (go_at_call 25; refine (hsm.out _).mono ?_; rintro e W1 ⟨sm, rfl, hzo, hb⟩)
  clear hsm
  replace hB := Lib.hid ((hB.out.below hb).alloc (.cells #[.int .i64 z.turn, .int .i64 z.next, .int .i64 z.field.wide, .int .i64 z.field.high, .slice sm.field.ground.A z.field.ground.length sm.field.ground.c, .slice sm.field.ore.A z.field.ore.length sm.field.ore.c, .slice sm.gold.A z.gold.length sm.gold.c, .slice sm.units.A z.units.length sm.units.c, .slice sm.queue.A z.queue.length sm.queue.c] 55))
  clear hb
  have hzk : Blk (W1.alloc (.cells #[.int .i64 z.turn, .int .i64 z.next, .int .i64 z.field.wide, .int .i64 z.field.high, .slice sm.field.ground.A z.field.ground.length sm.field.ground.c, .slice sm.field.ore.A z.field.ore.length sm.field.ore.c, .slice sm.gold.A z.gold.length sm.gold.c, .slice sm.units.A z.units.length sm.units.c, .slice sm.queue.A z.queue.length sm.queue.c] 55)) W1.heap.size 55 #[.int .i64 z.turn, .int .i64 z.next, .int .i64 z.field.wide, .int .i64 z.field.high, .slice sm.field.ground.A z.field.ground.length sm.field.ground.c, .slice sm.field.ore.A z.field.ore.length sm.field.ore.c, .slice sm.gold.A z.gold.length sm.gold.c, .slice sm.units.A z.units.length sm.units.c, .slice sm.queue.A z.queue.length sm.queue.c] := Blk.new _ _ _
  have hzw : WOk (W1.alloc (.cells #[.int .i64 z.turn, .int .i64 z.next, .int .i64 z.field.wide, .int .i64 z.field.high, .slice sm.field.ground.A z.field.ground.length sm.field.ground.c, .slice sm.field.ore.A z.field.ore.length sm.field.ore.c, .slice sm.gold.A z.gold.length sm.gold.c, .slice sm.units.A z.units.length sm.units.c, .slice sm.queue.A z.queue.length sm.queue.c] 55)) sm z := hzo.below ((Below.refl _ _).alloc (Nat.le_refl _) _)
  clear hzo
  generalize (W1.alloc (.cells #[.int .i64 z.turn, .int .i64 z.next, .int .i64 z.field.wide, .int .i64 z.field.high, .slice sm.field.ground.A z.field.ground.length sm.field.ground.c, .slice sm.field.ore.A z.field.ore.length sm.field.ore.c, .slice sm.gold.A z.gold.length sm.gold.c, .slice sm.units.A z.units.length sm.units.c, .slice sm.queue.A z.queue.length sm.queue.c] 55)) = W2 at *
  obtain ⟨pf, hpf⟩ : ∃ pf, W1.heap.size = pf := ⟨_, rfl⟩
  rw [hpf] at hzk ⊢
  clear hpf
  obtain ⟨sm1, sm2, ⟨uA, uc⟩, sm3⟩ := sm
  obtain ⟨ub, uo, hA, hub, k0, _⟩ := ru_at hzw.2.2.2.2.1.1 1 (by rw [hz1.out]; decide)
  dsimp only at hA hzk ⊢
  subst hA
  have c7 : W2.cell? ⟨pf, 7, none⟩ = some (.slice (some ⟨ub, uo, none⟩) z.units.length uc) := hzk.cell 7
  have c1 : W2.cell? ⟨pf, 1, none⟩ = some (.int .i64 4) := by rw [← hz2.out]; exact hzk.cell 1
  have k1 : W2.cell? ⟨ub, uo + 8, none⟩ = some (.int .i64 2) := by rw [hz3.out] at k0; exact k0
  have hlt : (1 : Int) < (z.units.length : Int) := by rw [hz1.out]; decide
  clear hzk hzw k0
  obtain ⟨SU, hSU⟩ : ∃ SU, sumL (encL x) = SU := ⟨_, rfl⟩
  go_upto_region 4 with fail
  clear c7 c1 k1 hlt
  have hc := wsum_any s x W2 hB.out.wo_ hf.out
  rw [hSU] at hc
  replace hc := Lib.hid hc
  replace hSU := Lib.hid hSU
  obtain ⟨m0, m1, m2, m3, m4, m5, m6, m7, m8, mll⟩ := hB.out.cells
  go_upto_region 5 with (go_at_call 26; refine hc.out.mono ?_; clear m0 m1 m2 m3 m4 m5 m6 m7 m8 mll; rintro e W3 ⟨rfl, hb⟩)
  clear hc
  replace hB := Lib.hid (hB.out.below hb)
  clear hb
  by_cases z0 : placeE L x p k a = 0
  case neg =>
    as_aux_lemma =>
    have hc : Calls Tryd.prog 27 #[.slice sA L.length sc, .agg #[.int .i64 x.turn, .int .i64 x.next, .int .i64 x.field.wide, .int .i64 x.field.high, .slice s.field.ground.A x.field.ground.length s.field.ground.c, .slice s.field.ore.A x.field.ore.length s.field.ore.c, .slice s.gold.A x.gold.length s.gold.c, .slice s.units.A x.units.length s.units.c, .slice s.queue.A x.queue.length s.queue.c], .int .i64 p, .int .i64 k, .int .i64 a] W3 fun e w' => e = .returned (.tuple #[.agg #[.int .i64 0, .int .i64 0, .int .i64 0, .int .i64 0, .slice none 0 0, .slice none 0 0, .slice none 0 0, .slice none 0 0, .slice none 0 0], .iface 93 (.int .i64 (placeE L x p k a))]) ∧ Below W3.heap.size W3 w' := place_no ⟨sA, sc⟩ L s x p k a W3 hB.out.ks_ hB.out.wo_ z0
    generalize placeE L x p k a = E at *
    replace hc := Lib.hid hc
    replace z0 := Lib.hid z0
    obtain ⟨m0, m1, m2, m3, m4, m5, m6, m7, m8, mll⟩ := hB.out.cells
    go_upto_region 6 with (go_at_call 27; refine hc.out.mono ?_; clear m0 m1 m2 m3 m4 m5 m6 m7 m8 mll; rintro e W4 ⟨rfl, hb⟩)
    clear hc
    replace hB := Lib.hid ((hB.out.below hb).alloc (.cells #[.int .i64 0, .int .i64 0, .int .i64 0, .int .i64 0, .slice none 0 0, .slice none 0 0, .slice none 0 0, .slice none 0 0, .slice none 0 0] 55))
    clear hb
    generalize (W4.alloc (.cells #[.int .i64 0, .int .i64 0, .int .i64 0, .int .i64 0, .slice none 0 0, .slice none 0 0, .slice none 0 0, .slice none 0 0, .slice none 0 0] 55)) = W5 at *
    have hc := wsum_any s x W5 hB.out.wo_ hf.out
    rw [hSU.out] at hc
    replace hc := Lib.hid hc
    obtain ⟨m0, m1, m2, m3, m4, m5, m6, m7, m8, mll⟩ := hB.out.cells
    go_wp2_with (go_at_call 26; refine hc.out.mono ?_; clear m0 m1 m2 m3 m4 m5 m6 m7 m8 mll; rintro e W6 ⟨rfl, hb⟩)
    go_ret
    exact ⟨rfl, hB.out.b.trans (hb.mono hB.out.b.size)⟩
  have hP := placeE_0 z0
  obtain ⟨kd, rfl⟩ : ∃ kd : Nat, k = (kd : Int) := ⟨k.toNat, by have := hP.kind; omega⟩
  obtain ⟨sp, rfl⟩ : ∃ sp : Nat, a = (sp : Int) := ⟨a.toNat, by have := hP.spot; omega⟩
  obtain ⟨y, hy⟩ : ∃ y, addX L x p kd (sp : Int) = y := ⟨_, rfl⟩
  have hiy : WInt y := by rw [← hy]; exact hin.out.add hP
  have hyl : y.units.length = x.units.length + 1 := by rw [← hy]; unfold addX; simp
  have hyn : gu y.units x.units.length = ⟨x.next, p, (kd : Int), (sp : Int), (gk L kd).life, 0, 0, 0⟩ := by rw [← hy]; exact gu_app_end
  have hyi : ∀ i, i < x.units.length → gu y.units i = gu x.units i := fun i hi => by rw [← hy]; exact gu_app_lt hi
  have hyt : placeE L y p (kd : Int) (sp : Int) ≠ 0 := by rw [← hy]; exact put_twice hP
  have hyc : worldE L y = 0 := by rw [← hy]; exact worldE_ok (put_ok hP)
  have hyf : findId y.units x.next = (x.units.length : Int) := by rw [← hy]; exact put_find hP.ok
  have hkd : kd < L.length := by have := hP.kind; omega
  have hrm := hP.room
  have hc := place_ok ⟨sA, sc⟩ L s x p kd sp W3 hB.out.ks_ hB.out.wo_ hP
  rw [hy] at hc
  replace hc : Calls Tryd.prog 27 #[.slice sA L.length sc, .agg #[.int .i64 x.turn, .int .i64 x.next, .int .i64 x.field.wide, .int .i64 x.field.high, .slice s.field.ground.A x.field.ground.length s.field.ground.c, .slice s.field.ore.A x.field.ore.length s.field.ore.c, .slice s.gold.A x.gold.length s.gold.c, .slice s.units.A x.units.length s.units.c, .slice s.queue.A x.queue.length s.queue.c], .int .i64 p, .int .i64 (kd : Int), .int .i64 (sp : Int)] W3 fun e w' => ∃ s', e = .returned (.tuple #[.agg #[.int .i64 y.turn, .int .i64 y.next, .int .i64 y.field.wide, .int .i64 y.field.high, .slice s'.field.ground.A y.field.ground.length s'.field.ground.c, .slice s'.field.ore.A y.field.ore.length s'.field.ore.c, .slice s'.gold.A y.gold.length s'.gold.c, .slice s'.units.A y.units.length s'.units.c, .slice s'.queue.A y.queue.length s'.queue.c], .nilIface]) ∧ WOwn w' (W3.heap.size + 2) s' y ∧ Below W3.heap.size W3 w' := hc
  replace hc := Lib.hid hc
  replace hP := Lib.hid hP
  replace hy := Lib.hid hy
  replace hiy := Lib.hid hiy
  replace hyl := Lib.hid hyl
  replace hyn := Lib.hid hyn
  replace hyi := Lib.hid hyi
  replace hyt := Lib.hid hyt
  replace hyc := Lib.hid hyc
  replace hyf := Lib.hid hyf
  replace hrm := Lib.hid hrm
  clear z0
  obtain ⟨m0, m1, m2, m3, m4, m5, m6, m7, m8, mll⟩ := hB.out.cells
  go_upto_region 6 with (go_at_call 27; refine hc.out.mono ?_; clear m0 m1 m2 m3 m4 m5 m6 m7 m8 mll; rintro e W4 ⟨s2, rfl, hO, hb⟩)
  clear hc
  have hB4 := (hB.out.below hb).alloc (.cells #[.int .i64 y.turn, .int .i64 y.next, .int .i64 y.field.wide, .int .i64 y.field.high, .slice s2.field.ground.A y.field.ground.length s2.field.ground.c, .slice s2.field.ore.A y.field.ore.length s2.field.ore.c, .slice s2.gold.A y.gold.length s2.gold.c, .slice s2.units.A y.units.length s2.units.c, .slice s2.queue.A y.queue.length s2.queue.c] 55)
  have hY4 : PBx (W4.alloc (.cells #[.int .i64 y.turn, .int .i64 y.next, .int .i64 y.field.wide, .int .i64 y.field.high, .slice s2.field.ground.A y.field.ground.length s2.field.ground.c, .slice s2.field.ore.A y.field.ore.length s2.field.ore.c, .slice s2.gold.A y.gold.length s2.gold.c, .slice s2.units.A y.units.length s2.units.c, .slice s2.queue.A y.queue.length s2.queue.c] 55)) (W4.alloc (.cells #[.int .i64 y.turn, .int .i64 y.next, .int .i64 y.field.wide, .int .i64 y.field.high, .slice s2.field.ground.A y.field.ground.length s2.field.ground.c, .slice s2.field.ore.A y.field.ore.length s2.field.ore.c, .slice s2.gold.A y.gold.length s2.gold.c, .slice s2.units.A y.units.length s2.units.c, .slice s2.queue.A y.queue.length s2.queue.c] 55)) ⟨sA, sc⟩ L s2 y W4.heap.size := ⟨Below.refl _ _, Blk.new _ _ _, hB4.ks_, (hO.wok hiy.out).below ((Below.refl _ _).alloc (Nat.le_refl _) _)⟩
  clear hB hb hO
  have hB := Lib.hid hB4
  clear hB4
  generalize (W4.alloc (.cells #[.int .i64 y.turn, .int .i64 y.next, .int .i64 y.field.wide, .int .i64 y.field.high, .slice s2.field.ground.A y.field.ground.length s2.field.ground.c, .slice s2.field.ore.A y.field.ore.length s2.field.ore.c, .slice s2.gold.A y.gold.length s2.gold.c, .slice s2.units.A y.units.length s2.units.c, .slice s2.queue.A y.queue.length s2.queue.c] 55)) = W5 at *
  obtain ⟨py, hpy⟩ : ∃ py, W4.heap.size = py := ⟨_, rfl⟩
  rw [hpy] at hY4 ⊢
  clear hpy
  have hY := Lib.hid hY4
  clear hY4
  have hc := wsum_any s x W5 hB.out.wo_ hf.out
  rw [hSU.out] at hc
  replace hc := Lib.hid hc
  obtain ⟨m0, m1, m2, m3, m4, m5, m6, m7, m8, mll⟩ := hB.out.cells
  go_upto_region 12 with (go_at_call 26; refine hc.out.mono ?_; clear m0 m1 m2 m3 m4 m5 m6 m7 m8 mll; rintro e W6 ⟨rfl, hb⟩; obtain ⟨m0, m1, m2, m3, m4, m5, m6, m7, m8, mll⟩ := (hB.out.below hb).cells)
  clear m0 m1 m2 m3 m4 m5 m6 m7 m8 mll
  clear hc
  replace hB := Lib.hid (hB.out.below hb)
  replace hY := Lib.hid (hY.out.below hb)
  clear hb
  have hlen1 : (x.units.length : Int) < (y.units.length : Int) := by have := hyl.out; omega
  have e1 : IntKind.i64.wrap ((x.units.length : Int) + 1) = (y.units.length : Int) := by
    rw [IntWalk.i64_in _ (by have := hrm.out.1; omega)]; have := hyl.out; omega
  obtain ⟨bk, okk, hAk, _, _, kl, _⟩ := rk_at hB.out.ks_.rd kd hkd
  dsimp only at hAk
  subst hAk
  obtain ⟨lf, hlf⟩ : ∃ lf, (gk L kd).life = lf := ⟨_, rfl⟩
  obtain ⟨yb, yo, hYA, _, q0, q1, q2, q3, q4, q5, q6, q7⟩ := ru_at hY.out.wo_.2.2.2.2.1.1 x.units.length (by have := hyl.out; omega)
  rw [hyn.out] at q0 q1 q2 q3 q4 q5 q6 q7
  dsimp only at q0 q1 q2 q3 q4 q5 q6 q7
  rw [hlf] at q4 kl
  have hkdi : (kd : Int) < (L.length : Int) := by omega
  obtain ⟨_, m1, _, _, _, _, _, m7, _, mll⟩ := hB.out.cells
  obtain ⟨_, n1, _, _, _, _, _, n7, _, nll⟩ := hY.out.cells
  rw [hYA] at n7
  replace hYA := Lib.hid hYA
  clear hlf q2 q5 q7 n1
  go_quiet (fail)
  have hB7 := hB.out.drewN nq
  have hY7 := hY.out.drewN nq
  clear hB hY m1 m7 mll n7 nll q0 q1 q3 q4 q6 kl
  generalize W6.drewN nq = W7 at *
  replace hB7 := Lib.hid hB7
  replace hY7 := Lib.hid hY7
  go_wp2_with fail
  go_loopw [18] (fun vi wr => ∃ i : Nat, vi = .int .i64 i ∧ i ≤ x.units.length ∧ Hid (PBx w wr ⟨some ⟨bk, okk, none⟩, sc⟩ L s x wb) ∧ Hid (PBx W5 wr ⟨some ⟨bk, okk, none⟩, sc⟩ L s2 y py)) (fun vi _ => x.units.length - (intOf vi).toNat)
  case atStart => exact ⟨0, rfl, Nat.zero_le _, hB7, hY7⟩
  case round =>
    clear hB7 hY7
    obtain ⟨i, rfl, hi, hB, hY⟩ := hrel
    by_cases hlt : i < x.units.length
    · as_aux_lemma =>
      have z1 : (i : Int) < (x.units.length : Int) := by omega
      have hu40 := hrm.out.1
      have hyl1 := hyl.out
      have z2 : (i : Int) < (y.units.length : Int) := by omega
      obtain ⟨yb, yo, hYA, _, q0, q1, q2, q3, q4, q5, q6, q7⟩ := ru_at hY.out.wo_.2.2.2.2.1.1 i (by omega)
      clear hyl1
      obtain ⟨xb, xo, hXA, _, p0, p1, p2, p3, p4, p5, p6, p7⟩ := ru_at hB.out.wo_.2.2.2.2.1.1 i hlt
      rw [hyi.out i hlt] at q0 q1 q2 q3 q4 q5 q6 q7
      generalize (gu x.units i) = u at *
      obtain ⟨_, m1, _, _, _, _, _, m7, _, mll⟩ := hB.out.cells
      obtain ⟨_, n1, _, _, _, _, _, n7, _, nll⟩ := hY.out.cells
      rw [hYA] at n7
      rw [hXA] at m7
      have hB6 : ∀ q, Hid (PBx w (wr.drewN q) ⟨some ⟨bk, okk, none⟩, sc⟩ L s x wb) := fun q => Lib.hid (hB.out.drewN q)
      have hY6 : ∀ q, Hid (PBx W5 (wr.drewN q) ⟨some ⟨bk, okk, none⟩, sc⟩ L s2 y py) := fun q => Lib.hid (hY.out.drewN q)
      replace hB6 := Lib.hid hB6
      replace hY6 := Lib.hid hY6
      clear hYA hXA m1 n1 hB hY
      go_wp2_with fail
      go_quiet (fail)
      clear p0 p1 p2 p3 p4 p5 p6 p7 q0 q1 q2 q3 q4 q5 q6 q7 m7 n7
      go_wp2_with fail
      go_roundw
      case rel => exact ⟨i + 1, by go_num, by omega, hB6.out _, hY6.out _⟩
      case measure => simp [intOf]; omega
    · have z1 : ¬ (i : Int) < (x.units.length : Int) := by omega
      as_aux_lemma =>
      have hc := place_no ⟨some ⟨bk, okk, none⟩, sc⟩ L s2 y p (kd : Int) (sp : Int) wr hY.out.ks_ hY.out.wo_ hyt.out
      replace hc : Calls Tryd.prog 27 #[.slice (some ⟨bk, okk, none⟩) L.length sc, .agg #[.int .i64 y.turn, .int .i64 y.next, .int .i64 y.field.wide, .int .i64 y.field.high, .slice s2.field.ground.A y.field.ground.length s2.field.ground.c, .slice s2.field.ore.A y.field.ore.length s2.field.ore.c, .slice s2.gold.A y.gold.length s2.gold.c, .slice s2.units.A y.units.length s2.units.c, .slice s2.queue.A y.queue.length s2.queue.c], .int .i64 p, .int .i64 (kd : Int), .int .i64 (sp : Int)] wr fun e w' => e = .returned (.tuple #[.agg #[.int .i64 0, .int .i64 0, .int .i64 0, .int .i64 0, .slice none 0 0, .slice none 0 0, .slice none 0 0, .slice none 0 0, .slice none 0 0], .iface 93 (.int .i64 (placeE L y p (kd : Int) (sp : Int)))]) ∧ Below wr.heap.size wr w' := hc
      generalize placeE L y p (kd : Int) (sp : Int) = E at *
      replace hc := Lib.hid hc
      obtain ⟨m0, m1, m2, m3, m4, m5, m6, m7, m8, mll⟩ := hY.out.cells
      go_upto_region 20 with (go_at_call 27; refine hc.out.mono ?_; clear m0 m1 m2 m3 m4 m5 m6 m7 m8 mll; rintro e W8 ⟨rfl, hb⟩)
      clear hc
      have hBn := (hB.out.below hb).alloc (.cells #[.int .i64 0, .int .i64 0, .int .i64 0, .int .i64 0, .slice none 0 0, .slice none 0 0, .slice none 0 0, .slice none 0 0, .slice none 0 0] 55)
      have hYn := (hY.out.below hb).alloc (.cells #[.int .i64 0, .int .i64 0, .int .i64 0, .int .i64 0, .slice none 0 0, .slice none 0 0, .slice none 0 0, .slice none 0 0, .slice none 0 0] 55)
      clear hb hB hY
      generalize (W8.alloc (.cells #[.int .i64 0, .int .i64 0, .int .i64 0, .int .i64 0, .slice none 0 0, .slice none 0 0, .slice none 0 0, .slice none 0 0, .slice none 0 0] 55)) = W9 at *
      have hB := Lib.hid hBn
      have hY := Lib.hid hYn
      clear hBn hYn
      have hc : Calls Tryd.prog 28 #[.slice (some ⟨bk, okk, none⟩) L.length sc, .agg #[.int .i64 y.turn, .int .i64 y.next, .int .i64 y.field.wide, .int .i64 y.field.high, .slice s2.field.ground.A y.field.ground.length s2.field.ground.c, .slice s2.field.ore.A y.field.ore.length s2.field.ore.c, .slice s2.gold.A y.gold.length s2.gold.c, .slice s2.units.A y.units.length s2.units.c, .slice s2.queue.A y.queue.length s2.queue.c]] W9 fun e w' => e = .returned (errV (worldE L y)) ∧ Below W9.heap.size W9 w' := wcheck_any ⟨some ⟨bk, okk, none⟩, sc⟩ L s2 y W9 hY.out.ks_ hY.out.wo_
      rw [hyc.out] at hc
      replace hc : Calls Tryd.prog 28 #[.slice (some ⟨bk, okk, none⟩) L.length sc, .agg #[.int .i64 y.turn, .int .i64 y.next, .int .i64 y.field.wide, .int .i64 y.field.high, .slice s2.field.ground.A y.field.ground.length s2.field.ground.c, .slice s2.field.ore.A y.field.ore.length s2.field.ore.c, .slice s2.gold.A y.gold.length s2.gold.c, .slice s2.units.A y.units.length s2.units.c, .slice s2.queue.A y.queue.length s2.queue.c]] W9 fun e w' => e = .returned .nilIface ∧ Below W9.heap.size W9 w' := hc
      replace hc := Lib.hid hc
      obtain ⟨m0, m1, m2, m3, m4, m5, m6, m7, m8, mll⟩ := hY.out.cells
      go_upto_region 21 with (go_at_call 28; refine hc.out.mono ?_; clear m0 m1 m2 m3 m4 m5 m6 m7 m8 mll; rintro e W10 ⟨rfl, hb⟩)
      clear hc
      replace hB := Lib.hid (hB.out.below hb)
      replace hY := Lib.hid (hY.out.below hb)
      clear hb
      have hc : Calls Tryd.prog 29 #[.agg #[.int .i64 y.turn, .int .i64 y.next, .int .i64 y.field.wide, .int .i64 y.field.high, .slice s2.field.ground.A y.field.ground.length s2.field.ground.c, .slice s2.field.ore.A y.field.ore.length s2.field.ore.c, .slice s2.gold.A y.gold.length s2.gold.c, .slice s2.units.A y.units.length s2.units.c, .slice s2.queue.A y.queue.length s2.queue.c], .int .i64 x.next] W10 fun e w' => e = .returned (.int .i64 (findId y.units x.next)) ∧ Below W10.heap.size W10 w' := wfind_any s2 y x.next W10 hY.out.wo_
      rw [hyf.out] at hc
      replace hc := Lib.hid hc
      obtain ⟨_, mx, _, _, _, _, _, _, _, _⟩ := hB.out.cells
      have hbf := hB.out.b
      replace hbf := Lib.hid hbf
      obtain ⟨m0, m1, m2, m3, m4, m5, m6, m7, m8, mll⟩ := hY.out.cells
      go_wp2_with (go_at_call 29; refine hc.out.mono ?_; clear m0 m1 m2 m3 m4 m5 m6 m7 m8 mll; rintro e W11 ⟨rfl, hb⟩)
      go_ret
      exact ⟨rfl, hbf.out.trans (hb.mono hbf.out.size)⟩
theorem worldPuts_any (v0 : Value) (x0 : SL × List GK) (v1 : Value) (x1 : SW × GW) (a2 a3 a4 : Int) (w : World) (h0 : v0 = .slice x0.1.A x0.2.length x0.1.c ∧ SLK w x0.1 x0.2) (h1 : v1 = .agg (wV x1.1 x1.2).toArray ∧ WOk w x1.1 x1.2) (h2 : (Lit.int .i64 a2).wf = true) (h3 : (Lit.int .i64 a3).wf = true) (h4 : (Lit.int .i64 a4).wf = true) (b0 : x0.2.length ≤ 1048576) (b1 : FewB x1.2) :
    Calls Tryd.prog 5 #[v0, v1, .int .i64 a2, .int .i64 a3, .int .i64 a4] w fun e w' => e = .returned (.bool true) ∧ Below w.heap.size w w' := by
  obtain ⟨rfl, hK⟩ := h0
  obtain ⟨rfl, hW⟩ := h1
  exact worldPuts_in x0.1 x0.2 x1.1 x1.2 a2 a3 a4 w hK.ks hW b1
end Go.Proofs.YtkgkpggfoieioaaDoor
