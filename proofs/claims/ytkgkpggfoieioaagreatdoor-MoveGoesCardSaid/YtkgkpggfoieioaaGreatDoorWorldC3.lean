import Derived.Test.YtkgkpggfoieioaaGreatDoorWorldC2
namespace Go.Proofs.YtkgkpggfoieioaaGreatDoor
set_option linter.unusedVariables false
open Go.RowKit
/-! world.job; a world while it is looked at. -/
/-- What stands in memory while a world is looked at. -/
structure WB (B : Nat) (w0 w : World) (sK : SL) (L : List GK) (s : SW) (x : GW) (wb : Nat) : Prop where
  b : Below B w0 w
  sz : B ≤ w.heap.size
  kw : Blk w wb 29 (wC s x)
  wo : WOk w s x
  ks : KS w w.heap.size sK L
section
variable {B wb : Nat} {w0 w w' : World} {sK : SL} {L : List GK} {s : SW} {x : GW}
theorem WB.below (h : WB B w0 w sK L s x wb) (hb : Below w.heap.size w w') : WB B w0 w' sK L s x wb :=
  ⟨h.b.trans (hb.mono h.sz), Nat.le_trans h.sz hb.size, h.kw.below hb h.kw.lt, h.wo.below hb, h.ks.up hb⟩
theorem WB.drewN (h : WB B w0 w sK L s x wb) (n : Nat) : WB B w0 (w.drewN n) sK L s x wb := h.below ⟨rfl, rfl, rfl, Nat.le_refl _, fun _ _ => rfl⟩
theorem WB.wcells (h : WB B w0 w sK L s x wb) : w.cell? ⟨wb, 0, none⟩ = some (.int .i64 x.turn) ∧ w.cell? ⟨wb, 1, none⟩ = some (.int .i64 x.next) ∧ w.cell? ⟨wb, 2, none⟩ = some (.int .i64 x.field.wide) ∧ w.cell? ⟨wb, 3, none⟩ = some (.int .i64 x.field.high) ∧ w.cell? ⟨wb, 4, none⟩ = some (.slice s.field.ground.A x.field.ground.length s.field.ground.c) ∧ w.cell? ⟨wb, 5, none⟩ = some (.slice s.field.ore.A x.field.ore.length s.field.ore.c) ∧ w.cell? ⟨wb, 6, none⟩ = some (.slice s.gold.A x.gold.length s.gold.c) ∧ w.cell? ⟨wb, 7, none⟩ = some (.slice s.units.A x.units.length s.units.c) ∧ w.cell? ⟨wb, 8, none⟩ = some (.slice s.queue.A x.queue.length s.queue.c) ∧ wb < w.heap.size :=
  ⟨h.kw.cell 0, h.kw.cell 1, h.kw.cell 2, h.kw.cell 3, h.kw.cell 4, h.kw.cell 5, h.kw.cell 6, h.kw.cell 7, h.kw.cell 8, h.kw.lt⟩
end
theorem WOk.rj {w : World} {s : SW} {x : GW} (h : WOk w s x) : RD w w.heap.size 4 s.queue.A x.queue.length (x.queue.flatMap jC) := h.2.2.2.2.2.1
theorem rj_at {w : World} {B : Nat} {A : Option Addr} {L : List GJ} (h : RD w B 4 A L.length (L.flatMap jC)) (k : Nat) (hk : k < L.length) :
    ∃ b o, A = some ⟨b, o, none⟩ ∧ b < B ∧ w.cell? ⟨b, o + k * 4, none⟩ = some (.int .i64 (gj L k).player) ∧ w.cell? ⟨b, o + k * 4 + 1, none⟩ = some (.int .i64 (gj L k).unit) ∧ w.cell? ⟨b, o + k * 4 + 2, none⟩ = some (.int .i64 (gj L k).kind) ∧ w.cell? ⟨b, o + k * 4 + 3, none⟩ = some (.int .i64 (gj L k).left) := by
  obtain ⟨b, o, hA, hb⟩ := h.addr (by omega)
  have key : ∀ j, j < 4 → w.cell? ⟨b, o + (k * 4 + j), none⟩ = (jC (gj L k))[j]? := fun j hj => by
    rw [h.at_ hA (by omega), flat_get jC 4 jC_len L k j hj, gj_get hk]; rfl
  exact ⟨b, o, hA, hb, key 0 (by omega), key 1 (by omega), key 2 (by omega), key 3 (by omega)⟩
set_option maxHeartbeats 3200000 in
set_option maxRecDepth 100000 in
theorem job_any (sK : SL) (L : List GK) (s : SW) (x : GW) (j : GJ) (w : World) (hK : KS w w.heap.size sK L) (hW : WOk w s x) (hu : ∀ i, i < x.units.length → 0 ≤ (gu x.units i).kind ∧ (gu x.units i).kind < L.length) (hl8 : L.length ≤ 8) (hu40 : x.units.length ≤ 40) :
    Calls Tryz.prog 64 #[.slice sK.A L.length sK.c, wA s x, .agg #[.int .i64 j.player, .int .i64 j.unit, .int .i64 j.kind, .int .i64 j.left]] w fun e w' => e = .returned (errV (jobE L x j)) ∧ Below w.heap.size w w' := by
  have hcap := hK.cap
  have hmx := hK.max
  obtain ⟨jp, ju, jk, jl⟩ := j
  dsimp only
  obtain ⟨hb1, hk1, hk2⟩ := two_boxes w 29 71 #[.int .i64 x.turn, .int .i64 x.next, .int .i64 x.field.wide, .int .i64 x.field.high, .slice s.field.ground.A x.field.ground.length s.field.ground.c, .slice s.field.ore.A x.field.ore.length s.field.ore.c, .slice s.gold.A x.gold.length s.gold.c, .slice s.units.A x.units.length s.units.c, .slice s.queue.A x.queue.length s.queue.c] #[.int .i64 jp, .int .i64 ju, .int .i64 jk, .int .i64 jl]
  have hB : WB w.heap.size w ((w.alloc (.cells #[.int .i64 x.turn, .int .i64 x.next, .int .i64 x.field.wide, .int .i64 x.field.high, .slice s.field.ground.A x.field.ground.length s.field.ground.c, .slice s.field.ore.A x.field.ore.length s.field.ore.c, .slice s.gold.A x.gold.length s.gold.c, .slice s.units.A x.units.length s.units.c, .slice s.queue.A x.queue.length s.queue.c] 29)).alloc (.cells #[.int .i64 jp, .int .i64 ju, .int .i64 jk, .int .i64 jl] 71)) sK L s x w.heap.size := ⟨hb1, hb1.size, hk1, hW.below hb1, hK.up hb1⟩
  have hE : jobE L x ⟨jp, ju, jk, jl⟩ = jobE L x ⟨jp, ju, jk, jl⟩ := rfl
  conv at hE => rhs; unfold jobE
  dsimp only at hE
  have hQ : ∀ w' E, jobE L x ⟨jp, ju, jk, jl⟩ = E → Below w.heap.size w w' → Ending.returned (errV E) = Ending.returned (errV (jobE L x ⟨jp, ju, jk, jl⟩)) ∧ Below w.heap.size w w' := fun w' E h1 h2 => by rw [h1]; exact ⟨rfl, h2⟩
  have hge := first_ge (fun v : GU => v.id == ju) x.units
  have hlt := first_lt (fun v : GU => v.id == ju) x.units
  obtain ⟨r, hr⟩ : ∃ r, findId x.units ju = r := ⟨_, rfl⟩
  rw [show firstI (fun v : GU => v.id == ju) x.units = r from hr] at hge hlt
  rw [hr] at hE
  obtain ⟨sA, sc⟩ := sK
  dsimp only at hcap hmx ⊢
  clear hb1 hk1
  replace hk2 := Lib.hid hk2
  replace hB := Lib.hid hB
  replace hQ := Lib.hid hQ
  replace hE := Lib.hid hE
  replace hr := Lib.hid hr
  replace hu := Lib.hid hu
  replace hK := Lib.hid hK
  replace hW := Lib.hid hW
  replace hlt := Lib.hid hlt
  go_enter Tryz.func64, Tryz.ntmps64
  go_upto_region 1 with fail
  generalize ((w.alloc (.cells #[.int .i64 x.turn, .int .i64 x.next, .int .i64 x.field.wide, .int .i64 x.field.high, .slice s.field.ground.A x.field.ground.length s.field.ground.c, .slice s.field.ore.A x.field.ore.length s.field.ore.c, .slice s.gold.A x.gold.length s.gold.c, .slice s.units.A x.units.length s.units.c, .slice s.queue.A x.queue.length s.queue.c] 29)).alloc (.cells #[.int .i64 jp, .int .i64 ju, .int .i64 jk, .int .i64 jl] 71)) = W at *
  obtain ⟨wb, hwb⟩ : ∃ wb, w.heap.size = wb := ⟨_, rfl⟩
  obtain ⟨ub, hub⟩ : ∃ ub, wb + 1 = ub := ⟨_, rfl⟩
  rw [hwb]
  replace hB : WB w.heap.size w W ⟨sA, sc⟩ L s x wb := by rw [← hwb]; exact hB.out
  replace hk2 : Blk W ub 71 #[.int .i64 jp, .int .i64 ju, .int .i64 jk, .int .i64 jl] := by rw [← hub, ← hwb]; exact hk2.out
  try rw [hub]
  replace hwb := Lib.hid hwb
  replace hub := Lib.hid hub
  have hfi := wfind_any s x ju W hB.wo
  rw [hr.out] at hfi
  obtain ⟨m0, m1, m2, m3, m4, m5, m6, m7, m8, mll⟩ := hB.wcells
  have j0 : W.cell? ⟨ub, 0, none⟩ = some (.int .i64 jp) := hk2.cell 0
  have j1 : W.cell? ⟨ub, 1, none⟩ = some (.int .i64 ju) := hk2.cell 1
  have jll := hk2.lt
  replace hfi := Lib.hid hfi
  replace hB := Lib.hid hB
  replace hk2 := Lib.hid hk2
  go_wp2_with fail
  refine hfi.out.mono ?_
  clear hfi m0 m1 m2 m3 m4 m5 m6 m7 m8 mll j0 j1 jll
  rintro e W2 ⟨rfl, hb2⟩
  have hB2 := hB.out.below hb2
  have hk3 := hk2.out.below hb2 hk2.out.lt
  obtain ⟨m0, m1, m2, m3, m4, m5, m6, m7, m8, mll⟩ := hB2.wcells
  have j0 : W2.cell? ⟨ub, 0, none⟩ = some (.int .i64 jp) := hk3.cell 0
  have j1 : W2.cell? ⟨ub, 1, none⟩ = some (.int .i64 ju) := hk3.cell 1
  have j2 : W2.cell? ⟨ub, 2, none⟩ = some (.int .i64 jk) := hk3.cell 2
  have j3 : W2.cell? ⟨ub, 3, none⟩ = some (.int .i64 jl) := hk3.cell 3
  have jll := hk3.lt
  clear hb2 hB hk2
  by_cases h1 : r < 0
  · replace hE := hE.out
    rw [if_pos h1] at hE
    replace hE := Lib.hid hE
    replace hB2 := Lib.hid hB2
    replace hk3 := Lib.hid hk3
    go_wp2_with fail
    go_ret
    exact hQ.out _ 6 hE.out hB2.out.b
  replace hE := hE.out
  rw [if_neg h1] at hE
  obtain ⟨n, rfl⟩ : ∃ n : Nat, r = (n : Int) := ⟨r.toNat, by omega⟩
  have hn : n < x.units.length := by have := hlt.out; omega
  have hni : (n : Int) < (x.units.length : Int) := by omega
  rw [Int.toNat_natCast] at hE
  obtain ⟨b, o, hA, hbl, _, c1, c2, _, _, _, _, _⟩ := ru_at hB2.wo.ru n hn
  have hun := hu.out n hn
  obtain ⟨u, hux⟩ : ∃ u, gu x.units n = u := ⟨_, rfl⟩
  rw [hux] at hE c1 c2 hun
  obtain ⟨ui, up, uk, usp, ul, uo, ut, ug⟩ := u
  dsimp only at hE c1 c2 hun
  obtain ⟨kd, rfl⟩ : ∃ kd : Nat, uk = (kd : Int) := ⟨uk.toNat, by omega⟩
  have hkd : kd < L.length := by omega
  have hkdi : (kd : Int) < (L.length : Int) := by omega
  rw [Int.toNat_natCast] at hE
  obtain ⟨bk, okk, hAk, hbk, _, _, _, _, _, _, _, _, _, _, k10⟩ := rk_at hB2.ks.rd kd hkd
  dsimp only at hAk
  subst hAk
  rw [hA] at m7
  generalize hkt : (gk L kd).trains = kt at *
  replace hkt := Lib.hid hkt
  replace hE := Lib.hid hE
  replace hA := Lib.hid hA
  replace hux := Lib.hid hux
  replace hB2 := Lib.hid hB2
  replace hk3 := Lib.hid hk3
  replace hun := Lib.hid hun
  by_cases h2 : up = jp
  · have d2 : (up != jp) = false := by simp [h2]
    cases kt with
    | false =>
      replace hE := hE.out
      rw [if_pos (.inr rfl)] at hE
      replace hE := Lib.hid hE
      replace h2 := Lib.hid h2
      go_wp2_with fail
      go_quiet (fail)
      go_wp2_with fail
      go_ret
      exact hQ.out _ 7 hE.out (hB2.out.drewN _).b
    | true =>
      replace hE := hE.out
      rw [if_neg (by rintro (h | h); exact h h2; cases h)] at hE
      replace hE := Lib.hid hE
      replace h2 := Lib.hid h2
      by_cases f1 : jk < 0
      · replace hE := hE.out
        rw [if_pos (.inl f1)] at hE
        replace hE := Lib.hid hE
        go_wp2_with fail
        go_quiet (fail)
        go_wp2_with fail
        go_ret
        exact hQ.out _ 1 hE.out (hB2.out.drewN _).b
      by_cases f2 : (L.length : Int) ≤ jk
      · replace hE := hE.out
        rw [if_pos (.inr (.inl f2))] at hE
        replace hE := Lib.hid hE
        go_wp2_with fail
        go_quiet (fail)
        go_wp2_with fail
        go_ret
        exact hQ.out _ 1 hE.out (hB2.out.drewN _).b
      by_cases f3 : jl < 1
      · replace hE := hE.out
        rw [if_pos (.inr (.inr (.inl f3)))] at hE
        replace hE := Lib.hid hE
        go_wp2_with fail
        go_quiet (fail)
        go_wp2_with fail
        go_ret
        exact hQ.out _ 1 hE.out (hB2.out.drewN _).b
      by_cases f4 : 1000 < jl
      · replace hE := hE.out
        rw [if_pos (.inr (.inr (.inr f4)))] at hE
        replace hE := Lib.hid hE
        go_wp2_with fail
        go_quiet (fail)
        go_wp2_with fail
        go_ret
        exact hQ.out _ 1 hE.out (hB2.out.drewN _).b
      replace hE := hE.out
      rw [if_neg (by omega)] at hE
      replace hE := Lib.hid hE
      go_wp2_with fail
      go_quiet (fail)
      go_wp2_with fail
      go_ret
      exact hQ.out _ 0 hE.out (hB2.out.drewN _).b
  · have d2 : (up != jp) = true := by simp [h2]
    replace hE := hE.out
    rw [if_pos (.inl h2)] at hE
    replace hE := Lib.hid hE
    replace h2 := Lib.hid h2
    go_wp2_with fail
    go_quiet (fail)
    go_wp2_with fail
    go_ret
    exact hQ.out _ 7 hE.out (hB2.out.drewN _).b
end Go.Proofs.YtkgkpggfoieioaaGreatDoor
