import Derived.Test.YtkgkpggfoieioaaDoorWorldC2
namespace Go.Proofs.YtkgkpggfoieioaaDoor
set_option linter.unusedVariables false
open Go.RowKit
/-! world.job; a world while it is looked at. -/
/-- What stands in memory while a world is looked at. -/
structure WB (B : Nat) (w0 w : World) (sK : SL) (L : List GK) (s : SW) (x : GW) (wb : Nat) : Prop where
  b : Below B w0 w
  sz : B ≤ w.heap.size
  kw : Blk w wb 55 (wC s x)
  wo : WOk w s x
  ks : KS w w.heap.size sK L
section
variable {B wb : Nat} {w0 w w' : World} {sK : SL} {L : List GK} {s : SW} {x : GW}
theorem WB.below (h : WB B w0 w sK L s x wb) (hb : Below w.heap.size w w') : WB B w0 w' sK L s x wb :=
  ⟨h.b.trans (hb.mono h.sz), Nat.le_trans h.sz hb.size, h.kw.below hb h.kw.lt, h.wo.below hb, h.ks.up hb⟩
theorem WB.drewN (h : WB B w0 w sK L s x wb) (n : Nat) : WB B w0 (w.drewN n) sK L s x wb := h.below ⟨rfl, rfl, rfl, Nat.le_refl _, fun _ _ => rfl⟩
theorem WB.wcells (h : WB B w0 w sK L s x wb) : w.cell? ⟨wb, 0, none⟩ = some (.int .i64 x.turn) ∧ w.cell? ⟨wb, 1, none⟩ = some (.int .i64 x.next) ∧ w.cell? ⟨wb, 2, none⟩ = some (.int .i64 x.field.wide) ∧ w.cell? ⟨wb, 3, none⟩ = some (.int .i64 x.field.high) ∧ w.cell? ⟨wb, 4, none⟩ = some (.slice s.field.ground.A x.field.ground.length s.field.ground.c) ∧ w.cell? ⟨wb, 5, none⟩ = some (.slice s.field.ore.A x.field.ore.length s.field.ore.c) ∧ w.cell? ⟨wb, 6, none⟩ = some (.slice s.gold.A x.gold.length s.gold.c) ∧ w.cell? ⟨wb, 7, none⟩ = some (.slice s.units.A x.units.length s.units.c) ∧ w.cell? ⟨wb, 8, none⟩ = some (.slice s.queue.A x.queue.length s.queue.c) ∧ wb < w.heap.size :=
  ⟨h.kw.cell 0, h.kw.cell 1, h.kw.cell 2, h.kw.cell 3, h.kw.cell 4, h.kw.cell 5, h.kw.cell 6, h.kw.cell 7, h.kw.cell 8, h.kw.lt⟩
end
theorem WOk.rj {w : World} {s : SW} {x : GW} (h : WOk w s x) : RD w w.heap.size 4 s.queue.A x.queue.length (x.queue.flatMap jC) := h.2.2.2.2.2.1
theorem rj_at {w : World} {B : Nat} {A : Option Addr} {L : List GJ} (h : RD w B 4 A L.length (L.flatMap jC)) (k : Nat) (hk : k < L.length) :
    ∃ b o, A = some ⟨b, o, none⟩ ∧ b < B ∧ w.cell? ⟨b, o + k * 4, none⟩ = some (.int .i64 (gj L k).player) ∧ w.cell? ⟨b, o + k * 4 + 1, none⟩ = some (.int .i64 (gj L k).unit) ∧ w.cell? ⟨b, o + k * 4 + 2, none⟩ = some (.int .i64 (gj L k).kind) ∧ w.cell? ⟨b, o + k * 4 + 3, none⟩ = some (.int .i64 (gj L k).left) := by
  obtain ⟨b, o, hA, hb⟩ := h.addr (by omega)
  have key : ∀ j, j < 4 → w.cell? ⟨b, o + (k * 4 + j), none⟩ = (jC (gj L k))[j]? := fun j hj => by
    rw [h.at_ hA (by omega), flat_get jC 4 jC_len L k j hj, gj_get hk]; rfl
  exact ⟨b, o, hA, hb, key 0 (by omega), key 1 (by omega), key 2 (by omega), key 3 (by omega)⟩
set_option maxHeartbeats 3200000 in
set_option maxRecDepth 100000 in
theorem job_any (sK : SL) (L : List GK) (s : SW) (x : GW) (j : GJ) (w : World) (hK : KS w w.heap.size sK L) (hW : WOk w s x) (hu : ∀ i, i < x.units.length → 0 ≤ (gu x.units i).kind ∧ (gu x.units i).kind < L.length) (hl8 : L.length ≤ 8) (hu40 : x.units.length ≤ 40) :
    Calls Tryd.prog 85 #[.slice sK.A L.length sK.c, wA s x, .agg #[.int .i64 j.player, .int .i64 j.unit, .int .i64 j.kind, .int .i64 j.left]] w fun e w' => e = .returned (errV (jobE L x j)) ∧ Below w.heap.size w w' := by
  have hcap := hK.cap
  have hmx := hK.max
  obtain ⟨jp, ju, jk, jl⟩ := j
  dsimp only
  obtain ⟨hb1, hk1, hk2⟩ := two_boxes w 55 126 #[.int .i64 x.turn, .int .i64 x.next, .int .i64 x.field.wide, .int .i64 x.field.high, .slice s.field.ground.A x.field.ground.length s.field.ground.c, .slice s.field.ore.A x.field.ore.length s.field.ore.c, .slice s.gold.A x.gold.length s.gold.c, .slice s.units.A x.units.length s.units.c, .slice s.queue.A x.queue.length s.queue.c] #[.int .i64 jp, .int .i64 ju, .int .i64 jk, .int .i64 jl]
  have hB : WB w.heap.size w ((w.alloc (.cells #[.int .i64 x.turn, .int .i64 x.next, .int .i64 x.field.wide, .int .i64 x.field.high, .slice s.field.ground.A x.field.ground.length s.field.ground.c, .slice s.field.ore.A x.field.ore.length s.field.ore.c, .slice s.gold.A x.gold.length s.gold.c, .slice s.units.A x.units.length s.units.c, .slice s.queue.A x.queue.length s.queue.c] 55)).alloc (.cells #[.int .i64 jp, .int .i64 ju, .int .i64 jk, .int .i64 jl] 126)) sK L s x w.heap.size := ⟨hb1, hb1.size, hk1, hW.below hb1, hK.up hb1⟩
  have hE : jobE L x ⟨jp, ju, jk, jl⟩ = jobE L x ⟨jp, ju, jk, jl⟩ := rfl
  conv at hE => rhs; unfold jobE
  dsimp only at hE
  have hQ : ∀ w' E, jobE L x ⟨jp, ju, jk, jl⟩ = E → Below w.heap.size w w' → Ending.returned (errV E) = Ending.returned (errV (jobE L x ⟨jp, ju, jk, jl⟩)) ∧ Below w.heap.size w w' := fun w' E h1 h2 => by rw [h1]; exact ⟨rfl, h2⟩
  have hge := first_ge (fun v : GU => v.id == ju) x.units
  have hlt := first_lt (fun v : GU => v.id == ju) x.units
  obtain ⟨r, hr⟩ : ∃ r, findId x.units ju = r := ⟨_, rfl⟩
  rw [show firstI (fun v : GU => v.id == ju) x.units = r from hr] at hge hlt
  rw [hr] at hE
  obtain ⟨sA, sc⟩ := sK
  dsimp only at hcap hmx ⊢
  clear hb1 hk1
  replace hk2 := Lib.hid hk2
  replace hB := Lib.hid hB
  replace hQ := Lib.hid hQ
  replace hE := Lib.hid hE
  replace hr := Lib.hid hr
  replace hu := Lib.hid hu
  replace hK := Lib.hid hK
  replace hW := Lib.hid hW
  replace hlt := Lib.hid hlt
  go_enter Tryd.func85, Tryd.ntmps85
  go_upto_region 1 with fail
  generalize ((w.alloc (.cells #[.int .i64 x.turn, .int .i64 x.next, .int .i64 x.field.wide, .int .i64 x.field.high, .slice s.field.ground.A x.field.ground.length s.field.ground.c, .slice s.field.ore.A x.field.ore.length s.field.ore.c, .slice s.gold.A x.gold.length s.gold.c, .slice s.units.A x.units.length s.units.c, .slice s.queue.A x.queue.length s.queue.c] 55)).alloc (.cells #[.int .i64 jp, .int .i64 ju, .int .i64 jk, .int .i64 jl] 126)) = W at *
  obtain ⟨wb, hwb⟩ : ∃ wb, w.heap.size = wb := ⟨_, rfl⟩
  obtain ⟨ub, hub⟩ : ∃ ub, wb + 1 = ub := ⟨_, rfl⟩
  rw [hwb]
  replace hB : WB w.heap.size w W ⟨sA, sc⟩ L s x wb := by rw [← hwb]; exact hB.out
  replace hk2 : Blk W ub 126 #[.int .i64 jp, .int .i64 ju, .int .i64 jk, .int .i64 jl] := by rw [← hub, ← hwb]; exact hk2.out
  try rw [hub]
  replace hwb := Lib.hid hwb
  replace hub := Lib.hid hub
  have hfi := wfind_any s x ju W hB.wo
  rw [hr.out] at hfi
  obtain ⟨m0, m1, m2, m3, m4, m5, m6, m7, m8, mll⟩ := hB.wcells
  have j0 : W.cell? ⟨ub, 0, none⟩ = some (.int .i64 jp) := hk2.cell 0
  have j1 : W.cell? ⟨ub, 1, none⟩ = some (.int .i64 ju) := hk2.cell 1
  have jll := hk2.lt
  replace hfi := Lib.hid hfi
  replace hB := Lib.hid hB
  replace hk2 := Lib.hid hk2
  go_wp2_with fail
  refine hfi.out.mono ?_
  clear hfi m0 m1 m2 m3 m4 m5 m6 m7 m8 mll j0 j1 jll
  rintro e W2 ⟨rfl, hb2⟩
  have hB2 := hB.out.below hb2
  have hk3 := hk2.out.below hb2 hk2.out.lt
  obtain ⟨m0, m1, m2, m3, m4, m5, m6, m7, m8, mll⟩ := hB2.wcells
  have j0 : W2.cell? ⟨ub, 0, none⟩ = some (.int .i64 jp) := hk3.cell 0
  have j1 : W2.cell? ⟨ub, 1, none⟩ = some (.int .i64 ju) := hk3.cell 1
  have j2 : W2.cell? ⟨ub, 2, none⟩ = some (.int .i64 jk) := hk3.cell 2
  have j3 : W2.cell? ⟨ub, 3, none⟩ = some (.int .i64 jl) := hk3.cell 3
  have jll := hk3.lt
  clear hb2 hB hk2
  by_cases h1 : r < 0
  · replace hE := hE.out
    rw [if_pos h1] at hE
    replace hE := Lib.hid hE
    replace hB2 := Lib.hid hB2
    replace hk3 := Lib.hid hk3
    go_wp2_with fail
    go_ret
    exact hQ.out _ 6 hE.out hB2.out.b
  replace hE := hE.out
  rw [if_neg h1] at hE
  obtain ⟨n, rfl⟩ : ∃ n : Nat, r = (n : Int) := ⟨r.toNat, by omega⟩
  have hn : n < x.units.length := by have := hlt.out; omega
  have hni : (n : Int) < (x.units.length : Int) := by omega
  rw [Int.toNat_natCast] at hE
  obtain ⟨b, o, hA, hbl, _, c1, c2, _, _, _, _, _⟩ := ru_at hB2.wo.ru n hn
  have hun := hu.out n hn
  obtain ⟨u, hux⟩ : ∃ u, gu x.units n = u := ⟨_, rfl⟩
  rw [hux] at hE c1 c2 hun
  obtain ⟨ui, up, uk, usp, ul, uo, ut, ug⟩ := u
  dsimp only at hE c1 c2 hun
  obtain ⟨kd, rfl⟩ : ∃ kd : Nat, uk = (kd : Int) := ⟨uk.toNat, by omega⟩
  have hkd : kd < L.length := by omega
  have hkdi : (kd : Int) < (L.length : Int) := by omega
  rw [Int.toNat_natCast] at hE
  obtain ⟨bk, okk, hAk, hbk, _, _, _, _, _, _, _, _, _, _, k10⟩ := rk_at hB2.ks.rd kd hkd
  dsimp only at hAk
  subst hAk
  rw [hA] at m7
  generalize hkt : (gk L kd).trains = kt at *
  replace hkt := Lib.hid hkt
  replace hE := Lib.hid hE
  replace hA := Lib.hid hA
  replace hux := Lib.hid hux
  replace hB2 := Lib.hid hB2
  replace hk3 := Lib.hid hk3
  replace hun := Lib.hid hun
  by_cases h2 : up = jp
  · have d2 : (up != jp) = false := by simp [h2]
    cases kt with
    | false =>
      replace hE := hE.out
      rw [if_pos (.inr rfl)] at hE
      replace hE := Lib.hid hE
      replace h2 := Lib.hid h2
      go_wp2_with fail
      go_quiet (fail)
      go_wp2_with fail
      go_ret
      exact hQ.out _ 7 hE.out (hB2.out.drewN _).b
    | true =>
      replace hE := hE.out
      rw [if_neg (by rintro (h | h); exact h h2; cases h)] at hE
      replace hE := Lib.hid hE
      replace h2 := Lib.hid h2
      by_cases f1 : jk < 0
      · replace hE := hE.out
        rw [if_pos (.inl f1)] at hE
        replace hE := Lib.hid hE
        go_wp2_with fail
        go_quiet (fail)
        go_wp2_with fail
        go_ret
        exact hQ.out _ 1 hE.out (hB2.out.drewN _).b
      by_cases f2 : (L.length : Int) ≤ jk
      · replace hE := hE.out
        rw [if_pos (.inr (.inl f2))] at hE
        replace hE := Lib.hid hE
        go_wp2_with fail
        go_quiet (fail)
        go_wp2_with fail
        go_ret
        exact hQ.out _ 1 hE.out (hB2.out.drewN _).b
      by_cases f3 : jl < 1
      · replace hE := hE.out
        rw [if_pos (.inr (.inr (.inl f3)))] at hE
        replace hE := Lib.hid hE
        go_wp2_with fail
        go_quiet (fail)
        go_wp2_with fail
        go_ret
        exact hQ.out _ 1 hE.out (hB2.out.drewN _).b
      by_cases f4 : 1000 < jl
      · replace hE := hE.out
        rw [if_pos (.inr (.inr (.inr f4)))] at hE
        replace hE := Lib.hid hE
        go_wp2_with fail
        go_quiet (fail)
        go_wp2_with fail
        go_ret
        exact hQ.out _ 1 hE.out (hB2.out.drewN _).b
      replace hE := hE.out
      rw [if_neg (by omega)] at hE
      replace hE := Lib.hid hE
      go_wp2_with fail
      go_quiet (fail)
      go_wp2_with fail
      go_ret
      exact hQ.out _ 0 hE.out (hB2.out.drewN _).b
  · have d2 : (up != jp) = true := by simp [h2]
    replace hE := hE.out
    rw [if_pos (.inl h2)] at hE
    replace hE := Lib.hid hE
    replace h2 := Lib.hid h2
    go_wp2_with fail
    go_quiet (fail)
    go_wp2_with fail
    go_ret
    exact hQ.out _ 7 hE.out (hB2.out.drewN _).b
end Go.Proofs.YtkgkpggfoieioaaDoor
namespace Go.Proofs.YtkgkpggfoieioaaDoor
set_option linter.unusedVariables false
open Go.RowKit
/-! world.Check. -/
theorem players_any (n : Int) (w : World) :
    Calls Tryd.prog 81 #[.int .i64 n] w fun e w' => e = .returned (.bool (decide (1 ≤ n) && decide (n ≤ 4))) ∧ w = w' := by
  go_enter Tryd.func81, Tryd.ntmps81
  by_cases h1 : 1 ≤ n
  · go_wp2
    go_ret
    exact ⟨by simp; omega, rfl⟩
  · go_wp2
    go_ret
    exact ⟨by simp; omega, rfl⟩
theorem goldfn_any (n : Int) (w : World) : Calls Tryd.prog 83 #[.int .i64 n] w fun e w' => e = .returned (.bool (!numB n)) ∧ w = w' := by
  cases hb : numB n with
  | true =>
    go_enter Tryd.func83, Tryd.ntmps83
    go_wp2_with (go_at_call 80; refine (numb_any _ _).mono ?_; rintro e w' ⟨rfl, rfl⟩)
    go_ret
    exact ⟨by first | rfl | (rw [hb]), rfl⟩
  | false =>
    go_enter Tryd.func83, Tryd.ntmps83
    go_wp2_with (go_at_call 80; refine (numb_any _ _).mono ?_; rintro e w' ⟨rfl, rfl⟩)
    go_ret
    exact ⟨by first | rfl | (rw [hb]), rfl⟩
set_option maxRecDepth 100000 in
theorem idxG_any (A : Option Addr) (c : Nat) (ls : List Int) (w : World) (ha : RD w w.heap.size 1 A ls.length (ls.map (.int .i64))) (hl : ls.length ≤ 1000000000) :
    Calls Tryd.prog 126 #[.slice A ls.length c, .func (.func 83) #[] #[]] w fun e w' => e = .returned (.int .i64 (firstI (fun n => !numB n) ls)) ∧ w = w' := by
  have HA := Lib.hid ha
  clear ha
  go_enter Tryd.func126, Tryd.ntmps126
  go_wp2_with fail
  go_loop [5, 8] (fun _ i => ∃ k : Nat, k ≤ ls.length ∧ i = .int .i64 k ∧ Hid (∀ y ∈ ls.take k, (!numB y) = false)) (fun _ i => ls.length - (intOf i).toNat)
  case atStart => exact ⟨0, Nat.zero_le _, rfl, Lib.hid (by simp)⟩
  case round =>
    obtain ⟨k, hk, rfl, hK⟩ := hrel
    by_cases hlt : k < ls.length
    · obtain ⟨b, o, hA, hbl⟩ := HA.out.addr (by omega)
      have hcell := HA.out.at_ hA (j := k) (by omega)
      rw [List.getElem?_map, List.getElem?_eq_getElem hlt] at hcell
      simp only [Option.map_some] at hcell
      have hget : ls[k]? = some ls[k] := List.getElem?_eq_getElem hlt
      have hfa := first_at (fun n => !numB n) ls k _ hget
      have htn := take_no (fun n => !numB n) ls k _ hget hK.out
      subst hA
      generalize ls[k] = x at *
      have hlw := goldfn_any x w
      replace hlw := Lib.hid hlw
      replace hget := Lib.hid hget
      replace hfa := Lib.hid hfa
      replace htn := Lib.hid htn
      have i1 : (k : Int) < (ls.length : Int) := by omega
      go_wp2_with fail
      refine hlw.out.mono ?_
      rintro e w' ⟨rfl, rfl⟩
      cases hpx : (!numB x) with
      | true =>
        have hf := hfa.out hpx hK.out
        replace hf := Lib.hid hf
        replace hpx := Lib.hid hpx
        go_wp2_with fail
        go_ret
        exact ⟨by rw [hf.out]; rfl, rfl⟩
      | false =>
        have hq := Lib.hid (htn.out hpx)
        replace hpx := Lib.hid hpx
        go_wp2_with fail
        go_round
        case rel => exact ⟨k + 1, by omega, by go_num, hq⟩
        case measure => simp [intOf]; omega
    · have i1 : ¬ (k : Int) < (ls.length : Int) := by omega
      have hf := first_no (fun n => !numB n) ls (by have := hK.out; rwa [List.take_of_length_le (by omega)] at this)
      replace hf := Lib.hid hf
      go_wp2_with fail
      go_ret
      exact ⟨by rw [hf.out]; rfl, rfl⟩
set_option maxRecDepth 100000 in
theorem ctnG_any (A : Option Addr) (c : Nat) (ls : List Int) (w : World) (ha : RD w w.heap.size 1 A ls.length (ls.map (.int .i64))) (hl : ls.length ≤ 1000000000) :
    Calls Tryd.prog 82 #[.slice A ls.length c, .func (.func 83) #[] #[]] w fun e w' => e = .returned (.bool (ls.any (fun n => !numB n))) ∧ w = w' := by
  have hi := idxG_any A c ls w ha hl
  have h1 := first_ge (fun n => !numB n) ls
  have h2 := first_any (fun n => !numB n) ls
  generalize firstI (fun n => !numB n) ls = r at *
  replace hi := Lib.hid hi
  replace h2 := Lib.hid h2
  clear ha
  go_enter Tryd.func82, Tryd.ntmps82
  go_wp2_with fail
  refine hi.out.mono ?_
  rintro e w' ⟨rfl, rfl⟩
  go_wp2_with fail
  go_ret
  exact ⟨by rw [← h2.out]; rfl, rfl⟩
theorem errV_ne {n : Int} (h : n ≠ 0) : errV n = .iface 93 (.int .i64 n) := by unfold errV; rw [if_neg h]; rfl
set_option maxHeartbeats 6400000 in
set_option maxRecDepth 100000 in
theorem wcheck_any (sK : SL) (L : List GK) (s : SW) (x : GW) (w : World) (hK : KS w w.heap.size sK L) (hW : WOk w s x) :
    Calls Tryd.prog 28 #[.slice sK.A L.length sK.c, wA s x] w fun e w' => e = .returned (errV (worldE L x)) ∧ Below w.heap.size w w' := by
  obtain ⟨sf, sg, su, ⟨qA, qc⟩⟩ := s
  have hQ : ∀ w' E, worldE L x = E → Below w.heap.size w w' → Ending.returned (errV E) = Ending.returned (errV (worldE L x)) ∧ Below w.heap.size w w' := fun w' E h1 h2 => by rw [h1]; exact ⟨rfl, h2⟩
  have hQn : ∀ w' E, worldE L x = E → E ≠ 0 → Below w.heap.size w w' → Ending.returned (.iface 93 (.int .i64 E)) = Ending.returned (errV (worldE L x)) ∧ Below w.heap.size w w' := fun w' E h1 h2 h3 => by rw [h1, errV_ne h2]; exact ⟨rfl, h3⟩
  have hE : worldE L x = worldE L x := rfl
  conv at hE => rhs; unfold worldE
  have hB : WB w.heap.size w (w.alloc (.cells #[.int .i64 x.turn, .int .i64 x.next, .int .i64 x.field.wide, .int .i64 x.field.high, .slice sf.ground.A x.field.ground.length sf.ground.c, .slice sf.ore.A x.field.ore.length sf.ore.c, .slice sg.A x.gold.length sg.c, .slice su.A x.units.length su.c, .slice qA x.queue.length qc] 55)) sK L ⟨sf, sg, su, ⟨qA, qc⟩⟩ x w.heap.size := by
    have hb1 : Below w.heap.size w (w.alloc (.cells #[.int .i64 x.turn, .int .i64 x.next, .int .i64 x.field.wide, .int .i64 x.field.high, .slice sf.ground.A x.field.ground.length sf.ground.c, .slice sf.ore.A x.field.ore.length sf.ore.c, .slice sg.A x.gold.length sg.c, .slice su.A x.units.length su.c, .slice qA x.queue.length qc] 55)) := (Below.refl _ _).alloc (Nat.le_refl _) _
    exact ⟨hb1, hb1.size, Blk.new _ _ _, hW.below hb1, hK.up hb1⟩
  have hgl : x.gold.length ≤ 9223372036854775807 := by
    have a := hW.2.2.2.1.2.2.1
    have b := hW.2.2.2.1.2.2.2.1
    unfold maxLen at b; omega
  have hul := hW.ulen
  have hjl : x.queue.length ≤ 9223372036854775807 := by
    have a := hW.2.2.2.2.2.2.2.1
    have b := hW.2.2.2.2.2.2.2.2.1
    unfold maxLen at b; omega
  have hcap := hK.cap
  have hmx := hK.max
  replace hB := Lib.hid hB
  replace hQ := Lib.hid hQ
  replace hQn := Lib.hid hQn
  replace hE := Lib.hid hE
  clear hK hW
  go_enter Tryd.func28, Tryd.ntmps28
  go_upto_region 1 with fail
  generalize (w.alloc (.cells #[.int .i64 x.turn, .int .i64 x.next, .int .i64 x.field.wide, .int .i64 x.field.high, .slice sf.ground.A x.field.ground.length sf.ground.c, .slice sf.ore.A x.field.ore.length sf.ore.c, .slice sg.A x.gold.length sg.c, .slice su.A x.units.length su.c, .slice qA x.queue.length qc] 55)) = W at *
  obtain ⟨wb, hwb⟩ : ∃ wb, w.heap.size = wb := ⟨_, rfl⟩
  rw [hwb]
  replace hB : WB w.heap.size w W sK L ⟨sf, sg, su, ⟨qA, qc⟩⟩ x wb := by rw [← hwb]; exact hB.out
  replace hwb := Lib.hid hwb
  have hkc := kcheck_any sK L W.heap.size W hB.ks (Nat.le_refl _)
  replace hB := Lib.hid hB
  by_cases hk0 : kindsE L = 0
  case neg =>
    replace hE := hE.out
    rw [if_pos hk0] at hE
    rw [errV_ne hk0] at hkc
    generalize kindsE L = E at *
    replace hkc := Lib.hid hkc
    replace hk0 := Lib.hid hk0
    replace hE := Lib.hid hE
    go_wp2_with fail
    refine hkc.out.mono ?_
    rintro e W2 ⟨rfl, hb2⟩
    have hB2 := hB.out.below hb2
    replace hB2 := Lib.hid hB2
    clear hb2
    go_wp2_with fail
    go_ret
    exact hQn.out _ E hE.out hk0.out hB2.out.b
  replace hE := hE.out
  rw [if_neg (fun c => c hk0)] at hE
  rw [hk0] at hkc
  have hK8 := (kindsE_0 hk0).few
  replace hkc : Calls Tryd.prog 14 #[.slice sK.A L.length sK.c] W fun e w' => e = .returned .nilIface ∧ Below W.heap.size W w' := hkc
  replace hkc := Lib.hid hkc
  replace hE := Lib.hid hE
  replace hk0 := Lib.hid hk0
  go_wp2_with fail
  refine hkc.out.mono ?_
  clear hkc
  rintro e W2 ⟨rfl, hb2⟩
  have hB2 := hB.out.below hb2
  clear hb2 hB
  have hfc := fcheck_any sf x.field W2 hB2.wo.2.2.1
  unfold fA at hfc
  obtain ⟨m0, m1, m2, m3, m4, m5, m6, m7, m8, mll⟩ := hB2.wcells
  replace hB2 := Lib.hid hB2
  by_cases hf0 : fieldE x.field = 0
  case neg =>
    replace hE := hE.out
    rw [if_pos hf0] at hE
    rw [errV_ne hf0] at hfc
    generalize fieldE x.field = E at *
    replace hfc := Lib.hid hfc
    replace hf0 := Lib.hid hf0
    replace hE := Lib.hid hE
    go_wp2_with fail
    refine hfc.out.mono ?_
    rintro e W3 ⟨rfl, hb3⟩
    have hB3 := hB2.out.below hb3
    replace hB3 := Lib.hid hB3
    clear hb3 m0 m1 m2 m3 m4 m5 m6 m7 m8 mll
    go_wp2_with fail
    go_ret
    exact hQn.out _ E hE.out hf0.out hB3.out.b
  replace hE := hE.out
  rw [if_neg (fun c => c hf0)] at hE
  rw [hf0] at hfc
  replace hfc : Calls Tryd.prog 79 #[.agg #[.int .i64 x.field.wide, .int .i64 x.field.high, .slice sf.ground.A x.field.ground.length sf.ground.c, .slice sf.ore.A x.field.ore.length sf.ore.c]] W2 fun e w' => e = .returned .nilIface ∧ Below W2.heap.size W2 w' := hfc
  replace hfc := Lib.hid hfc
  replace hE := Lib.hid hE
  replace hf0 := Lib.hid hf0
  go_wp2_with fail
  refine hfc.out.mono ?_
  clear hfc m0 m1 m2 m3 m4 m5 m6 m7 m8 mll
  rintro e W3 ⟨rfl, hb3⟩
  have hB3 := hB2.out.below hb3
  clear hb3 hB2
  obtain ⟨m0, m1, m2, m3, m4, m5, m6, m7, m8, mll⟩ := hB3.wcells
  have hH : headE x = headE x := rfl
  conv at hH => rhs; unfold headE
  have hEh : ∀ E, headE x = E → E ≠ 0 → worldE L x = E := fun E h h2 => by rw [hE.out, if_pos (by rw [h]; exact h2), h]
  replace hEh := Lib.hid hEh
  replace hB3 := Lib.hid hB3
  cases hn1 : numB x.turn with
  | false =>
    have hE1 := hEh.out 1 (by rw [hH, if_pos (.inl hn1)]) (by decide)
    replace hE1 := Lib.hid hE1
    replace hH := Lib.hid hH
    go_wp2_with (first | (go_at_call 80; refine (numb_any _ _).mono ?_; rintro e w' ⟨rfl, rfl⟩) | (go_at_call 81; refine (players_any _ _).mono ?_; rintro e w' ⟨rfl, rfl⟩))
    go_ret
    exact hQ.out _ 1 hE1.out hB3.out.b
  | true =>
  cases hn2 : numB x.next with
  | false =>
    have hE1 := hEh.out 1 (by rw [hH, if_pos (.inr (.inl hn2))]) (by decide)
    replace hE1 := Lib.hid hE1
    replace hH := Lib.hid hH
    go_wp2_with (first | (go_at_call 80; refine (numb_any _ _).mono ?_; rintro e w' ⟨rfl, rfl⟩) | (go_at_call 81; refine (players_any _ _).mono ?_; rintro e w' ⟨rfl, rfl⟩))
    go_ret
    exact hQ.out _ 1 hE1.out hB3.out.b
  | true =>
  by_cases hn3 : x.next = 0
  · have e3 : (x.next == 0) = true := by simp [hn3]
    have hE1 := hEh.out 1 (by rw [hH, if_pos (.inr (.inr (.inl hn3)))]) (by decide)
    replace hE1 := Lib.hid hE1
    replace hH := Lib.hid hH
    replace hn3 := Lib.hid hn3
    go_wp2_with (first | (go_at_call 80; refine (numb_any _ _).mono ?_; rintro e w' ⟨rfl, rfl⟩) | (go_at_call 81; refine (players_any _ _).mono ?_; rintro e w' ⟨rfl, rfl⟩))
    go_ret
    exact hQ.out _ 1 hE1.out hB3.out.b
  have e3 : (x.next == 0) = false := by simp [hn3]
  by_cases hn4 : x.gold.length < 1
  · have p4 : decide ((1 : Int) ≤ (x.gold.length : Int)) = false := decide_eq_false (by omega)
    have hE1 := hEh.out 1 (by rw [hH, if_pos (.inr (.inr (.inr (.inl hn4))))]) (by decide)
    replace hE1 := Lib.hid hE1
    replace hH := Lib.hid hH
    go_wp2_with (first | (go_at_call 80; refine (numb_any _ _).mono ?_; rintro e w' ⟨rfl, rfl⟩) | (go_at_call 81; refine (players_any _ _).mono ?_; rintro e w' ⟨rfl, rfl⟩))
    go_ret
    exact hQ.out _ 1 hE1.out hB3.out.b
  have p4 : decide ((1 : Int) ≤ (x.gold.length : Int)) = true := decide_eq_true (by omega)
  by_cases hn5 : 4 < x.gold.length
  · have p5 : decide ((x.gold.length : Int) ≤ 4) = false := decide_eq_false (by omega)
    have hE1 := hEh.out 1 (by rw [hH, if_pos (.inr (.inr (.inr (.inr hn5))))]) (by decide)
    replace hE1 := Lib.hid hE1
    replace hH := Lib.hid hH
    go_wp2_with (first | (go_at_call 80; refine (numb_any _ _).mono ?_; rintro e w' ⟨rfl, rfl⟩) | (go_at_call 81; refine (players_any _ _).mono ?_; rintro e w' ⟨rfl, rfl⟩))
    go_ret
    exact hQ.out _ 1 hE1.out hB3.out.b
  have p5 : decide ((x.gold.length : Int) ≤ 4) = true := decide_eq_true (by omega)
  rw [if_neg (by rintro (h | h | h | h | h); rw [hn1] at h; cases h; rw [hn2] at h; cases h; exact hn3 h; exact hn4 h; exact hn5 h)] at hH
  have hgc := ctnG_any sg.A sg.c x.gold W3 hB3.out.wo.2.2.2.1.1 (by omega)
  have hg4 : x.gold.length ≤ 4 := by omega
  cases hn6 : x.gold.any (fun n => !numB n) with
  | true =>
    rw [hn6] at hgc
    have hE1 := hEh.out 1 (by rw [hH, if_pos hn6]) (by decide)
    replace hE1 := Lib.hid hE1
    replace hH := Lib.hid hH
    replace hgc := Lib.hid hgc
    replace hn6 := Lib.hid hn6
    go_wp2_with (first | (go_at_call 80; refine (numb_any _ _).mono ?_; rintro e w' ⟨rfl, rfl⟩) | (go_at_call 81; refine (players_any _ _).mono ?_; rintro e w' ⟨rfl, rfl⟩))
    refine hgc.out.mono ?_
    rintro e W4 ⟨rfl, rfl⟩
    go_wp2_with fail
    go_ret
    exact hQ.out _ 1 hE1.out hB3.out.b
  | false =>
  rw [hn6] at hgc
  rw [if_neg (by rw [hn6]; simp)] at hH
  replace hgc := Lib.hid hgc
  replace hn6 := Lib.hid hn6
  replace hn1 := hn1
  go_wp2_with (first | (go_at_call 80; refine (numb_any _ _).mono ?_; rintro e w' ⟨rfl, rfl⟩) | (go_at_call 81; refine (players_any _ _).mono ?_; rintro e w' ⟨rfl, rfl⟩))
  refine hgc.out.mono ?_
  clear hgc
  rintro e W4 ⟨rfl, rfl⟩
  clear p4 p5 e3 hn1 hn2
  by_cases h40 : 40 < x.units.length
  · have z4 : (40 : Int) < (x.units.length : Int) := by omega
    rw [if_pos h40] at hH
    have hE1 := hEh.out 4 hH (by decide)
    replace hE1 := Lib.hid hE1
    replace hH := Lib.hid hH
    go_wp2_with fail
    go_ret
    exact hQ.out _ 4 hE1.out hB3.out.b
  have z4 : ¬ (40 : Int) < (x.units.length : Int) := by omega
  rw [if_neg h40] at hH
  replace hE := hE.out
  rw [if_neg (fun c => c hH)] at hE
  have hu40 : x.units.length ≤ 40 := by omega
  have hmU := seqE_mono (unitE L x)
  replace hH := Lib.hid hH
  replace hE := Lib.hid hE
  replace hEh := Lib.hid hEh
  replace hmU := Lib.hid hmU
  go_wp2_with fail
  clear m0 m1 m2 m3 m4 m5 m6 m7 m8 mll
  go_loopw [61] (fun vi wr => ∃ k : Nat, vi = .int .i64 k ∧ k ≤ x.units.length ∧ Hid (seqE (unitE L x) k = 0) ∧ Hid (WB w.heap.size w wr sK L ⟨sf, sg, su, ⟨qA, qc⟩⟩ x wb)) (fun vi _ => x.units.length - (intOf vi).toNat)
  case atStart => exact ⟨0, rfl, Nat.zero_le _, Lib.hid rfl, hB3⟩
  case round =>
    clear hB3
    obtain ⟨k, rfl, hk, hz, hBB⟩ := hrel
    obtain ⟨m0, m1, m2, m3, m4, m5, m6, m7, m8, mll⟩ := hBB.out.wcells
    by_cases hlt : k < x.units.length
    · have z2 : (k : Int) < (x.units.length : Int) := by omega
      have huc := unit_any sK L ⟨sf, sg, su, ⟨qA, qc⟩⟩ x k wr hBB.out.ks hBB.out.wo hf0.out hlt hK8 hu40 hg4
      have hst : seqE (unitE L x) (k + 1) = unitE L x k := by rw [seqE, if_neg (fun e => e hz.out)]
      by_cases he : unitE L x k = 0
      · rw [he] at huc hst
        replace huc : Calls Tryd.prog 84 #[.slice sK.A L.length sK.c, wA ⟨sf, sg, su, ⟨qA, qc⟩⟩ x, .int .i64 (k : Int)] wr fun e w' => e = .returned .nilIface ∧ Below wr.heap.size wr w' := huc
        replace huc := Lib.hid huc
        replace hst := Lib.hid hst
        replace he := Lib.hid he
        go_wp2_with fail
        refine huc.out.mono ?_
        clear huc m0 m1 m2 m3 m4 m5 m6 m7 m8 mll
        rintro e W5 ⟨rfl, hb5⟩
        have hB5 := hBB.out.below hb5
        replace hB5 := Lib.hid hB5
        clear hb5 hBB
        go_wp2_with fail
        go_roundw
        case rel => exact ⟨k + 1, by go_num, by omega, hst, hB5⟩
        case measure => simp [intOf]; omega
      · have hE1 : worldE L x = unitE L x k := by
          have h1 := hmU.out (k + 1) x.units.length (by omega) (by rw [hst]; exact he)
          rw [hE.out, if_pos (by rw [h1, hst]; exact he), h1, hst]
        rw [errV_ne he] at huc
        replace huc := Lib.hid huc
        replace hst := Lib.hid hst
        generalize unitE L x k = E at *
        replace he := Lib.hid he
        replace hE1 := Lib.hid hE1
        go_wp2_with fail
        refine huc.out.mono ?_
        clear huc m0 m1 m2 m3 m4 m5 m6 m7 m8 mll
        rintro e W5 ⟨rfl, hb5⟩
        have hB5 := hBB.out.below hb5
        replace hB5 := Lib.hid hB5
        clear hb5 hBB
        go_wp2_with fail
        go_ret
        exact hQn.out _ E hE1.out he.out hB5.out.b
    · have z2 : ¬ (k : Int) < (x.units.length : Int) := by omega
      obtain rfl : k = x.units.length := by omega
      replace hE := hE.out
      rw [if_neg (fun c => c hz.out)] at hE
      have hUk : ∀ i, i < x.units.length → 0 ≤ (gu x.units i).kind ∧ (gu x.units i).kind < L.length := fun i hi => (unitE_ok (seqE_0 _ hz.out i hi)).kind
      have hmJ := seqE_mono (fun i => jobE L x (gj x.queue i))
      replace hmJ := Lib.hid hmJ
      by_cases h12 : 12 < x.queue.length
      · have z5 : (12 : Int) < (x.queue.length : Int) := by omega
        rw [if_pos h12] at hE
        replace hE := Lib.hid hE
        replace hUk := Lib.hid hUk
        go_wp2_with fail
        go_ret
        exact hQ.out _ 4 hE.out hBB.out.b
      have z5 : ¬ (12 : Int) < (x.queue.length : Int) := by omega
      rw [if_neg h12] at hE
      replace hE := Lib.hid hE
      replace hUk := Lib.hid hUk
      obtain ⟨wo, rfl⟩ : ∃ wo : World, wo = wr := ⟨_, rfl⟩
      go_wp2_with fail
      clear m0 m1 m2 m3 m4 m5 m6 m7 m8 mll
      go_loopw [80] (fun vi wr => ∃ k : Nat, vi = .int .i64 k ∧ k ≤ x.queue.length ∧ Hid (seqE (fun i => jobE L x (gj x.queue i)) k = 0) ∧ Hid (WB w.heap.size w wr sK L ⟨sf, sg, su, ⟨qA, qc⟩⟩ x wb)) (fun vi _ => x.queue.length - (intOf vi).toNat)
      case atStart => exact ⟨0, rfl, Nat.zero_le _, Lib.hid rfl, hBB⟩
      case round =>
        clear hBB
        obtain ⟨k, rfl, hk, hz2, hBB⟩ := hrel
        obtain ⟨m0, m1, m2, m3, m4, m5, m6, m7, m8, mll⟩ := hBB.out.wcells
        by_cases hlt : k < x.queue.length
        · have z6 : (k : Int) < (x.queue.length : Int) := by omega
          obtain ⟨bq, oq, hA, hbl, c0, c1, c2, c3⟩ := rj_at hBB.out.wo.rj k hlt
          have hst : seqE (fun i => jobE L x (gj x.queue i)) (k + 1) = jobE L x (gj x.queue k) := by rw [seqE, if_neg (fun e => e hz2.out)]
          have hal : ∀ o, Below wr.heap.size wr (wr.alloc o) := fun o => (Below.refl _ _).alloc (Nat.le_refl _) _
          have hBa := hBB.out.below (hal (.cells #[.int .i64 (gj x.queue k).player, .int .i64 (gj x.queue k).unit, .int .i64 (gj x.queue k).kind, .int .i64 (gj x.queue k).left] 126))
          have hjc := job_any sK L ⟨sf, sg, su, ⟨qA, qc⟩⟩ x (gj x.queue k) (wr.alloc (.cells #[.int .i64 (gj x.queue k).player, .int .i64 (gj x.queue k).unit, .int .i64 (gj x.queue k).kind, .int .i64 (gj x.queue k).left] 126)) hBa.ks hBa.wo hUk.out hK8 hu40
          have hkj := Blk.new wr 126 #[.int .i64 (gj x.queue k).player, .int .i64 (gj x.queue k).unit, .int .i64 (gj x.queue k).kind, .int .i64 (gj x.queue k).left]
          dsimp only at hA
          subst hA
          have hE1 : jobE L x (gj x.queue k) ≠ 0 → worldE L x = jobE L x (gj x.queue k) := fun he => by
            have h1 := hmJ.out (k + 1) x.queue.length (by omega) (by rw [hst]; exact he)
            rw [hE.out, h1, hst]
          replace hE1 := Lib.hid hE1
          obtain ⟨gg, hgg⟩ : ∃ gg, gj x.queue k = gg := ⟨_, rfl⟩
          rw [hgg] at c0 c1 c2 c3 hst hBa hjc hkj hE1
          obtain ⟨jp, ju, jk, jl⟩ := gg
          dsimp only at c0 c1 c2 c3 hBa hjc hkj
          replace hgg := Lib.hid hgg
          replace hBa := Lib.hid hBa
          replace hkj := Lib.hid hkj
          replace hst := Lib.hid hst
          go_upto_region 25 with fail
          obtain ⟨jb, hjb⟩ : ∃ jb, wr.heap.size = jb := ⟨_, rfl⟩
          rw [hjb]
          replace hkj : Blk (wr.alloc (.cells #[.int .i64 jp, .int .i64 ju, .int .i64 jk, .int .i64 jl] 126)) jb 126 #[.int .i64 jp, .int .i64 ju, .int .i64 jk, .int .i64 jl] := by rw [← hjb]; exact hkj.out
          clear hal c0 c1 c2 c3 m0 m1 m2 m3 m4 m5 m6 m7 m8 mll
          generalize (wr.alloc (.cells #[.int .i64 jp, .int .i64 ju, .int .i64 jk, .int .i64 jl] 126)) = wa at *
          replace hjb := Lib.hid hjb
          obtain ⟨m0, m1, m2, m3, m4, m5, m6, m7, m8, mll⟩ := hBa.out.wcells
          have j0 : wa.cell? ⟨jb, 0, none⟩ = some (.int .i64 jp) := hkj.cell 0
          have j1 : wa.cell? ⟨jb, 1, none⟩ = some (.int .i64 ju) := hkj.cell 1
          have j2 : wa.cell? ⟨jb, 2, none⟩ = some (.int .i64 jk) := hkj.cell 2
          have j3 : wa.cell? ⟨jb, 3, none⟩ = some (.int .i64 jl) := hkj.cell 3
          have jll := hkj.lt
          replace hkj := Lib.hid hkj
          by_cases he : jobE L x ⟨jp, ju, jk, jl⟩ = 0
          · rw [he] at hjc
            replace hst := hst.out
            rw [he] at hst
            replace hjc : Calls Tryd.prog 85 #[.slice sK.A L.length sK.c, wA ⟨sf, sg, su, ⟨some ⟨bq, oq, none⟩, qc⟩⟩ x, .agg #[.int .i64 jp, .int .i64 ju, .int .i64 jk, .int .i64 jl]] wa fun e w' => e = .returned .nilIface ∧ Below wa.heap.size wa w' := hjc
            replace hjc := Lib.hid hjc
            replace hst := Lib.hid hst
            replace he := Lib.hid he
            go_wp2_with fail
            refine hjc.out.mono ?_
            clear hjc m0 m1 m2 m3 m4 m5 m6 m7 m8 mll j0 j1 j2 j3 jll
            rintro e W5 ⟨rfl, hb5⟩
            have hB5 := hBa.out.below hb5
            replace hB5 := Lib.hid hB5
            clear hb5 hBa
            go_wp2_with fail
            go_roundw
            case rel => exact ⟨k + 1, by go_num, by omega, hst, hB5⟩
            case measure => simp [intOf]; omega
          · have hE2 := hE1.out he
            rw [errV_ne he] at hjc
            replace hjc := Lib.hid hjc
            clear hE1 hst
            generalize jobE L x ⟨jp, ju, jk, jl⟩ = E at *
            replace he := Lib.hid he
            replace hE2 := Lib.hid hE2
            go_wp2_with fail
            refine hjc.out.mono ?_
            clear hjc m0 m1 m2 m3 m4 m5 m6 m7 m8 mll j0 j1 j2 j3 jll
            rintro e W5 ⟨rfl, hb5⟩
            have hB5 := hBa.out.below hb5
            replace hB5 := Lib.hid hB5
            clear hb5 hBa
            go_wp2_with fail
            go_ret
            exact hQn.out _ E hE2.out he.out hB5.out.b
        · have z6 : ¬ (k : Int) < (x.queue.length : Int) := by omega
          obtain rfl : k = x.queue.length := by omega
          have hE1 : worldE L x = 0 := by rw [hE.out]; exact hz2.out
          replace hE1 := Lib.hid hE1
          go_wp2_with fail
          go_ret
          exact hQ.out _ 0 hE1.out hBB.out.b
end Go.Proofs.YtkgkpggfoieioaaDoor
