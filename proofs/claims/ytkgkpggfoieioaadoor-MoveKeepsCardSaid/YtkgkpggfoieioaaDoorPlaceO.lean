import Derived.Test.YtkgkpggfoieioaaDoorPlainPl
namespace Go.Proofs.YtkgkpggfoieioaaDoor
set_option linter.unusedVariables false
open Go.RowKit
/-! world.Place where all is right. -/
theorem WOwn.base {w : World} {b b' : Nat} {s : SW} {x : GW} (h : WOwn w b s x) (hb : b' ≤ b) : WOwn w b' s x := ⟨own_base h.g hb, own_base h.o hb, own_base h.d hb, own_base h.u hb, own_base h.q hb⟩
theorem WOwn.farW {w : World} {base b i : Nat} {u : Value} {s : SW} {x : GW} (h : WOwn w base s x) (hb : b < base) : WOwn (w.setCell ⟨b, i, none⟩ u) base s x := ⟨own_farW h.g hb, own_farW h.o hb, own_farW h.d hb, own_farW h.u hb, own_farW h.q hb⟩
set_option maxHeartbeats 12800000 in
set_option maxRecDepth 100000 in
theorem place_ok (sK : SL) (L : List GK) (s : SW) (x : GW) (p : Int) (kd sp : Nat) (w : World) (hK : KS w w.heap.size sK L) (hW : WOk w s x) (h0 : PutOk L x p (kd : Int) (sp : Int)) :
    Calls Tryd.prog 27 #[.slice sK.A L.length sK.c, wA s x, .int .i64 p, .int .i64 (kd : Int), .int .i64 (sp : Int)] w fun e w' => ∃ s', e = .returned (.tuple #[wA s' (addX L x p kd sp), .nilIface]) ∧ WOwn w' (w.heap.size + 2) s' (addX L x p kd sp) ∧ Below w.heap.size w w' := by
  obtain ⟨sA, sc⟩ := sK
  have hX : CW w ((w.alloc (.cells #[.int .i64 x.turn, .int .i64 x.next, .int .i64 x.field.wide, .int .i64 x.field.high, .slice s.field.ground.A x.field.ground.length s.field.ground.c, .slice s.field.ore.A x.field.ore.length s.field.ore.c, .slice s.gold.A x.gold.length s.gold.c, .slice s.units.A x.units.length s.units.c, .slice s.queue.A x.queue.length s.queue.c] 55)).alloc (.cells #[.int .i64 0, .int .i64 0, .int .i64 0, .int .i64 0, .slice none 0 0, .slice none 0 0, .slice none 0 0, .slice none 0 0, .slice none 0 0] 55)) s x w.heap.size (w.heap.size + 1) #[.int .i64 x.turn, .int .i64 x.next, .int .i64 x.field.wide, .int .i64 x.field.high, .slice s.field.ground.A x.field.ground.length s.field.ground.c, .slice s.field.ore.A x.field.ore.length s.field.ore.c, .slice s.gold.A x.gold.length s.gold.c, .slice s.units.A x.units.length s.units.c, .slice s.queue.A x.queue.length s.queue.c] := by
    obtain ⟨hb1, hk1, hk2⟩ := two_boxes w 55 55 #[.int .i64 x.turn, .int .i64 x.next, .int .i64 x.field.wide, .int .i64 x.field.high, .slice s.field.ground.A x.field.ground.length s.field.ground.c, .slice s.field.ore.A x.field.ore.length s.field.ore.c, .slice s.gold.A x.gold.length s.gold.c, .slice s.units.A x.units.length s.units.c, .slice s.queue.A x.queue.length s.queue.c] #[.int .i64 0, .int .i64 0, .int .i64 0, .int .i64 0, .slice none 0 0, .slice none 0 0, .slice none 0 0, .slice none 0 0, .slice none 0 0]
    exact ⟨hb1, hk1, hk2, hW, Nat.le_refl _, by omega⟩
  have hcap := hK.cap
  have hmx := hK.max
  have hul := hW.ulen
  have hl8 := (kindsE_0 h0.ok.kinds).1
  have hh := headE_ok h0.ok.head
  have hgd := (good_of x.field h0.ok.field).len
  have hin := hW.int
  dsimp only at hcap hmx ⊢
  obtain ⟨f1, f2⟩ := h0.player
  obtain ⟨_, f4⟩ := h0.kind
  obtain ⟨_, g4⟩ := h0.spot
  have hr := h0.room
  have hkd : kd < L.length := by omega
  have hsp : sp < x.field.ground.length := by omega
  replace hX := Lib.hid hX
  replace hK := Lib.hid hK
  replace h0 := Lib.hid h0
  replace hin := Lib.hid hin
  replace hgd := Lib.hid hgd
  replace hh := Lib.hid hh
  clear hW
  go_enter Tryd.func27, Tryd.ntmps27
  go_upto_region 1 with fail
  generalize ((w.alloc (.cells #[.int .i64 x.turn, .int .i64 x.next, .int .i64 x.field.wide, .int .i64 x.field.high, .slice s.field.ground.A x.field.ground.length s.field.ground.c, .slice s.field.ore.A x.field.ore.length s.field.ore.c, .slice s.gold.A x.gold.length s.gold.c, .slice s.units.A x.units.length s.units.c, .slice s.queue.A x.queue.length s.queue.c] 55)).alloc (.cells #[.int .i64 0, .int .i64 0, .int .i64 0, .int .i64 0, .slice none 0 0, .slice none 0 0, .slice none 0 0, .slice none 0 0, .slice none 0 0] 55)) = W at *
  obtain ⟨wb, hwb⟩ : ∃ wb, w.heap.size = wb := ⟨_, rfl⟩
  obtain ⟨rb, hrb⟩ : ∃ rb, wb + 1 = rb := ⟨_, rfl⟩
  rw [hwb]
  try rw [hrb]
  replace hX : CW w W s x wb rb #[.int .i64 x.turn, .int .i64 x.next, .int .i64 x.field.wide, .int .i64 x.field.high, .slice s.field.ground.A x.field.ground.length s.field.ground.c, .slice s.field.ore.A x.field.ore.length s.field.ore.c, .slice s.gold.A x.gold.length s.gold.c, .slice s.units.A x.units.length s.units.c, .slice s.queue.A x.queue.length s.queue.c] := by rw [← hrb, ← hwb]; exact hX.out
  replace hX := Lib.hid hX
  replace hwb := Lib.hid hwb
  replace hrb := Lib.hid hrb
  obtain ⟨m0, m1, m2, m3, m4, m5, m6, m7, m8, mll, rll⟩ := hX.out.wcells
  have hwc := wcheck_any ⟨sA, sc⟩ L s x W ((hK.out.below hX.out.b).more hX.out.b.size) hX.out.wo_
  rw [worldE_ok h0.out.ok] at hwc
  replace hwc : Calls Tryd.prog 28 #[.slice sA L.length sc, wA s x] W fun e w' => e = .returned .nilIface ∧ Below W.heap.size W w' := hwc
  replace hwc := Lib.hid hwc
  go_wp2_with fail
  refine hwc.out.mono ?_
  clear hwc m0 m1 m2 m3 m4 m5 m6 m7 m8 mll rll
  rintro e w2 ⟨rfl, hb2⟩
  replace hX := Lib.hid (hX.out.below hb2)
  clear hb2
  obtain ⟨m0, m1, m2, m3, m4, m5, m6, m7, m8, mll, rll⟩ := hX.out.wcells
  have hro := room_any s x w2 hX.out.wo_
  have hrv : (decide (x.units.length < 40) && decide (x.next < 1000000)) = true := by
    rw [Bool.and_eq_true, decide_eq_true_iff, decide_eq_true_iff]; exact hr
  rw [hrv] at hro
  replace hro := Lib.hid hro
  replace hrv := Lib.hid hrv
  go_wp2_with fail
  refine hro.out.mono ?_
  clear hro m0 m1 m2 m3 m4 m5 m6 m7 m8 mll rll
  rintro e w3 ⟨rfl, hb3⟩
  replace hX := Lib.hid (hX.out.below hb3)
  clear hb3
  obtain ⟨m0, m1, m2, m3, m4, m5, m6, m7, m8, mll, rll⟩ := hX.out.wcells
  have df1 : decide (p < 0) = false := decide_eq_false (by omega)
  have df2 : decide ((x.gold.length : Int) ≤ p) = false := decide_eq_false (by omega)
  have df3 : decide ((kd : Int) < 0) = false := decide_eq_false (by omega)
  have df4 : decide ((L.length : Int) ≤ (kd : Int)) = false := decide_eq_false (by omega)
  have dg1 : decide ((sp : Int) < 0) = false := decide_eq_false (by omega)
  have dg2 : decide ((x.field.ground.length : Int) ≤ (sp : Int)) = false := decide_eq_false (by omega)
  have hkdi : (kd : Int) < (L.length : Int) := by omega
  have nf1 : ¬ p < 0 := by omega
  have nf2 : ¬ (x.gold.length : Int) ≤ p := by omega
  have nf3 : ¬ (kd : Int) < 0 := by omega
  have nf4 : ¬ (L.length : Int) ≤ (kd : Int) := by omega
  have ng1 : ¬ (sp : Int) < 0 := by omega
  have ng2 : ¬ (x.field.ground.length : Int) ≤ (sp : Int) := by omega
  obtain ⟨bk, okk, hAk, hbk, _, _, _, _, _, _, _, _, _, k9, _⟩ := rk_at (hK.out.rd.below hX.out.b) kd hkd
  dsimp only at hAk
  subst hAk
  obtain ⟨ov, hov⟩ : ∃ ov, ontoL x.field sp (gk L kd).flies = ov := ⟨_, rfl⟩
  obtain ⟨oi, hoi⟩ : ∃ oi, onI x.units (sp : Int) = oi := ⟨_, rfl⟩
  have z0 : ov ≠ 0 := by have := h0.out.onto; rw [Int.toNat_natCast, Int.toNat_natCast, hov] at this; exact this
  have z2 : ¬ 0 ≤ oi := by have := h0.out.free; rw [hoi] at this; omega
  have z1 : (ov == 0) = false := by simp [z0]
  have z3 : decide (0 ≤ oi) = false := decide_eq_false z2
  obtain ⟨kf, hkf⟩ : ∃ kf, (gk L kd).flies = kf := ⟨_, rfl⟩
  rw [hkf] at hov k9
  replace hkf := Lib.hid hkf
  have hS : ∀ wz, CW w wz s x wb rb #[.int .i64 x.turn, .int .i64 x.next, .int .i64 x.field.wide, .int .i64 x.field.high, .slice s.field.ground.A x.field.ground.length s.field.ground.c, .slice s.field.ore.A x.field.ore.length s.field.ore.c, .slice s.gold.A x.gold.length s.gold.c, .slice s.units.A x.units.length s.units.c, .slice s.queue.A x.queue.length s.queue.c] → (wz.cell? ⟨wb, 0, none⟩ = some (.int .i64 x.turn) ∧ wz.cell? ⟨wb, 1, none⟩ = some (.int .i64 x.next) ∧ wz.cell? ⟨wb, 2, none⟩ = some (.int .i64 x.field.wide) ∧ wz.cell? ⟨wb, 3, none⟩ = some (.int .i64 x.field.high) ∧ wz.cell? ⟨wb, 4, none⟩ = some (.slice s.field.ground.A x.field.ground.length s.field.ground.c) ∧ wz.cell? ⟨wb, 5, none⟩ = some (.slice s.field.ore.A x.field.ore.length s.field.ore.c) ∧ wz.cell? ⟨wb, 6, none⟩ = some (.slice s.gold.A x.gold.length s.gold.c) ∧ wz.cell? ⟨wb, 7, none⟩ = some (.slice s.units.A x.units.length s.units.c) ∧ wz.cell? ⟨wb, 8, none⟩ = some (.slice s.queue.A x.queue.length s.queue.c) ∧ wz.cell? ⟨bk, okk + kd * 11 + 9, none⟩ = some (.bool kf)) := fun wz h => by
    obtain ⟨m0, m1, m2, m3, m4, m5, m6, m7, m8, _, _⟩ := h.wcells
    obtain ⟨b', o', hA', _, _, _, _, _, _, _, _, _, _, k9, _⟩ := rk_at (hK.out.rd.below h.b) kd hkd
    dsimp only at hA'
    injection hA' with hA'
    injection hA' with e3 e4
    subst e3; subst e4
    rw [hkf.out] at k9
    exact ⟨m0, m1, m2, m3, m4, m5, m6, m7, m8, k9⟩
  have hon : ∀ wz, CW w wz s x wb rb #[.int .i64 x.turn, .int .i64 x.next, .int .i64 x.field.wide, .int .i64 x.field.high, .slice s.field.ground.A x.field.ground.length s.field.ground.c, .slice s.field.ore.A x.field.ore.length s.field.ore.c, .slice s.gold.A x.gold.length s.gold.c, .slice s.units.A x.units.length s.units.c, .slice s.queue.A x.queue.length s.queue.c] → Calls Tryd.prog 75 #[.agg #[.int .i64 x.field.wide, .int .i64 x.field.high, .slice s.field.ground.A x.field.ground.length s.field.ground.c, .slice s.field.ore.A x.field.ore.length s.field.ore.c], .int .i64 (sp : Int), .bool kf] wz fun e w' => e = .returned (.int .i64 ov) ∧ CW w w' s x wb rb #[.int .i64 x.turn, .int .i64 x.next, .int .i64 x.field.wide, .int .i64 x.field.high, .slice s.field.ground.A x.field.ground.length s.field.ground.c, .slice s.field.ore.A x.field.ore.length s.field.ore.c, .slice s.gold.A x.gold.length s.gold.c, .slice s.units.A x.units.length s.units.c, .slice s.queue.A x.queue.length s.queue.c] := fun wz h => by
    have := onto_any s.field x.field sp kf wz h.wo_.2.2.1 hsp
    rw [hov] at this
    exact this.mono fun _ _ ⟨h1, h2⟩ => ⟨h1, h.below h2⟩
  have hoc : ∀ wz, CW w wz s x wb rb #[.int .i64 x.turn, .int .i64 x.next, .int .i64 x.field.wide, .int .i64 x.field.high, .slice s.field.ground.A x.field.ground.length s.field.ground.c, .slice s.field.ore.A x.field.ore.length s.field.ore.c, .slice s.gold.A x.gold.length s.gold.c, .slice s.units.A x.units.length s.units.c, .slice s.queue.A x.queue.length s.queue.c] → Calls Tryd.prog 76 #[.agg #[.int .i64 x.turn, .int .i64 x.next, .int .i64 x.field.wide, .int .i64 x.field.high, .slice s.field.ground.A x.field.ground.length s.field.ground.c, .slice s.field.ore.A x.field.ore.length s.field.ore.c, .slice s.gold.A x.gold.length s.gold.c, .slice s.units.A x.units.length s.units.c, .slice s.queue.A x.queue.length s.queue.c], .int .i64 (sp : Int)] wz fun e w' => e = .returned (.int .i64 oi) ∧ CW w w' s x wb rb #[.int .i64 x.turn, .int .i64 x.next, .int .i64 x.field.wide, .int .i64 x.field.high, .slice s.field.ground.A x.field.ground.length s.field.ground.c, .slice s.field.ore.A x.field.ore.length s.field.ore.c, .slice s.gold.A x.gold.length s.gold.c, .slice s.units.A x.units.length s.units.c, .slice s.queue.A x.queue.length s.queue.c] := fun wz h => by
    have := on_any s x (sp : Int) wz h.wo_
    rw [hoi] at this
    exact this.mono fun _ _ ⟨h1, h2⟩ => ⟨h1, h.below h2⟩
  replace hov := Lib.hid hov
  replace hoi := Lib.hid hoi
  replace hS := Lib.hid hS
  replace hon := Lib.hid hon
  replace hoc := Lib.hid hoc
  go_upto_region 10 with fail
  clear m0 m1 m2 m3 m4 m5 m6 m7 m8 mll rll
  clear k9
  refine wp_region_noPanic ?_
  have hX1 := hX.out.drewN 1
  clear hX
  have hX := Lib.hid hX1
  clear hX1
  refine wp_region_held_drew (S := fun wz => wz.cell? ⟨wb, 0, none⟩ = some (.int .i64 x.turn) ∧ wz.cell? ⟨wb, 1, none⟩ = some (.int .i64 x.next) ∧ wz.cell? ⟨wb, 2, none⟩ = some (.int .i64 x.field.wide) ∧ wz.cell? ⟨wb, 3, none⟩ = some (.int .i64 x.field.high) ∧ wz.cell? ⟨wb, 4, none⟩ = some (.slice s.field.ground.A x.field.ground.length s.field.ground.c) ∧ wz.cell? ⟨wb, 5, none⟩ = some (.slice s.field.ore.A x.field.ore.length s.field.ore.c) ∧ wz.cell? ⟨wb, 6, none⟩ = some (.slice s.gold.A x.gold.length s.gold.c) ∧ wz.cell? ⟨wb, 7, none⟩ = some (.slice s.units.A x.units.length s.units.c) ∧ wz.cell? ⟨wb, 8, none⟩ = some (.slice s.queue.A x.queue.length s.queue.c) ∧ wz.cell? ⟨bk, okk + kd * 11 + 9, none⟩ = some (.bool kf)) (by kernel_rfl) (hS.out _ hX.out) (fun hHeld => ?_)
  refine wpAnyH_take (i := 0) (oi := _) (v := ?_) rfl (by kernel_rfl) (by kernel_rfl) (by kernel_rfl) (fun _ _ _ h => h) (Or.inl ⟨by rfl, ?_⟩) (by assumption) ?_
  rotate_left
  · intro w' hSw
    try dsimp only at hSw
    first | (go_simp; done) | (go_simp; with_reducible rfl)
  try simp only [Act.put]
  try simp only [List.setIfInBounds_toArray]
  try simp only [List.set_cons_succ, List.set_cons_zero]
  try simp only [List.getElem_toArray]
  try simp only [List.getElem_cons_succ]
  try simp only [List.getElem_cons_zero]
  refine wpAnyH_take (i := 1) (oi := _) (v := ?_) rfl (by kernel_rfl) (by kernel_rfl) (by kernel_rfl) (fun _ _ _ h => h) (Or.inl ⟨by rfl, ?_⟩) (by assumption) ?_
  rotate_left
  · intro w' hSw
    try dsimp only at hSw
    first | (go_simp; done) | (go_simp; with_reducible rfl)
  try simp only [Act.put]
  try simp only [List.setIfInBounds_toArray]
  try simp only [List.set_cons_succ, List.set_cons_zero]
  try simp only [List.getElem_toArray]
  try simp only [List.getElem_cons_succ]
  try simp only [List.getElem_cons_zero]
  refine wpAnyH_take (i := 2) (oi := _) (v := ?_) rfl (by kernel_rfl) (by kernel_rfl) (by kernel_rfl) (fun _ _ _ h => h) (Or.inl ⟨by rfl, ?_⟩) (by assumption) ?_
  rotate_left
  · intro w' hSw
    try dsimp only at hSw
    first | (go_simp; done) | (go_simp; with_reducible rfl)
  try simp only [Act.put]
  try simp only [List.setIfInBounds_toArray]
  try simp only [List.set_cons_succ, List.set_cons_zero]
  try simp only [List.getElem_toArray]
  try simp only [List.getElem_cons_succ]
  try simp only [List.getElem_cons_zero]
  refine wpAnyH_take (i := 3) (oi := _) (v := ?_) rfl (by kernel_rfl) (by kernel_rfl) (by kernel_rfl) (fun _ _ _ h => h) (Or.inl ⟨by rfl, ?_⟩) (by assumption) ?_
  rotate_left
  · intro w' hSw
    try dsimp only at hSw
    first | (go_simp; done) | (go_simp; with_reducible rfl)
  try simp only [Act.put]
  try simp only [List.setIfInBounds_toArray]
  try simp only [List.set_cons_succ, List.set_cons_zero]
  try simp only [List.getElem_toArray]
  try simp only [List.getElem_cons_succ]
  try simp only [List.getElem_cons_zero]
  refine wpAnyH_take (i := 4) (oi := _) (v := ?_) rfl (by kernel_rfl) (by kernel_rfl) (by kernel_rfl) (fun _ _ _ h => h) (Or.inl ⟨by rfl, ?_⟩) (by assumption) ?_
  rotate_left
  · intro w' hSw
    try dsimp only at hSw
    first | (go_simp; done) | (go_simp; with_reducible rfl)
  try simp only [Act.put]
  try simp only [List.setIfInBounds_toArray]
  try simp only [List.set_cons_succ, List.set_cons_zero]
  try simp only [List.getElem_toArray]
  try simp only [List.getElem_cons_succ]
  try simp only [List.getElem_cons_zero]
  refine wpAnyH_take (i := 5) (oi := _) (v := ?_) rfl (by kernel_rfl) (by kernel_rfl) (by kernel_rfl) (fun _ _ _ h => h) (Or.inl ⟨by rfl, ?_⟩) (by assumption) ?_
  rotate_left
  · intro w' hSw
    try dsimp only at hSw
    first | (go_simp; done) | (go_simp; with_reducible rfl)
  try simp only [Act.put]
  try simp only [List.setIfInBounds_toArray]
  try simp only [List.set_cons_succ, List.set_cons_zero]
  try simp only [List.getElem_toArray]
  try simp only [List.getElem_cons_succ]
  try simp only [List.getElem_cons_zero]
  refine wpAnyH_take (i := 6) (oi := _) (v := ?_) rfl (by kernel_rfl) (by kernel_rfl) (by kernel_rfl) (fun _ _ _ h => h) (Or.inl ⟨by rfl, ?_⟩) (by assumption) ?_
  rotate_left
  · intro w' hSw
    try dsimp only at hSw
    first | (go_simp; done) | (go_simp; with_reducible rfl)
  try simp only [Act.put]
  try simp only [List.setIfInBounds_toArray]
  try simp only [List.set_cons_succ, List.set_cons_zero]
  try simp only [List.getElem_toArray]
  try simp only [List.getElem_cons_succ]
  try simp only [List.getElem_cons_zero]
  refine wpAnyH_take (i := 7) (oi := _) (v := ?_) rfl (by kernel_rfl) (by kernel_rfl) (by kernel_rfl) (fun _ _ _ h => h) (Or.inl ⟨by rfl, ?_⟩) (by assumption) ?_
  rotate_left
  · intro w' hSw
    try dsimp only at hSw
    first | (go_simp; done) | (go_simp; with_reducible rfl)
  try simp only [Act.put]
  try simp only [List.setIfInBounds_toArray]
  try simp only [List.set_cons_succ, List.set_cons_zero]
  try simp only [List.getElem_toArray]
  try simp only [List.getElem_cons_succ]
  try simp only [List.getElem_cons_zero]
  refine wpAnyH_ready (rs := [8]) (by kernel_rfl) (by simp) ?_
  refine AllReadyH.cons (o := { dst := some 70, op := .call { callee := .value (.func 75), args := #[.tmp 63, .tmp 64, .tmp 69], argTypes := #[52, 3, 4] }, type := _, pos := _, after := _, guard := none }) rfl (fun K hK => ?_) AllReadyH.nil
  go_simp
  refine (hon.out _ hX.out).mono ?_
  rintro e w5 ⟨rfl, hX2⟩
  clear hHeld hX
  have hX := Lib.hid hX2
  clear hX2
  refine hK.out _ _ (hS.out _ hX.out) (fun hHeld => ?_)
  clear hK K
  try simp only [Act.put]
  try simp only [List.setIfInBounds_toArray]
  try simp only [List.set_cons_succ, List.set_cons_zero]
  try simp only [List.getElem_toArray]
  try simp only [List.getElem_cons_succ]
  try simp only [List.getElem_cons_zero]
  refine wpAnyH_take (i := 9) (oi := _) (v := ?_) rfl (by kernel_rfl) (by kernel_rfl) (by kernel_rfl) (fun _ _ _ h => h) (Or.inl ⟨by rfl, ?_⟩) (by assumption) ?_
  rotate_left
  · intro w' hSw
    try dsimp only at hSw
    first | (go_simp; done) | (go_simp; with_reducible rfl)
  try simp only [Act.put]
  try simp only [List.setIfInBounds_toArray]
  try simp only [List.set_cons_succ, List.set_cons_zero]
  try simp only [List.getElem_toArray]
  try simp only [List.getElem_cons_succ]
  try simp only [List.getElem_cons_zero]
  refine wpAnyH_take (i := 10) (oi := _) (v := ?_) rfl (by kernel_rfl) (by kernel_rfl) (by kernel_rfl) (fun _ _ _ h => h) (Or.inl ⟨by rfl, ?_⟩) (by assumption) ?_
  rotate_left
  · intro w' hSw
    try dsimp only at hSw
    first | (go_simp; done) | (go_simp; with_reducible rfl)
  try simp only [Act.put]
  try simp only [List.setIfInBounds_toArray]
  try simp only [List.set_cons_succ, List.set_cons_zero]
  try simp only [List.getElem_toArray]
  try simp only [List.getElem_cons_succ]
  try simp only [List.getElem_cons_zero]
  refine wpAnyH_take (i := 11) (oi := _) (v := ?_) rfl (by kernel_rfl) (by kernel_rfl) (by kernel_rfl) (fun _ _ _ h => h) (Or.inl ⟨by rfl, ?_⟩) (by assumption) ?_
  rotate_left
  · intro w' hSw
    try dsimp only at hSw
    first | (go_simp; done) | (go_simp; with_reducible rfl)
  try simp only [Act.put]
  try simp only [List.setIfInBounds_toArray]
  try simp only [List.set_cons_succ, List.set_cons_zero]
  try simp only [List.getElem_toArray]
  try simp only [List.getElem_cons_succ]
  try simp only [List.getElem_cons_zero]
  refine wpAnyH_take (i := 12) (oi := _) (v := ?_) rfl (by kernel_rfl) (by kernel_rfl) (by kernel_rfl) (fun _ _ _ h => h) (Or.inl ⟨by rfl, ?_⟩) (by assumption) ?_
  rotate_left
  · intro w' hSw
    try dsimp only at hSw
    first | (go_simp; done) | (go_simp; with_reducible rfl)
  try simp only [Act.put]
  try simp only [List.setIfInBounds_toArray]
  try simp only [List.set_cons_succ, List.set_cons_zero]
  try simp only [List.getElem_toArray]
  try simp only [List.getElem_cons_succ]
  try simp only [List.getElem_cons_zero]
  refine wpAnyH_ready (rs := [13]) (by kernel_rfl) (by simp) ?_
  refine AllReadyH.cons (o := { dst := some 75, op := .call { callee := .value (.func 76), args := #[.tmp 73, .tmp 74], argTypes := #[55, 3] }, type := _, pos := _, after := _, guard := some (10, false) }) rfl (fun K hK => ?_) AllReadyH.nil
  go_simp
  refine (hoc.out _ hX.out).mono ?_
  rintro e w6 ⟨rfl, hX2⟩
  clear hHeld hX
  have hX := Lib.hid hX2
  clear hX2
  refine hK.out _ _ (hS.out _ hX.out) (fun hHeld => ?_)
  clear hK K
  try simp only [Act.put]
  try simp only [List.setIfInBounds_toArray]
  try simp only [List.set_cons_succ, List.set_cons_zero]
  try simp only [List.getElem_toArray]
  try simp only [List.getElem_cons_succ]
  try simp only [List.getElem_cons_zero]
  refine wpAnyH_take (i := 14) (oi := _) (v := ?_) rfl (by kernel_rfl) (by kernel_rfl) (by kernel_rfl) (fun _ _ _ h => h) (Or.inl ⟨by rfl, ?_⟩) (by assumption) ?_
  rotate_left
  · intro w' hSw
    try dsimp only at hSw
    first | (go_simp; done) | (go_simp; with_reducible rfl)
  try simp only [Act.put]
  try simp only [List.setIfInBounds_toArray]
  try simp only [List.set_cons_succ, List.set_cons_zero]
  try simp only [List.getElem_toArray]
  try simp only [List.getElem_cons_succ]
  try simp only [List.getElem_cons_zero]
  refine wpAnyH_take (i := 15) (oi := _) (v := ?_) rfl (by kernel_rfl) (by kernel_rfl) (by kernel_rfl) (fun _ _ _ h => h) (Or.inl ⟨by rfl, ?_⟩) (by assumption) ?_
  rotate_left
  · intro w' hSw
    try dsimp only at hSw
    first | (go_simp; done) | (go_simp; with_reducible rfl)
  try simp only [Act.put]
  try simp only [List.setIfInBounds_toArray]
  try simp only [List.set_cons_succ, List.set_cons_zero]
  try simp only [List.getElem_toArray]
  try simp only [List.getElem_cons_succ]
  try simp only [List.getElem_cons_zero]
  refine wpAnyH_take (i := 16) (oi := _) (v := ?_) rfl (by kernel_rfl) (by kernel_rfl) (by kernel_rfl) (fun _ _ _ h => h) (Or.inl ⟨by rfl, ?_⟩) (by assumption) ?_
  rotate_left
  · intro w' hSw
    try dsimp only at hSw
    first | (go_simp; done) | (go_simp; with_reducible rfl)
  try simp only [Act.put]
  try simp only [List.setIfInBounds_toArray]
  try simp only [List.set_cons_succ, List.set_cons_zero]
  try simp only [List.getElem_toArray]
  try simp only [List.getElem_cons_succ]
  try simp only [List.getElem_cons_zero]
  refine wpAnyH_done (by kernel_rfl) ?_ _
  refine NoPanic.normal ?_
  clear hHeld
  dsimp only [List.set]
  obtain ⟨m0, m1, m2, m3, m4, m5, m6, m7, m8, mll, rll⟩ := hX.out.wcells
  have hnrw : rb ≠ wb := by have := hX.out.p2; omega
  have hwr1 : wb < rb + 1 := by have := hX.out.p2; omega
  have hszc : rb + 1 ≤ w6.heap.size := hX.out.kr.lt
  have hwsz : w.heap.size + 2 ≤ rb + 1 := by have := hwb.out; have := hrb.out; omega
  replace hnrw := Lib.hid hnrw
  replace hwr1 := Lib.hid hwr1
  replace hszc := Lib.hid hszc
  replace hwsz := Lib.hid hwsz
  have hcl := wclone_any s x w6 hX.out.wo_ (by have := hgd.out; omega) (by have := hgd.out; omega) (by have := hh.out.players; omega) (by omega) (by have := h0.out.ok.few; omega)
  replace hcl := Lib.hid hcl
  clear hS hon hoc
  go_upto_region 12 with fail
  go_wp2_with fail
  refine hcl.out.mono ?_
  clear hcl m0 m1 m2 m3 m4 m5 m6 m7 m8 mll rll
  rintro e w7 ⟨s1, rfl, hO, hb7⟩
  replace hX := Lib.hid (hX.out.below hb7)
  clear hb7
  have hO1 : WOwn w7 (rb + 1) s1 x := hO.base (by have := hszc.out; omega)
  clear hO
  replace hO1 := Lib.hid hO1
  have k0 : w7.cell? ⟨wb, 0, none⟩ = some (.int .i64 x.turn) := hX.out.kw.cell 0
  have y0 := hX.out.kw.frozen 0
  have k1 : w7.cell? ⟨wb, 1, none⟩ = some (.int .i64 x.next) := hX.out.kw.cell 1
  have y1 := hX.out.kw.frozen 1
  have k2 : w7.cell? ⟨wb, 2, none⟩ = some (.int .i64 x.field.wide) := hX.out.kw.cell 2
  have y2 := hX.out.kw.frozen 2
  have k3 : w7.cell? ⟨wb, 3, none⟩ = some (.int .i64 x.field.high) := hX.out.kw.cell 3
  have y3 := hX.out.kw.frozen 3
  have k4 : w7.cell? ⟨wb, 4, none⟩ = some (.slice s.field.ground.A x.field.ground.length s.field.ground.c) := hX.out.kw.cell 4
  have y4 := hX.out.kw.frozen 4
  have k5 : w7.cell? ⟨wb, 5, none⟩ = some (.slice s.field.ore.A x.field.ore.length s.field.ore.c) := hX.out.kw.cell 5
  have y5 := hX.out.kw.frozen 5
  have k6 : w7.cell? ⟨wb, 6, none⟩ = some (.slice s.gold.A x.gold.length s.gold.c) := hX.out.kw.cell 6
  have y6 := hX.out.kw.frozen 6
  have k7 : w7.cell? ⟨wb, 7, none⟩ = some (.slice s.units.A x.units.length s.units.c) := hX.out.kw.cell 7
  have y7 := hX.out.kw.frozen 7
  have k8 : w7.cell? ⟨wb, 8, none⟩ = some (.slice s.queue.A x.queue.length s.queue.c) := hX.out.kw.cell 8
  have y8 := hX.out.kw.frozen 8
  have kll := hX.out.kw.lt
  go_upto_region 13 with fail
  have hrw : w.heap.size ≤ wb := hX.out.p1
  have hkw8 : Blk (((((((((w7.setCell ⟨wb, 0, none⟩ (.int .i64 x.turn)).setCell ⟨wb, 1, none⟩ (.int .i64 x.next)).setCell ⟨wb, 2, none⟩ (.int .i64 x.field.wide)).setCell ⟨wb, 3, none⟩ (.int .i64 x.field.high)).setCell ⟨wb, 4, none⟩ (.slice s1.field.ground.A x.field.ground.length s1.field.ground.c)).setCell ⟨wb, 5, none⟩ (.slice s1.field.ore.A x.field.ore.length s1.field.ore.c)).setCell ⟨wb, 6, none⟩ (.slice s1.gold.A x.gold.length s1.gold.c)).setCell ⟨wb, 7, none⟩ (.slice s1.units.A x.units.length s1.units.c)).setCell ⟨wb, 8, none⟩ (.slice s1.queue.A x.queue.length s1.queue.c)) wb 55 #[.int .i64 x.turn, .int .i64 x.next, .int .i64 x.field.wide, .int .i64 x.field.high, .slice s1.field.ground.A x.field.ground.length s1.field.ground.c, .slice s1.field.ore.A x.field.ore.length s1.field.ore.c, .slice s1.gold.A x.gold.length s1.gold.c, .slice s1.units.A x.units.length s1.units.c, .slice s1.queue.A x.queue.length s1.queue.c] := by
    have h := (((((((((hX.out.kw.set_ 0 (.int .i64 x.turn)).set_ 1 (.int .i64 x.next)).set_ 2 (.int .i64 x.field.wide)).set_ 3 (.int .i64 x.field.high)).set_ 4 (.slice s1.field.ground.A x.field.ground.length s1.field.ground.c)).set_ 5 (.slice s1.field.ore.A x.field.ore.length s1.field.ore.c)).set_ 6 (.slice s1.gold.A x.gold.length s1.gold.c)).set_ 7 (.slice s1.units.A x.units.length s1.units.c)).set_ 8 (.slice s1.queue.A x.queue.length s1.queue.c))
    simp only [List.setIfInBounds_toArray, List.set_cons_zero, List.set_cons_succ] at h
    exact h
  have hkr8 : Blk (((((((((w7.setCell ⟨wb, 0, none⟩ (.int .i64 x.turn)).setCell ⟨wb, 1, none⟩ (.int .i64 x.next)).setCell ⟨wb, 2, none⟩ (.int .i64 x.field.wide)).setCell ⟨wb, 3, none⟩ (.int .i64 x.field.high)).setCell ⟨wb, 4, none⟩ (.slice s1.field.ground.A x.field.ground.length s1.field.ground.c)).setCell ⟨wb, 5, none⟩ (.slice s1.field.ore.A x.field.ore.length s1.field.ore.c)).setCell ⟨wb, 6, none⟩ (.slice s1.gold.A x.gold.length s1.gold.c)).setCell ⟨wb, 7, none⟩ (.slice s1.units.A x.units.length s1.units.c)).setCell ⟨wb, 8, none⟩ (.slice s1.queue.A x.queue.length s1.queue.c)) rb 55 #[.int .i64 0, .int .i64 0, .int .i64 0, .int .i64 0, .slice none 0 0, .slice none 0 0, .slice none 0 0, .slice none 0 0, .slice none 0 0] := (((((((((hX.out.kr.far (p := ⟨wb, 0, none⟩) hnrw.out (.int .i64 x.turn)).far (p := ⟨wb, 1, none⟩) hnrw.out (.int .i64 x.next)).far (p := ⟨wb, 2, none⟩) hnrw.out (.int .i64 x.field.wide)).far (p := ⟨wb, 3, none⟩) hnrw.out (.int .i64 x.field.high)).far (p := ⟨wb, 4, none⟩) hnrw.out (.slice s1.field.ground.A x.field.ground.length s1.field.ground.c)).far (p := ⟨wb, 5, none⟩) hnrw.out (.slice s1.field.ore.A x.field.ore.length s1.field.ore.c)).far (p := ⟨wb, 6, none⟩) hnrw.out (.slice s1.gold.A x.gold.length s1.gold.c)).far (p := ⟨wb, 7, none⟩) hnrw.out (.slice s1.units.A x.units.length s1.units.c)).far (p := ⟨wb, 8, none⟩) hnrw.out (.slice s1.queue.A x.queue.length s1.queue.c))
  have hbe8 : Below w.heap.size w (((((((((w7.setCell ⟨wb, 0, none⟩ (.int .i64 x.turn)).setCell ⟨wb, 1, none⟩ (.int .i64 x.next)).setCell ⟨wb, 2, none⟩ (.int .i64 x.field.wide)).setCell ⟨wb, 3, none⟩ (.int .i64 x.field.high)).setCell ⟨wb, 4, none⟩ (.slice s1.field.ground.A x.field.ground.length s1.field.ground.c)).setCell ⟨wb, 5, none⟩ (.slice s1.field.ore.A x.field.ore.length s1.field.ore.c)).setCell ⟨wb, 6, none⟩ (.slice s1.gold.A x.gold.length s1.gold.c)).setCell ⟨wb, 7, none⟩ (.slice s1.units.A x.units.length s1.units.c)).setCell ⟨wb, 8, none⟩ (.slice s1.queue.A x.queue.length s1.queue.c)) := (((((((((hX.out.b.setCell (p := ⟨wb, 0, none⟩) hrw (.int .i64 x.turn)).setCell (p := ⟨wb, 1, none⟩) hrw (.int .i64 x.next)).setCell (p := ⟨wb, 2, none⟩) hrw (.int .i64 x.field.wide)).setCell (p := ⟨wb, 3, none⟩) hrw (.int .i64 x.field.high)).setCell (p := ⟨wb, 4, none⟩) hrw (.slice s1.field.ground.A x.field.ground.length s1.field.ground.c)).setCell (p := ⟨wb, 5, none⟩) hrw (.slice s1.field.ore.A x.field.ore.length s1.field.ore.c)).setCell (p := ⟨wb, 6, none⟩) hrw (.slice s1.gold.A x.gold.length s1.gold.c)).setCell (p := ⟨wb, 7, none⟩) hrw (.slice s1.units.A x.units.length s1.units.c)).setCell (p := ⟨wb, 8, none⟩) hrw (.slice s1.queue.A x.queue.length s1.queue.c))
  have hO8 : WOwn (((((((((w7.setCell ⟨wb, 0, none⟩ (.int .i64 x.turn)).setCell ⟨wb, 1, none⟩ (.int .i64 x.next)).setCell ⟨wb, 2, none⟩ (.int .i64 x.field.wide)).setCell ⟨wb, 3, none⟩ (.int .i64 x.field.high)).setCell ⟨wb, 4, none⟩ (.slice s1.field.ground.A x.field.ground.length s1.field.ground.c)).setCell ⟨wb, 5, none⟩ (.slice s1.field.ore.A x.field.ore.length s1.field.ore.c)).setCell ⟨wb, 6, none⟩ (.slice s1.gold.A x.gold.length s1.gold.c)).setCell ⟨wb, 7, none⟩ (.slice s1.units.A x.units.length s1.units.c)).setCell ⟨wb, 8, none⟩ (.slice s1.queue.A x.queue.length s1.queue.c)) (rb + 1) s1 x := (WOwn.farW (b := wb) (i := 8) (u := .slice s1.queue.A x.queue.length s1.queue.c) (WOwn.farW (b := wb) (i := 7) (u := .slice s1.units.A x.units.length s1.units.c) (WOwn.farW (b := wb) (i := 6) (u := .slice s1.gold.A x.gold.length s1.gold.c) (WOwn.farW (b := wb) (i := 5) (u := .slice s1.field.ore.A x.field.ore.length s1.field.ore.c) (WOwn.farW (b := wb) (i := 4) (u := .slice s1.field.ground.A x.field.ground.length s1.field.ground.c) (WOwn.farW (b := wb) (i := 3) (u := .int .i64 x.field.high) (WOwn.farW (b := wb) (i := 2) (u := .int .i64 x.field.wide) (WOwn.farW (b := wb) (i := 1) (u := .int .i64 x.next) (WOwn.farW (b := wb) (i := 0) (u := .int .i64 x.turn) hO1.out hwr1.out) hwr1.out) hwr1.out) hwr1.out) hwr1.out) hwr1.out) hwr1.out) hwr1.out) hwr1.out)
  clear k0 k1 k2 k3 k4 k5 k6 k7 k8 y0 y1 y2 y3 y4 y5 y6 y7 y8 kll
  generalize (((((((((w7.setCell ⟨wb, 0, none⟩ (.int .i64 x.turn)).setCell ⟨wb, 1, none⟩ (.int .i64 x.next)).setCell ⟨wb, 2, none⟩ (.int .i64 x.field.wide)).setCell ⟨wb, 3, none⟩ (.int .i64 x.field.high)).setCell ⟨wb, 4, none⟩ (.slice s1.field.ground.A x.field.ground.length s1.field.ground.c)).setCell ⟨wb, 5, none⟩ (.slice s1.field.ore.A x.field.ore.length s1.field.ore.c)).setCell ⟨wb, 6, none⟩ (.slice s1.gold.A x.gold.length s1.gold.c)).setCell ⟨wb, 7, none⟩ (.slice s1.units.A x.units.length s1.units.c)).setCell ⟨wb, 8, none⟩ (.slice s1.queue.A x.queue.length s1.queue.c)) = w8 at *
  have hsz8 : rb + 1 ≤ w8.heap.size := hkr8.lt
  have had := add_any ⟨some ⟨bk, okk, none⟩, sc⟩ L s1 x p (sp : Int) kd wb (rb + 1) w.heap.size w8 (hK.out.below hbe8) hrw hkd hl8 hkw8 hO8 hwr1.out hsz8 (by have := hh.out.next; omega) hr.1
  have hkl8 := hkw8.lt
  replace hkw8 := Lib.hid hkw8
  replace hkr8 := Lib.hid hkr8
  replace hbe8 := Lib.hid hbe8
  replace had := Lib.hid had
  clear hO8 hO1 hX
  go_upto_region 14 with (go_at_call 78; refine had.out.mono ?_; rintro e w9 ⟨U, c, rfl, hkw9, hO9, hbe9, hkp9⟩)
  clear had
  have hkr9 : Blk w9 rb 55 #[.int .i64 0, .int .i64 0, .int .i64 0, .int .i64 0, .slice none 0 0, .slice none 0 0, .slice none 0 0, .slice none 0 0, .slice none 0 0] := hkp9 rb _ _ (by have := hnrw.out; exact this) (by omega) hkr8.out
  have hbe := hbe8.out.trans hbe9
  clear hkp9 hbe9
  have q0 : w9.cell? ⟨wb, 0, none⟩ = some (.int .i64 x.turn) := hkw9.cell 0
  have r0 : w9.cell? ⟨rb, 0, none⟩ = some (.int .i64 0) := hkr9.cell 0
  have j0 := hkr9.frozen 0
  have q1 : w9.cell? ⟨wb, 1, none⟩ = some (.int .i64 (x.next + 1)) := hkw9.cell 1
  have r1 : w9.cell? ⟨rb, 1, none⟩ = some (.int .i64 0) := hkr9.cell 1
  have j1 := hkr9.frozen 1
  have q2 : w9.cell? ⟨wb, 2, none⟩ = some (.int .i64 x.field.wide) := hkw9.cell 2
  have r2 : w9.cell? ⟨rb, 2, none⟩ = some (.int .i64 0) := hkr9.cell 2
  have j2 := hkr9.frozen 2
  have q3 : w9.cell? ⟨wb, 3, none⟩ = some (.int .i64 x.field.high) := hkw9.cell 3
  have r3 : w9.cell? ⟨rb, 3, none⟩ = some (.int .i64 0) := hkr9.cell 3
  have j3 := hkr9.frozen 3
  have q4 : w9.cell? ⟨wb, 4, none⟩ = some (.slice s1.field.ground.A x.field.ground.length s1.field.ground.c) := hkw9.cell 4
  have r4 : w9.cell? ⟨rb, 4, none⟩ = some (.slice none 0 0) := hkr9.cell 4
  have j4 := hkr9.frozen 4
  have q5 : w9.cell? ⟨wb, 5, none⟩ = some (.slice s1.field.ore.A x.field.ore.length s1.field.ore.c) := hkw9.cell 5
  have r5 : w9.cell? ⟨rb, 5, none⟩ = some (.slice none 0 0) := hkr9.cell 5
  have j5 := hkr9.frozen 5
  have q6 : w9.cell? ⟨wb, 6, none⟩ = some (.slice s1.gold.A x.gold.length s1.gold.c) := hkw9.cell 6
  have r6 : w9.cell? ⟨rb, 6, none⟩ = some (.slice none 0 0) := hkr9.cell 6
  have j6 := hkr9.frozen 6
  have q7 : w9.cell? ⟨wb, 7, none⟩ = some (.slice U (x.units.length + 1) c) := hkw9.cell 7
  have r7 : w9.cell? ⟨rb, 7, none⟩ = some (.slice none 0 0) := hkr9.cell 7
  have j7 := hkr9.frozen 7
  have q8 : w9.cell? ⟨wb, 8, none⟩ = some (.slice s1.queue.A x.queue.length s1.queue.c) := hkw9.cell 8
  have r8 : w9.cell? ⟨rb, 8, none⟩ = some (.slice none 0 0) := hkr9.cell 8
  have j8 := hkr9.frozen 8
  have qll := hkw9.lt
  have rll := hkr9.lt
  have nwr : wb ≠ rb := fun e => hnrw.out e.symm
  have hwbr : w.heap.size ≤ rb := by have := hwr1.out; omega
  have hzB : Blk (((((((((w9.setCell ⟨rb, 0, none⟩ (.int .i64 x.turn)).setCell ⟨rb, 1, none⟩ (.int .i64 (x.next + 1))).setCell ⟨rb, 2, none⟩ (.int .i64 x.field.wide)).setCell ⟨rb, 3, none⟩ (.int .i64 x.field.high)).setCell ⟨rb, 4, none⟩ (.slice s1.field.ground.A x.field.ground.length s1.field.ground.c)).setCell ⟨rb, 5, none⟩ (.slice s1.field.ore.A x.field.ore.length s1.field.ore.c)).setCell ⟨rb, 6, none⟩ (.slice s1.gold.A x.gold.length s1.gold.c)).setCell ⟨rb, 7, none⟩ (.slice U (x.units.length + 1) c)).setCell ⟨rb, 8, none⟩ (.slice s1.queue.A x.queue.length s1.queue.c)) rb 55 #[.int .i64 x.turn, .int .i64 (x.next + 1), .int .i64 x.field.wide, .int .i64 x.field.high, .slice s1.field.ground.A x.field.ground.length s1.field.ground.c, .slice s1.field.ore.A x.field.ore.length s1.field.ore.c, .slice s1.gold.A x.gold.length s1.gold.c, .slice U (x.units.length + 1) c, .slice s1.queue.A x.queue.length s1.queue.c] := by
    have h := (((((((((hkr9.set_ 0 (.int .i64 x.turn)).set_ 1 (.int .i64 (x.next + 1))).set_ 2 (.int .i64 x.field.wide)).set_ 3 (.int .i64 x.field.high)).set_ 4 (.slice s1.field.ground.A x.field.ground.length s1.field.ground.c)).set_ 5 (.slice s1.field.ore.A x.field.ore.length s1.field.ore.c)).set_ 6 (.slice s1.gold.A x.gold.length s1.gold.c)).set_ 7 (.slice U (x.units.length + 1) c)).set_ 8 (.slice s1.queue.A x.queue.length s1.queue.c))
    simp only [List.setIfInBounds_toArray, List.set_cons_zero, List.set_cons_succ] at h
    exact h
  have hbB : Below w.heap.size w (((((((((w9.setCell ⟨rb, 0, none⟩ (.int .i64 x.turn)).setCell ⟨rb, 1, none⟩ (.int .i64 (x.next + 1))).setCell ⟨rb, 2, none⟩ (.int .i64 x.field.wide)).setCell ⟨rb, 3, none⟩ (.int .i64 x.field.high)).setCell ⟨rb, 4, none⟩ (.slice s1.field.ground.A x.field.ground.length s1.field.ground.c)).setCell ⟨rb, 5, none⟩ (.slice s1.field.ore.A x.field.ore.length s1.field.ore.c)).setCell ⟨rb, 6, none⟩ (.slice s1.gold.A x.gold.length s1.gold.c)).setCell ⟨rb, 7, none⟩ (.slice U (x.units.length + 1) c)).setCell ⟨rb, 8, none⟩ (.slice s1.queue.A x.queue.length s1.queue.c)) := (((((((((hbe.setCell (p := ⟨rb, 0, none⟩) hwbr (.int .i64 x.turn)).setCell (p := ⟨rb, 1, none⟩) hwbr (.int .i64 (x.next + 1))).setCell (p := ⟨rb, 2, none⟩) hwbr (.int .i64 x.field.wide)).setCell (p := ⟨rb, 3, none⟩) hwbr (.int .i64 x.field.high)).setCell (p := ⟨rb, 4, none⟩) hwbr (.slice s1.field.ground.A x.field.ground.length s1.field.ground.c)).setCell (p := ⟨rb, 5, none⟩) hwbr (.slice s1.field.ore.A x.field.ore.length s1.field.ore.c)).setCell (p := ⟨rb, 6, none⟩) hwbr (.slice s1.gold.A x.gold.length s1.gold.c)).setCell (p := ⟨rb, 7, none⟩) hwbr (.slice U (x.units.length + 1) c)).setCell (p := ⟨rb, 8, none⟩) hwbr (.slice s1.queue.A x.queue.length s1.queue.c))
  have hOB : WOwn (((((((((w9.setCell ⟨rb, 0, none⟩ (.int .i64 x.turn)).setCell ⟨rb, 1, none⟩ (.int .i64 (x.next + 1))).setCell ⟨rb, 2, none⟩ (.int .i64 x.field.wide)).setCell ⟨rb, 3, none⟩ (.int .i64 x.field.high)).setCell ⟨rb, 4, none⟩ (.slice s1.field.ground.A x.field.ground.length s1.field.ground.c)).setCell ⟨rb, 5, none⟩ (.slice s1.field.ore.A x.field.ore.length s1.field.ore.c)).setCell ⟨rb, 6, none⟩ (.slice s1.gold.A x.gold.length s1.gold.c)).setCell ⟨rb, 7, none⟩ (.slice U (x.units.length + 1) c)).setCell ⟨rb, 8, none⟩ (.slice s1.queue.A x.queue.length s1.queue.c)) (rb + 1) _ (addX L x p kd (sp : Int)) := (WOwn.farW (b := rb) (i := 8) (u := .slice s1.queue.A x.queue.length s1.queue.c) (WOwn.farW (b := rb) (i := 7) (u := .slice U (x.units.length + 1) c) (WOwn.farW (b := rb) (i := 6) (u := .slice s1.gold.A x.gold.length s1.gold.c) (WOwn.farW (b := rb) (i := 5) (u := .slice s1.field.ore.A x.field.ore.length s1.field.ore.c) (WOwn.farW (b := rb) (i := 4) (u := .slice s1.field.ground.A x.field.ground.length s1.field.ground.c) (WOwn.farW (b := rb) (i := 3) (u := .int .i64 x.field.high) (WOwn.farW (b := rb) (i := 2) (u := .int .i64 x.field.wide) (WOwn.farW (b := rb) (i := 1) (u := .int .i64 (x.next + 1)) (WOwn.farW (b := rb) (i := 0) (u := .int .i64 x.turn) hO9 (Nat.lt_succ_self _)) (Nat.lt_succ_self _)) (Nat.lt_succ_self _)) (Nat.lt_succ_self _)) (Nat.lt_succ_self _)) (Nat.lt_succ_self _)) (Nat.lt_succ_self _)) (Nat.lt_succ_self _)) (Nat.lt_succ_self _))
  replace hzB := Lib.hid hzB
  replace hbB := Lib.hid hbB
  replace hOB := Lib.hid hOB
  clear hkw9 hkr9 hbe hO9
  go_wp2_with fail
  refine bodyPost_ret (results_ct rfl _ _ rb _ #[.int .i64 x.turn, .int .i64 (x.next + 1), .int .i64 x.field.wide, .int .i64 x.field.high, .slice s1.field.ground.A x.field.ground.length s1.field.ground.c, .slice s1.field.ore.A x.field.ore.length s1.field.ore.c, .slice s1.gold.A x.gold.length s1.gold.c, .slice U (x.units.length + 1) c, .slice s1.queue.A x.queue.length s1.queue.c] _ rfl hzB.out Tryd.underlying55 rfl (by kernel_rfl)) rfl ?_
  have ex : (addX L x p kd (sp : Int)).units.length = x.units.length + 1 := by unfold addX; simp
  refine ⟨⟨s1.field, s1.gold, ⟨U, c⟩, s1.queue⟩, ?_, hOB.out.base (by have := hwr1.out; have := hwsz.out; omega), hbB.out⟩
  unfold wA
  rw [ex]
  rfl
end Go.Proofs.YtkgkpggfoieioaaDoor
