import Derived.Test.YtkgkpggfoieioaaDoorPathT
import Derived.Test.YtkgkpggfoieioaaDoorMrgf
import Derived.Test.YtkgkpggfoieioaaDoorPlainSpot
import Derived.Deep.CutBlock
import Derived.Deep.DeepCutAuto
namespace Go.Proofs.YtkgkpggfoieioaaDoor
set_option linter.unusedVariables false
open Go.RowKit
/-! works.spot, works.Spot. -/
/-- A world in a box, and kinds. -/
structure SBx (w0 w : World) (sK : SL) (L : List GK) (s : SW) (x : GW) (wb : Nat) : Prop where
  b : Below w0.heap.size w0 w
  kw : Blk w wb 55 #[.int .i64 x.turn, .int .i64 x.next, .int .i64 x.field.wide, .int .i64 x.field.high, .slice s.field.ground.A x.field.ground.length s.field.ground.c, .slice s.field.ore.A x.field.ore.length s.field.ore.c, .slice s.gold.A x.gold.length s.gold.c, .slice s.units.A x.units.length s.units.c, .slice s.queue.A x.queue.length s.queue.c]
  ks : KS w0 w0.heap.size sK L
  wo : WOk w0 s x
section
variable {w0 w w' : World} {sK : SL} {L : List GK} {s : SW} {x : GW} {wb : Nat}
theorem SBx.below (h : SBx w0 w sK L s x wb) (hb : Below w.heap.size w w') : SBx w0 w' sK L s x wb := ⟨h.b.trans (hb.mono h.b.size), h.kw.below hb h.kw.lt, h.ks, h.wo⟩
theorem SBx.alloc (h : SBx w0 w sK L s x wb) (o : Obj) : SBx w0 (w.alloc o) sK L s x wb := h.below ((Below.refl _ _).alloc (Nat.le_refl _) o)
theorem SBx.drewN (h : SBx w0 w sK L s x wb) (n : Nat) : SBx w0 (w.drewN n) sK L s x wb := h.below ⟨rfl, rfl, rfl, Nat.le_refl _, fun _ _ => rfl⟩
theorem SBx.ks_ (h : SBx w0 w sK L s x wb) : KS w w.heap.size sK L := (h.ks.below h.b).more h.b.size
theorem SBx.wo_ (h : SBx w0 w sK L s x wb) : WOk w s x := h.wo.below h.b
theorem SBx.cells (h : SBx w0 w sK L s x wb) : w.cell? ⟨wb, 0, none⟩ = some (.int .i64 x.turn) ∧ w.cell? ⟨wb, 1, none⟩ = some (.int .i64 x.next) ∧ w.cell? ⟨wb, 2, none⟩ = some (.int .i64 x.field.wide) ∧ w.cell? ⟨wb, 3, none⟩ = some (.int .i64 x.field.high) ∧ w.cell? ⟨wb, 4, none⟩ = some (.slice s.field.ground.A x.field.ground.length s.field.ground.c) ∧ w.cell? ⟨wb, 5, none⟩ = some (.slice s.field.ore.A x.field.ore.length s.field.ore.c) ∧ w.cell? ⟨wb, 6, none⟩ = some (.slice s.gold.A x.gold.length s.gold.c) ∧ w.cell? ⟨wb, 7, none⟩ = some (.slice s.units.A x.units.length s.units.c) ∧ w.cell? ⟨wb, 8, none⟩ = some (.slice s.queue.A x.queue.length s.queue.c) ∧ wb < w.heap.size := ⟨h.kw.cell 0, h.kw.cell 1, h.kw.cell 2, h.kw.cell 3, h.kw.cell 4, h.kw.cell 5, h.kw.cell 6, h.kw.cell 7, h.kw.cell 8, h.kw.lt⟩
theorem SBx.flies {bk okk sc : Nat} (h : SBx w0 w ⟨some ⟨bk, okk, none⟩, sc⟩ L s x wb) (kd : Nat) (hkd : kd < L.length) : w.cell? ⟨bk, okk + kd * 11 + 9, none⟩ = some (.bool (gk L kd).flies) := by
  obtain ⟨b', o', hA', _, _, _, _, _, _, _, _, _, _, k9, _⟩ := rk_at h.ks_.rd kd hkd
  dsimp only at hA'
  injection hA' with hA'
  injection hA' with e3 e4
  subst e3; subst e4
  exact k9
end
theorem sbx_start (w : World) (sK : SL) (L : List GK) (s : SW) (x : GW) (hK : KS w w.heap.size sK L) (hW : WOk w s x) : SBx w (w.alloc (.cells #[.int .i64 x.turn, .int .i64 x.next, .int .i64 x.field.wide, .int .i64 x.field.high, .slice s.field.ground.A x.field.ground.length s.field.ground.c, .slice s.field.ore.A x.field.ore.length s.field.ore.c, .slice s.gold.A x.gold.length s.gold.c, .slice s.units.A x.units.length s.units.c, .slice s.queue.A x.queue.length s.queue.c] 55)) sK L s x w.heap.size := ⟨(Below.refl _ _).alloc (Nat.le_refl _) _, Blk.new _ _ _, hK, hW⟩
set_option maxHeartbeats 6400000 in
set_option maxRecDepth 100000 in
theorem spot_any (sK : SL) (L : List GK) (s : SW) (x : GW) (a kd : Nat) (w : World) (hK : KS w w.heap.size sK L) (hW : WOk w s x) (hg : Good x.field) (ha : a < x.field.ground.length) (hkd : kd < L.length) :
    Calls Tryd.prog 96 #[.slice sK.A L.length sK.c, .agg #[.int .i64 x.turn, .int .i64 x.next, .int .i64 x.field.wide, .int .i64 x.field.high, .slice s.field.ground.A x.field.ground.length s.field.ground.c, .slice s.field.ore.A x.field.ore.length s.field.ore.c, .slice s.gold.A x.gold.length s.gold.c, .slice s.units.A x.units.length s.units.c, .slice s.queue.A x.queue.length s.queue.c], .int .i64 (a : Int), .int .i64 (kd : Int)] w fun e w' => ∃ fr, DFrom x.field (gk L kd).flies a fr ∧ e = .returned (.int .i64 (spN fr x.units x.field.ground.length).1) ∧ Below w.heap.size w w' := by
  have hgl : x.field.ground.length ≤ 144 := by have := hg.len; omega
  replace hg := Lib.hid hg
  obtain ⟨kf, hkf⟩ : ∃ kf, (gk L kd).flies = kf := ⟨_, rfl⟩
  rw [hkf]
  replace hkf := Lib.hid hkf
  have hB : SBx w (w.alloc (.cells #[.int .i64 x.turn, .int .i64 x.next, .int .i64 x.field.wide, .int .i64 x.field.high, .slice s.field.ground.A x.field.ground.length s.field.ground.c, .slice s.field.ore.A x.field.ore.length s.field.ore.c, .slice s.gold.A x.gold.length s.gold.c, .slice s.units.A x.units.length s.units.c, .slice s.queue.A x.queue.length s.queue.c] 55)) sK L s x w.heap.size := sbx_start w sK L s x hK hW
  obtain ⟨sA, sc⟩ := sK
  dsimp only
  have hcap := hK.cap
  have hmx := hK.max
  have hul := hW.ulen
  dsimp only at hcap hmx
  replace hB := Lib.hid hB
  clear hK hW
  go_enter Tryd.func96, Tryd.ntmps96
  go_upto_region 1 with fail
  generalize (w.alloc (.cells #[.int .i64 x.turn, .int .i64 x.next, .int .i64 x.field.wide, .int .i64 x.field.high, .slice s.field.ground.A x.field.ground.length s.field.ground.c, .slice s.field.ore.A x.field.ore.length s.field.ore.c, .slice s.gold.A x.gold.length s.gold.c, .slice s.units.A x.units.length s.units.c, .slice s.queue.A x.queue.length s.queue.c] 55)) = W at *
  obtain ⟨wb, hwb⟩ : ∃ wb, w.heap.size = wb := ⟨_, rfl⟩
  rw [hwb] at hB
  rw [hwb]
  replace hB : SBx w W ⟨sA, sc⟩ L s x wb := hB.out
  replace hB := Lib.hid hB
  replace hwb := Lib.hid hwb
  obtain ⟨bk, okk, hAk, _, _, _⟩ := rk_at hB.out.ks_.rd kd hkd
  dsimp only at hAk
  subst hAk
  have hkdi : (kd : Int) < (L.length : Int) := by omega
  have hS : ∀ wz, (SBx w wz ⟨some ⟨bk, okk, none⟩, sc⟩ L s x wb) → (fun wz => wz.cell? ⟨wb, 2, none⟩ = some (.int .i64 x.field.wide) ∧ wz.cell? ⟨wb, 3, none⟩ = some (.int .i64 x.field.high) ∧ wz.cell? ⟨wb, 4, none⟩ = some (.slice s.field.ground.A x.field.ground.length s.field.ground.c) ∧ wz.cell? ⟨wb, 5, none⟩ = some (.slice s.field.ore.A x.field.ore.length s.field.ore.c) ∧ wz.cell? ⟨bk, okk + kd * 11 + 9, none⟩ = some (.bool kf)) wz := fun wz h => by
    obtain ⟨_, _, m2, m3, m4, m5, _, _, _, _⟩ := h.cells
    have k9 := h.flies kd hkd
    rw [hkf.out] at k9
    exact ⟨m2, m3, m4, m5, k9⟩
  replace hS := Lib.hid hS
  go_upto_region 2 with fail
  have hXn : SBx w W.drew ⟨some ⟨bk, okk, none⟩, sc⟩ L s x wb := hB.out.drewN 1
  clear hB
  have hB := Lib.hid hXn
  clear hXn
  have hfr : Calls Tryd.prog 128 #[.agg #[.int .i64 x.field.wide, .int .i64 x.field.high, .slice s.field.ground.A x.field.ground.length s.field.ground.c, .slice s.field.ore.A x.field.ore.length s.field.ore.c], .int .i64 (a : Int), .bool kf] W.drew (SprPost W.drew x.field a (costFrom x.field kf)) := from_any s.field x.field a kf W.drew hB.out.wo_.2.2.1 hg.out ha
  replace hfr := Lib.hid hfr
  refine wp_region_noPanic ?_
  refine wp_region_held_drew (S := (fun wz => wz.cell? ⟨wb, 2, none⟩ = some (.int .i64 x.field.wide) ∧ wz.cell? ⟨wb, 3, none⟩ = some (.int .i64 x.field.high) ∧ wz.cell? ⟨wb, 4, none⟩ = some (.slice s.field.ground.A x.field.ground.length s.field.ground.c) ∧ wz.cell? ⟨wb, 5, none⟩ = some (.slice s.field.ore.A x.field.ore.length s.field.ore.c) ∧ wz.cell? ⟨bk, okk + kd * 11 + 9, none⟩ = some (.bool kf))) (by kernel_rfl) (hS.out _ hB.out) (fun hHeld => ?_)
  generalize W.drew = Wd at *
  refine wpAnyH_take (i := 0) (oi := _) (v := ?_) rfl (by kernel_rfl) (by kernel_rfl) (by kernel_rfl) (fun _ _ _ h => h) (Or.inl ⟨by rfl, ?_⟩) (by assumption) ?_
  rotate_left
  · intro w' hSw
    try dsimp only at hSw
    first | (go_simp; done) | (go_simp; with_reducible rfl)
  try simp only [Act.put]
  try simp only [List.setIfInBounds_toArray]
  try simp only [List.set_cons_succ, List.set_cons_zero]
  try simp only [List.getElem_toArray]
  try simp only [List.getElem_cons_succ]
  try simp only [List.getElem_cons_zero]
  refine wpAnyH_take (i := 1) (oi := _) (v := ?_) rfl (by kernel_rfl) (by kernel_rfl) (by kernel_rfl) (fun _ _ _ h => h) (Or.inl ⟨by rfl, ?_⟩) (by assumption) ?_
  rotate_left
  · intro w' hSw
    try dsimp only at hSw
    first | (go_simp; done) | (go_simp; with_reducible rfl)
  try simp only [Act.put]
  try simp only [List.setIfInBounds_toArray]
  try simp only [List.set_cons_succ, List.set_cons_zero]
  try simp only [List.getElem_toArray]
  try simp only [List.getElem_cons_succ]
  try simp only [List.getElem_cons_zero]
  refine wpAnyH_take (i := 2) (oi := _) (v := ?_) rfl (by kernel_rfl) (by kernel_rfl) (by kernel_rfl) (fun _ _ _ h => h) (Or.inl ⟨by rfl, ?_⟩) (by assumption) ?_
  rotate_left
  · intro w' hSw
    try dsimp only at hSw
    first | (go_simp; done) | (go_simp; with_reducible rfl)
  try simp only [Act.put]
  try simp only [List.setIfInBounds_toArray]
  try simp only [List.set_cons_succ, List.set_cons_zero]
  try simp only [List.getElem_toArray]
  try simp only [List.getElem_cons_succ]
  try simp only [List.getElem_cons_zero]
  refine wpAnyH_take (i := 3) (oi := _) (v := ?_) rfl (by kernel_rfl) (by kernel_rfl) (by kernel_rfl) (fun _ _ _ h => h) (Or.inl ⟨by rfl, ?_⟩) (by assumption) ?_
  rotate_left
  · intro w' hSw
    try dsimp only at hSw
    first | (go_simp; done) | (go_simp; with_reducible rfl)
  try simp only [Act.put]
  try simp only [List.setIfInBounds_toArray]
  try simp only [List.set_cons_succ, List.set_cons_zero]
  try simp only [List.getElem_toArray]
  try simp only [List.getElem_cons_succ]
  try simp only [List.getElem_cons_zero]
  refine wpAnyH_take (i := 4) (oi := _) (v := ?_) rfl (by kernel_rfl) (by kernel_rfl) (by kernel_rfl) (fun _ _ _ h => h) (Or.inl ⟨by rfl, ?_⟩) (by assumption) ?_
  rotate_left
  · intro w' hSw
    try dsimp only at hSw
    first | (go_simp; done) | (go_simp; with_reducible rfl)
  try simp only [Act.put]
  try simp only [List.setIfInBounds_toArray]
  try simp only [List.set_cons_succ, List.set_cons_zero]
  try simp only [List.getElem_toArray]
  try simp only [List.getElem_cons_succ]
  try simp only [List.getElem_cons_zero]
  refine wpAnyH_take (i := 5) (oi := _) (v := ?_) rfl (by kernel_rfl) (by kernel_rfl) (by kernel_rfl) (fun _ _ _ h => h) (Or.inl ⟨by rfl, ?_⟩) (by assumption) ?_
  rotate_left
  · intro w' hSw
    try dsimp only at hSw
    first | (go_simp; done) | (go_simp; with_reducible rfl)
  try simp only [Act.put]
  try simp only [List.setIfInBounds_toArray]
  try simp only [List.set_cons_succ, List.set_cons_zero]
  try simp only [List.getElem_toArray]
  try simp only [List.getElem_cons_succ]
  try simp only [List.getElem_cons_zero]
  refine wpAnyH_take (i := 6) (oi := _) (v := ?_) rfl (by kernel_rfl) (by kernel_rfl) (by kernel_rfl) (fun _ _ _ h => h) (Or.inl ⟨by rfl, ?_⟩) (by assumption) ?_
  rotate_left
  · intro w' hSw
    try dsimp only at hSw
    first | (go_simp; done) | (go_simp; with_reducible rfl)
  try simp only [Act.put]
  try simp only [List.setIfInBounds_toArray]
  try simp only [List.set_cons_succ, List.set_cons_zero]
  try simp only [List.getElem_toArray]
  try simp only [List.getElem_cons_succ]
  try simp only [List.getElem_cons_zero]
  refine wpAnyH_take (i := 7) (oi := _) (v := ?_) rfl (by kernel_rfl) (by kernel_rfl) (by kernel_rfl) (fun _ _ _ h => h) (Or.inl ⟨by rfl, ?_⟩) (by assumption) ?_
  rotate_left
  · intro w' hSw
    try dsimp only at hSw
    first | (go_simp; done) | (go_simp; with_reducible rfl)
  try simp only [Act.put]
  try simp only [List.setIfInBounds_toArray]
  try simp only [List.set_cons_succ, List.set_cons_zero]
  try simp only [List.getElem_toArray]
  try simp only [List.getElem_cons_succ]
  try simp only [List.getElem_cons_zero]
  refine wpAnyH_take (i := 10) (oi := _) (v := ?_) rfl (by kernel_rfl) (by kernel_rfl) (by kernel_rfl) (fun _ _ _ h => h) (Or.inl ⟨by rfl, ?_⟩) (by assumption) ?_
  rotate_left
  · intro w' hSw
    try dsimp only at hSw
    first | (go_simp; done) | (go_simp; with_reducible rfl)
  try simp only [Act.put]
  try simp only [List.setIfInBounds_toArray]
  try simp only [List.set_cons_succ, List.set_cons_zero]
  try simp only [List.getElem_toArray]
  try simp only [List.getElem_cons_succ]
  try simp only [List.getElem_cons_zero]
  refine wpAnyH_ready (rs := [8]) (by kernel_rfl) (by simp) ?_
  refine AllReadyH.cons (o := { dst := some 21, op := .call { callee := .value (.func 128), args := #[.tmp 14, .tmp 15, .tmp 20], argTypes := #[52, 3, 4] }, type := _, pos := _, after := _, guard := none }) rfl (fun K hK => ?_) AllReadyH.nil
  go_simp
  refine hfr.out.mono ?_
  rintro e W2 ⟨g, fr, rfl, hd, hgg, hkg, hb⟩
  have hBn := hB.out.below hb
  clear hB hHeld hb hfr
  have hB := Lib.hid hBn
  clear hBn
  replace hd := Lib.hid hd
  replace hkg := Lib.hid hkg
  refine hK.out _ _ (hS.out _ hB.out) (fun hHeld => ?_)
  clear hK K
  try simp only [Act.put]
  try simp only [List.setIfInBounds_toArray]
  try simp only [List.set_cons_succ, List.set_cons_zero]
  try simp only [List.getElem_toArray]
  try simp only [List.getElem_cons_succ]
  try simp only [List.getElem_cons_zero]
  refine wpAnyH_take (i := 9) (oi := _) (v := ?_) rfl (by kernel_rfl) (by kernel_rfl) (by kernel_rfl) (fun _ _ _ h => h) (Or.inl ⟨by rfl, ?_⟩) (by assumption) ?_
  rotate_left
  · intro w' hSw
    try dsimp only at hSw
    first | (go_simp; done) | (go_simp; with_reducible rfl)
  try simp only [Act.put]
  try simp only [List.setIfInBounds_toArray]
  try simp only [List.set_cons_succ, List.set_cons_zero]
  try simp only [List.getElem_toArray]
  try simp only [List.getElem_cons_succ]
  try simp only [List.getElem_cons_zero]
  refine wpAnyH_done (by kernel_rfl) ?_ _
  refine NoPanic.normal ?_
  clear hHeld hS
  try dsimp only [List.set]
  have hlf : fr.length = x.field.ground.length := hd.out.len
  replace hlf := Lib.hid hlf
  go_wp2_with fail
  go_loopw [9, 10, 23] (fun v9 v10 v23 wr => ∃ k : Nat, v23 = .int .i64 k ∧ k ≤ x.field.ground.length ∧ v9 = .int .i64 (spN fr x.units k).1 ∧ v10 = .int .i64 (spN fr x.units k).2 ∧ Hid (SBx w wr ⟨some ⟨bk, okk, none⟩, sc⟩ L s x wb) ∧ Hid (Blk wr g 3 (arrI fr))) (fun _ _ v23 _ => x.field.ground.length - (intOf v23).toNat)
  case atStart => exact ⟨0, rfl, Nat.zero_le _, rfl, rfl, hB, hkg⟩
  case round =>
    clear hB hkg
    obtain ⟨k, rfl, hk, rfl, rfl, hB, hkg⟩ := hrel
    by_cases hlt : k < x.field.ground.length
    · as_aux_lemma =>
      have z1 : (k : Int) < (x.field.ground.length : Int) := by omega
      have hc := hkg.out.atI k (by rw [hlf.out]; exact hlt)
      have hyes := @spN_yes fr x.units k
      have hno := @spN_no fr x.units k
      have hoc : Calls Tryd.prog 76 #[.agg #[.int .i64 x.turn, .int .i64 x.next, .int .i64 x.field.wide, .int .i64 x.field.high, .slice s.field.ground.A x.field.ground.length s.field.ground.c, .slice s.field.ore.A x.field.ore.length s.field.ore.c, .slice s.gold.A x.gold.length s.gold.c, .slice s.units.A x.units.length s.units.c, .slice s.queue.A x.queue.length s.queue.c], .int .i64 (k : Int)] wr fun e w' => e = .returned (.int .i64 (onI x.units (k : Int))) ∧ Below wr.heap.size wr w' := on_any s x (k : Int) wr hB.out.wo_
      generalize onI x.units (k : Int) = oi at *
      generalize at0 fr k = d at *
      obtain ⟨bl, hbl⟩ : ∃ bl, spN fr x.units k = bl := ⟨_, rfl⟩
      rw [hbl] at hyes hno ⊢
      obtain ⟨be, le⟩ := bl
      dsimp only at hyes hno ⊢
      clear hbl
      by_cases h0 : 0 ≤ d
      · by_cases h1 : d < le
        · have d0 : decide (0 ≤ d) = true := decide_eq_true h0
          have d1 : decide (d < le) = true := decide_eq_true h1
          by_cases h2 : oi < 0
          · have hs := Lib.hid (hyes ⟨h0, h1, h2⟩)
            have d2 : decide (oi < 0) = true := decide_eq_true h2
            clear hyes hno
            replace hoc := Lib.hid hoc
            obtain ⟨m0, m1, m2, m3, m4, m5, m6, m7, m8, mll⟩ := hB.out.cells
            go_wp2_with (go_at_call 76; refine hoc.out.mono ?_; clear m0 m1 m2 m3 m4 m5 m6 m7 m8 mll; rintro e w3 ⟨rfl, hb⟩)
            go_roundw
            case rel => exact ⟨k + 1, by go_num, by omega, by rw [hs.out], by rw [hs.out], Lib.hid (hB.out.below hb), Lib.hid (hkg.out.below hb hkg.out.lt)⟩
            case measure => simp [intOf]; omega
          · have hs := Lib.hid (hno (fun c => h2 c.2.2))
            have d2 : decide (oi < 0) = false := decide_eq_false h2
            clear hyes hno
            replace hoc := Lib.hid hoc
            obtain ⟨m0, m1, m2, m3, m4, m5, m6, m7, m8, mll⟩ := hB.out.cells
            go_wp2_with (go_at_call 76; refine hoc.out.mono ?_; clear m0 m1 m2 m3 m4 m5 m6 m7 m8 mll; rintro e w3 ⟨rfl, hb⟩)
            go_roundw
            case rel => exact ⟨k + 1, by go_num, by omega, by rw [hs.out], by rw [hs.out], Lib.hid (hB.out.below hb), Lib.hid (hkg.out.below hb hkg.out.lt)⟩
            case measure => simp [intOf]; omega
        · have hs := Lib.hid (hno (fun c => h1 c.2.1))
          have d0 : decide (0 ≤ d) = true := decide_eq_true h0
          have d1 : decide (d < le) = false := decide_eq_false h1
          clear hyes hno hoc
          go_wp2_with fail
          go_roundw
          case rel => exact ⟨k + 1, by go_num, by omega, by rw [hs.out], by rw [hs.out], hB, hkg⟩
          case measure => simp [intOf]; omega
      · have hs := Lib.hid (hno (fun c => h0 c.1))
        have d0 : decide (0 ≤ d) = false := decide_eq_false h0
        clear hyes hno hoc
        go_wp2_with fail
        go_roundw
        case rel => exact ⟨k + 1, by go_num, by omega, by rw [hs.out], by rw [hs.out], hB, hkg⟩
        case measure => simp [intOf]; omega
    · have z1 : ¬ (k : Int) < (x.field.ground.length : Int) := by omega
      obtain rfl : k = x.field.ground.length := by omega
      go_wp2_with fail
      go_ret
      exact ⟨fr, hd.out, rfl, hB.out.b⟩
set_option maxHeartbeats 6400000 in
set_option maxRecDepth 100000 in
theorem wspot_no (sK : SL) (L : List GK) (s : SW) (x : GW) (id k : Int) (w : World) (hK : KS w w.heap.size sK L) (hW : WOk w s x) (h : worldE L x ≠ 0 ∨ findId x.units id < 0 ∨ k < 0 ∨ (L.length : Int) ≤ k) :
    Calls Tryd.prog 40 #[.slice sK.A L.length sK.c, .agg #[.int .i64 x.turn, .int .i64 x.next, .int .i64 x.field.wide, .int .i64 x.field.high, .slice s.field.ground.A x.field.ground.length s.field.ground.c, .slice s.field.ore.A x.field.ore.length s.field.ore.c, .slice s.gold.A x.gold.length s.gold.c, .slice s.units.A x.units.length s.units.c, .slice s.queue.A x.queue.length s.queue.c], .int .i64 id, .int .i64 k] w fun e w' => (∃ E, e = .returned (.tuple #[.int .i64 0, .iface 93 (.int .i64 E)])) ∧ Below w.heap.size w w' := by
  have hB : SBx w (w.alloc (.cells #[.int .i64 x.turn, .int .i64 x.next, .int .i64 x.field.wide, .int .i64 x.field.high, .slice s.field.ground.A x.field.ground.length s.field.ground.c, .slice s.field.ore.A x.field.ore.length s.field.ore.c, .slice s.gold.A x.gold.length s.gold.c, .slice s.units.A x.units.length s.units.c, .slice s.queue.A x.queue.length s.queue.c] 55)) sK L s x w.heap.size := sbx_start w sK L s x hK hW
  obtain ⟨sA, sc⟩ := sK
  dsimp only
  have hcap := hK.cap
  have hmx := hK.max
  have hul := hW.ulen
  dsimp only at hcap hmx
  replace hB := Lib.hid hB
  clear hK hW
  go_enter Tryd.func40, Tryd.ntmps40
  go_upto_region 1 with fail
  generalize (w.alloc (.cells #[.int .i64 x.turn, .int .i64 x.next, .int .i64 x.field.wide, .int .i64 x.field.high, .slice s.field.ground.A x.field.ground.length s.field.ground.c, .slice s.field.ore.A x.field.ore.length s.field.ore.c, .slice s.gold.A x.gold.length s.gold.c, .slice s.units.A x.units.length s.units.c, .slice s.queue.A x.queue.length s.queue.c] 55)) = W at *
  obtain ⟨wb, hwb⟩ : ∃ wb, w.heap.size = wb := ⟨_, rfl⟩
  rw [hwb] at hB
  rw [hwb]
  replace hB : SBx w W ⟨sA, sc⟩ L s x wb := hB.out
  replace hB := Lib.hid hB
  replace hwb := Lib.hid hwb
  have hc : Calls Tryd.prog 28 #[.slice sA L.length sc, .agg #[.int .i64 x.turn, .int .i64 x.next, .int .i64 x.field.wide, .int .i64 x.field.high, .slice s.field.ground.A x.field.ground.length s.field.ground.c, .slice s.field.ore.A x.field.ore.length s.field.ore.c, .slice s.gold.A x.gold.length s.gold.c, .slice s.units.A x.units.length s.units.c, .slice s.queue.A x.queue.length s.queue.c]] W fun e w' => e = .returned (errV (worldE L x)) ∧ Below W.heap.size W w' := wcheck_any ⟨sA, sc⟩ L s x W hB.out.ks_ hB.out.wo_
  by_cases z1 : worldE L x = 0
  case neg =>
    as_aux_lemma =>
    rw [errV_ne z1] at hc
    generalize worldE L x = E at *
    replace hc := Lib.hid hc
    replace z1 := Lib.hid z1
    replace h := Lib.hid h
    obtain ⟨m0, m1, m2, m3, m4, m5, m6, m7, m8, mll⟩ := hB.out.cells
    go_wp2_with fail
    refine hc.out.mono ?_
    clear m0 m1 m2 m3 m4 m5 m6 m7 m8 mll
    rintro e W2 ⟨rfl, hb⟩
    have hB2 := hB.out.below hb
    go_wp2_with fail
    go_ret2
    exact ⟨⟨E, rfl⟩, hB2.b⟩
  rw [z1] at hc
  replace hc : Calls Tryd.prog 28 #[.slice sA L.length sc, .agg #[.int .i64 x.turn, .int .i64 x.next, .int .i64 x.field.wide, .int .i64 x.field.high, .slice s.field.ground.A x.field.ground.length s.field.ground.c, .slice s.field.ore.A x.field.ore.length s.field.ore.c, .slice s.gold.A x.gold.length s.gold.c, .slice s.units.A x.units.length s.units.c, .slice s.queue.A x.queue.length s.queue.c]] W fun e w' => e = .returned .nilIface ∧ Below W.heap.size W w' := hc
  replace hc := Lib.hid hc
  replace h : findId x.units id < 0 ∨ k < 0 ∨ (L.length : Int) ≤ k := h.resolve_left (fun c => c z1)
  replace z1 := Lib.hid z1
  obtain ⟨m0, m1, m2, m3, m4, m5, m6, m7, m8, mll⟩ := hB.out.cells
  go_upto_region 4 with (go_at_call 28; refine hc.out.mono ?_; clear m0 m1 m2 m3 m4 m5 m6 m7 m8 mll; rintro e W2 ⟨rfl, hb⟩)
  clear hc
  replace hB := Lib.hid (hB.out.below hb)
  clear hb
  have hc : Calls Tryd.prog 29 #[.agg #[.int .i64 x.turn, .int .i64 x.next, .int .i64 x.field.wide, .int .i64 x.field.high, .slice s.field.ground.A x.field.ground.length s.field.ground.c, .slice s.field.ore.A x.field.ore.length s.field.ore.c, .slice s.gold.A x.gold.length s.gold.c, .slice s.units.A x.units.length s.units.c, .slice s.queue.A x.queue.length s.queue.c], .int .i64 id] W2 fun e w' => e = .returned (.int .i64 (findId x.units id)) ∧ Below W2.heap.size W2 w' := wfind_any s x id W2 hB.out.wo_
  replace hc := Lib.hid hc
  obtain ⟨m0, m1, m2, m3, m4, m5, m6, m7, m8, mll⟩ := hB.out.cells
  go_upto_region 5 with (go_at_call 29; refine hc.out.mono ?_; clear m0 m1 m2 m3 m4 m5 m6 m7 m8 mll; rintro e W3 ⟨rfl, hb⟩)
  clear hc
  have hbf := (hB.out.below hb).b
  clear hb
  generalize findId x.units id = fi at *
  by_cases h1 : fi < 0
  · have d1 : decide (fi < 0) = true := decide_eq_true h1
    clear h
    go_wp2_with fail
    go_ret2
    exact ⟨⟨6, rfl⟩, hbf⟩
  · have d1 : decide (fi < 0) = false := decide_eq_false h1
    by_cases h2 : k < 0
    · have d2 : decide (k < 0) = true := decide_eq_true h2
      clear h
      go_wp2_with fail
      go_ret2
      exact ⟨⟨1, rfl⟩, hbf⟩
    · have h3 : (L.length : Int) ≤ k := by omega
      have d2 : decide (k < 0) = false := decide_eq_false h2
      have d3 : decide ((L.length : Int) ≤ k) = true := decide_eq_true h3
      clear h
      go_wp2_with fail
      go_ret2
      exact ⟨⟨1, rfl⟩, hbf⟩
set_option maxHeartbeats 6400000 in
set_option maxRecDepth 100000 in
theorem wspot_ok (sK : SL) (L : List GK) (s : SW) (x : GW) (id : Int) (i kd : Nat) (w : World) (hK : KS w w.heap.size sK L) (hW : WOk w s x) (hok : WorldOk L x) (hi : i < x.units.length) (hf : findId x.units id = (i : Int)) (hkd : kd < L.length) :
    Calls Tryd.prog 40 #[.slice sK.A L.length sK.c, .agg #[.int .i64 x.turn, .int .i64 x.next, .int .i64 x.field.wide, .int .i64 x.field.high, .slice s.field.ground.A x.field.ground.length s.field.ground.c, .slice s.field.ore.A x.field.ore.length s.field.ore.c, .slice s.gold.A x.gold.length s.gold.c, .slice s.units.A x.units.length s.units.c, .slice s.queue.A x.queue.length s.queue.c], .int .i64 id, .int .i64 (kd : Int)] w fun e w' => ∃ fr, DFrom x.field (gk L kd).flies (gu x.units i).spot.toNat fr ∧ e = .returned (if 0 ≤ (spN fr x.units x.field.ground.length).1 then .tuple #[.int .i64 (spN fr x.units x.field.ground.length).1, .nilIface] else .tuple #[.int .i64 0, .iface 93 (.int .i64 6)]) ∧ Below w.heap.size w w' := by
  have hg := good_of x.field hok.field
  have hu := (unitE_ok (hok.units i hi)).spot
  have hwe := worldE_ok hok
  obtain ⟨a, hsa⟩ : ∃ a : Nat, (gu x.units i).spot = (a : Int) := ⟨(gu x.units i).spot.toNat, by omega⟩
  rw [hsa] at hu
  rw [hsa, Int.toNat_natCast]
  have ha : a < x.field.ground.length := by omega
  replace hok := Lib.hid hok
  replace hsa := Lib.hid hsa
  replace hu := Lib.hid hu
  replace hg := Lib.hid hg
  obtain ⟨kf, hkf⟩ : ∃ kf, (gk L kd).flies = kf := ⟨_, rfl⟩
  rw [hkf]
  replace hkf := Lib.hid hkf
  have hB : SBx w (w.alloc (.cells #[.int .i64 x.turn, .int .i64 x.next, .int .i64 x.field.wide, .int .i64 x.field.high, .slice s.field.ground.A x.field.ground.length s.field.ground.c, .slice s.field.ore.A x.field.ore.length s.field.ore.c, .slice s.gold.A x.gold.length s.gold.c, .slice s.units.A x.units.length s.units.c, .slice s.queue.A x.queue.length s.queue.c] 55)) sK L s x w.heap.size := sbx_start w sK L s x hK hW
  obtain ⟨sA, sc⟩ := sK
  dsimp only
  have hcap := hK.cap
  have hmx := hK.max
  have hul := hW.ulen
  dsimp only at hcap hmx
  replace hB := Lib.hid hB
  clear hK hW
  go_enter Tryd.func40, Tryd.ntmps40
  go_upto_region 1 with fail
  generalize (w.alloc (.cells #[.int .i64 x.turn, .int .i64 x.next, .int .i64 x.field.wide, .int .i64 x.field.high, .slice s.field.ground.A x.field.ground.length s.field.ground.c, .slice s.field.ore.A x.field.ore.length s.field.ore.c, .slice s.gold.A x.gold.length s.gold.c, .slice s.units.A x.units.length s.units.c, .slice s.queue.A x.queue.length s.queue.c] 55)) = W at *
  obtain ⟨wb, hwb⟩ : ∃ wb, w.heap.size = wb := ⟨_, rfl⟩
  rw [hwb] at hB
  rw [hwb]
  replace hB : SBx w W ⟨sA, sc⟩ L s x wb := hB.out
  replace hB := Lib.hid hB
  replace hwb := Lib.hid hwb
  obtain ⟨bk, okk, hAk, _, _, _⟩ := rk_at hB.out.ks_.rd kd hkd
  dsimp only at hAk
  subst hAk
  have hkdi : (kd : Int) < (L.length : Int) := by omega
  have hc : Calls Tryd.prog 28 #[(.slice (some ⟨bk, okk, none⟩) L.length sc), .agg #[.int .i64 x.turn, .int .i64 x.next, .int .i64 x.field.wide, .int .i64 x.field.high, .slice s.field.ground.A x.field.ground.length s.field.ground.c, .slice s.field.ore.A x.field.ore.length s.field.ore.c, .slice s.gold.A x.gold.length s.gold.c, .slice s.units.A x.units.length s.units.c, .slice s.queue.A x.queue.length s.queue.c]] W fun e w' => e = .returned (errV (worldE L x)) ∧ Below W.heap.size W w' := wcheck_any ⟨some ⟨bk, okk, none⟩, sc⟩ L s x W hB.out.ks_ hB.out.wo_
  rw [hwe] at hc
  replace hc : Calls Tryd.prog 28 #[.slice (some ⟨bk, okk, none⟩) L.length sc, .agg #[.int .i64 x.turn, .int .i64 x.next, .int .i64 x.field.wide, .int .i64 x.field.high, .slice s.field.ground.A x.field.ground.length s.field.ground.c, .slice s.field.ore.A x.field.ore.length s.field.ore.c, .slice s.gold.A x.gold.length s.gold.c, .slice s.units.A x.units.length s.units.c, .slice s.queue.A x.queue.length s.queue.c]] W fun e w' => e = .returned .nilIface ∧ Below W.heap.size W w' := hc
  replace hc := Lib.hid hc
  replace hwe := Lib.hid hwe
  obtain ⟨m0, m1, m2, m3, m4, m5, m6, m7, m8, mll⟩ := hB.out.cells
  go_upto_region 4 with (go_at_call 28; refine hc.out.mono ?_; clear m0 m1 m2 m3 m4 m5 m6 m7 m8 mll; rintro e W2 ⟨rfl, hb⟩)
  clear hc
  replace hB := Lib.hid (hB.out.below hb)
  clear hb
  have hc : Calls Tryd.prog 29 #[.agg #[.int .i64 x.turn, .int .i64 x.next, .int .i64 x.field.wide, .int .i64 x.field.high, .slice s.field.ground.A x.field.ground.length s.field.ground.c, .slice s.field.ore.A x.field.ore.length s.field.ore.c, .slice s.gold.A x.gold.length s.gold.c, .slice s.units.A x.units.length s.units.c, .slice s.queue.A x.queue.length s.queue.c], .int .i64 id] W2 fun e w' => e = .returned (.int .i64 (findId x.units id)) ∧ Below W2.heap.size W2 w' := wfind_any s x id W2 hB.out.wo_
  rw [hf] at hc
  replace hc := Lib.hid hc
  replace hf := Lib.hid hf
  obtain ⟨m0, m1, m2, m3, m4, m5, m6, m7, m8, mll⟩ := hB.out.cells
  go_upto_region 5 with (go_at_call 29; refine hc.out.mono ?_; clear m0 m1 m2 m3 m4 m5 m6 m7 m8 mll; rintro e W3 ⟨rfl, hb⟩)
  clear hc
  replace hB := Lib.hid (hB.out.below hb)
  clear hb
  have n1 : ¬ (i : Int) < 0 := by omega
  have n2 : ¬ (kd : Int) < 0 := by omega
  have n3 : ¬ (L.length : Int) ≤ (kd : Int) := by omega
  have hii : (i : Int) < (x.units.length : Int) := by omega
  go_upto_region 9 with fail
  obtain ⟨ub, uo, hUA, _, _, _, _, u3, _⟩ := ru_at hB.out.wo_.2.2.2.2.1.1 i hi
  rw [hsa.out] at u3
  have hXn : SBx w W3.drew ⟨some ⟨bk, okk, none⟩, sc⟩ L s x wb := hB.out.drewN 1
  clear hB
  have hB := Lib.hid hXn
  clear hXn
  have hsp := spot_any ⟨some ⟨bk, okk, none⟩, sc⟩ L s x a kd W3.drew hB.out.ks_ hB.out.wo_ hg.out ha hkd
  rw [hkf.out] at hsp
  replace hsp : Calls Tryd.prog 96 #[.slice (some ⟨bk, okk, none⟩) L.length sc, .agg #[.int .i64 x.turn, .int .i64 x.next, .int .i64 x.field.wide, .int .i64 x.field.high, .slice s.field.ground.A x.field.ground.length s.field.ground.c, .slice s.field.ore.A x.field.ore.length s.field.ore.c, .slice s.gold.A x.gold.length s.gold.c, .slice s.units.A x.units.length s.units.c, .slice s.queue.A x.queue.length s.queue.c], .int .i64 (a : Int), .int .i64 (kd : Int)] W3.drew fun e w' => ∃ fr, DFrom x.field kf a fr ∧ e = .returned (.int .i64 (spN fr x.units x.field.ground.length).1) ∧ Below W3.drew.heap.size W3.drew w' := hsp
  rw [hUA] at hsp
  replace hsp := Lib.hid hsp
  have hS : ∀ wz, (SBx w wz ⟨some ⟨bk, okk, none⟩, sc⟩ L s x wb) → (fun wz => wz.cell? ⟨wb, 0, none⟩ = some (.int .i64 x.turn) ∧ wz.cell? ⟨wb, 1, none⟩ = some (.int .i64 x.next) ∧ wz.cell? ⟨wb, 2, none⟩ = some (.int .i64 x.field.wide) ∧ wz.cell? ⟨wb, 3, none⟩ = some (.int .i64 x.field.high) ∧ wz.cell? ⟨wb, 4, none⟩ = some (.slice s.field.ground.A x.field.ground.length s.field.ground.c) ∧ wz.cell? ⟨wb, 5, none⟩ = some (.slice s.field.ore.A x.field.ore.length s.field.ore.c) ∧ wz.cell? ⟨wb, 6, none⟩ = some (.slice s.gold.A x.gold.length s.gold.c) ∧ wz.cell? ⟨wb, 7, none⟩ = some (.slice (some ⟨ub, uo, none⟩) x.units.length s.units.c) ∧ wz.cell? ⟨wb, 8, none⟩ = some (.slice s.queue.A x.queue.length s.queue.c) ∧ wz.cell? ⟨ub, uo + i * 8 + 3, none⟩ = some (.int .i64 (a : Int))) wz := fun wz h => by
    obtain ⟨m0, m1, m2, m3, m4, m5, m6, m7, m8, _⟩ := h.cells
    obtain ⟨ub', uo', hUA', _, _, _, _, u3', _⟩ := ru_at h.wo_.2.2.2.2.1.1 i hi
    rw [hUA] at hUA'
    injection hUA' with hA'
    injection hA' with e3 e4
    subst e3; subst e4
    rw [hsa.out] at u3'
    rw [hUA] at m7
    exact ⟨m0, m1, m2, m3, m4, m5, m6, m7, m8, u3'⟩
  have hSd := hS _ hB.out
  replace hS := Lib.hid hS
  have hUA2 := Lib.hid hUA
  clear u3
  refine wp_region_noPanic ?_
  refine wp_region_held_drew (S := (fun wz => wz.cell? ⟨wb, 0, none⟩ = some (.int .i64 x.turn) ∧ wz.cell? ⟨wb, 1, none⟩ = some (.int .i64 x.next) ∧ wz.cell? ⟨wb, 2, none⟩ = some (.int .i64 x.field.wide) ∧ wz.cell? ⟨wb, 3, none⟩ = some (.int .i64 x.field.high) ∧ wz.cell? ⟨wb, 4, none⟩ = some (.slice s.field.ground.A x.field.ground.length s.field.ground.c) ∧ wz.cell? ⟨wb, 5, none⟩ = some (.slice s.field.ore.A x.field.ore.length s.field.ore.c) ∧ wz.cell? ⟨wb, 6, none⟩ = some (.slice s.gold.A x.gold.length s.gold.c) ∧ wz.cell? ⟨wb, 7, none⟩ = some (.slice (some ⟨ub, uo, none⟩) x.units.length s.units.c) ∧ wz.cell? ⟨wb, 8, none⟩ = some (.slice s.queue.A x.queue.length s.queue.c) ∧ wz.cell? ⟨ub, uo + i * 8 + 3, none⟩ = some (.int .i64 (a : Int)))) (by kernel_rfl) hSd (fun hHeld => ?_)
  clear hSd
  generalize W3.drew = Wd at *
  refine wpAnyH_take (i := 0) (oi := _) (v := ?_) rfl (by kernel_rfl) (by kernel_rfl) (by kernel_rfl) (fun _ _ _ h => h) (Or.inl ⟨by rfl, ?_⟩) (by assumption) ?_
  rotate_left
  · intro w' hSw
    try dsimp only at hSw
    first | (go_simp; done) | (go_simp; with_reducible rfl)
  try simp only [Act.put]
  try simp only [List.setIfInBounds_toArray]
  try simp only [List.set_cons_succ, List.set_cons_zero]
  try simp only [List.getElem_toArray]
  try simp only [List.getElem_cons_succ]
  try simp only [List.getElem_cons_zero]
  refine wpAnyH_take (i := 1) (oi := _) (v := ?_) rfl (by kernel_rfl) (by kernel_rfl) (by kernel_rfl) (fun _ _ _ h => h) (Or.inl ⟨by rfl, ?_⟩) (by assumption) ?_
  rotate_left
  · intro w' hSw
    try dsimp only at hSw
    first | (go_simp; done) | (go_simp; with_reducible rfl)
  try simp only [Act.put]
  try simp only [List.setIfInBounds_toArray]
  try simp only [List.set_cons_succ, List.set_cons_zero]
  try simp only [List.getElem_toArray]
  try simp only [List.getElem_cons_succ]
  try simp only [List.getElem_cons_zero]
  refine wpAnyH_take (i := 2) (oi := _) (v := ?_) rfl (by kernel_rfl) (by kernel_rfl) (by kernel_rfl) (fun _ _ _ h => h) (Or.inl ⟨by rfl, ?_⟩) (by assumption) ?_
  rotate_left
  · intro w' hSw
    try dsimp only at hSw
    first | (go_simp; done) | (go_simp; with_reducible rfl)
  try simp only [Act.put]
  try simp only [List.setIfInBounds_toArray]
  try simp only [List.set_cons_succ, List.set_cons_zero]
  try simp only [List.getElem_toArray]
  try simp only [List.getElem_cons_succ]
  try simp only [List.getElem_cons_zero]
  refine wpAnyH_take (i := 3) (oi := _) (v := ?_) rfl (by kernel_rfl) (by kernel_rfl) (by kernel_rfl) (fun _ _ _ h => h) (Or.inl ⟨by rfl, ?_⟩) (by assumption) ?_
  rotate_left
  · intro w' hSw
    try dsimp only at hSw
    first | (go_simp; done) | (go_simp; with_reducible rfl)
  try simp only [Act.put]
  try simp only [List.setIfInBounds_toArray]
  try simp only [List.set_cons_succ, List.set_cons_zero]
  try simp only [List.getElem_toArray]
  try simp only [List.getElem_cons_succ]
  try simp only [List.getElem_cons_zero]
  refine wpAnyH_take (i := 4) (oi := _) (v := ?_) rfl (by kernel_rfl) (by kernel_rfl) (by kernel_rfl) (fun _ _ _ h => h) (Or.inl ⟨by rfl, ?_⟩) (by assumption) ?_
  rotate_left
  · intro w' hSw
    try dsimp only at hSw
    first | (go_simp; done) | (go_simp; with_reducible rfl)
  try simp only [Act.put]
  try simp only [List.setIfInBounds_toArray]
  try simp only [List.set_cons_succ, List.set_cons_zero]
  try simp only [List.getElem_toArray]
  try simp only [List.getElem_cons_succ]
  try simp only [List.getElem_cons_zero]
  refine wpAnyH_take (i := 5) (oi := _) (v := ?_) rfl (by kernel_rfl) (by kernel_rfl) (by kernel_rfl) (fun _ _ _ h => h) (Or.inl ⟨by rfl, ?_⟩) (by assumption) ?_
  rotate_left
  · intro w' hSw
    try dsimp only at hSw
    first | (go_simp; done) | (go_simp; with_reducible rfl)
  try simp only [Act.put]
  try simp only [List.setIfInBounds_toArray]
  try simp only [List.set_cons_succ, List.set_cons_zero]
  try simp only [List.getElem_toArray]
  try simp only [List.getElem_cons_succ]
  try simp only [List.getElem_cons_zero]
  refine wpAnyH_take (i := 6) (oi := _) (v := ?_) rfl (by kernel_rfl) (by kernel_rfl) (by kernel_rfl) (fun _ _ _ h => h) (Or.inl ⟨by rfl, ?_⟩) (by assumption) ?_
  rotate_left
  · intro w' hSw
    try dsimp only at hSw
    first | (go_simp; done) | (go_simp; with_reducible rfl)
  try simp only [Act.put]
  try simp only [List.setIfInBounds_toArray]
  try simp only [List.set_cons_succ, List.set_cons_zero]
  try simp only [List.getElem_toArray]
  try simp only [List.getElem_cons_succ]
  try simp only [List.getElem_cons_zero]
  refine wpAnyH_take (i := 7) (oi := _) (v := ?_) rfl (by kernel_rfl) (by kernel_rfl) (by kernel_rfl) (fun _ _ _ h => h) (Or.inl ⟨by rfl, ?_⟩) (by assumption) ?_
  rotate_left
  · intro w' hSw
    try dsimp only at hSw
    first | (go_simp; done) | (go_simp; with_reducible rfl)
  try simp only [Act.put]
  try simp only [List.setIfInBounds_toArray]
  try simp only [List.set_cons_succ, List.set_cons_zero]
  try simp only [List.getElem_toArray]
  try simp only [List.getElem_cons_succ]
  try simp only [List.getElem_cons_zero]
  refine wpAnyH_take (i := 8) (oi := _) (v := ?_) rfl (by kernel_rfl) (by kernel_rfl) (by kernel_rfl) (fun _ _ _ h => h) (Or.inl ⟨by rfl, ?_⟩) (by assumption) ?_
  rotate_left
  · intro w' hSw
    try dsimp only at hSw
    first | (go_simp; done) | (go_simp; with_reducible rfl)
  try simp only [Act.put]
  try simp only [List.setIfInBounds_toArray]
  try simp only [List.set_cons_succ, List.set_cons_zero]
  try simp only [List.getElem_toArray]
  try simp only [List.getElem_cons_succ]
  try simp only [List.getElem_cons_zero]
  refine wpAnyH_ready (rs := [9]) (by kernel_rfl) (by simp) ?_
  refine AllReadyH.cons (o := { dst := some 45, op := .call { callee := .value (.func 96), args := #[.tmp 36, .tmp 37, .tmp 43, .tmp 44], argTypes := #[22, 55, 3, 3] }, type := _, pos := _, after := _, guard := none }) rfl (fun K hK => ?_) AllReadyH.nil
  go_simp
  refine hsp.out.mono ?_
  rintro e W4 ⟨fr, hd, rfl, hb⟩
  have hBn := hB.out.below hb
  clear hB hHeld hb hsp
  have hB := Lib.hid hBn
  clear hBn
  replace hd := Lib.hid hd
  refine hK.out _ _ (hS.out _ hB.out) (fun hHeld => ?_)
  clear hK K
  try simp only [Act.put]
  try simp only [List.setIfInBounds_toArray]
  try simp only [List.set_cons_succ, List.set_cons_zero]
  try simp only [List.getElem_toArray]
  try simp only [List.getElem_cons_succ]
  try simp only [List.getElem_cons_zero]
  refine wpAnyH_take (i := 10) (oi := _) (v := ?_) rfl (by kernel_rfl) (by kernel_rfl) (by kernel_rfl) (fun _ _ _ h => h) (Or.inl ⟨by rfl, ?_⟩) (by assumption) ?_
  rotate_left
  · intro w' hSw
    try dsimp only at hSw
    first | (go_simp; done) | (go_simp; with_reducible rfl)
  try simp only [Act.put]
  try simp only [List.setIfInBounds_toArray]
  try simp only [List.set_cons_succ, List.set_cons_zero]
  try simp only [List.getElem_toArray]
  try simp only [List.getElem_cons_succ]
  try simp only [List.getElem_cons_zero]
  refine wpAnyH_done (by kernel_rfl) ?_ _
  refine NoPanic.normal ?_
  clear hHeld hS
  try dsimp only [List.set]
  by_cases hc : 0 ≤ (spN fr x.units x.field.ground.length).1
  · have dc : decide (0 ≤ (spN fr x.units x.field.ground.length).1) = true := decide_eq_true hc
    go_wp2_with fail
    go_ret2
    exact ⟨fr, hd.out, by rw [if_pos hc]; rfl, hB.out.b⟩
  · have dc : decide (0 ≤ (spN fr x.units x.field.ground.length).1) = false := decide_eq_false hc
    go_wp2_with fail
    go_ret2
    exact ⟨fr, hd.out, by rw [if_neg (by omega)]; rfl, hB.out.b⟩
end Go.Proofs.YtkgkpggfoieioaaDoor
