import Derived.Test.YtkgkpggfoieioaaDoorCloneW
import Derived.Test.YtkgkpggfoieioaaDoorMrgf
import Derived.Deep.AppendLies
namespace Go.Proofs.YtkgkpggfoieioaaDoor
set_option linter.unusedVariables false
open Go.RowKit
/-! world.Add, world.Room. -/
/-- append of one unit at a step of a region that draws its order. -/
theorem step_uA {ops : Array Oper} {o : Oper} {a : Act} {K : Act → World → Prop} {Q : Exit → Act → World → Prop} {E : Prop} {w : World} (hgd : o.guard = none) (s x : Operand)
    (ho : o.op = .call { callee := .builtin .append, args := #[s, x], argTypes := #[29, 29] })
    (bu : Nat) (v : Value) (n : Nat) (xs : List Value) (y0 y1 y2 y3 y4 y5 y6 y7 : Value) (hs : a.eval s = v) (hown : w.ownsRow bu 33 8 v n xs)
    (ad c : Nat) (hx : a.eval x = .slice (some ⟨ad, 0, none⟩) 1 c) (hb : Blk w ad 33 #[y0, y1, y2, y3, y4, y5, y6, y7]) (h1 : ∀ u ∈ [y0, y1, y2, y3, y4, y5, y6, y7], u.oneCell' = true) (hn : n ≤ 100000) (hbu : bu ≤ w.heap.size)
    (h : ∀ gn cap w', w'.ownsRow bu 33 8 (.slice (some ⟨gn, 0, none⟩) (n + 1) cap) (n + 1) (xs ++ [y0, y1, y2, y3, y4, y5, y6, y7]) → w.grownBy w' v.ownBlock → K (a.put o.dst (.slice (some ⟨gn, 0, none⟩) (n + 1) cap)) w') :
    if Region.wanted o (yielded ops a.tmps) = true then Oper.wp Tryd.prog o a w K Q else E := by
  obtain ⟨i0, hi0, hz0, hz1, hz2⟩ := info_parts unitC_inf
  refine step_append_lies w hgd s x 29 ho bu 33 i0 _ 8 64 Tryd.underlying29 hi0 hz0 hz1 hz2 rfl (by decide) v n xs hs hown ⟨ad, 0, none⟩ 1 c [y0, y1, y2, y3, y4, y5, y6, y7] hx rfl (World.news_of_block (cs := #[y0, y1, y2, y3, y4, y5, y6, y7]) hb) h1 (by decide) (by unfold maxLen; omega) (by omega) hbu w.heap.size rfl ?_
  intro g cap w' hown' hgrow hat hlt'
  exact h g cap w' hown' hgrow
/-- A world with one unit more. -/
def addX (L : List GK) (x : GW) (p : Int) (kd : Nat) (a : Int) : GW := { x with next := x.next + 1, units := x.units ++ [⟨x.next, p, (kd : Int), a, (gk L kd).life, 0, 0, 0⟩] }
theorem room_any (s : SW) (x : GW) (w : World) (hW : WOk w s x) :
    Calls Tryd.prog 74 #[wA s x] w fun e w' => e = .returned (.bool (decide (x.units.length < 40) && decide (x.next < 1000000))) ∧ Below w.heap.size w w' := by
  have hul := hW.ulen
  by_cases h1 : x.units.length < 40
  · have z1 : (x.units.length : Int) < 40 := by omega
    rw [decide_eq_true h1, Bool.true_and]
    go_enter Tryd.func74, Tryd.ntmps74
    go_wp2_with fail
    go_ret
    exact ⟨rfl, (Below.refl _ _).alloc (Nat.le_refl _) _⟩
  · have z1 : ¬ (x.units.length : Int) < 40 := by omega
    rw [decide_eq_false h1, Bool.false_and]
    go_enter Tryd.func74, Tryd.ntmps74
    go_wp2_with fail
    go_ret
    exact ⟨rfl, (Below.refl _ _).alloc (Nat.le_refl _) _⟩
set_option maxHeartbeats 6400000 in
set_option maxRecDepth 100000 in
theorem add_any (sK : SL) (L : List GK) (s : SW) (x : GW) (p a : Int) (kd pb Bu B0 : Nat) (w : World) (hK : KS w B0 sK L) (hB0 : B0 ≤ pb) (hkd : kd < L.length) (hl8 : L.length ≤ 8) (hp : Blk w pb 55 (wC s x)) (ho : WOwn w Bu s x) (hpb : pb < Bu) (hBu : Bu ≤ w.heap.size) (hnx : 0 ≤ x.next ∧ x.next < 1000000) (hul : x.units.length < 40) :
    Calls Tryd.prog 78 #[.slice sK.A L.length sK.c, .pointer (some ⟨pb, 0, none⟩), .int .i64 p, .int .i64 (kd : Int), .int .i64 a] w fun e w' => ∃ U c, e = .returned (.int .i64 x.next) ∧ Blk w' pb 55 #[.int .i64 x.turn, .int .i64 (x.next + 1), .int .i64 x.field.wide, .int .i64 x.field.high, .slice s.field.ground.A x.field.ground.length s.field.ground.c, .slice s.field.ore.A x.field.ore.length s.field.ore.c, .slice s.gold.A x.gold.length s.gold.c, .slice U (x.units.length + 1) c, .slice s.queue.A x.queue.length s.queue.c] ∧ WOwn w' Bu ⟨s.field, s.gold, ⟨U, c⟩, s.queue⟩ (addX L x p kd a) ∧ Below B0 w w' ∧ ∀ g t cs, g ≠ pb → g < Bu → Blk w g t cs → Blk w' g t cs := by
  obtain ⟨bk, okk, hA, hbk, _, k1, _, _, _, _, _, _, _, _, _⟩ := rk_at hK.rd kd hkd
  have hcap := hK.cap
  have hmx := hK.max
  obtain ⟨sA, sc⟩ := sK
  dsimp only at hA hcap hmx ⊢
  subst hA
  have hkdi : (kd : Int) < (L.length : Int) := by omega
  have hkd0 : (0 : Int) ≤ (kd : Int) := by omega
  have m1 : w.cell? ⟨pb, 1, none⟩ = some (.int .i64 x.next) := hp.cell 1
  have f1 := hp.frozen 1
  have l1 := hp.lt
  have e1 : IntKind.i64.wrap (x.next + 1) = x.next + 1 := IntWalk.i64_in _ (by omega)
  have hp1 : Blk (w.setCell ⟨pb, 1, none⟩ (.int .i64 (x.next + 1))) pb 55 #[.int .i64 x.turn, .int .i64 (x.next + 1), .int .i64 x.field.wide, .int .i64 x.field.high, .slice s.field.ground.A x.field.ground.length s.field.ground.c, .slice s.field.ore.A x.field.ore.length s.field.ore.c, .slice s.gold.A x.gold.length s.gold.c, .slice s.units.A x.units.length s.units.c, .slice s.queue.A x.queue.length s.queue.c] := by
    have h := hp.set_ 1 (.int .i64 (x.next + 1))
    simp only [wC, List.setIfInBounds_toArray, List.set_cons_zero, List.set_cons_succ] at h
    exact h
  have hb1 : Below B0 w (w.setCell ⟨pb, 1, none⟩ (.int .i64 (x.next + 1))) := (Below.refl _ _).setCell hB0 _
  have ho1 : WOwn (w.setCell ⟨pb, 1, none⟩ (.int .i64 (x.next + 1))) Bu s x := ⟨own_farW ho.g hpb, own_farW ho.o hpb, own_farW ho.d hpb, own_farW ho.u hpb, own_farW ho.q hpb⟩
  have hK1 := hK.below hb1
  have hkp : ∀ g t cs, g ≠ pb → g < Bu → Blk w g t cs → Blk (w.setCell ⟨pb, 1, none⟩ (.int .i64 (x.next + 1))) g t cs := fun g t cs h1 h2 h => h.far (p := ⟨pb, 1, none⟩) h1 _
  replace hkp := Lib.hid hkp
  have hs1 : w.heap.size = (w.setCell ⟨pb, 1, none⟩ (.int .i64 (x.next + 1))).heap.size := by simp
  obtain ⟨lf, hlf⟩ : ∃ lf, (gk L kd).life = lf := ⟨_, rfl⟩
  rw [hlf] at k1
  replace hlf := Lib.hid hlf
  replace hp1 := Lib.hid hp1
  replace hb1 := Lib.hid hb1
  replace ho1 := Lib.hid ho1
  replace hK1 := Lib.hid hK1
  clear hp ho hK
  go_enter Tryd.func78, Tryd.ntmps78
  go_upto_region 3 with fail
  rw [hs1] at hBu l1
  generalize (w.setCell ⟨pb, 1, none⟩ (.int .i64 (x.next + 1))) = W at *
  clear m1 f1 hs1
  have hcells : ∀ wz, Blk wz pb 55 #[.int .i64 x.turn, .int .i64 (x.next + 1), .int .i64 x.field.wide, .int .i64 x.field.high, .slice s.field.ground.A x.field.ground.length s.field.ground.c, .slice s.field.ore.A x.field.ore.length s.field.ore.c, .slice s.gold.A x.gold.length s.gold.c, .slice s.units.A x.units.length s.units.c, .slice s.queue.A x.queue.length s.queue.c] → Below B0 W wz → (fun wz => wz.cell? ⟨pb, 7, none⟩ = some (.slice s.units.A x.units.length s.units.c) ∧ wz.cell? ⟨bk, okk + kd * 11 + 1, none⟩ = some (.int .i64 lf)) wz := fun wz hpz hbz => by
    obtain ⟨b', o', hA', _, _, k1, _, _, _, _, _, _, _, _, _⟩ := rk_at (hK1.out.below hbz).rd kd hkd
    dsimp only at hA'
    injection hA' with hA'
    injection hA' with e3 e4
    subst e3; subst e4
    rw [hlf.out] at k1
    exact ⟨hpz.cell 7, k1⟩
  have hHeld : (fun wz => wz.cell? ⟨pb, 7, none⟩ = some (.slice s.units.A x.units.length s.units.c) ∧ wz.cell? ⟨bk, okk + kd * 11 + 1, none⟩ = some (.int .i64 lf)) W.drew := hcells _ (hp1.out.drewN 1) (bdrewN (Below.refl _ _) 1)
  replace hcells := Lib.hid hcells
  refine wp_region_noPanic ?_
  refine wp_region_twoC (fun wz => wz.cell? ⟨pb, 7, none⟩ = some (.slice s.units.A x.units.length s.units.c) ∧ wz.cell? ⟨bk, okk + kd * 11 + 1, none⟩ = some (.int .i64 lf)) 17 3 (by kernel_rfl) rfl (by kernel_rfl) ?_
  refine wpAnyH_take (i := 0) (oi := _) (v := ?_) rfl (by kernel_rfl) (by kernel_rfl) (by kernel_rfl) (fun _ _ _ h => h) (Or.inl ⟨by rfl, ?_⟩) hHeld ?_
  rotate_left
  · intro w' hSw
    try dsimp only at hSw
    first | (go_simp; done) | (go_simp; with_reducible rfl)
  try simp only [Act.put]
  try simp only [List.setIfInBounds_toArray]
  try simp only [List.set_cons_succ, List.set_cons_zero]
  try simp only [List.getElem_toArray]
  try simp only [List.getElem_cons_succ]
  try simp only [List.getElem_cons_zero]
  refine wpAnyH_take (i := 1) (oi := _) (v := ?_) rfl (by kernel_rfl) (by kernel_rfl) (by kernel_rfl) (fun _ _ _ h => h) (Or.inl ⟨by rfl, ?_⟩) hHeld ?_
  rotate_left
  · intro w' hSw
    try dsimp only at hSw
    first | (go_simp; done) | (go_simp; with_reducible rfl)
  try simp only [Act.put]
  try simp only [List.setIfInBounds_toArray]
  try simp only [List.set_cons_succ, List.set_cons_zero]
  try simp only [List.getElem_toArray]
  try simp only [List.getElem_cons_succ]
  try simp only [List.getElem_cons_zero]
  refine wpAnyH_take (i := 2) (oi := _) (v := ?_) rfl (by kernel_rfl) (by kernel_rfl) (by kernel_rfl) (fun _ _ _ h => h) (Or.inl ⟨by rfl, ?_⟩) hHeld ?_
  rotate_left
  · intro w' hSw
    try dsimp only at hSw
    first | (go_simp; done) | (go_simp; with_reducible rfl)
  try simp only [Act.put]
  try simp only [List.setIfInBounds_toArray]
  try simp only [List.set_cons_succ, List.set_cons_zero]
  try simp only [List.getElem_toArray]
  try simp only [List.getElem_cons_succ]
  try simp only [List.getElem_cons_zero]
  refine wpAnyH_take (i := 3) (oi := _) (v := ?_) rfl (by kernel_rfl) (by kernel_rfl) (by kernel_rfl) (fun _ _ _ h => h) (Or.inl ⟨by rfl, ?_⟩) hHeld ?_
  rotate_left
  · intro w' hSw
    try dsimp only at hSw
    first | (go_simp; done) | (go_simp; with_reducible rfl)
  try simp only [Act.put]
  try simp only [List.setIfInBounds_toArray]
  try simp only [List.set_cons_succ, List.set_cons_zero]
  try simp only [List.getElem_toArray]
  try simp only [List.getElem_cons_succ]
  try simp only [List.getElem_cons_zero]
  refine wpAnyH_take (i := 4) (oi := _) (v := ?_) rfl (by kernel_rfl) (by kernel_rfl) (by kernel_rfl) (fun _ _ _ h => h) (Or.inl ⟨by rfl, ?_⟩) hHeld ?_
  rotate_left
  · intro w' hSw
    try dsimp only at hSw
    first | (go_simp; done) | (go_simp; with_reducible rfl)
  try simp only [Act.put]
  try simp only [List.setIfInBounds_toArray]
  try simp only [List.set_cons_succ, List.set_cons_zero]
  try simp only [List.getElem_toArray]
  try simp only [List.getElem_cons_succ]
  try simp only [List.getElem_cons_zero]
  refine wpAnyH_take (i := 5) (oi := _) (v := ?_) rfl (by kernel_rfl) (by kernel_rfl) (by kernel_rfl) (fun _ _ _ h => h) (Or.inl ⟨by rfl, ?_⟩) hHeld ?_
  rotate_left
  · intro w' hSw
    try dsimp only at hSw
    first | (go_simp; done) | (go_simp; with_reducible rfl)
  try simp only [Act.put]
  try simp only [List.setIfInBounds_toArray]
  try simp only [List.set_cons_succ, List.set_cons_zero]
  try simp only [List.getElem_toArray]
  try simp only [List.getElem_cons_succ]
  try simp only [List.getElem_cons_zero]
  refine wpAnyH_take (i := 6) (oi := _) (v := ?_) rfl (by kernel_rfl) (by kernel_rfl) (by kernel_rfl) (fun _ _ _ h => h) (Or.inl ⟨by rfl, ?_⟩) hHeld ?_
  rotate_left
  · intro w' hSw
    try dsimp only at hSw
    first | (go_simp; done) | (go_simp; with_reducible rfl)
  try simp only [Act.put]
  try simp only [List.setIfInBounds_toArray]
  try simp only [List.set_cons_succ, List.set_cons_zero]
  try simp only [List.getElem_toArray]
  try simp only [List.getElem_cons_succ]
  try simp only [List.getElem_cons_zero]
  refine wpAnyH_take (i := 7) (oi := _) (v := ?_) rfl (by kernel_rfl) (by kernel_rfl) (by kernel_rfl) (fun _ _ _ h => h) (Or.inl ⟨by rfl, ?_⟩) hHeld ?_
  rotate_left
  · intro w' hSw
    try dsimp only at hSw
    first | (go_simp; done) | (go_simp; with_reducible rfl)
  try simp only [Act.put]
  try simp only [List.setIfInBounds_toArray]
  try simp only [List.set_cons_succ, List.set_cons_zero]
  try simp only [List.getElem_toArray]
  try simp only [List.getElem_cons_succ]
  try simp only [List.getElem_cons_zero]
  refine wpAnyH_take (i := 8) (oi := _) (v := ?_) rfl (by kernel_rfl) (by kernel_rfl) (by kernel_rfl) (fun _ _ _ h => h) (Or.inl ⟨by rfl, ?_⟩) hHeld ?_
  rotate_left
  · intro w' hSw
    try dsimp only at hSw
    first | (go_simp; done) | (go_simp; with_reducible rfl)
  try simp only [Act.put]
  try simp only [List.setIfInBounds_toArray]
  try simp only [List.set_cons_succ, List.set_cons_zero]
  try simp only [List.getElem_toArray]
  try simp only [List.getElem_cons_succ]
  try simp only [List.getElem_cons_zero]
  refine wpAnyH_take (i := 9) (oi := _) (v := ?_) rfl (by kernel_rfl) (by kernel_rfl) (by kernel_rfl) (fun _ _ _ h => h) (Or.inl ⟨by rfl, ?_⟩) hHeld ?_
  rotate_left
  · intro w' hSw
    try dsimp only at hSw
    first | (go_simp; done) | (go_simp; with_reducible rfl)
  try simp only [Act.put]
  try simp only [List.setIfInBounds_toArray]
  try simp only [List.set_cons_succ, List.set_cons_zero]
  try simp only [List.getElem_toArray]
  try simp only [List.getElem_cons_succ]
  try simp only [List.getElem_cons_zero]
  refine wpAnyH_take (i := 10) (oi := _) (v := ?_) rfl (by kernel_rfl) (by kernel_rfl) (by kernel_rfl) (fun _ _ _ h => h) (Or.inl ⟨by rfl, ?_⟩) hHeld ?_
  rotate_left
  · intro w' hSw
    try dsimp only at hSw
    first | (go_simp; done) | (go_simp; with_reducible rfl)
  try simp only [Act.put]
  try simp only [List.setIfInBounds_toArray]
  try simp only [List.set_cons_succ, List.set_cons_zero]
  try simp only [List.getElem_toArray]
  try simp only [List.getElem_cons_succ]
  try simp only [List.getElem_cons_zero]
  refine wpAnyH_take (i := 11) (oi := _) (v := ?_) rfl (by kernel_rfl) (by kernel_rfl) (by kernel_rfl) (fun _ _ _ h => h) (Or.inl ⟨by rfl, ?_⟩) hHeld ?_
  rotate_left
  · intro w' hSw
    try dsimp only at hSw
    first | (go_simp; done) | (go_simp; with_reducible rfl)
  try simp only [Act.put]
  try simp only [List.setIfInBounds_toArray]
  try simp only [List.set_cons_succ, List.set_cons_zero]
  try simp only [List.getElem_toArray]
  try simp only [List.getElem_cons_succ]
  try simp only [List.getElem_cons_zero]
  refine wpAnyH_take (i := 12) (oi := _) (v := ?_) rfl (by kernel_rfl) (by kernel_rfl) (by kernel_rfl) (fun _ _ _ h => h) (Or.inl ⟨by rfl, ?_⟩) hHeld ?_
  rotate_left
  · intro w' hSw
    try dsimp only at hSw
    first | (go_simp; done) | (go_simp; with_reducible rfl)
  try simp only [Act.put]
  try simp only [List.setIfInBounds_toArray]
  try simp only [List.set_cons_succ, List.set_cons_zero]
  try simp only [List.getElem_toArray]
  try simp only [List.getElem_cons_succ]
  try simp only [List.getElem_cons_zero]
  refine wpAnyH_take (i := 13) (oi := _) (v := ?_) rfl (by kernel_rfl) (by kernel_rfl) (by kernel_rfl) (fun _ _ _ h => h) (Or.inl ⟨by rfl, ?_⟩) hHeld ?_
  rotate_left
  · intro w' hSw
    try dsimp only at hSw
    first | (go_simp; done) | (go_simp; with_reducible rfl)
  try simp only [Act.put]
  try simp only [List.setIfInBounds_toArray]
  try simp only [List.set_cons_succ, List.set_cons_zero]
  try simp only [List.getElem_toArray]
  try simp only [List.getElem_cons_succ]
  try simp only [List.getElem_cons_zero]
  refine wpAnyH_take (i := 14) (oi := _) (v := ?_) rfl (by kernel_rfl) (by kernel_rfl) (by kernel_rfl) (fun _ _ _ h => h) (Or.inl ⟨by rfl, ?_⟩) hHeld ?_
  rotate_left
  · intro w' hSw
    try dsimp only at hSw
    first | (go_simp; done) | (go_simp; with_reducible rfl)
  try simp only [Act.put]
  try simp only [List.setIfInBounds_toArray]
  try simp only [List.set_cons_succ, List.set_cons_zero]
  try simp only [List.getElem_toArray]
  try simp only [List.getElem_cons_succ]
  try simp only [List.getElem_cons_zero]
  refine wpAnyH_ready (rs := [15]) (by kernel_rfl) (by simp) ?_
  refine AllReadyH.cons (o := _) rfl (fun K hK => ?_) AllReadyH.nil
  go_simp
  refine hK.out _ _ (hcells.out _ ((hp1.out.drewN 1).alloc _) ((bdrewN (Below.refl _ _) 1).alloc (Nat.le_trans hB0 (Nat.le_of_lt l1)) _)) (fun hHeld => ?_)
  clear hK K
  try simp only [Act.put]
  try simp only [List.setIfInBounds_toArray]
  try simp only [List.set_cons_succ, List.set_cons_zero]
  try simp only [List.getElem_toArray]
  try simp only [List.getElem_cons_succ]
  try simp only [List.getElem_cons_zero]
  have hoa : (W.drew.alloc (.cells #[.int .i64 x.next, .int .i64 p, .int .i64 (kd : Int), .int .i64 a, .int .i64 lf, .int .i64 0, .int .i64 0, .int .i64 0] 33)).ownsRow Bu 33 8 (.slice s.units.A x.units.length s.units.c) x.units.length (x.units.flatMap uC) := World.ownsRow.alloc (w := W.drew) ho1.out.u _
  have hba : Blk (W.drew.alloc (.cells #[.int .i64 x.next, .int .i64 p, .int .i64 (kd : Int), .int .i64 a, .int .i64 lf, .int .i64 0, .int .i64 0, .int .i64 0] 33)) W.drew.heap.size 33 #[.int .i64 x.next, .int .i64 p, .int .i64 (kd : Int), .int .i64 a, .int .i64 lf, .int .i64 0, .int .i64 0, .int .i64 0] := Blk.new _ _ _
  replace hoa := Lib.hid hoa
  replace hba := Lib.hid hba
  refine wpAnyH_ready (rs := [16]) (by kernel_rfl) (by simp) ?_
  refine AllReadyH.cons (o := _) rfl (fun K hK => ?_) AllReadyH.nil
  refine step_uA (by rfl) (.tmp 27) (.tmp 38) (by rfl) Bu (.slice s.units.A x.units.length s.units.c) x.units.length (x.units.flatMap uC) (.int .i64 x.next) (.int .i64 p) (.int .i64 (kd : Int)) (.int .i64 a) (.int .i64 lf) (.int .i64 0) (.int .i64 0) (.int .i64 0) (by rfl) hoa.out _ _ (by rfl) hba.out (by simp [Value.oneCell']) (by omega) (by simp; omega) ?_
  intro gn cn W2 hob hgb
  have hrow : ∀ b, (Value.ownBlock (.slice s.units.A x.units.length s.units.c)) = some b → Bu ≤ b := fun b e => (hoa.out.lt b e).1
  have hbA : Below B0 W (W.drew.alloc (.cells #[.int .i64 x.next, .int .i64 p, .int .i64 (kd : Int), .int .i64 a, .int .i64 lf, .int .i64 0, .int .i64 0, .int .i64 0] 33)) := (bdrewN (Below.refl _ _) 1).alloc (Nat.le_trans hB0 (Nat.le_of_lt l1)) _
  have hb2 : Below B0 W W2 := hbA.grown hgb (by have := hbA.size; omega) (fun b e => by have := hrow b e; omega)
  have hp2 : Blk W2 pb 55 #[.int .i64 x.turn, .int .i64 (x.next + 1), .int .i64 x.field.wide, .int .i64 x.field.high, .slice s.field.ground.A x.field.ground.length s.field.ground.c, .slice s.field.ore.A x.field.ore.length s.field.ore.c, .slice s.gold.A x.gold.length s.gold.c, .slice s.units.A x.units.length s.units.c, .slice s.queue.A x.queue.length s.queue.c] := ((hp1.out.drewN 1).alloc (.cells #[.int .i64 x.next, .int .i64 p, .int .i64 (kd : Int), .int .i64 a, .int .i64 lf, .int .i64 0, .int .i64 0, .int .i64 0] 33)).grown hgb (fun e => by have := hrow pb e.symm; omega)
  have og : W2.ownsRow Bu 3 1 (.slice s.field.ground.A x.field.ground.length s.field.ground.c) x.field.ground.length (x.field.ground.map (.int .i64)) := (World.ownsRow.alloc (w := W.drew) ho1.out.g (.cells #[.int .i64 x.next, .int .i64 p, .int .i64 (kd : Int), .int .i64 a, .int .i64 lf, .int .i64 0, .int .i64 0, .int .i64 0] 33)).kept hgb (own_ne (by decide) hoa.out (World.ownsRow.alloc (w := W.drew) ho1.out.g (.cells #[.int .i64 x.next, .int .i64 p, .int .i64 (kd : Int), .int .i64 a, .int .i64 lf, .int .i64 0, .int .i64 0, .int .i64 0] 33)))
  have oo : W2.ownsRow Bu 3 1 (.slice s.field.ore.A x.field.ore.length s.field.ore.c) x.field.ore.length (x.field.ore.map (.int .i64)) := (World.ownsRow.alloc (w := W.drew) ho1.out.o (.cells #[.int .i64 x.next, .int .i64 p, .int .i64 (kd : Int), .int .i64 a, .int .i64 lf, .int .i64 0, .int .i64 0, .int .i64 0] 33)).kept hgb (own_ne (by decide) hoa.out (World.ownsRow.alloc (w := W.drew) ho1.out.o (.cells #[.int .i64 x.next, .int .i64 p, .int .i64 (kd : Int), .int .i64 a, .int .i64 lf, .int .i64 0, .int .i64 0, .int .i64 0] 33)))
  have od : W2.ownsRow Bu 3 1 (.slice s.gold.A x.gold.length s.gold.c) x.gold.length (x.gold.map (.int .i64)) := (World.ownsRow.alloc (w := W.drew) ho1.out.d (.cells #[.int .i64 x.next, .int .i64 p, .int .i64 (kd : Int), .int .i64 a, .int .i64 lf, .int .i64 0, .int .i64 0, .int .i64 0] 33)).kept hgb (own_ne (by decide) hoa.out (World.ownsRow.alloc (w := W.drew) ho1.out.d (.cells #[.int .i64 x.next, .int .i64 p, .int .i64 (kd : Int), .int .i64 a, .int .i64 lf, .int .i64 0, .int .i64 0, .int .i64 0] 33)))
  have oq : W2.ownsRow Bu 126 4 (.slice s.queue.A x.queue.length s.queue.c) x.queue.length (x.queue.flatMap jC) := (World.ownsRow.alloc (w := W.drew) ho1.out.q (.cells #[.int .i64 x.next, .int .i64 p, .int .i64 (kd : Int), .int .i64 a, .int .i64 lf, .int .i64 0, .int .i64 0, .int .i64 0] 33)).kept hgb (own_ne (by decide) hoa.out (World.ownsRow.alloc (w := W.drew) ho1.out.q (.cells #[.int .i64 x.next, .int .i64 p, .int .i64 (kd : Int), .int .i64 a, .int .i64 lf, .int .i64 0, .int .i64 0, .int .i64 0] 33)))
  have hl2 : pb < W2.heap.size := hp2.lt
  have hkp2 : ∀ g t cs, g ≠ pb → g < Bu → Blk w g t cs → Blk W2 g t cs := fun g t cs h1 h2 h => ((((hkp.out g t cs h1 h2 h).drewN 1).alloc (.cells #[.int .i64 x.next, .int .i64 p, .int .i64 (kd : Int), .int .i64 a, .int .i64 lf, .int .i64 0, .int .i64 0, .int .i64 0] 33)).grown hgb (fun e => by have := hrow g e.symm; omega))
  replace hkp2 := Lib.hid hkp2
  clear hrow hbA hgb hoa hba
  refine hK.out _ _ (hcells.out _ hp2 hb2) (fun hHeld => ?_)
  clear hK K
  try simp only [Act.put]
  try simp only [List.setIfInBounds_toArray]
  try simp only [List.set_cons_succ, List.set_cons_zero]
  try simp only [List.getElem_toArray]
  try simp only [List.getElem_cons_succ]
  try simp only [List.getElem_cons_zero]
  refine wpAnyH_done (by kernel_rfl) ?_ _
  refine wpAny_of_held (S := fun _ => True) _ _ _ _ ?_
  have fz := hp2.frozen 7
  have cz : W2.cell? ⟨pb, 7, none⟩ = some (.slice s.units.A x.units.length s.units.c) := hp2.cell 7
  have hx : (addX L x p kd a).units.length = x.units.length + 1 := by unfold addX; simp
  have hf : (addX L x p kd a).units.flatMap uC = x.units.flatMap uC ++ [.int .i64 x.next, .int .i64 p, .int .i64 (kd : Int), .int .i64 a, .int .i64 lf, .int .i64 0, .int .i64 0, .int .i64 0] := by unfold addX; rw [hlf.out]; simp [List.flatMap_append, uC]
  have hp3 : Blk (W2.setCell ⟨pb, 7, none⟩ (.slice (some ⟨gn, 0, none⟩) (x.units.length + 1) cn)) pb 55 #[.int .i64 x.turn, .int .i64 (x.next + 1), .int .i64 x.field.wide, .int .i64 x.field.high, .slice s.field.ground.A x.field.ground.length s.field.ground.c, .slice s.field.ore.A x.field.ore.length s.field.ore.c, .slice s.gold.A x.gold.length s.gold.c, .slice (some ⟨gn, 0, none⟩) (x.units.length + 1) cn, .slice s.queue.A x.queue.length s.queue.c] := by
    have h := hp2.set_ 7 (.slice (some ⟨gn, 0, none⟩) (x.units.length + 1) cn)
    simp only [List.setIfInBounds_toArray, List.set_cons_zero, List.set_cons_succ] at h
    exact h
  have hkp3 : ∀ g t cs, g ≠ pb → g < Bu → Blk w g t cs → Blk (W2.setCell ⟨pb, 7, none⟩ (.slice (some ⟨gn, 0, none⟩) (x.units.length + 1) cn)) g t cs := fun g t cs h1 h2 h => (hkp2.out g t cs h1 h2 h).far (p := ⟨pb, 7, none⟩) h1 _
  replace hkp3 := Lib.hid hkp3
  have hb3 := hb1.out.trans (hb2.setCell (p := ⟨pb, 7, none⟩) hB0 (.slice (some ⟨gn, 0, none⟩) (x.units.length + 1) cn))
  have hw3 : WOwn (W2.setCell ⟨pb, 7, none⟩ (.slice (some ⟨gn, 0, none⟩) (x.units.length + 1) cn)) Bu ⟨s.field, s.gold, ⟨some ⟨gn, 0, none⟩, cn⟩, s.queue⟩ (addX L x p kd a) := ⟨own_farW og hpb, own_farW oo hpb, own_farW od hpb, by dsimp only; rw [hx, hf]; exact own_farW hob hpb, own_farW oq hpb⟩
  replace hp3 := Lib.hid hp3
  replace hb3 := Lib.hid hb3
  replace hw3 := Lib.hid hw3
  replace hp2 := Lib.hid hp2
  replace hx := Lib.hid hx
  replace hf := Lib.hid hf
  clear hb2 og oo od oq hob
  refine wpAnyH_take (i := 17) (oi := _) (v := ?_) rfl (by kernel_rfl) (by kernel_rfl) (by kernel_rfl) (fun _ _ _ h => h) (Or.inl ⟨by rfl, ?_⟩) trivial ?_
  rotate_left
  · intro w' hSw
    try dsimp only at hSw
    first | (go_simp; done) | (go_simp; with_reducible rfl)
  try simp only [Act.put]
  try simp only [List.setIfInBounds_toArray]
  try simp only [List.set_cons_succ, List.set_cons_zero]
  try simp only [List.getElem_toArray]
  try simp only [List.getElem_cons_succ]
  try simp only [List.getElem_cons_zero]
  refine wpAnyH_take (i := 18) (oi := _) (v := ?_) rfl (by kernel_rfl) (by kernel_rfl) (by kernel_rfl) (fun _ _ _ h => h) (Or.inl ⟨by rfl, ?_⟩) trivial ?_
  rotate_left
  · intro w' hSw
    try dsimp only at hSw
    first | (go_simp; done) | (go_simp; with_reducible rfl)
  try simp only [Act.put]
  try simp only [List.setIfInBounds_toArray]
  try simp only [List.set_cons_succ, List.set_cons_zero]
  try simp only [List.getElem_toArray]
  try simp only [List.getElem_cons_succ]
  try simp only [List.getElem_cons_zero]
  refine wpAnyH_ready (rs := [19]) (by kernel_rfl) (by simp) ?_
  refine AllReadyH.cons (o := _) rfl (fun K hK => ?_) AllReadyH.nil
  go_simp
  refine hK.out _ _ trivial (fun _ => ?_)
  clear hK K
  try simp only [Act.put]
  try simp only [List.setIfInBounds_toArray]
  try simp only [List.set_cons_succ, List.set_cons_zero]
  try simp only [List.getElem_toArray]
  try simp only [List.getElem_cons_succ]
  try simp only [List.getElem_cons_zero]
  refine wpAnyH_done (by kernel_rfl) ?_ _
  refine NoPanic.normal ?_
  clear fz cz
  go_wp2_with fail
  go_ret
  exact ⟨rfl, some ⟨gn, 0, none⟩, cn, hp3.out, hw3.out, hb3.out, hkp3.out⟩
end Go.Proofs.YtkgkpggfoieioaaDoor
