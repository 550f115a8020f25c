import Derived.Test.YtkgkpggfoieioaaDoorSmallW
import Derived.Test.YtkgkpggfoieioaaDoorSpot
import Derived.Test.YtkgkpggfoieioaaDoorRefOn
namespace Go.Proofs.YtkgkpggfoieioaaDoor
set_option linter.unusedVariables false
open Go.RowKit
/-! WorksSpots. -/
def frS : List Int := [0, 1, 2, 3, 1, 2, 3, 4]
theorem frS_dist : DFrom fS false 0 frS := by
  have hp : ∀ b : Nat, b < 8 → b ≠ 0 → ∃ a : Nat, a < 8 ∧ (besL fS (a : Int)).contains (b : Int) = true ∧ 0 < costFrom fS false a b ∧ 0 ≤ at0 frS a ∧ at0 frS b = at0 frS a + costFrom fS false a b := fun b hb hne => by
    have : b = 1 ∨ b = 2 ∨ b = 3 ∨ b = 4 ∨ b = 5 ∨ b = 6 ∨ b = 7 := by omega
    rcases this with rfl | rfl | rfl | rfl | rfl | rfl | rfl
    · exact ⟨0, by decide +kernel⟩
    · exact ⟨1, by decide +kernel⟩
    · exact ⟨2, by decide +kernel⟩
    · exact ⟨0, by decide +kernel⟩
    · exact ⟨4, by decide +kernel⟩
    · exact ⟨5, by decide +kernel⟩
    · exact ⟨6, by decide +kernel⟩
  have hr : ∀ a : Fin 8, ∀ b : Fin 8, (besL fS (a.val : Int)).contains (b.val : Int) = true → 0 < costFrom fS false a b → 0 ≤ at0 frS b ∧ at0 frS b ≤ at0 frS a + costFrom fS false a b := by decide +kernel
  have hl : ∀ k : Fin 8, -1 ≤ at0 frS k ∧ at0 frS k ≤ 16 := by decide +kernel
  refine ⟨rfl, ⟨by decide, rfl⟩, fun k hk => hl ⟨k, hk⟩, ?_, ?_⟩
  · intro b hb h0 hne
    obtain ⟨a, h1, h2, h3⟩ := hp b hb hne
    exact ⟨a, h1, (nb_dec _ _ _).2 h2, h3⟩
  · intro a b ha hb hn hc h0
    exact hr ⟨a, ha⟩ ⟨b, hb⟩ ((nb_dec _ _ _).1 hn) hc
theorem spN_S : spN frS xS4.units 8 = (4, 1) := by decide +kernel
theorem find_S : findId xS4.units 1 = ((0 : Nat) : Int) := by decide +kernel
theorem small_spot : ∃ z : GW, (∀ w : World, Calls Tryd.prog 25 #[] w fun e w' => ∃ s, e = .returned (.tuple #[.agg #[.int .i64 z.turn, .int .i64 z.next, .int .i64 z.field.wide, .int .i64 z.field.high, .slice s.field.ground.A z.field.ground.length s.field.ground.c, .slice s.field.ore.A z.field.ore.length s.field.ore.c, .slice s.gold.A z.gold.length s.gold.c, .slice s.units.A z.units.length s.units.c, .slice s.queue.A z.queue.length s.queue.c], .bool true]) ∧ WOk w' s z ∧ Below w.heap.size w w') ∧ ∀ (A : Option Addr) (c : Nat) (s : SW) (w : World), KS w w.heap.size ⟨A, c⟩ sortsL → WOk w s z → Calls Tryd.prog 40 #[.slice A 3 c, .agg #[.int .i64 z.turn, .int .i64 z.next, .int .i64 z.field.wide, .int .i64 z.field.high, .slice s.field.ground.A z.field.ground.length s.field.ground.c, .slice s.field.ore.A z.field.ore.length s.field.ore.c, .slice s.gold.A z.gold.length s.gold.c, .slice s.units.A z.units.length s.units.c, .slice s.queue.A z.queue.length s.queue.c], .int .i64 1, .int .i64 1] w fun e w' => e = .returned (.tuple #[.int .i64 4, .nilIface]) ∧ Below w.heap.size w w' := by
  refine ⟨xS4, fun w => (small_any w).mono fun _ _ ⟨s, h1, h2, h3⟩ => ⟨s, h1, h2.wok wintS4, h3⟩, fun A c s w hK hW => ?_⟩
  refine (wspot_ok ⟨A, c⟩ sortsL s xS4 1 0 1 w hK hW okS4 (by decide) find_S (by decide)).mono ?_
  rintro e w' ⟨fr, hd, he, hb⟩
  have hfe : fr = frS := Dist.uniq hd frS_dist
  subst hfe
  have e8 : xS4.field.ground.length = 8 := rfl
  rw [e8, spN_S] at he
  exact ⟨he, hb⟩
theorem sorts3 (w : World) : Calls Tryd.prog 13 #[] w fun e w' => ∃ A c, e = .returned (.slice A 3 c) ∧ KS w' w'.heap.size ⟨A, c⟩ sortsL ∧ Below w.heap.size w w' :=
  (sorts_any w).mono fun _ _ ⟨h1, h2, h3, h4⟩ => ⟨_, _, h1, h2.more h4, h3⟩
set_option maxHeartbeats 12800000 in
set_option maxRecDepth 100000 in
theorem worksSpots_in (sK : SL) (L : List GK) (s : SW) (x : GW) (id k : Int) (w : World) (hK : KS w w.heap.size sK L) (hW : WOk w s x) :
    Calls Tryd.prog 8 #[.slice sK.A L.length sK.c, .agg #[.int .i64 x.turn, .int .i64 x.next, .int .i64 x.field.wide, .int .i64 x.field.high, .slice s.field.ground.A x.field.ground.length s.field.ground.c, .slice s.field.ore.A x.field.ore.length s.field.ore.c, .slice s.gold.A x.gold.length s.gold.c, .slice s.units.A x.units.length s.units.c, .slice s.queue.A x.queue.length s.queue.c], .int .i64 id, .int .i64 k] w fun e w' => e = .returned (.bool true) ∧ Below w.heap.size w w' := by
  obtain ⟨z, hsm, hsp⟩ := small_spot
  replace hsm := Lib.hid hsm
  replace hsp := Lib.hid hsp
  have hB : SBx w (w.alloc (.cells #[.int .i64 x.turn, .int .i64 x.next, .int .i64 x.field.wide, .int .i64 x.field.high, .slice s.field.ground.A x.field.ground.length s.field.ground.c, .slice s.field.ore.A x.field.ore.length s.field.ore.c, .slice s.gold.A x.gold.length s.gold.c, .slice s.units.A x.units.length s.units.c, .slice s.queue.A x.queue.length s.queue.c] 55)) sK L s x w.heap.size := sbx_start w sK L s x hK hW
  obtain ⟨sA, sc⟩ := sK
  dsimp only
  have hcap := hK.cap
  have hmx := hK.max
  have hul := hW.ulen
  dsimp only at hcap hmx
  replace hB := Lib.hid hB
  clear hK hW
  go_enter Tryd.func8, Tryd.ntmps8
  go_upto_region 1 with fail
  generalize (w.alloc (.cells #[.int .i64 x.turn, .int .i64 x.next, .int .i64 x.field.wide, .int .i64 x.field.high, .slice s.field.ground.A x.field.ground.length s.field.ground.c, .slice s.field.ore.A x.field.ore.length s.field.ore.c, .slice s.gold.A x.gold.length s.gold.c, .slice s.units.A x.units.length s.units.c, .slice s.queue.A x.queue.length s.queue.c] 55)) = W at *
  obtain ⟨wb, hwb⟩ : ∃ wb, w.heap.size = wb := ⟨_, rfl⟩
  rw [hwb] at hB
  rw [hwb]
  replace hB : SBx w W ⟨sA, sc⟩ L s x wb := hB.out
  replace hB := Lib.hid hB
  replace hwb := Lib.hid hwb
  go_upto_region 2 with (go_at_call 25; refine (hsm.out _).mono ?_; rintro e W1 ⟨sm, rfl, hzo, hb⟩)
  clear hsm
  replace hB := Lib.hid ((hB.out.below hb).alloc (.cells #[.int .i64 z.turn, .int .i64 z.next, .int .i64 z.field.wide, .int .i64 z.field.high, .slice sm.field.ground.A z.field.ground.length sm.field.ground.c, .slice sm.field.ore.A z.field.ore.length sm.field.ore.c, .slice sm.gold.A z.gold.length sm.gold.c, .slice sm.units.A z.units.length sm.units.c, .slice sm.queue.A z.queue.length sm.queue.c] 55))
  clear hb
  have hzk : Blk (W1.alloc (.cells #[.int .i64 z.turn, .int .i64 z.next, .int .i64 z.field.wide, .int .i64 z.field.high, .slice sm.field.ground.A z.field.ground.length sm.field.ground.c, .slice sm.field.ore.A z.field.ore.length sm.field.ore.c, .slice sm.gold.A z.gold.length sm.gold.c, .slice sm.units.A z.units.length sm.units.c, .slice sm.queue.A z.queue.length sm.queue.c] 55)) W1.heap.size 55 #[.int .i64 z.turn, .int .i64 z.next, .int .i64 z.field.wide, .int .i64 z.field.high, .slice sm.field.ground.A z.field.ground.length sm.field.ground.c, .slice sm.field.ore.A z.field.ore.length sm.field.ore.c, .slice sm.gold.A z.gold.length sm.gold.c, .slice sm.units.A z.units.length sm.units.c, .slice sm.queue.A z.queue.length sm.queue.c] := Blk.new _ _ _
  have hzw : WOk (W1.alloc (.cells #[.int .i64 z.turn, .int .i64 z.next, .int .i64 z.field.wide, .int .i64 z.field.high, .slice sm.field.ground.A z.field.ground.length sm.field.ground.c, .slice sm.field.ore.A z.field.ore.length sm.field.ore.c, .slice sm.gold.A z.gold.length sm.gold.c, .slice sm.units.A z.units.length sm.units.c, .slice sm.queue.A z.queue.length sm.queue.c] 55)) sm z := hzo.below ((Below.refl _ _).alloc (Nat.le_refl _) _)
  clear hzo
  generalize (W1.alloc (.cells #[.int .i64 z.turn, .int .i64 z.next, .int .i64 z.field.wide, .int .i64 z.field.high, .slice sm.field.ground.A z.field.ground.length sm.field.ground.c, .slice sm.field.ore.A z.field.ore.length sm.field.ore.c, .slice sm.gold.A z.gold.length sm.gold.c, .slice sm.units.A z.units.length sm.units.c, .slice sm.queue.A z.queue.length sm.queue.c] 55)) = W2 at *
  obtain ⟨pf, hpf⟩ : ∃ pf, W1.heap.size = pf := ⟨_, rfl⟩
  rw [hpf] at hzk ⊢
  clear hpf
  replace hzk := Lib.hid hzk
  replace hzw := Lib.hid hzw
  go_upto_region 4 with fail
  have hXn : SBx w W2.drew ⟨sA, sc⟩ L s x wb := hB.out.drewN 1
  have hzk2 : Blk W2.drew pf 55 #[.int .i64 z.turn, .int .i64 z.next, .int .i64 z.field.wide, .int .i64 z.field.high, .slice sm.field.ground.A z.field.ground.length sm.field.ground.c, .slice sm.field.ore.A z.field.ore.length sm.field.ore.c, .slice sm.gold.A z.gold.length sm.gold.c, .slice sm.units.A z.units.length sm.units.c, .slice sm.queue.A z.queue.length sm.queue.c] := hzk.out.drewN 1
  have hzw2 : WOk W2.drew sm z := hzw.out.below ⟨rfl, rfl, rfl, Nat.le_refl _, fun _ _ => rfl⟩
  clear hB hzk hzw
  have hB := Lib.hid hXn
  have hzk := Lib.hid hzk2
  have hzw := Lib.hid hzw2
  clear hXn hzk2 hzw2
  have hz9 : ∀ wz, Blk wz pf 55 #[.int .i64 z.turn, .int .i64 z.next, .int .i64 z.field.wide, .int .i64 z.field.high, .slice sm.field.ground.A z.field.ground.length sm.field.ground.c, .slice sm.field.ore.A z.field.ore.length sm.field.ore.c, .slice sm.gold.A z.gold.length sm.gold.c, .slice sm.units.A z.units.length sm.units.c, .slice sm.queue.A z.queue.length sm.queue.c] → (fun wz => wz.cell? ⟨pf, 0, none⟩ = some (.int .i64 z.turn) ∧ wz.cell? ⟨pf, 1, none⟩ = some (.int .i64 z.next) ∧ wz.cell? ⟨pf, 2, none⟩ = some (.int .i64 z.field.wide) ∧ wz.cell? ⟨pf, 3, none⟩ = some (.int .i64 z.field.high) ∧ wz.cell? ⟨pf, 4, none⟩ = some (.slice sm.field.ground.A z.field.ground.length sm.field.ground.c) ∧ wz.cell? ⟨pf, 5, none⟩ = some (.slice sm.field.ore.A z.field.ore.length sm.field.ore.c) ∧ wz.cell? ⟨pf, 6, none⟩ = some (.slice sm.gold.A z.gold.length sm.gold.c) ∧ wz.cell? ⟨pf, 7, none⟩ = some (.slice sm.units.A z.units.length sm.units.c) ∧ wz.cell? ⟨pf, 8, none⟩ = some (.slice sm.queue.A z.queue.length sm.queue.c)) wz := fun wz h => ⟨h.cell 0, h.cell 1, h.cell 2, h.cell 3, h.cell 4, h.cell 5, h.cell 6, h.cell 7, h.cell 8⟩
  replace hz9 := Lib.hid hz9
  refine wp_region_noPanic ?_
  refine wp_region_held_drew (S := (fun wz => wz.cell? ⟨pf, 0, none⟩ = some (.int .i64 z.turn) ∧ wz.cell? ⟨pf, 1, none⟩ = some (.int .i64 z.next) ∧ wz.cell? ⟨pf, 2, none⟩ = some (.int .i64 z.field.wide) ∧ wz.cell? ⟨pf, 3, none⟩ = some (.int .i64 z.field.high) ∧ wz.cell? ⟨pf, 4, none⟩ = some (.slice sm.field.ground.A z.field.ground.length sm.field.ground.c) ∧ wz.cell? ⟨pf, 5, none⟩ = some (.slice sm.field.ore.A z.field.ore.length sm.field.ore.c) ∧ wz.cell? ⟨pf, 6, none⟩ = some (.slice sm.gold.A z.gold.length sm.gold.c) ∧ wz.cell? ⟨pf, 7, none⟩ = some (.slice sm.units.A z.units.length sm.units.c) ∧ wz.cell? ⟨pf, 8, none⟩ = some (.slice sm.queue.A z.queue.length sm.queue.c))) (by kernel_rfl) (hz9.out _ hzk.out) (fun hHeld => ?_)
  generalize W2.drew = Wd at *
  refine wpAnyH_take (i := 1) (oi := _) (v := ?_) rfl (by kernel_rfl) (by kernel_rfl) (by kernel_rfl) (fun _ _ _ h => h) (Or.inl ⟨by rfl, ?_⟩) (by assumption) ?_
  rotate_left
  · intro w' hSw
    try dsimp only at hSw
    first | (go_simp; done) | (go_simp; with_reducible rfl)
  try simp only [Act.put]
  try simp only [List.setIfInBounds_toArray]
  try simp only [List.set_cons_succ, List.set_cons_zero]
  try simp only [List.getElem_toArray]
  try simp only [List.getElem_cons_succ]
  try simp only [List.getElem_cons_zero]
  refine wpAnyH_ready (rs := [0]) (by kernel_rfl) (by simp) ?_
  refine AllReadyH.cons (o := { dst := some 28, op := .call { callee := .value (.func 13), args := #[], argTypes := #[] }, type := _, pos := _, after := _, guard := none }) rfl (fun K hK => ?_) AllReadyH.nil
  go_simp
  refine (sorts3 _).mono ?_
  rintro e W3 ⟨A, c, rfl, hKs, hb⟩
  replace hKs := Lib.hid hKs
  have hBn := hB.out.below hb
  have hzkn := hzk.out.below hb hzk.out.lt
  have hzwn := hzw.out.below hb
  clear hB hzk hzw hHeld hb
  have hB := Lib.hid hBn
  have hzk := Lib.hid hzkn
  have hzw := Lib.hid hzwn
  clear hBn hzkn hzwn
  refine hK.out _ _ (hz9.out _ hzk.out) (fun hHeld => ?_)
  clear hK K
  try simp only [Act.put]
  try simp only [List.setIfInBounds_toArray]
  try simp only [List.set_cons_succ, List.set_cons_zero]
  try simp only [List.getElem_toArray]
  try simp only [List.getElem_cons_succ]
  try simp only [List.getElem_cons_zero]
  refine wpAnyH_ready (rs := [2]) (by kernel_rfl) (by simp) ?_
  refine AllReadyH.cons (o := { dst := some 30, op := .call { callee := .value (.func 40), args := #[.tmp 28, .tmp 29, .const (.int .i64 1), .const (.int .i64 1)], argTypes := #[22, 55, 3, 3] }, type := _, pos := _, after := _, guard := none }) rfl (fun K hK => ?_) AllReadyH.nil
  go_simp
  refine (hsp.out A c sm _ hKs.out hzw.out).mono ?_
  rintro e W4 ⟨rfl, hb⟩
  clear hKs
  have hBn := hB.out.below hb
  have hzkn := hzk.out.below hb hzk.out.lt
  have hzwn := hzw.out.below hb
  clear hB hzk hzw hHeld hb
  have hB := Lib.hid hBn
  have hzk := Lib.hid hzkn
  have hzw := Lib.hid hzwn
  clear hBn hzkn hzwn
  refine hK.out _ _ (hz9.out _ hzk.out) (fun hHeld => ?_)
  clear hK K
  try simp only [Act.put]
  try simp only [List.setIfInBounds_toArray]
  try simp only [List.set_cons_succ, List.set_cons_zero]
  try simp only [List.getElem_toArray]
  try simp only [List.getElem_cons_succ]
  try simp only [List.getElem_cons_zero]
  refine wpAnyH_take (i := 3) (oi := _) (v := ?_) rfl (by kernel_rfl) (by kernel_rfl) (by kernel_rfl) (fun _ _ _ h => h) (Or.inl ⟨by rfl, ?_⟩) (by assumption) ?_
  rotate_left
  · intro w' hSw
    try dsimp only at hSw
    first | (go_simp; done) | (go_simp; with_reducible rfl)
  try simp only [Act.put]
  try simp only [List.setIfInBounds_toArray]
  try simp only [List.set_cons_succ, List.set_cons_zero]
  try simp only [List.getElem_toArray]
  try simp only [List.getElem_cons_succ]
  try simp only [List.getElem_cons_zero]
  refine wpAnyH_take (i := 4) (oi := _) (v := ?_) rfl (by kernel_rfl) (by kernel_rfl) (by kernel_rfl) (fun _ _ _ h => h) (Or.inl ⟨by rfl, ?_⟩) (by assumption) ?_
  rotate_left
  · intro w' hSw
    try dsimp only at hSw
    first | (go_simp; done) | (go_simp; with_reducible rfl)
  try simp only [Act.put]
  try simp only [List.setIfInBounds_toArray]
  try simp only [List.set_cons_succ, List.set_cons_zero]
  try simp only [List.getElem_toArray]
  try simp only [List.getElem_cons_succ]
  try simp only [List.getElem_cons_zero]
  refine wpAnyH_take (i := 5) (oi := _) (v := ?_) rfl (by kernel_rfl) (by kernel_rfl) (by kernel_rfl) (fun _ _ _ h => h) (Or.inl ⟨by rfl, ?_⟩) (by assumption) ?_
  rotate_left
  · intro w' hSw
    try dsimp only at hSw
    first | (go_simp; done) | (go_simp; with_reducible rfl)
  try simp only [Act.put]
  try simp only [List.setIfInBounds_toArray]
  try simp only [List.set_cons_succ, List.set_cons_zero]
  try simp only [List.getElem_toArray]
  try simp only [List.getElem_cons_succ]
  try simp only [List.getElem_cons_zero]
  refine wpAnyH_take (i := 6) (oi := _) (v := ?_) rfl (by kernel_rfl) (by kernel_rfl) (by kernel_rfl) (fun _ _ _ h => h) (Or.inl ⟨by rfl, ?_⟩) (by assumption) ?_
  rotate_left
  · intro w' hSw
    try dsimp only at hSw
    first | (go_simp; done) | (go_simp; with_reducible rfl)
  try simp only [Act.put]
  try simp only [List.setIfInBounds_toArray]
  try simp only [List.set_cons_succ, List.set_cons_zero]
  try simp only [List.getElem_toArray]
  try simp only [List.getElem_cons_succ]
  try simp only [List.getElem_cons_zero]
  refine wpAnyH_take (i := 7) (oi := _) (v := ?_) rfl (by kernel_rfl) (by kernel_rfl) (by kernel_rfl) (fun _ _ _ h => h) (Or.inl ⟨by rfl, ?_⟩) (by assumption) ?_
  rotate_left
  · intro w' hSw
    try dsimp only at hSw
    first | (go_simp; done) | (go_simp; with_reducible rfl)
  try simp only [Act.put]
  try simp only [List.setIfInBounds_toArray]
  try simp only [List.set_cons_succ, List.set_cons_zero]
  try simp only [List.getElem_toArray]
  try simp only [List.getElem_cons_succ]
  try simp only [List.getElem_cons_zero]
  refine wpAnyH_done (by kernel_rfl) ?_ _
  refine NoPanic.normal ?_
  clear hHeld hz9 hzk hzw hsp
  go_upto_region 7 with fail
  by_cases h : worldE L x ≠ 0 ∨ findId x.units id < 0 ∨ k < 0 ∨ (L.length : Int) ≤ k
  case pos =>
    as_aux_lemma =>
    have hc : Calls Tryd.prog 40 #[.slice sA L.length sc, .agg #[.int .i64 x.turn, .int .i64 x.next, .int .i64 x.field.wide, .int .i64 x.field.high, .slice s.field.ground.A x.field.ground.length s.field.ground.c, .slice s.field.ore.A x.field.ore.length s.field.ore.c, .slice s.gold.A x.gold.length s.gold.c, .slice s.units.A x.units.length s.units.c, .slice s.queue.A x.queue.length s.queue.c], .int .i64 id, .int .i64 k] W4 fun e w' => (∃ E, e = .returned (.tuple #[.int .i64 0, .iface 93 (.int .i64 E)])) ∧ Below W4.heap.size W4 w' := wspot_no ⟨sA, sc⟩ L s x id k W4 hB.out.ks_ hB.out.wo_ h
    replace hc := Lib.hid hc
    clear h
    obtain ⟨m0, m1, m2, m3, m4, m5, m6, m7, m8, mll⟩ := hB.out.cells
    go_wp2_with fail
    refine hc.out.mono ?_
    clear m0 m1 m2 m3 m4 m5 m6 m7 m8 mll
    rintro e W5 ⟨⟨E, rfl⟩, hb⟩
    have hB5 := hB.out.below hb
    go_wp2_with fail
    go_ret
    exact ⟨rfl, hB5.b⟩
  have hwe : worldE L x = 0 := by
    by_cases c : worldE L x = 0
    · exact c
    · exact absurd (.inl c) h
  have hok : WorldOk L x := worldE_0 hwe
  have hf0 : ¬ findId x.units id < 0 := fun c => h (.inr (.inl c))
  have hk0 : ¬ k < 0 := fun c => h (.inr (.inr (.inl c)))
  have hk1 : ¬ (L.length : Int) ≤ k := fun c => h (.inr (.inr (.inr c)))
  obtain ⟨kd, rfl⟩ : ∃ kd : Nat, k = (kd : Int) := ⟨k.toNat, by omega⟩
  have hkd : kd < L.length := by omega
  obtain ⟨i, hf⟩ : ∃ i : Nat, findId x.units id = (i : Int) := ⟨(findId x.units id).toNat, by omega⟩
  have hi : i < x.units.length := by
    have := first_lt (fun v : GU => v.id == id) x.units
    unfold findId at hf hf0
    omega
  have hg := good_of x.field hok.field
  have hus := (unitE_ok (hok.units i hi)).spot
  clear h hwe hf0 hk0 hk1
  obtain ⟨bk, okk, hAk, _, _, _⟩ := rk_at hB.out.ks_.rd kd hkd
  dsimp only at hAk
  subst hAk
  have hc : Calls Tryd.prog 40 #[.slice (some ⟨bk, okk, none⟩) L.length sc, .agg #[.int .i64 x.turn, .int .i64 x.next, .int .i64 x.field.wide, .int .i64 x.field.high, .slice s.field.ground.A x.field.ground.length s.field.ground.c, .slice s.field.ore.A x.field.ore.length s.field.ore.c, .slice s.gold.A x.gold.length s.gold.c, .slice s.units.A x.units.length s.units.c, .slice s.queue.A x.queue.length s.queue.c], .int .i64 id, .int .i64 (kd : Int)] W4 fun e w' => ∃ fr, DFrom x.field (gk L kd).flies (gu x.units i).spot.toNat fr ∧ e = .returned (if 0 ≤ (spN fr x.units x.field.ground.length).1 then .tuple #[.int .i64 (spN fr x.units x.field.ground.length).1, .nilIface] else .tuple #[.int .i64 0, .iface 93 (.int .i64 6)]) ∧ Below W4.heap.size W4 w' := wspot_ok ⟨some ⟨bk, okk, none⟩, sc⟩ L s x id i kd W4 hB.out.ks_ hB.out.wo_ hok hi hf hkd
  replace hc := Lib.hid hc
  replace hok := Lib.hid hok
  replace hf := Lib.hid hf
  replace hg := Lib.hid hg
  replace hus := Lib.hid hus
  obtain ⟨m0, m1, m2, m3, m4, m5, m6, m7, m8, mll⟩ := hB.out.cells
  go_wp2_with fail
  refine hc.out.mono ?_
  clear hc m0 m1 m2 m3 m4 m5 m6 m7 m8 mll
  rintro e W5 ⟨fr, hfr, rfl, hb⟩
  replace hB := Lib.hid (hB.out.below hb)
  clear hb
  rcases spN_or fr x.units x.field.ground.length with hs | ⟨c, hcl, hs, h0, h4, hon⟩
  · as_aux_lemma =>
    rw [hs, if_neg (by decide)]
    clear hs hfr
    go_wp2_with fail
    go_ret
    exact ⟨rfl, hB.out.b⟩
  rw [hs, if_pos (by show (0 : Int) ≤ (c : Int); omega)]
  dsimp only
  clear hs
  replace hfr := Lib.hid hfr
  replace h0 := Lib.hid h0
  replace h4 := Lib.hid h4
  have hcl2 : (c : Int) < (x.field.ground.length : Int) := by omega
  have hce : cellE x.field (c : Int) = 0 := cellE_ok x.field (c : Int) hg.out (by omega) hcl2
  replace hce := Lib.hid hce
  obtain ⟨oi, hoi⟩ : ∃ oi, onI x.units (c : Int) = oi := ⟨_, rfl⟩
  rw [hoi] at hon
  obtain ⟨kf, hkf⟩ : ∃ kf, (gk L kd).flies = kf := ⟨_, rfl⟩
  rw [hkf] at hfr
  replace hkf := Lib.hid hkf
  have hkdi : (kd : Int) < (L.length : Int) := by omega
  have hc : Calls Tryd.prog 29 #[.agg #[.int .i64 x.turn, .int .i64 x.next, .int .i64 x.field.wide, .int .i64 x.field.high, .slice s.field.ground.A x.field.ground.length s.field.ground.c, .slice s.field.ore.A x.field.ore.length s.field.ore.c, .slice s.gold.A x.gold.length s.gold.c, .slice s.units.A x.units.length s.units.c, .slice s.queue.A x.queue.length s.queue.c], .int .i64 id] W5 fun e w' => e = .returned (.int .i64 (findId x.units id)) ∧ Below W5.heap.size W5 w' := wfind_any s x id W5 hB.out.wo_
  rw [hf.out] at hc
  replace hc := Lib.hid hc
  obtain ⟨m0, m1, m2, m3, m4, m5, m6, m7, m8, mll⟩ := hB.out.cells
  go_upto_region 11 with (go_at_call 29; refine hc.out.mono ?_; clear m0 m1 m2 m3 m4 m5 m6 m7 m8 mll; rintro e W6 ⟨rfl, hb⟩)
  clear hc
  replace hB := Lib.hid (hB.out.below hb)
  clear hb
  have n1 : ¬ (i : Int) < 0 := by omega
  have n2 : ¬ (c : Int) < 0 := by omega
  have n3 : ¬ (x.field.ground.length : Int) ≤ (c : Int) := by omega
  obtain ⟨m0, m1, m2, m3, m4, m5, m6, m7, m8, mll⟩ := hB.out.cells
  go_upto_region 13 with fail
  clear m0 m1 m2 m3 m4 m5 m6 m7 m8 mll
  have hS : ∀ wz, (SBx w wz ⟨some ⟨bk, okk, none⟩, sc⟩ L s x wb) → (fun wz => wz.cell? ⟨wb, 2, none⟩ = some (.int .i64 x.field.wide) ∧ wz.cell? ⟨wb, 3, none⟩ = some (.int .i64 x.field.high) ∧ wz.cell? ⟨wb, 4, none⟩ = some (.slice s.field.ground.A x.field.ground.length s.field.ground.c) ∧ wz.cell? ⟨wb, 5, none⟩ = some (.slice s.field.ore.A x.field.ore.length s.field.ore.c) ∧ wz.cell? ⟨bk, okk + kd * 11 + 9, none⟩ = some (.bool kf)) wz := fun wz h => by
    obtain ⟨_, _, m2, m3, m4, m5, _, _, _, _⟩ := h.cells
    have k9 := h.flies kd hkd
    rw [hkf.out] at k9
    exact ⟨m2, m3, m4, m5, k9⟩
  replace hS := Lib.hid hS
  have hXn : SBx w W6.drew ⟨some ⟨bk, okk, none⟩, sc⟩ L s x wb := hB.out.drewN 1
  clear hB
  have hB := Lib.hid hXn
  clear hXn
  have hfa : Calls Tryd.prog 41 #[.agg #[.int .i64 x.field.wide, .int .i64 x.field.high, .slice s.field.ground.A x.field.ground.length s.field.ground.c, .slice s.field.ore.A x.field.ore.length s.field.ore.c], .int .i64 (c : Int), .bool kf] W6.drew (FarPost W6.drew x.field c kf) := far_ok s.field x.field c kf W6.drew hB.out.wo_.2.2.1 hce.out
  replace hfa := Lib.hid hfa
  refine wp_region_noPanic ?_
  refine wp_region_held_drew (S := (fun wz => wz.cell? ⟨wb, 2, none⟩ = some (.int .i64 x.field.wide) ∧ wz.cell? ⟨wb, 3, none⟩ = some (.int .i64 x.field.high) ∧ wz.cell? ⟨wb, 4, none⟩ = some (.slice s.field.ground.A x.field.ground.length s.field.ground.c) ∧ wz.cell? ⟨wb, 5, none⟩ = some (.slice s.field.ore.A x.field.ore.length s.field.ore.c) ∧ wz.cell? ⟨bk, okk + kd * 11 + 9, none⟩ = some (.bool kf))) (by kernel_rfl) (hS.out _ hB.out) (fun hHeld => ?_)
  generalize W6.drew = Wd2 at *
  refine wpAnyH_take (i := 0) (oi := _) (v := ?_) rfl (by kernel_rfl) (by kernel_rfl) (by kernel_rfl) (fun _ _ _ h => h) (Or.inl ⟨by rfl, ?_⟩) (by assumption) ?_
  rotate_left
  · intro w' hSw
    try dsimp only at hSw
    first | (go_simp; done) | (go_simp; with_reducible rfl)
  try simp only [Act.put]
  try simp only [List.setIfInBounds_toArray]
  try simp only [List.set_cons_succ, List.set_cons_zero]
  try simp only [List.getElem_toArray]
  try simp only [List.getElem_cons_succ]
  try simp only [List.getElem_cons_zero]
  refine wpAnyH_take (i := 1) (oi := _) (v := ?_) rfl (by kernel_rfl) (by kernel_rfl) (by kernel_rfl) (fun _ _ _ h => h) (Or.inl ⟨by rfl, ?_⟩) (by assumption) ?_
  rotate_left
  · intro w' hSw
    try dsimp only at hSw
    first | (go_simp; done) | (go_simp; with_reducible rfl)
  try simp only [Act.put]
  try simp only [List.setIfInBounds_toArray]
  try simp only [List.set_cons_succ, List.set_cons_zero]
  try simp only [List.getElem_toArray]
  try simp only [List.getElem_cons_succ]
  try simp only [List.getElem_cons_zero]
  refine wpAnyH_take (i := 2) (oi := _) (v := ?_) rfl (by kernel_rfl) (by kernel_rfl) (by kernel_rfl) (fun _ _ _ h => h) (Or.inl ⟨by rfl, ?_⟩) (by assumption) ?_
  rotate_left
  · intro w' hSw
    try dsimp only at hSw
    first | (go_simp; done) | (go_simp; with_reducible rfl)
  try simp only [Act.put]
  try simp only [List.setIfInBounds_toArray]
  try simp only [List.set_cons_succ, List.set_cons_zero]
  try simp only [List.getElem_toArray]
  try simp only [List.getElem_cons_succ]
  try simp only [List.getElem_cons_zero]
  refine wpAnyH_take (i := 3) (oi := _) (v := ?_) rfl (by kernel_rfl) (by kernel_rfl) (by kernel_rfl) (fun _ _ _ h => h) (Or.inl ⟨by rfl, ?_⟩) (by assumption) ?_
  rotate_left
  · intro w' hSw
    try dsimp only at hSw
    first | (go_simp; done) | (go_simp; with_reducible rfl)
  try simp only [Act.put]
  try simp only [List.setIfInBounds_toArray]
  try simp only [List.set_cons_succ, List.set_cons_zero]
  try simp only [List.getElem_toArray]
  try simp only [List.getElem_cons_succ]
  try simp only [List.getElem_cons_zero]
  refine wpAnyH_take (i := 4) (oi := _) (v := ?_) rfl (by kernel_rfl) (by kernel_rfl) (by kernel_rfl) (fun _ _ _ h => h) (Or.inl ⟨by rfl, ?_⟩) (by assumption) ?_
  rotate_left
  · intro w' hSw
    try dsimp only at hSw
    first | (go_simp; done) | (go_simp; with_reducible rfl)
  try simp only [Act.put]
  try simp only [List.setIfInBounds_toArray]
  try simp only [List.set_cons_succ, List.set_cons_zero]
  try simp only [List.getElem_toArray]
  try simp only [List.getElem_cons_succ]
  try simp only [List.getElem_cons_zero]
  refine wpAnyH_take (i := 5) (oi := _) (v := ?_) rfl (by kernel_rfl) (by kernel_rfl) (by kernel_rfl) (fun _ _ _ h => h) (Or.inl ⟨by rfl, ?_⟩) (by assumption) ?_
  rotate_left
  · intro w' hSw
    try dsimp only at hSw
    first | (go_simp; done) | (go_simp; with_reducible rfl)
  try simp only [Act.put]
  try simp only [List.setIfInBounds_toArray]
  try simp only [List.set_cons_succ, List.set_cons_zero]
  try simp only [List.getElem_toArray]
  try simp only [List.getElem_cons_succ]
  try simp only [List.getElem_cons_zero]
  refine wpAnyH_take (i := 6) (oi := _) (v := ?_) rfl (by kernel_rfl) (by kernel_rfl) (by kernel_rfl) (fun _ _ _ h => h) (Or.inl ⟨by rfl, ?_⟩) (by assumption) ?_
  rotate_left
  · intro w' hSw
    try dsimp only at hSw
    first | (go_simp; done) | (go_simp; with_reducible rfl)
  try simp only [Act.put]
  try simp only [List.setIfInBounds_toArray]
  try simp only [List.set_cons_succ, List.set_cons_zero]
  try simp only [List.getElem_toArray]
  try simp only [List.getElem_cons_succ]
  try simp only [List.getElem_cons_zero]
  refine wpAnyH_take (i := 7) (oi := _) (v := ?_) rfl (by kernel_rfl) (by kernel_rfl) (by kernel_rfl) (fun _ _ _ h => h) (Or.inl ⟨by rfl, ?_⟩) (by assumption) ?_
  rotate_left
  · intro w' hSw
    try dsimp only at hSw
    first | (go_simp; done) | (go_simp; with_reducible rfl)
  try simp only [Act.put]
  try simp only [List.setIfInBounds_toArray]
  try simp only [List.set_cons_succ, List.set_cons_zero]
  try simp only [List.getElem_toArray]
  try simp only [List.getElem_cons_succ]
  try simp only [List.getElem_cons_zero]
  refine wpAnyH_ready (rs := [8]) (by kernel_rfl) (by simp) ?_
  refine AllReadyH.cons (o := { dst := some 75, op := .call { callee := .value (.func 41), args := #[.tmp 68, .tmp 69, .tmp 74], argTypes := #[52, 3, 4] }, type := _, pos := _, after := _, guard := none }) rfl (fun K hK => ?_) AllReadyH.nil
  go_simp
  refine hfa.out.mono ?_
  rintro e W7 ⟨g, far, rfl, hd, hgg, hkg, hb⟩
  have hBn := hB.out.below hb
  clear hB hHeld hb hfa hgg
  have hB := Lib.hid hBn
  clear hBn
  replace hd := Lib.hid hd
  replace hkg := Lib.hid hkg
  refine hK.out _ _ (hS.out _ hB.out) (fun hHeld => ?_)
  clear hK K
  try simp only [Act.put]
  try simp only [List.setIfInBounds_toArray]
  try simp only [List.set_cons_succ, List.set_cons_zero]
  try simp only [List.getElem_toArray]
  try simp only [List.getElem_cons_succ]
  try simp only [List.getElem_cons_zero]
  refine wpAnyH_take (i := 9) (oi := _) (v := ?_) rfl (by kernel_rfl) (by kernel_rfl) (by kernel_rfl) (fun _ _ _ h => h) (Or.inl ⟨by rfl, ?_⟩) (by assumption) ?_
  rotate_left
  · intro w' hSw
    try dsimp only at hSw
    first | (go_simp; done) | (go_simp; with_reducible rfl)
  try simp only [Act.put]
  try simp only [List.setIfInBounds_toArray]
  try simp only [List.set_cons_succ, List.set_cons_zero]
  try simp only [List.getElem_toArray]
  try simp only [List.getElem_cons_succ]
  try simp only [List.getElem_cons_zero]
  refine wpAnyH_take (i := 10) (oi := _) (v := ?_) rfl (by kernel_rfl) (by kernel_rfl) (by kernel_rfl) (fun _ _ _ h => h) (Or.inl ⟨by rfl, ?_⟩) (by assumption) ?_
  rotate_left
  · intro w' hSw
    try dsimp only at hSw
    first | (go_simp; done) | (go_simp; with_reducible rfl)
  try simp only [Act.put]
  try simp only [List.setIfInBounds_toArray]
  try simp only [List.set_cons_succ, List.set_cons_zero]
  try simp only [List.getElem_toArray]
  try simp only [List.getElem_cons_succ]
  try simp only [List.getElem_cons_zero]
  refine wpAnyH_take (i := 11) (oi := _) (v := ?_) rfl (by kernel_rfl) (by kernel_rfl) (by kernel_rfl) (fun _ _ _ h => h) (Or.inl ⟨by rfl, ?_⟩) (by assumption) ?_
  rotate_left
  · intro w' hSw
    try dsimp only at hSw
    first | (go_simp; done) | (go_simp; with_reducible rfl)
  try simp only [Act.put]
  try simp only [List.setIfInBounds_toArray]
  try simp only [List.set_cons_succ, List.set_cons_zero]
  try simp only [List.getElem_toArray]
  try simp only [List.getElem_cons_succ]
  try simp only [List.getElem_cons_zero]
  refine wpAnyH_take (i := 12) (oi := _) (v := ?_) rfl (by kernel_rfl) (by kernel_rfl) (by kernel_rfl) (fun _ _ _ h => h) (Or.inl ⟨by rfl, ?_⟩) (by assumption) ?_
  rotate_left
  · intro w' hSw
    try dsimp only at hSw
    first | (go_simp; done) | (go_simp; with_reducible rfl)
  try simp only [Act.put]
  try simp only [List.setIfInBounds_toArray]
  try simp only [List.set_cons_succ, List.set_cons_zero]
  try simp only [List.getElem_toArray]
  try simp only [List.getElem_cons_succ]
  try simp only [List.getElem_cons_zero]
  refine wpAnyH_take (i := 13) (oi := _) (v := ?_) rfl (by kernel_rfl) (by kernel_rfl) (by kernel_rfl) (fun _ _ _ h => h) (Or.inl ⟨by rfl, ?_⟩) (by assumption) ?_
  rotate_left
  · intro w' hSw
    try dsimp only at hSw
    first | (go_simp; done) | (go_simp; with_reducible rfl)
  try simp only [Act.put]
  try simp only [List.setIfInBounds_toArray]
  try simp only [List.set_cons_succ, List.set_cons_zero]
  try simp only [List.getElem_toArray]
  try simp only [List.getElem_cons_succ]
  try simp only [List.getElem_cons_zero]
  refine wpAnyH_done (by kernel_rfl) ?_ _
  refine NoPanic.normal ?_
  clear hHeld
  go_upto_region 14 with fail
  have hXn : SBx w W7.drew ⟨some ⟨bk, okk, none⟩, sc⟩ L s x wb := hB.out.drewN 1
  have hkg2 : Blk W7.drew g 3 (arrI far) := hkg.out.drewN 1
  clear hB hkg
  have hB := Lib.hid hXn
  have hkg := Lib.hid hkg2
  clear hXn hkg2
  have hst : Calls Tryd.prog 42 #[.agg #[.int .i64 x.field.wide, .int .i64 x.field.high, .slice s.field.ground.A x.field.ground.length s.field.ground.c, .slice s.field.ore.A x.field.ore.length s.field.ore.c], .int .i64 (c : Int), .bool kf] W7.drew fun e w' => e = .returned (.tuple #[.int .i64 (ontoL x.field c kf), .nilIface]) ∧ Below W7.drew.heap.size W7.drew w' := step_ok s.field x.field c kf W7.drew hB.out.wo_.2.2.1 hce.out
  replace hst := Lib.hid hst
  refine wp_region_noPanic ?_
  refine wp_region_held_drew (S := (fun wz => wz.cell? ⟨wb, 2, none⟩ = some (.int .i64 x.field.wide) ∧ wz.cell? ⟨wb, 3, none⟩ = some (.int .i64 x.field.high) ∧ wz.cell? ⟨wb, 4, none⟩ = some (.slice s.field.ground.A x.field.ground.length s.field.ground.c) ∧ wz.cell? ⟨wb, 5, none⟩ = some (.slice s.field.ore.A x.field.ore.length s.field.ore.c) ∧ wz.cell? ⟨bk, okk + kd * 11 + 9, none⟩ = some (.bool kf))) (by kernel_rfl) (hS.out _ hB.out) (fun hHeld => ?_)
  generalize W7.drew = Wd3 at *
  refine wpAnyH_take (i := 0) (oi := _) (v := ?_) rfl (by kernel_rfl) (by kernel_rfl) (by kernel_rfl) (fun _ _ _ h => h) (Or.inl ⟨by rfl, ?_⟩) (by assumption) ?_
  rotate_left
  · intro w' hSw
    try dsimp only at hSw
    first | (go_simp; done) | (go_simp; with_reducible rfl)
  try simp only [Act.put]
  try simp only [List.setIfInBounds_toArray]
  try simp only [List.set_cons_succ, List.set_cons_zero]
  try simp only [List.getElem_toArray]
  try simp only [List.getElem_cons_succ]
  try simp only [List.getElem_cons_zero]
  refine wpAnyH_take (i := 1) (oi := _) (v := ?_) rfl (by kernel_rfl) (by kernel_rfl) (by kernel_rfl) (fun _ _ _ h => h) (Or.inl ⟨by rfl, ?_⟩) (by assumption) ?_
  rotate_left
  · intro w' hSw
    try dsimp only at hSw
    first | (go_simp; done) | (go_simp; with_reducible rfl)
  try simp only [Act.put]
  try simp only [List.setIfInBounds_toArray]
  try simp only [List.set_cons_succ, List.set_cons_zero]
  try simp only [List.getElem_toArray]
  try simp only [List.getElem_cons_succ]
  try simp only [List.getElem_cons_zero]
  refine wpAnyH_take (i := 2) (oi := _) (v := ?_) rfl (by kernel_rfl) (by kernel_rfl) (by kernel_rfl) (fun _ _ _ h => h) (Or.inl ⟨by rfl, ?_⟩) (by assumption) ?_
  rotate_left
  · intro w' hSw
    try dsimp only at hSw
    first | (go_simp; done) | (go_simp; with_reducible rfl)
  try simp only [Act.put]
  try simp only [List.setIfInBounds_toArray]
  try simp only [List.set_cons_succ, List.set_cons_zero]
  try simp only [List.getElem_toArray]
  try simp only [List.getElem_cons_succ]
  try simp only [List.getElem_cons_zero]
  refine wpAnyH_take (i := 3) (oi := _) (v := ?_) rfl (by kernel_rfl) (by kernel_rfl) (by kernel_rfl) (fun _ _ _ h => h) (Or.inl ⟨by rfl, ?_⟩) (by assumption) ?_
  rotate_left
  · intro w' hSw
    try dsimp only at hSw
    first | (go_simp; done) | (go_simp; with_reducible rfl)
  try simp only [Act.put]
  try simp only [List.setIfInBounds_toArray]
  try simp only [List.set_cons_succ, List.set_cons_zero]
  try simp only [List.getElem_toArray]
  try simp only [List.getElem_cons_succ]
  try simp only [List.getElem_cons_zero]
  refine wpAnyH_take (i := 4) (oi := _) (v := ?_) rfl (by kernel_rfl) (by kernel_rfl) (by kernel_rfl) (fun _ _ _ h => h) (Or.inl ⟨by rfl, ?_⟩) (by assumption) ?_
  rotate_left
  · intro w' hSw
    try dsimp only at hSw
    first | (go_simp; done) | (go_simp; with_reducible rfl)
  try simp only [Act.put]
  try simp only [List.setIfInBounds_toArray]
  try simp only [List.set_cons_succ, List.set_cons_zero]
  try simp only [List.getElem_toArray]
  try simp only [List.getElem_cons_succ]
  try simp only [List.getElem_cons_zero]
  refine wpAnyH_take (i := 5) (oi := _) (v := ?_) rfl (by kernel_rfl) (by kernel_rfl) (by kernel_rfl) (fun _ _ _ h => h) (Or.inl ⟨by rfl, ?_⟩) (by assumption) ?_
  rotate_left
  · intro w' hSw
    try dsimp only at hSw
    first | (go_simp; done) | (go_simp; with_reducible rfl)
  try simp only [Act.put]
  try simp only [List.setIfInBounds_toArray]
  try simp only [List.set_cons_succ, List.set_cons_zero]
  try simp only [List.getElem_toArray]
  try simp only [List.getElem_cons_succ]
  try simp only [List.getElem_cons_zero]
  refine wpAnyH_take (i := 6) (oi := _) (v := ?_) rfl (by kernel_rfl) (by kernel_rfl) (by kernel_rfl) (fun _ _ _ h => h) (Or.inl ⟨by rfl, ?_⟩) (by assumption) ?_
  rotate_left
  · intro w' hSw
    try dsimp only at hSw
    first | (go_simp; done) | (go_simp; with_reducible rfl)
  try simp only [Act.put]
  try simp only [List.setIfInBounds_toArray]
  try simp only [List.set_cons_succ, List.set_cons_zero]
  try simp only [List.getElem_toArray]
  try simp only [List.getElem_cons_succ]
  try simp only [List.getElem_cons_zero]
  refine wpAnyH_take (i := 7) (oi := _) (v := ?_) rfl (by kernel_rfl) (by kernel_rfl) (by kernel_rfl) (fun _ _ _ h => h) (Or.inl ⟨by rfl, ?_⟩) (by assumption) ?_
  rotate_left
  · intro w' hSw
    try dsimp only at hSw
    first | (go_simp; done) | (go_simp; with_reducible rfl)
  try simp only [Act.put]
  try simp only [List.setIfInBounds_toArray]
  try simp only [List.set_cons_succ, List.set_cons_zero]
  try simp only [List.getElem_toArray]
  try simp only [List.getElem_cons_succ]
  try simp only [List.getElem_cons_zero]
  refine wpAnyH_ready (rs := [8]) (by kernel_rfl) (by simp) ?_
  refine AllReadyH.cons (o := { dst := some 87, op := .call { callee := .value (.func 42), args := #[.tmp 80, .tmp 81, .tmp 86], argTypes := #[52, 3, 4] }, type := _, pos := _, after := _, guard := none }) rfl (fun K hK => ?_) AllReadyH.nil
  go_simp
  refine hst.out.mono ?_
  rintro e W8 ⟨rfl, hb⟩
  have hBn := hB.out.below hb
  have hkgn := hkg.out.below hb hkg.out.lt
  clear hB hHeld hb hst hkg
  have hB := Lib.hid hBn
  have hkg := Lib.hid hkgn
  clear hBn hkgn
  refine hK.out _ _ (hS.out _ hB.out) (fun hHeld => ?_)
  clear hK K
  try simp only [Act.put]
  try simp only [List.setIfInBounds_toArray]
  try simp only [List.set_cons_succ, List.set_cons_zero]
  try simp only [List.getElem_toArray]
  try simp only [List.getElem_cons_succ]
  try simp only [List.getElem_cons_zero]
  refine wpAnyH_take (i := 9) (oi := _) (v := ?_) rfl (by kernel_rfl) (by kernel_rfl) (by kernel_rfl) (fun _ _ _ h => h) (Or.inl ⟨by rfl, ?_⟩) (by assumption) ?_
  rotate_left
  · intro w' hSw
    try dsimp only at hSw
    first | (go_simp; done) | (go_simp; with_reducible rfl)
  try simp only [Act.put]
  try simp only [List.setIfInBounds_toArray]
  try simp only [List.set_cons_succ, List.set_cons_zero]
  try simp only [List.getElem_toArray]
  try simp only [List.getElem_cons_succ]
  try simp only [List.getElem_cons_zero]
  refine wpAnyH_take (i := 10) (oi := _) (v := ?_) rfl (by kernel_rfl) (by kernel_rfl) (by kernel_rfl) (fun _ _ _ h => h) (Or.inl ⟨by rfl, ?_⟩) (by assumption) ?_
  rotate_left
  · intro w' hSw
    try dsimp only at hSw
    first | (go_simp; done) | (go_simp; with_reducible rfl)
  try simp only [Act.put]
  try simp only [List.setIfInBounds_toArray]
  try simp only [List.set_cons_succ, List.set_cons_zero]
  try simp only [List.getElem_toArray]
  try simp only [List.getElem_cons_succ]
  try simp only [List.getElem_cons_zero]
  refine wpAnyH_take (i := 11) (oi := _) (v := ?_) rfl (by kernel_rfl) (by kernel_rfl) (by kernel_rfl) (fun _ _ _ h => h) (Or.inl ⟨by rfl, ?_⟩) (by assumption) ?_
  rotate_left
  · intro w' hSw
    try dsimp only at hSw
    first | (go_simp; done) | (go_simp; with_reducible rfl)
  try simp only [Act.put]
  try simp only [List.setIfInBounds_toArray]
  try simp only [List.set_cons_succ, List.set_cons_zero]
  try simp only [List.getElem_toArray]
  try simp only [List.getElem_cons_succ]
  try simp only [List.getElem_cons_zero]
  refine wpAnyH_take (i := 12) (oi := _) (v := ?_) rfl (by kernel_rfl) (by kernel_rfl) (by kernel_rfl) (fun _ _ _ h => h) (Or.inl ⟨by rfl, ?_⟩) (by assumption) ?_
  rotate_left
  · intro w' hSw
    try dsimp only at hSw
    first | (go_simp; done) | (go_simp; with_reducible rfl)
  try simp only [Act.put]
  try simp only [List.setIfInBounds_toArray]
  try simp only [List.set_cons_succ, List.set_cons_zero]
  try simp only [List.getElem_toArray]
  try simp only [List.getElem_cons_succ]
  try simp only [List.getElem_cons_zero]
  refine wpAnyH_take (i := 13) (oi := _) (v := ?_) rfl (by kernel_rfl) (by kernel_rfl) (by kernel_rfl) (fun _ _ _ h => h) (Or.inl ⟨by rfl, ?_⟩) (by assumption) ?_
  rotate_left
  · intro w' hSw
    try dsimp only at hSw
    first | (go_simp; done) | (go_simp; with_reducible rfl)
  try simp only [Act.put]
  try simp only [List.setIfInBounds_toArray]
  try simp only [List.set_cons_succ, List.set_cons_zero]
  try simp only [List.getElem_toArray]
  try simp only [List.getElem_cons_succ]
  try simp only [List.getElem_cons_zero]
  refine wpAnyH_done (by kernel_rfl) ?_ _
  refine NoPanic.normal ?_
  clear hHeld hS
  have hc : Calls Tryd.prog 43 #[.agg #[.int .i64 x.turn, .int .i64 x.next, .int .i64 x.field.wide, .int .i64 x.field.high, .slice s.field.ground.A x.field.ground.length s.field.ground.c, .slice s.field.ore.A x.field.ore.length s.field.ore.c, .slice s.gold.A x.gold.length s.gold.c, .slice s.units.A x.units.length s.units.c, .slice s.queue.A x.queue.length s.queue.c], .int .i64 (c : Int)] W8 fun e w' => e = .returned (.int .i64 (onI x.units (c : Int))) ∧ Below W8.heap.size W8 w' := ron_any s x (c : Int) W8 hB.out.wo_
  rw [hoi] at hc
  replace hc := Lib.hid hc
  obtain ⟨m0, m1, m2, m3, m4, m5, m6, m7, m8, mll⟩ := hB.out.cells
  go_upto_region 16 with (go_at_call 43; refine hc.out.mono ?_; clear m0 m1 m2 m3 m4 m5 m6 m7 m8 mll; rintro e W9 ⟨rfl, hb⟩)
  clear hc
  replace hB := Lib.hid (hB.out.below hb)
  replace hkg := Lib.hid (hkg.out.below hb hkg.out.lt)
  clear hb
  have hlaw := spot_law hg.out hi hus.out.1 hfr.out hd.out hcl h0.out h4.out (by rw [hoi]; exact hon)
  obtain ⟨l1, l2, l3⟩ := hlaw
  obtain ⟨ub, uo, hUA, _, _, _, _, u3, _⟩ := ru_at hB.out.wo_.2.2.2.2.1.1 i hi
  obtain ⟨a, hsa⟩ : ∃ a : Nat, (gu x.units i).spot = (a : Int) := ⟨(gu x.units i).spot.toNat, by have := hus.out.1; omega⟩
  have hus2 := hus.out.2
  rw [hsa] at u3 hus2 l1 l2
  rw [Int.toNat_natCast] at l1 l2
  have hca := hkg.out.atI a (by rw [hd.out.len]; omega)
  generalize at0 far a = fa at *
  generalize ontoL x.field c kf = ov at *
  have y1 : decide (0 < ov) = true := decide_eq_true l3
  have y2 : decide (oi < 0) = true := decide_eq_true hon
  have y3 : decide (0 < fa) = true := decide_eq_true l1
  have y4 : decide (fa ≤ 3) = true := decide_eq_true l2
  have hii : (i : Int) < (x.units.length : Int) := by omega
  obtain ⟨_, _, _, _, _, _, _, m7, _, mll⟩ := hB.out.cells
  rw [hUA] at m7
  replace hUA := Lib.hid hUA
  replace hsa := Lib.hid hsa
  replace hoi := Lib.hid hoi
  clear hus
  go_wp2_with fail
  go_ret
  exact ⟨rfl, hB.out.b⟩
theorem worksSpots_any (v0 : Value) (x0 : SL × List GK) (v1 : Value) (x1 : SW × GW) (a2 a3 : Int) (w : World) (h0 : v0 = .slice x0.1.A x0.2.length x0.1.c ∧ SLK w x0.1 x0.2) (h1 : v1 = .agg (wV x1.1 x1.2).toArray ∧ WOk w x1.1 x1.2) (h2 : (Lit.int .i64 a2).wf = true) (h3 : (Lit.int .i64 a3).wf = true) :
    Calls Tryd.prog 8 #[v0, v1, .int .i64 a2, .int .i64 a3] w fun e w' => e = .returned (.bool true) ∧ Below w.heap.size w w' := by
  obtain ⟨rfl, hK⟩ := h0
  obtain ⟨rfl, hW⟩ := h1
  exact worksSpots_in x0.1 x0.2 x1.1 x1.2 a2 a3 w hK.ks hW
end Go.Proofs.YtkgkpggfoieioaaDoor
