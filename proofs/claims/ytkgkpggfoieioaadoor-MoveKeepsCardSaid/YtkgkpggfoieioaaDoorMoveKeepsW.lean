import Derived.Test.YtkgkpggfoieioaaDoorKeepD
import Derived.Deep.CutBlock
import Derived.Deep.DeepCutAuto
namespace Go.Proofs.YtkgkpggfoieioaaDoor
set_option linter.unusedVariables false
open Go.RowKit
/-! MoveKeeps. -/
set_option maxHeartbeats 12800000 in
set_option maxRecDepth 100000 in
theorem moveKeeps_in (sK : SL) (L : List GK) (s : SW) (x : GW) (w : World) (hK : KS w w.heap.size sK L) (hW : WOk w s x) :
    Calls Tryd.prog 10 #[.slice sK.A L.length sK.c, .agg #[.int .i64 x.turn, .int .i64 x.next, .int .i64 x.field.wide, .int .i64 x.field.high, .slice s.field.ground.A x.field.ground.length s.field.ground.c, .slice s.field.ore.A x.field.ore.length s.field.ore.c, .slice s.gold.A x.gold.length s.gold.c, .slice s.units.A x.units.length s.units.c, .slice s.queue.A x.queue.length s.queue.c]] w fun e w' => e = .returned (.bool true) ∧ Below w.heap.size w w' := by
  have hB : SBx w (w.alloc (.cells #[.int .i64 x.turn, .int .i64 x.next, .int .i64 x.field.wide, .int .i64 x.field.high, .slice s.field.ground.A x.field.ground.length s.field.ground.c, .slice s.field.ore.A x.field.ore.length s.field.ore.c, .slice s.gold.A x.gold.length s.gold.c, .slice s.units.A x.units.length s.units.c, .slice s.queue.A x.queue.length s.queue.c] 55)) sK L s x w.heap.size := sbx_start w sK L s x hK hW
  obtain ⟨z, z2, y, hF⟩ := keep_fact
  obtain ⟨sA, sc⟩ := sK
  dsimp only
  have hcap := hK.cap
  have hmx := hK.max
  have hul := hW.ulen
  dsimp only at hcap hmx
  replace hB := Lib.hid hB
  replace hF := Lib.hid hF
  clear hK hW
  go_enter Tryd.func10, Tryd.ntmps10
  go_upto_region 1 with fail
  generalize (w.alloc (.cells #[.int .i64 x.turn, .int .i64 x.next, .int .i64 x.field.wide, .int .i64 x.field.high, .slice s.field.ground.A x.field.ground.length s.field.ground.c, .slice s.field.ore.A x.field.ore.length s.field.ore.c, .slice s.gold.A x.gold.length s.gold.c, .slice s.units.A x.units.length s.units.c, .slice s.queue.A x.queue.length s.queue.c] 55)) = W at *
  obtain ⟨wb, hwb⟩ : ∃ wb, w.heap.size = wb := ⟨_, rfl⟩
  rw [hwb] at hB
  rw [hwb]
  replace hB : SBx w W ⟨sA, sc⟩ L s x wb := hB.out
  replace hB := Lib.hid hB
  replace hwb := Lib.hid hwb
  go_upto_region 2 with (go_at_call 44; refine (hF.out.small _).mono ?_; rintro e W1 ⟨sm, rfl, hO, hb⟩)
  have hal : Below W1.heap.size W1 (W1.alloc (.cells #[.int .i64 z.turn, .int .i64 z.next, .int .i64 z.field.wide, .int .i64 z.field.high, .slice sm.field.ground.A z.field.ground.length sm.field.ground.c, .slice sm.field.ore.A z.field.ore.length sm.field.ore.c, .slice sm.gold.A z.gold.length sm.gold.c, .slice sm.units.A z.units.length sm.units.c, .slice sm.queue.A z.queue.length sm.queue.c] 55)) := (Below.refl _ _).alloc (Nat.le_refl _) _
  have hP : Blk (W1.alloc (.cells #[.int .i64 z.turn, .int .i64 z.next, .int .i64 z.field.wide, .int .i64 z.field.high, .slice sm.field.ground.A z.field.ground.length sm.field.ground.c, .slice sm.field.ore.A z.field.ore.length sm.field.ore.c, .slice sm.gold.A z.gold.length sm.gold.c, .slice sm.units.A z.units.length sm.units.c, .slice sm.queue.A z.queue.length sm.queue.c] 55)) W1.heap.size 55 #[.int .i64 z.turn, .int .i64 z.next, .int .i64 z.field.wide, .int .i64 z.field.high, .slice sm.field.ground.A z.field.ground.length sm.field.ground.c, .slice sm.field.ore.A z.field.ore.length sm.field.ore.c, .slice sm.gold.A z.gold.length sm.gold.c, .slice sm.units.A z.units.length sm.units.c, .slice sm.queue.A z.queue.length sm.queue.c] := Blk.new _ _ _
  have hO1 := (hO.below hal).base (b' := W.heap.size) (Nat.le_refl _)
  have hWs : w.heap.size ≤ W.heap.size ∧ wb < W.heap.size := ⟨hB.out.b.size, hB.out.kw.lt⟩
  have hWl : W.heap.size ≤ W1.heap.size := hb.size
  have hBn := (hB.out.below hb).below hal
  obtain ⟨gf, cf, hgA, hgb, hgl⟩ : ∃ gf cf, sm.units = ⟨some ⟨gf, 0, none⟩, cf⟩ ∧ W.heap.size ≤ gf ∧ gf < W1.heap.size := by
    obtain ⟨g, cap, hv, h1, h2⟩ := hO.u.form (by rw [hF.out.len]; omega)
    injection hv with e1 e2 e3
    refine ⟨g, cap, ?_, h1, h2⟩
    cases hsu : sm.units with
    | mk A c => rw [hsu] at e1 e3; dsimp only at e1 e3; rw [e1, e3]
  clear hB hb hal hO
  have hB := Lib.hid hBn
  clear hBn
  generalize (W1.alloc (.cells #[.int .i64 z.turn, .int .i64 z.next, .int .i64 z.field.wide, .int .i64 z.field.high, .slice sm.field.ground.A z.field.ground.length sm.field.ground.c, .slice sm.field.ore.A z.field.ore.length sm.field.ore.c, .slice sm.gold.A z.gold.length sm.gold.c, .slice sm.units.A z.units.length sm.units.c, .slice sm.queue.A z.queue.length sm.queue.c] 55)) = W2 at *
  obtain ⟨pf, hpf⟩ : ∃ pf, W1.heap.size = pf := ⟨_, rfl⟩
  rw [hpf] at hP hgl hWl ⊢
  clear hpf
  obtain ⟨smf, smg, smu, smq⟩ := sm
  dsimp only at hgA hP hO1 ⊢
  subst hgA
  dsimp only at hP ⊢
  have hst := hF.out.step W2 W.heap.size _ gf hO1 rfl
  have hlen := hF.out.len
  have z3 : (2 : Int) < (z.units.length : Int) := by omega
  have o6 : W2.cell? ⟨gf, 22, none⟩ = some (.int .i64 (gu z.units 2).task) := by
    have := hO1.u.cellAt 22 (by rw [hlen]; omega)
    rw [show (22 : Nat) = 2 * 8 + 6 by rfl, flat_get uC 8 uC_len z.units 2 6 (by omega), gu_get (by omega)] at this
    exact this
  have o7 : W2.cell? ⟨gf, 23, none⟩ = some (.int .i64 (gu z.units 2).goal) := by
    have := hO1.u.cellAt 23 (by rw [hlen]; omega)
    rw [show (23 : Nat) = 2 * 8 + 7 by rfl, flat_get uC 8 uC_len z.units 2 7 (by omega), gu_get (by omega)] at this
    exact this
  have f6 : W2.frozen? ⟨gf, 22, none⟩ = false := hO1.u.frozenAt 22
  have f7 : W2.frozen? ⟨gf, 23, none⟩ = false := hO1.u.frozenAt 23
  have a7 : W2.cell? ⟨pf, 7, none⟩ = some (.slice (some ⟨gf, 0, none⟩) z.units.length cf) := hP.cell 7
  have al := hP.lt
  have hgl2 : gf < W2.heap.size := by have := hP.lt; omega
  have hgp : gf ≠ pf := by omega
  replace hst := Lib.hid hst
  replace hP := Lib.hid hP
  replace hlen := Lib.hid hlen
  clear hO1
  go_upto_region 6 with fail
  have hBn : SBx w ((W2.setCell ⟨gf, 22, none⟩ (.int .i64 1)).setCell ⟨gf, 23, none⟩ (.int .i64 2)) ⟨sA, sc⟩ L s x wb := (hB.out.farK (b := gf) (by omega) (by omega)).farK (by omega) (by omega)
  have hPn : Blk ((W2.setCell ⟨gf, 22, none⟩ (.int .i64 1)).setCell ⟨gf, 23, none⟩ (.int .i64 2)) pf 55 #[.int .i64 z.turn, .int .i64 z.next, .int .i64 z.field.wide, .int .i64 z.field.high, .slice smf.ground.A z.field.ground.length smf.ground.c, .slice smf.ore.A z.field.ore.length smf.ore.c, .slice smg.A z.gold.length smg.c, .slice (some ⟨gf, 0, none⟩) z.units.length cf, .slice smq.A z.queue.length smq.c] := (hP.out.far (p := ⟨gf, 22, none⟩) (by show pf ≠ gf; omega) _).far (p := ⟨gf, 23, none⟩) (by show pf ≠ gf; omega) _
  have hWz : WOk ((W2.setCell ⟨gf, 22, none⟩ (.int .i64 1)).setCell ⟨gf, 23, none⟩ (.int .i64 2)) ⟨smf, smg, ⟨some ⟨gf, 0, none⟩, cf⟩, smq⟩ z2 := hst.out.wok hF.out.int
  clear hB hP hst o6 o7 f6 f7 a7 al hgl2
  generalize ((W2.setCell ⟨gf, 22, none⟩ (.int .i64 1)).setCell ⟨gf, 23, none⟩ (.int .i64 2)) = WF at *
  have hB := Lib.hid (hBn.drewN 1)
  have hP := Lib.hid (hPn.drewN 1)
  have hW : Hid (WOk WF.drew ⟨smf, smg, ⟨some ⟨gf, 0, none⟩, cf⟩, smq⟩ z2) := Lib.hid (hWz.drewN 1)
  have hB : Hid (SBx w WF.drew ⟨sA, sc⟩ L s x wb) := hB
  have hP : Hid (Blk WF.drew pf 55 #[.int .i64 z.turn, .int .i64 z.next, .int .i64 z.field.wide, .int .i64 z.field.high, .slice smf.ground.A z.field.ground.length smf.ground.c, .slice smf.ore.A z.field.ore.length smf.ore.c, .slice smg.A z.gold.length smg.c, .slice (some ⟨gf, 0, none⟩) z.units.length cf, .slice smq.A z.queue.length smq.c]) := hP
  clear hBn hPn hWz
  go_cut [7, 8, 9] (fun v7 v8 v9 wx0 => ∃ wx, wx = wx0 ∧ ∃ px sF A c, v7 = .pointer (some ⟨px, 0, none⟩) ∧ v8 = .slice A 1 c ∧ v9 = .nilIface ∧ Hid (SBx w wx ⟨sA, sc⟩ L s x wb) ∧ Hid (Blk wx px 55 #[.int .i64 y.turn, .int .i64 y.next, .int .i64 y.field.wide, .int .i64 y.field.high, .slice sF.field.ground.A y.field.ground.length sF.field.ground.c, .slice sF.field.ore.A y.field.ore.length sF.field.ore.c, .slice sF.gold.A y.gold.length sF.gold.c, .slice sF.units.A y.units.length sF.units.c, .slice sF.queue.A y.queue.length sF.queue.c]) ∧ Hid (WRd wx wx.heap.size sF y))
  case first =>
    as_aux_lemma =>
    have hS0 : (fun wz : World => wz.cell? ⟨pf, 0, none⟩ = some (.int .i64 z.turn) ∧ wz.cell? ⟨pf, 1, none⟩ = some (.int .i64 z.next) ∧ wz.cell? ⟨pf, 2, none⟩ = some (.int .i64 z.field.wide) ∧ wz.cell? ⟨pf, 3, none⟩ = some (.int .i64 z.field.high) ∧ wz.cell? ⟨pf, 4, none⟩ = some (.slice smf.ground.A z.field.ground.length smf.ground.c) ∧ wz.cell? ⟨pf, 5, none⟩ = some (.slice smf.ore.A z.field.ore.length smf.ore.c) ∧ wz.cell? ⟨pf, 6, none⟩ = some (.slice smg.A z.gold.length smg.c) ∧ wz.cell? ⟨pf, 7, none⟩ = some (.slice (some ⟨gf, 0, none⟩) z.units.length cf) ∧ wz.cell? ⟨pf, 8, none⟩ = some (.slice smq.A z.queue.length smq.c)) WF.drew := ⟨hP.out.cell 0, hP.out.cell 1, hP.out.cell 2, hP.out.cell 3, hP.out.cell 4, hP.out.cell 5, hP.out.cell 6, hP.out.cell 7, hP.out.cell 8⟩
    refine wp_region_noPanic ?_
    refine wp_region_held_drew (S := (fun wz : World => wz.cell? ⟨pf, 0, none⟩ = some (.int .i64 z.turn) ∧ wz.cell? ⟨pf, 1, none⟩ = some (.int .i64 z.next) ∧ wz.cell? ⟨pf, 2, none⟩ = some (.int .i64 z.field.wide) ∧ wz.cell? ⟨pf, 3, none⟩ = some (.int .i64 z.field.high) ∧ wz.cell? ⟨pf, 4, none⟩ = some (.slice smf.ground.A z.field.ground.length smf.ground.c) ∧ wz.cell? ⟨pf, 5, none⟩ = some (.slice smf.ore.A z.field.ore.length smf.ore.c) ∧ wz.cell? ⟨pf, 6, none⟩ = some (.slice smg.A z.gold.length smg.c) ∧ wz.cell? ⟨pf, 7, none⟩ = some (.slice (some ⟨gf, 0, none⟩) z.units.length cf) ∧ wz.cell? ⟨pf, 8, none⟩ = some (.slice smq.A z.queue.length smq.c))) (by kernel_rfl) hS0 (fun hHeld => ?_)
    clear hS0
    generalize WF.drew = Wd at *
    refine wpAnyH_take (i := 1) (oi := _) (v := ?_) rfl (by kernel_rfl) (by kernel_rfl) (by kernel_rfl) (fun _ _ _ h => h) (Or.inl ⟨by rfl, ?_⟩) (by assumption) ?_
    rotate_left
    · intro w' hSw
      try dsimp only at hSw
      first | (go_simp; done) | (go_simp; with_reducible rfl)
    try simp only [Act.put]
    try simp only [List.setIfInBounds_toArray]
    try simp only [List.set_cons_succ, List.set_cons_zero]
    try simp only [List.getElem_toArray]
    try simp only [List.getElem_cons_succ]
    try simp only [List.getElem_cons_zero]
    refine wpAnyH_ready (rs := [0, 7]) (by kernel_rfl) (by simp) ?_
    refine AllReadyH.cons (o := { dst := some 44, op := .call { callee := .value (.func 46), args := #[], argTypes := #[] }, type := _, pos := _, after := _, guard := none }) rfl (fun K hK => ?_) (AllReadyH.cons (o := _) rfl (fun K hK => ?_) AllReadyH.nil)
    · go_simp
      refine (kinds2_any _).mono ?_
      rintro e w2 ⟨rfl, hk1, hbs, hk2⟩
      have hKs := Lib.hid (KS.more hk1 hk2)
      clear hHeld hk1 hk2
      generalize hAk : (some (⟨Wd.heap.size, 0, none⟩ : Addr)) = Ak at *
      clear hAk
      have hBn := hB.out.below hbs
      have hPn := hP.out.below hbs hP.out.lt
      clear hB hP
      have hB := Lib.hid hBn
      have hP := Lib.hid hPn
      clear hBn hPn
      have hWn := hW.out.below hbs
      clear hW
      have hW := Lib.hid hWn
      clear hWn
      clear hbs
      refine hK.out _ _ ⟨hP.out.cell 0, hP.out.cell 1, hP.out.cell 2, hP.out.cell 3, hP.out.cell 4, hP.out.cell 5, hP.out.cell 6, hP.out.cell 7, hP.out.cell 8⟩ (fun hHeld => ?_)
      clear hK K
      try simp only [Act.put]
      try simp only [List.setIfInBounds_toArray]
      try simp only [List.set_cons_succ, List.set_cons_zero]
      try simp only [List.getElem_toArray]
      try simp only [List.getElem_cons_succ]
      try simp only [List.getElem_cons_zero]
      refine wpAnyH_ready (rs := [2, 7]) (by kernel_rfl) (by simp) ?_
      refine AllReadyH.cons (o := { dst := some 46, op := .call { callee := .value (.func 49), args := #[.tmp 44, .tmp 45], argTypes := #[22, 55] }, type := _, pos := _, after := _, guard := none }) rfl (fun K hK => ?_) (AllReadyH.cons (o := _) rfl (fun K hK => ?_) AllReadyH.nil)
      · go_simp
        refine (hF.out.move _ _ ⟨smf, smg, ⟨some ⟨gf, 0, none⟩, cf⟩, smq⟩ _ hKs.out hW.out).mono ?_
        rintro e w3 ⟨sF, A', c', rfl, hO, hbs⟩
        clear hKs hW hHeld
        have hBn := hB.out.below hbs
        have hPn := hP.out.below hbs hP.out.lt
        clear hB hP
        have hB := Lib.hid hBn
        have hP := Lib.hid hPn
        clear hBn hPn
        clear hbs
        refine hK.out _ _ ⟨hP.out.cell 0, hP.out.cell 1, hP.out.cell 2, hP.out.cell 3, hP.out.cell 4, hP.out.cell 5, hP.out.cell 6, hP.out.cell 7, hP.out.cell 8⟩ (fun hHeld => ?_)
        clear hK K
        try simp only [Act.put]
        try simp only [List.setIfInBounds_toArray]
        try simp only [List.set_cons_succ, List.set_cons_zero]
        try simp only [List.getElem_toArray]
        try simp only [List.getElem_cons_succ]
        try simp only [List.getElem_cons_zero]
        have hR := Lib.hid (wrd_ownK hO)
        have hpl : pf < w3.heap.size := hP.out.lt
        refine wpAnyH_take (i := 3) (oi := _) (v := ?_) rfl (by kernel_rfl) (by kernel_rfl) (by kernel_rfl) (fun _ _ _ h => h) (Or.inl ⟨by rfl, ?_⟩) (by assumption) ?_
        rotate_left
        · intro w' hSw
          try dsimp only at hSw
          first | (go_simp; done) | (go_simp; with_reducible rfl)
        try simp only [Act.put]
        try simp only [List.setIfInBounds_toArray]
        try simp only [List.set_cons_succ, List.set_cons_zero]
        try simp only [List.getElem_toArray]
        try simp only [List.getElem_cons_succ]
        try simp only [List.getElem_cons_zero]
        refine wpAnyH_take (i := 4) (oi := _) (v := ?_) rfl (by kernel_rfl) (by kernel_rfl) (by kernel_rfl) (fun _ _ _ h => h) (Or.inl ⟨by rfl, ?_⟩) (by assumption) ?_
        rotate_left
        · intro w' hSw
          try dsimp only at hSw
          first | (go_simp; done) | (go_simp; with_reducible rfl)
        try simp only [Act.put]
        try simp only [List.setIfInBounds_toArray]
        try simp only [List.set_cons_succ, List.set_cons_zero]
        try simp only [List.getElem_toArray]
        try simp only [List.getElem_cons_succ]
        try simp only [List.getElem_cons_zero]
        refine wpAnyH_take (i := 5) (oi := _) (v := ?_) rfl (by kernel_rfl) (by kernel_rfl) (by kernel_rfl) (fun _ _ _ h => h) (Or.inl ⟨by rfl, ?_⟩) (by assumption) ?_
        rotate_left
        · intro w' hSw
          try dsimp only at hSw
          first | (go_simp; done) | (go_simp; with_reducible rfl)
        try simp only [Act.put]
        try simp only [List.setIfInBounds_toArray]
        try simp only [List.set_cons_succ, List.set_cons_zero]
        try simp only [List.getElem_toArray]
        try simp only [List.getElem_cons_succ]
        try simp only [List.getElem_cons_zero]
        refine wpAnyH_take (i := 6) (oi := _) (v := ?_) rfl (by kernel_rfl) (by kernel_rfl) (by kernel_rfl) (fun _ _ _ h => h) (Or.inl ⟨by rfl, ?_⟩) (by assumption) ?_
        rotate_left
        · intro w' hSw
          try dsimp only at hSw
          first | (go_simp; done) | (go_simp; with_reducible rfl)
        try simp only [Act.put]
        try simp only [List.setIfInBounds_toArray]
        try simp only [List.set_cons_succ, List.set_cons_zero]
        try simp only [List.getElem_toArray]
        try simp only [List.getElem_cons_succ]
        try simp only [List.getElem_cons_zero]
        refine wpAnyH_ready (rs := [7]) (by kernel_rfl) (by simp) ?_
        refine AllReadyH.cons (o := _) rfl (fun K hK => ?_) AllReadyH.nil
        go_simp
        have hbs : Below w3.heap.size w3 (w3.alloc (.cells #[.int .i64 0, .int .i64 0, .int .i64 0, .int .i64 0, .slice none 0 0, .slice none 0 0, .slice none 0 0, .slice none 0 0, .slice none 0 0] 55)) := (Below.refl _ _).alloc (Nat.le_refl _) _
        have hX : Blk (w3.alloc (.cells #[.int .i64 0, .int .i64 0, .int .i64 0, .int .i64 0, .slice none 0 0, .slice none 0 0, .slice none 0 0, .slice none 0 0, .slice none 0 0] 55)) w3.heap.size 55 #[.int .i64 0, .int .i64 0, .int .i64 0, .int .i64 0, .slice none 0 0, .slice none 0 0, .slice none 0 0, .slice none 0 0, .slice none 0 0] := Blk.new _ _ _
        have hxw : w.heap.size ≤ w3.heap.size := hB.out.b.size
        have hxb : wb ≠ w3.heap.size := by have := hB.out.kw.lt; omega
        clear hHeld
        have hBn := hB.out.below hbs
        have hPn := hP.out.below hbs hP.out.lt
        clear hB hP
        have hB := Lib.hid hBn
        have hP := Lib.hid hPn
        clear hBn hPn
        have hRn := (hR.out.below ((Below.refl _ _).alloc (Nat.le_refl _) (.cells #[.int .i64 0, .int .i64 0, .int .i64 0, .int .i64 0, .slice none 0 0, .slice none 0 0, .slice none 0 0, .slice none 0 0, .slice none 0 0] 55)))
        clear hbs
        refine hK.out _ _ ⟨hP.out.cell 0, hP.out.cell 1, hP.out.cell 2, hP.out.cell 3, hP.out.cell 4, hP.out.cell 5, hP.out.cell 6, hP.out.cell 7, hP.out.cell 8⟩ (fun hHeld => ?_)
        clear hK K
        try simp only [Act.put]
        try simp only [List.setIfInBounds_toArray]
        try simp only [List.set_cons_succ, List.set_cons_zero]
        try simp only [List.getElem_toArray]
        try simp only [List.getElem_cons_succ]
        try simp only [List.getElem_cons_zero]
        obtain ⟨px, hpx⟩ : ∃ px, w3.heap.size = px := ⟨_, rfl⟩
        rw [hpx] at hX hxw hxb ⊢
        generalize (w3.alloc (.cells #[.int .i64 0, .int .i64 0, .int .i64 0, .int .i64 0, .slice none 0 0, .slice none 0 0, .slice none 0 0, .slice none 0 0, .slice none 0 0] 55)) = wa at *
        replace hX := Lib.hid hX
        replace hxw := Lib.hid hxw
        replace hxb := Lib.hid hxb
        have hpp : Hid (pf ≠ px) := Lib.hid (by omega)
        rw [hpx] at hRn
        refine wpAnyH_ready (rs := [8]) (by kernel_rfl) (by simp) ?_
        refine AllReadyH.cons (o := { dst := none, op := .store 55 (.tmp 7) (.tmp 47), type := _, pos := _, after := _, guard := none }) rfl (fun K hK => ?_) AllReadyH.nil
        rw [if_pos (by rfl)]
        refine wp_store_row 55 (.tmp 7) (.tmp 47) rfl px #[.int .i64 y.turn, .int .i64 y.next, .int .i64 y.field.wide, .int .i64 y.field.high, .slice sF.field.ground.A y.field.ground.length sF.field.ground.c, .slice sF.field.ore.A y.field.ore.length sF.field.ore.c, .slice sF.gold.A y.gold.length sF.gold.c, .slice sF.units.A y.units.length sF.units.c, .slice sF.queue.A y.queue.length sF.queue.c] (by rfl) (by rfl) 55 #[.int .i64 0, .int .i64 0, .int .i64 0, .int .i64 0, .slice none 0 0, .slice none 0 0, .slice none 0 0, .slice none 0 0, .slice none 0 0] hX.out (by kernel_rfl) rfl (by simp [Value.oneCell']) ?_
        have hBf := Lib.hid (hB.out.rowK hxw.out hxb.out #[.int .i64 y.turn, .int .i64 y.next, .int .i64 y.field.wide, .int .i64 y.field.high, .slice sF.field.ground.A y.field.ground.length sF.field.ground.c, .slice sF.field.ore.A y.field.ore.length sF.field.ore.c, .slice sF.gold.A y.gold.length sF.gold.c, .slice sF.units.A y.units.length sF.units.c, .slice sF.queue.A y.queue.length sF.queue.c])
        have hXf : Hid (Blk _ px 55 #[.int .i64 y.turn, .int .i64 y.next, .int .i64 y.field.wide, .int .i64 y.field.high, .slice sF.field.ground.A y.field.ground.length sF.field.ground.c, .slice sF.field.ore.A y.field.ore.length sF.field.ore.c, .slice sF.gold.A y.gold.length sF.gold.c, .slice sF.units.A y.units.length sF.units.c, .slice sF.queue.A y.queue.length sF.queue.c]) := Lib.hid (setRow_heap _ px _ _ _ _ hX.out)
        have hRf := Lib.hid (WRd.more (C := (wa.setRow px #[.int .i64 y.turn, .int .i64 y.next, .int .i64 y.field.wide, .int .i64 y.field.high, .slice sF.field.ground.A y.field.ground.length sF.field.ground.c, .slice sF.field.ore.A y.field.ore.length sF.field.ore.c, .slice sF.gold.A y.gold.length sF.gold.c, .slice sF.units.A y.units.length sF.units.c, .slice sF.queue.A y.queue.length sF.queue.c]).heap.size) (hRn.rowK (cs := #[.int .i64 y.turn, .int .i64 y.next, .int .i64 y.field.wide, .int .i64 y.field.high, .slice sF.field.ground.A y.field.ground.length sF.field.ground.c, .slice sF.field.ore.A y.field.ore.length sF.field.ore.c, .slice sF.gold.A y.gold.length sF.gold.c, .slice sF.units.A y.units.length sF.units.c, .slice sF.queue.A y.queue.length sF.queue.c]) (Nat.le_refl px)) (Nat.le_of_lt hXf.out.lt))
        refine hK _ _ ?_ (fun hHeld => ?_)
        · have hPf := (setRow_other _ px pf #[.int .i64 y.turn, .int .i64 y.next, .int .i64 y.field.wide, .int .i64 y.field.high, .slice sF.field.ground.A y.field.ground.length sF.field.ground.c, .slice sF.field.ore.A y.field.ore.length sF.field.ore.c, .slice sF.gold.A y.gold.length sF.gold.c, .slice sF.units.A y.units.length sF.units.c, .slice sF.queue.A y.queue.length sF.queue.c] hpp.out).trans hP.out
          exact ⟨Blk.cell hPf 0, Blk.cell hPf 1, Blk.cell hPf 2, Blk.cell hPf 3, Blk.cell hPf 4, Blk.cell hPf 5, Blk.cell hPf 6, Blk.cell hPf 7, Blk.cell hPf 8⟩
        clear hK K
        try simp only [Act.put]
        try simp only [List.setIfInBounds_toArray]
        try simp only [List.set_cons_succ, List.set_cons_zero]
        try simp only [List.getElem_toArray]
        try simp only [List.getElem_cons_succ]
        try simp only [List.getElem_cons_zero]
        refine wpAnyH_take (i := 9) (oi := _) (v := ?_) rfl (by kernel_rfl) (by kernel_rfl) (by kernel_rfl) (fun _ _ _ h => h) (Or.inl ⟨by rfl, ?_⟩) (by assumption) ?_
        rotate_left
        · intro w' hSw
          try dsimp only at hSw
          first | (go_simp; done) | (go_simp; with_reducible rfl)
        try simp only [Act.put]
        try simp only [List.setIfInBounds_toArray]
        try simp only [List.set_cons_succ, List.set_cons_zero]
        try simp only [List.getElem_toArray]
        try simp only [List.getElem_cons_succ]
        try simp only [List.getElem_cons_zero]
        refine wpAnyH_take (i := 10) (oi := _) (v := ?_) rfl (by kernel_rfl) (by kernel_rfl) (by kernel_rfl) (fun _ _ _ h => h) (Or.inl ⟨by rfl, ?_⟩) (by assumption) ?_
        rotate_left
        · intro w' hSw
          try dsimp only at hSw
          first | (go_simp; done) | (go_simp; with_reducible rfl)
        try simp only [Act.put]
        try simp only [List.setIfInBounds_toArray]
        try simp only [List.set_cons_succ, List.set_cons_zero]
        try simp only [List.getElem_toArray]
        try simp only [List.getElem_cons_succ]
        try simp only [List.getElem_cons_zero]
        refine wpAnyH_done (by kernel_rfl) ?_ _
        refine NoPanic.normal ?_
        try dsimp only [List.set]
        go_wp2_with fail
        go_meet
        exact ⟨_, rfl, px, sF, A', c', rfl, rfl, rfl, hBf, hXf, hRf⟩
      · have hpl : pf < w2.heap.size := hP.out.lt
        go_simp
        have hbs : Below w2.heap.size w2 (w2.alloc (.cells #[.int .i64 0, .int .i64 0, .int .i64 0, .int .i64 0, .slice none 0 0, .slice none 0 0, .slice none 0 0, .slice none 0 0, .slice none 0 0] 55)) := (Below.refl _ _).alloc (Nat.le_refl _) _
        have hX : Blk (w2.alloc (.cells #[.int .i64 0, .int .i64 0, .int .i64 0, .int .i64 0, .slice none 0 0, .slice none 0 0, .slice none 0 0, .slice none 0 0, .slice none 0 0] 55)) w2.heap.size 55 #[.int .i64 0, .int .i64 0, .int .i64 0, .int .i64 0, .slice none 0 0, .slice none 0 0, .slice none 0 0, .slice none 0 0, .slice none 0 0] := Blk.new _ _ _
        have hxw : w.heap.size ≤ w2.heap.size := hB.out.b.size
        have hxb : wb ≠ w2.heap.size := by have := hB.out.kw.lt; omega
        clear hHeld
        have hBn := hB.out.below hbs
        have hPn := hP.out.below hbs hP.out.lt
        clear hB hP
        have hB := Lib.hid hBn
        have hP := Lib.hid hPn
        clear hBn hPn
        have hKn := (hKs.out.below hbs).more hbs.size
        have hWn := hW.out.below hbs
        clear hKs hW
        have hKs := Lib.hid hKn
        have hW := Lib.hid hWn
        clear hKn hWn
        clear hbs
        refine hK.out _ _ ⟨hP.out.cell 0, hP.out.cell 1, hP.out.cell 2, hP.out.cell 3, hP.out.cell 4, hP.out.cell 5, hP.out.cell 6, hP.out.cell 7, hP.out.cell 8⟩ (fun hHeld => ?_)
        clear hK K
        try simp only [Act.put]
        try simp only [List.setIfInBounds_toArray]
        try simp only [List.set_cons_succ, List.set_cons_zero]
        try simp only [List.getElem_toArray]
        try simp only [List.getElem_cons_succ]
        try simp only [List.getElem_cons_zero]
        obtain ⟨px, hpx⟩ : ∃ px, w2.heap.size = px := ⟨_, rfl⟩
        rw [hpx] at hX hxw hxb ⊢
        generalize (w2.alloc (.cells #[.int .i64 0, .int .i64 0, .int .i64 0, .int .i64 0, .slice none 0 0, .slice none 0 0, .slice none 0 0, .slice none 0 0, .slice none 0 0] 55)) = wa at *
        replace hX := Lib.hid hX
        replace hxw := Lib.hid hxw
        replace hxb := Lib.hid hxb
        have hpp : Hid (pf ≠ px) := Lib.hid (by omega)
        clear hpx
        refine wpAnyH_ready (rs := [2]) (by kernel_rfl) (by simp) ?_
        refine AllReadyH.cons (o := { dst := some 46, op := .call { callee := .value (.func 49), args := #[.tmp 44, .tmp 45], argTypes := #[22, 55] }, type := _, pos := _, after := _, guard := none }) rfl (fun K hK => ?_) AllReadyH.nil
        go_simp
        refine (hF.out.move _ _ ⟨smf, smg, ⟨some ⟨gf, 0, none⟩, cf⟩, smq⟩ _ hKs.out hW.out).mono ?_
        rintro e w3 ⟨sF, A', c', rfl, hO, hbs⟩
        clear hKs hW hHeld
        have hBn := hB.out.below hbs
        have hPn := hP.out.below hbs hP.out.lt
        clear hB hP
        have hB := Lib.hid hBn
        have hP := Lib.hid hPn
        clear hBn hPn
        have hxl : px < wa.heap.size := hX.out.lt
        have hXn := hX.out.below hbs hX.out.lt
        clear hX
        have hX := Lib.hid hXn
        clear hXn
        clear hbs
        refine hK.out _ _ ⟨hP.out.cell 0, hP.out.cell 1, hP.out.cell 2, hP.out.cell 3, hP.out.cell 4, hP.out.cell 5, hP.out.cell 6, hP.out.cell 7, hP.out.cell 8⟩ (fun hHeld => ?_)
        clear hK K
        try simp only [Act.put]
        try simp only [List.setIfInBounds_toArray]
        try simp only [List.set_cons_succ, List.set_cons_zero]
        try simp only [List.getElem_toArray]
        try simp only [List.getElem_cons_succ]
        try simp only [List.getElem_cons_zero]
        refine wpAnyH_take (i := 3) (oi := _) (v := ?_) rfl (by kernel_rfl) (by kernel_rfl) (by kernel_rfl) (fun _ _ _ h => h) (Or.inl ⟨by rfl, ?_⟩) (by assumption) ?_
        rotate_left
        · intro w' hSw
          try dsimp only at hSw
          first | (go_simp; done) | (go_simp; with_reducible rfl)
        try simp only [Act.put]
        try simp only [List.setIfInBounds_toArray]
        try simp only [List.set_cons_succ, List.set_cons_zero]
        try simp only [List.getElem_toArray]
        try simp only [List.getElem_cons_succ]
        try simp only [List.getElem_cons_zero]
        refine wpAnyH_take (i := 4) (oi := _) (v := ?_) rfl (by kernel_rfl) (by kernel_rfl) (by kernel_rfl) (fun _ _ _ h => h) (Or.inl ⟨by rfl, ?_⟩) (by assumption) ?_
        rotate_left
        · intro w' hSw
          try dsimp only at hSw
          first | (go_simp; done) | (go_simp; with_reducible rfl)
        try simp only [Act.put]
        try simp only [List.setIfInBounds_toArray]
        try simp only [List.set_cons_succ, List.set_cons_zero]
        try simp only [List.getElem_toArray]
        try simp only [List.getElem_cons_succ]
        try simp only [List.getElem_cons_zero]
        refine wpAnyH_take (i := 5) (oi := _) (v := ?_) rfl (by kernel_rfl) (by kernel_rfl) (by kernel_rfl) (fun _ _ _ h => h) (Or.inl ⟨by rfl, ?_⟩) (by assumption) ?_
        rotate_left
        · intro w' hSw
          try dsimp only at hSw
          first | (go_simp; done) | (go_simp; with_reducible rfl)
        try simp only [Act.put]
        try simp only [List.setIfInBounds_toArray]
        try simp only [List.set_cons_succ, List.set_cons_zero]
        try simp only [List.getElem_toArray]
        try simp only [List.getElem_cons_succ]
        try simp only [List.getElem_cons_zero]
        refine wpAnyH_take (i := 6) (oi := _) (v := ?_) rfl (by kernel_rfl) (by kernel_rfl) (by kernel_rfl) (fun _ _ _ h => h) (Or.inl ⟨by rfl, ?_⟩) (by assumption) ?_
        rotate_left
        · intro w' hSw
          try dsimp only at hSw
          first | (go_simp; done) | (go_simp; with_reducible rfl)
        try simp only [Act.put]
        try simp only [List.setIfInBounds_toArray]
        try simp only [List.set_cons_succ, List.set_cons_zero]
        try simp only [List.getElem_toArray]
        try simp only [List.getElem_cons_succ]
        try simp only [List.getElem_cons_zero]
        refine wpAnyH_ready (rs := [8]) (by kernel_rfl) (by simp) ?_
        refine AllReadyH.cons (o := { dst := none, op := .store 55 (.tmp 7) (.tmp 47), type := _, pos := _, after := _, guard := none }) rfl (fun K hK => ?_) AllReadyH.nil
        rw [if_pos (by rfl)]
        refine wp_store_row 55 (.tmp 7) (.tmp 47) rfl px #[.int .i64 y.turn, .int .i64 y.next, .int .i64 y.field.wide, .int .i64 y.field.high, .slice sF.field.ground.A y.field.ground.length sF.field.ground.c, .slice sF.field.ore.A y.field.ore.length sF.field.ore.c, .slice sF.gold.A y.gold.length sF.gold.c, .slice sF.units.A y.units.length sF.units.c, .slice sF.queue.A y.queue.length sF.queue.c] (by rfl) (by rfl) 55 #[.int .i64 0, .int .i64 0, .int .i64 0, .int .i64 0, .slice none 0 0, .slice none 0 0, .slice none 0 0, .slice none 0 0, .slice none 0 0] hX.out (by kernel_rfl) rfl (by simp [Value.oneCell']) ?_
        have hBf := Lib.hid (hB.out.rowK hxw.out hxb.out #[.int .i64 y.turn, .int .i64 y.next, .int .i64 y.field.wide, .int .i64 y.field.high, .slice sF.field.ground.A y.field.ground.length sF.field.ground.c, .slice sF.field.ore.A y.field.ore.length sF.field.ore.c, .slice sF.gold.A y.gold.length sF.gold.c, .slice sF.units.A y.units.length sF.units.c, .slice sF.queue.A y.queue.length sF.queue.c])
        have hXf : Hid (Blk _ px 55 #[.int .i64 y.turn, .int .i64 y.next, .int .i64 y.field.wide, .int .i64 y.field.high, .slice sF.field.ground.A y.field.ground.length sF.field.ground.c, .slice sF.field.ore.A y.field.ore.length sF.field.ore.c, .slice sF.gold.A y.gold.length sF.gold.c, .slice sF.units.A y.units.length sF.units.c, .slice sF.queue.A y.queue.length sF.queue.c]) := Lib.hid (setRow_heap _ px _ _ _ _ hX.out)
        have hRf := Lib.hid (wrd_ownK (hO.rowK (cs := #[.int .i64 y.turn, .int .i64 y.next, .int .i64 y.field.wide, .int .i64 y.field.high, .slice sF.field.ground.A y.field.ground.length sF.field.ground.c, .slice sF.field.ore.A y.field.ore.length sF.field.ore.c, .slice sF.gold.A y.gold.length sF.gold.c, .slice sF.units.A y.units.length sF.units.c, .slice sF.queue.A y.queue.length sF.queue.c]) hxl))
        refine hK _ _ ?_ (fun hHeld => ?_)
        · have hPf := (setRow_other _ px pf #[.int .i64 y.turn, .int .i64 y.next, .int .i64 y.field.wide, .int .i64 y.field.high, .slice sF.field.ground.A y.field.ground.length sF.field.ground.c, .slice sF.field.ore.A y.field.ore.length sF.field.ore.c, .slice sF.gold.A y.gold.length sF.gold.c, .slice sF.units.A y.units.length sF.units.c, .slice sF.queue.A y.queue.length sF.queue.c] hpp.out).trans hP.out
          exact ⟨Blk.cell hPf 0, Blk.cell hPf 1, Blk.cell hPf 2, Blk.cell hPf 3, Blk.cell hPf 4, Blk.cell hPf 5, Blk.cell hPf 6, Blk.cell hPf 7, Blk.cell hPf 8⟩
        clear hK K
        try simp only [Act.put]
        try simp only [List.setIfInBounds_toArray]
        try simp only [List.set_cons_succ, List.set_cons_zero]
        try simp only [List.getElem_toArray]
        try simp only [List.getElem_cons_succ]
        try simp only [List.getElem_cons_zero]
        refine wpAnyH_take (i := 9) (oi := _) (v := ?_) rfl (by kernel_rfl) (by kernel_rfl) (by kernel_rfl) (fun _ _ _ h => h) (Or.inl ⟨by rfl, ?_⟩) (by assumption) ?_
        rotate_left
        · intro w' hSw
          try dsimp only at hSw
          first | (go_simp; done) | (go_simp; with_reducible rfl)
        try simp only [Act.put]
        try simp only [List.setIfInBounds_toArray]
        try simp only [List.set_cons_succ, List.set_cons_zero]
        try simp only [List.getElem_toArray]
        try simp only [List.getElem_cons_succ]
        try simp only [List.getElem_cons_zero]
        refine wpAnyH_take (i := 10) (oi := _) (v := ?_) rfl (by kernel_rfl) (by kernel_rfl) (by kernel_rfl) (fun _ _ _ h => h) (Or.inl ⟨by rfl, ?_⟩) (by assumption) ?_
        rotate_left
        · intro w' hSw
          try dsimp only at hSw
          first | (go_simp; done) | (go_simp; with_reducible rfl)
        try simp only [Act.put]
        try simp only [List.setIfInBounds_toArray]
        try simp only [List.set_cons_succ, List.set_cons_zero]
        try simp only [List.getElem_toArray]
        try simp only [List.getElem_cons_succ]
        try simp only [List.getElem_cons_zero]
        refine wpAnyH_done (by kernel_rfl) ?_ _
        refine NoPanic.normal ?_
        try dsimp only [List.set]
        go_wp2_with fail
        go_meet
        exact ⟨_, rfl, px, sF, A', c', rfl, rfl, rfl, hBf, hXf, hRf⟩
    · have hpl : pf < Wd.heap.size := hP.out.lt
      go_simp
      have hbs : Below Wd.heap.size Wd (Wd.alloc (.cells #[.int .i64 0, .int .i64 0, .int .i64 0, .int .i64 0, .slice none 0 0, .slice none 0 0, .slice none 0 0, .slice none 0 0, .slice none 0 0] 55)) := (Below.refl _ _).alloc (Nat.le_refl _) _
      have hX : Blk (Wd.alloc (.cells #[.int .i64 0, .int .i64 0, .int .i64 0, .int .i64 0, .slice none 0 0, .slice none 0 0, .slice none 0 0, .slice none 0 0, .slice none 0 0] 55)) Wd.heap.size 55 #[.int .i64 0, .int .i64 0, .int .i64 0, .int .i64 0, .slice none 0 0, .slice none 0 0, .slice none 0 0, .slice none 0 0, .slice none 0 0] := Blk.new _ _ _
      have hxw : w.heap.size ≤ Wd.heap.size := hB.out.b.size
      have hxb : wb ≠ Wd.heap.size := by have := hB.out.kw.lt; omega
      clear hHeld
      have hBn := hB.out.below hbs
      have hPn := hP.out.below hbs hP.out.lt
      clear hB hP
      have hB := Lib.hid hBn
      have hP := Lib.hid hPn
      clear hBn hPn
      have hWn := hW.out.below hbs
      clear hW
      have hW := Lib.hid hWn
      clear hWn
      clear hbs
      refine hK.out _ _ ⟨hP.out.cell 0, hP.out.cell 1, hP.out.cell 2, hP.out.cell 3, hP.out.cell 4, hP.out.cell 5, hP.out.cell 6, hP.out.cell 7, hP.out.cell 8⟩ (fun hHeld => ?_)
      clear hK K
      try simp only [Act.put]
      try simp only [List.setIfInBounds_toArray]
      try simp only [List.set_cons_succ, List.set_cons_zero]
      try simp only [List.getElem_toArray]
      try simp only [List.getElem_cons_succ]
      try simp only [List.getElem_cons_zero]
      obtain ⟨px, hpx⟩ : ∃ px, Wd.heap.size = px := ⟨_, rfl⟩
      rw [hpx] at hX hxw hxb ⊢
      generalize (Wd.alloc (.cells #[.int .i64 0, .int .i64 0, .int .i64 0, .int .i64 0, .slice none 0 0, .slice none 0 0, .slice none 0 0, .slice none 0 0, .slice none 0 0] 55)) = wa at *
      replace hX := Lib.hid hX
      replace hxw := Lib.hid hxw
      replace hxb := Lib.hid hxb
      have hpp : Hid (pf ≠ px) := Lib.hid (by omega)
      clear hpx
      refine wpAnyH_ready (rs := [0]) (by kernel_rfl) (by simp) ?_
      refine AllReadyH.cons (o := { dst := some 44, op := .call { callee := .value (.func 46), args := #[], argTypes := #[] }, type := _, pos := _, after := _, guard := none }) rfl (fun K hK => ?_) AllReadyH.nil
      go_simp
      refine (kinds2_any _).mono ?_
      rintro e w2 ⟨rfl, hk1, hbs, hk2⟩
      have hKs := Lib.hid (KS.more hk1 hk2)
      clear hHeld hk1 hk2
      generalize hAk : (some (⟨wa.heap.size, 0, none⟩ : Addr)) = Ak at *
      clear hAk
      have hBn := hB.out.below hbs
      have hPn := hP.out.below hbs hP.out.lt
      clear hB hP
      have hB := Lib.hid hBn
      have hP := Lib.hid hPn
      clear hBn hPn
      have hWn := hW.out.below hbs
      clear hW
      have hW := Lib.hid hWn
      clear hWn
      have hXn := hX.out.below hbs hX.out.lt
      clear hX
      have hX := Lib.hid hXn
      clear hXn
      clear hbs
      refine hK.out _ _ ⟨hP.out.cell 0, hP.out.cell 1, hP.out.cell 2, hP.out.cell 3, hP.out.cell 4, hP.out.cell 5, hP.out.cell 6, hP.out.cell 7, hP.out.cell 8⟩ (fun hHeld => ?_)
      clear hK K
      try simp only [Act.put]
      try simp only [List.setIfInBounds_toArray]
      try simp only [List.set_cons_succ, List.set_cons_zero]
      try simp only [List.getElem_toArray]
      try simp only [List.getElem_cons_succ]
      try simp only [List.getElem_cons_zero]
      refine wpAnyH_ready (rs := [2]) (by kernel_rfl) (by simp) ?_
      refine AllReadyH.cons (o := { dst := some 46, op := .call { callee := .value (.func 49), args := #[.tmp 44, .tmp 45], argTypes := #[22, 55] }, type := _, pos := _, after := _, guard := none }) rfl (fun K hK => ?_) AllReadyH.nil
      go_simp
      refine (hF.out.move _ _ ⟨smf, smg, ⟨some ⟨gf, 0, none⟩, cf⟩, smq⟩ _ hKs.out hW.out).mono ?_
      rintro e w3 ⟨sF, A', c', rfl, hO, hbs⟩
      clear hKs hW hHeld
      have hBn := hB.out.below hbs
      have hPn := hP.out.below hbs hP.out.lt
      clear hB hP
      have hB := Lib.hid hBn
      have hP := Lib.hid hPn
      clear hBn hPn
      have hxl : px < w2.heap.size := hX.out.lt
      have hXn := hX.out.below hbs hX.out.lt
      clear hX
      have hX := Lib.hid hXn
      clear hXn
      clear hbs
      refine hK.out _ _ ⟨hP.out.cell 0, hP.out.cell 1, hP.out.cell 2, hP.out.cell 3, hP.out.cell 4, hP.out.cell 5, hP.out.cell 6, hP.out.cell 7, hP.out.cell 8⟩ (fun hHeld => ?_)
      clear hK K
      try simp only [Act.put]
      try simp only [List.setIfInBounds_toArray]
      try simp only [List.set_cons_succ, List.set_cons_zero]
      try simp only [List.getElem_toArray]
      try simp only [List.getElem_cons_succ]
      try simp only [List.getElem_cons_zero]
      refine wpAnyH_take (i := 3) (oi := _) (v := ?_) rfl (by kernel_rfl) (by kernel_rfl) (by kernel_rfl) (fun _ _ _ h => h) (Or.inl ⟨by rfl, ?_⟩) (by assumption) ?_
      rotate_left
      · intro w' hSw
        try dsimp only at hSw
        first | (go_simp; done) | (go_simp; with_reducible rfl)
      try simp only [Act.put]
      try simp only [List.setIfInBounds_toArray]
      try simp only [List.set_cons_succ, List.set_cons_zero]
      try simp only [List.getElem_toArray]
      try simp only [List.getElem_cons_succ]
      try simp only [List.getElem_cons_zero]
      refine wpAnyH_take (i := 4) (oi := _) (v := ?_) rfl (by kernel_rfl) (by kernel_rfl) (by kernel_rfl) (fun _ _ _ h => h) (Or.inl ⟨by rfl, ?_⟩) (by assumption) ?_
      rotate_left
      · intro w' hSw
        try dsimp only at hSw
        first | (go_simp; done) | (go_simp; with_reducible rfl)
      try simp only [Act.put]
      try simp only [List.setIfInBounds_toArray]
      try simp only [List.set_cons_succ, List.set_cons_zero]
      try simp only [List.getElem_toArray]
      try simp only [List.getElem_cons_succ]
      try simp only [List.getElem_cons_zero]
      refine wpAnyH_take (i := 5) (oi := _) (v := ?_) rfl (by kernel_rfl) (by kernel_rfl) (by kernel_rfl) (fun _ _ _ h => h) (Or.inl ⟨by rfl, ?_⟩) (by assumption) ?_
      rotate_left
      · intro w' hSw
        try dsimp only at hSw
        first | (go_simp; done) | (go_simp; with_reducible rfl)
      try simp only [Act.put]
      try simp only [List.setIfInBounds_toArray]
      try simp only [List.set_cons_succ, List.set_cons_zero]
      try simp only [List.getElem_toArray]
      try simp only [List.getElem_cons_succ]
      try simp only [List.getElem_cons_zero]
      refine wpAnyH_take (i := 6) (oi := _) (v := ?_) rfl (by kernel_rfl) (by kernel_rfl) (by kernel_rfl) (fun _ _ _ h => h) (Or.inl ⟨by rfl, ?_⟩) (by assumption) ?_
      rotate_left
      · intro w' hSw
        try dsimp only at hSw
        first | (go_simp; done) | (go_simp; with_reducible rfl)
      try simp only [Act.put]
      try simp only [List.setIfInBounds_toArray]
      try simp only [List.set_cons_succ, List.set_cons_zero]
      try simp only [List.getElem_toArray]
      try simp only [List.getElem_cons_succ]
      try simp only [List.getElem_cons_zero]
      refine wpAnyH_ready (rs := [8]) (by kernel_rfl) (by simp) ?_
      refine AllReadyH.cons (o := { dst := none, op := .store 55 (.tmp 7) (.tmp 47), type := _, pos := _, after := _, guard := none }) rfl (fun K hK => ?_) AllReadyH.nil
      rw [if_pos (by rfl)]
      refine wp_store_row 55 (.tmp 7) (.tmp 47) rfl px #[.int .i64 y.turn, .int .i64 y.next, .int .i64 y.field.wide, .int .i64 y.field.high, .slice sF.field.ground.A y.field.ground.length sF.field.ground.c, .slice sF.field.ore.A y.field.ore.length sF.field.ore.c, .slice sF.gold.A y.gold.length sF.gold.c, .slice sF.units.A y.units.length sF.units.c, .slice sF.queue.A y.queue.length sF.queue.c] (by rfl) (by rfl) 55 #[.int .i64 0, .int .i64 0, .int .i64 0, .int .i64 0, .slice none 0 0, .slice none 0 0, .slice none 0 0, .slice none 0 0, .slice none 0 0] hX.out (by kernel_rfl) rfl (by simp [Value.oneCell']) ?_
      have hBf := Lib.hid (hB.out.rowK hxw.out hxb.out #[.int .i64 y.turn, .int .i64 y.next, .int .i64 y.field.wide, .int .i64 y.field.high, .slice sF.field.ground.A y.field.ground.length sF.field.ground.c, .slice sF.field.ore.A y.field.ore.length sF.field.ore.c, .slice sF.gold.A y.gold.length sF.gold.c, .slice sF.units.A y.units.length sF.units.c, .slice sF.queue.A y.queue.length sF.queue.c])
      have hXf : Hid (Blk _ px 55 #[.int .i64 y.turn, .int .i64 y.next, .int .i64 y.field.wide, .int .i64 y.field.high, .slice sF.field.ground.A y.field.ground.length sF.field.ground.c, .slice sF.field.ore.A y.field.ore.length sF.field.ore.c, .slice sF.gold.A y.gold.length sF.gold.c, .slice sF.units.A y.units.length sF.units.c, .slice sF.queue.A y.queue.length sF.queue.c]) := Lib.hid (setRow_heap _ px _ _ _ _ hX.out)
      have hRf := Lib.hid (wrd_ownK (hO.rowK (cs := #[.int .i64 y.turn, .int .i64 y.next, .int .i64 y.field.wide, .int .i64 y.field.high, .slice sF.field.ground.A y.field.ground.length sF.field.ground.c, .slice sF.field.ore.A y.field.ore.length sF.field.ore.c, .slice sF.gold.A y.gold.length sF.gold.c, .slice sF.units.A y.units.length sF.units.c, .slice sF.queue.A y.queue.length sF.queue.c]) hxl))
      refine hK _ _ ?_ (fun hHeld => ?_)
      · have hPf := (setRow_other _ px pf #[.int .i64 y.turn, .int .i64 y.next, .int .i64 y.field.wide, .int .i64 y.field.high, .slice sF.field.ground.A y.field.ground.length sF.field.ground.c, .slice sF.field.ore.A y.field.ore.length sF.field.ore.c, .slice sF.gold.A y.gold.length sF.gold.c, .slice sF.units.A y.units.length sF.units.c, .slice sF.queue.A y.queue.length sF.queue.c] hpp.out).trans hP.out
        exact ⟨Blk.cell hPf 0, Blk.cell hPf 1, Blk.cell hPf 2, Blk.cell hPf 3, Blk.cell hPf 4, Blk.cell hPf 5, Blk.cell hPf 6, Blk.cell hPf 7, Blk.cell hPf 8⟩
      clear hK K
      try simp only [Act.put]
      try simp only [List.setIfInBounds_toArray]
      try simp only [List.set_cons_succ, List.set_cons_zero]
      try simp only [List.getElem_toArray]
      try simp only [List.getElem_cons_succ]
      try simp only [List.getElem_cons_zero]
      refine wpAnyH_take (i := 9) (oi := _) (v := ?_) rfl (by kernel_rfl) (by kernel_rfl) (by kernel_rfl) (fun _ _ _ h => h) (Or.inl ⟨by rfl, ?_⟩) (by assumption) ?_
      rotate_left
      · intro w' hSw
        try dsimp only at hSw
        first | (go_simp; done) | (go_simp; with_reducible rfl)
      try simp only [Act.put]
      try simp only [List.setIfInBounds_toArray]
      try simp only [List.set_cons_succ, List.set_cons_zero]
      try simp only [List.getElem_toArray]
      try simp only [List.getElem_cons_succ]
      try simp only [List.getElem_cons_zero]
      refine wpAnyH_take (i := 10) (oi := _) (v := ?_) rfl (by kernel_rfl) (by kernel_rfl) (by kernel_rfl) (fun _ _ _ h => h) (Or.inl ⟨by rfl, ?_⟩) (by assumption) ?_
      rotate_left
      · intro w' hSw
        try dsimp only at hSw
        first | (go_simp; done) | (go_simp; with_reducible rfl)
      try simp only [Act.put]
      try simp only [List.setIfInBounds_toArray]
      try simp only [List.set_cons_succ, List.set_cons_zero]
      try simp only [List.getElem_toArray]
      try simp only [List.getElem_cons_succ]
      try simp only [List.getElem_cons_zero]
      refine wpAnyH_done (by kernel_rfl) ?_ _
      refine NoPanic.normal ?_
      try dsimp only [List.set]
      go_wp2_with fail
      go_meet
      exact ⟨_, rfl, px, sF, A', c', rfl, rfl, rfl, hBf, hXf, hRf⟩
  case rest =>
  obtain ⟨W3, rfl, px, sF, A0, c0, rfl, rfl, rfl, hB, hP, hR⟩ := hcut
  obtain ⟨b, o, hA, _, _, _, _, q3, _, _, q6, _⟩ := ru_at hR.out.u 2 (by rw [hF.out.ylen]; omega)
  have q7 : W3.cell? ⟨px, 7, none⟩ = some (.slice (some ⟨b, o, none⟩) y.units.length sF.units.c) := by rw [← hA]; exact hP.out.cell 7
  have ql := hP.out.lt
  rw [hF.out.spot] at q3
  rw [hF.out.task] at q6
  have qy : (2 : Int) < (y.units.length : Int) := by have := hF.out.ylen; omega
  clear hR hP
  replace hA := Lib.hid hA
  go_upto_region 9 with fail
  clear q7 ql q3 q6 qy
  by_cases hE : worldE L x = 0
  case neg =>
    as_aux_lemma =>
    have hc := move_no ⟨sA, sc⟩ L s x W3 hB.out.ks_ hB.out.wo_ hE
    generalize worldE L x = E at *
    replace hc := Lib.hid hc
    replace hE := Lib.hid hE
    obtain ⟨m0, m1, m2, m3, m4, m5, m6, m7, m8, mll⟩ := hB.out.cells
    go_wp2_with fail
    refine hc.out.mono ?_
    clear hc
    clear m0 m1 m2 m3 m4 m5 m6 m7 m8 mll
    rintro e W4 ⟨rfl, hb⟩
    have hbf := ((hB.out.below hb).alloc (.cells #[.int .i64 0, .int .i64 0, .int .i64 0, .int .i64 0, .slice none 0 0, .slice none 0 0, .slice none 0 0, .slice none 0 0, .slice none 0 0] 55)).b
    replace hbf := Lib.hid hbf
    clear hb
    go_wp2_with fail
    go_ret
    exact ⟨rfl, hbf.out⟩
  case pos =>
  have hx := worldE_0 hE
  obtain ⟨Y, EV, hY⟩ : ∃ Y EV, doL L x = (Y, EV) := ⟨_, _, rfl⟩
  have hkp : Kp L x Y EV x.units.length := by have := doN_kp hx x.units.length (Nat.le_refl _); unfold doL at hY; rw [hY] at this; exact this
  have hel : EV.length ≤ 200 := by have := doN_len hx x.units.length (Nat.le_refl _); unfold doL at hY; rw [hY] at this; dsimp only at this; have h2 := (headE_ok hx.head).units; omega
  have hun := (headE_ok hx.head).units
  have hc := move_ok ⟨sA, sc⟩ L s x W3 hB.out.ks_ hB.out.wo_ hx
  rw [hY] at hc
  dsimp only at hc
  replace hc := Lib.hid hc
  replace hE := Lib.hid hE
  replace hx := Lib.hid hx
  replace hkp := Lib.hid hkp
  replace hY := Lib.hid hY
  obtain ⟨m0, m1, m2, m3, m4, m5, m6, m7, m8, mll⟩ := hB.out.cells
  go_upto_region 10 with (go_at_call 49; refine hc.out.mono ?_; clear m0 m1 m2 m3 m4 m5 m6 m7 m8 mll; rintro e W4 ⟨s2, A, c, rfl, hO, hI, hV, hb⟩)
  clear hc
  have hal : Below W4.heap.size W4 (W4.alloc (.cells #[.int .i64 Y.turn, .int .i64 Y.next, .int .i64 Y.field.wide, .int .i64 Y.field.high, .slice s2.field.ground.A Y.field.ground.length s2.field.ground.c, .slice s2.field.ore.A Y.field.ore.length s2.field.ore.c, .slice s2.gold.A Y.gold.length s2.gold.c, .slice s2.units.A Y.units.length s2.units.c, .slice s2.queue.A Y.queue.length s2.queue.c] 55)) := (Below.refl _ _).alloc (Nat.le_refl _) _
  have hX : Blk (W4.alloc (.cells #[.int .i64 Y.turn, .int .i64 Y.next, .int .i64 Y.field.wide, .int .i64 Y.field.high, .slice s2.field.ground.A Y.field.ground.length s2.field.ground.c, .slice s2.field.ore.A Y.field.ore.length s2.field.ore.c, .slice s2.gold.A Y.gold.length s2.gold.c, .slice s2.units.A Y.units.length s2.units.c, .slice s2.queue.A Y.queue.length s2.queue.c] 55)) W4.heap.size 55 #[.int .i64 Y.turn, .int .i64 Y.next, .int .i64 Y.field.wide, .int .i64 Y.field.high, .slice s2.field.ground.A Y.field.ground.length s2.field.ground.c, .slice s2.field.ore.A Y.field.ore.length s2.field.ore.c, .slice s2.gold.A Y.gold.length s2.gold.c, .slice s2.units.A Y.units.length s2.units.c, .slice s2.queue.A Y.queue.length s2.queue.c] := Blk.new _ _ _
  have hR : WRd (W4.alloc (.cells #[.int .i64 Y.turn, .int .i64 Y.next, .int .i64 Y.field.wide, .int .i64 Y.field.high, .slice s2.field.ground.A Y.field.ground.length s2.field.ground.c, .slice s2.field.ore.A Y.field.ore.length s2.field.ore.c, .slice s2.gold.A Y.gold.length s2.gold.c, .slice s2.units.A Y.units.length s2.units.c, .slice s2.queue.A Y.queue.length s2.queue.c] 55)) W4.heap.size s2 Y := (wrd_ownK hO).below hal
  have hE2 : RE (W4.alloc (.cells #[.int .i64 Y.turn, .int .i64 Y.next, .int .i64 Y.field.wide, .int .i64 Y.field.high, .slice s2.field.ground.A Y.field.ground.length s2.field.ground.c, .slice s2.field.ore.A Y.field.ore.length s2.field.ore.c, .slice s2.gold.A Y.gold.length s2.gold.c, .slice s2.units.A Y.units.length s2.units.c, .slice s2.queue.A Y.queue.length s2.queue.c] 55)) W4.heap.size A EV := RD.below (RD.of_own hV) hal
  have hWy : WOk (W4.alloc (.cells #[.int .i64 Y.turn, .int .i64 Y.next, .int .i64 Y.field.wide, .int .i64 Y.field.high, .slice s2.field.ground.A Y.field.ground.length s2.field.ground.c, .slice s2.field.ore.A Y.field.ore.length s2.field.ore.c, .slice s2.gold.A Y.gold.length s2.gold.c, .slice s2.units.A Y.units.length s2.units.c, .slice s2.queue.A Y.queue.length s2.queue.c] 55)) s2 Y := (hO.wok hI).below hal
  have hBn := (hB.out.below hb).below hal
  have hxw : wb < W4.heap.size := (hB.out.below hb).kw.lt
  have hwr : w.heap.size ≤ wb := by have := hwb.out; omega
  clear hB hO hI hV hb hal
  have hB := Lib.hid hBn
  clear hBn
  generalize (W4.alloc (.cells #[.int .i64 Y.turn, .int .i64 Y.next, .int .i64 Y.field.wide, .int .i64 Y.field.high, .slice s2.field.ground.A Y.field.ground.length s2.field.ground.c, .slice s2.field.ore.A Y.field.ore.length s2.field.ore.c, .slice s2.gold.A Y.gold.length s2.gold.c, .slice s2.units.A Y.units.length s2.units.c, .slice s2.queue.A Y.queue.length s2.queue.c] 55)) = W5 at *
  obtain ⟨xb, hxb⟩ : ∃ xb, W4.heap.size = xb := ⟨_, rfl⟩
  rw [hxb] at hX hR hE2 hxw ⊢
  clear hxb
  have hc := right_any ⟨sA, sc⟩ L s2 Y W5 hB.out.ks_ hWy hkp.out.ok
  replace hc := Lib.hid hc
  have xl := hX.lt
  have y0 : W5.cell? ⟨xb, 0, none⟩ = some (.int .i64 Y.turn) := hX.cell 0
  have y1 : W5.cell? ⟨xb, 1, none⟩ = some (.int .i64 Y.next) := hX.cell 1
  have y2 : W5.cell? ⟨xb, 2, none⟩ = some (.int .i64 Y.field.wide) := hX.cell 2
  have y3 : W5.cell? ⟨xb, 3, none⟩ = some (.int .i64 Y.field.high) := hX.cell 3
  have y4 : W5.cell? ⟨xb, 4, none⟩ = some (.slice s2.field.ground.A Y.field.ground.length s2.field.ground.c) := hX.cell 4
  have y5 : W5.cell? ⟨xb, 5, none⟩ = some (.slice s2.field.ore.A Y.field.ore.length s2.field.ore.c) := hX.cell 5
  have y6 : W5.cell? ⟨xb, 6, none⟩ = some (.slice s2.gold.A Y.gold.length s2.gold.c) := hX.cell 6
  have y7 : W5.cell? ⟨xb, 7, none⟩ = some (.slice s2.units.A Y.units.length s2.units.c) := hX.cell 7
  have y8 : W5.cell? ⟨xb, 8, none⟩ = some (.slice s2.queue.A Y.queue.length s2.queue.c) := hX.cell 8
  go_upto_region 13 with (go_at_call 47; refine hc.out.mono ?_; clear y0 y1 y2 y3 y4 y5 y6 y7 y8 xl; rintro e W6 ⟨rfl, hb⟩)
  clear hc
  have hXn := hX.below hb hX.lt
  have hRn := hR.below (hb.mono (Nat.le_of_lt hX.lt))
  have hEn := RD.below hE2 (hb.mono (Nat.le_of_lt hX.lt))
  have hBn := hB.out.below hb
  clear hX hR hE2 hWy hB hb
  have hB := Lib.hid hBn
  clear hBn
  have hYl := hkp.out.len
  have d1 : ((Y.units.length : Int) != (x.units.length : Int)) = false := by simp [hYl]
  have d2 : (Y.turn != x.turn) = false := by rw [hkp.out.same]; simp
  have d3 : (Y.next != x.next) = false := by rw [hkp.out.same]; simp
  have y0 : W6.cell? ⟨xb, 0, none⟩ = some (.int .i64 Y.turn) := hXn.cell 0
  have y1 : W6.cell? ⟨xb, 1, none⟩ = some (.int .i64 Y.next) := hXn.cell 1
  have y7 : W6.cell? ⟨xb, 7, none⟩ = some (.slice s2.units.A Y.units.length s2.units.c) := hXn.cell 7
  have xl := hXn.lt
  replace hYl := Lib.hid hYl
  replace hXn := Lib.hid hXn
  replace hRn := Lib.hid hRn
  replace hEn := Lib.hid hEn
  obtain ⟨m0, m1, m2, m3, m4, m5, m6, m7, m8, mll⟩ := hB.out.cells
  go_upto_region 15 with fail
  clear d1 d2 d3 y0 y1 y7 xl
  have hmk := mk_ints x.units.length (by omega)
  have hl1 : xb + 1 ≤ W6.heap.size := hXn.out.lt
  go_upto_region 17 with fail
  have hKn : KpB w ((W6.alloc (.cells (arrI (List.replicate x.units.length 0)) 3)).alloc (.cells (arrI (List.replicate x.units.length 0)) 3)) ⟨sA, sc⟩ L s x wb xb s2 Y A EV W6.heap.size W6.heap.size (W6.heap.size + 1) (List.replicate x.units.length 0) (List.replicate x.units.length 0) := by
    have hb1 : Below W6.heap.size W6 (W6.alloc (.cells (arrI (List.replicate x.units.length 0)) 3)) := (Below.refl _ _).alloc (Nat.le_refl _) _
    have hb2 : Below (W6.heap.size + 1) (W6.alloc (.cells (arrI (List.replicate x.units.length 0)) 3)) ((W6.alloc (.cells (arrI (List.replicate x.units.length 0)) 3)).alloc (.cells (arrI (List.replicate x.units.length 0)) 3)) := (Below.refl _ _).alloc (by simp) _
    have hb3 := hb1.trans (hb2.mono (by omega))
    have k2 := Blk.new (W6.alloc (.cells (arrI (List.replicate x.units.length 0)) 3)) 3 (arrI (List.replicate x.units.length 0))
    rw [World.size_alloc] at k2
    exact ⟨hB.out.below hb3, hXn.out.below hb3 hXn.out.lt, (hRn.out.below (hb3.mono (by omega))).more (by omega), RD.more (RD.below hEn.out (hb3.mono (by omega))) (by omega), (Blk.new W6 _ _).below hb2 (by omega), k2, hwr, hxw, hl1, Nat.le_refl _, by omega⟩
  obtain ⟨B, hBq⟩ : ∃ B, W6.heap.size = B := ⟨_, rfl⟩
  rw [hBq] at hKn ⊢
  generalize ((W6.alloc (.cells (arrI (List.replicate x.units.length 0)) 3)).alloc (.cells (arrI (List.replicate x.units.length 0)) 3)) = W7 at *
  obtain ⟨lb, hlb⟩ : ∃ lb, B = lb := ⟨_, rfl⟩
  obtain ⟨ab, hab⟩ : ∃ ab, lb + 1 = ab := ⟨_, rfl⟩
  rw [show (KpB w W7 ⟨sA, sc⟩ L s x wb xb s2 Y A EV B B (B + 1) (List.replicate x.units.length 0) (List.replicate x.units.length 0)) = (KpB w W7 ⟨sA, sc⟩ L s x wb xb s2 Y A EV B lb ab (List.replicate x.units.length 0) (List.replicate x.units.length 0)) by rw [← hab, ← hlb]] at hKn
  rw [hlb]
  try rw [hab]
  clear hBq hlb hab hmk hl1 hB hXn hRn hEn hxw hwr m0 m1 m2 m3 m4 m5 m6 m7 m8 mll
  replace hKn := Lib.hid hKn
  go_upto_block 0 with fail
  go_cut [15] from 118 to 146 (fun v15 wx0 => ∃ wx, wx = wx0 ∧ v15 = .int .i64 x.units.length ∧ Hid (KpB w wx ⟨sA, sc⟩ L s x wb xb s2 Y A EV B lb ab (x.units.map (fun u => (gk L u.kind.toNat).speed)) (x.units.map GU.spot)))
  case first =>
    as_aux_lemma =>
    have hK0 : Hid (KpB w W7 ⟨sA, sc⟩ L s x wb xb s2 Y A EV B lb ab (fillL (fun j => (gk L (gu x.units j).kind.toNat).speed) x.units.length 0) (fillL (fun j => (gu x.units j).spot) x.units.length 0)) := Lib.hid (by rw [fill_0, fill_0]; exact hKn.out)
    clear hKn
    go_wp2_with fail
    go_loopw [15] (fun v15 wr => ∃ k : Nat, v15 = .int .i64 k ∧ k ≤ x.units.length ∧ Hid (KpB w wr ⟨sA, sc⟩ L s x wb xb s2 Y A EV B lb ab (fillL (fun j => (gk L (gu x.units j).kind.toNat).speed) x.units.length k) (fillL (fun j => (gu x.units j).spot) x.units.length k))) (fun v15 _ => x.units.length - (intOf v15).toNat)
    case atStart => exact ⟨0, rfl, Nat.zero_le _, hK0⟩
    case round =>
      clear hK0
      obtain ⟨k, rfl, hk, hKn⟩ := hrel
      by_cases hlt : k < x.units.length
      case neg =>
        as_aux_lemma =>
        have z1 : ¬ (k : Int) < (x.units.length : Int) := by omega
        obtain rfl : k = x.units.length := by omega
        have hKf : Hid (KpB w wr ⟨sA, sc⟩ L s x wb xb s2 Y A EV B lb ab (x.units.map (fun u => (gk L u.kind.toNat).speed)) (x.units.map GU.spot)) := Lib.hid (by
          have h := hKn.out
          rw [fill_all (fun u => (gk L u.kind.toNat).speed) x.units, fill_all GU.spot x.units] at h
          exact h)
        obtain ⟨m0, m1, m2, m3, m4, m5, m6, m7, m8, mll⟩ := hKn.out.cells
        go_wp2_with fail
        go_meet
        exact ⟨_, rfl, rfl, hKf⟩
      case pos =>
      as_aux_lemma =>
      have z1 : (k : Int) < (x.units.length : Int) := by omega
      obtain ⟨ug, uo, hUA, -⟩ := ru_at hKn.out.sb.wo_.2.2.2.2.1.1 k hlt
      replace hUA := Lib.hid hUA
      have hui := unitE_ok (hx.out.units k hlt)
      obtain ⟨kv, hkv⟩ : ∃ kv : Nat, (gu x.units k).kind = (kv : Int) := ⟨(gu x.units k).kind.toNat, by have := hui.kind; omega⟩
      have hkvl : kv < L.length := by have := hui.kind; omega
      have hkvi : (kv : Int) < (L.length : Int) := by omega
      obtain ⟨bk, okk, hAk, -⟩ := rk_at hKn.out.sb.ks_.rd kv hkvl
      dsimp only at hAk
      subst hAk
      have h5 := hKn.out.sb.speedK kv hkvl
      have hsp : (gk L (gu x.units k).kind.toNat).speed = (gk L kv).speed := by rw [hkv, Int.toNat_natCast]
      obtain ⟨sp, hspe⟩ : ∃ sp, (gk L kv).speed = sp := ⟨_, rfl⟩
      rw [hspe] at h5 hsp
      clear hui
      have fl : wr.frozen? ⟨lb, k, none⟩ = false := hKn.out.kl.frozen k
      have hcl := hKn.out.kl.atI k (by rw [fill_len]; exact hlt)
      have lbl := hKn.out.kl.lt
      generalize at0 (fillL (fun j => (gk L (gu x.units j).kind.toNat).speed) x.units.length k) k = ov at *
      replace hspe := Lib.hid hspe
      replace hsp := Lib.hid hsp
      obtain ⟨p0, p1, p2, p3, p4, p5, p6, p7⟩ := hKn.out.ucell hlt hUA.out
      rw [hkv] at p2
      replace hkv := Lib.hid hkv
      obtain ⟨m0, m1, m2, m3, m4, m5, m6, m7, m8, mll⟩ := hKn.out.cells
      rw [hUA.out] at m7
      go_upto_region 21 with fail
      have hKm := hKn.out.setL k sp
      clear hKn fl hcl lbl h5 p0 p1 p2 p3 p4 p5 p6 p7 m0 m1 m2 m3 m4 m5 m6 m7 m8 mll
      rw [← hsp.out, fill_set (fun j => (gk L (gu x.units j).kind.toNat).speed) hlt, hsp.out] at hKm
      generalize wr.setCell ⟨lb, k, none⟩ (.int .i64 sp) = W8 at *
      replace hKm := Lib.hid hKm
      have fa : W8.frozen? ⟨ab, k, none⟩ = false := hKm.out.ka.frozen k
      have hca := hKm.out.ka.atI k (by rw [fill_len]; exact hlt)
      have abl := hKm.out.ka.lt
      generalize at0 (fillL (fun j => (gu x.units j).spot) x.units.length k) k = ov2 at *
      obtain ⟨st, hste⟩ : ∃ st, (gu x.units k).spot = st := ⟨_, rfl⟩
      obtain ⟨p0, p1, p2, p3, p4, p5, p6, p7⟩ := hKm.out.ucell hlt hUA.out
      rw [hste] at p3
      obtain ⟨m0, m1, m2, m3, m4, m5, m6, m7, m8, mll⟩ := hKm.out.cells
      rw [hUA.out] at m7
      have hKe := hKm.out.setA k st
      rw [← hste, fill_set (fun j => (gu x.units j).spot) hlt, hste] at hKe
      replace hKe := Lib.hid hKe
      replace hste := Lib.hid hste
      go_wp2_with fail
      go_roundw
      case rel => exact ⟨k + 1, by go_num, by omega, hKe⟩
      case measure => simp [intOf]; omega
  case rest =>
  obtain ⟨W8, rfl, rfl, hKn⟩ := hcut
  refine (‹∀ (a : Act) (w : World), Code.wp Tryd.prog _ _ a w → _›) _ _ ?_
  exact keeps_D sA sc L s x w hcap hmx hun hx Y EV hkp hel wb xb s2 A c B lb ab W8 hKn _ _ _ _ _ _ _ _ _ _ _ _ _ _ _ _ _ _ _ _ _ _ _ _ _ _ _ _ _ _ _ _ _ _ _ _ _ _ _ _ _ _ _ _ _ _ _ _ _ _ _ _ _ _ _ _ _ _ _ _ _ _ _ _ _ _ _ _ _ _ _ _ _ _ _ _ _ _ _ _ _ _ _ _ _ _ _ _ _ _ _ _ _ _ _ _ _ _ _ _ _ _ _ _ _ _ _ _ _ _ _ _ _ _ _ _ _ _ _ _ _ _ _ _ _ _ _ _ _ _ _ _ _ _ _ _ _ _ _ _ _ _ _ _ _ _ _ _ _ _ _ _ _ _ _ _ _ _ _ _ _ _ _ _ _ _ _ _ _ _ _ _ _ _ _ _ _ _ _ _ _ _ _ _ _ _ _ _ _ _ _ _ _ _ _ _ _ _ _ _ _ _ _ _ _ _ _ _ _ _ _ _ _ _ _ _ _ _ _ _ _ _ _ _ _ _ _ _ _ _ _ _ _ _ _ _ _ _ _ _ _ _ _ _ _ _ _ _ _ _ _ _ _ _ _ _ _ _ _ _ _ _ _ _ _ _ _ _ _ _ _ _ _ _ _ _ _ _ _ _ _ _ _ _ _ _ _ _ _ _ _ _ _ _ _ _ _ _ _ _ _ _ _ _ _ _ _ _ _ _ _ _ _ _ _ _ _ _ _ _ _ _ _ _ _ _ _ _ _ _ _ _ _
theorem moveKeeps_any (v0 : Value) (x0 : SL × List GK) (v1 : Value) (x1 : SW × GW) (w : World) (h0 : v0 = .slice x0.1.A x0.2.length x0.1.c ∧ SLK w x0.1 x0.2) (h1 : v1 = .agg (wV x1.1 x1.2).toArray ∧ WOk w x1.1 x1.2) :
    Calls Tryd.prog 10 #[v0, v1] w fun e w' => e = .returned (.bool true) ∧ Below w.heap.size w w' := by
  obtain ⟨rfl, hK⟩ := h0
  obtain ⟨rfl, hW⟩ := h1
  exact moveKeeps_in x0.1 x0.2 x1.1 x1.2 w hK.ks hW
end Go.Proofs.YtkgkpggfoieioaaDoor
