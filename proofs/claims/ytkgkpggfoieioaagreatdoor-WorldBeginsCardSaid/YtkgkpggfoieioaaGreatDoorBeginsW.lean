import Derived.Test.YtkgkpggfoieioaaGreatDoorBeginsC
namespace Go.Proofs.YtkgkpggfoieioaaGreatDoor
set_option linter.unusedVariables false
open Go.RowKit
/-! WorldBegins. -/
set_option maxHeartbeats 51200000 in
set_option maxRecDepth 100000 in
theorem begins_any (sK : SL) (L : List GK) (sf : SF) (f : GF) (n g : Int) (s : SW) (x : GW) (p k a : Int) (w : World) (hv : HV w) (hK : KS w w.heap.size sK L) (hF : FOk w sf f) (hW : WOk w s x) :
    Calls Tryz.prog 3 #[.slice sK.A L.length sK.c, .agg #[.int .i64 f.wide, .int .i64 f.high, .slice sf.ground.A f.ground.length sf.ground.c, .slice sf.ore.A f.ore.length sf.ore.c], .int .i64 n, .int .i64 g, .agg #[.int .i64 x.turn, .int .i64 x.next, .int .i64 x.field.wide, .int .i64 x.field.high, .slice s.field.ground.A x.field.ground.length s.field.ground.c, .slice s.field.ore.A x.field.ore.length s.field.ore.c, .slice s.gold.A x.gold.length s.gold.c, .slice s.units.A x.units.length s.units.c, .slice s.queue.A x.queue.length s.queue.c], .int .i64 p, .int .i64 k, .int .i64 a] w fun e w' => e = .returned (.bool true) ∧ Below w.heap.size w w' := by
  obtain ⟨i0, hi0, hz0, hz1, hz2⟩ := info_parts cloneI_info
  have hul := hW.ulen
  have hX : BG w ((w.alloc (.cells #[.int .i64 f.wide, .int .i64 f.high, .slice sf.ground.A f.ground.length sf.ground.c, .slice sf.ore.A f.ore.length sf.ore.c] 25)).alloc (.cells #[.int .i64 x.turn, .int .i64 x.next, .int .i64 x.field.wide, .int .i64 x.field.high, .slice s.field.ground.A x.field.ground.length s.field.ground.c, .slice s.field.ore.A x.field.ore.length s.field.ore.c, .slice s.gold.A x.gold.length s.gold.c, .slice s.units.A x.units.length s.units.c, .slice s.queue.A x.queue.length s.queue.c] 29)) sK L sf f s x w.heap.size (w.heap.size + 1) := by
    obtain ⟨hb1, hk1, hk2⟩ := two_boxes w 25 29 #[.int .i64 f.wide, .int .i64 f.high, .slice sf.ground.A f.ground.length sf.ground.c, .slice sf.ore.A f.ore.length sf.ore.c] #[.int .i64 x.turn, .int .i64 x.next, .int .i64 x.field.wide, .int .i64 x.field.high, .slice s.field.ground.A x.field.ground.length s.field.ground.c, .slice s.field.ore.A x.field.ore.length s.field.ore.c, .slice s.gold.A x.gold.length s.gold.c, .slice s.units.A x.units.length s.units.c, .slice s.queue.A x.queue.length s.queue.c]
    exact ⟨hb1, hk1, hk2, hK, hF, hW, hv, Nat.le_refl _, by omega⟩
  replace hX := Lib.hid hX
  clear hv hK hF hW
  go_enter Tryz.func3, Tryz.ntmps3
  go_upto_region 1 with fail
  generalize ((w.alloc (.cells #[.int .i64 f.wide, .int .i64 f.high, .slice sf.ground.A f.ground.length sf.ground.c, .slice sf.ore.A f.ore.length sf.ore.c] 25)).alloc (.cells #[.int .i64 x.turn, .int .i64 x.next, .int .i64 x.field.wide, .int .i64 x.field.high, .slice s.field.ground.A x.field.ground.length s.field.ground.c, .slice s.field.ore.A x.field.ore.length s.field.ore.c, .slice s.gold.A x.gold.length s.gold.c, .slice s.units.A x.units.length s.units.c, .slice s.queue.A x.queue.length s.queue.c] 29)) = W at *
  obtain ⟨fb, hfb⟩ : ∃ fb, w.heap.size = fb := ⟨_, rfl⟩
  obtain ⟨wb, hwb⟩ : ∃ wb, fb + 1 = wb := ⟨_, rfl⟩
  rw [hfb]
  try rw [hwb]
  replace hX : BG w W sK L sf f s x fb wb := by rw [← hwb, ← hfb]; exact hX.out
  replace hX := Lib.hid hX
  replace hfb := Lib.hid hfb
  replace hwb := Lib.hid hwb
  obtain ⟨E1, hE1⟩ : ∃ E1, kindsE L = E1 := ⟨_, rfl⟩
  have hrk := rkinds_any sK L W.heap.size W hX.out.ks_ (Nat.le_refl _)
  rw [hE1] at hrk
  replace hE1 := Lib.hid hE1
  replace hrk := Lib.hid hrk
  obtain ⟨m0, m1, m2, m3, m4, m5, m6, m7, m8, mll, q0, q1, q2, q3, qll⟩ := hX.out.cells
  go_upto_if 32 with (go_at_call 6; refine hrk.out.mono ?_; clear m0 m1 m2 m3 m4 m5 m6 m7 m8 mll q0 q1 q2 q3 qll; rintro e w2 ⟨rfl, hb2⟩)
  clear hrk
  replace hX := Lib.hid (hX.out.below hb2)
  clear hb2
  obtain ⟨E2, hE2⟩ : ∃ E2, (if E1 ≠ 0 then E1 else fieldE f) = E2 := ⟨_, rfl⟩
  replace hE2 := Lib.hid hE2
  go_cut [17] (fun v wx0 => ∃ wx, wx = wx0 ∧ v = .int .i64 E2 ∧ Hid (BG w wx sK L sf f s x fb wb))
  case first =>
    as_aux_lemma =>
    have hE := hE2.out
    by_cases z : E1 = 0
    · rw [if_neg (fun c => c z)] at hE
      have z1 : (E1 == 0) = true := by simp [z]
      have hrf : Calls Tryz.prog 7 #[.agg #[.int .i64 f.wide, .int .i64 f.high, .slice sf.ground.A f.ground.length sf.ground.c, .slice sf.ore.A f.ore.length sf.ore.c]] w2 fun e w' => e = .returned (.int .i64 (fieldE f)) ∧ Below w2.heap.size w2 w' := rfield_any sf f w2 hX.out.fo_
      rw [hE] at hrf
      replace hrf := Lib.hid hrf
      replace hE := Lib.hid hE
      replace z := Lib.hid z
      obtain ⟨m0, m1, m2, m3, m4, m5, m6, m7, m8, mll, q0, q1, q2, q3, qll⟩ := hX.out.cells
      go_wp2_with (go_at_call 7; refine hrf.out.mono ?_; clear m0 m1 m2 m3 m4 m5 m6 m7 m8 mll q0 q1 q2 q3 qll; rintro e w3 ⟨rfl, hb3⟩)
      go_meet
      exact ⟨_, rfl, rfl, Lib.hid (hX.out.below hb3)⟩
    · rw [if_pos z] at hE
      have z1 : (E1 == 0) = false := by simp [z]
      subst hE
      go_wp2_with fail
      go_meet
      exact ⟨_, rfl, rfl, hX⟩
  case rest =>
  obtain ⟨W2, rfl, rfl, hX⟩ := hcut
  go_upto_region 4 with fail
  go_cut [52] (fun t wx => t = .bool (decide (E2 = 0 ∧ ¬ (1 ≤ n ∧ n ≤ 4 ∧ 0 ≤ g ∧ g ≤ 1000000))) ∧ W2 = wx)
  case first =>
    as_aux_lemma =>
    by_cases z : E2 = 0
    · have z1 : (E2 == 0) = true := by simp [z]
      replace z := Lib.hid z
      by_cases c1 : n < 1
      · have d1 : decide (n < 1) = true := decide_eq_true c1
        have r : decide (E2 = 0 ∧ ¬ (1 ≤ n ∧ n ≤ 4 ∧ 0 ≤ g ∧ g ≤ 1000000)) = true := decide_eq_true ⟨z.out, by omega⟩

        go_wp2_with fail
        go_meet
        exact ⟨congrArg Value.bool r.symm, rfl⟩
      have d1 : decide (n < 1) = false := decide_eq_false c1
      by_cases c2 : 4 < n
      · have d2 : decide (4 < n) = true := decide_eq_true c2
        have r : decide (E2 = 0 ∧ ¬ (1 ≤ n ∧ n ≤ 4 ∧ 0 ≤ g ∧ g ≤ 1000000)) = true := decide_eq_true ⟨z.out, by omega⟩

        go_wp2_with fail
        go_meet
        exact ⟨congrArg Value.bool r.symm, rfl⟩
      have d2 : decide (4 < n) = false := decide_eq_false c2
      by_cases c3 : g < 0
      · have d3 : decide (g < 0) = true := decide_eq_true c3
        have r : decide (E2 = 0 ∧ ¬ (1 ≤ n ∧ n ≤ 4 ∧ 0 ≤ g ∧ g ≤ 1000000)) = true := decide_eq_true ⟨z.out, by omega⟩

        go_wp2_with fail
        go_meet
        exact ⟨congrArg Value.bool r.symm, rfl⟩
      have d3 : decide (g < 0) = false := decide_eq_false c3
      by_cases c4 : 1000000 < g
      · have d4 : decide (1000000 < g) = true := decide_eq_true c4
        have r : decide (E2 = 0 ∧ ¬ (1 ≤ n ∧ n ≤ 4 ∧ 0 ≤ g ∧ g ≤ 1000000)) = true := decide_eq_true ⟨z.out, by omega⟩

        go_wp2_with fail
        go_meet
        exact ⟨congrArg Value.bool r.symm, rfl⟩
      · have d4 : decide (1000000 < g) = false := decide_eq_false c4
        have r : decide (E2 = 0 ∧ ¬ (1 ≤ n ∧ n ≤ 4 ∧ 0 ≤ g ∧ g ≤ 1000000)) = false := decide_eq_false (fun h => h.2 (by omega))

        go_wp2_with fail
        go_meet
        exact ⟨congrArg Value.bool r.symm, rfl⟩
    · have z1 : (E2 == 0) = false := by simp [z]
      have r : decide (E2 = 0 ∧ ¬ (1 ≤ n ∧ n ≤ 4 ∧ 0 ≤ g ∧ g ≤ 1000000)) = false := decide_eq_false (fun h => z h.1)

      go_wp2_with fail
      go_meet
      exact ⟨congrArg Value.bool r.symm, rfl⟩
  case rest =>
  obtain ⟨rfl, rfl⟩ := hcut
  obtain ⟨b3, hb3⟩ : ∃ b3, decide (E2 = 0 ∧ ¬ (1 ≤ n ∧ n ≤ 4 ∧ 0 ≤ g ∧ g ≤ 1000000)) = b3 := ⟨_, rfl⟩
  rw [hb3]
  obtain ⟨E3, hE3⟩ : ∃ E3, newE L f n g = E3 := ⟨_, rfl⟩
  have h3 : (if b3 = true then 1 else E2) = E3 := by
    rw [← hE3, ← hb3, ← hE2.out, ← hE1.out]
    unfold newE
    by_cases z1 : kindsE L = 0
    · by_cases z2 : fieldE f = 0
      · by_cases z3 : (1 ≤ n ∧ n ≤ 4 ∧ 0 ≤ g ∧ g ≤ 1000000)
        · simp [z1, z2, z3]
        · simp [z1, z2, z3]
      · simp [z1, z2]
    · simp [z1]
  replace h3 := Lib.hid h3
  replace hb3 := Lib.hid hb3
  replace hE3 := Lib.hid hE3
  go_upto_if 52 with fail
  go_cut [17] (fun v wx => v = .int .i64 E3 ∧ W2 = wx)
  case first =>
    cases b3
    · have e : E2 = E3 := h3.out
      subst e
      go_wp2_with fail
      go_meet
      exact ⟨rfl, rfl⟩
    · have e : 1 = E3 := h3.out
      subst e
      go_wp2_with fail
      go_meet
      exact ⟨rfl, rfl⟩
  case rest =>
  obtain ⟨rfl, rfl⟩ := hcut
  clear hb3 h3 hE2 hE1
  have hXn := hX.out.alloc (.cells #[.int .i64 0, .int .i64 0, .int .i64 0, .int .i64 0, .slice none 0 0, .slice none 0 0, .slice none 0 0, .slice none 0 0, .slice none 0 0] 29)
  have hn0 := Blk.new W2 29 #[.int .i64 0, .int .i64 0, .int .i64 0, .int .i64 0, .slice none 0 0, .slice none 0 0, .slice none 0 0, .slice none 0 0, .slice none 0 0]
  go_upto_region 7 with fail
  generalize (W2.alloc (.cells #[.int .i64 0, .int .i64 0, .int .i64 0, .int .i64 0, .slice none 0 0, .slice none 0 0, .slice none 0 0, .slice none 0 0, .slice none 0 0] 29)) = W3 at *
  obtain ⟨nb, hnb⟩ : ∃ nb, W2.heap.size = nb := ⟨_, rfl⟩
  rw [hnb] at hn0
  rw [hnb]
  have hwn : wb < nb := by rw [← hnb]; exact hX.out.kw.lt
  clear hX
  have hX := Lib.hid hXn
  clear hXn
  replace hn0 := Lib.hid hn0
  replace hnb := Lib.hid hnb
  replace hwn := Lib.hid hwn
  obtain ⟨X, hXe⟩ : ∃ X, wantN L f n g = X := ⟨_, rfl⟩
  have hfew := wantN_few L f n g
  rw [hXe] at hfew
  replace hfew := Lib.hid hfew
  replace hXe := Lib.hid hXe
  go_upto_if 55 with fail
  obtain ⟨bz, hbz⟩ : ∃ b : Bool, (E3 == 0) = b := ⟨_, rfl⟩
  rw [hbz]
  replace hbz := Lib.hid hbz
  go_cut [19] (fun _ wx0 => ∃ wx, wx = wx0 ∧ ∃ s2 : SW, Hid (BG w wx sK L sf f s x fb wb) ∧ Hid (Blk wx nb 29 #[.int .i64 X.turn, .int .i64 X.next, .int .i64 X.field.wide, .int .i64 X.field.high, .slice s2.field.ground.A X.field.ground.length s2.field.ground.c, .slice s2.field.ore.A X.field.ore.length s2.field.ore.c, .slice s2.gold.A X.gold.length s2.gold.c, .slice s2.units.A X.units.length s2.units.c, .slice s2.queue.A X.queue.length s2.queue.c]) ∧ Hid (WRd wx wx.heap.size s2 X))
  case first =>
    as_aux_lemma =>
    cases bz
    case true =>
      have z : E3 = 0 := by simpa using hbz.out
      have hw := hXe.out
      unfold wantN at hw
      rw [hE3.out, if_pos z] at hw
      obtain ⟨_, _, b1, b2, b3, b4⟩ := newE_0 (hE3.out.trans z)
      replace z := Lib.hid z
      obtain ⟨q, rfl⟩ : ∃ q : Nat, n = (q : Int) := ⟨n.toNat, by omega⟩
      replace hw := Lib.hid hw
      obtain ⟨m0, m1, m2, m3, m4, m5, m6, m7, m8, mll, q0, q1, q2, q3, qll⟩ := hX.out.cells
      have r1 : W3.cell? ⟨nb, 1, none⟩ = some (.int .i64 0) := hn0.out.cell 1
      have y1 := hn0.out.frozen 1
      have r2 : W3.cell? ⟨nb, 2, none⟩ = some (.int .i64 0) := hn0.out.cell 2
      have y2 := hn0.out.frozen 2
      have r3 : W3.cell? ⟨nb, 3, none⟩ = some (.int .i64 0) := hn0.out.cell 3
      have y3 := hn0.out.frozen 3
      have r4 : W3.cell? ⟨nb, 4, none⟩ = some (.slice none 0 0) := hn0.out.cell 4
      have y4 := hn0.out.frozen 4
      have r5 : W3.cell? ⟨nb, 5, none⟩ = some (.slice none 0 0) := hn0.out.cell 5
      have y5 := hn0.out.frozen 5
      have nl := hn0.out.lt
      have nwb : wb ≠ nb := by have := hwn.out; omega
      have nfb : fb ≠ nb := by have := hwn.out; have := hX.out.p2; omega
      go_upto_region 10 with fail
      have hXn := (((((hX.out.far (b := nb) (i := 1) hwn.out (.int .i64 1)).far (b := nb) (i := 2) hwn.out (.int .i64 f.wide)).far (b := nb) (i := 3) hwn.out (.int .i64 f.high)).far (b := nb) (i := 4) hwn.out (.slice sf.ground.A f.ground.length sf.ground.c)).far (b := nb) (i := 5) hwn.out (.slice sf.ore.A f.ore.length sf.ore.c))
      have hvn := (((((hn0.out.set_ 1 (.int .i64 1)).set_ 2 (.int .i64 f.wide)).set_ 3 (.int .i64 f.high)).set_ 4 (.slice sf.ground.A f.ground.length sf.ground.c)).set_ 5 (.slice sf.ore.A f.ore.length sf.ore.c))
      simp only [List.setIfInBounds_toArray, List.set_cons_zero, List.set_cons_succ] at hvn
      clear hX hn0 r1 r2 r3 r4 r5 y1 y2 y3 y4 y5 nl nwb nfb m0 m1 m2 m3 m4 m5 m6 m7 m8 mll q0 q1 q2 q3 qll
      generalize (((((W3.setCell ⟨nb, 1, none⟩ (.int .i64 1)).setCell ⟨nb, 2, none⟩ (.int .i64 f.wide)).setCell ⟨nb, 3, none⟩ (.int .i64 f.high)).setCell ⟨nb, 4, none⟩ (.slice sf.ground.A f.ground.length sf.ground.c)).setCell ⟨nb, 5, none⟩ (.slice sf.ore.A f.ore.length sf.ore.c)) = W4 at *
      have hX := Lib.hid hXn
      have hn0 := Lib.hid hvn
      clear hXn hvn
      have ho0 : W4.ownsRow (nb + 1) 3 1 (.slice none 0 0) 0 [] := World.ownsRow_nil _ _ _ _
      replace ho0 := Lib.hid ho0
      go_wp2_with fail
      go_loopw [19] (fun v wr => ∃ j : Nat, v = .int .i64 j ∧ j ≤ q ∧ ∃ U c, Hid (BG w wr sK L sf f s x fb wb) ∧ Hid (Blk wr nb 29 #[.int .i64 0, .int .i64 1, .int .i64 f.wide, .int .i64 f.high, .slice sf.ground.A f.ground.length sf.ground.c, .slice sf.ore.A f.ore.length sf.ore.c, .slice U j c, .slice none 0 0, .slice none 0 0]) ∧ Hid (wr.ownsRow (nb + 1) 3 1 (.slice U j c) j ((List.replicate j g).map (.int .i64)))) (fun v _ => q - (intOf v).toNat)
      case atStart => exact ⟨0, rfl, Nat.zero_le _, none, 0, hX, hn0, ho0⟩
      case round =>
        clear hX hn0 ho0
        obtain ⟨j, rfl, hj, U, c, hX, hn0, ho⟩ := hrel
        by_cases hlt : j < q
        · have j1 : (j : Int) < (q : Int) := by omega
          have r6 : wr.cell? ⟨nb, 6, none⟩ = some (.slice U j c) := hn0.out.cell 6
          have nl := hn0.out.lt
          have hs : nb + 1 ≤ wr.heap.size := nl
          replace hs := Lib.hid hs
          go_wp2_with (at_builtin; refine wpList_app1 rfl (.tmp 65) (.tmp 67) 23 rfl (nb + 1) 3 i0 _ 1 8 Tryz.underlying23 hi0 hz0 hz1 hz2 rfl (by decide) (by decide) wr #[.int .i64 g] (.slice U j c) j _ rfl ho.out rfl rfl rfl ?_ hs.out ?_)
          · omega
          intro v' w5 hown hgrow
          clear r6 nl
          have hrow : ∀ b, (Value.slice U j c).ownBlock = some b → nb + 1 ≤ b := fun b e => (ho.out.lt b e).1
          have hXn := hX.out.grown hgrow (fun b e => by have := hrow b e; have := hwn.out; omega)
          have hvn := hn0.out.grown hgrow (fun e => by have := hrow nb e.symm; omega)
          obtain ⟨U', c', rfl, _⟩ := own_slice hown
          clear hX hn0 hgrow hrow
          have hX := Lib.hid hXn
          have hn1 := Lib.hid hvn
          clear hXn hvn
          replace hown := Lib.hid hown
          have r6 : w5.cell? ⟨nb, 6, none⟩ = some (.slice U j c) := hn1.out.cell 6
          have y6 := hn1.out.frozen 6
          have nl := hn1.out.lt
          go_wp2_with fail
          have hX7 := hX.out.far (b := nb) (i := 6) hwn.out (.slice U' (j + 1) c')
          have hn7 := hn1.out.set_ 6 (.slice U' (j + 1) c')
          simp only [List.setIfInBounds_toArray, List.set_cons_zero, List.set_cons_succ] at hn7
          have ho7 := own_farW (b := nb) (i := 6) (u := .slice U' (j + 1) c') hown.out (Nat.lt_succ_self _)
          have e7 : (List.replicate j g).map (Value.int .i64) ++ #[Value.int .i64 g].toList = (List.replicate (j + 1) g).map (Value.int .i64) := by rw [List.replicate_succ']; simp
          have e8 : List.replicate j (Value.int .i64 g) ++ [Value.int .i64 g] = (List.replicate (j + 1) g).map (Value.int .i64) := by rw [List.replicate_succ']; simp
          first | rw [e8] at ho7 | rw [e7] at ho7
          clear e7 e8
          replace hX7 := Lib.hid hX7
          replace hn7 := Lib.hid hn7
          replace ho7 := Lib.hid ho7
          go_roundw
          case rel =>
            first
              | exact ⟨j + 1, by go_num, by omega, U', c', hX7, hn7, ho7⟩
              | exact ⟨.int .i64 ((j : Int) + 1), _, _, _, _, _, _, _, _, _, _, _, ⟨j + 1, by go_num, by omega, U', c', hX7, hn7, ho7⟩, rfl⟩
          case measure => simp [intOf]; omega
        · have j1 : ¬ (j : Int) < (q : Int) := by omega
          obtain rfl : j = q := by omega
          go_wp2_with fail
          go_meet
          have hw2 := hw.out
          subst hw2
          have e : (newX f (j : Int) g).gold.length = j := by simp [newX]
          have hfo := hX.out.fo_
          have hbk : Blk wr nb 29 #[.int .i64 (newX f (j : Int) g).turn, .int .i64 (newX f (j : Int) g).next, .int .i64 (newX f (j : Int) g).field.wide, .int .i64 (newX f (j : Int) g).field.high, .slice (⟨sf, ⟨U, c⟩, ⟨none, 0⟩, ⟨none, 0⟩⟩ : SW).field.ground.A (newX f (j : Int) g).field.ground.length (⟨sf, ⟨U, c⟩, ⟨none, 0⟩, ⟨none, 0⟩⟩ : SW).field.ground.c, .slice (⟨sf, ⟨U, c⟩, ⟨none, 0⟩, ⟨none, 0⟩⟩ : SW).field.ore.A (newX f (j : Int) g).field.ore.length (⟨sf, ⟨U, c⟩, ⟨none, 0⟩, ⟨none, 0⟩⟩ : SW).field.ore.c, .slice (⟨sf, ⟨U, c⟩, ⟨none, 0⟩, ⟨none, 0⟩⟩ : SW).gold.A (newX f (j : Int) g).gold.length (⟨sf, ⟨U, c⟩, ⟨none, 0⟩, ⟨none, 0⟩⟩ : SW).gold.c, .slice (⟨sf, ⟨U, c⟩, ⟨none, 0⟩, ⟨none, 0⟩⟩ : SW).units.A (newX f (j : Int) g).units.length (⟨sf, ⟨U, c⟩, ⟨none, 0⟩, ⟨none, 0⟩⟩ : SW).units.c, .slice (⟨sf, ⟨U, c⟩, ⟨none, 0⟩, ⟨none, 0⟩⟩ : SW).queue.A (newX f (j : Int) g).queue.length (⟨sf, ⟨U, c⟩, ⟨none, 0⟩, ⟨none, 0⟩⟩ : SW).queue.c] := by
            rw [e]; exact hn0.out
          refine ⟨wr, rfl, ⟨sf, ⟨U, c⟩, ⟨none, 0⟩, ⟨none, 0⟩⟩, hX, Lib.hid hbk, Lib.hid ⟨hfo.2.2.1.1, hfo.2.2.2.1, ?_, RD.nil_, RD.nil_⟩⟩
          rw [e]
          have h := RD.of_own ho.out
          show RD wr wr.heap.size 1 U j ((List.replicate (j : Int).toNat g).map (.int .i64))
          rw [Int.toNat_natCast]
          exact h
    case false =>
      have z : ¬ E3 = 0 := by simpa using hbz.out
      have hw := hXe.out
      unfold wantN at hw
      rw [hE3.out, if_neg z] at hw
      subst hw
      go_wp2_with fail
      go_meet
      exact ⟨W3, rfl, nilS, hX, hn0, Lib.hid (WRd.zero _)⟩
  case rest =>
  obtain ⟨W4, rfl, s2, hX, hn0, hR2⟩ := hcut
  refine (‹∀ (a : Act) (w : World), Code.wp Tryz.prog _ _ a w → _›) _ _ ?_
  exact begins_C sK L sf f n g s x p k a w i0 hi0 hz0 hz1 hz2 hul fb wb nb hwn X s2 E3 hE3 hfew hXe bz hbz W4 hX hn0 hR2 _ _ _ _ _ _ _ _ _ _ _ _ _ _ _ _ _ _ _ _ _ _ _ _ _ _ _ _ _ _ _ _ _ _ _ _ _ _ _ _ _ _ _ _ _ _ _ _ _ _ _ _ _ _ _ _ _ _ _ _ _ _ _ _ _ _ _ _ _ _ _ _ _ _ _ _ _ _ _ _ _ _ _ _ _ _ _ _ _ _ _ _ _ _ _ _ _ _ _ _ _ _ _ _ _ _ _ _ _ _ _ _ _ _ _ _ _ _ _ _ _ _ _ _ _ _ _ _ _ _ _ _ _ _ _ _ _ _ _ _ _ _ _ _ _ _ _ _ _ _ _ _ _ _ _ _ _ _ _ _ _ _ _ _ _ _ _ _ _ _ _ _ _ _ _ _ _ _ _
theorem worldBegins_any (v0 : Value) (x0 : SL × List GK) (v1 : Value) (x1 : SF × GF) (a2 a3 : Int) (v4 : Value) (x4 : SW × GW) (a5 a6 a7 : Int) (w : World) (hv : HV w) (h0 : v0 = .slice x0.1.A x0.2.length x0.1.c ∧ SLK w x0.1 x0.2) (h1 : v1 = .agg (fV x1.1 x1.2).toArray ∧ FOk w x1.1 x1.2) (h2 : (Lit.int .i64 a2).wf = true) (h3 : (Lit.int .i64 a3).wf = true) (h4 : v4 = .agg (wV x4.1 x4.2).toArray ∧ WOk w x4.1 x4.2) (h5 : (Lit.int .i64 a5).wf = true) (h6 : (Lit.int .i64 a6).wf = true) (h7 : (Lit.int .i64 a7).wf = true) :
    Calls Tryz.prog 3 #[v0, v1, .int .i64 a2, .int .i64 a3, v4, .int .i64 a5, .int .i64 a6, .int .i64 a7] w fun e w' => e = .returned (.bool true) ∧ Below w.heap.size w w' := by
  obtain ⟨rfl, hK⟩ := h0
  obtain ⟨rfl, hF⟩ := h1
  obtain ⟨rfl, hW⟩ := h4
  exact begins_any x0.1 x0.2 x1.1 x1.2 a2 a3 x4.1 x4.2 a5 a6 a7 w hv hK.ks hF hW
end Go.Proofs.YtkgkpggfoieioaaGreatDoor
