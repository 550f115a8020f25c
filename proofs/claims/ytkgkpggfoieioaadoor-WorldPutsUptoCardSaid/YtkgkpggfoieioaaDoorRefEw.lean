import Derived.Test.YtkgkpggfoieioaaDoorRefEn
import Derived.Test.YtkgkpggfoieioaaDoorEncB
namespace Go.Proofs.YtkgkpggfoieioaaDoor
set_option linter.unusedVariables false
open Go.RowKit
/-! marchref2.Encode. -/
set_option maxHeartbeats 6400000 in
set_option maxRecDepth 100000 in
theorem rencode_any (s : SW) (x : GW) (w : World) (hW : WOk w s x) (hl1 : x.field.ground.length ≤ 1048576) (hl2 : x.field.ore.length ≤ 1048576) (hl3 : x.gold.length ≤ 1048576) (hl4 : x.units.length ≤ 1048576) (hl5 : x.queue.length ≤ 1048576) :
    Calls Tryd.prog 32 #[.agg #[.int .i64 x.turn, .int .i64 x.next, .int .i64 x.field.wide, .int .i64 x.field.high, .slice s.field.ground.A x.field.ground.length s.field.ground.c, .slice s.field.ore.A x.field.ore.length s.field.ore.c, .slice s.gold.A x.gold.length s.gold.c, .slice s.units.A x.units.length s.units.c, .slice s.queue.A x.queue.length s.queue.c]] w fun e w' => ∃ v, e = .returned v ∧ w'.ownsRow (w.heap.size + 1) 5 1 v (encL x).length ((encL x).map (.int .u8)) ∧ Below w.heap.size w w' := by
  have i1 := hW.1
  have i2 := hW.2.1
  have i3 := hW.2.2.1.1
  have i4 := hW.2.2.1.2.1
  have iU := hW.2.2.2.2.1.2.2.2.2
  have iQ := hW.2.2.2.2.2.2.2.2.2
  have iU2 : ∀ u ∈ x.units, ∀ n ∈ uN u, I64 n := fun u hu n hn => by
    have h := iU u hu
    unfold GU.ok at h
    obtain ⟨h1, h2, h3, h4, h5, h6, h7, h8⟩ := h
    simp only [uN, List.mem_cons, List.not_mem_nil, or_false] at hn
    rcases hn with rfl | rfl | rfl | rfl | rfl | rfl | rfl | rfl <;> assumption
  have iJ2 : ∀ u ∈ x.queue, u.ok := iQ
  have ho : OE w s x [] 0 (.slice none 0 0) [] (w.alloc (.cells #[.int .i64 x.turn, .int .i64 x.next, .int .i64 x.field.wide, .int .i64 x.field.high, .slice s.field.ground.A x.field.ground.length s.field.ground.c, .slice s.field.ore.A x.field.ore.length s.field.ore.c, .slice s.gold.A x.gold.length s.gold.c, .slice s.units.A x.units.length s.units.c, .slice s.queue.A x.queue.length s.queue.c] 55)) := by
    refine ⟨World.ownsRow_nil _ _ _ _, (Below.refl _ _).alloc (Nat.le_refl _) _, Blk.new _ _ _, hW, by simp, fun p hp => by simp at hp⟩
  have hG := hW.2.2.1.2.2.1
  have hO := hW.2.2.1.2.2.2
  have hD := hW.2.2.2.1
  replace ho := Lib.hid ho
  replace hG := Lib.hid hG
  replace hO := Lib.hid hO
  replace hD := Lib.hid hD
  replace iU2 := Lib.hid iU2
  replace iJ2 := Lib.hid iJ2
  replace hW := Lib.hid hW
  clear iU iQ
  go_enter Tryd.func32, Tryd.ntmps32
  go_upto_region 1 with fail
  generalize (w.alloc (.cells #[.int .i64 x.turn, .int .i64 x.next, .int .i64 x.field.wide, .int .i64 x.field.high, .slice s.field.ground.A x.field.ground.length s.field.ground.c, .slice s.field.ore.A x.field.ore.length s.field.ore.c, .slice s.gold.A x.gold.length s.gold.c, .slice s.units.A x.units.length s.units.c, .slice s.queue.A x.queue.length s.queue.c] 55)) = W0 at *
  obtain ⟨r0, hr0⟩ : ∃ r0, w.heap.size = r0 := ⟨_, rfl⟩
  rw [hr0]
  have KW : ∀ m v bs cs wz, OE w s x cs m v bs wz → Blk wz r0 55 #[.int .i64 x.turn, .int .i64 x.next, .int .i64 x.field.wide, .int .i64 x.field.high, .slice s.field.ground.A x.field.ground.length s.field.ground.c, .slice s.field.ore.A x.field.ore.length s.field.ore.c, .slice s.gold.A x.gold.length s.gold.c, .slice s.units.A x.units.length s.units.c, .slice s.queue.A x.queue.length s.queue.c] := fun m v bs cs wz h => by rw [← hr0]; exact h.kw
  replace KW := Lib.hid KW
  replace hr0 := Lib.hid hr0
  have hkw := KW.out _ _ _ _ _ ho.out
  have c0 : W0.cell? ⟨r0, 0, none⟩ = some (.int .i64 x.turn) := hkw.cell 0
  have lb := hkw.lt
  replace hkw := Lib.hid hkw
  have hc := ho.out.num (x.turn) (by omega) i1
  replace hc := Lib.hid hc
  go_wp2_with fail
  refine hc.out.mono ?_
  clear hc
  clear hkw c0 lb
  rintro e W1 ⟨v1, rfl, ho2⟩
  clear ho
  have ho := Lib.hid ho2
  clear ho2
  have hkw := KW.out _ _ _ _ _ ho.out
  have c1 : W1.cell? ⟨r0, 1, none⟩ = some (.int .i64 x.next) := hkw.cell 1
  have lb := hkw.lt
  replace hkw := Lib.hid hkw
  have hc := ho.out.num (x.next) (by omega) i2
  replace hc := Lib.hid hc
  go_wp2_with fail
  refine hc.out.mono ?_
  clear hc
  clear hkw c1 lb
  rintro e W2 ⟨v2, rfl, ho2⟩
  clear ho
  have ho := Lib.hid ho2
  clear ho2
  have hkw := KW.out _ _ _ _ _ ho.out
  have c2 : W2.cell? ⟨r0, 2, none⟩ = some (.int .i64 x.field.wide) := hkw.cell 2
  have lb := hkw.lt
  replace hkw := Lib.hid hkw
  have hc := ho.out.num (x.field.wide) (by omega) i3
  replace hc := Lib.hid hc
  go_wp2_with fail
  refine hc.out.mono ?_
  clear hc
  clear hkw c2 lb
  rintro e W3 ⟨v3, rfl, ho2⟩
  clear ho
  have ho := Lib.hid ho2
  clear ho2
  have hkw := KW.out _ _ _ _ _ ho.out
  have c3 : W3.cell? ⟨r0, 3, none⟩ = some (.int .i64 x.field.high) := hkw.cell 3
  have lb := hkw.lt
  replace hkw := Lib.hid hkw
  have hc := ho.out.num (x.field.high) (by omega) i4
  replace hc := Lib.hid hc
  go_wp2_with fail
  refine hc.out.mono ?_
  clear hc
  clear hkw c3 lb
  rintro e W4 ⟨v4, rfl, ho2⟩
  clear ho
  have ho := Lib.hid ho2
  clear ho2
  replace ho := Lib.hid (ho.out.up (m' := 40) (by omega))
  have hkw := KW.out _ _ _ _ _ ho.out
  have c4 : W4.cell? ⟨r0, 4, none⟩ = some (.slice s.field.ground.A x.field.ground.length s.field.ground.c) := hkw.cell 4
  have lb := hkw.lt
  replace hkw := Lib.hid hkw
  have hc := nums_any s.field.ground.A s.field.ground.c x.field.ground W4 ho.out hG.out (by omega)
  replace hc := Lib.hid hc
  go_wp2_with fail
  refine hc.out.mono ?_
  clear hc
  clear hkw c4 lb
  rintro e W5 ⟨v5, rfl, ho2⟩
  clear ho
  have ho := Lib.hid (ho2.up (m' := 10485810) (by omega))
  clear ho2
  have hkw := KW.out _ _ _ _ _ ho.out
  have c5 : W5.cell? ⟨r0, 5, none⟩ = some (.slice s.field.ore.A x.field.ore.length s.field.ore.c) := hkw.cell 5
  have lb := hkw.lt
  replace hkw := Lib.hid hkw
  have hc := nums_any s.field.ore.A s.field.ore.c x.field.ore W5 ho.out hO.out (by omega)
  replace hc := Lib.hid hc
  go_wp2_with fail
  refine hc.out.mono ?_
  clear hc
  clear hkw c5 lb
  rintro e W6 ⟨v6, rfl, ho2⟩
  clear ho
  have ho := Lib.hid (ho2.up (m' := 20971580) (by omega))
  clear ho2
  have hkw := KW.out _ _ _ _ _ ho.out
  have c6 : W6.cell? ⟨r0, 6, none⟩ = some (.slice s.gold.A x.gold.length s.gold.c) := hkw.cell 6
  have lb := hkw.lt
  replace hkw := Lib.hid hkw
  have hc := nums_any s.gold.A s.gold.c x.gold W6 ho.out hD.out (by omega)
  replace hc := Lib.hid hc
  go_wp2_with fail
  refine hc.out.mono ?_
  clear hc
  clear hkw c6 lb
  rintro e W7 ⟨v7, rfl, ho2⟩
  clear ho
  have ho := Lib.hid (ho2.up (m' := 31457350) (by omega))
  clear ho2
  have hkw := KW.out _ _ _ _ _ ho.out
  have c7 : W7.cell? ⟨r0, 7, none⟩ = some (.slice s.units.A x.units.length s.units.c) := hkw.cell 7
  have lb := hkw.lt
  replace hkw := Lib.hid hkw
  have hc := ho.out.num (x.units.length : Int) (by omega) (by unfold I64; omega)
  replace hc := Lib.hid hc
  go_wp2_with fail
  refine hc.out.mono ?_
  clear hc
  clear hkw c7 lb
  rintro e W8 ⟨v8, rfl, ho2⟩
  clear ho
  have ho := Lib.hid ho2
  clear ho2
  obtain ⟨B, hB⟩ : ∃ B, [] ++ numL x.turn ++ numL x.next ++ numL x.field.wide ++ numL x.field.high ++ (lN x.field.ground).flatMap numL ++ (lN x.field.ore).flatMap numL ++ (lN x.gold).flatMap numL ++ numL (x.units.length : Int) = B := ⟨_, rfl⟩
  replace ho : Hid (OE w s x [] 31457360 v8 B W8) := by rw [← hB]; exact ho
  replace hB := Lib.hid hB
  go_wp2_with fail
  go_loopw [3, 4, 5, 6, 7] (fun vv vi _ _ _ wr => ∃ k : Nat, vi = .int .i64 k ∧ k ≤ x.units.length ∧ Hid (OE w s x [] (31457360 + 80 * k) vv (B ++ (x.units.take k).flatMap (fun u => (uN u).flatMap numL)) wr)) (fun _ vi _ _ _ _ => x.units.length - (intOf vi).toNat)
  case atStart => exact ⟨0, rfl, Nat.zero_le _, Lib.hid (by simpa using ho.out)⟩
  case round =>
    clear ho
    obtain ⟨k, rfl, hk, ho⟩ := hrel
    by_cases hlt : k < x.units.length
    · as_aux_lemma =>
      have j1 : (k : Int) < (x.units.length : Int) := by omega
      have hR : RD wr w.heap.size 8 _ _ _ := RD.below hW.out.2.2.2.2.1.1 ho.out.bel
      obtain ⟨b, off, hA, hbB, hcs⟩ := hR.2 (by omega)
      have hsz := ho.out.bas
      have hg : x.units[k]? = some x.units[k] := List.getElem?_eq_getElem hlt
      have hcc : ∀ j, j < 8 → wr.cell? ⟨b, off + (k * 8 + j), none⟩ = (uC x.units[k])[j]? := fun j hj => by rw [hcs (k * 8 + j) (by omega), flat_get uC 8 (fun _ => rfl) x.units k j hj, hg]; rfl
      have hIu := iU2.out x.units[k] (List.getElem_mem hlt)
      have htk : (x.units.take (k + 1)).flatMap (fun u => (uN u).flatMap numL) = (x.units.take k).flatMap (fun u => (uN u).flatMap numL) ++ (uN x.units[k]).flatMap numL := by rw [List.take_succ_eq_append_getElem hlt, List.flatMap_append]; simp
      generalize x.units[k] = u at *
      have hbl : b < wr.heap.size := by omega
      have e0 : wr.cell? ⟨b, off + k * 8, none⟩ = some (.int .i64 u.id) := hcc 0 (by omega)
      have e1 : wr.cell? ⟨b, off + k * 8 + 1, none⟩ = some (.int .i64 u.player) := hcc 1 (by omega)
      have e2 : wr.cell? ⟨b, off + k * 8 + 2, none⟩ = some (.int .i64 u.kind) := hcc 2 (by omega)
      have e3 : wr.cell? ⟨b, off + k * 8 + 3, none⟩ = some (.int .i64 u.spot) := hcc 3 (by omega)
      have e4 : wr.cell? ⟨b, off + k * 8 + 4, none⟩ = some (.int .i64 u.life) := hcc 4 (by omega)
      have e5 : wr.cell? ⟨b, off + k * 8 + 5, none⟩ = some (.int .i64 u.load) := hcc 5 (by omega)
      have e6 : wr.cell? ⟨b, off + k * 8 + 6, none⟩ = some (.int .i64 u.task) := hcc 6 (by omega)
      have e7 : wr.cell? ⟨b, off + k * 8 + 7, none⟩ = some (.int .i64 u.goal) := hcc 7 (by omega)
      clear hcc hcs hg hR
      have hkw := KW.out _ _ _ _ _ ho.out
      have c7 : wr.cell? ⟨r0, 7, none⟩ = some (.slice s.units.A x.units.length s.units.c) := hkw.cell 7
      have lb := hkw.lt
      replace hkw := Lib.hid hkw
      rw [hA] at c7
      rw [hA]
      replace hA := Lib.hid hA
      replace htk := Lib.hid htk
      replace hIu := Lib.hid hIu
      go_upto_region 13 with fail
      have ho2 := ho.out.alloc (.cells #[.int .i64 u.id, .int .i64 u.player, .int .i64 u.kind, .int .i64 u.spot, .int .i64 u.life, .int .i64 u.load, .int .i64 u.task, .int .i64 u.goal] 33)
      have hbx := Blk.new wr 33 #[.int .i64 u.id, .int .i64 u.player, .int .i64 u.kind, .int .i64 u.spot, .int .i64 u.life, .int .i64 u.load, .int .i64 u.task, .int .i64 u.goal]
      generalize (wr.alloc (.cells #[.int .i64 u.id, .int .i64 u.player, .int .i64 u.kind, .int .i64 u.spot, .int .i64 u.life, .int .i64 u.load, .int .i64 u.task, .int .i64 u.goal] 33)) = Wb at *
      generalize wr.heap.size = g8 at *
      have lbx := hbx.lt
      have d0 : Wb.cell? ⟨g8, 0, none⟩ = some (.int .i64 u.id) := hbx.cell 0
      have d1 : Wb.cell? ⟨g8, 1, none⟩ = some (.int .i64 u.player) := hbx.cell 1
      have d2 : Wb.cell? ⟨g8, 2, none⟩ = some (.int .i64 u.kind) := hbx.cell 2
      have d3 : Wb.cell? ⟨g8, 3, none⟩ = some (.int .i64 u.spot) := hbx.cell 3
      have d4 : Wb.cell? ⟨g8, 4, none⟩ = some (.int .i64 u.life) := hbx.cell 4
      have d5 : Wb.cell? ⟨g8, 5, none⟩ = some (.int .i64 u.load) := hbx.cell 5
      have d6 : Wb.cell? ⟨g8, 6, none⟩ = some (.int .i64 u.task) := hbx.cell 6
      have d7 : Wb.cell? ⟨g8, 7, none⟩ = some (.int .i64 u.goal) := hbx.cell 7
      replace hbx := Lib.hid hbx
      clear e0 e1 e2 e3 e4 e5 e6 e7 c7 lb hkw ho
      have ho := Lib.hid ho2
      clear ho2
      go_upto_region 14 with (refine wp_bsE rfl _ _ _ _ rfl _ (bs_i8 u.id u.player u.kind u.spot u.life u.load u.task u.goal _) (by simp only [List.map_toArray, List.map_cons, List.map_nil]; rfl) ?_)
      have ho3 := ho.out.keep 3 #[.int .i64 u.id, .int .i64 u.player, .int .i64 u.kind, .int .i64 u.spot, .int .i64 u.life, .int .i64 u.load, .int .i64 u.task, .int .i64 u.goal]
      clear ho lbx hbx d0 d1 d2 d3 d4 d5 d6 d7
      generalize (Wb.alloc (.cells #[.int .i64 u.id, .int .i64 u.player, .int .i64 u.kind, .int .i64 u.spot, .int .i64 u.life, .int .i64 u.load, .int .i64 u.task, .int .i64 u.goal] 3)) = Wc at *
      generalize Wb.heap.size = g9 at *
      have ho := Lib.hid ho3
      clear ho3
      obtain ⟨Bk, hBk⟩ : ∃ Bk, B ++ (x.units.take k).flatMap (fun u => (uN u).flatMap numL) = Bk := ⟨_, rfl⟩
      rw [hBk] at ho
      replace hBk := Lib.hid hBk
      obtain ⟨wo, hwo⟩ : ∃ wo : World, wo = wr := ⟨_, rfl⟩
      clear hwo
      go_wp2_with fail
      go_loopw [3, 7] (fun vv vi wx => ∃ j : Nat, vi = .int .i64 j ∧ j ≤ 8 ∧ Hid (OE w s x [(g9, 3, #[.int .i64 u.id, .int .i64 u.player, .int .i64 u.kind, .int .i64 u.spot, .int .i64 u.life, .int .i64 u.load, .int .i64 u.task, .int .i64 u.goal])] (31457360 + 80 * k + 10 * j) vv (Bk ++ ((uN u).take j).flatMap numL) wx)) (fun _ vi _ => 8 - (intOf vi).toNat)
      case atStart => exact ⟨0, rfl, Nat.zero_le _, Lib.hid (by simpa using ho.out)⟩
      case round =>
        clear ho
        obtain ⟨j, rfl, hj, ho⟩ := hrel
        rcases (by omega : j = 0 ∨ j = 1 ∨ j = 2 ∨ j = 3 ∨ j = 4 ∨ j = 5 ∨ j = 6 ∨ j = 7 ∨ j = 8) with rfl | rfl | rfl | rfl | rfl | rfl | rfl | rfl | rfl
        · have hbk := (ho.out.kp (g9, 3, #[.int .i64 u.id, .int .i64 u.player, .int .i64 u.kind, .int .i64 u.spot, .int .i64 u.life, .int .i64 u.load, .int .i64 u.task, .int .i64 u.goal]) (by simp)).1
          have d0 : wr.cell? ⟨g9, 0, none⟩ = some (.int .i64 u.id) := hbk.cell 0
          have lbx := hbk.lt
          replace hbk := Lib.hid hbk
          have hc := ho.out.num u.id (by omega) (hIu.out _ (by simp [uN]))
          replace hc := Lib.hid hc
          go_wp2_with fail
          refine hc.out.mono ?_
          clear hc d0 lbx hbk
          rintro e Wd ⟨vd, rfl, ho2⟩
          have ho3 : OE w s x [(g9, 3, #[.int .i64 u.id, .int .i64 u.player, .int .i64 u.kind, .int .i64 u.spot, .int .i64 u.life, .int .i64 u.load, .int .i64 u.task, .int .i64 u.goal])] (31457360 + 80 * k + 10 * 1) vd (Bk ++ ((uN u).take 1).flatMap numL) Wd := by
            have e : Bk ++ ((uN u).take 1).flatMap numL = Bk ++ ((uN u).take 0).flatMap numL ++ numL u.id := by simp [uN]
            rw [e]
            exact ho2.up (by omega)
          replace ho3 := Lib.hid ho3
          clear ho2 ho
          go_wp2_with fail
          go_roundw
          case rel => exact ⟨1, by go_num, by omega, ho3⟩
          case measure => simp [intOf]
        · have hbk := (ho.out.kp (g9, 3, #[.int .i64 u.id, .int .i64 u.player, .int .i64 u.kind, .int .i64 u.spot, .int .i64 u.life, .int .i64 u.load, .int .i64 u.task, .int .i64 u.goal]) (by simp)).1
          have d0 : wr.cell? ⟨g9, 1, none⟩ = some (.int .i64 u.player) := hbk.cell 1
          have lbx := hbk.lt
          replace hbk := Lib.hid hbk
          have hc := ho.out.num u.player (by omega) (hIu.out _ (by simp [uN]))
          replace hc := Lib.hid hc
          go_wp2_with fail
          refine hc.out.mono ?_
          clear hc d0 lbx hbk
          rintro e Wd ⟨vd, rfl, ho2⟩
          have ho3 : OE w s x [(g9, 3, #[.int .i64 u.id, .int .i64 u.player, .int .i64 u.kind, .int .i64 u.spot, .int .i64 u.life, .int .i64 u.load, .int .i64 u.task, .int .i64 u.goal])] (31457360 + 80 * k + 10 * 2) vd (Bk ++ ((uN u).take 2).flatMap numL) Wd := by
            have e : Bk ++ ((uN u).take 2).flatMap numL = Bk ++ ((uN u).take 1).flatMap numL ++ numL u.player := by simp [uN]
            rw [e]
            exact ho2.up (by omega)
          replace ho3 := Lib.hid ho3
          clear ho2 ho
          go_wp2_with fail
          go_roundw
          case rel => exact ⟨2, by go_num, by omega, ho3⟩
          case measure => simp [intOf]
        · have hbk := (ho.out.kp (g9, 3, #[.int .i64 u.id, .int .i64 u.player, .int .i64 u.kind, .int .i64 u.spot, .int .i64 u.life, .int .i64 u.load, .int .i64 u.task, .int .i64 u.goal]) (by simp)).1
          have d0 : wr.cell? ⟨g9, 2, none⟩ = some (.int .i64 u.kind) := hbk.cell 2
          have lbx := hbk.lt
          replace hbk := Lib.hid hbk
          have hc := ho.out.num u.kind (by omega) (hIu.out _ (by simp [uN]))
          replace hc := Lib.hid hc
          go_wp2_with fail
          refine hc.out.mono ?_
          clear hc d0 lbx hbk
          rintro e Wd ⟨vd, rfl, ho2⟩
          have ho3 : OE w s x [(g9, 3, #[.int .i64 u.id, .int .i64 u.player, .int .i64 u.kind, .int .i64 u.spot, .int .i64 u.life, .int .i64 u.load, .int .i64 u.task, .int .i64 u.goal])] (31457360 + 80 * k + 10 * 3) vd (Bk ++ ((uN u).take 3).flatMap numL) Wd := by
            have e : Bk ++ ((uN u).take 3).flatMap numL = Bk ++ ((uN u).take 2).flatMap numL ++ numL u.kind := by simp [uN]
            rw [e]
            exact ho2.up (by omega)
          replace ho3 := Lib.hid ho3
          clear ho2 ho
          go_wp2_with fail
          go_roundw
          case rel => exact ⟨3, by go_num, by omega, ho3⟩
          case measure => simp [intOf]
        · have hbk := (ho.out.kp (g9, 3, #[.int .i64 u.id, .int .i64 u.player, .int .i64 u.kind, .int .i64 u.spot, .int .i64 u.life, .int .i64 u.load, .int .i64 u.task, .int .i64 u.goal]) (by simp)).1
          have d0 : wr.cell? ⟨g9, 3, none⟩ = some (.int .i64 u.spot) := hbk.cell 3
          have lbx := hbk.lt
          replace hbk := Lib.hid hbk
          have hc := ho.out.num u.spot (by omega) (hIu.out _ (by simp [uN]))
          replace hc := Lib.hid hc
          go_wp2_with fail
          refine hc.out.mono ?_
          clear hc d0 lbx hbk
          rintro e Wd ⟨vd, rfl, ho2⟩
          have ho3 : OE w s x [(g9, 3, #[.int .i64 u.id, .int .i64 u.player, .int .i64 u.kind, .int .i64 u.spot, .int .i64 u.life, .int .i64 u.load, .int .i64 u.task, .int .i64 u.goal])] (31457360 + 80 * k + 10 * 4) vd (Bk ++ ((uN u).take 4).flatMap numL) Wd := by
            have e : Bk ++ ((uN u).take 4).flatMap numL = Bk ++ ((uN u).take 3).flatMap numL ++ numL u.spot := by simp [uN]
            rw [e]
            exact ho2.up (by omega)
          replace ho3 := Lib.hid ho3
          clear ho2 ho
          go_wp2_with fail
          go_roundw
          case rel => exact ⟨4, by go_num, by omega, ho3⟩
          case measure => simp [intOf]
        · have hbk := (ho.out.kp (g9, 3, #[.int .i64 u.id, .int .i64 u.player, .int .i64 u.kind, .int .i64 u.spot, .int .i64 u.life, .int .i64 u.load, .int .i64 u.task, .int .i64 u.goal]) (by simp)).1
          have d0 : wr.cell? ⟨g9, 4, none⟩ = some (.int .i64 u.life) := hbk.cell 4
          have lbx := hbk.lt
          replace hbk := Lib.hid hbk
          have hc := ho.out.num u.life (by omega) (hIu.out _ (by simp [uN]))
          replace hc := Lib.hid hc
          go_wp2_with fail
          refine hc.out.mono ?_
          clear hc d0 lbx hbk
          rintro e Wd ⟨vd, rfl, ho2⟩
          have ho3 : OE w s x [(g9, 3, #[.int .i64 u.id, .int .i64 u.player, .int .i64 u.kind, .int .i64 u.spot, .int .i64 u.life, .int .i64 u.load, .int .i64 u.task, .int .i64 u.goal])] (31457360 + 80 * k + 10 * 5) vd (Bk ++ ((uN u).take 5).flatMap numL) Wd := by
            have e : Bk ++ ((uN u).take 5).flatMap numL = Bk ++ ((uN u).take 4).flatMap numL ++ numL u.life := by simp [uN]
            rw [e]
            exact ho2.up (by omega)
          replace ho3 := Lib.hid ho3
          clear ho2 ho
          go_wp2_with fail
          go_roundw
          case rel => exact ⟨5, by go_num, by omega, ho3⟩
          case measure => simp [intOf]
        · have hbk := (ho.out.kp (g9, 3, #[.int .i64 u.id, .int .i64 u.player, .int .i64 u.kind, .int .i64 u.spot, .int .i64 u.life, .int .i64 u.load, .int .i64 u.task, .int .i64 u.goal]) (by simp)).1
          have d0 : wr.cell? ⟨g9, 5, none⟩ = some (.int .i64 u.load) := hbk.cell 5
          have lbx := hbk.lt
          replace hbk := Lib.hid hbk
          have hc := ho.out.num u.load (by omega) (hIu.out _ (by simp [uN]))
          replace hc := Lib.hid hc
          go_wp2_with fail
          refine hc.out.mono ?_
          clear hc d0 lbx hbk
          rintro e Wd ⟨vd, rfl, ho2⟩
          have ho3 : OE w s x [(g9, 3, #[.int .i64 u.id, .int .i64 u.player, .int .i64 u.kind, .int .i64 u.spot, .int .i64 u.life, .int .i64 u.load, .int .i64 u.task, .int .i64 u.goal])] (31457360 + 80 * k + 10 * 6) vd (Bk ++ ((uN u).take 6).flatMap numL) Wd := by
            have e : Bk ++ ((uN u).take 6).flatMap numL = Bk ++ ((uN u).take 5).flatMap numL ++ numL u.load := by simp [uN]
            rw [e]
            exact ho2.up (by omega)
          replace ho3 := Lib.hid ho3
          clear ho2 ho
          go_wp2_with fail
          go_roundw
          case rel => exact ⟨6, by go_num, by omega, ho3⟩
          case measure => simp [intOf]
        · have hbk := (ho.out.kp (g9, 3, #[.int .i64 u.id, .int .i64 u.player, .int .i64 u.kind, .int .i64 u.spot, .int .i64 u.life, .int .i64 u.load, .int .i64 u.task, .int .i64 u.goal]) (by simp)).1
          have d0 : wr.cell? ⟨g9, 6, none⟩ = some (.int .i64 u.task) := hbk.cell 6
          have lbx := hbk.lt
          replace hbk := Lib.hid hbk
          have hc := ho.out.num u.task (by omega) (hIu.out _ (by simp [uN]))
          replace hc := Lib.hid hc
          go_wp2_with fail
          refine hc.out.mono ?_
          clear hc d0 lbx hbk
          rintro e Wd ⟨vd, rfl, ho2⟩
          have ho3 : OE w s x [(g9, 3, #[.int .i64 u.id, .int .i64 u.player, .int .i64 u.kind, .int .i64 u.spot, .int .i64 u.life, .int .i64 u.load, .int .i64 u.task, .int .i64 u.goal])] (31457360 + 80 * k + 10 * 7) vd (Bk ++ ((uN u).take 7).flatMap numL) Wd := by
            have e : Bk ++ ((uN u).take 7).flatMap numL = Bk ++ ((uN u).take 6).flatMap numL ++ numL u.task := by simp [uN]
            rw [e]
            exact ho2.up (by omega)
          replace ho3 := Lib.hid ho3
          clear ho2 ho
          go_wp2_with fail
          go_roundw
          case rel => exact ⟨7, by go_num, by omega, ho3⟩
          case measure => simp [intOf]
        · have hbk := (ho.out.kp (g9, 3, #[.int .i64 u.id, .int .i64 u.player, .int .i64 u.kind, .int .i64 u.spot, .int .i64 u.life, .int .i64 u.load, .int .i64 u.task, .int .i64 u.goal]) (by simp)).1
          have d0 : wr.cell? ⟨g9, 7, none⟩ = some (.int .i64 u.goal) := hbk.cell 7
          have lbx := hbk.lt
          replace hbk := Lib.hid hbk
          have hc := ho.out.num u.goal (by omega) (hIu.out _ (by simp [uN]))
          replace hc := Lib.hid hc
          go_wp2_with fail
          refine hc.out.mono ?_
          clear hc d0 lbx hbk
          rintro e Wd ⟨vd, rfl, ho2⟩
          have ho3 : OE w s x [(g9, 3, #[.int .i64 u.id, .int .i64 u.player, .int .i64 u.kind, .int .i64 u.spot, .int .i64 u.life, .int .i64 u.load, .int .i64 u.task, .int .i64 u.goal])] (31457360 + 80 * k + 10 * 8) vd (Bk ++ ((uN u).take 8).flatMap numL) Wd := by
            have e : Bk ++ ((uN u).take 8).flatMap numL = Bk ++ ((uN u).take 7).flatMap numL ++ numL u.goal := by simp [uN]
            rw [e]
            exact ho2.up (by omega)
          replace ho3 := Lib.hid ho3
          clear ho2 ho
          go_wp2_with fail
          go_roundw
          case rel => exact ⟨8, by go_num, by omega, ho3⟩
          case measure => simp [intOf]
        · have hf : OE w s x [] (31457360 + 80 * k + 80) u3 (Bk ++ (uN u).flatMap numL) wr := ho.out.drop
          replace hf := Lib.hid hf
          clear ho
          have ho5 : OE w s x [] (31457360 + 80 * (k + 1)) u3 (B ++ (x.units.take (k + 1)).flatMap (fun u => (uN u).flatMap numL)) wr := by
            rw [htk.out, ← List.append_assoc, hBk.out]
            exact hf.out.up (by omega)
          replace ho5 := Lib.hid ho5
          clear hf
          go_wp2_with fail
          go_roundw
          case rel => exact ⟨k + 1, by go_num, by omega, ho5⟩
          case measure => simp [intOf]; omega
    · have j1 : ¬ (k : Int) < (x.units.length : Int) := by omega
      obtain rfl : k = x.units.length := by omega
      have ho1 : OE w s x [] (31457360 + 80 * x.units.length) u3 (B ++ x.units.flatMap (fun u => (uN u).flatMap numL)) wr := by
        have h := ho.out
        rwa [List.take_of_length_le (Nat.le_refl _)] at h
      clear ho
      have ho := Lib.hid ho1
      clear ho1
      generalize wr = Wu at *
      have hkw := KW.out _ _ _ _ _ ho.out
      have c7 : Wu.cell? ⟨r0, 7, none⟩ = some (.slice s.units.A x.units.length s.units.c) := hkw.cell 7
      have c8 : Wu.cell? ⟨r0, 8, none⟩ = some (.slice s.queue.A x.queue.length s.queue.c) := hkw.cell 8
      have lb := hkw.lt
      replace hkw := Lib.hid hkw
      have hc := ho.out.num (x.queue.length : Int) (by omega) (by unfold I64; omega)
      replace hc := Lib.hid hc
      go_wp2_with fail
      refine hc.out.mono ?_
      clear hc
      clear hkw c7 c8 lb
      rintro e W9 ⟨v9, rfl, ho2⟩
      obtain ⟨C, hC⟩ : ∃ C, B ++ x.units.flatMap (fun u => (uN u).flatMap numL) ++ numL (x.queue.length : Int) = C := ⟨_, rfl⟩
      rw [hC] at ho2
      clear ho
      have ho := Lib.hid ho2
      clear ho2 j1
      replace hC := Lib.hid hC
      have hkw := KW.out _ _ _ _ _ ho.out
      have c8 : W9.cell? ⟨r0, 8, none⟩ = some (.slice s.queue.A x.queue.length s.queue.c) := hkw.cell 8
      have lb := hkw.lt
      replace hkw := Lib.hid hkw
      go_wp2_with fail
      clear hkw c8 lb
      go_loopw [3, 8, 9] (fun vv vi _ wr => ∃ k : Nat, vi = .int .i64 k ∧ k ≤ x.queue.length ∧ Hid (OE w s x [] (31457360 + 80 * x.units.length + 10 + 40 * k) vv (C ++ (x.queue.take k).flatMap (fun u => (jN u).flatMap numL)) wr)) (fun _ vi _ _ => x.queue.length - (intOf vi).toNat)
      case atStart => exact ⟨0, rfl, Nat.zero_le _, Lib.hid (by simpa using ho.out)⟩
      case round =>
        clear ho
        obtain ⟨k, rfl, hk2, ho⟩ := hrel
        by_cases hlt2 : k < x.queue.length
        · as_aux_lemma =>
          have j1 : (k : Int) < (x.queue.length : Int) := by omega
          have hR : RD wr w.heap.size 4 _ _ _ := RD.below hW.out.2.2.2.2.2.1 ho.out.bel
          obtain ⟨b, off, hA, hbB, hcs⟩ := hR.2 (by omega)
          have hsz := ho.out.bas
          have hg : x.queue[k]? = some x.queue[k] := List.getElem?_eq_getElem hlt2
          have hcc : ∀ j, j < 4 → wr.cell? ⟨b, off + (k * 4 + j), none⟩ = (jC x.queue[k])[j]? := fun j hj => by rw [hcs (k * 4 + j) (by omega), flat_get jC 4 (fun _ => rfl) x.queue k j hj, hg]; rfl
          have hIu := iJ2.out x.queue[k] (List.getElem_mem hlt2)
          unfold GJ.ok at hIu
          have htk : (x.queue.take (k + 1)).flatMap (fun u => (jN u).flatMap numL) = (x.queue.take k).flatMap (fun u => (jN u).flatMap numL) ++ (jN x.queue[k]).flatMap numL := by rw [List.take_succ_eq_append_getElem hlt2, List.flatMap_append]; simp
          generalize x.queue[k] = u at *
          have hbl : b < wr.heap.size := by omega
          have e0 : wr.cell? ⟨b, off + k * 4, none⟩ = some (.int .i64 u.player) := hcc 0 (by omega)
          have e1 : wr.cell? ⟨b, off + k * 4 + 1, none⟩ = some (.int .i64 u.unit) := hcc 1 (by omega)
          have e2 : wr.cell? ⟨b, off + k * 4 + 2, none⟩ = some (.int .i64 u.kind) := hcc 2 (by omega)
          have e3 : wr.cell? ⟨b, off + k * 4 + 3, none⟩ = some (.int .i64 u.left) := hcc 3 (by omega)
          clear hcc hcs hg hR
          have hkw := KW.out _ _ _ _ _ ho.out
          have c8 : wr.cell? ⟨r0, 8, none⟩ = some (.slice s.queue.A x.queue.length s.queue.c) := hkw.cell 8
          have lb := hkw.lt
          replace hkw := Lib.hid hkw
          rw [hA] at c8
          rw [hA]
          replace hA := Lib.hid hA
          replace htk := Lib.hid htk
          replace hIu := Lib.hid hIu
          go_upto_region 23 with fail
          have ho2 := ho.out.keep 126 #[.int .i64 u.player, .int .i64 u.unit, .int .i64 u.kind, .int .i64 u.left]
          generalize (wr.alloc (.cells #[.int .i64 u.player, .int .i64 u.unit, .int .i64 u.kind, .int .i64 u.left] 126)) = Wb at *
          generalize wr.heap.size = g8 at *
          clear e0 e1 e2 e3 c8 lb hkw ho
          have ho := Lib.hid ho2
          clear ho2
          obtain ⟨Bk, hBk⟩ : ∃ Bk, C ++ (x.queue.take k).flatMap (fun u => (jN u).flatMap numL) = Bk := ⟨_, rfl⟩
          rw [hBk] at ho
          replace hBk := Lib.hid hBk
          have hbk := (ho.out.kp (g8, 126, #[.int .i64 u.player, .int .i64 u.unit, .int .i64 u.kind, .int .i64 u.left]) (by simp)).1
          have d0 : Wb.cell? ⟨g8, 0, none⟩ = some (.int .i64 u.player) := hbk.cell 0
          have lbx := hbk.lt
          replace hbk := Lib.hid hbk
          have hc := ho.out.num u.player (by omega) hIu.out.1
          replace hc := Lib.hid hc
          go_wp2_with fail
          refine hc.out.mono ?_
          clear hc d0 lbx hbk
          rintro e Wd0 ⟨vd0, rfl, ho2⟩
          clear ho
          have ho := Lib.hid ho2
          clear ho2
          have hbk := (ho.out.kp (g8, 126, #[.int .i64 u.player, .int .i64 u.unit, .int .i64 u.kind, .int .i64 u.left]) (by simp)).1
          have d0 : Wd0.cell? ⟨g8, 1, none⟩ = some (.int .i64 u.unit) := hbk.cell 1
          have lbx := hbk.lt
          replace hbk := Lib.hid hbk
          have hc := ho.out.num u.unit (by omega) hIu.out.2.1
          replace hc := Lib.hid hc
          go_wp2_with fail
          refine hc.out.mono ?_
          clear hc d0 lbx hbk
          rintro e Wd1 ⟨vd1, rfl, ho2⟩
          clear ho
          have ho := Lib.hid ho2
          clear ho2
          have hbk := (ho.out.kp (g8, 126, #[.int .i64 u.player, .int .i64 u.unit, .int .i64 u.kind, .int .i64 u.left]) (by simp)).1
          have d0 : Wd1.cell? ⟨g8, 2, none⟩ = some (.int .i64 u.kind) := hbk.cell 2
          have lbx := hbk.lt
          replace hbk := Lib.hid hbk
          have hc := ho.out.num u.kind (by omega) hIu.out.2.2.1
          replace hc := Lib.hid hc
          go_wp2_with fail
          refine hc.out.mono ?_
          clear hc d0 lbx hbk
          rintro e Wd2 ⟨vd2, rfl, ho2⟩
          clear ho
          have ho := Lib.hid ho2
          clear ho2
          have hbk := (ho.out.kp (g8, 126, #[.int .i64 u.player, .int .i64 u.unit, .int .i64 u.kind, .int .i64 u.left]) (by simp)).1
          have d0 : Wd2.cell? ⟨g8, 3, none⟩ = some (.int .i64 u.left) := hbk.cell 3
          have lbx := hbk.lt
          replace hbk := Lib.hid hbk
          have hc := ho.out.num u.left (by omega) hIu.out.2.2.2
          replace hc := Lib.hid hc
          go_wp2_with fail
          refine hc.out.mono ?_
          clear hc d0 lbx hbk
          rintro e Wd3 ⟨vd3, rfl, ho2⟩
          clear ho
          have ho := Lib.hid ho2
          clear ho2
          have ho5 : OE w s x [] (31457360 + 80 * x.units.length + 10 + 40 * (k + 1)) vd3 (C ++ (x.queue.take (k + 1)).flatMap (fun u => (jN u).flatMap numL)) Wd3 := by
            have e : C ++ (x.queue.take (k + 1)).flatMap (fun u => (jN u).flatMap numL) = Bk ++ numL u.player ++ numL u.unit ++ numL u.kind ++ numL u.left := by rw [htk.out, ← List.append_assoc, hBk.out]; simp [jN]
            rw [e]
            exact ho.out.drop.up (by omega)
          replace ho5 := Lib.hid ho5
          clear ho
          go_wp2_with fail
          go_roundw
          case rel => exact ⟨k + 1, by go_num, by omega, ho5⟩
          case measure => simp [intOf]; omega
        · have j1 : ¬ (k : Int) < (x.queue.length : Int) := by omega
          obtain rfl : k = x.queue.length := by omega
          have ho1 : OE w s x [] (31457360 + 80 * x.units.length + 10 + 40 * x.queue.length) u3 (encL x) wr := by
            have h := ho.out
            rw [List.take_of_length_le (Nat.le_refl _)] at h
            have e : encL x = C ++ x.queue.flatMap (fun u => (jN u).flatMap numL) := by
              rw [← hC.out, ← hB.out]
              unfold encL wN
              simp [List.flatMap_append, List.flatMap_cons, List.flatMap_assoc]
            rw [e]; exact h
          clear ho
          obtain ⟨L, hL⟩ : ∃ L, encL x = L := ⟨_, rfl⟩
          rw [hL] at ho1
          replace ho1 := Lib.hid ho1
          replace hL := Lib.hid hL
          have hkw := KW.out _ _ _ _ _ ho1.out
          have c8 : wr.cell? ⟨r0, 8, none⟩ = some (.slice s.queue.A x.queue.length s.queue.c) := hkw.cell 8
          have lb := hkw.lt
          replace hkw := Lib.hid hkw
          go_wp2_with fail
          go_ret
          refine ⟨u3, rfl, ?_, ?_⟩
          · rw [hL.out]
            exact ho1.out.own
          · exact ho1.out.bel
end Go.Proofs.YtkgkpggfoieioaaDoor
