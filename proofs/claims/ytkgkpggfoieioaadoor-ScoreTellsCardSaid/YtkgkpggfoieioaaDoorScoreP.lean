import Derived.Test.YtkgkpggfoieioaaDoorWorldC
import Derived.Test.YtkgkpggfoieioaaDoorWorthW
import Derived.OwnWalk
namespace Go.Proofs.YtkgkpggfoieioaaDoor
set_option linter.unusedVariables false
open Go.RowKit
/-! score.Points. -/
/-- The points of the first k players. -/
def ptL (v g : List Int) : Nat → List Int
  | 0 => []
  | k + 1 => ptL v g k ++ [g.getD k 0 + 10 * v.getD k 0]
theorem ptL_len (v g : List Int) : ∀ k, (ptL v g k).length = k
  | 0 => rfl
  | k + 1 => by rw [ptL, List.length_append, ptL_len v g k]; rfl
theorem wok_worth {L : List GK} {x : GW} (h : WorldOk L x) : x.units.any (unitBad L) = false ∧ x.units.length ≤ 40 ∧ x.gold.length ≤ 4 ∧ ∀ n ∈ x.gold, 0 ≤ n ∧ n ≤ 1000000 := by
  have hh := headE_ok h.head
  refine ⟨?_, hh.units, hh.players.2, hh.gold⟩
  rw [List.any_eq_false]
  intro u hu
  obtain ⟨i, hi, rfl⟩ := gu_of hu
  have hu := unitE_ok (h.units i hi)
  have h1 := hu.player
  have h2 := hu.kind
  have h3 := hu.life
  have h4 := hh.players.2
  unfold unitBad
  simp only [Bool.or_eq_true, decide_eq_true_eq, not_or]
  omega
theorem WOk.uok {w : World} {s : SW} {x : GW} (h : WOk w s x) : ∀ u ∈ x.units, u.ok := h.2.2.2.2.1.2.2.2.2
set_option maxHeartbeats 3200000 in
set_option maxRecDepth 100000 in
theorem points_no (sK : SL) (L : List GK) (s : SW) (x : GW) (w : World) (hK : KS w w.heap.size sK L) (hW : WOk w s x) (hne : worldE L x ≠ 0) :
    Calls Tryd.prog 36 #[.slice sK.A L.length sK.c, wA s x] w fun e w' => e = .returned (.tuple #[.slice none 0 0, erE (worldE L x)]) ∧ Below w.heap.size w w' := by
  unfold erE
  obtain ⟨sf, ⟨gA, gc⟩, su, sq⟩ := s
  have hB : WB w.heap.size w (w.alloc (.cells #[.int .i64 x.turn, .int .i64 x.next, .int .i64 x.field.wide, .int .i64 x.field.high, .slice sf.ground.A x.field.ground.length sf.ground.c, .slice sf.ore.A x.field.ore.length sf.ore.c, .slice gA x.gold.length gc, .slice su.A x.units.length su.c, .slice sq.A x.queue.length sq.c] 55)) sK L ⟨sf, ⟨gA, gc⟩, su, sq⟩ x w.heap.size := by
    have hb1 : Below w.heap.size w (w.alloc (.cells #[.int .i64 x.turn, .int .i64 x.next, .int .i64 x.field.wide, .int .i64 x.field.high, .slice sf.ground.A x.field.ground.length sf.ground.c, .slice sf.ore.A x.field.ore.length sf.ore.c, .slice gA x.gold.length gc, .slice su.A x.units.length su.c, .slice sq.A x.queue.length sq.c] 55)) := (Below.refl _ _).alloc (Nat.le_refl _) _
    exact ⟨hb1, hb1.size, Blk.new _ _ _, hW.below hb1, hK.up hb1⟩
  have hcap := hK.cap
  have hmx := hK.max
  replace hB := Lib.hid hB
  clear hK hW
  go_enter Tryd.func36, Tryd.ntmps36
  go_upto_region 1 with fail
  generalize (w.alloc (.cells #[.int .i64 x.turn, .int .i64 x.next, .int .i64 x.field.wide, .int .i64 x.field.high, .slice sf.ground.A x.field.ground.length sf.ground.c, .slice sf.ore.A x.field.ore.length sf.ore.c, .slice gA x.gold.length gc, .slice su.A x.units.length su.c, .slice sq.A x.queue.length sq.c] 55)) = W at *
  obtain ⟨wb, hwb⟩ : ∃ wb, w.heap.size = wb := ⟨_, rfl⟩
  rw [hwb]
  replace hB : WB w.heap.size w W sK L ⟨sf, ⟨gA, gc⟩, su, sq⟩ x wb := by rw [← hwb]; exact hB.out
  replace hwb := Lib.hid hwb
  have hwc := wcheck_any sK L ⟨sf, ⟨gA, gc⟩, su, sq⟩ x W hB.ks hB.wo
  obtain ⟨m0, m1, m2, m3, m4, m5, m6, m7, m8, mll⟩ := hB.wcells
  dsimp only at m6 m7 m8
  replace hB := Lib.hid hB
  rw [errV_ne hne] at hwc
  obtain ⟨E, hEq⟩ : ∃ E, worldE L x = E := ⟨_, rfl⟩
  rw [hEq] at hwc hne
  replace hEq := Lib.hid hEq
  replace hwc := Lib.hid hwc
  replace hne := Lib.hid hne
  go_wp2_with fail
  refine hwc.out.mono ?_
  clear hwc
  rintro e W2 ⟨rfl, hb2⟩
  have hB2 := hB.out.below hb2
  replace hB2 := Lib.hid hB2
  clear hb2
  clear m0 m1 m2 m3 m4 m5 m6 m7 m8 mll
  go_wp2_with fail
  go_ret2
  exact ⟨by rw [hEq.out]; rfl, hB2.out.b⟩
set_option maxHeartbeats 3200000 in
set_option maxRecDepth 100000 in
theorem points_ok (sK : SL) (L : List GK) (s : SW) (x : GW) (w : World) (hK : KS w w.heap.size sK L) (hW : WOk w s x) (h0 : worldE L x = 0) :
    Calls Tryd.prog 36 #[.slice sK.A L.length sK.c, wA s x] w fun e w' => ∃ v, e = .returned (.tuple #[v, .nilIface]) ∧ w'.ownsRow w.heap.size 3 1 v x.gold.length ((ptL (worthN L x.units x.units.length) x.gold x.gold.length).map (.int .i64)) ∧ Below w.heap.size w w' := by
  obtain ⟨i0, hi0, hz0, hz1, hz2⟩ := info_parts int_info
  obtain ⟨sf, ⟨gA, gc⟩, su, sq⟩ := s
  have hB : WB w.heap.size w (w.alloc (.cells #[.int .i64 x.turn, .int .i64 x.next, .int .i64 x.field.wide, .int .i64 x.field.high, .slice sf.ground.A x.field.ground.length sf.ground.c, .slice sf.ore.A x.field.ore.length sf.ore.c, .slice gA x.gold.length gc, .slice su.A x.units.length su.c, .slice sq.A x.queue.length sq.c] 55)) sK L ⟨sf, ⟨gA, gc⟩, su, sq⟩ x w.heap.size := by
    have hb1 : Below w.heap.size w (w.alloc (.cells #[.int .i64 x.turn, .int .i64 x.next, .int .i64 x.field.wide, .int .i64 x.field.high, .slice sf.ground.A x.field.ground.length sf.ground.c, .slice sf.ore.A x.field.ore.length sf.ore.c, .slice gA x.gold.length gc, .slice su.A x.units.length su.c, .slice sq.A x.queue.length sq.c] 55)) := (Below.refl _ _).alloc (Nat.le_refl _) _
    exact ⟨hb1, hb1.size, Blk.new _ _ _, hW.below hb1, hK.up hb1⟩
  have hcap := hK.cap
  have hmx := hK.max
  replace hB := Lib.hid hB
  clear hK hW
  go_enter Tryd.func36, Tryd.ntmps36
  go_upto_region 1 with fail
  generalize (w.alloc (.cells #[.int .i64 x.turn, .int .i64 x.next, .int .i64 x.field.wide, .int .i64 x.field.high, .slice sf.ground.A x.field.ground.length sf.ground.c, .slice sf.ore.A x.field.ore.length sf.ore.c, .slice gA x.gold.length gc, .slice su.A x.units.length su.c, .slice sq.A x.queue.length sq.c] 55)) = W at *
  obtain ⟨wb, hwb⟩ : ∃ wb, w.heap.size = wb := ⟨_, rfl⟩
  rw [hwb]
  replace hB : WB w.heap.size w W sK L ⟨sf, ⟨gA, gc⟩, su, sq⟩ x wb := by rw [← hwb]; exact hB.out
  replace hwb := Lib.hid hwb
  have hwc := wcheck_any sK L ⟨sf, ⟨gA, gc⟩, su, sq⟩ x W hB.ks hB.wo
  obtain ⟨m0, m1, m2, m3, m4, m5, m6, m7, m8, mll⟩ := hB.wcells
  dsimp only at m6 m7 m8
  replace hB := Lib.hid hB
  rw [h0] at hwc
  have hok := worldE_0 h0
  obtain ⟨hub, hu40, hg4, hgb⟩ := wok_worth hok
  replace hwc : Calls Tryd.prog 28 #[.slice sK.A L.length sK.c, wA ⟨sf, ⟨gA, gc⟩, su, sq⟩ x] W fun e w' => e = .returned .nilIface ∧ Below W.heap.size W w' := hwc
  replace hwc := Lib.hid hwc
  replace h0 := Lib.hid h0
  go_wp2_with fail
  refine hwc.out.mono ?_
  clear hwc m0 m1 m2 m3 m4 m5 m6 m7 m8 mll
  rintro e W2 ⟨rfl, hb2⟩
  have hB2 := hB.out.below hb2
  clear hb2 hB
  have hwo := worth_any sK L W2.heap.size su.A su.c x.units W2 hB2.ks hB2.wo.ru (Nat.le_refl _) (by omega) hB2.wo.uok
  have hW0 : worthE L x.units = 0 := by unfold worthE; rw [if_neg (by rw [hok.kinds]; simp), if_neg (by omega), if_neg (by rw [hub]; simp)]
  unfold WorthPost at hwo
  have hwb1 := worthN_bd (us := x.units) (kindsE_0 hok.kinds) hub x.units.length (Nat.le_refl _)
  have hwl := worthN_len L x.units x.units.length
  obtain ⟨m0, m1, m2, m3, m4, m5, m6, m7, m8, mll⟩ := hB2.wcells
  dsimp only at m6 m7 m8
  replace hB2 := Lib.hid hB2
  replace hwo := Lib.hid hwo
  replace hub := Lib.hid hub
  replace hok := Lib.hid hok
  replace hgb := Lib.hid hgb
  go_wp2_with fail
  refine hwo.out.mono ?_
  clear hwo m0 m1 m2 m3 m4 m5 m6 m7 m8 mll
  rintro e W3 (⟨h, _⟩ | ⟨_, ob, rfl, hob, hobs, hb3⟩)
  · exact absurd hW0 h
  clear hW0
  have hB3 := hB2.out.below hb3
  clear hb3 hB2
  obtain ⟨V, hVe⟩ : ∃ V, worthN L x.units x.units.length = V := ⟨_, rfl⟩
  rw [hVe] at hob hwb1 hwl
  replace hVe := Lib.hid hVe
  have hgr := hB3.wo.2.2.2.1.1
  dsimp only at hgr
  have hobl := hob.lt
  obtain ⟨m0, m1, m2, m3, m4, m5, m6, m7, m8, mll⟩ := hB3.wcells
  dsimp only at m6 m7 m8
  replace hB3 := Lib.hid hB3
  replace hob := Lib.hid hob
  replace hgr := Lib.hid hgr
  replace hwb1 := Lib.hid hwb1
  go_wp2_with fail
  clear m0 m1 m2 m3 m4 m5 m6 m7 m8 mll
  go_loopw [9, 31] (fun vo vi wr => ∃ k : Nat, vi = .int .i64 k ∧ k ≤ x.gold.length ∧ Hid (wr.ownsRow W3.heap.size 3 1 vo k ((ptL V x.gold k).map (.int .i64))) ∧ Hid (Below W3.heap.size W3 wr)) (fun _ vi _ => x.gold.length - (intOf vi).toNat)
  case atStart => exact ⟨0, rfl, Nat.zero_le _, Lib.hid (World.ownsRow_nil _ _ _ _), Lib.hid (Below.refl _ _)⟩
  case round =>
    obtain ⟨k, rfl, hk, hown, hb⟩ := hrel
    obtain ⟨U, cu, rfl, _⟩ := own_slice hown.out
    have hs := hb.out.size
    by_cases hlt : k < x.gold.length
    · have z1 : (k : Int) < (x.gold.length : Int) := by omega
      obtain ⟨bg, og, hA, hbl⟩ := hgr.out.addr (by omega)
      have hcell := (hgr.out.below hb.out).at_ hA (j := k) (by omega)
      rw [List.getElem?_map, List.getElem?_eq_getElem hlt] at hcell
      simp only [Option.map_some] at hcell
      have hgd : x.gold.getD k 0 = x.gold[k] := by rw [List.getD_eq_getElem?_getD, List.getElem?_eq_getElem hlt]; rfl
      have hgk := hgb.out x.gold[k] (List.getElem_mem _)
      have hvc := (hob.out.below hb.out hobl).cell k
      rw [List.getElem?_toArray, List.getElem?_map, List.getElem?_eq_getElem (by omega)] at hvc
      simp only [Option.map_some] at hvc
      have hvd : V.getD k 0 = V[k] := by rw [List.getD_eq_getElem?_getD, List.getElem?_eq_getElem (by omega)]; rfl
      have hvb := hwb1.out k
      rw [hvd] at hvb
      have hpt : ptL V x.gold (k + 1) = ptL V x.gold k ++ [x.gold[k] + 10 * V[k]] := by rw [ptL, hgd, hvd]
      have hnx : ∀ v8 w8, w8.ownsRow W3.heap.size 3 1 v8 (k + 1) ((ptL V x.gold k).map (.int .i64) ++ [.int .i64 (x.gold[k] + 10 * V[k])]) → wr.grownBy w8 (Value.slice U k cu).ownBlock → w8.ownsRow W3.heap.size 3 1 v8 (k + 1) ((ptL V x.gold (k + 1)).map (.int .i64)) ∧ Below W3.heap.size W3 w8 := fun v8 w8 ho hg => ⟨by rw [hpt, List.map_append]; exact ho, hb.out.grown hg hs (fun b e => (hown.out.lt b e).1)⟩
      subst hA
      generalize x.gold[k] = gk at *
      generalize V[k] = vk at *
      have e1 : IntKind.i64.wrap (10 * vk) = 10 * vk := IntWalk.i64_in _ (by omega)
      have e2 : IntKind.i64.wrap (gk + 10 * vk) = gk + 10 * vk := IntWalk.i64_in _ (by omega)
      have hblr : bg < wr.heap.size := Nat.lt_of_lt_of_le hbl hs
      have hobr : ob < wr.heap.size := Nat.lt_of_lt_of_le hobl hs
      have hk4 : (k : Int) < 4 := by omega
      replace hnx := Lib.hid hnx
      replace hgd := Lib.hid hgd
      replace hvd := Lib.hid hvd
      replace hpt := Lib.hid hpt
      go_wp2_with (first | (at_builtin; refine wpList_app1 rfl (.tmp 36) (.tmp 44) 34 rfl W3.heap.size 3 i0 _ 1 8 Tryd.underlying34 hi0 hz0 hz1 hz2 rfl (by decide) (by decide) wr #[.int .i64 (gk + 10 * vk)] (.slice U k cu) k ((ptL V x.gold k).map (.int .i64)) rfl hown.out rfl rfl rfl (by omega) hs ?_; intro v8 w8 hown8 hg8; obtain ⟨hr1, hr2⟩ := hnx.out v8 w8 hown8 hg8; replace hr1 := Lib.hid hr1; replace hr2 := Lib.hid hr2; obtain ⟨A8, c8, rfl, _⟩ := own_slice hown8; clear hown8 hg8))
      go_roundw
      case rel => exact ⟨k + 1, by go_num, by omega, hr1, hr2⟩
      case measure => simp [intOf]; omega
    · have z1 : ¬ (k : Int) < (x.gold.length : Int) := by omega
      obtain rfl : k = x.gold.length := by omega
      have hfin := hB3.out.b.trans (hb.out.mono hB3.out.sz)
      have hof := own_base hown.out hB3.out.sz
      replace hfin := Lib.hid hfin
      replace hof := Lib.hid hof
      go_wp2_with fail
      go_ret2
      exact ⟨.slice U x.gold.length cu, rfl, by rw [hVe.out]; exact hof.out, hfin.out⟩
end Go.Proofs.YtkgkpggfoieioaaDoor
