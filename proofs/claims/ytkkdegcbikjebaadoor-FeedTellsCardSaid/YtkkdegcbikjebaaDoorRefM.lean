import Derived.Test.YtkkdegcbikjebaaDoorRefL
import Derived.StillTailTactics
namespace Go.Proofs.YtkkdegcbikjebaaDoor
set_option linter.unusedVariables false
open Go.RowKit
theorem at0_app_take (l : List Int) (k : Nat) (h : k < l.length) : l.take (k + 1) = l.take k ++ [at0 l k] := by
  rw [List.take_succ_eq_append_getElem h]
  unfold at0
  rw [List.getD_eq_getElem?_getD, List.getElem?_eq_getElem h]; rfl
def RApPost (w : World) (xs : List Int) (L : List Ch) (e : Ending) (w' : World) : Prop :=
  Below w.heap.size w w' ∧ ((appE xs L ≠ 0 ∧ e = .returned (.tuple #[.slice none 0 0, .int .i64 (appE xs L)])) ∨
    (appE xs L = 0 ∧ ∃ D d, e = .returned (.tuple #[.slice D (appB xs L).length d, .int .i64 0]) ∧ RD w' w'.heap.size 1 D (appB xs L).length ((appB xs L).map (.int .u8))))
set_option maxHeartbeats 3200000 in
set_option maxRecDepth 100000 in
theorem rapply_any (A A' : Option Addr) (c c' : Nat) (xs : List Int) (L : List Ch) (w : World) (h : RB w w.heap.size A xs) (hx : ∀ x ∈ xs, Byte x) (h' : RC w w.heap.size A' L) :
    Calls Tryd.prog 35 #[.slice A xs.length c, .slice A' L.length c'] w (RApPost w xs L) := by
  obtain ⟨i0, hi0, hz0, hz1, hz2⟩ := info_parts u8_infK
  have H := Lib.hid h
  have H' := Lib.hid h'
  have HX := Lib.hid hx
  clear h h' hx
  by_cases hl6 : 6000 < xs.length
  · have hE : appE xs L = 4 := if_pos (.inl hl6)
    have d1 : decide ((6000 : Int) < (xs.length : Int)) = true := by simp; omega
    replace hE := Lib.hid hE
    go_enter Tryd.func35, Tryd.ntmps35
    go_wp2_with fail
    go_ret2
    exact ⟨Below.refl _ _, .inl ⟨by rw [hE.out]; omega, by rw [hE.out]; rfl⟩⟩
  · by_cases hL6 : 6000 < L.length
    · have hE : appE xs L = 4 := if_pos (.inr hL6)
      have d1 : decide ((6000 : Int) < (xs.length : Int)) = false := by simp; omega
      have d2 : decide ((6000 : Int) < (L.length : Int)) = true := by simp; omega
      replace hE := Lib.hid hE
      go_enter Tryd.func35, Tryd.ntmps35
      go_wp2_with fail
      go_ret2
      exact ⟨Below.refl _ _, .inl ⟨by rw [hE.out]; omega, by rw [hE.out]; rfl⟩⟩
    · have d1 : decide ((6000 : Int) < (xs.length : Int)) = false := by simp; omega
      have d2 : decide ((6000 : Int) < (L.length : Int)) = false := by simp; omega
      have hmk := mk_6000
      go_enter Tryd.func35, Tryd.ntmps35
      go_upto_region 4 with fail
      have hb1 : Below w.heap.size w (w.alloc (.cells (arrI zer6) 3)) := (Below.refl _ _).alloc (Nat.le_refl _) _
      have hk1 : Blk (w.alloc (.cells (arrI zer6) 3)) w.heap.size 3 (arrI (allN xs 0)) := by rw [allN_0]; exact Blk.new w _ _
      generalize (w.alloc (.cells (arrI zer6) 3)) = W1 at *
      clear hmk
      replace hk1 := Lib.hid hk1
      replace hb1 := Lib.hid hb1
      generalize hg0 : w.heap.size = g0 at *
      go_wp2_with fail
      go_loopw [7] (fun vi wr => ∃ k : Nat, vi = .int .i64 k ∧ k ≤ 6000 ∧ Hid (Blk wr g0 3 (arrI (allN xs k))) ∧ Hid (Below g0 w wr)) (fun vi _ => 6000 - (intOf vi).toNat)
      case atStart => exact ⟨0, rfl, Nat.zero_le _, hk1, hb1⟩
      case round =>
        obtain ⟨k, rfl, hk, hbk, hb⟩ := hrel
        by_cases hlt : k < 6000
        · have j1 : (k : Int) < 6000 := by omega
          have HR := (H.out).below hb.out
          have hset := allN_set xs k hlt
          have fk := hbk.out.frozen k
          have hck := hbk.out.atI k (by rw [allN_len]; exact hlt)
          have hlk := hbk.out.lt
          replace hset := Lib.hid hset
          replace HR := Lib.hid HR
          generalize at0 (allN xs k) k = old at *
          go_wp2_with fail
          refine (rat_any A c g0 xs k wr HR.out HX.out).mono ?_
          rintro e w' ⟨rfl, rfl⟩
          go_wp2_with fail
          go_roundw
          case rel =>
            refine ⟨k + 1, by go_num, by omega, Lib.hid ?_, Lib.hid (hb.out.setCell (p := ⟨g0, k, none⟩) (Nat.le_refl _) _)⟩
            have := hbk.out.setI k (atV xs k)
            rwa [hset.out] at this
          case measure => simp [intOf]; omega
        · have j1 : ¬ (k : Int) < 6000 := by omega
          obtain rfl : k = 6000 := by omega
          have hbk1 : Blk wr g0 3 (arrI (appS L (all0 xs) 0).2) := by show Blk wr g0 3 (arrI (all0 xs)); rw [← allN_end]; exact hbk.out
          replace hbk1 := Lib.hid hbk1
          clear hbk hk1 hb1
          go_wp2_with fail
          go_loopw [8, 9] (fun vi _ wr => ∃ k : Nat, vi = .int .i64 k ∧ k ≤ L.length ∧ Hid ((appS L (all0 xs) k).1 = 0) ∧ Hid (Blk wr g0 3 (arrI (appS L (all0 xs) k).2)) ∧ Hid (Below g0 w wr)) (fun vi _ _ => L.length - (intOf vi).toNat)
          case atStart => exact ⟨0, rfl, Nat.zero_le _, Lib.hid rfl, hbk1, hb⟩
          case round =>
            clear hbk1 hb
            obtain ⟨k, rfl, hk, hck, hbk, hb⟩ := hrel
            by_cases hlt2 : k < L.length
            · have j2 : (k : Int) < (L.length : Int) := by omega
              have hs := hb.out.size
              rw [hg0] at hs
              have HR : RC wr g0 A' L := H'.out.below hb.out
              have hend : ∀ n : Int, n ≠ 0 → (appS L (all0 xs) (k + 1)).1 = n → appE xs L = n := fun n h0 h1 => by
                have : (appR xs L).1 = n := by unfold appR; rw [appS_end L (all0 xs) (k + 1) L.length (by omega) (by rw [h1]; exact h0), h1]
                unfold appE; rw [if_neg (by omega), if_pos (by rw [this]; exact h0), this]
              replace hend := Lib.hid hend
              replace HR := Lib.hid HR
              go_wp2_with fail
              refine (rchange_any A' c' g0 L k wr HR.out hs hlt2 (by omega)).mono ?_
              rintro e W2 ⟨rfl, hq⟩
              have hbd := appS_bad L (all0 xs) k hck.out
              have h7 := appS_7 L (all0 xs) k hck.out
              have h0 := appS_ok L (all0 xs) k hck.out
              have hbW : Below g0 w W2 := hb.out.trans (hq.mono hs)
              replace hbW := Lib.hid hbW
              by_cases hz : chE L k = 0
              · have hgd := good_ch (chE_good L k hz).1
                have HR2 : RC W2 g0 A' L := H'.out.below hbW.out
                obtain ⟨b, off, hA, hbB⟩ := rc_addr HR2 (by omega)
                obtain ⟨e0, e1, e2⟩ := rc_cell HR2 hA k hlt2
                have hbk2 := hbk.out.below hq hbk.out.lt
                have hll : (appS L (all0 xs) k).2.length = 6000 := by rw [appS_len, all0_len]
                have h7' := h7 hz
                have h0' := h0 hz
                subst hA
                rw [hz]
                replace hz := Lib.hid hz
                replace h7' := Lib.hid h7'
                replace h0' := Lib.hid h0'
                replace hck := Lib.hid hck.out
                replace HR2 := Lib.hid HR2
                clear hbd h7 h0 hbk hb hq
                generalize chG L k = cg at *
                obtain ⟨ca, co, cn⟩ := cg
                dsimp only at *
                obtain ⟨a, ha⟩ : ∃ a : Nat, ca = (a : Int) := ⟨ca.toNat, by omega⟩
                have ha6 : a < 6000 := by omega
                subst ha
                have i1 : (a : Int) < 6000 := by omega
                have i2 : 0 ≤ (a : Int) := by omega
                have i3 : 0 ≤ (k : Int) := by omega
                rw [Int.toNat_natCast] at h7' h0'
                generalize hl : (appS L (all0 xs) k).2 = l at *
                replace hl := Lib.hid hl
                have x0 := hbk2.atI a (by omega)
                have f0 := hbk2.frozen a
                have hlt3 := hbk2.lt
                replace hbk2 := Lib.hid hbk2
                replace hll := Lib.hid hll
                have hltb : b < W2.heap.size := by omega
                by_cases hfit : at0 l a = co
                · have hne : (at0 l a != co) = false := by simp [hfit]
                  have h1 := h0'.out hfit
                  replace h1 := Lib.hid h1
                  replace hfit := Lib.hid hfit
                  generalize at0 l a = la at *
                  go_wp2_with fail
                  go_quiet (fail)
                  go_upto_region 16 with fail
                  generalize hW5 : World.drewN _ _ = W5
                  have y0 : W5.cell? ⟨b, off + k * 3, none⟩ = some (.int .i64 (a : Int)) := by rw [← hW5]; exact e0
                  have y2 : W5.cell? ⟨b, off + k * 3 + 2, none⟩ = some (.int .i64 cn) := by rw [← hW5]; exact e2
                  have y3 : W5.cell? ⟨g0, a, none⟩ = some (.int .i64 la) := by rw [← hW5]; exact x0
                  have y4 : W5.frozen? ⟨g0, a, none⟩ = false := by rw [← hW5]; exact f0
                  have y5 : g0 < W5.heap.size := by rw [← hW5]; exact hlt3
                  have y6 : Blk W5 g0 3 (arrI l) := by rw [← hW5]; exact hbk2.out.drewN _
                  have y7 : Below g0 w W5 := by rw [← hW5]; exact below_drewN hbW.out _
                  replace y6 := Lib.hid y6
                  replace y7 := Lib.hid y7
                  clear hW5 e0 e1 e2 x0 f0 hlt3
                  go_still_tail 12, (by kernel_rfl)
                  change wpList _ _ _ _ _ W5.drew
                  go_wp2_with fail
                  go_roundw
                  case rel =>
                    refine ⟨k + 1, by go_num, by omega, Lib.hid (by rw [h1.out]), Lib.hid ?_, Lib.hid ((y7.out.setCell (p := ⟨g0, a, none⟩) (Nat.le_refl _) _).drew)⟩
                    have := (y6.out.setI a cn).drew
                    rw [h1.out]
                    exact this
                  case measure => simp [intOf]; omega
                · have hne : (at0 l a != co) = true := by simp [hfit]
                  have h1 := hend.out 7 (by omega) (by rw [h7'.out hfit])
                  replace h1 := Lib.hid h1
                  replace hfit := Lib.hid hfit
                  generalize at0 l a = la at *
                  go_wp2_with fail
                  go_quiet (fail)
                  go_wp2_with fail
                  go_ret2
                  exact ⟨hg0 ▸ below_drewN hbW.out _, .inl ⟨by rw [h1.out]; omega, by rw [h1.out]; rfl⟩⟩
              · have hne : (chE L k != 0) = true := by simp [hz]
                have h1 := hend.out (chE L k) hz (by rw [hbd hz])
                replace h1 := Lib.hid h1
                replace hz := Lib.hid hz
                clear hbd h7 h0
                go_wp2_with fail
                go_ret2
                exact ⟨hg0 ▸ hbW.out, .inl ⟨by rw [h1.out]; exact hz.out, by rw [h1.out]; rfl⟩⟩
            · have j2 : ¬ (k : Int) < (L.length : Int) := by omega
              have hkL : k = L.length := by omega
              have hz1 : (appR xs L).1 = 0 := by unfold appR; rw [← hkL]; exact hck.out
              have hll : (appR xs L).2.length = 6000 := by unfold appR; rw [appS_len, all0_len]
              have hsg : ∀ i, i < 6000 → -1 ≤ at0 (appR xs L).2 i ∧ at0 (appR xs L).2 i ≤ 255 := fun i hi => by
                have := appS_sgn L (all0 xs) (all0_sgn xs HX.out) L.length (at0 (appR xs L).2 i) (by
                  unfold at0 appR at *
                  rw [List.getD_eq_getElem?_getD, List.getElem?_eq_getElem (by omega)]
                  exact List.getElem_mem _)
                exact this
              have hE3 : shpB (appR xs L).2 = true → appE xs L = 3 := fun h => by unfold appE; rw [if_neg (by omega), if_neg (by simp [hz1]), if_pos h]
              have hE0 : shpB (appR xs L).2 = false → appE xs L = 0 := fun h => by unfold appE; rw [if_neg (by omega), if_neg (by simp [hz1]), if_neg (by simp [h])]
              have hB0 : appE xs L = 0 → appB xs L = (appR xs L).2.take (ixL (appR xs L).2) := fun h => if_pos h
              have bk : Blk wr g0 3 (arrI (appR xs L).2) := by unfold appR; rw [← hkL]; exact hbk.out
              replace hsg := Lib.hid hsg
              replace hE3 := Lib.hid hE3
              replace hE0 := Lib.hid hE0
              replace hB0 := Lib.hid hB0
              replace bk := Lib.hid bk
              clear hz1 hkL hbk hck
              generalize (appR xs L).2 = l at *
              have hile := ixL_le l
              rw [hll] at hile
              replace hll := Lib.hid hll
              go_wp2_with fail
              go_loopw [10, 11, 12] (fun vo ve vi wr => ∃ k : Nat, vi = .int .i64 k ∧ k ≤ 6000 ∧ ve = .bool (decide (ixL l < k)) ∧ Hid (wr.ownsRow (g0 + 1) 5 1 vo (min k (ixL l)) ((l.take (min k (ixL l))).map (.int .u8))) ∧ Hid (∀ i, ixL l ≤ i → i < k → at0 l i < 0) ∧ Hid (Blk wr g0 3 (arrI l)) ∧ Hid (Below g0 w wr)) (fun _ _ vi _ => 6000 - (intOf vi).toNat)
              case atStart => exact ⟨0, rfl, Nat.zero_le _, by simp, Lib.hid (by rw [Nat.zero_min]; exact World.ownsRow_nil _ _ _ _), Lib.hid (fun i h1 h2 => by omega), bk, hb⟩
              case round =>
                clear hb bk
                obtain ⟨k, rfl, hk, rfl, ho, hneg, bk, hb⟩ := hrel
                by_cases hlt : k < 6000
                · have j1 : (k : Int) < 6000 := by omega
                  have hlk := bk.out.lt
                  have hck := bk.out.atI k (by rw [hll.out]; exact hlt)
                  have hsk := hsg.out k hlt
                  by_cases hn : k < ixL l
                  · have hpre := ixL_pre l k hn
                    have hwr : IntKind.u8.wrap (at0 l k) = at0 l k := by rw [IntKind.wrap_u8]; omega
                    have d3 : decide (at0 l k < 0) = false := by simp; omega
                    have d4 : decide (ixL l < k) = false := by simp; omega
                    have d5 : decide (ixL l < k + 1) = false := by simp; omega
                    have ho1 : wr.ownsRow (g0 + 1) 5 1 u10 k ((l.take k).map (.int .u8)) := by have := ho.out; rwa [Nat.min_eq_left (by omega)] at this
                    have ht : (l.take (k + 1)).map (Value.int .u8) = (l.take k).map (.int .u8) ++ [.int .u8 (at0 l k)] := by rw [at0_app_take l k (by rw [hll.out]; omega), List.map_append]; rfl
                    have hmin : min (k + 1) (ixL l) = k + 1 := by omega
                    replace ht := Lib.hid ht
                    replace hmin := Lib.hid hmin
                    replace ho1 := Lib.hid ho1
                    replace d5 := Lib.hid d5
                    clear ho hpre hsk
                    generalize at0 l k = x at *
                    rw [d4]
                    clear d4
                    generalize (l.take k).map (Value.int .u8) = cs at *
                    go_wp2_with (at_builtin; refine wpList_app1 rfl (.tmp 80) (.tmp 86) 22 rfl (g0 + 1) 5 i0 _ 1 1 Tryd.underlying22 hi0 hz0 hz1 hz2 rfl (by decide) (by decide) wr #[.int .u8 x] u10 k cs rfl ho1.out rfl rfl rfl (by omega) (by omega) ?_; intro v' w1 hown' hgrow)
                    have hb2 := hb.out.grown hgrow (by omega) (fun g hg => by have := (ho1.out.lt g hg).1; omega)
                    have bk2 := bk.out.grown hgrow (fun e => by have := (ho1.out.lt _ e.symm).1; omega)
                    replace hb2 := Lib.hid hb2
                    replace bk2 := Lib.hid bk2
                    replace hown' := Lib.hid hown'
                    clear hgrow
                    go_wp2_with fail
                    go_roundw
                    case rel => exact ⟨k + 1, by go_num, by omega, by rw [d5.out], Lib.hid (by rw [hmin.out, ht.out]; exact hown'.out), Lib.hid (fun i h1 h2 => by omega), bk2, hb2⟩
                    case measure => simp [intOf]; omega
                  · have hmin : min (k + 1) (ixL l) = min k (ixL l) := by omega
                    have d5 : decide (ixL l < k + 1) = true := by simp; omega
                    replace hmin := Lib.hid hmin
                    replace d5 := Lib.hid d5
                    by_cases hx : at0 l k < 0
                    · have d3 : decide (at0 l k < 0) = true := by simp; omega
                      have hneg2 : ∀ i, ixL l ≤ i → i < k + 1 → at0 l i < 0 := fun i h1 h2 => by
                        rcases Nat.lt_or_ge i k with h | h
                        · exact hneg.out i h1 h
                        · obtain rfl : i = k := by omega
                          exact hx
                      replace hneg2 := Lib.hid hneg2
                      replace hx := Lib.hid hx
                      clear hsk
                      generalize at0 l k = x at *
                      go_wp2_with fail
                      go_roundw
                      case rel => exact ⟨k + 1, by go_num, by omega, by rw [d5.out], Lib.hid (by rw [hmin.out]; exact ho.out), hneg2, bk, hb⟩
                      case measure => simp [intOf]; omega
                    · have d3 : decide (at0 l k < 0) = false := by simp; omega
                      have hnk : ixL l < k := by
                        rcases Nat.lt_or_ge (ixL l) k with h | h
                        · exact h
                        · exfalso
                          have h5 : ixL l = k := by omega
                          have := ixL_at l (by rw [hll.out]; omega)
                          rw [h5] at this
                          omega
                      have d4 : decide (ixL l < k) = true := by simp; omega
                      have hE := hE3.out ((shpB_iff l).2 ⟨k, by omega, by rw [hll.out]; omega, by omega⟩)
                      replace hE := Lib.hid hE
                      replace hx := Lib.hid hx
                      clear hsk
                      rw [d4]
                      generalize at0 l k = x at *
                      go_wp2_with fail
                      go_ret2
                      exact ⟨hg0 ▸ hb.out, .inl ⟨by rw [hE.out]; omega, by rw [hE.out]; rfl⟩⟩
                · have j1 : ¬ (k : Int) < 6000 := by omega
                  have hmin : min k (ixL l) = ixL l := by omega
                  have hsh : shpB l = false := by
                    cases hq : shpB l with
                    | false => rfl
                    | true =>
                      obtain ⟨i, h1, h2, h3⟩ := (shpB_iff l).1 hq
                      have := hneg.out i h1 (by rw [hll.out] at h2; omega)
                      omega
                  have hE := hE0.out hsh
                  have hB := hB0.out hE
                  have hbl : (appB xs L).length = ixL l := by rw [hB, List.length_take, hll.out]; omega
                  have ho2 := ho.out
                  rw [hmin, ← hB, ← hbl] at ho2
                  obtain ⟨D, d, rfl, _⟩ := own_slice ho2
                  have hrd := RD.of_own ho2
                  replace hrd := Lib.hid hrd
                  replace hE := Lib.hid hE
                  replace hB := Lib.hid hB
                  replace hsh := Lib.hid hsh
                  replace hbl := Lib.hid hbl
                  replace hmin := Lib.hid hmin
                  clear ho ho2
                  go_wp2_with fail
                  go_ret2
                  exact ⟨hg0 ▸ hb.out, .inr ⟨hE.out, D, d, rfl, hrd.out⟩⟩
end Go.Proofs.YtkkdegcbikjebaaDoor
