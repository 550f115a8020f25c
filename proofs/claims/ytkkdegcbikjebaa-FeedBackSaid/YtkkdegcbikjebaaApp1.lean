import Derived.Test.YtkkdegcbikjebaaAppl
import Derived.StillTailTactics
namespace Go.Proofs.Ytkkdegcbikjebaa
set_option linter.unusedVariables false
open Go.RowKit
theorem int_infK : (Try.prog.info? 3).map (fun i => (i.zero, i.size, i.bytes)) = some (some (.int .i64 0), 1, 8) := by kernel_rfl
theorem u8_infK : (Try.prog.info? 5).map (fun i => (i.zero, i.size, i.bytes)) = some (some (.int .u8 0), 1, 1) := by kernel_rfl
def arrY (xs : List Int) : Array Value := (xs.map (.int .u8)).toArray
theorem madeY (n : Nat) : madeCells #[.int .u8 0] n = arrY (List.replicate n 0) := by
  have := toList_madeCells_one (.int .u8 0) n
  unfold arrY
  rw [List.map_replicate, ← this]
theorem mk_k (n : Nat) (h : n ≤ 1000000) (w : World) : (Instr.makeSlice 22 (.int .i64 (n : Int)) (.int .i64 (n : Int))).run Try.prog w = .ok (.slice (some ⟨w.heap.size, 0, none⟩) n n) (w.alloc (.cells (arrI (List.replicate n 0)) 3)) := by
  obtain ⟨i0, hi0, hz0, hz1, hz2⟩ := info_parts int_infK
  have := run_make (P := Try.prog) w 22 3 i0 _ Try.underlying22 hi0 hz0 .i64 .i64 n n (by omega) (Int.le_refl _) (by rw [hz2]; omega) (by omega)
  rw [Int.toNat_natCast, hz1, Nat.mul_one] at this
  rw [← madeI]
  exact this
theorem mk_y (n : Nat) (h : n ≤ 1000000) (w : World) : (Instr.makeSlice 41 (.int .i64 (n : Int)) (.int .i64 (n : Int))).run Try.prog w = .ok (.slice (some ⟨w.heap.size, 0, none⟩) n n) (w.alloc (.cells (arrY (List.replicate n 0)) 5)) := by
  obtain ⟨i0, hi0, hz0, hz1, hz2⟩ := info_parts u8_infK
  have := run_make (P := Try.prog) w 41 5 i0 _ Try.underlying41 hi0 hz0 .i64 .i64 n n (by omega) (Int.le_refl _) (by rw [hz2]; omega) (by omega)
  rw [Int.toNat_natCast, hz1, Nat.mul_one] at this
  rw [← madeY]
  exact this
def zer6 : List Int := List.replicate 6000 0
theorem mk_6000 (w : World) : (Instr.makeSlice 22 (.int .i64 6000) (.int .i64 6000)).run Try.prog w = .ok (.slice (some ⟨w.heap.size, 0, none⟩) 6000 6000) (w.alloc (.cells (arrI zer6) 3)) := mk_k 6000 (by omega) w
theorem Blk.atY {w : World} {g : Nat} {t : TypeId} {xs : List Int} (h : Blk w g t (arrY xs)) (k : Nat) (hk : k < xs.length) : w.cell? ⟨g, k, none⟩ = some (.int .u8 (at0 xs k)) := by
  rw [h.cell k]; unfold arrY at0; rw [List.getElem?_toArray, List.getElem?_map, List.getD_eq_getElem?_getD, List.getElem?_eq_getElem hk]; rfl
theorem Blk.setY {w : World} {g : Nat} {t : TypeId} {xs : List Int} (h : Blk w g t (arrY xs)) (k : Nat) (x : Int) : Blk (w.setCell ⟨g, k, none⟩ (.int .u8 x)) g t (arrY (xs.set k x)) := by
  have := h.set_ k (.int .u8 x)
  unfold arrY at *
  rwa [List.setIfInBounds_toArray, ← List.map_set] at this
theorem Blk.rdY {w : World} {g : Nat} {t : TypeId} {xs : List Int} (h : Blk w g t (arrY xs)) : RD w w.heap.size 1 (some ⟨g, 0, none⟩) xs.length (xs.map (.int .u8)) :=
  ⟨by simp, fun _ => ⟨g, 0, rfl, h.lt, fun j hj => by rw [Nat.zero_add, h.cell j]; unfold arrY; rw [List.getElem?_toArray]⟩⟩
theorem Blk.rdDrop {w : World} {g : Nat} {t : TypeId} {xs : List Int} (h : Blk w g t (arrI xs)) (n : Nat) : RD w w.heap.size 1 (some ⟨g, n, none⟩) (xs.drop n).length ((xs.drop n).map (.int .i64)) :=
  ⟨by simp, fun _ => ⟨g, n, rfl, h.lt, fun j hj => by rw [h.cell (n + j)]; unfold arrI; rw [List.getElem?_toArray, List.getElem?_map, List.getElem?_map, List.getElem?_drop]⟩⟩
/-- The first k places are told, the others are nothing yet. -/
def allN (xs : List Int) (k : Nat) : List Int := (List.range 6000).map fun i => if i < k then atV xs i else 0
theorem allN_len (xs : List Int) (k : Nat) : (allN xs k).length = 6000 := by simp [allN]
theorem allN_0 (xs : List Int) : allN xs 0 = zer6 := by
  unfold allN zer6
  rw [List.eq_replicate_iff]
  refine ⟨by simp, fun b hb => ?_⟩
  obtain ⟨i, _, rfl⟩ := List.mem_map.1 hb
  exact if_neg (by omega)
theorem allN_end (xs : List Int) : allN xs 6000 = all0 xs := by
  unfold allN all0
  refine List.map_congr_left fun i hi => ?_
  rw [List.mem_range] at hi
  exact if_pos hi
theorem allN_get (xs : List Int) (k i : Nat) : (allN xs k)[i]? = if i < 6000 then some (if i < k then atV xs i else 0) else none := by
  unfold allN
  rw [List.getElem?_map]
  by_cases h : i < 6000
  · rw [List.getElem?_range h, if_pos h]; rfl
  · rw [List.getElem?_eq_none (by simp; omega), if_neg h]; rfl
theorem allN_set (xs : List Int) (k : Nat) (h : k < 6000) : (allN xs k).set k (atV xs k) = allN xs (k + 1) := by
  refine List.ext_getElem? fun i => ?_
  rw [List.getElem?_set, allN_get, allN_get, allN_len]
  by_cases hq : k = i
  · subst hq; rw [if_pos rfl, if_pos h, if_pos h, if_pos (by omega)]
  · rw [if_neg hq]
    by_cases hi : i < 6000
    · rw [if_pos hi, if_pos hi]
      by_cases hl : i < k
      · rw [if_pos hl, if_pos (by omega)]
      · rw [if_neg hl, if_neg (by omega)]
    · rw [if_neg hi, if_neg hi]
/-- The first k of n are told, the others are nothing yet. -/
def genN (f : Nat → Int) (n k : Nat) : List Int := (List.range n).map fun i => if i < k then f i else 0
theorem genN_len (f : Nat → Int) (n k : Nat) : (genN f n k).length = n := by simp [genN]
theorem genN_get (f : Nat → Int) (n k i : Nat) : (genN f n k)[i]? = if i < n then some (if i < k then f i else 0) else none := by
  unfold genN
  rw [List.getElem?_map]
  by_cases h : i < n
  · rw [List.getElem?_range h, if_pos h]; rfl
  · rw [List.getElem?_eq_none (by simp; omega), if_neg h]; rfl
theorem genN_0 (f : Nat → Int) (n : Nat) : genN f n 0 = List.replicate n 0 := by
  unfold genN
  rw [List.eq_replicate_iff]
  refine ⟨by simp, fun b hb => ?_⟩
  obtain ⟨i, _, rfl⟩ := List.mem_map.1 hb
  exact if_neg (by omega)
theorem genN_set (f : Nat → Int) (n k : Nat) (h : k < n) : (genN f n k).set k (f k) = genN f n (k + 1) := by
  refine List.ext_getElem? fun i => ?_
  rw [List.getElem?_set, genN_get, genN_get, genN_len]
  by_cases hq : k = i
  · subst hq; rw [if_pos rfl, if_pos h, if_pos h, if_pos (by omega)]
  · rw [if_neg hq]
    by_cases hi : i < n
    · rw [if_pos hi, if_pos hi]
      by_cases hl : i < k
      · rw [if_pos hl, if_pos (by omega)]
      · rw [if_neg hl, if_neg (by omega)]
    · rw [if_neg hi, if_neg hi]
theorem genN_take (l : List Int) (n : Nat) (h : n ≤ l.length) : genN (at0 l) n n = l.take n := by
  refine List.ext_getElem? fun i => ?_
  rw [genN_get]
  by_cases hi : i < n
  · rw [if_pos hi, if_pos hi, List.getElem?_take_of_lt hi]
    unfold at0
    rw [List.getD_eq_getElem?_getD, List.getElem?_eq_getElem (by omega)]; rfl
  · rw [if_neg hi, List.getElem?_eq_none (by rw [List.length_take]; omega)]
def ApPost (w : World) (xs : List Int) (L : List Ch) (e : Ending) (w' : World) : Prop :=
  Below w.heap.size w w' ∧ ((appE xs L ≠ 0 ∧ e = .returned (.tuple #[.slice none 0 0, erK (appE xs L)])) ∨
    (appE xs L = 0 ∧ ∃ g, w.heap.size ≤ g ∧ e = .returned (.tuple #[.slice (some ⟨g, 0, none⟩) (appB xs L).length (appB xs L).length, .nilIface]) ∧ Blk w' g 5 (arrY (appB xs L))))
set_option maxHeartbeats 3200000 in
set_option maxRecDepth 100000 in
theorem apply_any (A A' : Option Addr) (c c' : Nat) (xs : List Int) (L : List Ch) (w : World) (h : RB w w.heap.size A xs) (hx : ∀ x ∈ xs, Byte x) (h' : RC w w.heap.size A' L) :
    Calls Try.prog 17 #[.slice A xs.length c, .slice A' L.length c'] w (ApPost w xs L) := by
  have H := Lib.hid h
  have H' := Lib.hid h'
  have HX := Lib.hid hx
  clear h h' hx
  by_cases hl6 : 6000 < xs.length
  · have hE : appE xs L = 4 := if_pos (.inl hl6)
    have d1 : decide ((6000 : Int) < (xs.length : Int)) = true := by simp; omega
    replace hE := Lib.hid hE
    go_enter Try.func17, Try.ntmps17
    go_wp2_with fail
    go_ret2
    exact ⟨Below.refl _ _, .inl ⟨by rw [hE.out]; omega, by rw [hE.out]; rfl⟩⟩
  · have d1 : decide ((6000 : Int) < (xs.length : Int)) = false := by simp; omega
    have hmk := mk_6000
    go_enter Try.func17, Try.ntmps17
    go_upto_region 4 with fail
    have hb1 : Below w.heap.size w ((w.alloc (.cells (arrI zer6) 3)).alloc (.cells #[.slice (some ⟨w.heap.size, 0, none⟩) 6000 6000] 22)) := ((Below.refl _ _).alloc (Nat.le_refl _) _).alloc (by simp) _
    have hk1 : Blk ((w.alloc (.cells (arrI zer6) 3)).alloc (.cells #[.slice (some ⟨w.heap.size, 0, none⟩) 6000 6000] 22)) w.heap.size 3 (arrI (allN xs 0)) := by rw [allN_0]; exact (Blk.new w _ _).alloc _
    have hk2 : Blk ((w.alloc (.cells (arrI zer6) 3)).alloc (.cells #[.slice (some ⟨w.heap.size, 0, none⟩) 6000 6000] 22)) (w.heap.size + 1) 22 #[.slice (some ⟨w.heap.size, 0, none⟩) 6000 6000] := by
      have := Blk.new (w.alloc (.cells (arrI zer6) 3)) 22 #[.slice (some ⟨w.heap.size, 0, none⟩) 6000 6000]
      rwa [show (w.alloc (.cells (arrI zer6) 3)).heap.size = w.heap.size + 1 by simp] at this
    generalize ((w.alloc (.cells (arrI zer6) 3)).alloc (.cells #[.slice (some ⟨w.heap.size, 0, none⟩) 6000 6000] 22)) = W1 at *
    have hx0 := hk2.cell 0
    have hlt2 := hk2.lt
    clear hmk
    replace hk1 := Lib.hid hk1
    replace hk2 := Lib.hid hk2
    replace hb1 := Lib.hid hb1
    generalize hg0 : w.heap.size = g0 at *
    go_wp2_with fail
    go_loopw [7, 19] (fun _ vi wr => ∃ k : Nat, vi = .int .i64 k ∧ k ≤ 6000 ∧ Hid (Blk wr g0 3 (arrI (allN xs k))) ∧ Hid (Blk wr (g0 + 1) 22 #[.slice (some ⟨g0, 0, none⟩) 6000 6000]) ∧ Hid (Below g0 w wr)) (fun _ vi _ => 6000 - (intOf vi).toNat)
    case atStart => exact ⟨0, rfl, Nat.zero_le _, hk1, hk2, hb1⟩
    case round =>
      obtain ⟨k, rfl, hk, hbk, hbx, hb⟩ := hrel
      clear hx0 hlt2
      have hx0 := hbx.out.cell 0
      have hltx := hbx.out.lt
      by_cases hlt : k < 6000
      · have j1 : (k : Int) < 6000 := by omega
        have HR := (H.out).below hb.out
        have hbd := atV_bd xs HX.out k
        have hset := allN_set xs k hlt
        have fk := hbk.out.frozen k
        have hck := hbk.out.atI k (by rw [allN_len]; exact hlt)
        have hlk := hbk.out.lt
        replace hbd := Lib.hid hbd
        replace hset := Lib.hid hset
        replace HR := Lib.hid HR
        generalize at0 (allN xs k) k = old at *
        go_upto_region 7 with fail
        go_still_tail 6, (by kernel_rfl)
        still_call ((at_any A c g0 xs k wr.drew HR.out.drew HX.out).mono (fun e w' h => ⟨h.1, h.2.symm⟩))
        repeat still_step
        refine wpStill_nil ?_
        change wpList _ _ _ _ _ wr.drew
        go_wp2_with fail
        go_roundw
        case rel =>
          refine ⟨k + 1, by go_num, by omega, Lib.hid ?_, Lib.hid ((hbx.out.far (p := ⟨g0, k, none⟩) (by show g0 + 1 ≠ g0; omega) _).drew), Lib.hid ((hb.out.setCell (p := ⟨g0, k, none⟩) (Nat.le_refl _) _).drew)⟩
          have := (hbk.out.setI k (atV xs k)).drew
          rwa [hset.out] at this
        case measure => simp [intOf]; omega
      · have j1 : ¬ (k : Int) < 6000 := by omega
        obtain rfl : k = 6000 := by omega
        have hbk1 : Blk wr g0 3 (arrI (all0 xs)) := by rw [← allN_end]; exact hbk.out
        have HR := H'.out.below hb.out
        replace HR := Lib.hid HR
        replace hbk1 := Lib.hid hbk1
        clear hbk hk1 hk2 hb1
        go_wp2_with fail
        refine (check_fun A' c' g0 (g0 + 1) g0 L (all0 xs) wr HR.out (Nat.le_refl _) (by omega) hx0 hltx (by omega) hbk1.out (all0_len xs)).mono ?_
        rintro e W2 ⟨rfl, hq, hok⟩
        have hb2 : Below g0 w W2 := hb.out.grown hq (by omega) (fun g hg => by cases hg; exact Nat.le_refl _)
        have hbx2 : Blk W2 (g0 + 1) 22 #[.slice (some ⟨g0, 0, none⟩) 6000 6000] := hbx.out.grown hq (by intro h; injection h; omega)
        replace hb2 := Lib.hid hb2
        replace hok := Lib.hid hok
        clear hx0 hltx hq
        by_cases hz : cfE L (all0 xs) = 0
        · have bk := hok.out hz
          have hx0 := hbx2.cell 0
          have hltx := hbx2.lt
          replace hbx2 := Lib.hid hbx2
          rw [hz, erK0]
          have hL6 : ¬6000 < L.length := fun h => by unfold cfE at hz; rw [if_pos h] at hz; cases hz
          have hz1 : (appR xs L).1 = 0 := by unfold cfE at hz; rw [if_neg hL6] at hz; exact hz
          have hll : (appR xs L).2.length = 6000 := by unfold appR; rw [appS_len, all0_len]
          have hsg : ∀ i, i < 6000 → -1 ≤ at0 (appR xs L).2 i ∧ at0 (appR xs L).2 i ≤ 255 := fun i hi => by
            have := appS_sgn L (all0 xs) (all0_sgn xs HX.out) L.length (at0 (appR xs L).2 i) (by
              unfold at0 appR at *
              rw [List.getD_eq_getElem?_getD, List.getElem?_eq_getElem (by omega)]
              exact List.getElem_mem _)
            exact this
          have hE3 : shpB (appR xs L).2 = true → appE xs L = 3 := fun h => by unfold appE; rw [if_neg (by omega), if_neg (by simp [hz1]), if_pos h]
          have hE0 : shpB (appR xs L).2 = false → appE xs L = 0 := fun h => by unfold appE; rw [if_neg (by omega), if_neg (by simp [hz1]), if_neg (by simp [h])]
          have hB0 : appE xs L = 0 → appB xs L = (appR xs L).2.take (ixL (appR xs L).2) := fun h => if_pos h
          change Blk W2 g0 3 (arrI (appR xs L).2) at bk
          replace hsg := Lib.hid hsg
          replace hE3 := Lib.hid hE3
          replace hE0 := Lib.hid hE0
          replace hB0 := Lib.hid hB0
          replace bk := Lib.hid bk
          replace hz := Lib.hid hz
          clear hz1
          generalize (appR xs L).2 = l at *
          go_wp2_with fail
          have hix := index_any (some ⟨g0, 0, none⟩) 6000 W2.heap.size l W2 bk.out.rdI (by omega)
          rw [hll] at hix
          refine hix.mono ?_
          clear hix
          rintro e W2' ⟨rfl, rfl⟩
          have hile := ixL_le l
          rw [hll] at hile
          replace hll := Lib.hid hll
          go_upto_if 38 with fail
          go_cut [9] (fun v wx => v = .int .i64 (ixL l) ∧ W2 = wx)
          case first =>
            by_cases hi : ixL l < 6000
            · have hv : ixV l = (ixL l : Int) := by unfold ixV; rw [hll.out, if_pos hi]
              have j2 : ¬ ((ixL l : Int) < 0) := by omega
              rw [hv]
              go_wp2_with fail
              go_meet
              exact ⟨rfl, rfl⟩
            · have hv : ixV l = -1 := by unfold ixV; rw [hll.out, if_neg hi]
              have hv2 : ixL l = 6000 := by omega
              rw [hv]
              replace hv2 := Lib.hid hv2
              go_wp2_with fail
              go_meet
              exact ⟨by rw [hv2.out]; rfl, rfl⟩
          case rest =>
          obtain ⟨rfl, rfl⟩ := hcut
          go_upto_region 15 with fail
          go_cut [9, 44] (fun u v wx => u = .int .i64 (ixL l) ∧ v = .bool (shpB l) ∧ W2 = wx)
          case first =>
            by_cases hi : ixL l < 6000
            · have j1 : (ixL l : Int) ≤ 6000 := by omega
              have j2 : 0 ≤ (ixL l : Int) := by omega
              go_wp2_with fail
              have hct := ctn2_any (some ⟨g0, ixL l, none⟩) (6000 - ixL l) W2.heap.size (l.drop (ixL l)) W2 (bk.out.rdDrop (ixL l)) (by rw [List.length_drop, hll.out]; omega)
              rw [List.length_drop, hll.out] at hct
              refine hct.mono ?_
              clear hct
              rintro e W2' ⟨rfl, rfl⟩
              go_wp2_with fail
              go_meet
              exact ⟨rfl, rfl, rfl⟩
            · have hv2 : ixL l = 6000 := by omega
              have hsh : shpB l = ([] : List Int).any (fun x => decide (0 ≤ x)) := by unfold shpB; rw [hv2, List.drop_of_length_le (by rw [hll.out]; omega)]
              replace hsh := Lib.hid hsh
              have hv3 := Lib.hid hv2
              rw [hv2]
              clear hv2
              go_wp2_with fail
              refine (ctn2_any (some ⟨g0, 0, none⟩) 0 W2.heap.size [] W2 ⟨rfl, fun h => absurd h (by simp)⟩ (by simp)).mono ?_
              rintro e W2' ⟨rfl, rfl⟩
              go_wp2_with fail
              go_meet
              exact ⟨by rw [hv3.out]; rfl, by rw [hsh.out]; rfl, rfl⟩
          case rest =>
          obtain ⟨rfl, rfl, rfl⟩ := hcut
          cases hsh : shpB l with
          | true =>
            have hE := hE3.out hsh
            replace hE := Lib.hid hE
            replace hsh := Lib.hid hsh
            go_wp2_with fail
            go_ret2
            exact ⟨hg0 ▸ hb2.out, .inl ⟨by rw [hE.out]; omega, by rw [hE.out]; rfl⟩⟩
          | false =>
            have hE := hE0.out hsh
            have hB := hB0.out hE
            have hbl : (appB xs L).length = ixL l := by rw [hB, List.length_take, hll.out]; omega
            have hbt : ∀ i, i < ixL l → at0 (appB xs L) i = at0 l i := fun i hi => by
              rw [hB]; unfold at0; rw [List.getD_eq_getElem?_getD, List.getD_eq_getElem?_getD, List.getElem?_take_of_lt hi]
            have hbb : ∀ i, i < ixL l → 0 ≤ at0 l i ∧ at0 l i ≤ 255 := fun i hi => by
              have h1 := hsg.out i (by omega)
              have h2 := ixL_pre l i hi
              omega
            replace hsh := Lib.hid hsh
            replace hE := Lib.hid hE
            replace hB := Lib.hid hB
            replace hbt := Lib.hid hbt
            replace hbb := Lib.hid hbb
            replace hbl := Lib.hid hbl
            have hmk := mk_y (ixL l) (by omega)
            go_upto_region 18 with fail
            have hb3 : Below g0 w (W2.alloc (.cells (arrY (List.replicate (ixL l) 0)) 5)) := hb2.out.alloc (by omega) _
            have hk3 : Blk (W2.alloc (.cells (arrY (List.replicate (ixL l) 0)) 5)) W2.heap.size 5 (arrY (genN (at0 l) (ixL l) 0)) := by rw [genN_0]; exact Blk.new W2 _ _
            have hk4 := bk.out.alloc (.cells (arrY (List.replicate (ixL l) 0)) 5)
            have hk5 := hbx2.out.alloc (.cells (arrY (List.replicate (ixL l) 0)) 5)
            have hg2 : g0 + 1 < W2.heap.size := hltx
            generalize (W2.alloc (.cells (arrY (List.replicate (ixL l) 0)) 5)) = W3 at *
            generalize W2.heap.size = g2 at *
            clear hmk hx0 hltx
            replace hk3 := Lib.hid hk3
            replace hk4 := Lib.hid hk4
            replace hk5 := Lib.hid hk5
            replace hb3 := Lib.hid hb3
            go_wp2_with fail
            go_loopw [11, 50] (fun _ vi wr => ∃ k : Nat, vi = .int .i64 k ∧ k ≤ ixL l ∧ Hid (Blk wr g2 5 (arrY (genN (at0 l) (ixL l) k))) ∧ Hid (Blk wr g0 3 (arrI l)) ∧ Hid (Blk wr (g0 + 1) 22 #[.slice (some ⟨g0, 0, none⟩) 6000 6000]) ∧ Hid (Below g0 w wr)) (fun _ vi _ => ixL l - (intOf vi).toNat)
            case atStart => exact ⟨0, rfl, Nat.zero_le _, hk3, hk4, hk5, hb3⟩
            case round =>
              obtain ⟨k, rfl, hk, hby, hbl', hbx', hb'⟩ := hrel
              by_cases hlt : k < ixL l
              · have j1 : (k : Int) < (ixL l : Int) := by omega
                have j2 : (k : Int) < 6000 := by omega
                have hx0 := hbx'.out.cell 0
                have hltx := hbx'.out.lt
                have hla := hbl'.out.atI k (by rw [hll.out]; omega)
                have hlb := hby.out.atY k (by rw [genN_len]; exact hlt)
                have fb := hby.out.frozen k
                have hltb := hby.out.lt
                have hbw := hbb.out k hlt
                have hwr : IntKind.u8.wrap (at0 l k) = at0 l k := by rw [IntKind.wrap_u8]; omega
                have hset := genN_set (at0 l) (ixL l) k hlt
                replace hset := Lib.hid hset
                replace hbw := Lib.hid hbw
                generalize at0 (genN (at0 l) (ixL l) k) k = old at *
                generalize at0 l k = x at *
                go_wp2_with fail
                go_roundw
                case rel =>
                  refine ⟨k + 1, by go_num, by omega, Lib.hid ?_, Lib.hid (hbl'.out.far (p := ⟨g2, k, none⟩) (by show g0 ≠ g2; omega) _), Lib.hid (hbx'.out.far (p := ⟨g2, k, none⟩) (by show g0 + 1 ≠ g2; omega) _), Lib.hid (hb'.out.setCell (p := ⟨g2, k, none⟩) (by show g0 ≤ g2; omega) _)⟩
                  have := hby.out.setY k x
                  rwa [hset.out] at this
                case measure => simp [intOf]; omega
              · have j1 : ¬ (k : Int) < (ixL l : Int) := by omega
                have hby2 : Blk wr g2 5 (arrY (appB xs L)) := by
                  rw [hB.out, ← genN_take l (ixL l) (by rw [hll.out]; omega)]
                  have := hby.out
                  rwa [show k = ixL l by omega] at this
                replace hby2 := Lib.hid hby2
                go_wp2_with fail
                go_ret2
                exact ⟨hg0 ▸ hb'.out, .inr ⟨hE.out, g2, by omega, by rw [hbl.out]; rfl, hby2.out⟩⟩
        · have hE : appE xs L = cfE L (all0 xs) := by
            unfold appE cfE at *
            by_cases h6 : 6000 < L.length
            · rw [if_pos (.inr h6), if_pos h6]
            · rw [if_neg (by omega), if_neg h6] at *
              exact if_pos hz
          replace hE := Lib.hid hE
          rw [erKn _ hz]
          replace hz := Lib.hid hz
          replace hbx2 := Lib.hid hbx2
          go_wp2_with fail
          go_ret2
          exact ⟨hg0 ▸ hb2.out, .inl ⟨by rw [hE.out]; exact hz.out, by rw [hE.out, erKn _ hz.out]; rfl⟩⟩
end Go.Proofs.Ytkkdegcbikjebaa
