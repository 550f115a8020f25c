import Derived.Test.YtkgdflecepockaaDoorLockOps
import Derived.Deep.CutBlock
import Derived.Deep.DeepCutAuto
namespace Go.Proofs.YtkgdflecepockaaDoor
set_option linter.unusedVariables false
open Go.RowKit
/-- For whom is waited, of the first k. -/
def waitL (outs : List Bool) (S : Int → Int → Option (List Od)) (now : Int) : Nat → List Int
  | 0 => []
  | k + 1 => waitL outs S now k ++ if (S k now).isNone = true ∧ outs.getD k false = false then [(k : Int)] else []
theorem waitL_len (outs : List Bool) (S : Int → Int → Option (List Od)) (now : Int) : ∀ k, (waitL outs S now k).length ≤ k
  | 0 => Nat.le_refl _
  | k + 1 => by
    have := waitL_len outs S now k
    rw [waitL, List.length_append]
    split <;> simp <;> omega
theorem int_info : (Tryd.prog.info? 3).map (fun i => (i.zero, i.size, i.bytes)) = some (some (.int .i64 0), 1, 8) := by kernel_rfl
/-- What the loop has so far. -/
def WRel (w : World) (outs : List Bool) (S : Int → Int → Option (List Od)) (now : Int) (k : Nat) (v : Value) (wr : World) : Prop :=
  Below w.heap.size w wr ∧ wr.ownsRow w.heap.size 3 1 v (waitL outs S now k).length ((waitL outs S now k).map (.int .i64))
section
variable {w : World} {G O M B n : Nat} {d now : Int} {outs : List Bool} {S : Int → Int → Option (List Od)}
set_option maxHeartbeats 1600000 in
set_option maxRecDepth 100000 in
theorem lwaits_any (h : LK B w G O M n d now outs S) :
    Calls Tryd.prog 31 #[.pointer (some ⟨G, 0, none⟩)] w fun e w' => ∃ v, e = .returned v ∧ w'.ownsRow w.heap.size 3 1 v (waitL outs S now outs.length).length ((waitL outs S now outs.length).map (.int .i64)) ∧ Below w.heap.size w w' := by
  obtain ⟨i0, hi0, hz0, hz1, hz2⟩ := info_parts int_info
  obtain ⟨c0, c1, c2, c3, c4⟩ := h.cells
  have hnp := h.np
  replace h := Lib.hid h
  go_enter Tryd.func31, Tryd.ntmps31
  go_wp2_with fail
  clear c0 c1 c2 c3 c4
  go_loopw [2, 10] (fun v vi wr => ∃ k : Nat, vi = .int .i64 k ∧ k ≤ outs.length ∧ Hid (WRel w outs S now k v wr)) (fun _ vi _ => outs.length - (intOf vi).toNat)
  case atStart => exact ⟨0, rfl, Nat.zero_le _, Lib.hid ⟨Below.refl _ _, World.ownsRow_nil _ _ _ _⟩⟩
  case round =>
    obtain ⟨k, rfl, hk, hR⟩ := hrel
    obtain ⟨hb, hown⟩ := hR.out
    clear hR
    obtain ⟨wo, rfl⟩ : ∃ wo : World, wo = wr := ⟨_, rfl⟩
    by_cases hlt : k < outs.length
    · have i1 : (k : Int) < (outs.length : Int) := by omega
      have hL := h.out.below hb
      obtain ⟨c0, c1, c2, c3, c4⟩ := hL.cells
      have o1 := hL.ocell hlt
      obtain ⟨V, hm, hS⟩ := hL.mp
      have hnw := hL.nw
      have hiso : (V (k : Int) now).isSome = (S (k : Int) now).isSome := by
        obtain ⟨s1, s2⟩ := hS (k : Int) now
        rcases hs : S (k : Int) now with _ | L
        · rw [s1 hs]; rfl
        · obtain ⟨A, c, e, _⟩ := s2 L hs
          rw [e]; rfl
      have hlk := fun q => (hm.drewN q).lookOk (p := (k : Int)) (t := now) (by unfold I6; omega) (by unfold I6; omega)
      rw [hiso] at hlk
      have hgl := hL.blk.lt
      have hwl := waitL_len outs S now k
      have hw1 : waitL outs S now (k + 1) = waitL outs S now k ++ if (S k now).isNone = true ∧ outs.getD k false = false then [(k : Int)] else [] := rfl
      replace hL := Lib.hid hL
      replace hS := Lib.hid hS
      replace hm := Lib.hid hm
      replace hb := Lib.hid hb
      replace hown := Lib.hid hown
      replace hiso := Lib.hid hiso
      generalize (V (k : Int) now).getD (.slice none 0 0) = vv at *
      obtain ⟨si, hsi⟩ : ∃ si, (S (k : Int) now).isSome = si := ⟨_, rfl⟩
      rw [hsi] at hlk
      replace hsi := Lib.hid hsi
      replace hw1 := Lib.hid hw1
      go_upto_region 4 with fail
      go_cut [4, 5] (fun _ b wx0 => ∃ wx, wx = wx0 ∧ b = .bool si ∧ Hid (Below wo.heap.size wo wx))
      case first =>
        go_quiet (fail)
        go_wp2_with fail
        go_meet
        exact ⟨_, rfl, rfl, Lib.hid (bdrewN (Below.refl _ _) _)⟩
      case rest =>
      clear c0 c1 c2 c3 c4 o1 hlk hgl hm hS
      obtain ⟨wx, rfl, rfl, hbx⟩ := hcut
      have hLx := hL.out.below hbx.out
      obtain ⟨c0, c1, c2, c3, c4⟩ := hLx.cells
      have o1 := hLx.ocell hlt
      have hsx := hbx.out.size
      have hbb := hb.out.trans (hbx.out.mono hb.out.size)
      have hownx := own_below hown.out hbx.out
      have hsz := hbb.size
      replace hLx := Lib.hid hLx
      replace hbb := Lib.hid hbb
      replace hownx := Lib.hid hownx
      clear hb hown hL hbx
      cases si with
      | true =>
        have hR9 := Lib.hid (show WRel w outs S now (k + 1) u2 wx from by
          have hn : (S (k : Int) now).isNone = false := by rw [← Option.not_isSome, hsi.out]; rfl
          unfold WRel; rw [hw1.out, if_neg (by rw [hn]; simp), List.append_nil]; exact ⟨hbb.out, hownx.out⟩)
        go_wp2_with fail
        go_roundw
        case rel => exact ⟨k + 1, by go_num, by omega, hR9⟩
        case measure => simp [intOf]; omega
      | false =>
        have hn : (S (k : Int) now).isNone = true := by rw [← Option.not_isSome, hsi.out]; rfl
        cases hob : outs.getD k false with
        | true =>
          rw [hob] at o1
          have hR9 := Lib.hid (show WRel w outs S now (k + 1) u2 wx from by
            unfold WRel; rw [hw1.out, if_neg (by rw [hob]; simp), List.append_nil]; exact ⟨hbb.out, hownx.out⟩)
          replace hob := Lib.hid hob
          replace hn := Lib.hid hn
          go_wp2_with fail
          go_roundw
          case rel => exact ⟨k + 1, by go_num, by omega, hR9⟩
          case measure => simp [intOf]; omega
        | false =>
          rw [hob] at o1
          have hwe : waitL outs S now (k + 1) = waitL outs S now k ++ [(k : Int)] := by rw [hw1.out, if_pos ⟨hn, hob⟩]
          replace hwe := Lib.hid hwe
          replace hob := Lib.hid hob
          replace hn := Lib.hid hn
          go_wp2_with (at_builtin; refine wpList_app1 rfl (.tmp 39) (.tmp 41) 27 rfl w.heap.size 3 i0 _ 1 8 Tryd.underlying27 hi0 hz0 hz1 hz2 rfl (by decide) (by decide) wx #[.int .i64 (k : Int)] u2 _ _ rfl hownx.out rfl rfl rfl (by omega) hsz ?_; intro v' w9 hown' hgrow)
          have hR9 := Lib.hid (show WRel w outs S now (k + 1) v' w9 from by
            unfold WRel; rw [hwe.out, List.length_append, List.map_append]
            exact ⟨hbb.out.grown hgrow hsz (fun b e => (hownx.out.lt b e).1), hown'⟩)
          clear hown' hgrow
          go_wp2_with fail
          go_roundw
          case rel => exact ⟨k + 1, by go_num, by omega, hR9⟩
          case measure => simp [intOf]; omega
    · have i1 : ¬ (k : Int) < (outs.length : Int) := by omega
      obtain rfl : k = outs.length := by omega
      replace hb := Lib.hid hb
      replace hown := Lib.hid hown
      go_wp2_with fail
      go_ret
      exact ⟨_, rfl, hown.out, hb.out⟩
theorem lready_any (h : LK B w G O M n d now outs S) (l : List Int) (hl : waitL outs S now outs.length = l) :
    Calls Tryd.prog 33 #[.pointer (some ⟨G, 0, none⟩)] w fun e w' => e = .returned (.bool (decide (l = []))) ∧ Below w.heap.size w w' := by
  have hc := lwaits_any h
  have hnp := h.np
  have hwl := waitL_len outs S now outs.length
  rw [hl] at hc hwl
  clear hl
  replace hc := Lib.hid hc
  replace h := Lib.hid h
  go_enter Tryd.func33, Tryd.ntmps33
  go_wp2_with fail
  refine hc.out.mono ?_
  rintro e w1 ⟨v, rfl, hown, hb⟩
  obtain ⟨A, c, rfl, _⟩ := own_slice hown
  replace hown := Lib.hid hown
  replace hb := Lib.hid hb
  cases l with
  | nil =>
    go_wp2_with fail
    go_ret
    exact ⟨by simp, hb.out⟩
  | cons a r =>
    have e1 : ((((a :: r).length : Nat) : Int) == 0) = false := by simp; omega
    have e2 : (((r.length : Int) + 1) == 0) = false := by simp; omega
    go_wp2_with fail
    go_ret
    exact ⟨by simp, hb.out⟩
end
end Go.Proofs.YtkgdflecepockaaDoor
