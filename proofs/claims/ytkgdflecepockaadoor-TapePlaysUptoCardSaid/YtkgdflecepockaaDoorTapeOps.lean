import Derived.Test.YtkgdflecepockaaDoorTape
import Derived.BigQuiet
import Derived.Deep.QuietTactic
import Derived.RegionTactic
import Derived.ChangeAlike
import Derived.StillTailTactics
import Derived.IntWalk
namespace Go.Proofs.YtkgdflecepockaaDoor
set_option linter.unusedVariables false
open Go.RowKit
section
variable {w : World} {g B c : Nat} {A : Option Addr} {xs : List Int} {safe steps stop : Int}
def okI : Value := .nilIface
def erI (n : Int) : Value := .iface 80 (.int .i64 n)
theorem tnew_any (w : World) :
    Calls Tryd.prog 6 #[] w fun e w' => ∃ g, e = .returned (.pointer (some ⟨g, 0, none⟩)) ∧ TOk w' w.heap.size g none 0 [] 0 0 (-1) ∧ Below w.heap.size w w' := by
  go_enter Tryd.func6, Tryd.ntmps6
  go_wp2
  go_ret
  exact ⟨_, rfl, ⟨Blk.new w _ _, World.ownsRow_nil _ _ _ _, Nat.le_refl _⟩, (Below.refl _ _).alloc (Nat.le_refl _) _⟩
/-- step: nothing is wrong. -/
theorem tstep_ok (h : TOk w B g A c xs safe steps stop) (hn : stop < 0 ∨ steps < stop) (h0 : 0 ≤ steps ∧ steps ≤ 1000000) :
    Calls Tryd.prog 34 #[.pointer (some ⟨g, 0, none⟩), .nilIface] w fun e w' => e = .returned .nilIface ∧ TOk w' B g A c xs safe (steps + 1) stop ∧ TEff w w' g none := by
  obtain ⟨c0, c1, c2, c3⟩ := h.cell
  have f2 := h.blk.frozen 2
  have hlt := h.blk.lt
  have H := Lib.hid h
  clear h c0 c1
  rcases (by omega : stop < 0 ∨ (0 ≤ stop ∧ steps < stop)) with hs | ⟨hs, hs2⟩
  · clear hn
    have hd : decide (0 ≤ stop) = false := by simp; omega
    go_enter Tryd.func34, Tryd.ntmps34
    go_wp2_with fail
    go_quiet (fail)
    go_wp2_with fail
    go_ret
    exact ⟨rfl, (H.out.drewN _).set2 _, ((TEff.refl _ _ _).drewN _).set _ _⟩
  · clear hn
    have hd : decide (0 ≤ stop) = true := by simp; omega
    have hd2 : decide (stop ≤ steps) = false := by simp; omega
    go_enter Tryd.func34, Tryd.ntmps34
    go_wp2_with fail
    go_quiet (fail)
    go_wp2_with fail
    go_ret
    exact ⟨rfl, (H.out.drewN _).set2 _, ((TEff.refl _ _ _).drewN _).set _ _⟩
/-- step: it is stopped, or there is a fault. -/
theorem tstep_no (v : Value) (r : Int) (h : TOk w B g A c xs safe steps stop) (hv : (0 ≤ stop ∧ stop ≤ steps ∧ (v = .nilIface ∨ v = erI 4 ∨ v = erI 1) ∧ r = 7) ∨ ((stop < 0 ∨ steps < stop) ∧ v = erI r)) :
    Calls Tryd.prog 34 #[.pointer (some ⟨g, 0, none⟩), v] w fun e w' => e = .returned (erI r) ∧ ∃ q, w' = w.drewN q := by
  obtain ⟨c0, c1, c2, c3⟩ := h.cell
  have hlt := h.blk.lt
  have H := Lib.hid h
  clear h c0 c1
  rcases hv with ⟨hs, hs2, hv, rfl⟩ | ⟨hn, rfl⟩
  · have hd : decide (0 ≤ stop) = true := by simp; omega
    have hd2 : decide (stop ≤ steps) = true := by simp; omega
    go_enter Tryd.func34, Tryd.ntmps34
    go_wp2_with fail
    go_quiet (fail)
    go_wp2_with fail
    go_ret
    exact ⟨rfl, _, rfl⟩
  · rcases (by omega : stop < 0 ∨ (0 ≤ stop ∧ steps < stop)) with hs | ⟨hs, hs2⟩
    · clear hn
      have hd : decide (0 ≤ stop) = false := by simp; omega
      unfold erI
      go_enter Tryd.func34, Tryd.ntmps34
      go_wp2_with fail
      go_quiet (fail)
      go_wp2_with fail
      go_ret
      exact ⟨rfl, _, rfl⟩
    · clear hn
      have hd : decide (0 ≤ stop) = true := by simp; omega
      have hd2 : decide (stop ≤ steps) = false := by simp; omega
      unfold erI
      go_enter Tryd.func34, Tryd.ntmps34
      go_wp2_with fail
      go_quiet (fail)
      go_wp2_with fail
      go_ret
      exact ⟨rfl, _, rfl⟩
theorem tsafe_any (h : TOk w B g A c xs safe steps stop) :
    Calls Tryd.prog 14 #[.pointer (some ⟨g, 0, none⟩)] w fun e w' => e = .returned (.int .i64 safe) ∧ w = w' := by
  obtain ⟨c0, c1, c2, c3⟩ := h.cell
  clear h c0 c2 c3
  go_enter Tryd.func14, Tryd.ntmps14
  go_wp2_with fail
  go_ret
  exact ⟨rfl, rfl⟩
theorem tbytes_any (h : TOk w B g A c xs safe steps stop) (hl : xs.length ≤ 100000) :
    Calls Tryd.prog 13 #[.pointer (some ⟨g, 0, none⟩)] w fun e w' => ∃ A' c', e = .returned (.slice A' xs.length c') ∧ w'.ownsRow w.heap.size 5 1 (.slice A' xs.length c') xs.length (xs.map (.int .u8)) ∧ Below w.heap.size w w' := by
  obtain ⟨c0, c1, c2, c3⟩ := h.cell
  have hr := RD.of_own h.own
  have hn := (own_room h.own).2
  have H := Lib.hid hr
  replace hn := Lib.hid hn
  clear h c1 c2 c3 hr
  go_enter Tryd.func13, Tryd.ntmps13
  go_wp2_with fail
  refine (cloneB_any A xs.length c w.heap.size xs w hn.out (Nat.le_refl _) H.out (by omega)).mono ?_
  rintro e w' ⟨v, rfl, ho, hb⟩
  obtain ⟨A', c', rfl, _⟩ := own_slice ho
  go_wp2_with fail
  go_ret
  exact ⟨_, _, rfl, ho, hb⟩
theorem tsync_ok (h : TOk w B g A c xs safe steps stop) (hn : stop < 0 ∨ steps < stop) (h0 : 0 ≤ steps ∧ steps ≤ 1000000) :
    Calls Tryd.prog 8 #[.pointer (some ⟨g, 0, none⟩)] w fun e w' => e = .returned .nilIface ∧ TOk w' B g A c xs xs.length (steps + 1) stop ∧ TEff w w' g none := by
  have H := Lib.hid h
  replace hn := Lib.hid hn
  clear h
  go_enter Tryd.func8, Tryd.ntmps8
  go_wp2_with fail
  refine (tstep_ok H.out hn.out h0).mono ?_
  rintro e w1 ⟨rfl, h1, he⟩
  obtain ⟨c0, c1, c2, c3⟩ := h1.cell
  have f1 := h1.blk.frozen 1
  have hlt := h1.blk.lt
  replace h1 := Lib.hid h1
  go_wp2_with fail
  go_ret
  exact ⟨rfl, h1.out.set1 _, he.set _ _⟩
theorem u8_info : (Tryd.prog.info? 5).map (fun i => (i.zero, i.size, i.bytes)) = some (some (.int .u8 0), 1, 1) := by kernel_rfl
set_option maxHeartbeats 800000 in
set_option maxRecDepth 100000 in
theorem tappend_ok (Y : Option Addr) (n d D : Nat) (ys : List Int) (h : TOk w B g A c xs safe steps stop) (hn : stop < 0 ∨ steps < stop) (h0 : 0 ≤ steps ∧ steps ≤ 1000000) (hyg : ∀ b o, Y = some ⟨b, o, none⟩ → b ≠ g) (hy : RD w D 1 Y n (ys.map (.int .u8))) (hyl : ys.length = n) (hnil : Y = none → d = 0) (hl : xs.length + n ≤ 6000) :
    Calls Tryd.prog 7 #[.pointer (some ⟨g, 0, none⟩), .slice Y n d] w fun e w' => ∃ A' c', e = .returned (.tuple #[.int .i64 ((xs.length + n : Nat) : Int), .nilIface]) ∧ TOk w' B g A' c' (xs ++ ys) safe (steps + 1) stop ∧ TEff w w' g (TRow A xs.length c) := by
  obtain ⟨i0, hi0, hz0, hz1, hz2⟩ := info_parts u8_info
  obtain ⟨c0, c1, c2, c3⟩ := h.cell
  have H := Lib.hid h
  replace hn := Lib.hid hn
  replace hy := Lib.hid hy
  replace hnil := Lib.hid hnil
  have hyl2 : (ys.map (Value.int .u8)).length = n := by simpa using hyl
  replace hyl := Lib.hid hyl
  clear h c1 c2 c3
  go_enter Tryd.func7, Tryd.ntmps7
  go_wp2_with fail
  refine (tstep_ok H.out hn.out h0).mono ?_
  rintro e w1 ⟨rfl, h1, he⟩
  clear c0
  obtain ⟨c0, c1, c2, c3⟩ := h1.cell
  have hsz := he.size
  have hy1 : RD w1 D 1 Y n (ys.map (.int .u8)) := hy.out.keepAt fun b o o' hb hlt => World.cell?_of_block (he.block b hlt (hyg b o hb) (by simp))
  clear hyg
  replace hy1 := Lib.hid hy1
  replace h1 := Lib.hid h1
  replace he := Lib.hid he
  replace hyl2 := Lib.hid hyl2
  clear c1 c2 c3
  go_wp2_with (at_builtin; refine wpList_append_rd rfl (.tmp 27) (.tmp 28) 23 rfl B 5 i0 _ 1 1 Tryd.underlying23 hi0 hz0 hz1 hz2 rfl (by decide) w1 (.slice A xs.length c) xs.length _ rfl h1.out.own D Y n d (ys.map (.int .u8)) rfl hnil.out hy1.out (by simp [Value.oneCell']) ?_ ?_ ?_ ?_)
  · unfold maxLen; omega
  · omega
  · exact h1.out.size
  · intro v' w2 hown hgrow
    obtain ⟨A', c', rfl, _⟩ := own_slice hown
    have hb2 := h1.out.blk.grown hgrow (by have := h1.out.far; exact fun h => this h.symm)
    have c0 := hb2.cell 0
    have f0 := hb2.frozen 0
    have hlt := hb2.lt
    have hT : TOk (w2.setCell ⟨g, 0, none⟩ (.slice A' (xs.length + n) c')) B g A' c' (xs ++ ys) safe (steps + 1) stop := by
      have hll : (xs ++ ys).length = xs.length + n := by rw [List.length_append, hyl.out]
      have ho2 : w2.ownsRow B 5 1 (.slice A' (xs.length + n) c') (xs ++ ys).length ((xs ++ ys).map (.int .u8)) := by rw [hll, List.map_append]; exact hown
      refine ⟨by rw [hll]; exact hb2.set_ 0 _, ?_, h1.out.low⟩
      rw [hll] at ho2 ⊢
      refine ho2.kept (grownBy_set w2 g 0 _) (.inr ?_)
      intro e
      rcases ho2.2 with ⟨hv, _⟩ | ⟨g', cap, cur, hv, _, hg, _⟩
      · rw [hv] at e; simp [Value.ownBlock] at e
      · rw [hv] at e
        simp only [Value.ownBlock, Option.some.injEq] at e
        subst e
        have hb := hb2
        unfold Blk at hb
        rw [hb] at hg
        injection hg with hg
        injection hg with _ ht
        exact absurd ht (by decide)
    have hE : TEff w (w2.setCell ⟨g, 0, none⟩ (.slice A' (xs.length + n) c')) g (TRow A xs.length c) := ((he.out.widen _).grown hgrow).set _ _
    replace hT := Lib.hid hT
    replace hE := Lib.hid hE
    clear hown hgrow hb2
    go_wp2_with fail
    go_ret2
    exact ⟨_, _, rfl, hT.out, hE.out⟩
set_option maxHeartbeats 800000 in
set_option maxRecDepth 100000 in
theorem tcrash_any (keep : Int) (k m : Nat) (hk : safe = (k : Int)) (hkl : k ≤ xs.length) (hm : (keep ≤ 0 ∧ m = k) ∨ (0 < keep ∧ keep ≤ ((xs.length - k : Nat) : Int) ∧ (m : Int) = k + keep) ∨ (((xs.length - k : Nat) : Int) < keep ∧ 0 < keep ∧ m = xs.length)) (h : TOk w B g A c xs safe steps stop) (hl : xs.length ≤ 100000) (hkb : -9223372036854775808 ≤ keep ∧ keep ≤ 9223372036854775807) :
    Calls Tryd.prog 10 #[.pointer (some ⟨g, 0, none⟩), .int .i64 keep] w fun e w' => e = .returned (.tuple #[]) ∧ TOk w' B g A c (xs.take m) m 0 (-1) ∧ TEff w w' g none := by
  subst hk
  obtain ⟨c0, c1, c2, c3⟩ := h.cell
  have f0 := h.blk.frozen 0
  have f1 := h.blk.frozen 1
  have hlt := h.blk.lt
  have hroom := (own_room h.own).1
  have H := Lib.hid h
  have hml : m ≤ xs.length := by omega
  clear h c2 c3
  have e1 : IntKind.i64.wrap ((xs.length : Int) - (k : Int)) = (xs.length : Int) - (k : Int) := IntWalk.i64_in _ (by omega)
  have hval : IntKind.i64.wrap ((k : Int) + if IntKind.i64.wrap ((xs.length : Int) - (k : Int)) < if 0 < keep then keep else 0 then IntKind.i64.wrap ((xs.length : Int) - (k : Int)) else if 0 < keep then keep else 0) = (m : Int) := by
    rw [e1]
    have e2 : ((k : Int) + if (xs.length : Int) - (k : Int) < if 0 < keep then keep else 0 then (xs.length : Int) - (k : Int) else if 0 < keep then keep else 0) = (m : Int) := by
      split <;> split at * <;> omega
    rw [e2]
    exact IntWalk.i64_in _ (by omega)
  replace hval := Lib.hid hval
  clear hm e1
  go_enter Tryd.func10, Tryd.ntmps10
  go_wp2_with fail
  go_still_tail 20, (by kernel_rfl)
  change wpList _ _ _ _ _ w.drew
  rw [hval.out]
  generalize (if IntKind.i64.wrap ((xs.length : Int) - (k : Int)) < if 0 < keep then keep else 0 then IntKind.i64.wrap ((xs.length : Int) - (k : Int)) else if 0 < keep then keep else 0) = t20
  generalize (if 0 < keep then keep else 0) = t9
  generalize IntKind.i64.wrap ((xs.length : Int) - (k : Int)) = t19
  have hT := (H.out.drew).set1 (m : Int)
  clear c0 c1 f0 f1
  generalize hw2 : w.drew = w2
  rw [hw2] at hT
  obtain ⟨c0, c1, c2, c3⟩ := hT.cell
  have f1 : w2.frozen? ⟨g, 1, none⟩ = false := by rw [← hw2]; exact H.out.blk.frozen 1
  have d1 : w2.cell? ⟨g, 1, none⟩ = some (.int .i64 (k : Int)) := by rw [← hw2]; exact H.out.blk.cell 1
  replace hw2 := Lib.hid hw2
  replace hT := Lib.hid hT
  clear hval H
  go_wp2_with fail
  have hlt2 : g < w2.heap.size := by have := hT.out.blk.lt; simpa using this
  have hE : TEff w (w2.setCell ⟨g, 1, none⟩ (.int .i64 (m : Int))) g none := by
    rw [← hw2.out]; exact ((TEff.refl _ _ _).drew).set _ _
  replace hE := Lib.hid hE
  clear hw2 f1 d1
  generalize (w2.setCell ⟨g, 1, none⟩ (.int .i64 (m : Int))) = w3 at *
  have hmc : m ≤ c := by omega
  go_still_tail 12, (by kernel_rfl)
  change wpList _ _ _ _ _ w3.drew
  have hT2 := (hT.out.drew).cut m hml
  have hE2 := (hE.out.drew).set 0 (.slice A m c)
  obtain ⟨d0, d1, d2, d3⟩ := hT.out.drew.cell
  have f0 := hT.out.drew.blk.frozen 0
  have hlt3 := hT.out.drew.blk.lt
  clear c0 c1 c2 c3 hT hE
  generalize w3.drew = w4 at *
  have f2 := hT2.blk.frozen 2
  have f3 := hT2.blk.frozen 3
  obtain ⟨c0, c1, c2, c3⟩ := hT2.cell
  replace hT2 := Lib.hid hT2
  replace hE2 := Lib.hid hE2
  clear c0
  go_wp2_with fail
  go_end0
  exact ⟨rfl, (hT2.out.set2 0).set3 (-1), (hE2.out.set _ _).set _ _⟩
end
end Go.Proofs.YtkgdflecepockaaDoor
