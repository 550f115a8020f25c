import Derived.Test.YtmnabijelgpfnaaTapeOps
import Derived.Test.YtmnabijelgpfnaaStr
import Derived.OpenShut
namespace Go.Proofs.Ytmnabijelgpfnaa
set_option linter.unusedVariables false
open Go.RowKit
theorem frame_new (A : Option Addr) (n c B : Nat) (xs : List Int) (w : World) (hn0 : xs.length = n) (hnil : A = none → c = 0) (hB : B ≤ w.heap.size) (h : RD w B 1 A n (xs.map (.int .u8))) (hn : n + 2 ≤ 140737488355328) :
    Calls Try.prog 20 #[.slice A n c] w fun e w' => ∃ g d, e = .returned (.slice (some ⟨g, 0, none⟩) (2 + n) d) ∧ RD w' w'.heap.size 1 (some ⟨g, 0, none⟩) (2 + n) ((frameL xs).map (.int .u8)) ∧ w.heap.size ≤ g ∧ Below w.heap.size w w' := by
  refine (frame_any A n c B xs w hnil hB h hn).mono ?_
  rintro e w' ⟨v, he, hown, hb⟩
  obtain ⟨g, d, rfl, _⟩ := hown.form (by omega)
  subst hn0
  exact ⟨g, d, he, RD.of_own hown, (hown.lt g rfl).1, hb⟩
/-- What is read of two frames that are cut off behind the first. -/
theorem two_frames (xs ys : List Int) (m : Nat) (hx : xs.length ≤ 65535) (hy : ys.length ≤ 65535) (h1 : 2 + xs.length ≤ m) (h2 : m ≤ 2 + xs.length + (2 + ys.length)) :
    ((m = 2 + xs.length + (2 + ys.length)) ∧ framesL ((frameL xs ++ frameL ys).take m) = ([xs, ys], m)) ∨ (m < 2 + xs.length + (2 + ys.length) ∧ framesL ((frameL xs ++ frameL ys).take m) = ([xs], 2 + xs.length)) := by
  have e : frameL xs ++ frameL ys = catF [xs, ys] := by simp [catF]
  have es : sizeF [xs, ys] = 2 + xs.length + (2 + ys.length) := by simp [sizeF]
  have es1 : sizeF [xs] = 2 + xs.length := by simp [sizeF]
  obtain ⟨k, hk, hf, hs, hn⟩ := framesL_cat [xs, ys] m (by simp; omega) (by omega)
  rw [e, hf]
  rcases k with _ | _ | _ | k
  · have := hn xs rfl
    simp [sizeF] at this; omega
  · right
    have := hn ys rfl
    rw [show ([xs, ys]).take 1 = [xs] from rfl, es1] at this ⊢
    exact ⟨by omega, rfl⟩
  · left
    rw [show ([xs, ys]).take 2 = [xs, ys] from rfl, es] at hs ⊢
    have : m = 2 + xs.length + (2 + ys.length) := by omega
    exact ⟨this, by rw [this]⟩
  · simp at hk
set_option maxHeartbeats 3200000 in
set_option maxRecDepth 100000 in
theorem keeps_ok (A A' : Option Addr) (c c' : Nat) (xs ys : List Int) (keep : Int) (w : World) (hx : RD w w.heap.size 1 A xs.length (xs.map (.int .u8))) (hy : RD w w.heap.size 1 A' ys.length (ys.map (.int .u8))) (hbx : ∀ x ∈ xs, Byte x) (hby : ∀ x ∈ ys, Byte x) (hn1 : A = none → c = 0) (hn2 : A' = none → c' = 0)
    (hl1 : xs.length ≤ 2000) (hl2 : ys.length ≤ 2000) (hkb : -9223372036854775808 ≤ keep ∧ keep ≤ 9223372036854775807) :
    Calls Try.prog 10 #[.slice A xs.length c, .slice A' ys.length c', .int .i64 keep] w fun e w' => e = .returned (.bool true) ∧ Below w.heap.size w w' := by
  obtain ⟨m, hm, hm1, hm2⟩ : ∃ m : Nat, ((keep ≤ 0 ∧ m = 2 + xs.length) ∨ (0 < keep ∧ keep ≤ ((2 + xs.length + (2 + ys.length) - (2 + xs.length) : Nat) : Int) ∧ (m : Int) = (2 + xs.length : Nat) + keep) ∨ (((2 + xs.length + (2 + ys.length) - (2 + xs.length) : Nat) : Int) < keep ∧ 0 < keep ∧ m = 2 + xs.length + (2 + ys.length))) ∧ 2 + xs.length ≤ m ∧ m ≤ 2 + xs.length + (2 + ys.length) := by
    rcases (by omega : keep ≤ 0 ∨ (0 < keep ∧ keep ≤ ((2 + xs.length + (2 + ys.length) - (2 + xs.length) : Nat) : Int)) ∨ (((2 + xs.length + (2 + ys.length) - (2 + xs.length) : Nat) : Int) < keep ∧ 0 < keep)) with h | ⟨h, h'⟩ | ⟨h, h'⟩
    · exact ⟨2 + xs.length, .inl ⟨h, rfl⟩, by omega, by omega⟩
    · exact ⟨2 + xs.length + keep.toNat, .inr (.inl ⟨h, h', by omega⟩), by omega, by omega⟩
    · exact ⟨2 + xs.length + (2 + ys.length), .inr (.inr ⟨h, h', rfl⟩), by omega, by omega⟩
  have hfr := two_frames xs ys m (by omega) (by omega) hm1 hm2
  have hbP : ∀ x ∈ (frameL xs ++ frameL ys).take m, Byte x := fun x hxx => by
    have h := List.mem_of_mem_take hxx
    have e : frameL xs ++ frameL ys = catF [xs, ys] := by simp [catF]
    rw [e] at h
    exact catF_byte [xs, ys] (by simp; exact ⟨hbx, hby⟩) x h
  have HX := Lib.hid hx; have HY := Lib.hid hy; have HBX := Lib.hid hbx; have HBY := Lib.hid hby
  have HN1 := Lib.hid hn1; have HN2 := Lib.hid hn2
  replace hm := Lib.hid hm
  replace hfr := Lib.hid hfr
  replace hbP := Lib.hid hbP
  clear hx hy hbx hby hn1 hn2
  go_enter Try.func10, Try.ntmps10
  go_wp2_with fail
  refine (tnew_any _).mono ?_
  rintro e W1 ⟨g, rfl, hT, hb1⟩
  replace hT := Lib.hid hT
  have hs1 := hb1.size
  go_wp2_with fail
  refine (frame_new A xs.length c w.heap.size xs W1 rfl HN1.out hs1 (HX.out.below hb1) (by omega)).mono ?_
  rintro e W2 ⟨g1, d1, rfl, hr1, hg1, hb2⟩
  have hT2 := hT.out.below hb2
  have hgl := hT.out.blk.lt
  have hb3 := hb1.trans (hb2.mono hs1)
  replace hT2 := Lib.hid hT2
  replace hr1 := Lib.hid hr1
  clear hT hb2 hb1
  go_wp2_with fail
  refine (tappend_ok (some ⟨g1, 0, none⟩) (2 + xs.length) d1 W2.heap.size (frameL xs) hT2.out (.inl (by omega)) (by omega) (fun b o e => by injection e with e; injection e with e1 _; omega) hr1.out (frameL_len xs) (fun h => by cases h) (by simp; omega)).mono ?_
  rintro e W3 ⟨A1, k1, rfl, hT3, hE3⟩
  have hb4 := hb3.trans (hE3.below (B := w.heap.size) hT2.out.low (fun x h => by simp [TRow, Value.ownBlock] at h) hb3.size)
  replace hT3 := Lib.hid hT3
  clear hT2 hE3 hb3 hr1
  go_wp2_with fail
  refine (tsync_ok hT3.out (.inl (by omega)) (by omega)).mono ?_
  rintro e W4 ⟨rfl, hT4, hE4⟩
  have hb5 := hb4.trans (hE4.below (B := w.heap.size) hT3.out.low (fun x h => by cases h) hb4.size)
  replace hT4 := Lib.hid hT4
  clear hT3 hE4 hb4
  have hs5 := hb5.size
  go_wp2_with fail
  refine (frame_new A' ys.length c' w.heap.size ys W4 rfl HN2.out hs5 (HY.out.below hb5) (by omega)).mono ?_
  rintro e W5 ⟨g2, d2, rfl, hr2, hg2, hb6⟩
  have hT5 := hT4.out.below hb6
  have hgl2 := hT4.out.blk.lt
  have hb7 := hb5.trans (hb6.mono hs5)
  replace hT5 := Lib.hid hT5
  replace hr2 := Lib.hid hr2
  clear hT4 hb6 hb5
  have hfl : ([] ++ frameL xs).length = 2 + xs.length := by rw [List.nil_append]; exact frameL_len xs
  go_wp2_with fail
  refine (tappend_ok (some ⟨g2, 0, none⟩) (2 + ys.length) d2 W5.heap.size (frameL ys) hT5.out (.inl (by omega)) (by omega) (fun b o e => by injection e with e; injection e with e1 _; omega) hr2.out (frameL_len ys) (fun h => by cases h) (by rw [hfl]; omega)).mono ?_
  rintro e W6 ⟨A2, k2, rfl, hT6, hE6⟩
  have hb8 := hb7.trans (hE6.below (B := w.heap.size) hT5.out.low (fun x h => (hT5.out.own.lt x h).1) hb7.size)
  replace hT6 := Lib.hid hT6
  replace hfl := Lib.hid hfl
  clear hT5 hE6 hb7 hr2
  have hPl : ([] ++ frameL xs ++ frameL ys).length = 2 + xs.length + (2 + ys.length) := by rw [List.length_append, hfl.out, frameL_len]
  have hPm : (([] ++ frameL xs ++ frameL ys).take m).length = m := by rw [List.length_take, hPl]; omega
  replace hPl := Lib.hid hPl
  replace hPm := Lib.hid hPm
  go_wp2_with fail
  refine (tcrash_any keep (2 + xs.length) m (by rw [hfl.out]) (by rw [hPl.out]; omega) (by rw [hPl.out]; exact hm.out) hT6.out (by rw [hPl.out]; omega) hkb).mono ?_
  rintro e W7 ⟨rfl, hT7, hE7⟩
  have hb9 := hb8.trans (hE7.below (B := w.heap.size) hT6.out.low (fun x h => by cases h) hb8.size)
  have hfr2 := hfr.out
  have hbP2 := hbP.out
  rw [show frameL xs ++ frameL ys = [] ++ frameL xs ++ frameL ys by simp] at hfr2 hbP2
  replace hT7 := Lib.hid hT7
  replace hfr2 := Lib.hid hfr2
  replace hbP2 := Lib.hid hbP2
  clear hT6 hE7 hb8 hfr hbP hm
  generalize ([] ++ frameL xs ++ frameL ys).take m = P at *
  go_wp2_with fail
  refine (tbytes_any hT7.out (by rw [hPm.out]; omega)).mono ?_
  rintro e W8 ⟨A3, k3, rfl, hx8, hb10⟩
  have hT8 := hT7.out.below hb10
  have hb11 := hb9.trans (hb10.mono hb9.size)
  have hR8 := RD.of_own hx8
  have hn8 := (own_room hx8)
  replace hT8 := Lib.hid hT8
  replace hR8 := Lib.hid hR8
  replace hn8 := Lib.hid hn8
  clear hT7 hb10 hb9 hx8
  go_wp2_with fail
  refine (frames_at A3 P.length k3 W8.heap.size P W8 rfl hn8.out.2 (Nat.le_refl _) hR8.out hbP2.out hn8.out.1 (by rw [hPm.out]; omega)).mono ?_
  rintro e W9 ⟨X, d9, rows, rfl, hrs, hxo, hrow, hb12⟩
  have hT9 := hT8.out.below hb12
  have hb13 := hb11.trans (hb12.mono hb11.size)
  have hs13 := hb13.size
  replace hT9 := Lib.hid hT9
  clear hT8 hR8 hb11 hb12
  rw [hPm.out] at *
  have hsf := fun q : Nat => (tsafe_any (hT9.out.drewN q)).mono (R' := fun e w' => e = .returned (.int .i64 (m : Int)) ∧ w' = W9.drewN q) fun _ _ ⟨a, b⟩ => ⟨a, b.symm⟩
  have cva := fun q => str_run (W9.drewN q) _ A xs.length c xs rfl ((HX.out.below hb13).drewN q) HBX.out
  have cvb := fun q => str_run (W9.drewN q) _ A' ys.length c' ys rfl ((HY.out.below hb13).drewN q) HBY.out
  have e0 : ((toS xs).toList == (toS xs).toList) = true := by simp
  have e1 : ((toS xs).toList != (toS xs).toList) = false := by simp
  have e2 : ((toS ys).toList == (toS ys).toList) = true := by simp
  rcases hfr2.out with ⟨hme, hfe⟩ | ⟨hme, hfe⟩
  · have hq : ((m : Int) == (xs.length : Int) + (ys.length : Int) + 4) = true := by simp; omega
    replace hme := Lib.hid hme
    rw [hfe] at hrs ⊢
    obtain ⟨r1, r2, rfl⟩ : ∃ r1 r2, rows = [r1, r2] := by
      have hl : rows.length = 2 := by have := congrArg List.length hrs; simpa using this
      match rows, hl with
      | [r1, r2], _ => exact ⟨r1, r2, rfl⟩
    obtain ⟨v1, z1⟩ := r1
    obtain ⟨v2, z2⟩ := r2
    have hz : z1 = xs ∧ z2 = ys := by simpa using hrs
    obtain ⟨rfl, rfl⟩ := hz
    have hr1 := hrow (v1, z1) (by simp)
    have hr2 := hrow (v2, z2) (by simp)
    dsimp only at hr1 hr2
    obtain ⟨U1, q1, rfl, _⟩ := own_slice hr1
    obtain ⟨U2, q2, rfl, _⟩ := own_slice hr2
    obtain ⟨gx, dx, hX, _⟩ := hxo.form (by simp)
    have hX' : X = some ⟨gx, 0, none⟩ := by injection hX
    subst hX'
    have c0 := hxo.cellAt 0 (by simp)
    have c1 := hxo.cellAt 1 (by simp)
    simp only [List.map_cons, List.getElem?_cons_zero, List.getElem?_cons_succ] at c0 c1
    have cv1 := fun q => str_run (W9.drewN q) _ U1 z1.length q1 z1 rfl ((RD.of_own hr1).drewN q) HBX.out
    have cv2 := fun q => str_run (W9.drewN q) _ U2 z2.length q2 z2 rfl ((RD.of_own hr2).drewN q) HBY.out
    clear hrow hr1 hr2 hxo hrs hfr2 hfe
    simp only [List.length_cons, List.length_nil]
    go_wp2_with fail
    go_quiet ((go_at_call 31; exact Calls.quiet_of_same (hsf _)))
    go_wp2_with fail
    go_quiet (fail)
    go_wp2_with fail
    go_ret
    exact ⟨rfl, bdrewN (bdrewN hb13 _) _⟩
  · have hq : ((m : Int) == (xs.length : Int) + (ys.length : Int) + 4) = false := by simp; omega
    have hq2 : decide ((xs.length : Int) + 2 ≤ (m : Int)) = true := by simp; omega
    have hq3 : decide ((m : Int) < (xs.length : Int) + (ys.length : Int) + 4) = true := by simp; omega
    have hq4 : decide ((m : Int) < 2 + (xs.length : Int)) = false := by simp; omega
    replace hme := Lib.hid hme
    rw [hfe] at hrs ⊢
    obtain ⟨r1, rfl⟩ : ∃ r1, rows = [r1] := List.length_eq_one_iff.1 (by have := congrArg List.length hrs; simpa using this)
    obtain ⟨v1, z1⟩ := r1
    have hz : z1 = xs := by simpa using hrs
    obtain rfl := hz
    have hr1 := hrow (v1, z1) (by simp)
    dsimp only at hr1
    obtain ⟨U1, q1, rfl, _⟩ := own_slice hr1
    obtain ⟨gx, dx, hX, _⟩ := hxo.form (by simp)
    have hX' : X = some ⟨gx, 0, none⟩ := by injection hX
    subst hX'
    have c0 := hxo.cellAt 0 (by simp)
    simp only [List.map_cons, List.getElem?_cons_zero] at c0
    have cv1 := fun q => str_run (W9.drewN q) _ U1 z1.length q1 z1 rfl ((RD.of_own hr1).drewN q) HBX.out
    clear hrow hr1 hxo hrs hfr2 hfe cvb e2
    simp only [List.length_cons, List.length_nil]
    go_wp2_with fail
    go_quiet ((go_at_call 31; exact Calls.quiet_of_same (hsf _)))
    go_wp2_with fail
    go_ret
    exact ⟨rfl, bdrewN hb13 _⟩
theorem byte_of' {x : Int} (h : (Lit.int .u8 x).wf = true) : Byte x := by have := bounds_u8 h; unfold Byte; omega
theorem isRow_nil {k : IntKind} {w : World} {a : Option Addr} {len cap : Nat} {zs : List Int} (h : IsRow k w a len cap zs) : a = none → cap = 0 := by
  rcases h with ⟨rfl, rfl, rfl, rfl⟩ | ⟨x, rfl, _⟩
  · exact fun _ => rfl
  · exact fun h => by cases h
theorem keeps_big (A A' : Option Addr) (n m c c' : Nat) (keep : Int) (w : World) (h : 2000 < n ∨ 2000 < m) :
    Calls Try.prog 10 #[.slice A n c, .slice A' m c', .int .i64 keep] w fun e w' => e = .returned (.bool true) ∧ Below w.heap.size w w' := by
  rcases (by omega : (2000 < n) ∨ (n ≤ 2000 ∧ 2000 < m)) with h1 | h1 <;> clear h
  all_goals
    go_enter Try.func10, Try.ntmps10
    go_wp2
    go_ret
    exact ⟨rfl, Below.refl _ _⟩
theorem tapeKeeps_walk (a0 : Option Addr) (len0 cap0 : Nat) (z0 : List Int) (a1 : Option Addr) (len1 cap1 : Nat) (z1 : List Int) (a2 : Int) (w : World) (w0 : IsRow .u8 w a0 len0 cap0 z0) (w1 : IsRow .u8 w a1 len1 cap1 z1) (w2 : (Lit.int .i64 a2).wf = true) :
    Calls Try.prog 10 #[.slice a0 len0 cap0, .slice a1 len1 cap1, .int .i64 a2] w fun e w' => e = .returned (.bool true) ∧ Below w.heap.size w w' := by
  obtain ⟨xs, rfl, hx, hbx, _⟩ := isRow_rd w0
  obtain ⟨ys, rfl, hy, hby, _⟩ := isRow_rd w1
  have hk := bounds_i64 w2
  by_cases h : 2000 < xs.length ∨ 2000 < ys.length
  · exact keeps_big _ _ _ _ _ _ _ w h
  · exact keeps_ok _ _ _ _ xs ys a2 w hx hy (fun x h => byte_of' (hbx x h)) (fun x h => byte_of' (hby x h)) (isRow_nil w0) (isRow_nil w1) (by omega) (by omega) hk
end Go.Proofs.Ytmnabijelgpfnaa
