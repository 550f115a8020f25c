import Derived.Test.YtkgkpggfoieioaaDoorKindF
import Derived.Deep.QuietTactic
import Derived.BigQuiet
import Derived.StillTailTactics
namespace Go.Proofs.YtkgkpggfoieioaaDoor
set_option linter.unusedVariables false
open Go.RowKit
set_option maxRecDepth 100000 in
theorem ctnK_any (f : Nat) (cap : Value) (p : GK → Bool) (A : Option Addr) (c B : Nat) (L : List GK) (w : World) (h : RK w B A L) (hB : B ≤ w.heap.size) (hl : L.length ≤ 1000000000)
    (he : ∀ args w, (callFunc f args).run Tryd.prog w = .ok (.enter f args) w)
    (law : ∀ x, x ∈ L → ∀ wz, Below w.heap.size w wz → Calls Tryd.prog f #[kV x, cap] wz fun e w' => e = .returned (.bool (p x)) ∧ Below wz.heap.size wz w') :
    Calls Tryd.prog 105 #[.slice A L.length c, .func (.func f) #[] #[cap]] w fun e w' => e = .returned (.bool (L.any p)) ∧ Below w.heap.size w w' := by
  have hi := idxK_any f cap p A c B L w h hB hl he law
  have h1 := first_ge p L
  have h2 := first_any p L
  clear h law
  generalize firstI p L = r at *
  replace hi := Lib.hid hi
  replace h2 := Lib.hid h2
  go_enter Tryd.func105, Tryd.ntmps105
  go_wp2_with fail
  refine hi.out.mono ?_
  rintro e w' ⟨rfl, hbw⟩
  replace hbw := Lib.hid hbw
  go_wp2_with fail
  go_ret
  exact ⟨by rw [← h2.out]; rfl, hbw.out⟩
/-- The closure of the names. -/
theorem kname_any (x : GK) (nm : ByteArray) (kb : Nat) (w : World) (hc : w.cell? ⟨kb, 0, none⟩ = some (.string nm)) (hb : kb < w.heap.size) :
    Calls Tryd.prog 106 #[kV x, .pointer (some ⟨kb, 0, none⟩)] w fun e w' => e = .returned (.bool (x.name.toList == nm.toList)) ∧ Below w.heap.size w w' := by
  go_enter Tryd.func106, Tryd.ntmps106
  go_wp2_with fail
  go_ret
  exact ⟨rfl, (Below.refl _ _).alloc (Nat.le_refl _) _⟩
theorem knum_any (n : Int) (b o : Nat) (w : World) (hc : w.cell? ⟨b, o, none⟩ = some (.int .i64 n)) :
    Calls Tryd.prog 109 #[.pointer (some ⟨b, o, none⟩)] w fun e w' => e = .returned (.bool (badN n)) ∧ w = w' := by
  unfold badN
  by_cases h1 : n < 0
  · rw [decide_eq_true h1]
    go_enter Tryd.func109, Tryd.ntmps109
    go_wp2_with fail
    go_ret
    exact ⟨by simp, rfl⟩
  · have d1 : decide (n < 0) = false := decide_eq_false h1
    rw [d1]
    go_enter Tryd.func109, Tryd.ntmps109
    go_wp2_with fail
    go_ret
    exact ⟨by simp, rfl⟩
set_option maxRecDepth 100000 in
theorem numbers_any (kb : Nat) (w : World) :
    Calls Tryd.prog 108 #[.pointer (some ⟨kb, 0, none⟩)] w fun e w' => e = .returned (.slice (some ⟨w.heap.size, 0, none⟩) 8 8) ∧ Blk w' w.heap.size 146 #[.pointer (some ⟨kb, 1, none⟩), .pointer (some ⟨kb, 2, none⟩), .pointer (some ⟨kb, 3, none⟩), .pointer (some ⟨kb, 4, none⟩), .pointer (some ⟨kb, 5, none⟩), .pointer (some ⟨kb, 6, none⟩), .pointer (some ⟨kb, 7, none⟩), .pointer (some ⟨kb, 8, none⟩)] ∧ Below w.heap.size w w' := by
  go_enter Tryd.func108, Tryd.ntmps108
  go_wp2_with fail
  go_still_tail 24, (by kernel_rfl)
  go_wp2_with fail
  go_ret
  exact ⟨rfl, Blk.new _ _ _, bdrewN ((Below.refl _ _).alloc (Nat.le_refl _) _) 1⟩
/-- The pointers, and the numbers behind them. -/
theorem ptr_cells {w : World} {sb kb : Nat} {k : GK} (hs : Blk w sb 146 #[.pointer (some ⟨kb, 1, none⟩), .pointer (some ⟨kb, 2, none⟩), .pointer (some ⟨kb, 3, none⟩), .pointer (some ⟨kb, 4, none⟩), .pointer (some ⟨kb, 5, none⟩), .pointer (some ⟨kb, 6, none⟩), .pointer (some ⟨kb, 7, none⟩), .pointer (some ⟨kb, 8, none⟩)]) (hk : Blk w kb 31 (kC k).toArray) (j : Nat) (hj : j < 8) :
    w.cell? ⟨sb, j, none⟩ = some (.pointer (some ⟨kb, j + 1, none⟩)) ∧ ∃ n, (numK k)[j]? = some n ∧ w.cell? ⟨kb, j + 1, none⟩ = some (.int .i64 n) := by
  rcases (by omega : j = 0 ∨ j = 1 ∨ j = 2 ∨ j = 3 ∨ j = 4 ∨ j = 5 ∨ j = 6 ∨ j = 7) with rfl | rfl | rfl | rfl | rfl | rfl | rfl | rfl
  · exact ⟨hs.cell 0, _, rfl, hk.cell 1⟩
  · exact ⟨hs.cell 1, _, rfl, hk.cell 2⟩
  · exact ⟨hs.cell 2, _, rfl, hk.cell 3⟩
  · exact ⟨hs.cell 3, _, rfl, hk.cell 4⟩
  · exact ⟨hs.cell 4, _, rfl, hk.cell 5⟩
  · exact ⟨hs.cell 5, _, rfl, hk.cell 6⟩
  · exact ⟨hs.cell 6, _, rfl, hk.cell 7⟩
  · exact ⟨hs.cell 7, _, rfl, hk.cell 8⟩
set_option maxRecDepth 100000 in
theorem idxN_any (sb kb : Nat) (k : GK) (w : World) (hs : Blk w sb 146 #[.pointer (some ⟨kb, 1, none⟩), .pointer (some ⟨kb, 2, none⟩), .pointer (some ⟨kb, 3, none⟩), .pointer (some ⟨kb, 4, none⟩), .pointer (some ⟨kb, 5, none⟩), .pointer (some ⟨kb, 6, none⟩), .pointer (some ⟨kb, 7, none⟩), .pointer (some ⟨kb, 8, none⟩)]) (hk : Blk w kb 31 (kC k).toArray) :
    Calls Tryd.prog 141 #[.slice (some ⟨sb, 0, none⟩) 8 8, .func (.func 109) #[] #[]] w fun e w' => e = .returned (.int .i64 (firstI badN (numK k))) ∧ w = w' := by
  have hsl := hs.lt
  replace hs := Lib.hid hs
  replace hk := Lib.hid hk
  go_enter Tryd.func141, Tryd.ntmps141
  go_wp2_with fail
  go_loop [5, 8] (fun _ i => ∃ j : Nat, j ≤ 8 ∧ i = .int .i64 j ∧ Hid (∀ y ∈ (numK k).take j, badN y = false)) (fun _ i => 8 - (intOf i).toNat)
  case atStart => exact ⟨0, by omega, rfl, Lib.hid (by simp)⟩
  case round =>
    obtain ⟨j, hj, rfl, hK⟩ := hrel
    by_cases hlt : j < 8
    · have i1 : (j : Int) < 8 := by omega
      obtain ⟨c0, n, hn, c1⟩ := ptr_cells hs.out hk.out j hlt
      have hlw := knum_any n kb (j + 1) w c1
      have hfa := first_at badN (numK k) j n hn
      have htn := take_no badN (numK k) j n hn hK.out
      replace hlw := Lib.hid hlw
      replace hn := Lib.hid hn
      replace hfa := Lib.hid hfa
      replace htn := Lib.hid htn
      replace c1 := Lib.hid c1
      go_wp2_with fail
      refine hlw.out.mono ?_
      rintro e w' ⟨rfl, rfl⟩
      cases hpx : badN n with
      | true =>
        have hf := hfa.out hpx hK.out
        replace hf := Lib.hid hf
        replace hpx := Lib.hid hpx
        go_wp2_with fail
        go_ret
        exact ⟨by rw [hf.out]; rfl, rfl⟩
      | false =>
        have hq := Lib.hid (htn.out hpx)
        replace hpx := Lib.hid hpx
        go_wp2_with fail
        go_round
        case rel => exact ⟨j + 1, by omega, by go_num, hq⟩
        case measure => simp [intOf]; omega
    · have i1 : ¬ (j : Int) < 8 := by omega
      have hf := first_no badN (numK k) (by have := hK.out; rwa [List.take_of_length_le (by simp [numK]; omega)] at this)
      replace hf := Lib.hid hf
      go_wp2_with fail
      go_ret
      exact ⟨by rw [hf.out]; rfl, rfl⟩
set_option maxRecDepth 100000 in
theorem ctnN_any (sb kb : Nat) (k : GK) (w : World) (hs : Blk w sb 146 #[.pointer (some ⟨kb, 1, none⟩), .pointer (some ⟨kb, 2, none⟩), .pointer (some ⟨kb, 3, none⟩), .pointer (some ⟨kb, 4, none⟩), .pointer (some ⟨kb, 5, none⟩), .pointer (some ⟨kb, 6, none⟩), .pointer (some ⟨kb, 7, none⟩), .pointer (some ⟨kb, 8, none⟩)]) (hk : Blk w kb 31 (kC k).toArray) :
    Calls Tryd.prog 107 #[.slice (some ⟨sb, 0, none⟩) 8 8, .func (.func 109) #[] #[]] w fun e w' => e = .returned (.bool (numsB k)) ∧ w = w' := by
  have hi := idxN_any sb kb k w hs hk
  have h1 := first_ge badN (numK k)
  have h2 := first_any badN (numK k)
  have h3 : numsB k = (numK k).any badN := rfl
  rw [← h3] at h2
  clear hs hk h3
  generalize firstI badN (numK k) = r at *
  replace hi := Lib.hid hi
  replace h2 := Lib.hid h2
  go_enter Tryd.func107, Tryd.ntmps107
  go_wp2_with fail
  refine hi.out.mono ?_
  rintro e w' ⟨rfl, rfl⟩
  go_wp2_with fail
  go_ret
  exact ⟨by rw [← h2.out]; rfl, rfl⟩
end Go.Proofs.YtkgkpggfoieioaaDoor
