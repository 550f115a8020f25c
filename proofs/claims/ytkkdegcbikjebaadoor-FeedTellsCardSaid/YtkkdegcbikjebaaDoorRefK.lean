import Derived.Test.YtkkdegcbikjebaaDoorPlainK
import Derived.Test.YtkkdegcbikjebaaDoorFeed
import Derived.Test.YtkkdegcbikjebaaDoorChk
import Derived.Test.YtkkdegcbikjebaaDoorApp1
namespace Go.Proofs.YtkkdegcbikjebaaDoor
set_option linter.unusedVariables false
open Go.RowKit
theorem rat_in (A : Option Addr) (c B : Nat) (xs : List Int) (i : Nat) (w : World) (h : RB w B A xs) (hx : ∀ x ∈ xs, Byte x) (hi : i < xs.length) :
    Calls Tryd.prog 66 #[.slice A xs.length c, .int .i64 i] w fun e w' => e = .returned (.int .i64 (atV xs i)) ∧ w = w' := by
  obtain ⟨b, off, rfl, _, hc⟩ := h.2 (by omega)
  have hv : xs[i]? = some xs[i] := List.getElem?_eq_getElem hi
  have hcell : w.cell? ⟨b, off + i, none⟩ = some (.int .u8 xs[i]) := by rw [hc i (by omega), List.getElem?_map, hv]; rfl
  have hbd := hx xs[i] (List.getElem_mem hi)
  have hat : atV xs i = xs[i] := by unfold atV; rw [hv]; rfl
  rw [hat]
  generalize xs[i] = x at *
  unfold Byte at hbd
  generalize xs.length = n at *
  clear hv hat hc h
  go_enter Tryd.func66, Tryd.ntmps66
  go_wp2
  go_ret
  exact ⟨rfl, rfl⟩
theorem rat_out (A : Option Addr) (c : Nat) (xs : List Int) (i : Nat) (w : World) (hi : xs.length ≤ i) :
    Calls Tryd.prog 66 #[.slice A xs.length c, .int .i64 i] w fun e w' => e = .returned (.int .i64 (atV xs i)) ∧ w = w' := by
  have hat : atV xs i = -1 := by unfold atV; rw [List.getElem?_eq_none hi]; rfl
  rw [hat]
  generalize xs.length = n at *
  go_enter Tryd.func66, Tryd.ntmps66
  go_wp2
  go_ret
  exact ⟨rfl, rfl⟩
theorem rat_any (A : Option Addr) (c B : Nat) (xs : List Int) (i : Nat) (w : World) (h : RB w B A xs) (hx : ∀ x ∈ xs, Byte x) :
    Calls Tryd.prog 66 #[.slice A xs.length c, .int .i64 i] w fun e w' => e = .returned (.int .i64 (atV xs i)) ∧ w = w' := by
  by_cases hi : i < xs.length
  · exact rat_in A c B xs i w h hx hi
  · exact rat_out A c xs i w (by omega)
theorem rdiff_full (A A' : Option Addr) (n m c c' : Nat) (w : World) (h : 6000 < n ∨ 6000 < m) :
    Calls Tryd.prog 32 #[.slice A n c, .slice A' m c'] w fun e w' => e = .returned (.tuple #[.slice none 0 0, .int .i64 4]) ∧ w = w' := by
  rcases (by omega : (6000 < n) ∨ (n ≤ 6000 ∧ 6000 < m)) with h1 | h1 <;> clear h
  all_goals
    go_enter Tryd.func32, Tryd.ntmps32
    go_wp2
    go_ret2
    exact ⟨rfl, rfl⟩
set_option maxHeartbeats 1600000 in
set_option maxRecDepth 100000 in
theorem rdiff_any (A A' : Option Addr) (c c' B : Nat) (xs ys : List Int) (w : World) (hB : B ≤ w.heap.size) (h : RB w B A xs) (h' : RB w B A' ys) (hx : ∀ x ∈ xs, Byte x) (hy : ∀ x ∈ ys, Byte x) (h1 : xs.length ≤ 6000) (h2 : ys.length ≤ 6000) :
    Calls Tryd.prog 32 #[.slice A xs.length c, .slice A' ys.length c'] w fun e w' => ∃ v, e = .returned (.tuple #[v, .int .i64 0]) ∧ w'.ownsRow w.heap.size 111 3 v (diffL xs ys).length ((diffL xs ys).flatMap chC) ∧ Below w.heap.size w w' := by
  obtain ⟨i0, hi0, hz0, hz1, hz2⟩ := info_parts ch_info
  have H := Lib.hid h; have H' := Lib.hid h'; have HX := Lib.hid hx; have HY := Lib.hid hy; clear h h' hx hy
  have dd1 : decide ((6000 : Int) < (xs.length : Int)) = false := by simp; omega
  have dd2 : decide ((6000 : Int) < (ys.length : Int)) = false := by simp; omega
  go_enter Tryd.func32, Tryd.ntmps32
  go_wp2_with fail
  go_loopw [6, 7, 8, 9] (fun v i _ _ wr => ∃ k : Nat, k ≤ 6000 ∧ i = .int .i64 k ∧ wr.ownsRow w.heap.size 111 3 v (diffN xs ys k).length ((diffN xs ys k).flatMap chC) ∧ Below w.heap.size w wr) (fun _ i _ _ _ => 6000 - (intOf i).toNat)
  case atStart => exact ⟨0, Nat.zero_le _, rfl, World.ownsRow_nil _ _ _ _, Below.refl _ _⟩
  case round =>
    obtain ⟨k, hk, rfl, hown, hb⟩ := hrel
    rcases (by omega : k < xs.length ∨ (xs.length ≤ k ∧ k < ys.length) ∨ (xs.length ≤ k ∧ ys.length ≤ k)) with hc | ⟨hc0, hc⟩ | ⟨hc0, hc⟩
    case' inl => have q1 : decide ((k : Int) < (xs.length : Int)) = true := by simp; omega
    case' inr.inl =>
      have q1 : decide ((k : Int) < (xs.length : Int)) = false := by simp; omega
      have q2 : decide ((k : Int) < (ys.length : Int)) = true := by simp; omega
    rotate_right
    · have q1 : decide ((k : Int) < (xs.length : Int)) = false := by simp; omega
      have q2 : decide ((k : Int) < (ys.length : Int)) = false := by simp; omega
      have e1 := diffN_end xs ys k hc0 hc
      rw [e1] at hown
      replace hown := Lib.hid hown
      replace e1 := Lib.hid e1
      go_wp2_with fail
      go_ret2
      exact ⟨_, rfl, hown.out, hb⟩
    all_goals
      have hN := diffN_len xs ys k
      have Hr : RB wr w.heap.size A xs := (H.out.more hB).below hb
      have Hr' : RB wr w.heap.size A' ys := (H'.out.more hB).below hb
      replace Hr := Lib.hid Hr
      replace Hr' := Lib.hid Hr'
      have hs := hb.size
      by_cases hat : atV xs k = atV ys k
      · have hat2 : (atV xs k != atV ys k) = false := by simp [hat]
        have e1 := diffN_yes xs ys k hat
        replace e1 := Lib.hid e1
        replace hat := Lib.hid hat
        go_wp2_with fail
        refine (rat_any A c w.heap.size xs k _ Hr.out HX.out).mono ?_
        rintro e w' ⟨rfl, rfl⟩
        go_wp2_with fail
        refine (rat_any A' c' w.heap.size ys k _ Hr'.out HY.out).mono ?_
        rintro e w' ⟨rfl, rfl⟩
        go_wp2_with fail
        go_roundw
        case rel => exact ⟨k + 1, by omega, by go_num, by rw [e1.out]; exact hown, hb⟩
        case measure => simp [intOf]; omega
      · have hat2 : (atV xs k != atV ys k) = true := by simp [hat]
        have e1 := diffN_no xs ys k hat
        have e2 : (diffN xs ys (k + 1)).length = (diffN xs ys k).length + 1 := by rw [e1]; simp
        have e3 : (diffN xs ys (k + 1)).flatMap chC = (diffN xs ys k).flatMap chC ++ chC ⟨k, atV xs k, atV ys k⟩ := by rw [e1]; simp
        replace e2 := Lib.hid e2
        replace e3 := Lib.hid e3
        replace hat := Lib.hid hat
        clear e1
        generalize (diffN xs ys k).length = d at *
        generalize (diffN xs ys k).flatMap chC = cs at *
        go_wp2_with fail
        refine (rat_any A c w.heap.size xs k _ Hr.out HX.out).mono ?_
        rintro e w' ⟨rfl, rfl⟩
        go_wp2_with fail
        refine (rat_any A' c' w.heap.size ys k _ Hr'.out HY.out).mono ?_
        rintro e w' ⟨rfl, rfl⟩
        replace hown := Lib.hid hown
        go_wp2_with (at_builtin; refine wpList_app1 rfl (.tmp 39) (.tmp 44) 65 rfl w.heap.size 111 i0 _ 3 24 Tryd.underlying65 hi0 hz0 hz1 hz2 rfl (by decide) (by decide) wr #[.int .i64 k, .int .i64 (atV xs k), .int .i64 (atV ys k)] u6 d cs rfl hown.out rfl rfl rfl (by omega) hs ?_; intro v' w1 hown' hgrow)
        go_roundw
        case rel => exact ⟨k + 1, by omega, by go_num, by rw [e2.out, e3.out]; exact hown', hb.grown hgrow hs (fun g hg => (hown.out.lt g hg).1)⟩
        case measure => simp [intOf]; omega
end Go.Proofs.YtkkdegcbikjebaaDoor
