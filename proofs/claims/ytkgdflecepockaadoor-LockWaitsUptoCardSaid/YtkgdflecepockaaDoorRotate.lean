import Derived.Test.YtkgdflecepockaaDoorSwapR
namespace Go.Proofs.YtkgdflecepockaaDoor
set_option linter.unusedVariables false
open Go.RowKit Go.Sort
set_option maxHeartbeats 1600000 in
set_option maxRecDepth 100000 in
theorem rotate_any (a m b cap blk off : Nat) (f : Value) (L : List Od) (t : Nat → Nat) (w0 w : World) (h : SRow w0 w blk off L t) (ham : a < m) (hmb : m < b) (hb : b ≤ L.length) (hl : L.length ≤ 1000) :
    Calls Tryd.prog 99 #[.slice (some ⟨blk, off, none⟩) L.length cap, .int .i64 a, .int .i64 m, .int .i64 b, f] w fun e w' => e = .returned (.tuple #[]) ∧ SRow w0 w' blk off L (Srt.rot t a m b) := by
  have hR := Srt.Rot.start t a m b (by omega) (by omega)
  generalize Srt.rot t a m b = T at *
  replace h := Lib.hid h
  replace hR := Lib.hid hR
  have e1 : (m : Int) - (a : Int) = ((m - a : Nat) : Int) := by omega
  have e2 : (b : Int) - (m : Int) = ((b - m : Nat) : Int) := by omega
  replace e1 := Lib.hid e1
  replace e2 := Lib.hid e2
  go_enter Tryd.func99, Tryd.ntmps99
  go_wp2_with fail
  go_loopw [10, 11] (fun vi vj wr => ∃ i j : Nat, ∃ t', vi = .int .i64 i ∧ vj = .int .i64 j ∧ 0 < i ∧ 0 < j ∧ i ≤ m - a ∧ j ≤ b - m ∧ Hid (SRow w0 wr blk off L t') ∧ Hid (Srt.Rot T t' m i j)) (fun vi vj _ => (intOf vi).toNat + (intOf vj).toNat)
  case atStart => exact ⟨m - a, b - m, t, by rw [e1.out], by rw [e2.out], by omega, by omega, by omega, by omega, h, hR⟩
  case round =>
    obtain ⟨i, j, t', rfl, rfl, hi, hj, hia, hjb, hr, hT⟩ := hrel
    have ei : ((m : Int) - (i : Int)) = ((m - i : Nat) : Int) := by omega
    rcases Nat.lt_trichotomy i j with hlt | heq | hgt
    · have q1 : ((i : Int) != (j : Int)) = true := by rw [bne_iff_ne]; omega
      have q2 : decide ((j : Int) < (i : Int)) = false := decide_eq_false (by omega)
      have ej : ((m : Int) + (j : Int) - (i : Int)) = ((m + j - i : Nat) : Int) := by omega
      have en : (j : Int) - (i : Int) = ((j - i : Nat) : Int) := by omega
      replace ei := Lib.hid ei
      replace ej := Lib.hid ej
      replace en := Lib.hid en
      go_wp2_with fail
      rw [ei.out, ej.out]
      refine (swapr_any (m - i) (m + j - i) i cap blk off f L t' w0 _ hr.out (by omega) (by omega) hl).mono ?_
      rintro e w' ⟨rfl, hr2⟩
      replace hr2 := Lib.hid hr2
      go_wp2_with fail
      go_roundw
      case rel => exact ⟨i, j - i, _, rfl, by rw [en.out], by omega, by omega, by omega, by omega, hr2, Lib.hid (hT.out.right (by omega) hlt)⟩
      case measure => simp [intOf]; omega
    · subst heq
      have q1 : ((i : Int) != (i : Int)) = false := by simp
      replace ei := Lib.hid ei
      go_wp2_with fail
      rw [ei.out]
      refine (swapr_any (m - i) m i cap blk off f L t' w0 _ hr.out (by omega) (by omega) hl).mono ?_
      rintro e w' ⟨rfl, hr2⟩
      rw [hT.out.last (by omega)] at hr2
      replace hr2 := Lib.hid hr2
      go_wp2_with fail
      go_end0
      exact ⟨rfl, hr2.out⟩
    · have q1 : ((i : Int) != (j : Int)) = true := by rw [bne_iff_ne]; omega
      have q2 : decide ((j : Int) < (i : Int)) = true := decide_eq_true (by omega)
      have en : (i : Int) - (j : Int) = ((i - j : Nat) : Int) := by omega
      replace ei := Lib.hid ei
      replace en := Lib.hid en
      go_wp2_with fail
      rw [ei.out]
      refine (swapr_any (m - i) m j cap blk off f L t' w0 _ hr.out (by omega) (by omega) hl).mono ?_
      rintro e w' ⟨rfl, hr2⟩
      replace hr2 := Lib.hid hr2
      go_wp2_with fail
      go_roundw
      case rel => exact ⟨i - j, j, _, by rw [en.out], rfl, by omega, by omega, by omega, by omega, hr2, Lib.hid (hT.out.left (by omega) hgt)⟩
      case measure => simp [intOf]; omega
end Go.Proofs.YtkgdflecepockaaDoor
