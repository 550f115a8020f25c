import Derived.Test.YtkgdflecepockaaDoorOrdC
import Derived.Laws.StructEq
import Derived.BigQuiet
import Derived.Deep.QuietTactic
namespace Go.Proofs.YtkgdflecepockaaDoor
set_option linter.unusedVariables false
open Go.RowKit
set_option maxHeartbeats 800000 in
set_option maxRecDepth 100000 in
theorem ordersEq_any (A A' : Option Addr) (c c' B : Nat) (L : List Od) (w : World) (h : RO w B A L) (h' : RO w B A' L) (hL : L.length ≤ 1000000000) (hB : B ≤ w.heap.size) :
    Calls Tryd.prog 28 #[.slice A L.length c, .slice A' L.length c'] w fun e w' => e = .returned (.bool true) ∧ Below w.heap.size w w' := by
  have H := Lib.hid h
  have H' := Lib.hid h'
  clear h h'
  go_enter Tryd.func28, Tryd.ntmps28
  go_wp2_with fail
  go_loopw [5] (fun vi wr => ∃ k : Nat, vi = .int .i64 k ∧ k ≤ L.length ∧ Hid (Below w.heap.size w wr)) (fun vi _ => L.length - (intOf vi).toNat)
  case atStart => exact ⟨0, rfl, Nat.zero_le _, Lib.hid (Below.refl _ _)⟩
  case round =>
    obtain ⟨k, rfl, hk, hb⟩ := hrel
    by_cases hlt : k < L.length
    · have hs := hb.out.size
      obtain ⟨b, o, hA, hbB, e0, e1, e2, e3⟩ := ro_at (H.out.below (hb.out.mono hB)) k hlt
      obtain ⟨b', o', hA', hbB', f0, f1, f2, f3⟩ := ro_at (H'.out.below (hb.out.mono hB)) k hlt
      subst hA
      subst hA'
      have j1 : (k : Int) < (L.length : Int) := by omega
      have j2 : 0 ≤ (k : Int) := by omega
      have hlb : b < wr.heap.size := by omega
      have hlb' : b' < wr.heap.size := by omega
      generalize od L k = x at *
      obtain ⟨x1, x2, x3, x4⟩ := x
      dsimp only at *
      go_wp2_with fail
      go_quiet (fail)
      go_wp2_with fail
      go_roundw
      case rel => exact ⟨k + 1, by go_num, by omega, Lib.hid (bdrewN hb.out _)⟩
      case measure => simp [intOf]; omega
    · have j1 : ¬ (k : Int) < (L.length : Int) := by omega
      go_wp2_with fail
      go_ret
      exact ⟨rfl, hb.out⟩
/-- The orders of one player. -/
def mineL (L : List Od) (p : Int) : List Od := L.filter fun o => o.player == p
theorem mineL_s (L : List Od) (p : Int) (k : Nat) (h : k < L.length) : mineL (L.take (k + 1)) p = mineL (L.take k) p ++ if ((od L k).player == p) = true then [od L k] else [] := by
  unfold mineL
  rw [List.take_succ_eq_append_getElem h, List.filter_append]
  have : od L k = L[k] := by unfold od; rw [List.getD_eq_getElem?_getD, List.getElem?_eq_getElem h]; rfl
  rw [this]
  by_cases g : (L[k].player == p) = true <;> simp [g]
theorem mineL_len (L : List Od) (p : Int) (k : Nat) : (mineL (L.take k) p).length ≤ k := Nat.le_trans (List.length_filter_le _ _) (List.length_take_le _ _)
end Go.Proofs.YtkgdflecepockaaDoor
