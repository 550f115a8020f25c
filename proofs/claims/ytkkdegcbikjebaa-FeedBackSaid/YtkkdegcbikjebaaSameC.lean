import Derived.Test.YtkkdegcbikjebaaChk
import Derived.Laws.StructEq
namespace Go.Proofs.Ytkkdegcbikjebaa
set_option linter.unusedVariables false
open Go.RowKit
set_option maxHeartbeats 1600000 in
set_option maxRecDepth 100000 in
theorem changes_eq (A A' : Option Addr) (c c' B : Nat) (L : List Ch) (w : World) (h : RC w B A L) (h' : RC w B A' L) (hL : L.length ≤ 1000000000) (hB : B ≤ w.heap.size) :
    Calls Try.prog 21 #[.slice A L.length c, .slice A' L.length c'] w fun e w' => e = .returned (.bool true) ∧ Below w.heap.size w w' := by
  have H := Lib.hid h
  have H' := Lib.hid h'
  clear h h'
  go_enter Try.func21, Try.ntmps21
  go_wp2_with fail
  go_loopw [5] (fun vi wr => ∃ k : Nat, vi = .int .i64 k ∧ k ≤ L.length ∧ Hid (Below w.heap.size w wr)) (fun vi _ => L.length - (intOf vi).toNat)
  case atStart => exact ⟨0, rfl, Nat.zero_le _, Lib.hid (Below.refl _ _)⟩
  case round =>
    obtain ⟨k, rfl, hk, hb⟩ := hrel
    by_cases hlt : k < L.length
    · have hs := hb.out.size
      have HR : RC wr w.heap.size A L := (H.out.more hB).below hb.out
      have HR' : RC wr w.heap.size A' L := (H'.out.more hB).below hb.out
      obtain ⟨b, off, hA, hbB⟩ := rc_addr HR (by omega)
      obtain ⟨e0, e1, e2⟩ := rc_cell HR hA k hlt
      obtain ⟨b', off', hA', hbB'⟩ := rc_addr HR' (by omega)
      obtain ⟨f0, f1, f2⟩ := rc_cell HR' hA' k hlt
      subst hA
      subst hA'
      have j1 : (k : Int) < (L.length : Int) := by omega
      have j2 : 0 ≤ (k : Int) := by omega
      replace HR := Lib.hid HR
      replace HR' := Lib.hid HR'
      have hlb : b < wr.heap.size := by omega
      have hlb' : b' < wr.heap.size := by omega
      generalize chG L k = cg at *
      obtain ⟨ca, co, cn⟩ := cg
      dsimp only at *
      go_wp2_with fail
      go_quiet (fail)
      go_wp2_with fail
      go_roundw
      case rel => exact ⟨k + 1, by go_num, by omega, Lib.hid (below_drewN hb.out _)⟩
      case measure => simp [intOf]; omega
    · have j1 : ¬ (k : Int) < (L.length : Int) := by omega
      go_wp2_with fail
      go_ret
      exact ⟨rfl, hb.out⟩
end Go.Proofs.Ytkkdegcbikjebaa
