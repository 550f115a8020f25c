import Derived.Test.YtkgkpggfoieioaaDoorRows
import Derived.WalkKit
import Derived.WalkLawsBesides
import Derived.Outline
import Derived.BigQuiet
import Derived.Deep.QuietTactic
import Derived.Lib.Hide
import Derived.Test.YtkgkpggfoieioaaDoorRI
namespace Go.Proofs.YtkgkpggfoieioaaDoor
set_option linter.unusedVariables false
open Go.RowKit
theorem ints_len (A A' : Option Addr) (n m c c' : Nat) (w : World) (h : ¬ n = m) :
    Calls Tryd.prog 37 #[.slice A n c, .slice A' m c'] w fun e w' => e = .returned (.bool false) ∧ w = w' := by
  have h' : ((n : Int) != (m : Int)) = true := by simp; omega
  go_enter Tryd.func37, Tryd.ntmps37
  go_wp2_with fail
  go_ret
  exact ⟨rfl, rfl⟩
set_option maxRecDepth 100000 in
theorem ints_any (A A' : Option Addr) (c c' B : Nat) (xs ys : List Int) (w : World) (h : RI w B A xs) (h' : RI w B A' ys) (hm : xs.length ≤ 100000000000000) :
    Calls Tryd.prog 37 #[.slice A xs.length c, .slice A' ys.length c'] w fun e w' => ∃ q, e = .returned (.bool (eqL xs ys)) ∧ w' = w.drewN q := by
  by_cases hl : xs.length = ys.length
  · have H := Lib.hid h
    have H' := Lib.hid h'
    have hl' : ((xs.length : Int) != (ys.length : Int)) = false := by simp; omega
    have HL := Lib.hid hl
    clear h h' hl
    go_enter Tryd.func37, Tryd.ntmps37
    go_wp2_with fail
    go_loopw [5] (fun i wr => ∃ k q : Nat, i = .int .i64 k ∧ k ≤ xs.length ∧ wr = w.drewN q ∧ Hid (xs.take k = ys.take k)) (fun i _ => xs.length - (intOf i).toNat)
    case atStart => exact ⟨0, 0, rfl, Nat.zero_le _, rfl, rfl⟩
    case round =>
      obtain ⟨k, q, rfl, hk, rfl, ht⟩ := hrel
      by_cases hlt : k < xs.length
      · have hlt' : k < ys.length := by rw [← HL.out]; exact hlt
        obtain ⟨b1, o1, rfl⟩ := RI.addr H.out (by omega)
        obtain ⟨b2, o2, rfl⟩ := RI.addr H'.out (by omega)
        have c1 := RI.cell H.out rfl hlt
        have c2 := RI.cell H'.out rfl hlt'
        by_cases he : xs.getD k 0 = ys.getD k 0
        · have hb : (xs.getD k 0 != ys.getD k 0) = false := by rw [he]; simp
          have ht2 := Lib.hid (take_next xs ys k ht.out hlt hlt' he)
          clear he
          generalize xs.getD k 0 = x at *
          generalize ys.getD k 0 = y at *
          go_wp2_with fail
          go_quiet (fail)
          go_wp2_with fail
          go_roundw
          case rel => exact ⟨k + 1, _, by go_num, by omega, rfl, ht2⟩
          case measure => simp [intOf]; omega
        · have hb : (xs.getD k 0 != ys.getD k 0) = true := by rw [bne_iff_ne]; exact he
          have hne : eqL xs ys = false := eqL_no (fun h => he (by rw [h]))
          replace hne := Lib.hid hne
          clear he
          generalize xs.getD k 0 = x at *
          generalize ys.getD k 0 = y at *
          go_wp2_with fail
          go_quiet (fail)
          go_wp2_with fail
          go_ret
          exact ⟨_, by rw [hne.out]; rfl, World.drewN_drewN _ _ _⟩
      · have he : eqL xs ys = true := eqL_yes (by
          have := ht.out
          rwa [List.take_of_length_le (by omega), List.take_of_length_le (by rw [← HL.out]; omega)] at this)
        replace he := Lib.hid he
        go_wp2_with fail
        go_ret
        exact ⟨_, by rw [he.out]; rfl, rfl⟩
  · refine (ints_len _ _ _ _ _ _ w hl).mono ?_
    rintro e w' ⟨rfl, rfl⟩
    exact ⟨0, by rw [eqL_no (fun h => hl (by rw [h]))], rfl⟩
theorem ints_at (A A' : Option Addr) (n m c c' B : Nat) (xs ys : List Int) (w : World) (hn : n = xs.length) (hm : m = ys.length) (h : RI w B A xs) (h' : RI w B A' ys) (hb : n ≤ 100000000000000) :
    Calls Tryd.prog 37 #[.slice A n c, .slice A' m c'] w fun e w' => ∃ q, e = .returned (.bool (eqL xs ys)) ∧ w' = w.drewN q := by
  subst hn; subst hm
  exact ints_any A A' c c' B xs ys w h h' hb
end Go.Proofs.YtkgkpggfoieioaaDoor
