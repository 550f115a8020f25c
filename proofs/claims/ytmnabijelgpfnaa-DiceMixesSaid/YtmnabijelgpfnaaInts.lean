import Derived.Test.YtmnabijelgpfnaaRows
import Derived.WalkKit
import Derived.WalkLawsBesides
import Derived.Outline
import Derived.BigQuiet
import Derived.Deep.QuietTactic
import Derived.Lib.Hide
import Derived.Test.YtmnabijelgpfnaaWords
namespace Go.Proofs.Ytmnabijelgpfnaa
set_option linter.unusedVariables false
open Go.RowKit
/-- Are two lists of numbers the same? -/
def eqL (xs ys : List Int) : Bool := decide (xs = ys)
theorem eqL_yes {xs ys : List Int} (h : xs = ys) : eqL xs ys = true := by unfold eqL; simp [h]
theorem eqL_no {xs ys : List Int} (h : ¬ xs = ys) : eqL xs ys = false := by unfold eqL; simp [h]
/-- The numbers that a slice holds. -/
def RI (w : World) (B : Nat) (A : Option Addr) (xs : List Int) : Prop := RD w B 1 A xs.length (xs.map (.int .i64))
theorem RI.cell {w : World} {B b off : Nat} {A : Option Addr} {xs : List Int} (h : RI w B A xs) (hA : A = some ⟨b, off, none⟩) {i : Nat} (hi : i < xs.length) : w.cell? ⟨b, off + i, none⟩ = some (.int .i64 (xs.getD i 0)) := by
  obtain ⟨b', off', e, _, hc⟩ := h.2 (by omega)
  rw [e] at hA
  injection hA with hA
  injection hA with e1 e2
  subst e1; subst e2
  rw [hc i (by omega), List.getElem?_map, List.getD_eq_getElem?_getD, List.getElem?_eq_getElem hi]; rfl
theorem RI.addr {w : World} {B : Nat} {A : Option Addr} {xs : List Int} (h : RI w B A xs) (hn : 0 < xs.length) : ∃ b off, A = some ⟨b, off, none⟩ := by
  obtain ⟨b, off, e, _⟩ := h.2 hn
  exact ⟨b, off, e⟩
theorem take_next (xs ys : List Int) (k : Nat) (h : xs.take k = ys.take k) (h1 : k < xs.length) (h2 : k < ys.length) (he : xs.getD k 0 = ys.getD k 0) : xs.take (k + 1) = ys.take (k + 1) := by
  rw [List.take_succ_eq_append_getElem h1, List.take_succ_eq_append_getElem h2, h]
  rw [List.getD_eq_getElem?_getD, List.getD_eq_getElem?_getD, List.getElem?_eq_getElem h1, List.getElem?_eq_getElem h2] at he
  simp only [Option.getD_some] at he
  rw [he]
theorem ints_len (A A' : Option Addr) (n m c c' : Nat) (w : World) (h : ¬ n = m) :
    Calls Try.prog 25 #[.slice A n c, .slice A' m c'] w fun e w' => e = .returned (.bool false) ∧ w = w' := by
  have h' : ((n : Int) != (m : Int)) = true := by simp; omega
  go_enter Try.func25, Try.ntmps25
  go_wp2_with fail
  go_ret
  exact ⟨rfl, rfl⟩
set_option maxRecDepth 100000 in
theorem ints_any (A A' : Option Addr) (c c' B : Nat) (xs ys : List Int) (w : World) (h : RI w B A xs) (h' : RI w B A' ys) (hm : xs.length ≤ 100000000000000) :
    Calls Try.prog 25 #[.slice A xs.length c, .slice A' ys.length c'] w fun e w' => ∃ q, e = .returned (.bool (eqL xs ys)) ∧ w' = w.drewN q := by
  by_cases hl : xs.length = ys.length
  · have H := Lib.hid h
    have H' := Lib.hid h'
    have hl' : ((xs.length : Int) != (ys.length : Int)) = false := by simp; omega
    have HL := Lib.hid hl
    clear h h' hl
    go_enter Try.func25, Try.ntmps25
    go_wp2_with fail
    go_loopw [5] (fun i wr => ∃ k q : Nat, i = .int .i64 k ∧ k ≤ xs.length ∧ wr = w.drewN q ∧ Hid (xs.take k = ys.take k)) (fun i _ => xs.length - (intOf i).toNat)
    case atStart => exact ⟨0, 0, rfl, Nat.zero_le _, rfl, rfl⟩
    case round =>
      obtain ⟨k, q, rfl, hk, rfl, ht⟩ := hrel
      by_cases hlt : k < xs.length
      · have hlt' : k < ys.length := by rw [← HL.out]; exact hlt
        obtain ⟨b1, o1, rfl⟩ := RI.addr H.out (by omega)
        obtain ⟨b2, o2, rfl⟩ := RI.addr H'.out (by omega)
        have c1 := RI.cell H.out rfl hlt
        have c2 := RI.cell H'.out rfl hlt'
        by_cases he : xs.getD k 0 = ys.getD k 0
        · have hb : (xs.getD k 0 != ys.getD k 0) = false := by rw [he]; simp
          have ht2 := Lib.hid (take_next xs ys k ht.out hlt hlt' he)
          clear he
          generalize xs.getD k 0 = x at *
          generalize ys.getD k 0 = y at *
          go_wp2_with fail
          go_quiet (fail)
          go_wp2_with fail
          go_roundw
          case rel => exact ⟨k + 1, _, by go_num, by omega, rfl, ht2⟩
          case measure => simp [intOf]; omega
        · have hb : (xs.getD k 0 != ys.getD k 0) = true := by rw [bne_iff_ne]; exact he
          have hne : eqL xs ys = false := eqL_no (fun h => he (by rw [h]))
          have hne := Lib.hid hne
          clear he
          generalize xs.getD k 0 = x at *
          generalize ys.getD k 0 = y at *
          go_wp2_with fail
          go_quiet (fail)
          go_wp2_with fail
          go_ret
          exact ⟨_, by rw [hne.out]; rfl, World.drewN_drewN _ _ _⟩
      · have he : eqL xs ys = true := eqL_yes (by
          have := ht.out
          rwa [List.take_of_length_le (by omega), List.take_of_length_le (by rw [← HL.out]; omega)] at this)
        have he := Lib.hid he
        go_wp2_with fail
        go_ret
        exact ⟨_, by rw [he.out]; rfl, rfl⟩
  · refine (ints_len _ _ _ _ _ _ w hl).mono ?_
    rintro e w' ⟨rfl, rfl⟩
    exact ⟨0, by rw [eqL_no (fun h => hl (by rw [h]))], rfl⟩
theorem ints_at (A A' : Option Addr) (n m c c' B : Nat) (xs ys : List Int) (w : World) (hn : n = xs.length) (hm : m = ys.length) (h : RI w B A xs) (h' : RI w B A' ys) (hb : n ≤ 100000000000000) :
    Calls Try.prog 25 #[.slice A n c, .slice A' m c'] w fun e w' => ∃ q, e = .returned (.bool (eqL xs ys)) ∧ w' = w.drewN q := by
  subst hn; subst hm
  exact ints_any A A' c c' B xs ys w h h' hb
end Go.Proofs.Ytmnabijelgpfnaa
