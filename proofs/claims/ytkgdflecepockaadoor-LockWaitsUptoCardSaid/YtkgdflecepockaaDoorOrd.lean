import Derived.Test.YtkgdflecepockaaDoorPlainLast
import Derived.Test.YtkgdflecepockaaDoorWords
import Derived.Test.YtkgdflecepockaaDoorRows
import Derived.Test.YtkgdflecepockaaDoorSortRow
import Derived.WalkKit
import Derived.IntWalk
namespace Go.Proofs.YtkgdflecepockaaDoor
set_option linter.unusedVariables false
open Go.RowKit
def oErr (k : Int) : Value := if k = 0 then .nilIface else .iface 80 (.int .i64 k)
/-- The fault of an order, of orders. -/
def ordE (o : Od) : Int := if OdOk o then 0 else 1
def ordsE (L : List Od) : Int := if 60 < L.length then 4 else if ∀ o ∈ L, OdOk o then 0 else 1
theorem numO_ok (n : Int) (w : World) (h : 0 ≤ n ∧ n ≤ 1000000) : Calls Tryd.prog 74 #[.int .i64 n] w fun e w' => e = .returned (.bool true) ∧ w = w' := by
  obtain ⟨h1, h2⟩ := h
  go_enter Tryd.func74, Tryd.ntmps74
  go_wp2_with fail
  go_ret
  exact ⟨by simp <;> omega, rfl⟩
theorem numO_no (n : Int) (w : World) (h : n < 0 ∨ 1000000 < n) : Calls Tryd.prog 74 #[.int .i64 n] w fun e w' => e = .returned (.bool false) ∧ w = w' := by
  rcases (by omega : n < 0 ∨ (0 ≤ n ∧ 1000000 < n)) with h1 | ⟨h1, h2⟩
  · clear h
    go_enter Tryd.func74, Tryd.ntmps74
    go_wp2_with fail
    go_ret
    exact ⟨by simp <;> omega, rfl⟩
  · clear h
    go_enter Tryd.func74, Tryd.ntmps74
    go_wp2_with fail
    go_ret
    exact ⟨by simp <;> omega, rfl⟩
set_option maxHeartbeats 1600000 in
set_option maxRecDepth 100000 in
theorem order_ok (p u x g : Int) (w : World) (h : OdOk ⟨p, u, x, g⟩) : Calls Tryd.prog 56 #[.agg #[.int .i64 p, .int .i64 u, .int .i64 x, .int .i64 g]] w fun e w' => e = .returned .nilIface ∧ Below w.heap.size w w' := by
  obtain ⟨h1, h2, h3, h4, h5, h6, h7, h8, h9⟩ := h
  dsimp only at h1 h2 h3 h4 h5 h6 h7 h8 h9
  have b1 : decide (p < 0) = false := decide_eq_false (by omega)
  have b2 : decide (4 ≤ p) = false := decide_eq_false (by omega)
  have b3 : decide (x < 0) = false := decide_eq_false (by omega)
  have b4 : decide (3 < x) = false := decide_eq_false (by omega)
  by_cases hx : x = 0
  · have hg := h9 hx
    subst hx; subst hg
    clear h9
    go_enter Tryd.func56, Tryd.ntmps56
    go_wp2_with fail
    refine (numO_ok _ _ ⟨h3, h4⟩).mono ?_
    rintro e w' ⟨rfl, rfl⟩
    go_wp2_with fail
    refine (numO_ok _ _ ⟨h5, h6⟩).mono ?_
    rintro e w' ⟨rfl, rfl⟩
    go_wp2_with fail
    go_ret
    exact ⟨rfl, (Below.refl _ _).alloc (Nat.le_refl _) _⟩
  · have b5 : (x == 0) = false := by simp [hx]
    clear h9
    go_enter Tryd.func56, Tryd.ntmps56
    go_wp2_with fail
    refine (numO_ok _ _ ⟨h3, h4⟩).mono ?_
    rintro e w' ⟨rfl, rfl⟩
    go_wp2_with fail
    refine (numO_ok _ _ ⟨h5, h6⟩).mono ?_
    rintro e w' ⟨rfl, rfl⟩
    go_wp2_with fail
    go_ret
    exact ⟨rfl, (Below.refl _ _).alloc (Nat.le_refl _) _⟩
set_option maxHeartbeats 1600000 in
set_option maxRecDepth 100000 in
theorem order_no (p u x g : Int) (w : World) (h : ¬ OdOk ⟨p, u, x, g⟩) : Calls Tryd.prog 56 #[.agg #[.int .i64 p, .int .i64 u, .int .i64 x, .int .i64 g]] w fun e w' => e = .returned (.iface 80 (.int .i64 1)) ∧ Below w.heap.size w w' := by
  unfold OdOk at h
  dsimp only at h
  rcases Int.lt_or_le p 0 with h1 | h1
  · clear h
    have b1 : decide (p < 0) = true := decide_eq_true h1
    go_enter Tryd.func56, Tryd.ntmps56
    go_wp2_with fail
    go_ret
    exact ⟨rfl, (Below.refl _ _).alloc (Nat.le_refl _) _⟩
  have b1 : decide (p < 0) = false := decide_eq_false (by omega)
  rcases Int.lt_or_le 3 p with h2 | h2
  · clear h
    have b2 : decide (4 ≤ p) = true := decide_eq_true (by omega)
    go_enter Tryd.func56, Tryd.ntmps56
    go_wp2_with fail
    go_ret
    exact ⟨rfl, (Below.refl _ _).alloc (Nat.le_refl _) _⟩
  have b2 : decide (4 ≤ p) = false := decide_eq_false (by omega)
  by_cases h3 : u < 0 ∨ 1000000 < u
  · clear h
    replace h3 := Lib.hid h3
    go_enter Tryd.func56, Tryd.ntmps56
    go_wp2_with fail
    refine (numO_no _ _ h3.out).mono ?_
    rintro e w' ⟨rfl, rfl⟩
    go_wp2_with fail
    go_ret
    exact ⟨rfl, (Below.refl _ _).alloc (Nat.le_refl _) _⟩
  have u1 : 0 ≤ u ∧ u ≤ 1000000 := by omega
  clear h3
  replace u1 := Lib.hid u1
  by_cases h3 : g < 0 ∨ 1000000 < g
  · clear h
    replace h3 := Lib.hid h3
    go_enter Tryd.func56, Tryd.ntmps56
    go_wp2_with fail
    refine (numO_ok _ _ u1.out).mono ?_
    rintro e w' ⟨rfl, rfl⟩
    go_wp2_with fail
    refine (numO_no _ _ h3.out).mono ?_
    rintro e w' ⟨rfl, rfl⟩
    go_wp2_with fail
    go_ret
    exact ⟨rfl, (Below.refl _ _).alloc (Nat.le_refl _) _⟩
  have g1 : 0 ≤ g ∧ g ≤ 1000000 := by omega
  clear h3
  rcases Int.lt_or_le x 0 with h4 | h4
  · clear h
    replace g1 := Lib.hid g1
    have b3 : decide (x < 0) = true := decide_eq_true h4
    go_enter Tryd.func56, Tryd.ntmps56
    go_wp2_with fail
    refine (numO_ok _ _ u1.out).mono ?_
    rintro e w' ⟨rfl, rfl⟩
    go_wp2_with fail
    refine (numO_ok _ _ g1.out).mono ?_
    rintro e w' ⟨rfl, rfl⟩
    go_wp2_with fail
    go_ret
    exact ⟨rfl, (Below.refl _ _).alloc (Nat.le_refl _) _⟩
  have b3 : decide (x < 0) = false := decide_eq_false (by omega)
  rcases Int.lt_or_le 3 x with h5 | h5
  · clear h
    replace g1 := Lib.hid g1
    have b4 : decide (3 < x) = true := decide_eq_true h5
    go_enter Tryd.func56, Tryd.ntmps56
    go_wp2_with fail
    refine (numO_ok _ _ u1.out).mono ?_
    rintro e w' ⟨rfl, rfl⟩
    go_wp2_with fail
    refine (numO_ok _ _ g1.out).mono ?_
    rintro e w' ⟨rfl, rfl⟩
    go_wp2_with fail
    go_ret
    exact ⟨rfl, (Below.refl _ _).alloc (Nat.le_refl _) _⟩
  have b4 : decide (3 < x) = false := decide_eq_false (by omega)
  have hx : x = 0 ∧ g ≠ 0 := by
    have := u1.out
    by_cases e1 : x = 0
    · refine ⟨e1, fun e2 => h ?_⟩
      subst e1; subst e2; omega
    · exfalso; exact h (by omega)
  obtain ⟨rfl, hg⟩ := hx
  have b5 : (g != 0) = true := by rw [bne_iff_ne]; exact hg
  clear h hg
  replace g1 := Lib.hid g1
  go_enter Tryd.func56, Tryd.ntmps56
  go_wp2_with fail
  refine (numO_ok _ _ u1.out).mono ?_
  rintro e w' ⟨rfl, rfl⟩
  go_wp2_with fail
  refine (numO_ok _ _ g1.out).mono ?_
  rintro e w' ⟨rfl, rfl⟩
  go_wp2_with fail
  go_ret
  exact ⟨rfl, (Below.refl _ _).alloc (Nat.le_refl _) _⟩
end Go.Proofs.YtkgdflecepockaaDoor
