import Derived.Test.YtmnabijelgpfnaaRate
import Derived.RowKit3
namespace Go.Proofs.Ytmnabijelgpfnaa
open Go.ChangeShapes Go.WideShapes Go.RowKit
theorem rate_fact (w : World) : Calls Try.prog 12 #[.int .i64 1000, .int .i64 1000, .int .i64 2] w fun e w' => e = .returned (.tuple #[.int .i64 1016, .int .i64 984, .nilIface]) ∧ w = w' := by
  refine (rate_ok 1000 1000 2 w (by decide) (by decide) (by decide) (by decide) (by decide) (by decide)).mono ?_
  rw [rateD_fact]; exact fun e w' h => h
theorem rate_flip (a b h k : Int) (w : World) (ha : 0 ≤ a) (ha' : a ≤ 4000) (hb : 0 ≤ b) (hb' : b ≤ 4000) (hh : 0 ≤ h) (hh' : h ≤ 2) (hk : k = 2 - h) :
    Calls Try.prog 12 #[.int .i64 b, .int .i64 a, .int .i64 k] w fun e w' => e = .returned (.tuple #[.int .i64 (b - rateD a b h), .int .i64 (a + rateD a b h), .nilIface]) ∧ w = w' := by
  refine (rate_ok b a k w hb hb' ha ha' (by omega) (by omega)).mono ?_
  rw [hk, rateD_flip a b h ha ha' hb hb']
  rw [show b + -rateD a b h = b - rateD a b h by omega, show a - -rateD a b h = a + rateD a b h by omega]
  exact fun e w' h => h
set_option maxHeartbeats 1600000 in
set_option maxRecDepth 100000 in
theorem even_bad (a b h m : Int) (w : World) (ha : a < 0 ∨ 4000 < a ∨ b < 0 ∨ 4000 < b ∨ h < 0 ∨ 2 < h) :
    Calls Try.prog 3 #[.int .i64 a, .int .i64 b, .int .i64 h, .int .i64 m] w fun e w' => e = .returned (.bool true) ∧ w = w' := by
  have hx := ha
  rcases (by omega : (a < 0) ∨ (0 ≤ a ∧ 4000 < a) ∨ ((0 ≤ a ∧ a ≤ 4000) ∧ b < 0) ∨ ((0 ≤ a ∧ a ≤ 4000) ∧ 0 ≤ b ∧ 4000 < b) ∨ ((0 ≤ a ∧ a ≤ 4000) ∧ (0 ≤ b ∧ b ≤ 4000) ∧ h < 0) ∨ ((0 ≤ a ∧ a ≤ 4000) ∧ (0 ≤ b ∧ b ≤ 4000) ∧ 0 ≤ h ∧ 2 < h)) with h | h | h | h | h | h <;> clear ha <;> have hx := Lib.hid hx
  all_goals
    go_enter Try.func3, Try.ntmps3
    go_wp2_with fail
    refine (rate_fact _).mono ?_
    rintro e w' ⟨rfl, rfl⟩
    go_wp2_with fail
    refine (rate_bad _ _ _ _ hx.out).mono ?_
    rintro e w' ⟨rfl, rfl⟩
    go_wp2_with fail
    go_ret
    exact ⟨rfl, rfl⟩
set_option maxHeartbeats 1600000 in
set_option maxRecDepth 100000 in
theorem even_ok0 (a b m : Int) (w : World) (hm : -9223372036854775808 ≤ m ∧ m ≤ 9223372036854775807) (ha : 0 ≤ a) (ha' : a ≤ 4000) (hb : 0 ≤ b) (hb' : b ≤ 4000) :
    Calls Try.prog 3 #[.int .i64 a, .int .i64 b, .int .i64 0, .int .i64 m] w fun e w' => e = .returned (.bool true) ∧ w = w' := by
  have d0 := rateD_bd a b 0 ha ha' hb hb'
  have d1 := rateD_0 a b ha hb'
  have d2 := rateD_2 a b ha' hb
  have R := fun w => rate_ok a b 0 w ha ha' hb hb' (by decide) (by decide)
  have R := Lib.hid R
  have F := fun w => rate_flip a b 0 2 w ha ha' hb hb' (by decide) (by decide) (by decide)
  have F := Lib.hid F
  go_enter Try.func3, Try.ntmps3
  go_wp2_with fail
  refine (rate_fact _).mono ?_
  rintro e w' ⟨rfl, rfl⟩
  go_wp2_with fail
  refine (R.out _).mono ?_
  rintro e w' ⟨rfl, rfl⟩
  go_wp2_with fail
  refine (F.out _).mono ?_
  rintro e w' ⟨rfl, rfl⟩
  rcases (by omega : m < a ∨ (a ≤ m ∧ 4000 < m) ∨ (a ≤ m ∧ m ≤ 4000)) with hm1 | hm1 | hm1
  · go_wp2_with fail
    go_ret
    exact ⟨rfl, rfl⟩
  · go_wp2_with fail
    go_ret
    exact ⟨rfl, rfl⟩
  · have d3 := rateD_anti a b m hm1.1
    have d4 := rateD_bd m b 2 (by omega) hm1.2 hb hb'
    have d5 := rateD_bd a b 2 ha ha' hb hb'
    go_wp2_with fail
    refine (rate_ok _ _ _ _ (by omega) hm1.2 hb hb' (by decide) (by decide)).mono ?_
    rintro e w' ⟨rfl, rfl⟩
    go_wp2_with fail
    refine (rate_ok _ _ _ _ ha ha' hb hb' (by decide) (by decide)).mono ?_
    rintro e w' ⟨rfl, rfl⟩
    go_wp2_with fail
    go_ret
    have e : decide (m + rateD m b 2 - m ≤ a + rateD a b 2 - a) = true := decide_eq_true (by omega)
    rw [e]
    exact ⟨rfl, rfl⟩
set_option maxHeartbeats 1600000 in
set_option maxRecDepth 100000 in
theorem even_ok1 (a b m : Int) (w : World) (hm : -9223372036854775808 ≤ m ∧ m ≤ 9223372036854775807) (ha : 0 ≤ a) (ha' : a ≤ 4000) (hb : 0 ≤ b) (hb' : b ≤ 4000) :
    Calls Try.prog 3 #[.int .i64 a, .int .i64 b, .int .i64 1, .int .i64 m] w fun e w' => e = .returned (.bool true) ∧ w = w' := by
  have d0 := rateD_bd a b 1 ha ha' hb hb'
  have d1 := rateD_0 a b ha hb'
  have d2 := rateD_2 a b ha' hb
  have R := fun w => rate_ok a b 1 w ha ha' hb hb' (by decide) (by decide)
  have R := Lib.hid R
  have F := fun w => rate_flip a b 1 1 w ha ha' hb hb' (by decide) (by decide) (by decide)
  have F := Lib.hid F
  go_enter Try.func3, Try.ntmps3
  go_wp2_with fail
  refine (rate_fact _).mono ?_
  rintro e w' ⟨rfl, rfl⟩
  go_wp2_with fail
  refine (R.out _).mono ?_
  rintro e w' ⟨rfl, rfl⟩
  go_wp2_with fail
  refine (F.out _).mono ?_
  rintro e w' ⟨rfl, rfl⟩
  rcases (by omega : m < a ∨ (a ≤ m ∧ 4000 < m) ∨ (a ≤ m ∧ m ≤ 4000)) with hm1 | hm1 | hm1
  · go_wp2_with fail
    go_ret
    exact ⟨rfl, rfl⟩
  · go_wp2_with fail
    go_ret
    exact ⟨rfl, rfl⟩
  · have d3 := rateD_anti a b m hm1.1
    have d4 := rateD_bd m b 2 (by omega) hm1.2 hb hb'
    have d5 := rateD_bd a b 2 ha ha' hb hb'
    go_wp2_with fail
    refine (rate_ok _ _ _ _ (by omega) hm1.2 hb hb' (by decide) (by decide)).mono ?_
    rintro e w' ⟨rfl, rfl⟩
    go_wp2_with fail
    refine (rate_ok _ _ _ _ ha ha' hb hb' (by decide) (by decide)).mono ?_
    rintro e w' ⟨rfl, rfl⟩
    go_wp2_with fail
    go_ret
    have e : decide (m + rateD m b 2 - m ≤ a + rateD a b 2 - a) = true := decide_eq_true (by omega)
    rw [e]
    exact ⟨rfl, rfl⟩
set_option maxHeartbeats 1600000 in
set_option maxRecDepth 100000 in
theorem even_ok2 (a b m : Int) (w : World) (hm : -9223372036854775808 ≤ m ∧ m ≤ 9223372036854775807) (ha : 0 ≤ a) (ha' : a ≤ 4000) (hb : 0 ≤ b) (hb' : b ≤ 4000) :
    Calls Try.prog 3 #[.int .i64 a, .int .i64 b, .int .i64 2, .int .i64 m] w fun e w' => e = .returned (.bool true) ∧ w = w' := by
  have d0 := rateD_bd a b 2 ha ha' hb hb'
  have d1 := rateD_0 a b ha hb'
  have d2 := rateD_2 a b ha' hb
  have R := fun w => rate_ok a b 2 w ha ha' hb hb' (by decide) (by decide)
  have R := Lib.hid R
  have F := fun w => rate_flip a b 2 0 w ha ha' hb hb' (by decide) (by decide) (by decide)
  have F := Lib.hid F
  go_enter Try.func3, Try.ntmps3
  go_wp2_with fail
  refine (rate_fact _).mono ?_
  rintro e w' ⟨rfl, rfl⟩
  go_wp2_with fail
  refine (R.out _).mono ?_
  rintro e w' ⟨rfl, rfl⟩
  go_wp2_with fail
  refine (F.out _).mono ?_
  rintro e w' ⟨rfl, rfl⟩
  rcases (by omega : m < a ∨ (a ≤ m ∧ 4000 < m) ∨ (a ≤ m ∧ m ≤ 4000)) with hm1 | hm1 | hm1
  · go_wp2_with fail
    go_ret
    exact ⟨rfl, rfl⟩
  · go_wp2_with fail
    go_ret
    exact ⟨rfl, rfl⟩
  · have d3 := rateD_anti a b m hm1.1
    have d4 := rateD_bd m b 2 (by omega) hm1.2 hb hb'
    have d5 := rateD_bd a b 2 ha ha' hb hb'
    go_wp2_with fail
    refine (rate_ok _ _ _ _ (by omega) hm1.2 hb hb' (by decide) (by decide)).mono ?_
    rintro e w' ⟨rfl, rfl⟩
    go_wp2_with fail
    refine (rate_ok _ _ _ _ ha ha' hb hb' (by decide) (by decide)).mono ?_
    rintro e w' ⟨rfl, rfl⟩
    go_wp2_with fail
    go_ret
    have e : decide (m + rateD m b 2 - m ≤ a + rateD a b 2 - a) = true := decide_eq_true (by omega)
    rw [e]
    exact ⟨rfl, rfl⟩
theorem even_all (a b h m : Int) (w : World) (hm : -9223372036854775808 ≤ m ∧ m ≤ 9223372036854775807) :
    Calls Try.prog 3 #[.int .i64 a, .int .i64 b, .int .i64 h, .int .i64 m] w fun e w' => e = .returned (.bool true) ∧ w = w' := by
  by_cases hb : a < 0 ∨ 4000 < a ∨ b < 0 ∨ 4000 < b ∨ h < 0 ∨ 2 < h
  · exact even_bad a b h m w hb
  · rcases (by omega : h = 0 ∨ h = 1 ∨ h = 2) with rfl | rfl | rfl
    · exact even_ok0 a b m w hm (by omega) (by omega) (by omega) (by omega)
    · exact even_ok1 a b m w hm (by omega) (by omega) (by omega) (by omega)
    · exact even_ok2 a b m w hm (by omega) (by omega) (by omega) (by omega)
end Go.Proofs.Ytmnabijelgpfnaa
