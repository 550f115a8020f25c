import Derived.Test.YtmnabijelgpfnaaDoorRows
import Derived.WalkKit
import Derived.WalkLawsBesides
import Derived.Outline
import Derived.Deep.DeepCutAuto
import Derived.Deep.DeepFit
import Derived.Lib.Hide
import Derived.Test.YtmnabijelgpfnaaDoorPlainA
namespace Go.Proofs.YtmnabijelgpfnaaDoor
set_option linter.unusedVariables false
open Go.ChangeShapes Go.WideShapes Go.RowKit
theorem rate_ok (a b h : Int) (w : World) (ha : 0 ≤ a) (ha' : a ≤ 4000) (hb : 0 ≤ b) (hb' : b ≤ 4000) (hh : 0 ≤ h) (hh' : h ≤ 2) :
    Calls Tryd.prog 7 #[.int .i64 a, .int .i64 b, .int .i64 h] w fun e w' => e = .returned (.tuple #[.int .i64 (a + rateD a b h), .int .i64 (b - rateD a b h), .nilIface]) ∧ w = w' := by
  have t1 := tdiv2_bd (a - b) 2000 (by omega) (by omega)
  go_enter Tryd.func7, Tryd.ntmps7
  go_upto_region 3 with go_in
  go_cut [9] (fun s wx => ∃ e, s = .int .i64 e ∧ 50 ≤ e ∧ e ≤ 950 ∧ Hid (e = rateE a b) ∧ w = wx)
  case first =>
    go_wp2
    all_goals (go_meet; refine ⟨_, rfl, by omega, by omega, Lib.hid (by unfold rateE; omega), rfl⟩)
  case rest =>
    obtain ⟨e, rfl, he, he', He, rfl⟩ := hcut
    have t2 : -50 ≤ ((500 * h - e) * 32).tdiv 1000 ∧ ((500 * h - e) * 32).tdiv 1000 ≤ 50 := rateQ_bd e h he he' hh hh'
    go_upto_region 5 with fail
    go_cut [10] (fun s wx => ∃ d, s = .int .i64 d ∧ -4000 ≤ d ∧ d ≤ 4000 ∧ Hid (d = rateC (rateQ e h) a b) ∧ w = wx)
    case first =>
      go_wp2
      all_goals (go_meet; refine ⟨_, rfl, by omega, by omega, Lib.hid (by unfold rateQ rateC; omega), rfl⟩)
    case rest =>
      obtain ⟨d, rfl, hd, hd', Hd, rfl⟩ := hcut
      go_wp2
      go_ret3
      rw [show rateD a b h = d from by unfold rateD; rw [← He.out, Hd.out]]
      exact ⟨rfl, rfl⟩
theorem rate_bad (a b h : Int) (w : World) (ha : a < 0 ∨ 4000 < a ∨ b < 0 ∨ 4000 < b ∨ h < 0 ∨ 2 < h) :
    Calls Tryd.prog 7 #[.int .i64 a, .int .i64 b, .int .i64 h] w fun e w' => e = .returned (.tuple #[.int .i64 0, .int .i64 0, .iface 57 (.int .i64 1)]) ∧ w = w' := by
  rcases (by omega : (a < 0) ∨ (0 ≤ a ∧ 4000 < a) ∨ ((0 ≤ a ∧ a ≤ 4000) ∧ b < 0) ∨ ((0 ≤ a ∧ a ≤ 4000) ∧ 0 ≤ b ∧ 4000 < b) ∨ ((0 ≤ a ∧ a ≤ 4000) ∧ (0 ≤ b ∧ b ≤ 4000) ∧ h < 0) ∨ ((0 ≤ a ∧ a ≤ 4000) ∧ (0 ≤ b ∧ b ≤ 4000) ∧ 0 ≤ h ∧ 2 < h)) with h | h | h | h | h | h <;> clear ha
  all_goals
    go_enter Tryd.func7, Tryd.ntmps7
    go_wp2
    go_ret3
    exact ⟨rfl, rfl⟩
end Go.Proofs.YtmnabijelgpfnaaDoor
