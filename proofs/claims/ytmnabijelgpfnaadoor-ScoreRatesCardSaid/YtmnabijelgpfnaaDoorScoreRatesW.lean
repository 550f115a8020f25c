import Derived.Test.YtmnabijelgpfnaaDoorRefRate
import Derived.Test.YtmnabijelgpfnaaDoorTold
namespace Go.Proofs.YtmnabijelgpfnaaDoor
set_option linter.unusedVariables false
open Go.RowKit
set_option maxHeartbeats 800000 in
set_option maxRecDepth 100000 in
theorem rates_walk (a b h : Int) (w : World) (hv : HV w) (_ : (Lit.int .i64 a).wf = true) (_ : (Lit.int .i64 b).wf = true) (_ : (Lit.int .i64 h).wf = true) :
    Calls Tryd.prog 3 #[.int .i64 a, .int .i64 b, .int .i64 h] w fun e w' => e = .returned (.bool true) ∧ Below w.heap.size w w' := by
  have HVH := Lib.hid hv
  clear hv
  by_cases hc : a < 0 ∨ 4000 < a ∨ b < 0 ∨ 4000 < b ∨ h < 0 ∨ 2 < h
  · replace hc := Lib.hid hc
    go_enter Tryd.func3, Tryd.ntmps3
    go_wp2_with fail
    refine (refrate_bad _ _ _ _ hc.out).mono ?_
    rintro e w' ⟨rfl, rfl⟩
    go_wp2_with fail
    refine (rate_bad _ _ _ _ hc.out).mono ?_
    rintro e w' ⟨rfl, rfl⟩
    go_wp2_with fail
    refine (error_err 1 1 _ HVH.out).mono ?_
    rintro e w' ⟨rfl, hb⟩
    go_wp2_with fail
    go_ret
    exact ⟨rfl, hb⟩
  · have h1 : 0 ≤ a ∧ a ≤ 4000 ∧ 0 ≤ b ∧ b ≤ 4000 ∧ 0 ≤ h ∧ h ≤ 2 := by omega
    clear hc
    obtain ⟨h1, h2, h3, h4, h5, h6⟩ := h1
    go_enter Tryd.func3, Tryd.ntmps3
    go_wp2_with fail
    refine (refrate_ok _ _ _ _ h1 h2 h3 h4 h5 h6).mono ?_
    rintro e w' ⟨rfl, rfl⟩
    go_wp2_with fail
    refine (rate_ok _ _ _ _ h1 h2 h3 h4 h5 h6).mono ?_
    rintro e w' ⟨rfl, rfl⟩
    go_wp2_with fail
    refine (error_nil 0 _).mono ?_
    rintro e w' ⟨rfl, rfl⟩
    go_wp2_with fail
    go_ret
    first | exact ⟨rfl, Below.refl _ _⟩ | (simp; exact Below.refl _ _)
end Go.Proofs.YtmnabijelgpfnaaDoor
