import Derived.Test.YtkgdflecepockaaDoorOrd
namespace Go.Proofs.YtkgdflecepockaaDoor
set_option linter.unusedVariables false
open Go.RowKit
/-! The reference's Order: what the program's order says. -/
set_option maxHeartbeats 3200000 in
set_option maxRecDepth 100000 in
theorem rorder_any (p u x g : Int) (w : World) : Calls Tryd.prog 58 #[.agg #[.int .i64 p, .int .i64 u, .int .i64 x, .int .i64 g]] w fun e w' => e = .returned (.int .i64 (ordE ⟨p, u, x, g⟩)) ∧ Below w.heap.size w w' := by
  by_cases c0 : p < 0
  · have hv : ordE ⟨p, u, x, g⟩ = 1 := if_neg (fun h => by obtain ⟨h1, h2, h3, h4, h5, h6, h7, h8, h9⟩ := h; dsimp only at h1 h2 h3 h4 h5 h6 h7 h8 h9; omega)
    rw [hv]; clear hv
    go_enter Tryd.func58, Tryd.ntmps58
    go_wp2_with fail
    go_ret
    exact ⟨rfl, (Below.refl _ _).alloc (Nat.le_refl _) _⟩
  by_cases c1 : 3 < p
  · have hv : ordE ⟨p, u, x, g⟩ = 1 := if_neg (fun h => by obtain ⟨h1, h2, h3, h4, h5, h6, h7, h8, h9⟩ := h; dsimp only at h1 h2 h3 h4 h5 h6 h7 h8 h9; omega)
    rw [hv]; clear hv
    go_enter Tryd.func58, Tryd.ntmps58
    go_wp2_with fail
    go_ret
    exact ⟨rfl, (Below.refl _ _).alloc (Nat.le_refl _) _⟩
  by_cases c2 : u < 0
  · have hv : ordE ⟨p, u, x, g⟩ = 1 := if_neg (fun h => by obtain ⟨h1, h2, h3, h4, h5, h6, h7, h8, h9⟩ := h; dsimp only at h1 h2 h3 h4 h5 h6 h7 h8 h9; omega)
    rw [hv]; clear hv
    go_enter Tryd.func58, Tryd.ntmps58
    go_wp2_with fail
    go_ret
    exact ⟨rfl, (Below.refl _ _).alloc (Nat.le_refl _) _⟩
  by_cases c3 : 1000000 < u
  · have hv : ordE ⟨p, u, x, g⟩ = 1 := if_neg (fun h => by obtain ⟨h1, h2, h3, h4, h5, h6, h7, h8, h9⟩ := h; dsimp only at h1 h2 h3 h4 h5 h6 h7 h8 h9; omega)
    rw [hv]; clear hv
    go_enter Tryd.func58, Tryd.ntmps58
    go_wp2_with fail
    go_ret
    exact ⟨rfl, (Below.refl _ _).alloc (Nat.le_refl _) _⟩
  by_cases c4 : g < 0
  · have hv : ordE ⟨p, u, x, g⟩ = 1 := if_neg (fun h => by obtain ⟨h1, h2, h3, h4, h5, h6, h7, h8, h9⟩ := h; dsimp only at h1 h2 h3 h4 h5 h6 h7 h8 h9; omega)
    rw [hv]; clear hv
    go_enter Tryd.func58, Tryd.ntmps58
    go_wp2_with fail
    go_ret
    exact ⟨rfl, (Below.refl _ _).alloc (Nat.le_refl _) _⟩
  by_cases c5 : 1000000 < g
  · have hv : ordE ⟨p, u, x, g⟩ = 1 := if_neg (fun h => by obtain ⟨h1, h2, h3, h4, h5, h6, h7, h8, h9⟩ := h; dsimp only at h1 h2 h3 h4 h5 h6 h7 h8 h9; omega)
    rw [hv]; clear hv
    go_enter Tryd.func58, Tryd.ntmps58
    go_wp2_with fail
    go_ret
    exact ⟨rfl, (Below.refl _ _).alloc (Nat.le_refl _) _⟩
  by_cases c6 : x < 0
  · have hv : ordE ⟨p, u, x, g⟩ = 1 := if_neg (fun h => by obtain ⟨h1, h2, h3, h4, h5, h6, h7, h8, h9⟩ := h; dsimp only at h1 h2 h3 h4 h5 h6 h7 h8 h9; omega)
    rw [hv]; clear hv
    go_enter Tryd.func58, Tryd.ntmps58
    go_wp2_with fail
    go_ret
    exact ⟨rfl, (Below.refl _ _).alloc (Nat.le_refl _) _⟩
  by_cases c7 : 3 < x
  · have hv : ordE ⟨p, u, x, g⟩ = 1 := if_neg (fun h => by obtain ⟨h1, h2, h3, h4, h5, h6, h7, h8, h9⟩ := h; dsimp only at h1 h2 h3 h4 h5 h6 h7 h8 h9; omega)
    rw [hv]; clear hv
    go_enter Tryd.func58, Tryd.ntmps58
    go_wp2_with fail
    go_ret
    exact ⟨rfl, (Below.refl _ _).alloc (Nat.le_refl _) _⟩
  by_cases x0 : x = 0
  · subst x0
    by_cases g0 : g = 0
    · subst g0
      have hv : ordE ⟨p, u, 0, 0⟩ = 0 := if_pos (by refine ⟨?_, ?_, ?_, ?_, ?_, ?_, ?_, ?_, ?_⟩ <;> dsimp only <;> omega)
      rw [hv]; clear hv
      go_enter Tryd.func58, Tryd.ntmps58
      go_wp2_with fail
      go_ret
      exact ⟨rfl, (Below.refl _ _).alloc (Nat.le_refl _) _⟩
    · have g1 : (g == 0) = false := by simp [g0]
      have hv : ordE ⟨p, u, 0, g⟩ = 1 := if_neg (fun h => by obtain ⟨h1, h2, h3, h4, h5, h6, h7, h8, h9⟩ := h; dsimp only at h1 h2 h3 h4 h5 h6 h7 h8 h9; omega)
      rw [hv]; clear hv
      go_enter Tryd.func58, Tryd.ntmps58
      go_wp2_with fail
      go_ret
      exact ⟨rfl, (Below.refl _ _).alloc (Nat.le_refl _) _⟩
  · have x1 : (x == 0) = false := by simp [x0]
    have hv : ordE ⟨p, u, x, g⟩ = 0 := if_pos (by refine ⟨?_, ?_, ?_, ?_, ?_, ?_, ?_, ?_, ?_⟩ <;> dsimp only <;> omega)
    rw [hv]; clear hv
    go_enter Tryd.func58, Tryd.ntmps58
    go_wp2_with fail
    go_ret
    exact ⟨rfl, (Below.refl _ _).alloc (Nat.le_refl _) _⟩
end Go.Proofs.YtkgdflecepockaaDoor
