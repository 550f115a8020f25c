import Derived.Test.YtkgkpggfoieioaaGreatDoorRefField
namespace Go.Proofs.YtkgkpggfoieioaaGreatDoor
set_option linter.unusedVariables false
open Go.RowKit
set_option maxRecDepth 100000 in
theorem ronto_any (s : SF) (f : GF) (k : Nat) (fl : Bool) (w : World) (h : FOk w s f) (hk : k < f.ground.length) (hg : 0 ≤ gAt f k ∧ gAt f k ≤ 3) :
    Calls Tryz.prog 12 #[fA s f, .int .i64 k, .bool fl] w fun e w' => e = .returned (.int .i64 (ontoL f k fl)) ∧ Below w.heap.size w w' := by
  obtain ⟨b, o, hA, hc, hb⟩ := h.2.2.1.at_ hk
  have hgg : f.ground.getD k 0 = gAt f k := rfl
  rw [hgg] at hc
  have hO : ontoL f k fl = ontoG (gAt f k) fl := rfl
  rw [hO]
  unfold fA
  have j1 : (k : Int) < (f.ground.length : Int) := by omega
  obtain ⟨s1, s2⟩ := s
  obtain ⟨A1, cc1⟩ := s1
  dsimp only at hA
  subst hA
  clear h hgg hO
  generalize gAt f k = g at *
  have hgc : g = 0 ∨ g = 1 ∨ g = 2 ∨ g = 3 := by omega
  clear hg
  rcases hgc with rfl | rfl | rfl | rfl <;> cases fl
  all_goals
    go_enter Tryz.func12, Tryz.ntmps12
    go_wp2_with fail
    go_ret
    exact ⟨rfl, (Below.refl _ _).alloc (Nat.le_refl _) _⟩
end Go.Proofs.YtkgkpggfoieioaaGreatDoor
