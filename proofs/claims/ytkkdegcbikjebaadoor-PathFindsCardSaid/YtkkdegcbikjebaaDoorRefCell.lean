import Derived.Test.YtkkdegcbikjebaaDoorRefField
namespace Go.Proofs.YtkkdegcbikjebaaDoor
set_option linter.unusedVariables false
open Go.RowKit
set_option maxRecDepth 100000 in
theorem rcell_any (s : SF) (f : GF) (a : Int) (w : World) (h : FOk w s f) :
    Calls Tryd.prog 20 #[fA s f, .int .i64 a] w fun e w' => e = .returned (.int .i64 (cellE f a)) ∧ Below w.heap.size w w' := by
  have H := Lib.hid h
  clear h
  unfold fA
  go_enter Tryd.func20, Tryd.ntmps20
  go_wp2_with fail
  have hb1 : Below w.heap.size w (w.alloc (.cells #[.int .i64 f.wide, .int .i64 f.high, .slice s.ground.A f.ground.length s.ground.c, .slice s.ore.A f.ore.length s.ore.c] 25)) := (Below.refl _ _).alloc (Nat.le_refl _) _
  have hk1 := Blk.new w 25 #[.int .i64 f.wide, .int .i64 f.high, .slice s.ground.A f.ground.length s.ground.c, .slice s.ore.A f.ore.length s.ore.c]
  generalize w.alloc (.cells #[.int .i64 f.wide, .int .i64 f.high, .slice s.ground.A f.ground.length s.ground.c, .slice s.ore.A f.ore.length s.ore.c] 25) = W at *
  have HF := H.out.below hb1
  have hs1 := hb1.size
  refine (rfield_any s f W HF).mono ?_
  rintro e W2 ⟨rfl, hb2⟩
  have hk2 := hk1.below hb2 hk1.lt
  have hb3 := hb1.trans (hb2.mono hs1)
  have c2 := hk2.cell 2
  replace hk2 := Lib.hid hk2
  replace hb3 := Lib.hid hb3
  clear hk1 hb1 hb2 HF
  have hC : cellE f a = if fieldE f ≠ 0 then fieldE f else if a < 0 ∨ (f.ground.length : Int) ≤ a then 6 else 0 := rfl
  by_cases hE : fieldE f = 0
  · have hE2 : (fieldE f != 0) = false := by simp [hE]
    rw [if_neg (by simp [hE])] at hC
    replace hE := Lib.hid hE
    by_cases h1 : a < 0
    · rw [if_pos (.inl h1)] at hC
      have e1 : decide (a < 0) = true := by simp; omega
      replace hC := Lib.hid hC
      go_wp2_with fail
      go_ret
      exact ⟨by rw [hC.out]; rfl, hb3.out⟩
    · have e1 : decide (a < 0) = false := by simp; omega
      by_cases h2 : (f.ground.length : Int) ≤ a
      · rw [if_pos (.inr h2)] at hC
        have e2 : decide ((f.ground.length : Int) ≤ a) = true := by simp; omega
        replace hC := Lib.hid hC
        go_wp2_with fail
        go_ret
        exact ⟨by rw [hC.out]; rfl, hb3.out⟩
      · rw [if_neg (by omega)] at hC
        have e2 : decide ((f.ground.length : Int) ≤ a) = false := by simp; omega
        replace hC := Lib.hid hC
        go_wp2_with fail
        go_ret
        exact ⟨by rw [hC.out]; rfl, hb3.out⟩
  · have hE2 : (fieldE f != 0) = true := by simp [hE]
    rw [if_pos hE] at hC
    replace hE := Lib.hid hE
    replace hC := Lib.hid hC
    go_wp2_with fail
    go_ret
    exact ⟨by rw [hC.out]; rfl, hb3.out⟩
set_option maxRecDepth 100000 in
theorem ronto_any (s : SF) (f : GF) (k : Nat) (fl : Bool) (w : World) (h : FOk w s f) (hk : k < f.ground.length) (hg : 0 ≤ gAt f k ∧ gAt f k ≤ 3) :
    Calls Tryd.prog 22 #[fA s f, .int .i64 k, .bool fl] w fun e w' => e = .returned (.int .i64 (ontoL f k fl)) ∧ Below w.heap.size w w' := by
  obtain ⟨b, o, hA, hc, hb⟩ := h.2.2.1.at_ hk
  have hgg : f.ground.getD k 0 = gAt f k := rfl
  rw [hgg] at hc
  have hO : ontoL f k fl = ontoG (gAt f k) fl := rfl
  rw [hO]
  unfold fA
  have j1 : (k : Int) < (f.ground.length : Int) := by omega
  obtain ⟨s1, s2⟩ := s
  obtain ⟨A1, cc1⟩ := s1
  dsimp only at hA
  subst hA
  clear h hgg hO
  generalize gAt f k = g at *
  have hgc : g = 0 ∨ g = 1 ∨ g = 2 ∨ g = 3 := by omega
  clear hg
  rcases hgc with rfl | rfl | rfl | rfl <;> cases fl
  all_goals
    go_enter Tryd.func22, Tryd.ntmps22
    go_wp2_with fail
    go_ret
    exact ⟨rfl, (Below.refl _ _).alloc (Nat.le_refl _) _⟩
end Go.Proofs.YtkkdegcbikjebaaDoor
