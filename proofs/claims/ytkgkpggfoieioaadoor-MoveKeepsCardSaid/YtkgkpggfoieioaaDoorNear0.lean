import Derived.Test.YtkgkpggfoieioaaDoorMrgd
namespace Go.Proofs.YtkgkpggfoieioaaDoor
set_option linter.unusedVariables false
open Go.RowKit
theorem cellE_in (f : GF) (a : Int) (h : cellE f a = 0) : Good f ∧ 0 ≤ a ∧ a < f.ground.length := by
  unfold cellE at h
  by_cases h1 : fieldE f = 0
  · rw [if_neg (by simp [h1])] at h
    by_cases h2 : a < 0 ∨ (f.ground.length : Int) ≤ a
    · rw [if_pos h2] at h; cases h
    · exact ⟨good_of f h1, by omega, by omega⟩
  · rw [if_pos h1] at h; exact absurd h h1
theorem cellE_ok (f : GF) (a : Int) (h : Good f) (h0 : 0 ≤ a) (h1 : a < f.ground.length) : cellE f a = 0 := by
  unfold cellE
  rw [if_neg (by simp [good_to f h]), if_neg (by omega)]
/-- The first steps of Near and Step: the field boxed, the cell in a list. -/
def w1F (w : World) (s : SF) (f : GF) : World := w.alloc (.cells #[.int .i64 f.wide, .int .i64 f.high, .slice s.ground.A f.ground.length s.ground.c, .slice s.ore.A f.ore.length s.ore.c] 52)
set_option maxRecDepth 100000 in
theorem cells1_any (s : SF) (f : GF) (a : Int) (w : World) (h : FOk w s f) :
    let W := (w1F w s f).alloc (.cells #[.int .i64 a] 3)
    Calls Tryd.prog 97 #[fA s f, .slice (some ⟨w.heap.size + 1, 0, none⟩) 1 1] W fun e w' => e = .returned (errV (cellE f a)) ∧ Below w.heap.size w w' ∧ Blk w' w.heap.size 52 #[.int .i64 f.wide, .int .i64 f.high, .slice s.ground.A f.ground.length s.ground.c, .slice s.ore.A f.ore.length s.ore.c] := by
  intro W
  have hb1 : Below w.heap.size w W := ((Below.refl _ _).alloc (Nat.le_refl _) _).alloc (by simp) _
  have hs : (w1F w s f).heap.size = w.heap.size + 1 := by simp [w1F]
  have hr : RD W W.heap.size 1 (some ⟨w.heap.size + 1, 0, none⟩) 1 ([a].map (.int .i64)) := by
    have := RD.new (w1F w s f) 1 1 #[.int .i64 a] 3 (0, 0) rfl
    rw [hs] at this
    exact this.more (by show _ ≤ W.heap.size; simp [W, hs])
  have hk : Blk W w.heap.size 52 #[.int .i64 f.wide, .int .i64 f.high, .slice s.ground.A f.ground.length s.ground.c, .slice s.ore.A f.ore.length s.ore.c] := (Blk.new w _ _).alloc _
  refine (fcells_any s f (some ⟨w.heap.size + 1, 0, none⟩) 1 [a] W (h.below hb1) hr (by simp)).mono ?_
  rintro e w' ⟨he, hb⟩
  rw [faultL_1] at he
  exact ⟨he, hb1.trans (hb.mono hb1.size), hk.below hb hk.lt⟩
end Go.Proofs.YtkgkpggfoieioaaDoor
