import Derived.Test.YtkkdegcbikjebaaDoorField
import Derived.Test.YtkkdegcbikjebaaDoorInts
namespace Go.Proofs.YtkkdegcbikjebaaDoor
set_option linter.unusedVariables false
open Go.RowKit
/-- Are two fields the same? -/
def sameB (f g : GF) : Bool := eqL f.ground g.ground && eqL f.ore g.ore && (f.wide == g.wide) && (f.high == g.high)
theorem sameB_refl (f : GF) : sameB f f = true := by unfold sameB; rw [eqL_yes rfl, eqL_yes rfl]; simp
set_option maxRecDepth 100000 in
theorem samef_any (s s' : SF) (f g : GF) (w : World) (h : FOk w s f) (h' : FOk w s' g) (hl1 : f.ground.length ≤ 100000000000000) (hl2 : f.ore.length ≤ 100000000000000) :
    Calls Tryd.prog 15 #[fA s f, fA s' g] w fun e w' => e = .returned (.bool (sameB f g)) ∧ Below w.heap.size w w' := by
  have hS : sameB f g = (eqL f.ground g.ground && eqL f.ore g.ore && (f.wide == g.wide) && (f.high == g.high)) := rfl
  rw [hS]
  clear hS
  have H := Lib.hid h
  have H' := Lib.hid h'
  clear h h'
  unfold fA
  go_enter Tryd.func15, Tryd.ntmps15
  go_wp2_with fail
  have hb1 : Below w.heap.size w ((w.alloc (.cells #[.int .i64 f.wide, .int .i64 f.high, .slice s.ground.A f.ground.length s.ground.c, .slice s.ore.A f.ore.length s.ore.c] 25)).alloc (.cells #[.int .i64 g.wide, .int .i64 g.high, .slice s'.ground.A g.ground.length s'.ground.c, .slice s'.ore.A g.ore.length s'.ore.c] 25)) := ((Below.refl _ _).alloc (Nat.le_refl _) _).alloc (by simp) _
  have hk1 : Blk ((w.alloc (.cells #[.int .i64 f.wide, .int .i64 f.high, .slice s.ground.A f.ground.length s.ground.c, .slice s.ore.A f.ore.length s.ore.c] 25)).alloc (.cells #[.int .i64 g.wide, .int .i64 g.high, .slice s'.ground.A g.ground.length s'.ground.c, .slice s'.ore.A g.ore.length s'.ore.c] 25)) w.heap.size 25 #[.int .i64 f.wide, .int .i64 f.high, .slice s.ground.A f.ground.length s.ground.c, .slice s.ore.A f.ore.length s.ore.c] := (Blk.new w _ _).alloc _
  have hk2 : Blk ((w.alloc (.cells #[.int .i64 f.wide, .int .i64 f.high, .slice s.ground.A f.ground.length s.ground.c, .slice s.ore.A f.ore.length s.ore.c] 25)).alloc (.cells #[.int .i64 g.wide, .int .i64 g.high, .slice s'.ground.A g.ground.length s'.ground.c, .slice s'.ore.A g.ore.length s'.ore.c] 25)) (w.heap.size + 1) 25 #[.int .i64 g.wide, .int .i64 g.high, .slice s'.ground.A g.ground.length s'.ground.c, .slice s'.ore.A g.ore.length s'.ore.c] := by
    have := Blk.new (w.alloc (.cells #[.int .i64 f.wide, .int .i64 f.high, .slice s.ground.A f.ground.length s.ground.c, .slice s.ore.A f.ore.length s.ore.c] 25)) 25 #[.int .i64 g.wide, .int .i64 g.high, .slice s'.ground.A g.ground.length s'.ground.c, .slice s'.ore.A g.ore.length s'.ore.c]
    rwa [World.size_alloc] at this
  generalize ((w.alloc (.cells #[.int .i64 f.wide, .int .i64 f.high, .slice s.ground.A f.ground.length s.ground.c, .slice s.ore.A f.ore.length s.ore.c] 25)).alloc (.cells #[.int .i64 g.wide, .int .i64 g.high, .slice s'.ground.A g.ground.length s'.ground.c, .slice s'.ore.A g.ore.length s'.ore.c] 25)) = W at *
  have HF := H.out.below hb1
  have HF' := H'.out.below hb1
  have c0 := hk1.cell 0
  have c1 := hk1.cell 1
  have c3 := hk1.cell 3
  have d0 := hk2.cell 0
  have d1 := hk2.cell 1
  have d3 := hk2.cell 3
  refine (ints_any s.ground.A s'.ground.A s.ground.c s'.ground.c W.heap.size f.ground g.ground W HF.2.2.1.1 HF'.2.2.1.1 hl1).mono ?_
  rintro e w' ⟨q, rfl, rfl⟩
  go_wp2_with fail
  refine (ints_any s.ore.A s'.ore.A s.ore.c s'.ore.c W.heap.size f.ore g.ore (W.drewN q) HF.2.2.2.1 HF'.2.2.2.1 hl2).mono ?_
  rintro e w' ⟨q2, rfl, rfl⟩
  replace hb1 := Lib.hid hb1
  replace HF := Lib.hid HF
  replace HF' := Lib.hid HF'
  clear hk1 hk2
  cases e1 : eqL f.ground g.ground <;> cases e2 : eqL f.ore g.ore <;> cases e3 : (f.wide == g.wide) <;> cases e4 : (f.high == g.high)
  all_goals
    go_wp2_with fail
    go_ret
    exact ⟨by rw [e1, e2, e3, e4]; rfl, bdrewN hb1.out _⟩
end Go.Proofs.YtkkdegcbikjebaaDoor
