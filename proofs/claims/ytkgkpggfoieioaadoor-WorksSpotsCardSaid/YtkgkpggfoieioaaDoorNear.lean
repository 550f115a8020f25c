import Derived.Test.YtkgkpggfoieioaaDoorBeside
namespace Go.Proofs.YtkgkpggfoieioaaDoor
set_option linter.unusedVariables false
open Go.RowKit
theorem cellE_in (f : GF) (a : Int) (h : cellE f a = 0) : Good f ∧ 0 ≤ a ∧ a < f.ground.length := by
  unfold cellE at h
  by_cases h1 : fieldE f = 0
  · rw [if_neg (by simp [h1])] at h
    by_cases h2 : a < 0 ∨ (f.ground.length : Int) ≤ a
    · rw [if_pos h2] at h; cases h
    · exact ⟨good_of f h1, by omega, by omega⟩
  · rw [if_pos h1] at h; exact absurd h h1
theorem cellE_ok (f : GF) (a : Int) (h : Good f) (h0 : 0 ≤ a) (h1 : a < f.ground.length) : cellE f a = 0 := by
  unfold cellE
  rw [if_neg (by simp [good_to f h]), if_neg (by omega)]
/-- The first steps of Near and Step: the field boxed, the cell in a list. -/
def w1F (w : World) (s : SF) (f : GF) : World := w.alloc (.cells #[.int .i64 f.wide, .int .i64 f.high, .slice s.ground.A f.ground.length s.ground.c, .slice s.ore.A f.ore.length s.ore.c] 52)
set_option maxRecDepth 100000 in
theorem cells1_any (s : SF) (f : GF) (a : Int) (w : World) (h : FOk w s f) :
    let W := (w1F w s f).alloc (.cells #[.int .i64 a] 3)
    Calls Tryd.prog 97 #[fA s f, .slice (some ⟨w.heap.size + 1, 0, none⟩) 1 1] W fun e w' => e = .returned (errV (cellE f a)) ∧ Below w.heap.size w w' ∧ Blk w' w.heap.size 52 #[.int .i64 f.wide, .int .i64 f.high, .slice s.ground.A f.ground.length s.ground.c, .slice s.ore.A f.ore.length s.ore.c] := by
  intro W
  have hb1 : Below w.heap.size w W := ((Below.refl _ _).alloc (Nat.le_refl _) _).alloc (by simp) _
  have hs : (w1F w s f).heap.size = w.heap.size + 1 := by simp [w1F]
  have hr : RD W W.heap.size 1 (some ⟨w.heap.size + 1, 0, none⟩) 1 ([a].map (.int .i64)) := by
    have := RD.new (w1F w s f) 1 1 #[.int .i64 a] 3 (0, 0) rfl
    rw [hs] at this
    exact this.more (by show _ ≤ W.heap.size; simp [W, hs])
  have hk : Blk W w.heap.size 52 #[.int .i64 f.wide, .int .i64 f.high, .slice s.ground.A f.ground.length s.ground.c, .slice s.ore.A f.ore.length s.ore.c] := (Blk.new w _ _).alloc _
  refine (fcells_any s f (some ⟨w.heap.size + 1, 0, none⟩) 1 [a] W (h.below hb1) hr (by simp)).mono ?_
  rintro e w' ⟨he, hb⟩
  rw [faultL_1] at he
  exact ⟨he, hb1.trans (hb.mono hb1.size), hk.below hb hk.lt⟩
set_option maxRecDepth 100000 in
theorem near_ok (s : SF) (f : GF) (a : Int) (w : World) (h : FOk w s f) (hE : cellE f a = 0) :
    Calls Tryd.prog 50 #[fA s f, .int .i64 a] w fun e w' => ∃ A c, e = .returned (.tuple #[.slice A (besL f a).length c, .nilIface]) ∧ w'.ownsRow w.heap.size 3 1 (.slice A (besL f a).length c) (besL f a).length ((besL f a).map (.int .i64)) ∧ Below w.heap.size w w' := by
  obtain ⟨hg, ha0, ha1⟩ := cellE_in f a hE
  have hc := cells1_any s f a w h
  dsimp only at hc
  unfold w1F at hc
  have H := Lib.hid h
  have hlg := hg.lg
  have hw := hg.wide
  have hh := hg.high
  replace hc := Lib.hid hc
  replace hg := Lib.hid hg
  replace hlg := Lib.hid hlg
  replace hw := Lib.hid hw
  replace hh := Lib.hid hh
  clear h
  unfold fA
  go_enter Tryd.func50, Tryd.ntmps50
  go_wp2_with fail
  refine hc.out.mono ?_
  rintro e W ⟨rfl, hb, hk⟩
  rw [hE, errV0]
  have c0 := hk.cell 0
  have c1 := hk.cell 1
  have c2 := hk.cell 2
  have c3 := hk.cell 3
  have HF := H.out.below hb
  have hs := hb.size
  replace HF := Lib.hid HF
  replace hb := Lib.hid hb
  have hE2 := Lib.hid hE
  clear hE hk hc
  go_wp2_with fail
  refine (beside_any s f a W hw.out hh.out ⟨ha0, by rw [← hlg.out]; exact ha1⟩).mono ?_
  rintro e W2 ⟨v, rfl, ho, hb2⟩
  obtain ⟨A, c, rfl, _⟩ := own_slice ho
  have ho2 := own_base ho hs
  have hb3 := hb.out.trans (hb2.mono hs)
  replace ho2 := Lib.hid ho2
  clear ho hb2
  go_wp2_with fail
  go_ret2
  exact ⟨_, _, rfl, ho2.out, hb3⟩
set_option maxRecDepth 100000 in
theorem near_no (s : SF) (f : GF) (a : Int) (w : World) (h : FOk w s f) (hE : cellE f a ≠ 0) :
    Calls Tryd.prog 50 #[fA s f, .int .i64 a] w fun e w' => e = .returned (.tuple #[.slice none 0 0, erE (cellE f a)]) ∧ Below w.heap.size w w' := by
  have hc := cells1_any s f a w h
  dsimp only at hc
  unfold w1F at hc
  replace hc := Lib.hid hc
  clear h
  unfold fA
  go_enter Tryd.func50, Tryd.ntmps50
  go_wp2_with fail
  refine hc.out.mono ?_
  rintro e W ⟨rfl, hb, hk⟩
  rw [errVn _ hE]
  unfold erE
  have hE2 := Lib.hid hE
  clear hE hk hc
  go_wp2_with fail
  go_ret2
  exact ⟨rfl, hb⟩
set_option maxRecDepth 100000 in
theorem step_ok (s : SF) (f : GF) (k : Nat) (fl : Bool) (w : World) (h : FOk w s f) (hE : cellE f k = 0) :
    Calls Tryd.prog 42 #[fA s f, .int .i64 k, .bool fl] w fun e w' => e = .returned (.tuple #[.int .i64 (ontoL f k fl), .nilIface]) ∧ Below w.heap.size w w' := by
  obtain ⟨hg, ha0, ha1⟩ := cellE_in f k hE
  have hc := cells1_any s f k w h
  dsimp only at hc
  unfold w1F at hc
  have H := Lib.hid h
  replace hc := Lib.hid hc
  replace hg := Lib.hid hg
  clear h
  unfold fA
  go_enter Tryd.func42, Tryd.ntmps42
  go_wp2_with fail
  refine hc.out.mono ?_
  rintro e W ⟨rfl, hb, hk⟩
  rw [hE, errV0]
  have c0 := hk.cell 0
  have c1 := hk.cell 1
  have c2 := hk.cell 2
  have c3 := hk.cell 3
  have HF := H.out.below hb
  have hs := hb.size
  replace HF := Lib.hid HF
  replace hb := Lib.hid hb
  have hE2 := Lib.hid hE
  clear hE hk hc
  go_wp2_with fail
  refine (onto_any s f k fl W HF.out (by omega)).mono ?_
  rintro e W2 ⟨rfl, hb2⟩
  have hb3 := hb.out.trans (hb2.mono hs)
  clear hb2
  go_wp2_with fail
  go_ret2
  exact ⟨rfl, hb3⟩
set_option maxRecDepth 100000 in
theorem step_no (s : SF) (f : GF) (a : Int) (fl : Bool) (w : World) (h : FOk w s f) (hE : cellE f a ≠ 0) :
    Calls Tryd.prog 42 #[fA s f, .int .i64 a, .bool fl] w fun e w' => e = .returned (.tuple #[.int .i64 0, erE (cellE f a)]) ∧ Below w.heap.size w w' := by
  have hc := cells1_any s f a w h
  dsimp only at hc
  unfold w1F at hc
  replace hc := Lib.hid hc
  clear h
  unfold fA
  go_enter Tryd.func42, Tryd.ntmps42
  go_wp2_with fail
  refine hc.out.mono ?_
  rintro e W ⟨rfl, hb, hk⟩
  rw [errVn _ hE]
  unfold erE
  have hE2 := Lib.hid hE
  clear hE hk hc
  go_wp2_with fail
  go_ret2
  exact ⟨rfl, hb⟩
end Go.Proofs.YtkgkpggfoieioaaDoor
