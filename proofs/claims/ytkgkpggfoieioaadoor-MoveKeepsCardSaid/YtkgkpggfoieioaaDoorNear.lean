import Derived.Test.YtkgkpggfoieioaaDoorNear0
namespace Go.Proofs.YtkgkpggfoieioaaDoor
set_option linter.unusedVariables false
open Go.RowKit
set_option maxRecDepth 100000 in
theorem near_ok (s : SF) (f : GF) (a : Int) (w : World) (h : FOk w s f) (hE : cellE f a = 0) :
    Calls Tryd.prog 50 #[fA s f, .int .i64 a] w fun e w' => ∃ A c, e = .returned (.tuple #[.slice A (besL f a).length c, .nilIface]) ∧ w'.ownsRow w.heap.size 3 1 (.slice A (besL f a).length c) (besL f a).length ((besL f a).map (.int .i64)) ∧ Below w.heap.size w w' := by
  obtain ⟨hg, ha0, ha1⟩ := cellE_in f a hE
  have hc := cells1_any s f a w h
  dsimp only at hc
  unfold w1F at hc
  have H := Lib.hid h
  have hlg := hg.lg
  have hw := hg.wide
  have hh := hg.high
  replace hc := Lib.hid hc
  replace hg := Lib.hid hg
  replace hlg := Lib.hid hlg
  replace hw := Lib.hid hw
  replace hh := Lib.hid hh
  clear h
  unfold fA
  go_enter Tryd.func50, Tryd.ntmps50
  go_wp2_with fail
  refine hc.out.mono ?_
  rintro e W ⟨rfl, hb, hk⟩
  rw [hE, errV0]
  have c0 := hk.cell 0
  have c1 := hk.cell 1
  have c2 := hk.cell 2
  have c3 := hk.cell 3
  have HF := H.out.below hb
  have hs := hb.size
  replace HF := Lib.hid HF
  replace hb := Lib.hid hb
  have hE2 := Lib.hid hE
  clear hE hk hc
  go_wp2_with fail
  refine (beside_any s f a W hw.out hh.out ⟨ha0, by rw [← hlg.out]; exact ha1⟩).mono ?_
  rintro e W2 ⟨v, rfl, ho, hb2⟩
  obtain ⟨A, c, rfl, _⟩ := own_slice ho
  have ho2 := own_base ho hs
  have hb3 := hb.out.trans (hb2.mono hs)
  replace ho2 := Lib.hid ho2
  clear ho hb2
  go_wp2_with fail
  go_ret2
  exact ⟨_, _, rfl, ho2.out, hb3⟩
set_option maxRecDepth 100000 in
theorem near_no (s : SF) (f : GF) (a : Int) (w : World) (h : FOk w s f) (hE : cellE f a ≠ 0) :
    Calls Tryd.prog 50 #[fA s f, .int .i64 a] w fun e w' => e = .returned (.tuple #[.slice none 0 0, erE (cellE f a)]) ∧ Below w.heap.size w w' := by
  have hc := cells1_any s f a w h
  dsimp only at hc
  unfold w1F at hc
  replace hc := Lib.hid hc
  clear h
  unfold fA
  go_enter Tryd.func50, Tryd.ntmps50
  go_wp2_with fail
  refine hc.out.mono ?_
  rintro e W ⟨rfl, hb, hk⟩
  rw [errVn _ hE]
  unfold erE
  have hE2 := Lib.hid hE
  clear hE hk hc
  go_wp2_with fail
  go_ret2
  exact ⟨rfl, hb⟩
set_option maxRecDepth 100000 in
theorem step_ok (s : SF) (f : GF) (k : Nat) (fl : Bool) (w : World) (h : FOk w s f) (hE : cellE f k = 0) :
    Calls Tryd.prog 42 #[fA s f, .int .i64 k, .bool fl] w fun e w' => e = .returned (.tuple #[.int .i64 (ontoL f k fl), .nilIface]) ∧ Below w.heap.size w w' := by
  obtain ⟨hg, ha0, ha1⟩ := cellE_in f k hE
  have hc := cells1_any s f k w h
  dsimp only at hc
  unfold w1F at hc
  have H := Lib.hid h
  replace hc := Lib.hid hc
  replace hg := Lib.hid hg
  clear h
  unfold fA
  go_enter Tryd.func42, Tryd.ntmps42
  go_wp2_with fail
  refine hc.out.mono ?_
  rintro e W ⟨rfl, hb, hk⟩
  rw [hE, errV0]
  have c0 := hk.cell 0
  have c1 := hk.cell 1
  have c2 := hk.cell 2
  have c3 := hk.cell 3
  have HF := H.out.below hb
  have hs := hb.size
  replace HF := Lib.hid HF
  replace hb := Lib.hid hb
  have hE2 := Lib.hid hE
  clear hE hk hc
  go_wp2_with fail
  refine (onto_any s f k fl W HF.out (by omega)).mono ?_
  rintro e W2 ⟨rfl, hb2⟩
  have hb3 := hb.out.trans (hb2.mono hs)
  clear hb2
  go_wp2_with fail
  go_ret2
  exact ⟨rfl, hb3⟩
set_option maxRecDepth 100000 in
theorem step_no (s : SF) (f : GF) (a : Int) (fl : Bool) (w : World) (h : FOk w s f) (hE : cellE f a ≠ 0) :
    Calls Tryd.prog 42 #[fA s f, .int .i64 a, .bool fl] w fun e w' => e = .returned (.tuple #[.int .i64 0, erE (cellE f a)]) ∧ Below w.heap.size w w' := by
  have hc := cells1_any s f a w h
  dsimp only at hc
  unfold w1F at hc
  replace hc := Lib.hid hc
  clear h
  unfold fA
  go_enter Tryd.func42, Tryd.ntmps42
  go_wp2_with fail
  refine hc.out.mono ?_
  rintro e W ⟨rfl, hb, hk⟩
  rw [errVn _ hE]
  unfold erE
  have hE2 := Lib.hid hE
  clear hE hk hc
  go_wp2_with fail
  go_ret2
  exact ⟨rfl, hb⟩
end Go.Proofs.YtkgkpggfoieioaaDoor
