import Derived.Test.YtkgkpggfoieioaaDoorPathT
import Derived.Test.YtkgkpggfoieioaaDoorNear
namespace Go.Proofs.YtkgkpggfoieioaaDoor
set_option linter.unusedVariables false
open Go.RowKit
/-- What a list of how far it is is handed back as. -/
def FarPost (w : World) (f : GF) (src : Nat) (fl : Bool) (e : Ending) (w' : World) : Prop :=
  ∃ g out, e = .returned (.tuple #[.slice (some ⟨g, 0, none⟩) f.ground.length f.ground.length, .nilIface]) ∧ DTo f fl src out ∧ w.heap.size ≤ g ∧ Blk w' g 3 (arrI out) ∧ Below w.heap.size w w'
set_option maxRecDepth 100000 in
theorem far_ok (s : SF) (f : GF) (src : Nat) (fl : Bool) (w : World) (h : FOk w s f) (hE : cellE f src = 0) :
    Calls Tryd.prog 41 #[fA s f, .int .i64 src, .bool fl] w (FarPost w f src fl) := by
  obtain ⟨hg, ha0, ha1⟩ := cellE_in f src hE
  have hc := cells1_any s f src w h
  dsimp only at hc
  unfold w1F at hc
  have H := Lib.hid h
  replace hc := Lib.hid hc
  replace hg := Lib.hid hg
  clear h
  unfold fA
  go_enter Tryd.func41, Tryd.ntmps41
  go_wp2_with fail
  refine hc.out.mono ?_
  rintro e W ⟨rfl, hb, hk⟩
  rw [hE, errV0]
  have c0 := hk.cell 0
  have c1 := hk.cell 1
  have c2 := hk.cell 2
  have c3 := hk.cell 3
  have HF := H.out.below hb
  have hs := hb.size
  replace HF := Lib.hid HF
  replace hb := Lib.hid hb
  have hE2 := Lib.hid hE
  clear hE hk hc
  go_wp2_with fail
  refine (to_any s f src fl W HF.out hg.out (by omega)).mono ?_
  intro e W2 hp
  obtain ⟨g, out, rfl, h2, h3, h4, h5⟩ := hp.mono_ hb.out
  replace h2 := Lib.hid h2
  replace h4 := Lib.hid h4
  replace h5 := Lib.hid h5
  clear hp
  go_wp2_with fail
  go_ret2
  exact ⟨g, out, rfl, h2.out, h3, h4.out, h5.out⟩
set_option maxRecDepth 100000 in
theorem far_no (s : SF) (f : GF) (a : Int) (fl : Bool) (w : World) (h : FOk w s f) (hE : cellE f a ≠ 0) :
    Calls Tryd.prog 41 #[fA s f, .int .i64 a, .bool fl] w fun e w' => e = .returned (.tuple #[.slice none 0 0, erE (cellE f a)]) ∧ Below w.heap.size w w' := by
  have hc := cells1_any s f a w h
  dsimp only at hc
  unfold w1F at hc
  replace hc := Lib.hid hc
  clear h
  unfold fA
  go_enter Tryd.func41, Tryd.ntmps41
  go_wp2_with fail
  refine hc.out.mono ?_
  rintro e W ⟨rfl, hb, hk⟩
  rw [errVn _ hE]
  unfold erE
  have hE2 := Lib.hid hE
  clear hE hk hc
  go_wp2_with fail
  go_ret2
  exact ⟨rfl, hb⟩
end Go.Proofs.YtkgkpggfoieioaaDoor
