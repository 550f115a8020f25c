import Derived.Test.YtkgkpggfoieioaaDoorPlaceO
import Derived.Test.YtkgkpggfoieioaaDoorRepeat
namespace Go.Proofs.YtkgkpggfoieioaaDoor
set_option linter.unusedVariables false
open Go.RowKit
/-! world.New. -/
def newE (L : List GK) (f : GF) (n g : Int) : Int :=
  if kindsE L ≠ 0 then kindsE L
  else if fieldE f ≠ 0 then fieldE f
  else if ¬ (1 ≤ n ∧ n ≤ 4 ∧ 0 ≤ g ∧ g ≤ 1000000) then 1
  else 0
def newX (f : GF) (n g : Int) : GW := ⟨0, 1, f, List.replicate n.toNat g, [], []⟩
structure NwB (w0 w : World) (s : SF) (f : GF) (fb rb : Nat) : Prop where
  b : Below w0.heap.size w0 w
  kf : Blk w fb 52 #[.int .i64 f.wide, .int .i64 f.high, .slice s.ground.A f.ground.length s.ground.c, .slice s.ore.A f.ore.length s.ore.c]
  kr : Blk w rb 55 #[.int .i64 0, .int .i64 0, .int .i64 0, .int .i64 0, .slice none 0 0, .slice none 0 0, .slice none 0 0, .slice none 0 0, .slice none 0 0]
  fo : FOk w0 s f
  p1 : w0.heap.size ≤ fb
  p2 : fb < rb
section
variable {w0 w w' : World} {s : SF} {f : GF} {fb rb : Nat}
theorem NwB.below (h : NwB w0 w s f fb rb) (hb : Below w.heap.size w w') : NwB w0 w' s f fb rb := ⟨h.b.trans (hb.mono h.b.size), h.kf.below hb h.kf.lt, h.kr.below hb h.kr.lt, h.fo, h.p1, h.p2⟩
theorem NwB.drewN (h : NwB w0 w s f fb rb) (n : Nat) : NwB w0 (w.drewN n) s f fb rb := h.below ⟨rfl, rfl, rfl, Nat.le_refl _, fun _ _ => rfl⟩
theorem NwB.fo_ (h : NwB w0 w s f fb rb) : FOk w s f := h.fo.below h.b
theorem NwB.rcells (h : NwB w0 w s f fb rb) : w.cell? ⟨rb, 0, none⟩ = some (.int .i64 0) ∧ w.frozen? ⟨rb, 0, none⟩ = false ∧ w.cell? ⟨rb, 1, none⟩ = some (.int .i64 0) ∧ w.frozen? ⟨rb, 1, none⟩ = false ∧ w.cell? ⟨rb, 2, none⟩ = some (.int .i64 0) ∧ w.frozen? ⟨rb, 2, none⟩ = false ∧ w.cell? ⟨rb, 3, none⟩ = some (.int .i64 0) ∧ w.frozen? ⟨rb, 3, none⟩ = false ∧ w.cell? ⟨rb, 4, none⟩ = some (.slice none 0 0) ∧ w.frozen? ⟨rb, 4, none⟩ = false ∧ w.cell? ⟨rb, 5, none⟩ = some (.slice none 0 0) ∧ w.frozen? ⟨rb, 5, none⟩ = false ∧ w.cell? ⟨rb, 6, none⟩ = some (.slice none 0 0) ∧ w.frozen? ⟨rb, 6, none⟩ = false ∧ w.cell? ⟨rb, 7, none⟩ = some (.slice none 0 0) ∧ w.frozen? ⟨rb, 7, none⟩ = false ∧ w.cell? ⟨rb, 8, none⟩ = some (.slice none 0 0) ∧ w.frozen? ⟨rb, 8, none⟩ = false := ⟨h.kr.cell 0, h.kr.frozen 0, h.kr.cell 1, h.kr.frozen 1, h.kr.cell 2, h.kr.frozen 2, h.kr.cell 3, h.kr.frozen 3, h.kr.cell 4, h.kr.frozen 4, h.kr.cell 5, h.kr.frozen 5, h.kr.cell 6, h.kr.frozen 6, h.kr.cell 7, h.kr.frozen 7, h.kr.cell 8, h.kr.frozen 8⟩
theorem NwB.zero (h : NwB w0 w s f fb rb) : Blk (((((((((w.setCell ⟨rb, 0, none⟩ (.int .i64 0)).setCell ⟨rb, 1, none⟩ (.int .i64 0)).setCell ⟨rb, 2, none⟩ (.int .i64 0)).setCell ⟨rb, 3, none⟩ (.int .i64 0)).setCell ⟨rb, 4, none⟩ (.slice none 0 0)).setCell ⟨rb, 5, none⟩ (.slice none 0 0)).setCell ⟨rb, 6, none⟩ (.slice none 0 0)).setCell ⟨rb, 7, none⟩ (.slice none 0 0)).setCell ⟨rb, 8, none⟩ (.slice none 0 0)) rb 55 #[.int .i64 0, .int .i64 0, .int .i64 0, .int .i64 0, .slice none 0 0, .slice none 0 0, .slice none 0 0, .slice none 0 0, .slice none 0 0] ∧ Below w0.heap.size w0 (((((((((w.setCell ⟨rb, 0, none⟩ (.int .i64 0)).setCell ⟨rb, 1, none⟩ (.int .i64 0)).setCell ⟨rb, 2, none⟩ (.int .i64 0)).setCell ⟨rb, 3, none⟩ (.int .i64 0)).setCell ⟨rb, 4, none⟩ (.slice none 0 0)).setCell ⟨rb, 5, none⟩ (.slice none 0 0)).setCell ⟨rb, 6, none⟩ (.slice none 0 0)).setCell ⟨rb, 7, none⟩ (.slice none 0 0)).setCell ⟨rb, 8, none⟩ (.slice none 0 0)) := by
  have hrw : w0.heap.size ≤ rb := by have := h.p1; have := h.p2; omega
  refine ⟨?_, (((((((((h.b.setCell (p := ⟨rb, 0, none⟩) hrw (.int .i64 0)).setCell (p := ⟨rb, 1, none⟩) hrw (.int .i64 0)).setCell (p := ⟨rb, 2, none⟩) hrw (.int .i64 0)).setCell (p := ⟨rb, 3, none⟩) hrw (.int .i64 0)).setCell (p := ⟨rb, 4, none⟩) hrw (.slice none 0 0)).setCell (p := ⟨rb, 5, none⟩) hrw (.slice none 0 0)).setCell (p := ⟨rb, 6, none⟩) hrw (.slice none 0 0)).setCell (p := ⟨rb, 7, none⟩) hrw (.slice none 0 0)).setCell (p := ⟨rb, 8, none⟩) hrw (.slice none 0 0))⟩
  have h2 := (((((((((h.kr.set_ 0 (.int .i64 0)).set_ 1 (.int .i64 0)).set_ 2 (.int .i64 0)).set_ 3 (.int .i64 0)).set_ 4 (.slice none 0 0)).set_ 5 (.slice none 0 0)).set_ 6 (.slice none 0 0)).set_ 7 (.slice none 0 0)).set_ 8 (.slice none 0 0))
  simp only [List.setIfInBounds_toArray, List.set_cons_zero, List.set_cons_succ] at h2
  exact h2
theorem NwB.fcells (h : NwB w0 w s f fb rb) : w.cell? ⟨fb, 0, none⟩ = some (.int .i64 f.wide) ∧ w.cell? ⟨fb, 1, none⟩ = some (.int .i64 f.high) ∧ w.cell? ⟨fb, 2, none⟩ = some (.slice s.ground.A f.ground.length s.ground.c) ∧ w.cell? ⟨fb, 3, none⟩ = some (.slice s.ore.A f.ore.length s.ore.c) ∧ fb < w.heap.size ∧ rb < w.heap.size := ⟨h.kf.cell 0, h.kf.cell 1, h.kf.cell 2, h.kf.cell 3, h.kf.lt, h.kr.lt⟩
end
theorem repeat_any (b : Nat) (g n : Int) (w : World) (hn : 1 ≤ n ∧ n ≤ 4) (hb : Blk w b 3 #[.int .i64 g]) :
    Calls Tryd.prog 120 #[.slice (some ⟨b, 0, none⟩) 1 1, .int .i64 n] w fun e w' => ∃ v, e = .returned v ∧ w'.ownsRow w.heap.size 3 1 v n.toNat ((List.replicate n.toNat g).map (.int .i64)) ∧ Below w.heap.size w w' := by
  rcases (by omega : n = 1 ∨ n = 2 ∨ n = 3 ∨ n = 4) with rfl | rfl | rfl | rfl
  · exact repeat_1 b g w hb
  · exact repeat_2 b g w hb
  · exact repeat_3 b g w hb
  · exact repeat_4 b g w hb
theorem newX_wA (s' : SW) (f : GF) (n g : Int) : wA s' (newX f n g) = .agg #[.int .i64 0, .int .i64 1, .int .i64 f.wide, .int .i64 f.high, .slice s'.field.ground.A f.ground.length s'.field.ground.c, .slice s'.field.ore.A f.ore.length s'.field.ore.c, .slice s'.gold.A n.toNat s'.gold.c, .slice s'.units.A 0 s'.units.c, .slice s'.queue.A 0 s'.queue.c] := by
  have e : (newX f n g).gold.length = n.toNat := by simp [newX]
  have h : wA s' (newX f n g) = .agg #[.int .i64 0, .int .i64 1, .int .i64 f.wide, .int .i64 f.high, .slice s'.field.ground.A f.ground.length s'.field.ground.c, .slice s'.field.ore.A f.ore.length s'.field.ore.c, .slice s'.gold.A (newX f n g).gold.length s'.gold.c, .slice s'.units.A 0 s'.units.c, .slice s'.queue.A 0 s'.queue.c] := rfl
  rw [h, e]
set_option maxHeartbeats 6400000 in
set_option maxRecDepth 100000 in
theorem new_no (sK : SL) (L : List GK) (s : SF) (f : GF) (n g : Int) (w : World) (hK : KS w w.heap.size sK L) (hF : FOk w s f) (hne : newE L f n g ≠ 0) :
    Calls Tryd.prog 73 #[.slice sK.A L.length sK.c, .agg #[.int .i64 f.wide, .int .i64 f.high, .slice s.ground.A f.ground.length s.ground.c, .slice s.ore.A f.ore.length s.ore.c], .int .i64 n, .int .i64 g] w fun e w' => e = .returned (.tuple #[.agg #[.int .i64 0, .int .i64 0, .int .i64 0, .int .i64 0, .slice none 0 0, .slice none 0 0, .slice none 0 0, .slice none 0 0, .slice none 0 0], .iface 93 (.int .i64 (newE L f n g))]) ∧ Below w.heap.size w w' := by
  have hQ : ∀ w' E, newE L f n g = E → E ≠ 0 → Below w.heap.size w w' → Ending.returned (.tuple #[.agg #[.int .i64 0, .int .i64 0, .int .i64 0, .int .i64 0, .slice none 0 0, .slice none 0 0, .slice none 0 0, .slice none 0 0, .slice none 0 0], .iface 93 (.int .i64 E)]) = Ending.returned (.tuple #[.agg #[.int .i64 0, .int .i64 0, .int .i64 0, .int .i64 0, .slice none 0 0, .slice none 0 0, .slice none 0 0, .slice none 0 0, .slice none 0 0], .iface 93 (.int .i64 (newE L f n g))]) ∧ Below w.heap.size w w' := fun w' E h1 _ h2 => by rw [h1]; exact ⟨rfl, h2⟩
  have hE : newE L f n g = newE L f n g := rfl
  conv at hE => rhs; unfold newE
  replace hQ := Lib.hid hQ
  replace hE := Lib.hid hE
  have hX : NwB w ((w.alloc (.cells #[.int .i64 f.wide, .int .i64 f.high, .slice s.ground.A f.ground.length s.ground.c, .slice s.ore.A f.ore.length s.ore.c] 52)).alloc (.cells #[.int .i64 0, .int .i64 0, .int .i64 0, .int .i64 0, .slice none 0 0, .slice none 0 0, .slice none 0 0, .slice none 0 0, .slice none 0 0] 55)) s f w.heap.size (w.heap.size + 1) := by
    obtain ⟨hb1, hk1, hk2⟩ := two_boxes w 52 55 #[.int .i64 f.wide, .int .i64 f.high, .slice s.ground.A f.ground.length s.ground.c, .slice s.ore.A f.ore.length s.ore.c] #[.int .i64 0, .int .i64 0, .int .i64 0, .int .i64 0, .slice none 0 0, .slice none 0 0, .slice none 0 0, .slice none 0 0, .slice none 0 0]
    exact ⟨hb1, hk1, hk2, hF, Nat.le_refl _, by omega⟩
  replace hX := Lib.hid hX
  replace hK := Lib.hid hK
  clear hF
  go_enter Tryd.func73, Tryd.ntmps73
  go_upto_region 1 with fail
  generalize ((w.alloc (.cells #[.int .i64 f.wide, .int .i64 f.high, .slice s.ground.A f.ground.length s.ground.c, .slice s.ore.A f.ore.length s.ore.c] 52)).alloc (.cells #[.int .i64 0, .int .i64 0, .int .i64 0, .int .i64 0, .slice none 0 0, .slice none 0 0, .slice none 0 0, .slice none 0 0, .slice none 0 0] 55)) = W at *
  obtain ⟨fb, hfb⟩ : ∃ fb, w.heap.size = fb := ⟨_, rfl⟩
  obtain ⟨rb, hrb⟩ : ∃ rb, fb + 1 = rb := ⟨_, rfl⟩
  rw [hfb]
  try rw [hrb]
  replace hX : NwB w W s f fb rb := by rw [← hrb, ← hfb]; exact hX.out
  replace hX := Lib.hid hX
  replace hfb := Lib.hid hfb
  replace hrb := Lib.hid hrb
  obtain ⟨m0, m1, m2, m3, ml, mr⟩ := hX.out.fcells
  have hkc := kcheck_any sK L W.heap.size W ((hK.out.below hX.out.b).more hX.out.b.size) (Nat.le_refl _)
  by_cases z1 : kindsE L = 0
  case neg =>
    replace hE := hE.out
    rw [if_pos z1] at hE
    rw [errV_ne z1] at hkc
    generalize kindsE L = E at *
    replace hE := Lib.hid hE
    replace hkc := Lib.hid hkc
    replace z1 := Lib.hid z1
    go_wp2_with fail
    refine hkc.out.mono ?_
    clear hkc m0 m1 m2 m3 ml mr
    rintro e w2 ⟨rfl, hb2⟩
    replace hX := Lib.hid (hX.out.below hb2)
    clear hb2
    obtain ⟨r0, g0, r1, g1, r2, g2, r3, g3, r4, g4, r5, g5, r6, g6, r7, g7, r8, g8⟩ := hX.out.rcells
    obtain ⟨hzB, hbB⟩ := hX.out.zero
    replace hzB := Lib.hid hzB
    replace hbB := Lib.hid hbB
    go_wp2_with fail
    (try simp only [Exit.inBlock, Exit.then])
    refine bodyPost_ret (results_ct rfl _ _ rb _ #[.int .i64 0, .int .i64 0, .int .i64 0, .int .i64 0, .slice none 0 0, .slice none 0 0, .slice none 0 0, .slice none 0 0, .slice none 0 0] _ rfl hzB.out Tryd.underlying55 rfl (by kernel_rfl)) rfl ?_
    exact hQ.out _ E hE.out z1.out hbB.out
  rw [z1] at hkc
  replace hkc : Calls Tryd.prog 14 #[.slice sK.A L.length sK.c] W fun e w' => e = .returned .nilIface ∧ Below W.heap.size W w' := hkc
  replace hE := hE.out
  rw [if_neg (fun c => c z1)] at hE
  replace hE := Lib.hid hE
  replace hkc := Lib.hid hkc
  go_wp2_with fail
  refine hkc.out.mono ?_
  clear hkc m0 m1 m2 m3 ml mr
  rintro e w2 ⟨rfl, hb2⟩
  replace hX := Lib.hid (hX.out.below hb2)
  clear hb2
  obtain ⟨m0, m1, m2, m3, ml, mr⟩ := hX.out.fcells
  have hfc : Calls Tryd.prog 79 #[.agg #[.int .i64 f.wide, .int .i64 f.high, .slice s.ground.A f.ground.length s.ground.c, .slice s.ore.A f.ore.length s.ore.c]] w2 fun e w' => e = .returned (errV (fieldE f)) ∧ Below w2.heap.size w2 w' := fcheck_any s f w2 hX.out.fo_
  by_cases z2 : fieldE f = 0
  case neg =>
    replace hE := hE.out
    rw [if_pos z2] at hE
    rw [errV_ne z2] at hfc
    generalize fieldE f = E at *
    replace hE := Lib.hid hE
    replace hfc := Lib.hid hfc
    replace z2 := Lib.hid z2
    go_wp2_with fail
    refine hfc.out.mono ?_
    clear hfc m0 m1 m2 m3 ml mr
    rintro e w3 ⟨rfl, hb2⟩
    replace hX := Lib.hid (hX.out.below hb2)
    clear hb2
    obtain ⟨r0, g0, r1, g1, r2, g2, r3, g3, r4, g4, r5, g5, r6, g6, r7, g7, r8, g8⟩ := hX.out.rcells
    obtain ⟨hzB, hbB⟩ := hX.out.zero
    replace hzB := Lib.hid hzB
    replace hbB := Lib.hid hbB
    go_wp2_with fail
    (try simp only [Exit.inBlock, Exit.then])
    refine bodyPost_ret (results_ct rfl _ _ rb _ #[.int .i64 0, .int .i64 0, .int .i64 0, .int .i64 0, .slice none 0 0, .slice none 0 0, .slice none 0 0, .slice none 0 0, .slice none 0 0] _ rfl hzB.out Tryd.underlying55 rfl (by kernel_rfl)) rfl ?_
    exact hQ.out _ E hE.out z2.out hbB.out
  rw [z2] at hfc
  replace hfc : Calls Tryd.prog 79 #[.agg #[.int .i64 f.wide, .int .i64 f.high, .slice s.ground.A f.ground.length s.ground.c, .slice s.ore.A f.ore.length s.ore.c]] w2 fun e w' => e = .returned .nilIface ∧ Below w2.heap.size w2 w' := hfc
  replace hE := hE.out
  rw [if_neg (fun c => c z2)] at hE
  replace hE := Lib.hid hE
  replace hfc := Lib.hid hfc
  go_wp2_with fail
  refine hfc.out.mono ?_
  clear hfc m0 m1 m2 m3 ml mr
  rintro e w3 ⟨rfl, hb2⟩
  replace hX := Lib.hid (hX.out.below hb2)
  clear hb2
  obtain ⟨m0, m1, m2, m3, ml, mr⟩ := hX.out.fcells
  have hpl := players_any n w3
  have hnu := numb_any g w3
  have z3 : ¬ (1 ≤ n ∧ n ≤ 4 ∧ 0 ≤ g ∧ g ≤ 1000000) := fun c => hne (by have h := hE.out; rw [if_neg (fun d => d c)] at h; exact h)
  replace hE := hE.out
  rw [if_pos z3] at hE
  replace hE := Lib.hid hE
  by_cases z4 : 1 ≤ n ∧ n ≤ 4
  · have e1 : (decide (1 ≤ n) && decide (n ≤ 4)) = true := by rw [Bool.and_eq_true, decide_eq_true_iff, decide_eq_true_iff]; exact z4
    have e2 : numB g = false := by unfold numB; rw [decide_eq_false_iff_not]; omega
    rw [e1] at hpl
    rw [e2] at hnu
    replace hpl := Lib.hid hpl
    replace hnu := Lib.hid hnu
    clear e1 e2
    go_upto_region 8 with (first | (go_at_call 81; refine hpl.out.mono ?_; rintro e w' ⟨rfl, rfl⟩) | (go_at_call 80; refine hnu.out.mono ?_; rintro e w' ⟨rfl, rfl⟩))
    clear m0 m1 m2 m3 ml mr
    obtain ⟨r0, g0, r1, g1, r2, g2, r3, g3, r4, g4, r5, g5, r6, g6, r7, g7, r8, g8⟩ := hX.out.rcells
    obtain ⟨hzB, hbB⟩ := hX.out.zero
    replace hzB := Lib.hid hzB
    replace hbB := Lib.hid hbB
    go_wp2_with fail
    (try simp only [Exit.inBlock, Exit.then])
    refine bodyPost_ret (results_ct rfl _ _ rb _ #[.int .i64 0, .int .i64 0, .int .i64 0, .int .i64 0, .slice none 0 0, .slice none 0 0, .slice none 0 0, .slice none 0 0, .slice none 0 0] _ rfl hzB.out Tryd.underlying55 rfl (by kernel_rfl)) rfl ?_
    exact hQ.out _ 1 hE.out (by decide) hbB.out
  · have e1 : (decide (1 ≤ n) && decide (n ≤ 4)) = false := by rw [Bool.and_eq_false_iff, decide_eq_false_iff_not, decide_eq_false_iff_not]; omega
    rw [e1] at hpl
    replace hpl := Lib.hid hpl
    clear e1
    go_upto_region 8 with (go_at_call 81; refine hpl.out.mono ?_; rintro e w' ⟨rfl, rfl⟩)
    clear m0 m1 m2 m3 ml mr
    obtain ⟨r0, g0, r1, g1, r2, g2, r3, g3, r4, g4, r5, g5, r6, g6, r7, g7, r8, g8⟩ := hX.out.rcells
    obtain ⟨hzB, hbB⟩ := hX.out.zero
    replace hzB := Lib.hid hzB
    replace hbB := Lib.hid hbB
    go_wp2_with fail
    (try simp only [Exit.inBlock, Exit.then])
    refine bodyPost_ret (results_ct rfl _ _ rb _ #[.int .i64 0, .int .i64 0, .int .i64 0, .int .i64 0, .slice none 0 0, .slice none 0 0, .slice none 0 0, .slice none 0 0, .slice none 0 0] _ rfl hzB.out Tryd.underlying55 rfl (by kernel_rfl)) rfl ?_
    exact hQ.out _ 1 hE.out (by decide) hbB.out
set_option maxHeartbeats 6400000 in
set_option maxRecDepth 100000 in
theorem new_ok (sK : SL) (L : List GK) (s : SF) (f : GF) (n g : Int) (w : World) (hK : KS w w.heap.size sK L) (hF : FOk w s f) (h0 : newE L f n g = 0) :
    Calls Tryd.prog 73 #[.slice sK.A L.length sK.c, .agg #[.int .i64 f.wide, .int .i64 f.high, .slice s.ground.A f.ground.length s.ground.c, .slice s.ore.A f.ore.length s.ore.c], .int .i64 n, .int .i64 g] w fun e w' => ∃ s', e = .returned (.tuple #[wA s' (newX f n g), .nilIface]) ∧ WOwn w' (w.heap.size + 2) s' (newX f n g) ∧ Below w.heap.size w w' := by
  have hX : NwB w ((w.alloc (.cells #[.int .i64 f.wide, .int .i64 f.high, .slice s.ground.A f.ground.length s.ground.c, .slice s.ore.A f.ore.length s.ore.c] 52)).alloc (.cells #[.int .i64 0, .int .i64 0, .int .i64 0, .int .i64 0, .slice none 0 0, .slice none 0 0, .slice none 0 0, .slice none 0 0, .slice none 0 0] 55)) s f w.heap.size (w.heap.size + 1) := by
    obtain ⟨hb1, hk1, hk2⟩ := two_boxes w 52 55 #[.int .i64 f.wide, .int .i64 f.high, .slice s.ground.A f.ground.length s.ground.c, .slice s.ore.A f.ore.length s.ore.c] #[.int .i64 0, .int .i64 0, .int .i64 0, .int .i64 0, .slice none 0 0, .slice none 0 0, .slice none 0 0, .slice none 0 0, .slice none 0 0]
    exact ⟨hb1, hk1, hk2, hF, Nat.le_refl _, by omega⟩
  replace hX := Lib.hid hX
  replace hK := Lib.hid hK
  have z : kindsE L = 0 ∧ fieldE f = 0 ∧ (1 ≤ n ∧ n ≤ 4 ∧ 0 ≤ g ∧ g ≤ 1000000) := by
    unfold newE at h0
    by_cases z1 : kindsE L = 0
    · rw [if_neg (fun c => c z1)] at h0
      by_cases z2 : fieldE f = 0
      · rw [if_neg (fun c => c z2)] at h0
        by_cases z3 : (1 ≤ n ∧ n ≤ 4 ∧ 0 ≤ g ∧ g ≤ 1000000)
        · exact ⟨z1, z2, z3⟩
        · rw [if_pos z3] at h0; cases h0
      · rw [if_pos z2] at h0; exact absurd h0 z2
    · rw [if_pos z1] at h0; exact absurd h0 z1
  obtain ⟨z1, z2, z3⟩ := z
  have hfl := (good_of f z2).len
  replace hfl := Lib.hid hfl
  have hfi : I64 f.wide ∧ I64 f.high ∧ (∀ n ∈ f.ground, I64 n) ∧ (∀ n ∈ f.ore, I64 n) := ⟨hF.1, hF.2.1, hF.2.2.1.2.2.2.2, hF.2.2.2.2.2.2.2⟩
  replace hfi := Lib.hid hfi
  clear h0
  clear hF
  go_enter Tryd.func73, Tryd.ntmps73
  go_upto_region 1 with fail
  generalize ((w.alloc (.cells #[.int .i64 f.wide, .int .i64 f.high, .slice s.ground.A f.ground.length s.ground.c, .slice s.ore.A f.ore.length s.ore.c] 52)).alloc (.cells #[.int .i64 0, .int .i64 0, .int .i64 0, .int .i64 0, .slice none 0 0, .slice none 0 0, .slice none 0 0, .slice none 0 0, .slice none 0 0] 55)) = W at *
  obtain ⟨fb, hfb⟩ : ∃ fb, w.heap.size = fb := ⟨_, rfl⟩
  obtain ⟨rb, hrb⟩ : ∃ rb, fb + 1 = rb := ⟨_, rfl⟩
  rw [hfb]
  try rw [hrb]
  replace hX : NwB w W s f fb rb := by rw [← hrb, ← hfb]; exact hX.out
  replace hX := Lib.hid hX
  replace hfb := Lib.hid hfb
  replace hrb := Lib.hid hrb
  obtain ⟨m0, m1, m2, m3, ml, mr⟩ := hX.out.fcells
  have hkc := kcheck_any sK L W.heap.size W ((hK.out.below hX.out.b).more hX.out.b.size) (Nat.le_refl _)
  rw [z1] at hkc
  replace hkc : Calls Tryd.prog 14 #[.slice sK.A L.length sK.c] W fun e w' => e = .returned .nilIface ∧ Below W.heap.size W w' := hkc
  replace hkc := Lib.hid hkc
  go_wp2_with fail
  refine hkc.out.mono ?_
  clear hkc m0 m1 m2 m3 ml mr
  rintro e w2 ⟨rfl, hb2⟩
  replace hX := Lib.hid (hX.out.below hb2)
  clear hb2
  obtain ⟨m0, m1, m2, m3, ml, mr⟩ := hX.out.fcells
  have hfc : Calls Tryd.prog 79 #[.agg #[.int .i64 f.wide, .int .i64 f.high, .slice s.ground.A f.ground.length s.ground.c, .slice s.ore.A f.ore.length s.ore.c]] w2 fun e w' => e = .returned (errV (fieldE f)) ∧ Below w2.heap.size w2 w' := fcheck_any s f w2 hX.out.fo_
  rw [z2] at hfc
  replace hfc : Calls Tryd.prog 79 #[.agg #[.int .i64 f.wide, .int .i64 f.high, .slice s.ground.A f.ground.length s.ground.c, .slice s.ore.A f.ore.length s.ore.c]] w2 fun e w' => e = .returned .nilIface ∧ Below w2.heap.size w2 w' := hfc
  replace hfc := Lib.hid hfc
  replace z1 := Lib.hid z1
  replace z2 := Lib.hid z2
  go_wp2_with fail
  refine hfc.out.mono ?_
  clear hfc m0 m1 m2 m3 ml mr
  rintro e w3 ⟨rfl, hb2⟩
  replace hX := Lib.hid (hX.out.below hb2)
  clear hb2
  obtain ⟨m0, m1, m2, m3, ml, mr⟩ := hX.out.fcells
  have hpl := players_any n w3
  have hnu := numb_any g w3
  have e1 : (decide (1 ≤ n) && decide (n ≤ 4)) = true := by rw [Bool.and_eq_true, decide_eq_true_iff, decide_eq_true_iff]; omega
  have e2 : numB g = true := by unfold numB; rw [decide_eq_true_iff]; omega
  rw [e1] at hpl
  rw [e2] at hnu
  replace hpl := Lib.hid hpl
  replace hnu := Lib.hid hnu
  clear e1 e2
  go_upto_region 9 with (first | (go_at_call 81; refine hpl.out.mono ?_; rintro e w' ⟨rfl, rfl⟩) | (go_at_call 80; refine hnu.out.mono ?_; rintro e w' ⟨rfl, rfl⟩))
  clear hpl hnu m0 m1 m2 m3 ml mr
  refine wp_region_noPanic ?_
  refine wp_region_twoC (fun wz => wz.cell? ⟨fb, 0, none⟩ = some (.int .i64 f.wide) ∧ wz.cell? ⟨fb, 1, none⟩ = some (.int .i64 f.high) ∧ wz.cell? ⟨fb, 2, none⟩ = some (.slice s.ground.A f.ground.length s.ground.c) ∧ wz.cell? ⟨fb, 3, none⟩ = some (.slice s.ore.A f.ore.length s.ore.c)) 7 2 (by kernel_rfl) rfl (by kernel_rfl) ?_
  have hHeld : (fun wz => wz.cell? ⟨fb, 0, none⟩ = some (.int .i64 f.wide) ∧ wz.cell? ⟨fb, 1, none⟩ = some (.int .i64 f.high) ∧ wz.cell? ⟨fb, 2, none⟩ = some (.slice s.ground.A f.ground.length s.ground.c) ∧ wz.cell? ⟨fb, 3, none⟩ = some (.slice s.ore.A f.ore.length s.ore.c)) w3.drew := ⟨hX.out.kf.cell 0, hX.out.kf.cell 1, hX.out.kf.cell 2, hX.out.kf.cell 3⟩
  replace hX := Lib.hid (hX.out.drewN 1)
  refine wpAnyH_take (i := 0) (oi := _) (v := ?_) rfl (by kernel_rfl) (by kernel_rfl) (by kernel_rfl) (fun _ _ _ h => h) (Or.inl ⟨by rfl, ?_⟩) hHeld ?_
  rotate_left
  · intro w' hSw
    try dsimp only at hSw
    first | (go_simp; done) | (go_simp; with_reducible rfl)
  try simp only [Act.put]
  try simp only [List.setIfInBounds_toArray]
  try simp only [List.set_cons_succ, List.set_cons_zero]
  try simp only [List.getElem_toArray]
  try simp only [List.getElem_cons_succ]
  try simp only [List.getElem_cons_zero]
  refine wpAnyH_take (i := 1) (oi := _) (v := ?_) rfl (by kernel_rfl) (by kernel_rfl) (by kernel_rfl) (fun _ _ _ h => h) (Or.inl ⟨by rfl, ?_⟩) hHeld ?_
  rotate_left
  · intro w' hSw
    try dsimp only at hSw
    first | (go_simp; done) | (go_simp; with_reducible rfl)
  try simp only [Act.put]
  try simp only [List.setIfInBounds_toArray]
  try simp only [List.set_cons_succ, List.set_cons_zero]
  try simp only [List.getElem_toArray]
  try simp only [List.getElem_cons_succ]
  try simp only [List.getElem_cons_zero]
  refine wpAnyH_take (i := 3) (oi := _) (v := ?_) rfl (by kernel_rfl) (by kernel_rfl) (by kernel_rfl) (fun _ _ _ h => h) (Or.inl ⟨by rfl, ?_⟩) hHeld ?_
  rotate_left
  · intro w' hSw
    try dsimp only at hSw
    first | (go_simp; done) | (go_simp; with_reducible rfl)
  try simp only [Act.put]
  try simp only [List.setIfInBounds_toArray]
  try simp only [List.set_cons_succ, List.set_cons_zero]
  try simp only [List.getElem_toArray]
  try simp only [List.getElem_cons_succ]
  try simp only [List.getElem_cons_zero]
  refine wpAnyH_ready (rs := [2]) (by kernel_rfl) (by simp) ?_
  refine AllReadyH.cons (o := _) rfl (fun K hK => ?_) AllReadyH.nil
  go_simp
  have hXn := hX.out.below ((Below.refl _ _).alloc (Nat.le_refl _) (.cells #[.int .i64 g] 3))
  have hbk : Blk (w3.drew.alloc (.cells #[.int .i64 g] 3)) w3.drew.heap.size 3 #[.int .i64 g] := Blk.new _ _ _
  clear hX hHeld
  have hX := Lib.hid hXn
  replace hbk := Lib.hid hbk
  clear hXn
  refine hK.out _ _ ⟨hX.out.kf.cell 0, hX.out.kf.cell 1, hX.out.kf.cell 2, hX.out.kf.cell 3⟩ (fun hHeld => ?_)
  clear hK K
  try simp only [Act.put]
  try simp only [List.setIfInBounds_toArray]
  try simp only [List.set_cons_succ, List.set_cons_zero]
  try simp only [List.getElem_toArray]
  try simp only [List.getElem_cons_succ]
  try simp only [List.getElem_cons_zero]
  have hrp := repeat_any w3.drew.heap.size g n (w3.drew.alloc (.cells #[.int .i64 g] 3)) ⟨z3.1, z3.2.1⟩ hbk.out
  replace hrp := Lib.hid hrp
  refine wpAnyH_ready (rs := [4]) (by kernel_rfl) (by simp) ?_
  refine AllReadyH.cons (o := { dst := some 38, op := .call { callee := .value (.func 120), args := #[.tmp 36, .tmp 37], argTypes := #[34, 3] }, type := _, pos := _, after := _, guard := none }) rfl (fun K hK => ?_) AllReadyH.nil
  go_simp
  refine hrp.out.mono ?_
  clear hrp hbk
  rintro e w4 ⟨v, rfl, ho, hb4⟩
  have hXn := hX.out.below hb4
  obtain ⟨U, c, rfl, _⟩ := own_slice ho
  clear hX hHeld hb4
  have hX := Lib.hid hXn
  clear hXn
  have hWn : WOk w4 ⟨s, ⟨U, c⟩, ⟨none, 0⟩, ⟨none, 0⟩⟩ (newX f n g) := by
    have hfo := hX.out.fo_
    have hnl : (List.replicate n.toNat g).length = n.toNat := by simp
    refine ⟨by unfold newX I64; simp, by unfold newX I64; simp, hfo, ?_, ?_, ?_⟩
    · exact sli_of_own (by rw [show (newX f n g).gold.length = n.toNat from hnl]; exact ho) (fun y hy => by
        have : y ∈ List.replicate n.toNat g := hy
        rw [List.mem_replicate] at this
        rw [this.2]; unfold I64; omega)
    · exact ⟨RD.nil_, fun _ => rfl, by simp [newX], by simp [maxLen], by simp [newX]⟩
    · exact ⟨RD.nil_, fun _ => rfl, by simp [newX], by simp [maxLen], by simp [newX]⟩
  clear ho
  have hcl : Calls Tryd.prog 77 #[.agg #[.int .i64 0, .int .i64 1, .int .i64 f.wide, .int .i64 f.high, .slice s.ground.A f.ground.length s.ground.c, .slice s.ore.A f.ore.length s.ore.c, .slice U n.toNat c, .slice none 0 0, .slice none 0 0]] w4 fun e w' => ∃ s', e = .returned (.agg #[.int .i64 0, .int .i64 1, .int .i64 f.wide, .int .i64 f.high, .slice s'.field.ground.A f.ground.length s'.field.ground.c, .slice s'.field.ore.A f.ore.length s'.field.ore.c, .slice s'.gold.A n.toNat s'.gold.c, .slice s'.units.A 0 s'.units.c, .slice s'.queue.A 0 s'.queue.c]) ∧ WOwn w' (w4.heap.size + 2) s' (newX f n g) ∧ Below w4.heap.size w4 w' := by
    have h := wclone_any ⟨s, ⟨U, c⟩, ⟨none, 0⟩, ⟨none, 0⟩⟩ (newX f n g) w4 hWn (by have := hfl.out; show f.ground.length ≤ _; omega) (by have := hfl.out; show f.ore.length ≤ _; omega) (by unfold newX; simp; omega) (by simp [newX]) (by simp [newX])
    rw [newX_wA] at h
    refine h.mono ?_
    rintro e w' ⟨s', rfl, h1, h2⟩
    exact ⟨s', by rw [newX_wA], h1, h2⟩
  replace hcl := Lib.hid hcl
  clear hWn
  refine hK.out _ _ ⟨hX.out.kf.cell 0, hX.out.kf.cell 1, hX.out.kf.cell 2, hX.out.kf.cell 3⟩ (fun hHeld => ?_)
  clear hK K
  try simp only [Act.put]
  try simp only [List.setIfInBounds_toArray]
  try simp only [List.set_cons_succ, List.set_cons_zero]
  try simp only [List.getElem_toArray]
  try simp only [List.getElem_cons_succ]
  try simp only [List.getElem_cons_zero]
  refine wpAnyH_take (i := 5) (oi := _) (v := ?_) rfl (by kernel_rfl) (by kernel_rfl) (by kernel_rfl) (fun _ _ _ h => h) (Or.inl ⟨by rfl, ?_⟩) hHeld ?_
  rotate_left
  · intro w' hSw
    try dsimp only at hSw
    first | (go_simp; done) | (go_simp; with_reducible rfl)
  try simp only [Act.put]
  try simp only [List.setIfInBounds_toArray]
  try simp only [List.set_cons_succ, List.set_cons_zero]
  try simp only [List.getElem_toArray]
  try simp only [List.getElem_cons_succ]
  try simp only [List.getElem_cons_zero]
  have hszr : w.heap.size + 2 ≤ w4.heap.size + 2 := by have := hX.out.b.size; omega
  replace hszr := Lib.hid hszr
  refine wpAnyH_ready (rs := [6]) (by kernel_rfl) (by simp) ?_
  refine AllReadyH.cons (o := { dst := some 40, op := .call { callee := .value (.func 77), args := #[.tmp 39], argTypes := #[55] }, type := _, pos := _, after := _, guard := none }) rfl (fun K hK => ?_) AllReadyH.nil
  go_simp
  refine hcl.out.mono ?_
  clear hcl
  rintro e w5 ⟨s', rfl, hO, hb5⟩
  have hXn := hX.out.below hb5
  have hrz : w4.heap.size + 2 ≤ w4.heap.size + 2 := Nat.le_refl _
  have hrl : rb < w4.heap.size := hX.out.kr.lt
  replace hrl := Lib.hid hrl
  clear hX hHeld hb5 hrz
  have hX := Lib.hid hXn
  replace hO := Lib.hid hO
  clear hXn
  refine hK.out _ _ ⟨hX.out.kf.cell 0, hX.out.kf.cell 1, hX.out.kf.cell 2, hX.out.kf.cell 3⟩ (fun hHeld => ?_)
  clear hK K
  try simp only [Act.put]
  try simp only [List.setIfInBounds_toArray]
  try simp only [List.set_cons_succ, List.set_cons_zero]
  try simp only [List.getElem_toArray]
  try simp only [List.getElem_cons_succ]
  try simp only [List.getElem_cons_zero]
  refine wpAnyH_done (by kernel_rfl) ?_ _
  refine wpAny_of_held (S := fun _ => True) _ _ _ _ ?_
  clear hHeld
  obtain ⟨r0, g0, r1, g1, r2, g2, r3, g3, r4, g4, r5, g5, r6, g6, r7, g7, r8, g8⟩ := hX.out.rcells
  have hrl5 := hX.out.kr.lt
  have hrw : w.heap.size ≤ rb := by have := hX.out.p1; have := hX.out.p2; omega
  have hzB : Blk (((((((((w5.setCell ⟨rb, 0, none⟩ (.int .i64 0)).setCell ⟨rb, 1, none⟩ (.int .i64 1)).setCell ⟨rb, 2, none⟩ (.int .i64 f.wide)).setCell ⟨rb, 3, none⟩ (.int .i64 f.high)).setCell ⟨rb, 4, none⟩ (.slice s'.field.ground.A f.ground.length s'.field.ground.c)).setCell ⟨rb, 5, none⟩ (.slice s'.field.ore.A f.ore.length s'.field.ore.c)).setCell ⟨rb, 6, none⟩ (.slice s'.gold.A n.toNat s'.gold.c)).setCell ⟨rb, 7, none⟩ (.slice s'.units.A 0 s'.units.c)).setCell ⟨rb, 8, none⟩ (.slice s'.queue.A 0 s'.queue.c)) rb 55 #[.int .i64 0, .int .i64 1, .int .i64 f.wide, .int .i64 f.high, .slice s'.field.ground.A f.ground.length s'.field.ground.c, .slice s'.field.ore.A f.ore.length s'.field.ore.c, .slice s'.gold.A n.toNat s'.gold.c, .slice s'.units.A 0 s'.units.c, .slice s'.queue.A 0 s'.queue.c] := by
    have h := (((((((((hX.out.kr.set_ 0 (.int .i64 0)).set_ 1 (.int .i64 1)).set_ 2 (.int .i64 f.wide)).set_ 3 (.int .i64 f.high)).set_ 4 (.slice s'.field.ground.A f.ground.length s'.field.ground.c)).set_ 5 (.slice s'.field.ore.A f.ore.length s'.field.ore.c)).set_ 6 (.slice s'.gold.A n.toNat s'.gold.c)).set_ 7 (.slice s'.units.A 0 s'.units.c)).set_ 8 (.slice s'.queue.A 0 s'.queue.c))
    simp only [List.setIfInBounds_toArray, List.set_cons_zero, List.set_cons_succ] at h
    exact h
  have hbB : Below w.heap.size w (((((((((w5.setCell ⟨rb, 0, none⟩ (.int .i64 0)).setCell ⟨rb, 1, none⟩ (.int .i64 1)).setCell ⟨rb, 2, none⟩ (.int .i64 f.wide)).setCell ⟨rb, 3, none⟩ (.int .i64 f.high)).setCell ⟨rb, 4, none⟩ (.slice s'.field.ground.A f.ground.length s'.field.ground.c)).setCell ⟨rb, 5, none⟩ (.slice s'.field.ore.A f.ore.length s'.field.ore.c)).setCell ⟨rb, 6, none⟩ (.slice s'.gold.A n.toNat s'.gold.c)).setCell ⟨rb, 7, none⟩ (.slice s'.units.A 0 s'.units.c)).setCell ⟨rb, 8, none⟩ (.slice s'.queue.A 0 s'.queue.c)) := (((((((((hX.out.b.setCell (p := ⟨rb, 0, none⟩) hrw (.int .i64 0)).setCell (p := ⟨rb, 1, none⟩) hrw (.int .i64 1)).setCell (p := ⟨rb, 2, none⟩) hrw (.int .i64 f.wide)).setCell (p := ⟨rb, 3, none⟩) hrw (.int .i64 f.high)).setCell (p := ⟨rb, 4, none⟩) hrw (.slice s'.field.ground.A f.ground.length s'.field.ground.c)).setCell (p := ⟨rb, 5, none⟩) hrw (.slice s'.field.ore.A f.ore.length s'.field.ore.c)).setCell (p := ⟨rb, 6, none⟩) hrw (.slice s'.gold.A n.toNat s'.gold.c)).setCell (p := ⟨rb, 7, none⟩) hrw (.slice s'.units.A 0 s'.units.c)).setCell (p := ⟨rb, 8, none⟩) hrw (.slice s'.queue.A 0 s'.queue.c))
  have hOB : WOwn (((((((((w5.setCell ⟨rb, 0, none⟩ (.int .i64 0)).setCell ⟨rb, 1, none⟩ (.int .i64 1)).setCell ⟨rb, 2, none⟩ (.int .i64 f.wide)).setCell ⟨rb, 3, none⟩ (.int .i64 f.high)).setCell ⟨rb, 4, none⟩ (.slice s'.field.ground.A f.ground.length s'.field.ground.c)).setCell ⟨rb, 5, none⟩ (.slice s'.field.ore.A f.ore.length s'.field.ore.c)).setCell ⟨rb, 6, none⟩ (.slice s'.gold.A n.toNat s'.gold.c)).setCell ⟨rb, 7, none⟩ (.slice s'.units.A 0 s'.units.c)).setCell ⟨rb, 8, none⟩ (.slice s'.queue.A 0 s'.queue.c)) (w4.heap.size + 2) s' (newX f n g) := (WOwn.farW (b := rb) (i := 8) (u := .slice s'.queue.A 0 s'.queue.c) (WOwn.farW (b := rb) (i := 7) (u := .slice s'.units.A 0 s'.units.c) (WOwn.farW (b := rb) (i := 6) (u := .slice s'.gold.A n.toNat s'.gold.c) (WOwn.farW (b := rb) (i := 5) (u := .slice s'.field.ore.A f.ore.length s'.field.ore.c) (WOwn.farW (b := rb) (i := 4) (u := .slice s'.field.ground.A f.ground.length s'.field.ground.c) (WOwn.farW (b := rb) (i := 3) (u := .int .i64 f.high) (WOwn.farW (b := rb) (i := 2) (u := .int .i64 f.wide) (WOwn.farW (b := rb) (i := 1) (u := .int .i64 1) (WOwn.farW (b := rb) (i := 0) (u := .int .i64 0) hO.out (by have := hrl.out; omega)) (by have := hrl.out; omega)) (by have := hrl.out; omega)) (by have := hrl.out; omega)) (by have := hrl.out; omega)) (by have := hrl.out; omega)) (by have := hrl.out; omega)) (by have := hrl.out; omega)) (by have := hrl.out; omega))
  replace hzB := Lib.hid hzB
  replace hbB := Lib.hid hbB
  replace hOB := Lib.hid hOB
  refine wpAnyH_ready (rs := [7]) (by kernel_rfl) (by simp) ?_
  refine AllReadyH.cons (o := _) rfl (fun K hK => ?_) AllReadyH.nil
  go_simp
  refine hK.out _ _ trivial (fun _ => ?_)
  clear hK K
  try simp only [Act.put]
  try simp only [List.setIfInBounds_toArray]
  try simp only [List.set_cons_succ, List.set_cons_zero]
  try simp only [List.getElem_toArray]
  try simp only [List.getElem_cons_succ]
  try simp only [List.getElem_cons_zero]
  refine wpAnyH_take (i := 8) (oi := _) (v := ?_) rfl (by kernel_rfl) (by kernel_rfl) (by kernel_rfl) (fun _ _ _ h => h) (Or.inl ⟨by rfl, ?_⟩) trivial ?_
  rotate_left
  · intro w' hSw
    try dsimp only at hSw
    first | (go_simp; done) | (go_simp; with_reducible rfl)
  try simp only [Act.put]
  try simp only [List.setIfInBounds_toArray]
  try simp only [List.set_cons_succ, List.set_cons_zero]
  try simp only [List.getElem_toArray]
  try simp only [List.getElem_cons_succ]
  try simp only [List.getElem_cons_zero]
  refine wpAnyH_done (by kernel_rfl) ?_ _
  refine NoPanic.normal ?_
  go_wp2_with fail
  refine bodyPost_ret (results_ct rfl _ _ rb _ #[.int .i64 0, .int .i64 1, .int .i64 f.wide, .int .i64 f.high, .slice s'.field.ground.A f.ground.length s'.field.ground.c, .slice s'.field.ore.A f.ore.length s'.field.ore.c, .slice s'.gold.A n.toNat s'.gold.c, .slice s'.units.A 0 s'.units.c, .slice s'.queue.A 0 s'.queue.c] _ rfl hzB.out Tryd.underlying55 rfl (by kernel_rfl)) rfl ?_
  exact ⟨s', by rw [newX_wA]; rfl, hOB.out.base hszr.out, hbB.out⟩
end Go.Proofs.YtkgkpggfoieioaaDoor
