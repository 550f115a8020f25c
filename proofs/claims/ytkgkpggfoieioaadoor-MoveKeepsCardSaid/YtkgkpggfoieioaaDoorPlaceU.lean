import Derived.Test.YtkgkpggfoieioaaDoorAdd
namespace Go.Proofs.YtkgkpggfoieioaaDoor
set_option linter.unusedVariables false
open Go.RowKit
/-! world.Place. -/
theorem results_ct {P : Program} {fn : Func} {p u : Tmp} {ty : TypeId} (h : fn.results = #[.cell p ty, .tmp u]) (tmps : Array Value) (w : World) (g : Nat) (t : TypeId) (cs : Array Value) (d : TypeDesc)
    (hp : tmps.getD p undef = .pointer (some ⟨g, 0, none⟩)) (hg : w.heap[g]? = some (.cells cs t (0, 0)))
    (hu : P.underlying ty = some d) (hd : (match d with | .struct _ | .array _ _ => true | _ => false) = true) (hi : (P.info? ty).map (·.size) = some cs.size) :
    (results fn tmps).run P w = .ok (.tuple #[.agg cs, tmps.getD u undef]) w := by
  have hp' : tmps[p]?.getD undef = .pointer (some ⟨g, 0, none⟩) := by simpa using hp
  simp [results, h, hp', asAddr, run_loadVar_row w g t ty cs (0, 0) d hg hu hd hi]
def placeE (L : List GK) (x : GW) (p k a : Int) : Int :=
  if worldE L x ≠ 0 then worldE L x
  else if ¬ (x.units.length < 40 ∧ x.next < 1000000) then 4
  else if p < 0 ∨ (x.gold.length : Int) ≤ p ∨ k < 0 ∨ (L.length : Int) ≤ k then 1
  else if a < 0 ∨ (x.field.ground.length : Int) ≤ a then 6
  else if ontoL x.field a.toNat (gk L k.toNat).flies = 0 ∨ 0 ≤ onI x.units a then 7
  else 0
section
variable {w0 w w' : World} {s : SW} {x : GW} {wb rb : Nat}
theorem CW.rcells {cs : Array Value} (h : CW w0 w s x wb rb cs) : w.cell? ⟨rb, 0, none⟩ = some (.int .i64 0) ∧ w.frozen? ⟨rb, 0, none⟩ = false ∧ w.cell? ⟨rb, 1, none⟩ = some (.int .i64 0) ∧ w.frozen? ⟨rb, 1, none⟩ = false ∧ w.cell? ⟨rb, 2, none⟩ = some (.int .i64 0) ∧ w.frozen? ⟨rb, 2, none⟩ = false ∧ w.cell? ⟨rb, 3, none⟩ = some (.int .i64 0) ∧ w.frozen? ⟨rb, 3, none⟩ = false ∧ w.cell? ⟨rb, 4, none⟩ = some (.slice none 0 0) ∧ w.frozen? ⟨rb, 4, none⟩ = false ∧ w.cell? ⟨rb, 5, none⟩ = some (.slice none 0 0) ∧ w.frozen? ⟨rb, 5, none⟩ = false ∧ w.cell? ⟨rb, 6, none⟩ = some (.slice none 0 0) ∧ w.frozen? ⟨rb, 6, none⟩ = false ∧ w.cell? ⟨rb, 7, none⟩ = some (.slice none 0 0) ∧ w.frozen? ⟨rb, 7, none⟩ = false ∧ w.cell? ⟨rb, 8, none⟩ = some (.slice none 0 0) ∧ w.frozen? ⟨rb, 8, none⟩ = false := ⟨h.kr.cell 0, h.kr.frozen 0, h.kr.cell 1, h.kr.frozen 1, h.kr.cell 2, h.kr.frozen 2, h.kr.cell 3, h.kr.frozen 3, h.kr.cell 4, h.kr.frozen 4, h.kr.cell 5, h.kr.frozen 5, h.kr.cell 6, h.kr.frozen 6, h.kr.cell 7, h.kr.frozen 7, h.kr.cell 8, h.kr.frozen 8⟩
theorem CW.zero {cs : Array Value} (h : CW w0 w s x wb rb cs) : Blk (((((((((w.setCell ⟨rb, 0, none⟩ (.int .i64 0)).setCell ⟨rb, 1, none⟩ (.int .i64 0)).setCell ⟨rb, 2, none⟩ (.int .i64 0)).setCell ⟨rb, 3, none⟩ (.int .i64 0)).setCell ⟨rb, 4, none⟩ (.slice none 0 0)).setCell ⟨rb, 5, none⟩ (.slice none 0 0)).setCell ⟨rb, 6, none⟩ (.slice none 0 0)).setCell ⟨rb, 7, none⟩ (.slice none 0 0)).setCell ⟨rb, 8, none⟩ (.slice none 0 0)) rb 55 #[.int .i64 0, .int .i64 0, .int .i64 0, .int .i64 0, .slice none 0 0, .slice none 0 0, .slice none 0 0, .slice none 0 0, .slice none 0 0] ∧ Below w0.heap.size w0 (((((((((w.setCell ⟨rb, 0, none⟩ (.int .i64 0)).setCell ⟨rb, 1, none⟩ (.int .i64 0)).setCell ⟨rb, 2, none⟩ (.int .i64 0)).setCell ⟨rb, 3, none⟩ (.int .i64 0)).setCell ⟨rb, 4, none⟩ (.slice none 0 0)).setCell ⟨rb, 5, none⟩ (.slice none 0 0)).setCell ⟨rb, 6, none⟩ (.slice none 0 0)).setCell ⟨rb, 7, none⟩ (.slice none 0 0)).setCell ⟨rb, 8, none⟩ (.slice none 0 0)) := by
  have hrw : w0.heap.size ≤ rb := by have := h.p1; have := h.p2; omega
  refine ⟨?_, (((((((((h.b.setCell (p := ⟨rb, 0, none⟩) hrw (.int .i64 0)).setCell (p := ⟨rb, 1, none⟩) hrw (.int .i64 0)).setCell (p := ⟨rb, 2, none⟩) hrw (.int .i64 0)).setCell (p := ⟨rb, 3, none⟩) hrw (.int .i64 0)).setCell (p := ⟨rb, 4, none⟩) hrw (.slice none 0 0)).setCell (p := ⟨rb, 5, none⟩) hrw (.slice none 0 0)).setCell (p := ⟨rb, 6, none⟩) hrw (.slice none 0 0)).setCell (p := ⟨rb, 7, none⟩) hrw (.slice none 0 0)).setCell (p := ⟨rb, 8, none⟩) hrw (.slice none 0 0))⟩
  have h2 := (((((((((h.kr.set_ 0 (.int .i64 0)).set_ 1 (.int .i64 0)).set_ 2 (.int .i64 0)).set_ 3 (.int .i64 0)).set_ 4 (.slice none 0 0)).set_ 5 (.slice none 0 0)).set_ 6 (.slice none 0 0)).set_ 7 (.slice none 0 0)).set_ 8 (.slice none 0 0))
  simp only [List.setIfInBounds_toArray, List.set_cons_zero, List.set_cons_succ] at h2
  exact h2
theorem CW.wo_ {cs : Array Value} (h : CW w0 w s x wb rb cs) : WOk w s x := h.wo.below h.b
theorem CW.wcells (h : CW w0 w s x wb rb (wC s x)) : w.cell? ⟨wb, 0, none⟩ = some (.int .i64 x.turn) ∧ w.cell? ⟨wb, 1, none⟩ = some (.int .i64 x.next) ∧ w.cell? ⟨wb, 2, none⟩ = some (.int .i64 x.field.wide) ∧ w.cell? ⟨wb, 3, none⟩ = some (.int .i64 x.field.high) ∧ w.cell? ⟨wb, 4, none⟩ = some (.slice s.field.ground.A x.field.ground.length s.field.ground.c) ∧ w.cell? ⟨wb, 5, none⟩ = some (.slice s.field.ore.A x.field.ore.length s.field.ore.c) ∧ w.cell? ⟨wb, 6, none⟩ = some (.slice s.gold.A x.gold.length s.gold.c) ∧ w.cell? ⟨wb, 7, none⟩ = some (.slice s.units.A x.units.length s.units.c) ∧ w.cell? ⟨wb, 8, none⟩ = some (.slice s.queue.A x.queue.length s.queue.c) ∧ wb < w.heap.size ∧ rb < w.heap.size :=
  ⟨h.kw.cell 0, h.kw.cell 1, h.kw.cell 2, h.kw.cell 3, h.kw.cell 4, h.kw.cell 5, h.kw.cell 6, h.kw.cell 7, h.kw.cell 8, h.kw.lt, h.kr.lt⟩
end
set_option maxHeartbeats 12800000 in
set_option maxRecDepth 100000 in
theorem place_no (sK : SL) (L : List GK) (s : SW) (x : GW) (p k a : Int) (w : World) (hK : KS w w.heap.size sK L) (hW : WOk w s x) (hne : placeE L x p k a ≠ 0) :
    Calls Tryd.prog 27 #[.slice sK.A L.length sK.c, wA s x, .int .i64 p, .int .i64 k, .int .i64 a] w fun e w' => e = .returned (.tuple #[.agg #[.int .i64 0, .int .i64 0, .int .i64 0, .int .i64 0, .slice none 0 0, .slice none 0 0, .slice none 0 0, .slice none 0 0, .slice none 0 0], .iface 93 (.int .i64 (placeE L x p k a))]) ∧ Below w.heap.size w w' := by
  obtain ⟨sA, sc⟩ := sK
  have hQ : ∀ w' E, placeE L x p k a = E → E ≠ 0 → Below w.heap.size w w' → Ending.returned (.tuple #[.agg #[.int .i64 0, .int .i64 0, .int .i64 0, .int .i64 0, .slice none 0 0, .slice none 0 0, .slice none 0 0, .slice none 0 0, .slice none 0 0], .iface 93 (.int .i64 E)]) = Ending.returned (.tuple #[.agg #[.int .i64 0, .int .i64 0, .int .i64 0, .int .i64 0, .slice none 0 0, .slice none 0 0, .slice none 0 0, .slice none 0 0, .slice none 0 0], .iface 93 (.int .i64 (placeE L x p k a))]) ∧ Below w.heap.size w w' := fun w' E h1 _ h2 => by rw [h1]; exact ⟨rfl, h2⟩
  have hE : placeE L x p k a = placeE L x p k a := rfl
  conv at hE => rhs; unfold placeE
  have hX : CW w ((w.alloc (.cells #[.int .i64 x.turn, .int .i64 x.next, .int .i64 x.field.wide, .int .i64 x.field.high, .slice s.field.ground.A x.field.ground.length s.field.ground.c, .slice s.field.ore.A x.field.ore.length s.field.ore.c, .slice s.gold.A x.gold.length s.gold.c, .slice s.units.A x.units.length s.units.c, .slice s.queue.A x.queue.length s.queue.c] 55)).alloc (.cells #[.int .i64 0, .int .i64 0, .int .i64 0, .int .i64 0, .slice none 0 0, .slice none 0 0, .slice none 0 0, .slice none 0 0, .slice none 0 0] 55)) s x w.heap.size (w.heap.size + 1) #[.int .i64 x.turn, .int .i64 x.next, .int .i64 x.field.wide, .int .i64 x.field.high, .slice s.field.ground.A x.field.ground.length s.field.ground.c, .slice s.field.ore.A x.field.ore.length s.field.ore.c, .slice s.gold.A x.gold.length s.gold.c, .slice s.units.A x.units.length s.units.c, .slice s.queue.A x.queue.length s.queue.c] := by
    obtain ⟨hb1, hk1, hk2⟩ := two_boxes w 55 55 #[.int .i64 x.turn, .int .i64 x.next, .int .i64 x.field.wide, .int .i64 x.field.high, .slice s.field.ground.A x.field.ground.length s.field.ground.c, .slice s.field.ore.A x.field.ore.length s.field.ore.c, .slice s.gold.A x.gold.length s.gold.c, .slice s.units.A x.units.length s.units.c, .slice s.queue.A x.queue.length s.queue.c] #[.int .i64 0, .int .i64 0, .int .i64 0, .int .i64 0, .slice none 0 0, .slice none 0 0, .slice none 0 0, .slice none 0 0, .slice none 0 0]
    exact ⟨hb1, hk1, hk2, hW, Nat.le_refl _, by omega⟩
  have hcap := hK.cap
  have hmx := hK.max
  have hul := hW.ulen
  dsimp only at hcap hmx ⊢
  replace hX := Lib.hid hX
  replace hK := Lib.hid hK
  replace hQ := Lib.hid hQ
  replace hE := Lib.hid hE
  clear hW
  go_enter Tryd.func27, Tryd.ntmps27
  go_upto_region 1 with fail
  generalize ((w.alloc (.cells #[.int .i64 x.turn, .int .i64 x.next, .int .i64 x.field.wide, .int .i64 x.field.high, .slice s.field.ground.A x.field.ground.length s.field.ground.c, .slice s.field.ore.A x.field.ore.length s.field.ore.c, .slice s.gold.A x.gold.length s.gold.c, .slice s.units.A x.units.length s.units.c, .slice s.queue.A x.queue.length s.queue.c] 55)).alloc (.cells #[.int .i64 0, .int .i64 0, .int .i64 0, .int .i64 0, .slice none 0 0, .slice none 0 0, .slice none 0 0, .slice none 0 0, .slice none 0 0] 55)) = W at *
  obtain ⟨wb, hwb⟩ : ∃ wb, w.heap.size = wb := ⟨_, rfl⟩
  obtain ⟨rb, hrb⟩ : ∃ rb, wb + 1 = rb := ⟨_, rfl⟩
  rw [hwb]
  try rw [hrb]
  replace hX : CW w W s x wb rb #[.int .i64 x.turn, .int .i64 x.next, .int .i64 x.field.wide, .int .i64 x.field.high, .slice s.field.ground.A x.field.ground.length s.field.ground.c, .slice s.field.ore.A x.field.ore.length s.field.ore.c, .slice s.gold.A x.gold.length s.gold.c, .slice s.units.A x.units.length s.units.c, .slice s.queue.A x.queue.length s.queue.c] := by rw [← hrb, ← hwb]; exact hX.out
  replace hX := Lib.hid hX
  replace hwb := Lib.hid hwb
  replace hrb := Lib.hid hrb
  obtain ⟨m0, m1, m2, m3, m4, m5, m6, m7, m8, mll, rll⟩ := hX.out.wcells
  have hwc := wcheck_any ⟨sA, sc⟩ L s x W ((hK.out.below hX.out.b).more hX.out.b.size) hX.out.wo_
  by_cases hw0 : worldE L x = 0
  case neg =>
    replace hE := hE.out
    rw [if_pos hw0] at hE
    rw [errV_ne hw0] at hwc
    generalize worldE L x = E at *
    replace hwc := Lib.hid hwc
    replace hE := Lib.hid hE
    replace hw0 := Lib.hid hw0
    go_wp2_with fail
    refine hwc.out.mono ?_
    clear hwc m0 m1 m2 m3 m4 m5 m6 m7 m8 mll rll
    rintro e w2 ⟨rfl, hb2⟩
    replace hX := Lib.hid (hX.out.below hb2)
    clear hb2
    obtain ⟨r0, g0, r1, g1, r2, g2, r3, g3, r4, g4, r5, g5, r6, g6, r7, g7, r8, g8⟩ := hX.out.rcells
    obtain ⟨hzB, hbB⟩ := hX.out.zero
    replace hzB := Lib.hid hzB
    replace hbB := Lib.hid hbB
    go_wp2_with fail
    (try simp only [Exit.inBlock, Exit.then])
    refine bodyPost_ret (results_ct rfl _ _ rb _ #[.int .i64 0, .int .i64 0, .int .i64 0, .int .i64 0, .slice none 0 0, .slice none 0 0, .slice none 0 0, .slice none 0 0, .slice none 0 0] _ rfl hzB.out Tryd.underlying55 rfl (by kernel_rfl)) rfl ?_
    exact hQ.out _ E hE.out hw0.out hbB.out
  rw [hw0] at hwc
  replace hwc : Calls Tryd.prog 28 #[.slice sA L.length sc, wA s x] W fun e w' => e = .returned .nilIface ∧ Below W.heap.size W w' := hwc
  have hok := worldE_0 hw0
  have hh := headE_ok hok.head
  replace hE := hE.out
  rw [if_neg (fun c => c hw0)] at hE
  replace hE := Lib.hid hE
  replace hwc := Lib.hid hwc
  replace hok := Lib.hid hok
  go_wp2_with fail
  refine hwc.out.mono ?_
  clear hwc m0 m1 m2 m3 m4 m5 m6 m7 m8 mll rll
  rintro e w2 ⟨rfl, hb2⟩
  replace hX := Lib.hid (hX.out.below hb2)
  clear hb2
  obtain ⟨m0, m1, m2, m3, m4, m5, m6, m7, m8, mll, rll⟩ := hX.out.wcells
  have hro := room_any s x w2 hX.out.wo_
  by_cases hr : x.units.length < 40 ∧ x.next < 1000000
  case neg =>
    have hrv : (decide (x.units.length < 40) && decide (x.next < 1000000)) = false := by
      rw [Bool.and_eq_false_iff, decide_eq_false_iff_not, decide_eq_false_iff_not]; omega
    rw [hrv] at hro
    replace hE := hE.out
    rw [if_pos hr] at hE
    replace hE := Lib.hid hE
    replace hro := Lib.hid hro
    replace hrv := Lib.hid hrv
    go_wp2_with fail
    refine hro.out.mono ?_
    clear hro m0 m1 m2 m3 m4 m5 m6 m7 m8 mll rll
    rintro e w3 ⟨rfl, hb3⟩
    replace hX := Lib.hid (hX.out.below hb3)
    clear hb3
    obtain ⟨r0, g0, r1, g1, r2, g2, r3, g3, r4, g4, r5, g5, r6, g6, r7, g7, r8, g8⟩ := hX.out.rcells
    obtain ⟨hzB, hbB⟩ := hX.out.zero
    replace hzB := Lib.hid hzB
    replace hbB := Lib.hid hbB
    go_wp2_with fail
    (try simp only [Exit.inBlock, Exit.then])
    refine bodyPost_ret (results_ct rfl _ _ rb _ #[.int .i64 0, .int .i64 0, .int .i64 0, .int .i64 0, .slice none 0 0, .slice none 0 0, .slice none 0 0, .slice none 0 0, .slice none 0 0] _ rfl hzB.out Tryd.underlying55 rfl (by kernel_rfl)) rfl ?_
    exact hQ.out _ 4 hE.out (by decide) hbB.out
  have hrv : (decide (x.units.length < 40) && decide (x.next < 1000000)) = true := by
    rw [Bool.and_eq_true, decide_eq_true_iff, decide_eq_true_iff]; exact hr
  rw [hrv] at hro
  replace hE := hE.out
  rw [if_neg (fun c => c hr)] at hE
  replace hE := Lib.hid hE
  replace hro := Lib.hid hro
  replace hrv := Lib.hid hrv
  go_wp2_with fail
  refine hro.out.mono ?_
  clear hro m0 m1 m2 m3 m4 m5 m6 m7 m8 mll rll
  rintro e w3 ⟨rfl, hb3⟩
  replace hX := Lib.hid (hX.out.below hb3)
  clear hb3
  obtain ⟨m0, m1, m2, m3, m4, m5, m6, m7, m8, mll, rll⟩ := hX.out.wcells
  by_cases f1 : p < 0
  · have df1 : decide (p < 0) = true := decide_eq_true f1
    replace hE := hE.out
    rw [if_pos (.inl f1)] at hE
    replace hE := Lib.hid hE
    obtain ⟨r0, g0, r1, g1, r2, g2, r3, g3, r4, g4, r5, g5, r6, g6, r7, g7, r8, g8⟩ := hX.out.rcells
    obtain ⟨hzB, hbB⟩ := hX.out.zero
    replace hzB := Lib.hid hzB
    replace hbB := Lib.hid hbB
    go_wp2_with fail
    (try simp only [Exit.inBlock, Exit.then])
    refine bodyPost_ret (results_ct rfl _ _ rb _ #[.int .i64 0, .int .i64 0, .int .i64 0, .int .i64 0, .slice none 0 0, .slice none 0 0, .slice none 0 0, .slice none 0 0, .slice none 0 0] _ rfl hzB.out Tryd.underlying55 rfl (by kernel_rfl)) rfl ?_
    exact hQ.out _ 1 hE.out (by decide) hbB.out
  have df1 : decide (p < 0) = false := decide_eq_false f1
  by_cases f2 : (x.gold.length : Int) ≤ p
  · have df2 : decide ((x.gold.length : Int) ≤ p) = true := decide_eq_true f2
    replace hE := hE.out
    rw [if_pos (.inr (.inl f2))] at hE
    replace hE := Lib.hid hE
    obtain ⟨r0, g0, r1, g1, r2, g2, r3, g3, r4, g4, r5, g5, r6, g6, r7, g7, r8, g8⟩ := hX.out.rcells
    obtain ⟨hzB, hbB⟩ := hX.out.zero
    replace hzB := Lib.hid hzB
    replace hbB := Lib.hid hbB
    go_wp2_with fail
    (try simp only [Exit.inBlock, Exit.then])
    refine bodyPost_ret (results_ct rfl _ _ rb _ #[.int .i64 0, .int .i64 0, .int .i64 0, .int .i64 0, .slice none 0 0, .slice none 0 0, .slice none 0 0, .slice none 0 0, .slice none 0 0] _ rfl hzB.out Tryd.underlying55 rfl (by kernel_rfl)) rfl ?_
    exact hQ.out _ 1 hE.out (by decide) hbB.out
  have df2 : decide ((x.gold.length : Int) ≤ p) = false := decide_eq_false f2
  by_cases f3 : k < 0
  · have df3 : decide (k < 0) = true := decide_eq_true f3
    replace hE := hE.out
    rw [if_pos (.inr (.inr (.inl f3)))] at hE
    replace hE := Lib.hid hE
    obtain ⟨r0, g0, r1, g1, r2, g2, r3, g3, r4, g4, r5, g5, r6, g6, r7, g7, r8, g8⟩ := hX.out.rcells
    obtain ⟨hzB, hbB⟩ := hX.out.zero
    replace hzB := Lib.hid hzB
    replace hbB := Lib.hid hbB
    go_wp2_with fail
    (try simp only [Exit.inBlock, Exit.then])
    refine bodyPost_ret (results_ct rfl _ _ rb _ #[.int .i64 0, .int .i64 0, .int .i64 0, .int .i64 0, .slice none 0 0, .slice none 0 0, .slice none 0 0, .slice none 0 0, .slice none 0 0] _ rfl hzB.out Tryd.underlying55 rfl (by kernel_rfl)) rfl ?_
    exact hQ.out _ 1 hE.out (by decide) hbB.out
  have df3 : decide (k < 0) = false := decide_eq_false f3
  by_cases f4 : (L.length : Int) ≤ k
  · have df4 : decide ((L.length : Int) ≤ k) = true := decide_eq_true f4
    replace hE := hE.out
    rw [if_pos (.inr (.inr (.inr f4)))] at hE
    replace hE := Lib.hid hE
    obtain ⟨r0, g0, r1, g1, r2, g2, r3, g3, r4, g4, r5, g5, r6, g6, r7, g7, r8, g8⟩ := hX.out.rcells
    obtain ⟨hzB, hbB⟩ := hX.out.zero
    replace hzB := Lib.hid hzB
    replace hbB := Lib.hid hbB
    go_wp2_with fail
    (try simp only [Exit.inBlock, Exit.then])
    refine bodyPost_ret (results_ct rfl _ _ rb _ #[.int .i64 0, .int .i64 0, .int .i64 0, .int .i64 0, .slice none 0 0, .slice none 0 0, .slice none 0 0, .slice none 0 0, .slice none 0 0] _ rfl hzB.out Tryd.underlying55 rfl (by kernel_rfl)) rfl ?_
    exact hQ.out _ 1 hE.out (by decide) hbB.out
  have df4 : decide ((L.length : Int) ≤ k) = false := decide_eq_false f4
  replace hE := hE.out
  rw [if_neg (by omega)] at hE
  replace hE := Lib.hid hE
  by_cases g1' : a < 0
  · have dg1 : decide (a < 0) = true := decide_eq_true g1'
    replace hE := hE.out
    rw [if_pos (.inl g1')] at hE
    replace hE := Lib.hid hE
    obtain ⟨r0, g0, r1, g1, r2, g2, r3, g3, r4, g4, r5, g5, r6, g6, r7, g7, r8, g8⟩ := hX.out.rcells
    obtain ⟨hzB, hbB⟩ := hX.out.zero
    replace hzB := Lib.hid hzB
    replace hbB := Lib.hid hbB
    go_wp2_with fail
    (try simp only [Exit.inBlock, Exit.then])
    refine bodyPost_ret (results_ct rfl _ _ rb _ #[.int .i64 0, .int .i64 0, .int .i64 0, .int .i64 0, .slice none 0 0, .slice none 0 0, .slice none 0 0, .slice none 0 0, .slice none 0 0] _ rfl hzB.out Tryd.underlying55 rfl (by kernel_rfl)) rfl ?_
    exact hQ.out _ 6 hE.out (by decide) hbB.out
  have dg1 : decide (a < 0) = false := decide_eq_false g1'
  by_cases g2' : (x.field.ground.length : Int) ≤ a
  · have dg2 : decide ((x.field.ground.length : Int) ≤ a) = true := decide_eq_true g2'
    replace hE := hE.out
    rw [if_pos (.inr g2')] at hE
    replace hE := Lib.hid hE
    obtain ⟨r0, g0, r1, g1, r2, g2, r3, g3, r4, g4, r5, g5, r6, g6, r7, g7, r8, g8⟩ := hX.out.rcells
    obtain ⟨hzB, hbB⟩ := hX.out.zero
    replace hzB := Lib.hid hzB
    replace hbB := Lib.hid hbB
    go_wp2_with fail
    (try simp only [Exit.inBlock, Exit.then])
    refine bodyPost_ret (results_ct rfl _ _ rb _ #[.int .i64 0, .int .i64 0, .int .i64 0, .int .i64 0, .slice none 0 0, .slice none 0 0, .slice none 0 0, .slice none 0 0, .slice none 0 0] _ rfl hzB.out Tryd.underlying55 rfl (by kernel_rfl)) rfl ?_
    exact hQ.out _ 6 hE.out (by decide) hbB.out
  have dg2 : decide ((x.field.ground.length : Int) ≤ a) = false := decide_eq_false g2'
  replace hE := hE.out
  rw [if_neg (by omega)] at hE
  replace hE := Lib.hid hE
  obtain ⟨kd, rfl⟩ : ∃ kd : Nat, k = (kd : Int) := ⟨k.toNat, by omega⟩
  obtain ⟨sp, rfl⟩ : ∃ sp : Nat, a = (sp : Int) := ⟨a.toNat, by omega⟩
  have hkd : kd < L.length := by omega
  have hsp : sp < x.field.ground.length := by omega
  have hkdi : (kd : Int) < (L.length : Int) := by omega
  obtain ⟨bk, okk, hAk, hbk, _, _, _, _, _, _, _, _, _, k9, _⟩ := rk_at (hK.out.rd.below hX.out.b) kd hkd
  dsimp only at hAk
  subst hAk
  replace hE := hE.out
  rw [Int.toNat_natCast, Int.toNat_natCast] at hE
  obtain ⟨ov, hov⟩ : ∃ ov, ontoL x.field sp (gk L kd).flies = ov := ⟨_, rfl⟩
  obtain ⟨oi, hoi⟩ : ∃ oi, onI x.units (sp : Int) = oi := ⟨_, rfl⟩
  rw [hov, hoi] at hE
  obtain ⟨kf, hkf⟩ : ∃ kf, (gk L kd).flies = kf := ⟨_, rfl⟩
  rw [hkf] at hov k9
  replace hkf := Lib.hid hkf
  replace hE := Lib.hid hE
  have hS : ∀ wz, CW w wz s x wb rb #[.int .i64 x.turn, .int .i64 x.next, .int .i64 x.field.wide, .int .i64 x.field.high, .slice s.field.ground.A x.field.ground.length s.field.ground.c, .slice s.field.ore.A x.field.ore.length s.field.ore.c, .slice s.gold.A x.gold.length s.gold.c, .slice s.units.A x.units.length s.units.c, .slice s.queue.A x.queue.length s.queue.c] → (wz.cell? ⟨wb, 0, none⟩ = some (.int .i64 x.turn) ∧ wz.cell? ⟨wb, 1, none⟩ = some (.int .i64 x.next) ∧ wz.cell? ⟨wb, 2, none⟩ = some (.int .i64 x.field.wide) ∧ wz.cell? ⟨wb, 3, none⟩ = some (.int .i64 x.field.high) ∧ wz.cell? ⟨wb, 4, none⟩ = some (.slice s.field.ground.A x.field.ground.length s.field.ground.c) ∧ wz.cell? ⟨wb, 5, none⟩ = some (.slice s.field.ore.A x.field.ore.length s.field.ore.c) ∧ wz.cell? ⟨wb, 6, none⟩ = some (.slice s.gold.A x.gold.length s.gold.c) ∧ wz.cell? ⟨wb, 7, none⟩ = some (.slice s.units.A x.units.length s.units.c) ∧ wz.cell? ⟨wb, 8, none⟩ = some (.slice s.queue.A x.queue.length s.queue.c) ∧ wz.cell? ⟨bk, okk + kd * 11 + 9, none⟩ = some (.bool kf)) := fun wz h => by
    obtain ⟨m0, m1, m2, m3, m4, m5, m6, m7, m8, _, _⟩ := h.wcells
    obtain ⟨b', o', hA', _, _, _, _, _, _, _, _, _, _, k9, _⟩ := rk_at (hK.out.rd.below h.b) kd hkd
    dsimp only at hA'
    injection hA' with hA'
    injection hA' with e3 e4
    subst e3; subst e4
    rw [hkf.out] at k9
    exact ⟨m0, m1, m2, m3, m4, m5, m6, m7, m8, k9⟩
  have hon : ∀ wz, CW w wz s x wb rb #[.int .i64 x.turn, .int .i64 x.next, .int .i64 x.field.wide, .int .i64 x.field.high, .slice s.field.ground.A x.field.ground.length s.field.ground.c, .slice s.field.ore.A x.field.ore.length s.field.ore.c, .slice s.gold.A x.gold.length s.gold.c, .slice s.units.A x.units.length s.units.c, .slice s.queue.A x.queue.length s.queue.c] → Calls Tryd.prog 75 #[.agg #[.int .i64 x.field.wide, .int .i64 x.field.high, .slice s.field.ground.A x.field.ground.length s.field.ground.c, .slice s.field.ore.A x.field.ore.length s.field.ore.c], .int .i64 (sp : Int), .bool kf] wz fun e w' => e = .returned (.int .i64 ov) ∧ CW w w' s x wb rb #[.int .i64 x.turn, .int .i64 x.next, .int .i64 x.field.wide, .int .i64 x.field.high, .slice s.field.ground.A x.field.ground.length s.field.ground.c, .slice s.field.ore.A x.field.ore.length s.field.ore.c, .slice s.gold.A x.gold.length s.gold.c, .slice s.units.A x.units.length s.units.c, .slice s.queue.A x.queue.length s.queue.c] := fun wz h => by
    have := onto_any s.field x.field sp kf wz h.wo_.2.2.1 hsp
    rw [hov] at this
    exact this.mono fun _ _ ⟨h1, h2⟩ => ⟨h1, h.below h2⟩
  have hoc : ∀ wz, CW w wz s x wb rb #[.int .i64 x.turn, .int .i64 x.next, .int .i64 x.field.wide, .int .i64 x.field.high, .slice s.field.ground.A x.field.ground.length s.field.ground.c, .slice s.field.ore.A x.field.ore.length s.field.ore.c, .slice s.gold.A x.gold.length s.gold.c, .slice s.units.A x.units.length s.units.c, .slice s.queue.A x.queue.length s.queue.c] → Calls Tryd.prog 76 #[.agg #[.int .i64 x.turn, .int .i64 x.next, .int .i64 x.field.wide, .int .i64 x.field.high, .slice s.field.ground.A x.field.ground.length s.field.ground.c, .slice s.field.ore.A x.field.ore.length s.field.ore.c, .slice s.gold.A x.gold.length s.gold.c, .slice s.units.A x.units.length s.units.c, .slice s.queue.A x.queue.length s.queue.c], .int .i64 (sp : Int)] wz fun e w' => e = .returned (.int .i64 oi) ∧ CW w w' s x wb rb #[.int .i64 x.turn, .int .i64 x.next, .int .i64 x.field.wide, .int .i64 x.field.high, .slice s.field.ground.A x.field.ground.length s.field.ground.c, .slice s.field.ore.A x.field.ore.length s.field.ore.c, .slice s.gold.A x.gold.length s.gold.c, .slice s.units.A x.units.length s.units.c, .slice s.queue.A x.queue.length s.queue.c] := fun wz h => by
    have := on_any s x (sp : Int) wz h.wo_
    rw [hoi] at this
    exact this.mono fun _ _ ⟨h1, h2⟩ => ⟨h1, h.below h2⟩
  replace hov := Lib.hid hov
  replace hoi := Lib.hid hoi
  replace hS := Lib.hid hS
  replace hon := Lib.hid hon
  replace hoc := Lib.hid hoc
  by_cases z0 : ov = 0
  · subst z0
    replace hE := hE.out
    rw [if_pos (.inl rfl)] at hE
    replace hE := Lib.hid hE
    go_upto_region 10 with fail
    clear m0 m1 m2 m3 m4 m5 m6 m7 m8 mll rll
    clear k9
    refine wp_region_noPanic ?_
    have hX1 := hX.out.drewN 1
    clear hX
    have hX := Lib.hid hX1
    clear hX1
    refine wp_region_held_drew (S := fun wz => wz.cell? ⟨wb, 0, none⟩ = some (.int .i64 x.turn) ∧ wz.cell? ⟨wb, 1, none⟩ = some (.int .i64 x.next) ∧ wz.cell? ⟨wb, 2, none⟩ = some (.int .i64 x.field.wide) ∧ wz.cell? ⟨wb, 3, none⟩ = some (.int .i64 x.field.high) ∧ wz.cell? ⟨wb, 4, none⟩ = some (.slice s.field.ground.A x.field.ground.length s.field.ground.c) ∧ wz.cell? ⟨wb, 5, none⟩ = some (.slice s.field.ore.A x.field.ore.length s.field.ore.c) ∧ wz.cell? ⟨wb, 6, none⟩ = some (.slice s.gold.A x.gold.length s.gold.c) ∧ wz.cell? ⟨wb, 7, none⟩ = some (.slice s.units.A x.units.length s.units.c) ∧ wz.cell? ⟨wb, 8, none⟩ = some (.slice s.queue.A x.queue.length s.queue.c) ∧ wz.cell? ⟨bk, okk + kd * 11 + 9, none⟩ = some (.bool kf)) (by kernel_rfl) (hS.out _ hX.out) (fun hHeld => ?_)
    refine wpAnyH_take (i := 0) (oi := _) (v := ?_) rfl (by kernel_rfl) (by kernel_rfl) (by kernel_rfl) (fun _ _ _ h => h) (Or.inl ⟨by rfl, ?_⟩) (by assumption) ?_
    rotate_left
    · intro w' hSw
      try dsimp only at hSw
      first | (go_simp; done) | (go_simp; with_reducible rfl)
    try simp only [Act.put]
    try simp only [List.setIfInBounds_toArray]
    try simp only [List.set_cons_succ, List.set_cons_zero]
    try simp only [List.getElem_toArray]
    try simp only [List.getElem_cons_succ]
    try simp only [List.getElem_cons_zero]
    refine wpAnyH_take (i := 1) (oi := _) (v := ?_) rfl (by kernel_rfl) (by kernel_rfl) (by kernel_rfl) (fun _ _ _ h => h) (Or.inl ⟨by rfl, ?_⟩) (by assumption) ?_
    rotate_left
    · intro w' hSw
      try dsimp only at hSw
      first | (go_simp; done) | (go_simp; with_reducible rfl)
    try simp only [Act.put]
    try simp only [List.setIfInBounds_toArray]
    try simp only [List.set_cons_succ, List.set_cons_zero]
    try simp only [List.getElem_toArray]
    try simp only [List.getElem_cons_succ]
    try simp only [List.getElem_cons_zero]
    refine wpAnyH_take (i := 2) (oi := _) (v := ?_) rfl (by kernel_rfl) (by kernel_rfl) (by kernel_rfl) (fun _ _ _ h => h) (Or.inl ⟨by rfl, ?_⟩) (by assumption) ?_
    rotate_left
    · intro w' hSw
      try dsimp only at hSw
      first | (go_simp; done) | (go_simp; with_reducible rfl)
    try simp only [Act.put]
    try simp only [List.setIfInBounds_toArray]
    try simp only [List.set_cons_succ, List.set_cons_zero]
    try simp only [List.getElem_toArray]
    try simp only [List.getElem_cons_succ]
    try simp only [List.getElem_cons_zero]
    refine wpAnyH_take (i := 3) (oi := _) (v := ?_) rfl (by kernel_rfl) (by kernel_rfl) (by kernel_rfl) (fun _ _ _ h => h) (Or.inl ⟨by rfl, ?_⟩) (by assumption) ?_
    rotate_left
    · intro w' hSw
      try dsimp only at hSw
      first | (go_simp; done) | (go_simp; with_reducible rfl)
    try simp only [Act.put]
    try simp only [List.setIfInBounds_toArray]
    try simp only [List.set_cons_succ, List.set_cons_zero]
    try simp only [List.getElem_toArray]
    try simp only [List.getElem_cons_succ]
    try simp only [List.getElem_cons_zero]
    refine wpAnyH_take (i := 4) (oi := _) (v := ?_) rfl (by kernel_rfl) (by kernel_rfl) (by kernel_rfl) (fun _ _ _ h => h) (Or.inl ⟨by rfl, ?_⟩) (by assumption) ?_
    rotate_left
    · intro w' hSw
      try dsimp only at hSw
      first | (go_simp; done) | (go_simp; with_reducible rfl)
    try simp only [Act.put]
    try simp only [List.setIfInBounds_toArray]
    try simp only [List.set_cons_succ, List.set_cons_zero]
    try simp only [List.getElem_toArray]
    try simp only [List.getElem_cons_succ]
    try simp only [List.getElem_cons_zero]
    refine wpAnyH_take (i := 5) (oi := _) (v := ?_) rfl (by kernel_rfl) (by kernel_rfl) (by kernel_rfl) (fun _ _ _ h => h) (Or.inl ⟨by rfl, ?_⟩) (by assumption) ?_
    rotate_left
    · intro w' hSw
      try dsimp only at hSw
      first | (go_simp; done) | (go_simp; with_reducible rfl)
    try simp only [Act.put]
    try simp only [List.setIfInBounds_toArray]
    try simp only [List.set_cons_succ, List.set_cons_zero]
    try simp only [List.getElem_toArray]
    try simp only [List.getElem_cons_succ]
    try simp only [List.getElem_cons_zero]
    refine wpAnyH_take (i := 6) (oi := _) (v := ?_) rfl (by kernel_rfl) (by kernel_rfl) (by kernel_rfl) (fun _ _ _ h => h) (Or.inl ⟨by rfl, ?_⟩) (by assumption) ?_
    rotate_left
    · intro w' hSw
      try dsimp only at hSw
      first | (go_simp; done) | (go_simp; with_reducible rfl)
    try simp only [Act.put]
    try simp only [List.setIfInBounds_toArray]
    try simp only [List.set_cons_succ, List.set_cons_zero]
    try simp only [List.getElem_toArray]
    try simp only [List.getElem_cons_succ]
    try simp only [List.getElem_cons_zero]
    refine wpAnyH_take (i := 7) (oi := _) (v := ?_) rfl (by kernel_rfl) (by kernel_rfl) (by kernel_rfl) (fun _ _ _ h => h) (Or.inl ⟨by rfl, ?_⟩) (by assumption) ?_
    rotate_left
    · intro w' hSw
      try dsimp only at hSw
      first | (go_simp; done) | (go_simp; with_reducible rfl)
    try simp only [Act.put]
    try simp only [List.setIfInBounds_toArray]
    try simp only [List.set_cons_succ, List.set_cons_zero]
    try simp only [List.getElem_toArray]
    try simp only [List.getElem_cons_succ]
    try simp only [List.getElem_cons_zero]
    refine wpAnyH_ready (rs := [8]) (by kernel_rfl) (by simp) ?_
    refine AllReadyH.cons (o := { dst := some 70, op := .call { callee := .value (.func 75), args := #[.tmp 63, .tmp 64, .tmp 69], argTypes := #[52, 3, 4] }, type := _, pos := _, after := _, guard := none }) rfl (fun K hK => ?_) AllReadyH.nil
    go_simp
    refine (hon.out _ hX.out).mono ?_
    rintro e w5 ⟨rfl, hX2⟩
    clear hHeld hX
    have hX := Lib.hid hX2
    clear hX2
    refine hK.out _ _ (hS.out _ hX.out) (fun hHeld => ?_)
    clear hK K
    try simp only [Act.put]
    try simp only [List.setIfInBounds_toArray]
    try simp only [List.set_cons_succ, List.set_cons_zero]
    try simp only [List.getElem_toArray]
    try simp only [List.getElem_cons_succ]
    try simp only [List.getElem_cons_zero]
    refine wpAnyH_take (i := 9) (oi := _) (v := ?_) rfl (by kernel_rfl) (by kernel_rfl) (by kernel_rfl) (fun _ _ _ h => h) (Or.inl ⟨by rfl, ?_⟩) (by assumption) ?_
    rotate_left
    · intro w' hSw
      try dsimp only at hSw
      first | (go_simp; done) | (go_simp; with_reducible rfl)
    try simp only [Act.put]
    try simp only [List.setIfInBounds_toArray]
    try simp only [List.set_cons_succ, List.set_cons_zero]
    try simp only [List.getElem_toArray]
    try simp only [List.getElem_cons_succ]
    try simp only [List.getElem_cons_zero]
    refine wpAnyH_take (i := 10) (oi := _) (v := ?_) rfl (by kernel_rfl) (by kernel_rfl) (by kernel_rfl) (fun _ _ _ h => h) (Or.inl ⟨by rfl, ?_⟩) (by assumption) ?_
    rotate_left
    · intro w' hSw
      try dsimp only at hSw
      first | (go_simp; done) | (go_simp; with_reducible rfl)
    try simp only [Act.put]
    try simp only [List.setIfInBounds_toArray]
    try simp only [List.set_cons_succ, List.set_cons_zero]
    try simp only [List.getElem_toArray]
    try simp only [List.getElem_cons_succ]
    try simp only [List.getElem_cons_zero]
    refine wpAnyH_take (i := 11) (oi := _) (v := undef) rfl (by kernel_rfl) (by kernel_rfl) (by kernel_rfl) (fun _ _ _ h => h) (Or.inr ⟨by rfl, rfl⟩) (by assumption) ?_
    try simp only [Act.put]
    try simp only [List.setIfInBounds_toArray]
    try simp only [List.set_cons_succ, List.set_cons_zero]
    try simp only [List.getElem_toArray]
    try simp only [List.getElem_cons_succ]
    try simp only [List.getElem_cons_zero]
    refine wpAnyH_take (i := 12) (oi := _) (v := undef) rfl (by kernel_rfl) (by kernel_rfl) (by kernel_rfl) (fun _ _ _ h => h) (Or.inr ⟨by rfl, rfl⟩) (by assumption) ?_
    try simp only [Act.put]
    try simp only [List.setIfInBounds_toArray]
    try simp only [List.set_cons_succ, List.set_cons_zero]
    try simp only [List.getElem_toArray]
    try simp only [List.getElem_cons_succ]
    try simp only [List.getElem_cons_zero]
    refine wpAnyH_take (i := 13) (oi := _) (v := undef) rfl (by kernel_rfl) (by kernel_rfl) (by kernel_rfl) (fun _ _ _ h => h) (Or.inr ⟨by rfl, rfl⟩) (by assumption) ?_
    try simp only [Act.put]
    try simp only [List.setIfInBounds_toArray]
    try simp only [List.set_cons_succ, List.set_cons_zero]
    try simp only [List.getElem_toArray]
    try simp only [List.getElem_cons_succ]
    try simp only [List.getElem_cons_zero]
    refine wpAnyH_take (i := 14) (oi := _) (v := undef) rfl (by kernel_rfl) (by kernel_rfl) (by kernel_rfl) (fun _ _ _ h => h) (Or.inr ⟨by rfl, rfl⟩) (by assumption) ?_
    try simp only [Act.put]
    try simp only [List.setIfInBounds_toArray]
    try simp only [List.set_cons_succ, List.set_cons_zero]
    try simp only [List.getElem_toArray]
    try simp only [List.getElem_cons_succ]
    try simp only [List.getElem_cons_zero]
    refine wpAnyH_take (i := 15) (oi := _) (v := ?_) rfl (by kernel_rfl) (by kernel_rfl) (by kernel_rfl) (fun _ _ _ h => h) (Or.inl ⟨by rfl, ?_⟩) (by assumption) ?_
    rotate_left
    · intro w' hSw
      try dsimp only at hSw
      first | (go_simp; done) | (go_simp; with_reducible rfl)
    try simp only [Act.put]
    try simp only [List.setIfInBounds_toArray]
    try simp only [List.set_cons_succ, List.set_cons_zero]
    try simp only [List.getElem_toArray]
    try simp only [List.getElem_cons_succ]
    try simp only [List.getElem_cons_zero]
    refine wpAnyH_take (i := 16) (oi := _) (v := ?_) rfl (by kernel_rfl) (by kernel_rfl) (by kernel_rfl) (fun _ _ _ h => h) (Or.inl ⟨by rfl, ?_⟩) (by assumption) ?_
    rotate_left
    · intro w' hSw
      try dsimp only at hSw
      first | (go_simp; done) | (go_simp; with_reducible rfl)
    try simp only [Act.put]
    try simp only [List.setIfInBounds_toArray]
    try simp only [List.set_cons_succ, List.set_cons_zero]
    try simp only [List.getElem_toArray]
    try simp only [List.getElem_cons_succ]
    try simp only [List.getElem_cons_zero]
    refine wpAnyH_done (by kernel_rfl) ?_ _
    refine NoPanic.normal ?_
    clear hHeld
    dsimp only [List.set]
    obtain ⟨r0, g0, r1, g1, r2, g2, r3, g3, r4, g4, r5, g5, r6, g6, r7, g7, r8, g8⟩ := hX.out.rcells
    obtain ⟨hzB, hbB⟩ := hX.out.zero
    replace hzB := Lib.hid hzB
    replace hbB := Lib.hid hbB
    go_wp2_with fail
    (try simp only [Exit.inBlock, Exit.then])
    refine bodyPost_ret (results_ct rfl _ _ rb _ #[.int .i64 0, .int .i64 0, .int .i64 0, .int .i64 0, .slice none 0 0, .slice none 0 0, .slice none 0 0, .slice none 0 0, .slice none 0 0] _ rfl hzB.out Tryd.underlying55 rfl (by kernel_rfl)) rfl ?_
    exact hQ.out _ 7 hE.out (by decide) hbB.out
  have z1 : (ov == 0) = false := by simp [z0]
  by_cases z2 : 0 ≤ oi
  · have z3 : decide (0 ≤ oi) = true := decide_eq_true z2
    replace hE := hE.out
    rw [if_pos (.inr z2)] at hE
    replace hE := Lib.hid hE
    go_upto_region 10 with fail
    clear m0 m1 m2 m3 m4 m5 m6 m7 m8 mll rll
    clear k9
    refine wp_region_noPanic ?_
    have hX1 := hX.out.drewN 1
    clear hX
    have hX := Lib.hid hX1
    clear hX1
    refine wp_region_held_drew (S := fun wz => wz.cell? ⟨wb, 0, none⟩ = some (.int .i64 x.turn) ∧ wz.cell? ⟨wb, 1, none⟩ = some (.int .i64 x.next) ∧ wz.cell? ⟨wb, 2, none⟩ = some (.int .i64 x.field.wide) ∧ wz.cell? ⟨wb, 3, none⟩ = some (.int .i64 x.field.high) ∧ wz.cell? ⟨wb, 4, none⟩ = some (.slice s.field.ground.A x.field.ground.length s.field.ground.c) ∧ wz.cell? ⟨wb, 5, none⟩ = some (.slice s.field.ore.A x.field.ore.length s.field.ore.c) ∧ wz.cell? ⟨wb, 6, none⟩ = some (.slice s.gold.A x.gold.length s.gold.c) ∧ wz.cell? ⟨wb, 7, none⟩ = some (.slice s.units.A x.units.length s.units.c) ∧ wz.cell? ⟨wb, 8, none⟩ = some (.slice s.queue.A x.queue.length s.queue.c) ∧ wz.cell? ⟨bk, okk + kd * 11 + 9, none⟩ = some (.bool kf)) (by kernel_rfl) (hS.out _ hX.out) (fun hHeld => ?_)
    refine wpAnyH_take (i := 0) (oi := _) (v := ?_) rfl (by kernel_rfl) (by kernel_rfl) (by kernel_rfl) (fun _ _ _ h => h) (Or.inl ⟨by rfl, ?_⟩) (by assumption) ?_
    rotate_left
    · intro w' hSw
      try dsimp only at hSw
      first | (go_simp; done) | (go_simp; with_reducible rfl)
    try simp only [Act.put]
    try simp only [List.setIfInBounds_toArray]
    try simp only [List.set_cons_succ, List.set_cons_zero]
    try simp only [List.getElem_toArray]
    try simp only [List.getElem_cons_succ]
    try simp only [List.getElem_cons_zero]
    refine wpAnyH_take (i := 1) (oi := _) (v := ?_) rfl (by kernel_rfl) (by kernel_rfl) (by kernel_rfl) (fun _ _ _ h => h) (Or.inl ⟨by rfl, ?_⟩) (by assumption) ?_
    rotate_left
    · intro w' hSw
      try dsimp only at hSw
      first | (go_simp; done) | (go_simp; with_reducible rfl)
    try simp only [Act.put]
    try simp only [List.setIfInBounds_toArray]
    try simp only [List.set_cons_succ, List.set_cons_zero]
    try simp only [List.getElem_toArray]
    try simp only [List.getElem_cons_succ]
    try simp only [List.getElem_cons_zero]
    refine wpAnyH_take (i := 2) (oi := _) (v := ?_) rfl (by kernel_rfl) (by kernel_rfl) (by kernel_rfl) (fun _ _ _ h => h) (Or.inl ⟨by rfl, ?_⟩) (by assumption) ?_
    rotate_left
    · intro w' hSw
      try dsimp only at hSw
      first | (go_simp; done) | (go_simp; with_reducible rfl)
    try simp only [Act.put]
    try simp only [List.setIfInBounds_toArray]
    try simp only [List.set_cons_succ, List.set_cons_zero]
    try simp only [List.getElem_toArray]
    try simp only [List.getElem_cons_succ]
    try simp only [List.getElem_cons_zero]
    refine wpAnyH_take (i := 3) (oi := _) (v := ?_) rfl (by kernel_rfl) (by kernel_rfl) (by kernel_rfl) (fun _ _ _ h => h) (Or.inl ⟨by rfl, ?_⟩) (by assumption) ?_
    rotate_left
    · intro w' hSw
      try dsimp only at hSw
      first | (go_simp; done) | (go_simp; with_reducible rfl)
    try simp only [Act.put]
    try simp only [List.setIfInBounds_toArray]
    try simp only [List.set_cons_succ, List.set_cons_zero]
    try simp only [List.getElem_toArray]
    try simp only [List.getElem_cons_succ]
    try simp only [List.getElem_cons_zero]
    refine wpAnyH_take (i := 4) (oi := _) (v := ?_) rfl (by kernel_rfl) (by kernel_rfl) (by kernel_rfl) (fun _ _ _ h => h) (Or.inl ⟨by rfl, ?_⟩) (by assumption) ?_
    rotate_left
    · intro w' hSw
      try dsimp only at hSw
      first | (go_simp; done) | (go_simp; with_reducible rfl)
    try simp only [Act.put]
    try simp only [List.setIfInBounds_toArray]
    try simp only [List.set_cons_succ, List.set_cons_zero]
    try simp only [List.getElem_toArray]
    try simp only [List.getElem_cons_succ]
    try simp only [List.getElem_cons_zero]
    refine wpAnyH_take (i := 5) (oi := _) (v := ?_) rfl (by kernel_rfl) (by kernel_rfl) (by kernel_rfl) (fun _ _ _ h => h) (Or.inl ⟨by rfl, ?_⟩) (by assumption) ?_
    rotate_left
    · intro w' hSw
      try dsimp only at hSw
      first | (go_simp; done) | (go_simp; with_reducible rfl)
    try simp only [Act.put]
    try simp only [List.setIfInBounds_toArray]
    try simp only [List.set_cons_succ, List.set_cons_zero]
    try simp only [List.getElem_toArray]
    try simp only [List.getElem_cons_succ]
    try simp only [List.getElem_cons_zero]
    refine wpAnyH_take (i := 6) (oi := _) (v := ?_) rfl (by kernel_rfl) (by kernel_rfl) (by kernel_rfl) (fun _ _ _ h => h) (Or.inl ⟨by rfl, ?_⟩) (by assumption) ?_
    rotate_left
    · intro w' hSw
      try dsimp only at hSw
      first | (go_simp; done) | (go_simp; with_reducible rfl)
    try simp only [Act.put]
    try simp only [List.setIfInBounds_toArray]
    try simp only [List.set_cons_succ, List.set_cons_zero]
    try simp only [List.getElem_toArray]
    try simp only [List.getElem_cons_succ]
    try simp only [List.getElem_cons_zero]
    refine wpAnyH_take (i := 7) (oi := _) (v := ?_) rfl (by kernel_rfl) (by kernel_rfl) (by kernel_rfl) (fun _ _ _ h => h) (Or.inl ⟨by rfl, ?_⟩) (by assumption) ?_
    rotate_left
    · intro w' hSw
      try dsimp only at hSw
      first | (go_simp; done) | (go_simp; with_reducible rfl)
    try simp only [Act.put]
    try simp only [List.setIfInBounds_toArray]
    try simp only [List.set_cons_succ, List.set_cons_zero]
    try simp only [List.getElem_toArray]
    try simp only [List.getElem_cons_succ]
    try simp only [List.getElem_cons_zero]
    refine wpAnyH_ready (rs := [8]) (by kernel_rfl) (by simp) ?_
    refine AllReadyH.cons (o := { dst := some 70, op := .call { callee := .value (.func 75), args := #[.tmp 63, .tmp 64, .tmp 69], argTypes := #[52, 3, 4] }, type := _, pos := _, after := _, guard := none }) rfl (fun K hK => ?_) AllReadyH.nil
    go_simp
    refine (hon.out _ hX.out).mono ?_
    rintro e w5 ⟨rfl, hX2⟩
    clear hHeld hX
    have hX := Lib.hid hX2
    clear hX2
    refine hK.out _ _ (hS.out _ hX.out) (fun hHeld => ?_)
    clear hK K
    try simp only [Act.put]
    try simp only [List.setIfInBounds_toArray]
    try simp only [List.set_cons_succ, List.set_cons_zero]
    try simp only [List.getElem_toArray]
    try simp only [List.getElem_cons_succ]
    try simp only [List.getElem_cons_zero]
    refine wpAnyH_take (i := 9) (oi := _) (v := ?_) rfl (by kernel_rfl) (by kernel_rfl) (by kernel_rfl) (fun _ _ _ h => h) (Or.inl ⟨by rfl, ?_⟩) (by assumption) ?_
    rotate_left
    · intro w' hSw
      try dsimp only at hSw
      first | (go_simp; done) | (go_simp; with_reducible rfl)
    try simp only [Act.put]
    try simp only [List.setIfInBounds_toArray]
    try simp only [List.set_cons_succ, List.set_cons_zero]
    try simp only [List.getElem_toArray]
    try simp only [List.getElem_cons_succ]
    try simp only [List.getElem_cons_zero]
    refine wpAnyH_take (i := 10) (oi := _) (v := ?_) rfl (by kernel_rfl) (by kernel_rfl) (by kernel_rfl) (fun _ _ _ h => h) (Or.inl ⟨by rfl, ?_⟩) (by assumption) ?_
    rotate_left
    · intro w' hSw
      try dsimp only at hSw
      first | (go_simp; done) | (go_simp; with_reducible rfl)
    try simp only [Act.put]
    try simp only [List.setIfInBounds_toArray]
    try simp only [List.set_cons_succ, List.set_cons_zero]
    try simp only [List.getElem_toArray]
    try simp only [List.getElem_cons_succ]
    try simp only [List.getElem_cons_zero]
    refine wpAnyH_take (i := 11) (oi := _) (v := ?_) rfl (by kernel_rfl) (by kernel_rfl) (by kernel_rfl) (fun _ _ _ h => h) (Or.inl ⟨by rfl, ?_⟩) (by assumption) ?_
    rotate_left
    · intro w' hSw
      try dsimp only at hSw
      first | (go_simp; done) | (go_simp; with_reducible rfl)
    try simp only [Act.put]
    try simp only [List.setIfInBounds_toArray]
    try simp only [List.set_cons_succ, List.set_cons_zero]
    try simp only [List.getElem_toArray]
    try simp only [List.getElem_cons_succ]
    try simp only [List.getElem_cons_zero]
    refine wpAnyH_take (i := 12) (oi := _) (v := ?_) rfl (by kernel_rfl) (by kernel_rfl) (by kernel_rfl) (fun _ _ _ h => h) (Or.inl ⟨by rfl, ?_⟩) (by assumption) ?_
    rotate_left
    · intro w' hSw
      try dsimp only at hSw
      first | (go_simp; done) | (go_simp; with_reducible rfl)
    try simp only [Act.put]
    try simp only [List.setIfInBounds_toArray]
    try simp only [List.set_cons_succ, List.set_cons_zero]
    try simp only [List.getElem_toArray]
    try simp only [List.getElem_cons_succ]
    try simp only [List.getElem_cons_zero]
    refine wpAnyH_ready (rs := [13]) (by kernel_rfl) (by simp) ?_
    refine AllReadyH.cons (o := { dst := some 75, op := .call { callee := .value (.func 76), args := #[.tmp 73, .tmp 74], argTypes := #[55, 3] }, type := _, pos := _, after := _, guard := some (10, false) }) rfl (fun K hK => ?_) AllReadyH.nil
    go_simp
    refine (hoc.out _ hX.out).mono ?_
    rintro e w6 ⟨rfl, hX2⟩
    clear hHeld hX
    have hX := Lib.hid hX2
    clear hX2
    refine hK.out _ _ (hS.out _ hX.out) (fun hHeld => ?_)
    clear hK K
    try simp only [Act.put]
    try simp only [List.setIfInBounds_toArray]
    try simp only [List.set_cons_succ, List.set_cons_zero]
    try simp only [List.getElem_toArray]
    try simp only [List.getElem_cons_succ]
    try simp only [List.getElem_cons_zero]
    refine wpAnyH_take (i := 14) (oi := _) (v := ?_) rfl (by kernel_rfl) (by kernel_rfl) (by kernel_rfl) (fun _ _ _ h => h) (Or.inl ⟨by rfl, ?_⟩) (by assumption) ?_
    rotate_left
    · intro w' hSw
      try dsimp only at hSw
      first | (go_simp; done) | (go_simp; with_reducible rfl)
    try simp only [Act.put]
    try simp only [List.setIfInBounds_toArray]
    try simp only [List.set_cons_succ, List.set_cons_zero]
    try simp only [List.getElem_toArray]
    try simp only [List.getElem_cons_succ]
    try simp only [List.getElem_cons_zero]
    refine wpAnyH_take (i := 15) (oi := _) (v := ?_) rfl (by kernel_rfl) (by kernel_rfl) (by kernel_rfl) (fun _ _ _ h => h) (Or.inl ⟨by rfl, ?_⟩) (by assumption) ?_
    rotate_left
    · intro w' hSw
      try dsimp only at hSw
      first | (go_simp; done) | (go_simp; with_reducible rfl)
    try simp only [Act.put]
    try simp only [List.setIfInBounds_toArray]
    try simp only [List.set_cons_succ, List.set_cons_zero]
    try simp only [List.getElem_toArray]
    try simp only [List.getElem_cons_succ]
    try simp only [List.getElem_cons_zero]
    refine wpAnyH_take (i := 16) (oi := _) (v := ?_) rfl (by kernel_rfl) (by kernel_rfl) (by kernel_rfl) (fun _ _ _ h => h) (Or.inl ⟨by rfl, ?_⟩) (by assumption) ?_
    rotate_left
    · intro w' hSw
      try dsimp only at hSw
      first | (go_simp; done) | (go_simp; with_reducible rfl)
    try simp only [Act.put]
    try simp only [List.setIfInBounds_toArray]
    try simp only [List.set_cons_succ, List.set_cons_zero]
    try simp only [List.getElem_toArray]
    try simp only [List.getElem_cons_succ]
    try simp only [List.getElem_cons_zero]
    refine wpAnyH_done (by kernel_rfl) ?_ _
    refine NoPanic.normal ?_
    clear hHeld
    dsimp only [List.set]
    obtain ⟨r0, g0, r1, g1, r2, g2, r3, g3, r4, g4, r5, g5, r6, g6, r7, g7, r8, g8⟩ := hX.out.rcells
    obtain ⟨hzB, hbB⟩ := hX.out.zero
    replace hzB := Lib.hid hzB
    replace hbB := Lib.hid hbB
    go_wp2_with fail
    (try simp only [Exit.inBlock, Exit.then])
    refine bodyPost_ret (results_ct rfl _ _ rb _ #[.int .i64 0, .int .i64 0, .int .i64 0, .int .i64 0, .slice none 0 0, .slice none 0 0, .slice none 0 0, .slice none 0 0, .slice none 0 0] _ rfl hzB.out Tryd.underlying55 rfl (by kernel_rfl)) rfl ?_
    exact hQ.out _ 7 hE.out (by decide) hbB.out
  exact absurd (by rw [hE.out, if_neg (by rintro (h | h); exact z0 h; exact z2 h)]) hne
end Go.Proofs.YtkgkpggfoieioaaDoor
