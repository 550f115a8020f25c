import Derived.Test.YtkgdflecepockaaDoorSortRow
import Derived.Test.YtkgdflecepockaaDoorRows
import Derived.WalkKit
import Derived.Deep.CutBlock
import Derived.Deep.RegionHeld3
namespace Go.Proofs.YtkgdflecepockaaDoor
set_option linter.unusedVariables false
open Go.RowKit
def cmpI (a b : Int) : Int := if a < b then -1 else if b < a then 1 else 0
def or3 (a b c : Int) : Int := if a ≠ 0 then a else if b ≠ 0 then b else c
def plc (x y : Od) : Int := or3 (cmpI x.player y.player) (cmpI x.unit y.unit) (cmpI (rst x) (rst y))
theorem cmpI_bd (a b : Int) : -1 ≤ cmpI a b ∧ cmpI a b ≤ 1 := by unfold cmpI; split <;> (try split) <;> omega
theorem plc_lt {x y : Od} (hx : OdOk x) (hy : OdOk y) : plc x y < 0 ↔ okey x < okey y := by
  rw [okey_lt hx hy]
  unfold plc or3 cmpI
  by_cases h1 : x.player < y.player
  · simp [h1]
  · by_cases h2 : y.player < x.player
    · simp [h1, h2]; (try omega)
    · by_cases h3 : x.unit < y.unit
      · simp [h1, h2, h3]; (try omega)
      · by_cases h4 : y.unit < x.unit
        · simp [h1, h2, h3, h4]; (try omega)
        · by_cases h5 : rst x < rst y
          · simp [h1, h2, h3, h4, h5]; (try omega)
          · by_cases h6 : rst y < rst x
            · simp [h1, h2, h3, h4, h5, h6]; (try omega)
            · simp [h1, h2, h3, h4, h5, h6]
theorem plc_eq {x y : Od} (hx : OdOk x) (hy : OdOk y) : plc x y = 0 ↔ okey x = okey y := by
  rw [okey_eq hx hy]
  unfold plc or3 cmpI
  by_cases h1 : x.player < y.player
  · simp [h1]; (try omega)
  · by_cases h2 : y.player < x.player
    · simp [h1, h2]; (try omega)
    · by_cases h3 : x.unit < y.unit
      · simp [h1, h2, h3]; (try omega)
      · by_cases h4 : y.unit < x.unit
        · simp [h1, h2, h3, h4]; (try omega)
        · by_cases h5 : rst x < rst y
          · simp [h1, h2, h3, h4, h5]; (try omega)
          · by_cases h6 : rst y < rst x
            · simp [h1, h2, h3, h4, h5, h6]; (try omega)
            · simp [h1, h2, h3, h4, h5, h6]; (try omega)
theorem nan_any (a : Int) (w : World) : Calls Tryd.prog 94 #[.int .i64 a] w fun e w' => e = .returned (.bool false) ∧ w = w' := by
  go_enter Tryd.func94, Tryd.ntmps94
  go_wp2_with fail
  go_ret
  exact ⟨by simp, rfl⟩
theorem compare_any (a b : Int) (w : World) : Calls Tryd.prog 88 #[.int .i64 a, .int .i64 b] w fun e w' => e = .returned (.int .i64 (cmpI a b)) ∧ w = w' := by
  by_cases h1 : a < b
  · have hv : cmpI a b = -1 := by unfold cmpI; rw [if_pos h1]
    replace hv := Lib.hid hv
    go_enter Tryd.func88, Tryd.ntmps88
    go_wp2_with (go_at_call 94; refine (nan_any _ _).mono ?_; rintro e w' ⟨rfl, rfl⟩)
    go_ret
    exact ⟨by rw [hv.out]; rfl, rfl⟩
  · by_cases h2 : b < a
    · have hv : cmpI a b = 1 := by unfold cmpI; rw [if_neg h1, if_pos h2]
      replace hv := Lib.hid hv
      go_enter Tryd.func88, Tryd.ntmps88
      go_wp2_with (go_at_call 94; refine (nan_any _ _).mono ?_; rintro e w' ⟨rfl, rfl⟩)
      go_ret
      exact ⟨by rw [hv.out]; rfl, rfl⟩
    · have hv : cmpI a b = 0 := by unfold cmpI; rw [if_neg h1, if_neg h2]
      replace hv := Lib.hid hv
      go_enter Tryd.func88, Tryd.ntmps88
      go_wp2_with (go_at_call 94; refine (nan_any _ _).mono ?_; rintro e w' ⟨rfl, rfl⟩)
      go_ret
      exact ⟨by rw [hv.out]; rfl, rfl⟩
theorem or_any (a b c : Int) (g : Nat) (w : World) (h : Blk w g 3 #[.int .i64 a, .int .i64 b, .int .i64 c]) :
    Calls Tryd.prog 87 #[.slice (some ⟨g, 0, none⟩) 3 3] w fun e w' => e = .returned (.int .i64 (or3 a b c)) ∧ w = w' := by
  have c0 := h.cell 0
  have c1 := h.cell 1
  have c2 := h.cell 2
  have hlt := h.lt
  clear h
  by_cases h1 : a = 0
  · subst h1
    by_cases h2 : b = 0
    · subst h2
      have hv : or3 0 0 c = c := by simp [or3]
      replace hv := Lib.hid hv
      by_cases h3 : c = 0
      · subst h3
        go_enter Tryd.func87, Tryd.ntmps87
        go_wp2_with fail
        refine wp_loop_rounds 4 ?_
        rw [rounds_succ]
        go_wp2_with fail
        rw [rounds_succ]
        go_wp2_with fail
        rw [rounds_succ]
        go_wp2_with fail
        rw [rounds_succ]
        go_wp2_with fail
        go_ret
        exact ⟨by rw [hv.out]; rfl, rfl⟩
      · have q3 : (c != 0) = true := by rw [bne_iff_ne]; exact h3
        go_enter Tryd.func87, Tryd.ntmps87
        go_wp2_with fail
        refine wp_loop_rounds 3 ?_
        rw [rounds_succ]
        go_wp2_with fail
        rw [rounds_succ]
        go_wp2_with fail
        rw [rounds_succ]
        go_wp2_with fail
        go_ret
        exact ⟨by rw [hv.out]; rfl, rfl⟩
    · have hv : or3 0 b c = b := by simp [or3, h2]
      have q3 : (b != 0) = true := by rw [bne_iff_ne]; exact h2
      replace hv := Lib.hid hv
      go_enter Tryd.func87, Tryd.ntmps87
      go_wp2_with fail
      refine wp_loop_rounds 2 ?_
      rw [rounds_succ]
      go_wp2_with fail
      rw [rounds_succ]
      go_wp2_with fail
      go_ret
      exact ⟨by rw [hv.out]; rfl, rfl⟩
  · have hv : or3 a b c = a := by simp [or3, h1]
    have q3 : (a != 0) = true := by rw [bne_iff_ne]; exact h1
    replace hv := Lib.hid hv
    go_enter Tryd.func87, Tryd.ntmps87
    go_wp2_with fail
    refine wp_loop_rounds 1 ?_
    rw [rounds_succ]
    go_wp2_with fail
    go_ret
    exact ⟨by rw [hv.out]; rfl, rfl⟩
theorem rest_any (x : Od) (w : World) : Calls Tryd.prog 77 #[.agg #[.int .i64 x.player, .int .i64 x.unit, .int .i64 x.what, .int .i64 x.arg]] w fun e w' => e = .returned (.int .i64 (rst x)) ∧ Below w.heap.size w w' := by
  by_cases h : x.what = 3
  · have hv : rst x = 0 := by unfold rst; rw [if_pos h]
    have q : (x.what == 3) = true := by simp [h]
    replace hv := Lib.hid hv
    replace h := Lib.hid h
    go_enter Tryd.func77, Tryd.ntmps77
    go_wp2_with fail
    go_ret
    exact ⟨by rw [hv.out]; rfl, (Below.refl _ _).alloc (Nat.le_refl _) _⟩
  · have hv : rst x = 1 := by unfold rst; rw [if_neg h]
    have q : (x.what == 3) = false := by simp [h]
    replace hv := Lib.hid hv
    replace h := Lib.hid h
    go_enter Tryd.func77, Tryd.ntmps77
    go_wp2_with fail
    go_ret
    exact ⟨by rw [hv.out]; rfl, (Below.refl _ _).alloc (Nat.le_refl _) _⟩
/-- While two orders are compared: both boxes. -/
structure PBs (B : Nat) (w0 w : World) (g1 g2 : Nat) (x y : Od) : Prop where
  b : Below B w0 w
  k1 : Blk w g1 66 #[.int .i64 x.player, .int .i64 x.unit, .int .i64 x.what, .int .i64 x.arg]
  k2 : Blk w g2 66 #[.int .i64 y.player, .int .i64 y.unit, .int .i64 y.what, .int .i64 y.arg]
  s : B ≤ w.heap.size
section
variable {B g1 g2 : Nat} {w0 w w' : World} {x y : Od}
theorem PBs.below (h : PBs B w0 w g1 g2 x y) (hb : Below w.heap.size w w') : PBs B w0 w' g1 g2 x y := ⟨h.b.trans (hb.mono h.s), h.k1.below hb h.k1.lt, h.k2.below hb h.k2.lt, Nat.le_trans h.s hb.size⟩
theorem PBs.drewN (h : PBs B w0 w g1 g2 x y) (n : Nat) : PBs B w0 (w.drewN n) g1 g2 x y := h.below ⟨rfl, rfl, rfl, Nat.le_refl _, fun _ _ => rfl⟩
theorem PBs.alloc (h : PBs B w0 w g1 g2 x y) (o : Obj) : PBs B w0 (w.alloc o) g1 g2 x y := h.below ((Below.refl _ _).alloc (Nat.le_refl _) _)
theorem PBs.cells (h : PBs B w0 w g1 g2 x y) : w.cell? ⟨g1, 0, none⟩ = some (.int .i64 x.player) ∧ w.cell? ⟨g1, 1, none⟩ = some (.int .i64 x.unit) ∧ w.cell? ⟨g1, 2, none⟩ = some (.int .i64 x.what) ∧ w.cell? ⟨g1, 3, none⟩ = some (.int .i64 x.arg) ∧ w.cell? ⟨g2, 0, none⟩ = some (.int .i64 y.player) ∧ w.cell? ⟨g2, 1, none⟩ = some (.int .i64 y.unit) ∧ w.cell? ⟨g2, 2, none⟩ = some (.int .i64 y.what) ∧ w.cell? ⟨g2, 3, none⟩ = some (.int .i64 y.arg) := ⟨h.k1.cell 0, h.k1.cell 1, h.k1.cell 2, h.k1.cell 3, h.k2.cell 0, h.k2.cell 1, h.k2.cell 2, h.k2.cell 3⟩
theorem PBs.rest (h : PBs B w0 w g1 g2 x y) (z : Od) : Calls Tryd.prog 77 #[.agg #[.int .i64 z.player, .int .i64 z.unit, .int .i64 z.what, .int .i64 z.arg]] w fun e w' => e = .returned (.int .i64 (rst z)) ∧ PBs B w0 w' g1 g2 x y :=
  (rest_any z w).mono fun _ _ ⟨h1, h2⟩ => ⟨h1, h.below h2⟩
end
set_option maxHeartbeats 1600000 in
set_option maxRecDepth 100000 in
theorem place_any (x y : Od) (w : World) : Calls Tryd.prog 76 #[.agg #[.int .i64 x.player, .int .i64 x.unit, .int .i64 x.what, .int .i64 x.arg], .agg #[.int .i64 y.player, .int .i64 y.unit, .int .i64 y.what, .int .i64 y.arg]] w fun e w' => e = .returned (.int .i64 (plc x y)) ∧ Below w.heap.size w w' := by
  have hv : or3 (cmpI x.player y.player) (cmpI x.unit y.unit) (cmpI (rst x) (rst y)) = plc x y := rfl
  replace hv := Lib.hid hv
  go_enter Tryd.func76, Tryd.ntmps76
  go_upto_region 1 with fail
  have hP : PBs w.heap.size w ((w.alloc (.cells #[.int .i64 x.player, .int .i64 x.unit, .int .i64 x.what, .int .i64 x.arg] 66)).alloc (.cells #[.int .i64 y.player, .int .i64 y.unit, .int .i64 y.what, .int .i64 y.arg] 66)) w.heap.size (w.heap.size + 1) x y :=
    ⟨((Below.refl _ _).alloc (Nat.le_refl _) _).alloc (by simp) _, (Blk.new _ _ _).alloc _, by have := Blk.new (w.alloc (.cells #[.int .i64 x.player, .int .i64 x.unit, .int .i64 x.what, .int .i64 x.arg] 66)) 66 #[.int .i64 y.player, .int .i64 y.unit, .int .i64 y.what, .int .i64 y.arg]; simpa using this, by simp; omega⟩
  generalize ((w.alloc (.cells #[.int .i64 x.player, .int .i64 x.unit, .int .i64 x.what, .int .i64 x.arg] 66)).alloc (.cells #[.int .i64 y.player, .int .i64 y.unit, .int .i64 y.what, .int .i64 y.arg] 66)) = W at *
  generalize hB : w.heap.size = B at *
  generalize hg1 : B = g1 at hP
  generalize hg2 : g1 + 1 = g2 at hP
  have hQ := hP.drewN 1
  have q0 := hQ.cells
  replace hQ := Lib.hid hQ
  change W.drew.cell? ⟨g1, 0, none⟩ = some (.int .i64 x.player) ∧ W.drew.cell? ⟨g1, 1, none⟩ = some (.int .i64 x.unit) ∧ W.drew.cell? ⟨g1, 2, none⟩ = some (.int .i64 x.what) ∧ W.drew.cell? ⟨g1, 3, none⟩ = some (.int .i64 x.arg) ∧ W.drew.cell? ⟨g2, 0, none⟩ = some (.int .i64 y.player) ∧ W.drew.cell? ⟨g2, 1, none⟩ = some (.int .i64 y.unit) ∧ W.drew.cell? ⟨g2, 2, none⟩ = some (.int .i64 y.what) ∧ W.drew.cell? ⟨g2, 3, none⟩ = some (.int .i64 y.arg) at q0
  clear hP
  have lg : g1 < W.heap.size ∧ g2 < W.heap.size := ⟨hQ.out.k1.lt, hQ.out.k2.lt⟩
  obtain ⟨lg1, lg2⟩ := lg
  replace hB := Lib.hid hB
  replace hg1 := Lib.hid hg1
  replace hg2 := Lib.hid hg2
  have q1 := Lib.hid q0
  clear q0
  go_region_held3 (fun wz => wz.cell? ⟨g1, 0, none⟩ = some (.int .i64 x.player) ∧ wz.cell? ⟨g1, 1, none⟩ = some (.int .i64 x.unit) ∧ wz.cell? ⟨g1, 2, none⟩ = some (.int .i64 x.what) ∧ wz.cell? ⟨g1, 3, none⟩ = some (.int .i64 x.arg) ∧ wz.cell? ⟨g2, 0, none⟩ = some (.int .i64 y.player) ∧ wz.cell? ⟨g2, 1, none⟩ = some (.int .i64 y.unit) ∧ wz.cell? ⟨g2, 2, none⟩ = some (.int .i64 y.what) ∧ wz.cell? ⟨g2, 3, none⟩ = some (.int .i64 y.arg)) (first | exact q1.out | exact q2.out | exact q3.out | exact q4.out _) (first | (go_at_call 88; refine (compare_any _ _ _).mono ?_; rintro e w' ⟨rfl, rfl⟩) | (go_at_call 77; refine (PBs.rest hQ.out x).mono ?_; rintro e w1 ⟨rfl, hQ1⟩; have q2 := Lib.hid hQ1.cells; replace hQ1 := Lib.hid hQ1; clear hQ) | (go_at_call 77; refine (PBs.rest hQ1.out y).mono ?_; rintro e w2 ⟨rfl, hQ2⟩; have q3 := Lib.hid hQ2.cells; have q4 := Lib.hid (fun o => (hQ2.alloc o).cells); replace hQ2 := Lib.hid hQ2; clear hQ1) | (go_at_call 87; refine (or_any _ _ _ _ _ (Blk.new _ _ _)).mono ?_; rintro e w' ⟨rfl, rfl⟩))
  have hfin := (hQ2.out.alloc (.cells #[.int .i64 (cmpI x.player y.player), .int .i64 (cmpI x.unit y.unit), .int .i64 (cmpI (rst x) (rst y))] 3)).b
  replace hfin := Lib.hid hfin
  clear q1 q2 q3 q4 hQ2
  rw [hv.out]
  go_wp2_with fail
  go_ret
  exact ⟨rfl, by rw [hB.out, hg1.out]; exact hfin.out⟩
end Go.Proofs.YtkgdflecepockaaDoor
