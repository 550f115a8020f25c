import Derived.Test.YtkkdegcbikjebaaDoorRefQ
import Derived.Test.YtkkdegcbikjebaaDoorSameC
import Derived.Test.YtkkdegcbikjebaaDoorOpenK
import Derived.Test.YtkkdegcbikjebaaDoorTold
import Derived.Test.YtkkdegcbikjebaaDoorStr
namespace Go.Proofs.YtkkdegcbikjebaaDoor
set_option linter.unusedVariables false
open Go.RowKit
def dfE (xs ys : List Int) : Int := if 6000 < xs.length ∨ 6000 < ys.length then 4 else 0
def dfB (xs ys : List Int) : List Ch := if 6000 < xs.length ∨ 6000 < ys.length then [] else diffL xs ys
theorem RD.nilK (w : World) (B sz : Nat) (A : Option Addr) : RD w B sz A 0 [] := ⟨by simp, fun h => absurd h (by omega)⟩
section
variable (A A' : Option Addr) (c c' : Nat) (xs ys : List Int) (L : List Ch) (w : World)
theorem diff_u (h : RB w w.heap.size A xs) (h' : RB w w.heap.size A' ys) (hx : ∀ x ∈ xs, Byte x) (hy : ∀ x ∈ ys, Byte x) :
    Calls Tryd.prog 33 #[.slice A xs.length c, .slice A' ys.length c'] w fun e w' => ∃ D d, e = .returned (.tuple #[.slice D (dfB xs ys).length d, erK (dfE xs ys)]) ∧ RC w' w'.heap.size D (dfB xs ys) ∧ Below w.heap.size w w' := by
  by_cases hl : 6000 < xs.length ∨ 6000 < ys.length
  · refine (diff_full A A' xs.length ys.length c c' w hl).mono ?_
    rintro e w' ⟨rfl, rfl⟩
    unfold dfB dfE
    rw [if_pos hl, if_pos hl]
    exact ⟨none, 0, rfl, RD.nilK _ _ _ _, Below.refl _ _⟩
  · refine (diff_any A A' c c' w.heap.size xs ys w (Nat.le_refl _) h h' hx hy (by omega) (by omega)).mono ?_
    rintro e w' ⟨v, he, hown, hb⟩
    obtain ⟨D, d, rfl, _⟩ := own_slice hown
    unfold dfB dfE
    rw [if_neg hl, if_neg hl]
    exact ⟨D, d, he, RD.of_own hown, hb⟩
theorem rdiff_u (h : RB w w.heap.size A xs) (h' : RB w w.heap.size A' ys) (hx : ∀ x ∈ xs, Byte x) (hy : ∀ x ∈ ys, Byte x) :
    Calls Tryd.prog 32 #[.slice A xs.length c, .slice A' ys.length c'] w fun e w' => ∃ D d, e = .returned (.tuple #[.slice D (dfB xs ys).length d, .int .i64 (dfE xs ys)]) ∧ RC w' w'.heap.size D (dfB xs ys) ∧ Below w.heap.size w w' := by
  by_cases hl : 6000 < xs.length ∨ 6000 < ys.length
  · refine (rdiff_full A A' xs.length ys.length c c' w hl).mono ?_
    rintro e w' ⟨rfl, rfl⟩
    unfold dfB dfE
    rw [if_pos hl, if_pos hl]
    exact ⟨none, 0, rfl, RD.nilK _ _ _ _, Below.refl _ _⟩
  · refine (rdiff_any A A' c c' w.heap.size xs ys w (Nat.le_refl _) h h' hx hy (by omega) (by omega)).mono ?_
    rintro e w' ⟨v, he, hown, hb⟩
    obtain ⟨D, d, rfl, _⟩ := own_slice hown
    unfold dfB dfE
    rw [if_neg hl, if_neg hl]
    exact ⟨D, d, he, RD.of_own hown, hb⟩
theorem appB_0 (h : appE xs L ≠ 0) : appB xs L = [] := by unfold appB; rw [if_neg h]
theorem apply_u (h : RB w w.heap.size A xs) (hx : ∀ x ∈ xs, Byte x) (h' : RC w w.heap.size A' L) :
    Calls Tryd.prog 36 #[.slice A xs.length c, .slice A' L.length c'] w fun e w' => ∃ D d, e = .returned (.tuple #[.slice D (appB xs L).length d, erK (appE xs L)]) ∧ RB w' w'.heap.size D (appB xs L) ∧ Below w.heap.size w w' := by
  refine (apply_any A A' c c' xs L w h hx h').mono ?_
  rintro e w' ⟨hb, ⟨hz, rfl⟩ | ⟨hz, g, hg, rfl, bk⟩⟩
  · rw [appB_0 xs L hz]
    exact ⟨none, 0, rfl, RD.nilK _ _ _ _, hb⟩
  · exact ⟨some ⟨g, 0, none⟩, _, by rw [hz]; rfl, bk.rdY, hb⟩
theorem rapply_u (h : RB w w.heap.size A xs) (hx : ∀ x ∈ xs, Byte x) (h' : RC w w.heap.size A' L) :
    Calls Tryd.prog 35 #[.slice A xs.length c, .slice A' L.length c'] w fun e w' => ∃ D d, e = .returned (.tuple #[.slice D (appB xs L).length d, .int .i64 (appE xs L)]) ∧ RB w' w'.heap.size D (appB xs L) ∧ Below w.heap.size w w' := by
  refine (rapply_any A A' c c' xs L w h hx h').mono ?_
  rintro e w' ⟨hb, ⟨hz, rfl⟩ | ⟨hz, D, d, rfl, hr⟩⟩
  · rw [appB_0 xs L hz]
    exact ⟨none, 0, rfl, RD.nilK _ _ _ _, hb⟩
  · exact ⟨D, d, by rw [hz], hr, hb⟩
theorem pkB_0 (h : chkL L ≠ 0) : pkB L = [] := by unfold pkB; rw [if_neg h]
theorem pack_u (h' : RC w w.heap.size A' L) :
    Calls Tryd.prog 38 #[.slice A' L.length c'] w fun e w' => ∃ D d, e = .returned (.tuple #[.slice D (pkB L).length d, erK (chkL L)]) ∧ RB w' w'.heap.size D (pkB L) ∧ Below w.heap.size w w' := by
  refine (pack_any A' c' L w h').mono ?_
  rintro e w' ⟨hb, ⟨hz, rfl⟩ | ⟨hz, v, rfl, ho⟩⟩
  · rw [pkB_0 L hz]
    exact ⟨none, 0, rfl, RD.nilK _ _ _ _, hb⟩
  · obtain ⟨D, d, rfl, _⟩ := own_slice ho
    exact ⟨D, d, by rw [hz]; rfl, RD.of_own ho, hb⟩
theorem rpack_u (h' : RC w w.heap.size A' L) :
    Calls Tryd.prog 37 #[.slice A' L.length c'] w fun e w' => ∃ D d, e = .returned (.tuple #[.slice D (pkB L).length d, .int .i64 (chkL L)]) ∧ RB w' w'.heap.size D (pkB L) ∧ Below w.heap.size w w' := by
  refine (rpack_any A' c' L w h').mono ?_
  rintro e w' ⟨hb, ⟨hz, rfl⟩ | ⟨hz, v, rfl, ho⟩⟩
  · rw [pkB_0 L hz]
    exact ⟨none, 0, rfl, RD.nilK _ _ _ _, hb⟩
  · obtain ⟨D, d, rfl, _⟩ := own_slice ho
    exact ⟨D, d, by rw [hz], RD.of_own ho, hb⟩
end
theorem byteK {x : Int} (h : (Lit.int .u8 x).wf = true) : Byte x := by have := bounds_u8 h; unfold Byte; omega
theorem dfB_len (xs ys : List Int) : (dfB xs ys).length ≤ 6000 := by
  unfold dfB
  split
  · simp
  · exact diffL_len xs ys (by omega) (by omega)
set_option maxHeartbeats 3200000 in
set_option maxRecDepth 100000 in
theorem tells_walk (A A' A2 : Option Addr) (c c' c2 : Nat) (xs ys : List Int) (L : List Ch) (w : World) (hv : HV w) (h : RB w w.heap.size A xs) (h' : RB w w.heap.size A' ys) (hx : ∀ x ∈ xs, Byte x) (hy : ∀ x ∈ ys, Byte x) (h2 : RC w w.heap.size A2 L) :
    Calls Tryd.prog 7 #[.slice A xs.length c, .slice A' ys.length c', .slice A2 L.length c2] w fun e w' => e = .returned (.bool true) ∧ Below w.heap.size w w' := by
  have hcl : ∀ w', Below w.heap.size w w' → HV w' ∧ RB w' w'.heap.size A xs ∧ RB w' w'.heap.size A' ys ∧ RC w' w'.heap.size A2 L := fun w' hb =>
    ⟨hv.below hb, (RD.below h hb).more hb.size, (RD.below h' hb).more hb.size, (RD.below h2 hb).more hb.size⟩
  replace hcl := Lib.hid hcl
  have HX := Lib.hid hx
  have HY := Lib.hid hy
  clear hv h h' h2 hx hy
  obtain ⟨V0, X0, Y0, L0⟩ := hcl.out w (Below.refl _ _)
  replace V0 := Lib.hid V0
  replace X0 := Lib.hid X0
  replace Y0 := Lib.hid Y0
  replace L0 := Lib.hid L0
  have p0 := Lib.hid (Below.refl w.heap.size w)
  have hdl := dfB_len xs ys
  generalize hdB : dfB xs ys = LB at *
  generalize hdE : dfE xs ys = EB at *
  replace hdB := Lib.hid hdB
  replace hdE := Lib.hid hdE
  go_enter Tryd.func7, Tryd.ntmps7
  go_wp2_with fail
  have hc1 := rdiff_u A A' c c' xs ys w X0.out Y0.out HX.out HY.out
  rw [hdB.out, hdE.out] at hc1
  refine hc1.mono ?_
  clear hc1
  rintro e W1 ⟨D1, d1, rfl, R1, b1⟩
  have p1 := p0.out.trans (b1.mono p0.out.size)
  obtain ⟨V1, X1, Y1, L1⟩ := hcl.out W1 p1
  replace V1 := Lib.hid V1
  replace X1 := Lib.hid X1
  replace Y1 := Lib.hid Y1
  replace L1 := Lib.hid L1
  replace p1 := Lib.hid p1
  replace R1 := Lib.hid R1
  clear b1 V0 X0 Y0 L0
  go_wp2_with fail
  have hc2 := diff_u A A' c c' xs ys W1 X1.out Y1.out HX.out HY.out
  rw [hdB.out, hdE.out] at hc2
  refine hc2.mono ?_
  clear hc2
  rintro e W2 ⟨D2, d2, rfl, R2, b2⟩
  have p2 := p1.out.trans (b2.mono p1.out.size)
  obtain ⟨V2, X2, Y2, L2⟩ := hcl.out W2 p2
  replace V2 := Lib.hid V2
  replace X2 := Lib.hid X2
  replace Y2 := Lib.hid Y2
  replace L2 := Lib.hid L2
  replace p2 := Lib.hid p2
  replace R1 := Lib.hid (RD.more (RD.below R1.out b2) b2.size)
  replace R2 := Lib.hid R2
  clear b2 V1 X1 Y1 L1
  go_wp2_with fail
  refine (error_same EB W2 V2.out).mono ?_
  rintro e W3 ⟨rfl, b3⟩
  have p3 := p2.out.trans (b3.mono p2.out.size)
  obtain ⟨V3, X3, Y3, L3⟩ := hcl.out W3 p3
  replace V3 := Lib.hid V3
  replace X3 := Lib.hid X3
  replace Y3 := Lib.hid Y3
  replace L3 := Lib.hid L3
  replace p3 := Lib.hid p3
  replace R1 := Lib.hid (RD.more (RD.below R1.out b3) b3.size)
  replace R2 := Lib.hid (RD.more (RD.below R2.out b3) b3.size)
  clear b3 V2 X2 Y2 L2
  go_wp2_with fail
  refine (changes_eq D2 D1 d2 d1 W3.heap.size LB W3 R2.out R1.out (by omega) (Nat.le_refl _)).mono ?_
  rintro e W4 ⟨rfl, b4⟩
  have p4 := p3.out.trans (b4.mono p3.out.size)
  obtain ⟨V4, X4, Y4, L4⟩ := hcl.out W4 p4
  replace V4 := Lib.hid V4
  replace X4 := Lib.hid X4
  replace Y4 := Lib.hid Y4
  replace L4 := Lib.hid L4
  replace p4 := Lib.hid p4
  replace R1 := Lib.hid (RD.more (RD.below R1.out b4) b4.size)
  replace R2 := Lib.hid (RD.more (RD.below R2.out b4) b4.size)
  clear b4 V3 X3 Y3 L3
  go_wp2_with fail
  clear R1
  clear R2
  refine (rapply_u A A2 c c2 xs L W4 X4.out HX.out L4.out).mono ?_
  rintro e W5 ⟨D5, d5, rfl, R5, b5⟩
  have p5 := p4.out.trans (b5.mono p4.out.size)
  obtain ⟨V5, X5, Y5, L5⟩ := hcl.out W5 p5
  replace V5 := Lib.hid V5
  replace X5 := Lib.hid X5
  replace Y5 := Lib.hid Y5
  replace L5 := Lib.hid L5
  replace p5 := Lib.hid p5
  replace R5 := Lib.hid R5
  clear b5 V4 X4 Y4 L4
  go_wp2_with fail
  refine (apply_u A A2 c c2 xs L W5 X5.out HX.out L5.out).mono ?_
  rintro e W6 ⟨D6, d6, rfl, R6, b6⟩
  have p6 := p5.out.trans (b6.mono p5.out.size)
  obtain ⟨V6, X6, Y6, L6⟩ := hcl.out W6 p6
  replace V6 := Lib.hid V6
  replace X6 := Lib.hid X6
  replace Y6 := Lib.hid Y6
  replace L6 := Lib.hid L6
  replace p6 := Lib.hid p6
  replace R5 := Lib.hid (RD.more (RD.below R5.out b6) b6.size)
  replace R6 := Lib.hid R6
  clear b6 V5 X5 Y5 L5
  go_wp2_with fail
  refine (error_same (appE xs L) W6 V6.out).mono ?_
  rintro e W7 ⟨rfl, b7⟩
  have p7 := p6.out.trans (b7.mono p6.out.size)
  obtain ⟨V7, X7, Y7, L7⟩ := hcl.out W7 p7
  replace V7 := Lib.hid V7
  replace X7 := Lib.hid X7
  replace Y7 := Lib.hid Y7
  replace L7 := Lib.hid L7
  replace p7 := Lib.hid p7
  replace R5 := Lib.hid (RD.more (RD.below R5.out b7) b7.size)
  replace R6 := Lib.hid (RD.more (RD.below R6.out b7) b7.size)
  clear b7 V6 X6 Y6 L6
  go_wp2_with fail
  refine (rpack_u A2 c2 L W7 L7.out).mono ?_
  rintro e W8 ⟨D8, d8, rfl, R8, b8⟩
  have p8 := p7.out.trans (b8.mono p7.out.size)
  obtain ⟨V8, X8, Y8, L8⟩ := hcl.out W8 p8
  replace V8 := Lib.hid V8
  replace X8 := Lib.hid X8
  replace Y8 := Lib.hid Y8
  replace L8 := Lib.hid L8
  replace p8 := Lib.hid p8
  replace R5 := Lib.hid (RD.more (RD.below R5.out b8) b8.size)
  replace R6 := Lib.hid (RD.more (RD.below R6.out b8) b8.size)
  replace R8 := Lib.hid R8
  clear b8 V7 X7 Y7 L7
  go_wp2_with fail
  refine (pack_u A2 c2 L W8 L8.out).mono ?_
  rintro e W9 ⟨D9, d9, rfl, R9, b9⟩
  have p9 := p8.out.trans (b9.mono p8.out.size)
  obtain ⟨V9, X9, Y9, L9⟩ := hcl.out W9 p9
  replace V9 := Lib.hid V9
  replace X9 := Lib.hid X9
  replace Y9 := Lib.hid Y9
  replace L9 := Lib.hid L9
  replace p9 := Lib.hid p9
  replace R5 := Lib.hid (RD.more (RD.below R5.out b9) b9.size)
  replace R6 := Lib.hid (RD.more (RD.below R6.out b9) b9.size)
  replace R8 := Lib.hid (RD.more (RD.below R8.out b9) b9.size)
  replace R9 := Lib.hid R9
  clear b9 V8 X8 Y8 L8
  go_wp2_with fail
  refine (error_same (chkL L) W9 V9.out).mono ?_
  rintro e W10 ⟨rfl, b10⟩
  have p10 := p9.out.trans (b10.mono p9.out.size)
  replace R5 := RD.more (RD.below R5.out b10) b10.size
  replace R6 := RD.more (RD.below R6.out b10) b10.size
  replace R8 := RD.more (RD.below R8.out b10) b10.size
  replace R9 := RD.more (RD.below R9.out b10) b10.size
  have s5 := str_run W10 _ D5 (appB xs L).length d5 (appB xs L) rfl R5 (appB_byte xs L HX.out)
  have s6 := str_run W10 _ D6 (appB xs L).length d6 (appB xs L) rfl R6 (appB_byte xs L HX.out)
  have s8 := str_run W10 _ D8 (pkB L).length d8 (pkB L) rfl R8 (pkB_byte L)
  have s9 := str_run W10 _ D9 (pkB L).length d9 (pkB L) rfl R9 (pkB_byte L)
  have q1 : ((toS (appB xs L)).toList == (toS (appB xs L)).toList) = true := by simp
  have q2 : ((toS (pkB L)).toList == (toS (pkB L)).toList) = true := by simp
  clear R5 R6 R8 R9 b10
  replace p10 := Lib.hid p10
  go_wp2_with fail
  go_ret
  exact ⟨rfl, p10.out⟩
set_option maxRecDepth 100000 in
theorem law_walk (a0 : Option Addr) (len0 cap0 : Nat) (z0 : List Int) (a1 : Option Addr) (len1 cap1 : Nat) (z1 : List Int) (v2 : Value) (x2 : SL × List Ch) (w : World) (hv : HV w) (w0 : IsRow .u8 w a0 len0 cap0 z0) (w1 : IsRow .u8 w a1 len1 cap1 z1) (h2 : v2 = .slice x2.1.A x2.2.length x2.1.c ∧ SLC w x2.1 x2.2) :
    Calls Tryd.prog 7 #[.slice a0 len0 cap0, .slice a1 len1 cap1, v2] w fun e w' => e = .returned (.bool true) ∧ Below w.heap.size w w' := by
  obtain ⟨xs, rfl, hr0, hw0, _, _⟩ := isRow_rd w0
  obtain ⟨ys, rfl, hr1, hw1, _, _⟩ := isRow_rd w1
  obtain ⟨rfl, hs⟩ := h2
  exact tells_walk a0 a1 x2.1.A cap0 cap1 x2.1.c xs ys x2.2 w hv hr0 hr1 (fun x hx => byteK (hw0 x hx)) (fun x hx => byteK (hw1 x hx)) hs.1
end Go.Proofs.YtkkdegcbikjebaaDoor
