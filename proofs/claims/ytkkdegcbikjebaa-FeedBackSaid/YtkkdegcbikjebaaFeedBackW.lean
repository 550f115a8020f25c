import Derived.Test.YtkkdegcbikjebaaFeedU
import Derived.Test.YtkkdegcbikjebaaUnpack
import Derived.Test.YtkkdegcbikjebaaSameC
import Derived.Test.YtkkdegcbikjebaaStr
import Derived.StillTailTactics
import Derived.Lib.SlBytesConst
namespace Go.Proofs.Ytkkdegcbikjebaa
set_option linter.unusedVariables false
open Go.RowKit
theorem fact_d : diffL [97, 98] [97, 99] = [⟨1, 98, 99⟩] := by decide
theorem fact_a : appE [97, 98] [⟨1, 98, 99⟩] = 0 ∧ appB [97, 98] [⟨1, 98, 99⟩] = [97, 99] := by
  rw [← fact_d]
  exact diff_app _ _ (by simp [Byte]) (by simp [Byte]) (by decide) (by decide)
theorem fact_s : toS [97, 99] = ⟨#[97, 99]⟩ := rfl
theorem apply_fact (g1 g2 : Nat) (w : World) (h : RB w w.heap.size (some ⟨g1, 0, none⟩) [97, 98]) (h' : RC w w.heap.size (some ⟨g2, 0, none⟩) [⟨1, 98, 99⟩]) :
    Calls Try.prog 17 #[.slice (some ⟨g1, 0, none⟩) 2 2, .slice (some ⟨g2, 0, none⟩) 1 1] w fun e w' => ∃ D d, e = .returned (.tuple #[.slice D 2 d, .nilIface]) ∧ RB w' w'.heap.size D [97, 99] ∧ Below w.heap.size w w' := by
  refine (apply_u (some ⟨g1, 0, none⟩) (some ⟨g2, 0, none⟩) 2 1 [97, 98] [⟨1, 98, 99⟩] w h (by simp [Byte]) h').mono ?_
  rintro e w' ⟨D, d, he, hr, hb⟩
  rw [fact_a.1, fact_a.2] at he
  rw [fact_a.2] at hr
  exact ⟨D, d, he, hr, hb⟩
set_option maxHeartbeats 6400000 in
set_option maxRecDepth 100000 in
theorem back_walk (A A' A2 : Option Addr) (c c' c2 : Nat) (xs ys zs : List Int) (w : World) (h : RB w w.heap.size A xs) (h' : RB w w.heap.size A' ys) (h2 : RB w w.heap.size A2 zs) (hx : ∀ x ∈ xs, Byte x) (hy : ∀ x ∈ ys, Byte x) (hz : ∀ x ∈ zs, Byte x) (hn2 : A2 = none → c2 = 0) :
    Calls Try.prog 6 #[.slice A xs.length c, .slice A' ys.length c', .slice A2 zs.length c2] w fun e w' => e = .returned (.bool true) ∧ Below w.heap.size w w' := by
  have hcl : ∀ w', Below w.heap.size w w' → RB w' w'.heap.size A xs ∧ RB w' w'.heap.size A' ys ∧ RB w' w'.heap.size A2 zs := fun w' hb =>
    ⟨(RD.below h hb).more hb.size, (RD.below h' hb).more hb.size, (RD.below h2 hb).more hb.size⟩
  replace hcl := Lib.hid hcl
  have HX := Lib.hid hx
  have HY := Lib.hid hy
  have HZ := Lib.hid hz
  clear h h' h2 hx hy hz
  replace hn2 := Lib.hid hn2
  have kc := fun (w : World) (C : Array Value) (n c : Nat) => Lib.run_convert_bytes_const (P := Try.prog) w 41 5 C n c Try.underlying41 Try.underlying5
  have hf1 : RB ((w.alloc (.cells #[.int .u8 97, .int .u8 98] 5 (2, 3))).alloc (.cells #[.int .i64 1, .int .i64 98, .int .i64 99] 45)) (w.heap.size + 1 + 1) (some ⟨w.heap.size, 0, none⟩) [97, 98] :=
    ((RD.new w 1 2 #[.int .u8 97, .int .u8 98] 5 (2, 3) rfl).alloc (by simp) _).more (by omega)
  have hf2 : RC ((w.alloc (.cells #[.int .u8 97, .int .u8 98] 5 (2, 3))).alloc (.cells #[.int .i64 1, .int .i64 98, .int .i64 99] 45)) (w.heap.size + 1 + 1) (some ⟨w.heap.size + 1, 0, none⟩) [⟨1, 98, 99⟩] := by
    have h := RD.new (w.alloc (.cells #[.int .u8 97, .int .u8 98] 5 (2, 3))) 3 1 #[.int .i64 1, .int .i64 98, .int .i64 99] 45 (0, 0) rfl
    rw [World.size_alloc] at h
    exact h
  have hfb : Below w.heap.size w ((w.alloc (.cells #[.int .u8 97, .int .u8 98] 5 (2, 3))).alloc (.cells #[.int .i64 1, .int .i64 98, .int .i64 99] 45)) := ((Below.refl _ _).alloc (Nat.le_refl _) _).alloc (by simp) _
  have hfs : ((w.alloc (.cells #[.int .u8 97, .int .u8 98] 5 (2, 3))).alloc (.cells #[.int .i64 1, .int .i64 98, .int .i64 99] 45)).heap.size = w.heap.size + 1 + 1 := by simp
  rw [← hfs] at hf1 hf2
  replace hf1 := Lib.hid hf1
  replace hf2 := Lib.hid hf2
  replace hfb := Lib.hid hfb
  replace hfs := Lib.hid hfs
  have hf1 : RB ((w.alloc (.cells #[.int .u8 97, .int .u8 98] 5 (2, 3))).alloc (.cells #[.int .i64 1, .int .i64 98, .int .i64 99] 45)) (w.heap.size + 1 + 1) (some ⟨w.heap.size, 0, none⟩) [97, 98] :=
    ((RD.new w 1 2 #[.int .u8 97, .int .u8 98] 5 (2, 3) rfl).alloc (by simp) _).more (by omega)
  have hf2 : RC ((w.alloc (.cells #[.int .u8 97, .int .u8 98] 5 (2, 3))).alloc (.cells #[.int .i64 1, .int .i64 98, .int .i64 99] 45)) (w.heap.size + 1 + 1) (some ⟨w.heap.size + 1, 0, none⟩) [⟨1, 98, 99⟩] := by
    have h := RD.new (w.alloc (.cells #[.int .u8 97, .int .u8 98] 5 (2, 3))) 3 1 #[.int .i64 1, .int .i64 98, .int .i64 99] 45 (0, 0) rfl
    rw [World.size_alloc] at h
    exact h
  have hfb : Below w.heap.size w ((w.alloc (.cells #[.int .u8 97, .int .u8 98] 5 (2, 3))).alloc (.cells #[.int .i64 1, .int .i64 98, .int .i64 99] 45)) := ((Below.refl _ _).alloc (Nat.le_refl _) _).alloc (by simp) _
  have hfs : ((w.alloc (.cells #[.int .u8 97, .int .u8 98] 5 (2, 3))).alloc (.cells #[.int .i64 1, .int .i64 98, .int .i64 99] 45)).heap.size = w.heap.size + 1 + 1 := by simp
  rw [← hfs] at hf1 hf2
  replace hf1 := Lib.hid hf1
  replace hf2 := Lib.hid hf2
  replace hfb := Lib.hid hfb
  replace hfs := Lib.hid hfs
  have hf1 : RB ((w.alloc (.cells #[.int .u8 97, .int .u8 98] 5 (2, 3))).alloc (.cells #[.int .i64 1, .int .i64 98, .int .i64 99] 45)) (w.heap.size + 1 + 1) (some ⟨w.heap.size, 0, none⟩) [97, 98] :=
    ((RD.new w 1 2 #[.int .u8 97, .int .u8 98] 5 (2, 3) rfl).alloc (by simp) _).more (by omega)
  have hf2 : RC ((w.alloc (.cells #[.int .u8 97, .int .u8 98] 5 (2, 3))).alloc (.cells #[.int .i64 1, .int .i64 98, .int .i64 99] 45)) (w.heap.size + 1 + 1) (some ⟨w.heap.size + 1, 0, none⟩) [⟨1, 98, 99⟩] := by
    have h := RD.new (w.alloc (.cells #[.int .u8 97, .int .u8 98] 5 (2, 3))) 3 1 #[.int .i64 1, .int .i64 98, .int .i64 99] 45 (0, 0) rfl
    rw [World.size_alloc] at h
    exact h
  have hfb : Below w.heap.size w ((w.alloc (.cells #[.int .u8 97, .int .u8 98] 5 (2, 3))).alloc (.cells #[.int .i64 1, .int .i64 98, .int .i64 99] 45)) := ((Below.refl _ _).alloc (Nat.le_refl _) _).alloc (by simp) _
  have hfs : ((w.alloc (.cells #[.int .u8 97, .int .u8 98] 5 (2, 3))).alloc (.cells #[.int .i64 1, .int .i64 98, .int .i64 99] 45)).heap.size = w.heap.size + 1 + 1 := by simp
  rw [← hfs] at hf1 hf2
  replace hf1 := Lib.hid hf1
  replace hf2 := Lib.hid hf2
  replace hfb := Lib.hid hfb
  replace hfs := Lib.hid hfs
  obtain ⟨i0, hi0, hz0, hz1, hz2⟩ := info_parts ch_info
  have hf1 : RB ((w.alloc (.cells #[.int .u8 97, .int .u8 98] 5 (2, 3))).alloc (.cells #[.int .i64 1, .int .i64 98, .int .i64 99] 45)) (w.heap.size + 1 + 1) (some ⟨w.heap.size, 0, none⟩) [97, 98] :=
    ((RD.new w 1 2 #[.int .u8 97, .int .u8 98] 5 (2, 3) rfl).alloc (by simp) _).more (by omega)
  have hf2 : RC ((w.alloc (.cells #[.int .u8 97, .int .u8 98] 5 (2, 3))).alloc (.cells #[.int .i64 1, .int .i64 98, .int .i64 99] 45)) (w.heap.size + 1 + 1) (some ⟨w.heap.size + 1, 0, none⟩) [⟨1, 98, 99⟩] := by
    have h := RD.new (w.alloc (.cells #[.int .u8 97, .int .u8 98] 5 (2, 3))) 3 1 #[.int .i64 1, .int .i64 98, .int .i64 99] 45 (0, 0) rfl
    rw [World.size_alloc] at h
    exact h
  have hfb : Below w.heap.size w ((w.alloc (.cells #[.int .u8 97, .int .u8 98] 5 (2, 3))).alloc (.cells #[.int .i64 1, .int .i64 98, .int .i64 99] 45)) := ((Below.refl _ _).alloc (Nat.le_refl _) _).alloc (by simp) _
  have hfs : ((w.alloc (.cells #[.int .u8 97, .int .u8 98] 5 (2, 3))).alloc (.cells #[.int .i64 1, .int .i64 98, .int .i64 99] 45)).heap.size = w.heap.size + 1 + 1 := by simp
  rw [← hfs] at hf1 hf2
  replace hf1 := Lib.hid hf1
  replace hf2 := Lib.hid hf2
  replace hfb := Lib.hid hfb
  replace hfs := Lib.hid hfs
  obtain ⟨i0, hi0, hz0, hz1, hz2⟩ := info_parts ch_info
  have hf1 : RB ((w.alloc (.cells #[.int .u8 97, .int .u8 98] 5 (2, 3))).alloc (.cells #[.int .i64 1, .int .i64 98, .int .i64 99] 45)) (w.heap.size + 1 + 1) (some ⟨w.heap.size, 0, none⟩) [97, 98] :=
    ((RD.new w 1 2 #[.int .u8 97, .int .u8 98] 5 (2, 3) rfl).alloc (by simp) _).more (by omega)
  have hf2 : RC ((w.alloc (.cells #[.int .u8 97, .int .u8 98] 5 (2, 3))).alloc (.cells #[.int .i64 1, .int .i64 98, .int .i64 99] 45)) (w.heap.size + 1 + 1) (some ⟨w.heap.size + 1, 0, none⟩) [⟨1, 98, 99⟩] := by
    have h := RD.new (w.alloc (.cells #[.int .u8 97, .int .u8 98] 5 (2, 3))) 3 1 #[.int .i64 1, .int .i64 98, .int .i64 99] 45 (0, 0) rfl
    rw [World.size_alloc] at h
    exact h
  have hfb : Below w.heap.size w ((w.alloc (.cells #[.int .u8 97, .int .u8 98] 5 (2, 3))).alloc (.cells #[.int .i64 1, .int .i64 98, .int .i64 99] 45)) := ((Below.refl _ _).alloc (Nat.le_refl _) _).alloc (by simp) _
  have hfs : ((w.alloc (.cells #[.int .u8 97, .int .u8 98] 5 (2, 3))).alloc (.cells #[.int .i64 1, .int .i64 98, .int .i64 99] 45)).heap.size = w.heap.size + 1 + 1 := by simp
  rw [← hfs] at hf1 hf2
  replace hf1 := Lib.hid hf1
  replace hf2 := Lib.hid hf2
  replace hfb := Lib.hid hfb
  replace hfs := Lib.hid hfs
  obtain ⟨i0, hi0, hz0, hz1, hz2⟩ := info_parts ch_info
  have hf1 : RB ((w.alloc (.cells #[.int .u8 97, .int .u8 98] 5 (2, 3))).alloc (.cells #[.int .i64 1, .int .i64 98, .int .i64 99] 45)) (w.heap.size + 1 + 1) (some ⟨w.heap.size, 0, none⟩) [97, 98] :=
    ((RD.new w 1 2 #[.int .u8 97, .int .u8 98] 5 (2, 3) rfl).alloc (by simp) _).more (by omega)
  have hf2 : RC ((w.alloc (.cells #[.int .u8 97, .int .u8 98] 5 (2, 3))).alloc (.cells #[.int .i64 1, .int .i64 98, .int .i64 99] 45)) (w.heap.size + 1 + 1) (some ⟨w.heap.size + 1, 0, none⟩) [⟨1, 98, 99⟩] := by
    have h := RD.new (w.alloc (.cells #[.int .u8 97, .int .u8 98] 5 (2, 3))) 3 1 #[.int .i64 1, .int .i64 98, .int .i64 99] 45 (0, 0) rfl
    rw [World.size_alloc] at h
    exact h
  have hfb : Below w.heap.size w ((w.alloc (.cells #[.int .u8 97, .int .u8 98] 5 (2, 3))).alloc (.cells #[.int .i64 1, .int .i64 98, .int .i64 99] 45)) := ((Below.refl _ _).alloc (Nat.le_refl _) _).alloc (by simp) _
  have hfs : ((w.alloc (.cells #[.int .u8 97, .int .u8 98] 5 (2, 3))).alloc (.cells #[.int .i64 1, .int .i64 98, .int .i64 99] 45)).heap.size = w.heap.size + 1 + 1 := by simp
  rw [← hfs] at hf1 hf2
  replace hf1 := Lib.hid hf1
  replace hf2 := Lib.hid hf2
  replace hfb := Lib.hid hfb
  replace hfs := Lib.hid hfs
  go_enter Try.func6, Try.ntmps6
  go_wp2_with fail
  clear kc
  generalize ((w.alloc (.cells #[.int .u8 97, .int .u8 98] 5 (2, 3))).alloc (.cells #[.int .i64 1, .int .i64 98, .int .i64 99] 45)) = W0 at *
  have hs0 : w.heap.size ≤ W0.heap.size := hfb.out.size
  refine (apply_fact w.heap.size (w.heap.size + 1) W0 hf1.out hf2.out).mono ?_
  rintro e W1 ⟨D1, d1, rfl, R1, b1⟩
  have p1 := hfb.out.trans (b1.mono hs0)
  have s1 := str_run W1 _ D1 2 d1 [97, 99] rfl R1 (by simp [Byte])
  rw [fact_s] at s1
  obtain ⟨X1, Y1, Z1⟩ := hcl.out W1 p1
  replace X1 := Lib.hid X1
  replace Y1 := Lib.hid Y1
  replace Z1 := Lib.hid Z1
  replace p1 := Lib.hid p1
  clear hf1 hf2 hfb hfs b1 R1 hs0
  go_wp2_with fail
  clear s1
  by_cases h6 : xs.length ≤ 6000 ∧ ys.length ≤ 6000 ∧ zs.length ≤ 6000
  · as_aux_lemma =>
    obtain ⟨l1, l2, l3⟩ := h6
    have E1 : dfE xs ys = 0 := if_neg (by omega)
    have E2 : dfE ys zs = 0 := if_neg (by omega)
    have E3 : dfE xs xs = 0 := if_neg (by omega)
    have B1 : dfB xs ys = diffL xs ys := if_neg (by omega)
    have B2 : dfB ys zs = diffL ys zs := if_neg (by omega)
    have B3 : dfB xs xs = [] := (if_neg (by omega)).trans (diffL_self xs)
    obtain ⟨a1, a2⟩ := diff_app xs ys HX.out HY.out l1 l2
    obtain ⟨a3, a4⟩ := diff_app ys zs HY.out HZ.out l2 l3
    obtain ⟨a5, a6⟩ := diff_app ys xs HY.out HX.out l2 l1
    have a7 := diff_chk xs ys HX.out HY.out l1 l2
    have a8 := diffL_len xs ys l1 l2
    have a9 := diffL_sw xs ys
    have a10 := diffL_len ys zs l2 l3
    have a11 := diffL_len ys xs l2 l1
    replace E1 := Lib.hid E1
    replace E2 := Lib.hid E2
    replace E3 := Lib.hid E3
    replace B1 := Lib.hid B1
    replace B2 := Lib.hid B2
    replace B3 := Lib.hid B3
    replace a1 := Lib.hid a1
    replace a2 := Lib.hid a2
    replace a3 := Lib.hid a3
    replace a4 := Lib.hid a4
    replace a5 := Lib.hid a5
    replace a6 := Lib.hid a6
    replace a7 := Lib.hid a7
    replace a9 := Lib.hid a9
    have hc2 := diff_u A A' c c' xs ys W1 X1.out Y1.out HX.out HY.out
    rw [E1.out, B1.out, erK0] at hc2
    refine hc2.mono ?_
    clear hc2
    rintro e W2 ⟨D2, d2, rfl, R2, b2⟩
    have p2 := p1.out.trans (b2.mono p1.out.size)
    obtain ⟨X2, Y2, Z2⟩ := hcl.out W2 p2
    replace X2 := Lib.hid X2
    replace Y2 := Lib.hid Y2
    replace Z2 := Lib.hid Z2
    replace p2 := Lib.hid p2
    replace R2 := Lib.hid R2
    clear b2 X1 Y1 Z1
    go_wp2_with fail
    have hc3 := diff_u A' A2 c' c2 ys zs W2 Y2.out Z2.out HY.out HZ.out
    rw [E2.out, B2.out, erK0] at hc3
    refine hc3.mono ?_
    clear hc3
    rintro e W3 ⟨D3, d3, rfl, R3, b3⟩
    have p3 := p2.out.trans (b3.mono p2.out.size)
    obtain ⟨X3, Y3, Z3⟩ := hcl.out W3 p3
    replace X3 := Lib.hid X3
    replace Y3 := Lib.hid Y3
    replace Z3 := Lib.hid Z3
    replace p3 := Lib.hid p3
    replace R2 := Lib.hid (RD.more (RD.below R2.out b3) b3.size)
    replace R3 := Lib.hid R3
    clear b3 X2 Y2 Z2
    go_wp2_with fail
    have hc4 := apply_u A D2 c d2 xs (diffL xs ys) W3 X3.out HX.out R2.out
    rw [a1.out, a2.out, erK0] at hc4
    refine hc4.mono ?_
    clear hc4
    rintro e W4 ⟨D4, d4, rfl, R4, b4⟩
    have p4 := p3.out.trans (b4.mono p3.out.size)
    obtain ⟨X4, Y4, Z4⟩ := hcl.out W4 p4
    replace X4 := Lib.hid X4
    replace Y4 := Lib.hid Y4
    replace Z4 := Lib.hid Z4
    replace p4 := Lib.hid p4
    replace R2 := Lib.hid (RD.more (RD.below R2.out b4) b4.size)
    replace R3 := Lib.hid (RD.more (RD.below R3.out b4) b4.size)
    replace R4 := Lib.hid R4
    clear b4 X3 Y3 Z3
    go_wp2_with fail
    have hc5 := apply_u D4 D3 d4 d3 ys (diffL ys zs) W4 R4.out HY.out R3.out
    rw [a3.out, a4.out, erK0] at hc5
    refine hc5.mono ?_
    clear hc5
    rintro e W5 ⟨D5, d5, rfl, R5, b5⟩
    have p5 := p4.out.trans (b5.mono p4.out.size)
    obtain ⟨X5, Y5, Z5⟩ := hcl.out W5 p5
    replace X5 := Lib.hid X5
    replace Y5 := Lib.hid Y5
    replace Z5 := Lib.hid Z5
    replace p5 := Lib.hid p5
    replace R2 := Lib.hid (RD.more (RD.below R2.out b5) b5.size)
    replace R3 := Lib.hid (RD.more (RD.below R3.out b5) b5.size)
    replace R4 := Lib.hid (RD.more (RD.below R4.out b5) b5.size)
    replace R5 := Lib.hid R5
    clear b5 X4 Y4 Z4
    clear R3
    have s1 := str_run W5 _ D4 ys.length d4 ys rfl R4.out HY.out
    have s2 := str_run W5 _ A' ys.length c' ys rfl Y5.out HY.out
    have s3 := str_run W5 _ D5 zs.length d5 zs rfl R5.out HZ.out
    have s4 := str_run W5 _ A2 zs.length c2 zs rfl Z5.out HZ.out
    have q1 : ((toS ys).toList != (toS ys).toList) = false := by simp
    have q2 : ((toS zs).toList != (toS zs).toList) = false := by simp
    go_wp2_with fail
    clear s1 s2 s3 s4 q1 q2 R4 R5
    generalize hLX : diffL xs ys = LX at *
    replace hLX := Lib.hid hLX
    go_loopw [15, 16] (fun vb vi wr => ∃ k : Nat, vi = .int .i64 k ∧ k ≤ LX.length ∧ Hid (wr.ownsRow W5.heap.size 45 3 vb k (((LX.take k).map sw).flatMap chC)) ∧ Hid (Below W5.heap.size W5 wr)) (fun _ vi _ => LX.length - (intOf vi).toNat)
    case atStart => exact ⟨0, rfl, Nat.zero_le _, Lib.hid (World.ownsRow_nil _ _ _ _), Lib.hid (Below.refl _ _)⟩
    case round =>
      obtain ⟨k, rfl, hk, ho, hb⟩ := hrel
      by_cases hlt : k < LX.length
      · as_aux_lemma =>
        have hs := hb.out.size
        have HR : RC wr W5.heap.size D2 LX := RD.below R2.out hb.out
        obtain ⟨b, off, hA, hbB⟩ := rc_addr HR (by omega)
        obtain ⟨e0, e1, e2⟩ := rc_cell HR hA k hlt
        subst hA
        have j1 : (k : Int) < (LX.length : Int) := by omega
        have j2 : 0 ≤ (k : Int) := by omega
        have hfm : ((LX.take (k + 1)).map sw).flatMap chC = ((LX.take k).map sw).flatMap chC ++ chC (sw (chG LX k)) := by
          have htk : LX.take (k + 1) = LX.take k ++ [chG LX k] := by
            rw [List.take_succ_eq_append_getElem hlt]
            unfold chG
            rw [List.getD_eq_getElem?_getD, List.getElem?_eq_getElem hlt]; rfl
          rw [htk, List.map_append, List.flatMap_append]; simp
        have hbl : b < wr.heap.size := by omega
        have hcells : ∀ w', Below W5.heap.size W5 w' → w'.cell? ⟨b, off + k * 3, none⟩ = some (.int .i64 (chG LX k).a) ∧ w'.cell? ⟨b, off + k * 3 + 1, none⟩ = some (.int .i64 (chG LX k).o) ∧ w'.cell? ⟨b, off + k * 3 + 2, none⟩ = some (.int .i64 (chG LX k).n) := fun w' hb' => rc_cell (RD.below R2.out hb') rfl k hlt
        replace hcells := Lib.hid hcells
        have hown5 : ∀ g, u15.ownBlock = some g → W5.heap.size ≤ g ∧ g < wr.heap.size := fun g hv => ho.out.lt g hv
        replace hown5 := Lib.hid hown5
        replace hfm := Lib.hid hfm
        replace HR := Lib.hid HR
        generalize chG LX k = cg at *
        obtain ⟨ca, co, cn⟩ := cg
        dsimp only at *
        generalize ((LX.take k).map sw).flatMap chC = cs at *
        go_upto_region 16 with fail
        go_region_held3 (fun wz => wz.cell? ⟨b, off + k * 3, none⟩ = some (.int .i64 ca) ∧ wz.cell? ⟨b, off + k * 3 + 1, none⟩ = some (.int .i64 co) ∧ wz.cell? ⟨b, off + k * 3 + 2, none⟩ = some (.int .i64 cn)) (first | exact hcells.out _ hK1 | exact hcells.out _ (by repeat (first | exact hb.out | apply Below.drawK | refine Below.alloc ?_ (by first | omega | (simp; omega)) _))) (first | (refine step_k1 (by rfl) (.tmp 108) (.tmp 125) (by rfl) W5 W5.heap.size u15 k cs (.int .i64 ca) (.int .i64 cn) (.int .i64 co) (by rfl) (by repeat (first | exact ho.out | apply World.ownsRow.alloc)) (by repeat (first | exact hb.out | apply Below.drawK | refine Below.alloc ?_ (by first | omega | (simp; omega)) _)) _ _ (by rfl) (by repeat (first | exact Blk.newK _ _ _ _ (by first | rfl | simp) | apply Blk.drew | apply Blk.alloc)) (by simp [Value.oneCell']) (by omega) (Nat.le_refl _) ?_; intro v8 W8 hown8 hK1))
        all_goals
          replace hown8 := Lib.hid hown8
          replace hK1 := Lib.hid hK1
          go_wp2_with fail
          go_roundw
          case rel => exact ⟨k + 1, by go_num, by omega, Lib.hid (by rw [hfm.out]; exact hown8.out), hK1⟩
          case measure => simp [intOf]; omega
      · have j1 : ¬ (k : Int) < (LX.length : Int) := by omega
        have ho2 : wr.ownsRow W5.heap.size 45 3 u15 (diffL ys xs).length ((diffL ys xs).flatMap chC) := by
          have := ho.out
          rw [show k = LX.length by omega, List.take_of_length_le (Nat.le_refl _), a9.out] at this
          have hq : LX.length = (diffL ys xs).length := by rw [← a9.out, List.length_map]
          rwa [hq] at this
        obtain ⟨D7, d7, rfl, _⟩ := own_slice ho2
        have R7 : RC wr wr.heap.size D7 (diffL ys xs) := RD.of_own ho2
        replace R7 := Lib.hid R7
        have hbw := hb.out
        have p6 := p5.out.trans (hbw.mono p5.out.size)
        obtain ⟨X6, Y6, Z6⟩ := hcl.out wr p6
        replace X6 := Lib.hid X6
        replace Y6 := Lib.hid Y6
        replace Z6 := Lib.hid Z6
        replace p6 := Lib.hid p6
        replace R2 := Lib.hid (RD.more (RD.below R2.out hbw) hbw.size)
        clear ho ho2 hb hbw X5 Y5 Z5
        go_wp2_with fail
        generalize wr = W6 at *
        have hc7 := apply_u A' D7 c' d7 ys (diffL ys xs) W6 Y6.out HY.out R7.out
        rw [a5.out, a6.out, erK0] at hc7
        refine hc7.mono ?_
        clear hc7
        rintro e W7 ⟨D8, d8, rfl, R8, b7⟩
        have p7 := p6.out.trans (b7.mono p6.out.size)
        obtain ⟨X7, Y7, Z7⟩ := hcl.out W7 p7
        replace X7 := Lib.hid X7
        replace Y7 := Lib.hid Y7
        replace Z7 := Lib.hid Z7
        replace p7 := Lib.hid p7
        replace R2 := Lib.hid (RD.more (RD.below R2.out b7) b7.size)
        replace R7 := Lib.hid (RD.more (RD.below R7.out b7) b7.size)
        replace R8 := Lib.hid R8
        clear b7 X6 Y6 Z6
        clear R7
        go_wp2_with fail
        have hc8 := diff_u A A c c xs xs W7 X7.out X7.out HX.out HX.out
        rw [E3.out, B3.out, erK0] at hc8
        refine hc8.mono ?_
        clear hc8
        rintro e W8 ⟨D9, d9, rfl, R9, b8⟩
        have p8 := p7.out.trans (b8.mono p7.out.size)
        obtain ⟨X8, Y8, Z8⟩ := hcl.out W8 p8
        replace X8 := Lib.hid X8
        replace Y8 := Lib.hid Y8
        replace Z8 := Lib.hid Z8
        replace p8 := Lib.hid p8
        replace R2 := Lib.hid (RD.more (RD.below R2.out b8) b8.size)
        replace R8 := Lib.hid (RD.more (RD.below R8.out b8) b8.size)
        clear b8 X7 Y7 Z7
        clear R9
        go_wp2_with fail
        refine (pack_any D2 d2 LX W8 R2.out).mono ?_
        rintro e W9 ⟨b9, ⟨hz, _⟩ | ⟨hz, v9, rfl, ho9⟩⟩
        · exact absurd a7.out hz
        have p9 := p8.out.trans (b9.mono p8.out.size)
        obtain ⟨X9, Y9, Z9⟩ := hcl.out W9 p9
        replace X9 := Lib.hid X9
        replace Y9 := Lib.hid Y9
        replace Z9 := Lib.hid Z9
        replace p9 := Lib.hid p9
        have hb89 := Lib.hid b9
        replace R8 := RD.more (RD.below R8.out b9) b9.size
        have hs9 := b9.size
        replace ho9 := Lib.hid ho9
        clear X8 Y8 Z8 b9 hz
        have s1 := str_run W9 _ D8 xs.length d8 xs rfl R8 HX.out
        have s2 := str_run W9 _ A xs.length c xs rfl X9.out HX.out
        have q1 : ((toS xs).toList != (toS xs).toList) = false := by simp
        go_upto_region 22 with fail
        clear s1 s2 q1 R8
        clear X9 Y9
        obtain ⟨i1, hi1', hz0', hz1', hz2'⟩ := info_parts num_info
        have hpl := pkB_len LX (by omega)
        go_wp2_with (at_builtin; refine wpList_append_rd rfl (.tmp 166) (.tmp 167) 41 rfl W8.heap.size 5 i1 _ 1 1 Try.underlying41 hi1' hz0' hz1' hz2' rfl (by decide) W9 v9 (pkB LX).length _ rfl ho9.out W9.heap.size A2 zs.length c2 (zs.map (.int .u8)) rfl hn2.out Z9.out (by simp [Value.oneCell']) (by unfold maxLen; omega) (by omega) hs9 ?_; intro v10 W10 ho10 hg10)
        have hb10 : Below W8.heap.size W8 W10 := hb89.out.grown hg10 hs9 (fun g hg => (ho9.out.lt g hg).1)
        have p10 := p8.out.trans (hb10.mono p8.out.size)
        have R10 : RC W10 W10.heap.size D2 LX := RD.more (RD.below R2.out hb10) hb10.size
        rw [← List.map_append] at ho10
        obtain ⟨D10, d10, rfl, _⟩ := own_slice ho10
        have Q10 := RD.of_own ho10
        rw [← List.length_append] at Q10
        have hu := unpack_ok D10 d10 LX (pkB LX ++ zs) zs W10 Q10 (fun x hx => by
          rcases List.mem_append.1 hx with h | h
          · exact pkB_byte LX x h
          · exact HZ.out x h) (by rw [List.length_append]; omega) (by omega) a7.out rfl
        rw [List.length_append] at hu
        replace R10 := Lib.hid R10
        replace p10 := Lib.hid p10
        replace hu := Lib.hid hu
        clear hg10 hb10 ho10 Q10 ho9 R2
        go_wp2_with fail
        refine hu.out.mono ?_
        clear hu
        rintro e W11 ⟨b11, D11, d11, n11, rfl, R11⟩
        have p11 := p10.out.trans (b11.mono p10.out.size)
        have R12 : RC W11 W11.heap.size D2 LX := RD.more (RD.below R10.out b11) b11.size
        replace R11 := Lib.hid R11
        replace R12 := Lib.hid R12
        replace p11 := Lib.hid p11
        clear R10 b11
        go_wp2_with fail
        refine (changes_eq D11 D2 d11 d2 W11.heap.size LX W11 R11.out R12.out (by omega) (Nat.le_refl _)).mono ?_
        rintro e W12 ⟨rfl, b12⟩
        have p12 := p11.out.trans (b12.mono p11.out.size)
        replace p12 := Lib.hid p12
        clear b12
        go_wp2_with fail
        go_ret
        exact ⟨rfl, p12.out⟩
  · as_aux_lemma =>
    rcases (by omega : 6000 < xs.length ∨ (xs.length ≤ 6000 ∧ 6000 < ys.length) ∨ (xs.length ≤ 6000 ∧ ys.length ≤ 6000 ∧ 6000 < zs.length)) with l1 | ⟨l1, l2⟩ | ⟨l1, l2, l3⟩
    · have E1 : dfE xs ys = 4 := if_pos (by omega)
      have d1 : decide ((6000 : Int) < (xs.length : Int)) = true := by simp; omega
      replace E1 := Lib.hid E1
      have e4 : erK 4 = .iface 69 (.int .i64 4) := rfl
      replace e4 := Lib.hid e4
      have hc2 := diff_u A A' c c' xs ys W1 X1.out Y1.out HX.out HY.out
      rw [E1.out, e4.out] at hc2
      refine hc2.mono ?_
      clear hc2
      rintro e W2 ⟨D2, d2, rfl, R2, b2⟩
      have p2 := p1.out.trans (b2.mono p1.out.size)
      obtain ⟨X2, Y2, Z2⟩ := hcl.out W2 p2
      replace X2 := Lib.hid X2
      replace Y2 := Lib.hid Y2
      replace Z2 := Lib.hid Z2
      replace p2 := Lib.hid p2
      clear b2 X1 Y1 Z1
      clear R2
      go_wp2_with fail
      by_cases h9 : dfE ys zs = 0
      · have e9 : erK (dfE ys zs) = .nilIface := by rw [h9]; rfl
        replace e9 := Lib.hid e9
        replace h9 := Lib.hid h9
        have hc3 := diff_u A' A2 c' c2 ys zs W2 Y2.out Z2.out HY.out HZ.out
        rw [e9.out] at hc3
        refine hc3.mono ?_
        clear hc3
        rintro e W3 ⟨D3, d3, rfl, R3, b3⟩
        have p3 := p2.out.trans (b3.mono p2.out.size)
        obtain ⟨X3, Y3, Z3⟩ := hcl.out W3 p3
        replace X3 := Lib.hid X3
        replace Y3 := Lib.hid Y3
        replace Z3 := Lib.hid Z3
        replace p3 := Lib.hid p3
        clear b3 X2 Y2 Z2
        clear R3
        go_wp2_with fail
        go_ret
        exact ⟨rfl, p3.out⟩
      · have e9 := erKn (dfE ys zs) h9
        replace e9 := Lib.hid e9
        replace h9 := Lib.hid h9
        have hc3 := diff_u A' A2 c' c2 ys zs W2 Y2.out Z2.out HY.out HZ.out
        rw [e9.out] at hc3
        refine hc3.mono ?_
        clear hc3
        rintro e W3 ⟨D3, d3, rfl, R3, b3⟩
        have p3 := p2.out.trans (b3.mono p2.out.size)
        obtain ⟨X3, Y3, Z3⟩ := hcl.out W3 p3
        replace X3 := Lib.hid X3
        replace Y3 := Lib.hid Y3
        replace Z3 := Lib.hid Z3
        replace p3 := Lib.hid p3
        clear b3 X2 Y2 Z2
        clear R3
        go_wp2_with fail
        go_ret
        exact ⟨rfl, p3.out⟩
    · have E1 : dfE xs ys = 4 := if_pos (by omega)
      have d1 : decide ((6000 : Int) < (xs.length : Int)) = false := by simp; omega
      have d2 : decide ((6000 : Int) < (ys.length : Int)) = true := by simp; omega
      replace E1 := Lib.hid E1
      have e4 : erK 4 = .iface 69 (.int .i64 4) := rfl
      replace e4 := Lib.hid e4
      have hc2 := diff_u A A' c c' xs ys W1 X1.out Y1.out HX.out HY.out
      rw [E1.out, e4.out] at hc2
      refine hc2.mono ?_
      clear hc2
      rintro e W2 ⟨D2, d2, rfl, R2, b2⟩
      have p2 := p1.out.trans (b2.mono p1.out.size)
      obtain ⟨X2, Y2, Z2⟩ := hcl.out W2 p2
      replace X2 := Lib.hid X2
      replace Y2 := Lib.hid Y2
      replace Z2 := Lib.hid Z2
      replace p2 := Lib.hid p2
      clear b2 X1 Y1 Z1
      clear R2
      go_wp2_with fail
      by_cases h9 : dfE ys zs = 0
      · have e9 : erK (dfE ys zs) = .nilIface := by rw [h9]; rfl
        replace e9 := Lib.hid e9
        replace h9 := Lib.hid h9
        have hc3 := diff_u A' A2 c' c2 ys zs W2 Y2.out Z2.out HY.out HZ.out
        rw [e9.out] at hc3
        refine hc3.mono ?_
        clear hc3
        rintro e W3 ⟨D3, d3, rfl, R3, b3⟩
        have p3 := p2.out.trans (b3.mono p2.out.size)
        obtain ⟨X3, Y3, Z3⟩ := hcl.out W3 p3
        replace X3 := Lib.hid X3
        replace Y3 := Lib.hid Y3
        replace Z3 := Lib.hid Z3
        replace p3 := Lib.hid p3
        clear b3 X2 Y2 Z2
        clear R3
        go_wp2_with fail
        go_ret
        exact ⟨rfl, p3.out⟩
      · have e9 := erKn (dfE ys zs) h9
        replace e9 := Lib.hid e9
        replace h9 := Lib.hid h9
        have hc3 := diff_u A' A2 c' c2 ys zs W2 Y2.out Z2.out HY.out HZ.out
        rw [e9.out] at hc3
        refine hc3.mono ?_
        clear hc3
        rintro e W3 ⟨D3, d3, rfl, R3, b3⟩
        have p3 := p2.out.trans (b3.mono p2.out.size)
        obtain ⟨X3, Y3, Z3⟩ := hcl.out W3 p3
        replace X3 := Lib.hid X3
        replace Y3 := Lib.hid Y3
        replace Z3 := Lib.hid Z3
        replace p3 := Lib.hid p3
        clear b3 X2 Y2 Z2
        clear R3
        go_wp2_with fail
        go_ret
        exact ⟨rfl, p3.out⟩
    · have E1 : dfE xs ys = 0 := if_neg (by omega)
      have E2 : dfE ys zs = 4 := if_pos (by omega)
      have d1 : decide ((6000 : Int) < (xs.length : Int)) = false := by simp; omega
      have d2 : decide ((6000 : Int) < (ys.length : Int)) = false := by simp; omega
      have d3 : decide ((6000 : Int) < (zs.length : Int)) = true := by simp; omega
      replace E2 := Lib.hid E2
      replace E1 := Lib.hid E1
      have e4 : erK 4 = .iface 69 (.int .i64 4) := rfl
      replace e4 := Lib.hid e4
      have hc2 := diff_u A A' c c' xs ys W1 X1.out Y1.out HX.out HY.out
      rw [E1.out, erK0] at hc2
      refine hc2.mono ?_
      clear hc2
      rintro e W2 ⟨D2, d2, rfl, R2, b2⟩
      have p2 := p1.out.trans (b2.mono p1.out.size)
      obtain ⟨X2, Y2, Z2⟩ := hcl.out W2 p2
      replace X2 := Lib.hid X2
      replace Y2 := Lib.hid Y2
      replace Z2 := Lib.hid Z2
      replace p2 := Lib.hid p2
      clear b2 X1 Y1 Z1
      clear R2
      go_wp2_with fail
      have hc3 := diff_u A' A2 c' c2 ys zs W2 Y2.out Z2.out HY.out HZ.out
      rw [E2.out, e4.out] at hc3
      refine hc3.mono ?_
      clear hc3
      rintro e W3 ⟨D3, d3, rfl, R3, b3⟩
      have p3 := p2.out.trans (b3.mono p2.out.size)
      obtain ⟨X3, Y3, Z3⟩ := hcl.out W3 p3
      replace X3 := Lib.hid X3
      replace Y3 := Lib.hid Y3
      replace Z3 := Lib.hid Z3
      replace p3 := Lib.hid p3
      clear b3 X2 Y2 Z2
      clear R3
      go_wp2_with fail
      go_ret
      exact ⟨rfl, p3.out⟩
set_option maxRecDepth 100000 in
theorem law_walk (a0 : Option Addr) (len0 cap0 : Nat) (z0 : List Int) (a1 : Option Addr) (len1 cap1 : Nat) (z1 : List Int) (a2 : Option Addr) (len2 cap2 : Nat) (z2 : List Int) (w : World) (w0 : IsRow .u8 w a0 len0 cap0 z0) (w1 : IsRow .u8 w a1 len1 cap1 z1) (w2 : IsRow .u8 w a2 len2 cap2 z2) :
    Calls Try.prog 6 #[.slice a0 len0 cap0, .slice a1 len1 cap1, .slice a2 len2 cap2] w fun e w' => e = .returned (.bool true) ∧ Below w.heap.size w w' := by
  obtain ⟨xs, rfl, hr0, hw0, _, _⟩ := isRow_rd w0
  obtain ⟨ys, rfl, hr1, hw1, _, _⟩ := isRow_rd w1
  have hn2 : a2 = none → cap2 = 0 := by
    rcases w2 with ⟨_, _, h, _⟩ | ⟨x, h, _⟩
    · exact fun _ => h
    · intro e; rw [e] at h; cases h
  obtain ⟨zs, rfl, hr2, hw2, _, _⟩ := isRow_rd w2
  exact back_walk a0 a1 a2 cap0 cap1 cap2 xs ys zs w hr0 hr1 hr2 (fun x hx => byteK (hw0 x hx)) (fun x hx => byteK (hw1 x hx)) (fun x hx => byteK (hw2 x hx)) hn2
end Go.Proofs.Ytkkdegcbikjebaa
