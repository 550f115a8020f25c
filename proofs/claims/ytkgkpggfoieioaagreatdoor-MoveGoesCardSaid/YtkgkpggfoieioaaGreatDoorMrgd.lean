import Derived.Test.YtkgkpggfoieioaaGreatDoorMrgc
namespace Go.Proofs.YtkgkpggfoieioaaGreatDoor
set_option linter.unusedVariables false
open Go.RowKit
theorem int_info : (Tryz.prog.info? 3).map (fun i => (i.zero, i.size, i.bytes)) = some (some (.int .i64 0), 1, 8) := by kernel_rfl
theorem onto_any (s : SF) (f : GF) (k : Nat) (fl : Bool) (w : World) (h : FOk w s f) (hk : k < f.ground.length) :
    Calls Tryz.prog 41 #[fA s f, .int .i64 k, .bool fl] w fun e w' => e = .returned (.int .i64 (ontoL f k fl)) ∧ Below w.heap.size w w' := by
  obtain ⟨b, o, hA, hc, hb⟩ := h.2.2.1.at_ hk
  unfold ontoL gAt
  unfold fA
  obtain ⟨wd, hi, gr, ore⟩ := f
  obtain ⟨⟨Ag, cg⟩, ⟨Ao, co⟩⟩ := s
  dsimp only at *
  generalize gr.getD k 0 = g at *
  generalize gr.length = n at *
  generalize ore.length = m at *
  subst hA
  clear h
  have i1 : (k : Int) < (n : Int) := by omega
  have hbl : b ≠ w.heap.size := by omega
  have hF : ontoG g fl = 0 ∨ True := .inr trivial
  clear hF
  rcases (by
    by_cases h1 : g = 1
    · exact .inl h1
    · by_cases h2 : g = 2
      · exact .inr (.inl h2)
      · by_cases h3 : g = 3
        · exact .inr (.inr (.inl h3))
        · exact .inr (.inr (.inr ⟨h1, h2, h3⟩)) : g = 1 ∨ g = 2 ∨ g = 3 ∨ (g ≠ 1 ∧ g ≠ 2 ∧ g ≠ 3)) with h1 | h1 | h1 | ⟨h1, h2, h3⟩
  · subst h1
    go_enter Tryz.func41, Tryz.ntmps41
    go_wp2_with fail
    go_ret
    exact ⟨by simp [ontoG], (Below.refl _ _).alloc (Nat.le_refl _) _⟩
  · subst h1
    cases fl
    · go_enter Tryz.func41, Tryz.ntmps41
      go_wp2_with fail
      go_ret
      exact ⟨by simp [ontoG], (Below.refl _ _).alloc (Nat.le_refl _) _⟩
    · go_enter Tryz.func41, Tryz.ntmps41
      go_wp2_with fail
      go_ret
      exact ⟨by simp [ontoG], (Below.refl _ _).alloc (Nat.le_refl _) _⟩
  · subst h1
    cases fl
    · go_enter Tryz.func41, Tryz.ntmps41
      go_wp2_with fail
      go_ret
      exact ⟨by simp [ontoG], (Below.refl _ _).alloc (Nat.le_refl _) _⟩
    · go_enter Tryz.func41, Tryz.ntmps41
      go_wp2_with fail
      go_ret
      exact ⟨by simp [ontoG], (Below.refl _ _).alloc (Nat.le_refl _) _⟩
  · have b1 : (g == 1) = false := by simp [h1]
    have b2 : (g == 2) = false := by simp [h2]
    have b3 : (g == 3) = false := by simp [h3]
    have hv : ontoG g fl = 1 := by unfold ontoG; rw [if_neg (by simp [h1, h2]), if_neg (by simp [h3])]
    rw [hv]
    clear h1 h2 h3 hv
    go_enter Tryz.func41, Tryz.ntmps41
    go_wp2_with fail
    go_ret
    exact ⟨rfl, (Below.refl _ _).alloc (Nat.le_refl _) _⟩
theorem dirs0 (w : World) : (Instr.index 160 (.agg #[.int .i64 0, .int .i64 (-1), .int .i64 (-1), .int .i64 0, .int .i64 1, .int .i64 0, .int .i64 0, .int .i64 1]) (.int .i64 0)).run Tryz.prog w = .ok (.agg #[.int .i64 0, .int .i64 (-1)]) w := by kernel_rfl
theorem dirs1 (w : World) : (Instr.index 160 (.agg #[.int .i64 0, .int .i64 (-1), .int .i64 (-1), .int .i64 0, .int .i64 1, .int .i64 0, .int .i64 0, .int .i64 1]) (.int .i64 1)).run Tryz.prog w = .ok (.agg #[.int .i64 (-1), .int .i64 0]) w := by kernel_rfl
theorem dirs2 (w : World) : (Instr.index 160 (.agg #[.int .i64 0, .int .i64 (-1), .int .i64 (-1), .int .i64 0, .int .i64 1, .int .i64 0, .int .i64 0, .int .i64 1]) (.int .i64 2)).run Tryz.prog w = .ok (.agg #[.int .i64 1, .int .i64 0]) w := by kernel_rfl
theorem dirs3 (w : World) : (Instr.index 160 (.agg #[.int .i64 0, .int .i64 (-1), .int .i64 (-1), .int .i64 0, .int .i64 1, .int .i64 0, .int .i64 0, .int .i64 1]) (.int .i64 3)).run Tryz.prog w = .ok (.agg #[.int .i64 0, .int .i64 1]) w := by kernel_rfl
def BesRel (w W : World) (f : GF) (a : Int) (v i : Value) (wr : World) : Prop := ∃ k : Nat, k ≤ 4 ∧ i = .int .i64 k ∧ wr.ownsRow (w.heap.size + 1) 3 1 v (besN f a k).length ((besN f a k).map (.int .i64)) ∧ Below (w.heap.size + 1) W wr
set_option maxHeartbeats 3200000 in
set_option maxRecDepth 100000 in
theorem beside_any (s : SF) (f : GF) (a : Int) (w : World) (hw : 1 ≤ f.wide ∧ f.wide ≤ 12) (hh : 1 ≤ f.high ∧ f.high ≤ 12) (ha : 0 ≤ a ∧ a < f.wide * f.high) :
    Calls Tryz.prog 90 #[fA s f, .int .i64 a] w fun e w' => ∃ v, e = .returned v ∧ w'.ownsRow w.heap.size 3 1 v (besL f a).length ((besL f a).map (.int .i64)) ∧ Below w.heap.size w w' := by
  obtain ⟨i0, hi0, hz0, hz1, hz2⟩ := info_parts int_info
  have hr1 : 0 ≤ a / f.wide := Int.ediv_nonneg ha.1 (by omega)
  have hr2 : a / f.wide < f.high := Int.ediv_lt_of_lt_mul (by omega) (by rw [Int.mul_comm]; exact ha.2)
  have hc1 : 0 ≤ a % f.wide := Int.emod_nonneg _ (by omega)
  have hc2 : a % f.wide < f.wide := Int.emod_lt_of_pos _ (by omega)
  have hdm : f.wide * (a / f.wide) + a % f.wide = a := Int.mul_ediv_add_emod a f.wide
  have ht1 : a.tmod f.wide = a % f.wide := Int.tmod_eq_emod_of_nonneg ha.1
  have ht2 : a.tdiv f.wide = a / f.wide := Int.tdiv_eq_ediv_of_nonneg ha.1
  have hm : f.wide * f.high ≤ 144 := mul_le_of (c := 12) (d := 12) (by omega) hw.2 (by omega) hh.2
  have hbes : ∀ k, besS f a k = besS f a k := fun _ => rfl
  unfold fA
  obtain ⟨wd, hi, gr, ore⟩ := f
  obtain ⟨⟨Ag, cg⟩, ⟨Ao, co⟩⟩ := s
  dsimp only at *
  clear hbes
  generalize hR : a / wd = R at *
  generalize hC : a % wd = C at *
  replace hR := Lib.hid hR
  replace hC := Lib.hid hC
  replace hdm := Lib.hid hdm
  have ha2 : a ≤ 144 := by omega
  obtain ⟨ha0, ha1⟩ := ha
  replace ha1 := Lib.hid ha1
  go_enter Tryz.func90, Tryz.ntmps90
  go_wp2_with fail
  go_big_quiet (fail)
  go_wp2_with fail
  have hb1 : Below w.heap.size w ((w.alloc (.cells #[.int .i64 wd, .int .i64 hi, .slice Ag gr.length cg, .slice Ao ore.length co] 25)).drewN nq) := bdrewN ((Below.refl _ _).alloc (Nat.le_refl _) _) _
  have hk1 : Blk ((w.alloc (.cells #[.int .i64 wd, .int .i64 hi, .slice Ag gr.length cg, .slice Ao ore.length co] 25)).drewN nq) w.heap.size 25 #[.int .i64 wd, .int .i64 hi, .slice Ag gr.length cg, .slice Ao ore.length co] := Blk.new w _ _
  have hs1 : ((w.alloc (.cells #[.int .i64 wd, .int .i64 hi, .slice Ag gr.length cg, .slice Ao ore.length co] 25)).drewN nq).heap.size = w.heap.size + 1 := by simp [World.drewN]
  generalize ((w.alloc (.cells #[.int .i64 wd, .int .i64 hi, .slice Ag gr.length cg, .slice Ao ore.length co] 25)).drewN nq) = W at *
  replace hs1 := Lib.hid hs1
  replace hb1 := Lib.hid hb1
  replace hk1 := Lib.hid hk1
  generalize hF : (⟨wd, hi, gr, ore⟩ : GF) = F at *
  have F0 : besS F a 0 = if R - 1 < 0 then [] else [a - wd] := by subst hF; show (if a / wd - 1 < 0 then [] else [a - wd]) = _; rw [hR.out]
  have F1 : besS F a 1 = if C - 1 < 0 then [] else [a - 1] := by subst hF; show (if a % wd - 1 < 0 then [] else [a - 1]) = _; rw [hC.out]
  have F2 : besS F a 2 = if C + 1 < wd then [a + 1] else [] := by subst hF; show (if a % wd + 1 < wd then [a + 1] else []) = _; rw [hC.out]
  have F3 : besS F a 3 = if R + 1 < hi then [a + wd] else [] := by subst hF; show (if a / wd + 1 < hi then [a + wd] else []) = _; rw [hR.out]
  replace hF := Lib.hid hF
  replace F0 := Lib.hid F0
  replace F1 := Lib.hid F1
  replace F2 := Lib.hid F2
  replace F3 := Lib.hid F3
  clear ht1 ht2
  have j0 := dirs0
  have j1 := dirs1
  have j2 := dirs2
  have j3 := dirs3
  go_loopw [4, 24] (fun v i wr => BesRel w W F a v i wr) (fun _ i _ => 4 - (intOf i).toNat)
  case atStart => exact ⟨0, by omega, rfl, World.ownsRow_nil _ _ _ _, Below.refl _ _⟩
  case round =>
    obtain ⟨k, hk, rfl, hown, hb⟩ := hrel
    have hkb := hk1.out.below hb (by omega)
    have c0 : wr.cell? ⟨w.heap.size, 0, none⟩ = some (.int .i64 wd) := hkb.cell 0
    have c1 : wr.cell? ⟨w.heap.size, 1, none⟩ = some (.int .i64 hi) := hkb.cell 1
    have hsz : w.heap.size + 1 ≤ wr.heap.size := by have h1 := hb.size; rw [hs1.out] at h1; exact h1
    have hnl := besN_len F a k
    have hlt0 : w.heap.size < wr.heap.size := by omega
    replace hown := Lib.hid hown
    replace hb := Lib.hid hb
    clear hkb
    by_cases h4 : k < 4
    · rcases (by omega : k = 0 ∨ k = 1 ∨ k = 2 ∨ k = 3) with rfl | rfl | rfl | rfl
      · by_cases hin : R - 1 < 0
        · have e1 : besN F a (0 + 1) = besN F a 0 := by show besN F a 0 ++ besS F a 0 = _; rw [F0.out, if_pos hin, List.append_nil]
          replace e1 := Lib.hid e1
          go_wp2_with fail
          go_big_quiet (fail)
          have ho3 : ((wr.alloc (.cells #[.int .i64 0, .int .i64 (-1)] 159)).drewN nq).ownsRow (w.heap.size + 1) 3 1 u4 (besN F a 0).length ((besN F a 0).map (.int .i64)) := hown.out.alloc _
          have hb3 : Below (w.heap.size + 1) W ((wr.alloc (.cells #[.int .i64 0, .int .i64 (-1)] 159)).drewN nq) := bdrewN (hb.out.alloc hsz _) _
          have d0 : ((wr.alloc (.cells #[.int .i64 0, .int .i64 (-1)] 159)).drewN nq).cell? ⟨w.heap.size, 0, none⟩ = some (.int .i64 wd) := (World.cell?_alloc_lt wr _ ⟨w.heap.size, 0, none⟩ hlt0).trans c0
          have d1 : ((wr.alloc (.cells #[.int .i64 0, .int .i64 (-1)] 159)).drewN nq).cell? ⟨w.heap.size, 1, none⟩ = some (.int .i64 hi) := (World.cell?_alloc_lt wr _ ⟨w.heap.size, 1, none⟩ hlt0).trans c1
          have hs3 : w.heap.size + 1 ≤ ((wr.alloc (.cells #[.int .i64 0, .int .i64 (-1)] 159)).drewN nq).heap.size := by simp [World.drewN]; omega
          replace ho3 := Lib.hid ho3
          replace hb3 := Lib.hid hb3
          generalize ((wr.alloc (.cells #[.int .i64 0, .int .i64 (-1)] 159)).drewN nq) = W3 at *
          clear c0 c1
          go_wp2_with fail
          go_roundw
          case rel => exact ⟨0 + 1, by omega, by go_num, by rw [e1.out]; exact ho3.out, hb3.out⟩
          case measure => simp [intOf]
        · have e1 : besN F a (0 + 1) = besN F a 0 ++ [a - wd] := by show besN F a 0 ++ besS F a 0 = _; rw [F0.out, if_neg hin]
          replace e1 := Lib.hid e1
          obtain ⟨P, hP1, hP, hPb, hP0⟩ : ∃ P : Int, IntKind.i64.wrap ((R + -1) * wd) = P ∧ Hid (P + C = a - wd) ∧ (0 ≤ P + C ∧ P + C ≤ 200) ∧ (0 ≤ P ∧ P ≤ 200) := by
            have hdd := hdm.out
            have e : (R + -1) * wd = a - wd - C := by first | (rw [Int.add_mul, Int.mul_comm R]; omega) | (rw [Int.mul_comm R]; omega)
            have e2 : 0 ≤ (R + -1) * wd := Int.mul_nonneg (by omega) (by omega)
            have e3 : (R + -1) * wd ≤ 11 * 12 := mul_le_of (by omega) (by omega) (by omega) (by omega)
            refine ⟨a - wd - C, by rw [e]; exact IntWalk.i64_in _ (by omega), Lib.hid (by omega), by omega, by omega⟩
          go_wp2_with fail
          go_big_quiet (fail)
          have ho3 : ((wr.alloc (.cells #[.int .i64 0, .int .i64 (-1)] 159)).drewN nq).ownsRow (w.heap.size + 1) 3 1 u4 (besN F a 0).length ((besN F a 0).map (.int .i64)) := hown.out.alloc _
          have hb3 : Below (w.heap.size + 1) W ((wr.alloc (.cells #[.int .i64 0, .int .i64 (-1)] 159)).drewN nq) := bdrewN (hb.out.alloc hsz _) _
          have d0 : ((wr.alloc (.cells #[.int .i64 0, .int .i64 (-1)] 159)).drewN nq).cell? ⟨w.heap.size, 0, none⟩ = some (.int .i64 wd) := (World.cell?_alloc_lt wr _ ⟨w.heap.size, 0, none⟩ hlt0).trans c0
          have d1 : ((wr.alloc (.cells #[.int .i64 0, .int .i64 (-1)] 159)).drewN nq).cell? ⟨w.heap.size, 1, none⟩ = some (.int .i64 hi) := (World.cell?_alloc_lt wr _ ⟨w.heap.size, 1, none⟩ hlt0).trans c1
          have hs3 : w.heap.size + 1 ≤ ((wr.alloc (.cells #[.int .i64 0, .int .i64 (-1)] 159)).drewN nq).heap.size := by simp [World.drewN]; omega
          replace ho3 := Lib.hid ho3
          replace hb3 := Lib.hid hb3
          generalize ((wr.alloc (.cells #[.int .i64 0, .int .i64 (-1)] 159)).drewN nq) = W3 at *
          clear c0 c1
          go_wp2_with (at_builtin; refine wpList_app1 rfl (.tmp 53) (.tmp 60) 23 rfl (w.heap.size + 1) 3 i0 _ 1 8 Tryz.underlying23 hi0 hz0 hz1 hz2 rfl (by decide) (by decide) W3 #[.int .i64 (P + C)] u4 (besN F a 0).length _ rfl ho3.out rfl rfl rfl (by omega) hs3 ?_; intro v' w2 hown' hgrow)
          go_roundw
          case rel => exact ⟨0 + 1, by omega, by go_num, by rw [e1.out, List.length_append, List.map_append, ← hP.out]; exact hown', hb3.out.grown hgrow hs3 (fun g hg => (ho3.out.lt g hg).1)⟩
          case measure => simp [intOf]
      · by_cases hin : C - 1 < 0
        · have e1 : besN F a (1 + 1) = besN F a 1 := by show besN F a 1 ++ besS F a 1 = _; rw [F1.out, if_pos hin, List.append_nil]
          replace e1 := Lib.hid e1
          go_wp2_with fail
          go_big_quiet (fail)
          have ho3 : ((wr.alloc (.cells #[.int .i64 (-1), .int .i64 0] 159)).drewN nq).ownsRow (w.heap.size + 1) 3 1 u4 (besN F a 1).length ((besN F a 1).map (.int .i64)) := hown.out.alloc _
          have hb3 : Below (w.heap.size + 1) W ((wr.alloc (.cells #[.int .i64 (-1), .int .i64 0] 159)).drewN nq) := bdrewN (hb.out.alloc hsz _) _
          have d0 : ((wr.alloc (.cells #[.int .i64 (-1), .int .i64 0] 159)).drewN nq).cell? ⟨w.heap.size, 0, none⟩ = some (.int .i64 wd) := (World.cell?_alloc_lt wr _ ⟨w.heap.size, 0, none⟩ hlt0).trans c0
          have d1 : ((wr.alloc (.cells #[.int .i64 (-1), .int .i64 0] 159)).drewN nq).cell? ⟨w.heap.size, 1, none⟩ = some (.int .i64 hi) := (World.cell?_alloc_lt wr _ ⟨w.heap.size, 1, none⟩ hlt0).trans c1
          have hs3 : w.heap.size + 1 ≤ ((wr.alloc (.cells #[.int .i64 (-1), .int .i64 0] 159)).drewN nq).heap.size := by simp [World.drewN]; omega
          replace ho3 := Lib.hid ho3
          replace hb3 := Lib.hid hb3
          generalize ((wr.alloc (.cells #[.int .i64 (-1), .int .i64 0] 159)).drewN nq) = W3 at *
          clear c0 c1
          go_wp2_with fail
          go_roundw
          case rel => exact ⟨1 + 1, by omega, by go_num, by rw [e1.out]; exact ho3.out, hb3.out⟩
          case measure => simp [intOf]
        · have e1 : besN F a (1 + 1) = besN F a 1 ++ [a - 1] := by show besN F a 1 ++ besS F a 1 = _; rw [F1.out, if_neg hin]
          replace e1 := Lib.hid e1
          obtain ⟨P, hP1, hP, hPb, hP0⟩ : ∃ P : Int, IntKind.i64.wrap (R * wd) = P ∧ Hid (P + (C + -1) = a - 1) ∧ (0 ≤ P + (C + -1) ∧ P + (C + -1) ≤ 200) ∧ (0 ≤ P ∧ P ≤ 200) := by
            have hdd := hdm.out
            have e : R * wd = a - 1 - (C + -1) := by first | (rw [Int.add_mul, Int.mul_comm R]; omega) | (rw [Int.mul_comm R]; omega)
            have e2 : 0 ≤ R * wd := Int.mul_nonneg (by omega) (by omega)
            have e3 : R * wd ≤ 11 * 12 := mul_le_of (by omega) (by omega) (by omega) (by omega)
            refine ⟨a - 1 - (C + -1), by rw [e]; exact IntWalk.i64_in _ (by omega), Lib.hid (by omega), by omega, by omega⟩
          go_wp2_with fail
          go_big_quiet (fail)
          have ho3 : ((wr.alloc (.cells #[.int .i64 (-1), .int .i64 0] 159)).drewN nq).ownsRow (w.heap.size + 1) 3 1 u4 (besN F a 1).length ((besN F a 1).map (.int .i64)) := hown.out.alloc _
          have hb3 : Below (w.heap.size + 1) W ((wr.alloc (.cells #[.int .i64 (-1), .int .i64 0] 159)).drewN nq) := bdrewN (hb.out.alloc hsz _) _
          have d0 : ((wr.alloc (.cells #[.int .i64 (-1), .int .i64 0] 159)).drewN nq).cell? ⟨w.heap.size, 0, none⟩ = some (.int .i64 wd) := (World.cell?_alloc_lt wr _ ⟨w.heap.size, 0, none⟩ hlt0).trans c0
          have d1 : ((wr.alloc (.cells #[.int .i64 (-1), .int .i64 0] 159)).drewN nq).cell? ⟨w.heap.size, 1, none⟩ = some (.int .i64 hi) := (World.cell?_alloc_lt wr _ ⟨w.heap.size, 1, none⟩ hlt0).trans c1
          have hs3 : w.heap.size + 1 ≤ ((wr.alloc (.cells #[.int .i64 (-1), .int .i64 0] 159)).drewN nq).heap.size := by simp [World.drewN]; omega
          replace ho3 := Lib.hid ho3
          replace hb3 := Lib.hid hb3
          generalize ((wr.alloc (.cells #[.int .i64 (-1), .int .i64 0] 159)).drewN nq) = W3 at *
          clear c0 c1
          go_wp2_with (at_builtin; refine wpList_app1 rfl (.tmp 53) (.tmp 60) 23 rfl (w.heap.size + 1) 3 i0 _ 1 8 Tryz.underlying23 hi0 hz0 hz1 hz2 rfl (by decide) (by decide) W3 #[.int .i64 (P + (C + -1))] u4 (besN F a 1).length _ rfl ho3.out rfl rfl rfl (by omega) hs3 ?_; intro v' w2 hown' hgrow)
          go_roundw
          case rel => exact ⟨1 + 1, by omega, by go_num, by rw [e1.out, List.length_append, List.map_append, ← hP.out]; exact hown', hb3.out.grown hgrow hs3 (fun g hg => (ho3.out.lt g hg).1)⟩
          case measure => simp [intOf]
      · by_cases hin : ¬ C + 1 < wd
        · have e1 : besN F a (2 + 1) = besN F a 2 := by show besN F a 2 ++ besS F a 2 = _; rw [F2.out, if_neg hin, List.append_nil]
          replace e1 := Lib.hid e1
          go_wp2_with fail
          go_big_quiet (fail)
          have ho3 : ((wr.alloc (.cells #[.int .i64 1, .int .i64 0] 159)).drewN nq).ownsRow (w.heap.size + 1) 3 1 u4 (besN F a 2).length ((besN F a 2).map (.int .i64)) := hown.out.alloc _
          have hb3 : Below (w.heap.size + 1) W ((wr.alloc (.cells #[.int .i64 1, .int .i64 0] 159)).drewN nq) := bdrewN (hb.out.alloc hsz _) _
          have d0 : ((wr.alloc (.cells #[.int .i64 1, .int .i64 0] 159)).drewN nq).cell? ⟨w.heap.size, 0, none⟩ = some (.int .i64 wd) := (World.cell?_alloc_lt wr _ ⟨w.heap.size, 0, none⟩ hlt0).trans c0
          have d1 : ((wr.alloc (.cells #[.int .i64 1, .int .i64 0] 159)).drewN nq).cell? ⟨w.heap.size, 1, none⟩ = some (.int .i64 hi) := (World.cell?_alloc_lt wr _ ⟨w.heap.size, 1, none⟩ hlt0).trans c1
          have hs3 : w.heap.size + 1 ≤ ((wr.alloc (.cells #[.int .i64 1, .int .i64 0] 159)).drewN nq).heap.size := by simp [World.drewN]; omega
          replace ho3 := Lib.hid ho3
          replace hb3 := Lib.hid hb3
          generalize ((wr.alloc (.cells #[.int .i64 1, .int .i64 0] 159)).drewN nq) = W3 at *
          clear c0 c1
          go_wp2_with fail
          go_roundw
          case rel => exact ⟨2 + 1, by omega, by go_num, by rw [e1.out]; exact ho3.out, hb3.out⟩
          case measure => simp [intOf]
        · have e1 : besN F a (2 + 1) = besN F a 2 ++ [a + 1] := by show besN F a 2 ++ besS F a 2 = _; rw [F2.out, if_pos (Decidable.not_not.1 hin)]
          replace e1 := Lib.hid e1
          obtain ⟨P, hP1, hP, hPb, hP0⟩ : ∃ P : Int, IntKind.i64.wrap (R * wd) = P ∧ Hid (P + (C + 1) = a + 1) ∧ (0 ≤ P + (C + 1) ∧ P + (C + 1) ≤ 200) ∧ (0 ≤ P ∧ P ≤ 200) := by
            have hdd := hdm.out
            have e : R * wd = a + 1 - (C + 1) := by first | (rw [Int.add_mul, Int.mul_comm R]; omega) | (rw [Int.mul_comm R]; omega)
            have e2 : 0 ≤ R * wd := Int.mul_nonneg (by omega) (by omega)
            have e3 : R * wd ≤ 11 * 12 := mul_le_of (by omega) (by omega) (by omega) (by omega)
            refine ⟨a + 1 - (C + 1), by rw [e]; exact IntWalk.i64_in _ (by omega), Lib.hid (by omega), by omega, by omega⟩
          go_wp2_with fail
          go_big_quiet (fail)
          have ho3 : ((wr.alloc (.cells #[.int .i64 1, .int .i64 0] 159)).drewN nq).ownsRow (w.heap.size + 1) 3 1 u4 (besN F a 2).length ((besN F a 2).map (.int .i64)) := hown.out.alloc _
          have hb3 : Below (w.heap.size + 1) W ((wr.alloc (.cells #[.int .i64 1, .int .i64 0] 159)).drewN nq) := bdrewN (hb.out.alloc hsz _) _
          have d0 : ((wr.alloc (.cells #[.int .i64 1, .int .i64 0] 159)).drewN nq).cell? ⟨w.heap.size, 0, none⟩ = some (.int .i64 wd) := (World.cell?_alloc_lt wr _ ⟨w.heap.size, 0, none⟩ hlt0).trans c0
          have d1 : ((wr.alloc (.cells #[.int .i64 1, .int .i64 0] 159)).drewN nq).cell? ⟨w.heap.size, 1, none⟩ = some (.int .i64 hi) := (World.cell?_alloc_lt wr _ ⟨w.heap.size, 1, none⟩ hlt0).trans c1
          have hs3 : w.heap.size + 1 ≤ ((wr.alloc (.cells #[.int .i64 1, .int .i64 0] 159)).drewN nq).heap.size := by simp [World.drewN]; omega
          replace ho3 := Lib.hid ho3
          replace hb3 := Lib.hid hb3
          generalize ((wr.alloc (.cells #[.int .i64 1, .int .i64 0] 159)).drewN nq) = W3 at *
          clear c0 c1
          go_wp2_with (at_builtin; refine wpList_app1 rfl (.tmp 53) (.tmp 60) 23 rfl (w.heap.size + 1) 3 i0 _ 1 8 Tryz.underlying23 hi0 hz0 hz1 hz2 rfl (by decide) (by decide) W3 #[.int .i64 (P + (C + 1))] u4 (besN F a 2).length _ rfl ho3.out rfl rfl rfl (by omega) hs3 ?_; intro v' w2 hown' hgrow)
          go_roundw
          case rel => exact ⟨2 + 1, by omega, by go_num, by rw [e1.out, List.length_append, List.map_append, ← hP.out]; exact hown', hb3.out.grown hgrow hs3 (fun g hg => (ho3.out.lt g hg).1)⟩
          case measure => simp [intOf]
      · by_cases hin : ¬ R + 1 < hi
        · have e1 : besN F a (3 + 1) = besN F a 3 := by show besN F a 3 ++ besS F a 3 = _; rw [F3.out, if_neg hin, List.append_nil]
          replace e1 := Lib.hid e1
          go_wp2_with fail
          go_big_quiet (fail)
          have ho3 : ((wr.alloc (.cells #[.int .i64 0, .int .i64 1] 159)).drewN nq).ownsRow (w.heap.size + 1) 3 1 u4 (besN F a 3).length ((besN F a 3).map (.int .i64)) := hown.out.alloc _
          have hb3 : Below (w.heap.size + 1) W ((wr.alloc (.cells #[.int .i64 0, .int .i64 1] 159)).drewN nq) := bdrewN (hb.out.alloc hsz _) _
          have d0 : ((wr.alloc (.cells #[.int .i64 0, .int .i64 1] 159)).drewN nq).cell? ⟨w.heap.size, 0, none⟩ = some (.int .i64 wd) := (World.cell?_alloc_lt wr _ ⟨w.heap.size, 0, none⟩ hlt0).trans c0
          have d1 : ((wr.alloc (.cells #[.int .i64 0, .int .i64 1] 159)).drewN nq).cell? ⟨w.heap.size, 1, none⟩ = some (.int .i64 hi) := (World.cell?_alloc_lt wr _ ⟨w.heap.size, 1, none⟩ hlt0).trans c1
          have hs3 : w.heap.size + 1 ≤ ((wr.alloc (.cells #[.int .i64 0, .int .i64 1] 159)).drewN nq).heap.size := by simp [World.drewN]; omega
          replace ho3 := Lib.hid ho3
          replace hb3 := Lib.hid hb3
          generalize ((wr.alloc (.cells #[.int .i64 0, .int .i64 1] 159)).drewN nq) = W3 at *
          clear c0 c1
          go_wp2_with fail
          go_roundw
          case rel => exact ⟨3 + 1, by omega, by go_num, by rw [e1.out]; exact ho3.out, hb3.out⟩
          case measure => simp [intOf]
        · have e1 : besN F a (3 + 1) = besN F a 3 ++ [a + wd] := by show besN F a 3 ++ besS F a 3 = _; rw [F3.out, if_pos (Decidable.not_not.1 hin)]
          replace e1 := Lib.hid e1
          obtain ⟨P, hP1, hP, hPb, hP0⟩ : ∃ P : Int, IntKind.i64.wrap ((R + 1) * wd) = P ∧ Hid (P + C = a + wd) ∧ (0 ≤ P + C ∧ P + C ≤ 200) ∧ (0 ≤ P ∧ P ≤ 200) := by
            have hdd := hdm.out
            have e : (R + 1) * wd = a + wd - C := by first | (rw [Int.add_mul, Int.mul_comm R]; omega) | (rw [Int.mul_comm R]; omega)
            have e2 : 0 ≤ (R + 1) * wd := Int.mul_nonneg (by omega) (by omega)
            have e3 : (R + 1) * wd ≤ 11 * 12 := mul_le_of (by omega) (by omega) (by omega) (by omega)
            refine ⟨a + wd - C, by rw [e]; exact IntWalk.i64_in _ (by omega), Lib.hid (by omega), by omega, by omega⟩
          go_wp2_with fail
          go_big_quiet (fail)
          have ho3 : ((wr.alloc (.cells #[.int .i64 0, .int .i64 1] 159)).drewN nq).ownsRow (w.heap.size + 1) 3 1 u4 (besN F a 3).length ((besN F a 3).map (.int .i64)) := hown.out.alloc _
          have hb3 : Below (w.heap.size + 1) W ((wr.alloc (.cells #[.int .i64 0, .int .i64 1] 159)).drewN nq) := bdrewN (hb.out.alloc hsz _) _
          have d0 : ((wr.alloc (.cells #[.int .i64 0, .int .i64 1] 159)).drewN nq).cell? ⟨w.heap.size, 0, none⟩ = some (.int .i64 wd) := (World.cell?_alloc_lt wr _ ⟨w.heap.size, 0, none⟩ hlt0).trans c0
          have d1 : ((wr.alloc (.cells #[.int .i64 0, .int .i64 1] 159)).drewN nq).cell? ⟨w.heap.size, 1, none⟩ = some (.int .i64 hi) := (World.cell?_alloc_lt wr _ ⟨w.heap.size, 1, none⟩ hlt0).trans c1
          have hs3 : w.heap.size + 1 ≤ ((wr.alloc (.cells #[.int .i64 0, .int .i64 1] 159)).drewN nq).heap.size := by simp [World.drewN]; omega
          replace ho3 := Lib.hid ho3
          replace hb3 := Lib.hid hb3
          generalize ((wr.alloc (.cells #[.int .i64 0, .int .i64 1] 159)).drewN nq) = W3 at *
          clear c0 c1
          go_wp2_with (at_builtin; refine wpList_app1 rfl (.tmp 53) (.tmp 60) 23 rfl (w.heap.size + 1) 3 i0 _ 1 8 Tryz.underlying23 hi0 hz0 hz1 hz2 rfl (by decide) (by decide) W3 #[.int .i64 (P + C)] u4 (besN F a 3).length _ rfl ho3.out rfl rfl rfl (by omega) hs3 ?_; intro v' w2 hown' hgrow)
          go_roundw
          case rel => exact ⟨3 + 1, by omega, by go_num, by rw [e1.out, List.length_append, List.map_append, ← hP.out]; exact hown', hb3.out.grown hgrow hs3 (fun g hg => (ho3.out.lt g hg).1)⟩
          case measure => simp [intOf]
    · obtain rfl : k = 4 := by omega
      replace hb1 := hb1.out
      have hb5 : Below w.heap.size w wr := hb1.trans (hb.out.mono (by omega))
      replace hb1 := Lib.hid hb1
      replace hb5 := Lib.hid hb5
      have ho5 := own_base hown.out (show w.heap.size ≤ w.heap.size + 1 by omega)
      replace ho5 := Lib.hid ho5
      go_wp2_with fail
      go_ret
      exact ⟨_, rfl, by rw [hF.out]; exact ho5.out, hb5.out⟩
end Go.Proofs.YtkgkpggfoieioaaGreatDoor
namespace Go.Proofs.YtkgkpggfoieioaaGreatDoor
set_option linter.unusedVariables false
open Go.RowKit
theorem cellE_in (f : GF) (a : Int) (h : cellE f a = 0) : Good f ∧ 0 ≤ a ∧ a < f.ground.length := by
  unfold cellE at h
  by_cases h1 : fieldE f = 0
  · rw [if_neg (by simp [h1])] at h
    by_cases h2 : a < 0 ∨ (f.ground.length : Int) ≤ a
    · rw [if_pos h2] at h; cases h
    · exact ⟨good_of f h1, by omega, by omega⟩
  · rw [if_pos h1] at h; exact absurd h h1
theorem cellE_ok (f : GF) (a : Int) (h : Good f) (h0 : 0 ≤ a) (h1 : a < f.ground.length) : cellE f a = 0 := by
  unfold cellE
  rw [if_neg (by simp [good_to f h]), if_neg (by omega)]
/-- The first steps of Near and Step: the field boxed, the cell in a list. -/
def w1F (w : World) (s : SF) (f : GF) : World := w.alloc (.cells #[.int .i64 f.wide, .int .i64 f.high, .slice s.ground.A f.ground.length s.ground.c, .slice s.ore.A f.ore.length s.ore.c] 25)
set_option maxRecDepth 100000 in
theorem cells1_any (s : SF) (f : GF) (a : Int) (w : World) (h : FOk w s f) :
    let W := (w1F w s f).alloc (.cells #[.int .i64 a] 3)
    Calls Tryz.prog 86 #[fA s f, .slice (some ⟨w.heap.size + 1, 0, none⟩) 1 1] W fun e w' => e = .returned (errV (cellE f a)) ∧ Below w.heap.size w w' ∧ Blk w' w.heap.size 25 #[.int .i64 f.wide, .int .i64 f.high, .slice s.ground.A f.ground.length s.ground.c, .slice s.ore.A f.ore.length s.ore.c] := by
  intro W
  have hb1 : Below w.heap.size w W := ((Below.refl _ _).alloc (Nat.le_refl _) _).alloc (by simp) _
  have hs : (w1F w s f).heap.size = w.heap.size + 1 := by simp [w1F]
  have hr : RD W W.heap.size 1 (some ⟨w.heap.size + 1, 0, none⟩) 1 ([a].map (.int .i64)) := by
    have := RD.new (w1F w s f) 1 1 #[.int .i64 a] 3 (0, 0) rfl
    rw [hs] at this
    exact this.more (by show _ ≤ W.heap.size; simp [W, hs])
  have hk : Blk W w.heap.size 25 #[.int .i64 f.wide, .int .i64 f.high, .slice s.ground.A f.ground.length s.ground.c, .slice s.ore.A f.ore.length s.ore.c] := (Blk.new w _ _).alloc _
  refine (fcells_any s f (some ⟨w.heap.size + 1, 0, none⟩) 1 [a] W (h.below hb1) hr (by simp)).mono ?_
  rintro e w' ⟨he, hb⟩
  rw [faultL_1] at he
  exact ⟨he, hb1.trans (hb.mono hb1.size), hk.below hb hk.lt⟩
end Go.Proofs.YtkgkpggfoieioaaGreatDoor
