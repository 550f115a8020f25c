import Derived.Test.YtkkdegcbikjebaaDoorCells
import Derived.Test.YtkkdegcbikjebaaDoorPlainP
import Derived.Test.YtkkdegcbikjebaaDoorStr
namespace Go.Proofs.YtkkdegcbikjebaaDoor
set_option linter.unusedVariables false
open Go.RowKit
theorem u8p_info : (Tryd.prog.info? 5).map (fun i => (i.zero, i.size, i.bytes)) = some (some (.int .u8 0), 1, 1) := by kernel_rfl
set_option maxRecDepth 100000 in
theorem print_no (s : SF) (f : GF) (w : World) (h : FOk w s f) (hE : fieldE f ≠ 0) :
    Calls Tryd.prog 19 #[fA s f] w fun e w' => e = .returned (.tuple #[.string ⟨#[]⟩, erE (fieldE f)]) ∧ Below w.heap.size w w' := by
  have H := Lib.hid h
  clear h
  unfold fA
  go_enter Tryd.func19, Tryd.ntmps19
  go_wp2_with fail
  have hb1 : Below w.heap.size w (w.alloc (.cells #[.int .i64 f.wide, .int .i64 f.high, .slice s.ground.A f.ground.length s.ground.c, .slice s.ore.A f.ore.length s.ore.c] 25)) := (Below.refl _ _).alloc (Nat.le_refl _) _
  generalize (w.alloc (.cells #[.int .i64 f.wide, .int .i64 f.high, .slice s.ground.A f.ground.length s.ground.c, .slice s.ore.A f.ore.length s.ore.c] 25)) = W at *
  have HF := H.out.below hb1
  refine (fcheck_any s f W HF).mono ?_
  rintro e W2 ⟨rfl, hb2⟩
  rw [errVn _ hE]
  unfold erE
  have hb3 := hb1.trans (hb2.mono hb1.size)
  replace hE := Lib.hid hE
  go_wp2_with fail
  go_ret2
  exact ⟨rfl, hb3⟩
def PrRel (f : GF) (Wd n : Nat) (W2 : World) (v i : Value) (wr : World) : Prop :=
  ∃ r c : Nat, i = .int .i64 ((r * Wd + c : Nat) : Int) ∧ c < Wd ∧ r * Wd + c ≤ n ∧ wr.ownsRow W2.heap.size 5 1 v (txtP f Wd r ++ rowP f Wd r c).length ((txtP f Wd r ++ rowP f Wd r c).map (.int .u8)) ∧ Below W2.heap.size W2 wr
theorem pr_next (f : GF) (W r c : Nat) : txtP f W r ++ rowP f W r (c + 1) = (txtP f W r ++ rowP f W r c) ++ [sgAt f (r * W + c)] := by rw [rowP, List.append_assoc]
theorem pr_row (f : GF) (W r c : Nat) (h : c + 1 = W) : txtP f W (r + 1) ++ rowP f W (r + 1) 0 = (txtP f W r ++ rowP f W r c) ++ [sgAt f (r * W + c)] ++ [10] := by
  subst h
  rw [txtP, rowP, rowP, List.append_nil]
  simp
set_option maxHeartbeats 6400000 in
set_option maxRecDepth 100000 in
theorem print_ok (s : SF) (f : GF) (w : World) (h : FOk w s f) (hE : fieldE f = 0) :
    Calls Tryd.prog 19 #[fA s f] w fun e w' => e = .returned (.tuple #[.string (toS (fieldT f)), .nilIface]) ∧ Below w.heap.size w w' := by
  obtain ⟨i0, hi0, hz0, hz1, hz2⟩ := info_parts u8p_info
  have hg := good_of f hE
  have hn := hg.len
  have hos := hg.ores
  have hlg := hg.lg
  have hwb := hg.wide
  have hhb := hg.high
  obtain ⟨Wd, hWd⟩ : ∃ Wd : Nat, f.wide = (Wd : Int) := ⟨f.wide.toNat, by omega⟩
  obtain ⟨Hg, hHg⟩ : ∃ Hg : Nat, f.high = (Hg : Int) := ⟨f.high.toNat, by omega⟩
  have hT : fieldT f = txtP f Wd Hg := by unfold fieldT; rw [hWd, hHg]; rfl
  have hby : ∀ x ∈ txtP f Wd Hg, Byte x := fun x hx => txtP_byte f (fun k => (hos k).1) Wd Hg x hx
  have hnn : f.ground.length = Wd * Hg := by rw [hWd, hHg] at hlg; exact_mod_cast hlg
  rw [hT]
  have H := Lib.hid h
  have hW1 : 1 ≤ Wd ∧ Wd ≤ 12 := by omega
  have hl2 : f.ore.length = f.ground.length := hn.2.2
  have hn144 : f.ground.length ≤ 144 := hn.1
  replace hby := Lib.hid hby
  replace hos := Lib.hid hos
  replace hnn := Lib.hid hnn
  replace hl2 := Lib.hid hl2
  replace hWd := Lib.hid hWd
  replace hHg := Lib.hid hHg
  clear h hT hg hlg hwb hhb hn
  unfold fA
  go_enter Tryd.func19, Tryd.ntmps19
  go_wp2_with fail
  have hb1 : Below w.heap.size w (w.alloc (.cells #[.int .i64 f.wide, .int .i64 f.high, .slice s.ground.A f.ground.length s.ground.c, .slice s.ore.A f.ore.length s.ore.c] 25)) := (Below.refl _ _).alloc (Nat.le_refl _) _
  have hk1 := Blk.new w 25 #[.int .i64 f.wide, .int .i64 f.high, .slice s.ground.A f.ground.length s.ground.c, .slice s.ore.A f.ore.length s.ore.c]
  generalize (w.alloc (.cells #[.int .i64 f.wide, .int .i64 f.high, .slice s.ground.A f.ground.length s.ground.c, .slice s.ore.A f.ore.length s.ore.c] 25)) = W at *
  have HF := H.out.below hb1
  refine (fcheck_any s f W HF).mono ?_
  rintro e W2 ⟨rfl, hb2⟩
  rw [hE, errV0]
  have hk2 := hk1.below hb2 hk1.lt
  have HF2 := Lib.hid (HF.below hb2)
  have hb3 := hb1.trans (hb2.mono hb1.size)
  replace hE := Lib.hid hE
  replace hk2 := Lib.hid hk2
  have c0 := hk2.out.cell 0
  have c2 := hk2.out.cell 2
  rw [hWd.out] at c0
  replace hb3 := Lib.hid hb3
  clear hk1 hb1 hb2 HF
  go_wp2_with fail
  go_loopw [5, 6, 7, 8, 9, 18] (fun v _ _ _ _ i wr => PrRel f Wd f.ground.length W2 v i wr) (fun _ _ _ _ _ i _ => f.ground.length - (intOf i).toNat)
  case atStart => exact ⟨0, 0, by simp, by omega, by simp, by simpa [txtP, rowP] using World.ownsRow_nil _ _ _ _, Below.refl _ _⟩
  case round =>
  obtain ⟨r, c, rfl, hcW, hkn, hown, hb⟩ := hrel
  have hlen1 := txtP_len f Wd r
  have hlen2 := rowP_len f Wd r c
  have hkw := hk2.out.below hb hk2.out.lt
  have hFw := HF2.out.below hb
  have c0w := hkw.cell 0
  have c2w := hkw.cell 2
  have c3w := hkw.cell 3
  rw [hWd.out] at c0w
  have hsz := hb.size
  have hr12 : r * Wd ≤ 144 := by omega
  have hr13 : r ≤ 144 := by
    have : r * 1 ≤ r * Wd := Nat.mul_le_mul_left r hW1.1
    omega
  have hll : (txtP f Wd r ++ rowP f Wd r c).length ≤ 4000 := by
    rw [List.length_append, hlen1, hlen2, Nat.mul_add]; omega
  replace hown := Lib.hid hown
  replace hb := Lib.hid hb
  replace hlen1 := Lib.hid hlen1
  replace hlen2 := Lib.hid hlen2
  clear hkw
  have hpn := pr_next f Wd r c
  have hpr := pr_row f Wd r c
  replace hpn := Lib.hid hpn
  replace hpr := Lib.hid hpr
  generalize hk : r * Wd + c = k at *
  generalize hBY : txtP f Wd r ++ rowP f Wd r c = BY at *
  replace hBY := Lib.hid hBY
  replace hk := Lib.hid hk
  clear hr12
  by_cases hlt : k < f.ground.length
  · obtain ⟨bg, og, hAg, cg1, _⟩ := hFw.2.2.1.at_ (k := k) hlt
    obtain ⟨bo, oo, hAo, co1, _⟩ := hFw.2.2.2.at_ (k := k) (by rw [hl2.out]; exact hlt)
    obtain ⟨o0, o1, o2, g0, g1⟩ := hos.out k
    have hsg : sgAt f k = signB (f.ground.getD k 0) (f.ore.getD k 0) := rfl
    have hol : (k : Int) < (f.ore.length : Int) := by rw [hl2.out]; omega
    have hol2 : k < f.ore.length := by rw [hl2.out]; omega
    have hgl : (k : Int) < (f.ground.length : Int) := by omega
    rw [hAg] at c2 c2w
    rw [hAo] at c3w
    generalize sgAt f k = V at *
    generalize f.ground.getD k 0 = g at *
    generalize f.ore.getD k 0 = o at *
    have hmod : ((k : Int) + 1).tmod (Wd : Int) = ((k : Int) + 1) % (Wd : Int) := Int.tmod_eq_emod_of_nonneg (by omega)
    have hc1 : c + 1 = Wd ∨ c + 1 < Wd := by omega
    have hbeq : (c + 1 = Wd ∧ (((k : Int) + 1) % (Wd : Int) == 0) = true) ∨ (c + 1 < Wd ∧ (((k : Int) + 1) % (Wd : Int) == 0) = false) := by
      have e : ((k : Int) + 1) = ((r * Wd + (c + 1) : Nat) : Int) := by rw [← hk.out]; omega
      rw [e, ← Int.natCast_emod]
      rcases hc1 with h | h
      · left
        refine ⟨h, ?_⟩
        rw [h, ← Nat.succ_mul, Nat.mul_mod_left]; rfl
      · right
        refine ⟨h, ?_⟩
        rw [Nat.mul_comm, Nat.mul_add_mod, Nat.mod_eq_of_lt h]
        simp; omega
    have hWnz : ((Wd : Int) == 0) = false := by simp; omega
    have hWn2 : (Wd : Int) ≠ 0 := by omega
    clear hc1
    have hV : (o = 0 ∧ ((g = 0 ∧ V = 46) ∨ (g = 1 ∧ V = 35) ∨ (g = 2 ∧ V = 126) ∨ (g = 3 ∧ V = 94))) ∨ (0 < o ∧ g = 0 ∧ ((o < 100 ∧ o % 10 = 0 ∧ V = 48 + o / 10) ∨ (100 ≤ o ∧ V = 43) ∨ (o < 100 ∧ o % 10 ≠ 0 ∧ V = 43))) := by
      rw [hsg]; unfold signB sgn
      by_cases h : 0 < o
      · right
        refine ⟨h, o2 h, ?_⟩
        rw [if_pos h]
        by_cases h1 : o < 100 ∧ o % 10 = 0
        · rw [if_pos h1]; omega
        · rw [if_neg h1]; omega
      · left
        refine ⟨by omega, ?_⟩
        rw [if_neg h]
        have : g = 0 ∨ g = 1 ∨ g = 2 ∨ g = 3 := by omega
        rcases this with h | h | h | h <;> subst h <;> simp
    clear hsg o2
    have hbox : ∀ w1, Below W2.heap.size W2 w1 → w1.cell? ⟨w.heap.size, 0, none⟩ = some (.int .i64 (Wd : Int)) := fun w1 h => by
      have := (hk2.out.below h hk2.out.lt).cell 0
      rw [hWd.out] at this
      exact this
    replace hbox := Lib.hid hbox
    rcases hbeq with ⟨hc1, hbe⟩ | ⟨hc1, hbe⟩
    · have hBn := hpr.out hc1
      replace hBn := Lib.hid hBn
      have hTn : ∀ v' w1, w1.ownsRow W2.heap.size 5 1 v' (BY.length + 1 + 1) (BY.map (.int .u8) ++ [Value.int .u8 V] ++ [Value.int .u8 10]) → Below W2.heap.size W2 w1 → PrRel f Wd f.ground.length W2 v' (.int .i64 ((k : Int) + 1)) w1 := fun v' w1 h1 h2 =>
        ⟨r + 1, 0, by have := hk.out; rw [Nat.succ_mul]; congr 1; omega, by omega, by have := hk.out; rw [Nat.succ_mul]; omega, by rw [hBn.out, List.map_append, List.map_append, List.length_append, List.length_append]; exact h1, h2⟩
      replace hTn := Lib.hid hTn
      rcases hV with ⟨ho0, hV⟩ | ⟨ho0, hg0, hV⟩
      · subst ho0
        rcases hV with ⟨hg0, hV⟩ | ⟨hg0, hV⟩ | ⟨hg0, hV⟩ | ⟨hg0, hV⟩
        all_goals
          subst hg0; subst hV
          go_wp2_with (first | (at_builtin; refine wpList_app1 rfl (.tmp 49) (.tmp 51) 22 rfl W2.heap.size 5 i0 _ 1 1 Tryd.underlying22 hi0 hz0 hz1 hz2 rfl (by decide) (by decide) wr _ u5 BY.length _ rfl hown.out rfl rfl rfl (by omega) hsz ?_; intro v' w1 hown' hgrow; have hbw1 := hb.out.grown hgrow hsz (fun g hg => (hown.out.lt g hg).1); have c0n := hbox.out w1 hbw1; have hsz1 := hbw1.size; replace hown' := Lib.hid hown') | (at_builtin; refine wpList_app1 rfl (.tmp 59) (.tmp 60) 22 rfl W2.heap.size 5 i0 _ 1 1 Tryd.underlying22 hi0 hz0 hz1 hz2 rfl (by decide) (by decide) w1 _ v' (BY.length + 1) _ rfl hown'.out rfl rfl rfl (by omega) hsz1 ?_; intro v2 w2 hown2 hgrow2; have hbw2 := hbw1.grown hgrow2 hsz1 (fun g hg => (hown'.out.lt g hg).1)))
          go_roundw
          case rel => first | exact hTn.out _ _ hown2 hbw2 | exact ⟨_, _, _, _, _, _, hTn.out _ _ hown2 hbw2, rfl, rfl, rfl, rfl, rfl, rfl⟩
          case measure => simp [intOf]; omega
      · subst hg0
        rcases hV with ⟨h1, h2, hV⟩ | ⟨h1, hV⟩ | ⟨h1, h2, hV⟩
        · replace hV := Lib.hid hV
          have h3 : (o % 10 == 0) = true := by simp [h2]
          replace h2 := Lib.hid h2
          skip
          go_wp2_with (first | (at_builtin; refine wpList_app1 rfl (.tmp 49) (.tmp 51) 22 rfl W2.heap.size 5 i0 _ 1 1 Tryd.underlying22 hi0 hz0 hz1 hz2 rfl (by decide) (by decide) wr _ u5 BY.length _ rfl hown.out rfl rfl rfl (by omega) hsz ?_; intro v' w1 hown' hgrow; have hbw1 := hb.out.grown hgrow hsz (fun g hg => (hown.out.lt g hg).1); have c0n := hbox.out w1 hbw1; have hsz1 := hbw1.size; replace hown' := Lib.hid hown') | (at_builtin; refine wpList_app1 rfl (.tmp 59) (.tmp 60) 22 rfl W2.heap.size 5 i0 _ 1 1 Tryd.underlying22 hi0 hz0 hz1 hz2 rfl (by decide) (by decide) w1 _ v' (BY.length + 1) _ rfl hown'.out rfl rfl rfl (by omega) hsz1 ?_; intro v2 w2 hown2 hgrow2; have hbw2 := hbw1.grown hgrow2 hsz1 (fun g hg => (hown'.out.lt g hg).1)))
          go_roundw
          case rel => first | exact hTn.out _ _ (by rw [hV.out]; exact hown2) hbw2 | exact ⟨_, _, _, _, _, _, hTn.out _ _ (by rw [hV.out]; exact hown2) hbw2, rfl, rfl, rfl, rfl, rfl, rfl⟩
          case measure => simp [intOf]; omega
        · subst hV
          skip
          go_wp2_with (first | (at_builtin; refine wpList_app1 rfl (.tmp 49) (.tmp 51) 22 rfl W2.heap.size 5 i0 _ 1 1 Tryd.underlying22 hi0 hz0 hz1 hz2 rfl (by decide) (by decide) wr _ u5 BY.length _ rfl hown.out rfl rfl rfl (by omega) hsz ?_; intro v' w1 hown' hgrow; have hbw1 := hb.out.grown hgrow hsz (fun g hg => (hown.out.lt g hg).1); have c0n := hbox.out w1 hbw1; have hsz1 := hbw1.size; replace hown' := Lib.hid hown') | (at_builtin; refine wpList_app1 rfl (.tmp 59) (.tmp 60) 22 rfl W2.heap.size 5 i0 _ 1 1 Tryd.underlying22 hi0 hz0 hz1 hz2 rfl (by decide) (by decide) w1 _ v' (BY.length + 1) _ rfl hown'.out rfl rfl rfl (by omega) hsz1 ?_; intro v2 w2 hown2 hgrow2; have hbw2 := hbw1.grown hgrow2 hsz1 (fun g hg => (hown'.out.lt g hg).1)))
          go_roundw
          case rel => first | exact hTn.out _ _ hown2 hbw2 | exact ⟨_, _, _, _, _, _, hTn.out _ _ hown2 hbw2, rfl, rfl, rfl, rfl, rfl, rfl⟩
          case measure => simp [intOf]; omega
        · subst hV
          have h3 : (o % 10 == 0) = false := by simp [h2]
          replace h2 := Lib.hid h2
          skip
          go_wp2_with (first | (at_builtin; refine wpList_app1 rfl (.tmp 49) (.tmp 51) 22 rfl W2.heap.size 5 i0 _ 1 1 Tryd.underlying22 hi0 hz0 hz1 hz2 rfl (by decide) (by decide) wr _ u5 BY.length _ rfl hown.out rfl rfl rfl (by omega) hsz ?_; intro v' w1 hown' hgrow; have hbw1 := hb.out.grown hgrow hsz (fun g hg => (hown.out.lt g hg).1); have c0n := hbox.out w1 hbw1; have hsz1 := hbw1.size; replace hown' := Lib.hid hown') | (at_builtin; refine wpList_app1 rfl (.tmp 59) (.tmp 60) 22 rfl W2.heap.size 5 i0 _ 1 1 Tryd.underlying22 hi0 hz0 hz1 hz2 rfl (by decide) (by decide) w1 _ v' (BY.length + 1) _ rfl hown'.out rfl rfl rfl (by omega) hsz1 ?_; intro v2 w2 hown2 hgrow2; have hbw2 := hbw1.grown hgrow2 hsz1 (fun g hg => (hown'.out.lt g hg).1)))
          go_roundw
          case rel => first | exact hTn.out _ _ hown2 hbw2 | exact ⟨_, _, _, _, _, _, hTn.out _ _ hown2 hbw2, rfl, rfl, rfl, rfl, rfl, rfl⟩
          case measure => simp [intOf]; omega
    · have hBn : txtP f Wd r ++ rowP f Wd r (c + 1) = BY ++ [V] := hpn.out
      have hTn : ∀ v' w1, w1.ownsRow W2.heap.size 5 1 v' (BY.length + 1) (BY.map (.int .u8) ++ [Value.int .u8 V]) → Below W2.heap.size W2 w1 → PrRel f Wd f.ground.length W2 v' (.int .i64 ((k : Int) + 1)) w1 := fun v' w1 h1 h2 =>
        ⟨r, c + 1, by have := hk.out; congr 1; omega, hc1, by have := hk.out; omega, by rw [hBn, List.map_append, List.length_append]; exact h1, h2⟩
      replace hTn := Lib.hid hTn
      replace hBn := Lib.hid hBn
      rcases hV with ⟨ho0, hV⟩ | ⟨ho0, hg0, hV⟩
      · subst ho0
        rcases hV with ⟨hg0, hV⟩ | ⟨hg0, hV⟩ | ⟨hg0, hV⟩ | ⟨hg0, hV⟩
        all_goals
          subst hg0; subst hV
          go_wp2_with (at_builtin; refine wpList_app1 rfl (.tmp 49) (.tmp 51) 22 rfl W2.heap.size 5 i0 _ 1 1 Tryd.underlying22 hi0 hz0 hz1 hz2 rfl (by decide) (by decide) wr _ u5 BY.length _ rfl hown.out rfl rfl rfl (by omega) hsz ?_; intro v' w1 hown' hgrow; have c0n := hbox.out w1 (hb.out.grown hgrow hsz (fun g hg => (hown.out.lt g hg).1)))
          go_roundw
          case rel => first | exact hTn.out _ _ hown' (hb.out.grown hgrow hsz (fun g hg => (hown.out.lt g hg).1)) | exact ⟨_, _, _, _, _, _, hTn.out _ _ hown' (hb.out.grown hgrow hsz (fun g hg => (hown.out.lt g hg).1)), rfl, rfl, rfl, rfl, rfl, rfl⟩
          case measure => simp [intOf]; omega
      · subst hg0
        rcases hV with ⟨h1, h2, hV⟩ | ⟨h1, hV⟩ | ⟨h1, h2, hV⟩
        · replace hV := Lib.hid hV
          have h3 : (o % 10 == 0) = true := by simp [h2]
          replace h2 := Lib.hid h2
          go_wp2_with (at_builtin; refine wpList_app1 rfl (.tmp 49) (.tmp 51) 22 rfl W2.heap.size 5 i0 _ 1 1 Tryd.underlying22 hi0 hz0 hz1 hz2 rfl (by decide) (by decide) wr _ u5 BY.length _ rfl hown.out rfl rfl rfl (by omega) hsz ?_; intro v' w1 hown' hgrow; have c0n := hbox.out w1 (hb.out.grown hgrow hsz (fun g hg => (hown.out.lt g hg).1)))
          go_roundw
          case rel => first | exact hTn.out _ _ (by rw [hV.out]; exact hown') (hb.out.grown hgrow hsz (fun g hg => (hown.out.lt g hg).1)) | exact ⟨_, _, _, _, _, _, hTn.out _ _ (by rw [hV.out]; exact hown') (hb.out.grown hgrow hsz (fun g hg => (hown.out.lt g hg).1)), rfl, rfl, rfl, rfl, rfl, rfl⟩
          case measure => simp [intOf]; omega
        · subst hV
          go_wp2_with (at_builtin; refine wpList_app1 rfl (.tmp 49) (.tmp 51) 22 rfl W2.heap.size 5 i0 _ 1 1 Tryd.underlying22 hi0 hz0 hz1 hz2 rfl (by decide) (by decide) wr _ u5 BY.length _ rfl hown.out rfl rfl rfl (by omega) hsz ?_; intro v' w1 hown' hgrow; have c0n := hbox.out w1 (hb.out.grown hgrow hsz (fun g hg => (hown.out.lt g hg).1)))
          go_roundw
          case rel => first | exact hTn.out _ _ hown' (hb.out.grown hgrow hsz (fun g hg => (hown.out.lt g hg).1)) | exact ⟨_, _, _, _, _, _, hTn.out _ _ hown' (hb.out.grown hgrow hsz (fun g hg => (hown.out.lt g hg).1)), rfl, rfl, rfl, rfl, rfl, rfl⟩
          case measure => simp [intOf]; omega
        · subst hV
          have h3 : (o % 10 == 0) = false := by simp [h2]
          replace h2 := Lib.hid h2
          go_wp2_with (at_builtin; refine wpList_app1 rfl (.tmp 49) (.tmp 51) 22 rfl W2.heap.size 5 i0 _ 1 1 Tryd.underlying22 hi0 hz0 hz1 hz2 rfl (by decide) (by decide) wr _ u5 BY.length _ rfl hown.out rfl rfl rfl (by omega) hsz ?_; intro v' w1 hown' hgrow; have c0n := hbox.out w1 (hb.out.grown hgrow hsz (fun g hg => (hown.out.lt g hg).1)))
          go_roundw
          case rel => first | exact hTn.out _ _ hown' (hb.out.grown hgrow hsz (fun g hg => (hown.out.lt g hg).1)) | exact ⟨_, _, _, _, _, _, hTn.out _ _ hown' (hb.out.grown hgrow hsz (fun g hg => (hown.out.lt g hg).1)), rfl, rfl, rfl, rfl, rfl, rfl⟩
          case measure => simp [intOf]; omega
  · have hk1 : k = f.ground.length := by omega
    have hkk := hk.out
    have hn1 := hnn.out
    have hc0 : c = 0 := by
      have e : (r * Wd + c) % Wd = (Wd * Hg) % Wd := by rw [hkk, hk1, hn1]
      rw [Nat.mul_comm r, Nat.mul_add_mod, Nat.mul_mod_right, Nat.mod_eq_of_lt hcW] at e
      exact e
    have hrH : r = Hg := by
      have e : r * Wd = Hg * Wd := by rw [Nat.mul_comm Hg]; omega
      exact Nat.eq_of_mul_eq_mul_right (by omega) e
    have hBT : BY = txtP f Wd Hg := by rw [← hBY.out, hc0, hrH, rowP, List.append_nil]
    rw [hBT] at hown
    obtain ⟨A, cc, rfl, _⟩ := own_slice hown.out
    have cv := fun q => str_run (wr.drewN q) _ A _ cc _ rfl ((RD.of_own hown.out).drewN q) hby.out
    have cv0 := str_run wr _ A _ cc _ rfl (RD.of_own hown.out) hby.out
    have hb5 := hb3.out.trans (hb.out.mono hb3.out.size)
    replace hb5 := Lib.hid hb5
    replace hBT := Lib.hid hBT
    clear hkk hn1 hc0 hrH hk1 hnn
    go_wp2_with fail
    go_ret2
    exact ⟨rfl, hb5.out⟩
end Go.Proofs.YtkkdegcbikjebaaDoor
