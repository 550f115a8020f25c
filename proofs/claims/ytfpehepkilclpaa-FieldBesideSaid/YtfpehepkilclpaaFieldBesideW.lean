import Derived.Test.YtfpehepkilclpaaNear
import Derived.Test.YtfpehepkilclpaaPlainB
import Derived.OpenShut
import Derived.Deep.RegionHeld3
import Derived.Deep.RegionWith
namespace Go.Proofs.Ytfpehepkilclpaa
set_option linter.unusedVariables false
open Go.RowKit
def oneF : GF := ⟨2, 1, [0, 1], [0, 0]⟩
theorem I64_small (n : Int) (h : -1000 ≤ n ∧ n ≤ 1000) : I64 n := by unfold I64; omega
theorem sli_new {w : World} {B : Nat} (g n : Nat) (C : Array Value) (t : TypeId) (xs : List Int) (hb : Blk w g t C) (hC : C.toList = xs.map (.int .i64)) (hx : ∀ x ∈ xs, I64 x) (hl : xs.length ≤ 1000) : SLI w ⟨some ⟨g, 0, none⟩, xs.length⟩ xs := by
  refine ⟨⟨by simp, fun hn => ⟨g, 0, rfl, hb.lt, fun j hj => ?_⟩⟩, (fun h => by cases h), Nat.le_refl _, by unfold maxLen; show xs.length ≤ _; omega, hx⟩
  rw [Nat.zero_add, hb.cell j, ← hC]; simp
set_option maxHeartbeats 3200000 in
set_option maxRecDepth 100000 in
theorem fieldBeside_in (s : SF) (f : GF) (a : Int) (w : World) (h : FOk w s f) :
    Calls Try.prog 3 #[fA s f, .int .i64 a] w fun e w' => e = .returned (.bool true) ∧ Below w.heap.size w w' := by
  have H := Lib.hid h
  clear h
  unfold fA
  go_enter Try.func3, Try.ntmps3
  go_wp2_with fail
  have hk0 : Blk ((((w.alloc (.cells #[.int .i64 f.wide, .int .i64 f.high, .slice s.ground.A f.ground.length s.ground.c, .slice s.ore.A f.ore.length s.ore.c] 24)).alloc (.cells #[.int .i64 0, .int .i64 1] 3)).alloc (.cells #[.int .i64 0, .int .i64 0] 3)).alloc (.cells #[.int .i64 2, .int .i64 1, .slice (some ⟨w.heap.size + 1, 0, none⟩) 2 2, .slice (some ⟨w.heap.size + 1 + 1, 0, none⟩) 2 2] 24)) w.heap.size 24 #[.int .i64 f.wide, .int .i64 f.high, .slice s.ground.A f.ground.length s.ground.c, .slice s.ore.A f.ore.length s.ore.c] := (((Blk.new w _ _).alloc _).alloc _).alloc _
  have hk1 : Blk ((((w.alloc (.cells #[.int .i64 f.wide, .int .i64 f.high, .slice s.ground.A f.ground.length s.ground.c, .slice s.ore.A f.ore.length s.ore.c] 24)).alloc (.cells #[.int .i64 0, .int .i64 1] 3)).alloc (.cells #[.int .i64 0, .int .i64 0] 3)).alloc (.cells #[.int .i64 2, .int .i64 1, .slice (some ⟨w.heap.size + 1, 0, none⟩) 2 2, .slice (some ⟨w.heap.size + 1 + 1, 0, none⟩) 2 2] 24)) (w.heap.size + 1) 3 #[.int .i64 0, .int .i64 1] := by
    have := ((Blk.new (w.alloc (.cells #[.int .i64 f.wide, .int .i64 f.high, .slice s.ground.A f.ground.length s.ground.c, .slice s.ore.A f.ore.length s.ore.c] 24)) 3 #[.int .i64 0, .int .i64 1]).alloc (.cells #[.int .i64 0, .int .i64 0] 3)).alloc (.cells #[.int .i64 2, .int .i64 1, .slice (some ⟨w.heap.size + 1, 0, none⟩) 2 2, .slice (some ⟨w.heap.size + 1 + 1, 0, none⟩) 2 2] 24)
    rw [World.size_alloc] at this
    exact this
  have hk2 : Blk ((((w.alloc (.cells #[.int .i64 f.wide, .int .i64 f.high, .slice s.ground.A f.ground.length s.ground.c, .slice s.ore.A f.ore.length s.ore.c] 24)).alloc (.cells #[.int .i64 0, .int .i64 1] 3)).alloc (.cells #[.int .i64 0, .int .i64 0] 3)).alloc (.cells #[.int .i64 2, .int .i64 1, .slice (some ⟨w.heap.size + 1, 0, none⟩) 2 2, .slice (some ⟨w.heap.size + 1 + 1, 0, none⟩) 2 2] 24)) (w.heap.size + 1 + 1) 3 #[.int .i64 0, .int .i64 0] := by
    have := (Blk.new ((w.alloc (.cells #[.int .i64 f.wide, .int .i64 f.high, .slice s.ground.A f.ground.length s.ground.c, .slice s.ore.A f.ore.length s.ore.c] 24)).alloc (.cells #[.int .i64 0, .int .i64 1] 3)) 3 #[.int .i64 0, .int .i64 0]).alloc (.cells #[.int .i64 2, .int .i64 1, .slice (some ⟨w.heap.size + 1, 0, none⟩) 2 2, .slice (some ⟨w.heap.size + 1 + 1, 0, none⟩) 2 2] 24)
    rw [World.size_alloc, World.size_alloc] at this
    exact this
  have hbW : Below w.heap.size w ((((w.alloc (.cells #[.int .i64 f.wide, .int .i64 f.high, .slice s.ground.A f.ground.length s.ground.c, .slice s.ore.A f.ore.length s.ore.c] 24)).alloc (.cells #[.int .i64 0, .int .i64 1] 3)).alloc (.cells #[.int .i64 0, .int .i64 0] 3)).alloc (.cells #[.int .i64 2, .int .i64 1, .slice (some ⟨w.heap.size + 1, 0, none⟩) 2 2, .slice (some ⟨w.heap.size + 1 + 1, 0, none⟩) 2 2] 24)) := ((((Below.refl _ _).alloc (Nat.le_refl _) _).alloc (by simp only [World.size_alloc]; omega) _).alloc (by simp only [World.size_alloc]; omega) _).alloc (by simp only [World.size_alloc]; omega) _
  generalize ((((w.alloc (.cells #[.int .i64 f.wide, .int .i64 f.high, .slice s.ground.A f.ground.length s.ground.c, .slice s.ore.A f.ore.length s.ore.c] 24)).alloc (.cells #[.int .i64 0, .int .i64 1] 3)).alloc (.cells #[.int .i64 0, .int .i64 0] 3)).alloc (.cells #[.int .i64 2, .int .i64 1, .slice (some ⟨w.heap.size + 1, 0, none⟩) 2 2, .slice (some ⟨w.heap.size + 1 + 1, 0, none⟩) 2 2] 24)) = W at *
  have hF1 : FOk W ⟨⟨some ⟨w.heap.size + 1, 0, none⟩, 2⟩, ⟨some ⟨w.heap.size + 1 + 1, 0, none⟩, 2⟩⟩ oneF := ⟨I64_small _ (by decide), I64_small _ (by decide), sli_new (B := 0) _ 2 _ _ [0, 1] hk1 rfl (by simp [I64]) (by decide), sli_new (B := 0) _ 2 _ _ [0, 0] hk2 rfl (by simp [I64]) (by decide)⟩
  clear hk1 hk2
  refine (near_ok _ oneF 0 W hF1 (by decide)).mono ?_
  rintro e W1 ⟨A1, c1, rfl, ho1, hb1⟩
  have eb : besL oneF 0 = [1] := by decide
  rw [eb] at ho1
  obtain ⟨g1, _, hA1, _⟩ := ho1.form (by decide)
  have hA1' : A1 = some ⟨g1, 0, none⟩ := by injection hA1
  subst hA1'
  have hc1 := ho1.cellAt 0 (by decide)
  have hk := hk0.below hb1 hk0.lt
  have hb2 := hbW.trans (hb1.mono hbW.size)
  rw [eb]
  simp only [List.length_cons, List.length_nil]
  simp only [List.map_cons, List.getElem?_cons_zero] at hc1
  replace eb := Lib.hid eb
  clear ho1 hk0 hbW hb1 hF1 hA1
  have HF := Lib.hid (H.out.below hb2)
  have d0 := hk.cell 0
  have d1 := hk.cell 1
  have d2 := hk.cell 2
  have d3 := hk.cell 3
  have hs2 := hb2.size
  replace hk := Lib.hid hk
  replace hb2 := Lib.hid hb2
  go_wp2_with fail
  by_cases hE : cellE f a = 0
  · obtain ⟨hg, ha0, ha1⟩ := cellE_in f a hE
    refine (near_ok s f a W1 HF.out hE).mono ?_
    rintro e W2 ⟨A, c, rfl, ho, hb3⟩
    clear d0 d1 d2 d3 hc1
    have hk2 := hk.out.below hb3 hk.out.lt
    have hb4 := hb2.out.trans (hb3.mono hs2)
    have HF2 := HF.out.below hb3
    have hR := RD.of_own ho
    have hln := besL_len f a
    have hw := hg.wide
    have hlg := hg.lg
    obtain ⟨r0, r1⟩ := row_bd hw.1 ha0 (show a < f.wide * f.high by omega)
    have hmem : ∀ i, i < (besL f a).length → cellE f ((besL f a).getD i 0) = 0 ∧ a ∈ besL f ((besL f a).getD i 0) ∧ 0 ≤ (besL f a).getD i 0 ∧ (besL f a).getD i 0 < f.ground.length := fun i hi => by
      have hm : (besL f a).getD i 0 ∈ besL f a := by rw [List.getD_eq_getElem?_getD, List.getElem?_eq_getElem hi]; exact List.getElem_mem hi
      have hin := bes_in f a _ hw.1 ha0 (by omega) hm
      exact ⟨cellE_ok f _ hg hin.1 (by omega), bes_sym f a _ hw.1 r0 r1 hm, hin.1, by omega⟩
    have hnd := bes_nodup f a hw.1
    have hcell := hg.cell
    have hn144 := hg.len
    replace hn144 := Lib.hid hn144
    replace hlg := Lib.hid hlg
    replace hk2 := Lib.hid hk2
    replace hb4 := Lib.hid hb4
    replace HF2 := Lib.hid HF2
    replace hR := Lib.hid hR
    replace hmem := Lib.hid hmem
    replace hnd := Lib.hid hnd
    replace hcell := Lib.hid hcell
    replace hE := Lib.hid hE
    clear ho hk hb2 HF hb3 hg hw r0 r1
    generalize besL f a = l at *
    go_wp2_with fail
    go_loopw [10] (fun i wr => ∃ k : Nat, k ≤ l.length ∧ i = .int .i64 k ∧ Below W2.heap.size W2 wr) (fun i _ => l.length - (intOf i).toNat)
    case atStart => exact ⟨0, Nat.zero_le _, rfl, Below.refl _ _⟩
    case round =>
      obtain ⟨k, hk, rfl, hb⟩ := hrel
      by_cases hlt : k < l.length
      · obtain ⟨bE, bS, b0, b1⟩ := hmem.out k hlt
        have hkW := hk2.out.below hb hk2.out.lt
        have HFW := HF2.out.below hb
        have hRW := (hR.out.below hb).more hb.size
        obtain ⟨bl, ol, hA, _⟩ := hRW.addr (by omega)
        have hcl := hRW.at_ hA (j := k) (by omega)
        have hgk : l[k]? = some (l.getD k 0) := by rw [List.getD_eq_getElem?_getD, List.getElem?_eq_getElem hlt]; rfl
        rw [List.getElem?_map, hgk] at hcl
        simp only [Option.map_some] at hcl
        subst hA
        obtain ⟨x, hx⟩ : ∃ x : Nat, l.getD k 0 = (x : Int) := ⟨(l.getD k 0).toNat, by omega⟩
        have hndk := hnd.out k
        rw [hx] at bE bS b0 b1 hcl hgk hndk
        replace hx := Lib.hid hx
        have d0 := hkW.cell 0
        have d1 := hkW.cell 1
        have d2 := hkW.cell 2
        have d3 := hkW.cell 3
        have hs := hb.size
        have i1 : (k : Int) < (l.length : Int) := by omega
        replace hndk := Lib.hid hndk
        replace bS := Lib.hid bS
        replace HFW := Lib.hid HFW
        replace hkW := Lib.hid hkW
        replace hRW := Lib.hid hRW
        replace hb := Lib.hid hb
        replace hgk := Lib.hid hgk
        have hbE := Lib.hid bE
        clear bE
        go_upto_region 13 with fail
        go_cut [11, 12] (fun m e wx0 => ∃ wx, wx = wx0 ∧ ∃ Am cm, m = .slice Am (besL f x).length cm ∧ e = .nilIface ∧ Hid (wx.ownsRow wr.heap.size 3 1 (.slice Am (besL f x).length cm) (besL f x).length ((besL f x).map (.int .i64))) ∧ Hid (Below wr.heap.size wr wx))
        case first =>
          go_region_with (go_at_call 8; refine (near_ok s f x _ (by first | exact HFW.out | exact HFW.out.drewN _) hbE.out).mono ?_; rintro e w' ⟨Am, cm, rfl, hom, hbm⟩)
          all_goals
            have hom2 := Lib.hid hom
            have hbm2 : Hid (Below wr.heap.size wr w') := Lib.hid ⟨hbm.os, hbm.tape, hbm.output, hbm.size, hbm.block⟩
            clear hom hbm
            go_wp2_with fail
            go_meet
            exact ⟨_, rfl, _, _, rfl, rfl, hom2, hbm2⟩
        case rest =>
        obtain ⟨wx, rfl, Am, cm, rfl, rfl, hom, hbm⟩ := hcut
        have hRm := RD.of_own hom.out
        have hlm := besL_len f x
        have hbx := hb.out.trans (hbm.out.mono hs)
        have HFx := Lib.hid (HFW.out.below hbm.out)
        have hkx := hkW.out.below hbm.out hkW.out.lt
        have hRx := (hRW.out.below (hbm.out.mono (Nat.le_refl _))).more hbm.out.size
        have hcx := hRx.at_ rfl (j := k) (by omega)
        rw [List.getElem?_map, hgk.out] at hcx
        simp only [Option.map_some] at hcx
        replace hRm := Lib.hid hRm
        replace hbx := Lib.hid hbx
        replace hRx := Lib.hid hRx
        replace hkx := Lib.hid hkx
        replace hcx := Lib.hid hcx
        clear hom hbm d0 d1 d2 d3 hcl
        generalize hM : besL f x = M at *
        replace hM := Lib.hid hM
        go_wp2_with fail
        go_loop [13, 14] (fun bb j => ∃ (t : Nat) (B : Bool), t ≤ M.length ∧ j = .int .i64 t ∧ bb = .bool B ∧ Hid (B = (M.take t).any (· == a))) (fun _ j => M.length - (intOf j).toNat)
        case atStart => exact ⟨0, false, Nat.zero_le _, rfl, rfl, Lib.hid (by simp)⟩
        case round =>
        obtain ⟨t, B, ht, rfl, rfl, hBB⟩ := hrel
        by_cases htl : t < M.length
        · obtain ⟨bm, om, hAm, _⟩ := hRm.out.addr (by omega)
          have hcm := hRm.out.at_ hAm (j := t) (by omega)
          rw [List.getElem?_map, List.getElem?_eq_getElem htl] at hcm
          simp only [Option.map_some] at hcm
          subst hAm
          have hnx : (M.take (t + 1)).any (· == a) = ((M.take t).any (· == a) || (M[t] == a)) := by rw [List.take_succ_eq_append_getElem htl, List.any_append]; simp
          rw [← hBB.out] at hnx
          generalize M[t] = y at *
          have i2 : (t : Int) < (M.length : Int) := by omega
          cases B with
          | true =>
            replace hnx := Lib.hid hnx
            go_wp2_with fail
            go_round
            case rel => exact ⟨t + 1, true, by omega, by go_num, rfl, Lib.hid (by rw [hnx.out]; rfl)⟩
            case measure => simp [intOf]; omega
          | false =>
            cases hya : (y == a) with
            | true =>
              rw [hya] at hnx
              replace hnx := Lib.hid hnx
              go_wp2_with fail
              go_round
              case rel => exact ⟨t + 1, true, by omega, by go_num, rfl, Lib.hid (by rw [hnx.out]; rfl)⟩
              case measure => simp [intOf]; omega
            | false =>
              rw [hya] at hnx
              replace hnx := Lib.hid hnx
              go_wp2_with fail
              go_round
              case rel => exact ⟨t + 1, false, by omega, by go_num, rfl, Lib.hid (by rw [hnx.out]; rfl)⟩
              case measure => simp [intOf]; omega
        · have hBt : B = true := by
            rw [hBB.out, List.take_of_length_le (by omega)]
            exact List.any_eq_true.2 ⟨a, bS.out, by simp⟩
          subst hBt
          clear hBB
          go_wp2_with fail
          have hcxq := hcx.out
          go_loopw [15] (fun j wq => ∃ (t q : Nat), t ≤ k ∧ j = .int .i64 t ∧ wq = wx.drewN q) (fun j _ => k - (intOf j).toNat)
          case atStart => exact ⟨0, 0, Nat.zero_le _, rfl, rfl⟩
          case round =>
          obtain ⟨t2, q, ht2, rfl, rfl⟩ := hrel
          by_cases htk : t2 < k
          · have hct := hRx.out.at_ rfl (j := t2) (by omega)
            have hgt : l[t2]? = some (l.getD t2 0) := by rw [List.getD_eq_getElem?_getD, List.getElem?_eq_getElem (by omega)]; rfl
            rw [List.getElem?_map, hgt] at hct
            simp only [Option.map_some] at hct
            have hne := hndk.out t2 htk hlt
            generalize l.getD t2 0 = y at *
            have hyx : (y == (x : Int)) = false := by simpa using hne
            replace hne := Lib.hid hne
            replace hgt := Lib.hid hgt
            have i2 : (t2 : Int) < (l.length : Int) := by omega
            have i3 : t2 < l.length := by omega
            go_wp2_with fail
            go_big_quiet (fail)
            go_wp2_with fail
            go_roundw
            case rel => exact ⟨t2 + 1, _, by omega, by go_num, rfl⟩
            case measure => simp [intOf]; omega
          · have HFq := Lib.hid (HFx.out.drewN q)
            have hkq : Blk (wx.drewN q) w.heap.size 24 #[.int .i64 f.wide, .int .i64 f.high, .slice s.ground.A f.ground.length s.ground.c, .slice s.ore.A f.ore.length s.ore.c] := hkx.out
            have d0 := hkq.cell 0
            have d1 := hkq.cell 1
            have d2 := hkq.cell 2
            have d3 := hkq.cell 3
            have hcq : (wx.drewN q).cell? ⟨bl, ol + k, none⟩ = some (.int .i64 x) := hcx.out
            have hRq : RD (wx.drewN q) wx.heap.size 1 (some ⟨bl, ol, none⟩) l.length (l.map (.int .i64)) := hRx.out
            have hbq : Below W2.heap.size W2 (wx.drewN q) := bdrewN hbx.out q
            have hsx : wx.heap.size ≤ (wx.drewN q).heap.size := Nat.le_refl _
            generalize wx.drewN q = wy at *
            replace hkq := Lib.hid hkq
            replace hRq := Lib.hid hRq
            replace hbq := Lib.hid hbq
            clear hcxq
            have hsy := hbq.out.size
            go_upto_region 24 with fail
            go_cut [16, 17] (fun m e wz0 => ∃ wz, wz = wz0 ∧ m = .int .i64 (ontoL f x true) ∧ e = .nilIface ∧ Hid (Below wy.heap.size wy wz))
            case first =>
              go_region_with (go_at_call 9; refine (step_ok s f x true _ (by first | exact HFq.out | exact HFq.out.drewN _) hbE.out).mono ?_; rintro e w' ⟨rfl, hbm⟩)
              all_goals
                have hbm2 : Hid (Below wy.heap.size wy w') := Lib.hid ⟨hbm.os, hbm.tape, hbm.output, hbm.size, hbm.block⟩
                clear hbm
                go_wp2_with fail
                go_meet
                exact ⟨_, rfl, rfl, rfl, hbm2⟩
            case rest =>
            obtain ⟨wz, rfl, rfl, rfl, hbz⟩ := hcut
            have hFz := HFq.out.below hbz.out
            obtain ⟨bg, og, hAg, hcg, _⟩ := hFz.2.2.1.at_ (k := x) (by omega)
            have e2 := (hkq.out.below hbz.out hkq.out.lt).cell 2
            have e5 := (hRq.out.below (hbz.out.mono hsx)).at_ rfl (j := k) (by omega)
            rw [List.getElem?_map, hgk.out] at e5
            simp only [Option.map_some] at e5
            rw [hAg] at e2
            have hbb := hbq.out.trans (hbz.out.mono hsy)
            have hfin := hbb.size
            replace hbb := Lib.hid hbb
            have hon : ontoL f x true = if gAt f x = 1 then 0 else 1 := by
              unfold ontoL ontoG; simp
            have hgg : f.ground.getD x 0 = gAt f x := rfl
            rw [hgg] at hcg
            have i5 : (x : Int) < (f.ground.length : Int) := by omega
            have i6 : x < f.ground.length := by omega
            have i7 : k < l.length := by omega
            replace hAg := Lib.hid hAg
            clear d0 d1 d2 d3 hcq hFz
            generalize gAt f x = gx at *
            by_cases hg1 : gx = 1
            · rw [if_pos hg1] at hon
              rw [hon]
              subst hg1
              replace hon := Lib.hid hon
              go_wp2_with fail
              go_big_quiet (fail)
              go_wp2_with fail
              go_roundw
              case rel => exact ⟨k + 1, by omega, by go_num, bdrewN hbb.out _⟩
              case measure => simp [intOf]; omega
            · rw [if_neg hg1] at hon
              rw [hon]
              have hg2 : (gx == 1) = false := by simpa using hg1
              replace hon := Lib.hid hon
              replace hg1 := Lib.hid hg1
              go_wp2_with fail
              go_big_quiet (fail)
              go_wp2_with fail
              go_roundw
              case rel => exact ⟨k + 1, by omega, by go_num, bdrewN hbb.out _⟩
              case measure => simp [intOf]; omega
      · go_wp2_with fail
        go_ret
        exact ⟨rfl, hb4.out.trans (hb.mono hb4.out.size)⟩
  · refine (near_no s f a W1 HF.out hE).mono ?_
    rintro e W2 ⟨rfl, hb3⟩
    replace hE := Lib.hid hE
    unfold erE
    go_wp2_with fail
    go_ret
    exact ⟨rfl, hb2.out.trans (hb3.mono hs2)⟩
theorem fieldBeside_walk (v0 : Value) (x0 : SF × GF) (a1 : Int) (w : World) (w0 : v0 = .agg (fV x0.1 x0.2).toArray ∧ FOk w x0.1 x0.2) (w1 : (Lit.int .i64 a1).wf = true) :
    Calls Try.prog 3 #[v0, .int .i64 a1] w fun e w' => e = .returned (.bool true) ∧ Below w.heap.size w w' := by
  obtain ⟨s, f⟩ := x0
  obtain ⟨rfl, h⟩ := w0
  exact fieldBeside_in s f a1 w h
end Go.Proofs.Ytfpehepkilclpaa
