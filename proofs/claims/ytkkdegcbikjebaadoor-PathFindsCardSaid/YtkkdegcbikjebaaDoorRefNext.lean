import Derived.Test.YtkkdegcbikjebaaDoorRefTo
import Derived.Test.YtkkdegcbikjebaaDoorWay
namespace Go.Proofs.YtkkdegcbikjebaaDoor
set_option linter.unusedVariables false
open Go.RowKit
set_option maxHeartbeats 3200000 in
set_option maxRecDepth 100000 in
theorem rnext_any (s : SF) (f : GF) (fl : Bool) (g : Nat) (far : List Int) (a : Nat) (w : World) (h : FOk w s f) (hg : Good f) (ha : a < f.ground.length) (hk : Blk w g 3 (arrI far)) (hl : far.length = f.ground.length) (hbd : ∀ k, k < f.ground.length → -1 ≤ at0 far k ∧ at0 far k ≤ 1000) :
    Calls Tryd.prog 28 #[fA s f, .slice (some ⟨g, 0, none⟩) f.ground.length f.ground.length, .int .i64 a, .bool fl] w fun e w' => e = .returned (.int .i64 (nextL f fl far a)) ∧ Below w.heap.size w w' := by
  have H := Lib.hid h
  have hn := hg.len
  obtain ⟨hn1, hn2, hn3⟩ := hn
  replace hn3 := Lib.hid hn3
  have hgl := hk.lt
  have hgg := Lib.hid hg
  replace hk := Lib.hid hk
  replace hl := Lib.hid hl
  replace hbd := Lib.hid hbd
  have hpos : findD (okN f fl far a) a (besL f a) = (nextL f fl far a : Int) := by
    unfold nextL
    have : 0 ≤ findD (okN f fl far a) a (besL f a) := by
      rcases findD_or (okN f fl far a) a (besL f a) with ⟨h1, _⟩ | ⟨h1, _⟩
      · exact (bes_in f a _ hg.wide.1 (by omega) (by rw [← hg.lg]; omega) h1).1
      · omega
    omega
  have hst : Hid (findD (okN f fl far a) a ((besL f a).drop 0) = (nextL f fl far a : Int)) := Lib.hid (by simpa using hpos)
  have hbn : ∀ j, j < (besL f a).length → ∃ b : Nat, (besL f a).getD j 0 = (b : Int) ∧ b < f.ground.length := fun j hj => by
    have hm : (besL f a).getD j 0 ∈ besL f a := by rw [List.getD_eq_getElem?_getD, List.getElem?_eq_getElem hj]; exact List.getElem_mem _
    have := bes_in f a _ hg.wide.1 (by omega) (by rw [← hg.lg]; omega) hm
    rw [← hg.lg] at this
    exact ⟨((besL f a).getD j 0).toNat, by omega, by omega⟩
  replace hbn := Lib.hid hbn
  have hlg := Lib.hid hg.lg
  have hl4 := besL_len f a
  have hfd := fun j hj => findD_drop (okN f fl far a) a (besL f a) j hj
  replace hfd := Lib.hid hfd
  clear h hg hpos
  unfold fA
  go_enter Tryd.func28, Tryd.ntmps28
  go_wp2_with fail
  have hb1 : Below w.heap.size w (w.alloc (.cells #[.int .i64 f.wide, .int .i64 f.high, .slice s.ground.A f.ground.length s.ground.c, .slice s.ore.A f.ore.length s.ore.c] 25)) := (Below.refl _ _).alloc (Nat.le_refl _) _
  have hk1 := Blk.new w 25 #[.int .i64 f.wide, .int .i64 f.high, .slice s.ground.A f.ground.length s.ground.c, .slice s.ore.A f.ore.length s.ore.c]
  generalize w.alloc (.cells #[.int .i64 f.wide, .int .i64 f.high, .slice s.ground.A f.ground.length s.ground.c, .slice s.ore.A f.ore.length s.ore.c] 25) = W at *
  have HF := H.out.below hb1
  have hs1 := hb1.size
  refine (rnear_any s f a W hgg.out.wide hgg.out.high ⟨by omega, by rw [← hlg.out]; omega⟩).mono ?_
  rintro e W4 ⟨v, rfl, hown, hb4⟩
  obtain ⟨A, cc, rfl, _⟩ := own_slice hown
  have hrow := RD.of_own hown
  have hb5 := hb1.trans (hb4.mono hs1)
  have hk4 := hk1.below hb4 hk1.lt
  have hkf := hk.out.below hb5 hgl
  have HF4 := HF.below hb4
  replace hrow := Lib.hid hrow
  replace hown := Lib.hid hown
  replace hb5 := Lib.hid hb5
  replace hk4 := Lib.hid hk4
  replace hkf := Lib.hid hkf
  replace HF4 := Lib.hid HF4
  clear hb4 hb1 hk1 HF hs1
  generalize hbl : besL f a = l at *
  replace hbl := Lib.hid hbl
  go_wp2_with fail
  go_loopw [10, 11, 12] (fun i _ _ wr => NxRel f fl far a l W4 i wr) (fun i _ _ _ => l.length - (intOf i).toNat)
  case atStart => exact ⟨0, rfl, Nat.zero_le _, hst, Lib.hid (Below.refl _ _)⟩
  case round =>
    obtain ⟨j, rfl, hj, hfind, hb⟩ := hrel
    have hbs := hb.out.size
    have hkw := hk4.out.below hb.out hk4.out.lt
    have c0 := hkw.cell 0
    have c1 := hkw.cell 1
    have c2 := hkw.cell 2
    have c3 := hkw.cell 3
    have hkfw := hkf.out.below hb.out hkf.out.lt
    have HFw := HF4.out.below hb.out
    replace hkw := Lib.hid hkw
    by_cases hlt : j < l.length
    · obtain ⟨b, hbj, hbn'⟩ := hbn.out j hlt
      have hRw := (hrow.out.below hb.out).more hbs
      obtain ⟨bv, ov, hA, _⟩ := hRw.addr (by omega)
      have hcv := hRw.at_ hA (j := j) (by omega)
      have hgk : l[j]? = some (l.getD j 0) := by rw [List.getD_eq_getElem?_getD, List.getElem?_eq_getElem hlt]; rfl
      rw [List.getElem?_map, hgk, hbj] at hcv
      simp only [Option.map_some] at hcv
      subst hA
      have hfs := hfd.out j hlt
      rw [hfind.out, hbj] at hfs
      have i1 : (j : Int) < (l.length : Int) := by omega
      have i2 : (b : Int) < (f.ground.length : Int) := by omega
      have i3 : (a : Int) < (f.ground.length : Int) := by omega
      have hob := ontoL_bd f b fl
      have hbb := hbd.out b hbn'
      have hba := hbd.out a ha
      have hgb := good_gA hgg.out b
      replace hgk := Lib.hid hgk
      replace hbj := Lib.hid hbj
      replace hRw := Lib.hid hRw
      replace HFw := Lib.hid HFw
      replace hkfw := Lib.hid hkfw
      clear hfind
      go_upto_region 5 with fail
      go_cut [11] (fun mm wz0 => ∃ wz, wz = wz0 ∧ mm = .int .i64 (ontoL f b fl) ∧ Hid (Below wr.heap.size wr wz))
      case first =>
        go_region_with (go_at_call 22; refine (ronto_any s f b fl _ (by first | exact HFw.out | exact HFw.out.drewN _) hbn' hgb).mono ?_; rintro e w' ⟨rfl, hbm'⟩)
        all_goals
          have hbm2 : Hid (Below wr.heap.size wr w') := Lib.hid ⟨hbm'.os, hbm'.tape, hbm'.output, hbm'.size, hbm'.block⟩
          clear hbm'
          go_wp2_with fail
          go_meet
          exact ⟨_, rfl, rfl, hbm2⟩
      case rest =>
      obtain ⟨w5, rfl, rfl, hbz⟩ := hcut
      have hb6 := hb.out.trans (hbz.out.mono hbs)
      have hkf5 := hkfw.out.below hbz.out hkfw.out.lt
      have cb := hkf5.atI b (by rw [hl.out]; exact hbn')
      have ca := hkf5.atI a (by rw [hl.out]; exact ha)
      have cv5 := (hRw.out.below hbz.out).at_ rfl (j := j) (by omega)
      rw [List.getElem?_map, hgk.out, hbj.out] at cv5
      simp only [Option.map_some] at cv5
      have hbw := hb5.out.trans (hb6.mono hb5.out.size)
      replace hkf5 := Lib.hid hkf5
      replace hb6 := Lib.hid hb6
      replace hbw := Lib.hid hbw
      have hyes := okN_facts f fl far a b
      have hno := okN_no f fl far a b
      clear hbz hcv c0 c1 c2 c3
      generalize okN f fl far a (b : Int) = ok at *
      generalize ontoL f b fl = cst at *
      generalize at0 far b = ob at *
      generalize at0 far a = oa at *
      obtain ⟨hob1, hob2⟩ := hob
      obtain ⟨hbb1, hbb2⟩ := hbb
      obtain ⟨hba1, hba2⟩ := hba
      have e1 : IntKind.i64.wrap (cst + ob) = cst + ob := IntWalk.i64_in _ (by omega)
      have e2 := e1
      rw [IntWalk.i64_left] at e2
      cases ok with
      | true =>
        obtain ⟨y1, y2, y3⟩ := hyes rfl
        have d1 : decide ((0 : Int) < cst) = true := by simp; omega
        have d2 : decide ((0 : Int) ≤ ob) = true := by simp; omega
        have d3 : (cst + ob == oa) = true := by simp; omega
        have hres : (nextL f fl far a : Int) = (b : Int) := by simpa using hfs
        replace hres := Lib.hid hres
        replace y3 := Lib.hid y3
        clear hfs hyes hno
        go_wp2_with fail
        go_ret
        exact ⟨by rw [hres.out]; rfl, hbw.out⟩
      | false =>
        have hn := hno rfl
        have hres : findD _ _ _ = _ := (by simpa using hfs.symm)
        replace hres := Lib.hid hres
        clear hfs hyes hno
        by_cases q1 : 0 < cst
        · have d1 : decide ((0 : Int) < cst) = true := by simp; omega
          by_cases q2 : 0 ≤ ob
          · have d2 : decide ((0 : Int) ≤ ob) = true := by simp; omega
            have d3 : (cst + ob == oa) = false := by simp; omega
            clear hn
            go_wp2_with fail
            go_roundw
            case rel => exact ⟨j + 1, by go_num, by omega, hres, hb6⟩
            case measure => simp [intOf]; omega
          · have d2 : decide ((0 : Int) ≤ ob) = false := by simp; omega
            clear hn
            go_wp2_with fail
            go_roundw
            case rel => exact ⟨j + 1, by go_num, by omega, hres, hb6⟩
            case measure => simp [intOf]; omega
        · have d1 : decide ((0 : Int) < cst) = false := by simp; omega
          clear hn
          go_wp2_with fail
          go_roundw
          case rel => exact ⟨j + 1, by go_num, by omega, hres, hb6⟩
          case measure => simp [intOf]; omega
    · have hres := hfind.out
      rw [List.drop_of_length_le (by omega), findD] at hres
      have hbw := hb5.out.trans (hb.out.mono hb5.out.size)
      replace hres := Lib.hid hres
      replace hbw := Lib.hid hbw
      replace HFw := Lib.hid HFw
      replace hkfw := Lib.hid hkfw
      go_wp2_with fail
      go_ret
      exact ⟨by rw [← hres.out]; rfl, hbw.out⟩
set_option maxRecDepth 100000 in
theorem nxt_no (s : SF) (f : GF) (a b : Int) (fl : Bool) (w : World) (h : FOk w s f) (hE : faultL f [a, b] ≠ 0) :
    Calls Tryd.prog 29 #[fA s f, .int .i64 a, .int .i64 b, .bool fl] w fun e w' => e = .returned (.tuple #[.int .i64 0, erE (faultL f [a, b])]) ∧ Below w.heap.size w w' := by
  have hc := cells2_any s f a b w h
  dsimp only at hc
  unfold w1F at hc
  replace hc := Lib.hid hc
  clear h
  unfold fA
  go_enter Tryd.func29, Tryd.ntmps29
  go_wp2_with fail
  refine hc.out.mono ?_
  rintro e W ⟨rfl, hb, hk⟩
  rw [errVn _ hE]
  unfold erE
  have hE2 := Lib.hid hE
  clear hE hk hc
  go_wp2_with fail
  go_ret2
  exact ⟨rfl, hb⟩
set_option maxHeartbeats 3200000 in
set_option maxRecDepth 100000 in
theorem nxt_ok (s : SF) (f : GF) (a b : Nat) (fl : Bool) (w : World) (h : FOk w s f) (hE : faultL f [a, b] = 0) :
    Calls Tryd.prog 29 #[fA s f, .int .i64 a, .int .i64 b, .bool fl] w fun e w' => Below w.heap.size w w' ∧ ∃ far, DTo f fl b far ∧ ((at0 far a < 0 ∧ e = .returned (.tuple #[.int .i64 0, erE 7])) ∨ (0 ≤ at0 far a ∧ e = .returned (.tuple #[.int .i64 (nextL f fl far a), .nilIface]))) := by
  obtain ⟨hg, ha0, ha1, hb0, hb1, _, _⟩ := faultL_2 f a b hE
  have hc := cells2_any s f a b w h
  dsimp only at hc
  unfold w1F at hc
  have H := Lib.hid h
  have hn := hg.len
  replace hc := Lib.hid hc
  replace hg := Lib.hid hg
  replace hn := Lib.hid hn
  clear h
  unfold fA
  go_enter Tryd.func29, Tryd.ntmps29
  go_wp2_with fail
  refine hc.out.mono ?_
  rintro e W ⟨rfl, hb, hk⟩
  rw [hE, errV0]
  have c0 := hk.cell 0
  have c1 := hk.cell 1
  have c2 := hk.cell 2
  have c3 := hk.cell 3
  have HF := H.out.below hb
  have hs := hb.size
  have hE2 := Lib.hid hE
  have hklt := hk.lt
  replace HF := Lib.hid HF
  replace hb := Lib.hid hb
  replace hk := Lib.hid hk
  clear hE hc
  go_wp2_with fail
  refine (to_any s f b fl W HF.out hg.out (by omega)).mono ?_
  intro e W2 hp
  obtain ⟨g, far, rfl, hd, hg3, hkf, hb5⟩ := hp
  have hk2 := hk.out.below hb5 hklt
  have HF2 := HF.out.below hb5
  have hb6 := hb.out.trans (hb5.mono hs)
  have cf := hkf.atI a (by rw [hd.len]; omega)
  have hs5 := hb5.size
  have hwlt := hk2.lt
  have hglt := hkf.lt
  have hlow := hd.low a (by omega)
  have j1 : (a : Int) < (f.ground.length : Int) := by omega
  have hbd : ∀ k, k < f.ground.length → -1 ≤ at0 far k ∧ at0 far k ≤ 1000 := fun k hk => by have := hd.low k hk; have := hn.out.1; omega
  have hln := hd.len
  have k0 := hk2.cell 0
  have k1 := hk2.cell 1
  have k2 := hk2.cell 2
  have k3 := hk2.cell 3
  replace hbd := Lib.hid hbd
  replace hln := Lib.hid hln
  replace hd := Lib.hid hd
  replace hkf := Lib.hid hkf
  replace hk2 := Lib.hid hk2
  replace HF2 := Lib.hid HF2
  replace hb6 := Lib.hid hb6
  clear hb5 c0 c1 c2 c3
  by_cases hneg : at0 far a < 0
  · have d1 : decide (at0 far a < 0) = true := by simp; omega
    go_wp2_with fail
    go_ret2
    exact ⟨hb6.out, far, hd.out, .inl ⟨hneg, rfl⟩⟩
  · have d1 : decide (at0 far a < 0) = false := by simp; omega
    go_wp2_with fail
    refine (next_any s f fl g far a W2 HF2.out hg.out (by omega) hkf.out hln.out hbd.out).mono ?_
    rintro e W3 ⟨rfl, hb7⟩
    have hb8 := hb6.out.trans (hb7.mono hb6.out.size)
    replace hb8 := Lib.hid hb8
    clear hb7
    go_wp2_with fail
    go_ret2
    exact ⟨hb8.out, far, hd.out, .inr ⟨by omega, rfl⟩⟩
end Go.Proofs.YtkkdegcbikjebaaDoor
