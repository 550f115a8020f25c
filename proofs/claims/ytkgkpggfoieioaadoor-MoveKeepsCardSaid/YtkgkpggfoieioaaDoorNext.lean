import Derived.Test.YtkgkpggfoieioaaDoorPathT
namespace Go.Proofs.YtkgkpggfoieioaaDoor
set_option linter.unusedVariables false
open Go.RowKit
theorem okN_facts (f : GF) (fl : Bool) (far : List Int) (a b : Nat) (h : okN f fl far a (b : Int) = true) : 0 < ontoL f b fl ∧ 0 ≤ at0 far b ∧ ontoL f b fl + at0 far b = at0 far a := by
  unfold okN at h
  simp only [Int.toNat_natCast, Bool.and_eq_true, decide_eq_true_eq] at h
  exact ⟨h.1.1, h.1.2, h.2⟩
theorem okN_no (f : GF) (fl : Bool) (far : List Int) (a b : Nat) (h : okN f fl far a (b : Int) = false) : ¬ 0 < ontoL f b fl ∨ ¬ 0 ≤ at0 far b ∨ ¬ ontoL f b fl + at0 far b = at0 far a := by
  unfold okN at h
  simp only [Int.toNat_natCast, Bool.and_eq_false_iff, decide_eq_false_iff_not] at h
  rcases h with (h | h) | h
  · exact .inl h
  · exact .inr (.inl h)
  · exact .inr (.inr h)
def NxRel (f : GF) (fl : Bool) (far : List Int) (a : Nat) (l : List Int) (w4 : World) (i : Value) (wr : World) : Prop :=
  ∃ j : Nat, i = .int .i64 j ∧ j ≤ l.length ∧ Hid (findD (okN f fl far a) a (l.drop j) = (nextL f fl far a : Int)) ∧ Hid (Below w4.heap.size w4 wr)
set_option maxHeartbeats 3200000 in
set_option maxRecDepth 100000 in
theorem next_any (s : SF) (f : GF) (fl : Bool) (g : Nat) (far : List Int) (a : Nat) (w : World) (h : FOk w s f) (hg : Good f) (ha : a < f.ground.length) (hk : Blk w g 3 (arrI far)) (hl : far.length = f.ground.length) (hbd : ∀ k, k < f.ground.length → -1 ≤ at0 far k ∧ at0 far k ≤ 1000) :
    Calls Tryd.prog 177 #[fA s f, .slice (some ⟨g, 0, none⟩) f.ground.length f.ground.length, .int .i64 a, .bool fl] w fun e w' => e = .returned (.int .i64 (nextL f fl far a)) ∧ Below w.heap.size w w' := by
  have H := Lib.hid h
  have hn := hg.len
  obtain ⟨hn1, hn2, hn3⟩ := hn
  replace hn3 := Lib.hid hn3
  have hgl := hk.lt
  have hgg := Lib.hid hg
  replace hk := Lib.hid hk
  replace hl := Lib.hid hl
  replace hbd := Lib.hid hbd
  have hpos : findD (okN f fl far a) a (besL f a) = (nextL f fl far a : Int) := by
    unfold nextL
    have : 0 ≤ findD (okN f fl far a) a (besL f a) := by
      rcases findD_or (okN f fl far a) a (besL f a) with ⟨h1, _⟩ | ⟨h1, _⟩
      · exact (bes_in f a _ hg.wide.1 (by omega) (by rw [← hg.lg]; omega) h1).1
      · omega
    omega
  have hst : Hid (findD (okN f fl far a) a ((besL f a).drop 0) = (nextL f fl far a : Int)) := Lib.hid (by simpa using hpos)
  have hbn : ∀ j, j < (besL f a).length → ∃ b : Nat, (besL f a).getD j 0 = (b : Int) ∧ b < f.ground.length := fun j hj => by
    have hm : (besL f a).getD j 0 ∈ besL f a := by rw [List.getD_eq_getElem?_getD, List.getElem?_eq_getElem hj]; exact List.getElem_mem _
    have := bes_in f a _ hg.wide.1 (by omega) (by rw [← hg.lg]; omega) hm
    rw [← hg.lg] at this
    exact ⟨((besL f a).getD j 0).toNat, by omega, by omega⟩
  replace hbn := Lib.hid hbn
  have hlg := Lib.hid hg.lg
  have hl4 := besL_len f a
  have hfd := fun j hj => findD_drop (okN f fl far a) a (besL f a) j hj
  replace hfd := Lib.hid hfd
  clear h hg hpos
  unfold fA
  go_enter Tryd.func177, Tryd.ntmps177
  go_wp2_with fail
  have hb1 : Below w.heap.size w (w.alloc (.cells #[.int .i64 f.wide, .int .i64 f.high, .slice s.ground.A f.ground.length s.ground.c, .slice s.ore.A f.ore.length s.ore.c] 52)) := (Below.refl _ _).alloc (Nat.le_refl _) _
  have hk1 := Blk.new w 52 #[.int .i64 f.wide, .int .i64 f.high, .slice s.ground.A f.ground.length s.ground.c, .slice s.ore.A f.ore.length s.ore.c]
  generalize w.alloc (.cells #[.int .i64 f.wide, .int .i64 f.high, .slice s.ground.A f.ground.length s.ground.c, .slice s.ore.A f.ore.length s.ore.c] 52) = W at *
  have HF := H.out.below hb1
  have hs1 := hb1.size
  refine (beside_any s f a W hgg.out.wide hgg.out.high ⟨by omega, by rw [← hlg.out]; omega⟩).mono ?_
  rintro e W4 ⟨v, rfl, hown, hb4⟩
  obtain ⟨A, cc, rfl, _⟩ := own_slice hown
  have hrow := RD.of_own hown
  have hb5 := hb1.trans (hb4.mono hs1)
  have hk4 := hk1.below hb4 hk1.lt
  have hkf := hk.out.below hb5 hgl
  have HF4 := HF.below hb4
  replace hrow := Lib.hid hrow
  replace hown := Lib.hid hown
  replace hb5 := Lib.hid hb5
  replace hk4 := Lib.hid hk4
  replace hkf := Lib.hid hkf
  replace HF4 := Lib.hid HF4
  clear hb4 hb1 hk1 HF hs1
  generalize hbl : besL f a = l at *
  replace hbl := Lib.hid hbl
  go_wp2_with fail
  go_loopw [10, 11, 16] (fun _ _ i wr => NxRel f fl far a l W4 i wr) (fun _ _ i _ => l.length - (intOf i).toNat)
  case atStart => exact ⟨0, rfl, Nat.zero_le _, hst, Lib.hid (Below.refl _ _)⟩
  case round =>
    obtain ⟨j, rfl, hj, hfind, hb⟩ := hrel
    have hbs := hb.out.size
    have hkw := hk4.out.below hb.out hk4.out.lt
    have c0 := hkw.cell 0
    have c1 := hkw.cell 1
    have c2 := hkw.cell 2
    have c3 := hkw.cell 3
    have hkfw := hkf.out.below hb.out hkf.out.lt
    have HFw := HF4.out.below hb.out
    replace hkw := Lib.hid hkw
    by_cases hlt : j < l.length
    · obtain ⟨b, hbj, hbn'⟩ := hbn.out j hlt
      have hRw := (hrow.out.below hb.out).more hbs
      obtain ⟨bv, ov, hA, _⟩ := hRw.addr (by omega)
      have hcv := hRw.at_ hA (j := j) (by omega)
      have hgk : l[j]? = some (l.getD j 0) := by rw [List.getD_eq_getElem?_getD, List.getElem?_eq_getElem hlt]; rfl
      rw [List.getElem?_map, hgk, hbj] at hcv
      simp only [Option.map_some] at hcv
      subst hA
      have hfs := hfd.out j hlt
      rw [hfind.out, hbj] at hfs
      have i1 : (j : Int) < (l.length : Int) := by omega
      have i2 : (b : Int) < (f.ground.length : Int) := by omega
      have i3 : (a : Int) < (f.ground.length : Int) := by omega
      have hob := ontoL_bd f b fl
      have hbb := hbd.out b hbn'
      have hba := hbd.out a ha
      replace hgk := Lib.hid hgk
      replace hbj := Lib.hid hbj
      replace hRw := Lib.hid hRw
      replace HFw := Lib.hid HFw
      replace hkfw := Lib.hid hkfw
      clear hfind
      go_wp2_with fail
      refine (onto_any s f b fl wr HFw.out hbn').mono ?_
      rintro e w5 ⟨rfl, hb5'⟩
      have hb6 := hb.out.trans (hb5'.mono hbs)
      have hkf5 := hkfw.out.below hb5' hkfw.out.lt
      have cb := hkf5.atI b (by rw [hl.out]; exact hbn')
      have ca := hkf5.atI a (by rw [hl.out]; exact ha)
      have hbw := hb5.out.trans (hb6.mono hb5.out.size)
      replace hkf5 := Lib.hid hkf5
      replace hb6 := Lib.hid hb6
      replace hbw := Lib.hid hbw
      have hyes := okN_facts f fl far a b
      have hno := okN_no f fl far a b
      clear hb5'
      generalize okN f fl far a (b : Int) = ok at *
      generalize ontoL f b fl = cst at *
      generalize at0 far b = ob at *
      generalize at0 far a = oa at *
      obtain ⟨hob1, hob2⟩ := hob
      obtain ⟨hbb1, hbb2⟩ := hbb
      obtain ⟨hba1, hba2⟩ := hba
      have e1 : IntKind.i64.wrap (cst + ob) = cst + ob := IntWalk.i64_in _ (by omega)
      have e2 := e1
      rw [IntWalk.i64_left] at e2
      cases ok with
      | true =>
        obtain ⟨y1, y2, y3⟩ := hyes rfl
        have d1 : decide ((0 : Int) < cst) = true := by simp; omega
        have d2 : decide ((0 : Int) ≤ ob) = true := by simp; omega
        have d3 : (cst + ob == oa) = true := by simp; omega
        have hres : (nextL f fl far a : Int) = (b : Int) := by simpa using hfs
        replace hres := Lib.hid hres
        replace y3 := Lib.hid y3
        clear hfs hyes hno
        go_wp2_with fail
        go_quiet (fail)
        go_wp2_with fail
        go_ret
        exact ⟨by rw [hres.out]; rfl, bdrewN hbw.out _⟩
      | false =>
        have hn := hno rfl
        have hres : findD _ _ _ = _ := (by simpa using hfs.symm)
        replace hres := Lib.hid hres
        clear hfs hyes hno
        by_cases q1 : 0 < cst
        · have d1 : decide ((0 : Int) < cst) = true := by simp; omega
          by_cases q2 : 0 ≤ ob
          · have d2 : decide ((0 : Int) ≤ ob) = true := by simp; omega
            have d3 : (cst + ob == oa) = false := by simp; omega
            clear hn
            go_wp2_with fail
            go_quiet (fail)
            go_wp2_with fail
            go_roundw
            case rel => exact ⟨j + 1, by go_num, by omega, hres, Lib.hid (bdrewN hb6.out _)⟩
            case measure => simp [intOf]; omega
          · have d2 : decide ((0 : Int) ≤ ob) = false := by simp; omega
            clear hn
            go_wp2_with fail
            go_quiet (fail)
            go_wp2_with fail
            go_roundw
            case rel => exact ⟨j + 1, by go_num, by omega, hres, Lib.hid (bdrewN hb6.out _)⟩
            case measure => simp [intOf]; omega
        · have d1 : decide ((0 : Int) < cst) = false := by simp; omega
          clear hn
          go_wp2_with fail
          go_quiet (fail)
          go_wp2_with fail
          go_roundw
          case rel => exact ⟨j + 1, by go_num, by omega, hres, Lib.hid (bdrewN hb6.out _)⟩
          case measure => simp [intOf]; omega
    · have hres := hfind.out
      rw [List.drop_of_length_le (by omega), findD] at hres
      have hbw := hb5.out.trans (hb.out.mono hb5.out.size)
      replace hres := Lib.hid hres
      replace hbw := Lib.hid hbw
      replace HFw := Lib.hid HFw
      replace hkfw := Lib.hid hkfw
      go_wp2_with fail
      go_ret
      exact ⟨by rw [← hres.out]; rfl, hbw.out⟩
end Go.Proofs.YtkgkpggfoieioaaDoor
