import Derived.Test.YtkgkpggfoieioaaGreatDoorSpread
import Derived.Shelf.Abstract
import Derived.Test.YtkgkpggfoieioaaGreatDoorMrgd
namespace Go.Proofs.YtkgkpggfoieioaaGreatDoor
set_option linter.unusedVariables false
open Go.RowKit
theorem ontoL_bd (f : GF) (k : Nat) (fl : Bool) : 0 ≤ ontoL f k fl ∧ ontoL f k fl ≤ 2 := by
  unfold ontoL ontoG
  repeat' split
  all_goals omega
theorem tofn_any (s : SF) (f : GF) (fl : Bool) (g1 g2 a b : Nat) (wx : World) (h1 : Blk wx g1 25 #[.int .i64 f.wide, .int .i64 f.high, .slice s.ground.A f.ground.length s.ground.c, .slice s.ore.A f.ore.length s.ore.c]) (h2 : Blk wx g2 4 #[.bool fl]) (hF : FOk wx s f) (ha : a < f.ground.length) :
    Calls Tryz.prog 89 #[.int .i64 a, .int .i64 b, .pointer (some ⟨g1, 0, none⟩), .pointer (some ⟨g2, 0, none⟩)] wx fun e w' => e = .returned (.int .i64 (ontoL f a fl)) ∧ Below wx.heap.size wx w' := by
  have c0 := h1.cell 0
  have c1 := h1.cell 1
  have c2 := h1.cell 2
  have c3 := h1.cell 3
  have e0 := h2.cell 0
  have H := Lib.hid hF
  clear hF h1 h2
  go_enter Tryz.func89, Tryz.ntmps89
  go_wp2_with fail
  refine (onto_any s f a fl wx H.out ha).mono ?_
  rintro e w' ⟨rfl, hb⟩
  replace hb := Lib.hid hb
  go_wp2_with fail
  go_ret
  exact ⟨rfl, hb.out⟩
theorem fromfn_any (s : SF) (f : GF) (fl : Bool) (g1 g2 a b : Nat) (wx : World) (h1 : Blk wx g1 25 #[.int .i64 f.wide, .int .i64 f.high, .slice s.ground.A f.ground.length s.ground.c, .slice s.ore.A f.ore.length s.ore.c]) (h2 : Blk wx g2 4 #[.bool fl]) (hF : FOk wx s f) (ha : b < f.ground.length) :
    Calls Tryz.prog 92 #[.int .i64 a, .int .i64 b, .pointer (some ⟨g1, 0, none⟩), .pointer (some ⟨g2, 0, none⟩)] wx fun e w' => e = .returned (.int .i64 (ontoL f b fl)) ∧ Below wx.heap.size wx w' := by
  have c0 := h1.cell 0
  have c1 := h1.cell 1
  have c2 := h1.cell 2
  have c3 := h1.cell 3
  have e0 := h2.cell 0
  have H := Lib.hid hF
  clear hF h1 h2
  go_enter Tryz.func92, Tryz.ntmps92
  go_wp2_with fail
  refine (onto_any s f b fl wx H.out ha).mono ?_
  rintro e w' ⟨rfl, hb⟩
  replace hb := Lib.hid hb
  go_wp2_with fail
  go_ret
  exact ⟨rfl, hb.out⟩
theorem SprPost.mono_ {w w1 : World} {f : GF} {src : Nat} {cost : Nat → Nat → Int} {e : Ending} {w' : World} (h : SprPost w1 f src cost e w') (hb : Below w.heap.size w w1) : SprPost w f src cost e w' := by
  obtain ⟨g, out, h1, h2, h3, h4, h5⟩ := h
  exact ⟨g, out, h1, h2, Nat.le_trans hb.size h3, h4, hb.trans (h5.mono hb.size)⟩
set_option maxRecDepth 100000 in
theorem to_any (s : SF) (f : GF) (src : Nat) (fl : Bool) (w : World) (h : FOk w s f) (hg : Good f) (hsrc : src < f.ground.length) :
    Calls Tryz.prog 69 #[fA s f, .int .i64 src, .bool fl] w (SprPost w f src (costTo f fl)) := by
  have hent : ∀ args w', (callFunc 89 args).run Tryz.prog w' = .ok (.enter 89 args) w' := enters_of Tryz.func89 (by kernel_rfl) rfl
  have H := Lib.hid h
  replace hent := Lib.hid hent
  clear h
  unfold fA
  go_enter Tryz.func69, Tryz.ntmps69
  go_wp2_with fail
  have hb1 : Below w.heap.size w ((w.alloc (.cells #[.int .i64 f.wide, .int .i64 f.high, .slice s.ground.A f.ground.length s.ground.c, .slice s.ore.A f.ore.length s.ore.c] 25)).alloc (.cells #[.bool fl] 4)) := ((Below.refl _ _).alloc (Nat.le_refl _) _).alloc (by simp) _
  have hk1 : Blk ((w.alloc (.cells #[.int .i64 f.wide, .int .i64 f.high, .slice s.ground.A f.ground.length s.ground.c, .slice s.ore.A f.ore.length s.ore.c] 25)).alloc (.cells #[.bool fl] 4)) w.heap.size 25 #[.int .i64 f.wide, .int .i64 f.high, .slice s.ground.A f.ground.length s.ground.c, .slice s.ore.A f.ore.length s.ore.c] := (Blk.new w _ _).alloc _
  have hk2 : Blk ((w.alloc (.cells #[.int .i64 f.wide, .int .i64 f.high, .slice s.ground.A f.ground.length s.ground.c, .slice s.ore.A f.ore.length s.ore.c] 25)).alloc (.cells #[.bool fl] 4)) (w.heap.size + 1) 4 #[.bool fl] := by
    have := Blk.new (w.alloc (.cells #[.int .i64 f.wide, .int .i64 f.high, .slice s.ground.A f.ground.length s.ground.c, .slice s.ore.A f.ore.length s.ore.c] 25)) 4 #[.bool fl]
    rwa [show (w.alloc (.cells #[.int .i64 f.wide, .int .i64 f.high, .slice s.ground.A f.ground.length s.ground.c, .slice s.ore.A f.ore.length s.ore.c] 25)).heap.size = w.heap.size + 1 by simp] at this
  generalize (w.alloc (.cells #[.int .i64 f.wide, .int .i64 f.high, .slice s.ground.A f.ground.length s.ground.c, .slice s.ore.A f.ore.length s.ore.c] 25)).alloc (.cells #[.bool fl] 4) = W at *
  have HF := H.out.below hb1
  refine (spread_any s f src 89 (.pointer (some ⟨w.heap.size, 0, none⟩)) (.pointer (some ⟨w.heap.size + 1, 0, none⟩)) (costTo f fl) W HF hg hsrc hent.out (fun a b => ontoL_bd f a fl) (fun a b wx ha hb hbel => tofn_any s f fl w.heap.size (w.heap.size + 1) a b wx (hk1.below hbel hk1.lt) (hk2.below hbel hk2.lt) (HF.below hbel) ha)).mono ?_
  intro e w' hp
  have hq := hp.mono_ hb1
  obtain ⟨g, out, rfl, h2, h3, h4, h5⟩ := hq
  replace h2 := Lib.hid h2
  replace h4 := Lib.hid h4
  replace h5 := Lib.hid h5
  clear hp hk1 hk2 hb1 HF
  go_wp2_with fail
  go_ret
  exact ⟨g, out, rfl, h2.out, h3, h4.out, h5.out⟩
set_option maxRecDepth 100000 in
theorem from_any (s : SF) (f : GF) (src : Nat) (fl : Bool) (w : World) (h : FOk w s f) (hg : Good f) (hsrc : src < f.ground.length) :
    Calls Tryz.prog 72 #[fA s f, .int .i64 src, .bool fl] w (SprPost w f src (costFrom f fl)) := by
  have hent : ∀ args w', (callFunc 92 args).run Tryz.prog w' = .ok (.enter 92 args) w' := enters_of Tryz.func92 (by kernel_rfl) rfl
  have H := Lib.hid h
  replace hent := Lib.hid hent
  clear h
  unfold fA
  go_enter Tryz.func72, Tryz.ntmps72
  go_wp2_with fail
  have hb1 : Below w.heap.size w ((w.alloc (.cells #[.int .i64 f.wide, .int .i64 f.high, .slice s.ground.A f.ground.length s.ground.c, .slice s.ore.A f.ore.length s.ore.c] 25)).alloc (.cells #[.bool fl] 4)) := ((Below.refl _ _).alloc (Nat.le_refl _) _).alloc (by simp) _
  have hk1 : Blk ((w.alloc (.cells #[.int .i64 f.wide, .int .i64 f.high, .slice s.ground.A f.ground.length s.ground.c, .slice s.ore.A f.ore.length s.ore.c] 25)).alloc (.cells #[.bool fl] 4)) w.heap.size 25 #[.int .i64 f.wide, .int .i64 f.high, .slice s.ground.A f.ground.length s.ground.c, .slice s.ore.A f.ore.length s.ore.c] := (Blk.new w _ _).alloc _
  have hk2 : Blk ((w.alloc (.cells #[.int .i64 f.wide, .int .i64 f.high, .slice s.ground.A f.ground.length s.ground.c, .slice s.ore.A f.ore.length s.ore.c] 25)).alloc (.cells #[.bool fl] 4)) (w.heap.size + 1) 4 #[.bool fl] := by
    have := Blk.new (w.alloc (.cells #[.int .i64 f.wide, .int .i64 f.high, .slice s.ground.A f.ground.length s.ground.c, .slice s.ore.A f.ore.length s.ore.c] 25)) 4 #[.bool fl]
    rwa [show (w.alloc (.cells #[.int .i64 f.wide, .int .i64 f.high, .slice s.ground.A f.ground.length s.ground.c, .slice s.ore.A f.ore.length s.ore.c] 25)).heap.size = w.heap.size + 1 by simp] at this
  generalize (w.alloc (.cells #[.int .i64 f.wide, .int .i64 f.high, .slice s.ground.A f.ground.length s.ground.c, .slice s.ore.A f.ore.length s.ore.c] 25)).alloc (.cells #[.bool fl] 4) = W at *
  have HF := H.out.below hb1
  refine (spread_any s f src 92 (.pointer (some ⟨w.heap.size, 0, none⟩)) (.pointer (some ⟨w.heap.size + 1, 0, none⟩)) (costFrom f fl) W HF hg hsrc hent.out (fun a b => ontoL_bd f b fl) (fun a b wx ha hb hbel => fromfn_any s f fl w.heap.size (w.heap.size + 1) a b wx (hk1.below hbel hk1.lt) (hk2.below hbel hk2.lt) (HF.below hbel) hb)).mono ?_
  intro e w' hp
  have hq := hp.mono_ hb1
  obtain ⟨g, out, rfl, h2, h3, h4, h5⟩ := hq
  replace h2 := Lib.hid h2
  replace h4 := Lib.hid h4
  replace h5 := Lib.hid h5
  clear hp hk1 hk2 hb1 HF
  go_wp2_with fail
  go_ret
  exact ⟨g, out, rfl, h2.out, h3, h4.out, h5.out⟩
end Go.Proofs.YtkgkpggfoieioaaGreatDoor
namespace Go.Proofs.YtkgkpggfoieioaaGreatDoor
set_option linter.unusedVariables false
open Go.RowKit
theorem okN_facts (f : GF) (fl : Bool) (far : List Int) (a b : Nat) (h : okN f fl far a (b : Int) = true) : 0 < ontoL f b fl ∧ 0 ≤ at0 far b ∧ ontoL f b fl + at0 far b = at0 far a := by
  unfold okN at h
  simp only [Int.toNat_natCast, Bool.and_eq_true, decide_eq_true_eq] at h
  exact ⟨h.1.1, h.1.2, h.2⟩
theorem okN_no (f : GF) (fl : Bool) (far : List Int) (a b : Nat) (h : okN f fl far a (b : Int) = false) : ¬ 0 < ontoL f b fl ∨ ¬ 0 ≤ at0 far b ∨ ¬ ontoL f b fl + at0 far b = at0 far a := by
  unfold okN at h
  simp only [Int.toNat_natCast, Bool.and_eq_false_iff, decide_eq_false_iff_not] at h
  rcases h with (h | h) | h
  · exact .inl h
  · exact .inr (.inl h)
  · exact .inr (.inr h)
def NxRel (f : GF) (fl : Bool) (far : List Int) (a : Nat) (l : List Int) (w4 : World) (i : Value) (wr : World) : Prop :=
  ∃ j : Nat, i = .int .i64 j ∧ j ≤ l.length ∧ Hid (findD (okN f fl far a) a (l.drop j) = (nextL f fl far a : Int)) ∧ Hid (Below w4.heap.size w4 wr)
set_option maxHeartbeats 3200000 in
set_option maxRecDepth 100000 in
theorem next_any (s : SF) (f : GF) (fl : Bool) (g : Nat) (far : List Int) (a : Nat) (w : World) (h : FOk w s f) (hg : Good f) (ha : a < f.ground.length) (hk : Blk w g 3 (arrI far)) (hl : far.length = f.ground.length) (hbd : ∀ k, k < f.ground.length → -1 ≤ at0 far k ∧ at0 far k ≤ 1000) :
    Calls Tryz.prog 106 #[fA s f, .slice (some ⟨g, 0, none⟩) f.ground.length f.ground.length, .int .i64 a, .bool fl] w fun e w' => e = .returned (.int .i64 (nextL f fl far a)) ∧ Below w.heap.size w w' := by
  have H := Lib.hid h
  have hn := hg.len
  obtain ⟨hn1, hn2, hn3⟩ := hn
  replace hn3 := Lib.hid hn3
  have hgl := hk.lt
  have hgg := Lib.hid hg
  replace hk := Lib.hid hk
  replace hl := Lib.hid hl
  replace hbd := Lib.hid hbd
  have hpos : findD (okN f fl far a) a (besL f a) = (nextL f fl far a : Int) := by
    unfold nextL
    have : 0 ≤ findD (okN f fl far a) a (besL f a) := by
      rcases findD_or (okN f fl far a) a (besL f a) with ⟨h1, _⟩ | ⟨h1, _⟩
      · exact (bes_in f a _ hg.wide.1 (by omega) (by rw [← hg.lg]; omega) h1).1
      · omega
    omega
  have hst : Hid (findD (okN f fl far a) a ((besL f a).drop 0) = (nextL f fl far a : Int)) := Lib.hid (by simpa using hpos)
  have hbn : ∀ j, j < (besL f a).length → ∃ b : Nat, (besL f a).getD j 0 = (b : Int) ∧ b < f.ground.length := fun j hj => by
    have hm : (besL f a).getD j 0 ∈ besL f a := by rw [List.getD_eq_getElem?_getD, List.getElem?_eq_getElem hj]; exact List.getElem_mem _
    have := bes_in f a _ hg.wide.1 (by omega) (by rw [← hg.lg]; omega) hm
    rw [← hg.lg] at this
    exact ⟨((besL f a).getD j 0).toNat, by omega, by omega⟩
  replace hbn := Lib.hid hbn
  have hlg := Lib.hid hg.lg
  have hl4 := besL_len f a
  have hfd := fun j hj => findD_drop (okN f fl far a) a (besL f a) j hj
  replace hfd := Lib.hid hfd
  clear h hg hpos
  unfold fA
  go_enter Tryz.func106, Tryz.ntmps106
  go_wp2_with fail
  have hb1 : Below w.heap.size w (w.alloc (.cells #[.int .i64 f.wide, .int .i64 f.high, .slice s.ground.A f.ground.length s.ground.c, .slice s.ore.A f.ore.length s.ore.c] 25)) := (Below.refl _ _).alloc (Nat.le_refl _) _
  have hk1 := Blk.new w 25 #[.int .i64 f.wide, .int .i64 f.high, .slice s.ground.A f.ground.length s.ground.c, .slice s.ore.A f.ore.length s.ore.c]
  generalize w.alloc (.cells #[.int .i64 f.wide, .int .i64 f.high, .slice s.ground.A f.ground.length s.ground.c, .slice s.ore.A f.ore.length s.ore.c] 25) = W at *
  have HF := H.out.below hb1
  have hs1 := hb1.size
  refine (beside_any s f a W hgg.out.wide hgg.out.high ⟨by omega, by rw [← hlg.out]; omega⟩).mono ?_
  rintro e W4 ⟨v, rfl, hown, hb4⟩
  obtain ⟨A, cc, rfl, _⟩ := own_slice hown
  have hrow := RD.of_own hown
  have hb5 := hb1.trans (hb4.mono hs1)
  have hk4 := hk1.below hb4 hk1.lt
  have hkf := hk.out.below hb5 hgl
  have HF4 := HF.below hb4
  replace hrow := Lib.hid hrow
  replace hown := Lib.hid hown
  replace hb5 := Lib.hid hb5
  replace hk4 := Lib.hid hk4
  replace hkf := Lib.hid hkf
  replace HF4 := Lib.hid HF4
  clear hb4 hb1 hk1 HF hs1
  generalize hbl : besL f a = l at *
  replace hbl := Lib.hid hbl
  go_wp2_with fail
  go_loopw [10, 11, 16] (fun _ _ i wr => NxRel f fl far a l W4 i wr) (fun _ _ i _ => l.length - (intOf i).toNat)
  case atStart => exact ⟨0, rfl, Nat.zero_le _, hst, Lib.hid (Below.refl _ _)⟩
  case round =>
    obtain ⟨j, rfl, hj, hfind, hb⟩ := hrel
    have hbs := hb.out.size
    have hkw := hk4.out.below hb.out hk4.out.lt
    have c0 := hkw.cell 0
    have c1 := hkw.cell 1
    have c2 := hkw.cell 2
    have c3 := hkw.cell 3
    have hkfw := hkf.out.below hb.out hkf.out.lt
    have HFw := HF4.out.below hb.out
    replace hkw := Lib.hid hkw
    by_cases hlt : j < l.length
    · obtain ⟨b, hbj, hbn'⟩ := hbn.out j hlt
      have hRw := (hrow.out.below hb.out).more hbs
      obtain ⟨bv, ov, hA, _⟩ := hRw.addr (by omega)
      have hcv := hRw.at_ hA (j := j) (by omega)
      have hgk : l[j]? = some (l.getD j 0) := by rw [List.getD_eq_getElem?_getD, List.getElem?_eq_getElem hlt]; rfl
      rw [List.getElem?_map, hgk, hbj] at hcv
      simp only [Option.map_some] at hcv
      subst hA
      have hfs := hfd.out j hlt
      rw [hfind.out, hbj] at hfs
      have i1 : (j : Int) < (l.length : Int) := by omega
      have i2 : (b : Int) < (f.ground.length : Int) := by omega
      have i3 : (a : Int) < (f.ground.length : Int) := by omega
      have hob := ontoL_bd f b fl
      have hbb := hbd.out b hbn'
      have hba := hbd.out a ha
      replace hgk := Lib.hid hgk
      replace hbj := Lib.hid hbj
      replace hRw := Lib.hid hRw
      replace HFw := Lib.hid HFw
      replace hkfw := Lib.hid hkfw
      clear hfind
      go_wp2_with fail
      refine (onto_any s f b fl wr HFw.out hbn').mono ?_
      rintro e w5 ⟨rfl, hb5'⟩
      have hb6 := hb.out.trans (hb5'.mono hbs)
      have hkf5 := hkfw.out.below hb5' hkfw.out.lt
      have cb := hkf5.atI b (by rw [hl.out]; exact hbn')
      have ca := hkf5.atI a (by rw [hl.out]; exact ha)
      have hbw := hb5.out.trans (hb6.mono hb5.out.size)
      replace hkf5 := Lib.hid hkf5
      replace hb6 := Lib.hid hb6
      replace hbw := Lib.hid hbw
      have hyes := okN_facts f fl far a b
      have hno := okN_no f fl far a b
      clear hb5'
      generalize okN f fl far a (b : Int) = ok at *
      generalize ontoL f b fl = cst at *
      generalize at0 far b = ob at *
      generalize at0 far a = oa at *
      obtain ⟨hob1, hob2⟩ := hob
      obtain ⟨hbb1, hbb2⟩ := hbb
      obtain ⟨hba1, hba2⟩ := hba
      have e1 : IntKind.i64.wrap (cst + ob) = cst + ob := IntWalk.i64_in _ (by omega)
      have e2 := e1
      rw [IntWalk.i64_left] at e2
      cases ok with
      | true =>
        obtain ⟨y1, y2, y3⟩ := hyes rfl
        have d1 : decide ((0 : Int) < cst) = true := by simp; omega
        have d2 : decide ((0 : Int) ≤ ob) = true := by simp; omega
        have d3 : (cst + ob == oa) = true := by simp; omega
        have hres : (nextL f fl far a : Int) = (b : Int) := by simpa using hfs
        replace hres := Lib.hid hres
        replace y3 := Lib.hid y3
        clear hfs hyes hno
        go_wp2_with fail
        go_quiet (fail)
        go_wp2_with fail
        go_ret
        exact ⟨by rw [hres.out]; rfl, bdrewN hbw.out _⟩
      | false =>
        have hn := hno rfl
        have hres : findD _ _ _ = _ := (by simpa using hfs.symm)
        replace hres := Lib.hid hres
        clear hfs hyes hno
        by_cases q1 : 0 < cst
        · have d1 : decide ((0 : Int) < cst) = true := by simp; omega
          by_cases q2 : 0 ≤ ob
          · have d2 : decide ((0 : Int) ≤ ob) = true := by simp; omega
            have d3 : (cst + ob == oa) = false := by simp; omega
            clear hn
            go_wp2_with fail
            go_quiet (fail)
            go_wp2_with fail
            go_roundw
            case rel => exact ⟨j + 1, by go_num, by omega, hres, Lib.hid (bdrewN hb6.out _)⟩
            case measure => simp [intOf]; omega
          · have d2 : decide ((0 : Int) ≤ ob) = false := by simp; omega
            clear hn
            go_wp2_with fail
            go_quiet (fail)
            go_wp2_with fail
            go_roundw
            case rel => exact ⟨j + 1, by go_num, by omega, hres, Lib.hid (bdrewN hb6.out _)⟩
            case measure => simp [intOf]; omega
        · have d1 : decide ((0 : Int) < cst) = false := by simp; omega
          clear hn
          go_wp2_with fail
          go_quiet (fail)
          go_wp2_with fail
          go_roundw
          case rel => exact ⟨j + 1, by go_num, by omega, hres, Lib.hid (bdrewN hb6.out _)⟩
          case measure => simp [intOf]; omega
    · have hres := hfind.out
      rw [List.drop_of_length_le (by omega), findD] at hres
      have hbw := hb5.out.trans (hb.out.mono hb5.out.size)
      replace hres := Lib.hid hres
      replace hbw := Lib.hid hbw
      replace HFw := Lib.hid HFw
      replace hkfw := Lib.hid hkfw
      go_wp2_with fail
      go_ret
      exact ⟨by rw [← hres.out]; rfl, hbw.out⟩
end Go.Proofs.YtkgkpggfoieioaaGreatDoor
namespace Go.Proofs.YtkgkpggfoieioaaGreatDoor
set_option linter.unusedVariables false
open Go.RowKit
set_option maxHeartbeats 1600000 in
set_option maxRecDepth 100000 in
theorem rfield_loop (s : SF) (f : GF) (w : World) (h : FOk w s f) (hw : sideB f.wide = true) (hh : sideB f.high = true) (hg : (f.ground.length : Int) = f.wide * f.high) (ho : (f.ore.length : Int) = f.wide * f.high) :
    Calls Tryz.prog 7 #[fA s f] w fun e w' => e = .returned (.int .i64 (fieldE f)) ∧ Below w.heap.size w w' := by
  have hE : fieldE f = cellsE f.ground f.ore := by unfold fieldE; rw [if_neg (by rw [hw, hh]; simp), if_neg (by omega)]
  rw [hE]
  have hq : ((f.ground.length : Int) != f.wide * f.high) = false := by simp [hg]
  have hq2 : ((f.ore.length : Int) != f.wide * f.high) = false := by simp [ho]
  have hll : f.ore.length = f.ground.length := by omega
  have hwb := sideB_t hw
  have hhb := sideB_t hh
  have hm1 : f.wide * f.high ≤ 144 := mul_le_of (c := 12) (d := 12) (by omega) hwb.2 (by omega) hhb.2
  have hm0 : 0 ≤ f.wide * f.high := Int.mul_nonneg (by omega) (by omega)
  have hlen : f.ground.length ≤ 144 := by omega
  have H := Lib.hid h
  replace hg := Lib.hid hg
  replace ho := Lib.hid ho
  clear h hE hw hh
  unfold fA
  obtain ⟨wd, hi, gr, ore⟩ := f
  obtain ⟨⟨Ag, cg⟩, ⟨Ao, co⟩⟩ := s
  dsimp only at *
  have e1 : IntKind.i64.wrap (wd * hi) = wd * hi := IntWalk.i64_in _ (by omega)
  have e2 := e1
  rw [IntWalk.i64_left] at e2
  have hE0 : ∀ E, E = cellsE gr ore → Hid (cellsE (gr.drop 0) (ore.drop 0) = E) := fun E h => Lib.hid (by simp [h])
  generalize hEE : cellsE gr ore = E at *
  have hE1 := hE0 _ rfl
  clear hE0
  replace hEE := Lib.hid hEE
  go_enter Tryz.func7, Tryz.ntmps7
  go_wp2_with fail
  have hb1 : Below w.heap.size w (w.alloc (.cells #[.int .i64 wd, .int .i64 hi, .slice Ag gr.length cg, .slice Ao gr.length co] 25)) := (Below.refl _ _).alloc (Nat.le_refl _) _
  have hk1 := Blk.new w 25 #[.int .i64 wd, .int .i64 hi, .slice Ag gr.length cg, .slice Ao gr.length co]
  generalize (w.alloc (.cells #[.int .i64 wd, .int .i64 hi, .slice Ag gr.length cg, .slice Ao gr.length co] 25)) = W at *
  have c2 : W.cell? ⟨w.heap.size, 2, none⟩ = some (.slice Ag gr.length cg) := hk1.cell 2
  have c3 : W.cell? ⟨w.heap.size, 3, none⟩ = some (.slice Ao gr.length co) := hk1.cell 3
  have HF := Lib.hid (H.out.below hb1)
  have hb2 := Lib.hid hb1
  clear hk1 hb1 H
  go_loop [3] (fun i => ∃ k : Nat, k ≤ gr.length ∧ i = .int .i64 k ∧ Hid (cellsE (gr.drop k) (ore.drop k) = E)) (fun i => gr.length - (intOf i).toNat)
  case atStart => exact ⟨0, Nat.zero_le _, rfl, hE1⟩
  case round =>
    obtain ⟨k, hk, rfl, hKE⟩ := hrel
    by_cases hlt : k < gr.length
    · obtain ⟨bg, og, hAg, cg1, hbg⟩ := HF.out.2.2.1.at_ (k := k) hlt
      obtain ⟨bo, oo, hAo, co1, hbo⟩ := HF.out.2.2.2.at_ (k := k) (show k < ore.length by omega)
      dsimp only at hAg hAo cg1 co1
      subst hAg; subst hAo
      have hst := cellsE_drop gr ore k (gr.getD k 0) (ore.getD k 0) (by rw [List.getD_eq_getElem?_getD, List.getElem?_eq_getElem hlt]; rfl) (by rw [List.getD_eq_getElem?_getD, List.getElem?_eq_getElem (by omega)]; rfl)
      rw [hKE.out] at hst
      generalize gr.getD k 0 = x at *
      generalize ore.getD k 0 = y at *
      have i1 : (k : Int) < (gr.length : Int) := by omega
      by_cases hx : x < 0 ∨ 3 < x ∨ numB y = false
      · rw [if_pos hx] at hst
        replace hst := Lib.hid hst
        have hx2 : x < 0 ∨ (0 ≤ x ∧ 3 < x) ∨ (0 ≤ x ∧ x ≤ 3 ∧ y < 0) ∨ (0 ≤ x ∧ x ≤ 3 ∧ 0 ≤ y ∧ 1000000 < y) := by
          rcases hx with h | h | h
          · exact .inl h
          · omega
          · have := numB_f h; omega
        clear hx
        rcases hx2 with h1 | ⟨h1, h2⟩ | ⟨h1, h2, h3⟩ | ⟨h1, h2, h3, h4⟩
        all_goals
          go_wp2_with fail
          go_ret
          exact ⟨by rw [hst.out]; rfl, hb2.out⟩
      · rw [if_neg hx] at hst
        have hy : numB y = true := by cases hb : numB y with
          | true => rfl
          | false => exact absurd (.inr (.inr hb)) hx
        have hyb := numB_t hy
        have hx1 : 0 ≤ x ∧ x ≤ 3 := by omega
        clear hx hy
        obtain ⟨hx1, hx2⟩ := hx1
        obtain ⟨hy1, hy2⟩ := hyb
        by_cases h7 : 0 < y ∧ x ≠ 0
        · rw [if_pos h7] at hst
          replace hst := Lib.hid hst
          obtain ⟨h7, h8⟩ := h7
          have h9 : (x != 0) = true := by simp; omega
          go_wp2_with fail
          go_ret
          exact ⟨by rw [hst.out]; rfl, hb2.out⟩
        · rw [if_neg h7] at hst
          replace hst := Lib.hid hst.symm
          rcases (by omega : y ≤ 0 ∨ (0 < y ∧ x = 0)) with h8 | ⟨h8, h9⟩
          · clear h7
            go_wp2_with fail
            go_round
            case rel => exact ⟨k + 1, by omega, by go_num, hst⟩
            case measure => simp [intOf]; omega
          · clear h7
            have h10 : (x != 0) = false := by simp; omega
            replace h9 := Lib.hid h9
            go_wp2_with fail
            go_round
            case rel => exact ⟨k + 1, by omega, by go_num, hst⟩
            case measure => simp [intOf]; omega
    · have hend := cellsE_end gr ore k (by omega)
      have hE2 := hKE.out
      rw [hend] at hE2
      replace hE2 := Lib.hid hE2
      clear hend
      go_wp2_with fail
      go_ret
      exact ⟨by rw [← hE2.out]; rfl, hb2.out⟩
set_option maxHeartbeats 1600000 in
set_option maxRecDepth 100000 in
theorem rfield_any (s : SF) (f : GF) (w : World) (h : FOk w s f) :
    Calls Tryz.prog 7 #[fA s f] w fun e w' => e = .returned (.int .i64 (fieldE f)) ∧ Below w.heap.size w w' := by
  by_cases h1 : sideB f.wide = false ∨ sideB f.high = false
  · have hE : fieldE f = 1 := by unfold fieldE; rw [if_pos h1]
    rw [hE]
    have h2 : f.wide < 1 ∨ (1 ≤ f.wide ∧ 12 < f.wide) ∨ (1 ≤ f.wide ∧ f.wide ≤ 12 ∧ f.high < 1) ∨ (1 ≤ f.wide ∧ f.wide ≤ 12 ∧ 1 ≤ f.high ∧ 12 < f.high) := by
      rcases h1 with h | h <;> have := sideB_f h <;> omega
    unfold fA
    obtain ⟨wd, hi, gr, ore⟩ := f
    dsimp only at *
    clear hE h h1
    rcases h2 with h2 | ⟨h2, h3⟩ | ⟨h2, h3, h4⟩ | ⟨h2, h3, h4, h5⟩
    all_goals
      go_enter Tryz.func7, Tryz.ntmps7
      go_wp2_with fail
      go_ret
      exact ⟨rfl, (Below.refl _ _).alloc (Nat.le_refl _) _⟩
  · have hw : sideB f.wide = true := by cases hb : sideB f.wide with
      | true => rfl
      | false => exact absurd (.inl hb) h1
    have hh : sideB f.high = true := by cases hb : sideB f.high with
      | true => rfl
      | false => exact absurd (.inr hb) h1
    by_cases h2 : (f.ground.length : Int) ≠ f.wide * f.high ∨ (f.ore.length : Int) ≠ f.wide * f.high
    · have hE : fieldE f = 3 := by unfold fieldE; rw [if_neg h1, if_pos h2]
      rw [hE]
      unfold fA
      obtain ⟨hw1, hw2⟩ := sideB_t hw
      obtain ⟨hh1, hh2⟩ := sideB_t hh
      have hm1 : f.wide * f.high ≤ 144 := mul_le_of (c := 12) (d := 12) (by omega) hw2 (by omega) hh2
      have hm0 : 0 ≤ f.wide * f.high := Int.mul_nonneg (by omega) (by omega)
      have hl1 : (f.ground.length : Int) ≤ 9223372036854775807 := by have a := h.2.2.1.2.2.1; have b := h.2.2.1.2.2.2.1; unfold maxLen at b; omega
      have hl2 : (f.ore.length : Int) ≤ 9223372036854775807 := by have a := h.2.2.2.2.2.1; have b := h.2.2.2.2.2.2.1; unfold maxLen at b; omega
      obtain ⟨wd, hi, gr, ore⟩ := f
      dsimp only at *
      clear hE h h1 hw hh
      generalize gr.length = n at *
      generalize ore.length = m at *
      rcases (by
        by_cases e : (n : Int) = wd * hi
        · exact .inr ⟨by simp [e], by
            have : (m : Int) ≠ wd * hi := by rcases h2 with h | h; · exact absurd e h
                                             · exact h
            simpa using this⟩
        · exact .inl (by simpa using e) : ((n : Int) != wd * hi) = true ∨ (((n : Int) != wd * hi) = false ∧ ((m : Int) != wd * hi) = true)) with h3 | ⟨h3, h4⟩
      all_goals
        clear h2
        go_enter Tryz.func7, Tryz.ntmps7
        go_wp2_with fail
        go_ret
        exact ⟨rfl, (Below.refl _ _).alloc (Nat.le_refl _) _⟩
    · exact rfield_loop s f w h hw hh (by omega) (by omega)
end Go.Proofs.YtkgkpggfoieioaaGreatDoor
namespace Go.Proofs.YtkgkpggfoieioaaGreatDoor
set_option linter.unusedVariables false
open Go.RowKit
set_option maxRecDepth 100000 in
theorem ronto_any (s : SF) (f : GF) (k : Nat) (fl : Bool) (w : World) (h : FOk w s f) (hk : k < f.ground.length) (hg : 0 ≤ gAt f k ∧ gAt f k ≤ 3) :
    Calls Tryz.prog 12 #[fA s f, .int .i64 k, .bool fl] w fun e w' => e = .returned (.int .i64 (ontoL f k fl)) ∧ Below w.heap.size w w' := by
  obtain ⟨b, o, hA, hc, hb⟩ := h.2.2.1.at_ hk
  have hgg : f.ground.getD k 0 = gAt f k := rfl
  rw [hgg] at hc
  have hO : ontoL f k fl = ontoG (gAt f k) fl := rfl
  rw [hO]
  unfold fA
  have j1 : (k : Int) < (f.ground.length : Int) := by omega
  obtain ⟨s1, s2⟩ := s
  obtain ⟨A1, cc1⟩ := s1
  dsimp only at hA
  subst hA
  clear h hgg hO
  generalize gAt f k = g at *
  have hgc : g = 0 ∨ g = 1 ∨ g = 2 ∨ g = 3 := by omega
  clear hg
  rcases hgc with rfl | rfl | rfl | rfl <;> cases fl
  all_goals
    go_enter Tryz.func12, Tryz.ntmps12
    go_wp2_with fail
    go_ret
    exact ⟨rfl, (Below.refl _ _).alloc (Nat.le_refl _) _⟩
end Go.Proofs.YtkgkpggfoieioaaGreatDoor
namespace Go.Proofs.YtkgkpggfoieioaaGreatDoor
set_option linter.unusedVariables false
open Go.RowKit
def RnRel (f : GF) (a : Int) (W : World) (k : Nat) (v : Value) (wx : World) : Prop :=
  Hid (wx.ownsRow W.heap.size 3 1 v (besN f a k).length ((besN f a k).map (.int .i64))) ∧ Hid (Below W.heap.size W wx)
theorem rn_yes {f : GF} {a x : Int} {k : Nat} (h : besS f a k = [x]) : (besN f a (k + 1)).length = (besN f a k).length + 1 ∧ (besN f a (k + 1)).map (Value.int .i64) = (besN f a k).map (.int .i64) ++ [.int .i64 x] := by
  rw [besN, h]; simp
theorem rn_no {f : GF} {a : Int} {k : Nat} (h : besS f a k = []) : besN f a (k + 1) = besN f a k := by rw [besN, h, List.append_nil]
set_option maxHeartbeats 3200000 in
set_option maxRecDepth 100000 in
theorem rnear_any (s : SF) (f : GF) (a : Int) (w : World) (hw : 1 ≤ f.wide ∧ f.wide ≤ 12) (hh : 1 ≤ f.high ∧ f.high ≤ 12) (ha : 0 ≤ a ∧ a < f.wide * f.high) :
    Calls Tryz.prog 48 #[fA s f, .int .i64 a] w fun e w' => ∃ v, e = .returned v ∧ w'.ownsRow w.heap.size 3 1 v (besL f a).length ((besL f a).map (.int .i64)) ∧ Below w.heap.size w w' := by
  obtain ⟨i0, hi0, hz0, hz1, hz2⟩ := info_parts int_info
  have hr1 : 0 ≤ a / f.wide := Int.ediv_nonneg ha.1 (by omega)
  have hr2 : a / f.wide < f.high := Int.ediv_lt_of_lt_mul (by omega) (by rw [Int.mul_comm]; exact ha.2)
  have hc1 : 0 ≤ a % f.wide := Int.emod_nonneg _ (by omega)
  have hc2 : a % f.wide < f.wide := Int.emod_lt_of_pos _ (by omega)
  have ht1 : a.tmod f.wide = a % f.wide := Int.tmod_eq_emod_of_nonneg ha.1
  have ht2 : a.tdiv f.wide = a / f.wide := Int.tdiv_eq_ediv_of_nonneg ha.1
  have hm : f.wide * f.high ≤ 144 := mul_le_of (c := 12) (d := 12) (by omega) hw.2 (by omega) hh.2
  have ha2 : a ≤ 144 := by omega
  have hbl : besL f a = besN f a 4 := rfl
  rw [hbl]
  clear hbl
  have S0 : besS f a 0 = if a / f.wide - 1 < 0 then [] else [a - f.wide] := rfl
  have S1 : besS f a 1 = if a % f.wide - 1 < 0 then [] else [a - 1] := rfl
  have S2 : besS f a 2 = if a % f.wide + 1 < f.wide then [a + 1] else [] := rfl
  have S3 : besS f a 3 = if a / f.wide + 1 < f.high then [a + f.wide] else [] := rfl
  have hN : ∀ k, (besN f a k).length ≤ k := besN_len f a
  have ha0 := ha.1
  have hw0 : (f.wide == 0) = false := by simp; omega
  have hw1 := hw.1
  have hw2 := hw.2
  have hh1 := hh.1
  have hh2 := hh.2
  generalize hR : a / f.wide = R at *
  generalize hC : a % f.wide = C at *
  replace hR := Lib.hid hR
  replace hC := Lib.hid hC
  replace S0 := Lib.hid S0
  replace S1 := Lib.hid S1
  replace S2 := Lib.hid S2
  replace S3 := Lib.hid S3
  replace hN := Lib.hid hN
  clear ha hm hw hh
  unfold fA
  go_enter Tryz.func48, Tryz.ntmps48
  go_upto_region 2 with fail
  have hb1 : Below w.heap.size w (w.alloc (.cells #[.int .i64 f.wide, .int .i64 f.high, .slice s.ground.A f.ground.length s.ground.c, .slice s.ore.A f.ore.length s.ore.c] 25)) := (Below.refl _ _).alloc (Nat.le_refl _) _
  have hk1 := Blk.new w 25 #[.int .i64 f.wide, .int .i64 f.high, .slice s.ground.A f.ground.length s.ground.c, .slice s.ore.A f.ore.length s.ore.c]
  generalize w.alloc (.cells #[.int .i64 f.wide, .int .i64 f.high, .slice s.ground.A f.ground.length s.ground.c, .slice s.ore.A f.ore.length s.ore.c] 25) = W at *
  have c0 := hk1.cell 0
  have c1 := hk1.cell 1
  have hk1lt := hk1.lt
  have hs1 := hb1.size
  have hrel0 : RnRel f a W 0 (.slice none 0 0) W := ⟨Lib.hid (World.ownsRow_nil _ _ _ _), Lib.hid (Below.refl _ _)⟩
  replace hk1 := Lib.hid hk1
  replace hb1 := Lib.hid hb1
  go_upto_if 17 with fail
  go_cut [5] (fun v wx0 => ∃ wx, wx = wx0 ∧ RnRel f a W 1 v wx)
  case first =>
    obtain ⟨ho, hb⟩ := hrel0
    have hs := hb.out.size
    have hNk := hN.out 0
    by_cases q : 0 < R
    · have e1 : decide (0 < R) = true := by simp; omega
      have e2 := S0.out
      rw [if_neg (by omega)] at e2
      obtain ⟨e3, e4⟩ := rn_yes e2
      replace e2 := Lib.hid e2
      replace e3 := Lib.hid e3
      replace e4 := Lib.hid e4
      go_wp2_with (at_builtin; refine wpList_app1 rfl (.tmp 18) (.tmp 23) 23 rfl W.heap.size 3 i0 _ 1 8 Tryz.underlying23 hi0 hz0 hz1 hz2 rfl (by decide) (by decide) W #[.int .i64 (a - f.wide)] (.slice none 0 0) (besN f a 0).length _ rfl ho.out rfl rfl rfl (by omega) hs ?_; intro v' w6 hown' hgrow)
      go_meet
      exact ⟨_, rfl, Lib.hid (by rw [e3.out, e4.out]; exact hown'), Lib.hid (hb.out.grown hgrow hs (fun g hg => (ho.out.lt g hg).1))⟩
    · have e1 : decide (0 < R) = false := by simp; omega
      have e2 := S0.out
      rw [if_pos (by omega)] at e2
      have e3 := rn_no e2
      replace e2 := Lib.hid e2
      replace e3 := Lib.hid e3
      go_wp2_with fail
      go_meet
      exact ⟨_, rfl, by unfold RnRel; rw [e3.out]; exact ⟨ho, hb⟩⟩
  case rest =>
  obtain ⟨W1, rfl, hrel1⟩ := hcut
  have hkk1 := hk1.out.below hrel1.2.out hk1lt
  have c0 := hkk1.cell 0
  have c1 := hkk1.cell 1
  obtain ⟨A1, cc1, rfl, _⟩ := own_slice hrel1.1.out
  replace hkk1 := Lib.hid hkk1
  go_upto_if 26 with fail
  go_cut [5] (fun v wx0 => ∃ wx, wx = wx0 ∧ RnRel f a W 2 v wx)
  case first =>
    obtain ⟨ho, hb⟩ := hrel1
    have hs := hb.out.size
    have hNk := hN.out 1
    by_cases q : 0 < C
    · have e1 : decide (0 < C) = true := by simp; omega
      have e2 := S1.out
      rw [if_neg (by omega)] at e2
      obtain ⟨e3, e4⟩ := rn_yes e2
      replace e2 := Lib.hid e2
      replace e3 := Lib.hid e3
      replace e4 := Lib.hid e4
      go_wp2_with (at_builtin; refine wpList_app1 rfl (.tmp 27) (.tmp 30) 23 rfl W.heap.size 3 i0 _ 1 8 Tryz.underlying23 hi0 hz0 hz1 hz2 rfl (by decide) (by decide) W1 #[.int .i64 (a - 1)] (.slice A1 (besN f a 1).length cc1) (besN f a 1).length _ rfl ho.out rfl rfl rfl (by omega) hs ?_; intro v' w6 hown' hgrow)
      go_meet
      exact ⟨_, rfl, Lib.hid (by rw [e3.out, e4.out]; exact hown'), Lib.hid (hb.out.grown hgrow hs (fun g hg => (ho.out.lt g hg).1))⟩
    · have e1 : decide (0 < C) = false := by simp; omega
      have e2 := S1.out
      rw [if_pos (by omega)] at e2
      have e3 := rn_no e2
      replace e2 := Lib.hid e2
      replace e3 := Lib.hid e3
      go_wp2_with fail
      go_meet
      exact ⟨_, rfl, by unfold RnRel; rw [e3.out]; exact ⟨ho, hb⟩⟩
  case rest =>
  obtain ⟨W2, rfl, hrel2⟩ := hcut
  have hkk2 := hk1.out.below hrel2.2.out hk1lt
  have c0 := hkk2.cell 0
  have c1 := hkk2.cell 1
  obtain ⟨A2, cc2, rfl, _⟩ := own_slice hrel2.1.out
  replace hkk2 := Lib.hid hkk2
  go_upto_if 36 with fail
  go_cut [5] (fun v wx0 => ∃ wx, wx = wx0 ∧ RnRel f a W 3 v wx)
  case first =>
    obtain ⟨ho, hb⟩ := hrel2
    have hs := hb.out.size
    have hNk := hN.out 2
    by_cases q : C < f.wide - 1
    · have e1 : decide (C < f.wide - 1) = true := by simp; omega
      have e2 := S2.out
      rw [if_pos (by omega)] at e2
      obtain ⟨e3, e4⟩ := rn_yes e2
      replace e2 := Lib.hid e2
      replace e3 := Lib.hid e3
      replace e4 := Lib.hid e4
      go_wp2_with (at_builtin; refine wpList_app1 rfl (.tmp 37) (.tmp 40) 23 rfl W.heap.size 3 i0 _ 1 8 Tryz.underlying23 hi0 hz0 hz1 hz2 rfl (by decide) (by decide) W2 #[.int .i64 (a + 1)] (.slice A2 (besN f a 2).length cc2) (besN f a 2).length _ rfl ho.out rfl rfl rfl (by omega) hs ?_; intro v' w6 hown' hgrow)
      go_meet
      exact ⟨_, rfl, Lib.hid (by rw [e3.out, e4.out]; exact hown'), Lib.hid (hb.out.grown hgrow hs (fun g hg => (ho.out.lt g hg).1))⟩
    · have e1 : decide (C < f.wide - 1) = false := by simp; omega
      have e2 := S2.out
      rw [if_neg (by omega)] at e2
      have e3 := rn_no e2
      replace e2 := Lib.hid e2
      replace e3 := Lib.hid e3
      go_wp2_with fail
      go_meet
      exact ⟨_, rfl, by unfold RnRel; rw [e3.out]; exact ⟨ho, hb⟩⟩
  case rest =>
  obtain ⟨W3, rfl, hrel3⟩ := hcut
  have hkk3 := hk1.out.below hrel3.2.out hk1lt
  have c0 := hkk3.cell 0
  have c1 := hkk3.cell 1
  obtain ⟨A3, cc3, rfl, _⟩ := own_slice hrel3.1.out
  replace hkk3 := Lib.hid hkk3
  go_upto_if 46 with fail
  go_cut [5] (fun v wx0 => ∃ wx, wx = wx0 ∧ RnRel f a W 4 v wx)
  case first =>
    obtain ⟨ho, hb⟩ := hrel3
    have hs := hb.out.size
    have hNk := hN.out 3
    by_cases q : R < f.high - 1
    · have e1 : decide (R < f.high - 1) = true := by simp; omega
      have e2 := S3.out
      rw [if_pos (by omega)] at e2
      obtain ⟨e3, e4⟩ := rn_yes e2
      replace e2 := Lib.hid e2
      replace e3 := Lib.hid e3
      replace e4 := Lib.hid e4
      go_wp2_with (at_builtin; refine wpList_app1 rfl (.tmp 47) (.tmp 52) 23 rfl W.heap.size 3 i0 _ 1 8 Tryz.underlying23 hi0 hz0 hz1 hz2 rfl (by decide) (by decide) W3 #[.int .i64 (a + f.wide)] (.slice A3 (besN f a 3).length cc3) (besN f a 3).length _ rfl ho.out rfl rfl rfl (by omega) hs ?_; intro v' w6 hown' hgrow)
      go_meet
      exact ⟨_, rfl, Lib.hid (by rw [e3.out, e4.out]; exact hown'), Lib.hid (hb.out.grown hgrow hs (fun g hg => (ho.out.lt g hg).1))⟩
    · have e1 : decide (R < f.high - 1) = false := by simp; omega
      have e2 := S3.out
      rw [if_neg (by omega)] at e2
      have e3 := rn_no e2
      replace e2 := Lib.hid e2
      replace e3 := Lib.hid e3
      go_wp2_with fail
      go_meet
      exact ⟨_, rfl, by unfold RnRel; rw [e3.out]; exact ⟨ho, hb⟩⟩
  case rest =>
  obtain ⟨W4, rfl, hrel4⟩ := hcut
  have hkk4 := hk1.out.below hrel4.2.out hk1lt
  have c0 := hkk4.cell 0
  have c1 := hkk4.cell 1
  obtain ⟨A4, cc4, rfl, _⟩ := own_slice hrel4.1.out
  replace hkk4 := Lib.hid hkk4
  obtain ⟨ho, hb⟩ := hrel4
  have hfin := hb1.out.trans (hb.out.mono hs1)
  have hof := own_base ho.out hs1
  replace hfin := Lib.hid hfin
  replace hof := Lib.hid hof
  go_wp2_with fail
  go_ret
  exact ⟨_, rfl, hof.out, hfin.out⟩
end Go.Proofs.YtkgkpggfoieioaaGreatDoor
