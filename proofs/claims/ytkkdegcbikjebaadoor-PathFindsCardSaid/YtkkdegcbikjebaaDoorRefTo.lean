import Derived.Test.YtkkdegcbikjebaaDoorPlainZ
import Derived.Test.YtkkdegcbikjebaaDoorSpread
import Derived.Test.YtkkdegcbikjebaaDoorNext
import Derived.Test.YtkkdegcbikjebaaDoorRefNear
import Derived.Deep.RegionWith
namespace Go.Proofs.YtkkdegcbikjebaaDoor
set_option linter.unusedVariables false
open Go.RowKit
theorem good_gA {f : GF} (hg : Good f) (k : Nat) : 0 ≤ gAt f k ∧ gAt f k ≤ 3 := by
  unfold gAt
  rw [List.getD_eq_getElem?_getD]
  cases he : f.ground[k]? with
  | none => simp
  | some g => exact hg.cell k g he
def potW (N : Nat) (w : World) (g : Nat) : Nat := match w.heap[g]? with
  | some (.cells cs _ _) => (cs.toList.map (fun v => match v with | .int _ x => gP N x | _ => 0)).sum
  | _ => 0
theorem potW_blk {w : World} {g : Nat} {t : TypeId} {xs : List Int} (N : Nat) (h : Blk w g t (arrI xs)) : potW N w g = potL N xs := by
  unfold potW
  unfold Blk at h
  rw [h]
  show ((arrI xs).toList.map _).sum = _
  unfold arrI potL
  rw [List.toList_toArray, List.map_map]
  rfl
/-- What the reference's search keeps, in memory. -/
structure TWr (w0 : World) (g : Nat) (f : GF) (fl : Bool) (src : Nat) (wr : World) (l : List Int) : Prop where
  inv : TInv f.ground.length src (NB f) (costTo f fl) l
  bo : Blk wr g 3 (arrI l)
  bel : Below g w0 wr
section
variable {w0 wr wr' : World} {g : Nat} {f : GF} {fl : Bool} {src : Nat} {l : List Int}
theorem TWr.below (h : TWr w0 g f fl src wr l) (hb : Below wr.heap.size wr wr') : TWr w0 g f fl src wr' l :=
  ⟨h.inv, h.bo.below hb h.bo.lt, h.bel.trans (hb.mono (by have := h.bo.lt; omega))⟩
theorem TWr.tell (h : TWr w0 g f fl src wr l) (i : Nat) (y : Int) (hi : TInv f.ground.length src (NB f) (costTo f fl) (l.set i y)) : TWr w0 g f fl src (wr.setCell ⟨g, i, none⟩ (.int .i64 y)) (l.set i y) :=
  ⟨hi, h.bo.setI i y, h.bel.setCell (p := ⟨g, i, none⟩) (Nat.le_refl _) _⟩
end
def T1Rel (w0 : World) (g : Nat) (f : GF) (fl : Bool) (src : Nat) (vm : Value) (wr : World) : Prop :=
  ∃ (l : List Int) (m : Bool), vm = .bool m ∧ Hid (TWr w0 g f fl src wr l) ∧ (m = false → Hid (DTo f fl src l))
def T2Rel (w0 : World) (g : Nat) (f : GF) (fl : Bool) (src : Nat) (l0 : List Int) (vm vi : Value) (wr : World) : Prop :=
  ∃ (l : List Int) (m : Bool) (i : Nat), vm = .bool m ∧ vi = .int .i64 i ∧ i ≤ f.ground.length ∧ Hid (TWr w0 g f fl src wr l) ∧ Hid (Rnd f (costTo f fl) l0 l i 0 m)
def T3Rel (w0 w4 : World) (g : Nat) (f : GF) (fl : Bool) (src : Nat) (l0 : List Int) (i : Nat) (vm vj : Value) (wr : World) : Prop :=
  ∃ (l : List Int) (m : Bool) (j : Nat), vm = .bool m ∧ vj = .int .i64 j ∧ j ≤ (besL f i).length ∧ Hid (TWr w0 g f fl src wr l) ∧ Hid (Rnd f (costTo f fl) l0 l i j m) ∧ Hid (w4.grownBy wr (some g))
def mB (v : Value) : Nat := match v with | .bool true => 1 | _ => 0
theorem mB_le (m : Bool) : mB (.bool m) = if m then 1 else 0 := by cases m <;> rfl
set_option maxHeartbeats 6400000 in
set_option maxRecDepth 100000 in
theorem rto_any (s : SF) (f : GF) (src : Nat) (fl : Bool) (w : World) (h : FOk w s f) (hg : Good f) (hsrc : src < f.ground.length) :
    Calls Tryd.prog 26 #[fA s f, .int .i64 src, .bool fl] w (SprPost w f src (costTo f fl)) := by
  have hn := hg.len
  obtain ⟨hn1, hn2, hn3⟩ := hn
  replace hn3 := Lib.hid hn3
  have hmk1 := mk_ints f.ground.length (by omega)
  have H := Lib.hid h
  have hgg := Lib.hid hg
  have hst := tinv_start f.ground.length src (NB f) (costTo f fl) hsrc
  replace hst := Lib.hid hst
  clear h hg
  unfold fA
  go_enter Tryd.func26, Tryd.ntmps26
  go_wp2_with fail
  have hb1 : Below w.heap.size w (w.alloc (.cells #[.int .i64 f.wide, .int .i64 f.high, .slice s.ground.A f.ground.length s.ground.c, .slice s.ore.A f.ore.length s.ore.c] 25)) := (Below.refl _ _).alloc (Nat.le_refl _) _
  have hk1 := Blk.new w 25 #[.int .i64 f.wide, .int .i64 f.high, .slice s.ground.A f.ground.length s.ground.c, .slice s.ore.A f.ore.length s.ore.c]
  have hs1 : (w.alloc (.cells #[.int .i64 f.wide, .int .i64 f.high, .slice s.ground.A f.ground.length s.ground.c, .slice s.ore.A f.ore.length s.ore.c] 25)).heap.size = w.heap.size + 1 := by simp
  generalize (w.alloc (.cells #[.int .i64 f.wide, .int .i64 f.high, .slice s.ground.A f.ground.length s.ground.c, .slice s.ore.A f.ore.length s.ore.c] 25)) = W1 at *
  have hb2 := hb1.alloc (by omega) (.cells (arrI (List.replicate f.ground.length 0)) 3)
  have hk2 := hk1.alloc (.cells (arrI (List.replicate f.ground.length 0)) 3)
  have hko : Blk (W1.alloc (.cells (arrI (List.replicate f.ground.length 0)) 3)) (w.heap.size + 1) 3 (arrI (List.replicate f.ground.length 0)) := by rw [← hs1]; exact Blk.new W1 _ _
  have hs2 : (W1.alloc (.cells (arrI (List.replicate f.ground.length 0)) 3)).heap.size = w.heap.size + 2 := by simp; omega
  clear hb1 hk1 hmk1
  generalize W1.alloc (.cells (arrI (List.replicate f.ground.length 0)) 3) = W2 at *
  replace hb2 := Lib.hid hb2
  replace hk2 := Lib.hid hk2
  replace hko := Lib.hid hko
  go_loopw [9] (fun i wr => ∃ k : Nat, i = .int .i64 k ∧ k ≤ f.ground.length ∧ Blk wr (w.heap.size + 1) 3 (arrI (List.replicate k (-1) ++ List.replicate (f.ground.length - k) 0)) ∧ Below (w.heap.size + 1) W2 wr) (fun i _ => f.ground.length - (intOf i).toNat)
  case atStart => exact ⟨0, rfl, Nat.zero_le _, by simpa using hko.out, Below.refl _ _⟩
  case round =>
    obtain ⟨k, rfl, hk, hB, hb⟩ := hrel
    by_cases hlt : k < f.ground.length
    · have hlen : k < (List.replicate k (-1 : Int) ++ List.replicate (f.ground.length - k) 0).length := by simp; omega
      have c0 := hB.atI k hlen
      have f0 := hB.frozen k
      have j1 : (k : Int) < (f.ground.length : Int) := by omega
      have hS := hB.setI k (-1)
      have e1 : (List.replicate k (-1 : Int) ++ List.replicate (f.ground.length - k) 0).set k (-1) = List.replicate (k + 1) (-1) ++ List.replicate (f.ground.length - (k + 1)) 0 := by
        rw [List.set_append, if_neg (by simp)]
        obtain ⟨d, hd⟩ : ∃ d, f.ground.length - k = d + 1 := ⟨f.ground.length - k - 1, by omega⟩
        rw [hd, show f.ground.length - (k + 1) = d by omega, List.length_replicate, Nat.sub_self, List.replicate_succ (n := d), List.set_cons_zero, List.replicate_succ' (n := k), List.append_assoc]
        rfl
      rw [e1] at hS
      have hb' := hb.setCell (p := ⟨w.heap.size + 1, k, none⟩) (Nat.le_refl _) (.int .i64 (-1))
      replace hS := Lib.hid hS
      replace hb' := Lib.hid hb'
      replace hB := Lib.hid hB
      clear e1 hlen
      go_wp2_with fail
      go_roundw
      case rel => exact ⟨k + 1, by go_num, by omega, hS.out, hb'.out⟩
      case measure => simp [intOf]; omega
    · obtain rfl : k = f.ground.length := by omega
      rw [Nat.sub_self, List.replicate_zero, List.append_nil] at hB
      have c0 := hB.atI src (by simpa using hsrc)
      have f0 := hB.frozen src
      have j1 : (src : Int) < (f.ground.length : Int) := by omega
      have hS := hB.setI src 0
      have hb' := hb.setCell (p := ⟨w.heap.size + 1, src, none⟩) (Nat.le_refl _) (.int .i64 0)
      have hsz := hb.size
      have hlo : w.heap.size + 1 < wr.heap.size := hB.lt
      have hkr := (hk2.out.below hb (by omega)).far (p := ⟨w.heap.size + 1, src, none⟩) (by show w.heap.size ≠ w.heap.size + 1; omega) (.int .i64 0)
      have hsw : (wr.setCell ⟨w.heap.size + 1, src, none⟩ (.int .i64 0)).heap.size = wr.heap.size := by simp
      have hb3 := hb2.out.trans (hb'.mono (Nat.le_succ _))
      replace hB := Lib.hid hB
      replace hS := Lib.hid hS
      replace hkr := Lib.hid hkr
      replace hb3 := Lib.hid hb3
      clear hb' hsz hb hk2 hko hb2
      go_wp2_with fail
      clear hB c0 f0
      generalize (wr.setCell ⟨w.heap.size + 1, src, none⟩ (.int .i64 0)) = W3 at *
      have hst2 : TWr W3 (w.heap.size + 1) f fl src W3 ((List.replicate f.ground.length (-1)).set src 0) := ⟨hst.out, hS.out, Below.refl _ _⟩
      replace hst2 := Lib.hid hst2
      clear hst hS
      go_loopw [10, 11, 12, 13, 14, 15] (fun vm _ _ _ _ _ wr => T1Rel W3 (w.heap.size + 1) f fl src vm wr) (fun vm _ _ _ _ _ wr => 2 * potW (2 * f.ground.length + 1) wr (w.heap.size + 1) + mB vm)
      case atStart => exact ⟨_, true, rfl, hst2, fun h => by cases h⟩
      case round =>
        obtain ⟨l0, m, rfl, hT0, hend⟩ := hrel
        clear hst2
        have hp0 := potW_blk (2 * f.ground.length + 1) hT0.out.bo
        replace hp0 := Lib.hid hp0
        cases m with
        | false =>
          have hdist := hend rfl
          have hbw := hb3.out.trans (hT0.out.bel.mono (Nat.le_succ _))
          replace hbw := Lib.hid hbw
          clear hend
          go_wp2_with fail
          go_ret
          exact ⟨_, l0, rfl, hdist.out, Nat.le_succ _, hT0.out.bo, hbw.out⟩
        | true =>
          clear hend
          go_wp2_with fail
          go_loopw [10, 11, 12, 13, 14, 15] (fun vm vi _ _ _ _ wr => T2Rel W3 (w.heap.size + 1) f fl src l0 vm vi wr) (fun _ vi _ _ _ _ _ => f.ground.length - (intOf vi).toNat)
          case atStart => exact ⟨l0, false, 0, rfl, rfl, Nat.zero_le _, hT0, Lib.hid (rnd_0 _ _ _)⟩
          case round =>
            obtain ⟨l, m, i, rfl, rfl, hi, hT, hR⟩ := hrel
            by_cases hlt2 : i < f.ground.length
            · have hwlt : w.heap.size < wr.heap.size := by have := hT.out.bo.lt; omega
              have hkx := hkr.out.below hT.out.bel (Nat.lt_succ_self _)
              have k0 := hkx.cell 0
              have k1 := hkx.cell 1
              have k2 := hkx.cell 2
              have k3 := hkx.cell 3
              have hglt := hT.out.bo.lt
              have j2 : (i : Int) < (f.ground.length : Int) := by omega
              replace hkx := Lib.hid hkx
              go_wp2_with fail
              refine (rnear_any s f i wr hgg.out.wide hgg.out.high ⟨by omega, by rw [← hgg.out.lg]; exact j2⟩).mono ?_
              rintro e W4 ⟨v, rfl, hown, hb4⟩
              obtain ⟨A, cc, rfl, _⟩ := own_slice hown
              have hrow := RD.of_own hown
              have hob := own_block_lt' hown
              have hl4 := besL_len f i
              have hT4 := hT.out.below hb4
              have hb4s := hb4.size
              replace hT4 := Lib.hid hT4
              replace hrow := Lib.hid hrow
              replace hob := Lib.hid hob
              replace hown := Lib.hid hown
              replace hb4 := Lib.hid hb4
              clear k0 k1 k2 k3 hT hkx
              go_wp2_with fail
              go_loopw [10, 13, 14, 15] (fun vm vj _ _ wx => T3Rel W3 W4 (w.heap.size + 1) f fl src l0 i vm vj wx) (fun _ vj _ _ _ => (besL f i).length - (intOf vj).toNat)
              case atStart => exact ⟨l, m, 0, rfl, rfl, Nat.zero_le _, hT4, hR, Lib.hid (World.grownBy.refl _ _)⟩
              case round =>
                clear hT4 hR
                obtain ⟨l, m, j, rfl, rfl, hj, hT, hR, hgr⟩ := hrel
                by_cases hlt3 : j < (besL f i).length
                · have hsz2 := hgr.out.size
                  have hbm : (besL f i).getD j 0 ∈ besL f i := by
                    rw [List.getD_eq_getElem?_getD, List.getElem?_eq_getElem hlt3]; exact List.getElem_mem _
                  obtain ⟨b, hb⟩ : ∃ b : Nat, (besL f i).getD j 0 = (b : Int) := by
                    have := bes_in f i _ hgg.out.wide.1 (by omega) (by rw [← hgg.out.lg]; omega) hbm
                    exact ⟨((besL f i).getD j 0).toNat, by omega⟩
                  have hnb : NB f i b := by rw [hb] at hbm; exact hbm
                  have hbn := nb_in f hgg.out i b hlt2 hnb
                  have hnb2 := nb_sym f hgg.out i b hlt2 hnb
                  obtain ⟨bv, ov, hA, hbv⟩ := hrow.out.addr (by omega)
                  have hcv := hrow.out.at_ hA (j := j) (by omega)
                  rw [List.getElem?_map, List.getElem?_eq_getElem hlt3] at hcv
                  have hgj : (besL f i)[j] = (b : Int) := by rw [← hb, List.getD_eq_getElem?_getD, List.getElem?_eq_getElem hlt3]; rfl
                  rw [hgj] at hcv
                  simp only [Option.map_some] at hcv
                  have hbne : bv ≠ w.heap.size + 1 := by
                    have := (hob.out bv ov hA).1
                    omega
                  have hblk := hgr.out.block bv hbv (by simpa using hbne)
                  have hcv2 : wr.cell? ⟨bv, ov + j, none⟩ = some (.int .i64 (b : Int)) := by
                    rw [World.cell?_of_block hblk]; exact hcv
                  have hbvx : bv < wr.heap.size := by omega
                  subst hA
                  have hgb := good_gA hgg.out b
                  have i1 : (j : Int) < ((besL f i).length : Int) := by omega
                  have hbelx := hb3.out.trans (hT.out.bel.mono (Nat.le_succ _))
                  have HFx := H.out.below hbelx
                  have hkx := hkr.out.below hT.out.bel (Nat.lt_succ_self _)
                  have k0 := hkx.cell 0
                  have k1 := hkx.cell 1
                  have k2 := hkx.cell 2
                  have k3 := hkx.cell 3
                  have hob2 := ontoL_bd f b fl
                  replace hkx := Lib.hid hkx
                  replace HFx := Lib.hid HFx
                  replace hnb := Lib.hid hnb
                  replace hnb2 := Lib.hid hnb2
                  replace hbelx := Lib.hid hbelx
                  replace hb := Lib.hid hb
                  replace hbm := Lib.hid hbm
                  replace hcv := Lib.hid hcv
                  replace hgj := Lib.hid hgj
                  replace hblk := Lib.hid hblk
                  go_upto_region 18 with fail
                  go_cut [14] (fun mm wz0 => ∃ wz, wz = wz0 ∧ mm = .int .i64 (ontoL f b fl) ∧ Hid (Below wr.heap.size wr wz))
                  case first =>
                    go_region_with (go_at_call 22; refine (ronto_any s f b fl _ (by first | exact HFx.out | exact HFx.out.drewN _) hbn hgb).mono ?_; rintro e w' ⟨rfl, hbm'⟩)
                    all_goals
                      have hbm2 : Hid (Below wr.heap.size wr w') := Lib.hid ⟨hbm'.os, hbm'.tape, hbm'.output, hbm'.size, hbm'.block⟩
                      clear hbm'
                      go_wp2_with fail
                      go_meet
                      exact ⟨_, rfl, rfl, hbm2⟩
                  case rest =>
                  obtain ⟨wz, rfl, rfl, hbz⟩ := hcut
                  have hT5 := hT.out.below hbz.out
                  have hg5 : W4.grownBy wz (some (w.heap.size + 1)) := grownBy_trans hgr.out (grownBy_of_below hbz.out)
                  have hcz : wz.cell? ⟨bv, ov + j, none⟩ = some (.int .i64 (b : Int)) := by
                    rw [World.cell?_of_block (hbz.out.block bv hbvx)]; exact hcv2
                  have co := hT5.bo.atI b (by rw [hT5.inv.len]; exact hbn)
                  have ca := hT5.bo.atI i (by rw [hT5.inv.len]; exact hlt2)
                  have fo := hT5.bo.frozen i
                  have hub := hT5.inv.up2 b hbn
                  have hlb := hT5.inv.low b hbn
                  have hui := hT5.inv.up2 i hlt2
                  have hli := hT5.inv.low i hlt2
                  have j5 : (b : Int) < (f.ground.length : Int) := by omega
                  have htl := fun h1 h2 h3 => hT5.inv.tell b i hbn hlt2 hnb2.out h1 h2 h3
                  have hsk := fun h1 => rnd_skip hR.out hb.out h1
                  have htw := fun y h => hT5.tell i y h
                  have hrt : ∀ l', potL (2 * f.ground.length + 1) l' < potL (2 * f.ground.length + 1) l → Rnd f (costTo f fl) l0 l' i (j + 1) true := fun l' h => rnd_tell hR.out h
                  have hrx : (0 < ontoL f b fl → 0 ≤ at0 l b → 0 ≤ at0 l i ∧ at0 l i ≤ at0 l b + ontoL f b fl) → Rlx (costTo f fl) l b i := fun h => h
                  have hct : costTo f fl b i = ontoL f b fl := rfl
                  rw [hct] at htl
                  replace hct := Lib.hid hct
                  replace hT5 := Lib.hid hT5
                  replace htl := Lib.hid htl
                  replace hsk := Lib.hid hsk
                  replace htw := Lib.hid htw
                  replace hrt := Lib.hid hrt
                  replace hrx := Lib.hid hrx
                  replace hg5 := Lib.hid hg5
                  replace hT := Lib.hid hT
                  replace hgr := Lib.hid hgr
                  clear k0 k1 k2 k3 hcv2 hbz
                  generalize ontoL f b fl = sc at *
                  generalize hdb : at0 l b = db at *
                  generalize hdi : at0 l i = di at *
                  replace hdb := Lib.hid hdb
                  replace hdi := Lib.hid hdi
                  obtain ⟨hob1, hob2⟩ := hob2
                  have e1 : IntKind.i64.wrap (sc + db) = sc + db := IntWalk.i64_in _ (by omega)
                  have e2 := e1
                  rw [IntWalk.i64_left] at e2
                  by_cases q1 : 0 < sc
                  · have p1 : decide ((0 : Int) < sc) = true := by simp; omega
                    by_cases q2 : 0 ≤ db
                    · have p2 : decide ((0 : Int) ≤ db) = true := by simp; omega
                      by_cases q3 : di < 0
                      · have p3 : decide (di < 0) = true := by simp; omega
                        obtain ⟨r1, r2⟩ := htl.out ⟨q1, by omega⟩ q2 (.inl q3)
                        rw [Int.add_comm db sc] at r1 r2
                        have r3 := htw.out _ r1
                        have r4 := hrt.out _ r2
                        replace r1 := Lib.hid r1
                        replace r2 := Lib.hid r2
                        replace r3 := Lib.hid r3
                        replace r4 := Lib.hid r4
                        go_wp2_with fail
                        go_roundw
                        case rel => exact ⟨_, true, j + 1, rfl, by go_num, by omega, r3, r4, Lib.hid (grownBy_trans hg5.out (grownBy_set _ _ _ _))⟩
                        case measure => simp [intOf]; omega
                      · have p3 : decide (di < 0) = false := by simp; omega
                        by_cases q4 : sc + db < di
                        · have p4 : decide (sc + db < di) = true := by simp; omega
                          obtain ⟨r1, r2⟩ := htl.out ⟨q1, by omega⟩ q2 (.inr (by omega))
                          rw [Int.add_comm db sc] at r1 r2
                          have r3 := htw.out _ r1
                          have r4 := hrt.out _ r2
                          replace r1 := Lib.hid r1
                          replace r2 := Lib.hid r2
                          replace r3 := Lib.hid r3
                          replace r4 := Lib.hid r4
                          go_wp2_with fail
                          go_roundw
                          case rel => exact ⟨_, true, j + 1, rfl, by go_num, by omega, r3, r4, Lib.hid (grownBy_trans hg5.out (grownBy_set _ _ _ _))⟩
                          case measure => simp [intOf]; omega
                        · have p4 : decide (sc + db < di) = false := by simp; omega
                          have r4 := hsk.out (hrx.out (fun _ _ => ⟨by omega, by omega⟩))
                          replace r4 := Lib.hid r4
                          go_wp2_with fail
                          go_roundw
                          case rel => exact ⟨l, m, j + 1, rfl, by go_num, by omega, hT5, r4, hg5⟩
                          case measure => simp [intOf]; omega
                    · have p2 : decide ((0 : Int) ≤ db) = false := by simp; omega
                      have r4 := hsk.out (hrx.out (fun _ h => absurd h q2))
                      replace r4 := Lib.hid r4
                      go_wp2_with fail
                      go_roundw
                      case rel => exact ⟨l, m, j + 1, rfl, by go_num, by omega, hT5, r4, hg5⟩
                      case measure => simp [intOf]; omega
                  · have p1 : decide ((0 : Int) < sc) = false := by simp; omega
                    have r4 := hsk.out (hrx.out (fun h _ => absurd h q1))
                    replace r4 := Lib.hid r4
                    go_wp2_with fail
                    go_roundw
                    case rel => exact ⟨l, m, j + 1, rfl, by go_num, by omega, hT5, r4, hg5⟩
                    case measure => simp [intOf]; omega
                · obtain rfl : j = (besL f i).length := by omega
                  have hrr := rnd_row hR.out
                  replace hrr := Lib.hid hrr
                  go_wp2_with fail
                  go_roundw
                  case rel => exact ⟨l, m, i + 1, rfl, by go_num, by omega, hT, hrr⟩
                  case measure => simp [intOf]; omega
            · obtain rfl : i = f.ground.length := by omega
              have hpe := potW_blk (2 * f.ground.length + 1) hT.out.bo
              have hmb := mB_le m
              have hfin : m = false → DTo f fl src l := fun hm => by
                rcases hR.out with ⟨_, _, h3⟩ | ⟨h1, _⟩
                · exact seen_all hgg.out hT.out.inv h3
                · rw [hm] at h1; cases h1
              have hms : 2 * potL (2 * f.ground.length + 1) l + mB (.bool m) < 2 * potL (2 * f.ground.length + 1) l0 + 1 := by
                rcases hR.out with ⟨h1, h2, _⟩ | ⟨h1, h2⟩
                · rw [h1, h2, mB_le]; simp
                · rw [h1, mB_le]; simp; omega
              replace hpe := Lib.hid hpe
              replace hfin := Lib.hid hfin
              replace hms := Lib.hid hms
              replace hmb := Lib.hid hmb
              go_wp2_with fail
              go_roundw
              case rel => exact ⟨l, m, rfl, hT, fun h => Lib.hid (hfin.out h)⟩
              case measure => rw [hpe.out, hp0.out]; exact hms.out
end Go.Proofs.YtkkdegcbikjebaaDoor
