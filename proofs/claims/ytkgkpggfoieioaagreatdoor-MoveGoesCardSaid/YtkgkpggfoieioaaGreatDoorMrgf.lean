import Derived.Test.YtkgkpggfoieioaaGreatDoorMrgb
import Derived.Test.YtkgkpggfoieioaaGreatDoorSpread
import Derived.Test.YtkgkpggfoieioaaGreatDoorMrge
import Derived.Deep.RegionWith
import Derived.Test.YtkgkpggfoieioaaGreatDoorMrga
import Derived.Lib.SlTrimSet
namespace Go.Proofs.YtkgkpggfoieioaaGreatDoor
set_option linter.unusedVariables false
open Go.RowKit
theorem good_gA {f : GF} (hg : Good f) (k : Nat) : 0 ≤ gAt f k ∧ gAt f k ≤ 3 := by
  unfold gAt
  rw [List.getD_eq_getElem?_getD]
  cases he : f.ground[k]? with
  | none => simp
  | some g => exact hg.cell k g he
def potW (N : Nat) (w : World) (g : Nat) : Nat := match w.heap[g]? with
  | some (.cells cs _ _) => (cs.toList.map (fun v => match v with | .int _ x => gP N x | _ => 0)).sum
  | _ => 0
theorem potW_blk {w : World} {g : Nat} {t : TypeId} {xs : List Int} (N : Nat) (h : Blk w g t (arrI xs)) : potW N w g = potL N xs := by
  unfold potW
  unfold Blk at h
  rw [h]
  show ((arrI xs).toList.map _).sum = _
  unfold arrI potL
  rw [List.toList_toArray, List.map_map]
  rfl
/-- What the reference's search keeps, in memory. -/
structure TWr (w0 : World) (g : Nat) (f : GF) (fl : Bool) (src : Nat) (wr : World) (l : List Int) : Prop where
  inv : TInv f.ground.length src (NB f) (costTo f fl) l
  bo : Blk wr g 3 (arrI l)
  bel : Below g w0 wr
section
variable {w0 wr wr' : World} {g : Nat} {f : GF} {fl : Bool} {src : Nat} {l : List Int}
theorem TWr.below (h : TWr w0 g f fl src wr l) (hb : Below wr.heap.size wr wr') : TWr w0 g f fl src wr' l :=
  ⟨h.inv, h.bo.below hb h.bo.lt, h.bel.trans (hb.mono (by have := h.bo.lt; omega))⟩
theorem TWr.tell (h : TWr w0 g f fl src wr l) (i : Nat) (y : Int) (hi : TInv f.ground.length src (NB f) (costTo f fl) (l.set i y)) : TWr w0 g f fl src (wr.setCell ⟨g, i, none⟩ (.int .i64 y)) (l.set i y) :=
  ⟨hi, h.bo.setI i y, h.bel.setCell (p := ⟨g, i, none⟩) (Nat.le_refl _) _⟩
end
def T1Rel (w0 : World) (g : Nat) (f : GF) (fl : Bool) (src : Nat) (vm : Value) (wr : World) : Prop :=
  ∃ (l : List Int) (m : Bool), vm = .bool m ∧ Hid (TWr w0 g f fl src wr l) ∧ (m = false → Hid (DTo f fl src l))
def T2Rel (w0 : World) (g : Nat) (f : GF) (fl : Bool) (src : Nat) (l0 : List Int) (vm vi : Value) (wr : World) : Prop :=
  ∃ (l : List Int) (m : Bool) (i : Nat), vm = .bool m ∧ vi = .int .i64 i ∧ i ≤ f.ground.length ∧ Hid (TWr w0 g f fl src wr l) ∧ Hid (Rnd f (costTo f fl) l0 l i 0 m)
def T3Rel (w0 w4 : World) (g : Nat) (f : GF) (fl : Bool) (src : Nat) (l0 : List Int) (i : Nat) (vm vj : Value) (wr : World) : Prop :=
  ∃ (l : List Int) (m : Bool) (j : Nat), vm = .bool m ∧ vj = .int .i64 j ∧ j ≤ (besL f i).length ∧ Hid (TWr w0 g f fl src wr l) ∧ Hid (Rnd f (costTo f fl) l0 l i j m) ∧ Hid (w4.grownBy wr (some g))
def mB (v : Value) : Nat := match v with | .bool true => 1 | _ => 0
theorem mB_le (m : Bool) : mB (.bool m) = if m then 1 else 0 := by cases m <;> rfl
set_option maxHeartbeats 6400000 in
set_option maxRecDepth 100000 in
theorem rto_any (s : SF) (f : GF) (src : Nat) (fl : Bool) (w : World) (h : FOk w s f) (hg : Good f) (hsrc : src < f.ground.length) :
    Calls Tryz.prog 46 #[fA s f, .int .i64 src, .bool fl] w (SprPost w f src (costTo f fl)) := by
  have hn := hg.len
  obtain ⟨hn1, hn2, hn3⟩ := hn
  replace hn3 := Lib.hid hn3
  have hmk1 := mk_ints f.ground.length (by omega)
  have H := Lib.hid h
  have hgg := Lib.hid hg
  have hst := tinv_start f.ground.length src (NB f) (costTo f fl) hsrc
  replace hst := Lib.hid hst
  clear h hg
  unfold fA
  go_enter Tryz.func46, Tryz.ntmps46
  go_wp2_with fail
  have hb1 : Below w.heap.size w (w.alloc (.cells #[.int .i64 f.wide, .int .i64 f.high, .slice s.ground.A f.ground.length s.ground.c, .slice s.ore.A f.ore.length s.ore.c] 25)) := (Below.refl _ _).alloc (Nat.le_refl _) _
  have hk1 := Blk.new w 25 #[.int .i64 f.wide, .int .i64 f.high, .slice s.ground.A f.ground.length s.ground.c, .slice s.ore.A f.ore.length s.ore.c]
  have hs1 : (w.alloc (.cells #[.int .i64 f.wide, .int .i64 f.high, .slice s.ground.A f.ground.length s.ground.c, .slice s.ore.A f.ore.length s.ore.c] 25)).heap.size = w.heap.size + 1 := by simp
  generalize (w.alloc (.cells #[.int .i64 f.wide, .int .i64 f.high, .slice s.ground.A f.ground.length s.ground.c, .slice s.ore.A f.ore.length s.ore.c] 25)) = W1 at *
  have hb2 := hb1.alloc (by omega) (.cells (arrI (List.replicate f.ground.length 0)) 3)
  have hk2 := hk1.alloc (.cells (arrI (List.replicate f.ground.length 0)) 3)
  have hko : Blk (W1.alloc (.cells (arrI (List.replicate f.ground.length 0)) 3)) (w.heap.size + 1) 3 (arrI (List.replicate f.ground.length 0)) := by rw [← hs1]; exact Blk.new W1 _ _
  have hs2 : (W1.alloc (.cells (arrI (List.replicate f.ground.length 0)) 3)).heap.size = w.heap.size + 2 := by simp; omega
  clear hb1 hk1 hmk1
  generalize W1.alloc (.cells (arrI (List.replicate f.ground.length 0)) 3) = W2 at *
  replace hb2 := Lib.hid hb2
  replace hk2 := Lib.hid hk2
  replace hko := Lib.hid hko
  go_loopw [9] (fun i wr => ∃ k : Nat, i = .int .i64 k ∧ k ≤ f.ground.length ∧ Blk wr (w.heap.size + 1) 3 (arrI (List.replicate k (-1) ++ List.replicate (f.ground.length - k) 0)) ∧ Below (w.heap.size + 1) W2 wr) (fun i _ => f.ground.length - (intOf i).toNat)
  case atStart => exact ⟨0, rfl, Nat.zero_le _, by simpa using hko.out, Below.refl _ _⟩
  case round =>
    obtain ⟨k, rfl, hk, hB, hb⟩ := hrel
    by_cases hlt : k < f.ground.length
    · have hlen : k < (List.replicate k (-1 : Int) ++ List.replicate (f.ground.length - k) 0).length := by simp; omega
      have c0 := hB.atI k hlen
      have f0 := hB.frozen k
      have j1 : (k : Int) < (f.ground.length : Int) := by omega
      have hS := hB.setI k (-1)
      have e1 : (List.replicate k (-1 : Int) ++ List.replicate (f.ground.length - k) 0).set k (-1) = List.replicate (k + 1) (-1) ++ List.replicate (f.ground.length - (k + 1)) 0 := by
        rw [List.set_append, if_neg (by simp)]
        obtain ⟨d, hd⟩ : ∃ d, f.ground.length - k = d + 1 := ⟨f.ground.length - k - 1, by omega⟩
        rw [hd, show f.ground.length - (k + 1) = d by omega, List.length_replicate, Nat.sub_self, List.replicate_succ (n := d), List.set_cons_zero, List.replicate_succ' (n := k), List.append_assoc]
        rfl
      rw [e1] at hS
      have hb' := hb.setCell (p := ⟨w.heap.size + 1, k, none⟩) (Nat.le_refl _) (.int .i64 (-1))
      replace hS := Lib.hid hS
      replace hb' := Lib.hid hb'
      replace hB := Lib.hid hB
      clear e1 hlen
      go_wp2_with fail
      go_roundw
      case rel => exact ⟨k + 1, by go_num, by omega, hS.out, hb'.out⟩
      case measure => simp [intOf]; omega
    · obtain rfl : k = f.ground.length := by omega
      rw [Nat.sub_self, List.replicate_zero, List.append_nil] at hB
      have c0 := hB.atI src (by simpa using hsrc)
      have f0 := hB.frozen src
      have j1 : (src : Int) < (f.ground.length : Int) := by omega
      have hS := hB.setI src 0
      have hb' := hb.setCell (p := ⟨w.heap.size + 1, src, none⟩) (Nat.le_refl _) (.int .i64 0)
      have hsz := hb.size
      have hlo : w.heap.size + 1 < wr.heap.size := hB.lt
      have hkr := (hk2.out.below hb (by omega)).far (p := ⟨w.heap.size + 1, src, none⟩) (by show w.heap.size ≠ w.heap.size + 1; omega) (.int .i64 0)
      have hsw : (wr.setCell ⟨w.heap.size + 1, src, none⟩ (.int .i64 0)).heap.size = wr.heap.size := by simp
      have hb3 := hb2.out.trans (hb'.mono (Nat.le_succ _))
      replace hB := Lib.hid hB
      replace hS := Lib.hid hS
      replace hkr := Lib.hid hkr
      replace hb3 := Lib.hid hb3
      clear hb' hsz hb hk2 hko hb2
      go_wp2_with fail
      clear hB c0 f0
      generalize (wr.setCell ⟨w.heap.size + 1, src, none⟩ (.int .i64 0)) = W3 at *
      have hst2 : TWr W3 (w.heap.size + 1) f fl src W3 ((List.replicate f.ground.length (-1)).set src 0) := ⟨hst.out, hS.out, Below.refl _ _⟩
      replace hst2 := Lib.hid hst2
      clear hst hS
      go_loopw [10, 11, 12, 13, 14, 15] (fun vm _ _ _ _ _ wr => T1Rel W3 (w.heap.size + 1) f fl src vm wr) (fun vm _ _ _ _ _ wr => 2 * potW (2 * f.ground.length + 1) wr (w.heap.size + 1) + mB vm)
      case atStart => exact ⟨_, true, rfl, hst2, fun h => by cases h⟩
      case round =>
        obtain ⟨l0, m, rfl, hT0, hend⟩ := hrel
        clear hst2
        have hp0 := potW_blk (2 * f.ground.length + 1) hT0.out.bo
        replace hp0 := Lib.hid hp0
        cases m with
        | false =>
          have hdist := hend rfl
          have hbw := hb3.out.trans (hT0.out.bel.mono (Nat.le_succ _))
          replace hbw := Lib.hid hbw
          clear hend
          go_wp2_with fail
          go_ret
          exact ⟨_, l0, rfl, hdist.out, Nat.le_succ _, hT0.out.bo, hbw.out⟩
        | true =>
          clear hend
          go_wp2_with fail
          go_loopw [10, 11, 12, 13, 14, 15] (fun vm vi _ _ _ _ wr => T2Rel W3 (w.heap.size + 1) f fl src l0 vm vi wr) (fun _ vi _ _ _ _ _ => f.ground.length - (intOf vi).toNat)
          case atStart => exact ⟨l0, false, 0, rfl, rfl, Nat.zero_le _, hT0, Lib.hid (rnd_0 _ _ _)⟩
          case round =>
            obtain ⟨l, m, i, rfl, rfl, hi, hT, hR⟩ := hrel
            by_cases hlt2 : i < f.ground.length
            · have hwlt : w.heap.size < wr.heap.size := by have := hT.out.bo.lt; omega
              have hkx := hkr.out.below hT.out.bel (Nat.lt_succ_self _)
              have k0 := hkx.cell 0
              have k1 := hkx.cell 1
              have k2 := hkx.cell 2
              have k3 := hkx.cell 3
              have hglt := hT.out.bo.lt
              have j2 : (i : Int) < (f.ground.length : Int) := by omega
              replace hkx := Lib.hid hkx
              go_wp2_with fail
              refine (rnear_any s f i wr hgg.out.wide hgg.out.high ⟨by omega, by rw [← hgg.out.lg]; exact j2⟩).mono ?_
              rintro e W4 ⟨v, rfl, hown, hb4⟩
              obtain ⟨A, cc, rfl, _⟩ := own_slice hown
              have hrow := RD.of_own hown
              have hob := own_block_lt' hown
              have hl4 := besL_len f i
              have hT4 := hT.out.below hb4
              have hb4s := hb4.size
              replace hT4 := Lib.hid hT4
              replace hrow := Lib.hid hrow
              replace hob := Lib.hid hob
              replace hown := Lib.hid hown
              replace hb4 := Lib.hid hb4
              clear k0 k1 k2 k3 hT hkx
              go_wp2_with fail
              go_loopw [10, 13, 14, 15] (fun vm vj _ _ wx => T3Rel W3 W4 (w.heap.size + 1) f fl src l0 i vm vj wx) (fun _ vj _ _ _ => (besL f i).length - (intOf vj).toNat)
              case atStart => exact ⟨l, m, 0, rfl, rfl, Nat.zero_le _, hT4, hR, Lib.hid (World.grownBy.refl _ _)⟩
              case round =>
                clear hT4 hR
                obtain ⟨l, m, j, rfl, rfl, hj, hT, hR, hgr⟩ := hrel
                by_cases hlt3 : j < (besL f i).length
                · have hsz2 := hgr.out.size
                  have hbm : (besL f i).getD j 0 ∈ besL f i := by
                    rw [List.getD_eq_getElem?_getD, List.getElem?_eq_getElem hlt3]; exact List.getElem_mem _
                  obtain ⟨b, hb⟩ : ∃ b : Nat, (besL f i).getD j 0 = (b : Int) := by
                    have := bes_in f i _ hgg.out.wide.1 (by omega) (by rw [← hgg.out.lg]; omega) hbm
                    exact ⟨((besL f i).getD j 0).toNat, by omega⟩
                  have hnb : NB f i b := by rw [hb] at hbm; exact hbm
                  have hbn := nb_in f hgg.out i b hlt2 hnb
                  have hnb2 := nb_sym f hgg.out i b hlt2 hnb
                  obtain ⟨bv, ov, hA, hbv⟩ := hrow.out.addr (by omega)
                  have hcv := hrow.out.at_ hA (j := j) (by omega)
                  rw [List.getElem?_map, List.getElem?_eq_getElem hlt3] at hcv
                  have hgj : (besL f i)[j] = (b : Int) := by rw [← hb, List.getD_eq_getElem?_getD, List.getElem?_eq_getElem hlt3]; rfl
                  rw [hgj] at hcv
                  simp only [Option.map_some] at hcv
                  have hbne : bv ≠ w.heap.size + 1 := by
                    have := (hob.out bv ov hA).1
                    omega
                  have hblk := hgr.out.block bv hbv (by simpa using hbne)
                  have hcv2 : wr.cell? ⟨bv, ov + j, none⟩ = some (.int .i64 (b : Int)) := by
                    rw [World.cell?_of_block hblk]; exact hcv
                  have hbvx : bv < wr.heap.size := by omega
                  subst hA
                  have hgb := good_gA hgg.out b
                  have i1 : (j : Int) < ((besL f i).length : Int) := by omega
                  have hbelx := hb3.out.trans (hT.out.bel.mono (Nat.le_succ _))
                  have HFx := H.out.below hbelx
                  have hkx := hkr.out.below hT.out.bel (Nat.lt_succ_self _)
                  have k0 := hkx.cell 0
                  have k1 := hkx.cell 1
                  have k2 := hkx.cell 2
                  have k3 := hkx.cell 3
                  have hob2 := ontoL_bd f b fl
                  replace hkx := Lib.hid hkx
                  replace HFx := Lib.hid HFx
                  replace hnb := Lib.hid hnb
                  replace hnb2 := Lib.hid hnb2
                  replace hbelx := Lib.hid hbelx
                  replace hb := Lib.hid hb
                  replace hbm := Lib.hid hbm
                  replace hcv := Lib.hid hcv
                  replace hgj := Lib.hid hgj
                  replace hblk := Lib.hid hblk
                  go_upto_region 18 with fail
                  go_cut [14] (fun mm wz0 => ∃ wz, wz = wz0 ∧ mm = .int .i64 (ontoL f b fl) ∧ Hid (Below wr.heap.size wr wz))
                  case first =>
                    go_region_with (go_at_call 12; refine (ronto_any s f b fl _ (by first | exact HFx.out | exact HFx.out.drewN _) hbn hgb).mono ?_; rintro e w' ⟨rfl, hbm'⟩)
                    all_goals
                      have hbm2 : Hid (Below wr.heap.size wr w') := Lib.hid ⟨hbm'.os, hbm'.tape, hbm'.output, hbm'.size, hbm'.block⟩
                      clear hbm'
                      go_wp2_with fail
                      go_meet
                      exact ⟨_, rfl, rfl, hbm2⟩
                  case rest =>
                  obtain ⟨wz, rfl, rfl, hbz⟩ := hcut
                  have hT5 := hT.out.below hbz.out
                  have hg5 : W4.grownBy wz (some (w.heap.size + 1)) := grownBy_trans hgr.out (grownBy_of_below hbz.out)
                  have hcz : wz.cell? ⟨bv, ov + j, none⟩ = some (.int .i64 (b : Int)) := by
                    rw [World.cell?_of_block (hbz.out.block bv hbvx)]; exact hcv2
                  have co := hT5.bo.atI b (by rw [hT5.inv.len]; exact hbn)
                  have ca := hT5.bo.atI i (by rw [hT5.inv.len]; exact hlt2)
                  have fo := hT5.bo.frozen i
                  have hub := hT5.inv.up2 b hbn
                  have hlb := hT5.inv.low b hbn
                  have hui := hT5.inv.up2 i hlt2
                  have hli := hT5.inv.low i hlt2
                  have j5 : (b : Int) < (f.ground.length : Int) := by omega
                  have htl := fun h1 h2 h3 => hT5.inv.tell b i hbn hlt2 hnb2.out h1 h2 h3
                  have hsk := fun h1 => rnd_skip hR.out hb.out h1
                  have htw := fun y h => hT5.tell i y h
                  have hrt : ∀ l', potL (2 * f.ground.length + 1) l' < potL (2 * f.ground.length + 1) l → Rnd f (costTo f fl) l0 l' i (j + 1) true := fun l' h => rnd_tell hR.out h
                  have hrx : (0 < ontoL f b fl → 0 ≤ at0 l b → 0 ≤ at0 l i ∧ at0 l i ≤ at0 l b + ontoL f b fl) → Rlx (costTo f fl) l b i := fun h => h
                  have hct : costTo f fl b i = ontoL f b fl := rfl
                  rw [hct] at htl
                  replace hct := Lib.hid hct
                  replace hT5 := Lib.hid hT5
                  replace htl := Lib.hid htl
                  replace hsk := Lib.hid hsk
                  replace htw := Lib.hid htw
                  replace hrt := Lib.hid hrt
                  replace hrx := Lib.hid hrx
                  replace hg5 := Lib.hid hg5
                  replace hT := Lib.hid hT
                  replace hgr := Lib.hid hgr
                  clear k0 k1 k2 k3 hcv2 hbz
                  generalize ontoL f b fl = sc at *
                  generalize hdb : at0 l b = db at *
                  generalize hdi : at0 l i = di at *
                  replace hdb := Lib.hid hdb
                  replace hdi := Lib.hid hdi
                  obtain ⟨hob1, hob2⟩ := hob2
                  have e1 : IntKind.i64.wrap (sc + db) = sc + db := IntWalk.i64_in _ (by omega)
                  have e2 := e1
                  rw [IntWalk.i64_left] at e2
                  by_cases q1 : 0 < sc
                  · have p1 : decide ((0 : Int) < sc) = true := by simp; omega
                    by_cases q2 : 0 ≤ db
                    · have p2 : decide ((0 : Int) ≤ db) = true := by simp; omega
                      by_cases q3 : di < 0
                      · have p3 : decide (di < 0) = true := by simp; omega
                        obtain ⟨r1, r2⟩ := htl.out ⟨q1, by omega⟩ q2 (.inl q3)
                        rw [Int.add_comm db sc] at r1 r2
                        have r3 := htw.out _ r1
                        have r4 := hrt.out _ r2
                        replace r1 := Lib.hid r1
                        replace r2 := Lib.hid r2
                        replace r3 := Lib.hid r3
                        replace r4 := Lib.hid r4
                        go_wp2_with fail
                        go_roundw
                        case rel => exact ⟨_, true, j + 1, rfl, by go_num, by omega, r3, r4, Lib.hid (grownBy_trans hg5.out (grownBy_set _ _ _ _))⟩
                        case measure => simp [intOf]; omega
                      · have p3 : decide (di < 0) = false := by simp; omega
                        by_cases q4 : sc + db < di
                        · have p4 : decide (sc + db < di) = true := by simp; omega
                          obtain ⟨r1, r2⟩ := htl.out ⟨q1, by omega⟩ q2 (.inr (by omega))
                          rw [Int.add_comm db sc] at r1 r2
                          have r3 := htw.out _ r1
                          have r4 := hrt.out _ r2
                          replace r1 := Lib.hid r1
                          replace r2 := Lib.hid r2
                          replace r3 := Lib.hid r3
                          replace r4 := Lib.hid r4
                          go_wp2_with fail
                          go_roundw
                          case rel => exact ⟨_, true, j + 1, rfl, by go_num, by omega, r3, r4, Lib.hid (grownBy_trans hg5.out (grownBy_set _ _ _ _))⟩
                          case measure => simp [intOf]; omega
                        · have p4 : decide (sc + db < di) = false := by simp; omega
                          have r4 := hsk.out (hrx.out (fun _ _ => ⟨by omega, by omega⟩))
                          replace r4 := Lib.hid r4
                          go_wp2_with fail
                          go_roundw
                          case rel => exact ⟨l, m, j + 1, rfl, by go_num, by omega, hT5, r4, hg5⟩
                          case measure => simp [intOf]; omega
                    · have p2 : decide ((0 : Int) ≤ db) = false := by simp; omega
                      have r4 := hsk.out (hrx.out (fun _ h => absurd h q2))
                      replace r4 := Lib.hid r4
                      go_wp2_with fail
                      go_roundw
                      case rel => exact ⟨l, m, j + 1, rfl, by go_num, by omega, hT5, r4, hg5⟩
                      case measure => simp [intOf]; omega
                  · have p1 : decide ((0 : Int) < sc) = false := by simp; omega
                    have r4 := hsk.out (hrx.out (fun h _ => absurd h q1))
                    replace r4 := Lib.hid r4
                    go_wp2_with fail
                    go_roundw
                    case rel => exact ⟨l, m, j + 1, rfl, by go_num, by omega, hT5, r4, hg5⟩
                    case measure => simp [intOf]; omega
                · obtain rfl : j = (besL f i).length := by omega
                  have hrr := rnd_row hR.out
                  replace hrr := Lib.hid hrr
                  go_wp2_with fail
                  go_roundw
                  case rel => exact ⟨l, m, i + 1, rfl, by go_num, by omega, hT, hrr⟩
                  case measure => simp [intOf]; omega
            · obtain rfl : i = f.ground.length := by omega
              have hpe := potW_blk (2 * f.ground.length + 1) hT.out.bo
              have hmb := mB_le m
              have hfin : m = false → DTo f fl src l := fun hm => by
                rcases hR.out with ⟨_, _, h3⟩ | ⟨h1, _⟩
                · exact seen_all hgg.out hT.out.inv h3
                · rw [hm] at h1; cases h1
              have hms : 2 * potL (2 * f.ground.length + 1) l + mB (.bool m) < 2 * potL (2 * f.ground.length + 1) l0 + 1 := by
                rcases hR.out with ⟨h1, h2, _⟩ | ⟨h1, h2⟩
                · rw [h1, h2, mB_le]; simp
                · rw [h1, mB_le]; simp; omega
              replace hpe := Lib.hid hpe
              replace hfin := Lib.hid hfin
              replace hms := Lib.hid hms
              replace hmb := Lib.hid hmb
              go_wp2_with fail
              go_roundw
              case rel => exact ⟨l, m, rfl, hT, fun h => Lib.hid (hfin.out h)⟩
              case measure => rw [hpe.out, hp0.out]; exact hms.out
end Go.Proofs.YtkgkpggfoieioaaGreatDoor
namespace Go.Proofs.YtkgkpggfoieioaaGreatDoor
set_option linter.unusedVariables false
open Go.RowKit
set_option maxHeartbeats 3200000 in
set_option maxRecDepth 100000 in
theorem rnext_any (s : SF) (f : GF) (fl : Bool) (g : Nat) (far : List Int) (a : Nat) (w : World) (h : FOk w s f) (hg : Good f) (ha : a < f.ground.length) (hk : Blk w g 3 (arrI far)) (hl : far.length = f.ground.length) (hbd : ∀ k, k < f.ground.length → -1 ≤ at0 far k ∧ at0 far k ≤ 1000) :
    Calls Tryz.prog 67 #[fA s f, .slice (some ⟨g, 0, none⟩) f.ground.length f.ground.length, .int .i64 a, .bool fl] w fun e w' => e = .returned (.int .i64 (nextL f fl far a)) ∧ Below w.heap.size w w' := by
  have H := Lib.hid h
  have hn := hg.len
  obtain ⟨hn1, hn2, hn3⟩ := hn
  replace hn3 := Lib.hid hn3
  have hgl := hk.lt
  have hgg := Lib.hid hg
  replace hk := Lib.hid hk
  replace hl := Lib.hid hl
  replace hbd := Lib.hid hbd
  have hpos : findD (okN f fl far a) a (besL f a) = (nextL f fl far a : Int) := by
    unfold nextL
    have : 0 ≤ findD (okN f fl far a) a (besL f a) := by
      rcases findD_or (okN f fl far a) a (besL f a) with ⟨h1, _⟩ | ⟨h1, _⟩
      · exact (bes_in f a _ hg.wide.1 (by omega) (by rw [← hg.lg]; omega) h1).1
      · omega
    omega
  have hst : Hid (findD (okN f fl far a) a ((besL f a).drop 0) = (nextL f fl far a : Int)) := Lib.hid (by simpa using hpos)
  have hbn : ∀ j, j < (besL f a).length → ∃ b : Nat, (besL f a).getD j 0 = (b : Int) ∧ b < f.ground.length := fun j hj => by
    have hm : (besL f a).getD j 0 ∈ besL f a := by rw [List.getD_eq_getElem?_getD, List.getElem?_eq_getElem hj]; exact List.getElem_mem _
    have := bes_in f a _ hg.wide.1 (by omega) (by rw [← hg.lg]; omega) hm
    rw [← hg.lg] at this
    exact ⟨((besL f a).getD j 0).toNat, by omega, by omega⟩
  replace hbn := Lib.hid hbn
  have hlg := Lib.hid hg.lg
  have hl4 := besL_len f a
  have hfd := fun j hj => findD_drop (okN f fl far a) a (besL f a) j hj
  replace hfd := Lib.hid hfd
  clear h hg hpos
  unfold fA
  go_enter Tryz.func67, Tryz.ntmps67
  go_wp2_with fail
  have hb1 : Below w.heap.size w (w.alloc (.cells #[.int .i64 f.wide, .int .i64 f.high, .slice s.ground.A f.ground.length s.ground.c, .slice s.ore.A f.ore.length s.ore.c] 25)) := (Below.refl _ _).alloc (Nat.le_refl _) _
  have hk1 := Blk.new w 25 #[.int .i64 f.wide, .int .i64 f.high, .slice s.ground.A f.ground.length s.ground.c, .slice s.ore.A f.ore.length s.ore.c]
  generalize w.alloc (.cells #[.int .i64 f.wide, .int .i64 f.high, .slice s.ground.A f.ground.length s.ground.c, .slice s.ore.A f.ore.length s.ore.c] 25) = W at *
  have HF := H.out.below hb1
  have hs1 := hb1.size
  refine (rnear_any s f a W hgg.out.wide hgg.out.high ⟨by omega, by rw [← hlg.out]; omega⟩).mono ?_
  rintro e W4 ⟨v, rfl, hown, hb4⟩
  obtain ⟨A, cc, rfl, _⟩ := own_slice hown
  have hrow := RD.of_own hown
  have hb5 := hb1.trans (hb4.mono hs1)
  have hk4 := hk1.below hb4 hk1.lt
  have hkf := hk.out.below hb5 hgl
  have HF4 := HF.below hb4
  replace hrow := Lib.hid hrow
  replace hown := Lib.hid hown
  replace hb5 := Lib.hid hb5
  replace hk4 := Lib.hid hk4
  replace hkf := Lib.hid hkf
  replace HF4 := Lib.hid HF4
  clear hb4 hb1 hk1 HF hs1
  generalize hbl : besL f a = l at *
  replace hbl := Lib.hid hbl
  go_wp2_with fail
  go_loopw [10, 11, 12] (fun i _ _ wr => NxRel f fl far a l W4 i wr) (fun i _ _ _ => l.length - (intOf i).toNat)
  case atStart => exact ⟨0, rfl, Nat.zero_le _, hst, Lib.hid (Below.refl _ _)⟩
  case round =>
    obtain ⟨j, rfl, hj, hfind, hb⟩ := hrel
    have hbs := hb.out.size
    have hkw := hk4.out.below hb.out hk4.out.lt
    have c0 := hkw.cell 0
    have c1 := hkw.cell 1
    have c2 := hkw.cell 2
    have c3 := hkw.cell 3
    have hkfw := hkf.out.below hb.out hkf.out.lt
    have HFw := HF4.out.below hb.out
    replace hkw := Lib.hid hkw
    by_cases hlt : j < l.length
    · obtain ⟨b, hbj, hbn'⟩ := hbn.out j hlt
      have hRw := (hrow.out.below hb.out).more hbs
      obtain ⟨bv, ov, hA, _⟩ := hRw.addr (by omega)
      have hcv := hRw.at_ hA (j := j) (by omega)
      have hgk : l[j]? = some (l.getD j 0) := by rw [List.getD_eq_getElem?_getD, List.getElem?_eq_getElem hlt]; rfl
      rw [List.getElem?_map, hgk, hbj] at hcv
      simp only [Option.map_some] at hcv
      subst hA
      have hfs := hfd.out j hlt
      rw [hfind.out, hbj] at hfs
      have i1 : (j : Int) < (l.length : Int) := by omega
      have i2 : (b : Int) < (f.ground.length : Int) := by omega
      have i3 : (a : Int) < (f.ground.length : Int) := by omega
      have hob := ontoL_bd f b fl
      have hbb := hbd.out b hbn'
      have hba := hbd.out a ha
      have hgb := good_gA hgg.out b
      replace hgk := Lib.hid hgk
      replace hbj := Lib.hid hbj
      replace hRw := Lib.hid hRw
      replace HFw := Lib.hid HFw
      replace hkfw := Lib.hid hkfw
      clear hfind
      go_upto_region 5 with fail
      go_cut [11] (fun mm wz0 => ∃ wz, wz = wz0 ∧ mm = .int .i64 (ontoL f b fl) ∧ Hid (Below wr.heap.size wr wz))
      case first =>
        go_region_with (go_at_call 12; refine (ronto_any s f b fl _ (by first | exact HFw.out | exact HFw.out.drewN _) hbn' hgb).mono ?_; rintro e w' ⟨rfl, hbm'⟩)
        all_goals
          have hbm2 : Hid (Below wr.heap.size wr w') := Lib.hid ⟨hbm'.os, hbm'.tape, hbm'.output, hbm'.size, hbm'.block⟩
          clear hbm'
          go_wp2_with fail
          go_meet
          exact ⟨_, rfl, rfl, hbm2⟩
      case rest =>
      obtain ⟨w5, rfl, rfl, hbz⟩ := hcut
      have hb6 := hb.out.trans (hbz.out.mono hbs)
      have hkf5 := hkfw.out.below hbz.out hkfw.out.lt
      have cb := hkf5.atI b (by rw [hl.out]; exact hbn')
      have ca := hkf5.atI a (by rw [hl.out]; exact ha)
      have cv5 := (hRw.out.below hbz.out).at_ rfl (j := j) (by omega)
      rw [List.getElem?_map, hgk.out, hbj.out] at cv5
      simp only [Option.map_some] at cv5
      have hbw := hb5.out.trans (hb6.mono hb5.out.size)
      replace hkf5 := Lib.hid hkf5
      replace hb6 := Lib.hid hb6
      replace hbw := Lib.hid hbw
      have hyes := okN_facts f fl far a b
      have hno := okN_no f fl far a b
      clear hbz hcv c0 c1 c2 c3
      generalize okN f fl far a (b : Int) = ok at *
      generalize ontoL f b fl = cst at *
      generalize at0 far b = ob at *
      generalize at0 far a = oa at *
      obtain ⟨hob1, hob2⟩ := hob
      obtain ⟨hbb1, hbb2⟩ := hbb
      obtain ⟨hba1, hba2⟩ := hba
      have e1 : IntKind.i64.wrap (cst + ob) = cst + ob := IntWalk.i64_in _ (by omega)
      have e2 := e1
      rw [IntWalk.i64_left] at e2
      cases ok with
      | true =>
        obtain ⟨y1, y2, y3⟩ := hyes rfl
        have d1 : decide ((0 : Int) < cst) = true := by simp; omega
        have d2 : decide ((0 : Int) ≤ ob) = true := by simp; omega
        have d3 : (cst + ob == oa) = true := by simp; omega
        have hres : (nextL f fl far a : Int) = (b : Int) := by simpa using hfs
        replace hres := Lib.hid hres
        replace y3 := Lib.hid y3
        clear hfs hyes hno
        go_wp2_with fail
        go_ret
        exact ⟨by rw [hres.out]; rfl, hbw.out⟩
      | false =>
        have hn := hno rfl
        have hres : findD _ _ _ = _ := (by simpa using hfs.symm)
        replace hres := Lib.hid hres
        clear hfs hyes hno
        by_cases q1 : 0 < cst
        · have d1 : decide ((0 : Int) < cst) = true := by simp; omega
          by_cases q2 : 0 ≤ ob
          · have d2 : decide ((0 : Int) ≤ ob) = true := by simp; omega
            have d3 : (cst + ob == oa) = false := by simp; omega
            clear hn
            go_wp2_with fail
            go_roundw
            case rel => exact ⟨j + 1, by go_num, by omega, hres, hb6⟩
            case measure => simp [intOf]; omega
          · have d2 : decide ((0 : Int) ≤ ob) = false := by simp; omega
            clear hn
            go_wp2_with fail
            go_roundw
            case rel => exact ⟨j + 1, by go_num, by omega, hres, hb6⟩
            case measure => simp [intOf]; omega
        · have d1 : decide ((0 : Int) < cst) = false := by simp; omega
          clear hn
          go_wp2_with fail
          go_roundw
          case rel => exact ⟨j + 1, by go_num, by omega, hres, hb6⟩
          case measure => simp [intOf]; omega
    · have hres := hfind.out
      rw [List.drop_of_length_le (by omega), findD] at hres
      have hbw := hb5.out.trans (hb.out.mono hb5.out.size)
      replace hres := Lib.hid hres
      replace hbw := Lib.hid hbw
      replace HFw := Lib.hid HFw
      replace hkfw := Lib.hid hkfw
      go_wp2_with fail
      go_ret
      exact ⟨by rw [← hres.out]; rfl, hbw.out⟩
end Go.Proofs.YtkgkpggfoieioaaGreatDoor
namespace Go.Proofs.YtkgkpggfoieioaaGreatDoor
set_option linter.unusedVariables false
/-! Kinds, in plain data. -/
structure GK where
  name : ByteArray
  life : Int
  hit : Int
  range : Int
  sight : Int
  speed : Int
  price : Int
  turns : Int
  carry : Int
  flies : Bool
  trains : Bool
def kC (k : GK) : List Value := [.string k.name, .int .i64 k.life, .int .i64 k.hit, .int .i64 k.range, .int .i64 k.sight, .int .i64 k.speed, .int .i64 k.price, .int .i64 k.turns, .int .i64 k.carry, .bool k.flies, .bool k.trains]
theorem kC_len (k : GK) : (kC k).length = 11 := rfl
theorem kC_one (k : GK) : ∀ v ∈ kC k, v.oneCell' = true := by
  intro v hv
  simp only [kC, List.mem_cons, List.not_mem_nil, or_false] at hv
  rcases hv with rfl | rfl | rfl | rfl | rfl | rfl | rfl | rfl | rfl | rfl | rfl <;> rfl
/-- A kind that was read: its numbers are int's. -/
def GK.ok (k : GK) : Prop := k.name.size ≤ 9223372036854775807 ∧ I64 k.life ∧ I64 k.hit ∧ I64 k.range ∧ I64 k.sight ∧ I64 k.speed ∧ I64 k.price ∧ I64 k.turns ∧ I64 k.carry
def gk (l : List GK) (i : Nat) : GK := l.getD i ⟨⟨#[]⟩, 0, 0, 0, 0, 0, 0, 0, 0, false, false⟩
theorem gk_get {l : List GK} {i : Nat} (h : i < l.length) : l[i]? = some (gk l i) := by unfold gk; rw [List.getD_eq_getElem?_getD, List.getElem?_eq_getElem h]; rfl
theorem gk_mem {l : List GK} {i : Nat} (h : i < l.length) : gk l i ∈ l := List.mem_of_getElem? (gk_get h)
theorem gk_of {l : List GK} {k : GK} (h : k ∈ l) : ∃ i, i < l.length ∧ gk l i = k := by
  obtain ⟨i, hi⟩ := List.mem_iff_getElem?.1 h
  have hl : i < l.length := (List.getElem?_eq_some_iff.1 hi).1
  rw [gk_get hl] at hi
  exact ⟨i, hl, by injection hi⟩
def letters : List UInt8 := [97, 98, 99, 100, 101, 102, 103, 104, 105, 106, 107, 108, 109, 110, 111, 112, 113, 114, 115, 116, 117, 118, 119, 120, 121, 122]
theorem letters_iff (b : UInt8) : letters.contains b = (decide (97 ≤ b.toNat) && decide (b.toNat ≤ 122)) := by
  have h : ∀ n : Fin 256, letters.contains (UInt8.ofFin n) = (decide (97 ≤ n.val) && decide (n.val ≤ 122)) := by decide +kernel
  exact h b.toFin
/-- Small letters alone? -/
def lowB (s : ByteArray) : Bool := s.data.toList.all fun b => decide (97 ≤ b.toNat) && decide (b.toNat ≤ 122)
theorem trim_low (l : List UInt8) : Lib.trimS l letters = [] ↔ (l.all fun b => decide (97 ≤ b.toNat) && decide (b.toNat ≤ 122)) = true := by
  have hq : (fun b => letters.contains b) = fun b : UInt8 => decide (97 ≤ b.toNat) && decide (b.toNat ≤ 122) := funext letters_iff
  unfold Lib.trimS Lib.trimLeftS Lib.trimRightS
  rw [hq]
  generalize (fun b : UInt8 => decide (97 ≤ b.toNat) && decide (b.toNat ≤ 122)) = q
  have h1 : ∀ m : List UInt8, m.dropWhile q = [] ↔ m.all q = true := fun m => by
    induction m with
    | nil => simp
    | cons x m ih =>
      rw [List.dropWhile_cons, List.all_cons]
      cases hx : q x with
      | true => simp [ih]
      | false => simp
  rw [h1, List.all_reverse]
  constructor
  · intro h
    have h2 : ∀ m : List UInt8, (m.dropWhile q).all q = true → m.all q = true := fun m => by
      induction m with
      | nil => simp
      | cons x m ih =>
        rw [List.dropWhile_cons, List.all_cons]
        cases hx : q x with
        | true => simpa using ih
        | false => simp [List.all_cons, hx]
    have := h2 _ h
    rwa [List.all_reverse] at this
  · intro h
    have : l.reverse.dropWhile q = [] := (h1 _).2 (by rwa [List.all_reverse])
    rw [this]; rfl
def numK (k : GK) : List Int := [k.life, k.hit, k.range, k.sight, k.speed, k.price, k.turns, k.carry]
/-- Is one of the numbers none that may be? -/
def badN (n : Int) : Bool := decide (n < 0) || decide (1000 < n)
def numsB (k : GK) : Bool := (numK k).any badN
def clashB (l : List GK) (i : Nat) : Bool := (l.take i).any fun x => x.name.toList == (gk l i).name.toList
/-- The fault of one, those ahead being right. -/
def kindE (l : List GK) (i : Nat) : Int :=
  if (gk l i).name.size = 0 ∨ 8 < (gk l i).name.size ∨ lowB (gk l i).name = false then 2
  else if clashB l i = true then 8
  else if (gk l i).life < 1 ∨ numsB (gk l i) = true then 1
  else if 4 < (gk l i).speed ∨ 12 < (gk l i).range ∨ 12 < (gk l i).sight then 1
  else 0
def kindsN (l : List GK) : Nat → Int
  | 0 => 0
  | k + 1 => if kindsN l k ≠ 0 then kindsN l k else kindE l k
def kindsE (l : List GK) : Int := if 8 < l.length then 4 else kindsN l l.length
theorem kindsN_mono (l : List GK) (k n : Nat) (h : k ≤ n) (hk : kindsN l k ≠ 0) : kindsN l n = kindsN l k := by
  induction n with
  | zero => have : k = 0 := by omega
            subst this; rfl
  | succ n ih =>
    rcases Nat.lt_or_ge k (n + 1) with h1 | h1
    · have := ih (by omega)
      rw [kindsN, this, if_pos hk]
    · have : k = n + 1 := by omega
      subst this; rfl
/-- A kind that may be. -/
structure KindOk (k : GK) : Prop where
  size : 1 ≤ k.name.size ∧ k.name.size ≤ 8
  low : lowB k.name = true
  life : 1 ≤ k.life ∧ k.life ≤ 1000
  hit : 0 ≤ k.hit ∧ k.hit ≤ 1000
  range : 0 ≤ k.range ∧ k.range ≤ 12
  sight : 0 ≤ k.sight ∧ k.sight ≤ 12
  speed : 0 ≤ k.speed ∧ k.speed ≤ 4
  price : 0 ≤ k.price ∧ k.price ≤ 1000
  turns : 0 ≤ k.turns ∧ k.turns ≤ 1000
  carry : 0 ≤ k.carry ∧ k.carry ≤ 1000
theorem badN_no {n : Int} (h : badN n = false) : 0 ≤ n ∧ n ≤ 1000 := by
  unfold badN at h
  rw [Bool.or_eq_false_iff, decide_eq_false_iff_not, decide_eq_false_iff_not] at h
  omega
theorem kindE_ok {l : List GK} {i : Nat} (h : kindE l i = 0) : KindOk (gk l i) ∧ clashB l i = false := by
  unfold kindE at h
  by_cases h1 : (gk l i).name.size = 0 ∨ 8 < (gk l i).name.size ∨ lowB (gk l i).name = false
  · rw [if_pos h1] at h; cases h
  rw [if_neg h1] at h
  by_cases h2 : clashB l i = true
  · rw [if_pos h2] at h; cases h
  rw [if_neg h2] at h
  by_cases h3 : (gk l i).life < 1 ∨ numsB (gk l i) = true
  · rw [if_pos h3] at h; cases h
  rw [if_neg h3] at h
  by_cases h4 : 4 < (gk l i).speed ∨ 12 < (gk l i).range ∨ 12 < (gk l i).sight
  · rw [if_pos h4] at h; cases h
  have h5 : numsB (gk l i) = false := by cases hb : numsB (gk l i) with
    | true => exact absurd (.inr hb) h3
    | false => rfl
  unfold numsB numK at h5
  simp only [List.any_cons, List.any_nil, Bool.or_false, Bool.or_eq_false_iff] at h5
  obtain ⟨n1, n2, n3, n4, n5, n6, n7, n8⟩ := h5
  have n1 := badN_no n1
  have n2 := badN_no n2
  have n3 := badN_no n3
  have n4 := badN_no n4
  have n5 := badN_no n5
  have n6 := badN_no n6
  have n7 := badN_no n7
  have n8 := badN_no n8
  have hlow : lowB (gk l i).name = true := by cases hb : lowB (gk l i).name with
    | true => rfl
    | false => exact absurd (.inr (.inr hb)) h1
  exact ⟨⟨by omega, hlow, by omega, by omega, by omega, by omega, by omega, by omega, by omega, by omega⟩, by simpa using h2⟩
/-- Kinds that may be. -/
structure KindsOk (l : List GK) : Prop where
  few : l.length ≤ 8
  each : ∀ i, i < l.length → KindOk (gk l i)
  apart : ∀ i j, j < i → i < l.length → (gk l j).name.toList ≠ (gk l i).name.toList
theorem kindsN_0 {l : List GK} : ∀ n, kindsN l n = 0 → ∀ i, i < n → kindE l i = 0
  | 0, _, i, hi => by omega
  | n + 1, h, i, hi => by
    have h1 : kindsN l n = 0 := by
      by_cases e : kindsN l n = 0
      · exact e
      · rw [kindsN, if_pos e] at h; exact h
    rw [kindsN, if_neg (fun e => e h1)] at h
    rcases Nat.lt_or_ge i n with h2 | h2
    · exact kindsN_0 n h1 i h2
    · have : i = n := by omega
      subst this; exact h
theorem kindsE_0 {l : List GK} (h : kindsE l = 0) : KindsOk l := by
  unfold kindsE at h
  by_cases h8 : 8 < l.length
  · rw [if_pos h8] at h; cases h
  rw [if_neg h8] at h
  have hz := kindsN_0 _ h
  refine ⟨by omega, fun i hi => (kindE_ok (hz i hi)).1, fun i j hj hi e => ?_⟩
  have hc := (kindE_ok (hz i hi)).2
  unfold clashB at hc
  rw [List.any_eq_false] at hc
  have hm : gk l j ∈ l.take i := by
    rw [List.mem_iff_getElem?]
    exact ⟨j, by rw [List.getElem?_take_of_lt hj]; exact gk_get (by omega)⟩
  exact hc _ hm (by rw [e]; simp)
end Go.Proofs.YtkgkpggfoieioaaGreatDoor
namespace Go.Proofs.YtkgkpggfoieioaaGreatDoor
set_option linter.unusedVariables false
/-- The first that is so; -1: none. -/
def firstI {α : Type} (p : α → Bool) (L : List α) : Int := match L.findIdx? p with
  | some i => i
  | none => -1
theorem first_any {α : Type} (p : α → Bool) (L : List α) : decide (0 ≤ firstI p L) = L.any p := by
  unfold firstI
  rw [Bool.eq_iff_iff, decide_eq_true_iff]
  rcases h : L.findIdx? p with _ | i
  · rw [List.findIdx?_eq_none_iff] at h
    simp only [List.any_eq_true]
    constructor
    · intro h1; omega
    · rintro ⟨x, hx, hp⟩
      rw [h x hx] at hp; cases hp
  · obtain ⟨h1, h2⟩ := List.findIdx?_eq_some_iff_getElem.1 h
    simp only [List.any_eq_true]
    constructor
    · intro _
      exact ⟨L[i], List.getElem_mem _, h2.1⟩
    · intro _; omega
theorem first_no {α : Type} (p : α → Bool) (L : List α) (h : ∀ x ∈ L, p x = false) : firstI p L = -1 := by
  unfold firstI
  rw [List.findIdx?_eq_none_iff.2 h]
theorem first_at {α : Type} (p : α → Bool) (L : List α) (k : Nat) (x : α) (hk : L[k]? = some x) (hx : p x = true) (h : ∀ y ∈ L.take k, p y = false) : firstI p L = k := by
  unfold firstI
  have hl : k < L.length := (List.getElem?_eq_some_iff.1 hk).1
  have : L.findIdx? p = some k := by
    rw [List.findIdx?_eq_some_iff_getElem]
    refine ⟨hl, ?_, fun j hj => ?_⟩
    · have e : L[k] = x := by rw [List.getElem?_eq_getElem hl] at hk; injection hk
      rw [e]; exact hx
    · have := h L[j] (by rw [List.mem_iff_getElem?]; exact ⟨j, by rw [List.getElem?_take_of_lt hj, List.getElem?_eq_getElem]⟩)
      simp [this]
  rw [this]
theorem first_lt {α : Type} (p : α → Bool) (L : List α) : -1 ≤ firstI p L ∧ firstI p L < L.length ∨ firstI p L = -1 := by
  unfold firstI
  rcases h : L.findIdx? p with _ | i
  · exact .inr rfl
  · obtain ⟨h1, _⟩ := List.findIdx?_eq_some_iff_getElem.1 h
    exact .inl ⟨by simp only; omega, by simp only; omega⟩
theorem first_ge {α : Type} (p : α → Bool) (L : List α) : -1 ≤ firstI p L := by
  unfold firstI
  rcases L.findIdx? p with _ | i <;> simp only <;> omega
theorem take_no {α : Type} (p : α → Bool) (L : List α) (k : Nat) (x : α) (hk : L[k]? = some x) (h : ∀ y ∈ L.take k, p y = false) (hx : p x = false) : ∀ y ∈ L.take (k + 1), p y = false := fun y hy => by
  have hl : k < L.length := (List.getElem?_eq_some_iff.1 hk).1
  have e : L[k] = x := by rw [List.getElem?_eq_getElem hl] at hk; injection hk
  rw [List.take_succ_eq_append_getElem hl, List.mem_append, List.mem_singleton] at hy
  rcases hy with hy | hy
  · exact h y hy
  · rw [hy, e]; exact hx
end Go.Proofs.YtkgkpggfoieioaaGreatDoor
