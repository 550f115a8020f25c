import Derived.Test.YtkkdegcbikjebaaChk
namespace Go.Proofs.Ytkkdegcbikjebaa
set_option linter.unusedVariables false
open Go.RowKit
/-- What one change does to the places: it does not fit, or it is done. -/
def StPost (w : World) (ga : Nat) (l : List Int) (c : Ch) (e : Ending) (w' : World) : Prop :=
  (at0 l c.a.toNat ≠ c.o ∧ e = .returned (erK 7) ∧ Below w.heap.size w w') ∨ (at0 l c.a.toNat = c.o ∧ e = .returned .nilIface ∧ Blk w' ga 3 (arrI (l.set c.a.toNat c.n)) ∧ w.grownBy w' (some ga))
set_option maxRecDepth 100000 in
theorem st_any (gb ga : Nat) (l : List Int) (a : Nat) (o n : Int) (w : World) (hbx : w.cell? ⟨gb, 0, none⟩ = some (.slice (some ⟨ga, 0, none⟩) 6000 6000)) (hgb : gb < w.heap.size)
    (hB : Blk w ga 3 (arrI l)) (hl : l.length = 6000) (ha : a < 6000) :
    Calls Try.prog 38 #[.agg #[.int .i64 a, .int .i64 o, .int .i64 n], .pointer (some ⟨gb, 0, none⟩)] w (StPost w ga l ⟨a, o, n⟩) := by
  have HB := Lib.hid hB
  have hga := hB.lt
  clear hB
  have e1 : (a : Int) < 6000 := by omega
  have e2 : 0 ≤ (a : Int) := by omega
  go_enter Try.func38, Try.ntmps38
  go_upto_region 1 with fail
  have hb1 : Below w.heap.size w (w.alloc (.cells #[.int .i64 a, .int .i64 o, .int .i64 n] 45)) := (Below.refl _ _).alloc (Nat.le_refl _) _
  have hk1 := Blk.new w 45 #[.int .i64 a, .int .i64 o, .int .i64 n]
  generalize w.alloc (.cells #[.int .i64 a, .int .i64 o, .int .i64 n] 45) = W1 at *
  generalize hg1 : w.heap.size = g1 at *
  have hbx1 : W1.cell? ⟨gb, 0, none⟩ = some (.slice (some ⟨ga, 0, none⟩) 6000 6000) := (hb1.cell (p := ⟨gb, 0, none⟩) hgb).trans hbx
  have HB1 := HB.out.below hb1 hga
  have cA := HB1.atI a (by omega)
  have fA := HB1.frozen a
  have hga1 := HB1.lt
  have c0 := hk1.cell 0
  have c1 := hk1.cell 1
  have c2 := hk1.cell 2
  have hlt1 := hk1.lt
  clear hbx
  replace hk1 := Lib.hid hk1
  replace hb1 := Lib.hid hb1
  replace HB1 := Lib.hid HB1
  by_cases hq : at0 l a = o
  · have hne : (at0 l a != o) = false := by simp [hq]
    replace hq := Lib.hid hq
    generalize hla : at0 l a = la at *
    replace hla := Lib.hid hla
    go_quiet (fail)
    go_wp2_with fail
    go_ret
    refine .inr ⟨hla.out.trans hq.out, rfl, ?_, ?_⟩
    · exact ((HB1.out.drewN _).setI a n)
    · subst hg1
      exact grownBy_trans (grown_drewN (grownBy_of_below hb1.out) _) (grownBy_set _ _ _ _)
  · have hne : (at0 l a != o) = true := by simp [hq]
    replace hq := Lib.hid hq
    generalize hla : at0 l a = la at *
    replace hla := Lib.hid hla
    go_quiet (fail)
    go_wp2_with fail
    go_ret
    exact .inl ⟨fun h => hq.out (hla.out.symm.trans h), rfl, hg1 ▸ below_drewN hb1.out _⟩
def cfE (L : List Ch) (a0 : List Int) : Int := if 6000 < L.length then 4 else (appS L a0 L.length).1
def CfPost (w : World) (ga : Nat) (L : List Ch) (a0 : List Int) (e : Ending) (w' : World) : Prop :=
  e = .returned (erK (cfE L a0)) ∧ w.grownBy w' (some ga) ∧ (cfE L a0 = 0 → Blk w' ga 3 (arrI (appS L a0 L.length).2))
def CfRel (w : World) (ga : Nat) (L : List Ch) (a0 : List Int) (vi : Value) (wr : World) : Prop :=
  ∃ k : Nat, vi = .int .i64 k ∧ k ≤ L.length ∧ Hid ((appS L a0 k).1 = 0) ∧ Hid (Blk wr ga 3 (arrI (appS L a0 k).2)) ∧ Hid (w.grownBy wr (some ga))
set_option maxHeartbeats 3200000 in
set_option maxRecDepth 100000 in
theorem check_fun (A : Option Addr) (c D gb ga : Nat) (L : List Ch) (a0 : List Int) (w : World) (h : RC w D A L) (hDg : D ≤ ga) (hDw : D ≤ w.heap.size)
    (hbx : w.cell? ⟨gb, 0, none⟩ = some (.slice (some ⟨ga, 0, none⟩) 6000 6000)) (hgb : gb < w.heap.size) (hnb : gb ≠ ga) (hB : Blk w ga 3 (arrI a0)) (hl : a0.length = 6000) :
    Calls Try.prog 37 #[.slice A L.length c, .func (.func 38) #[] #[.pointer (some ⟨gb, 0, none⟩)]] w (CfPost w ga L a0) := by
  have H := Lib.hid h
  have HB := Lib.hid hB
  have HX := Lib.hid hbx
  have hgaw := hB.lt
  clear h hB hbx
  by_cases hl6 : 6000 < L.length
  · have hE : cfE L a0 = 4 := if_pos hl6
    have d1 : decide ((6000 : Int) < (L.length : Int)) = true := by simp; omega
    replace hE := Lib.hid hE
    go_enter Try.func37, Try.ntmps37
    go_wp2_with fail
    go_ret
    exact ⟨by rw [hE.out]; rfl, World.grownBy.refl _ _, fun h => by rw [hE.out] at h; cases h⟩
  · have d1 : decide ((6000 : Int) < (L.length : Int)) = false := by simp; omega
    have hE : cfE L a0 = (appS L a0 L.length).1 := if_neg hl6
    replace hE := Lib.hid hE
    go_enter Try.func37, Try.ntmps37
    go_wp2_with fail
    go_loopw [5, 6, 7, 14, 19, 48] (fun _ _ _ vi _ _ wr => CfRel w ga L a0 vi wr) (fun _ _ _ vi _ _ _ => L.length - (intOf vi).toNat)
    case atStart => exact ⟨0, rfl, Nat.zero_le _, Lib.hid rfl, HB, Lib.hid (World.grownBy.refl _ _)⟩
    case round =>
      obtain ⟨k, rfl, hk, hck, hbk, hb⟩ := hrel
      by_cases hlt : k < L.length
      · have hs := hb.out.size
        have HR : RC wr D A L := RD.grown H.out hb.out hDw (fun g hg => by cases hg; exact hDg)
        obtain ⟨b, off, hA, hbB⟩ := rc_addr HR (by omega)
        obtain ⟨e0, e1, e2⟩ := rc_cell HR hA k hlt
        subst hA
        have j1 : (k : Int) < (L.length : Int) := by omega
        have hbx : wr.cell? ⟨gb, 0, none⟩ = some (.slice (some ⟨ga, 0, none⟩) 6000 6000) := hb.out.cell HX.out (by intro h; injection h with h; exact hnb h)
        have hpv : 0 < k → wr.cell? ⟨b, off + (k - 1) * 3, none⟩ = some (.int .i64 (chG L (k - 1)).a) := fun hk0 => (rc_cell HR rfl (k - 1) (by omega)).1
        have hw := bad_ways (chG L k)
        have hE1 := chE_1 L k
        have hE5 := chE_5 L k
        have hE0 := chE_0 L k
        have h7 := appS_7 L a0 k hck.out
        have h0 := appS_ok L a0 k hck.out
        have hgd := good_ch (c := chG L k)
        have hlk := appS_len L a0 k
        rw [hl] at hlk
        replace HR := Lib.hid HR
        replace hbx := Lib.hid hbx
        replace hw := Lib.hid hw
        replace hE1 := Lib.hid hE1
        replace hE5 := Lib.hid hE5
        replace hE0 := Lib.hid hE0
        replace h7 := Lib.hid h7
        replace h0 := Lib.hid h0
        replace hgd := Lib.hid hgd
        replace hpv := Lib.hid hpv
        replace hlk := Lib.hid hlk
        have hbd := appS_bad L a0 k hck.out
        replace hbd := Lib.hid hbd
        have hlb : b < wr.heap.size := by omega
        generalize hcg : chG L k = cg at *
        replace hcg := Lib.hid hcg
        obtain ⟨ca, co, cn⟩ := cg
        dsimp only at *
        go_upto_region 6 with fail
        have hb1 : Below wr.heap.size wr (wr.alloc (.cells #[.int .i64 ca, .int .i64 co, .int .i64 cn] 45)) := (Below.refl _ _).alloc (Nat.le_refl _) _
        have hk1 := Blk.new wr 45 #[.int .i64 ca, .int .i64 co, .int .i64 cn]
        have hpv1 : 0 < k → (wr.alloc (.cells #[.int .i64 ca, .int .i64 co, .int .i64 cn] 45)).cell? ⟨b, off + (k - 1) * 3, none⟩ = some (.int .i64 (chG L (k - 1)).a) := fun h0 => by
          rw [World.cell?_of_block (w := wr) (Below.heap_alloc wr _ b hlb)]; exact hpv.out h0
        clear e0 e1 e2 hpv HR
        generalize wr.alloc (.cells #[.int .i64 ca, .int .i64 co, .int .i64 cn] 45) = W1 at *
        generalize hg1 : wr.heap.size = g1 at *
        have c0 := hk1.cell 0
        have c1 := hk1.cell 1
        have c2 := hk1.cell 2
        have hlt1 := hk1.lt
        replace hk1 := Lib.hid hk1
        replace hb1 := Lib.hid hb1
        replace hpv1 := Lib.hid hpv1
        go_cut [19] from 15 to 71 (fun t wx => t = .bool (badCh ⟨ca, co, cn⟩) ∧ W1 = wx)
        case first =>
          rcases hw.out with ⟨hh, q1 | ⟨q1, q2⟩ | ⟨q1, q2, q3⟩ | ⟨q1, q2, q3, q4⟩ | ⟨q1, q2, q3, q4, q5⟩⟩ | ⟨hh, q1, q2, q3, q4, q5⟩
          all_goals replace hh := Lib.hid hh
          · go_wp2_with fail
            go_meet
            exact ⟨by rw [hh.out], rfl⟩
          · go_wp2_with fail
            go_meet
            exact ⟨by rw [hh.out], rfl⟩
          · go_wp2_with fail
            refine (sign_any co _).mono ?_
            rintro e w' ⟨rfl, rfl⟩
            go_wp2_with fail
            go_meet
            exact ⟨by rw [hh.out], rfl⟩
          all_goals
            go_wp2_with fail
            refine (sign_any co _).mono ?_
            rintro e w' ⟨rfl, rfl⟩
            go_wp2_with fail
            refine (sign_any cn _).mono ?_
            rintro e w' ⟨rfl, rfl⟩
            go_wp2_with fail
            go_meet
            exact ⟨by rw [hh.out], rfl⟩
        case rest =>
        obtain ⟨rfl, rfl⟩ := hcut
        have hend : ∀ n : Int, n ≠ 0 → (appS L a0 (k + 1)).1 = n → cfE L a0 = n := fun n h0 h1 => by
          rw [hE.out, appS_end L a0 (k + 1) L.length (by omega) (by rw [h1]; exact h0), h1]
        have hgr : ∀ w', Below wr.heap.size wr w' → w.grownBy w' (some ga) := fun w' h => grownBy_trans hb.out (grownBy_of_below h)
        rw [hg1] at hgr
        replace hgr := Lib.hid hgr
        replace hend := Lib.hid hend
        have hgbr : gb < g1 := by omega
        have hgar : ga < g1 := by omega
        cases hbd' : badCh ⟨ca, co, cn⟩ with
        | true =>
          have q1 := hE1.out hbd'
          have h1 := hend.out 1 (by omega) (by rw [hbd.out (by rw [q1]; omega)]; exact q1)
          replace h1 := Lib.hid h1
          replace q1 := Lib.hid q1
          clear c0 c1 c2
          go_wp2_with fail
          go_ret
          exact ⟨by rw [h1.out]; rfl, hgr.out _ hb1.out, fun h => by rw [h1.out] at h; cases h⟩
        | false =>
          go_upto_region 8 with fail
          go_cut [48] from 48 to 71 (fun t wx => t = .bool (decide (0 < k ∧ ca ≤ (chG L (k - 1)).a)) ∧ ∃ q, wx = W1.drewN q)
          case first =>
            rcases Nat.eq_zero_or_pos k with h0 | h0
            · have d0 : decide (0 < (k : Int)) = false := by simp; omega
              have d1 : decide (0 < k ∧ ca ≤ (chG L (k - 1)).a) = false := by simp; omega
              replace d1 := Lib.hid d1
              subst h0
              go_wp2_with fail
              go_quiet (fail)
              go_wp2_with fail
              go_meet
              exact ⟨by rw [d1.out], _, rfl⟩
            · have d0 : decide (0 < (k : Int)) = true := by simp; omega
              have hp := hpv1.out h0
              have hin : k - 1 < L.length := by omega
              obtain ⟨j, rfl⟩ : ∃ j, k = j + 1 := ⟨k - 1, by omega⟩
              have hp2 : W1.cell? ⟨b, off + j * 3, none⟩ = some (.int .i64 (chG L j).a) := hp
              have e5 : IntKind.i64.wrap (((j + 1 : Nat) : Int) - 1) = (j : Int) := by rw [IntKind.wrap_i64]; omega
              have e6 : (j : Int) < (L.length : Int) := by omega
              have e7 : 0 ≤ (j : Int) := by omega
              clear hp hpv1
              generalize hpa : (chG L j).a = pa at *
              have d1 : decide (0 < j + 1 ∧ ca ≤ pa) = decide (ca ≤ pa) := by simp
              replace d1 := Lib.hid d1
              go_wp2_with fail
              go_quiet (fail)
              go_wp2_with fail
              go_meet
              exact ⟨by rw [show j + 1 - 1 = j from rfl, hpa, d1.out], _, rfl⟩
          case rest =>
          obtain ⟨rfl, q, rfl⟩ := hcut
          by_cases ho : 0 < k ∧ ca ≤ (chG L (k - 1)).a
          · have q1 := hE5.out hbd' ho
            have h1 := hend.out 5 (by omega) (by rw [hbd.out (by rw [q1]; omega)]; exact q1)
            replace q1 := Lib.hid q1
            replace h1 := Lib.hid h1
            have d1 : decide (0 < k ∧ ca ≤ (chG L (k - 1)).a) = true := decide_eq_true ho
            rw [d1]
            clear c0 c1 c2
            go_wp2_with fail
            go_ret
            exact ⟨by rw [h1.out]; rfl, hgr.out _ (below_drewN hb1.out _), fun h => by rw [h1.out] at h; cases h⟩
          · have d1 : decide (0 < k ∧ ca ≤ (chG L (k - 1)).a) = false := decide_eq_false ho
            have q1 := hE0.out hbd' ho
            replace q1 := Lib.hid q1
            rw [d1]
            have hnf := eql_func (.func 38) #[] #[.pointer (some ⟨gb, 0, none⟩)]
            go_wp2_with fail
            obtain ⟨g0, g1', _⟩ := hgd.out hbd'
            obtain ⟨a, ha⟩ : ∃ a : Nat, ca = (a : Int) := ⟨ca.toNat, by omega⟩
            have ha6 : a < 6000 := by omega
            subst ha
            clear g0 g1'
            have x1 := (hb1.out.cell (p := ⟨gb, 0, none⟩) hgbr).trans hbx.out
            have x2 := hbk.out.below hb1.out hgar
            clear c0 c1 c2 hpv1
            refine (st_any gb ga (appS L a0 k).2 a co cn (W1.drewN q) x1 (by show gb < W1.heap.size; omega) (x2.drewN q) hlk.out ha6).mono ?_
            clear x1 x2
            rintro e W2 (⟨q7, rfl, hq⟩ | ⟨q7, rfl, bk2, hq⟩)
            · have h1 := hend.out 7 (by omega) (by rw [h7.out q1.out q7])
              have hq2 := hgr.out _ ((below_drewN hb1.out q).trans (hq.mono (by show g1 ≤ W1.heap.size; omega)))
              have e7 : erK 7 = .iface 69 (.int .i64 7) := rfl
              rw [e7]
              replace e7 := Lib.hid e7
              replace h1 := Lib.hid h1
              replace hq2 := Lib.hid hq2
              clear hq q7
              go_wp2_with fail
              go_ret
              exact ⟨by rw [h1.out]; rfl, hq2.out, fun h => by rw [h1.out] at h; cases h⟩
            · have h1 := h0.out q1.out q7
              have hq2 := grownBy_trans (hgr.out _ (below_drewN hb1.out q)) hq
              replace h1 := Lib.hid h1
              replace hq2 := Lib.hid hq2
              replace bk2 := Lib.hid bk2
              clear hq q7
              go_wp2_with fail
              go_roundw
              case rel => exact ⟨k + 1, by go_num, by omega, Lib.hid (by rw [h1.out]), Lib.hid (by rw [h1.out]; exact bk2.out), hq2⟩
              case measure => simp [intOf]; omega
      · have j1 : ¬ (k : Int) < (L.length : Int) := by omega
        have h1 : cfE L a0 = 0 := by rw [hE.out, show L.length = k by omega]; exact hck.out
        have h2 : Blk wr ga 3 (arrI (appS L a0 L.length).2) := by rw [show L.length = k by omega]; exact hbk.out
        replace h1 := Lib.hid h1
        replace h2 := Lib.hid h2
        go_wp2_with fail
        go_ret
        exact ⟨by rw [h1.out]; rfl, hb.out, fun _ => h2.out⟩
end Go.Proofs.Ytkkdegcbikjebaa
