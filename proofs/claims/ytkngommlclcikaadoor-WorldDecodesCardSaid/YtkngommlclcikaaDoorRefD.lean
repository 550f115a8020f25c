import Derived.Test.YtkngommlclcikaaDoorList
namespace Go.Proofs.YtkngommlclcikaaDoor
set_option linter.unusedVariables false
open Go.RowKit
/-- The document's reader. -/
abbrev DOk := ROkT 124
def DNum (w : World) (g : Nat) (A : Option Addr) (c D : Nat) (bs : List Int) (R : Option (Nat × Nat)) (vx vy vi : Value) (wr : World) : Prop :=
  ∃ (i x q f : Nat) (X Y : Int), vi = .int .i64 i ∧ vx = .int .u64 X ∧ vy = .int .u64 Y ∧ Hid (X = (x : Int)) ∧ Hid (i ≤ 9 → Y = ((2 ^ (7 * i) : Nat) : Int)) ∧ Hid (i + f = 11 ∧ x < 2 ^ (7 * i) ∧ x < 18446744073709551616) ∧ i ≤ 10 ∧ q ≤ bs.length ∧ Hid (rdF f i x bs q = R) ∧
    Blk wr g 124 #[.slice A bs.length c, .int .i64 q, .bool false] ∧ Hid (RD wr D 1 A bs.length (bs.map (.int .u8))) ∧ w.grownBy wr (some g)
set_option maxHeartbeats 3200000 in
set_option maxRecDepth 100000 in
theorem dnum_bad {g D c : Nat} {A : Option Addr} {bs : List Int} (w : World) (h : DOk w g A c D bs none) :
    Calls Tryd.prog 68 #[.pointer (some ⟨g, 0, none⟩)] w fun e w' => e = .returned (.int .i64 0) ∧ DOk w' g A c D bs none ∧ w.grownBy w' (some g) := by
  obtain ⟨q, hq, hql, _⟩ := h.blk
  have hlt := hq.lt
  have c2 : w.cell? ⟨g, 2, none⟩ = some (.bool true) := hq.cell 2
  have f2 := hq.frozen 2
  have hB := hq.set_ 2 (.bool true)
  replace hB := Lib.hid hB
  have H := Lib.hid h
  clear h hq
  go_enter Tryd.func68, Tryd.ntmps68
  go_wp2_with fail
  go_loopw [3, 4, 5] (fun x y i wr => w = wr ∧ x = .int .u64 0 ∧ y = .int .u64 1 ∧ i = .int .i64 0) (fun _ _ _ _ => 0)
  case atStart => exact ⟨rfl, rfl, rfl, rfl⟩
  case round =>
    obtain ⟨rfl, rfl, rfl, rfl⟩ := hrel
    go_wp2_with fail
    go_ret
    exact ⟨rfl, ROkT.mk' true hB.out rfl hql (fun p h => by cases h) (H.out.rd.setFar g 2 _ H.out.far) H.out.far, grownBy_set _ _ _ _⟩
set_option maxHeartbeats 6400000 in
set_option maxRecDepth 100000 in
theorem dnum_go {g D c : Nat} {A : Option Addr} {bs : List Int} (p : Nat) (w : World) (h : DOk w g A c D bs (some p)) (hbs : ∀ x ∈ bs, Byte x) (hl : bs.length ≤ 9223372036854775807) :
    Calls Tryd.prog 68 #[.pointer (some ⟨g, 0, none⟩)] w fun e w' => e = .returned (.int .i64 (rdS bs (some p)).1) ∧ DOk w' g A c D bs (rdS bs (some p)).2 ∧ w.grownBy w' (some g) := by
  obtain ⟨q0, hq0, hq0l, hqp⟩ := h.blk
  obtain rfl := hqp p rfl
  have hR : rdS bs (some q0) = toRS (rdU bs q0) := rfl
  rw [hR]
  generalize hRu : rdU bs q0 = R at *
  have hRF := hRu
  unfold rdU at hRF
  have hrd := h.rd
  have hfar := h.far
  replace hrd := Lib.hid hrd
  replace hfar := Lib.hid hfar
  have HB := Lib.hid hbs
  replace hRF := Lib.hid hRF
  replace hq0 := Lib.hid hq0
  clear h hbs hR hRu hqp
  go_enter Tryd.func68, Tryd.ntmps68
  go_wp2_with fail
  go_loopw [3, 4, 5, 6] (fun x y i _ wr => DNum w g A c D bs R x y i wr) (fun _ _ i _ _ => 11 - (intOf i).toNat)
  case atStart => exact ⟨0, 0, q0, 11, 0, 1, rfl, rfl, rfl, Lib.hid rfl, Lib.hid (fun _ => rfl), Lib.hid ⟨rfl, by simp, by simp⟩, by omega, hq0l, hRF, hq0.out, hrd, World.grownBy.refl _ _⟩
  case round =>
    obtain ⟨i, x, q, f, X, Y, rfl, rfl, rfl, hX, hY, hif, hi, hql, hF, hB, hr, hgr⟩ := hrel
    have hlt := hB.lt
    have c0 : wr.cell? ⟨g, 0, none⟩ = some (.slice A bs.length c) := hB.cell 0
    have c1 : wr.cell? ⟨g, 1, none⟩ = some (.int .i64 q) := hB.cell 1
    have c2 : wr.cell? ⟨g, 2, none⟩ = some (.bool false) := hB.cell 2
    have f1 := hB.frozen 1
    have f2 := hB.frozen 2
    have f1b : ∀ n, (wr.drewN n).frozen? ⟨g, 1, none⟩ = false := fun n => f1
    have f2b : ∀ n, (wr.drewN n).frozen? ⟨g, 2, none⟩ = false := fun n => f2
    replace hgr := Lib.hid hgr
    replace hB := Lib.hid hB
    have stop : rdF f i x bs q = none → ∀ n, (0 : Int) = (toRS R).1 ∧ DOk ((wr.drewN n).setCell ⟨g, 2, none⟩ (.bool true)) g A c D bs (toRS R).2 ∧ w.grownBy ((wr.drewN n).setCell ⟨g, 2, none⟩ (.bool true)) (some g) := fun hn n => by
      rw [hF.out] at hn
      subst hn
      exact ⟨rfl, ROkT.mk' true ((hB.out.drewN n).set_ 2 (.bool true)) rfl hql (fun p h => by cases h) ((hr.out.drewN n).setFar g 2 _ hfar.out) hfar.out, grownBy_trans (grown_drewN hgr.out n) (grownBy_set _ _ _ _)⟩
    replace stop := Lib.hid stop
    by_cases h10 : i = 10
    · subst h10
      have hs := stop.out (rdF_bad f 10 x bs q (.inr (.inl (by omega)))) 0
      replace hs := Lib.hid hs
      go_wp2_with fail
      go_ret
      obtain ⟨s1, s2, s3⟩ := hs.out
      exact ⟨by rw [← s1]; rfl, s2, s3⟩
    have j10 : (i : Int) < 10 := by omega
    by_cases h1 : bs.length ≤ q
    · have d1 : decide ((bs.length : Int) ≤ (q : Int)) = true := by simp; omega
      have d1' : decide (bs.length ≤ q) = true := by simp; omega
      have hs := stop.out (rdF_bad f i x bs q (.inl h1))
      replace hs := Lib.hid hs
      go_wp2_with fail
      go_big_quiet (fail)
      go_wp2_with fail
      go_ret
      obtain ⟨s1, s2, s3⟩ := hs.out _
      exact ⟨by rw [← s1]; rfl, s2, s3⟩
    · obtain ⟨b, o, hA, hbl⟩ := RD.addr hr.out (show 0 < bs.length by omega)
      have hc := RD.at_ hr.out hA (j := q) (by omega)
      have hv0 := HB.out _ (List.getElem_mem (show q < bs.length by omega))
      rw [List.getElem?_map, List.getElem?_eq_getElem (show q < bs.length by omega)] at hc
      simp only [Option.map_some] at hc
      have hgd : bs.getD q 0 = bs[q] := by rw [List.getD_eq_getElem?_getD, List.getElem?_eq_getElem (show q < bs.length by omega)]; rfl
      obtain ⟨v, hv⟩ : ∃ v : Nat, bs[q] = (v : Int) := ⟨bs[q].toNat, by unfold Byte at hv0; omega⟩
      rw [hv] at hc hgd hv0
      have hv255 : v ≤ 255 := by unfold Byte at hv0; omega
      clear hv0 hv
      have i1 : (q : Int) < (bs.length : Int) := by omega
      have i2 : q < bs.length := by omega
      have d1 : decide ((bs.length : Int) ≤ (q : Int)) = false := by simp; omega
      have d1' : decide (bs.length ≤ q) = false := by simp; omega
      have g0 : g ≠ b := (hfar.out b o hA (by omega)).symm
      subst hA
      have key := key_rd i v
      rcases key with ⟨hbad, hk⟩ | ⟨hgood, hk⟩
      · have hn := rdF_bad f i x bs q (by rw [hgd]; omega)
        have hs : ∀ n, (0 : Int) = (toRS R).1 ∧ DOk (((wr.drewN n).setCell ⟨g, 1, none⟩ (.int .i64 ((q : Int) + 1))).setCell ⟨g, 2, none⟩ (.bool true)) g (some ⟨b, o, none⟩) c D bs (toRS R).2 ∧ w.grownBy (((wr.drewN n).setCell ⟨g, 1, none⟩ (.int .i64 ((q : Int) + 1))).setCell ⟨g, 2, none⟩ (.bool true)) (some g) := fun n => by
          rw [hF.out] at hn
          subst hn
          exact ⟨rfl, ROkT.mk' (q := q + 1) true (((hB.out.drewN n).set_ 1 _).set_ 2 (.bool true)) rfl (by omega) (fun p h => by cases h) (((hr.out.drewN n).setFar g 1 _ hfar.out).setFar g 2 _ hfar.out) hfar.out, grownBy_trans (grownBy_trans (grown_drewN hgr.out n) (grownBy_set _ _ _ _)) (grownBy_set _ _ _ _)⟩
        replace hs := Lib.hid hs
        replace hn := Lib.hid hn
        have e2 : IntKind.u64.wrap (v : Int) = (v : Int) := by rw [IntKind.wrap_u64]; omega
        clear hbad
        rcases hk with hk | ⟨hk, hk2, hk3⟩ | ⟨hk, hk2, hk3, hk4, hk5⟩ | ⟨hk, hk2, hk3, hk4⟩
        · exfalso; simp at hk; omega
        all_goals
          go_wp2_with fail
          go_big_quiet (fail)
          go_wp2_with fail
          go_big_quiet (fail)
          go_wp2_with fail
          go_ret
          obtain ⟨s1, s2, s3⟩ := hs.out _
          exact ⟨by rw [← s1]; rfl, s2, s3⟩
      · have hnb : ¬(bs.length ≤ q ∨ 9 < i ∨ (i = 9 ∧ 1 < bs.getD q 0) ∨ (0 < i ∧ bs.getD q 0 = 0)) := by rw [hgd]; omega
        obtain ⟨f', rfl⟩ : ∃ f', f = f' + 1 := ⟨f - 1, by have := hif.out; omega⟩
        have hd9 : i ≤ 8 ∨ (i = 9 ∧ v % 128 ≤ 1) := by omega
        have hbd := step_bd x (v % 128) i hif.out.2.1 (by omega) hd9
        have e2 : IntKind.u64.wrap (v : Int) = (v : Int) := by rw [IntKind.wrap_u64]; omega
        have hY9 := hY.out (by omega)
        obtain ⟨N, hN⟩ : ∃ N, x + v % 128 * 2 ^ (7 * i) = N := ⟨_, rfl⟩
        have hD : IntKind.u64.wrap (X + IntKind.u64.wrap ((v : Int) % 128 * Y)) = (N : Int) := by
          have e3 : (v : Int) % 128 * Y = ((v % 128 * 2 ^ (7 * i) : Nat) : Int) := by rw [hY9]; push_cast; rfl
          have e4 := hbd.1
          have e5 := hbd.2.1
          rw [e3, hX.out]
          rw [← hN]
          generalize v % 128 * 2 ^ (7 * i) = M at *
          rw [IntKind.wrap_u64, IntKind.wrap_u64]
          omega
        have hN64 : N < 18446744073709551616 := by have := hbd.2.1; omega
        have hYn : i + 1 ≤ 9 → IntKind.u64.wrap (Y * 128) = ((2 ^ (7 * (i + 1)) : Nat) : Int) := fun h9 => by
          have e6 : (2 : Nat) ^ (7 * (i + 1)) = 2 ^ (7 * i) * 128 := by rw [show 7 * (i + 1) = 7 * i + 7 by omega, Nat.pow_add]
          have e7 : (2 : Nat) ^ (7 * i) ≤ 2 ^ 56 := Nat.pow_le_pow_right (by omega) (by omega)
          rw [show (2 : Nat) ^ 56 = 72057594037927936 by decide] at e7
          rw [hY9, e6]
          generalize (2 : Nat) ^ (7 * i) = P at *
          rw [IntKind.wrap_u64]
          push_cast
          omega
        have hB3 : ∀ n, Blk ((wr.drewN n).setCell ⟨g, 1, none⟩ (.int .i64 ((q : Int) + 1))) g 124 #[.slice (some ⟨b, o, none⟩) bs.length c, .int .i64 ((q + 1 : Nat) : Int), .bool false] := fun n => (hB.out.drewN n).set_ 1 _
        have hr3 : ∀ n, RD ((wr.drewN n).setCell ⟨g, 1, none⟩ (.int .i64 ((q : Int) + 1))) D 1 (some ⟨b, o, none⟩) bs.length (bs.map (.int .u8)) := fun n => (hr.out.drewN n).setFar g 1 _ hfar.out
        have hg3 : ∀ n, w.grownBy ((wr.drewN n).setCell ⟨g, 1, none⟩ (.int .i64 ((q : Int) + 1))) (some g) := fun n => grownBy_trans (grown_drewN hgr.out n) (grownBy_set _ _ _ _)
        replace hB3 := Lib.hid hB3
        replace hr3 := Lib.hid hr3
        replace hg3 := Lib.hid hg3
        replace hYn := Lib.hid hYn
        replace hY9 := Lib.hid hY9
        clear stop
        by_cases hlo : v < 128
        · have hF2 := hF.out
          rw [rdF_end f' i x bs q hnb (by rw [hgd]; omega), hgd, Int.toNat_natCast, pow7, ← Nat.mod_eq_of_lt hlo, hN] at hF2
          have hS2 : (toRS R).2 = some (q + 1) := by rw [← hF2]; rfl
          have hS1 : (toRS R).1 = unz N := by rw [← hF2]; rfl
          have j128 : (v : Int) < 128 := by omega
          replace hF2 := Lib.hid hF2
          replace hnb := Lib.hid hnb
          replace hgood := Lib.hid hgood
          replace hbd := Lib.hid hbd
          replace hS2 := Lib.hid hS2
          replace hS1 := Lib.hid hS1
          replace hN := Lib.hid hN
          have hpar : N % 2 = 0 ∨ N % 2 = 1 := by omega
          rcases hpar with hpar | hpar
          · have k1 : (N : Int) % 2 = 0 := by omega
            have hfin : (N : Int) / 2 = (toRS R).1 := by rw [hS1.out]; unfold unz; rw [if_pos hpar]; omega
            replace hfin := Lib.hid hfin
            rcases hk with ⟨hk, hk2, hk3, hk4, hk5⟩ | ⟨hk, hk2, hk3, hk4⟩ | ⟨hk, hk2, hk3⟩
            all_goals
              go_wp2_with fail
              go_big_quiet (fail)
              go_wp2_with fail
              go_big_quiet (fail)
              go_wp2_with fail
              go_ret
              refine ⟨congrArg (fun z => Ending.returned (Value.int .i64 z)) hfin.out, ?_, hg3.out _⟩
              rw [hS2.out]
              exact ROkT.mk' false (hB3.out _) rfl (by omega) (fun p h => by injection h) (hr3.out _) hfar.out
          · have k1 : (N : Int) % 2 = 1 := by omega
            have hfin : -((N : Int) / 2) - 1 = (toRS R).1 := by rw [hS1.out]; unfold unz; rw [if_neg (by omega)]; omega
            replace hfin := Lib.hid hfin
            rcases hk with ⟨hk, hk2, hk3, hk4, hk5⟩ | ⟨hk, hk2, hk3, hk4⟩ | ⟨hk, hk2, hk3⟩
            all_goals
              go_wp2_with fail
              go_big_quiet (fail)
              go_wp2_with fail
              go_big_quiet (fail)
              go_wp2_with fail
              go_ret
              refine ⟨congrArg (fun z => Ending.returned (Value.int .i64 z)) hfin.out, ?_, hg3.out _⟩
              rw [hS2.out]
              exact ROkT.mk' false (hB3.out _) rfl (by omega) (fun p h => by injection h) (hr3.out _) hfar.out
        · have hF2 := hF.out
          rw [rdF_more f' i x bs q hnb (by rw [hgd]; omega), hgd, Int.toNat_natCast, pow7, show v - 128 = v % 128 by omega, hN] at hF2
          have hI8 : i ≤ 8 := by omega
          have hnx := hbd.2.2 hI8
          rw [hN] at hnx
          have hF3 := Lib.hid hF2
          clear hF2
          have j128 : ¬ (v : Int) < 128 := by omega
          replace hnb := Lib.hid hnb
          replace hgood := Lib.hid hgood
          replace hbd := Lib.hid hbd
          replace hnx := Lib.hid hnx
          replace hN := Lib.hid hN
          rcases hk with ⟨hk, hk2, hk3, hk4, hk5⟩ | ⟨hk, hk2, hk3, hk4⟩ | ⟨hk, hk2, hk3⟩
          · exfalso; simp at hk2; omega
          all_goals
            go_wp2_with fail
            go_big_quiet (fail)
            go_wp2_with fail
            go_big_quiet (fail)
            go_wp2_with fail
            go_roundw
            case rel =>
              exact ⟨i + 1, N, q + 1, f', _, _, by go_num, rfl, rfl, Lib.hid rfl, Lib.hid (fun h9 => hYn.out h9), Lib.hid ⟨by have := hif.out.1; omega, hnx.out, hN64⟩, by omega, by omega, hF3, hB3.out _, Lib.hid (hr3.out _), hg3.out _⟩
            case measure => simp [intOf]; omega
theorem dnum_any {g D c : Nat} {A : Option Addr} {bs : List Int} (st : Option Nat) (w : World) (h : DOk w g A c D bs st) (hbs : ∀ x ∈ bs, Byte x) (hl : bs.length ≤ 9223372036854775807) :
    Calls Tryd.prog 68 #[.pointer (some ⟨g, 0, none⟩)] w fun e w' => e = .returned (.int .i64 (rdS bs st).1) ∧ DOk w' g A c D bs (rdS bs st).2 ∧ w.grownBy w' (some g) := by
  cases st with
  | none => exact dnum_bad w h
  | some p => exact dnum_go p w h hbs hl
end Go.Proofs.YtkngommlclcikaaDoor
