import Derived.Test.YtkngommlclcikaaDoorBits
import Derived.Test.YtkngommlclcikaaDoorApp
import Derived.Test.YtkngommlclcikaaDoorRows
import Derived.WalkKit
import Derived.WalkLawsBesides
import Derived.Outline
import Derived.OwnWalk
import Derived.BigQuiet
import Derived.Deep.QuietTactic
import Derived.Deep.DeepCutAuto
import Derived.Deep.DeepFit
import Derived.Deep.DeepMust
import Derived.Lib.Hide
namespace Go.Proofs.YtkngommlclcikaaDoor
set_option linter.unusedVariables false
open Go.RowKit
/-- A reader's state: where it is; none: it met a fault. -/
def toRS : Option (Nat × Nat) → Int × Option Nat
  | none => (0, none)
  | some (v, q) => (unz v, some q)
def rdS (bs : List Int) (st : Option Nat) : Int × Option Nat :=
  match st with
  | none => (0, none)
  | some p => toRS (rdU bs p)
def rdM (bs : List Int) (st : Option Nat) (most : Int) : Int × Option Nat := if (rdS bs st).1 < 0 ∨ most < (rdS bs st).1 then (0, none) else rdS bs st
structure ROkT (T : TypeId) (w : World) (g : Nat) (A : Option Addr) (c D : Nat) (bs : List Int) (st : Option Nat) : Prop where
  blk : ∃ q : Nat, Blk w g T #[.slice A bs.length c, .int .i64 q, .bool st.isNone] ∧ q ≤ bs.length ∧ ∀ p, st = some p → q = p
  rd : RD w D 1 A bs.length (bs.map (.int .u8))
  far : ∀ b o, A = some ⟨b, o, none⟩ → 0 < bs.length → b ≠ g
/-- The program's own reader. -/
abbrev ROk := ROkT 129
section
variable {T : TypeId} {w w' : World} {g D c : Nat} {A : Option Addr} {bs : List Int} {st : Option Nat}
theorem ROkT.lt (h : ROkT T w g A c D bs st) : g < w.heap.size := by obtain ⟨q, hq, _⟩ := h.blk; exact hq.lt
theorem RD.keepBy {w w' : World} {B sz n : Nat} {A : Option Addr} {xs : List Value} (h : RD w B sz A n xs) (hk : ∀ b o o', 0 < n → A = some ⟨b, o, none⟩ → b < w.heap.size → w'.cell? ⟨b, o', none⟩ = w.cell? ⟨b, o', none⟩) : RD w' B sz A n xs :=
  ⟨h.1, fun hn => by
    obtain ⟨b, off, e, hb, hc⟩ := h.2 hn
    refine ⟨b, off, e, hb, fun j hj => ?_⟩
    have hcj := hc j hj
    rcases Nat.lt_or_ge b w.heap.size with hlt | hge
    · rw [hk b off _ hn e hlt]; exact hcj
    · have hn2 : w.cell? ⟨b, off + j, none⟩ = none := by simp [World.cell?, Array.getElem?_eq_none hge]
      rw [hn2] at hcj
      rw [List.getElem?_eq_getElem (by rw [h.1]; exact hj)] at hcj
      cases hcj⟩
theorem RD.setFar {w : World} {B sz n : Nat} {A : Option Addr} {xs : List Value} (h : RD w B sz A n xs) (g i : Nat) (u : Value) (hf : ∀ b o, A = some ⟨b, o, none⟩ → 0 < n → b ≠ g) : RD (w.setCell ⟨g, i, none⟩ u) B sz A n xs :=
  h.keepBy fun b o o' hn e _ => World.cell?_setCell_other w _ _ u (by intro h; injection h with h1; exact hf b o e hn h1.symm)
theorem ROkT.mk' {q : Nat} (b : Bool) (hb : Blk w g T #[.slice A bs.length c, .int .i64 q, .bool b]) (hbs : b = st.isNone) (hq : q ≤ bs.length) (hp : ∀ p, st = some p → q = p) (hr : RD w D 1 A bs.length (bs.map (.int .u8))) (hf : ∀ b o, A = some ⟨b, o, none⟩ → 0 < bs.length → b ≠ g) : ROkT T w g A c D bs st :=
  ⟨⟨q, by rw [← hbs]; exact hb, hq, hp⟩, hr, hf⟩
/-- What it keeps where other things are written. -/
theorem ROkT.grown (h : ROkT T w g A c D bs st) {r : Option Nat} (hg : w.grownBy w' r) (h1 : r ≠ some g) (h2 : ∀ b o, A = some ⟨b, o, none⟩ → 0 < bs.length → r ≠ some b) : ROkT T w' g A c D bs st := by
  obtain ⟨q, hq, h3, h4⟩ := h.blk
  exact ⟨⟨q, hq.grown hg (fun e => h1 e.symm), h3, h4⟩, h.rd.keepBy (fun b o o' hn e hlt => World.cell?_of_block (hg.block b hlt (fun e' => h2 b o e hn e'.symm))), h.far⟩
theorem ROkT.below (h : ROkT T w g A c D bs st) (hb : Below w.heap.size w w') : ROkT T w' g A c D bs st := h.grown (grownBy_of_below (row := none) hb) (by simp) (by simp)
theorem ROkT.drewN (h : ROkT T w g A c D bs st) (n : Nat) : ROkT T (w.drewN n) g A c D bs st := ⟨h.blk, h.rd, h.far⟩
end
theorem ROk.mk' {w : World} {g D c : Nat} {A : Option Addr} {bs : List Int} {st : Option Nat} {q : Nat} (b : Bool) (hb : Blk w g 129 #[.slice A bs.length c, .int .i64 q, .bool b]) (hbs : b = st.isNone) (hq : q ≤ bs.length) (hp : ∀ p, st = some p → q = p) (hr : RD w D 1 A bs.length (bs.map (.int .u8))) (hf : ∀ b o, A = some ⟨b, o, none⟩ → 0 < bs.length → b ≠ g) : ROk w g A c D bs st :=
  ROkT.mk' b hb hbs hq hp hr hf
def RNum (w : World) (g : Nat) (A : Option Addr) (c D : Nat) (bs : List Int) (R : Option (Nat × Nat)) (vx vi : Value) (wr : World) : Prop :=
  ∃ (i x q f : Nat) (X : Int), vi = .int .i64 i ∧ vx = .int .u64 X ∧ Hid (X = (x : Int)) ∧ Hid (i + f = 11 ∧ x < 2 ^ (7 * i) ∧ x < 18446744073709551616) ∧ i ≤ 10 ∧ q ≤ bs.length ∧ Hid (rdF f i x bs q = R) ∧
    Blk wr g 129 #[.slice A bs.length c, .int .i64 q, .bool false] ∧ Hid (RD wr D 1 A bs.length (bs.map (.int .u8))) ∧ w.grownBy wr (some g)
theorem pow7 (i : Nat) : (128 : Nat) ^ i = 2 ^ (7 * i) := by rw [show (128 : Nat) = 2 ^ 7 from rfl, ← Nat.pow_mul]
set_option maxHeartbeats 3200000 in
set_option maxRecDepth 100000 in
theorem rnum_bad {g D c : Nat} {A : Option Addr} {bs : List Int} (w : World) (h : ROk w g A c D bs none) :
    Calls Tryd.prog 71 #[.pointer (some ⟨g, 0, none⟩)] w fun e w' => e = .returned (.int .i64 0) ∧ ROk w' g A c D bs none ∧ w.grownBy w' (some g) := by
  obtain ⟨q, hq, hql, _⟩ := h.blk
  have hlt := hq.lt
  have c2 : w.cell? ⟨g, 2, none⟩ = some (.bool true) := hq.cell 2
  have f2 := hq.frozen 2
  have hB := hq.set_ 2 (.bool true)
  replace hB := Lib.hid hB
  have H := Lib.hid h
  clear h hq
  go_enter Tryd.func71, Tryd.ntmps71
  go_wp2_with fail
  go_loopw [3, 4] (fun x i wr => w = wr ∧ x = .int .u64 0 ∧ i = .int .i64 0) (fun _ _ _ => 0)
  case atStart => exact ⟨rfl, rfl, rfl⟩
  case round =>
    obtain ⟨rfl, rfl, rfl⟩ := hrel
    go_wp2_with fail
    go_ret
    exact ⟨rfl, ROk.mk' true hB.out rfl hql (fun p h => by cases h) (H.out.rd.setFar g 2 _ H.out.far) H.out.far, grownBy_set _ _ _ _⟩
theorem rdU_stop (f i x : Nat) (bs : List Int) (q : Nat) (h : f + i = 11) (hbad : bs.length ≤ q ∨ 9 < i ∨ (i = 9 ∧ 1 < bs.getD q 0) ∨ (0 < i ∧ bs.getD q 0 = 0)) : rdF f i x bs q = none := rdF_bad f i x bs q hbad
theorem key_rd (i v : Nat) : ((9 < i ∨ (i = 9 ∧ 1 < v) ∨ (0 < i ∧ v = 0)) ∧ (decide ((9 : Int) < (i : Int)) = true ∨ (decide ((9 : Int) < (i : Int)) = false ∧ ((i : Int) == 9) = true ∧ decide ((1 : Int) < (v : Int)) = true) ∨
            (decide ((9 : Int) < (i : Int)) = false ∧ ((i : Int) == 9) = true ∧ decide ((1 : Int) < (v : Int)) = false ∧ decide (0 < i) = true ∧ ((v : Int) == 0) = true) ∨
            (decide ((9 : Int) < (i : Int)) = false ∧ ((i : Int) == 9) = false ∧ decide (0 < i) = true ∧ ((v : Int) == 0) = true))) ∨
          ((¬(9 < i ∨ (i = 9 ∧ 1 < v) ∨ (0 < i ∧ v = 0))) ∧ ((decide ((9 : Int) < (i : Int)) = false ∧ ((i : Int) == 9) = true ∧ decide ((1 : Int) < (v : Int)) = false ∧ decide (0 < i) = true ∧ ((v : Int) == 0) = false) ∨
            (decide ((9 : Int) < (i : Int)) = false ∧ ((i : Int) == 9) = false ∧ decide (0 < i) = true ∧ ((v : Int) == 0) = false) ∨
            (decide ((9 : Int) < (i : Int)) = false ∧ ((i : Int) == 9) = false ∧ decide (0 < i) = false))) := by
  have e1 : decide ((9 : Int) < (i : Int)) = decide (9 < i) := by simp; omega
  have e2 : ((i : Int) == 9) = decide (i = 9) := by rw [Bool.eq_iff_iff]; simp; omega
  have e3 : decide ((1 : Int) < (v : Int)) = decide (1 < v) := by simp; omega
  have e5 : ((v : Int) == 0) = decide (v = 0) := by rw [Bool.eq_iff_iff]; simp
  rw [e1, e2, e3, e5]
  by_cases a : 9 < i <;> by_cases b : i = 9 <;> by_cases c : 1 < v <;> by_cases d : 0 < i <;> by_cases e : v = 0 <;> simp only [a, b, c, d, e] <;> first | omega | simp
theorem step_bd (x d i : Nat) (hx : x < 2 ^ (7 * i)) (hd : d ≤ 127) (hi : i ≤ 8 ∨ (i = 9 ∧ d ≤ 1)) : d * 2 ^ (7 * i) < 18446744073709551616 ∧ x + d * 2 ^ (7 * i) < 18446744073709551616 ∧ (i ≤ 8 → x + d * 2 ^ (7 * i) < 2 ^ (7 * (i + 1))) := by
  rcases hi with hi | ⟨rfl, hd1⟩
  · have h1 : d * 2 ^ (7 * i) ≤ 127 * 2 ^ (7 * i) := Nat.mul_le_mul_right _ hd
    have h2 : (2 : Nat) ^ (7 * i) ≤ 2 ^ 56 := Nat.pow_le_pow_right (by omega) (by omega)
    have h3 : (2 : Nat) ^ (7 * (i + 1)) = 2 ^ (7 * i) * 128 := by rw [show 7 * (i + 1) = 7 * i + 7 by omega, Nat.pow_add]
    generalize (2 : Nat) ^ (7 * i) = P at *
    generalize d * P = E at *
    have h4 : (2 : Nat) ^ 56 = 72057594037927936 := by decide
    rw [h4] at h2
    exact ⟨by omega, by omega, fun _ => by omega⟩
  · have h4 : (2 : Nat) ^ (7 * 9) = 9223372036854775808 := by simp
    have hx2 : x < 9223372036854775808 := Nat.lt_of_lt_of_eq hx h4
    have h1 : d * 2 ^ (7 * 9) ≤ 9223372036854775808 := by
      have := Nat.mul_le_mul_right (2 ^ (7 * 9)) hd1
      rw [Nat.one_mul] at this
      exact Nat.le_trans this (Nat.le_of_eq h4)
    generalize d * 2 ^ (7 * 9) = E at *
    clear hx h4
    exact ⟨by omega, by omega, fun h => absurd h (by omega)⟩
set_option maxHeartbeats 6400000 in
set_option maxRecDepth 100000 in
theorem rnum_go {g D c : Nat} {A : Option Addr} {bs : List Int} (p : Nat) (w : World) (h : ROk w g A c D bs (some p)) (hbs : ∀ x ∈ bs, Byte x) (hl : bs.length ≤ 9223372036854775807) :
    Calls Tryd.prog 71 #[.pointer (some ⟨g, 0, none⟩)] w fun e w' => e = .returned (.int .i64 (rdS bs (some p)).1) ∧ ROk w' g A c D bs (rdS bs (some p)).2 ∧ w.grownBy w' (some g) := by
  obtain ⟨q0, hq0, hq0l, hqp⟩ := h.blk
  obtain rfl := hqp p rfl
  have hR : rdS bs (some q0) = toRS (rdU bs q0) := rfl
  rw [hR]
  generalize hRu : rdU bs q0 = R at *
  have hRF := hRu
  unfold rdU at hRF
  have hrd := h.rd
  have hfar := h.far
  replace hrd := Lib.hid hrd
  replace hfar := Lib.hid hfar
  have HB := Lib.hid hbs
  replace hRF := Lib.hid hRF
  replace hq0 := Lib.hid hq0
  clear h hbs hR hRu hqp
  go_enter Tryd.func71, Tryd.ntmps71
  go_wp2_with fail
  go_loopw [3, 4, 5] (fun x i _ wr => RNum w g A c D bs R x i wr) (fun _ i _ _ => 11 - (intOf i).toNat)
  case atStart => exact ⟨0, 0, q0, 11, 0, rfl, rfl, Lib.hid rfl, Lib.hid ⟨rfl, by simp, by simp⟩, by omega, hq0l, hRF, hq0.out, hrd, World.grownBy.refl _ _⟩
  case round =>
    obtain ⟨i, x, q, f, X, rfl, rfl, hX, hif, hi, hql, hF, hB, hr, hgr⟩ := hrel
    have hlt := hB.lt
    have c0 : wr.cell? ⟨g, 0, none⟩ = some (.slice A bs.length c) := hB.cell 0
    have c1 : wr.cell? ⟨g, 1, none⟩ = some (.int .i64 q) := hB.cell 1
    have c2 : wr.cell? ⟨g, 2, none⟩ = some (.bool false) := hB.cell 2
    have f1 := hB.frozen 1
    have f2 := hB.frozen 2
    have f2b : ∀ n, (wr.drewN n).frozen? ⟨g, 2, none⟩ = false := fun n => f2
    replace hgr := Lib.hid hgr
    replace hB := Lib.hid hB
    have stop : rdF f i x bs q = none → ∀ n, (0 : Int) = (toRS R).1 ∧ ROk ((wr.drewN n).setCell ⟨g, 2, none⟩ (.bool true)) g A c D bs (toRS R).2 ∧ w.grownBy ((wr.drewN n).setCell ⟨g, 2, none⟩ (.bool true)) (some g) := fun hn n => by
      rw [hF.out] at hn
      subst hn
      exact ⟨rfl, ROk.mk' true ((hB.out.drewN n).set_ 2 (.bool true)) rfl hql (fun p h => by cases h) ((hr.out.drewN n).setFar g 2 _ hfar.out) hfar.out, grownBy_trans (grown_drewN hgr.out n) (grownBy_set _ _ _ _)⟩
    replace stop := Lib.hid stop
    by_cases h1 : bs.length ≤ q
    · have d1 : decide ((bs.length : Int) ≤ (q : Int)) = true := by simp; omega
      have d1' : decide (bs.length ≤ q) = true := by simp; omega
      have hs := stop.out (rdF_bad f i x bs q (.inl h1))
      replace hs := Lib.hid hs
      go_wp2_with fail
      go_big_quiet (fail)
      go_wp2_with fail
      go_ret
      obtain ⟨s1, s2, s3⟩ := hs.out _
      exact ⟨by rw [← s1]; rfl, s2, s3⟩
    · obtain ⟨b, o, hA, hbl⟩ := RD.addr hr.out (show 0 < bs.length by omega)
      have hc := RD.at_ hr.out hA (j := q) (by omega)
      have hv0 := HB.out _ (List.getElem_mem (show q < bs.length by omega))
      rw [List.getElem?_map, List.getElem?_eq_getElem (show q < bs.length by omega)] at hc
      simp only [Option.map_some] at hc
      have hgd : bs.getD q 0 = bs[q] := by rw [List.getD_eq_getElem?_getD, List.getElem?_eq_getElem (show q < bs.length by omega)]; rfl
      obtain ⟨v, hv⟩ : ∃ v : Nat, bs[q] = (v : Int) := ⟨bs[q].toNat, by unfold Byte at hv0; omega⟩
      rw [hv] at hc hgd hv0
      have hv255 : v ≤ 255 := by unfold Byte at hv0; omega
      clear hv0 hv
      have i1 : (q : Int) < (bs.length : Int) := by omega
      have i2 : q < bs.length := by omega
      have d1 : decide ((bs.length : Int) ≤ (q : Int)) = false := by simp; omega
      have d1' : decide (bs.length ≤ q) = false := by simp; omega
      have g0 : g ≠ b := (hfar.out b o hA (by omega)).symm
      subst hA
      have key := key_rd i v
      rcases key with ⟨hbad, hk⟩ | ⟨hgood, hk⟩
      · have hs := stop.out (rdF_bad f i x bs q (by rw [hgd]; omega))
        replace hs := Lib.hid hs
        clear hbad
        rcases hk with hk | ⟨hk, hk2, hk3⟩ | ⟨hk, hk2, hk3, hk4, hk5⟩ | ⟨hk, hk2, hk3, hk4⟩
        all_goals
          go_wp2_with fail
          go_big_quiet (fail)
          go_wp2_with fail
          go_ret
          obtain ⟨s1, s2, s3⟩ := hs.out _
          exact ⟨by rw [← s1]; rfl, s2, s3⟩
      · have hnb : ¬(bs.length ≤ q ∨ 9 < i ∨ (i = 9 ∧ 1 < bs.getD q 0) ∨ (0 < i ∧ bs.getD q 0 = 0)) := by rw [hgd]; omega
        obtain ⟨f', rfl⟩ : ∃ f', f = f' + 1 := ⟨f - 1, by have := hif.out; omega⟩
        have hd9 : i ≤ 8 ∨ (i = 9 ∧ v % 128 ≤ 1) := by omega
        have hbd := step_bd x (v % 128) i hif.out.2.1 (by omega) hd9
        have hD : bits .or .u64 X (IntKind.u64.wrap (IntKind.u64.wrap (bits .and .u8 (v : Int) 127) * 2 ^ (7 * i))) = ((x + v % 128 * 2 ^ (7 * i) : Nat) : Int) := by
          have e2 : IntKind.u64.wrap ((v % 128 : Nat) : Int) = ((v % 128 : Nat) : Int) := by rw [IntKind.wrap_u64]; omega
          rw [hX.out, and127 v (by omega), e2]
          exact or_shift x (v % 128) i hif.out.2.1 hbd.1 hif.out.2.2
        have hB3 : ∀ n, Blk ((wr.drewN n).setCell ⟨g, 1, none⟩ (.int .i64 ((q : Int) + 1))) g 129 #[.slice (some ⟨b, o, none⟩) bs.length c, .int .i64 ((q + 1 : Nat) : Int), .bool false] := fun n => (hB.out.drewN n).set_ 1 _
        have hr3 : ∀ n, RD ((wr.drewN n).setCell ⟨g, 1, none⟩ (.int .i64 ((q : Int) + 1))) D 1 (some ⟨b, o, none⟩) bs.length (bs.map (.int .u8)) := fun n => (hr.out.drewN n).setFar g 1 _ hfar.out
        have hg3 : ∀ n, w.grownBy ((wr.drewN n).setCell ⟨g, 1, none⟩ (.int .i64 ((q : Int) + 1))) (some g) := fun n => grownBy_trans (grown_drewN hgr.out n) (grownBy_set _ _ _ _)
        replace hB3 := Lib.hid hB3
        replace hr3 := Lib.hid hr3
        replace hg3 := Lib.hid hg3
        by_cases hlo : v < 128
        · have hF2 := hF.out
          rw [rdF_end f' i x bs q hnb (by rw [hgd]; omega), hgd, Int.toNat_natCast, pow7] at hF2
          have hfin : bits .xor .i64 (Go.RowKit.wrap64 (bits .or .u64 X (IntKind.u64.wrap (IntKind.u64.wrap (bits .and .u8 (v : Int) 127) * 2 ^ (7 * i))) / 2)) (Go.RowKit.wrap64 (-(Go.RowKit.wrap64 (bits .and .u64 (bits .or .u64 X (IntKind.u64.wrap (IntKind.u64.wrap (bits .and .u8 (v : Int) 127) * 2 ^ (7 * i)))) 1)))) = (toRS R).1 := by
            rw [hD, ← IntWalk.i64_left, ← IntWalk.i64_left, ← IntWalk.i64_left, unz_bits _ hbd.2.1, ← hF2, Nat.mod_eq_of_lt hlo]; rfl
          have hS2 : (toRS R).2 = some (q + 1) := by rw [← hF2]; rfl
          replace hF2 := Lib.hid hF2
          replace hnb := Lib.hid hnb
          replace hgood := Lib.hid hgood
          replace hD := Lib.hid hD
          replace hbd := Lib.hid hbd
          replace hfin := Lib.hid hfin
          replace hS2 := Lib.hid hS2
          rcases hk with ⟨hk, hk2, hk3, hk4, hk5⟩ | ⟨hk, hk2, hk3, hk4⟩ | ⟨hk, hk2, hk3⟩
          all_goals
            go_wp2_with fail
            go_big_quiet (fail)
            go_wp2_with fail
            go_big_quiet (fail)
            go_wp2_with fail
            go_ret
            refine ⟨congrArg (fun z => Ending.returned (Value.int .i64 z)) hfin.out, ?_, hg3.out _⟩
            rw [hS2.out]
            exact ROk.mk' false (hB3.out _) rfl (by omega) (fun p h => by injection h) (hr3.out _) hfar.out
        · have hF2 := hF.out
          rw [rdF_more f' i x bs q hnb (by rw [hgd]; omega), hgd, Int.toNat_natCast, pow7, show v - 128 = v % 128 by omega] at hF2
          have hI8 : i ≤ 8 := by omega
          have hnx := hbd.2.2 hI8
          have hF3 := Lib.hid hF2
          clear hF2
          replace hnb := Lib.hid hnb
          replace hgood := Lib.hid hgood
          replace hbd := Lib.hid hbd
          replace hnx := Lib.hid hnx
          replace hD := Lib.hid hD
          rcases hk with ⟨hk, hk2, hk3, hk4, hk5⟩ | ⟨hk, hk2, hk3, hk4⟩ | ⟨hk, hk2, hk3⟩
          · exfalso; simp at hk2; omega
          all_goals
            go_wp2_with fail
            go_big_quiet (fail)
            go_wp2_with fail
            go_big_quiet (fail)
            go_wp2_with fail
            go_roundw
            case rel =>
              exact ⟨i + 1, x + v % 128 * 2 ^ (7 * i), q + 1, f', _, by go_num, rfl, hD, Lib.hid ⟨by have := hif.out.1; omega, hnx.out, hbd.out.2.1⟩, by omega, by omega, hF3, hB3.out _, Lib.hid (hr3.out _), hg3.out _⟩
            case measure => simp [intOf]; omega
end Go.Proofs.YtkngommlclcikaaDoor
