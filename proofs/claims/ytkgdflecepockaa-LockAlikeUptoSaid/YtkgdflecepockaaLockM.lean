import Derived.Test.YtkgdflecepockaaLockSend
import Derived.Laws.StructEq
namespace Go.Proofs.Ytkgdflecepockaa
set_option linter.unusedVariables false
open Go.RowKit
set_option maxHeartbeats 800000 in
set_option maxRecDepth 100000 in
theorem ordersEq_any (A A' : Option Addr) (c c' B : Nat) (L : List Od) (w : World) (h : RO w B A L) (h' : RO w B A' L) (hL : L.length ≤ 1000000000) (hB : B ≤ w.heap.size) :
    Calls Try.prog 15 #[.slice A L.length c, .slice A' L.length c'] w fun e w' => e = .returned (.bool true) ∧ Below w.heap.size w w' := by
  have H := Lib.hid h
  have H' := Lib.hid h'
  clear h h'
  go_enter Try.func15, Try.ntmps15
  go_wp2_with fail
  go_loopw [5] (fun vi wr => ∃ k : Nat, vi = .int .i64 k ∧ k ≤ L.length ∧ Hid (Below w.heap.size w wr)) (fun vi _ => L.length - (intOf vi).toNat)
  case atStart => exact ⟨0, rfl, Nat.zero_le _, Lib.hid (Below.refl _ _)⟩
  case round =>
    obtain ⟨k, rfl, hk, hb⟩ := hrel
    by_cases hlt : k < L.length
    · have hs := hb.out.size
      obtain ⟨b, o, hA, hbB, e0, e1, e2, e3⟩ := ro_at (H.out.below (hb.out.mono hB)) k hlt
      obtain ⟨b', o', hA', hbB', f0, f1, f2, f3⟩ := ro_at (H'.out.below (hb.out.mono hB)) k hlt
      subst hA
      subst hA'
      have j1 : (k : Int) < (L.length : Int) := by omega
      have j2 : 0 ≤ (k : Int) := by omega
      have hlb : b < wr.heap.size := by omega
      have hlb' : b' < wr.heap.size := by omega
      generalize od L k = x at *
      obtain ⟨x1, x2, x3, x4⟩ := x
      dsimp only at *
      go_wp2_with fail
      go_quiet (fail)
      go_wp2_with fail
      go_roundw
      case rel => exact ⟨k + 1, by go_num, by omega, Lib.hid (bdrewN hb.out _)⟩
      case measure => simp [intOf]; omega
    · have j1 : ¬ (k : Int) < (L.length : Int) := by omega
      go_wp2_with fail
      go_ret
      exact ⟨rfl, hb.out⟩
/-- The orders of one player. -/
def mineL (L : List Od) (p : Int) : List Od := L.filter fun o => o.player == p
theorem mineL_s (L : List Od) (p : Int) (k : Nat) (h : k < L.length) : mineL (L.take (k + 1)) p = mineL (L.take k) p ++ if ((od L k).player == p) = true then [od L k] else [] := by
  unfold mineL
  rw [List.take_succ_eq_append_getElem h, List.filter_append]
  have : od L k = L[k] := by unfold od; rw [List.getD_eq_getElem?_getD, List.getElem?_eq_getElem h]; rfl
  rw [this]
  by_cases g : (L[k].player == p) = true <;> simp [g]
theorem mineL_len (L : List Od) (p : Int) (k : Nat) : (mineL (L.take k) p).length ≤ k := Nat.le_trans (List.length_filter_le _ _) (List.length_take_le _ _)
/-- What the closure's loop has so far. -/
def MRel (w : World) (L : List Od) (p : Int) (k : Nat) (v : Value) (wr : World) : Prop :=
  Below w.heap.size w wr ∧ wr.ownsRow w.heap.size 28 4 v (mineL (L.take k) p).length ((mineL (L.take k) p).flatMap oC)
set_option maxHeartbeats 1600000 in
set_option maxRecDepth 100000 in
theorem mine_any (tb B t tn tc : Nat) (p : Int) (TA : Option Addr) (rows : List RW) (w : World) (hc : w.cell? ⟨tb, 0, none⟩ = some (.slice TA tn tc)) (htb : tb < w.heap.size) (hB : B ≤ w.heap.size) (hrd : RD w B 1 TA tn (rows.map RW.v)) (hrn : rows.length = tn) (hok : ∀ r ∈ rows, r.ok w B) (ht : t < tn) (htn : tn ≤ 1000000000) (L : List Od) (hL : (rows.map RW.L)[t]? = some L) (hl : L.length ≤ 1000000000) :
    Calls Try.prog 14 #[.int .i64 (t : Int), .int .i64 p, .pointer (some ⟨tb, 0, none⟩)] w fun e w' => ∃ v, e = .returned v ∧ w'.ownsRow w.heap.size 28 4 v (mineL L p).length ((mineL L p).flatMap oC) ∧ Below w.heap.size w w' := by
  obtain ⟨i0, hi0, hz0, hz1, hz2⟩ := info_parts ord_info
  subst hrn
  obtain ⟨b, o, hA, hbl⟩ := hrd.addr (by omega)
  have hcr := hrd.at_ hA (j := t) (by omega)
  rw [List.getElem?_map, List.getElem?_eq_getElem ht] at hcr
  simp only [Option.map_some] at hcr
  rw [List.getElem?_map, List.getElem?_eq_getElem ht] at hL
  simp only [Option.map_some, Option.some.injEq] at hL
  have hro := hok rows[t] (List.getElem_mem ht)
  generalize rows[t] = r at *
  obtain ⟨rA, rc, rL⟩ := r
  dsimp only at hL
  subst hL
  obtain ⟨hr1, hr2⟩ := hro
  dsimp only [RW.v] at hcr hr1 hr2
  subst hA
  have hi1 : (t : Int) < (rows.length : Int) := by omega
  have hbw : b < w.heap.size := by omega
  replace hc := Lib.hid hc
  replace hcr := Lib.hid hcr
  replace hrd := Lib.hid hrd
  replace hok := Lib.hid hok
  replace hr1 := Lib.hid hr1
  replace hr2 := Lib.hid hr2
  go_enter Try.func14, Try.ntmps14
  go_wp2_with fail
  go_loopw [6, 7] (fun v vi wr => ∃ k : Nat, vi = .int .i64 k ∧ k ≤ rL.length ∧ Hid (MRel w rL p k v wr)) (fun _ vi _ => rL.length - (intOf vi).toNat)
  case atStart => exact ⟨0, rfl, Nat.zero_le _, Lib.hid ⟨Below.refl _ _, World.ownsRow_nil _ _ _ _⟩⟩
  case round =>
    obtain ⟨k, rfl, hk, hM⟩ := hrel
    obtain ⟨hb, hown⟩ := hM.out
    clear hM
    have hc1 := (hb.cell (p := ⟨tb, 0, none⟩) htb).trans hc.out
    have hc2 := (hb.cell (p := ⟨b, o + t, none⟩) hbw).trans hcr.out
    have hs := hb.size
    have hml := mineL_len rL p k
    replace hown := Lib.hid hown
    by_cases hlt : k < rL.length
    · have i1 : (k : Int) < (rL.length : Int) := by omega
      obtain ⟨b2, o2, hA2, hbl2, d0, d1, d2, d3⟩ := ro_at (hr1.out.below (hb.mono hB)) k hlt
      have hms := mineL_s rL p k hlt
      subst hA2
      generalize od rL k = x at *
      replace hb := Lib.hid hb
      cases hx : (x.player == p) with
      | true =>
        rw [if_pos hx] at hms
        replace hms := Lib.hid hms
        generalize hq : mineL (rL.take k) p = q at *
        replace hq := Lib.hid hq
        go_wp2_with (at_builtin; refine wpList_app1 rfl (.tmp 27) (.tmp 35) 22 rfl w.heap.size 28 i0 _ 4 32 Try.underlying22 hi0 hz0 hz1 hz2 rfl (by decide) (by decide) wr #[.int .i64 x.player, .int .i64 x.unit, .int .i64 x.what, .int .i64 x.arg] u6 q.length _ rfl hown.out rfl rfl rfl (by omega) hs ?_; intro v' w9 hown' hgrow)
        have hM9 : MRel w rL p (k + 1) v' w9 := ⟨hb.out.grown hgrow hs (fun b e => (hown.out.lt b e).1), by rw [hms.out, List.length_append, List.flatMap_append]; exact hown'⟩
        replace hM9 := Lib.hid hM9
        clear hown' hgrow d0 d1 d2 d3 hc1 hc2
        go_wp2_with fail
        go_roundw
        case rel => exact ⟨k + 1, by go_num, by omega, hM9⟩
        case measure => simp [intOf]; omega
      | false =>
        rw [if_neg (by rw [hx]; simp), List.append_nil] at hms
        have hM9 : MRel w rL p (k + 1) u6 wr := ⟨hb.out, by rw [hms]; exact hown.out⟩
        replace hM9 := Lib.hid hM9
        replace hms := Lib.hid hms
        go_wp2_with fail
        go_roundw
        case rel => exact ⟨k + 1, by go_num, by omega, hM9⟩
        case measure => simp [intOf]; omega
    · have i1 : ¬ (k : Int) < (rL.length : Int) := by omega
      have hown2 := hown.out
      rw [List.take_of_length_le (by omega)] at hown2
      replace hown2 := Lib.hid hown2
      replace hb := Lib.hid hb
      go_wp2_with fail
      go_ret
      exact ⟨_, rfl, hown2.out, hb.out⟩
end Go.Proofs.Ytkgdflecepockaa
