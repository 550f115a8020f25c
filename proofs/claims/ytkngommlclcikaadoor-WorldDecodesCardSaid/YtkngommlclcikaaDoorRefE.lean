import Derived.Test.YtkngommlclcikaaDoorRefD
import Derived.Test.YtkngommlclcikaaDoorDec
namespace Go.Proofs.YtkngommlclcikaaDoor
set_option linter.unusedVariables false
open Go.RowKit
set_option maxHeartbeats 1600000 in
set_option maxRecDepth 100000 in
theorem dmany_any {g D c : Nat} {A : Option Addr} {bs : List Int} (st : Option Nat) (most : Int) (w : World) (h : DOk w g A c D bs st) (hbs : ∀ x ∈ bs, Byte x) (hl : bs.length ≤ 9223372036854775807) :
    Calls Tryd.prog 70 #[.pointer (some ⟨g, 0, none⟩), .int .i64 most] w fun e w' => e = .returned (.int .i64 (rdM bs st most).1) ∧ DOk w' g A c D bs (rdM bs st most).2 ∧ w.grownBy w' (some g) := by
  have H := Lib.hid h
  have HB := Lib.hid hbs
  clear h hbs
  generalize hM : rdM bs st most = M at *
  replace hM := Lib.hid hM
  go_enter Tryd.func70, Tryd.ntmps70
  go_wp2_with fail
  refine (dnum_any st w H.out HB.out hl).mono ?_
  rintro e w1 ⟨rfl, ho, hg⟩
  by_cases hb : (rdS bs st).1 < 0 ∨ most < (rdS bs st).1
  · have hm : M = (0, none) := hM.out.symm.trans (rdM_bad bs st most hb)
    replace hm := Lib.hid hm
    obtain ⟨q, hq, hql, _⟩ := ho.blk
    have hrd := ho.rd
    have hfar := ho.far
    replace hrd := Lib.hid hrd
    replace hfar := Lib.hid hfar
    replace hg := Lib.hid hg
    clear ho
    generalize hv : (rdS bs st).1 = v at *
    replace hv := Lib.hid hv
    have c2 := hq.cell 2
    have f2 := hq.frozen 2
    have hlt := hq.lt
    replace hq := Lib.hid hq
    have fin : (0 : Int) = 0 ∧ DOk (w1.setCell ⟨g, 2, none⟩ (.bool true)) g A c D bs none ∧ w.grownBy (w1.setCell ⟨g, 2, none⟩ (.bool true)) (some g) :=
      ⟨rfl, ROkT.mk' true (hq.out.set_ 2 (.bool true)) rfl hql (fun p h => by cases h) (hrd.out.setFar g 2 _ hfar.out) hfar.out, grownBy_trans hg.out (grownBy_set _ _ _ _)⟩
    replace fin := Lib.hid fin
    by_cases h0 : v < 0
    · have d1 : decide (v < 0) = true := by simp; omega
      replace hb := Lib.hid hb
      go_wp2_with fail
      go_ret
      exact ⟨by rw [hm.out]; rfl, by rw [hm.out]; exact fin.out.2.1, fin.out.2.2⟩
    · have d1 : decide (v < 0) = false := by simp; omega
      have d2 : decide (most < v) = true := by simp; omega
      replace hb := Lib.hid hb
      go_wp2_with fail
      go_ret
      exact ⟨by rw [hm.out]; rfl, by rw [hm.out]; exact fin.out.2.1, fin.out.2.2⟩
  · have hm : M = rdS bs st := hM.out.symm.trans (rdM_ok bs st most hb)
    replace hm := Lib.hid hm
    replace hg := Lib.hid hg
    replace ho := Lib.hid ho
    generalize hv : rdS bs st = v at *
    replace hv := Lib.hid hv
    have d1 : decide (v.1 < 0) = false := by simp; omega
    have d2 : decide (most < v.1) = false := by simp; omega
    replace hb := Lib.hid hb
    go_wp2_with fail
    go_ret
    exact ⟨by rw [hm.out]; rfl, by rw [hm.out]; exact ho.out, hg.out⟩
theorem rdNs_stays {bs : List Int} {st : Option Nat} {k : Nat} (h : (rdNs bs st k).2 = none) : ∀ {n : Nat}, k ≤ n → (rdNs bs st n).2 = none
  | 0, hn => by obtain rfl : k = 0 := by omega
                exact h
  | n + 1, hn => by
    rcases Nat.lt_or_ge n k with h1 | h1
    · obtain rfl : k = n + 1 := by omega
      exact h
    · rw [rdNs, rdNs_stays h h1]; rfl
set_option maxHeartbeats 3200000 in
set_option maxRecDepth 100000 in
theorem dlist_any {g D c : Nat} {A : Option Addr} {bs : List Int} (st : Option Nat) (w : World) (h : DOk w g A c D bs st) (hbs : ∀ x ∈ bs, Byte x) (hl : bs.length ≤ 9223372036854775807) (hD : D ≤ w.heap.size) :
    Calls Tryd.prog 69 #[.pointer (some ⟨g, 0, none⟩)] w fun e w' => ∃ v, ∃ l : List Int, e = .returned v ∧ l.length ≤ 200 ∧ w'.ownsRow w.heap.size 3 1 v l.length (l.map (.int .i64)) ∧ DOk w' g A c D bs (rdLs bs st).2 ∧ w.grownBy w' (some g) ∧ ((rdLs bs st).2 ≠ none → l = (rdLs bs st).1) := by
  obtain ⟨i0, hi0, hz0, hz1, hz2⟩ := info_parts list_info
  have H := Lib.hid h
  have HB := Lib.hid hbs
  have hgl := h.lt
  have hAlt : ∀ b o, A = some ⟨b, o, none⟩ → 0 < bs.length → b < w.heap.size := fun b o e hp => by
    obtain ⟨b', o', e', hlt, _⟩ := h.rd.2 hp
    rw [e] at e'
    injection e' with e'
    injection e' with e1 e2
    omega
  replace hAlt := Lib.hid hAlt
  clear h hbs
  have hbd := rdM_bd bs st
  have hR : rdLs bs st = rdNs bs (rdM bs st 200).2 (rdM bs st 200).1.toNat := rfl
  have hm := dmany_any st 200 w H.out HB.out hl
  generalize rdLs bs st = R at *
  generalize rdM bs st 200 = M at *
  obtain ⟨m, s0⟩ := M
  dsimp only at *
  obtain ⟨n, rfl⟩ : ∃ n : Nat, m = (n : Int) := ⟨m.toNat, by omega⟩
  rw [Int.toNat_natCast] at hR
  have hn : n ≤ 200 := by omega
  replace hR := Lib.hid hR
  replace hm := Lib.hid hm
  clear hbd
  go_enter Tryd.func69, Tryd.ntmps69
  go_wp2_with fail
  refine hm.out.mono ?_
  clear hm
  rintro e W1 ⟨rfl, ho, hg⟩
  have hs1 := hg.size
  replace ho := Lib.hid ho
  replace hg := Lib.hid hg
  go_wp2_with fail
  go_loopw [4, 5] (fun vl vi wr => ∃ k : Nat, vi = .int .i64 k ∧ k ≤ n ∧ Hid (wr.ownsRow w.heap.size 3 1 vl k ((rdNs bs s0 k).1.map (.int .i64))) ∧ Hid (DOk wr g A c D bs (rdNs bs s0 k).2) ∧ Hid (w.grownBy wr (some g))) (fun _ vi _ => n - (intOf vi).toNat)
  case atStart => exact ⟨0, rfl, Nat.zero_le _, Lib.hid (World.ownsRow_nil _ _ _ _), ho, hg⟩
  case round =>
    clear ho hg hs1
    obtain ⟨k, rfl, hk, hown, ho, hg⟩ := hrel
    have hs := hg.out.size
    obtain ⟨q, hq, _, _⟩ := ho.out.blk
    have lq := hq.lt
    have cq := hq.cell 2
    replace hq := Lib.hid hq
    by_cases hlt : k < n
    · have j1 : (k : Int) < (n : Int) := by omega
      cases hst : (rdNs bs s0 k).2 with
      | none =>
        rw [hst] at cq
        change wr.cell? ⟨g, 2, none⟩ = some (.bool true) at cq
        have hR2 : R.2 = none := by rw [hR.out]; exact rdNs_stays hst (by omega)
        have ho2 := ho.out
        rw [hst] at ho2
        replace ho2 := Lib.hid ho2
        replace hR2 := Lib.hid hR2
        replace hst := Lib.hid hst
        go_wp2_with fail
        go_ret
        exact ⟨_, (rdNs bs s0 k).1, rfl, by rw [rdNs_len]; omega, by rw [rdNs_len]; exact hown.out, by rw [hR2.out]; exact ho2.out, hg.out, fun h => absurd hR2.out h⟩
      | some pk =>
        rw [hst] at cq
        change wr.cell? ⟨g, 2, none⟩ = some (.bool false) at cq
        replace hst := Lib.hid hst
        have hnx : rdNs bs s0 (k + 1) = ((rdNs bs s0 k).1 ++ [(rdS bs (rdNs bs s0 k).2).1], (rdS bs (rdNs bs s0 k).2).2) := rfl
        have hc := dnum_any (rdNs bs s0 k).2 wr ho.out HB.out hl
        generalize rdS bs (rdNs bs s0 k).2 = r at *
        obtain ⟨x, s1⟩ := r
        dsimp only at *
        have hx1 : (rdNs bs s0 (k + 1)).1.map (Value.int .i64) = (rdNs bs s0 k).1.map (.int .i64) ++ [.int .i64 x] := by rw [hnx]; simp
        have hx2 : (rdNs bs s0 (k + 1)).2 = s1 := by rw [hnx]
        replace hx1 := Lib.hid hx1
        replace hx2 := Lib.hid hx2
        replace hc := Lib.hid hc
        clear hnx
        go_wp2_with fail
        refine hc.out.mono ?_
        clear hc
        rintro e W2 ⟨rfl, ho2, hg2⟩
        have hs2 := hg2.size
        have hown2 := hown.out.kept hg2 (by cases hv : u4.ownBlock with
          | none => exact .inl rfl
          | some b => exact .inr (fun e => by injection e with e; have := (hown.out.lt b hv).1; omega))
        have hgg := grownBy_trans hg.out hg2
        replace ho2 := Lib.hid ho2
        replace hown2 := Lib.hid hown2
        replace hgg := Lib.hid hgg
        clear hown ho hg hg2 hq cq lq
        generalize (rdNs bs s0 k).1.map (Value.int .i64) = cs at *
        go_wp2_with (at_builtin; refine wpList_app1 rfl (.tmp 23) (.tmp 25) 23 rfl w.heap.size 3 i0 _ 1 8 Tryd.underlying23 hi0 hz0 hz1 hz2 rfl (by decide) (by decide) W2 #[.int .i64 x] u4 k cs rfl hown2.out rfl rfl rfl (by omega) (by omega) ?_; intro v' W3 hown' hgrow)
        have hob : ∀ b, u4.ownBlock = some b → w.heap.size ≤ b := fun b hv => (hown2.out.lt b hv).1
        have ho3 := ho2.out.grown hgrow (fun e => by have := hob _ e; omega) (fun b o e hp e' => by have h1 := hAlt.out b o e hp; have h2 := hob _ e'; omega)
        have hg3 : w.grownBy W3 (some g) := ⟨hgrow.os.trans hgg.out.os, hgrow.tape.trans hgg.out.tape, hgrow.output.trans hgg.out.output, Nat.le_trans hgg.out.size hgrow.size, fun x hx hne => (hgrow.block x (by have := hgg.out.size; omega) (fun e => by have := hob x e.symm; omega)).trans (hgg.out.block x hx hne)⟩
        replace ho3 := Lib.hid ho3
        replace hg3 := Lib.hid hg3
        replace hown' := Lib.hid hown'
        clear hgrow
        go_wp2_with fail
        go_roundw
        case rel => exact ⟨k + 1, by go_num, by omega, Lib.hid (by rw [hx1.out]; exact hown'.out), Lib.hid (by rw [hx2.out]; exact ho3.out), hg3⟩
        case measure => simp [intOf]; omega
    · have j1 : ¬ (k : Int) < (n : Int) := by omega
      have hkn : n = k := by omega
      have hfin : wr.ownsRow w.heap.size 3 1 u4 R.1.length (R.1.map (.int .i64)) ∧ DOk wr g A c D bs R.2 ∧ R.1.length ≤ 200 := by
        rw [hR.out, hkn, rdNs_len]
        exact ⟨hown.out, ho.out, by omega⟩
      replace hfin := Lib.hid hfin
      clear hown ho hq cq
      go_wp2_with fail
      go_ret
      exact ⟨u4, rfl, R.1, hfin.out.2.2, hfin.out.1, hfin.out.2.1, hg.out, fun _ => rfl⟩
end Go.Proofs.YtkngommlclcikaaDoor
