import Derived.Test.YtkngommlclcikaaDoorReader
namespace Go.Proofs.YtkngommlclcikaaDoor
set_option linter.unusedVariables false
open Go.RowKit
theorem rdM_bad (bs : List Int) (st : Option Nat) (most : Int) (h : (rdS bs st).1 < 0 ∨ most < (rdS bs st).1) : rdM bs st most = (0, none) := if_pos h
theorem rdM_ok (bs : List Int) (st : Option Nat) (most : Int) (h : ¬((rdS bs st).1 < 0 ∨ most < (rdS bs st).1)) : rdM bs st most = rdS bs st := if_neg h
theorem rnum_any {g D c : Nat} {A : Option Addr} {bs : List Int} (st : Option Nat) (w : World) (h : ROk w g A c D bs st) (hbs : ∀ x ∈ bs, Byte x) (hl : bs.length ≤ 9223372036854775807) :
    Calls Tryd.prog 71 #[.pointer (some ⟨g, 0, none⟩)] w fun e w' => e = .returned (.int .i64 (rdS bs st).1) ∧ ROk w' g A c D bs (rdS bs st).2 ∧ w.grownBy w' (some g) := by
  cases st with
  | none => exact rnum_bad w h
  | some p => exact rnum_go p w h hbs hl
set_option maxHeartbeats 1600000 in
set_option maxRecDepth 100000 in
theorem many_any {g D c : Nat} {A : Option Addr} {bs : List Int} (st : Option Nat) (most : Int) (w : World) (h : ROk w g A c D bs st) (hbs : ∀ x ∈ bs, Byte x) (hl : bs.length ≤ 9223372036854775807) :
    Calls Tryd.prog 73 #[.pointer (some ⟨g, 0, none⟩), .int .i64 most] w fun e w' => e = .returned (.int .i64 (rdM bs st most).1) ∧ ROk w' g A c D bs (rdM bs st most).2 ∧ w.grownBy w' (some g) := by
  have H := Lib.hid h
  have HB := Lib.hid hbs
  clear h hbs
  generalize hM : rdM bs st most = M at *
  replace hM := Lib.hid hM
  go_enter Tryd.func73, Tryd.ntmps73
  go_wp2_with fail
  refine (rnum_any st w H.out HB.out hl).mono ?_
  rintro e w1 ⟨rfl, ho, hg⟩
  by_cases hb : (rdS bs st).1 < 0 ∨ most < (rdS bs st).1
  · have hm : M = (0, none) := hM.out.symm.trans (rdM_bad bs st most hb)
    replace hm := Lib.hid hm
    obtain ⟨q, hq, hql, _⟩ := ho.blk
    have hrd := ho.rd
    have hfar := ho.far
    replace hrd := Lib.hid hrd
    replace hfar := Lib.hid hfar
    replace hg := Lib.hid hg
    clear ho
    generalize hv : (rdS bs st).1 = v at *
    replace hv := Lib.hid hv
    have c2 := hq.cell 2
    have f2 := hq.frozen 2
    have hlt := hq.lt
    replace hq := Lib.hid hq
    have fin : (0 : Int) = 0 ∧ ROk (w1.setCell ⟨g, 2, none⟩ (.bool true)) g A c D bs none ∧ w.grownBy (w1.setCell ⟨g, 2, none⟩ (.bool true)) (some g) :=
      ⟨rfl, ROk.mk' true (hq.out.set_ 2 (.bool true)) rfl hql (fun p h => by cases h) (hrd.out.setFar g 2 _ hfar.out) hfar.out, grownBy_trans hg.out (grownBy_set _ _ _ _)⟩
    replace fin := Lib.hid fin
    by_cases h0 : v < 0
    · have d1 : decide (v < 0) = true := by simp; omega
      replace hb := Lib.hid hb
      go_wp2_with fail
      go_ret
      exact ⟨by rw [hm.out]; rfl, by rw [hm.out]; exact fin.out.2.1, fin.out.2.2⟩
    · have d1 : decide (v < 0) = false := by simp; omega
      have d2 : decide (most < v) = true := by simp; omega
      replace hb := Lib.hid hb
      go_wp2_with fail
      go_ret
      exact ⟨by rw [hm.out]; rfl, by rw [hm.out]; exact fin.out.2.1, fin.out.2.2⟩
  · have hm : M = rdS bs st := hM.out.symm.trans (rdM_ok bs st most hb)
    replace hm := Lib.hid hm
    replace hg := Lib.hid hg
    replace ho := Lib.hid ho
    generalize hv : rdS bs st = v at *
    replace hv := Lib.hid hv
    have d1 : decide (v.1 < 0) = false := by simp; omega
    have d2 : decide (most < v.1) = false := by simp; omega
    replace hb := Lib.hid hb
    go_wp2_with fail
    go_ret
    exact ⟨by rw [hm.out]; rfl, by rw [hm.out]; exact ho.out, hg.out⟩
end Go.Proofs.YtkngommlclcikaaDoor
