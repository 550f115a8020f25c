import Derived.Test.YtkgdflecepockaaDoorRefO
import Derived.Test.YtkgdflecepockaaDoorOrdC
import Derived.Test.YtkgdflecepockaaDoorPlainRL
import Derived.BigQuiet
import Derived.Deep.QuietTactic
import Derived.Deep.RegionHeld3
import Derived.Deep.CutBlock
import Derived.Deep.DeepCutAuto
namespace Go.Proofs.YtkgdflecepockaaDoor
set_option linter.unusedVariables false
open Go.RowKit
/-! The reference's Orders, behind, Last. -/
set_option maxHeartbeats 1600000 in
set_option maxRecDepth 100000 in
theorem rorders_any (A : Option Addr) (c B : Nat) (L : List Od) (w : World) (h : RO w B A L) (hB : B ≤ w.heap.size) (hl : L.length ≤ 9223372036854775807) :
    Calls Tryd.prog 46 #[.slice A L.length c] w fun e w' => e = .returned (.int .i64 (ordsE L)) ∧ Below w.heap.size w w' := by
  replace h := Lib.hid h
  by_cases hn : 60 < L.length
  · have hv : ordsE L = 4 := by unfold ordsE; rw [if_pos hn]
    have z1 : (60 : Int) < (L.length : Int) := by omega
    rw [hv]
    clear hv
    go_enter Tryd.func46, Tryd.ntmps46
    go_wp2_with fail
    go_ret
    exact ⟨rfl, Below.refl _ _⟩
  · have z1 : ¬ (60 : Int) < (L.length : Int) := by omega
    have hv : ordsE L = if ∀ o ∈ L, OdOk o then 0 else 1 := by unfold ordsE; rw [if_neg hn]
    replace hv := Lib.hid hv
    go_enter Tryd.func46, Tryd.ntmps46
    go_wp2_with fail
    go_loopw [3] (fun vi wr => ∃ k : Nat, vi = .int .i64 k ∧ k ≤ L.length ∧ Hid (∀ j, j < k → OdOk (od L j)) ∧ Hid (Below w.heap.size w wr)) (fun vi _ => L.length - (intOf vi).toNat)
    case atStart => exact ⟨0, rfl, Nat.zero_le _, Lib.hid (fun j h => by omega), Lib.hid (Below.refl _ _)⟩
    case round =>
      obtain ⟨k, rfl, hk, hok, hb⟩ := hrel
      by_cases hlt : k < L.length
      · have z2 : (k : Int) < (L.length : Int) := by omega
        obtain ⟨b, o, hA, hbl, c0, c1, c2, c3⟩ := ro_at (h.out.below (hb.out.mono hB)) k hlt
        subst hA
        have hs := hb.out.size
        have hro := rorder_any (od L k).player (od L k).unit (od L k).what (od L k).arg wr
        by_cases ho : OdOk (od L k)
        · have hok2 : Hid (∀ j, j < k + 1 → OdOk (od L j)) := Lib.hid (fun j hj => by
            rcases Nat.lt_or_ge j k with h1 | h1
            · exact hok.out j h1
            · obtain rfl : j = k := by omega
              exact ho)
          rw [show ordE ⟨(od L k).player, (od L k).unit, (od L k).what, (od L k).arg⟩ = 0 from if_pos ho] at hro
          replace ho := Lib.hid ho
          replace hro := Lib.hid hro
          clear hok
          go_wp2_with fail
          refine hro.out.mono ?_
          clear hro
          rintro e w1 ⟨rfl, hb1⟩
          have hb2 := hb.out.trans (hb1.mono hs)
          replace hb2 := Lib.hid hb2
          clear hb1 c0 c1 c2 c3
          go_wp2_with fail
          go_roundw
          case rel => exact ⟨k + 1, by go_num, by omega, hok2, hb2⟩
          case measure => simp [intOf]; omega
        · have hv1 : ordsE L = 1 := by
            rw [hv.out, if_neg (fun h => ho (h _ (od_mem hlt)))]
          rw [show ordE ⟨(od L k).player, (od L k).unit, (od L k).what, (od L k).arg⟩ = 1 from if_neg ho] at hro
          replace hv1 := Lib.hid hv1
          replace ho := Lib.hid ho
          replace hro := Lib.hid hro
          clear hok
          go_wp2_with fail
          refine hro.out.mono ?_
          clear hro
          rintro e w1 ⟨rfl, hb1⟩
          have hb2 := hb.out.trans (hb1.mono hs)
          replace hb2 := Lib.hid hb2
          clear hb1 c0 c1 c2 c3
          go_wp2_with fail
          go_ret
          exact ⟨by rw [hv1.out]; rfl, hb2.out⟩
      · have z2 : ¬ (k : Int) < (L.length : Int) := by omega
        have hv1 : ordsE L = 0 := by
          rw [hv.out, if_pos (fun o ho => by
            obtain ⟨i, hi⟩ := List.mem_iff_getElem?.1 ho
            have hil : i < L.length := (List.getElem?_eq_some_iff.1 hi).1
            rw [od_get hil] at hi
            injection hi with hi
            rw [← hi]
            exact hok.out i (by omega))]
        replace hv1 := Lib.hid hv1
        go_wp2_with fail
        go_ret
        exact ⟨by rw [hv1.out]; rfl, hb.out⟩
set_option maxRecDepth 100000 in
theorem behind_any (a b : Od) (w : World) : Calls Tryd.prog 59 #[.agg #[.int .i64 a.player, .int .i64 a.unit, .int .i64 a.what, .int .i64 a.arg], .agg #[.int .i64 b.player, .int .i64 b.unit, .int .i64 b.what, .int .i64 b.arg]] w fun e w' => e = .returned (.bool (bhd a b)) ∧ Below w.heap.size w w' := by
  obtain ⟨p, u, x, g⟩ := a
  obtain ⟨p', u', x', g'⟩ := b
  unfold bhd
  dsimp only
  by_cases h1 : p = p'
  · subst h1
    by_cases h2 : u = u'
    · subst h2
      rw [if_neg (by simp), if_neg (by simp)]
      by_cases h3 : x = 3
      · subst h3
        go_enter Tryd.func59, Tryd.ntmps59
        go_wp2_with fail
        go_ret
        exact ⟨by simp, ((Below.refl _ _).alloc (Nat.le_refl _) _).alloc (by simp) _⟩
      · have g3 : (x != 3) = true := by simp [h3]
        have e3 : decide (x ≠ 3) = true := by simp [h3]
        rw [e3, Bool.true_and]
        replace h3 := Lib.hid h3
        replace e3 := Lib.hid e3
        go_enter Tryd.func59, Tryd.ntmps59
        go_wp2_with fail
        go_ret
        exact ⟨by first | rfl | (congr 2; by_cases h4 : x' = 3 <;> simp [h4]), ((Below.refl _ _).alloc (Nat.le_refl _) _).alloc (by simp) _⟩
    · have g2 : (u != u') = true := by simp [h2]
      rw [if_neg (by simp), if_pos h2]
      replace h2 := Lib.hid h2
      go_enter Tryd.func59, Tryd.ntmps59
      go_wp2_with fail
      go_ret
      exact ⟨rfl, ((Below.refl _ _).alloc (Nat.le_refl _) _).alloc (by simp) _⟩
  · have g1 : (p != p') = true := by simp [h1]
    rw [if_pos h1]
    replace h1 := Lib.hid h1
    go_enter Tryd.func59, Tryd.ntmps59
    go_wp2_with fail
    go_ret
    exact ⟨rfl, ((Below.refl _ _).alloc (Nat.le_refl _) _).alloc (by simp) _⟩
end Go.Proofs.YtkgdflecepockaaDoor
