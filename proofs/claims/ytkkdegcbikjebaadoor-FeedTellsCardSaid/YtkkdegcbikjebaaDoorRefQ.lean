import Derived.Test.YtkkdegcbikjebaaDoorRefP
namespace Go.Proofs.YtkkdegcbikjebaaDoor
set_option linter.unusedVariables false
open Go.RowKit
/-- Bytes that are being written. -/
structure OB (w0 : World) (base m : Nat) (v : Value) (bs : List Int) (w : World) : Prop where
  own : w.ownsRow base 5 1 v bs.length (bs.map (.int .u8))
  bel : Below base w0 w
  bas : base ≤ w.heap.size
  lim : bs.length ≤ m
theorem OB.num {w0 : World} {base m : Nat} {v : Value} {bs : List Int} {w : World} (h : OB w0 base m v bs w) (n : Int) (hm : m ≤ 1000000000) (hn : -9223372036854775808 ≤ n ∧ n ≤ 9223372036854775807) :
    Calls Tryd.prog 74 #[v, .int .i64 n] w fun e w' => ∃ v', e = .returned v' ∧ OB w0 base (m + 10) v' (bs ++ numL n) w' := by
  refine (rnum2_any base v bs.length _ n w h.own h.bas (by have := h.lim; omega) hn).mono ?_
  rintro e w' ⟨v', rfl, ho, hg, hat⟩
  have hl := numL_len n hn
  refine ⟨v', rfl, ?_, h.bel.grown hg h.bas (fun g hg => (h.own.lt g hg).1), Nat.le_trans h.bas hg.size, by rw [List.length_append]; have := h.lim; omega⟩
  rw [List.length_append, List.map_append]; exact ho
set_option maxHeartbeats 3200000 in
set_option maxRecDepth 100000 in
theorem rpack_any (A : Option Addr) (c : Nat) (L : List Ch) (w : World) (h : RC w w.heap.size A L) :
    Calls Tryd.prog 37 #[.slice A L.length c] w fun e w' => Below w.heap.size w w' ∧ ((chkL L ≠ 0 ∧ e = .returned (.tuple #[.slice none 0 0, .int .i64 (chkL L)])) ∨
      (chkL L = 0 ∧ ∃ v, e = .returned (.tuple #[v, .int .i64 0]) ∧ w'.ownsRow w.heap.size 5 1 v (pkB L).length ((pkB L).map (.int .u8)))) := by
  have H := Lib.hid h
  clear h
  by_cases hL6 : 6000 < L.length
  · have hE : chkL L = 4 := if_pos hL6
    have d2 : decide ((6000 : Int) < (L.length : Int)) = true := by simp; omega
    replace hE := Lib.hid hE
    go_enter Tryd.func37, Tryd.ntmps37
    go_wp2_with fail
    go_ret2
    exact ⟨Below.refl _ _, .inl ⟨by rw [hE.out]; omega, by rw [hE.out]; rfl⟩⟩
  · have hE : chkL L = chkN L L.length := if_neg hL6
    have hpk : chkL L = 0 → pkB L = pkN L L.length := fun h => if_pos h
    have d2 : decide ((6000 : Int) < (L.length : Int)) = false := by simp; omega
    replace hE := Lib.hid hE
    replace hpk := Lib.hid hpk
    go_enter Tryd.func37, Tryd.ntmps37
    go_wp2_with fail
    have hO0 : OB w w.heap.size 0 (.slice none 0 0) [] w := ⟨World.ownsRow_nil _ _ _ _, Below.refl _ _, Nat.le_refl _, by simp⟩
    refine (hO0.num L.length (by omega) (by omega)).mono ?_
    rintro e W1 ⟨v1, rfl, ho⟩
    rw [List.nil_append] at ho
    replace ho := Lib.hid ho
    go_wp2_with fail
    go_loopw [4, 5, 6, 7] (fun vb vl vi _ wr => ∃ k : Nat, vi = .int .i64 k ∧ k ≤ L.length ∧ vl = .int .i64 (lastA L k) ∧ Hid (chkN L k = 0) ∧ Hid (OB w w.heap.size (10 + 30 * k) vb (pkN L k) wr)) (fun _ _ vi _ _ => L.length - (intOf vi).toNat)
    case atStart => exact ⟨0, rfl, Nat.zero_le _, rfl, Lib.hid rfl, ho⟩
    case round =>
      obtain ⟨k, rfl, hk, rfl, hck, ho⟩ := hrel
      by_cases hlt : k < L.length
      · have hs := ho.out.bas
        have HR : RC wr w.heap.size A L := H.out.below ho.out.bel
        obtain ⟨b, off, hA, hbB⟩ := rc_addr HR (by omega)
        subst hA
        have j1 : (k : Int) < (L.length : Int) := by omega
        have hnx := chkN_next L k hck.out
        have hend : ∀ n : Int, n ≠ 0 → chE L k = n → chkL L = n := fun n h0 h1 => by
          rw [hE.out, chkN_end L (k + 1) L.length (by omega) (by rw [hnx, h1]; exact h0), hnx, h1]
        replace hend := Lib.hid hend
        replace hnx := Lib.hid hnx
        replace HR := Lib.hid HR
        go_wp2_with fail
        refine (rchange_any (some ⟨b, off, none⟩) c w.heap.size L k wr HR.out hs hlt (by omega)).mono ?_
        rintro e W2 ⟨rfl, hq⟩
        have hO2 : OB w w.heap.size (10 + 30 * k) u4 (pkN L k) W2 := ⟨ho.out.own.kept (grownBy_of_below (row := none) hq) (by cases hv : u4.ownBlock <;> simp), ho.out.bel.trans (hq.mono hs), Nat.le_trans hs hq.size, ho.out.lim⟩
        replace hO2 := Lib.hid hO2
        clear hq
        by_cases hz : chE L k = 0
        · have hgd := good_ch (chE_good L k hz).1
          have hla := lastA_bd L k k hck.out (Nat.le_refl _)
          have hla1 : lastA L (k + 1) = (chG L k).a := by unfold lastA; rw [if_neg (by omega)]; rfl
          have hpK : pkN L (k + 1) = pkN L k ++ (numL ((chG L k).a - lastA L k) ++ numL ((chG L k).o + 1) ++ numL ((chG L k).n + 1)) := rfl
          have hck1 : chkN L (k + 1) = 0 := by rw [hnx.out, hz]
          have hcells : ∀ w', Below w.heap.size w w' → w'.cell? ⟨b, off + k * 3, none⟩ = some (.int .i64 (chG L k).a) ∧ w'.cell? ⟨b, off + k * 3 + 1, none⟩ = some (.int .i64 (chG L k).o) ∧ w'.cell? ⟨b, off + k * 3 + 2, none⟩ = some (.int .i64 (chG L k).n) := fun w' hb' => rc_cell (H.out.below hb') rfl k hlt
          rw [hz]
          replace hz := Lib.hid hz
          replace hcells := Lib.hid hcells
          replace hpK := Lib.hid hpK
          replace hck1 := Lib.hid hck1
          generalize chG L k = cg at *
          obtain ⟨ca, co, cn⟩ := cg
          dsimp only at *
          replace hla1 := Lib.hid hla1
          generalize lastA L k = la at *
          have i1 : IntKind.i64.wrap (ca - la) = ca - la := IntWalk.i64_in _ (by omega)
          have i2 : IntKind.i64.wrap (co + 1) = co + 1 := IntWalk.i64_in _ (by omega)
          have i3 : IntKind.i64.wrap (cn + 1) = cn + 1 := IntWalk.i64_in _ (by omega)
          obtain ⟨e0, e1, e2⟩ := hcells.out W2 hO2.out.bel
          have hbl := hO2.out.bas
          go_wp2_with fail
          refine (hO2.out.num (ca - la) (by omega) (by omega)).mono ?_
          rintro e W3 ⟨v3, rfl, hO3⟩
          clear e0 e1 e2 hbl
          obtain ⟨e0, e1, e2⟩ := hcells.out W3 hO3.bel
          have hbl := hO3.bas
          replace hO3 := Lib.hid hO3
          go_wp2_with fail
          refine (hO3.out.num (co + 1) (by omega) (by omega)).mono ?_
          rintro e W4 ⟨v4, rfl, hO4⟩
          clear e0 e1 e2 hbl
          obtain ⟨e0, e1, e2⟩ := hcells.out W4 hO4.bel
          have hbl := hO4.bas
          replace hO4 := Lib.hid hO4
          go_wp2_with fail
          refine (hO4.out.num (cn + 1) (by omega) (by omega)).mono ?_
          rintro e W5 ⟨v5, rfl, hO5⟩
          clear e0 e1 e2 hbl
          obtain ⟨e0, e1, e2⟩ := hcells.out W5 hO5.bel
          have hbl := hO5.bas
          replace hO5 := Lib.hid hO5
          have hO6 : OB w w.heap.size (10 + 30 * (k + 1)) v5 (pkN L (k + 1)) W5 := by
            rw [hpK.out, ← List.append_assoc, ← List.append_assoc]
            exact ⟨hO5.out.own, hO5.out.bel, hO5.out.bas, by have := hO5.out.lim; omega⟩
          replace hO6 := Lib.hid hO6
          go_wp2_with fail
          go_roundw
          case rel => exact ⟨k + 1, by go_num, by omega, by rw [hla1.out], hck1, hO6⟩
          case measure => simp [intOf]; omega
        · have hne : (chE L k != 0) = true := by simp [hz]
          have h1 := hend.out (chE L k) hz rfl
          replace h1 := Lib.hid h1
          replace hz := Lib.hid hz
          go_wp2_with fail
          go_ret2
          exact ⟨hO2.out.bel, .inl ⟨by rw [h1.out]; exact hz.out, by rw [h1.out]; rfl⟩⟩
      · have j1 : ¬ (k : Int) < (L.length : Int) := by omega
        have hz : chkL L = 0 := by rw [hE.out, show L.length = k by omega]; exact hck.out
        have hfin : wr.ownsRow w.heap.size 5 1 u4 (pkB L).length ((pkB L).map (.int .u8)) := by
          rw [hpk.out hz, show L.length = k by omega]; exact ho.out.own
        replace hfin := Lib.hid hfin
        replace hz := Lib.hid hz
        go_wp2_with fail
        go_ret2
        exact ⟨ho.out.bel, .inr ⟨hz.out, u4, rfl, hfin.out⟩⟩
end Go.Proofs.YtkkdegcbikjebaaDoor
