import Derived.Test.YtkgdflecepockaaDoorRLockS
import Derived.Deep.CutBlock
import Derived.Deep.DeepCutAuto
namespace Go.Proofs.YtkgdflecepockaaDoor
set_option linter.unusedVariables false
open Go.RowKit
/-! The reference's lock: Take. -/
section
variable {w w' w'' : World} {B g : Nat} {d now : Int} {outs : List Bool} {S : Int → Int → Option (List Od)} {E : List SE}
theorem RL.got_cat (h : RL B w g d now outs S E) (p : Int) : (S p now).getD [] = catE E p now E.length := by rw [catE_all E p now h.once, h.tie p now (Int.le_refl _)]
theorem look_len (h : ∀ e ∈ E, e.L.length ≤ 60) (p t : Int) : ((lookE E p t).getD []).length ≤ 60 := by
  unfold lookE
  rcases hf : E.find? (hitS p t) with _ | e
  · simp
  · exact h e (List.mem_of_find?_eq_some hf)
theorem RL.got_len (h : RL B w g d now outs S E) : ∀ k, (gotL S now k).length ≤ 60 * k
  | 0 => by simp [gotL]
  | k + 1 => by
    have h1 := h.got_len k
    have h2 := look_len (fun e he => (h.ent e he).2.2.2) (k : Int) now
    rw [gotL, List.length_append, h.tie (k : Int) now (Int.le_refl _)]
    omega
/-- The next turn. -/
theorem RL.next (h : RL B w g d now outs S E) (hn : now + 1 ≤ 1000000) : RL B (w.setCell ⟨g, 2, none⟩ (.int .i64 (now + 1))) g d (now + 1) outs (gone S now outs.length) E ∧ TE B w (w.setCell ⟨g, 2, none⟩ (.int .i64 (now + 1))) := by
  obtain ⟨A, c, hb, ho⟩ := h.row
  have hte := TE.setg hb h.low 2 (.int .i64 (now + 1))
  refine ⟨⟨⟨A, c, hb.set_ 2 _, ho.kept (grownBy_set w g 2 _) (.inr (own_neL ho hb))⟩, fun e he => ?_, h.once, fun p t ht => ?_, h.np, h.dl, ⟨by have := h.nw; omega, hn⟩, h.few, h.low⟩, hte⟩
  · obtain ⟨h1, h2, h3, h4⟩ := h.ent e he
    exact ⟨RO.kept h1 h3 hte.bel.size (fun b cs m hc => hte.cells hc (by decide) (by decide)), h2, h3.te hte, h4⟩
  · unfold gone
    rw [if_neg (by omega)]
    exact h.tie p t (by omega)
def GRel (w : World) (G : List Od) (v : Value) (wr : World) : Prop := Below w.heap.size w wr ∧ wr.ownsRow w.heap.size 66 4 v G.length (G.flatMap oC)
set_option maxRecDepth 100000 in
theorem rtake_no (h : RL B w g d now outs S E) (hw : waitL outs S now outs.length ≠ []) :
    Calls Tryd.prog 26 #[.pointer (some ⟨g, 0, none⟩)] w fun e w' => e = .returned (.tuple #[.slice none 0 0, .int .i64 7]) ∧ Below w.heap.size w w' := by
  have hc := rwaits_any h
  replace hc := Lib.hid hc
  replace h := Lib.hid h
  have hpos : 0 < (waitL outs S now outs.length).length := List.length_pos_iff.2 hw
  have hwl := waitL_len outs S now outs.length
  generalize waitL outs S now outs.length = l at *
  replace hw := Lib.hid hw
  go_enter Tryd.func26, Tryd.ntmps26
  go_wp2_with fail
  refine hc.out.mono ?_
  rintro e w1 ⟨v, rfl, hown, hb⟩
  obtain ⟨A, c, rfl, _⟩ := own_slice hown
  have hi : (0 : Int) < (l.length : Int) := by omega
  replace hown := Lib.hid hown
  replace hb := Lib.hid hb
  go_wp2_with fail
  go_ret2
  exact ⟨rfl, hb.out⟩
/-- What Take answers where all have sent. -/
def RTakePost (B : Nat) (w : World) (g : Nat) (d now : Int) (outs : List Bool) (S : Int → Int → Option (List Od)) (E : List SE) (e : Ending) (w' : World) : Prop :=
  (ordsE (gotL S now outs.length) ≠ 0 ∧ e = .returned (.tuple #[.slice none 0 0, .int .i64 (ordsE (gotL S now outs.length))]) ∧ Below w.heap.size w w') ∨
  (ordsE (gotL S now outs.length) = 0 ∧ ∃ A c R, e = .returned (.tuple #[.slice A R.length c, .int .i64 0]) ∧ IsLast (gotL S now outs.length) R ∧ w'.ownsRow w.heap.size 66 4 (.slice A R.length c) R.length (R.flatMap oC) ∧ RL B w' g d (now + 1) outs (gone S now outs.length) E ∧ TE B w w')
set_option maxHeartbeats 6400000 in
set_option maxRecDepth 100000 in
theorem rtake_any (h : RL B w g d now outs S E) (hw : waitL outs S now outs.length = []) (hnow : now + 1 ≤ 1000000) :
    Calls Tryd.prog 26 #[.pointer (some ⟨g, 0, none⟩)] w (RTakePost B w g d now outs S E) := by
  obtain ⟨i0, hi0, hz0, hz1, hz2⟩ := info_parts ord_info
  have hc := rwaits_any h
  rw [hw] at hc
  have hnp := h.np
  have hfew := h.few
  have hB := h.size
  replace hc := Lib.hid hc
  replace h := Lib.hid h
  clear hw
  go_enter Tryd.func26, Tryd.ntmps26
  go_wp2_with fail
  refine hc.out.mono ?_
  clear hc
  rintro e w1 ⟨v, rfl, hown, hb1⟩
  obtain ⟨A, c, rfl, _⟩ := own_slice hown
  have h1 := h.out.below hb1
  have hs1 := hb1.size
  obtain ⟨AE, cE, hbE, hoE⟩ := h1.row
  have hr0 := Lib.hid (show ∀ e ∈ E, RO w1 w1.heap.size e.A e.L ∧ (e.A = none → e.c = 0) from fun e he => ⟨(h1.ent e he).1, (h1.ent e he).2.1⟩)
  have hgl : g < w1.heap.size := hbE.lt
  replace hb1 := Lib.hid hb1
  replace h1 := Lib.hid h1
  replace hbE := Lib.hid hbE
  replace hoE := Lib.hid hoE
  clear hown
  simp only [List.length_nil]
  go_wp2_with fail
  have hG0 : GRel w1 (gotL S now 0) (.slice none 0 0) w1 := ⟨Below.refl _ _, World.ownsRow_nil _ _ _ _⟩
  replace hG0 := Lib.hid hG0
  go_loopw [5, 6] (fun v vi wr => ∃ k : Nat, vi = .int .i64 k ∧ k ≤ outs.length ∧ Hid (GRel w1 (gotL S now k) v wr)) (fun _ vi _ => outs.length - (intOf vi).toNat)
  case atStart => exact ⟨0, rfl, Nat.zero_le _, hG0⟩
  case round =>
    clear hG0
    obtain ⟨k, rfl, hk, hG⟩ := hrel
    obtain ⟨w2, rfl⟩ : ∃ w2 : World, w2 = wr := ⟨_, rfl⟩
    have hb2 := hG.out.1
    have hs2 := hb2.size
    have hk2 := (hbE.out.below hb2 hgl).cell 0
    replace hk2 : w2.cell? ⟨g, 0, none⟩ = some (.int .i64 (outs.length : Int)) := hk2
    have hgl2 : g < w2.heap.size := by omega
    replace hb2 := Lib.hid hb2
    by_cases hlt : k < outs.length
    · as_aux_lemma =>
      have i1 : (k : Int) < (outs.length : Int) := by omega
      have hgk := h1.out.got_len k
      have hgs : gotL S now (k + 1) = gotL S now k ++ catE E (k : Int) now E.length := by rw [gotL, h1.out.got_cat]
      generalize gotL S now k = G at *
      replace hgs := Lib.hid hgs
      go_wp2_with fail
      clear hk2
      go_loopw [5, 7] (fun v vi wr => ∃ i : Nat, vi = .int .i64 i ∧ i ≤ E.length ∧ Hid (GRel w1 (G ++ catE E (k : Int) now i) v wr)) (fun _ vi _ => E.length - (intOf vi).toNat)
      case atStart => exact ⟨0, rfl, Nat.zero_le _, by simpa [catE] using hG⟩
      case round =>
        clear hG hb2 hs2 hgl2
        obtain ⟨i, rfl, hi, hG⟩ := hrel
        obtain ⟨hb, hown⟩ := hG.out
        clear hG
        have hbe := hbE.out.below hb hgl
        have c2 := hbe.cell 2
        have c7 := hbe.cell 7
        replace c2 : wr.cell? ⟨g, 2, none⟩ = some (.int .i64 now) := c2
        replace c7 : wr.cell? ⟨g, 7, none⟩ = some (.slice AE E.length cE) := c7
        have hs := hb.size
        have hglr : g < wr.heap.size := by omega
        have hcl := catE_len E (k : Int) now (fun e he => (h1.out.ent e he).2.2.2) i hi
        have hGl : (G ++ catE E (k : Int) now i).length ≤ 100000 := by rw [List.length_append]; omega
        replace hbe := Lib.hid hbe
        by_cases hil : i < E.length
        · have j1 : (i : Int) < (E.length : Int) := by omega
          have hoe := own_below hoE.out hb
          obtain ⟨b, hA, hbl, d0, d1, d2⟩ := ent_at hoe hil
          subst hA
          have hme := se_mem hil
          have hre := hr0.out _ hme
          have hcs := catE_s E (k : Int) now i hil
          unfold hitS at hcs
          replace hme := Lib.hid hme
          replace hoe := Lib.hid hoe
          generalize se E i = x at *
          obtain ⟨hre1, hre2⟩ := hre
          have hre3 := hre1.below hb
          have hl60 : x.L.length ≤ 60 := (h1.out.ent x hme.out).2.2.2
          replace hre1 := Lib.hid hre1
          replace hre2 := Lib.hid hre2
          replace hre3 := Lib.hid hre3
          by_cases h1e : x.p = (k : Int)
          · have g1 : (x.p == (k : Int)) = true := by simp [h1e]
            by_cases h2e : x.t = now
            · have g2 : (x.t == now) = true := by simp [h2e]
              rw [if_pos (by rw [g1, g2]; rfl)] at hcs
              replace hcs := Lib.hid hcs
              replace h1e := Lib.hid h1e
              replace h2e := Lib.hid h2e
              have hown2 : ∀ q, (wr.drewN q).ownsRow w1.heap.size 66 4 u5 (G ++ catE E (k : Int) now i).length ((G ++ catE E (k : Int) now i).flatMap oC) := fun q => hown
              replace hown2 := Lib.hid hown2
              replace hb := Lib.hid hb
              replace hown := Lib.hid hown
              go_wp2_with fail
              go_quiet (fail)
              go_wp2_with (at_builtin; refine wpList_append_rd rfl (.tmp 56) (.tmp 64) 55 rfl w1.heap.size 66 i0 _ 4 32 Tryd.underlying55 hi0 hz0 hz1 hz2 rfl (by decide) (wr.drewN nq) u5 _ _ rfl (hown2.out nq) w1.heap.size x.A x.L.length x.c _ rfl hre2.out (hre3.out.drewN nq) (flatO_one _) (by unfold maxLen; omega) (by omega) (by simpa using hs) ?_; intro v9 w9 hown9 hg9)
              have hG9 : GRel w1 (G ++ catE E (k : Int) now (i + 1)) v9 w9 := by
                rw [hcs.out, ← List.append_assoc]
                exact ⟨(bdrewN hb.out nq).grown hg9 hs (fun b e => (hown.out.lt b e).1), by rw [List.length_append, List.flatMap_append]; exact hown9⟩
              replace hG9 := Lib.hid hG9
              clear hown9 hg9 hown2
              go_wp2_with fail
              go_roundw
              case rel => exact ⟨i + 1, by go_num, by omega, hG9⟩
              case measure => simp [intOf]; omega
            · have g2 : (x.t == now) = false := by simp [h2e]
              rw [if_neg (by rw [g1, g2]; simp), List.append_nil] at hcs
              have hG9 : ∀ q, Hid (GRel w1 (G ++ catE E (k : Int) now (i + 1)) u5 (wr.drewN q)) := fun q => Lib.hid (by rw [hcs]; exact ⟨bdrewN hb q, hown⟩)
              replace hG9 := Lib.hid hG9
              replace hcs := Lib.hid hcs
              replace h1e := Lib.hid h1e
              replace h2e := Lib.hid h2e
              replace hb := Lib.hid hb
              replace hown := Lib.hid hown
              go_wp2_with fail
              go_quiet (fail)
              go_wp2_with fail
              go_roundw
              case rel => exact ⟨i + 1, by go_num, by omega, hG9.out _⟩
              case measure => simp [intOf]; omega
          · have g1 : (x.p == (k : Int)) = false := by simp [h1e]
            rw [if_neg (by rw [g1]; simp), List.append_nil] at hcs
            have hG9 : ∀ q, Hid (GRel w1 (G ++ catE E (k : Int) now (i + 1)) u5 (wr.drewN q)) := fun q => Lib.hid (by rw [hcs]; exact ⟨bdrewN hb q, hown⟩)
            replace hG9 := Lib.hid hG9
            replace hcs := Lib.hid hcs
            replace h1e := Lib.hid h1e
            replace hb := Lib.hid hb
            replace hown := Lib.hid hown
            go_wp2_with fail
            go_quiet (fail)
            go_wp2_with fail
            go_roundw
            case rel => exact ⟨i + 1, by go_num, by omega, hG9.out _⟩
            case measure => simp [intOf]; omega
        · have j1 : ¬ (i : Int) < (E.length : Int) := by omega
          obtain rfl : i = E.length := by omega
          have hG9 : GRel w1 (gotL S now (k + 1)) u5 wr := by rw [hgs.out]; exact ⟨hb, hown⟩
          replace hG9 := Lib.hid hG9
          replace hb := Lib.hid hb
          replace hown := Lib.hid hown
          go_wp2_with fail
          go_roundw
          case rel => exact ⟨k + 1, by go_num, by omega, hG9⟩
          case measure => simp [intOf]; omega
    · as_aux_lemma =>
      have i1 : ¬ (k : Int) < (outs.length : Int) := by omega
      obtain rfl : k = outs.length := by omega
      have hgk := h1.out.got_len outs.length
      have hown := hG.out.2
      obtain ⟨AG, cG, rfl, _⟩ := own_slice hown
      have hrG : RO w2 w2.heap.size AG (gotL S now outs.length) := RD.of_own hown
      have hro := rorders_any AG cG w2.heap.size (gotL S now outs.length) w2 hrG (Nat.le_refl _) (by omega)
      have hQb : ∀ w', ordsE (gotL S now outs.length) ≠ 0 → Below w.heap.size w w' → RTakePost B w g d now outs S E (.returned (.tuple #[.slice none 0 0, .int .i64 (ordsE (gotL S now outs.length))])) w' := fun w' h1 h2 => .inl ⟨h1, rfl, h2⟩
      have hQg : ∀ w' A c R, ordsE (gotL S now outs.length) = 0 → IsLast (gotL S now outs.length) R → w'.ownsRow w.heap.size 66 4 (.slice A R.length c) R.length (R.flatMap oC) → RL B w' g d (now + 1) outs (gone S now outs.length) E → TE B w w' → RTakePost B w g d now outs S E (.returned (.tuple #[.slice A R.length c, .int .i64 0])) w' := fun w' A c R h1 h2 h3 h4 h5 => .inr ⟨h1, A, c, R, rfl, h2, h3, h4, h5⟩
      generalize gotL S now outs.length = G at *
      have hb3 := hb1.out.trans (hb2.out.mono hs1)
      have hs3 := hb3.size
      replace hQb := Lib.hid hQb
      replace hQg := Lib.hid hQg
      replace hro := Lib.hid hro
      replace hrG := Lib.hid hrG
      replace hb3 := Lib.hid hb3
      clear hG
      replace hown := Lib.hid hown
      go_wp2_with fail
      refine hro.out.mono ?_
      clear hro
      rintro e w4 ⟨rfl, hb4⟩
      have hb5 := hb3.out.trans (hb4.mono hs3)
      have hs5 := hb5.size
      have h5 := h1.out.below (hb2.out.trans (hb4.mono hs2))
      have hrG5 := hrG.out.below hb4
      obtain ⟨_, _, e2⟩ := h5.nums
      have hgl5 := h5.lt
      have hnw := h5.nw
      have hle := hb4.size
      by_cases hE : ordsE G = 0
      · have hE2 := hE
        rw [hE]
        have hok := (ordsE_0.1 hE).2
        obtain ⟨AE5, cE5, hbE5, hoE5⟩ := h5.row
        have f5 := hbE5.frozen 2
        have hnx := h5.next hnow
        have ho4 := own_below hown.out hb4
        have ho5 := ho4.kept (grownBy_set w4 g 2 (.int .i64 (now + 1))) (.inr (fun e => by have := (ho4.lt g e).1; omega))
        have hte := (TE.of_below hb5 hB).trans hnx.2
        have hL5 := hnx.1
        have hlast := lastR_isLast hok
        have hG6 : G.length ≤ 1000000 := by omega
        generalize hw5 : w4.setCell ⟨g, 2, none⟩ (.int .i64 (now + 1)) = w5 at *
        have hrl := rlast_any AG cG w5.heap.size G w5 (RD.of_own ho5) (Nat.le_refl _) hG6
        rw [← hw5] at hrl
        replace hrl := Lib.hid hrl
        replace hL5 := Lib.hid hL5
        replace hte := Lib.hid hte
        replace hlast := Lib.hid hlast
        replace hE2 := Lib.hid hE2
        replace hE := Lib.hid hE
        replace h5 := Lib.hid h5
        replace hb5 := Lib.hid hb5
        replace hbE5 := Lib.hid hbE5
        replace hw5 := Lib.hid hw5
        clear hb4 hrG5 hoE5 hnx hok ho4 ho5 hown
        go_wp2_with fail
        refine hrl.out.mono ?_
        clear hrl
        rw [hw5.out]
        rintro e w6 ⟨v, rfl, ho6, hb6⟩
        obtain ⟨A6, c6, rfl, _⟩ := own_slice ho6
        have hs6 := hte.out.bel.size
        have hfin := hQg.out w6 A6 c6 (lastR G) hE2.out hlast.out (own_base ho6 hs6) (hL5.out.below hb6) (hte.out.trans (TE.of_below hb6 hL5.out.size))
        replace hfin := Lib.hid hfin
        clear ho6 hb6
        go_wp2_with fail
        go_ret2
        exact hfin.out
      · have hE2 := hE
        have hE3 : (ordsE G != 0) = true := by simp [hE]
        replace hE2 := Lib.hid hE2
        replace hE := Lib.hid hE
        replace hb5 := Lib.hid hb5
        replace h5 := Lib.hid h5
        clear hb4 hrG5
        go_wp2_with fail
        go_ret2
        exact hQb.out _ hE2.out hb5.out
end
end Go.Proofs.YtkgdflecepockaaDoor
