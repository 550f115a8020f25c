import Derived.Test.YtkgdflecepockaaDoorRLock
namespace Go.Proofs.YtkgdflecepockaaDoor
set_option linter.unusedVariables false
open Go.RowKit
/-! The reference's lock: Has, Waits. -/
section
variable {w w' w'' : World} {B g : Nat} {d now : Int} {outs : List Bool} {S : Int → Int → Option (List Od)} {E : List SE}
theorem ent_at {A : Option Addr} {c : Nat} (ho : w.ownsRow B 101 3 (.slice A E.length c) E.length (E.flatMap sC)) {k : Nat} (hk : k < E.length) :
    ∃ b, A = some ⟨b, 0, none⟩ ∧ b < w.heap.size ∧ w.cell? ⟨b, k * 3, none⟩ = some (.int .i64 (se E k).p) ∧ w.cell? ⟨b, k * 3 + 1, none⟩ = some (.int .i64 (se E k).t) ∧ w.cell? ⟨b, k * 3 + 2, none⟩ = some (.slice (se E k).A (se E k).L.length (se E k).c) := by
  obtain ⟨b, cap, hv, _, hlt⟩ := ho.form (by omega)
  have hA : A = some ⟨b, 0, none⟩ := by injection hv
  have hrd := RD.of_own ho
  have key : ∀ j, j < 3 → w.cell? ⟨b, k * 3 + j, none⟩ = (sC (se E k))[j]? := fun j hj => by
    have := hrd.at_ hA (j := k * 3 + j) (by omega)
    rw [Nat.zero_add] at this
    rw [this, flat_get sC 3 sC_len E k j hj, se_get hk]; rfl
  exact ⟨b, hA, hlt, key 0 (by omega), key 1 (by omega), key 2 (by omega)⟩
theorem hasE_false {p t : Int} (h : ∀ j, j < E.length → hitS p t (se E j) = false) : hasE E p t = false := by
  unfold hasE
  rw [List.any_eq_false]
  intro x hx
  obtain ⟨i, hi⟩ := List.mem_iff_getElem?.1 hx
  have hil : i < E.length := (List.getElem?_eq_some_iff.1 hi).1
  rw [se_get hil] at hi
  injection hi with hi
  rw [← hi, h i hil]; simp
set_option maxHeartbeats 800000 in
set_option maxRecDepth 100000 in
theorem rhas_any (p t : Int) (h : RL B w g d now outs S E) :
    Calls Tryd.prog 45 #[.pointer (some ⟨g, 0, none⟩), .int .i64 p, .int .i64 t] w fun e w' => e = .returned (.bool (hasE E p t)) ∧ w = w' := by
  obtain ⟨A, c, hb, ho⟩ := h.row
  have c7 := hb.cell 7
  replace c7 : w.cell? ⟨g, 7, none⟩ = some (.slice A E.length c) := c7
  have hfew := h.few
  have hgl := hb.lt
  replace h := Lib.hid h
  replace hb := Lib.hid hb
  replace ho := Lib.hid ho
  go_enter Tryd.func45, Tryd.ntmps45
  go_wp2_with fail
  go_loop [7] (fun vi => ∃ k : Nat, vi = .int .i64 k ∧ k ≤ E.length ∧ Hid (∀ j, j < k → hitS p t (se E j) = false)) (fun vi => E.length - (intOf vi).toNat)
  case atStart => exact ⟨0, rfl, Nat.zero_le _, Lib.hid (fun j h => by omega)⟩
  case round =>
    obtain ⟨k, rfl, hk, hno⟩ := hrel
    by_cases hlt : k < E.length
    · have i1 : (k : Int) < (E.length : Int) := by omega
      obtain ⟨b, hA, hbl, d0, d1, _⟩ := ent_at ho.out hlt
      subst hA
      have hme := se_mem hlt
      have hall : hitS p t (se E k) = true → hasE E p t = true := fun e => by unfold hasE; rw [List.any_eq_true]; exact ⟨_, hme, e⟩
      have hnx : hitS p t (se E k) = false → Hid (∀ j, j < k + 1 → hitS p t (se E j) = false) := fun e => Lib.hid fun j hj => by
        rcases Nat.lt_or_ge j k with h1 | h1
        · exact hno.out j h1
        · obtain rfl : j = k := by omega
          exact e
      unfold hitS at hall hnx
      replace hno := Lib.hid hno.out
      replace hme := Lib.hid hme
      generalize se E k = x at *
      by_cases h1 : x.p = p
      · have g1 : (x.p == p) = true := by simp [h1]
        rw [g1, Bool.true_and] at hall hnx
        by_cases h2 : x.t = t
        · have g2 : (x.t == t) = true := by simp [h2]
          have hv := hall g2
          replace hall := Lib.hid hall
          replace hnx := Lib.hid hnx
          replace hv := Lib.hid hv
          replace h1 := Lib.hid h1
          replace h2 := Lib.hid h2
          go_wp2_with fail
          go_ret
          exact ⟨by rw [hv.out]; rfl, rfl⟩
        · have g2 : (x.t == t) = false := by simp [h2]
          have hn := hnx g2
          replace hall := Lib.hid hall
          replace hnx := Lib.hid hnx
          replace h1 := Lib.hid h1
          replace h2 := Lib.hid h2
          go_wp2_with fail
          go_round
          case rel => exact ⟨k + 1, by go_num, by omega, hn⟩
          case measure => simp [intOf]; omega
      · have g1 : (x.p == p) = false := by simp [h1]
        rw [g1, Bool.false_and] at hall hnx
        have hn := hnx rfl
        replace hall := Lib.hid hall
        replace hnx := Lib.hid hnx
        replace h1 := Lib.hid h1
        go_wp2_with fail
        go_round
        case rel => exact ⟨k + 1, by go_num, by omega, hn⟩
        case measure => simp [intOf]; omega
    · have i1 : ¬ (k : Int) < (E.length : Int) := by omega
      obtain rfl : k = E.length := by omega
      have hv := hasE_false hno.out
      replace hv := Lib.hid hv
      go_wp2_with fail
      go_ret
      exact ⟨by rw [hv.out]; rfl, rfl⟩
/-- What the reference's loop has so far. -/
def WRelR (w : World) (outs : List Bool) (S : Int → Int → Option (List Od)) (now : Int) (k : Nat) (v : Value) (wr : World) : Prop :=
  Below w.heap.size w wr ∧ wr.ownsRow w.heap.size 3 1 v (waitL outs S now k).length ((waitL outs S now k).map (.int .i64))
theorem RL.has_now (h : RL B w g d now outs S E) (p : Int) : hasE E p now = (S p now).isSome := by rw [hasE_look, ← h.tie p now (Int.le_refl _)]
theorem RL.out_at (h : RL B w g d now outs S E) {k : Nat} (hk : k < outs.length) : w.cell? ⟨g, 3 + k, none⟩ = some (.bool (outs.getD k false)) := by
  obtain ⟨A, c, hb, _⟩ := h.row
  have hnp := h.np
  rcases (by omega : k = 0 ∨ k = 1 ∨ k = 2 ∨ k = 3) with rfl | rfl | rfl | rfl
  · exact hb.cell 3
  · exact hb.cell 4
  · exact hb.cell 5
  · exact hb.cell 6
theorem RL.nums (h : RL B w g d now outs S E) : w.cell? ⟨g, 0, none⟩ = some (.int .i64 (outs.length : Int)) ∧ w.cell? ⟨g, 1, none⟩ = some (.int .i64 d) ∧ w.cell? ⟨g, 2, none⟩ = some (.int .i64 now) := by
  obtain ⟨A, c, hb, _⟩ := h.row
  exact ⟨hb.cell 0, hb.cell 1, hb.cell 2⟩
set_option maxHeartbeats 1600000 in
set_option maxRecDepth 100000 in
theorem rwaits_any (h : RL B w g d now outs S E) :
    Calls Tryd.prog 29 #[.pointer (some ⟨g, 0, none⟩)] w fun e w' => ∃ v, e = .returned v ∧ w'.ownsRow w.heap.size 3 1 v (waitL outs S now outs.length).length ((waitL outs S now outs.length).map (.int .i64)) ∧ Below w.heap.size w w' := by
  obtain ⟨i0, hi0, hz0, hz1, hz2⟩ := info_parts int_info
  have hnp := h.np
  replace h := Lib.hid h
  go_enter Tryd.func29, Tryd.ntmps29
  go_wp2_with fail
  go_loopw [3, 4] (fun v vi wr => ∃ k : Nat, vi = .int .i64 k ∧ k ≤ outs.length ∧ Hid (WRelR w outs S now k v wr)) (fun _ vi _ => outs.length - (intOf vi).toNat)
  case atStart => exact ⟨0, rfl, Nat.zero_le _, Lib.hid ⟨Below.refl _ _, World.ownsRow_nil _ _ _ _⟩⟩
  case round =>
    obtain ⟨k, rfl, hk, hR⟩ := hrel
    obtain ⟨hb, hown⟩ := hR.out
    clear hR
    have hL := h.out.below hb
    obtain ⟨c0, c1, c2⟩ := hL.nums
    have hgl := hL.lt
    by_cases hlt : k < outs.length
    · have i1 : (k : Int) < (outs.length : Int) := by omega
      have o1 := hL.out_at hlt
      have hha := rhas_any (k : Int) now hL
      have hnw := hL.nw
      rw [hL.has_now] at hha
      have hwl := waitL_len outs S now k
      have hw1 : waitL outs S now (k + 1) = waitL outs S now k ++ if (S k now).isNone = true ∧ outs.getD k false = false then [(k : Int)] else [] := rfl
      obtain ⟨si, hsi⟩ : ∃ si, (S (k : Int) now).isSome = si := ⟨_, rfl⟩
      rw [hsi] at hha
      have hsz := hb.size
      have hni : (S (k : Int) now).isNone = !si := by rw [← hsi, Option.not_isSome]
      rw [hni] at hw1
      replace hni := Lib.hid hni
      replace hsi := Lib.hid hsi
      replace hw1 := Lib.hid hw1
      replace hha := Lib.hid hha
      replace hb := Lib.hid hb
      replace hown := Lib.hid hown
      replace hL := Lib.hid hL
      go_wp2_with fail
      refine hha.out.mono ?_
      clear hha
      rintro e w1 ⟨rfl, rfl⟩
      cases si with
      | true =>
        have hR9 := Lib.hid (show WRelR w outs S now (k + 1) u3 wr from by
          unfold WRelR; rw [hw1.out, if_neg (by simp), List.append_nil]; exact ⟨hb.out, hown.out⟩)
        go_wp2_with fail
        go_roundw
        case rel => exact ⟨k + 1, by go_num, by omega, hR9⟩
        case measure => simp [intOf]; omega
      | false =>
        cases hob : outs.getD k false with
        | true =>
          rw [hob] at o1
          have hR9 := Lib.hid (show WRelR w outs S now (k + 1) u3 wr from by
            unfold WRelR; rw [hw1.out, if_neg (by rw [hob]; simp), List.append_nil]; exact ⟨hb.out, hown.out⟩)
          replace hob := Lib.hid hob
          go_wp2_with fail
          go_roundw
          case rel => exact ⟨k + 1, by go_num, by omega, hR9⟩
          case measure => simp [intOf]; omega
        | false =>
          rw [hob] at o1
          have hwe : waitL outs S now (k + 1) = waitL outs S now k ++ [(k : Int)] := by rw [hw1.out, if_pos ⟨rfl, hob⟩]
          replace hwe := Lib.hid hwe
          replace hob := Lib.hid hob
          go_wp2_with (at_builtin; refine wpList_app1 rfl (.tmp 32) (.tmp 34) 27 rfl w.heap.size 3 i0 _ 1 8 Tryd.underlying27 hi0 hz0 hz1 hz2 rfl (by decide) (by decide) wr #[.int .i64 (k : Int)] u3 _ _ rfl hown.out rfl rfl rfl (by omega) hsz ?_; intro v' w9 hown' hgrow)
          have hR9 := Lib.hid (show WRelR w outs S now (k + 1) v' w9 from by
            unfold WRelR; rw [hwe.out, List.length_append, List.map_append]
            exact ⟨hb.out.grown hgrow hsz (fun b e => (hown.out.lt b e).1), hown'⟩)
          clear hown' hgrow
          go_wp2_with fail
          go_roundw
          case rel => exact ⟨k + 1, by go_num, by omega, hR9⟩
          case measure => simp [intOf]; omega
    · have i1 : ¬ (k : Int) < (outs.length : Int) := by omega
      obtain rfl : k = outs.length := by omega
      replace hb := Lib.hid hb
      replace hown := Lib.hid hown
      replace hL := Lib.hid hL
      go_wp2_with fail
      go_ret
      exact ⟨_, rfl, hown.out, hb.out⟩
end
end Go.Proofs.YtkgdflecepockaaDoor
