import Derived.Test.YtkgdflecepockaaDoorLockT
namespace Go.Proofs.YtkgdflecepockaaDoor
set_option linter.unusedVariables false
open Go.RowKit
section
variable {w : World} {G O M B n : Nat} {d now : Int} {outs : List Bool} {S : Int → Int → Option (List Od)}
set_option maxHeartbeats 3200000 in
set_option maxRecDepth 100000 in
theorem ltake_bad (h : LK B w G O M n d now outs S) (hw : waitL outs S now outs.length = []) (hsz : (gotL S now outs.length).length ≤ 1000000) (hE : ordsE (gotL S now outs.length) ≠ 0) :
    Calls Tryd.prog 27 #[.pointer (some ⟨G, 0, none⟩)] w fun e w' => e = .returned (.tuple #[.int .i64 0, .slice none 0 0, .iface 80 (.int .i64 (ordsE (gotL S now outs.length)))]) ∧ Below w.heap.size w w' := by
  obtain ⟨iT, hj0, hy0, hy1, hy2⟩ := info_parts row_infoO
  have hc := lready_any h _ hw
  rw [decide_eq_true rfl] at hc
  have hnp := h.np
  replace hc := Lib.hid hc
  replace h := Lib.hid h
  replace hE := Lib.hid hE
  replace hsz := Lib.hid hsz
  clear hw
  go_enter Tryd.func27, Tryd.ntmps27
  go_wp2_with fail
  refine hc.out.mono ?_
  clear hc
  rintro e w1 ⟨rfl, hb1⟩
  have hL1 := h.out.below hb1
  obtain ⟨c0, c1, c2, c3, c4⟩ := hL1.cells
  have hs1 := hb1.size
  replace hb1 := Lib.hid hb1
  replace hL1 := Lib.hid hL1
  go_wp2_with fail
  clear c0 c1 c2 c3 c4
  have hT0 : TRel w1 S now 0 (.slice none 0 0) w1 := ⟨Below.refl _ _, [], rfl, World.ownsRow_nil _ _ _ _, by simp, rfl⟩
  replace hT0 := Lib.hid hT0
  go_loopw [5, 6, 16] (fun v _ vi wr => ∃ k : Nat, vi = .int .i64 k ∧ k ≤ outs.length ∧ Hid (TRel w1 S now k v wr)) (fun _ _ vi _ => outs.length - (intOf vi).toNat)
  case atStart => exact ⟨0, rfl, Nat.zero_le _, hT0⟩
  case round =>
    clear hT0
    obtain ⟨k, rfl, hk, hT⟩ := hrel
    obtain ⟨hb, rows, hrl, hown, hrok, hcat⟩ := hT.out
    clear hT
    by_cases hlt : k < outs.length
    · have i1 : (k : Int) < (outs.length : Int) := by omega
      have hL := hL1.out.below hb
      obtain ⟨c0, c1, c2, c3, c4⟩ := hL.cells
      obtain ⟨V, hm, hS⟩ := hL.mp
      have hnw := hL.nw
      have hgl := hL.blk.lt
      obtain ⟨V1, hm1, hS1⟩ := hL1.out.mp
      obtain ⟨r, hrv, hro, hrL⟩ : ∃ r : RW, (V1 (k : Int) now).getD (.slice none 0 0) = r.v ∧ r.ok w1 w1.heap.size ∧ r.L = (S (k : Int) now).getD [] := by
        obtain ⟨s1, s2⟩ := hS1 (k : Int) now
        rcases hs : S (k : Int) now with _ | L
        · rw [s1 hs]
          exact ⟨⟨none, 0, []⟩, rfl, ⟨RD.nil_, fun _ => rfl⟩, rfl⟩
        · obtain ⟨A, c, e, h1, h2, _⟩ := s2 L hs
          rw [e]
          exact ⟨⟨A, c, L⟩, rfl, ⟨h1, h2⟩, rfl⟩
      have hmk := hm1.below hb
      have hsz2 := hb.size
      have hcells : ∀ w', Below w1.heap.size w1 w' → w'.cell? ⟨G, 4, none⟩ = some (.map (some M)) ∧ w'.cell? ⟨G, 2, none⟩ = some (.int .i64 now) ∧ (Instr.lookup 88 (.map (some M)) (plV (k : Int) now) false).run Tryd.prog w' = .ok r.v w' := fun w' hb' => by
        have hLq := hL1.out.below hb'
        obtain ⟨_, _, q2, _, q4⟩ := hLq.cells
        have hlk := (hm1.below hb').look (p := (k : Int)) (t := now) (by unfold I6; omega) (by unfold I6; omega)
        rw [hrv] at hlk
        exact ⟨q4, q2, hlk⟩
      replace hL := Lib.hid hL
      replace hb := Lib.hid hb
      replace hown := Lib.hid hown
      replace hrok := Lib.hid hrok
      replace hcat := Lib.hid hcat
      replace hS := Lib.hid hS
      replace hS1 := Lib.hid hS1
      replace hm := Lib.hid hm
      replace hm1 := Lib.hid hm1
      replace hmk := Lib.hid hmk
      replace hrl := Lib.hid hrl
      replace hro := Lib.hid hro
      replace hrL := Lib.hid hrL
      replace hrv := Lib.hid hrv
      obtain ⟨rA, rc, rL⟩ := r
      dsimp only [RW.v] at hcells
      have hcw := hcells wr hb.out
      obtain ⟨q4, q2, hlk⟩ := hcw
      replace hcells := Lib.hid hcells
      clear c0 c1 c2 c3 c4
      go_upto_region 7 with fail
      go_region_held3 (fun wz => wz.cell? ⟨G, 4, none⟩ = some (.map (some M)) ∧ wz.cell? ⟨G, 2, none⟩ = some (.int .i64 now) ∧ (Instr.lookup 88 (.map (some M)) (plV (k : Int) now) false).run Tryd.prog wz = .ok (.slice rA rL.length rc) wz) (first | exact hcells.out _ hK1 | exact hcells.out _ (by repeat (first | exact hb.out | apply Below.drawK | refine Below.alloc ?_ (by first | omega | (simp; omega)) _))) (first | (refine step_row (by rfl) (.tmp 19) (.tmp 31) (by rfl) w1 w1.heap.size u5 k (rows.map RW.v) (.slice rA rL.length rc) (by rfl) (by repeat (first | exact hown.out | apply World.ownsRow.alloc)) (by repeat (first | exact hb.out | apply Below.drawK | refine Below.alloc ?_ (by first | omega | (simp; omega)) _)) _ _ (by rfl) (by repeat (first | exact Blk.newK _ _ _ _ (by first | rfl | simp) | apply Blk.drew | apply Blk.alloc)) rfl (by omega) (Nat.le_refl _) ?_; intro v8 W8 hown8 hK1))
      have hT9 : TRel w1 S now (k + 1) v8 W8 := ⟨hK1, rows ++ [⟨rA, rc, rL⟩], by simp [hrl.out], by rw [List.map_append]; exact hown8, fun x hx => by
        rcases List.mem_append.1 hx with h | h
        · exact hrok.out x h
        · obtain rfl : x = ⟨rA, rc, rL⟩ := by simpa using h
          exact hro.out, by
        have e1 : catR (rows ++ [⟨rA, rc, rL⟩]) = catR rows ++ rL := by simp [catR]
        have e2 := hrL.out
        dsimp only at e2
        rw [e1, hcat.out, e2]
        rfl⟩
      replace hT9 := Lib.hid hT9
      clear hown8 hK1 q4 q2 hlk
      go_wp2_with fail
      go_roundw
      case rel => exact ⟨k + 1, by go_num, by omega, hT9⟩
      case measure => simp [intOf]; omega
    · have i1 : ¬ (k : Int) < (outs.length : Int) := by omega
      obtain rfl : k = outs.length := by omega
      have hL2 := hL1.out.below hb
      have hs2 := hb.size
      have hb2 := hb1.out.trans (hb.mono hs1)
      obtain ⟨A5, c5, rfl, _⟩ := own_slice hown
      have hmg := merge_bad A5 outs.length c5 wr.heap.size rows wr hrl (Nat.le_refl _) (RD.of_own hown) (fun x hx => by
        obtain ⟨h1, h2⟩ := (hrok x hx).below hb
        exact ⟨h1.more hb.size, h2⟩) (by rw [← catR_len, hcat]; exact hsz.out) (by omega) (by rw [hcat]; exact hE.out)
      rw [hcat, show oErr (ordsE (gotL S now outs.length)) = .iface 80 (.int .i64 (ordsE (gotL S now outs.length))) by unfold oErr; rw [if_neg hE.out]] at hmg
      replace hmg := Lib.hid hmg
      replace hb2 := Lib.hid hb2
      clear hb hown hrok hcat hrl hL2
      go_wp2_with fail
      refine hmg.out.mono ?_
      clear hmg
      rintro e w5 ⟨rfl, hb5⟩
      have hb6 := hb2.out.trans (hb5.mono hb2.out.size)
      replace hb6 := Lib.hid hb6
      clear hb5
      go_wp2_with fail
      go_ret3
      exact ⟨rfl, hb6.out⟩
end
end Go.Proofs.YtkgdflecepockaaDoor
