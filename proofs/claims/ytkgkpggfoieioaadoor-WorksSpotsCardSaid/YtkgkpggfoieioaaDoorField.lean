import Derived.Test.YtkgkpggfoieioaaDoorMrgb
import Derived.Test.YtkgkpggfoieioaaDoorApp
import Derived.WalkKit
import Derived.WalkLawsBesides
import Derived.Outline
import Derived.OwnWalk
import Derived.BigQuiet
import Derived.IntWalk
import Derived.Deep.QuietTactic
import Derived.Deep.DeepCutAuto
import Derived.Deep.DeepFit
import Derived.Deep.DeepMust
import Derived.Lib.Hide
namespace Go.Proofs.YtkgkpggfoieioaaDoor
set_option linter.unusedVariables false
open Go.RowKit
def erE (n : Int) : Value := .iface 93 (.int .i64 n)
def errV (n : Int) : Value := if n = 0 then .nilIface else erE n
def fA (s : SF) (f : GF) : Value := .agg #[.int .i64 f.wide, .int .i64 f.high, .slice s.ground.A f.ground.length s.ground.c, .slice s.ore.A f.ore.length s.ore.c]
theorem SLI.below {w w' : World} {s : SL} {xs : List Int} (h : SLI w s xs) (hb : Below w.heap.size w w') : SLI w' s xs := ⟨(h.1.below hb).more hb.size, h.2⟩
theorem SLI.drewN {w : World} {s : SL} {xs : List Int} (h : SLI w s xs) (n : Nat) : SLI (w.drewN n) s xs := h
theorem FOk.below {w w' : World} {s : SF} {f : GF} (h : FOk w s f) (hb : Below w.heap.size w w') : FOk w' s f := ⟨h.1, h.2.1, h.2.2.1.below hb, h.2.2.2.below hb⟩
theorem FOk.drewN {w : World} {s : SF} {f : GF} (h : FOk w s f) (n : Nat) : FOk (w.drewN n) s f := h
theorem SLI.at_ {w : World} {s : SL} {xs : List Int} (h : SLI w s xs) {k : Nat} (hk : k < xs.length) : ∃ b o, s.A = some ⟨b, o, none⟩ ∧ w.cell? ⟨b, o + k, none⟩ = some (.int .i64 (xs.getD k 0)) ∧ b < w.heap.size := by
  obtain ⟨b, o, hA, hb⟩ := h.1.addr (by omega)
  refine ⟨b, o, hA, ?_, hb⟩
  rw [h.1.at_ hA (by omega), List.getElem?_map, List.getD_eq_getElem?_getD, List.getElem?_eq_getElem hk]; rfl
theorem side_any (n : Int) (w : World) :
    Calls Tryd.prog 125 #[.int .i64 n] w fun e w' => e = .returned (.bool (sideB n)) ∧ w = w' := by
  have hs : sideB n = (decide (1 ≤ n) && decide (n ≤ 12)) := by unfold sideB; rw [Bool.eq_iff_iff]; simp
  rw [hs]
  clear hs
  go_enter Tryd.func125, Tryd.ntmps125
  by_cases h1 : 1 ≤ n
  · go_wp2
    go_ret
    exact ⟨by simp; omega, rfl⟩
  · go_wp2
    go_ret
    exact ⟨by simp; omega, rfl⟩
theorem numb_any (n : Int) (w : World) :
    Calls Tryd.prog 80 #[.int .i64 n] w fun e w' => e = .returned (.bool (numB n)) ∧ w = w' := by
  have hs : numB n = (decide (0 ≤ n) && decide (n ≤ 1000000)) := by unfold numB; rw [Bool.eq_iff_iff]; simp
  rw [hs]
  clear hs
  go_enter Tryd.func80, Tryd.ntmps80
  by_cases h1 : 0 ≤ n
  · go_wp2
    go_ret
    exact ⟨by simp; omega, rfl⟩
  · go_wp2
    go_ret
    exact ⟨by simp; omega, rfl⟩
set_option maxHeartbeats 1600000 in
set_option maxRecDepth 100000 in
theorem fcheck_loop (s : SF) (f : GF) (w : World) (h : FOk w s f) (hw : sideB f.wide = true) (hh : sideB f.high = true) (hg : (f.ground.length : Int) = f.wide * f.high) (ho : (f.ore.length : Int) = f.wide * f.high) :
    Calls Tryd.prog 79 #[fA s f] w fun e w' => e = .returned (errV (fieldE f)) ∧ Below w.heap.size w w' := by
  have hE : fieldE f = cellsE f.ground f.ore := by unfold fieldE; rw [if_neg (by rw [hw, hh]; simp), if_neg (by omega)]
  rw [hE]
  have hq : ((f.ground.length : Int) != f.wide * f.high) = false := by simp [hg]
  have hq2 : ((f.ore.length : Int) != f.wide * f.high) = false := by simp [ho]
  have hll : f.ore.length = f.ground.length := by omega
  have hwb := sideB_t hw
  have hhb := sideB_t hh
  have hm1 : f.wide * f.high ≤ 144 := mul_le_of (c := 12) (d := 12) (by omega) hwb.2 (by omega) hhb.2
  have hm0 : 0 ≤ f.wide * f.high := Int.mul_nonneg (by omega) (by omega)
  have hlen : f.ground.length ≤ 144 := by omega
  have H := Lib.hid h
  replace hg := Lib.hid hg
  replace ho := Lib.hid ho
  clear h hE
  unfold fA
  obtain ⟨wd, hi, gr, ore⟩ := f
  obtain ⟨⟨Ag, cg⟩, ⟨Ao, co⟩⟩ := s
  dsimp only at *
  have hsum : ∀ k : Nat, k ≤ gr.length → True := fun _ _ => trivial
  clear hsum
  have e1 : IntKind.i64.wrap (wd * hi) = wd * hi := IntWalk.i64_in _ (by omega)
  have e2 := e1
  rw [IntWalk.i64_left] at e2
  have hE0 : ∀ E, E = cellsE gr ore → Hid (cellsE (gr.drop 0) (ore.drop 0) = E) := fun E h => Lib.hid (by simp [h])
  generalize hEE : cellsE gr ore = E at *
  have hE1 := hE0 _ rfl
  clear hE0
  replace hEE := Lib.hid hEE
  go_enter Tryd.func79, Tryd.ntmps79
  go_wp2_with (first | (go_at_call 125; refine (side_any _ _).mono ?_; rintro e w' ⟨rfl, rfl⟩))
  have hb1 : Below w.heap.size w (w.alloc (.cells #[.int .i64 wd, .int .i64 hi, .slice Ag gr.length cg, .slice Ao gr.length co] 52)) := (Below.refl _ _).alloc (Nat.le_refl _) _
  have hk1 := Blk.new w 52 #[.int .i64 wd, .int .i64 hi, .slice Ag gr.length cg, .slice Ao gr.length co]
  generalize (w.alloc (.cells #[.int .i64 wd, .int .i64 hi, .slice Ag gr.length cg, .slice Ao gr.length co] 52)) = W at *
  have c2 : W.cell? ⟨w.heap.size, 2, none⟩ = some (.slice Ag gr.length cg) := hk1.cell 2
  have c3 : W.cell? ⟨w.heap.size, 3, none⟩ = some (.slice Ao gr.length co) := hk1.cell 3
  have HF := Lib.hid (H.out.below hb1)
  have hb2 := Lib.hid hb1
  clear hk1 hb1 H
  go_loop [42] (fun i => ∃ k : Nat, k ≤ gr.length ∧ i = .int .i64 k ∧ Hid (cellsE (gr.drop k) (ore.drop k) = E)) (fun i => gr.length - (intOf i).toNat)
  case atStart => exact ⟨0, Nat.zero_le _, rfl, hE1⟩
  case round =>
    obtain ⟨k, hk, rfl, hKE⟩ := hrel
    by_cases hlt : k < gr.length
    · obtain ⟨bg, og, hAg, cg1, hbg⟩ := HF.out.2.2.1.at_ (k := k) hlt
      obtain ⟨bo, oo, hAo, co1, hbo⟩ := HF.out.2.2.2.at_ (k := k) (show k < ore.length by omega)
      dsimp only at hAg hAo cg1 co1
      subst hAg; subst hAo
      have hst := cellsE_drop gr ore k (gr.getD k 0) (ore.getD k 0) (by rw [List.getD_eq_getElem?_getD, List.getElem?_eq_getElem hlt]; rfl) (by rw [List.getD_eq_getElem?_getD, List.getElem?_eq_getElem (by omega)]; rfl)
      rw [hKE.out] at hst
      generalize gr.getD k 0 = x at *
      generalize ore.getD k 0 = y at *
      have i1 : (k : Int) < (gr.length : Int) := by omega
      by_cases hx : x < 0 ∨ 3 < x ∨ numB y = false
      · rw [if_pos hx] at hst
        replace hst := Lib.hid hst
        rcases (by omega : x < 0 ∨ (0 ≤ x ∧ 3 < x) ∨ (0 ≤ x ∧ x ≤ 3)) with h1 | ⟨h1, h2⟩ | ⟨h1, h2⟩
        · clear hx
          go_wp2_with fail
          go_ret
          exact ⟨by rw [hst.out]; rfl, hb2.out⟩
        · clear hx
          go_wp2_with fail
          go_ret
          exact ⟨by rw [hst.out]; rfl, hb2.out⟩
        · have hy : numB y = false := by rcases hx with h | h | h; · omega
                                         · omega
                                         · exact h
          clear hx
          go_wp2_with (go_at_call 80; refine (numb_any _ _).mono ?_; rintro e w' ⟨rfl, rfl⟩)
          go_ret
          exact ⟨by rw [hst.out]; rfl, hb2.out⟩
      · rw [if_neg hx] at hst
        have hy : numB y = true := by cases hb : numB y with
          | true => rfl
          | false => exact absurd (.inr (.inr hb)) hx
        have hyb := numB_t hy
        have hx1 : 0 ≤ x ∧ x ≤ 3 := by omega
        clear hx
        obtain ⟨hx1, hx2⟩ := hx1
        by_cases h7 : 0 < y ∧ x ≠ 0
        · rw [if_pos h7] at hst
          replace hst := Lib.hid hst
          obtain ⟨h7, h8⟩ := h7
          have h9 : (x != 0) = true := by simp; omega
          go_wp2_with (go_at_call 80; refine (numb_any _ _).mono ?_; rintro e w' ⟨rfl, rfl⟩)
          go_ret
          exact ⟨by rw [hst.out]; rfl, hb2.out⟩
        · rw [if_neg h7] at hst
          replace hst := Lib.hid hst.symm
          rcases (by omega : y ≤ 0 ∨ (0 < y ∧ x = 0)) with h8 | ⟨h8, h9⟩
          · clear h7
            go_wp2_with (go_at_call 80; refine (numb_any _ _).mono ?_; rintro e w' ⟨rfl, rfl⟩)
            go_round
            case rel => exact ⟨k + 1, by omega, by go_num, hst⟩
            case measure => simp [intOf]; omega
          · clear h7
            have h10 : (x != 0) = false := by simp; omega
            replace h9 := Lib.hid h9
            go_wp2_with (go_at_call 80; refine (numb_any _ _).mono ?_; rintro e w' ⟨rfl, rfl⟩)
            go_round
            case rel => exact ⟨k + 1, by omega, by go_num, hst⟩
            case measure => simp [intOf]; omega
    · have hend := cellsE_end gr ore k (by omega)
      have hE2 := hKE.out
      rw [hend] at hE2
      replace hE2 := Lib.hid hE2
      clear hend
      go_wp2_with fail
      go_ret
      exact ⟨by rw [← hE2.out]; rfl, hb2.out⟩
set_option maxHeartbeats 1600000 in
set_option maxRecDepth 100000 in
theorem fcheck_any (s : SF) (f : GF) (w : World) (h : FOk w s f) :
    Calls Tryd.prog 79 #[fA s f] w fun e w' => e = .returned (errV (fieldE f)) ∧ Below w.heap.size w w' := by
  by_cases h1 : sideB f.wide = false ∨ sideB f.high = false
  · have hE : fieldE f = 1 := by unfold fieldE; rw [if_pos h1]
    rw [hE]
    unfold fA
    obtain ⟨wd, hi, gr, ore⟩ := f
    dsimp only at *
    clear hE h
    rcases (by cases hb : sideB wd with
      | true => exact .inr ⟨rfl, by rcases h1 with h | h; · rw [hb] at h; cases h
                                    · exact h⟩
      | false => exact .inl rfl : sideB wd = false ∨ (sideB wd = true ∧ sideB hi = false)) with h2 | ⟨h2, h3⟩
    all_goals
      clear h1
      go_enter Tryd.func79, Tryd.ntmps79
      go_wp2_with (go_at_call 125; refine (side_any _ _).mono ?_; rintro e w' ⟨rfl, rfl⟩)
      go_ret
      exact ⟨rfl, (Below.refl _ _).alloc (Nat.le_refl _) _⟩
  · have hw : sideB f.wide = true := by cases hb : sideB f.wide with
      | true => rfl
      | false => exact absurd (.inl hb) h1
    have hh : sideB f.high = true := by cases hb : sideB f.high with
      | true => rfl
      | false => exact absurd (.inr hb) h1
    by_cases h2 : (f.ground.length : Int) ≠ f.wide * f.high ∨ (f.ore.length : Int) ≠ f.wide * f.high
    · have hE : fieldE f = 3 := by unfold fieldE; rw [if_neg h1, if_pos h2]
      rw [hE]
      unfold fA
      have hwb := sideB_t hw
      have hhb := sideB_t hh
      have hm1 : f.wide * f.high ≤ 144 := mul_le_of (c := 12) (d := 12) (by omega) hwb.2 (by omega) hhb.2
      have hm0 : 0 ≤ f.wide * f.high := Int.mul_nonneg (by omega) (by omega)
      have hl1 : (f.ground.length : Int) ≤ 9223372036854775807 := by have a := h.2.2.1.2.2.1; have b := h.2.2.1.2.2.2.1; unfold maxLen at b; omega
      have hl2 : (f.ore.length : Int) ≤ 9223372036854775807 := by have a := h.2.2.2.2.2.1; have b := h.2.2.2.2.2.2.1; unfold maxLen at b; omega
      obtain ⟨wd, hi, gr, ore⟩ := f
      dsimp only at *
      clear hE h h1
      generalize gr.length = n at *
      generalize ore.length = m at *
      rcases (by
        by_cases e : (n : Int) = wd * hi
        · exact .inr ⟨by simp [e], by
            have : (m : Int) ≠ wd * hi := by rcases h2 with h | h; · exact absurd e h
                                             · exact h
            simpa using this⟩
        · exact .inl (by simpa using e) : ((n : Int) != wd * hi) = true ∨ (((n : Int) != wd * hi) = false ∧ ((m : Int) != wd * hi) = true)) with h3 | ⟨h3, h4⟩
      all_goals
        clear h2
        go_enter Tryd.func79, Tryd.ntmps79
        go_wp2_with (go_at_call 125; refine (side_any _ _).mono ?_; rintro e w' ⟨rfl, rfl⟩)
        go_ret
        exact ⟨rfl, (Below.refl _ _).alloc (Nat.le_refl _) _⟩
    · exact fcheck_loop s f w h hw hh (by omega) (by omega)
end Go.Proofs.YtkgkpggfoieioaaDoor
