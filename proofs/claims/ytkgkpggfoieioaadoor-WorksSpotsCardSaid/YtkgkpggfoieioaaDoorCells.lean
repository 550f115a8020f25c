import Derived.Test.YtkgkpggfoieioaaDoorField
namespace Go.Proofs.YtkgkpggfoieioaaDoor
set_option linter.unusedVariables false
open Go.RowKit
theorem errV0 : errV 0 = .nilIface := rfl
theorem errVn (n : Int) (h : n ≠ 0) : errV n = erE n := if_neg h
def badC (n x : Int) : Bool := decide (x < 0 ∨ n ≤ x)
theorem badC_eq (n x : Int) : badC n x = (decide (x < 0) || decide (n ≤ x)) := by unfold badC; rw [Bool.eq_iff_iff]; simp
theorem cellsfn_any (x : Int) (gb : Nat) (A : Option Addr) (n c : Nat) (w : World) (hc : w.cell? ⟨gb, 2, none⟩ = some (.slice A n c)) :
    Calls Tryd.prog 129 #[.int .i64 x, .pointer (some ⟨gb, 0, none⟩)] w fun e w' => e = .returned (.bool (badC n x)) ∧ w = w' := by
  rw [badC_eq]
  by_cases h : x < 0
  · go_enter Tryd.func129, Tryd.ntmps129
    go_wp2_with fail
    go_ret
    exact ⟨by simp; omega, rfl⟩
  · go_enter Tryd.func129, Tryd.ntmps129
    go_wp2_with fail
    go_ret
    exact ⟨by simp; omega, rfl⟩
def IdxPost (P : Bool) (w : World) (e : Ending) (w' : World) : Prop := ∃ r : Int, e = .returned (.int .i64 r) ∧ -1 ≤ r ∧ r ≤ 1000000000 ∧ decide (0 ≤ r) = P ∧ w = w'
theorem any_take_succ (p : Int → Bool) (ls : List Int) (k : Nat) (h : k < ls.length) : (ls.take (k + 1)).any p = ((ls.take k).any p || p (ls.getD k 0)) := by
  rw [List.take_succ_eq_append_getElem h, List.any_append, List.getD_eq_getElem?_getD, List.getElem?_eq_getElem h]; simp
theorem any_of_take (p : Int → Bool) (ls : List Int) (k : Nat) (h : (ls.take k).any p = true) : ls.any p = true := by
  obtain ⟨x, hx, hp⟩ := List.any_eq_true.1 h
  exact List.any_eq_true.2 ⟨x, List.mem_of_mem_take hx, hp⟩
set_option maxRecDepth 100000 in
theorem idxf_cells (gb : Nat) (A A' : Option Addr) (c n c' : Nat) (ls : List Int) (w : World) (ha : RD w w.heap.size 1 A ls.length (ls.map (.int .i64))) (hl : ls.length ≤ 1000000000) (hc : w.cell? ⟨gb, 2, none⟩ = some (.slice A' n c')) :
    Calls Tryd.prog 126 #[.slice A ls.length c, .func (.func 129) #[] #[.pointer (some ⟨gb, 0, none⟩)]] w (IdxPost (ls.any (badC n)) w) := by
  have HA := Lib.hid ha
  clear ha
  go_enter Tryd.func126, Tryd.ntmps126
  go_wp2_with fail
  go_loop [5, 8] (fun _ i => ∃ k : Nat, k ≤ ls.length ∧ i = .int .i64 k ∧ Hid ((ls.take k).any (badC n) = false)) (fun _ i => ls.length - (intOf i).toNat)
  case atStart => exact ⟨0, Nat.zero_le _, rfl, Lib.hid (by simp)⟩
  case round =>
    obtain ⟨k, hk, rfl, hK⟩ := hrel
    by_cases hlt : k < ls.length
    · obtain ⟨b, o, hA, hbl⟩ := HA.out.addr (by omega)
      have hcell := HA.out.at_ hA (j := k) (by omega)
      have hst := any_take_succ (badC n) ls k hlt
      rw [hK.out, Bool.false_or] at hst
      rw [List.getElem?_map, List.getElem?_eq_getElem hlt] at hcell
      have hgd : ls.getD k 0 = ls[k] := by rw [List.getD_eq_getElem?_getD, List.getElem?_eq_getElem hlt]; rfl
      simp only [Option.map_some, ← hgd] at hcell
      subst hA
      replace hgd := Lib.hid hgd
      generalize ls.getD k 0 = x at *
      have i1 : (k : Int) < (ls.length : Int) := by omega
      cases hb : badC n x with
      | true =>
        rw [hb] at hst
        have hall := any_of_take _ _ _ hst
        replace hall := Lib.hid hall
        replace hst := Lib.hid hst
        go_wp2_with (go_at_call 129; refine (cellsfn_any x gb A' n c' _ hc).mono ?_; rintro e w' ⟨rfl, rfl⟩)
        go_ret
        exact ⟨k, rfl, by omega, by omega, by rw [hall.out]; simp, rfl⟩
      | false =>
        rw [hb] at hst
        replace hst := Lib.hid hst
        go_wp2_with (go_at_call 129; refine (cellsfn_any x gb A' n c' _ hc).mono ?_; rintro e w' ⟨rfl, rfl⟩)
        go_round
        case rel => exact ⟨k + 1, by omega, by go_num, hst⟩
        case measure => simp [intOf]; omega
    · have hall : ls.any (badC n) = false := by have := hK.out; rwa [List.take_of_length_le (by omega)] at this
      replace hall := Lib.hid hall
      go_wp2_with fail
      go_ret
      exact ⟨-1, rfl, by omega, by omega, by rw [hall.out]; rfl, rfl⟩
theorem ctn_cells (gb : Nat) (A A' : Option Addr) (c n c' : Nat) (ls : List Int) (w : World) (ha : RD w w.heap.size 1 A ls.length (ls.map (.int .i64))) (hl : ls.length ≤ 1000000000) (hc : w.cell? ⟨gb, 2, none⟩ = some (.slice A' n c')) :
    Calls Tryd.prog 82 #[.slice A ls.length c, .func (.func 129) #[] #[.pointer (some ⟨gb, 0, none⟩)]] w fun e w' => e = .returned (.bool (ls.any (badC n))) ∧ w = w' := by
  have HA := Lib.hid ha
  clear ha
  go_enter Tryd.func82, Tryd.ntmps82
  go_wp2_with fail
  refine (idxf_cells gb A A' c n c' ls w HA.out hl hc).mono ?_
  rintro e w' ⟨r, rfl, h1, h2, h3, rfl⟩
  replace h3 := Lib.hid h3
  go_wp2_with fail
  go_ret
  exact ⟨by rw [← h3.out]; rfl, rfl⟩
/-- What is wrong with a field, and with cells of it. -/
def faultL (f : GF) (ls : List Int) : Int := if fieldE f ≠ 0 then fieldE f else if ls.any (badC f.ground.length) then 6 else 0
theorem faultL_e (f : GF) (ls : List Int) (h : fieldE f ≠ 0) : faultL f ls = fieldE f := if_pos h
theorem faultL_6 (f : GF) (ls : List Int) (h : fieldE f = 0) (h2 : ls.any (badC f.ground.length) = true) : faultL f ls = 6 := by unfold faultL; rw [if_neg (by simp [h]), if_pos h2]
theorem faultL_0 (f : GF) (ls : List Int) (h : fieldE f = 0) (h2 : ls.any (badC f.ground.length) = false) : faultL f ls = 0 := by unfold faultL; rw [if_neg (by simp [h]), if_neg (by simp [h2])]
theorem faultL_1 (f : GF) (a : Int) : faultL f [a] = cellE f a := by
  unfold faultL cellE
  have : ([a].any (badC f.ground.length)) = badC f.ground.length a := by simp
  rw [this]
  unfold badC
  simp only [decide_eq_true_eq]
set_option maxRecDepth 100000 in
theorem fcells_any (s : SF) (f : GF) (A : Option Addr) (c : Nat) (ls : List Int) (w : World) (h : FOk w s f) (ha : RD w w.heap.size 1 A ls.length (ls.map (.int .i64))) (hl : ls.length ≤ 100) :
    Calls Tryd.prog 97 #[fA s f, .slice A ls.length c] w fun e w' => e = .returned (errV (faultL f ls)) ∧ Below w.heap.size w w' := by
  have H := Lib.hid h
  have HA := Lib.hid ha
  clear h ha
  by_cases hE : fieldE f = 0
  · unfold fA
    go_enter Tryd.func97, Tryd.ntmps97
    go_wp2_with fail
    have hb1 : Below w.heap.size w (w.alloc (.cells #[.int .i64 f.wide, .int .i64 f.high, .slice s.ground.A f.ground.length s.ground.c, .slice s.ore.A f.ore.length s.ore.c] 52)) := (Below.refl _ _).alloc (Nat.le_refl _) _
    have hk1 := Blk.new w 52 #[.int .i64 f.wide, .int .i64 f.high, .slice s.ground.A f.ground.length s.ground.c, .slice s.ore.A f.ore.length s.ore.c]
    generalize (w.alloc (.cells #[.int .i64 f.wide, .int .i64 f.high, .slice s.ground.A f.ground.length s.ground.c, .slice s.ore.A f.ore.length s.ore.c] 52)) = W at *
    have HF := H.out.below hb1
    refine (fcheck_any s f W HF).mono ?_
    rintro e W2 ⟨rfl, hb2⟩
    rw [hE, errV0]
    have c2 : W2.cell? ⟨w.heap.size, 2, none⟩ = some (.slice s.ground.A f.ground.length s.ground.c) := (hk1.below hb2 hk1.lt).cell 2
    have hb3 := hb1.trans (hb2.mono hb1.size)
    have HA3 := (HA.out.below hb3).more hb3.size
    clear hk1 hb1 hb2 HF
    replace HA3 := Lib.hid HA3
    go_wp2_with fail
    refine (ctn_cells w.heap.size A s.ground.A c f.ground.length s.ground.c ls W2 HA3.out (by omega) c2).mono ?_
    rintro e W3 ⟨rfl, rfl⟩
    cases hany : ls.any (badC f.ground.length) with
    | true =>
      have hF := faultL_6 f ls hE hany
      replace hF := Lib.hid hF
      replace hany := Lib.hid hany
      replace hE := Lib.hid hE
      go_wp2_with fail
      go_ret
      exact ⟨by rw [hF.out]; rfl, hb3⟩
    | false =>
      have hF := faultL_0 f ls hE hany
      replace hF := Lib.hid hF
      replace hany := Lib.hid hany
      replace hE := Lib.hid hE
      go_wp2_with fail
      go_ret
      exact ⟨by rw [hF.out]; rfl, hb3⟩
  · rw [faultL_e f ls hE]
    unfold fA
    go_enter Tryd.func97, Tryd.ntmps97
    go_wp2_with fail
    have hb1 : Below w.heap.size w (w.alloc (.cells #[.int .i64 f.wide, .int .i64 f.high, .slice s.ground.A f.ground.length s.ground.c, .slice s.ore.A f.ore.length s.ore.c] 52)) := (Below.refl _ _).alloc (Nat.le_refl _) _
    generalize (w.alloc (.cells #[.int .i64 f.wide, .int .i64 f.high, .slice s.ground.A f.ground.length s.ground.c, .slice s.ore.A f.ore.length s.ore.c] 52)) = W at *
    have HF := H.out.below hb1
    refine (fcheck_any s f W HF).mono ?_
    rintro e W2 ⟨rfl, hb2⟩
    rw [errVn _ hE]
    unfold erE
    have hb3 := hb1.trans (hb2.mono hb1.size)
    replace hE := Lib.hid hE
    go_wp2_with fail
    go_ret
    exact ⟨by rw [errVn _ hE.out]; rfl, hb3⟩
end Go.Proofs.YtkgkpggfoieioaaDoor
