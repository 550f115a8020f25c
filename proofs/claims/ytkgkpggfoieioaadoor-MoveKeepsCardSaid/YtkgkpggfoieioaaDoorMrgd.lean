import Derived.Test.YtkgkpggfoieioaaDoorMrgc
import Derived.Test.YtkgkpggfoieioaaDoorMrgb
import Derived.BigQuiet
import Derived.Deep.QuietTactic
import Derived.StillTailTactics
import Derived.Deep.RegionHeld3
import Derived.Deep.CutBlock
import Derived.Deep.DeepCutAuto
import Derived.Test.YtkgkpggfoieioaaDoorRows
import Derived.WalkKit
import Derived.WalkLawsBesides
import Derived.WalkSpells
import Derived.Outline
import Derived.OwnWalk
import Derived.Lib.Hide
import Derived.Test.YtkgkpggfoieioaaDoorMrga
namespace Go.Proofs.YtkgkpggfoieioaaDoor
set_option linter.unusedVariables false
open Go.RowKit
theorem errV0 : errV 0 = .nilIface := rfl
theorem errVn (n : Int) (h : n ≠ 0) : errV n = erE n := if_neg h
def badC (n x : Int) : Bool := decide (x < 0 ∨ n ≤ x)
theorem badC_eq (n x : Int) : badC n x = (decide (x < 0) || decide (n ≤ x)) := by unfold badC; rw [Bool.eq_iff_iff]; simp
theorem cellsfn_any (x : Int) (gb : Nat) (A : Option Addr) (n c : Nat) (w : World) (hc : w.cell? ⟨gb, 2, none⟩ = some (.slice A n c)) :
    Calls Tryd.prog 129 #[.int .i64 x, .pointer (some ⟨gb, 0, none⟩)] w fun e w' => e = .returned (.bool (badC n x)) ∧ w = w' := by
  rw [badC_eq]
  by_cases h : x < 0
  · go_enter Tryd.func129, Tryd.ntmps129
    go_wp2_with fail
    go_ret
    exact ⟨by simp; omega, rfl⟩
  · go_enter Tryd.func129, Tryd.ntmps129
    go_wp2_with fail
    go_ret
    exact ⟨by simp; omega, rfl⟩
def IdxPost (P : Bool) (w : World) (e : Ending) (w' : World) : Prop := ∃ r : Int, e = .returned (.int .i64 r) ∧ -1 ≤ r ∧ r ≤ 1000000000 ∧ decide (0 ≤ r) = P ∧ w = w'
theorem any_take_succ (p : Int → Bool) (ls : List Int) (k : Nat) (h : k < ls.length) : (ls.take (k + 1)).any p = ((ls.take k).any p || p (ls.getD k 0)) := by
  rw [List.take_succ_eq_append_getElem h, List.any_append, List.getD_eq_getElem?_getD, List.getElem?_eq_getElem h]; simp
theorem any_of_take (p : Int → Bool) (ls : List Int) (k : Nat) (h : (ls.take k).any p = true) : ls.any p = true := by
  obtain ⟨x, hx, hp⟩ := List.any_eq_true.1 h
  exact List.any_eq_true.2 ⟨x, List.mem_of_mem_take hx, hp⟩
set_option maxRecDepth 100000 in
theorem idxf_cells (gb : Nat) (A A' : Option Addr) (c n c' : Nat) (ls : List Int) (w : World) (ha : RD w w.heap.size 1 A ls.length (ls.map (.int .i64))) (hl : ls.length ≤ 1000000000) (hc : w.cell? ⟨gb, 2, none⟩ = some (.slice A' n c')) :
    Calls Tryd.prog 126 #[.slice A ls.length c, .func (.func 129) #[] #[.pointer (some ⟨gb, 0, none⟩)]] w (IdxPost (ls.any (badC n)) w) := by
  have HA := Lib.hid ha
  clear ha
  go_enter Tryd.func126, Tryd.ntmps126
  go_wp2_with fail
  go_loop [5, 8] (fun _ i => ∃ k : Nat, k ≤ ls.length ∧ i = .int .i64 k ∧ Hid ((ls.take k).any (badC n) = false)) (fun _ i => ls.length - (intOf i).toNat)
  case atStart => exact ⟨0, Nat.zero_le _, rfl, Lib.hid (by simp)⟩
  case round =>
    obtain ⟨k, hk, rfl, hK⟩ := hrel
    by_cases hlt : k < ls.length
    · obtain ⟨b, o, hA, hbl⟩ := HA.out.addr (by omega)
      have hcell := HA.out.at_ hA (j := k) (by omega)
      have hst := any_take_succ (badC n) ls k hlt
      rw [hK.out, Bool.false_or] at hst
      rw [List.getElem?_map, List.getElem?_eq_getElem hlt] at hcell
      have hgd : ls.getD k 0 = ls[k] := by rw [List.getD_eq_getElem?_getD, List.getElem?_eq_getElem hlt]; rfl
      simp only [Option.map_some, ← hgd] at hcell
      subst hA
      replace hgd := Lib.hid hgd
      generalize ls.getD k 0 = x at *
      have i1 : (k : Int) < (ls.length : Int) := by omega
      cases hb : badC n x with
      | true =>
        rw [hb] at hst
        have hall := any_of_take _ _ _ hst
        replace hall := Lib.hid hall
        replace hst := Lib.hid hst
        go_wp2_with (go_at_call 129; refine (cellsfn_any x gb A' n c' _ hc).mono ?_; rintro e w' ⟨rfl, rfl⟩)
        go_ret
        exact ⟨k, rfl, by omega, by omega, by rw [hall.out]; simp, rfl⟩
      | false =>
        rw [hb] at hst
        replace hst := Lib.hid hst
        go_wp2_with (go_at_call 129; refine (cellsfn_any x gb A' n c' _ hc).mono ?_; rintro e w' ⟨rfl, rfl⟩)
        go_round
        case rel => exact ⟨k + 1, by omega, by go_num, hst⟩
        case measure => simp [intOf]; omega
    · have hall : ls.any (badC n) = false := by have := hK.out; rwa [List.take_of_length_le (by omega)] at this
      replace hall := Lib.hid hall
      go_wp2_with fail
      go_ret
      exact ⟨-1, rfl, by omega, by omega, by rw [hall.out]; rfl, rfl⟩
theorem ctn_cells (gb : Nat) (A A' : Option Addr) (c n c' : Nat) (ls : List Int) (w : World) (ha : RD w w.heap.size 1 A ls.length (ls.map (.int .i64))) (hl : ls.length ≤ 1000000000) (hc : w.cell? ⟨gb, 2, none⟩ = some (.slice A' n c')) :
    Calls Tryd.prog 82 #[.slice A ls.length c, .func (.func 129) #[] #[.pointer (some ⟨gb, 0, none⟩)]] w fun e w' => e = .returned (.bool (ls.any (badC n))) ∧ w = w' := by
  have HA := Lib.hid ha
  clear ha
  go_enter Tryd.func82, Tryd.ntmps82
  go_wp2_with fail
  refine (idxf_cells gb A A' c n c' ls w HA.out hl hc).mono ?_
  rintro e w' ⟨r, rfl, h1, h2, h3, rfl⟩
  replace h3 := Lib.hid h3
  go_wp2_with fail
  go_ret
  exact ⟨by rw [← h3.out]; rfl, rfl⟩
/-- What is wrong with a field, and with cells of it. -/
def faultL (f : GF) (ls : List Int) : Int := if fieldE f ≠ 0 then fieldE f else if ls.any (badC f.ground.length) then 6 else 0
theorem faultL_e (f : GF) (ls : List Int) (h : fieldE f ≠ 0) : faultL f ls = fieldE f := if_pos h
theorem faultL_6 (f : GF) (ls : List Int) (h : fieldE f = 0) (h2 : ls.any (badC f.ground.length) = true) : faultL f ls = 6 := by unfold faultL; rw [if_neg (by simp [h]), if_pos h2]
theorem faultL_0 (f : GF) (ls : List Int) (h : fieldE f = 0) (h2 : ls.any (badC f.ground.length) = false) : faultL f ls = 0 := by unfold faultL; rw [if_neg (by simp [h]), if_neg (by simp [h2])]
theorem faultL_1 (f : GF) (a : Int) : faultL f [a] = cellE f a := by
  unfold faultL cellE
  have : ([a].any (badC f.ground.length)) = badC f.ground.length a := by simp
  rw [this]
  unfold badC
  simp only [decide_eq_true_eq]
set_option maxRecDepth 100000 in
theorem fcells_any (s : SF) (f : GF) (A : Option Addr) (c : Nat) (ls : List Int) (w : World) (h : FOk w s f) (ha : RD w w.heap.size 1 A ls.length (ls.map (.int .i64))) (hl : ls.length ≤ 100) :
    Calls Tryd.prog 97 #[fA s f, .slice A ls.length c] w fun e w' => e = .returned (errV (faultL f ls)) ∧ Below w.heap.size w w' := by
  have H := Lib.hid h
  have HA := Lib.hid ha
  clear h ha
  by_cases hE : fieldE f = 0
  · unfold fA
    go_enter Tryd.func97, Tryd.ntmps97
    go_wp2_with fail
    have hb1 : Below w.heap.size w (w.alloc (.cells #[.int .i64 f.wide, .int .i64 f.high, .slice s.ground.A f.ground.length s.ground.c, .slice s.ore.A f.ore.length s.ore.c] 52)) := (Below.refl _ _).alloc (Nat.le_refl _) _
    have hk1 := Blk.new w 52 #[.int .i64 f.wide, .int .i64 f.high, .slice s.ground.A f.ground.length s.ground.c, .slice s.ore.A f.ore.length s.ore.c]
    generalize (w.alloc (.cells #[.int .i64 f.wide, .int .i64 f.high, .slice s.ground.A f.ground.length s.ground.c, .slice s.ore.A f.ore.length s.ore.c] 52)) = W at *
    have HF := H.out.below hb1
    refine (fcheck_any s f W HF).mono ?_
    rintro e W2 ⟨rfl, hb2⟩
    rw [hE, errV0]
    have c2 : W2.cell? ⟨w.heap.size, 2, none⟩ = some (.slice s.ground.A f.ground.length s.ground.c) := (hk1.below hb2 hk1.lt).cell 2
    have hb3 := hb1.trans (hb2.mono hb1.size)
    have HA3 := (HA.out.below hb3).more hb3.size
    clear hk1 hb1 hb2 HF
    replace HA3 := Lib.hid HA3
    go_wp2_with fail
    refine (ctn_cells w.heap.size A s.ground.A c f.ground.length s.ground.c ls W2 HA3.out (by omega) c2).mono ?_
    rintro e W3 ⟨rfl, rfl⟩
    cases hany : ls.any (badC f.ground.length) with
    | true =>
      have hF := faultL_6 f ls hE hany
      replace hF := Lib.hid hF
      replace hany := Lib.hid hany
      replace hE := Lib.hid hE
      go_wp2_with fail
      go_ret
      exact ⟨by rw [hF.out]; rfl, hb3⟩
    | false =>
      have hF := faultL_0 f ls hE hany
      replace hF := Lib.hid hF
      replace hany := Lib.hid hany
      replace hE := Lib.hid hE
      go_wp2_with fail
      go_ret
      exact ⟨by rw [hF.out]; rfl, hb3⟩
  · rw [faultL_e f ls hE]
    unfold fA
    go_enter Tryd.func97, Tryd.ntmps97
    go_wp2_with fail
    have hb1 : Below w.heap.size w (w.alloc (.cells #[.int .i64 f.wide, .int .i64 f.high, .slice s.ground.A f.ground.length s.ground.c, .slice s.ore.A f.ore.length s.ore.c] 52)) := (Below.refl _ _).alloc (Nat.le_refl _) _
    generalize (w.alloc (.cells #[.int .i64 f.wide, .int .i64 f.high, .slice s.ground.A f.ground.length s.ground.c, .slice s.ore.A f.ore.length s.ore.c] 52)) = W at *
    have HF := H.out.below hb1
    refine (fcheck_any s f W HF).mono ?_
    rintro e W2 ⟨rfl, hb2⟩
    rw [errVn _ hE]
    unfold erE
    have hb3 := hb1.trans (hb2.mono hb1.size)
    replace hE := Lib.hid hE
    go_wp2_with fail
    go_ret
    exact ⟨by rw [errVn _ hE.out]; rfl, hb3⟩
end Go.Proofs.YtkgkpggfoieioaaDoor
namespace Go.Proofs.YtkgkpggfoieioaaDoor
set_option linter.unusedVariables false
open Go.RowKit
theorem int_info : (Tryd.prog.info? 3).map (fun i => (i.zero, i.size, i.bytes)) = some (some (.int .i64 0), 1, 8) := by kernel_rfl
theorem onto_any (s : SF) (f : GF) (k : Nat) (fl : Bool) (w : World) (h : FOk w s f) (hk : k < f.ground.length) :
    Calls Tryd.prog 75 #[fA s f, .int .i64 k, .bool fl] w fun e w' => e = .returned (.int .i64 (ontoL f k fl)) ∧ Below w.heap.size w w' := by
  obtain ⟨b, o, hA, hc, hb⟩ := h.2.2.1.at_ hk
  unfold ontoL gAt
  unfold fA
  obtain ⟨wd, hi, gr, ore⟩ := f
  obtain ⟨⟨Ag, cg⟩, ⟨Ao, co⟩⟩ := s
  dsimp only at *
  generalize gr.getD k 0 = g at *
  generalize gr.length = n at *
  generalize ore.length = m at *
  subst hA
  clear h
  have i1 : (k : Int) < (n : Int) := by omega
  have hbl : b ≠ w.heap.size := by omega
  have hF : ontoG g fl = 0 ∨ True := .inr trivial
  clear hF
  rcases (by
    by_cases h1 : g = 1
    · exact .inl h1
    · by_cases h2 : g = 2
      · exact .inr (.inl h2)
      · by_cases h3 : g = 3
        · exact .inr (.inr (.inl h3))
        · exact .inr (.inr (.inr ⟨h1, h2, h3⟩)) : g = 1 ∨ g = 2 ∨ g = 3 ∨ (g ≠ 1 ∧ g ≠ 2 ∧ g ≠ 3)) with h1 | h1 | h1 | ⟨h1, h2, h3⟩
  · subst h1
    go_enter Tryd.func75, Tryd.ntmps75
    go_wp2_with fail
    go_ret
    exact ⟨by simp [ontoG], (Below.refl _ _).alloc (Nat.le_refl _) _⟩
  · subst h1
    cases fl
    · go_enter Tryd.func75, Tryd.ntmps75
      go_wp2_with fail
      go_ret
      exact ⟨by simp [ontoG], (Below.refl _ _).alloc (Nat.le_refl _) _⟩
    · go_enter Tryd.func75, Tryd.ntmps75
      go_wp2_with fail
      go_ret
      exact ⟨by simp [ontoG], (Below.refl _ _).alloc (Nat.le_refl _) _⟩
  · subst h1
    cases fl
    · go_enter Tryd.func75, Tryd.ntmps75
      go_wp2_with fail
      go_ret
      exact ⟨by simp [ontoG], (Below.refl _ _).alloc (Nat.le_refl _) _⟩
    · go_enter Tryd.func75, Tryd.ntmps75
      go_wp2_with fail
      go_ret
      exact ⟨by simp [ontoG], (Below.refl _ _).alloc (Nat.le_refl _) _⟩
  · have b1 : (g == 1) = false := by simp [h1]
    have b2 : (g == 2) = false := by simp [h2]
    have b3 : (g == 3) = false := by simp [h3]
    have hv : ontoG g fl = 1 := by unfold ontoG; rw [if_neg (by simp [h1, h2]), if_neg (by simp [h3])]
    rw [hv]
    clear h1 h2 h3 hv
    go_enter Tryd.func75, Tryd.ntmps75
    go_wp2_with fail
    go_ret
    exact ⟨rfl, (Below.refl _ _).alloc (Nat.le_refl _) _⟩
theorem dirs0 (w : World) : (Instr.index 173 (.agg #[.int .i64 0, .int .i64 (-1), .int .i64 (-1), .int .i64 0, .int .i64 1, .int .i64 0, .int .i64 0, .int .i64 1]) (.int .i64 0)).run Tryd.prog w = .ok (.agg #[.int .i64 0, .int .i64 (-1)]) w := by kernel_rfl
theorem dirs1 (w : World) : (Instr.index 173 (.agg #[.int .i64 0, .int .i64 (-1), .int .i64 (-1), .int .i64 0, .int .i64 1, .int .i64 0, .int .i64 0, .int .i64 1]) (.int .i64 1)).run Tryd.prog w = .ok (.agg #[.int .i64 (-1), .int .i64 0]) w := by kernel_rfl
theorem dirs2 (w : World) : (Instr.index 173 (.agg #[.int .i64 0, .int .i64 (-1), .int .i64 (-1), .int .i64 0, .int .i64 1, .int .i64 0, .int .i64 0, .int .i64 1]) (.int .i64 2)).run Tryd.prog w = .ok (.agg #[.int .i64 1, .int .i64 0]) w := by kernel_rfl
theorem dirs3 (w : World) : (Instr.index 173 (.agg #[.int .i64 0, .int .i64 (-1), .int .i64 (-1), .int .i64 0, .int .i64 1, .int .i64 0, .int .i64 0, .int .i64 1]) (.int .i64 3)).run Tryd.prog w = .ok (.agg #[.int .i64 0, .int .i64 1]) w := by kernel_rfl
def BesRel (w W : World) (f : GF) (a : Int) (v i : Value) (wr : World) : Prop := ∃ k : Nat, k ≤ 4 ∧ i = .int .i64 k ∧ wr.ownsRow (w.heap.size + 1) 3 1 v (besN f a k).length ((besN f a k).map (.int .i64)) ∧ Below (w.heap.size + 1) W wr
set_option maxHeartbeats 3200000 in
set_option maxRecDepth 100000 in
theorem beside_any (s : SF) (f : GF) (a : Int) (w : World) (hw : 1 ≤ f.wide ∧ f.wide ≤ 12) (hh : 1 ≤ f.high ∧ f.high ≤ 12) (ha : 0 ≤ a ∧ a < f.wide * f.high) :
    Calls Tryd.prog 102 #[fA s f, .int .i64 a] w fun e w' => ∃ v, e = .returned v ∧ w'.ownsRow w.heap.size 3 1 v (besL f a).length ((besL f a).map (.int .i64)) ∧ Below w.heap.size w w' := by
  obtain ⟨i0, hi0, hz0, hz1, hz2⟩ := info_parts int_info
  have hr1 : 0 ≤ a / f.wide := Int.ediv_nonneg ha.1 (by omega)
  have hr2 : a / f.wide < f.high := Int.ediv_lt_of_lt_mul (by omega) (by rw [Int.mul_comm]; exact ha.2)
  have hc1 : 0 ≤ a % f.wide := Int.emod_nonneg _ (by omega)
  have hc2 : a % f.wide < f.wide := Int.emod_lt_of_pos _ (by omega)
  have hdm : f.wide * (a / f.wide) + a % f.wide = a := Int.mul_ediv_add_emod a f.wide
  have ht1 : a.tmod f.wide = a % f.wide := Int.tmod_eq_emod_of_nonneg ha.1
  have ht2 : a.tdiv f.wide = a / f.wide := Int.tdiv_eq_ediv_of_nonneg ha.1
  have hm : f.wide * f.high ≤ 144 := mul_le_of (c := 12) (d := 12) (by omega) hw.2 (by omega) hh.2
  have hbes : ∀ k, besS f a k = besS f a k := fun _ => rfl
  unfold fA
  obtain ⟨wd, hi, gr, ore⟩ := f
  obtain ⟨⟨Ag, cg⟩, ⟨Ao, co⟩⟩ := s
  dsimp only at *
  clear hbes
  generalize hR : a / wd = R at *
  generalize hC : a % wd = C at *
  replace hR := Lib.hid hR
  replace hC := Lib.hid hC
  replace hdm := Lib.hid hdm
  have ha2 : a ≤ 144 := by omega
  obtain ⟨ha0, ha1⟩ := ha
  replace ha1 := Lib.hid ha1
  go_enter Tryd.func102, Tryd.ntmps102
  go_wp2_with fail
  go_big_quiet (fail)
  go_wp2_with fail
  have hb1 : Below w.heap.size w ((w.alloc (.cells #[.int .i64 wd, .int .i64 hi, .slice Ag gr.length cg, .slice Ao ore.length co] 52)).drewN nq) := bdrewN ((Below.refl _ _).alloc (Nat.le_refl _) _) _
  have hk1 : Blk ((w.alloc (.cells #[.int .i64 wd, .int .i64 hi, .slice Ag gr.length cg, .slice Ao ore.length co] 52)).drewN nq) w.heap.size 52 #[.int .i64 wd, .int .i64 hi, .slice Ag gr.length cg, .slice Ao ore.length co] := Blk.new w _ _
  have hs1 : ((w.alloc (.cells #[.int .i64 wd, .int .i64 hi, .slice Ag gr.length cg, .slice Ao ore.length co] 52)).drewN nq).heap.size = w.heap.size + 1 := by simp [World.drewN]
  generalize ((w.alloc (.cells #[.int .i64 wd, .int .i64 hi, .slice Ag gr.length cg, .slice Ao ore.length co] 52)).drewN nq) = W at *
  replace hs1 := Lib.hid hs1
  replace hb1 := Lib.hid hb1
  replace hk1 := Lib.hid hk1
  generalize hF : (⟨wd, hi, gr, ore⟩ : GF) = F at *
  have F0 : besS F a 0 = if R - 1 < 0 then [] else [a - wd] := by subst hF; show (if a / wd - 1 < 0 then [] else [a - wd]) = _; rw [hR.out]
  have F1 : besS F a 1 = if C - 1 < 0 then [] else [a - 1] := by subst hF; show (if a % wd - 1 < 0 then [] else [a - 1]) = _; rw [hC.out]
  have F2 : besS F a 2 = if C + 1 < wd then [a + 1] else [] := by subst hF; show (if a % wd + 1 < wd then [a + 1] else []) = _; rw [hC.out]
  have F3 : besS F a 3 = if R + 1 < hi then [a + wd] else [] := by subst hF; show (if a / wd + 1 < hi then [a + wd] else []) = _; rw [hR.out]
  replace hF := Lib.hid hF
  replace F0 := Lib.hid F0
  replace F1 := Lib.hid F1
  replace F2 := Lib.hid F2
  replace F3 := Lib.hid F3
  clear ht1 ht2
  have j0 := dirs0
  have j1 := dirs1
  have j2 := dirs2
  have j3 := dirs3
  go_loopw [4, 24] (fun v i wr => BesRel w W F a v i wr) (fun _ i _ => 4 - (intOf i).toNat)
  case atStart => exact ⟨0, by omega, rfl, World.ownsRow_nil _ _ _ _, Below.refl _ _⟩
  case round =>
    obtain ⟨k, hk, rfl, hown, hb⟩ := hrel
    have hkb := hk1.out.below hb (by omega)
    have c0 : wr.cell? ⟨w.heap.size, 0, none⟩ = some (.int .i64 wd) := hkb.cell 0
    have c1 : wr.cell? ⟨w.heap.size, 1, none⟩ = some (.int .i64 hi) := hkb.cell 1
    have hsz : w.heap.size + 1 ≤ wr.heap.size := by have h1 := hb.size; rw [hs1.out] at h1; exact h1
    have hnl := besN_len F a k
    have hlt0 : w.heap.size < wr.heap.size := by omega
    replace hown := Lib.hid hown
    replace hb := Lib.hid hb
    clear hkb
    by_cases h4 : k < 4
    · rcases (by omega : k = 0 ∨ k = 1 ∨ k = 2 ∨ k = 3) with rfl | rfl | rfl | rfl
      · by_cases hin : R - 1 < 0
        · have e1 : besN F a (0 + 1) = besN F a 0 := by show besN F a 0 ++ besS F a 0 = _; rw [F0.out, if_pos hin, List.append_nil]
          replace e1 := Lib.hid e1
          go_wp2_with fail
          go_big_quiet (fail)
          have ho3 : ((wr.alloc (.cells #[.int .i64 0, .int .i64 (-1)] 172)).drewN nq).ownsRow (w.heap.size + 1) 3 1 u4 (besN F a 0).length ((besN F a 0).map (.int .i64)) := hown.out.alloc _
          have hb3 : Below (w.heap.size + 1) W ((wr.alloc (.cells #[.int .i64 0, .int .i64 (-1)] 172)).drewN nq) := bdrewN (hb.out.alloc hsz _) _
          have d0 : ((wr.alloc (.cells #[.int .i64 0, .int .i64 (-1)] 172)).drewN nq).cell? ⟨w.heap.size, 0, none⟩ = some (.int .i64 wd) := (World.cell?_alloc_lt wr _ ⟨w.heap.size, 0, none⟩ hlt0).trans c0
          have d1 : ((wr.alloc (.cells #[.int .i64 0, .int .i64 (-1)] 172)).drewN nq).cell? ⟨w.heap.size, 1, none⟩ = some (.int .i64 hi) := (World.cell?_alloc_lt wr _ ⟨w.heap.size, 1, none⟩ hlt0).trans c1
          have hs3 : w.heap.size + 1 ≤ ((wr.alloc (.cells #[.int .i64 0, .int .i64 (-1)] 172)).drewN nq).heap.size := by simp [World.drewN]; omega
          replace ho3 := Lib.hid ho3
          replace hb3 := Lib.hid hb3
          generalize ((wr.alloc (.cells #[.int .i64 0, .int .i64 (-1)] 172)).drewN nq) = W3 at *
          clear c0 c1
          go_wp2_with fail
          go_roundw
          case rel => exact ⟨0 + 1, by omega, by go_num, by rw [e1.out]; exact ho3.out, hb3.out⟩
          case measure => simp [intOf]
        · have e1 : besN F a (0 + 1) = besN F a 0 ++ [a - wd] := by show besN F a 0 ++ besS F a 0 = _; rw [F0.out, if_neg hin]
          replace e1 := Lib.hid e1
          obtain ⟨P, hP1, hP, hPb, hP0⟩ : ∃ P : Int, IntKind.i64.wrap ((R + -1) * wd) = P ∧ Hid (P + C = a - wd) ∧ (0 ≤ P + C ∧ P + C ≤ 200) ∧ (0 ≤ P ∧ P ≤ 200) := by
            have hdd := hdm.out
            have e : (R + -1) * wd = a - wd - C := by first | (rw [Int.add_mul, Int.mul_comm R]; omega) | (rw [Int.mul_comm R]; omega)
            have e2 : 0 ≤ (R + -1) * wd := Int.mul_nonneg (by omega) (by omega)
            have e3 : (R + -1) * wd ≤ 11 * 12 := mul_le_of (by omega) (by omega) (by omega) (by omega)
            refine ⟨a - wd - C, by rw [e]; exact IntWalk.i64_in _ (by omega), Lib.hid (by omega), by omega, by omega⟩
          go_wp2_with fail
          go_big_quiet (fail)
          have ho3 : ((wr.alloc (.cells #[.int .i64 0, .int .i64 (-1)] 172)).drewN nq).ownsRow (w.heap.size + 1) 3 1 u4 (besN F a 0).length ((besN F a 0).map (.int .i64)) := hown.out.alloc _
          have hb3 : Below (w.heap.size + 1) W ((wr.alloc (.cells #[.int .i64 0, .int .i64 (-1)] 172)).drewN nq) := bdrewN (hb.out.alloc hsz _) _
          have d0 : ((wr.alloc (.cells #[.int .i64 0, .int .i64 (-1)] 172)).drewN nq).cell? ⟨w.heap.size, 0, none⟩ = some (.int .i64 wd) := (World.cell?_alloc_lt wr _ ⟨w.heap.size, 0, none⟩ hlt0).trans c0
          have d1 : ((wr.alloc (.cells #[.int .i64 0, .int .i64 (-1)] 172)).drewN nq).cell? ⟨w.heap.size, 1, none⟩ = some (.int .i64 hi) := (World.cell?_alloc_lt wr _ ⟨w.heap.size, 1, none⟩ hlt0).trans c1
          have hs3 : w.heap.size + 1 ≤ ((wr.alloc (.cells #[.int .i64 0, .int .i64 (-1)] 172)).drewN nq).heap.size := by simp [World.drewN]; omega
          replace ho3 := Lib.hid ho3
          replace hb3 := Lib.hid hb3
          generalize ((wr.alloc (.cells #[.int .i64 0, .int .i64 (-1)] 172)).drewN nq) = W3 at *
          clear c0 c1
          go_wp2_with (at_builtin; refine wpList_app1 rfl (.tmp 53) (.tmp 60) 34 rfl (w.heap.size + 1) 3 i0 _ 1 8 Tryd.underlying34 hi0 hz0 hz1 hz2 rfl (by decide) (by decide) W3 #[.int .i64 (P + C)] u4 (besN F a 0).length _ rfl ho3.out rfl rfl rfl (by omega) hs3 ?_; intro v' w2 hown' hgrow)
          go_roundw
          case rel => exact ⟨0 + 1, by omega, by go_num, by rw [e1.out, List.length_append, List.map_append, ← hP.out]; exact hown', hb3.out.grown hgrow hs3 (fun g hg => (ho3.out.lt g hg).1)⟩
          case measure => simp [intOf]
      · by_cases hin : C - 1 < 0
        · have e1 : besN F a (1 + 1) = besN F a 1 := by show besN F a 1 ++ besS F a 1 = _; rw [F1.out, if_pos hin, List.append_nil]
          replace e1 := Lib.hid e1
          go_wp2_with fail
          go_big_quiet (fail)
          have ho3 : ((wr.alloc (.cells #[.int .i64 (-1), .int .i64 0] 172)).drewN nq).ownsRow (w.heap.size + 1) 3 1 u4 (besN F a 1).length ((besN F a 1).map (.int .i64)) := hown.out.alloc _
          have hb3 : Below (w.heap.size + 1) W ((wr.alloc (.cells #[.int .i64 (-1), .int .i64 0] 172)).drewN nq) := bdrewN (hb.out.alloc hsz _) _
          have d0 : ((wr.alloc (.cells #[.int .i64 (-1), .int .i64 0] 172)).drewN nq).cell? ⟨w.heap.size, 0, none⟩ = some (.int .i64 wd) := (World.cell?_alloc_lt wr _ ⟨w.heap.size, 0, none⟩ hlt0).trans c0
          have d1 : ((wr.alloc (.cells #[.int .i64 (-1), .int .i64 0] 172)).drewN nq).cell? ⟨w.heap.size, 1, none⟩ = some (.int .i64 hi) := (World.cell?_alloc_lt wr _ ⟨w.heap.size, 1, none⟩ hlt0).trans c1
          have hs3 : w.heap.size + 1 ≤ ((wr.alloc (.cells #[.int .i64 (-1), .int .i64 0] 172)).drewN nq).heap.size := by simp [World.drewN]; omega
          replace ho3 := Lib.hid ho3
          replace hb3 := Lib.hid hb3
          generalize ((wr.alloc (.cells #[.int .i64 (-1), .int .i64 0] 172)).drewN nq) = W3 at *
          clear c0 c1
          go_wp2_with fail
          go_roundw
          case rel => exact ⟨1 + 1, by omega, by go_num, by rw [e1.out]; exact ho3.out, hb3.out⟩
          case measure => simp [intOf]
        · have e1 : besN F a (1 + 1) = besN F a 1 ++ [a - 1] := by show besN F a 1 ++ besS F a 1 = _; rw [F1.out, if_neg hin]
          replace e1 := Lib.hid e1
          obtain ⟨P, hP1, hP, hPb, hP0⟩ : ∃ P : Int, IntKind.i64.wrap (R * wd) = P ∧ Hid (P + (C + -1) = a - 1) ∧ (0 ≤ P + (C + -1) ∧ P + (C + -1) ≤ 200) ∧ (0 ≤ P ∧ P ≤ 200) := by
            have hdd := hdm.out
            have e : R * wd = a - 1 - (C + -1) := by first | (rw [Int.add_mul, Int.mul_comm R]; omega) | (rw [Int.mul_comm R]; omega)
            have e2 : 0 ≤ R * wd := Int.mul_nonneg (by omega) (by omega)
            have e3 : R * wd ≤ 11 * 12 := mul_le_of (by omega) (by omega) (by omega) (by omega)
            refine ⟨a - 1 - (C + -1), by rw [e]; exact IntWalk.i64_in _ (by omega), Lib.hid (by omega), by omega, by omega⟩
          go_wp2_with fail
          go_big_quiet (fail)
          have ho3 : ((wr.alloc (.cells #[.int .i64 (-1), .int .i64 0] 172)).drewN nq).ownsRow (w.heap.size + 1) 3 1 u4 (besN F a 1).length ((besN F a 1).map (.int .i64)) := hown.out.alloc _
          have hb3 : Below (w.heap.size + 1) W ((wr.alloc (.cells #[.int .i64 (-1), .int .i64 0] 172)).drewN nq) := bdrewN (hb.out.alloc hsz _) _
          have d0 : ((wr.alloc (.cells #[.int .i64 (-1), .int .i64 0] 172)).drewN nq).cell? ⟨w.heap.size, 0, none⟩ = some (.int .i64 wd) := (World.cell?_alloc_lt wr _ ⟨w.heap.size, 0, none⟩ hlt0).trans c0
          have d1 : ((wr.alloc (.cells #[.int .i64 (-1), .int .i64 0] 172)).drewN nq).cell? ⟨w.heap.size, 1, none⟩ = some (.int .i64 hi) := (World.cell?_alloc_lt wr _ ⟨w.heap.size, 1, none⟩ hlt0).trans c1
          have hs3 : w.heap.size + 1 ≤ ((wr.alloc (.cells #[.int .i64 (-1), .int .i64 0] 172)).drewN nq).heap.size := by simp [World.drewN]; omega
          replace ho3 := Lib.hid ho3
          replace hb3 := Lib.hid hb3
          generalize ((wr.alloc (.cells #[.int .i64 (-1), .int .i64 0] 172)).drewN nq) = W3 at *
          clear c0 c1
          go_wp2_with (at_builtin; refine wpList_app1 rfl (.tmp 53) (.tmp 60) 34 rfl (w.heap.size + 1) 3 i0 _ 1 8 Tryd.underlying34 hi0 hz0 hz1 hz2 rfl (by decide) (by decide) W3 #[.int .i64 (P + (C + -1))] u4 (besN F a 1).length _ rfl ho3.out rfl rfl rfl (by omega) hs3 ?_; intro v' w2 hown' hgrow)
          go_roundw
          case rel => exact ⟨1 + 1, by omega, by go_num, by rw [e1.out, List.length_append, List.map_append, ← hP.out]; exact hown', hb3.out.grown hgrow hs3 (fun g hg => (ho3.out.lt g hg).1)⟩
          case measure => simp [intOf]
      · by_cases hin : ¬ C + 1 < wd
        · have e1 : besN F a (2 + 1) = besN F a 2 := by show besN F a 2 ++ besS F a 2 = _; rw [F2.out, if_neg hin, List.append_nil]
          replace e1 := Lib.hid e1
          go_wp2_with fail
          go_big_quiet (fail)
          have ho3 : ((wr.alloc (.cells #[.int .i64 1, .int .i64 0] 172)).drewN nq).ownsRow (w.heap.size + 1) 3 1 u4 (besN F a 2).length ((besN F a 2).map (.int .i64)) := hown.out.alloc _
          have hb3 : Below (w.heap.size + 1) W ((wr.alloc (.cells #[.int .i64 1, .int .i64 0] 172)).drewN nq) := bdrewN (hb.out.alloc hsz _) _
          have d0 : ((wr.alloc (.cells #[.int .i64 1, .int .i64 0] 172)).drewN nq).cell? ⟨w.heap.size, 0, none⟩ = some (.int .i64 wd) := (World.cell?_alloc_lt wr _ ⟨w.heap.size, 0, none⟩ hlt0).trans c0
          have d1 : ((wr.alloc (.cells #[.int .i64 1, .int .i64 0] 172)).drewN nq).cell? ⟨w.heap.size, 1, none⟩ = some (.int .i64 hi) := (World.cell?_alloc_lt wr _ ⟨w.heap.size, 1, none⟩ hlt0).trans c1
          have hs3 : w.heap.size + 1 ≤ ((wr.alloc (.cells #[.int .i64 1, .int .i64 0] 172)).drewN nq).heap.size := by simp [World.drewN]; omega
          replace ho3 := Lib.hid ho3
          replace hb3 := Lib.hid hb3
          generalize ((wr.alloc (.cells #[.int .i64 1, .int .i64 0] 172)).drewN nq) = W3 at *
          clear c0 c1
          go_wp2_with fail
          go_roundw
          case rel => exact ⟨2 + 1, by omega, by go_num, by rw [e1.out]; exact ho3.out, hb3.out⟩
          case measure => simp [intOf]
        · have e1 : besN F a (2 + 1) = besN F a 2 ++ [a + 1] := by show besN F a 2 ++ besS F a 2 = _; rw [F2.out, if_pos (Decidable.not_not.1 hin)]
          replace e1 := Lib.hid e1
          obtain ⟨P, hP1, hP, hPb, hP0⟩ : ∃ P : Int, IntKind.i64.wrap (R * wd) = P ∧ Hid (P + (C + 1) = a + 1) ∧ (0 ≤ P + (C + 1) ∧ P + (C + 1) ≤ 200) ∧ (0 ≤ P ∧ P ≤ 200) := by
            have hdd := hdm.out
            have e : R * wd = a + 1 - (C + 1) := by first | (rw [Int.add_mul, Int.mul_comm R]; omega) | (rw [Int.mul_comm R]; omega)
            have e2 : 0 ≤ R * wd := Int.mul_nonneg (by omega) (by omega)
            have e3 : R * wd ≤ 11 * 12 := mul_le_of (by omega) (by omega) (by omega) (by omega)
            refine ⟨a + 1 - (C + 1), by rw [e]; exact IntWalk.i64_in _ (by omega), Lib.hid (by omega), by omega, by omega⟩
          go_wp2_with fail
          go_big_quiet (fail)
          have ho3 : ((wr.alloc (.cells #[.int .i64 1, .int .i64 0] 172)).drewN nq).ownsRow (w.heap.size + 1) 3 1 u4 (besN F a 2).length ((besN F a 2).map (.int .i64)) := hown.out.alloc _
          have hb3 : Below (w.heap.size + 1) W ((wr.alloc (.cells #[.int .i64 1, .int .i64 0] 172)).drewN nq) := bdrewN (hb.out.alloc hsz _) _
          have d0 : ((wr.alloc (.cells #[.int .i64 1, .int .i64 0] 172)).drewN nq).cell? ⟨w.heap.size, 0, none⟩ = some (.int .i64 wd) := (World.cell?_alloc_lt wr _ ⟨w.heap.size, 0, none⟩ hlt0).trans c0
          have d1 : ((wr.alloc (.cells #[.int .i64 1, .int .i64 0] 172)).drewN nq).cell? ⟨w.heap.size, 1, none⟩ = some (.int .i64 hi) := (World.cell?_alloc_lt wr _ ⟨w.heap.size, 1, none⟩ hlt0).trans c1
          have hs3 : w.heap.size + 1 ≤ ((wr.alloc (.cells #[.int .i64 1, .int .i64 0] 172)).drewN nq).heap.size := by simp [World.drewN]; omega
          replace ho3 := Lib.hid ho3
          replace hb3 := Lib.hid hb3
          generalize ((wr.alloc (.cells #[.int .i64 1, .int .i64 0] 172)).drewN nq) = W3 at *
          clear c0 c1
          go_wp2_with (at_builtin; refine wpList_app1 rfl (.tmp 53) (.tmp 60) 34 rfl (w.heap.size + 1) 3 i0 _ 1 8 Tryd.underlying34 hi0 hz0 hz1 hz2 rfl (by decide) (by decide) W3 #[.int .i64 (P + (C + 1))] u4 (besN F a 2).length _ rfl ho3.out rfl rfl rfl (by omega) hs3 ?_; intro v' w2 hown' hgrow)
          go_roundw
          case rel => exact ⟨2 + 1, by omega, by go_num, by rw [e1.out, List.length_append, List.map_append, ← hP.out]; exact hown', hb3.out.grown hgrow hs3 (fun g hg => (ho3.out.lt g hg).1)⟩
          case measure => simp [intOf]
      · by_cases hin : ¬ R + 1 < hi
        · have e1 : besN F a (3 + 1) = besN F a 3 := by show besN F a 3 ++ besS F a 3 = _; rw [F3.out, if_neg hin, List.append_nil]
          replace e1 := Lib.hid e1
          go_wp2_with fail
          go_big_quiet (fail)
          have ho3 : ((wr.alloc (.cells #[.int .i64 0, .int .i64 1] 172)).drewN nq).ownsRow (w.heap.size + 1) 3 1 u4 (besN F a 3).length ((besN F a 3).map (.int .i64)) := hown.out.alloc _
          have hb3 : Below (w.heap.size + 1) W ((wr.alloc (.cells #[.int .i64 0, .int .i64 1] 172)).drewN nq) := bdrewN (hb.out.alloc hsz _) _
          have d0 : ((wr.alloc (.cells #[.int .i64 0, .int .i64 1] 172)).drewN nq).cell? ⟨w.heap.size, 0, none⟩ = some (.int .i64 wd) := (World.cell?_alloc_lt wr _ ⟨w.heap.size, 0, none⟩ hlt0).trans c0
          have d1 : ((wr.alloc (.cells #[.int .i64 0, .int .i64 1] 172)).drewN nq).cell? ⟨w.heap.size, 1, none⟩ = some (.int .i64 hi) := (World.cell?_alloc_lt wr _ ⟨w.heap.size, 1, none⟩ hlt0).trans c1
          have hs3 : w.heap.size + 1 ≤ ((wr.alloc (.cells #[.int .i64 0, .int .i64 1] 172)).drewN nq).heap.size := by simp [World.drewN]; omega
          replace ho3 := Lib.hid ho3
          replace hb3 := Lib.hid hb3
          generalize ((wr.alloc (.cells #[.int .i64 0, .int .i64 1] 172)).drewN nq) = W3 at *
          clear c0 c1
          go_wp2_with fail
          go_roundw
          case rel => exact ⟨3 + 1, by omega, by go_num, by rw [e1.out]; exact ho3.out, hb3.out⟩
          case measure => simp [intOf]
        · have e1 : besN F a (3 + 1) = besN F a 3 ++ [a + wd] := by show besN F a 3 ++ besS F a 3 = _; rw [F3.out, if_pos (Decidable.not_not.1 hin)]
          replace e1 := Lib.hid e1
          obtain ⟨P, hP1, hP, hPb, hP0⟩ : ∃ P : Int, IntKind.i64.wrap ((R + 1) * wd) = P ∧ Hid (P + C = a + wd) ∧ (0 ≤ P + C ∧ P + C ≤ 200) ∧ (0 ≤ P ∧ P ≤ 200) := by
            have hdd := hdm.out
            have e : (R + 1) * wd = a + wd - C := by first | (rw [Int.add_mul, Int.mul_comm R]; omega) | (rw [Int.mul_comm R]; omega)
            have e2 : 0 ≤ (R + 1) * wd := Int.mul_nonneg (by omega) (by omega)
            have e3 : (R + 1) * wd ≤ 11 * 12 := mul_le_of (by omega) (by omega) (by omega) (by omega)
            refine ⟨a + wd - C, by rw [e]; exact IntWalk.i64_in _ (by omega), Lib.hid (by omega), by omega, by omega⟩
          go_wp2_with fail
          go_big_quiet (fail)
          have ho3 : ((wr.alloc (.cells #[.int .i64 0, .int .i64 1] 172)).drewN nq).ownsRow (w.heap.size + 1) 3 1 u4 (besN F a 3).length ((besN F a 3).map (.int .i64)) := hown.out.alloc _
          have hb3 : Below (w.heap.size + 1) W ((wr.alloc (.cells #[.int .i64 0, .int .i64 1] 172)).drewN nq) := bdrewN (hb.out.alloc hsz _) _
          have d0 : ((wr.alloc (.cells #[.int .i64 0, .int .i64 1] 172)).drewN nq).cell? ⟨w.heap.size, 0, none⟩ = some (.int .i64 wd) := (World.cell?_alloc_lt wr _ ⟨w.heap.size, 0, none⟩ hlt0).trans c0
          have d1 : ((wr.alloc (.cells #[.int .i64 0, .int .i64 1] 172)).drewN nq).cell? ⟨w.heap.size, 1, none⟩ = some (.int .i64 hi) := (World.cell?_alloc_lt wr _ ⟨w.heap.size, 1, none⟩ hlt0).trans c1
          have hs3 : w.heap.size + 1 ≤ ((wr.alloc (.cells #[.int .i64 0, .int .i64 1] 172)).drewN nq).heap.size := by simp [World.drewN]; omega
          replace ho3 := Lib.hid ho3
          replace hb3 := Lib.hid hb3
          generalize ((wr.alloc (.cells #[.int .i64 0, .int .i64 1] 172)).drewN nq) = W3 at *
          clear c0 c1
          go_wp2_with (at_builtin; refine wpList_app1 rfl (.tmp 53) (.tmp 60) 34 rfl (w.heap.size + 1) 3 i0 _ 1 8 Tryd.underlying34 hi0 hz0 hz1 hz2 rfl (by decide) (by decide) W3 #[.int .i64 (P + C)] u4 (besN F a 3).length _ rfl ho3.out rfl rfl rfl (by omega) hs3 ?_; intro v' w2 hown' hgrow)
          go_roundw
          case rel => exact ⟨3 + 1, by omega, by go_num, by rw [e1.out, List.length_append, List.map_append, ← hP.out]; exact hown', hb3.out.grown hgrow hs3 (fun g hg => (ho3.out.lt g hg).1)⟩
          case measure => simp [intOf]
    · obtain rfl : k = 4 := by omega
      replace hb1 := hb1.out
      have hb5 : Below w.heap.size w wr := hb1.trans (hb.out.mono (by omega))
      replace hb1 := Lib.hid hb1
      replace hb5 := Lib.hid hb5
      have ho5 := own_base hown.out (show w.heap.size ≤ w.heap.size + 1 by omega)
      replace ho5 := Lib.hid ho5
      go_wp2_with fail
      go_ret
      exact ⟨_, rfl, by rw [hF.out]; exact ho5.out, hb5.out⟩
end Go.Proofs.YtkgkpggfoieioaaDoor
namespace Go.Proofs.YtkgkpggfoieioaaDoor
set_option linter.unusedVariables false
open Go.RowKit
/-! world.On, world.Find. -/
theorem SLU.below {w w' : World} {s : SL} {xs : List GU} (h : SLU w s xs) (hb : Below w.heap.size w w') : SLU w' s xs := ⟨(h.1.below hb).more hb.size, h.2⟩
theorem SLJ.below {w w' : World} {s : SL} {xs : List GJ} (h : SLJ w s xs) (hb : Below w.heap.size w w') : SLJ w' s xs := ⟨(h.1.below hb).more hb.size, h.2⟩
theorem WOk.below {w w' : World} {s : SW} {x : GW} (h : WOk w s x) (hb : Below w.heap.size w w') : WOk w' s x := ⟨h.1, h.2.1, h.2.2.1.below hb, h.2.2.2.1.below hb, h.2.2.2.2.1.below hb, h.2.2.2.2.2.below hb⟩
theorem KS.up {w w' : World} {s : SL} {L : List GK} (h : KS w w.heap.size s L) (hb : Below w.heap.size w w') : KS w' w'.heap.size s L := (h.below hb).more hb.size
abbrev wA (s : SW) (x : GW) : Value := .agg #[.int .i64 x.turn, .int .i64 x.next, .int .i64 x.field.wide, .int .i64 x.field.high, .slice s.field.ground.A x.field.ground.length s.field.ground.c, .slice s.field.ore.A x.field.ore.length s.field.ore.c, .slice s.gold.A x.gold.length s.gold.c, .slice s.units.A x.units.length s.units.c, .slice s.queue.A x.queue.length s.queue.c]
abbrev wC (s : SW) (x : GW) : Array Value := #[.int .i64 x.turn, .int .i64 x.next, .int .i64 x.field.wide, .int .i64 x.field.high, .slice s.field.ground.A x.field.ground.length s.field.ground.c, .slice s.field.ore.A x.field.ore.length s.field.ore.c, .slice s.gold.A x.gold.length s.gold.c, .slice s.units.A x.units.length s.units.c, .slice s.queue.A x.queue.length s.queue.c]
theorem two_boxes (w : World) (t t' : TypeId) (cs cs' : Array Value) : Below w.heap.size w ((w.alloc (.cells cs t)).alloc (.cells cs' t')) ∧ Blk ((w.alloc (.cells cs t)).alloc (.cells cs' t')) w.heap.size t cs ∧ Blk ((w.alloc (.cells cs t)).alloc (.cells cs' t')) (w.heap.size + 1) t' cs' :=
  ⟨((Below.refl _ _).alloc (Nat.le_refl _) _).alloc (by simp) _, (Blk.new _ _ _).alloc _, by have := Blk.new (w.alloc (.cells cs t)) t' cs'; simpa using this⟩
theorem WOk.ulen {w : World} {s : SW} {x : GW} (h : WOk w s x) : x.units.length ≤ 9223372036854775807 := by
  have h1 := h.2.2.2.2.1.2.2.1
  have h2 := h.2.2.2.2.1.2.2.2.1
  unfold maxLen at h2; omega
theorem onfn_any (u : GU) (c : Int) (kb : Nat) (w : World) (hc : w.cell? ⟨kb, 0, none⟩ = some (.int .i64 c)) (hb : kb < w.heap.size) :
    Calls Tryd.prog 121 #[uV u, .pointer (some ⟨kb, 0, none⟩)] w fun e w' => e = .returned (.bool (u.spot == c)) ∧ Below w.heap.size w w' := by
  go_enter Tryd.func121, Tryd.ntmps121
  go_wp2_with fail
  go_ret
  exact ⟨rfl, (Below.refl _ _).alloc (Nat.le_refl _) _⟩
set_option maxRecDepth 100000 in
theorem on_any (s : SW) (x : GW) (c : Int) (w : World) (h : WOk w s x) :
    Calls Tryd.prog 76 #[wA s x, .int .i64 c] w fun e w' => e = .returned (.int .i64 (onI x.units c)) ∧ Below w.heap.size w w' := by
  obtain ⟨hb1, hk1, hk2⟩ := two_boxes w 55 3 (wC s x) #[.int .i64 c]
  have hul := h.ulen
  have hi := idxU_any 121 (.pointer (some ⟨w.heap.size + 1, 0, none⟩)) (fun v => v.spot == c) s.units.A s.units.c w.heap.size x.units ((w.alloc (.cells (wC s x) 55)).alloc (.cells #[.int .i64 c] 3)) (h.2.2.2.2.1.1.below hb1) hb1.size hul (fun args w => by kernel_rfl) (fun y hy wz hz => onfn_any y c _ wz ((hk2.below hz hk2.lt).cell 0) (by have := hz.size; have := hk2.lt; omega))
  have c4 : ((w.alloc (.cells (wC s x) 55)).alloc (.cells #[.int .i64 c] 3)).cell? ⟨w.heap.size, 7, none⟩ = some (.slice s.units.A x.units.length s.units.c) := hk1.cell 7
  have l4 := hk1.lt
  replace hi := Lib.hid hi
  replace hb1 := Lib.hid hb1
  clear h hk1 hk2
  unfold wC at c4 l4 hi hb1
  unfold onI
  generalize firstI (fun v : GU => v.spot == c) x.units = r at *
  go_enter Tryd.func76, Tryd.ntmps76
  go_upto_region 1 with fail
  generalize ((w.alloc (.cells #[.int .i64 x.turn, .int .i64 x.next, .int .i64 x.field.wide, .int .i64 x.field.high, .slice s.field.ground.A x.field.ground.length s.field.ground.c, .slice s.field.ore.A x.field.ore.length s.field.ore.c, .slice s.gold.A x.gold.length s.gold.c, .slice s.units.A x.units.length s.units.c, .slice s.queue.A x.queue.length s.queue.c] 55)).alloc (.cells #[.int .i64 c] 3)) = W at *
  go_wp2_with fail
  refine hi.out.mono ?_
  rintro e w2 ⟨rfl, hb2⟩
  have hb3 := hb1.out.trans (hb2.mono hb1.out.size)
  replace hb3 := Lib.hid hb3
  clear hb2
  go_wp2_with fail
  go_ret
  exact ⟨rfl, hb3.out⟩
theorem wfindfn_any (u : GU) (c : Int) (kb : Nat) (w : World) (hc : w.cell? ⟨kb, 0, none⟩ = some (.int .i64 c)) (hb : kb < w.heap.size) :
    Calls Tryd.prog 87 #[uV u, .pointer (some ⟨kb, 0, none⟩)] w fun e w' => e = .returned (.bool (u.id == c)) ∧ Below w.heap.size w w' := by
  go_enter Tryd.func87, Tryd.ntmps87
  go_wp2_with fail
  go_ret
  exact ⟨rfl, (Below.refl _ _).alloc (Nat.le_refl _) _⟩
set_option maxRecDepth 100000 in
theorem wfind_any (s : SW) (x : GW) (c : Int) (w : World) (h : WOk w s x) :
    Calls Tryd.prog 29 #[wA s x, .int .i64 c] w fun e w' => e = .returned (.int .i64 (findId x.units c)) ∧ Below w.heap.size w w' := by
  obtain ⟨hb1, hk1, hk2⟩ := two_boxes w 55 3 (wC s x) #[.int .i64 c]
  have hul := h.ulen
  have hi := idxU_any 87 (.pointer (some ⟨w.heap.size + 1, 0, none⟩)) (fun v => v.id == c) s.units.A s.units.c w.heap.size x.units ((w.alloc (.cells (wC s x) 55)).alloc (.cells #[.int .i64 c] 3)) (h.2.2.2.2.1.1.below hb1) hb1.size hul (fun args w => by kernel_rfl) (fun y hy wz hz => wfindfn_any y c _ wz ((hk2.below hz hk2.lt).cell 0) (by have := hz.size; have := hk2.lt; omega))
  have c4 : ((w.alloc (.cells (wC s x) 55)).alloc (.cells #[.int .i64 c] 3)).cell? ⟨w.heap.size, 7, none⟩ = some (.slice s.units.A x.units.length s.units.c) := hk1.cell 7
  have l4 := hk1.lt
  replace hi := Lib.hid hi
  replace hb1 := Lib.hid hb1
  clear h hk1 hk2
  unfold wC at c4 l4 hi hb1
  unfold findId
  generalize firstI (fun v : GU => v.id == c) x.units = r at *
  go_enter Tryd.func29, Tryd.ntmps29
  go_upto_region 1 with fail
  generalize ((w.alloc (.cells #[.int .i64 x.turn, .int .i64 x.next, .int .i64 x.field.wide, .int .i64 x.field.high, .slice s.field.ground.A x.field.ground.length s.field.ground.c, .slice s.field.ore.A x.field.ore.length s.field.ore.c, .slice s.gold.A x.gold.length s.gold.c, .slice s.units.A x.units.length s.units.c, .slice s.queue.A x.queue.length s.queue.c] 55)).alloc (.cells #[.int .i64 c] 3)) = W at *
  go_wp2_with fail
  refine hi.out.mono ?_
  rintro e w2 ⟨rfl, hb2⟩
  have hb3 := hb1.out.trans (hb2.mono hb1.out.size)
  replace hb3 := Lib.hid hb3
  clear hb2
  go_wp2_with fail
  go_ret
  exact ⟨rfl, hb3.out⟩
end Go.Proofs.YtkgkpggfoieioaaDoor
namespace Go.Proofs.YtkgkpggfoieioaaDoor
set_option linter.unusedVariables false
open Go.RowKit
theorem cloneI_info : (Tryd.prog.info? 3).map (fun i => (i.zero, i.size, i.bytes)) = some (some (.int .i64 0), 1, 8) := by kernel_rfl
theorem cloneI_any (A : Option Addr) (n c B : Nat) (xs : List Int) (w : World) (hnil : A = none → c = 0) (hB : B ≤ w.heap.size) (h : RD w B 1 A n (xs.map (.int .i64))) (hn : n * 8 ≤ 140737488355328) :
    Calls Tryd.prog 122 #[.slice A n c] w fun e w' => ∃ v, e = .returned v ∧ w'.ownsRow w.heap.size 3 1 v n (xs.map (.int .i64)) ∧ Below w.heap.size w w' := by
  obtain ⟨i0, hi0, hz0, hz1, hz2⟩ := info_parts cloneI_info
  have H := Lib.hid h
  have HN := Lib.hid hnil
  clear h hnil
  have hq := fun (w : World) (a : Option Addr) (n c : Nat) => Lib.run_eql_slice_nil (P := Tryd.prog) w 34 3 a n c 0 0 Tryd.underlying34
  rcases A with _ | ad
  · have hn0 : n = 0 := by
      rcases Nat.eq_zero_or_pos n with h0 | h0
      · exact h0
      · obtain ⟨b, off, e, _⟩ := H.out.2 h0
        cases e
    subst hn0
    have hx : xs.map (Value.int .i64) = [] := List.eq_nil_of_length_eq_zero (by simpa using H.out.1)
    rw [hx]
    clear hx H
    go_enter Tryd.func122, Tryd.ntmps122
    go_wp2
    go_ret
    exact ⟨_, rfl, World.ownsRow_nil _ _ _ _, Below.refl _ _⟩
  · go_enter Tryd.func122, Tryd.ntmps122
    have ho : (w.alloc (.cells #[] 3)).ownsRow w.heap.size 3 1 (.slice (some ⟨w.heap.size, 0, none⟩) 0 0) 0 [] := World.ownsRow_made w #[] 0 (Nat.le_refl _) (by unfold maxLen; omega) rfl
    replace ho := Lib.hid ho
    go_wp2_with (at_builtin; refine wpList_append_rd rfl (.tmp 5) (.tmp 6) 34 rfl w.heap.size 3 i0 _ 1 8 Tryd.underlying34 hi0 hz0 hz1 hz2 rfl (by decide) _ (.slice (some ⟨w.heap.size, 0, none⟩) 0 0) 0 [] rfl ho.out B (some ad) n c (xs.map (.int .i64)) rfl (fun h => by cases h) (H.out.alloc hB _) (by simp [Value.oneCell']) ?_ ?_ ?_ ?_)
    · unfold maxLen; omega
    · omega
    · simp
    · intro v' w1 hown hgrow
      go_wp2
      go_ret
      exact ⟨_, rfl, by simpa using hown, ((Below.refl _ _).alloc (Nat.le_refl _) _).grown hgrow (by simp) (by simp [Value.ownBlock])⟩
/-- Of a list that is not empty: the copy leads to a new row. -/
theorem cloneI_pos (A : Option Addr) (n c B : Nat) (xs : List Int) (w : World) (hnil : A = none → c = 0) (hB : B ≤ w.heap.size) (h : RD w B 1 A n (xs.map (.int .i64))) (hn : n * 8 ≤ 140737488355328) (hp : 0 < n) :
    Calls Tryd.prog 122 #[.slice A n c] w fun e w' => ∃ g d, e = .returned (.slice (some ⟨g, 0, none⟩) n d) ∧ w'.ownsRow w.heap.size 3 1 (.slice (some ⟨g, 0, none⟩) n d) n (xs.map (.int .i64)) ∧ w.heap.size ≤ g ∧ Below w.heap.size w w' := by
  refine (cloneI_any A n c B xs w hnil hB h hn).mono ?_
  rintro e w' ⟨v, he, hown, hb⟩
  obtain ⟨g, d, rfl, hg, _⟩ := hown.form hp
  exact ⟨g, d, he, hown, hg, hb⟩
theorem cloneI_zero (A : Option Addr) (c B : Nat) (w : World) (hnil : A = none → c = 0) (hB : B ≤ w.heap.size) :
    Calls Tryd.prog 122 #[.slice A 0 c] w fun e w' => ∃ D d, e = .returned (.slice D 0 d) ∧ (D = none → d = 0) ∧ Below w.heap.size w w' := by
  refine (cloneI_any A 0 c B [] w hnil hB RD.nil_ (by omega)).mono ?_
  rintro e w' ⟨v, he, hown, hb⟩
  rcases hown.2 with ⟨rfl, _⟩ | ⟨g, cap, cur, rfl, _⟩
  · exact ⟨none, 0, he, fun _ => rfl, hb⟩
  · exact ⟨_, cap, he, (fun h => by cases h), hb⟩
end Go.Proofs.YtkgkpggfoieioaaDoor
namespace Go.Proofs.YtkgkpggfoieioaaDoor
set_option linter.unusedVariables false
open Go.RowKit
/-! slices.Clone over units and jobs. -/
theorem uC_oneW (u : GU) : ∀ v ∈ uC u, v.oneCell' = true := by
  intro v hv
  simp only [uC, List.mem_cons, List.not_mem_nil, or_false] at hv
  rcases hv with rfl | rfl | rfl | rfl | rfl | rfl | rfl | rfl <;> rfl
theorem jC_oneW (u : GJ) : ∀ v ∈ jC u, v.oneCell' = true := by
  intro v hv
  simp only [jC, List.mem_cons, List.not_mem_nil, or_false] at hv
  rcases hv with rfl | rfl | rfl | rfl <;> rfl
theorem unitC_inf : (Tryd.prog.info? 33).map (fun i => (i.zero, i.size, i.bytes)) = some (some (.agg #[.int .i64 0, .int .i64 0, .int .i64 0, .int .i64 0, .int .i64 0, .int .i64 0, .int .i64 0, .int .i64 0]), 8, 64) := by kernel_rfl
set_option maxRecDepth 100000 in
theorem cloneU_any (A : Option Addr) (n c B : Nat) (L : List GU) (w : World) (hn0 : L.length = n) (hnil : A = none → c = 0) (hB : B ≤ w.heap.size) (h : RD w B 8 A L.length (L.flatMap uC)) (hn : n ≤ 1000000000000) :
    Calls Tryd.prog 123 #[.slice A n c] w fun e w' => ∃ v, e = .returned v ∧ w'.ownsRow w.heap.size 33 8 v n (L.flatMap uC) ∧ Below w.heap.size w w' := by
  subst hn0
  obtain ⟨i0, hi0, hz0, hz1, hz2⟩ := info_parts unitC_inf
  have H := Lib.hid h
  have HN := Lib.hid hnil
  clear h hnil
  have hq := fun (w : World) (a : Option Addr) (n c : Nat) => Lib.run_eql_slice_nil (P := Tryd.prog) w 29 33 a n c 0 0 Tryd.underlying29
  rcases A with _ | ad
  · have hn0 : L.length = 0 := by
      rcases Nat.eq_zero_or_pos L.length with h0 | h0
      · exact h0
      · obtain ⟨b, off, e, _⟩ := H.out.2 h0
        cases e
    obtain rfl : L = [] := List.eq_nil_of_length_eq_zero hn0
    clear H
    go_enter Tryd.func123, Tryd.ntmps123
    go_wp2
    go_ret
    exact ⟨_, rfl, World.ownsRow_nil _ _ _ _, Below.refl _ _⟩
  · have hone : (L.flatMap uC).all (·.oneCell') = true := List.all_eq_true.2 (fun v hv => by
      obtain ⟨o, _, ho⟩ := List.mem_flatMap.1 hv
      exact uC_oneW o v ho)
    go_enter Tryd.func123, Tryd.ntmps123
    have ho : (w.alloc (.cells #[] 33)).ownsRow w.heap.size 33 8 (.slice (some ⟨w.heap.size, 0, none⟩) 0 0) 0 [] := World.ownsRow_made w #[] 0 (Nat.le_refl _) (by unfold maxLen; omega) rfl
    replace ho := Lib.hid ho
    go_wp2_with (at_builtin; refine wpList_append_rd rfl (.tmp 5) (.tmp 6) 29 rfl w.heap.size 33 i0 _ 8 64 Tryd.underlying29 hi0 hz0 hz1 hz2 rfl (by decide) _ (.slice (some ⟨w.heap.size, 0, none⟩) 0 0) 0 _ rfl ho.out B (some ad) L.length c (L.flatMap uC) rfl HN.out (H.out.alloc hB _) hone ?_ ?_ ?_ ?_)
    · unfold maxLen; omega
    · omega
    · simp
    · intro v' w1 hown hgrow
      go_wp2
      go_ret
      exact ⟨_, rfl, by simpa using hown, ((Below.refl _ _).alloc (Nat.le_refl _) _).grown hgrow (by simp) (by simp [Value.ownBlock])⟩
theorem jobC_inf : (Tryd.prog.info? 126).map (fun i => (i.zero, i.size, i.bytes)) = some (some (.agg #[.int .i64 0, .int .i64 0, .int .i64 0, .int .i64 0]), 4, 32) := by kernel_rfl
set_option maxRecDepth 100000 in
theorem cloneJ_any (A : Option Addr) (n c B : Nat) (L : List GJ) (w : World) (hn0 : L.length = n) (hnil : A = none → c = 0) (hB : B ≤ w.heap.size) (h : RD w B 4 A L.length (L.flatMap jC)) (hn : n ≤ 1000000000000) :
    Calls Tryd.prog 124 #[.slice A n c] w fun e w' => ∃ v, e = .returned v ∧ w'.ownsRow w.heap.size 126 4 v n (L.flatMap jC) ∧ Below w.heap.size w w' := by
  subst hn0
  obtain ⟨i0, hi0, hz0, hz1, hz2⟩ := info_parts jobC_inf
  have H := Lib.hid h
  have HN := Lib.hid hnil
  clear h hnil
  have hq := fun (w : World) (a : Option Addr) (n c : Nat) => Lib.run_eql_slice_nil (P := Tryd.prog) w 53 126 a n c 0 0 Tryd.underlying53
  rcases A with _ | ad
  · have hn0 : L.length = 0 := by
      rcases Nat.eq_zero_or_pos L.length with h0 | h0
      · exact h0
      · obtain ⟨b, off, e, _⟩ := H.out.2 h0
        cases e
    obtain rfl : L = [] := List.eq_nil_of_length_eq_zero hn0
    clear H
    go_enter Tryd.func124, Tryd.ntmps124
    go_wp2
    go_ret
    exact ⟨_, rfl, World.ownsRow_nil _ _ _ _, Below.refl _ _⟩
  · have hone : (L.flatMap jC).all (·.oneCell') = true := List.all_eq_true.2 (fun v hv => by
      obtain ⟨o, _, ho⟩ := List.mem_flatMap.1 hv
      exact jC_oneW o v ho)
    go_enter Tryd.func124, Tryd.ntmps124
    have ho : (w.alloc (.cells #[] 126)).ownsRow w.heap.size 126 4 (.slice (some ⟨w.heap.size, 0, none⟩) 0 0) 0 [] := World.ownsRow_made w #[] 0 (Nat.le_refl _) (by unfold maxLen; omega) rfl
    replace ho := Lib.hid ho
    go_wp2_with (at_builtin; refine wpList_append_rd rfl (.tmp 5) (.tmp 6) 53 rfl w.heap.size 126 i0 _ 4 32 Tryd.underlying53 hi0 hz0 hz1 hz2 rfl (by decide) _ (.slice (some ⟨w.heap.size, 0, none⟩) 0 0) 0 _ rfl ho.out B (some ad) L.length c (L.flatMap jC) rfl HN.out (H.out.alloc hB _) hone ?_ ?_ ?_ ?_)
    · unfold maxLen; omega
    · omega
    · simp
    · intro v' w1 hown hgrow
      go_wp2
      go_ret
      exact ⟨_, rfl, by simpa using hown, ((Below.refl _ _).alloc (Nat.le_refl _) _).grown hgrow (by simp) (by simp [Value.ownBlock])⟩
end Go.Proofs.YtkgkpggfoieioaaDoor
