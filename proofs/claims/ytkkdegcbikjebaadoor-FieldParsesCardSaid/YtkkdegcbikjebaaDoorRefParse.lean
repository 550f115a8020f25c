import Derived.Test.YtkkdegcbikjebaaDoorParse
import Derived.Deep.CutBlock
namespace Go.Proofs.YtkkdegcbikjebaaDoor
set_option linter.unusedVariables false
open Go.RowKit
theorem St2.putA {w w' : World} {base n1 n2 : Nat} {v1 v2 v1' : Value} {x1 x2 : List Value} {m : Nat} {ys : List Value} (h : St2 w base v1 n1 x1 v2 n2 x2) (hown : w'.ownsRow base 3 1 v1' m ys) (hgrow : w.grownBy w' v1.ownBlock) (hat : At w v1.ownBlock v1'.ownBlock) :
    St2 w' base v1' m ys v2 n2 x2 :=
  ⟨hown, h.o2.kept hgrow (by
    cases hv : v2.ownBlock with
    | none => exact .inl rfl
    | some b => exact .inr fun e => h.ne b e.symm hv), fun b hb => by
    rcases hat with hat | ⟨g, hg, hlt⟩
    · exact h.ne b (by rw [← hat]; exact hb)
    · rw [hg] at hb
      injection hb with hb
      subst hb
      intro e
      have := (own_block_lt h.o2 g e).2
      omega⟩
theorem below_grown2 {W wr w1 w2 : World} {fb i : Nat} {u : Value} (h : W.grownBy wr (some fb)) (h1 : Below W.heap.size wr w1) (h2 : Below W.heap.size (w1.setCell ⟨fb, i, none⟩ u) w2) : W.grownBy w2 (some fb) :=
  ⟨h2.os.trans (h1.os.trans h.os), h2.tape.trans (h1.tape.trans h.tape), h2.output.trans (h1.output.trans h.output), Nat.le_trans h.size (Nat.le_trans h1.size (by have := h2.size; simpa using this)), fun x hx hne => by
    rw [h2.block x hx, Below.heap_setCell w1 ⟨fb, i, none⟩ u x (fun e => hne (by rw [e])), h1.block x hx, h.block x hx hne]⟩
theorem bsOf_at (s : ByteArray) (k : Nat) (hk : k < s.size) : (bsOf s).getD k 0 = ((s[k]'hk).toNat : Int) := by
  unfold bsOf
  have h1 : k < s.data.toList.length := hk
  rw [List.getD_eq_getElem?_getD, List.getElem?_map, List.getElem?_eq_getElem h1]
  rfl
theorem str_at (s : ByteArray) (k b : Nat) (hk : k < s.size) (hb : (bsOf s).getD k 0 = (b : Int)) (w : World) : (Instr.index 9 (.string s) (.int .i64 (k : Int))).run Tryd.prog w = .ok (.int .u8 (b : Int)) w := by
  rw [run_index_string _ _ _ _ _ Tryd.underlying9, dif_pos ⟨by omega, by omega⟩]
  have := bsOf_at s k hk
  rw [hb] at this
  simp only [Int.toNat_natCast]
  rw [this]
def RPost (w : World) (R : GF × Int × Int) (e : Ending) (w' : World) : Prop :=
  ∃ s' : SF, e = .returned (.tuple #[fA s' R.1, .int .i64 R.2.1, .int .i64 R.2.2]) ∧ FOk w' s' R.1 ∧ Below w.heap.size w w'
theorem bad_rpost (w wf : World) (k : Nat) (e : Int) (hB : Below w.heap.size w wf) : RPost w (badP k e) (.returned (.tuple #[.agg #[.int .i64 0, .int .i64 0, .slice none 0 0, .slice none 0 0], .int .i64 k, .int .i64 e])) wf := by
  refine ⟨⟨⟨none, 0⟩, ⟨none, 0⟩⟩, rfl, ?_, hB⟩
  have hs : SLI wf ⟨none, 0⟩ [] := ⟨RD.nil_, fun _ => rfl, by simp, by simp [maxLen], by simp⟩
  exact ⟨by unfold badP I64; dsimp only; omega, by unfold badP I64; dsimp only; omega, hs, hs⟩
theorem pa_next2 {W3 wr : World} {fb n : Nat} {bs : List Int} {R : GF × Int × Int} {k c Wd Hg : Nat} {G O : List Int} (b GV OV : Int) {A1 A2 : Option Addr} {cap1 cap2 : Nat} (hI : PInv ⟨c, Wd, Hg, G, O⟩) (h2 : ¬(gOf b < 0 ∨ (0 < Hg ∧ c = Wd))) (h3 : ¬(c = 12 ∨ Hg = 12)) (hgv : gOf b = GV) (hov : oOf b = OV)
    (hP : prun (bs.drop (k + 1)) (k + 1) ⟨c + 1, Wd, Hg, G ++ [gOf b], O ++ [oOf b]⟩ = R) (hk : k + 1 ≤ n) (hB : Blk wr fb 25 #[.int .i64 (Wd : Int), .int .i64 (Hg : Int), .slice A1 (G.length + 1) cap1, .slice A2 (O.length + 1) cap2])
    (hS : St2 wr W3.heap.size (.slice A1 (G.length + 1) cap1) (G.length + 1) (G.map (.int .i64) ++ [.int .i64 GV]) (.slice A2 (O.length + 1) cap2) (O.length + 1) (O.map (.int .i64) ++ [.int .i64 OV])) (hgr : W3.grownBy wr (some fb)) :
    PaRel W3 fb n bs R (.int .i64 ((c : Int) + 1)) (.int .i64 ((k : Int) + 1)) wr := by
  refine ⟨k + 1, c + 1, Wd, Hg, G ++ [gOf b], O ++ [oOf b], A1, A2, cap1, cap2, rfl, hk, rfl, Lib.hid (hI.sign b h2 h3).1, Lib.hid hP, ?_, ?_, hgr⟩
  · simpa using hB
  · subst hgv; subst hov
    simpa using hS
/-- Which sign a byte is: the tests that the document's reader makes. -/
theorem sign_tests (b : Nat) : (gOf (b : Int) < 0 ∧ oOf (b : Int) = 0 ∧ ((b : Int) == 46) = false ∧ ((b : Int) == 35) = false ∧ ((b : Int) == 126) = false ∧ ((b : Int) == 94) = false ∧ (b < 49 ∨ (49 ≤ b ∧ 57 < b))) ∨
    (gOf (b : Int) = 0 ∧ oOf (b : Int) = 0 ∧ b = 46) ∨ (gOf (b : Int) = 1 ∧ oOf (b : Int) = 0 ∧ b = 35) ∨ (gOf (b : Int) = 2 ∧ oOf (b : Int) = 0 ∧ b = 126) ∨ (gOf (b : Int) = 3 ∧ oOf (b : Int) = 0 ∧ b = 94) ∨
    (gOf (b : Int) = 0 ∧ oOf (b : Int) = 10 * ((b : Int) - 48) ∧ 49 ≤ b ∧ b ≤ 57) := by
  by_cases hd : 49 ≤ (b : Int) ∧ (b : Int) ≤ 57
  · obtain ⟨a1, a2⟩ := gOf_hi b hd
    exact .inr (.inr (.inr (.inr (.inr ⟨a1, a2, by omega, by omega⟩))))
  · obtain ⟨a1, a2⟩ := gOf_lo b hd
    rw [a1, a2]
    unfold gSg
    by_cases h1 : (b : Int) = 46
    · exact .inr (.inl ⟨by rw [if_pos h1], rfl, by omega⟩)
    · rw [if_neg h1]
      by_cases h2 : (b : Int) = 35
      · exact .inr (.inr (.inl ⟨by rw [if_pos h2], rfl, by omega⟩))
      · rw [if_neg h2]
        by_cases h3 : (b : Int) = 126
        · exact .inr (.inr (.inr (.inl ⟨by rw [if_pos h3], rfl, by omega⟩)))
        · rw [if_neg h3]
          by_cases h4 : (b : Int) = 94
          · exact .inr (.inr (.inr (.inr (.inl ⟨by rw [if_pos h4], rfl, by omega⟩))))
          · rw [if_neg h4]
            exact .inl ⟨by omega, rfl, beq_eq_false_iff_ne.2 h1, beq_eq_false_iff_ne.2 h2, beq_eq_false_iff_ne.2 h3, beq_eq_false_iff_ne.2 h4, by omega⟩
theorem ok_fok {wf : World} {base c Wd Hg : Nat} {G O : List Int} {AG AO : Option Addr} {cG cO : Nat} (hI : PInv ⟨c, Wd, Hg, G, O⟩) (hS : St2 wf base (.slice AG G.length cG) G.length (G.map (.int .i64)) (.slice AO O.length cO) O.length (O.map (.int .i64))) : FOk wf ⟨⟨AG, cG⟩, ⟨AO, cO⟩⟩ ⟨Wd, Hg, G, O⟩ := by
  have hc := hI.cells
  have hlg := hI.lg
  have hlo := hI.lo
  have h1 := hI.h12
  have h2 := hI.w12
  dsimp only at hc hlg hlo h1 h2
  refine ⟨?_, ?_, ?_, ?_⟩
  · unfold I64; dsimp only; omega
  · unfold I64; dsimp only; omega
  · refine sli_of_own hS.o1 fun x hx => ?_
    change x ∈ G at hx
    obtain ⟨k, hk, rfl⟩ := List.getElem_of_mem hx
    have := hc k hk
    rw [List.getD_eq_getElem?_getD, List.getElem?_eq_getElem hk] at this
    simp only [Option.getD_some] at this
    unfold I64; omega
  · refine sli_of_own hS.o2 fun x hx => ?_
    change x ∈ O at hx
    obtain ⟨k, hk, rfl⟩ := List.getElem_of_mem hx
    have := (hc k (by omega)).2.2
    rw [List.getD_eq_getElem?_getD (l := O), List.getElem?_eq_getElem hk] at this
    simp only [Option.getD_some] at this
    unfold I64; omega
set_option maxHeartbeats 6400000 in
set_option maxRecDepth 100000 in
theorem rparse_any (s : ByteArray) (w : World) (hs : s.size ≤ 9223372036854775807) :
    Calls Tryd.prog 13 #[.string s] w (RPost w (parseL (bsOf s))) := by
  obtain ⟨i0, hi0, hz0, hz1, hz2⟩ := info_parts int_info
  have hby := bsOf_byte s
  have hln := bsOf_len s
  replace hby := Lib.hid hby
  have hsb : ∀ k, k < s.size → ∃ b : Nat, (bsOf s).getD k 0 = (b : Int) ∧ b < 256 := fun k hk => by
    have h1 : Byte ((bsOf s).getD k 0) := by
      rw [List.getD_eq_getElem?_getD, List.getElem?_eq_getElem (by omega)]
      exact hby.out _ (List.getElem_mem _)
    unfold Byte at h1
    exact ⟨((bsOf s).getD k 0).toNat, by omega, by omega⟩
  replace hsb := Lib.hid hsb
  go_enter Tryd.func13, Tryd.ntmps13
  go_wp2_with fail
  have hb1 : Below w.heap.size w ((w.alloc (.cells #[.int .i64 0, .int .i64 0, .slice none 0 0, .slice none 0 0] 25)).alloc (.cells #[.int .i64 0, .int .i64 0, .slice none 0 0, .slice none 0 0] 25)) := ((Below.refl _ _).alloc (Nat.le_refl _) _).alloc (by simp) _
  have hkA : Blk ((w.alloc (.cells #[.int .i64 0, .int .i64 0, .slice none 0 0, .slice none 0 0] 25)).alloc (.cells #[.int .i64 0, .int .i64 0, .slice none 0 0, .slice none 0 0] 25)) w.heap.size 25 #[.int .i64 0, .int .i64 0, .slice none 0 0, .slice none 0 0] := (Blk.new w _ _).alloc _
  have hkB : Blk ((w.alloc (.cells #[.int .i64 0, .int .i64 0, .slice none 0 0, .slice none 0 0] 25)).alloc (.cells #[.int .i64 0, .int .i64 0, .slice none 0 0, .slice none 0 0] 25)) (w.heap.size + 1) 25 #[.int .i64 0, .int .i64 0, .slice none 0 0, .slice none 0 0] := by
    have := Blk.new (w.alloc (.cells #[.int .i64 0, .int .i64 0, .slice none 0 0, .slice none 0 0] 25)) 25 #[.int .i64 0, .int .i64 0, .slice none 0 0, .slice none 0 0]
    rwa [show (w.alloc (.cells #[.int .i64 0, .int .i64 0, .slice none 0 0, .slice none 0 0] 25)).heap.size = w.heap.size + 1 by simp] at this
  have hsz2 : ((w.alloc (.cells #[.int .i64 0, .int .i64 0, .slice none 0 0, .slice none 0 0] 25)).alloc (.cells #[.int .i64 0, .int .i64 0, .slice none 0 0, .slice none 0 0] 25)).heap.size = w.heap.size + 2 := by simp
  generalize (w.alloc (.cells #[.int .i64 0, .int .i64 0, .slice none 0 0, .slice none 0 0] 25)).alloc (.cells #[.int .i64 0, .int .i64 0, .slice none 0 0, .slice none 0 0] 25) = W2 at *
  have hb2 := Lib.hid hb1
  have hkA2 := Lib.hid hkA
  have hkB2 := Lib.hid hkB
  clear hb1 hkA hkB
  generalize hBS : bsOf s = bs at *
  generalize hR : parseL bs = R at *
  unfold parseL s0 at hR
  replace hR := Lib.hid hR
  go_loopw [6, 7, 8, 9] (fun c i _ _ wr => PaRel W2 (w.heap.size + 1) s.size bs R c i wr) (fun _ i _ _ _ => s.size - (intOf i).toNat)
  case atStart => exact ⟨0, 0, 0, 0, [], [], none, none, 0, 0, rfl, Nat.zero_le _, rfl, Lib.hid s0_inv, Lib.hid hR.out, hkB2.out, ⟨World.ownsRow_nil _ _ _ _, World.ownsRow_nil _ _ _ _, by simp [Value.ownBlock]⟩, World.grownBy.refl _ _⟩
  case round =>
    obtain ⟨k, c, Wd, Hg, G, O, AG, AO, cG, cO, rfl, hk, rfl, hI, hP, hB, hS, hgr⟩ := hrel
    have c0 := hB.cell 0
    have c1 := hB.cell 1
    have c2 := hB.cell 2
    have c3 := hB.cell 3
    have f0 := hB.frozen 0
    have f1 := hB.frozen 1
    have f2 := hB.frozen 2
    have f3 := hB.frozen 3
    have hkAr := hkA2.out.grown hgr (by simp)
    have r0 := hkAr.cell 0
    have r1 := hkAr.cell 1
    have r2 := hkAr.cell 2
    have r3 := hkAr.cell 3
    have y0 := hkAr.frozen 0
    have y1 := hkAr.frozen 1
    have y2 := hkAr.frozen 2
    have y3 := hkAr.frozen 3
    have hlt1 := hkAr.lt
    have hlt2 := hB.lt
    have hszr := hgr.size
    have i1 := hI.out.c12
    have i2 := hI.out.h12
    have i3 := hI.out.ch
    have i4 := hI.out.w12
    dsimp only at i1 i2 i3 i4
    replace hB := Lib.hid hB
    replace hS := Lib.hid hS
    replace hkAr := Lib.hid hkAr
    replace hgr := Lib.hid hgr
    by_cases hlt : k < s.size
    · obtain ⟨b, hb, hb256⟩ := hsb.out k hlt
      have hst := hP.out
      rw [drop_cons bs k (by omega), prun, hb] at hst
      have j1 : (k : Int) < (s.size : Int) := by omega
      rw [← hBS] at hb
      have hib := str_at s k b hlt hb
      clear hb
      by_cases h10 : b = 10
      · rw [if_pos (by omega)] at hst
        subst h10
        dsimp only at hst
        by_cases hbad : c = 0 ∨ (0 < Hg ∧ c ≠ Wd)
        · rw [if_pos hbad] at hst
          replace hst := Lib.hid hst.symm
          have hcs : ((c : Int) == 0) = true ∨ (((c : Int) == 0) = false ∧ decide ((0 : Int) < (Hg : Int)) = true ∧ decide (0 < Hg) = true ∧ ((c : Int) != (Wd : Int)) = true) := by
            by_cases e : c = 0
            · left; simp [e]
            · right; simp; omega
          clear hbad
          rcases hcs with e1 | ⟨e1, e2, e3, e4⟩
          all_goals
            go_wp2_with fail
            have hbw := clrF_below (grown_below (hgr.out) (by omega) (fun g hg => by injection hg with hg; omega) : Below w.heap.size W2 wr) (Nat.le_refl _) 0 0 (.slice none 0 0) (.slice none 0 0)
            have hbk := clrF_blk hkAr.out 0 0 (.slice none 0 0) (.slice none 0 0)
            unfold clrF at hbw hbk
            have q0 := hbk.cell 0
            have q1 := hbk.cell 1
            have q2 := hbk.cell 2
            have q3 := hbk.cell 3
            refine bodyPost_ret (v := .tuple #[.agg #[.int .i64 0, .int .i64 0, .slice none 0 0, .slice none 0 0], .int .i64 ((k : Nat) : Int), .int .i64 2]) (by simp [results, Tryd.results13, go_sem, q0, q1, q2, q3] <;> rfl) rfl ?_
            rw [hst.out]
            exact bad_rpost w _ k 2 (hb2.out.trans hbw)
        · rw [if_neg hbad] at hst
          replace hst := Lib.hid hst
          have hcs : ((c : Int) == 0) = false ∧ ((decide ((0 : Int) < (Hg : Int)) = false ∧ decide (0 < Hg) = false) ∨ (decide ((0 : Int) < (Hg : Int)) = true ∧ decide (0 < Hg) = true ∧ ((c : Int) != (Wd : Int)) = false)) := by
            simp; omega
          replace hbad := Lib.hid hbad
          have hrl := pa_line hI.out hbad.out hst.out (show k + 1 ≤ s.size by omega) hB.out hS.out hgr.out (by omega)
          replace hrl := Lib.hid hrl
          rcases hcs with ⟨e1, ⟨e2, e3⟩ | ⟨e2, e3, e4⟩⟩
          all_goals
            go_wp2_with fail
            go_roundw
            case rel => first | exact hrl.out | exact ⟨_, _, _, _, hrl.out, rfl⟩
            case measure => simp [intOf]; omega
      · rw [if_neg (by omega)] at hst
        dsimp only at hst
        have h10b : ((b : Int) == 10) = false := by simp; omega
        have hsg := sign_tests b
        rcases hsg with ⟨g0, _, e1, e2, e3, e4, e5⟩ | hsg
        · rw [if_pos (.inl g0)] at hst
          replace hst := Lib.hid hst.symm
          replace g0 := Lib.hid g0
          rcases e5 with e5 | ⟨e5, e6⟩
          · have e7 : decide ((b : Int) < 49) = true := by simp; omega
            have e8 : decide (b < 49) = true := by simp; omega
            go_wp2_with fail
            have hbw := clrF_below (grown_below (hgr.out) (by omega) (fun g hg => by injection hg with hg; omega) : Below w.heap.size W2 wr) (Nat.le_refl _) 0 0 (.slice none 0 0) (.slice none 0 0)
            have hbk := clrF_blk hkAr.out 0 0 (.slice none 0 0) (.slice none 0 0)
            unfold clrF at hbw hbk
            have q0 := hbk.cell 0
            have q1 := hbk.cell 1
            have q2 := hbk.cell 2
            have q3 := hbk.cell 3
            refine bodyPost_ret (v := .tuple #[.agg #[.int .i64 0, .int .i64 0, .slice none 0 0, .slice none 0 0], .int .i64 ((k : Nat) : Int), .int .i64 2]) (by simp [results, Tryd.results13, go_sem, q0, q1, q2, q3] <;> rfl) rfl ?_
            rw [hst.out]
            exact bad_rpost w _ k 2 (hb2.out.trans hbw)
          · have e7 : decide ((b : Int) < 49) = false := by simp; omega
            have e8 : decide (b < 49) = false := by simp; omega
            have e9 : decide ((57 : Int) < (b : Int)) = true := by simp; omega
            have e10 : decide (57 < b) = true := by simp; omega
            go_wp2_with fail
            have hbw := clrF_below (grown_below (hgr.out) (by omega) (fun g hg => by injection hg with hg; omega) : Below w.heap.size W2 wr) (Nat.le_refl _) 0 0 (.slice none 0 0) (.slice none 0 0)
            have hbk := clrF_blk hkAr.out 0 0 (.slice none 0 0) (.slice none 0 0)
            unfold clrF at hbw hbk
            have q0 := hbk.cell 0
            have q1 := hbk.cell 1
            have q2 := hbk.cell 2
            have q3 := hbk.cell 3
            refine bodyPost_ret (v := .tuple #[.agg #[.int .i64 0, .int .i64 0, .slice none 0 0, .slice none 0 0], .int .i64 ((k : Nat) : Int), .int .i64 2]) (by simp [results, Tryd.results13, go_sem, q0, q1, q2, q3] <;> rfl) rfl ?_
            rw [hst.out]
            exact bad_rpost w _ k 2 (hb2.out.trans hbw)
        go_upto_block 2 with fail
        go_cut [8, 9] from 10 to 103 (fun g o wx => ∃ GV OV : Int, g = .int .i64 GV ∧ o = .int .i64 OV ∧ gOf (b : Int) = GV ∧ oOf (b : Int) = OV ∧ 0 ≤ GV ∧ wr = wx)
        case first =>
          rcases hsg with ⟨g0, o0, e1⟩ | ⟨g0, o0, e1⟩ | ⟨g0, o0, e1⟩ | ⟨g0, o0, e1⟩ | ⟨g0, o0, e1, e2⟩
          · subst e1
            replace g0 := Lib.hid g0
            replace o0 := Lib.hid o0
            go_wp2_with fail
            go_meet
            exact ⟨_, _, rfl, rfl, g0.out, o0.out, by omega, rfl⟩
          · subst e1
            replace g0 := Lib.hid g0
            replace o0 := Lib.hid o0
            go_wp2_with fail
            go_meet
            exact ⟨_, _, rfl, rfl, g0.out, o0.out, by omega, rfl⟩
          · subst e1
            replace g0 := Lib.hid g0
            replace o0 := Lib.hid o0
            go_wp2_with fail
            go_meet
            exact ⟨_, _, rfl, rfl, g0.out, o0.out, by omega, rfl⟩
          · subst e1
            replace g0 := Lib.hid g0
            replace o0 := Lib.hid o0
            go_wp2_with fail
            go_meet
            exact ⟨_, _, rfl, rfl, g0.out, o0.out, by omega, rfl⟩
          · have z1 : ((b : Int) == 46) = false := by simp; omega
            have z2 : ((b : Int) == 35) = false := by simp; omega
            have z3 : ((b : Int) == 126) = false := by simp; omega
            have z4 : ((b : Int) == 94) = false := by simp; omega
            have z5 : decide ((b : Int) < 49) = false := by simp; omega
            have z6 : decide (b < 49) = false := by simp; omega
            have z7 : decide ((57 : Int) < (b : Int)) = false := by simp; omega
            have z8 : decide (57 < b) = false := by simp; omega
            replace g0 := Lib.hid g0
            replace o0 := Lib.hid o0
            go_wp2_with fail
            go_meet
            exact ⟨_, _, rfl, rfl, g0.out, o0.out, by omega, rfl⟩
        case rest =>
        obtain ⟨GV, OV, rfl, rfl, hgv, hov, hg0, rfl⟩ := hcut
        clear hsg
        by_cases hbad : 0 < Hg ∧ c = Wd
        · rw [if_pos (.inr hbad)] at hst
          replace hst := Lib.hid hst.symm
          have e2 : decide ((0 : Int) < (Hg : Int)) = true := by simp; omega
          have e3 : decide (0 < Hg) = true := by simp; omega
          have e4 : ((c : Int) == (Wd : Int)) = true := by simp; omega
          clear hbad hgv hov
          go_wp2_with fail
          have hbw := clrF_below (grown_below (hgr.out) (by omega) (fun g hg => by injection hg with hg; omega) : Below w.heap.size W2 wr) (Nat.le_refl _) 0 0 (.slice none 0 0) (.slice none 0 0)
          have hbk := clrF_blk hkAr.out 0 0 (.slice none 0 0) (.slice none 0 0)
          unfold clrF at hbw hbk
          have q0 := hbk.cell 0
          have q1 := hbk.cell 1
          have q2 := hbk.cell 2
          have q3 := hbk.cell 3
          refine bodyPost_ret (v := .tuple #[.agg #[.int .i64 0, .int .i64 0, .slice none 0 0, .slice none 0 0], .int .i64 ((k : Nat) : Int), .int .i64 2]) (by simp [results, Tryd.results13, go_sem, q0, q1, q2, q3] <;> rfl) rfl ?_
          rw [hst.out]
          exact bad_rpost w _ k 2 (hb2.out.trans hbw)
        · have hb2n : ¬(gOf (b : Int) < 0 ∨ (0 < Hg ∧ c = Wd)) := fun h => by
            rcases h with h | h
            · omega
            · exact hbad h
          rw [if_neg hb2n] at hst
          have hcs : (decide ((0 : Int) < (Hg : Int)) = false ∧ decide (0 < Hg) = false) ∨ (decide ((0 : Int) < (Hg : Int)) = true ∧ decide (0 < Hg) = true ∧ ((c : Int) == (Wd : Int)) = false) := by
            simp; omega
          by_cases hful : c = 12 ∨ Hg = 12
          · rw [if_pos hful] at hst
            replace hst := Lib.hid hst.symm
            have hcf : ((c : Int) == 12) = true ∨ (((c : Int) == 12) = false ∧ ((Hg : Int) == 12) = true) := by
              simp; omega
            clear hbad hgv hov hful hb2n
            rcases hcs with ⟨e2, e3⟩ | ⟨e2, e3, e4⟩
            all_goals
              rcases hcf with g1 | ⟨g1, g2⟩
            all_goals
              go_wp2_with fail
              have hbw := clrF_below (grown_below (hgr.out) (by omega) (fun g hg => by injection hg with hg; omega) : Below w.heap.size W2 wr) (Nat.le_refl _) 0 0 (.slice none 0 0) (.slice none 0 0)
              have hbk := clrF_blk hkAr.out 0 0 (.slice none 0 0) (.slice none 0 0)
              unfold clrF at hbw hbk
              have q0 := hbk.cell 0
              have q1 := hbk.cell 1
              have q2 := hbk.cell 2
              have q3 := hbk.cell 3
              refine bodyPost_ret (v := .tuple #[.agg #[.int .i64 0, .int .i64 0, .slice none 0 0, .slice none 0 0], .int .i64 ((k : Nat) : Int), .int .i64 4]) (by simp [results, Tryd.results13, go_sem, q0, q1, q2, q3] <;> rfl) rfl ?_
              rw [hst.out]
              exact bad_rpost w _ k 4 (hb2.out.trans hbw)
          · rw [if_neg hful] at hst
            replace hst := Lib.hid hst
            have hcf : ((c : Int) == 12) = false ∧ ((Hg : Int) == 12) = false := by
              simp; omega
            obtain ⟨g1, g2⟩ := hcf
            have hnx := fun wr' ga ca gb cb => pa_next2 (W3 := W2) (wr := wr') (fb := w.heap.size + 1) (A1 := ga) (cap1 := ca) (A2 := gb) (cap2 := cb) (b : Int) GV OV hI.out hb2n hful hgv hov hst.out (show k + 1 ≤ s.size by omega)
            have hGl : G.length ≤ 100000 := by
              have e1 := hI.out.lg
              dsimp only at e1
              have e2 : Hg * Wd ≤ 12 * 12 := Nat.mul_le_mul (by omega) (by omega)
              omega
            have hOl : O.length ≤ 100000 := by
              have e1 := hI.out.lo
              dsimp only at e1
              have e2 : Hg * Wd ≤ 12 * 12 := Nat.mul_le_mul (by omega) (by omega)
              omega
            replace hnx := Lib.hid hnx
            replace hbad := Lib.hid hbad
            replace hb2n := Lib.hid hb2n
            replace hful := Lib.hid hful
            replace hgv := Lib.hid hgv
            replace hov := Lib.hid hov
            rcases hcs with ⟨e2, e3⟩ | ⟨e2, e3, e4⟩
            all_goals
              go_wp2_with (first
                | (at_builtin; refine wpList_app1a rfl (.tmp 91) (.tmp 93) 23 rfl W2.heap.size 3 i0 _ 1 8 Tryd.underlying23 hi0 hz0 hz1 hz2 rfl (by decide) (by decide) wr #[.int .i64 GV] (.slice AG G.length cG) G.length (G.map (.int .i64)) rfl hS.out.o1 rfl rfl rfl (by omega) hszr ?_; intro v1 w1 hown1 hgrow1 hat1; have hbl1 : Below W2.heap.size wr w1 := grown_below hgrow1 hszr (fun g hg => (own_block_lt hS.out.o1 g hg).1); have hS1 := hS.out.putA hown1 hgrow1 hat1; obtain ⟨A1, c1', rfl, _⟩ := own_slice hown1; have hB1 := hB.out.below hbl1 (by omega); have cz2 := hB1.cell 2; have cz3 := hB1.cell 3; have fz2 := hB1.frozen 2; have fz3 := hB1.frozen 3; have hS1s := Lib.hid (hS1.set_ (w.heap.size + 1) 2 (.slice A1 (G.length + 1) c1') (by omega)); have hss1 : (w1.setCell ⟨w.heap.size + 1, 2, none⟩ (.slice A1 (G.length + 1) c1')).heap.size = w1.heap.size := (by simp); have hsz1s : W2.heap.size ≤ (w1.setCell ⟨w.heap.size + 1, 2, none⟩ (.slice A1 (G.length + 1) c1')).heap.size := (by have := hbl1.size; rw [hss1]; exact Nat.le_trans hszr this); replace hss1 := Lib.hid hss1; replace hsz1s := Lib.hid hsz1s)
                | (at_builtin; refine wpList_app1a rfl (.tmp 97) (.tmp 99) 23 rfl W2.heap.size 3 i0 _ 1 8 Tryd.underlying23 hi0 hz0 hz1 hz2 rfl (by decide) (by decide) (w1.setCell ⟨w.heap.size + 1, 2, none⟩ (.slice A1 (G.length + 1) c1')) #[.int .i64 OV] (.slice AO O.length cO) O.length (O.map (.int .i64)) rfl hS1s.out.o2 (by rw [hss1.out]; rfl) rfl rfl (by omega) hsz1s.out ?_; intro v2 w2 hown2 hgrow2 hat2; have hbl2 : Below W2.heap.size (w1.setCell ⟨w.heap.size + 1, 2, none⟩ (.slice A1 (G.length + 1) c1')) w2 := grown_below hgrow2 hsz1s.out (fun g hg => (own_block_lt hS1s.out.o2 g hg).1); have hS2 := (hS1s.out.swap.putA hown2 hgrow2 hat2).swap; obtain ⟨A2, c2', rfl, _⟩ := own_slice hown2; have hB2 := (hB1.set_ 2 (.slice A1 (G.length + 1) c1')).below hbl2 (by omega); have cy3 := hB2.cell 3; have fy3 := hB2.frozen 3; have hg2 := below_grown2 hgr.out hbl1 hbl2))
              have hrl := hnx.out (w2.setCell ⟨w.heap.size + 1, 3, none⟩ (.slice A2 (O.length + 1) c2')) A1 c1' A2 c2' (hB2.set_ 3 _) (hS2.set_ _ 3 _ (by omega)) (grownBy_trans hg2 (grownBy_set _ _ _ _))
              replace hrl := Lib.hid hrl
              go_roundw
              case rel => first | exact hrl.out | exact ⟨_, _, _, _, hrl.out, rfl⟩
              case measure => simp [intOf]; omega
    · obtain rfl : k = s.size := by omega
      have hst := hP.out
      rw [prun_nil _ _ _ _ (by omega)] at hst
      dsimp only at hst
      by_cases hbad : 0 < c ∨ Hg = 0
      · rw [if_pos hbad] at hst
        replace hst := Lib.hid hst.symm
        have hcs : (decide ((0 : Int) < (c : Int)) = true ∧ decide (0 < c) = true) ∨ (decide ((0 : Int) < (c : Int)) = false ∧ decide (0 < c) = false ∧ ((Hg : Int) == 0) = true) := by
          simp; omega
        clear hbad
        rcases hcs with ⟨e1, e2⟩ | ⟨e1, e2, e3⟩
        all_goals
          go_wp2_with fail
          have hbw := clrF_below (grown_below (hgr.out) (by omega) (fun g hg => by injection hg with hg; omega) : Below w.heap.size W2 wr) (Nat.le_refl _) 0 0 (.slice none 0 0) (.slice none 0 0)
          have hbk := clrF_blk hkAr.out 0 0 (.slice none 0 0) (.slice none 0 0)
          unfold clrF at hbw hbk
          have q0 := hbk.cell 0
          have q1 := hbk.cell 1
          have q2 := hbk.cell 2
          have q3 := hbk.cell 3
          refine bodyPost_ret (v := .tuple #[.agg #[.int .i64 0, .int .i64 0, .slice none 0 0, .slice none 0 0], .int .i64 ((s.size : Nat) : Int), .int .i64 2]) (by simp [results, Tryd.results13, go_sem, q0, q1, q2, q3] <;> rfl) rfl ?_
          rw [hst.out]
          exact bad_rpost w _ s.size 2 (hb2.out.trans hbw)
      · rw [if_neg hbad] at hst
        replace hst := Lib.hid hst.symm
        have e1 : decide ((0 : Int) < (c : Int)) = false := by simp; omega
        have e2 : decide (0 < c) = false := by simp; omega
        have e3 : ((Hg : Int) == 0) = false := by simp; omega
        replace hbad := Lib.hid hbad
        go_wp2_with fail
        have hbw := clrF_below (grown_below (hgr.out) (by omega) (fun g hg => by injection hg with hg; omega) : Below w.heap.size W2 wr) (Nat.le_refl _) Wd Hg (.slice AG G.length cG) (.slice AO O.length cO)
        have hbk := clrF_blk hkAr.out Wd Hg (.slice AG G.length cG) (.slice AO O.length cO)
        have hsf : St2 (clrF wr w.heap.size Wd Hg (.slice AG G.length cG) (.slice AO O.length cO)) W2.heap.size (.slice AG G.length cG) G.length (G.map (.int .i64)) (.slice AO O.length cO) O.length (O.map (.int .i64)) :=
          (((hS.out.set_ _ 0 _ (by omega)).set_ _ 1 _ (by omega)).set_ _ 2 _ (by omega)).set_ _ 3 _ (by omega)
        unfold clrF at hbw hbk hsf
        have q0 := hbk.cell 0
        have q1 := hbk.cell 1
        have q2 := hbk.cell 2
        have q3 := hbk.cell 3
        refine bodyPost_ret (v := .tuple #[.agg #[.int .i64 (Wd : Int), .int .i64 (Hg : Int), .slice AG G.length cG, .slice AO O.length cO], .int .i64 0, .int .i64 0]) (by simp [results, Tryd.results13, go_sem, q0, q1, q2, q3] <;> rfl) rfl ?_
        rw [hst.out]
        exact ⟨⟨⟨AG, cG⟩, ⟨AO, cO⟩⟩, rfl, ok_fok hI.out hsf, hb2.out.trans hbw⟩
end Go.Proofs.YtkkdegcbikjebaaDoor
