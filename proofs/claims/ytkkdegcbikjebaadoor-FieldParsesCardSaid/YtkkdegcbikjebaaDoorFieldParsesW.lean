import Derived.Test.YtkkdegcbikjebaaDoorRefParse
import Derived.Test.YtkkdegcbikjebaaDoorSameF
import Derived.Test.YtkkdegcbikjebaaDoorTold
namespace Go.Proofs.YtkkdegcbikjebaaDoor
set_option linter.unusedVariables false
open Go.RowKit
theorem prun_len : ∀ (bs : List Int) (i : Nat) (s : PS), PInv s → (prun bs i s).1.ground.length ≤ 200 ∧ (prun bs i s).1.ore.length ≤ 200
  | [], i, s, hI => by
    rw [prun]
    split
    · unfold badP; simp
    · have h1 := hI.lg
      have h2 := hI.lo
      have h3 : s.H * s.W ≤ 12 * 12 := Nat.mul_le_mul hI.h12 hI.w12
      have h4 := hI.c12
      show s.G.length ≤ 200 ∧ s.O.length ≤ 200
      omega
  | b :: bs, i, s, hI => by
    rw [prun]
    by_cases h1 : b = 10
    · rw [if_pos h1]
      by_cases h2 : s.c = 0 ∨ (0 < s.H ∧ s.c ≠ s.W)
      · rw [if_pos h2]; unfold badP; simp
      · rw [if_neg h2]; exact prun_len bs (i + 1) _ (hI.line h2).1
    · rw [if_neg h1]
      by_cases h2 : gOf b < 0 ∨ (0 < s.H ∧ s.c = s.W)
      · rw [if_pos h2]; unfold badP; simp
      · rw [if_neg h2]
        by_cases h3 : s.c = 12 ∨ s.H = 12
        · rw [if_pos h3]; unfold badP; simp
        · rw [if_neg h3]; exact prun_len bs (i + 1) _ (hI.sign b h2 h3).1
theorem parse_len (bs : List Int) : (parseL bs).1.ground.length ≤ 100000000000000 ∧ (parseL bs).1.ore.length ≤ 100000000000000 := by
  have := prun_len bs 0 s0 s0_inv
  unfold parseL
  omega
theorem error_errV (k : Int) (w : World) (hv : HV w) : Calls Tryd.prog 11 #[errV k, .int .i64 k] w fun e w' => e = .returned (.bool true) ∧ Below w.heap.size w w' := error_same k w hv
set_option maxHeartbeats 3200000 in
set_option maxRecDepth 100000 in
theorem fieldParses_walk (tx : ByteArray) (w : World) (hv : HV w) (w1 : tx.size ≤ maxLen) :
    Calls Tryd.prog 4 #[.string tx] w fun e w' => e = .returned (.bool true) ∧ Below w.heap.size w w' := by
  have hmx : tx.size ≤ 9223372036854775807 := by unfold maxLen at w1; omega
  have HVH := Lib.hid hv
  have hln : (parseL (bsOf tx)).1.ground.length ≤ 100000000000000 ∧ (parseL (bsOf tx)).1.ore.length ≤ 100000000000000 := parse_len _
  clear hv w1
  go_enter Tryd.func4, Tryd.ntmps4
  go_wp2_with fail
  refine (rparse_any tx w hmx).mono ?_
  intro e W1 hp
  obtain ⟨s1, rfl, hF1, hb1⟩ := hp
  have hs1 := hb1.size
  generalize hR : parseL (bsOf tx) = R at *
  obtain ⟨g, p, er⟩ := R
  dsimp only at hF1 hln ⊢
  obtain ⟨hl1, hl2⟩ := hln
  unfold fA
  replace hR := Lib.hid hR
  replace hF1 := Lib.hid hF1
  go_wp2_with fail
  have hb2 := hb1.alloc hs1 (.cells #[.int .i64 g.wide, .int .i64 g.high, .slice s1.ground.A g.ground.length s1.ground.c, .slice s1.ore.A g.ore.length s1.ore.c] 25)
  have hF2 := hF1.out.below ((Below.refl _ _).alloc (Nat.le_refl _) (.cells #[.int .i64 g.wide, .int .i64 g.high, .slice s1.ground.A g.ground.length s1.ground.c, .slice s1.ore.A g.ore.length s1.ore.c] 25))
  have hk2 := Blk.new W1 25 #[.int .i64 g.wide, .int .i64 g.high, .slice s1.ground.A g.ground.length s1.ground.c, .slice s1.ore.A g.ore.length s1.ore.c]
  have hk2lt := hk2.lt
  have hs2 := hb2.size
  clear hb1
  generalize W1.alloc (.cells #[.int .i64 g.wide, .int .i64 g.high, .slice s1.ground.A g.ground.length s1.ground.c, .slice s1.ore.A g.ore.length s1.ore.c] 25) = W2 at *
  refine (parse_any tx W2 hmx).mono ?_
  intro e W3 hp
  obtain ⟨s3, rfl, hF3, hb3, _, _⟩ := hp
  rw [hR.out] at hF3 ⊢
  dsimp only at hF3 ⊢
  unfold fA
  have hb4 := hb2.trans (hb3.mono hs2)
  have hk3 := hk2.below hb3 hk2lt
  have hF3' := hF2.below hb3
  have hs4 := hb4.size
  replace hF3 := Lib.hid hF3
  clear hb2 hb3 hk2 hF2
  go_upto_region 3 with fail
  have hb5 := hb4.alloc hs4 (.cells #[.int .i64 g.wide, .int .i64 g.high, .slice s3.ground.A g.ground.length s3.ground.c, .slice s3.ore.A g.ore.length s3.ore.c] 25)
  have hal := (Below.refl W3.heap.size W3).alloc (Nat.le_refl _) (.cells #[.int .i64 g.wide, .int .i64 g.high, .slice s3.ground.A g.ground.length s3.ground.c, .slice s3.ore.A g.ore.length s3.ore.c] 25)
  have hk5 := hk3.below hal hk3.lt
  have hF5 := hF3'.below hal
  have hG5 := hF3.out.below hal
  have hq5 := Blk.new W3 25 #[.int .i64 g.wide, .int .i64 g.high, .slice s3.ground.A g.ground.length s3.ground.c, .slice s3.ore.A g.ore.length s3.ore.c]
  have hs5 := hb5.size
  have hk5lt := hk5.lt
  have hq5lt := hq5.lt
  clear hb4 hal hk3 hF3'
  generalize W3.alloc (.cells #[.int .i64 g.wide, .int .i64 g.high, .slice s3.ground.A g.ground.length s3.ground.c, .slice s3.ore.A g.ore.length s3.ore.c] 25) = W5 at *
  replace hk5 := Lib.hid hk5
  replace hq5 := Lib.hid hq5
  replace hF5 := Lib.hid hF5
  replace hG5 := Lib.hid hG5
  replace hb5 := Lib.hid hb5
  have hv5 := Lib.hid (HVH.out.below hb5.out)
  go_wp2_with fail
  refine (error_errV er W5 hv5.out).mono ?_
  rintro e W6 ⟨rfl, hb6⟩
  have hk6 := hk5.out.below hb6 hk5lt
  have hq6 := hq5.out.below hb6 hq5lt
  have hF6 := hF5.out.below hb6
  have hG6 := hG5.out.below hb6
  have hb7 := hb5.out.trans (hb6.mono hs5)
  have hs7 := hb7.size
  have c0 := hk6.cell 0
  have c1 := hk6.cell 1
  have c2 := hk6.cell 2
  have c3 := hk6.cell 3
  have d0 := hq6.cell 0
  have d1 := hq6.cell 1
  have d2 := hq6.cell 2
  have d3 := hq6.cell 3
  replace hF6 := Lib.hid hF6
  replace hG6 := Lib.hid hG6
  replace hb7 := Lib.hid hb7
  clear hb6 hk6 hq6
  go_wp2_with fail
  refine (samef_any s3 s1 g g W6 hG6.out hF6.out hl1 hl2).mono ?_
  rintro e W7 ⟨rfl, hb8⟩
  rw [sameB_refl]
  have hfin := hb7.out.trans (hb8.mono hs7)
  replace hfin := Lib.hid hfin
  clear hb8
  have e1 : (p == p) = true := by simp
  go_wp2_with fail
  go_ret
  exact ⟨rfl, hfin.out⟩
end Go.Proofs.YtkkdegcbikjebaaDoor
