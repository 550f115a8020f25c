import Derived.Test.YtkgkpggfoieioaaDoorNext
namespace Go.Proofs.YtkgkpggfoieioaaDoor
set_option linter.unusedVariables false
open Go.RowKit
/-! path.Next. -/
set_option maxRecDepth 100000 in
theorem cells2_any (s : SF) (f : GF) (a b : Int) (w : World) (h : FOk w s f) :
    let W := (w1F w s f).alloc (.cells #[.int .i64 a, .int .i64 b] 3)
    Calls Tryd.prog 97 #[fA s f, .slice (some ⟨w.heap.size + 1, 0, none⟩) 2 2] W fun e w' => e = .returned (errV (faultL f [a, b])) ∧ Below w.heap.size w w' ∧ Blk w' w.heap.size 52 #[.int .i64 f.wide, .int .i64 f.high, .slice s.ground.A f.ground.length s.ground.c, .slice s.ore.A f.ore.length s.ore.c] := by
  intro W
  have hb1 : Below w.heap.size w W := ((Below.refl _ _).alloc (Nat.le_refl _) _).alloc (by simp) _
  have hs : (w1F w s f).heap.size = w.heap.size + 1 := by simp [w1F]
  have hr : RD W W.heap.size 1 (some ⟨w.heap.size + 1, 0, none⟩) 2 ([a, b].map (.int .i64)) := by
    have := RD.new (w1F w s f) 1 2 #[.int .i64 a, .int .i64 b] 3 (0, 0) rfl
    rw [hs] at this
    exact this.more (by show _ ≤ W.heap.size; simp [W, hs])
  have hk : Blk W w.heap.size 52 #[.int .i64 f.wide, .int .i64 f.high, .slice s.ground.A f.ground.length s.ground.c, .slice s.ore.A f.ore.length s.ore.c] := (Blk.new w _ _).alloc _
  refine (fcells_any s f (some ⟨w.heap.size + 1, 0, none⟩) 2 [a, b] W (h.below hb1) hr (by simp)).mono ?_
  rintro e w' ⟨he, hb⟩
  exact ⟨he, hb1.trans (hb.mono hb1.size), hk.below hb hk.lt⟩
theorem faultL_2 (f : GF) (a b : Int) (h : faultL f [a, b] = 0) : Good f ∧ 0 ≤ a ∧ a < f.ground.length ∧ 0 ≤ b ∧ b < f.ground.length ∧ cellE f a = 0 ∧ cellE f b = 0 := by
  unfold faultL at h
  by_cases h1 : fieldE f = 0
  · rw [if_neg (by simp [h1])] at h
    by_cases h2 : ([a, b].any (badC f.ground.length)) = true
    · rw [if_pos h2] at h; cases h
    · simp only [List.any_cons, List.any_nil, Bool.or_false, Bool.or_eq_true, not_or] at h2
      unfold badC at h2
      simp only [decide_eq_true_eq] at h2
      have hg := good_of f h1
      exact ⟨hg, by omega, by omega, by omega, by omega, cellE_ok f a hg (by omega) (by omega), cellE_ok f b hg (by omega) (by omega)⟩
  · rw [if_pos h1] at h; exact absurd h h1
set_option maxRecDepth 100000 in
theorem nxt_no (s : SF) (f : GF) (a b : Int) (fl : Bool) (w : World) (h : FOk w s f) (hE : faultL f [a, b] ≠ 0) :
    Calls Tryd.prog 158 #[fA s f, .int .i64 a, .int .i64 b, .bool fl] w fun e w' => e = .returned (.tuple #[.int .i64 0, erE (faultL f [a, b])]) ∧ Below w.heap.size w w' := by
  have hc := cells2_any s f a b w h
  dsimp only at hc
  unfold w1F at hc
  replace hc := Lib.hid hc
  clear h
  unfold fA
  go_enter Tryd.func158, Tryd.ntmps158
  go_wp2_with fail
  refine hc.out.mono ?_
  rintro e W ⟨rfl, hb, hk⟩
  rw [errVn _ hE]
  unfold erE
  have hE2 := Lib.hid hE
  clear hE hk hc
  go_wp2_with fail
  go_ret2
  exact ⟨rfl, hb⟩
set_option maxHeartbeats 3200000 in
set_option maxRecDepth 100000 in
theorem nxt_ok (s : SF) (f : GF) (a b : Nat) (fl : Bool) (w : World) (h : FOk w s f) (hE : faultL f [a, b] = 0) :
    Calls Tryd.prog 158 #[fA s f, .int .i64 a, .int .i64 b, .bool fl] w fun e w' => Below w.heap.size w w' ∧ ∃ far, DTo f fl b far ∧ ((at0 far a < 0 ∧ e = .returned (.tuple #[.int .i64 0, erE 7])) ∨ (0 ≤ at0 far a ∧ e = .returned (.tuple #[.int .i64 (nextL f fl far a), .nilIface]))) := by
  obtain ⟨hg, ha0, ha1, hb0, hb1, _, _⟩ := faultL_2 f a b hE
  have hc := cells2_any s f a b w h
  dsimp only at hc
  unfold w1F at hc
  have H := Lib.hid h
  have hn := hg.len
  replace hc := Lib.hid hc
  replace hg := Lib.hid hg
  replace hn := Lib.hid hn
  clear h
  unfold fA
  go_enter Tryd.func158, Tryd.ntmps158
  go_wp2_with fail
  refine hc.out.mono ?_
  rintro e W ⟨rfl, hb, hk⟩
  rw [hE, errV0]
  have c0 := hk.cell 0
  have c1 := hk.cell 1
  have c2 := hk.cell 2
  have c3 := hk.cell 3
  have HF := H.out.below hb
  have hs := hb.size
  have hE2 := Lib.hid hE
  have hklt := hk.lt
  replace HF := Lib.hid HF
  replace hb := Lib.hid hb
  replace hk := Lib.hid hk
  clear hE hc
  go_wp2_with fail
  refine (to_any s f b fl W HF.out hg.out (by omega)).mono ?_
  intro e W2 hp
  obtain ⟨g, far, rfl, hd, hg3, hkf, hb5⟩ := hp
  have hk2 := hk.out.below hb5 hklt
  have HF2 := HF.out.below hb5
  have hb6 := hb.out.trans (hb5.mono hs)
  have cf := hkf.atI a (by rw [hd.len]; omega)
  have hs5 := hb5.size
  have hwlt := hk2.lt
  have hglt := hkf.lt
  have hlow := hd.low a (by omega)
  have j1 : (a : Int) < (f.ground.length : Int) := by omega
  have hbd : ∀ k, k < f.ground.length → -1 ≤ at0 far k ∧ at0 far k ≤ 1000 := fun k hk => by have := hd.low k hk; have := hn.out.1; omega
  have hln := hd.len
  have k0 := hk2.cell 0
  have k1 := hk2.cell 1
  have k2 := hk2.cell 2
  have k3 := hk2.cell 3
  replace hbd := Lib.hid hbd
  replace hln := Lib.hid hln
  replace hd := Lib.hid hd
  replace hkf := Lib.hid hkf
  replace hk2 := Lib.hid hk2
  replace HF2 := Lib.hid HF2
  replace hb6 := Lib.hid hb6
  clear hb5 c0 c1 c2 c3
  by_cases hneg : at0 far a < 0
  · have d1 : decide (at0 far a < 0) = true := by simp; omega
    go_wp2_with fail
    go_ret2
    exact ⟨hb6.out, far, hd.out, .inl ⟨hneg, rfl⟩⟩
  · have d1 : decide (at0 far a < 0) = false := by simp; omega
    go_wp2_with fail
    refine (next_any s f fl g far a W2 HF2.out hg.out (by omega) hkf.out hln.out hbd.out).mono ?_
    rintro e W3 ⟨rfl, hb7⟩
    have hb8 := hb6.out.trans (hb7.mono hb6.out.size)
    replace hb8 := Lib.hid hb8
    clear hb7
    go_wp2_with fail
    go_ret2
    exact ⟨hb8.out, far, hd.out, .inr ⟨by omega, rfl⟩⟩
end Go.Proofs.YtkgkpggfoieioaaDoor
