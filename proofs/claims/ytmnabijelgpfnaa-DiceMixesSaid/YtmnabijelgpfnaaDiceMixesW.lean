import Derived.Test.YtmnabijelgpfnaaMix
import Derived.Test.YtmnabijelgpfnaaInts
import Derived.OpenShut
namespace Go.Proofs.Ytmnabijelgpfnaa
set_option linter.unusedVariables false
open Go.RowKit
/-- How often a number stands among the first k. -/
def cnt (v : Int) (xs : List Int) (k : Nat) : Nat := (xs.take k).count v
theorem cnt_zero (v : Int) (xs : List Int) : cnt v xs 0 = 0 := by simp [cnt]
theorem cnt_yes (v : Int) (xs : List Int) (k : Nat) (hk : k < xs.length) (h : xs.getD k 0 = v) : cnt v xs (k + 1) = cnt v xs k + 1 := by
  unfold cnt
  rw [List.take_succ_eq_append_getElem hk, List.count_append]
  rw [List.getD_eq_getElem?_getD, List.getElem?_eq_getElem hk] at h
  simp only [Option.getD_some] at h
  rw [h]; simp
theorem cnt_no (v : Int) (xs : List Int) (k : Nat) (hk : k < xs.length) (h : ¬ xs.getD k 0 = v) : cnt v xs (k + 1) = cnt v xs k := by
  unfold cnt
  rw [List.take_succ_eq_append_getElem hk, List.count_append]
  rw [List.getD_eq_getElem?_getD, List.getElem?_eq_getElem hk] at h
  simp only [Option.getD_some] at h
  simp [h]
theorem cnt_le (v : Int) (xs : List Int) (k : Nat) : cnt v xs k ≤ k := by
  unfold cnt
  have := List.count_le_length (a := v) (l := xs.take k)
  have := List.length_take_le k xs
  omega
theorem cnt_all (v : Int) (xs ys : List Int) (k : Nat) (h : ys.Perm xs) (hk : xs.length ≤ k) : cnt v xs k = cnt v ys k := by
  unfold cnt
  rw [List.take_of_length_le hk, List.take_of_length_le (by rw [h.length_eq]; exact hk), h.count_eq]
theorem mix_one (g : Nat) (s : Int) (E0 : Nat) (w : World) (hd : Blk w g 83 #[.int .u64 s]) (h : RD w w.heap.size 1 (some ⟨E0, 0, none⟩) 1 [.int .i64 5]) :
    Calls Try.prog 24 #[.pointer (some ⟨g, 0, none⟩), .slice (some ⟨E0, 0, none⟩) 1 1] w fun e w' => ∃ E d, e = .returned (.tuple #[.slice (some ⟨E, 0, none⟩) 1 d, .nilIface]) ∧
      w'.cell? ⟨E, 0, none⟩ = some (.int .i64 5) ∧ w.grownBy w' (some g) := by
  refine (mix_pos g s (some ⟨E0, 0, none⟩) 1 1 w.heap.size [5] w (fun h => by cases h) (Nat.le_refl _) hd h (by decide) (by decide)).mono ?_
  rintro e w' ⟨E, d, he, hown, hg, _⟩
  exact ⟨E, d, he, hown.cellAt 0 (by decide), hg⟩
set_option maxHeartbeats 3200000 in
set_option maxRecDepth 100000 in
theorem mixes_full (s : Int) (A : Option Addr) (n c : Nat) (xs : List Int) (m : Int) (w : World) (hxn : n = xs.length) (hnil : A = none → c = 0) (h : RI w w.heap.size A xs) (hn : 200 < n) :
    Calls Try.prog 9 #[.int .i64 s, .slice A n c, .int .i64 m] w fun e w' => e = .returned (.bool true) ∧ Below w.heap.size w w' := by
  have H := Lib.hid h
  have HN := Lib.hid hnil
  have HX := Lib.hid hxn
  clear h hnil hxn
  go_enter Try.func9, Try.ntmps9
  go_wp2_with fail
  refine (new_any _ _).mono ?_; rintro e w' ⟨rfl, rfl⟩
  go_wp2_with fail
  have hd0 := (Blk.new w 83 #[.int .u64 (IntKind.u64.wrap 1)]).alloc (.cells #[.int .i64 5] 3)
  have hr0 := RD.new (w.alloc (.cells #[.int .u64 (IntKind.u64.wrap 1)] 83)) 1 1 #[.int .i64 5] 3 (0, 0) rfl
  have hb0 : Below w.heap.size w ((w.alloc (.cells #[.int .u64 (IntKind.u64.wrap 1)] 83)).alloc (.cells #[.int .i64 5] 3)) := ((Below.refl _ _).alloc (Nat.le_refl _) _).alloc (by simp) _
  have hs0 : ((w.alloc (.cells #[.int .u64 (IntKind.u64.wrap 1)] 83)).alloc (.cells #[.int .i64 5] 3)).heap.size = w.heap.size + 1 + 1 := by simp
  have e0 : (w.alloc (.cells #[.int .u64 (IntKind.u64.wrap 1)] 83)) = (w.alloc (.cells #[.int .u64 1] 83)) := by rw [show IntKind.u64.wrap 1 = 1 from by rw [IntKind.wrap_u64]; rfl]
  rw [e0] at hd0 hr0 hb0 hs0
  clear e0
  rw [World.size_alloc] at hr0
  generalize ((w.alloc (.cells #[.int .u64 1] 83)).alloc (.cells #[.int .i64 5] 3)) = W at *
  have hs0' : w.heap.size ≤ W.heap.size := by omega
  rw [← hs0] at hr0
  have hs0 := Lib.hid hs0
  refine (mix_one _ _ _ W hd0 hr0).mono ?_
  rintro e W1 ⟨E0, d0, rfl, hc0, hg0⟩
  have hb1 := hb0.grown hg0 hs0' (by simp)
  clear hd0 hr0 hb0 hg0 hs0
  have hs1 := hb1.size
  go_wp2_with fail
  clear hc0
  refine (new_any _ _).mono ?_; rintro e w' ⟨rfl, rfl⟩
  go_wp2_with fail
  refine (new_any _ _).mono ?_; rintro e w' ⟨rfl, rfl⟩
  go_wp2_with fail
  have hda := (Blk.new W1 83 #[.int .u64 (IntKind.u64.wrap s)]).alloc (.cells #[.int .u64 (IntKind.u64.wrap s)] 83)
  have hdb := Blk.new (W1.alloc (.cells #[.int .u64 (IntKind.u64.wrap s)] 83)) 83 #[.int .u64 (IntKind.u64.wrap s)]
  have hb2 := (hb1.alloc hs1 (.cells #[.int .u64 (IntKind.u64.wrap s)] 83)).alloc (by simp; omega) (.cells #[.int .u64 (IntKind.u64.wrap s)] 83)
  have hs2 : ((W1.alloc (.cells #[.int .u64 (IntKind.u64.wrap s)] 83)).alloc (.cells #[.int .u64 (IntKind.u64.wrap s)] 83)).heap.size = W1.heap.size + 1 + 1 := by simp
  rw [World.size_alloc] at hdb
  generalize ((W1.alloc (.cells #[.int .u64 (IntKind.u64.wrap s)] 83)).alloc (.cells #[.int .u64 (IntKind.u64.wrap s)] 83)) = W2 at *
  generalize hS : IntKind.u64.wrap s = S at *
  clear hS
  have hg2 : W1.heap.size + 1 < W2.heap.size := by omega
  have hs2 := Lib.hid hs2
  generalize hN : W1.heap.size = N at *
  have hN := Lib.hid hN
  clear hb1
  have hs3 := hb2.size
  refine (mix_full _ _ _ _ _ hn).mono ?_
  rintro e w' ⟨rfl, rfl⟩
  go_wp2_with fail
  refine (mix_full _ _ _ _ _ hn).mono ?_
  rintro e w' ⟨rfl, rfl⟩
  go_wp2_with fail
  go_ret
  rw [show decide ((200 : Int) < (n : Int)) = true from decide_eq_true (by omega)]
  exact ⟨rfl, hb2⟩
set_option maxHeartbeats 3200000 in
set_option maxRecDepth 100000 in
theorem mixes_zero (s : Int) (A : Option Addr) (n c : Nat) (xs : List Int) (m : Int) (w : World) (hxn : n = xs.length) (hnil : A = none → c = 0) (h : RI w w.heap.size A xs) (hn : n = 0) :
    Calls Try.prog 9 #[.int .i64 s, .slice A n c, .int .i64 m] w fun e w' => e = .returned (.bool true) ∧ Below w.heap.size w w' := by
  subst hn
  have H := Lib.hid h
  have HN := Lib.hid hnil
  have HX := Lib.hid hxn
  clear h hnil hxn
  go_enter Try.func9, Try.ntmps9
  go_wp2_with fail
  refine (new_any _ _).mono ?_; rintro e w' ⟨rfl, rfl⟩
  go_wp2_with fail
  have hd0 := (Blk.new w 83 #[.int .u64 (IntKind.u64.wrap 1)]).alloc (.cells #[.int .i64 5] 3)
  have hr0 := RD.new (w.alloc (.cells #[.int .u64 (IntKind.u64.wrap 1)] 83)) 1 1 #[.int .i64 5] 3 (0, 0) rfl
  have hb0 : Below w.heap.size w ((w.alloc (.cells #[.int .u64 (IntKind.u64.wrap 1)] 83)).alloc (.cells #[.int .i64 5] 3)) := ((Below.refl _ _).alloc (Nat.le_refl _) _).alloc (by simp) _
  have hs0 : ((w.alloc (.cells #[.int .u64 (IntKind.u64.wrap 1)] 83)).alloc (.cells #[.int .i64 5] 3)).heap.size = w.heap.size + 1 + 1 := by simp
  have e0 : (w.alloc (.cells #[.int .u64 (IntKind.u64.wrap 1)] 83)) = (w.alloc (.cells #[.int .u64 1] 83)) := by rw [show IntKind.u64.wrap 1 = 1 from by rw [IntKind.wrap_u64]; rfl]
  rw [e0] at hd0 hr0 hb0 hs0
  clear e0
  rw [World.size_alloc] at hr0
  generalize ((w.alloc (.cells #[.int .u64 1] 83)).alloc (.cells #[.int .i64 5] 3)) = W at *
  have hs0' : w.heap.size ≤ W.heap.size := by omega
  rw [← hs0] at hr0
  have hs0 := Lib.hid hs0
  refine (mix_one _ _ _ W hd0 hr0).mono ?_
  rintro e W1 ⟨E0, d0, rfl, hc0, hg0⟩
  have hb1 := hb0.grown hg0 hs0' (by simp)
  clear hd0 hr0 hb0 hg0 hs0
  have hs1 := hb1.size
  go_wp2_with fail
  clear hc0
  refine (new_any _ _).mono ?_; rintro e w' ⟨rfl, rfl⟩
  go_wp2_with fail
  refine (new_any _ _).mono ?_; rintro e w' ⟨rfl, rfl⟩
  go_wp2_with fail
  have hda := (Blk.new W1 83 #[.int .u64 (IntKind.u64.wrap s)]).alloc (.cells #[.int .u64 (IntKind.u64.wrap s)] 83)
  have hdb := Blk.new (W1.alloc (.cells #[.int .u64 (IntKind.u64.wrap s)] 83)) 83 #[.int .u64 (IntKind.u64.wrap s)]
  have hb2 := (hb1.alloc hs1 (.cells #[.int .u64 (IntKind.u64.wrap s)] 83)).alloc (by simp; omega) (.cells #[.int .u64 (IntKind.u64.wrap s)] 83)
  have hs2 : ((W1.alloc (.cells #[.int .u64 (IntKind.u64.wrap s)] 83)).alloc (.cells #[.int .u64 (IntKind.u64.wrap s)] 83)).heap.size = W1.heap.size + 1 + 1 := by simp
  rw [World.size_alloc] at hdb
  generalize ((W1.alloc (.cells #[.int .u64 (IntKind.u64.wrap s)] 83)).alloc (.cells #[.int .u64 (IntKind.u64.wrap s)] 83)) = W2 at *
  generalize hS : IntKind.u64.wrap s = S at *
  clear hS
  have hg2 : W1.heap.size + 1 < W2.heap.size := by omega
  have hs2 := Lib.hid hs2
  generalize hN : W1.heap.size = N at *
  have hN := Lib.hid hN
  clear hb1
  have hs3 := hb2.size
  refine (mix_zero _ _ _ _ HN.out).mono ?_
  rintro e W3 ⟨E1, d1, rfl, hE1, hb3⟩
  have hda3 := hda.below hb3 (by omega)
  have hb4 := hb2.trans (hb3.mono hs3)
  have HE1 := Lib.hid hE1
  clear hE1 hb2
  go_wp2_with fail
  refine (mix_zero _ _ _ _ HN.out).mono ?_
  rintro e W4 ⟨E2, d2, rfl, hE2, hb5⟩
  have hda5 := hda3.below hb5 (by have := hda3.lt; omega)
  have hb6 := hb4.trans (hb5.mono (by have := hb3.size; omega))
  clear hE2 hb4
  go_wp2_with fail
  refine (ints_at E1 E2 0 0 d1 d2 0 [] [] W4 rfl rfl RD.nil_ RD.nil_ (by omega)).mono ?_
  rintro e W5 ⟨q, rfl, rfl⟩
  rw [show eqL [] [] = true from by decide]
  go_wp2_with fail
  go_loopw [17] (fun i wr => i = .int .i64 0 ∧ wr = W4.drewN q) (fun _ _ => 0)
  case atStart => exact ⟨rfl, rfl⟩
  case round =>
  obtain ⟨rfl, rfl⟩ := hrel
  go_wp2_with fail
  by_cases hm : m < 1 ∨ 1000000 < m
  · have hm := Lib.hid hm
    refine (below_bad _ _ _ hm.out).mono ?_
    rintro e w' ⟨rfl, rfl⟩
    rcases (by have := hm.out; omega : m < 1 ∨ (1 ≤ m ∧ 1000000 < m)) with h1 | h1
    · go_wp2_with fail
      go_ret
      exact ⟨rfl, bdrewN hb6 q⟩
    · go_wp2_with fail
      go_ret
      exact ⟨rfl, bdrewN hb6 q⟩
  · have m1 : 1 ≤ m := by omega
    have m2 : m ≤ 1000000 := by omega
    clear hm
    refine (below_op _ _ _ _ (hda5.drewN q) m1 m2).mono ?_
    rintro e w9 ⟨x9, z9, _, hx9, _, rfl, hg9, _⟩
    go_wp2_with fail
    go_ret
    have e9 : decide (x9 < m) = true := decide_eq_true hx9.2
    first | (rw [e9]; exact ⟨rfl, (bdrewN hb6 q).grown hg9 hb6.size (fun k hk => by injection hk with hk; omega)⟩) | exact ⟨rfl, (bdrewN hb6 q).grown hg9 hb6.size (fun k hk => by injection hk with hk; omega)⟩
set_option maxHeartbeats 3200000 in
set_option maxRecDepth 100000 in
theorem mixes_pos (s : Int) (A : Option Addr) (n c : Nat) (xs : List Int) (m : Int) (w : World) (hxn : n = xs.length) (hnil : A = none → c = 0) (h : RI w w.heap.size A xs) (hn : n ≤ 200) (hp : 0 < n) :
    Calls Try.prog 9 #[.int .i64 s, .slice A n c, .int .i64 m] w fun e w' => e = .returned (.bool true) ∧ Below w.heap.size w w' := by
  have H := Lib.hid h
  have HN := Lib.hid hnil
  have HX := Lib.hid hxn
  clear h hnil hxn
  go_enter Try.func9, Try.ntmps9
  go_wp2_with fail
  refine (new_any _ _).mono ?_; rintro e w' ⟨rfl, rfl⟩
  go_wp2_with fail
  have hd0 := (Blk.new w 83 #[.int .u64 (IntKind.u64.wrap 1)]).alloc (.cells #[.int .i64 5] 3)
  have hr0 := RD.new (w.alloc (.cells #[.int .u64 (IntKind.u64.wrap 1)] 83)) 1 1 #[.int .i64 5] 3 (0, 0) rfl
  have hb0 : Below w.heap.size w ((w.alloc (.cells #[.int .u64 (IntKind.u64.wrap 1)] 83)).alloc (.cells #[.int .i64 5] 3)) := ((Below.refl _ _).alloc (Nat.le_refl _) _).alloc (by simp) _
  have hs0 : ((w.alloc (.cells #[.int .u64 (IntKind.u64.wrap 1)] 83)).alloc (.cells #[.int .i64 5] 3)).heap.size = w.heap.size + 1 + 1 := by simp
  have e0 : (w.alloc (.cells #[.int .u64 (IntKind.u64.wrap 1)] 83)) = (w.alloc (.cells #[.int .u64 1] 83)) := by rw [show IntKind.u64.wrap 1 = 1 from by rw [IntKind.wrap_u64]; rfl]
  rw [e0] at hd0 hr0 hb0 hs0
  clear e0
  rw [World.size_alloc] at hr0
  generalize ((w.alloc (.cells #[.int .u64 1] 83)).alloc (.cells #[.int .i64 5] 3)) = W at *
  have hs0' : w.heap.size ≤ W.heap.size := by omega
  rw [← hs0] at hr0
  have hs0 := Lib.hid hs0
  refine (mix_one _ _ _ W hd0 hr0).mono ?_
  rintro e W1 ⟨E0, d0, rfl, hc0, hg0⟩
  have hb1 := hb0.grown hg0 hs0' (by simp)
  clear hd0 hr0 hb0 hg0 hs0
  have hs1 := hb1.size
  go_wp2_with fail
  clear hc0
  refine (new_any _ _).mono ?_; rintro e w' ⟨rfl, rfl⟩
  go_wp2_with fail
  refine (new_any _ _).mono ?_; rintro e w' ⟨rfl, rfl⟩
  go_wp2_with fail
  have hda := (Blk.new W1 83 #[.int .u64 (IntKind.u64.wrap s)]).alloc (.cells #[.int .u64 (IntKind.u64.wrap s)] 83)
  have hdb := Blk.new (W1.alloc (.cells #[.int .u64 (IntKind.u64.wrap s)] 83)) 83 #[.int .u64 (IntKind.u64.wrap s)]
  have hb2 := (hb1.alloc hs1 (.cells #[.int .u64 (IntKind.u64.wrap s)] 83)).alloc (by simp; omega) (.cells #[.int .u64 (IntKind.u64.wrap s)] 83)
  have hs2 : ((W1.alloc (.cells #[.int .u64 (IntKind.u64.wrap s)] 83)).alloc (.cells #[.int .u64 (IntKind.u64.wrap s)] 83)).heap.size = W1.heap.size + 1 + 1 := by simp
  rw [World.size_alloc] at hdb
  generalize ((W1.alloc (.cells #[.int .u64 (IntKind.u64.wrap s)] 83)).alloc (.cells #[.int .u64 (IntKind.u64.wrap s)] 83)) = W2 at *
  generalize hS : IntKind.u64.wrap s = S at *
  clear hS
  have hg2 : W1.heap.size + 1 < W2.heap.size := by omega
  have hs2 := Lib.hid hs2
  generalize hN : W1.heap.size = N at *
  have hN := Lib.hid hN
  clear hb1
  have hs3 := hb2.size
  have hL0 : n = ((mixF (n - 1) S xs).2).length := by rw [(mixF_perm (n - 1) S xs (by rw [← HX.out]; omega)).length_eq]; exact HX.out
  have hL := Lib.hid hL0
  clear hL0
  have hP := Lib.hid (mixF_perm (n - 1) S xs (by rw [← HX.out]; omega))
  have H2 : RI W2 w.heap.size A xs := H.out.below hb2
  have H2 : RD W2 w.heap.size 1 A n (xs.map (.int .i64)) := by rw [HX.out]; exact H2
  refine (mix_pos N S A n c w.heap.size xs W2 HN.out hs3 hda H2 hp hn).mono ?_
  rintro e W3 ⟨E1, d1, rfl, ho1, hg3, hda3⟩
  have hdb3 := hdb.grown hg3 (by simp)
  have H3 : RD W3 w.heap.size 1 A n (xs.map (.int .i64)) := H2.grown hg3 hs3 (fun k hk => by injection hk with hk; omega)
  have hb4 := hb2.grown hg3 hs3 (fun k hk => by injection hk with hk; omega)
  have hs4 := hb4.size
  have hE1 := (ho1.lt E1 (by simp [Value.ownBlock])).1
  clear hda hdb H2 hb2
  go_wp2_with fail
  refine (mix_pos (N + 1) S A n c w.heap.size xs W3 HN.out hs4 hdb3 H3 hp hn).mono ?_
  rintro e W4 ⟨E2, d2, rfl, ho2, hg5, _⟩
  have hda5 := hda3.grown hg5 (by simp)
  have H5 := Lib.hid (H3.grown hg5 hs4 (fun k hk => by injection hk with hk; omega))
  have hb6 := hb4.grown hg5 hs4 (fun k hk => by injection hk with hk; omega)
  have ho5 := ho1.kept hg5 (.inr (by simp [Value.ownBlock]; omega))
  have hs6 := hb6.size
  have HO := Lib.hid ho5
  have R1 := Lib.hid (RD.of_own ho5)
  have R2 := Lib.hid (RD.of_own ho2)
  clear hda3 hdb3 H3 hb4 ho1 ho2 ho5
  generalize (mixF (n - 1) S xs).2 = L at *
  go_wp2_with fail
  refine (ints_at (some ⟨E1, 0, none⟩) (some ⟨E2, 0, none⟩) n n d1 d2 W4.heap.size L L W4 hL.out hL.out (by have := R1.out; rw [hL.out] at this; exact this) (by have := R2.out; rw [hL.out] at this; exact this) (by omega)).mono ?_
  rintro e W5 ⟨q, rfl, rfl⟩
  rw [eqL_yes rfl]
  go_wp2_with fail
  go_loopw [17, 18, 19, 20] (fun i _ _ _ wr => ∃ k q : Nat, i = .int .i64 k ∧ k ≤ n ∧ wr = W4.drewN q) (fun i _ _ _ _ => n - (intOf i).toNat)
  case atStart => exact ⟨0, q, rfl, Nat.zero_le _, rfl⟩
  case round =>
  obtain ⟨k, q, rfl, hk, rfl⟩ := hrel
  by_cases hlt : k < n
  · have H6 : RI W4 w.heap.size A xs := by have h := H5.out; rw [HX.out] at h; exact h
    obtain ⟨ba, oa, hA⟩ := RI.addr H6 (by rw [← HX.out]; exact hp)
    subst hA
    have H6 := Lib.hid H6
    have ck := RI.cell H6.out rfl (show k < xs.length by rw [← HX.out]; exact hlt)
    generalize hv : xs.getD k 0 = v at *
    have hv := Lib.hid hv
    go_wp2_with fail
    go_loopw [18, 19, 20] (fun p r j wr => ∃ t u : Nat, j = .int .i64 t ∧ t ≤ n ∧ p = .int .i64 (cnt v xs t : Nat) ∧ r = .int .i64 (cnt v L t : Nat) ∧ wr = W4.drewN u) (fun _ _ j _ => n - (intOf j).toNat)
    case atStart => exact ⟨0, q, rfl, Nat.zero_le _, by rw [cnt_zero]; rfl, by rw [cnt_zero]; rfl, rfl⟩
    case round =>
    obtain ⟨t, u, rfl, ht, rfl, rfl, rfl⟩ := hrel
    by_cases htl : t < n
    · have ct := RI.cell H6.out rfl (show t < xs.length by rw [← HX.out]; exact htl)
      have cL : W4.cell? ⟨E1, t, none⟩ = some (.int .i64 (L.getD t 0)) := by
        rw [HO.out.cellAt t (by omega), List.getElem?_map, List.getD_eq_getElem?_getD, List.getElem?_eq_getElem (by rw [← hL.out]; exact htl)]; rfl
      have y1 := cnt_yes v xs t (by rw [← HX.out]; exact htl)
      have n1 := cnt_no v xs t (by rw [← HX.out]; exact htl)
      have y2 := cnt_yes v L t (by rw [← hL.out]; exact htl)
      have n2 := cnt_no v L t (by rw [← hL.out]; exact htl)
      have l1 := cnt_le v xs t
      have l2 := cnt_le v L t
      generalize xs.getD t 0 = x at *
      generalize L.getD t 0 = y at *
      generalize cnt v xs t = C1 at *
      generalize cnt v L t = C2 at *
      by_cases ha : x = v
      · by_cases hb : y = v
        · have f1 := Lib.hid (y1 ha)
          have f2 := Lib.hid (y2 hb)
          have g1 : (x == v) = true := beq_iff_eq.2 ha
          have g2 : (y == v) = true := beq_iff_eq.2 hb
          clear y1 n1 y2 n2 ha hb
          go_wp2_with fail
          go_quiet (fail)
          go_wp2_with fail
          go_quiet (fail)
          go_wp2_with fail
          go_roundw
          case rel => exact ⟨t + 1, _, by go_num, by omega, by rw [f1.out] <;> go_num, by rw [f2.out] <;> go_num, rfl⟩
          case measure => simp [intOf]; omega
        · have f1 := Lib.hid (y1 ha)
          have f2 := Lib.hid (n2 hb)
          have g1 : (x == v) = true := beq_iff_eq.2 ha
          have g2 : (y == v) = false := beq_eq_false_iff_ne.2 hb
          clear y1 n1 y2 n2 ha hb
          go_wp2_with fail
          go_quiet (fail)
          go_wp2_with fail
          go_quiet (fail)
          go_wp2_with fail
          go_roundw
          case rel => exact ⟨t + 1, _, by go_num, by omega, by rw [f1.out] <;> go_num, by rw [f2.out] <;> go_num, rfl⟩
          case measure => simp [intOf]; omega
      · by_cases hb : y = v
        · have f1 := Lib.hid (n1 ha)
          have f2 := Lib.hid (y2 hb)
          have g1 : (x == v) = false := beq_eq_false_iff_ne.2 ha
          have g2 : (y == v) = true := beq_iff_eq.2 hb
          clear y1 n1 y2 n2 ha hb
          go_wp2_with fail
          go_quiet (fail)
          go_wp2_with fail
          go_quiet (fail)
          go_wp2_with fail
          go_roundw
          case rel => exact ⟨t + 1, _, by go_num, by omega, by rw [f1.out] <;> go_num, by rw [f2.out] <;> go_num, rfl⟩
          case measure => simp [intOf]; omega
        · have f1 := Lib.hid (n1 ha)
          have f2 := Lib.hid (n2 hb)
          have g1 : (x == v) = false := beq_eq_false_iff_ne.2 ha
          have g2 : (y == v) = false := beq_eq_false_iff_ne.2 hb
          clear y1 n1 y2 n2 ha hb
          go_wp2_with fail
          go_quiet (fail)
          go_wp2_with fail
          go_quiet (fail)
          go_wp2_with fail
          go_roundw
          case rel => exact ⟨t + 1, _, by go_num, by omega, by rw [f1.out] <;> go_num, by rw [f2.out] <;> go_num, rfl⟩
          case measure => simp [intOf]; omega
    · have hce := cnt_all v xs L t hP.out (by rw [← HX.out]; omega)
      rw [hce]
      clear hce
      generalize cnt v L t = C at *
      go_wp2_with fail
      go_roundw
      case rel => exact ⟨k + 1, u, by go_num, by omega, rfl⟩
      case measure => simp [intOf]; omega
  · go_wp2_with fail
    by_cases hm : m < 1 ∨ 1000000 < m
    · have hm := Lib.hid hm
      refine (below_bad _ _ _ hm.out).mono ?_
      rintro e w' ⟨rfl, rfl⟩
      rcases (by have := hm.out; omega : m < 1 ∨ (1 ≤ m ∧ 1000000 < m)) with h1 | h1
      · go_wp2_with fail
        go_ret
        exact ⟨rfl, bdrewN hb6 q⟩
      · go_wp2_with fail
        go_ret
        exact ⟨rfl, bdrewN hb6 q⟩
    · have m1 : 1 ≤ m := by omega
      have m2 : m ≤ 1000000 := by omega
      clear hm
      refine (below_op _ _ _ _ (hda5.drewN q) m1 m2).mono ?_
      rintro e w9 ⟨x9, z9, _, hx9, _, rfl, hg9, _⟩
      go_wp2_with fail
      go_ret
      have e9 : decide (x9 < m) = true := decide_eq_true hx9.2
      first | (rw [e9]; exact ⟨rfl, (bdrewN hb6 q).grown hg9 hb6.size (fun k hk => by injection hk with hk; omega)⟩) | exact ⟨rfl, (bdrewN hb6 q).grown hg9 hb6.size (fun k hk => by injection hk with hk; omega)⟩
theorem mixes_walk (s : Int) (a1 : Option Addr) (len1 cap1 : Nat) (z1 : List Int) (m : Int) (w : World) (_ : (Lit.int .i64 s).wf = true) (w1 : IsRow .i64 w a1 len1 cap1 z1) (_ : (Lit.int .i64 m).wf = true) :
    Calls Try.prog 9 #[.int .i64 s, .slice a1 len1 cap1, .int .i64 m] w fun e w' => e = .returned (.bool true) ∧ Below w.heap.size w w' := by
  have hnil : a1 = none → cap1 = 0 := by
    rcases w1 with ⟨_, _, h, _⟩ | ⟨x, h, _⟩
    · exact fun _ => h
    · rw [h]; exact fun h => by cases h
  obtain ⟨xs, hl, hx, _⟩ := isRow_rd w1
  have hx : RI w w.heap.size a1 xs := by subst hl; exact hx
  by_cases h1 : 200 < len1
  · exact mixes_full s a1 len1 cap1 xs m w hl.symm hnil hx h1
  · by_cases h2 : len1 = 0
    · exact mixes_zero s a1 len1 cap1 xs m w hl.symm hnil hx h2
    · exact mixes_pos s a1 len1 cap1 xs m w hl.symm hnil hx (by omega) (by omega)
end Go.Proofs.Ytmnabijelgpfnaa
