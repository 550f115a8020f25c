import Derived.Test.YtmnabijelgpfnaaDoorRefDice
import Derived.Test.YtmnabijelgpfnaaDoorTold
import Derived.Test.YtmnabijelgpfnaaDoorRI
import Derived.OpenShut
namespace Go.Proofs.YtmnabijelgpfnaaDoor
set_option linter.unusedVariables false
open Go.RowKit
set_option maxHeartbeats 3200000 in
set_option maxRecDepth 100000 in
theorem throws_walk1 (s : Int) (A : Option Addr) (n c : Nat) (xs : List Int) (f : Int) (w : World) (hv : HV w) (hxn : n = xs.length) (h : RI w w.heap.size A xs) (hs : -9223372036854775808 ≤ s ∧ s ≤ 9223372036854775807) :
    Calls Tryd.prog 4 #[.int .i64 s, .slice A n c, .int .i64 f] w fun e w' => e = .returned (.bool true) ∧ Below w.heap.size w w' := by
  have HV0 := Lib.hid hv
  have hw0 := hv.lt
  have H := Lib.hid h
  have HX := Lib.hid hxn
  clear hv h hxn
  go_enter Tryd.func4, Tryd.ntmps4
  go_wp2_with fail
  refine (new_any _ _).mono ?_; rintro e w' ⟨rfl, rfl⟩
  go_wp2_with fail
  have hd := Blk.new w 60 #[.int .u64 (IntKind.u64.wrap s)]
  have hb : Below w.heap.size w (w.alloc (.cells #[.int .u64 (IntKind.u64.wrap s)] 60)) := (Below.refl _ _).alloc (Nat.le_refl _) _
  generalize (w.alloc (.cells #[.int .u64 (IntKind.u64.wrap s)] 60)) = W at *
  go_loopw [8, 9] (fun t i wr => ∃ (k : Nat) (z : Int), i = .int .i64 k ∧ t = .int .u64 z ∧ k ≤ n ∧ k ≤ 60 ∧ Blk wr w.heap.size 60 #[.int .u64 z] ∧ Below w.heap.size w wr) (fun _ i _ => n - (intOf i).toNat)
  case atStart => exact ⟨0, _, rfl, rfl, Nat.zero_le _, by omega, hd, hb⟩
  case round =>
  clear hd hb
  obtain ⟨k, z, rfl, rfl, hk, hk6, hd, hb⟩ := hrel
  by_cases hlt : k < n ∧ k < 60
  · obtain ⟨hl1, hl2⟩ := hlt
    obtain ⟨b, o, hA⟩ := RI.addr (H.out.below hb) (by rw [← HX.out]; omega)
    subst hA
    have ck := RI.cell (H.out.below hb) rfl (show k < xs.length by rw [← HX.out]; exact hl1)
    generalize xs.getD k 0 = x at *
    by_cases h0 : x = 0
    · subst h0
      go_wp2_with fail
      refine (refnext_op z _).mono ?_
      rintro e w' ⟨v, hv, hvb, rfl, rfl⟩
      go_wp2_with fail
      refine (next_op _ z _ (hd.cell 0) (hd.frozen 0)).mono ?_
      rintro e w' ⟨v', hv', _, rfl, rfl⟩
      obtain rfl : v' = v := hv'.out.trans hv.out.symm
      have hd2 := hd.set_ 0 (.int .u64 (nxS z))
      have hb2 := hb.setCell (p := ⟨w.heap.size, 0, none⟩) (Nat.le_refl _) (.int .u64 (nxS z))
      clear ck
      generalize wr.setCell ⟨w.heap.size, 0, none⟩ (.int .u64 (nxS z)) = w2 at *
      go_wp2_with fail
      go_roundw
      case rel => exact ⟨k + 1, nxS z, by go_num, rfl, by omega, by omega, hd2, hb2⟩
      case measure => simp [intOf]; omega
    · have hne : (x == 0) = false := beq_eq_false_iff_ne.2 h0
      by_cases hx1 : 1 ≤ x ∧ x ≤ 1000000
      · obtain ⟨x1, x2⟩ := hx1
        clear h0
        go_wp2_with fail
        refine (refbelow_any z x _ x1 x2).mono ?_
        rintro e w' ⟨z1, v, q, hz1, rfl, rfl⟩
        have ck2 : (wr.drewN q).cell? ⟨b, o + k, none⟩ = some (.int .i64 x) := ck
        go_wp2_with fail
        refine (below_op w.heap.size z x _ (hd.drewN q) x1 x2).mono ?_
        rintro e w3 ⟨v', z2, hz2, _, _, rfl, hg, hd3⟩
        have e := hz1.out.trans hz2.out.symm
        simp only [Prod.mk.injEq] at e
        obtain ⟨rfl, rfl⟩ := e
        have hb3 := (bdrewN hb q).grown hg hb.size (fun k hk => by injection hk with hk; omega)
        have hs3 := hb3.size
        clear ck ck2 hne
        go_wp2_with fail
        refine (error_nil 0 _).mono ?_
        rintro e w' ⟨rfl, rfl⟩
        go_wp2_with fail
        go_roundw
        case rel => exact ⟨k + 1, z1, by go_num, rfl, by omega, by omega, hd3, hb3⟩
        case measure => simp [intOf]; omega
      · have hbad : x < 1 ∨ 1000000 < x := by omega
        have HB := Lib.hid hbad
        have hx2 : x < 1 ∨ (1 ≤ x ∧ 1000000 < x) := by omega
        clear hbad hx1 h0
        rcases hx2 with hx2 | hx2
        all_goals
          go_wp2_with fail
          refine (below_bad w.heap.size x _ HB.out).mono ?_
          rintro e w' ⟨rfl, rfl⟩
          go_wp2_with fail
          refine (error_err 1 1 _ (HV0.out.below hb)).mono ?_
          rintro e w3 ⟨rfl, hb3⟩
          have hd4 := hd.below hb3 hd.lt
          have hb4 := hb.trans (hb3.mono hb.size)
          clear ck
          go_wp2_with fail
          go_roundw
          case rel => exact ⟨k + 1, z, by go_num, rfl, by omega, by omega, hd4, hb4⟩
          case measure => simp [intOf]; omega
  · have hk2 : (¬ k < n) ∨ (k < n ∧ ¬ k < 60) := by omega
    clear hlt
    rcases hk2 with hk2 | hk2
    all_goals
      go_wp2_with fail
      refine (fork_any w.heap.size z f _ (hd.cell 0)).mono ?_
      rintro e w' ⟨rfl, rfl⟩
      have hd5 := hd.alloc (.cells #[.int .u64 (fkS z f)] 60)
      have hf5 := Blk.new wr 60 #[.int .u64 (fkS z f)]
      have hb5 := hb.alloc hb.size (.cells #[.int .u64 (fkS z f)] 60)
      have hlt5 := hd.lt
      generalize wr.alloc (.cells #[.int .u64 (fkS z f)] 60) = w5 at *
      clear hd hb
      go_wp2_with fail
      refine (refnext_op _ _).mono ?_
      rintro e w' ⟨v, hv, hvb, rfl, rfl⟩
      go_wp2_with fail
      refine (state_any w.heap.size z _ (hd5.cell 0)).mono ?_
      rintro e w' ⟨rfl, rfl⟩
      go_wp2_with fail
      refine (next_op wr.heap.size (fkS z f) _ (hf5.cell 0) (hf5.frozen 0)).mono ?_
      rintro e w' ⟨v', hv', _, rfl, rfl⟩
      obtain rfl : v' = v := hv'.out.trans hv.out.symm
      have hb6 := hb5.setCell (p := ⟨wr.heap.size, 0, none⟩) (Nat.le_of_lt hlt5) (.int .u64 (nxS (fkS z f)))
      go_wp2_with fail
      go_ret
      first | exact ⟨rfl, hb6⟩ | (simp; exact hb6)
theorem throws_walk (s : Int) (a1 : Option Addr) (len1 cap1 : Nat) (z1 : List Int) (m : Int) (w : World) (hv : HV w) (hs : (Lit.int .i64 s).wf = true) (w1 : IsRow .i64 w a1 len1 cap1 z1) (_ : (Lit.int .i64 m).wf = true) :
    Calls Tryd.prog 4 #[.int .i64 s, .slice a1 len1 cap1, .int .i64 m] w fun e w' => e = .returned (.bool true) ∧ Below w.heap.size w w' := by
  obtain ⟨xs, hl, hx, _⟩ := isRow_rd w1
  have hx : RI w w.heap.size a1 xs := by subst hl; exact hx
  exact throws_walk1 s a1 len1 cap1 xs m w hv hl.symm hx (bounds_i64 hs)
end Go.Proofs.YtmnabijelgpfnaaDoor
