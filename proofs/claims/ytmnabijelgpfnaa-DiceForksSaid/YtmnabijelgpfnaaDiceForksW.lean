import Derived.Test.YtmnabijelgpfnaaDice
import Derived.BigQuiet
import Derived.Deep.QuietTactic
import Derived.OpenShut
namespace Go.Proofs.Ytmnabijelgpfnaa
open Go.RowKit
theorem seed_back (s : Int) (h : -9223372036854775808 ≤ s ∧ s ≤ 9223372036854775807) : wrap64 (IntKind.u64.wrap s) = s := by
  rw [IntKind.wrap_u64]; unfold wrap64; omega
theorem state_back (s : Int) (h : U64 s) : IntKind.u64.wrap (wrap64 s) = s := by
  obtain ⟨h1, h2⟩ := h
  rw [IntKind.wrap_u64]; unfold wrap64; omega
set_option maxHeartbeats 1600000 in
set_option maxRecDepth 100000 in
theorem forks_walk (s k n : Int) (w : World) (ws : (Lit.int .i64 s).wf = true) (_wk : (Lit.int .i64 k).wf = true) (_wn : (Lit.int .i64 n).wf = true) :
    Calls Try.prog 5 #[.int .i64 s, .int .i64 k, .int .i64 n] w fun e w' => e = .returned (.bool true) ∧ Below w.heap.size w w' := by
  have e0 := seed_back s (bounds_i64 ws)
  have e1 := state_back _ (nxS_bd (IntKind.u64.wrap s))
  have hus := u64w s
  have hus := Lib.hid hus
  clear ws
  generalize hS : IntKind.u64.wrap s = S at *
  have hS := Lib.hid hS
  go_enter Try.func5, Try.ntmps5
  go_wp2_with fail
  refine (new_any _ _).mono ?_; rintro e w' ⟨rfl, rfl⟩
  go_wp2_with fail
  refine (new_any _ _).mono ?_; rintro e w' ⟨rfl, rfl⟩
  go_wp2_with fail
  refine (state_any w.heap.size (S) _ ?_).mono ?_
  · go_simp
  rintro e w' ⟨rfl, rfl⟩
  go_wp2_with fail
  refine (fork_any w.heap.size S _ _ ?_).mono ?_
  · go_simp
  rintro e w' ⟨rfl, rfl⟩
  go_wp2_with fail
  refine (fork_any (w.heap.size + 1) S _ _ ?_).mono ?_
  · go_simp
  rintro e w' ⟨rfl, rfl⟩
  go_wp2_with fail
  refine (next_op (w.heap.size + 1 + 1) (fkS S k) _ ?_ ?_).mono ?_
  · go_simp
  · go_simp
  rintro e w' ⟨x, hx, cx, rfl, rfl⟩
  go_wp2_with fail
  refine (next_op (w.heap.size + 1 + 1 + 1) (fkS S k) _ ?_ ?_).mono ?_
  · go_simp
  · go_simp
  rintro e w' ⟨y, hy, cy, rfl, rfl⟩
  obtain rfl : x = y := hx.out.trans hy.out.symm
  go_wp2_with fail
  refine (next_op (w.heap.size) (S) _ ?_ ?_).mono ?_
  · go_simp
  · go_simp
  rintro e w' ⟨p, hp, cp, rfl, rfl⟩
  go_wp2_with fail
  refine (next_op (w.heap.size + 1) (S) _ ?_ ?_).mono ?_
  · go_simp
  · go_simp
  rintro e w' ⟨q, hq, cq, rfl, rfl⟩
  obtain rfl : p = q := hp.out.trans hq.out.symm
  go_wp2_with fail
  refine (state_any w.heap.size (nxS S) _ ?_).mono ?_
  · go_simp
  rintro e w' ⟨rfl, rfl⟩
  go_wp2_with fail
  refine (new_any _ _).mono ?_; rintro e w' ⟨rfl, rfl⟩
  go_wp2_with fail
  have ba := ((((Blk.new w 83 #[.int .u64 (nxS S)]).alloc (.cells #[.int .u64 (nxS S)] 83)).alloc (.cells #[.int .u64 (nxS (fkS S k))] 83)).alloc (.cells #[.int .u64 (nxS (fkS S k))] 83)).alloc (.cells #[.int .u64 (nxS S)] 83)
  have bc := Blk.new ((((w.alloc (.cells #[.int .u64 (nxS S)] 83)).alloc (.cells #[.int .u64 (nxS S)] 83)).alloc (.cells #[.int .u64 (nxS (fkS S k))] 83)).alloc (.cells #[.int .u64 (nxS (fkS S k))] 83)) 83 #[.int .u64 (nxS S)]
  have hw : Below w.heap.size w (((((w.alloc (.cells #[.int .u64 (nxS S)] 83)).alloc (.cells #[.int .u64 (nxS S)] 83)).alloc (.cells #[.int .u64 (nxS (fkS S k))] 83)).alloc (.cells #[.int .u64 (nxS (fkS S k))] 83)).alloc (.cells #[.int .u64 (nxS S)] 83)) :=
    (((((Below.refl _ _).alloc (Nat.le_refl _) _).alloc (by simp) _).alloc (by simp; omega) _).alloc (by simp; omega) _).alloc (by simp; omega) _
  have eh : ((((w.alloc (.cells #[.int .u64 (nxS S)] 83)).alloc (.cells #[.int .u64 (nxS S)] 83)).alloc (.cells #[.int .u64 (nxS (fkS S k))] 83)).alloc (.cells #[.int .u64 (nxS (fkS S k))] 83)).heap.size = w.heap.size + 1 + 1 + 1 + 1 := by simp
  rw [eh] at bc
  clear eh
  generalize (((((w.alloc (.cells #[.int .u64 (nxS S)] 83)).alloc (.cells #[.int .u64 (nxS S)] 83)).alloc (.cells #[.int .u64 (nxS (fkS S k))] 83)).alloc (.cells #[.int .u64 (nxS (fkS S k))] 83)).alloc (.cells #[.int .u64 (nxS S)] 83)) = W at *
  by_cases hn : n < 1 ∨ 1000000 < n
  · have hn := Lib.hid hn
    refine (below_bad _ _ _ hn.out).mono ?_
    rintro e w' ⟨rfl, rfl⟩
    go_wp2_with fail
    refine (below_bad _ _ _ hn.out).mono ?_
    rintro e w' ⟨rfl, rfl⟩
    have ca : W.cell? ⟨w.heap.size, 0, none⟩ = some (.int .u64 (nxS S)) := ba.cell 0
    have cc : W.cell? ⟨w.heap.size + 1 + 1 + 1 + 1, 0, none⟩ = some (.int .u64 (nxS S)) := bc.cell 0
    go_wp2_with fail
    go_quiet ((go_at_call 15; exact Calls.quiet_of_same (state_q _ (nxS S) _ (by go_simp))))
    go_wp2
    go_ret
    exact ⟨rfl, bdrewN hw _⟩
  · have n1 : 1 ≤ n := by omega
    have n2 : n ≤ 1000000 := by omega
    clear hn
    refine (below_op _ _ _ _ ba n1 n2).mono ?_
    rintro e w1 ⟨u, z, hz, hu, _, rfl, hg, hz1⟩
    go_wp2_with fail
    have bc1 := bc.grown hg (by simp; omega)
    refine (below_op _ _ _ _ bc1 n1 n2).mono ?_
    rintro e w2 ⟨u', z', hz', _, _, rfl, hg', hz1'⟩
    have ez := hz.out.trans hz'.out.symm
    simp only [Prod.mk.injEq] at ez
    obtain ⟨rfl, rfl⟩ := ez
    have ba2 := hz1.grown hg' (by simp; omega)
    have hs1 := hg.size
    have hlt := ba.lt
    have hw1 := hw.grown hg hw.size (by simp)
    have hw2 := hw1.grown hg' hw1.size (by simp; omega)
    have ca : w2.cell? ⟨w.heap.size, 0, none⟩ = some (.int .u64 z) := ba2.cell 0
    have cc : w2.cell? ⟨w.heap.size + 1 + 1 + 1 + 1, 0, none⟩ = some (.int .u64 z) := hz1'.cell 0
    clear hz hz'
    go_wp2_with fail
    go_quiet ((go_at_call 15; exact Calls.quiet_of_same (state_q _ z _ (by go_simp))))
    go_wp2
    go_ret
    exact ⟨rfl, bdrewN hw2 _⟩
end Go.Proofs.Ytmnabijelgpfnaa
