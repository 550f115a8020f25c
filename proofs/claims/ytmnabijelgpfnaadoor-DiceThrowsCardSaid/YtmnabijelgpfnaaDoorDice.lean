import Derived.Test.YtmnabijelgpfnaaDoorRows
import Derived.WalkKit
import Derived.WalkLawsBesides
import Derived.Outline
import Derived.Deep.DeepCutAuto
import Derived.Deep.DeepFit
import Derived.Deep.LoopGhost
import Derived.Lib.Hide
import Derived.Test.YtmnabijelgpfnaaDoorPlainD
import Derived.Test.YtmnabijelgpfnaaDoorWords
namespace Go.Proofs.YtmnabijelgpfnaaDoor
set_option linter.unusedVariables false
open Go.RowKit
theorem new_any (s : Int) (w : World) :
    Calls Tryd.prog 9 #[.int .i64 s] w fun e w' => e = .returned (.pointer (some ⟨w.heap.size, 0, none⟩)) ∧ w.alloc (.cells #[.int .u64 (IntKind.u64.wrap s)] 60) = w' := by
  go_enter Tryd.func9, Tryd.ntmps9
  go_wp2
  go_ret
  exact ⟨rfl, rfl⟩
theorem state_any (g : Nat) (s : Int) (w : World) (hc : w.cell? ⟨g, 0, none⟩ = some (.int .u64 s)) :
    Calls Tryd.prog 15 #[.pointer (some ⟨g, 0, none⟩)] w fun e w' => e = .returned (.int .i64 (wrap64 s)) ∧ w = w' := by
  go_enter Tryd.func15, Tryd.ntmps15
  go_wp2
  go_ret
  exact ⟨rfl, rfl⟩
theorem state_q (g : Nat) (s : Int) (w : World) (hc : w.cell? ⟨g, 0, none⟩ = some (.int .u64 s)) :
    Calls Tryd.prog 15 #[.pointer (some ⟨g, 0, none⟩)] w fun e w' => e = .returned (.int .i64 (wrap64 s)) ∧ w' = w :=
  (state_any g s w hc).mono fun _ _ ⟨h1, h2⟩ => ⟨h1, h2.symm⟩
theorem fork_any (g : Nat) (s k : Int) (w : World) (hc : w.cell? ⟨g, 0, none⟩ = some (.int .u64 s)) :
    Calls Tryd.prog 14 #[.pointer (some ⟨g, 0, none⟩), .int .i64 k] w fun e w' => e = .returned (.pointer (some ⟨w.heap.size, 0, none⟩)) ∧ w.alloc (.cells #[.int .u64 (fkS s k)] 60) = w' := by
  go_enter Tryd.func14, Tryd.ntmps14
  go_wp2
  go_ret
  exact ⟨rfl, rfl⟩
theorem next_any (g : Nat) (s : Int) (w : World) (hc : w.cell? ⟨g, 0, none⟩ = some (.int .u64 s)) (hf : w.frozen? ⟨g, 0, none⟩ = false) :
    Calls Tryd.prog 11 #[.pointer (some ⟨g, 0, none⟩)] w fun e w' => e = .returned (.int .i64 (nxV (nxS s))) ∧ w.setCell ⟨g, 0, none⟩ (.int .u64 (nxS s)) = w' := by
  go_enter Tryd.func11, Tryd.ntmps11
  go_wp2
  go_ret
  exact ⟨rfl, rfl⟩
/-- The same, the number under a name of its own: so that the kernel does not reckon with it. -/
theorem next_op (g : Nat) (s : Int) (w : World) (hc : w.cell? ⟨g, 0, none⟩ = some (.int .u64 s)) (hf : w.frozen? ⟨g, 0, none⟩ = false) :
    Calls Tryd.prog 11 #[.pointer (some ⟨g, 0, none⟩)] w fun e w' => ∃ v, Hid (v = nxV (nxS s)) ∧ (0 ≤ v ∧ v ≤ 4611686018427387903) ∧ e = .returned (.int .i64 v) ∧ w.setCell ⟨g, 0, none⟩ (.int .u64 (nxS s)) = w' :=
  (next_any g s w hc hf).mono fun _ _ ⟨h1, h2⟩ => ⟨_, rfl, nxV_bd _, h1, h2⟩
theorem below_bad (g : Nat) (n : Int) (w : World) (hn : n < 1 ∨ 1000000 < n) :
    Calls Tryd.prog 13 #[.pointer (some ⟨g, 0, none⟩), .int .i64 n] w fun e w' => e = .returned (.tuple #[.int .i64 0, .iface 57 (.int .i64 1)]) ∧ w = w' := by
  rcases (by omega : (n < 1) ∨ (1 ≤ n ∧ 1000000 < n)) with h | h <;> clear hn
  all_goals
    go_enter Tryd.func13, Tryd.ntmps13
    go_wp2
    go_ret2
    exact ⟨rfl, rfl⟩
theorem below_any (g : Nat) (s n : Int) (w : World) (hb : Blk w g 60 #[.int .u64 s]) (h1 : 1 ≤ n) (h2 : n ≤ 1000000) :
    Calls Tryd.prog 13 #[.pointer (some ⟨g, 0, none⟩), .int .i64 n] w fun e w' => e = .returned (.tuple #[.int .i64 (blw (left s) s n).2, .nilIface]) ∧ w.grownBy w' (some g) ∧ Blk w' g 60 #[.int .u64 (blw (left s) s n).1] := by
  go_enter Tryd.func13, Tryd.ntmps13
  go_wp2_with fail
  go_loopg [] (left s) (fun k wr => ∃ z, Hid (left z = k ∧ blw (left z) z n = blw (left s) s n) ∧ Blk wr g 60 #[.int .u64 z] ∧ w.grownBy wr (some g))
  case atStart => exact ⟨s, Lib.hid ⟨rfl, rfl⟩, hb, World.grownBy.refl w _⟩
  case round =>
    obtain ⟨z, hz, hbz, hg⟩ := hrel
    have hc : wr.cell? ⟨g, 0, none⟩ = some (.int .u64 z) := hbz.cell 0
    have hf := hbz.frozen 0
    have hg2 := grownBy_trans hg (grownBy_set wr g 0 (.int .u64 (nxS z)))
    have hb2 := hbz.set_ 0 (.int .u64 (nxS z))
    have hv := nxV_bd (nxS z)
    have hr0 : 0 ≤ 4611686018427387904 % n := Int.emod_nonneg _ (by omega)
    have hr1 : 4611686018427387904 % n < n := Int.emod_lt_of_pos _ (by omega)
    go_wp2_with (go_at_call 11; refine (next_any g z wr hc hf).mono ?_; rintro e w' ⟨rfl, rfl⟩)
    · have e := blw_hit (left z) z n ‹_›
      rw [hz.out.2] at e
      go_ret2
      rw [e]
      exact ⟨rfl, hg2, hb2⟩
    · obtain ⟨m1, m2⟩ := blw_next z n h1 h2 (Int.not_lt.2 (by assumption))
      go_roundg (left (nxS z))
      case measure => have := hz.out.1; omega
      case rel => exact ⟨nxS z, Lib.hid ⟨rfl, m2.trans hz.out.2⟩, hb2, hg2⟩
theorem below_op (g : Nat) (s n : Int) (w : World) (hb : Blk w g 60 #[.int .u64 s]) (h1 : 1 ≤ n) (h2 : n ≤ 1000000) :
    Calls Tryd.prog 13 #[.pointer (some ⟨g, 0, none⟩), .int .i64 n] w fun e w' => ∃ v z, Hid ((z, v) = blw (left s) s n) ∧ (0 ≤ v ∧ v < n) ∧ Hid (U64 z) ∧ e = .returned (.tuple #[.int .i64 v, .nilIface]) ∧ w.grownBy w' (some g) ∧ Blk w' g 60 #[.int .u64 z] :=
  (below_any g s n w hb h1 h2).mono fun _ _ ⟨e1, e2, e3⟩ => ⟨_, _, rfl, blw_bd _ _ _ h1, blw_u _ _ _, e1, e2, e3⟩
end Go.Proofs.YtmnabijelgpfnaaDoor
