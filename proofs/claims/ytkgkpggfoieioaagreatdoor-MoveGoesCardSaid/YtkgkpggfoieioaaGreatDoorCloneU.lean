import Derived.Test.YtkgkpggfoieioaaGreatDoorWorldC1
import Derived.Test.YtkgkpggfoieioaaGreatDoorCloneI
import Derived.OwnWalk
namespace Go.Proofs.YtkgkpggfoieioaaGreatDoor
set_option linter.unusedVariables false
open Go.RowKit
/-! slices.Clone over units and jobs. -/
theorem uC_oneW (u : GU) : ∀ v ∈ uC u, v.oneCell' = true := by
  intro v hv
  simp only [uC, List.mem_cons, List.not_mem_nil, or_false] at hv
  rcases hv with rfl | rfl | rfl | rfl | rfl | rfl | rfl | rfl <;> rfl
theorem jC_oneW (u : GJ) : ∀ v ∈ jC u, v.oneCell' = true := by
  intro v hv
  simp only [jC, List.mem_cons, List.not_mem_nil, or_false] at hv
  rcases hv with rfl | rfl | rfl | rfl <;> rfl
theorem unitC_inf : (Tryz.prog.info? 45).map (fun i => (i.zero, i.size, i.bytes)) = some (some (.agg #[.int .i64 0, .int .i64 0, .int .i64 0, .int .i64 0, .int .i64 0, .int .i64 0, .int .i64 0, .int .i64 0]), 8, 64) := by kernel_rfl
set_option maxRecDepth 100000 in
theorem cloneU_any (A : Option Addr) (n c B : Nat) (L : List GU) (w : World) (hn0 : L.length = n) (hnil : A = none → c = 0) (hB : B ≤ w.heap.size) (h : RD w B 8 A L.length (L.flatMap uC)) (hn : n ≤ 1000000000000) :
    Calls Tryz.prog 57 #[.slice A n c] w fun e w' => ∃ v, e = .returned v ∧ w'.ownsRow w.heap.size 45 8 v n (L.flatMap uC) ∧ Below w.heap.size w w' := by
  subst hn0
  obtain ⟨i0, hi0, hz0, hz1, hz2⟩ := info_parts unitC_inf
  have H := Lib.hid h
  have HN := Lib.hid hnil
  clear h hnil
  have hq := fun (w : World) (a : Option Addr) (n c : Nat) => Lib.run_eql_slice_nil (P := Tryz.prog) w 26 45 a n c 0 0 Tryz.underlying26
  rcases A with _ | ad
  · have hn0 : L.length = 0 := by
      rcases Nat.eq_zero_or_pos L.length with h0 | h0
      · exact h0
      · obtain ⟨b, off, e, _⟩ := H.out.2 h0
        cases e
    obtain rfl : L = [] := List.eq_nil_of_length_eq_zero hn0
    clear H
    go_enter Tryz.func57, Tryz.ntmps57
    go_wp2
    go_ret
    exact ⟨_, rfl, World.ownsRow_nil _ _ _ _, Below.refl _ _⟩
  · have hone : (L.flatMap uC).all (·.oneCell') = true := List.all_eq_true.2 (fun v hv => by
      obtain ⟨o, _, ho⟩ := List.mem_flatMap.1 hv
      exact uC_oneW o v ho)
    go_enter Tryz.func57, Tryz.ntmps57
    have ho : (w.alloc (.cells #[] 45)).ownsRow w.heap.size 45 8 (.slice (some ⟨w.heap.size, 0, none⟩) 0 0) 0 [] := World.ownsRow_made w #[] 0 (Nat.le_refl _) (by unfold maxLen; omega) rfl
    replace ho := Lib.hid ho
    go_wp2_with (at_builtin; refine wpList_append_rd rfl (.tmp 5) (.tmp 6) 26 rfl w.heap.size 45 i0 _ 8 64 Tryz.underlying26 hi0 hz0 hz1 hz2 rfl (by decide) _ (.slice (some ⟨w.heap.size, 0, none⟩) 0 0) 0 _ rfl ho.out B (some ad) L.length c (L.flatMap uC) rfl HN.out (H.out.alloc hB _) hone ?_ ?_ ?_ ?_)
    · unfold maxLen; omega
    · omega
    · simp
    · intro v' w1 hown hgrow
      go_wp2
      go_ret
      exact ⟨_, rfl, by simpa using hown, ((Below.refl _ _).alloc (Nat.le_refl _) _).grown hgrow (by simp) (by simp [Value.ownBlock])⟩
theorem jobC_inf : (Tryz.prog.info? 71).map (fun i => (i.zero, i.size, i.bytes)) = some (some (.agg #[.int .i64 0, .int .i64 0, .int .i64 0, .int .i64 0]), 4, 32) := by kernel_rfl
set_option maxRecDepth 100000 in
theorem cloneJ_any (A : Option Addr) (n c B : Nat) (L : List GJ) (w : World) (hn0 : L.length = n) (hnil : A = none → c = 0) (hB : B ≤ w.heap.size) (h : RD w B 4 A L.length (L.flatMap jC)) (hn : n ≤ 1000000000000) :
    Calls Tryz.prog 58 #[.slice A n c] w fun e w' => ∃ v, e = .returned v ∧ w'.ownsRow w.heap.size 71 4 v n (L.flatMap jC) ∧ Below w.heap.size w w' := by
  subst hn0
  obtain ⟨i0, hi0, hz0, hz1, hz2⟩ := info_parts jobC_inf
  have H := Lib.hid h
  have HN := Lib.hid hnil
  clear h hnil
  have hq := fun (w : World) (a : Option Addr) (n c : Nat) => Lib.run_eql_slice_nil (P := Tryz.prog) w 27 71 a n c 0 0 Tryz.underlying27
  rcases A with _ | ad
  · have hn0 : L.length = 0 := by
      rcases Nat.eq_zero_or_pos L.length with h0 | h0
      · exact h0
      · obtain ⟨b, off, e, _⟩ := H.out.2 h0
        cases e
    obtain rfl : L = [] := List.eq_nil_of_length_eq_zero hn0
    clear H
    go_enter Tryz.func58, Tryz.ntmps58
    go_wp2
    go_ret
    exact ⟨_, rfl, World.ownsRow_nil _ _ _ _, Below.refl _ _⟩
  · have hone : (L.flatMap jC).all (·.oneCell') = true := List.all_eq_true.2 (fun v hv => by
      obtain ⟨o, _, ho⟩ := List.mem_flatMap.1 hv
      exact jC_oneW o v ho)
    go_enter Tryz.func58, Tryz.ntmps58
    have ho : (w.alloc (.cells #[] 71)).ownsRow w.heap.size 71 4 (.slice (some ⟨w.heap.size, 0, none⟩) 0 0) 0 [] := World.ownsRow_made w #[] 0 (Nat.le_refl _) (by unfold maxLen; omega) rfl
    replace ho := Lib.hid ho
    go_wp2_with (at_builtin; refine wpList_append_rd rfl (.tmp 5) (.tmp 6) 27 rfl w.heap.size 71 i0 _ 4 32 Tryz.underlying27 hi0 hz0 hz1 hz2 rfl (by decide) _ (.slice (some ⟨w.heap.size, 0, none⟩) 0 0) 0 _ rfl ho.out B (some ad) L.length c (L.flatMap jC) rfl HN.out (H.out.alloc hB _) hone ?_ ?_ ?_ ?_)
    · unfold maxLen; omega
    · omega
    · simp
    · intro v' w1 hown hgrow
      go_wp2
      go_ret
      exact ⟨_, rfl, by simpa using hown, ((Below.refl _ _).alloc (Nat.le_refl _) _).grown hgrow (by simp) (by simp [Value.ownBlock])⟩
end Go.Proofs.YtkgkpggfoieioaaGreatDoor
