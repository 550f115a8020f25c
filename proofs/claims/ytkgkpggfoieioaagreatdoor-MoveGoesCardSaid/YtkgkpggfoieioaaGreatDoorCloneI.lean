import Derived.Test.YtkgkpggfoieioaaGreatDoorRows
import Derived.WalkKit
import Derived.WalkLawsBesides
import Derived.WalkSpells
import Derived.Outline
import Derived.OwnWalk
import Derived.Lib.Hide
import Derived.Test.YtkgkpggfoieioaaGreatDoorMrga
namespace Go.Proofs.YtkgkpggfoieioaaGreatDoor
set_option linter.unusedVariables false
open Go.RowKit
theorem cloneI_info : (Tryz.prog.info? 3).map (fun i => (i.zero, i.size, i.bytes)) = some (some (.int .i64 0), 1, 8) := by kernel_rfl
theorem cloneI_any (A : Option Addr) (n c B : Nat) (xs : List Int) (w : World) (hnil : A = none → c = 0) (hB : B ≤ w.heap.size) (h : RD w B 1 A n (xs.map (.int .i64))) (hn : n * 8 ≤ 140737488355328) :
    Calls Tryz.prog 56 #[.slice A n c] w fun e w' => ∃ v, e = .returned v ∧ w'.ownsRow w.heap.size 3 1 v n (xs.map (.int .i64)) ∧ Below w.heap.size w w' := by
  obtain ⟨i0, hi0, hz0, hz1, hz2⟩ := info_parts cloneI_info
  have H := Lib.hid h
  have HN := Lib.hid hnil
  clear h hnil
  have hq := fun (w : World) (a : Option Addr) (n c : Nat) => Lib.run_eql_slice_nil (P := Tryz.prog) w 23 3 a n c 0 0 Tryz.underlying23
  rcases A with _ | ad
  · have hn0 : n = 0 := by
      rcases Nat.eq_zero_or_pos n with h0 | h0
      · exact h0
      · obtain ⟨b, off, e, _⟩ := H.out.2 h0
        cases e
    subst hn0
    have hx : xs.map (Value.int .i64) = [] := List.eq_nil_of_length_eq_zero (by simpa using H.out.1)
    rw [hx]
    clear hx H
    go_enter Tryz.func56, Tryz.ntmps56
    go_wp2
    go_ret
    exact ⟨_, rfl, World.ownsRow_nil _ _ _ _, Below.refl _ _⟩
  · go_enter Tryz.func56, Tryz.ntmps56
    have ho : (w.alloc (.cells #[] 3)).ownsRow w.heap.size 3 1 (.slice (some ⟨w.heap.size, 0, none⟩) 0 0) 0 [] := World.ownsRow_made w #[] 0 (Nat.le_refl _) (by unfold maxLen; omega) rfl
    replace ho := Lib.hid ho
    go_wp2_with (at_builtin; refine wpList_append_rd rfl (.tmp 5) (.tmp 6) 23 rfl w.heap.size 3 i0 _ 1 8 Tryz.underlying23 hi0 hz0 hz1 hz2 rfl (by decide) _ (.slice (some ⟨w.heap.size, 0, none⟩) 0 0) 0 [] rfl ho.out B (some ad) n c (xs.map (.int .i64)) rfl (fun h => by cases h) (H.out.alloc hB _) (by simp [Value.oneCell']) ?_ ?_ ?_ ?_)
    · unfold maxLen; omega
    · omega
    · simp
    · intro v' w1 hown hgrow
      go_wp2
      go_ret
      exact ⟨_, rfl, by simpa using hown, ((Below.refl _ _).alloc (Nat.le_refl _) _).grown hgrow (by simp) (by simp [Value.ownBlock])⟩
/-- Of a list that is not empty: the copy leads to a new row. -/
theorem cloneI_pos (A : Option Addr) (n c B : Nat) (xs : List Int) (w : World) (hnil : A = none → c = 0) (hB : B ≤ w.heap.size) (h : RD w B 1 A n (xs.map (.int .i64))) (hn : n * 8 ≤ 140737488355328) (hp : 0 < n) :
    Calls Tryz.prog 56 #[.slice A n c] w fun e w' => ∃ g d, e = .returned (.slice (some ⟨g, 0, none⟩) n d) ∧ w'.ownsRow w.heap.size 3 1 (.slice (some ⟨g, 0, none⟩) n d) n (xs.map (.int .i64)) ∧ w.heap.size ≤ g ∧ Below w.heap.size w w' := by
  refine (cloneI_any A n c B xs w hnil hB h hn).mono ?_
  rintro e w' ⟨v, he, hown, hb⟩
  obtain ⟨g, d, rfl, hg, _⟩ := hown.form hp
  exact ⟨g, d, he, hown, hg, hb⟩
theorem cloneI_zero (A : Option Addr) (c B : Nat) (w : World) (hnil : A = none → c = 0) (hB : B ≤ w.heap.size) :
    Calls Tryz.prog 56 #[.slice A 0 c] w fun e w' => ∃ D d, e = .returned (.slice D 0 d) ∧ (D = none → d = 0) ∧ Below w.heap.size w w' := by
  refine (cloneI_any A 0 c B [] w hnil hB RD.nil_ (by omega)).mono ?_
  rintro e w' ⟨v, he, hown, hb⟩
  rcases hown.2 with ⟨rfl, _⟩ | ⟨g, cap, cur, rfl, _⟩
  · exact ⟨none, 0, he, fun _ => rfl, hb⟩
  · exact ⟨_, cap, he, (fun h => by cases h), hb⟩
end Go.Proofs.YtkgkpggfoieioaaGreatDoor
