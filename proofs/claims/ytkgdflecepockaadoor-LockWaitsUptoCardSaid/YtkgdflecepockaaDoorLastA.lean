import Derived.Test.YtkgdflecepockaaDoorLast
namespace Go.Proofs.YtkgdflecepockaaDoor
set_option linter.unusedVariables false
open Go.RowKit Go.Sort
theorem isLast_nil : IsLast [] [] := ⟨[], List.Pairwise.nil, fun i => by simp, rfl⟩
theorem ordsE_0 {L : List Od} : ordsE L = 0 ↔ L.length ≤ 60 ∧ ∀ o ∈ L, OdOk o := by
  unfold ordsE
  split
  · constructor
    · intro h; omega
    · intro h; omega
  · split
    · exact ⟨fun _ => ⟨by omega, by assumption⟩, fun _ => rfl⟩
    · exact ⟨fun h => by omega, fun h => absurd h.2 (by assumption)⟩
set_option maxHeartbeats 1600000 in
set_option maxRecDepth 100000 in
theorem last_zero (A : Option Addr) (c B : Nat) (w : World) (h : RO w B A []) (hB : B ≤ w.heap.size) (hnil : A = none → c = 0) :
    Calls Tryd.prog 60 #[.slice A 0 c] w (LastPost w []) := by
  have hc : Calls Tryd.prog 41 #[.slice A 0 c] w fun e w' => e = .returned .nilIface ∧ Below w.heap.size w w' := ocheck_any A c B [] w h hB (by simp)
  replace h := Lib.hid h
  replace hnil := Lib.hid hnil
  replace hc := Lib.hid hc
  go_enter Tryd.func60, Tryd.ntmps60
  go_wp2_with fail
  refine hc.out.mono ?_
  clear hc
  rintro e w1 ⟨rfl, hb1⟩
  have hs1 := hb1.size
  replace hb1 := Lib.hid hb1
  go_wp2_with fail
  refine (cloneO_any A 0 c B [] w1 rfl hnil.out (by omega) (h.out.below (hb1.out.mono hB)) (by simp)).mono ?_
  rintro e w2 ⟨v, rfl, hown, hb2⟩
  obtain ⟨A', c', rfl, _⟩ := own_slice hown
  have hb12 := hb1.out.trans (hb2.mono hs1)
  replace hb12 := Lib.hid hb12
  clear hown hb2 hb1
  go_wp2_with fail
  refine (sort0 A' c' _ _).mono ?_
  rintro e w3 ⟨rfl, rfl⟩
  go_wp2_with fail
  refine wp_loop_rounds 1 ?_
  rw [rounds_succ]
  go_wp2_with fail
  go_ret2
  exact ⟨hb12.out, none, 0, [], rfl, isLast_nil, World.ownsRow_nil _ _ _ _⟩
/-- Orders that are right. -/
theorem last_ok (A : Option Addr) (c B : Nat) (L : List Od) (w : World) (h : RO w B A L) (hB : B ≤ w.heap.size) (hnil : A = none → c = 0) (hE : ordsE L = 0) :
    Calls Tryd.prog 60 #[.slice A L.length c] w (LastPost w L) := by
  obtain ⟨hl, hok⟩ := ordsE_0.1 hE
  rcases Nat.eq_zero_or_pos L.length with h0 | h0
  · obtain rfl : L = [] := List.eq_nil_of_length_eq_zero h0
    exact last_zero A c B w h hB hnil
  · exact last_pos A c B L w h hB hnil hok hl h0
set_option maxRecDepth 100000 in
/-- Orders that are not. -/
theorem last_bad (A : Option Addr) (c B : Nat) (L : List Od) (w : World) (h : RO w B A L) (hB : B ≤ w.heap.size) (hl : L.length ≤ 9223372036854775807) (hE : ordsE L ≠ 0) :
    Calls Tryd.prog 60 #[.slice A L.length c] w fun e w' => e = .returned (.tuple #[.slice none 0 0, oErr (ordsE L)]) ∧ Below w.heap.size w w' := by
  have hc := ocheck_any A c B L w h hB hl
  obtain ⟨k, hk⟩ : ∃ k, oErr (ordsE L) = .iface 80 (.int .i64 k) := ⟨ordsE L, by unfold oErr; rw [if_neg hE]⟩
  rw [hk] at hc ⊢
  replace hc := Lib.hid hc
  replace hE := Lib.hid hE
  clear hk h
  go_enter Tryd.func60, Tryd.ntmps60
  go_wp2_with fail
  refine hc.out.mono ?_
  clear hc
  rintro e w1 ⟨rfl, hb1⟩
  replace hb1 := Lib.hid hb1
  go_wp2_with fail
  go_ret2
  exact ⟨rfl, hb1.out⟩
end Go.Proofs.YtkgdflecepockaaDoor
