import Derived.Test.YtkkdegcbikjebaaRows
import Derived.WalkKit
import Derived.WalkLawsBesides
import Derived.Outline
import Derived.OwnWalk
import Derived.Deep.DeepCutAuto
import Derived.Deep.DeepFit
import Derived.Deep.DeepMust
import Derived.Lib.Hide
import Derived.Test.YtkkdegcbikjebaaPlainF
import Derived.Test.YtkkdegcbikjebaaWords
namespace Go.Proofs.Ytkkdegcbikjebaa
set_option linter.unusedVariables false
open Go.RowKit
/-- The bytes that a slice holds. -/
def RB (w : World) (B : Nat) (A : Option Addr) (xs : List Int) : Prop := RD w B 1 A xs.length (xs.map (.int .u8))
theorem at_in (A : Option Addr) (c B : Nat) (xs : List Int) (i : Nat) (w : World) (h : RB w B A xs) (hx : ∀ x ∈ xs, Byte x) (hi : i < xs.length) :
    Calls Try.prog 36 #[.slice A xs.length c, .int .i64 i] w fun e w' => e = .returned (.int .i64 (atV xs i)) ∧ w = w' := by
  obtain ⟨b, off, rfl, _, hc⟩ := h.2 (by omega)
  have hv : xs[i]? = some xs[i] := List.getElem?_eq_getElem hi
  have hcell : w.cell? ⟨b, off + i, none⟩ = some (.int .u8 xs[i]) := by rw [hc i (by omega), List.getElem?_map, hv]; rfl
  have hbd := hx xs[i] (List.getElem_mem hi)
  have hat : atV xs i = xs[i] := by unfold atV; rw [hv]; rfl
  rw [hat]
  generalize xs[i] = x at *
  unfold Byte at hbd
  generalize xs.length = n at *
  clear hv hat hc h
  go_enter Try.func36, Try.ntmps36
  go_wp2
  go_ret
  exact ⟨rfl, rfl⟩
theorem at_out (A : Option Addr) (c : Nat) (xs : List Int) (i : Nat) (w : World) (hi : xs.length ≤ i) :
    Calls Try.prog 36 #[.slice A xs.length c, .int .i64 i] w fun e w' => e = .returned (.int .i64 (atV xs i)) ∧ w = w' := by
  have hat : atV xs i = -1 := by unfold atV; rw [List.getElem?_eq_none hi]; rfl
  rw [hat]
  generalize xs.length = n at *
  go_enter Try.func36, Try.ntmps36
  go_wp2
  go_ret
  exact ⟨rfl, rfl⟩
theorem at_any (A : Option Addr) (c B : Nat) (xs : List Int) (i : Nat) (w : World) (h : RB w B A xs) (hx : ∀ x ∈ xs, Byte x) :
    Calls Try.prog 36 #[.slice A xs.length c, .int .i64 i] w fun e w' => e = .returned (.int .i64 (atV xs i)) ∧ w = w' := by
  by_cases hi : i < xs.length
  · exact at_in A c B xs i w h hx hi
  · exact at_out A c xs i w (by omega)
theorem ch_info : (Try.prog.info? 45).map (fun i => (i.zero, i.size, i.bytes)) = some (some (.agg #[.int .i64 0, .int .i64 0, .int .i64 0]), 3, 24) := by kernel_rfl
theorem diff_full (A A' : Option Addr) (n m c c' : Nat) (w : World) (h : 6000 < n ∨ 6000 < m) :
    Calls Try.prog 18 #[.slice A n c, .slice A' m c'] w fun e w' => e = .returned (.tuple #[.slice none 0 0, .iface 69 (.int .i64 4)]) ∧ w = w' := by
  rcases (by omega : (6000 < n) ∨ (n ≤ 6000 ∧ 6000 < m)) with h1 | h1 <;> clear h
  all_goals
    go_enter Try.func18, Try.ntmps18
    go_wp2
    go_ret2
    exact ⟨rfl, rfl⟩
set_option maxHeartbeats 1600000 in
set_option maxRecDepth 100000 in
theorem diff_any (A A' : Option Addr) (c c' B : Nat) (xs ys : List Int) (w : World) (hB : B ≤ w.heap.size) (h : RB w B A xs) (h' : RB w B A' ys) (hx : ∀ x ∈ xs, Byte x) (hy : ∀ x ∈ ys, Byte x) (h1 : xs.length ≤ 6000) (h2 : ys.length ≤ 6000) :
    Calls Try.prog 18 #[.slice A xs.length c, .slice A' ys.length c'] w fun e w' => ∃ v, e = .returned (.tuple #[v, .nilIface]) ∧ w'.ownsRow w.heap.size 45 3 v (diffL xs ys).length ((diffL xs ys).flatMap chC) ∧ Below w.heap.size w w' := by
  obtain ⟨i0, hi0, hz0, hz1, hz2⟩ := info_parts ch_info
  go_enter Try.func18, Try.ntmps18
  have H := Lib.hid h; have H' := Lib.hid h'; have HX := Lib.hid hx; have HY := Lib.hid hy; clear h h' hx hy
  go_upto_region 4 with fail
  go_cut [23, 24] (fun s t wx => ∃ M : Nat, s = .int .i64 M ∧ t = .int .i64 0 ∧ xs.length ≤ M ∧ ys.length ≤ M ∧ M ≤ 6000 ∧ w = wx)
  case first =>
    go_wp2
    · go_meet; exact ⟨_, rfl, rfl, by omega, by omega, by omega, rfl⟩
    · go_meet; exact ⟨_, rfl, rfl, by omega, by omega, by omega, rfl⟩
  case rest =>
  obtain ⟨M, rfl, rfl, hM1, hM2, hM3, rfl⟩ := hcut
  go_wp2_with fail
  go_loopw [6, 24] (fun v i wr => ∃ k : Nat, k ≤ M ∧ i = .int .i64 k ∧ wr.ownsRow w.heap.size 45 3 v (diffN xs ys k).length ((diffN xs ys k).flatMap chC) ∧ Below w.heap.size w wr) (fun _ i _ => M - (intOf i).toNat)
  case atStart => exact ⟨0, Nat.zero_le _, rfl, World.ownsRow_nil _ _ _ _, Below.refl _ _⟩
  case round =>
    obtain ⟨k, hk, rfl, hown, hb⟩ := hrel
    by_cases hlt : k < M
    · have hN := diffN_len xs ys k
      have Hr : RB wr w.heap.size A xs := (H.out.more hB).below hb
      have Hr' : RB wr w.heap.size A' ys := (H'.out.more hB).below hb
      replace Hr := Lib.hid Hr
      have Hr' := Lib.hid Hr'
      have hs := hb.size
      by_cases hat : atV xs k = atV ys k
      · have hat2 : (atV xs k != atV ys k) = false := by simp [hat]
        have e1 := diffN_yes xs ys k hat
        replace e1 := Lib.hid e1
        replace hat := Lib.hid hat
        go_wp2_with fail
        refine (at_any A c w.heap.size xs k _ Hr.out HX.out).mono ?_
        rintro e w' ⟨rfl, rfl⟩
        go_wp2_with fail
        refine (at_any A' c' w.heap.size ys k _ Hr'.out HY.out).mono ?_
        rintro e w' ⟨rfl, rfl⟩
        go_wp2_with fail
        go_roundw
        case rel => exact ⟨k + 1, by omega, by go_num, by rw [e1.out]; exact hown, hb⟩
        case measure => simp [intOf]; omega
      · have hat2 : (atV xs k != atV ys k) = true := by simp [hat]
        have e1 := diffN_no xs ys k hat
        have e2 : (diffN xs ys (k + 1)).length = (diffN xs ys k).length + 1 := by rw [e1]; simp
        have e3 : (diffN xs ys (k + 1)).flatMap chC = (diffN xs ys k).flatMap chC ++ chC ⟨k, atV xs k, atV ys k⟩ := by rw [e1]; simp
        replace e2 := Lib.hid e2
        replace e3 := Lib.hid e3
        replace hat := Lib.hid hat
        clear e1
        generalize (diffN xs ys k).length = d at *
        generalize (diffN xs ys k).flatMap chC = cs at *
        go_wp2_with fail
        refine (at_any A c w.heap.size xs k _ Hr.out HX.out).mono ?_
        rintro e w' ⟨rfl, rfl⟩
        go_wp2_with fail
        refine (at_any A' c' w.heap.size ys k _ Hr'.out HY.out).mono ?_
        rintro e w' ⟨rfl, rfl⟩
        replace hown := Lib.hid hown
        go_wp2_with (at_builtin; refine wpList_app1 rfl (.tmp 36) (.tmp 41) 46 rfl w.heap.size 45 i0 _ 3 24 Try.underlying46 hi0 hz0 hz1 hz2 rfl (by decide) (by decide) wr #[.int .i64 k, .int .i64 (atV xs k), .int .i64 (atV ys k)] u6 d cs rfl hown.out rfl rfl rfl (by omega) hs ?_; intro v' w1 hown' hgrow)
        go_roundw
        case rel => exact ⟨k + 1, by omega, by go_num, by rw [e2.out, e3.out]; exact hown', hb.grown hgrow hs (fun g hg => (hown.out.lt g hg).1)⟩
        case measure => simp [intOf]; omega
    · obtain rfl : k = M := by omega
      have e1 := diffN_end xs ys k hM1 hM2
      rw [e1] at hown
      replace hown := Lib.hid hown
      clear e1
      go_wp2_with fail
      go_ret2
      exact ⟨_, rfl, hown.out, hb⟩
theorem diff_rd (A A' : Option Addr) (c c' B : Nat) (xs ys : List Int) (w : World) (hB : B ≤ w.heap.size) (h : RB w B A xs) (h' : RB w B A' ys) (hx : ∀ x ∈ xs, Byte x) (hy : ∀ x ∈ ys, Byte x) (h1 : xs.length ≤ 6000) (h2 : ys.length ≤ 6000) :
    Calls Try.prog 18 #[.slice A xs.length c, .slice A' ys.length c'] w fun e w' => ∃ D d, e = .returned (.tuple #[.slice D (diffL xs ys).length d, .nilIface]) ∧ RD w' w'.heap.size 3 D (diffL xs ys).length ((diffL xs ys).flatMap chC) ∧ Below w.heap.size w w' := by
  refine (diff_any A A' c c' B xs ys w hB h h' hx hy h1 h2).mono ?_
  rintro e w' ⟨v, he, hown, hb⟩
  obtain ⟨D, d, rfl, _⟩ := own_slice hown
  exact ⟨D, d, he, RD.of_own hown, hb⟩
theorem diff_fact (g1 g2 : Nat) (w : World) (h : RB w w.heap.size (some ⟨g1, 0, none⟩) [97, 98]) (h' : RB w w.heap.size (some ⟨g2, 0, none⟩) [97]) :
    Calls Try.prog 18 #[.slice (some ⟨g1, 0, none⟩) 2 2, .slice (some ⟨g2, 0, none⟩) 1 1] w fun e w' => ∃ g d, e = .returned (.tuple #[.slice (some ⟨g, 0, none⟩) 1 d, .nilIface]) ∧
      w'.cell? ⟨g, 0, none⟩ = some (.int .i64 1) ∧ w'.cell? ⟨g, 2, none⟩ = some (.int .i64 (-1)) ∧ Below w.heap.size w w' := by
  refine (diff_any (some ⟨g1, 0, none⟩) (some ⟨g2, 0, none⟩) 2 1 w.heap.size [97, 98] [97] w (Nat.le_refl _) h h' (by simp [Byte]) (by simp [Byte]) (by decide) (by decide)).mono ?_
  rintro e w' ⟨v, he, hown, hb⟩
  have e1 : diffL [97, 98] [97] = [⟨1, 98, -1⟩] := by decide
  rw [e1] at hown
  obtain ⟨g, d, rfl, _⟩ := hown.form (by decide)
  exact ⟨g, d, he, hown.cellAt 0 (by decide), hown.cellAt 2 (by decide), hb⟩
end Go.Proofs.Ytkkdegcbikjebaa
