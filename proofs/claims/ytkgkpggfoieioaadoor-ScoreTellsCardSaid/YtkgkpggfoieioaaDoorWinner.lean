import Derived.Test.YtkgkpggfoieioaaDoorWorld
import Derived.WalkKit
import Derived.WalkLawsBesides
import Derived.Outline
import Derived.BigQuiet
import Derived.Deep.QuietTactic
import Derived.Lib.Hide
namespace Go.Proofs.YtkgkpggfoieioaaDoor
set_option linter.unusedVariables false
open Go.RowKit
theorem u_cells {w : World} {B b off : Nat} {A : Option Addr} {L : List GU} (h : RD w B 8 A L.length (L.flatMap uC)) (hA : A = some ⟨b, off, none⟩) {k : Nat} {u : GU} (hk : L[k]? = some u) :
    w.cell? ⟨b, off + k * 8, none⟩ = some (.int .i64 u.id) ∧ w.cell? ⟨b, off + k * 8 + 1, none⟩ = some (.int .i64 u.player) ∧ w.cell? ⟨b, off + k * 8 + 2, none⟩ = some (.int .i64 u.kind) ∧ w.cell? ⟨b, off + k * 8 + 3, none⟩ = some (.int .i64 u.spot) ∧
    w.cell? ⟨b, off + k * 8 + 4, none⟩ = some (.int .i64 u.life) ∧ w.cell? ⟨b, off + k * 8 + 5, none⟩ = some (.int .i64 u.load) ∧ w.cell? ⟨b, off + k * 8 + 6, none⟩ = some (.int .i64 u.task) ∧ w.cell? ⟨b, off + k * 8 + 7, none⟩ = some (.int .i64 u.goal) := by
  have hkl : k < L.length := by
    rcases Nat.lt_or_ge k L.length with h | h
    · exact h
    · rw [List.getElem?_eq_none h] at hk; cases hk
  have g := fun j (hj : j < 8) => (h.at_ hA (j := k * 8 + j) (by omega)).trans ((flat_get uC 8 uC_len L k j hj).trans (by rw [hk]))
  exact ⟨g 0 (by omega), g 1 (by omega), g 2 (by omega), g 3 (by omega), g 4 (by omega), g 5 (by omega), g 6 (by omega), g 7 (by omega)⟩
/-- Who has won: whose units all are. -/
def allOf (us : List GU) (p : Int) : Bool := us.all fun u => decide (u.player = p)
def winner : List GU → Int × Bool
  | [] => (0, false)
  | u :: r => if allOf (u :: r) u.player then (u.player, true) else (0, false)
theorem winner_no (us : List GU) (u0 u : GU) (k : Nat) (h0 : us[0]? = some u0) (hk : us[k]? = some u) (hne : ¬ u.player = u0.player) : winner us = (0, false) := by
  cases us with
  | nil => simp at h0
  | cons a r =>
    simp at h0
    subst h0
    show (if allOf (a :: r) a.player then (a.player, true) else (0, false)) = _
    rw [if_neg]
    intro h
    exact hne (of_decide_eq_true (List.all_eq_true.1 h u (List.mem_of_getElem? hk)))
theorem winner_yes (us : List GU) (u0 : GU) (h0 : us[0]? = some u0) (h : ∀ u ∈ us, u.player = u0.player) : winner us = (u0.player, true) := by
  cases us with
  | nil => simp at h0
  | cons a r =>
    simp at h0
    subst h0
    show (if allOf (a :: r) a.player then (a.player, true) else (0, false)) = _
    rw [if_pos]
    exact List.all_eq_true.2 fun u hu => decide_eq_true (h u hu)
set_option maxHeartbeats 1600000 in
set_option maxRecDepth 100000 in
theorem winner_zero (s : SW) (x : GW) (w : World) (h0 : x.units.length = 0) :
    Calls Tryd.prog 38 #[.agg (wV s x).toArray] w fun e w' => e = .returned (.tuple #[.int .i64 (winner x.units).1, .bool (winner x.units).2]) ∧ Below w.heap.size w w' := by
  have hx : x.units = [] := List.eq_nil_of_length_eq_zero h0
  rw [hx]
  unfold wV
  rw [hx]
  clear hx h0
  go_enter Tryd.func38, Tryd.ntmps38
  go_wp2_with fail
  refine wp_loop_rounds 1 ?_
  rw [rounds_succ]
  go_wp2_with fail
  go_ret2
  exact ⟨rfl, (Below.refl _ _).alloc (Nat.le_refl _) _⟩
set_option maxHeartbeats 1600000 in
set_option maxRecDepth 100000 in
theorem winner_pos (s : SW) (x : GW) (B : Nat) (w : World) (hB : B ≤ w.heap.size) (hu : RD w B 8 s.units.A x.units.length (x.units.flatMap uC)) (hp : 0 < x.units.length) (hm : x.units.length ≤ 9223372036854775807) :
    Calls Tryd.prog 38 #[.agg (wV s x).toArray] w fun e w' => e = .returned (.tuple #[.int .i64 (winner x.units).1, .bool (winner x.units).2]) ∧ Below w.heap.size w w' := by
  have h0 : x.units[0]? = some x.units[0] := List.getElem?_eq_getElem hp
  generalize x.units[0] = u0 at *
  have H0 := Lib.hid h0
  have HU := Lib.hid hu
  clear h0 hu
  unfold wV
  generalize hn : x.units.length = n at *
  replace hn := Lib.hid hn
  generalize hA : s.units.A = A at *
  obtain ⟨b, o, hA', hbB⟩ := RD.addr HU.out hp
  subst hA'
  clear hA
  go_enter Tryd.func38, Tryd.ntmps38
  go_wp2_with fail
  have hcb := cell_mark w #[.int .i64 x.turn, .int .i64 x.next, .int .i64 x.field.wide, .int .i64 x.field.high, .slice s.field.ground.A x.field.ground.length s.field.ground.c, .slice s.field.ore.A x.field.ore.length s.field.ore.c, .slice s.gold.A x.gold.length s.gold.c, .slice (some ⟨b, o, none⟩) n s.units.c, .slice s.queue.A x.queue.length s.queue.c] 55 (0, 0) 7
  have hb1 : Below w.heap.size w (w.alloc (.cells #[.int .i64 x.turn, .int .i64 x.next, .int .i64 x.field.wide, .int .i64 x.field.high, .slice s.field.ground.A x.field.ground.length s.field.ground.c, .slice s.field.ore.A x.field.ore.length s.field.ore.c, .slice s.gold.A x.gold.length s.gold.c, .slice (some ⟨b, o, none⟩) n s.units.c, .slice s.queue.A x.queue.length s.queue.c] 55)) := (Below.refl _ _).alloc (Nat.le_refl _) _
  have hz1 : (w.alloc (.cells #[.int .i64 x.turn, .int .i64 x.next, .int .i64 x.field.wide, .int .i64 x.field.high, .slice s.field.ground.A x.field.ground.length s.field.ground.c, .slice s.field.ore.A x.field.ore.length s.field.ore.c, .slice s.gold.A x.gold.length s.gold.c, .slice (some ⟨b, o, none⟩) n s.units.c, .slice s.queue.A x.queue.length s.queue.c] 55)).heap.size = w.heap.size + 1 := World.size_alloc ..
  generalize (w.alloc (.cells #[.int .i64 x.turn, .int .i64 x.next, .int .i64 x.field.wide, .int .i64 x.field.high, .slice s.field.ground.A x.field.ground.length s.field.ground.c, .slice s.field.ore.A x.field.ore.length s.field.ore.c, .slice s.gold.A x.gold.length s.gold.c, .slice (some ⟨b, o, none⟩) n s.units.c, .slice s.queue.A x.queue.length s.queue.c] 55)) = W1 at *
  have HU1 := Lib.hid (HU.out.below (hb1.mono hB))
  have hlt1 : w.heap.size < W1.heap.size := by omega
  replace hcb := Lib.hid hcb
  replace hz1 := Lib.hid hz1
  go_loopw [9] (fun i wr => ∃ k : Nat, i = .int .i64 k ∧ k ≤ n ∧ Hid (∀ i, i < k → ∀ u, x.units[i]? = some u → u.player = u0.player) ∧ Below W1.heap.size W1 wr) (fun i _ => n - (intOf i).toNat)
  case atStart => exact ⟨0, rfl, Nat.zero_le _, Lib.hid (fun i hi => by omega), Below.refl _ _⟩
  case round =>
  obtain ⟨k, rfl, hk, hall, hbr⟩ := hrel
  have hsr := hbr.size
  have cb : wr.cell? ⟨w.heap.size, 7, none⟩ = some (.slice (some ⟨b, o, none⟩) n s.units.c) := (hbr.cell (p := ⟨w.heap.size, 7, none⟩) hlt1).trans hcb.out
  have HUr := HU1.out.below (hbr.mono (by omega))
  obtain ⟨_, p1, _⟩ := u_cells (by rw [hn.out]; exact HUr) rfl H0.out
  rw [Nat.zero_mul, Nat.add_zero] at p1
  by_cases hlt : k < n
  · have hk' : k < x.units.length := by rw [hn.out]; exact hlt
    have hg : x.units[k]? = some x.units[k] := List.getElem?_eq_getElem hk'
    generalize x.units[k] = u at *
    replace hg := Lib.hid hg
    obtain ⟨q0, q1, q2, q3, q4, q5, q6, q7⟩ := u_cells (by rw [hn.out]; exact HUr) rfl hg.out
    have hltr : w.heap.size < wr.heap.size := by omega
    have hbr2 : b < wr.heap.size := by omega
    clear HUr hk'
    by_cases hp2 : u.player = u0.player
    · have hbq : (u.player != u0.player) = false := by rw [hp2]; simp
      have hall2 : ∀ i, i < k + 1 → ∀ u, x.units[i]? = some u → u.player = u0.player := fun i hi v hv => by
        rcases (by omega : i < k ∨ i = k) with h | h
        · exact hall.out i h v hv
        · subst h
          rw [hg.out] at hv
          injection hv with hv
          rw [← hv]; exact hp2
      replace hall2 := Lib.hid hall2
      replace hp2 := Lib.hid hp2
      go_wp2_with fail
      go_quiet (fail)
      go_wp2_with fail
      go_roundw
      case rel => exact ⟨k + 1, by go_num, by omega, hall2, bdrewN (hbr.alloc hsr _) _⟩
      case measure => simp [intOf]; omega
    · have hbq : (u.player != u0.player) = true := by rw [bne_iff_ne]; exact hp2
      have hw := winner_no x.units u0 u k H0.out hg.out hp2
      replace hp2 := Lib.hid hp2
      replace hw := Lib.hid hw
      go_wp2_with fail
      go_quiet (fail)
      go_wp2_with fail
      go_ret2
      rw [hw.out]
      exact ⟨rfl, bdrewN (hb1.trans ((hbr.alloc hsr _).mono (by omega))) _⟩
  · have hw := winner_yes x.units u0 H0.out (fun u hu => by
      obtain ⟨i, hi⟩ := List.mem_iff_getElem?.1 hu
      have hil : i < x.units.length := by
        rcases Nat.lt_or_ge i x.units.length with h | h
        · exact h
        · rw [List.getElem?_eq_none h] at hi; cases hi
      exact hall.out i (by rw [hn.out] at hil; omega) u hi)
    replace hw := Lib.hid hw
    have hn0 : ((n : Int) == 0) = false := by simp; omega
    go_wp2_with fail
    go_ret2
    rw [hw.out]
    exact ⟨rfl, hb1.trans (hbr.mono (by omega))⟩
end Go.Proofs.YtkgkpggfoieioaaDoor
