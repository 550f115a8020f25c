import Derived.Test.YtmnabijelgpfnaaPlainR
import Derived.Test.YtmnabijelgpfnaaWinner
namespace Go.Proofs.Ytmnabijelgpfnaa
set_option linter.unusedVariables false
open Go.RowKit
theorem winner_any (s : SW) (x : GW) (B : Nat) (w : World) (hB : B ≤ w.heap.size) (hu : RD w B 8 s.units.A x.units.length (x.units.flatMap uC)) (hm : x.units.length ≤ 9223372036854775807) :
    Calls Try.prog 23 #[.agg #[.int .i64 x.turn, .int .i64 x.next, .int .i64 x.field.wide, .int .i64 x.field.high, .slice s.field.ground.A x.field.ground.length s.field.ground.c, .slice s.field.ore.A x.field.ore.length s.field.ore.c, .slice s.gold.A x.gold.length s.gold.c, .slice s.units.A x.units.length s.units.c, .slice s.queue.A x.queue.length s.queue.c]] w fun e w' => e = .returned (.tuple #[.int .i64 (winner x.units).1, .bool (winner x.units).2]) ∧ Below w.heap.size w w' := by
  by_cases h : x.units.length = 0
  · exact winner_zero s x w h
  · exact winner_pos s x B w hB hu (by omega) hm
theorem rank_fact (g : Nat) (w : World) (h : RD w w.heap.size 1 (some ⟨g, 0, none⟩) 3 [.int .i64 5, .int .i64 9, .int .i64 5]) :
    Calls Try.prog 22 #[.slice (some ⟨g, 0, none⟩) 3 3] w fun e w' => ∃ E d, e = .returned (.tuple #[.slice (some ⟨E, 0, none⟩) 3 d, .nilIface]) ∧
      w'.cell? ⟨E, 0, none⟩ = some (.int .i64 2) ∧ w'.cell? ⟨E, 1, none⟩ = some (.int .i64 1) ∧ w'.cell? ⟨E, 2, none⟩ = some (.int .i64 2) ∧ Below w.heap.size w w' := by
  refine (rank_any (some ⟨g, 0, none⟩) 3 3 w.heap.size [5, 9, 5] w rfl (Nat.le_refl _) h (by decide)).mono ?_
  rintro e w' ⟨v, he, hown, hb⟩
  have e1 : rankL [5, 9, 5] = [2, 1, 2] := by decide
  rw [e1] at hown
  obtain ⟨E, d, rfl, _⟩ := hown.form (by decide)
  exact ⟨E, d, he, hown.cellAt 0 (by decide), hown.cellAt 1 (by decide), hown.cellAt 2 (by decide), hb⟩
theorem rank_rd (A : Option Addr) (n c B : Nat) (xs : List Int) (w : World) (hxn : n = xs.length) (hB : B ≤ w.heap.size) (h : RI w B A xs) (hn : n ≤ 200) :
    Calls Try.prog 22 #[.slice A n c] w fun e w' => ∃ D d, e = .returned (.tuple #[.slice D n d, .nilIface]) ∧ RI w' w'.heap.size D (rankL xs) ∧ Below w.heap.size w w' := by
  refine (rank_any A n c B xs w hxn hB h hn).mono ?_
  rintro e w' ⟨v, he, hown, hb⟩
  obtain ⟨D, d, rfl, _⟩ := own_slice hown
  refine ⟨D, d, he, ?_, hb⟩
  have := RD.of_own hown
  unfold RI
  rw [show (rankL xs).length = n by rw [hxn]; simp [rankL]]
  exact this
theorem winner_pl (us : List GU) (k : Nat) (u : GU) (hu : us[k]? = some u) (h : (winner us).2 = true) : u.player = (winner us).1 := by
  cases us with
  | nil => simp at hu
  | cons a r =>
    have hd : winner (a :: r) = if allOf (a :: r) a.player then (a.player, true) else (0, false) := rfl
    by_cases hall : allOf (a :: r) a.player = true
    · rw [hd, if_pos hall]
      exact of_decide_eq_true (List.all_eq_true.1 hall u (List.mem_of_getElem? hu))
    · rw [hd, if_neg hall] at h
      cases h
theorem winner_nil (us : List GU) (h : us.length = 0) : (winner us).2 = false := by
  rw [List.eq_nil_of_length_eq_zero h]; rfl
set_option maxHeartbeats 3200000 in
set_option maxRecDepth 100000 in
theorem places_full (A : Option Addr) (n c : Nat) (xs : List Int) (s : SW) (x : GW) (w : World) (hxn : n = xs.length) (hpts : RI w w.heap.size A xs) (hu : RD w w.heap.size 8 s.units.A x.units.length (x.units.flatMap uC)) (hum : x.units.length ≤ 9223372036854775807) (hn : 200 < n) :
    Calls Try.prog 8 #[.slice A n c, .agg #[.int .i64 x.turn, .int .i64 x.next, .int .i64 x.field.wide, .int .i64 x.field.high, .slice s.field.ground.A x.field.ground.length s.field.ground.c, .slice s.field.ore.A x.field.ore.length s.field.ore.c, .slice s.gold.A x.gold.length s.gold.c, .slice s.units.A x.units.length s.units.c, .slice s.queue.A x.queue.length s.queue.c]] w fun e w' => e = .returned (.bool true) ∧ Below w.heap.size w w' := by
  have HP := Lib.hid hpts
  have HX := Lib.hid hxn
  have HU := Lib.hid hu
  clear hpts hxn hu
  go_enter Try.func8, Try.ntmps8
  go_wp2_with fail
  have r0 := RD.new (w.alloc (.cells #[.int .i64 x.turn, .int .i64 x.next, .int .i64 x.field.wide, .int .i64 x.field.high, .slice s.field.ground.A x.field.ground.length s.field.ground.c, .slice s.field.ore.A x.field.ore.length s.field.ore.c, .slice s.gold.A x.gold.length s.gold.c, .slice s.units.A x.units.length s.units.c, .slice s.queue.A x.queue.length s.queue.c] 55)) 1 3 #[.int .i64 5, .int .i64 9, .int .i64 5] 3 (0, 0) rfl
  have hb0 : Below (w.heap.size + 1) (w.alloc (.cells #[.int .i64 x.turn, .int .i64 x.next, .int .i64 x.field.wide, .int .i64 x.field.high, .slice s.field.ground.A x.field.ground.length s.field.ground.c, .slice s.field.ore.A x.field.ore.length s.field.ore.c, .slice s.gold.A x.gold.length s.gold.c, .slice s.units.A x.units.length s.units.c, .slice s.queue.A x.queue.length s.queue.c] 55)) ((w.alloc (.cells #[.int .i64 x.turn, .int .i64 x.next, .int .i64 x.field.wide, .int .i64 x.field.high, .slice s.field.ground.A x.field.ground.length s.field.ground.c, .slice s.field.ore.A x.field.ore.length s.field.ore.c, .slice s.gold.A x.gold.length s.gold.c, .slice s.units.A x.units.length s.units.c, .slice s.queue.A x.queue.length s.queue.c] 55)).alloc (.cells #[.int .i64 5, .int .i64 9, .int .i64 5] 3)) := (Below.refl _ _).alloc (by simp) _
  have hs0 : ((w.alloc (.cells #[.int .i64 x.turn, .int .i64 x.next, .int .i64 x.field.wide, .int .i64 x.field.high, .slice s.field.ground.A x.field.ground.length s.field.ground.c, .slice s.field.ore.A x.field.ore.length s.field.ore.c, .slice s.gold.A x.gold.length s.gold.c, .slice s.units.A x.units.length s.units.c, .slice s.queue.A x.queue.length s.queue.c] 55)).alloc (.cells #[.int .i64 5, .int .i64 9, .int .i64 5] 3)).heap.size = w.heap.size + 1 + 1 := by simp
  rw [World.size_alloc] at r0
  generalize ((w.alloc (.cells #[.int .i64 x.turn, .int .i64 x.next, .int .i64 x.field.wide, .int .i64 x.field.high, .slice s.field.ground.A x.field.ground.length s.field.ground.c, .slice s.field.ore.A x.field.ore.length s.field.ore.c, .slice s.gold.A x.gold.length s.gold.c, .slice s.units.A x.units.length s.units.c, .slice s.queue.A x.queue.length s.queue.c] 55)).alloc (.cells #[.int .i64 5, .int .i64 9, .int .i64 5] 3)) = W1 at *
  rw [← hs0] at r0
  have hs0' : w.heap.size + 1 ≤ W1.heap.size := by omega
  replace hs0 := Lib.hid hs0
  refine (rank_fact _ W1 r0).mono ?_
  rintro e W2 ⟨E, d, rfl, c0, c1, c2, hb1⟩
  have hb2 := hb0.trans (hb1.mono hs0')
  have hbw2 : Below w.heap.size w W2 := ((Below.refl _ _).alloc (Nat.le_refl _) _).trans (hb2.mono (by omega))
  have hs2 := hbw2.size
  clear r0 hb0 hb1
  go_wp2_with fail
  clear c0 c1 c2
  refine (rank_full _ _ _ _ hn).mono ?_
  rintro e W3 ⟨rfl, rfl⟩
  have hb3 := hb2
  clear hb2 hbw2
  -- the winner
  have hld : ∀ j, j < 9 → W2.cell? ⟨w.heap.size, j, none⟩ = (#[.int .i64 x.turn, .int .i64 x.next, .int .i64 x.field.wide, .int .i64 x.field.high, .slice s.field.ground.A x.field.ground.length s.field.ground.c, .slice s.field.ore.A x.field.ore.length s.field.ore.c, .slice s.gold.A x.gold.length s.gold.c, .slice s.units.A x.units.length s.units.c, .slice s.queue.A x.queue.length s.queue.c] : Array Value)[j]? := fun j hj => (hb3.cell (p := ⟨w.heap.size, j, none⟩) (by show w.heap.size < w.heap.size + 1; omega)).trans (cell_mark w _ 55 (0, 0) j)
  have g0 := hld 0 (by omega)
  have g1 := hld 1 (by omega)
  have g2 := hld 2 (by omega)
  have g3 := hld 3 (by omega)
  have g4 := hld 4 (by omega)
  have g5 := hld 5 (by omega)
  have g6 := hld 6 (by omega)
  have g7 := hld 7 (by omega)
  have g8 := hld 8 (by omega)
  simp only [List.getElem?_toArray, List.getElem?_cons_zero, List.getElem?_cons_succ] at g0 g1 g2 g3 g4 g5 g6 g7 g8
  clear hld
  have hbw : Below w.heap.size w W2 := ((Below.refl _ _).alloc (Nat.le_refl _) _).trans (hb3.mono (by omega))
  have hs3 := hbw.size
  have HU3 := HU.out.below hbw
  clear hb3
  go_wp2_with fail
  refine (winner_any s x w.heap.size W2 hs3 HU3 hum).mono ?_
  rintro e W4 ⟨rfl, hb4⟩
  have hlt3 : w.heap.size < W2.heap.size := by
    rcases Nat.lt_or_ge w.heap.size W2.heap.size with h | h
    · exact h
    · simp [World.cell?, Array.getElem?_eq_none h] at g7
  have g7' := (hb4.cell (p := ⟨w.heap.size, 7, none⟩) hlt3).trans g7
  have hbw4 := hbw.trans (hb4.mono hs3)
  have HU4 := HU.out.below hbw4
  clear g0 g1 g2 g3 g4 g5 g6 g7 g8 hbw hb4 HU3
  have hpl := fun k u hk => winner_pl x.units k u hk
  have hnil := winner_nil x.units
  generalize (winner x.units).1 = p at *
  generalize (winner x.units).2 = won at *
  replace hpl := Lib.hid hpl
  replace hnil := Lib.hid hnil
  replace hbw4 := Lib.hid hbw4
  go_wp2_with fail
  go_loop [14] (fun i => ∃ k : Nat, i = .int .i64 k ∧ k ≤ x.units.length) (fun i => x.units.length - (intOf i).toNat)
  case atStart => exact ⟨0, rfl, Nat.zero_le _⟩
  case round =>
  obtain ⟨k, rfl, hk⟩ := hrel
  by_cases hlt : k < x.units.length
  · have hg : x.units[k]? = some x.units[k] := List.getElem?_eq_getElem hlt
    generalize x.units[k] = u at *
    obtain ⟨b, o, hA, _⟩ := RD.addr HU4 (by omega)
    obtain ⟨_, q1, _⟩ := u_cells HU4 hA hg
    generalize s.units.A = SA at *
    subst hA
    replace hg := Lib.hid hg
    have HU5 := Lib.hid HU4
    clear HU4
    cases won with
    | true =>
      have e := hpl.out k u hg.out rfl
      have e2 : (u.player != p) = false := by rw [e]; simp
      clear e
      go_wp2_with fail
      go_round
      case rel => exact ⟨k + 1, by go_num, by omega⟩
      case measure => simp [intOf]; omega
    | false =>
      go_wp2_with fail
      go_round
      case rel => exact ⟨k + 1, by go_num, by omega⟩
      case measure => simp [intOf]; omega
  · cases won with
    | true =>
      have hp : 0 < x.units.length := by
        rcases Nat.eq_zero_or_pos x.units.length with h | h
        · exact absurd (hnil.out h) (by simp)
        · exact h
      go_wp2_with fail
      go_ret
      first | exact ⟨rfl, hbw4.out⟩ | (rw [show decide ((0 : Int) < (x.units.length : Int)) = true from decide_eq_true (by omega)]; exact ⟨rfl, hbw4.out⟩)
    | false =>
      go_wp2_with fail
      go_ret
      exact ⟨rfl, hbw4.out⟩
set_option maxHeartbeats 3200000 in
set_option maxRecDepth 100000 in
theorem places_ok (A : Option Addr) (n c : Nat) (xs : List Int) (s : SW) (x : GW) (w : World) (hxn : n = xs.length) (hpts : RI w w.heap.size A xs) (hu : RD w w.heap.size 8 s.units.A x.units.length (x.units.flatMap uC)) (hum : x.units.length ≤ 9223372036854775807) (hn : n ≤ 200) :
    Calls Try.prog 8 #[.slice A n c, .agg #[.int .i64 x.turn, .int .i64 x.next, .int .i64 x.field.wide, .int .i64 x.field.high, .slice s.field.ground.A x.field.ground.length s.field.ground.c, .slice s.field.ore.A x.field.ore.length s.field.ore.c, .slice s.gold.A x.gold.length s.gold.c, .slice s.units.A x.units.length s.units.c, .slice s.queue.A x.queue.length s.queue.c]] w fun e w' => e = .returned (.bool true) ∧ Below w.heap.size w w' := by
  have HP := Lib.hid hpts
  have HX := Lib.hid hxn
  have HU := Lib.hid hu
  clear hpts hxn hu
  go_enter Try.func8, Try.ntmps8
  go_wp2_with fail
  have r0 := RD.new (w.alloc (.cells #[.int .i64 x.turn, .int .i64 x.next, .int .i64 x.field.wide, .int .i64 x.field.high, .slice s.field.ground.A x.field.ground.length s.field.ground.c, .slice s.field.ore.A x.field.ore.length s.field.ore.c, .slice s.gold.A x.gold.length s.gold.c, .slice s.units.A x.units.length s.units.c, .slice s.queue.A x.queue.length s.queue.c] 55)) 1 3 #[.int .i64 5, .int .i64 9, .int .i64 5] 3 (0, 0) rfl
  have hb0 : Below (w.heap.size + 1) (w.alloc (.cells #[.int .i64 x.turn, .int .i64 x.next, .int .i64 x.field.wide, .int .i64 x.field.high, .slice s.field.ground.A x.field.ground.length s.field.ground.c, .slice s.field.ore.A x.field.ore.length s.field.ore.c, .slice s.gold.A x.gold.length s.gold.c, .slice s.units.A x.units.length s.units.c, .slice s.queue.A x.queue.length s.queue.c] 55)) ((w.alloc (.cells #[.int .i64 x.turn, .int .i64 x.next, .int .i64 x.field.wide, .int .i64 x.field.high, .slice s.field.ground.A x.field.ground.length s.field.ground.c, .slice s.field.ore.A x.field.ore.length s.field.ore.c, .slice s.gold.A x.gold.length s.gold.c, .slice s.units.A x.units.length s.units.c, .slice s.queue.A x.queue.length s.queue.c] 55)).alloc (.cells #[.int .i64 5, .int .i64 9, .int .i64 5] 3)) := (Below.refl _ _).alloc (by simp) _
  have hs0 : ((w.alloc (.cells #[.int .i64 x.turn, .int .i64 x.next, .int .i64 x.field.wide, .int .i64 x.field.high, .slice s.field.ground.A x.field.ground.length s.field.ground.c, .slice s.field.ore.A x.field.ore.length s.field.ore.c, .slice s.gold.A x.gold.length s.gold.c, .slice s.units.A x.units.length s.units.c, .slice s.queue.A x.queue.length s.queue.c] 55)).alloc (.cells #[.int .i64 5, .int .i64 9, .int .i64 5] 3)).heap.size = w.heap.size + 1 + 1 := by simp
  rw [World.size_alloc] at r0
  generalize ((w.alloc (.cells #[.int .i64 x.turn, .int .i64 x.next, .int .i64 x.field.wide, .int .i64 x.field.high, .slice s.field.ground.A x.field.ground.length s.field.ground.c, .slice s.field.ore.A x.field.ore.length s.field.ore.c, .slice s.gold.A x.gold.length s.gold.c, .slice s.units.A x.units.length s.units.c, .slice s.queue.A x.queue.length s.queue.c] 55)).alloc (.cells #[.int .i64 5, .int .i64 9, .int .i64 5] 3)) = W1 at *
  rw [← hs0] at r0
  have hs0' : w.heap.size + 1 ≤ W1.heap.size := by omega
  replace hs0 := Lib.hid hs0
  refine (rank_fact _ W1 r0).mono ?_
  rintro e W2 ⟨E, d, rfl, c0, c1, c2, hb1⟩
  have hb2 := hb0.trans (hb1.mono hs0')
  have hbw2 : Below w.heap.size w W2 := ((Below.refl _ _).alloc (Nat.le_refl _) _).trans (hb2.mono (by omega))
  have hs2 := hbw2.size
  clear r0 hb0 hb1
  go_wp2_with fail
  clear c0 c1 c2
  refine (rank_rd A n c w.heap.size xs W2 HX.out hs2 (HP.out.below hbw2) hn).mono ?_
  rintro e W3 ⟨D, d2, rfl, hR, hb3'⟩
  have hb3 := hb2.trans (hb3'.mono (by have := hb2.size; simp at this; omega))
  have HPW := Lib.hid (HP.out.below (hbw2.trans (hb3'.mono hs2)))
  have HR := Lib.hid hR
  clear hb2 hbw2 hb3' hR
  have hf0 : decide ((n : Int) = 0) = fstB xs 0 := by unfold fstB; rw [← HX.out]; simp
  have hf0' : ((n : Int) == 0) = fstB xs 0 := by rw [← hf0]; rfl
  replace hf0 := Lib.hid hf0
  replace hf0' := Lib.hid hf0'
  go_wp2_with fail
  go_loopw [9, 10, 11] (fun f i _ wr => ∃ k q : Nat, i = .int .i64 k ∧ k ≤ n ∧ f = .bool (fstB xs k) ∧ wr = W3.drewN q) (fun _ i _ _ => n - (intOf i).toNat)
  case atStart => exact ⟨0, 0, rfl, Nat.zero_le _, by first | rw [hf0'.out] | rw [hf0.out], rfl⟩
  case round =>
  obtain ⟨k, q, rfl, hk, rfl, rfl⟩ := hrel
  by_cases hlt : k < n
  · obtain ⟨b1, o1, hA⟩ := RI.addr HPW.out (by rw [← HX.out]; omega)
    have hRl : (rankL xs).length = n := by rw [HX.out]; simp [rankL]
    obtain ⟨b2, o2, hD⟩ := RI.addr HR.out (by rw [hRl]; omega)
    subst hA; subst hD
    have pk := RI.cell HPW.out rfl (show k < xs.length by rw [← HX.out]; exact hlt)
    have rk' := RI.cell HR.out rfl (show k < (rankL xs).length by rw [hRl]; exact hlt)
    rw [rank_get xs k (by rw [← HX.out]; exact hlt)] at rk'
    have l1 := rk_lo xs (xs.getD k 0)
    have l2 := rk_hi xs (xs.getD k 0) (getD_mem xs k (by rw [← HX.out]; exact hlt))
    rw [← HX.out] at l2
    have hfn := Lib.hid (fstB_next xs k (by rw [← HX.out]; exact hlt))
    have hRL := Lib.hid hRl
    clear hRl
    have hiffs := fun t (ht : t < n) => rk_lt xs (xs.getD k 0) (xs.getD t 0) (getD_mem xs k (by rw [← HX.out]; exact hlt))
    replace hiffs := Lib.hid hiffs
    generalize xs.getD k 0 = v at *
    generalize hrv : rk xs v = rv at *
    replace hrv := Lib.hid hrv
    generalize fstB xs k = fk at *
    have key : ∀ fk' : Bool, fk' = (fk || (rv == 1)) → fstB xs (k + 1) = fk' := fun fk' h => by rw [hfn.out, h]
    replace key := Lib.hid key
    rcases (by cases fk <;> simp : fk = true ∨ fk = false) with hfk | hfk
    all_goals
      subst hfk
      go_wp2_with fail
      go_loopw [11] (fun j wr => ∃ t q : Nat, j = .int .i64 t ∧ t ≤ n ∧ wr = W3.drewN q) (fun j _ => n - (intOf j).toNat)
      case atStart => exact ⟨0, q, rfl, Nat.zero_le _, rfl⟩
      case round =>
      obtain ⟨t, q, rfl, ht, rfl⟩ := hrel
      by_cases htl : t < n
      · have pt := RI.cell HPW.out rfl (show t < xs.length by rw [← HX.out]; exact htl)
        have rt := RI.cell HR.out rfl (show t < (rankL xs).length by rw [hRL.out]; exact htl)
        rw [rank_get xs t (by rw [← HX.out]; exact htl)] at rt
        have hiff := hiffs.out t htl
        generalize xs.getD t 0 = y at *
        generalize rk xs y = ry at *
        by_cases hy : y < v
        · have hy2 := hiff.1 hy
          clear hiff
          go_wp2_with fail
          go_quiet (fail)
          go_wp2_with fail
          go_roundw
          case rel => exact ⟨t + 1, _, by go_num, by omega, rfl⟩
          case measure => simp [intOf]; omega
        · have hy2 : ¬ rv < ry := fun h => hy (hiff.2 h)
          clear hiff
          have d1 : decide (y < v) = false := by simpa using hy
          have d2 : decide (rv < ry) = false := by simpa using hy2
          go_wp2_with fail
          go_quiet (fail)
          go_wp2_with fail
          go_roundw
          case rel => exact ⟨t + 1, _, by go_num, by omega, rfl⟩
          case measure => simp [intOf]; omega
      · go_wp2_with fail
        go_roundw
        case rel => exact ⟨k + 1, q, by go_num, by omega, by rw [key.out _ rfl]; rfl, rfl⟩
        case measure => simp [intOf]; omega
  · have e : fstB xs k = true := fstB_all xs k (by rw [← HX.out]; omega)
    rw [e]
    clear e
    have hb3' := bdrewN hb3 q
    clear hb3 HPW HR
    have hb3 := hb3'
    clear hb3'
    generalize W3.drewN q = W4 at *
    -- the winner
    have hld : ∀ j, j < 9 → W4.cell? ⟨w.heap.size, j, none⟩ = (#[.int .i64 x.turn, .int .i64 x.next, .int .i64 x.field.wide, .int .i64 x.field.high, .slice s.field.ground.A x.field.ground.length s.field.ground.c, .slice s.field.ore.A x.field.ore.length s.field.ore.c, .slice s.gold.A x.gold.length s.gold.c, .slice s.units.A x.units.length s.units.c, .slice s.queue.A x.queue.length s.queue.c] : Array Value)[j]? := fun j hj => (hb3.cell (p := ⟨w.heap.size, j, none⟩) (by show w.heap.size < w.heap.size + 1; omega)).trans (cell_mark w _ 55 (0, 0) j)
    have g0 := hld 0 (by omega)
    have g1 := hld 1 (by omega)
    have g2 := hld 2 (by omega)
    have g3 := hld 3 (by omega)
    have g4 := hld 4 (by omega)
    have g5 := hld 5 (by omega)
    have g6 := hld 6 (by omega)
    have g7 := hld 7 (by omega)
    have g8 := hld 8 (by omega)
    simp only [List.getElem?_toArray, List.getElem?_cons_zero, List.getElem?_cons_succ] at g0 g1 g2 g3 g4 g5 g6 g7 g8
    clear hld
    have hbw : Below w.heap.size w W4 := ((Below.refl _ _).alloc (Nat.le_refl _) _).trans (hb3.mono (by omega))
    have hs3 := hbw.size
    have HU3 := HU.out.below hbw
    clear hb3
    go_wp2_with fail
    refine (winner_any s x w.heap.size W4 hs3 HU3 hum).mono ?_
    rintro e W5 ⟨rfl, hb4⟩
    have hlt3 : w.heap.size < W4.heap.size := by
      rcases Nat.lt_or_ge w.heap.size W4.heap.size with h | h
      · exact h
      · simp [World.cell?, Array.getElem?_eq_none h] at g7
    have g7' := (hb4.cell (p := ⟨w.heap.size, 7, none⟩) hlt3).trans g7
    have hbw4 := hbw.trans (hb4.mono hs3)
    have HU4 := HU.out.below hbw4
    clear g0 g1 g2 g3 g4 g5 g6 g7 g8 hbw hb4 HU3
    have hpl := fun k u hk => winner_pl x.units k u hk
    have hnil := winner_nil x.units
    generalize (winner x.units).1 = p at *
    generalize (winner x.units).2 = won at *
    replace hpl := Lib.hid hpl
    replace hnil := Lib.hid hnil
    replace hbw4 := Lib.hid hbw4
    go_wp2_with fail
    go_loop [14] (fun i => ∃ k : Nat, i = .int .i64 k ∧ k ≤ x.units.length) (fun i => x.units.length - (intOf i).toNat)
    case atStart => exact ⟨0, rfl, Nat.zero_le _⟩
    case round =>
    obtain ⟨k, rfl, hk⟩ := hrel
    by_cases hlt : k < x.units.length
    · have hg : x.units[k]? = some x.units[k] := List.getElem?_eq_getElem hlt
      generalize x.units[k] = u at *
      obtain ⟨b, o, hA, _⟩ := RD.addr HU4 (by omega)
      obtain ⟨_, q1, _⟩ := u_cells HU4 hA hg
      generalize s.units.A = SA at *
      subst hA
      replace hg := Lib.hid hg
      have HU5 := Lib.hid HU4
      clear HU4
      cases won with
      | true =>
        have e := hpl.out k u hg.out rfl
        have e2 : (u.player != p) = false := by rw [e]; simp
        clear e
        go_wp2_with fail
        go_round
        case rel => exact ⟨k + 1, by go_num, by omega⟩
        case measure => simp [intOf]; omega
      | false =>
        go_wp2_with fail
        go_round
        case rel => exact ⟨k + 1, by go_num, by omega⟩
        case measure => simp [intOf]; omega
    · cases won with
      | true =>
        have hp : 0 < x.units.length := by
          rcases Nat.eq_zero_or_pos x.units.length with h | h
          · exact absurd (hnil.out h) (by simp)
          · exact h
        go_wp2_with fail
        go_ret
        first | exact ⟨rfl, hbw4.out⟩ | (rw [show decide ((0 : Int) < (x.units.length : Int)) = true from decide_eq_true (by omega)]; exact ⟨rfl, hbw4.out⟩)
      | false =>
        go_wp2_with fail
        go_ret
        exact ⟨rfl, hbw4.out⟩
theorem places_walk (a0 : Option Addr) (len0 cap0 : Nat) (z0 : List Int) (v : Value) (x : SW × GW) (w : World) (w0 : IsRow .i64 w a0 len0 cap0 z0) (w1 : v = .agg (wV x.1 x.2).toArray ∧ WOk w x.1 x.2) :
    Calls Try.prog 8 #[.slice a0 len0 cap0, v] w fun e w' => e = .returned (.bool true) ∧ Below w.heap.size w w' := by
  obtain ⟨xs, hl, hx, _⟩ := isRow_rd w0
  have hx : RI w w.heap.size a0 xs := by subst hl; exact hx
  obtain ⟨rfl, hok⟩ := w1
  obtain ⟨hu, _, hc1, hc2, _⟩ := hok.2.2.2.2.1
  have hum : x.2.units.length ≤ 9223372036854775807 := by unfold maxLen at hc2; omega
  by_cases h : 200 < len0
  · exact places_full a0 len0 cap0 xs x.1 x.2 w hl.symm hx hu hum h
  · exact places_ok a0 len0 cap0 xs x.1 x.2 w hl.symm hx hu hum (by omega)
end Go.Proofs.Ytmnabijelgpfnaa
