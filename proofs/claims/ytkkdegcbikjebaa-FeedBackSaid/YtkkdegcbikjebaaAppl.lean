import Derived.Test.YtkkdegcbikjebaaApply
namespace Go.Proofs.Ytkkdegcbikjebaa
set_option linter.unusedVariables false
open Go.RowKit
def ixV (l : List Int) : Int := if ixL l < l.length then (ixL l : Int) else -1
theorem rdI_at {w : World} {B : Nat} {A : Option Addr} {l : List Int} (h : RD w B 1 A l.length (l.map (.int .i64))) (k : Nat) (hk : k < l.length) :
    ∃ b o, A = some ⟨b, o, none⟩ ∧ b < B ∧ w.cell? ⟨b, o + k, none⟩ = some (.int .i64 (at0 l k)) := by
  obtain ⟨b, o, hA, hbl⟩ := h.addr (by omega)
  have hcell := h.at_ hA (j := k) (by omega)
  rw [List.getElem?_map, List.getElem?_eq_getElem hk] at hcell
  refine ⟨b, o, hA, hbl, hcell.trans ?_⟩
  unfold at0
  rw [List.getD_eq_getElem?_getD, List.getElem?_eq_getElem hk]; rfl
set_option maxRecDepth 100000 in
theorem index_any (A : Option Addr) (c B : Nat) (l : List Int) (w : World) (ha : RD w B 1 A l.length (l.map (.int .i64))) (hl : l.length ≤ 1000000000) :
    Calls Try.prog 39 #[.slice A l.length c, .int .i64 (-1)] w fun e w' => e = .returned (.int .i64 (ixV l)) ∧ w = w' := by
  have HA := Lib.hid ha
  clear ha
  go_enter Try.func39, Try.ntmps39
  go_wp2_with fail
  go_loop [5, 8] (fun _ i => ∃ k : Nat, k ≤ l.length ∧ i = .int .i64 k ∧ Hid (∀ j, j < k → at0 l j ≠ -1)) (fun _ i => l.length - (intOf i).toNat)
  case atStart => exact ⟨0, Nat.zero_le _, rfl, Lib.hid (fun j h => absurd h (by omega))⟩
  case round =>
    obtain ⟨k, hk, rfl, hK⟩ := hrel
    by_cases hlt : k < l.length
    · obtain ⟨b, o, hA, hbl, hcell⟩ := rdI_at HA.out k hlt
      subst hA
      have i1 : (k : Int) < (l.length : Int) := by omega
      by_cases hq : at0 l k = -1
      · have hx : ixV l = (k : Int) := by
          have := ixL_eq l k hK.out (.inr ⟨hlt, hq⟩)
          unfold ixV; rw [this, if_pos hlt]
        have d1 : ((-1 : Int) == at0 l k) = true := by simp [hq]
        replace hx := Lib.hid hx
        replace hq := Lib.hid hq
        generalize at0 l k = x at *
        go_wp2_with fail
        go_ret
        exact ⟨by rw [hx.out]; rfl, rfl⟩
      · have d1 : ((-1 : Int) == at0 l k) = false := by simp; omega
        have hn : ∀ j, j < k + 1 → at0 l j ≠ -1 := fun j hj => by
          rcases Nat.lt_or_ge j k with h | h
          · exact hK.out j h
          · obtain rfl : j = k := by omega
            exact hq
        replace hn := Lib.hid hn
        replace hq := Lib.hid hq
        generalize at0 l k = x at *
        go_wp2_with fail
        go_round
        case rel => exact ⟨k + 1, by omega, by go_num, hn⟩
        case measure => simp [intOf]; omega
    · have hx : ixV l = -1 := by
        have := ixL_eq l k hK.out (.inl (by omega))
        unfold ixV; rw [this, if_neg (by omega)]
      replace hx := Lib.hid hx
      go_wp2_with fail
      go_ret
      exact ⟨by rw [hx.out]; rfl, rfl⟩
def IdxP (P : Bool) (w : World) (e : Ending) (w' : World) : Prop := ∃ r : Int, e = .returned (.int .i64 r) ∧ -1 ≤ r ∧ r ≤ 1000000000 ∧ decide (0 ≤ r) = P ∧ w = w'
theorem any_tk (p : Int → Bool) (ls : List Int) (k : Nat) (h : k < ls.length) : (ls.take (k + 1)).any p = ((ls.take k).any p || p (ls.getD k 0)) := by
  rw [List.take_succ_eq_append_getElem h, List.any_append, List.getD_eq_getElem?_getD, List.getElem?_eq_getElem h]; simp
theorem any_ofk (p : Int → Bool) (ls : List Int) (k : Nat) (h : (ls.take k).any p = true) : ls.any p = true := by
  obtain ⟨x, hx, hp⟩ := List.any_eq_true.1 h
  exact List.any_eq_true.2 ⟨x, List.mem_of_mem_take hx, hp⟩
theorem app2_any (x : Int) (w : World) : Calls Try.prog 41 #[.int .i64 x] w fun e w' => e = .returned (.bool (decide (0 ≤ x))) ∧ w = w' := by
  go_enter Try.func41, Try.ntmps41
  go_wp2_with fail
  go_ret
  exact ⟨rfl, rfl⟩
set_option maxRecDepth 100000 in
theorem idxf2_any (A : Option Addr) (c B : Nat) (ls : List Int) (w : World) (ha : RD w B 1 A ls.length (ls.map (.int .i64))) (hl : ls.length ≤ 1000000000) :
    Calls Try.prog 59 #[.slice A ls.length c, .func (.func 41) #[] #[]] w (IdxP (ls.any (fun x => decide (0 ≤ x))) w) := by
  have HA := Lib.hid ha
  clear ha
  go_enter Try.func59, Try.ntmps59
  go_wp2_with fail
  go_loop [5, 8] (fun _ i => ∃ k : Nat, k ≤ ls.length ∧ i = .int .i64 k ∧ Hid ((ls.take k).any (fun x => decide (0 ≤ x)) = false)) (fun _ i => ls.length - (intOf i).toNat)
  case atStart => exact ⟨0, Nat.zero_le _, rfl, Lib.hid (by simp)⟩
  case round =>
    obtain ⟨k, hk, rfl, hK⟩ := hrel
    by_cases hlt : k < ls.length
    · obtain ⟨b, o, hA, hbl, hcell⟩ := rdI_at HA.out k hlt
      have hst := any_tk (fun x => decide (0 ≤ x)) ls k hlt
      rw [hK.out, Bool.false_or] at hst
      subst hA
      unfold at0 at hcell
      generalize ls.getD k 0 = x at *
      have i1 : (k : Int) < (ls.length : Int) := by omega
      cases hb : decide (0 ≤ x) with
      | true =>
        simp only [hb] at hst
        have hall := any_ofk _ _ _ hst
        replace hall := Lib.hid hall
        replace hst := Lib.hid hst
        go_wp2_with (go_at_call 41; refine (app2_any x _).mono ?_; rintro e w' ⟨rfl, rfl⟩)
        go_ret
        exact ⟨k, rfl, by omega, by omega, by rw [hall.out]; simp, rfl⟩
      | false =>
        simp only [hb] at hst
        replace hst := Lib.hid hst
        go_wp2_with (go_at_call 41; refine (app2_any x _).mono ?_; rintro e w' ⟨rfl, rfl⟩)
        go_round
        case rel => exact ⟨k + 1, by omega, by go_num, hst⟩
        case measure => simp [intOf]; omega
    · have hall : ls.any (fun x => decide (0 ≤ x)) = false := by have := hK.out; rwa [List.take_of_length_le (by omega)] at this
      replace hall := Lib.hid hall
      go_wp2_with fail
      go_ret
      exact ⟨-1, rfl, by omega, by omega, by rw [hall.out]; rfl, rfl⟩
theorem ctn2_any (A : Option Addr) (c B : Nat) (ls : List Int) (w : World) (ha : RD w B 1 A ls.length (ls.map (.int .i64))) (hl : ls.length ≤ 1000000000) :
    Calls Try.prog 40 #[.slice A ls.length c, .func (.func 41) #[] #[]] w fun e w' => e = .returned (.bool (ls.any (fun x => decide (0 ≤ x)))) ∧ w = w' := by
  have HA := Lib.hid ha
  clear ha
  go_enter Try.func40, Try.ntmps40
  go_wp2_with fail
  refine (idxf2_any A c B ls w HA.out hl).mono ?_
  rintro e w' ⟨r, rfl, h1, h2, h3, rfl⟩
  replace h3 := Lib.hid h3
  go_wp2_with fail
  go_ret
  exact ⟨by rw [← h3.out]; rfl, rfl⟩
end Go.Proofs.Ytkkdegcbikjebaa
