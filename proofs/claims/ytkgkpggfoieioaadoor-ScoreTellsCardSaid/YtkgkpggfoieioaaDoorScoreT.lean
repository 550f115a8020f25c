import Derived.Test.YtkgkpggfoieioaaDoorScoreP
import Derived.Test.YtkgkpggfoieioaaDoorRefWo
import Derived.Test.YtkgkpggfoieioaaDoorPlainR
import Derived.Test.YtkgkpggfoieioaaDoorWinner
import Derived.Test.YtkgkpggfoieioaaDoorInts
import Derived.Test.YtkgkpggfoieioaaDoorTold
import Derived.Deep.RegionHeld3
namespace Go.Proofs.YtkgkpggfoieioaaDoor
set_option linter.unusedVariables false
open Go.RowKit
/-! What ScoreTells' callees give, each in one sentence. -/
def ptW (L : List GK) (x : GW) : List Int := if worldE L x = 0 then ptL (worthN L x.units x.units.length) x.gold x.gold.length else []
theorem ptW_ok {L : List GK} {x : GW} (h : worldE L x = 0) : ptW L x = ptL (worthN L x.units x.units.length) x.gold x.gold.length := if_pos h
theorem ptW_no {L : List GK} {x : GW} (h : worldE L x ≠ 0) : ptW L x = [] := if_neg h
theorem points_any (sK : SL) (L : List GK) (s : SW) (x : GW) (w : World) (hK : KS w w.heap.size sK L) (hW : WOk w s x) :
    Calls Tryd.prog 36 #[.slice sK.A L.length sK.c, wA s x] w fun e w' => ∃ U c, e = .returned (.tuple #[.slice U (ptW L x).length c, errV (worldE L x)]) ∧ RI w' w'.heap.size U (ptW L x) ∧ Below w.heap.size w w' := by
  by_cases h : worldE L x = 0
  · refine (points_ok sK L s x w hK hW h).mono ?_
    rintro e w' ⟨v, rfl, hown, hb⟩
    rw [← ptW_ok h] at hown
    have hl : (ptW L x).length = x.gold.length := by rw [ptW_ok h, ptL_len]
    rw [← hl] at hown
    obtain ⟨U, c, rfl, _⟩ := own_slice hown
    exact ⟨U, c, by rw [h]; rfl, RD.of_own hown, hb⟩
  · refine (points_no sK L s x w hK hW h).mono ?_
    rintro e w' ⟨rfl, hb⟩
    rw [ptW_no h]
    exact ⟨none, 0, by unfold errV; rw [if_neg h]; rfl, RD.nil_, hb⟩
def rkW (z : List Int) : List Int := if 200 < z.length then [] else rankL z
def rkE (z : List Int) : Int := if 200 < z.length then 4 else 0
theorem rank_un (A : Option Addr) (c B : Nat) (z : List Int) (w : World) (hB : B ≤ w.heap.size) (h : RI w B A z) :
    Calls Tryd.prog 39 #[.slice A z.length c] w fun e w' => ∃ U c', e = .returned (.tuple #[.slice U (rkW z).length c', errV (rkE z)]) ∧ RI w' w'.heap.size U (rkW z) ∧ Below w.heap.size w w' := by
  unfold rkW rkE
  by_cases h2 : 200 < z.length
  · rw [if_pos h2, if_pos h2]
    refine (rank_full A z.length c w h2).mono ?_
    rintro e w' ⟨rfl, rfl⟩
    exact ⟨none, 0, rfl, RD.nil_, Below.refl _ _⟩
  · rw [if_neg h2, if_neg h2]
    refine (rank_any A z.length c B z w rfl hB h (by omega)).mono ?_
    rintro e w' ⟨v, rfl, hown, hb⟩
    have hl : (rankL z).length = z.length := by simp [rankL]
    rw [← hl] at hown
    obtain ⟨U, c', rfl, _⟩ := own_slice hown
    exact ⟨U, c', rfl, RD.of_own hown, hb⟩
theorem winner_any (s : SW) (x : GW) (w : World) (hW : WOk w s x) :
    Calls Tryd.prog 38 #[wA s x] w fun e w' => e = .returned (.tuple #[.int .i64 (winner x.units).1, .bool (winner x.units).2]) ∧ Below w.heap.size w w' := by
  by_cases h : x.units.length = 0
  · exact winner_zero s x w h
  · exact winner_pos s x w.heap.size w (Nat.le_refl _) hW.ru (by omega) hW.ulen
/-- Whose all units are, as far as k. -/
def wonP (us : List GU) (k : Nat) : Bool := decide (0 < us.length) && (us.take k).all fun u => u.player == (gu us 0).player
theorem wonP_next {us : List GU} {k : Nat} (hk : k < us.length) : wonP us (k + 1) = (wonP us k && ((gu us k).player == (gu us 0).player)) := by
  unfold wonP
  have hg : us[k] = gu us k := by have := gu_get hk; rw [List.getElem?_eq_getElem hk] at this; injection this
  rw [List.take_succ_eq_append_getElem hk, List.all_append, hg]
  simp [Bool.and_assoc]
theorem wonP_end (us : List GU) : (winner us).2 = wonP us us.length ∧ (winner us).1 = if wonP us us.length = true then (gu us 0).player else 0 := by
  by_cases h : us.length = 0
  · have e : us = [] := List.eq_nil_of_length_eq_zero h
    subst e
    exact ⟨rfl, rfl⟩
  · have h0 : us[0]? = some (gu us 0) := gu_get (by omega)
    unfold wonP
    rw [List.take_of_length_le (Nat.le_refl _), decide_eq_true (show 0 < us.length by omega), Bool.true_and]
    cases hb : us.all (fun u => u.player == (gu us 0).player) with
    | true =>
      rw [winner_yes us _ h0 (fun u hu => by have := List.all_eq_true.1 hb u hu; simpa using this)]
      exact ⟨rfl, rfl⟩
    | false =>
      rw [List.all_eq_false] at hb
      obtain ⟨u, hu, hne⟩ := hb
      obtain ⟨i, hi, rfl⟩ := gu_of hu
      rw [winner_no us _ _ i h0 (gu_get hi) (by simpa using hne)]
      exact ⟨rfl, rfl⟩
theorem Blk.newT (w : World) (t : TypeId) (cs : Array Value) (g : Nat) (h : g = w.heap.size) : Blk (w.alloc (.cells cs t)) g t cs := by subst h; exact Blk.new w t cs
/-- append of one number at a step of a region that draws its order. -/
theorem step_i1 {ops : Array Oper} {o : Oper} {a : Act} {K : Act → World → Prop} {Q : Exit → Act → World → Prop} {E : Prop} {w : World} (hgd : o.guard = none) (s x : Operand)
    (ho : o.op = .call { callee := .builtin .append, args := #[s, x], argTypes := #[34, 34] })
    (w0 : World) (base : Nat) (v : Value) (n : Nat) (xs : List Value) (y0 : Value) (hs : a.eval s = v) (hown : w.ownsRow base 3 1 v n xs) (h0 : Below base w0 w)
    (ad c : Nat) (hx : a.eval x = .slice (some ⟨ad, 0, none⟩) 1 c) (hb : Blk w ad 3 #[y0]) (h1 : ∀ u ∈ [y0], u.oneCell' = true) (hn : n ≤ 100000) (hbase : base ≤ w0.heap.size)
    (h : ∀ v' w', w'.ownsRow base 3 1 v' (n + 1) (xs ++ [y0]) → Below base w0 w' → K (a.put o.dst v') w') :
    if Region.wanted o (yielded ops a.tmps) = true then Oper.wp Tryd.prog o a w K Q else E := by
  obtain ⟨i0, hi0, hz0, hz1, hz2⟩ := info_parts int_info
  have hsz := h0.size
  refine step_append_lies w hgd s x 34 ho base 3 i0 _ 1 8 Tryd.underlying34 hi0 hz0 hz1 hz2 rfl (by decide) v n xs hs hown ⟨ad, 0, none⟩ 1 c [y0] hx rfl (World.news_of_block (cs := #[y0]) hb) h1 (by decide) (by unfold maxLen; omega) (by omega) (by omega) w.heap.size rfl ?_
  intro g cap w' hown' hgrow hat hlt'
  exact h _ w' hown' (h0.grown hgrow (by omega) (fun g hg => (hown.lt g hg).1))
end Go.Proofs.YtkgkpggfoieioaaDoor
