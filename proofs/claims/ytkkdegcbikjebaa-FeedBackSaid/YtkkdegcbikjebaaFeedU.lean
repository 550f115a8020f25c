import Derived.Test.YtkkdegcbikjebaaApp1
import Derived.Test.YtkkdegcbikjebaaPack
import Derived.Test.YtkkdegcbikjebaaPlainL
import Derived.Test.YtkkdegcbikjebaaOpenK
import Derived.Deep.AppendLies
import Derived.Deep.RegionHeld3
namespace Go.Proofs.Ytkkdegcbikjebaa
set_option linter.unusedVariables false
open Go.RowKit
def dfE (xs ys : List Int) : Int := if 6000 < xs.length ∨ 6000 < ys.length then 4 else 0
def dfB (xs ys : List Int) : List Ch := if 6000 < xs.length ∨ 6000 < ys.length then [] else diffL xs ys
theorem RD.nilK (w : World) (B sz : Nat) (A : Option Addr) : RD w B sz A 0 [] := ⟨by simp, fun h => absurd h (by omega)⟩
section
variable (A A' : Option Addr) (c c' : Nat) (xs ys : List Int) (L : List Ch) (w : World)
theorem diff_u (h : RB w w.heap.size A xs) (h' : RB w w.heap.size A' ys) (hx : ∀ x ∈ xs, Byte x) (hy : ∀ x ∈ ys, Byte x) :
    Calls Try.prog 18 #[.slice A xs.length c, .slice A' ys.length c'] w fun e w' => ∃ D d, e = .returned (.tuple #[.slice D (dfB xs ys).length d, erK (dfE xs ys)]) ∧ RC w' w'.heap.size D (dfB xs ys) ∧ Below w.heap.size w w' := by
  by_cases hl : 6000 < xs.length ∨ 6000 < ys.length
  · refine (diff_full A A' xs.length ys.length c c' w hl).mono ?_
    rintro e w' ⟨rfl, rfl⟩
    unfold dfB dfE
    rw [if_pos hl, if_pos hl]
    exact ⟨none, 0, rfl, RD.nilK _ _ _ _, Below.refl _ _⟩
  · refine (diff_any A A' c c' w.heap.size xs ys w (Nat.le_refl _) h h' hx hy (by omega) (by omega)).mono ?_
    rintro e w' ⟨v, he, hown, hb⟩
    obtain ⟨D, d, rfl, _⟩ := own_slice hown
    unfold dfB dfE
    rw [if_neg hl, if_neg hl]
    exact ⟨D, d, he, RD.of_own hown, hb⟩
theorem appB_0 (h : appE xs L ≠ 0) : appB xs L = [] := by unfold appB; rw [if_neg h]
theorem apply_u (h : RB w w.heap.size A xs) (hx : ∀ x ∈ xs, Byte x) (h' : RC w w.heap.size A' L) :
    Calls Try.prog 17 #[.slice A xs.length c, .slice A' L.length c'] w fun e w' => ∃ D d, e = .returned (.tuple #[.slice D (appB xs L).length d, erK (appE xs L)]) ∧ RB w' w'.heap.size D (appB xs L) ∧ Below w.heap.size w w' := by
  refine (apply_any A A' c c' xs L w h hx h').mono ?_
  rintro e w' ⟨hb, ⟨hz, rfl⟩ | ⟨hz, g, hg, rfl, bk⟩⟩
  · rw [appB_0 xs L hz]
    exact ⟨none, 0, rfl, RD.nilK _ _ _ _, hb⟩
  · exact ⟨some ⟨g, 0, none⟩, _, by rw [hz]; rfl, bk.rdY, hb⟩
theorem pkB_0 (h : chkL L ≠ 0) : pkB L = [] := by unfold pkB; rw [if_neg h]
theorem pack_u (h' : RC w w.heap.size A' L) :
    Calls Try.prog 19 #[.slice A' L.length c'] w fun e w' => ∃ D d, e = .returned (.tuple #[.slice D (pkB L).length d, erK (chkL L)]) ∧ RB w' w'.heap.size D (pkB L) ∧ Below w.heap.size w w' := by
  refine (pack_any A' c' L w h').mono ?_
  rintro e w' ⟨hb, ⟨hz, rfl⟩ | ⟨hz, v, rfl, ho⟩⟩
  · rw [pkB_0 L hz]
    exact ⟨none, 0, rfl, RD.nilK _ _ _ _, hb⟩
  · obtain ⟨D, d, rfl, _⟩ := own_slice ho
    exact ⟨D, d, by rw [hz]; rfl, RD.of_own ho, hb⟩
end
theorem byteK {x : Int} (h : (Lit.int .u8 x).wf = true) : Byte x := by have := bounds_u8 h; unfold Byte; omega
theorem dfB_len (xs ys : List Int) : (dfB xs ys).length ≤ 6000 := by
  unfold dfB
  split
  · simp
  · exact diffL_len xs ys (by omega) (by omega)
theorem Below.drawK {B : Nat} {a w : World} (h : Below B a w) : Below B a w.drew := h.drew
theorem Blk.newK (w : World) (t : TypeId) (cs : Array Value) (g : Nat) (h : g = w.heap.size) : Blk (w.alloc (.cells cs t)) g t cs := by subst h; exact Blk.new w t cs
/-- append of one change at a step of a region that draws its order. -/
theorem step_k1 {ops : Array Oper} {o : Oper} {a : Act} {K : Act → World → Prop} {Q : Exit → Act → World → Prop} {E : Prop} {w : World} (hgd : o.guard = none) (s x : Operand)
    (ho : o.op = .call { callee := .builtin .append, args := #[s, x], argTypes := #[46, 46] })
    (w0 : World) (base : Nat) (v : Value) (n : Nat) (xs : List Value) (y0 y1 y2 : Value) (hs : a.eval s = v) (hown : w.ownsRow base 45 3 v n xs) (h0 : Below base w0 w)
    (ad c : Nat) (hx : a.eval x = .slice (some ⟨ad, 0, none⟩) 1 c) (hb : Blk w ad 45 #[y0, y1, y2]) (h1 : ∀ u ∈ [y0, y1, y2], u.oneCell' = true) (hn : n ≤ 100000) (hbase : base ≤ w0.heap.size)
    (h : ∀ v' w', w'.ownsRow base 45 3 v' (n + 1) (xs ++ [y0, y1, y2]) → Below base w0 w' → K (a.put o.dst v') w') :
    if Region.wanted o (yielded ops a.tmps) = true then Oper.wp Try.prog o a w K Q else E := by
  obtain ⟨i0, hi0, hz0, hz1, hz2⟩ := info_parts ch_info
  have hsz := h0.size
  refine step_append_lies w hgd s x 46 ho base 45 i0 _ 3 24 Try.underlying46 hi0 hz0 hz1 hz2 rfl (by decide) v n xs hs hown ⟨ad, 0, none⟩ 1 c [y0, y1, y2] hx rfl (World.news_of_block (cs := #[y0, y1, y2]) hb) h1 (by decide) (by unfold maxLen; omega) (by omega) (by omega) w.heap.size rfl ?_
  intro g cap w' hown' hgrow hat hlt'
  exact h _ w' hown' (h0.grown hgrow (by omega) (fun g hg => (hown.lt g hg).1))
end Go.Proofs.Ytkkdegcbikjebaa
