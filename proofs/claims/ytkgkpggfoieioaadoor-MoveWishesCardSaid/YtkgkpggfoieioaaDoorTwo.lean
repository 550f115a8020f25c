import Derived.Test.YtkgkpggfoieioaaDoorMrgc
import Derived.Test.YtkgkpggfoieioaaDoorRows
import Derived.Deep.RegionHeld3
import Derived.Deep.DrawnRows
import Derived.Deep.AppendLies
namespace Go.Proofs.YtkgkpggfoieioaaDoor
set_option linter.unusedVariables false
open Go.RowKit
/-! Two rows of integers, one beside the other, and what is appended to either in a region that draws its order. -/
structure St2 (w : World) (base : Nat) (v1 : Value) (n1 : Nat) (x1 : List Value) (v2 : Value) (n2 : Nat) (x2 : List Value) : Prop where
  o1 : w.ownsRow base 3 1 v1 n1 x1
  o2 : w.ownsRow base 3 1 v2 n2 x2
  ne : ∀ g, v1.ownBlock = some g → v2.ownBlock ≠ some g
theorem own_block_lt {w : World} {base : Nat} {e : TypeId} {sz n : Nat} {v : Value} {xs : List Value} (h : w.ownsRow base e sz v n xs) : ∀ g, v.ownBlock = some g → base ≤ g ∧ g < w.heap.size := fun g hg => by
  rcases h.2 with ⟨rfl, _⟩ | ⟨g', cap, cur, rfl, hb, hh, _⟩
  · simp [Value.ownBlock] at hg
  · simp only [Value.ownBlock, Option.some.injEq] at hg
    subst hg
    refine ⟨hb, ?_⟩
    rcases Nat.lt_or_ge g' w.heap.size with hlt | hge
    · exact hlt
    · rw [Array.getElem?_eq_none hge] at hh; cases hh
section
variable {w w' : World} {base n1 n2 : Nat} {v1 v2 : Value} {x1 x2 : List Value}
theorem St2.swap (h : St2 w base v1 n1 x1 v2 n2 x2) : St2 w base v2 n2 x2 v1 n1 x1 := ⟨h.o2, h.o1, fun g h1 h2 => h.ne g h2 h1⟩
theorem St2.alloc (h : St2 w base v1 n1 x1 v2 n2 x2) (o : Obj) : St2 (w.alloc o) base v1 n1 x1 v2 n2 x2 := ⟨h.o1.alloc _, h.o2.alloc _, h.ne⟩
theorem St2.drew (h : St2 w base v1 n1 x1 v2 n2 x2) : St2 w.drew base v1 n1 x1 v2 n2 x2 := ⟨h.o1, h.o2, h.ne⟩
theorem own_far {e : TypeId} {sz n : Nat} {v : Value} {xs : List Value} (h : w.ownsRow base e sz v n xs) {g : Nat} (hg : g < base) : v.ownBlock = none ∨ v.ownBlock ≠ some g := .inr fun e => by have := (own_block_lt h g e).1; omega
theorem St2.set_ (h : St2 w base v1 n1 x1 v2 n2 x2) (g i : Nat) (u : Value) (hg : g < base) : St2 (w.setCell ⟨g, i, none⟩ u) base v1 n1 x1 v2 n2 x2 :=
  ⟨h.o1.kept (grownBy_set w g i u) (own_far h.o1 hg), h.o2.kept (grownBy_set w g i u) (own_far h.o2 hg), h.ne⟩
theorem St2.put1 (h : St2 w base v1 n1 x1 v2 n2 x2) {g cap : Nat} {m : Nat} {ys : List Value} (hown : w'.ownsRow base 3 1 (.slice (some ⟨g, 0, none⟩) m cap) m ys) (hgrow : w.grownBy w' v1.ownBlock) (hat : v1.ownBlock = some g ∨ g = w.heap.size) :
    St2 w' base (.slice (some ⟨g, 0, none⟩) m cap) m ys v2 n2 x2 :=
  ⟨hown, h.o2.kept hgrow (by
    cases hv : v2.ownBlock with
    | none => exact .inl rfl
    | some b => exact .inr fun e => h.ne b e.symm hv), fun b hb => by
    simp only [Value.ownBlock, Option.some.injEq] at hb
    subst hb
    rcases hat with hat | hat
    · exact h.ne g hat
    · intro e
      have := (own_block_lt h.o2 g e).2
      omega⟩
end
theorem int_info : (Tryd.prog.info? 3).map (fun i => (i.zero, i.size, i.bytes)) = some (some (.int .i64 0), 1, 8) := by kernel_rfl
/-- What an append to the first row leaves, since a world w0. -/
structure Put1 (w0 w w' : World) (base : Nat) (v1 : Value) (n1 : Nat) (x1 : List Value) (y : Int) (v2 : Value) (n2 : Nat) (x2 : List Value) (g cap : Nat) : Prop where
  st : St2 w' base (.slice (some ⟨g, 0, none⟩) (n1 + 1) cap) (n1 + 1) (x1 ++ [.int .i64 y]) v2 n2 x2
  bel : Below base w0 w'
  blk : ∀ b t cs, w0.heap.size ≤ b → Blk w b t cs → Blk w' b t cs
  size : w.heap.size ≤ w'.heap.size
theorem Blk.new' (w : World) (t : TypeId) (cs : Array Value) (g : Nat) (h : g = w.heap.size) : Blk (w.alloc (.cells cs t)) g t cs := by subst h; exact Blk.new w t cs
theorem Below.draw1 {B : Nat} {a w : World} (h : Below B a w) : Below B a w.drew := bdrewN h 1
theorem step_put1 {ops : Array Oper} {o : Oper} {a : Act} {K : Act → World → Prop} {Q : Exit → Act → World → Prop} {E : Prop} {w : World} (hgd : o.guard = none) (s x : Operand)
    (ho : o.op = .call { callee := .builtin .append, args := #[s, x], argTypes := #[34, 34] })
    (w0 : World) (base : Nat) (v1 : Value) (n1 : Nat) (x1 : List Value) (v2 : Value) (n2 : Nat) (x2 : List Value) (y : Int) (hs : a.eval s = v1) (h2 : St2 w base v1 n1 x1 v2 n2 x2) (h0 : Below base w0 w) (hlt : ∀ g, v1.ownBlock = some g → g < w0.heap.size)
    (ad c : Nat) (hx : a.eval x = .slice (some ⟨ad, 0, none⟩) 1 c) (hb : Blk w ad 3 #[.int .i64 y]) (hn : n1 ≤ 100000) (hbase : base ≤ w0.heap.size)
    (h : ∀ g cap w', Put1 w0 w w' base v1 n1 x1 y v2 n2 x2 g cap → K (a.put o.dst (.slice (some ⟨g, 0, none⟩) (n1 + 1) cap)) w') :
    if Region.wanted o (yielded ops a.tmps) = true then Oper.wp Tryd.prog o a w K Q else E := by
  obtain ⟨i0, hi0, hz0, hz1, hz2⟩ := info_parts int_info
  have hsz := h0.size
  refine step_append_lies w hgd s x 34 ho base 3 i0 _ 1 8 Tryd.underlying34 hi0 hz0 hz1 hz2 rfl (by decide) v1 n1 x1 hs h2.o1 ⟨ad, 0, none⟩ 1 c [.int .i64 y] hx rfl (World.news_of_block (cs := #[.int .i64 y]) hb) (by simp [Value.oneCell']) (by decide) (by unfold maxLen; omega) (by omega) (by omega) w.heap.size rfl ?_
  intro g cap w' hown hgrow hat hlt'
  refine h g cap w' ⟨h2.put1 hown hgrow hat, ?_, ?_, hgrow.size⟩
  · exact h0.grown hgrow (by omega) (fun g hg => (own_block_lt h2.o1 g hg).1)
  · intro b t cs hbb hbk
    refine hbk.grown hgrow fun e => ?_
    have := hlt b e.symm
    omega
end Go.Proofs.YtkgkpggfoieioaaDoor
