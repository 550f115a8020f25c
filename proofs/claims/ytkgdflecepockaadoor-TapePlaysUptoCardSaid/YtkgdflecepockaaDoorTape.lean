import Derived.Test.YtkgdflecepockaaDoorCatFrames
import Derived.Laws.NewBlocks
namespace Go.Proofs.YtkgdflecepockaaDoor
set_option linter.unusedVariables false
open Go.RowKit
/-- What a tape's method does: to the tape's block, to its row, and to new ones. -/
structure TEff (w w' : World) (g : Nat) (r : Option Nat) : Prop where
  os : w'.os = w.os
  tape : w'.tape = w.tape
  output : w'.output = w.output
  size : w.heap.size ≤ w'.heap.size
  block : ∀ k, k < w.heap.size → k ≠ g → some k ≠ r → w'.heap[k]? = w.heap[k]?
section
variable {w w' w'' : World} {g B : Nat} {r r' : Option Nat}
theorem TEff.refl (w : World) (g : Nat) (r : Option Nat) : TEff w w g r := ⟨rfl, rfl, rfl, Nat.le_refl _, fun _ _ _ _ => rfl⟩
theorem TEff.trans (h : TEff w w' g r) (k : TEff w' w'' g r') (hr : ∀ x, x < w.heap.size → some x ≠ r → some x ≠ r') : TEff w w'' g r :=
  ⟨k.os.trans h.os, k.tape.trans h.tape, k.output.trans h.output, Nat.le_trans h.size k.size, fun x hx h1 h2 => (k.block x (Nat.lt_of_lt_of_le hx h.size) h1 (hr x hx h2)).trans (h.block x hx h1 h2)⟩
theorem TEff.set (h : TEff w w' g r) (i : Nat) (u : Value) : TEff w (w'.setCell ⟨g, i, none⟩ u) g r :=
  ⟨h.os, h.tape, h.output, by simpa using h.size, fun k hk h1 h2 => (Below.heap_setCell w' _ u k (fun e => h1 e)).trans (h.block k hk h1 h2)⟩
theorem TEff.alloc (h : TEff w w' g r) (o : Obj) : TEff w (w'.alloc o) g r :=
  ⟨h.os, h.tape, h.output, by have := h.size; simp; omega, fun k hk h1 h2 => (Below.heap_alloc w' o k (Nat.lt_of_lt_of_le hk h.size)).trans (h.block k hk h1 h2)⟩
theorem TEff.drewN (h : TEff w w' g r) (n : Nat) : TEff w (w'.drewN n) g r := ⟨h.os, h.tape, h.output, h.size, h.block⟩
theorem TEff.drew (h : TEff w w' g r) : TEff w w'.drew g r := ⟨h.os, h.tape, h.output, h.size, h.block⟩
theorem TEff.grown (h : TEff w w' g r) (k : w'.grownBy w'' r) : TEff w w'' g r :=
  ⟨k.os.trans h.os, k.tape.trans h.tape, k.output.trans h.output, Nat.le_trans h.size k.size, fun x hx h1 h2 => (k.block x (Nat.lt_of_lt_of_le hx h.size) h2).trans (h.block x hx h1 h2)⟩
theorem TEff.below (h : TEff w w' g r) (hg : B ≤ g) (hr : ∀ x, r = some x → B ≤ x) (hB : B ≤ w.heap.size) : Below B w w' :=
  ⟨h.os, h.tape, h.output, h.size, fun k hk => h.block k (Nat.lt_of_lt_of_le hk hB) (by omega) (fun e => by have := hr k e.symm; omega)⟩
theorem TEff.widen (h : TEff w w' g none) (r : Option Nat) : TEff w w' g r := ⟨h.os, h.tape, h.output, h.size, fun k hk h1 _ => h.block k hk h1 (by simp)⟩
end
theorem RD.keepAt {w w' : World} {B sz n : Nat} {A : Option Addr} {xs : List Value} (h : RD w B sz A n xs) (hk : ∀ b o o', A = some ⟨b, o, none⟩ → b < w.heap.size → w'.cell? ⟨b, o', none⟩ = w.cell? ⟨b, o', none⟩) : RD w' B sz A n xs :=
  ⟨h.1, fun hn => by
    obtain ⟨b, off, e, hb, hc⟩ := h.2 hn
    refine ⟨b, off, e, hb, fun j hj => ?_⟩
    have hcj := hc j hj
    rcases Nat.lt_or_ge b w.heap.size with hlt | hge
    · rw [hk b off _ e hlt]; exact hcj
    · have hn2 : w.cell? ⟨b, off + j, none⟩ = none := by simp [World.cell?, Array.getElem?_eq_none hge]
      rw [hn2] at hcj
      rw [List.getElem?_eq_getElem (by rw [h.1]; exact hj)] at hcj
      cases hcj⟩
/-- A shorter beginning of a row of the call's own. -/
theorem own_cut {w : World} {base : Nat} {e : TypeId} {sz n m c : Nat} {A : Option Addr} {xs : List Value} (h : w.ownsRow base e sz (.slice A n c) n xs) (hm : m ≤ n) : w.ownsRow base e sz (.slice A m c) m (xs.take (m * sz)) := by
  have hmul : m * sz ≤ n * sz := Nat.mul_le_mul_right sz hm
  refine ⟨by rw [List.length_take, h.1]; omega, ?_⟩
  rcases h.2 with ⟨hv, h0⟩ | ⟨g, cap, cur, hv, h1, h2, h3, h4, h5, h6⟩
  · injection hv with h1 h2 h3
    subst h1; subst h3
    have : m = 0 := by omega
    subst this
    exact .inl ⟨rfl, rfl⟩
  · injection hv with e1 e2 e3
    subst e1; subst e3
    refine .inr ⟨g, c, cur, rfl, h1, h2, by omega, h4, h5, ?_⟩
    rw [← h6, List.take_take]; congr 1; omega
theorem own_room {w : World} {base : Nat} {e : TypeId} {sz n c : Nat} {A : Option Addr} {xs : List Value} (h : w.ownsRow base e sz (.slice A n c) n xs) : n ≤ c ∧ (A = none → c = 0) := by
  rcases h.2 with ⟨hv, h0⟩ | ⟨g, cap, cur, hv, h1, h2, h3, h4, h5, h6⟩
  · injection hv with h1 h2 h3
    exact ⟨by omega, fun _ => h3⟩
  · injection hv with e1 e2 e3
    subst e1; subst e3
    exact ⟨h3, fun h => by cases h⟩
/-- A tape as it lies in memory. -/
structure TOk (w : World) (B g : Nat) (A : Option Addr) (c : Nat) (xs : List Int) (safe steps stop : Int) : Prop where
  blk : Blk w g 79 #[.slice A xs.length c, .int .i64 safe, .int .i64 steps, .int .i64 stop]
  own : w.ownsRow B 5 1 (.slice A xs.length c) xs.length (xs.map (.int .u8))
  low : B ≤ g
def TRow (A : Option Addr) (n c : Nat) : Option Nat := (Value.slice A n c).ownBlock
section
variable {w w' : World} {g B c : Nat} {A : Option Addr} {xs : List Int} {safe steps stop : Int}
theorem TOk.size (h : TOk w B g A c xs safe steps stop) : B ≤ w.heap.size := by have := h.blk.lt; have := h.low; omega
theorem TOk.cell (h : TOk w B g A c xs safe steps stop) : w.cell? ⟨g, 0, none⟩ = some (.slice A xs.length c) ∧ w.cell? ⟨g, 1, none⟩ = some (.int .i64 safe) ∧ w.cell? ⟨g, 2, none⟩ = some (.int .i64 steps) ∧ w.cell? ⟨g, 3, none⟩ = some (.int .i64 stop) :=
  ⟨h.blk.cell 0, h.blk.cell 1, h.blk.cell 2, h.blk.cell 3⟩
theorem TOk.far (h : TOk w B g A c xs safe steps stop) : (Value.slice A xs.length c).ownBlock ≠ some g := by
  rcases h.own.2 with ⟨hv, _⟩ | ⟨g', cap, cur, hv, _, hg, _⟩
  · rw [hv]; simp [Value.ownBlock]
  · rw [hv]
    intro e
    simp only [Value.ownBlock, Option.some.injEq] at e
    subst e
    have hb := h.blk
    unfold Blk at hb
    rw [hb] at hg
    injection hg with hg
    injection hg with _ ht
    exact absurd ht (by decide)
theorem TOk.below (h : TOk w B g A c xs safe steps stop) (hb : Below w.heap.size w w') : TOk w' B g A c xs safe steps stop :=
  ⟨h.blk.below hb h.blk.lt, own_below h.own hb, h.low⟩
theorem TOk.set1 (h : TOk w B g A c xs safe steps stop) (u : Int) : TOk (w.setCell ⟨g, 1, none⟩ (.int .i64 u)) B g A c xs u steps stop :=
  ⟨h.blk.set_ 1 _, h.own.kept (grownBy_set w g 1 _) (.inr h.far), h.low⟩
theorem TOk.set2 (h : TOk w B g A c xs safe steps stop) (u : Int) : TOk (w.setCell ⟨g, 2, none⟩ (.int .i64 u)) B g A c xs safe u stop :=
  ⟨h.blk.set_ 2 _, h.own.kept (grownBy_set w g 2 _) (.inr h.far), h.low⟩
theorem TOk.set3 (h : TOk w B g A c xs safe steps stop) (u : Int) : TOk (w.setCell ⟨g, 3, none⟩ (.int .i64 u)) B g A c xs safe steps u :=
  ⟨h.blk.set_ 3 _, h.own.kept (grownBy_set w g 3 _) (.inr h.far), h.low⟩
theorem TOk.drewN (h : TOk w B g A c xs safe steps stop) (n : Nat) : TOk (w.drewN n) B g A c xs safe steps stop :=
  ⟨h.blk, h.own, h.low⟩
theorem TOk.drew (h : TOk w B g A c xs safe steps stop) : TOk w.drew B g A c xs safe steps stop := ⟨h.blk, h.own, h.low⟩
/-- Its bytes cut. -/
theorem TOk.cut (h : TOk w B g A c xs safe steps stop) (m : Nat) (hm : m ≤ xs.length) : TOk (w.setCell ⟨g, 0, none⟩ (.slice A m c)) B g A c (xs.take m) safe steps stop := by
  have hl : (xs.take m).length = m := by rw [List.length_take]; omega
  have ho := own_cut h.own hm
  rw [Nat.mul_one, ← List.map_take] at ho
  refine ⟨by rw [hl]; exact h.blk.set_ 0 _, ?_, h.low⟩
  rw [hl]
  refine ho.kept (grownBy_set w g 0 _) (.inr ?_)
  have := h.far
  cases A with
  | none => simp [Value.ownBlock]
  | some a => simpa [Value.ownBlock] using this
end
end Go.Proofs.YtkgdflecepockaaDoor
