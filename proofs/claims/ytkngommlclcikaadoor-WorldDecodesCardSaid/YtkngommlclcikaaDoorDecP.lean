import Derived.Test.YtkngommlclcikaaDoorList
import Derived.Test.YtkngommlclcikaaDoorWorld
namespace Go.Proofs.YtkngommlclcikaaDoor
set_option linter.unusedVariables false
open Go.RowKit
theorem own_low {w : World} {base base' : Nat} {e : TypeId} {sz n : Nat} {v : Value} {xs : List Value} (h : w.ownsRow base e sz v n xs) (hb : base' ≤ base) : w.ownsRow base' e sz v n xs := by
  refine ⟨h.1, ?_⟩
  rcases h.2 with h2 | ⟨g, cap, cur, h1, h2, h3⟩
  · exact .inl h2
  · exact .inr ⟨g, cap, cur, h1, by omega, h3⟩
/-- A row that is finished: a value that owns its cells. -/
structure Row where
  e : TypeId
  sz : Nat
  v : Value
  n : Nat
  xs : List Value
/-- The finished rows lie behind block q and ahead of block bu. -/
def Fin_ (w : World) (q bu : Nat) (rows : List Row) : Prop := ∀ r ∈ rows, w.ownsRow (q + 1) r.e r.sz r.v r.n r.xs ∧ ∀ b, r.v.ownBlock = some b → b < bu
theorem Fin_.kept {w w' : World} {q bu : Nat} {rows : List Row} (h : Fin_ w q bu rows) {row : Option Nat} (hg : w.grownBy w' row) (hr : ∀ b, row = some b → b ≤ q ∨ bu ≤ b) : Fin_ w' q bu rows := fun r hm => by
  obtain ⟨h1, h2⟩ := h r hm
  refine ⟨h1.kept hg ?_, h2⟩
  cases hv : r.v.ownBlock with
  | none => exact .inl rfl
  | some b =>
    refine .inr fun e => ?_
    have h3 := h2 b hv
    have h4 := (h1.lt b hv).1
    rcases hr b e.symm with h5 | h5 <;> omega
theorem Fin_.mono {w : World} {q bu bu' : Nat} {rows : List Row} (h : Fin_ w q bu rows) (hb : bu ≤ bu') : Fin_ w q bu' rows := fun r hm => ⟨(h r hm).1, fun b hv => by have := (h r hm).2 b hv; omega⟩
theorem Fin_.nil (w : World) (q bu : Nat) : Fin_ w q bu [] := fun r hm => by cases hm
theorem Fin_.cons {w : World} {q bu : Nat} {rows : List Row} (h : Fin_ w q bu rows) (r : Row) (ho : w.ownsRow (q + 1) r.e r.sz r.v r.n r.xs) (hb : ∀ b, r.v.ownBlock = some b → b < bu) : Fin_ w q bu (r :: rows) := fun r' hm => by
  rcases List.mem_cons.1 hm with rfl | hm
  · exact ⟨ho, hb⟩
  · exact h r' hm
/-- While a world is read: the reader at block g, what is read at block q, the empty world at r0. -/
structure DWT (T : TypeId) (w0 : World) (r0 g q : Nat) (z0 : Array Value) (A : Option Addr) (c : Nat) (bs : List Int) (st : Option Nat) (bu : Nat) (rows : List Row) (cs : Array Value) (w : World) : Prop where
  zer : Blk w r0 29 z0
  rok : ROkT T w g A c r0 bs st
  bel : Below r0 w0 w
  wb : Blk w q 29 cs
  fin : Fin_ w q bu rows
  lt1 : r0 < g
  lt2 : g < q
  lt3 : q < bu
  lt4 : bu ≤ w.heap.size
/-- .. while the program's own reader reads it. -/
abbrev DW := DWT 129
section
variable {T : TypeId} {w0 w w' : World} {r0 g q c bu : Nat} {z0 cs : Array Value} {A : Option Addr} {bs : List Int} {st : Option Nat} {rows : List Row}
theorem DWT.alt (h : DWT T w0 r0 g q z0 A c bs st bu rows cs w) : ∀ b o, A = some ⟨b, o, none⟩ → 0 < bs.length → b < r0 := fun b o e hp => by
  obtain ⟨b', o', e', hlt, _⟩ := h.rok.rd.2 hp
  rw [e] at e'
  injection e' with e'
  injection e' with e1 e2
  omega
theorem DWT.grown (h : DWT T w0 r0 g q z0 A c bs st bu rows cs w) {row : Option Nat} (hg : w.grownBy w' row) (hr : ∀ b, row = some b → bu ≤ b) : DWT T w0 r0 g q z0 A c bs st bu rows cs w' := by
  have h1 := h.lt1; have h2 := h.lt2; have h3 := h.lt3; have h4 := h.lt4
  exact ⟨h.zer.grown hg (fun e => by have := hr _ e.symm; omega), h.rok.grown hg (fun e => by have := hr _ e; omega) (fun b o e hp e' => by have := h.alt b o e hp; have := hr _ e'; omega),
    h.bel.grown hg (by omega) (fun b e => by have := hr _ e; omega), h.wb.grown hg (fun e => by have := hr _ e.symm; omega), h.fin.kept hg (fun b e => .inr (hr b e)), h1, h2, h3, Nat.le_trans h4 hg.size⟩
theorem DWT.drewN (h : DWT T w0 r0 g q z0 A c bs st bu rows cs w) (n : Nat) : DWT T w0 r0 g q z0 A c bs st bu rows cs (w.drewN n) := h.grown (row := none) (grown_drewN (World.grownBy.refl w none) n) (by simp)
theorem DWT.alloc (h : DWT T w0 r0 g q z0 A c bs st bu rows cs w) (o : Obj) : DWT T w0 r0 g q z0 A c bs st bu rows cs (w.alloc o) := h.grown (row := none) (World.grownBy_alloc w o none) (by simp)
theorem DWT.reader (h : DWT T w0 r0 g q z0 A c bs st bu rows cs w) {st' : Option Nat} (hg : w.grownBy w' (some g)) (hr : ROkT T w' g A c r0 bs st') : DWT T w0 r0 g q z0 A c bs st' bu rows cs w' := by
  have h1 := h.lt1; have h2 := h.lt2; have h3 := h.lt3; have h4 := h.lt4
  exact ⟨h.zer.grown hg (fun e => by injection e; omega), hr, h.bel.grown hg (by omega) (fun b e => by injection e; omega), h.wb.grown hg (fun e => by injection e; omega), h.fin.kept hg (fun b e => by injection e; omega), h1, h2, h3, Nat.le_trans h4 hg.size⟩
theorem DWT.set (h : DWT T w0 r0 g q z0 A c bs st bu rows cs w) (i : Nat) (u : Value) : DWT T w0 r0 g q z0 A c bs st bu rows (cs.setIfInBounds i u) (w.setCell ⟨q, i, none⟩ u) := by
  have h1 := h.lt1; have h2 := h.lt2; have h3 := h.lt3; have h4 := h.lt4
  have hg := grownBy_set w q i u
  exact ⟨h.zer.grown hg (fun e => by injection e; omega), h.rok.grown hg (fun e => by injection e; omega) (fun b o e hp e' => by have := h.alt b o e hp; injection e'; omega),
    h.bel.grown hg (by omega) (fun b e => by injection e; omega), h.wb.set_ i u, h.fin.kept hg (fun b e => by injection e; omega), h1, h2, h3, Nat.le_trans h4 hg.size⟩
theorem DWT.row (h : DWT T w0 r0 g q z0 A c bs st bu rows cs w) (r : Row) (ho : w.ownsRow bu r.e r.sz r.v r.n r.xs) : DWT T w0 r0 g q z0 A c bs st w.heap.size (r :: rows) cs w := by
  have h3 := h.lt3; have h4 := h.lt4
  exact ⟨h.zer, h.rok, h.bel, h.wb, (h.fin.mono h4).cons r (own_low ho (by omega)) (fun b hv => (ho.lt b hv).2), h.lt1, h.lt2, by omega, Nat.le_refl _⟩
theorem DWT.up (h : DWT T w0 r0 g q z0 A c bs st bu rows cs w) : DWT T w0 r0 g q z0 A c bs st w.heap.size rows cs w := by
  have h3 := h.lt3; have h4 := h.lt4
  exact ⟨h.zer, h.rok, h.bel, h.wb, h.fin.mono h4, h.lt1, h.lt2, by omega, Nat.le_refl _⟩
/-- What is being gathered behind bu stays while the reader reads, and while the world is written. -/
theorem DWT.own_num (h : DWT T w0 r0 g q z0 A c bs st bu rows cs w) {e : TypeId} {sz n : Nat} {v : Value} {xs : List Value} (ho : w.ownsRow bu e sz v n xs) (hg : w.grownBy w' (some g)) : w'.ownsRow bu e sz v n xs :=
  ho.kept hg (by
    have h2 := h.lt2; have h3 := h.lt3
    cases hv : v.ownBlock with
    | none => exact .inl rfl
    | some b => exact .inr (fun e => by injection e with e; have := (ho.lt b hv).1; omega))
theorem DWT.own_set (h : DWT T w0 r0 g q z0 A c bs st bu rows cs w) {e : TypeId} {sz n : Nat} {v : Value} {xs : List Value} (ho : w.ownsRow bu e sz v n xs) (i : Nat) (u : Value) : (w.setCell ⟨q, i, none⟩ u).ownsRow bu e sz v n xs :=
  ho.kept (grownBy_set w q i u) (by
    have h2 := h.lt2; have h3 := h.lt3
    cases hv : v.ownBlock with
    | none => exact .inl rfl
    | some b => exact .inr (fun e => by injection e with e; have := (ho.lt b hv).1; omega))
theorem DWT.num (h : DWT 129 w0 r0 g q z0 A c bs st bu rows cs w) (hbs : ∀ x ∈ bs, Byte x) (hl : bs.length ≤ 9223372036854775807) :
    Calls Tryd.prog 71 #[.pointer (some ⟨g, 0, none⟩)] w fun e w' => e = .returned (.int .i64 (rdS bs st).1) ∧ DW w0 r0 g q z0 A c bs (rdS bs st).2 bu rows cs w' ∧ w.grownBy w' (some g) := by
  refine (rnum_any st w h.rok hbs hl).mono ?_
  rintro e w' ⟨rfl, ho, hg⟩
  exact ⟨rfl, h.reader hg ho, hg⟩
theorem DWT.many (h : DWT 129 w0 r0 g q z0 A c bs st bu rows cs w) (hbs : ∀ x ∈ bs, Byte x) (hl : bs.length ≤ 9223372036854775807) :
    Calls Tryd.prog 73 #[.pointer (some ⟨g, 0, none⟩), .int .i64 200] w fun e w' => e = .returned (.int .i64 (rdM bs st 200).1) ∧ DW w0 r0 g q z0 A c bs (rdM bs st 200).2 bu rows cs w' ∧ w.grownBy w' (some g) := by
  refine (many_any st 200 w h.rok hbs hl).mono ?_
  rintro e w' ⟨rfl, ho, hg⟩
  exact ⟨rfl, h.reader hg ho, hg⟩
theorem DWT.list (h : DWT 129 w0 r0 g q z0 A c bs st bu rows cs w) (hbs : ∀ x ∈ bs, Byte x) (hl : bs.length ≤ 9223372036854775807) :
    Calls Tryd.prog 72 #[.pointer (some ⟨g, 0, none⟩)] w fun e w' => ∃ Al cl, e = .returned (.slice Al (rdLs bs st).1.length cl) ∧ DW w0 r0 g q z0 A c bs (rdLs bs st).2 w'.heap.size (⟨3, 1, .slice Al (rdLs bs st).1.length cl, (rdLs bs st).1.length, (rdLs bs st).1.map (.int .i64)⟩ :: rows) cs w' := by
  have h1 := h.lt1; have h2 := h.lt2; have h3 := h.lt3; have h4 := h.lt4
  refine (list_any st w h.rok hbs hl (by omega)).mono ?_
  rintro e w' ⟨v, rfl, hown, ho, hg⟩
  obtain ⟨Al, cl, rfl, _⟩ := own_slice hown
  exact ⟨Al, cl, rfl, (h.reader hg ho).row ⟨3, 1, .slice Al (rdLs bs st).1.length cl, (rdLs bs st).1.length, (rdLs bs st).1.map (.int .i64)⟩ (own_low hown (by omega))⟩
end
end Go.Proofs.YtkngommlclcikaaDoor
