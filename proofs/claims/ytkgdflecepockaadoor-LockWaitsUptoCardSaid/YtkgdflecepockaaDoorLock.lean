import Derived.Test.YtkgdflecepockaaDoorPlaceM
import Derived.Test.YtkgdflecepockaaDoorOrdC
import Derived.BigQuiet
import Derived.Deep.QuietTactic
import Derived.Carry
import Derived.RegionTactic
namespace Go.Proofs.YtkgdflecepockaaDoor
set_option linter.unusedVariables false
open Go.RowKit
/-- Where a stored list lies. -/
def Kept (w : World) (A : Option Addr) : Prop := ∀ b o s, A = some ⟨b, o, s⟩ → ∃ cs m, w.heap[b]? = some (Obj.cells cs 66 m)
/-- What was sent, as it lies in the map. -/
def SentIs (w : World) (S : Int → Int → Option (List Od)) (V : Int → Int → Option Value) : Prop :=
  ∀ p t, (S p t = none → V p t = none) ∧ ∀ L, S p t = some L → ∃ A c, V p t = some (.slice A L.length c) ∧ RO w w.heap.size A L ∧ (A = none → c = 0) ∧ Kept w A
/-- A lock as it lies in memory. -/
structure LK (B : Nat) (w : World) (G O M n : Nat) (d now : Int) (outs : List Bool) (S : Int → Int → Option (List Od)) : Prop where
  blk : Blk w G 90 #[.int .i64 (outs.length : Int), .int .i64 d, .int .i64 now, .slice (some ⟨O, 0, none⟩) outs.length outs.length, .map (some M)]
  ob : Blk w O 4 (outs.map Value.bool).toArray
  mp : ∃ V, MapIs w M n V ∧ SentIs w S V
  np : 1 ≤ outs.length ∧ outs.length ≤ 4
  dl : 0 ≤ d ∧ d ≤ 20
  nw : 0 ≤ now ∧ now ≤ 1000000
  low : B ≤ G ∧ B ≤ O ∧ B ≤ M
/-- What a lock's method does: to the lock's blocks, and to new ones. -/
structure LEff (w w' : World) (G O M : Nat) : Prop where
  os : w'.os = w.os
  tape : w'.tape = w.tape
  output : w'.output = w.output
  size : w.heap.size ≤ w'.heap.size
  block : ∀ k, k < w.heap.size → k ≠ G → k ≠ O → k ≠ M → w'.heap[k]? = w.heap[k]?
section
variable {w w' w'' : World} {G O M B n : Nat} {d now : Int} {outs : List Bool} {S : Int → Int → Option (List Od)}
theorem LEff.refl (w : World) (G O M : Nat) : LEff w w G O M := ⟨rfl, rfl, rfl, Nat.le_refl _, fun _ _ _ _ _ => rfl⟩
theorem LEff.of_below (h : Below w.heap.size w w') : LEff w w' G O M := ⟨h.os, h.tape, h.output, h.size, fun k hk _ _ _ => h.block k hk⟩
theorem LEff.trans (h : LEff w w' G O M) (k : LEff w' w'' G O M) : LEff w w'' G O M :=
  ⟨k.os.trans h.os, k.tape.trans h.tape, k.output.trans h.output, Nat.le_trans h.size k.size, fun x hx h1 h2 h3 => (k.block x (Nat.lt_of_lt_of_le hx h.size) h1 h2 h3).trans (h.block x hx h1 h2 h3)⟩
theorem LEff.below (h : LEff w w' G O M) (hB : B ≤ w.heap.size) (hl : B ≤ G ∧ B ≤ O ∧ B ≤ M) : Below B w w' :=
  ⟨h.os, h.tape, h.output, h.size, fun k hk => h.block k (Nat.lt_of_lt_of_le hk hB) (by omega) (by omega) (by omega)⟩
theorem LEff.drewN (h : LEff w w' G O M) (q : Nat) : LEff w (w'.drewN q) G O M := ⟨h.os, h.tape, h.output, h.size, h.block⟩
theorem LEff.set_ (h : LEff w w' G O M) (g i : Nat) (u : Value) (hg : g = G ∨ g = O) : LEff w (w'.setCell ⟨g, i, none⟩ u) G O M :=
  ⟨h.os, h.tape, h.output, by simpa using h.size, fun k hk h1 h2 h3 => (Below.heap_setCell w' _ u k (fun e => by rcases hg with rfl | rfl <;> exact absurd e (by assumption))).trans (h.block k hk h1 h2 h3)⟩
theorem LEff.map (h : LEff w w' G O M) (hg : w'.grownBy w'' (some M)) : LEff w w'' G O M :=
  ⟨hg.os.trans h.os, hg.tape.trans h.tape, hg.output.trans h.output, Nat.le_trans h.size hg.size, fun k hk h1 h2 h3 => (hg.block k (Nat.lt_of_lt_of_le hk h.size) (fun e => h3 (by injection e))).trans (h.block k hk h1 h2 h3)⟩
theorem Kept.mono {A : Option Addr} (h : Kept w A) (hk : ∀ (b : Nat) (cs : Array Value) (m : Nat × Nat), w.heap[b]? = some (Obj.cells cs 66 m) → w'.heap[b]? = w.heap[b]?) : Kept w' A := fun b o s e => by
  obtain ⟨cs, m, hc⟩ := h b o s e
  exact ⟨cs, m, (hk b cs m hc).trans hc⟩
theorem SentIs.mono {V : Int → Int → Option Value} (h : SentIs w S V) (hk : ∀ (b : Nat) (cs : Array Value) (m : Nat × Nat), w.heap[b]? = some (Obj.cells cs 66 m) → w'.heap[b]? = w.heap[b]?) (hs : w.heap.size ≤ w'.heap.size) : SentIs w' S V := fun p t => by
  obtain ⟨h1, h2⟩ := h p t
  refine ⟨h1, fun L hL => ?_⟩
  obtain ⟨A, c, e, hr, hn, hkp⟩ := h2 L hL
  refine ⟨A, c, e, ⟨hr.1, fun hp => ?_⟩, hn, Kept.mono hkp hk⟩
  obtain ⟨b, off, ea, hb, hc⟩ := hr.2 hp
  refine ⟨b, off, ea, by omega, fun j hj => ?_⟩
  obtain ⟨cs, m, hcs⟩ := hkp b off none ea
  rw [← hc j hj]
  exact World.cell?_of_block (a := ⟨b, off + j, none⟩) (hk b cs m hcs)
theorem MapIs.ne {V : Int → Int → Option Value} (h : MapIs w M n V) {g : Nat} {t : TypeId} {cs : Array Value} {m : Nat × Nat} (hb : w.heap[g]? = some (Obj.cells cs t m)) : g ≠ M := by
  rintro rfl
  obtain ⟨D, ⟨es, clock, hm, _⟩, _⟩ := h
  rw [hb] at hm
  cases hm
theorem LK.apart (h : LK B w G O M n d now outs S) {b : Nat} {cs : Array Value} {m : Nat × Nat} (hb : w.heap[b]? = some (Obj.cells cs 66 m)) : b ≠ G ∧ b ≠ O ∧ b ≠ M := by
  obtain ⟨V, hm, _⟩ := h.mp
  refine ⟨?_, ?_, hm.ne hb⟩
  · rintro rfl
    have := h.blk; unfold Blk at this; rw [hb] at this; injection this with this; injection this with _ ht; exact absurd ht (by decide)
  · rintro rfl
    have := h.ob; unfold Blk at this; rw [hb] at this; injection this with this; injection this with _ ht; exact absurd ht (by decide)
theorem LK.GO (h : LK B w G O M n d now outs S) : G ≠ O ∧ G ≠ M ∧ O ≠ M := by
  obtain ⟨V, hm, _⟩ := h.mp
  exact ⟨h.blk.ne_ h.ob (by decide), hm.ne h.blk, hm.ne h.ob⟩
/-- Other blocks change: the lock stays. -/
theorem LK.far (h : LK B w G O M n d now outs S) (hs : w.heap.size ≤ w'.heap.size) (hG : w'.heap[G]? = w.heap[G]?) (hO : w'.heap[O]? = w.heap[O]?) (hM : w'.heap[M]? = w.heap[M]?)
    (hk : ∀ (b : Nat) (cs : Array Value) (m : Nat × Nat), w.heap[b]? = some (Obj.cells cs 66 m) → w'.heap[b]? = w.heap[b]?) : LK B w' G O M n d now outs S := by
  obtain ⟨V, ⟨D, ⟨es, clock, hm, F, hsz, hD⟩, hV⟩, hS⟩ := h.mp
  exact ⟨hG.trans h.blk, hO.trans h.ob, ⟨V, ⟨D, ⟨es, clock, hM.trans hm, F, hsz, hD⟩, hV⟩, SentIs.mono hS hk hs⟩, h.np, h.dl, h.nw, h.low⟩
theorem LK.mlt (h : LK B w G O M n d now outs S) : M < w.heap.size := by obtain ⟨V, hm, _⟩ := h.mp; exact hm.lt
theorem LK.below (h : LK B w G O M n d now outs S) (hb : Below w.heap.size w w') : LK B w' G O M n d now outs S :=
  h.far hb.size (hb.block _ h.blk.lt) (hb.block _ h.ob.lt) (hb.block _ h.mlt) (fun b cs m hc => hb.block b (by
    rcases Nat.lt_or_ge b w.heap.size with h | h
    · exact h
    · rw [Array.getElem?_eq_none h] at hc; cases hc))
theorem LK.drewN (h : LK B w G O M n d now outs S) (q : Nat) : LK B (w.drewN q) G O M n d now outs S := h.below ⟨rfl, rfl, rfl, Nat.le_refl _, fun _ _ => rfl⟩
theorem LK.size (h : LK B w G O M n d now outs S) : B ≤ w.heap.size := by have := h.blk.lt; have := h.low; omega
theorem LK.cells (h : LK B w G O M n d now outs S) : w.cell? ⟨G, 0, none⟩ = some (.int .i64 (outs.length : Int)) ∧ w.cell? ⟨G, 1, none⟩ = some (.int .i64 d) ∧ w.cell? ⟨G, 2, none⟩ = some (.int .i64 now) ∧ w.cell? ⟨G, 3, none⟩ = some (.slice (some ⟨O, 0, none⟩) outs.length outs.length) ∧ w.cell? ⟨G, 4, none⟩ = some (.map (some M)) :=
  ⟨h.blk.cell 0, h.blk.cell 1, h.blk.cell 2, h.blk.cell 3, h.blk.cell 4⟩
theorem LK.ocell (h : LK B w G O M n d now outs S) {k : Nat} (hk : k < outs.length) : w.cell? ⟨O, k, none⟩ = some (.bool (outs.getD k false)) := by
  rw [h.ob.cell k]
  simp [List.getD_eq_getElem?_getD, List.getElem?_eq_getElem hk]
/-- Another map. -/
theorem LK.withMap (h : LK B w G O M n d now outs S) {n' : Nat} {V' : Int → Int → Option Value} {S' : Int → Int → Option (List Od)} (hg : w.grownBy w' (some M)) (hm : MapIs w' M n' V') (hS : SentIs w' S' V') : LK B w' G O M n' d now outs S' := by
  have hGO := h.GO
  exact ⟨h.blk.grown hg (fun e => hGO.2.1 (by injection e)), h.ob.grown hg (fun e => hGO.2.2 (by injection e)), ⟨V', hm, hS⟩, h.np, h.dl, h.nw, h.low⟩
theorem LK.keepO (h : LK B w G O M n d now outs S) (hg : w.grownBy w' (some M)) : ∀ (b : Nat) (cs : Array Value) (m : Nat × Nat), w.heap[b]? = some (Obj.cells cs 66 m) → w'.heap[b]? = w.heap[b]? := fun b cs m hc =>
  hg.block b (by
    rcases Nat.lt_or_ge b w.heap.size with h | h
    · exact h
    · rw [Array.getElem?_eq_none h] at hc; cases hc) (fun e => (h.apart hc).2.2 (by injection e))
/-- One more is out. -/
theorem LK.out (h : LK B w G O M n d now outs S) (k : Nat) : LK B (w.setCell ⟨O, k, none⟩ (.bool true)) G O M n d now (outs.set k true) S := by
  have hGO := h.GO
  obtain ⟨V, hm, hS⟩ := h.mp
  refine ⟨?_, ?_, ⟨V, hm.set_ (fun e => hGO.2.2 e.symm) _, SentIs.mono hS (fun b cs m hc => Below.heap_setCell w _ _ b (h.apart hc).2.1) (by simp)⟩, by simpa using h.np, h.dl, h.nw, h.low⟩
  · rw [List.length_set]; exact h.blk.far (p := ⟨O, k, none⟩) hGO.1 _
  · have := h.ob.set_ k (.bool true)
    have e : (outs.map Value.bool).toArray.setIfInBounds k (.bool true) = ((outs.set k true).map Value.bool).toArray := by simp [List.map_set]
    rw [← e]; exact this
/-- The next turn. -/
theorem LK.next (h : LK B w G O M n d now outs S) (hn : now + 1 ≤ 1000000) : LK B (w.setCell ⟨G, 2, none⟩ (.int .i64 (now + 1))) G O M n d (now + 1) outs S := by
  have hGO := h.GO
  obtain ⟨V, hm, hS⟩ := h.mp
  refine ⟨h.blk.set_ 2 _, h.ob.far (p := ⟨G, 2, none⟩) (fun e => hGO.1 e.symm) _, ⟨V, hm.set_ (fun e => hGO.2.1 e.symm) _, SentIs.mono hS (fun b cs m hc => Below.heap_setCell w _ _ b (h.apart hc).1) (by simp)⟩, h.np, h.dl, ⟨by have := h.nw; omega, hn⟩, h.low⟩
end
end Go.Proofs.YtkgdflecepockaaDoor
