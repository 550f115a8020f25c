import Derived.Test.YtkgdflecepockaaDoorSortRow
import Derived.Maps.Own
import Derived.Maps.OwnOps
import Derived.Maps.OwnSet
import Derived.DeepKeys4
namespace Go.Proofs.YtkgdflecepockaaDoor
set_option linter.unusedVariables false
open Go.RowKit Go.Maps
/-! Maps keyed by a place: a player and a turn. -/
theorem pl_law : Keyed Tryd.prog 93 := Keyed.of_law (deep_law_laid (by kernel_rfl) (m := 3) (by omega) (of_decide_eq_true (by kernel_rfl)) (by kernel_rfl) (by kernel_rfl))
abbrev plV (p t : Int) : Value := .agg #[.int .i64 p, .int .i64 t]
def I6 (x : Int) : Prop := -9223372036854775808 ≤ x ∧ x ≤ 9223372036854775807
theorem pl_key (p t : Int) (hp : I6 p) (ht : I6 t) : ∃ l, keyOf Tryd.prog 93 (plV p t) = some l := by
  have h1 : (Lit.int .i64 p).wf = true := WalkArith.wf_i64 (by unfold I6 at hp; omega)
  have h2 : (Lit.int .i64 t).wf = true := WalkArith.wf_i64 (by unfold I6 at ht; omega)
  have hu := Tryd.underlying93
  have hi := Tryd.underlying3
  have hk : Tryd.prog.keyType 93 = true := by kernel_rfl
  have hc : Tryd.prog.cellsOf 93 = 2 := by kernel_rfl
  have hc1 : Tryd.prog.cellsOf 3 = 1 := by kernel_rfl
  have hf : (plV p t).formed Tryd.prog 93 = true := by simp [Value.formed, hu, hc]
  have hn : Tryd.prog.types.size = 205 := by kernel_rfl
  obtain ⟨d, hd⟩ : ∃ d, Tryd.prog.types.size + 1 = d + 1 + 1 := ⟨Tryd.prog.types.size - 1, by omega⟩
  refine ⟨.string (keyBytes [.int .i64 p, .int .i64 t]), ?_⟩
  have k1 : ∀ n : Int, (Lit.int .i64 n).wf = true → Tryd.prog.keyLits (d + 1) 3 [.int .i64 n] = some [.int .i64 n] := fun n h => by
    unfold Program.keyLits
    rw [hi]
    simp only [h, and_self, if_true]
  have e : Tryd.prog.keyLits (Tryd.prog.types.size + 1) 93 (plV p t).cells.toList = some [.int .i64 p, .int .i64 t] := by
    rw [hd]
    unfold Program.keyLits
    rw [hu]
    refine (if_pos ⟨hc.symm, by simp⟩).trans ?_
    simp [hc1, k1 p h1, k1 t h2, Value.cells]
  unfold keyOf
  rw [hu]
  simp only [hk, hf, Bool.and_self, if_true, e, Option.map_some]
theorem pl_inj {p t p' t' : Int} {l : Lit} (h : keyOf Tryd.prog 93 (plV p t) = some l) (h' : keyOf Tryd.prog 93 (plV p' t') = some l) : p = p' ∧ t = t' := by
  have := pl_law.inj h h'
  simp only [plV, Value.agg.injEq, Array.mk.injEq, List.cons.injEq, Value.int.injEq, true_and, and_true] at this
  exact this
/-- How an element reads: as itself. -/
def RV (v : Value) : Option (DataW Value × List MemPlace) := some (.held v, [])
/-- A map of what was sent: of at most n entries; M tells what stands where. -/
def MapIs (w : World) (b n : Nat) (M : Int → Int → Option Value) : Prop :=
  ∃ D : DataW Value, w.ownsMap Tryd.prog 93 RV b n D ∧
    ∀ p t l, keyOf Tryd.prog 93 (plV p t) = some l → (M p t = none → has D l = false) ∧ (∀ v, M p t = some v → has D l = true ∧ ∀ z, D.atKey l z = .held v)
theorem zero_orders (w : World) : (zeroValue 55).run Tryd.prog w = .ok (.slice none 0 0) w := by kernel_rfl
section
variable {w w' : World} {b n : Nat} {M : Int → Int → Option Value}
theorem MapIs.made (w : World) : MapIs (w.alloc (.map #[] 0)) w.heap.size 0 (fun _ _ => none) :=
  ⟨.map [], World.ownsMap_made _ _ _ _, fun p t l _ => ⟨fun _ => rfl, fun v h => by cases h⟩⟩
theorem MapIs.lt (h : MapIs w b n M) : b < w.heap.size := by obtain ⟨D, hD, _⟩ := h; exact hD.lt
theorem MapIs.kept {row : Option Nat} (h : MapIs w b n M) (hg : w.grownBy w' row) (hne : some b ≠ row) : MapIs w' b n M := by
  obtain ⟨D, hD, hM⟩ := h
  exact ⟨D, hD.kept hg hne, hM⟩
theorem MapIs.below (h : MapIs w b n M) (hb : Below w.heap.size w w') : MapIs w' b n M := h.kept (row := none) (grownBy_of_below hb) (by simp)
theorem MapIs.drewN (h : MapIs w b n M) (q : Nat) : MapIs (w.drewN q) b n M := h
theorem MapIs.set_ (h : MapIs w b n M) {g i : Nat} (hg : b ≠ g) (u : Value) : MapIs (w.setCell ⟨g, i, none⟩ u) b n M := h.kept (grownBy_set w g i u) (fun e => hg (by injection e))
set_option maxRecDepth 100000 in
theorem MapIs.look (h : MapIs w b n M) {p t : Int} (hp : I6 p) (ht : I6 t) : (Instr.lookup 88 (.map (some b)) (plV p t) false).run Tryd.prog w = .ok ((M p t).getD (.slice none 0 0)) w := by
  obtain ⟨l, hl⟩ := pl_key p t hp ht
  obtain ⟨D, hD, hM⟩ := h
  obtain ⟨v, ps, hrun, hv⟩ := hD.lookup pl_law Tryd.underlying88 (zero_orders w) (zd := .held (.slice none 0 0)) (zp := []) rfl hl
  rw [hrun]
  unfold RV at hv
  simp only [Option.some.injEq, Prod.mk.injEq] at hv
  obtain ⟨m1, m2⟩ := hM p t l hl
  rcases hm : M p t with _ | v'
  · rw [atKey_of_not_has (m1 hm)] at hv
    have := hv.1
    injection this with this
    subst this; rfl
  · rw [(m2 v' hm).2] at hv
    have := hv.1
    injection this with this
    subst this; rfl
set_option maxRecDepth 100000 in
theorem MapIs.lookOk (h : MapIs w b n M) {p t : Int} (hp : I6 p) (ht : I6 t) : (Instr.lookup 88 (.map (some b)) (plV p t) true).run Tryd.prog w = .ok (.tuple #[(M p t).getD (.slice none 0 0), .bool (M p t).isSome]) w := by
  obtain ⟨l, hl⟩ := pl_key p t hp ht
  obtain ⟨D, hD, hM⟩ := h
  obtain ⟨v, ps, hrun, hv⟩ := hD.look_ok pl_law Tryd.underlying88 (zero_orders w) (zd := .held (.slice none 0 0)) (zp := []) rfl hl
  rw [hrun]
  unfold RV at hv
  simp only [Option.some.injEq, Prod.mk.injEq] at hv
  obtain ⟨m1, m2⟩ := hM p t l hl
  rcases hm : M p t with _ | v'
  · rw [atKey_of_not_has (m1 hm)] at hv
    have := hv.1
    injection this with this
    subst this
    rw [m1 hm]; rfl
  · rw [(m2 v' hm).2] at hv
    have := hv.1
    injection this with this
    subst this
    rw [(m2 v hm).1]; rfl
set_option maxRecDepth 100000 in
theorem MapIs.put (h : MapIs w b n M) {p t : Int} (hp : I6 p) (ht : I6 t) (hn : n < maxLen) (v : Value) : ∃ w', (Instr.mapUpdate 88 (.map (some b)) (plV p t) v).run Tryd.prog w = .ok () w' ∧ MapIs w' b (n + 1) (fun p' t' => if p' = p ∧ t' = t then some v else M p' t') ∧ w.grownBy w' (some b) := by
  obtain ⟨l, hl⟩ := pl_key p t hp ht
  obtain ⟨D, hD, hM⟩ := h
  obtain ⟨w', hrun, hD', hg⟩ := hD.update pl_law Tryd.underlying88 hn (val := v) hl rfl
  refine ⟨w', hrun, ⟨_, hD', fun p' t' l' hl' => ?_⟩, hg⟩
  dsimp only
  by_cases e : p' = p ∧ t' = t
  · rw [if_pos e]
    obtain ⟨rfl, rfl⟩ := e
    obtain rfl : l = l' := by rw [hl] at hl'; injection hl'
    refine ⟨fun (h : some v = none) => (nomatch h), fun v' (h : some v = some v') => ?_⟩
    injection h with h
    subst h
    exact ⟨has_put_same hD.isMap (pl_law.key hl) _, fun z => atKey_put_same hD.isMap (pl_law.key hl) _ _⟩
  · rw [if_neg e]
    have hne : l' ≠ l := fun e' => e (pl_inj hl' (by rw [e']; exact hl))
    obtain ⟨m1, m2⟩ := hM p' t' l' hl'
    exact ⟨fun h => by rw [has_put_other hne]; exact m1 h, fun v' h => ⟨by rw [has_put_other hne]; exact (m2 v' h).1, fun z => by rw [atKey_put_other hne]; exact (m2 v' h).2 z⟩⟩
set_option maxRecDepth 100000 in
theorem MapIs.del (h : MapIs w b n M) {p t : Int} (hp : I6 p) (ht : I6 t) (ty : TypeId) : ∃ w', (Builtin.delete_ #[88, 93] ty #[.map (some b), plV p t]).run Tryd.prog w = .ok (.tuple #[]) w' ∧ MapIs w' b n (fun p' t' => if p' = p ∧ t' = t then none else M p' t') ∧ w.grownBy w' (some b) := by
  obtain ⟨l, hl⟩ := pl_key p t hp ht
  obtain ⟨D, hD, hM⟩ := h
  obtain ⟨w', hrun, hD', hg⟩ := hD.drop pl_law Tryd.underlying88 hl ty
  refine ⟨w', hrun, ⟨_, hD', fun p' t' l' hl' => ?_⟩, hg.grown⟩
  dsimp only
  by_cases e : p' = p ∧ t' = t
  · rw [if_pos e]
    obtain ⟨rfl, rfl⟩ := e
    obtain rfl : l = l' := by rw [hl] at hl'; injection hl'
    exact ⟨fun _ => has_del_same, fun v' (h : none = some v') => (nomatch h)⟩
  · rw [if_neg e]
    have hne : l' ≠ l := fun e' => e (pl_inj hl' (by rw [e']; exact hl))
    obtain ⟨m1, m2⟩ := hM p' t' l' hl'
    exact ⟨fun h => by rw [has_del_other hne]; exact m1 h, fun v' h => ⟨by rw [has_del_other hne]; exact (m2 v' h).1, fun z => by rw [atKey_del_other hne]; exact (m2 v' h).2 z⟩⟩
end
end Go.Proofs.YtkgdflecepockaaDoor
