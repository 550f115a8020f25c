import Derived.Test.YtkgkpggfoieioaaGreatDoorRows
import Derived.Test.YtkgkpggfoieioaaGreatDoorWords
import Derived.Deep.Slices
import Derived.Deep.Fields
import Derived.ChangeSame
import Derived.ProofKit
import Derived.OpenShut
namespace Go.Proofs.YtkgkpggfoieioaaGreatDoor
set_option linter.unusedVariables false
open Go.ChangeShapes Go.WideShapes Go.RowKit Go.Deep
section
variable {H : Type} {enc : TypeId × Value → H} {P : Program} {w : World} {held : Bool}
/-- A slice of integers, opened. -/
theorem opI {t e : TypeId} {k : IntKind} {fuel : Nat} {cs : List Value} {x : DataW H × List MemPlace} (ht : P.underlying t = some (.slice e)) (he : P.underlying e = some (.int k)) (hc : P.cellsOf e = 1)
    (h : DataW.trod enc P w 0 (fun _ => true) held fuel t cs = some x) :
    ∃ (A : Option Addr) (n c : Nat) (xs : List Int), cs = [.slice A n c] ∧ xs.length = n ∧ RD w w.heap.size 1 A n (xs.map (.int k)) ∧ (∀ y ∈ xs, (Lit.int k y).wf = true) ∧ (A = none → c = 0) ∧ n ≤ c ∧ c ≤ maxLen := by
  rcases open_ints ht he hc h with ⟨rfl, _⟩ | ⟨a, l, c, zs, rfl, _, hl, hm, hz, _, hcell, hwz⟩
  · exact ⟨none, 0, 0, [], rfl, rfl, RD.nil_, by simp, fun _ => rfl, Nat.le_refl _, by unfold maxLen; omega⟩
  · obtain ⟨xs, h1, h2, h3, _, h5⟩ := isRow_rd (k := k) (w := w) (a := some a) (len := l) (cap := c) (zs := zs) (.inr ⟨a, rfl, hl, hm, by simpa using hz, hcell, hwz⟩)
    exact ⟨some a, l, c, xs, rfl, h1, h2, h3, (fun h => by cases h), h5, hm⟩
/-- A slice of structs of one-cell fields, opened: what each cell holds. -/
theorem opV {t e : TypeId} {fs : Array Field} {fuel : Nat} {cs : List Value} {x : DataW H × List MemPlace} (ht : P.underlying t = some (.slice e)) (he : P.underlying e = some (.struct fs))
    (hone : oneCellFields P fs = true) (hC : P.cellsOf e = fs.size) (hf0 : 0 < fs.size) (h : DataW.trod enc P w 0 (fun _ => true) held fuel t cs = some x) :
    ∃ (A : Option Addr) (n c : Nat) (val : Nat → Nat → Value), cs = [.slice A n c] ∧ (A = none → c = 0) ∧ n ≤ c ∧ c ≤ maxLen ∧
      (∀ i, i < n → ∀ (j : Nat) (f : Field), fs[j]? = some f → ∃ (m : Nat) (y : DataW H × List MemPlace), DataW.trod enc P w 0 (fun _ => true) held m f.type [val i j] = some y) ∧
      RD w w.heap.size fs.size A n ((List.range n).flatMap fun i => (List.range fs.size).map (val i)) := by
  rcases open_slice ht h with ⟨rfl, _⟩ | ⟨a, len, cap, m, n, D, Pl, rfl, hb, hl, hm, hmm, hx, hi⟩
  · exact ⟨none, 0, 0, fun _ _ => .bool false, rfl, (fun _ => rfl), Nat.le_refl _, by unfold maxLen; omega, (fun i hi => by omega), RD.nil_⟩
  · simp only [if_true] at hmm
    subst hmm
    have key : ∀ i, i < m → ∀ j, j < fs.size → ∃ v, w.cell? (a.add (i * fs.size + j)) = some v ∧ ∀ f, fs[j]? = some f → ∃ (n' : Nat) (y : DataW H × List MemPlace), DataW.trod enc P w 0 (fun _ => true) held n' f.type [v] = some y := by
      intro i him j hj
      obtain ⟨cs', hc, ht'⟩ := hi i him
      rw [hC] at hc
      obtain ⟨ys, n', hn', hy, hlen, hyl, hf⟩ := DataW.trod_struct he ht'
      obtain ⟨_, hcl, hat⟩ := World.cells?_some hc
      have hcell := hat j hj
      have hv : cs'[j]? = some (cs'[j]'(by omega)) := List.getElem?_eq_getElem (by omega)
      refine ⟨cs'[j]'(by omega), by rw [← Go.Deep.add_add, hcell, hv], fun f hj' => ?_⟩
      obtain ⟨ho, hk⟩ := hone_of hone j f hj'
      have h1 := hf j f hj'
      rw [ho, hk] at h1
      have hone' : (cs'.drop j).take 1 = [cs'[j]'(by omega)] := by
        rw [List.drop_eq_getElem_cons (by omega)]
        rfl
      rw [hone'] at h1
      have hys : ys[j]? = some (ys[j]'(by omega)) := List.getElem?_eq_getElem (by omega)
      exact ⟨_, _, h1.trans hys⟩
    refine ⟨some a, len, m, fun i j => (w.cell? (a.add (i * fs.size + j))).getD (.bool false), rfl, (fun h => by cases h), hl, hm, fun i hi j f hj => ?_, by rw [flat_len _ fs.size (by intro x; simp)]; simp, fun hn => ?_⟩
    · have hjl : j < fs.size := (Array.getElem?_eq_some_iff.1 hj).1
      obtain ⟨v, hv, hf⟩ := key i (by omega) j hjl
      simp only [hv, Option.getD_some]
      exact hf f hj
    · obtain ⟨b, off, spot⟩ := a
      obtain ⟨v0, h0, _⟩ := key 0 (by omega) 0 hf0
      have hs0 : spot = none := by
        have := World.cell?_spot h0
        simpa [Addr.add] using this
      subst hs0
      refine ⟨b, off, rfl, ?_, fun q hq => ?_⟩
      · rcases Nat.lt_or_ge b w.heap.size with hlt | hge
        · exact hlt
        · simp [Addr.add, World.cell?, Array.getElem?_eq_none hge] at h0
      · have hqi : q / fs.size < len := Nat.div_lt_of_lt_mul (by rw [Nat.mul_comm]; exact hq)
        have hqj : q % fs.size < fs.size := Nat.mod_lt _ hf0
        have hqq : q = q / fs.size * fs.size + q % fs.size := by have := Nat.div_add_mod q fs.size; rw [Nat.mul_comm] at this; omega
        obtain ⟨v, hv, _⟩ := key (q / fs.size) (by omega) (q % fs.size) hqj
        generalize q / fs.size = i at *
        generalize q % fs.size = j at *
        subst hqq
        rw [flat_get _ fs.size (by intro x; simp) _ _ _ hqj, List.getElem?_range hqi]
        simp only [Option.bind_some, List.getElem?_map, List.getElem?_range hqj, Option.map_some]
        rw [← addr_add, hv]; rfl
/-- A struct's field, by its place, offset and type. -/
theorem trod_fld {t : TypeId} {fs : Array Field} {fuel : Nat} {cs : List Value} {x : DataW H × List MemPlace} (ht : P.underlying t = some (.struct fs)) (h : DataW.trod enc P w 0 (fun _ => true) held fuel t cs = some x)
    (i off T k : Nat) (hi : (fs[i]?).map (fun f => (f.offset, f.type)) = some (off, T)) (hk : P.cellsOf T = k) : ∃ (m : Nat) (y : DataW H × List MemPlace), DataW.trod enc P w 0 (fun _ => true) held m T ((cs.drop off).take k) = some y := by
  obtain ⟨xs, n, _, _, _, hxl, hf⟩ := DataW.trod_struct ht h
  cases hfi : fs[i]? with
  | none => rw [hfi] at hi; cases hi
  | some f =>
    rw [hfi] at hi
    simp only [Option.map_some, Option.some.injEq, Prod.mk.injEq] at hi
    obtain ⟨rfl, rfl⟩ := hi
    have hlt : i < fs.size := (Array.getElem?_eq_some_iff.1 hfi).1
    have h1 := hf i f hfi
    rw [hk, List.getElem?_eq_getElem (by omega)] at h1
    exact ⟨n, _, h1⟩
/-- A slice of things of one cell each, opened: what each cell holds. -/
theorem opR {t e : TypeId} {fuel : Nat} {cs : List Value} {x : DataW H × List MemPlace} (ht : P.underlying t = some (.slice e)) (hC : P.cellsOf e = 1)
    (h : DataW.trod enc P w 0 (fun _ => true) held fuel t cs = some x) :
    ∃ (A : Option Addr) (n c : Nat) (val : Nat → Value), cs = [.slice A n c] ∧ (A = none → c = 0) ∧ n ≤ c ∧ c ≤ maxLen ∧
      (∀ i, i < n → ∃ (m : Nat) (y : DataW H × List MemPlace), DataW.trod enc P w 0 (fun _ => true) held m e [val i] = some y) ∧
      RD w w.heap.size 1 A n ((List.range n).map val) := by
  rcases open_slice ht h with ⟨rfl, _⟩ | ⟨a, len, cap, m, n, D, Pl, rfl, hb, hl, hm, hmm, hx, hi⟩
  · exact ⟨none, 0, 0, fun _ => .bool false, rfl, (fun _ => rfl), Nat.le_refl _, by unfold maxLen; omega, (fun i hi => by omega), RD.nil_⟩
  · simp only [if_true] at hmm
    subst hmm
    have key : ∀ i, i < m → ∃ v, w.cell? (a.add i) = some v ∧ ∃ (y : DataW H × List MemPlace), DataW.trod enc P w 0 (fun _ => true) held n e [v] = some y := by
      intro i him
      obtain ⟨cs', hc, ht'⟩ := hi i him
      rw [hC] at hc
      obtain ⟨_, hcl, hat⟩ := World.cells?_some hc
      have hcell := hat 0 (by omega)
      match cs', hcl with
      | [v], _ =>
        refine ⟨v, ?_, _, ht'⟩
        rw [Go.Deep.add_add] at hcell
        simpa using hcell
    refine ⟨some a, len, m, fun i => (w.cell? (a.add i)).getD (.bool false), rfl, (fun h => by cases h), hl, hm, fun i hi => ?_, by simp, fun hn => ?_⟩
    · obtain ⟨v, hv, y, hy⟩ := key i (by omega)
      simp only [hv, Option.getD_some]
      exact ⟨n, y, hy⟩
    · obtain ⟨b, off, spot⟩ := a
      obtain ⟨v0, h0, _⟩ := key 0 (by omega)
      have hs0 : spot = none := by
        have := World.cell?_spot h0
        simpa [Addr.add] using this
      subst hs0
      refine ⟨b, off, rfl, ?_, fun q hq => ?_⟩
      · rcases Nat.lt_or_ge b w.heap.size with hlt | hge
        · exact hlt
        · simp [Addr.add, World.cell?, Array.getElem?_eq_none hge] at h0
      · obtain ⟨v, hv, _⟩ := key q (by omega)
        rw [List.getElem?_map, List.getElem?_range (by omega)]
        simp only [Option.map_some]
        rw [← addr_add, hv]; rfl
/-- Of each index a thing: a list of them. -/
theorem list_of {α : Type} {Q : Nat → α → Prop} : ∀ (n : Nat), (∀ i, i < n → ∃ a, Q i a) → ∃ l : List α, l.length = n ∧ ∀ i a, l[i]? = some a → Q i a
  | 0, _ => ⟨[], rfl, fun i a h => by simp at h⟩
  | n + 1, h => by
    obtain ⟨l, hl, hq⟩ := list_of n (fun i hi => h i (by omega))
    obtain ⟨a, ha⟩ := h n (by omega)
    refine ⟨l ++ [a], by simp [hl], fun i b hb => ?_⟩
    rcases Nat.lt_or_ge i n with hi | hi
    · rw [List.getElem?_append_left (by omega)] at hb
      exact hq i b hb
    · rw [List.getElem?_append_right (by omega)] at hb
      rcases Nat.eq_or_lt_of_le hi with e | e
      · subst e
        rw [hl, Nat.sub_self] at hb
        simp at hb
        subst hb; exact ha
      · rw [List.getElem?_eq_none (by simp; omega)] at hb
        cases hb
end
end Go.Proofs.YtkgkpggfoieioaaGreatDoor
