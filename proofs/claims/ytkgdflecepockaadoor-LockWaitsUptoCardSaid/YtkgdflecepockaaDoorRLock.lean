import Derived.Test.YtkgdflecepockaaDoorLockB
import Derived.Test.YtkgdflecepockaaDoorLockSend
import Derived.Test.YtkgdflecepockaaDoorRefLastW
namespace Go.Proofs.YtkgdflecepockaaDoor
set_option linter.unusedVariables false
open Go.RowKit
/-! The reference's lock in memory. -/
structure SE where
  p : Int
  t : Int
  A : Option Addr
  c : Nat
  L : List Od
def sC (e : SE) : List Value := [.int .i64 e.p, .int .i64 e.t, .slice e.A e.L.length e.c]
theorem sC_len (e : SE) : (sC e).length = 3 := rfl
theorem sC_one (e : SE) : ∀ v ∈ sC e, v.oneCell' = true := by
  intro v hv
  simp only [sC, List.mem_cons, List.not_mem_nil, or_false] at hv
  rcases hv with rfl | rfl | rfl <;> rfl
def se (E : List SE) (i : Nat) : SE := E.getD i ⟨0, 0, none, 0, []⟩
theorem se_get {E : List SE} {i : Nat} (h : i < E.length) : E[i]? = some (se E i) := by unfold se; rw [List.getD_eq_getElem?_getD, List.getElem?_eq_getElem h]; rfl
theorem se_mem {E : List SE} {i : Nat} (h : i < E.length) : se E i ∈ E := List.mem_of_getElem? (se_get h)
def hitS (p t : Int) (e : SE) : Bool := (e.p == p) && (e.t == t)
/-- What was sent first for a player and a turn. -/
def lookE (E : List SE) (p t : Int) : Option (List Od) := (E.find? (hitS p t)).map (·.L)
def hasE (E : List SE) (p t : Int) : Bool := E.any (hitS p t)
theorem hasE_look (E : List SE) (p t : Int) : hasE E p t = (lookE E p t).isSome := by
  unfold hasE lookE
  rw [Option.isSome_map, Bool.eq_iff_iff]
  simp [List.find?_isSome]
theorem lookE_app (E : List SE) (e : SE) (p t : Int) (h : hasE E e.p e.t = false) : lookE (E ++ [e]) p t = putS (lookE E) e.p e.t e.L p t := by
  unfold lookE putS
  rw [List.find?_append]
  by_cases h1 : p = e.p ∧ t = e.t
  · obtain ⟨rfl, rfl⟩ := h1
    rw [if_pos ⟨rfl, rfl⟩]
    have h2 : E.find? (hitS e.p e.t) = none := by
      rw [List.find?_eq_none]
      intro x hx hh
      unfold hasE at h
      rw [List.any_eq_false] at h
      exact h x hx hh
    rw [h2]
    simp [hitS]
  · rw [if_neg h1]
    have h2 : hitS p t e = false := by
      unfold hitS
      by_cases q1 : e.p = p
      · by_cases q2 : e.t = t
        · exact absurd ⟨q1.symm, q2.symm⟩ h1
        · simp [q2]
      · simp [q1]
    simp [h2]
/-- Of the first i: what stands there for a player and a turn. -/
def catE (E : List SE) (p t : Int) (i : Nat) : List Od := (E.take i).flatMap fun e => if hitS p t e = true then e.L else []
theorem catE_s (E : List SE) (p t : Int) (i : Nat) (h : i < E.length) : catE E p t (i + 1) = catE E p t i ++ if hitS p t (se E i) = true then (se E i).L else [] := by
  unfold catE
  rw [List.take_succ_eq_append_getElem h, List.flatMap_append]
  have : E[i] = se E i := by unfold se; rw [List.getD_eq_getElem?_getD, List.getElem?_eq_getElem h]; rfl
  rw [this]; simp
theorem catE_none (E : List SE) (p t : Int) (h : ∀ e ∈ E, hitS p t e = false) : (E.flatMap fun e => if hitS p t e = true then e.L else []) = [] := by
  rw [List.flatMap_eq_nil_iff]
  intro e he
  rw [h e he]; rfl
/-- None is there twice. -/
def OnceE (E : List SE) : Prop := E.Pairwise fun a b => ¬(a.p = b.p ∧ a.t = b.t)
theorem catE_all (E : List SE) (p t : Int) (h : OnceE E) : catE E p t E.length = (lookE E p t).getD [] := by
  unfold catE
  rw [List.take_length]
  induction E with
  | nil => rfl
  | cons e E ih =>
    obtain ⟨h1, h2⟩ := List.pairwise_cons.1 h
    rw [List.flatMap_cons]
    unfold lookE
    rw [List.find?_cons]
    by_cases hh : hitS p t e = true
    · rw [hh]
      have hn : ∀ x ∈ E, hitS p t x = false := fun x hx => by
        have hne := h1 x hx
        unfold hitS at hh ⊢
        rw [Bool.and_eq_true, beq_iff_eq, beq_iff_eq] at hh
        obtain ⟨q1, q2⟩ := hh
        by_cases r1 : x.p = p
        · by_cases r2 : x.t = t
          · exact absurd ⟨q1.trans r1.symm, q2.trans r2.symm⟩ hne
          · simp [r2]
        · simp [r1]
      rw [catE_none E p t hn]; simp
    · have hf : hitS p t e = false := by cases hx : hitS p t e with
        | true => exact absurd hx hh
        | false => rfl
      rw [hf]
      exact ih h2
theorem catE_len (E : List SE) (p t : Int) (h : ∀ e ∈ E, e.L.length ≤ 60) : ∀ i, i ≤ E.length → (catE E p t i).length ≤ 60 * i
  | 0, _ => by simp [catE]
  | i + 1, hi => by
    have h1 := catE_len E p t h i (by omega)
    have h2 := h _ (se_mem (E := E) (i := i) (by omega))
    rw [catE_s E p t i (by omega), List.length_append]
    split
    · omega
    · simp; omega
/-- The reference's lock. -/
structure RL (B : Nat) (w : World) (g : Nat) (d now : Int) (outs : List Bool) (S : Int → Int → Option (List Od)) (E : List SE) : Prop where
  row : ∃ A c, Blk w g 63 #[.int .i64 (outs.length : Int), .int .i64 d, .int .i64 now, .bool (outs.getD 0 false), .bool (outs.getD 1 false), .bool (outs.getD 2 false), .bool (outs.getD 3 false), .slice A E.length c] ∧ w.ownsRow B 101 3 (.slice A E.length c) E.length (E.flatMap sC)
  ent : ∀ e ∈ E, RO w w.heap.size e.A e.L ∧ (e.A = none → e.c = 0) ∧ Kept w e.A ∧ e.L.length ≤ 60
  once : OnceE E
  tie : ∀ p t, now ≤ t → S p t = lookE E p t
  np : 1 ≤ outs.length ∧ outs.length ≤ 4
  dl : 0 ≤ d ∧ d ≤ 20
  nw : 0 ≤ now ∧ now ≤ 1000000
  few : E.length ≤ 1000
  low : B ≤ g
/-- What a reference's method does: to blocks of its own two types, and to new ones. -/
structure TE (B : Nat) (w w' : World) : Prop where
  bel : Below B w w'
  keep : ∀ k, k < w.heap.size → (∀ cs m, w.heap[k]? ≠ some (Obj.cells cs 63 m)) → (∀ cs m, w.heap[k]? ≠ some (Obj.cells cs 101 m)) → w'.heap[k]? = w.heap[k]?
section
variable {w w' w'' : World} {B g : Nat} {d now : Int} {outs : List Bool} {S : Int → Int → Option (List Od)} {E : List SE}
theorem heap_lt {w : World} {k : Nat} {o : Obj} (h : w.heap[k]? = some o) : k < w.heap.size := by
  rcases Nat.lt_or_ge k w.heap.size with h1 | h1
  · exact h1
  · rw [Array.getElem?_eq_none h1] at h; cases h
theorem TE.refl (B : Nat) (w : World) : TE B w w := ⟨Below.refl _ _, fun _ _ _ _ => rfl⟩
theorem TE.of_below (h : Below w.heap.size w w') (hB : B ≤ w.heap.size) : TE B w w' := ⟨h.mono hB, fun k hk _ _ => h.block k hk⟩
theorem TE.trans (h : TE B w w') (h' : TE B w' w'') : TE B w w'' := ⟨h.bel.trans h'.bel, fun k hk h1 h2 => by
  have e := h.keep k hk h1 h2
  exact (h'.keep k (Nat.lt_of_lt_of_le hk h.bel.size) (fun cs m => by rw [e]; exact h1 cs m) (fun cs m => by rw [e]; exact h2 cs m)).trans e⟩
/-- Blocks of other types stay. -/
theorem TE.cells (h : TE B w w') {k : Nat} {cs : Array Value} {t : TypeId} {m : Nat × Nat} (hc : w.heap[k]? = some (Obj.cells cs t m)) (h1 : t ≠ 63) (h2 : t ≠ 101) : w'.heap[k]? = w.heap[k]? :=
  h.keep k (heap_lt hc) (fun cs' m' e => by rw [hc] at e; injection e with e; injection e with _ e _; exact h1 e) (fun cs' m' e => by rw [hc] at e; injection e with e; injection e with _ e _; exact h2 e)
theorem TE.blk (h : TE B w w') {k : Nat} {cs : Array Value} {t : TypeId} (hc : Blk w k t cs) (h1 : t ≠ 63) (h2 : t ≠ 101) : Blk w' k t cs := (h.cells hc h1 h2).trans hc
theorem Kept.te {A : Option Addr} (h : Kept w A) (he : TE B w w') : Kept w' A := Kept.mono h fun b cs m hc => he.cells hc (by decide) (by decide)
theorem RO.kept {A : Option Addr} {L : List Od} (h : RO w w.heap.size A L) (hk : Kept w A) (hs : w.heap.size ≤ w'.heap.size) (hkp : ∀ (b : Nat) (cs : Array Value) (m : Nat × Nat), w.heap[b]? = some (Obj.cells cs 66 m) → w'.heap[b]? = w.heap[b]?) : RO w' w'.heap.size A L :=
  ⟨h.1, fun hp => by
    obtain ⟨b, off, ea, hb, hc⟩ := h.2 hp
    refine ⟨b, off, ea, by omega, fun j hj => ?_⟩
    obtain ⟨cs, m, hcs⟩ := hk b off none ea
    rw [← hc j hj]
    exact World.cell?_of_block (a := ⟨b, off + j, none⟩) (hkp b cs m hcs)⟩
/-- Other things change: it stays. -/
theorem RL.far (h : RL B w g d now outs S E) (hs : w.heap.size ≤ w'.heap.size) (hk : ∀ (b : Nat) (cs : Array Value) (t : TypeId) (m : Nat × Nat), (t = 63 ∨ t = 101 ∨ t = 66) → w.heap[b]? = some (Obj.cells cs t m) → w'.heap[b]? = w.heap[b]?) : RL B w' g d now outs S E := by
  obtain ⟨A, c, hb, ho⟩ := h.row
  refine ⟨⟨A, c, (hk g _ _ _ (.inl rfl) hb).trans hb, ho.1, ?_⟩, fun e he => ?_, h.once, h.tie, h.np, h.dl, h.nw, h.few, h.low⟩
  · rcases ho.2 with hn | ⟨r, cap, cur, e, k1, k2, k3⟩
    · exact .inl hn
    · exact .inr ⟨r, cap, cur, e, k1, (hk r _ _ _ (.inr (.inl rfl)) k2).trans k2, k3⟩
  · obtain ⟨h1, h2, h3, h4⟩ := h.ent e he
    have hk3 : ∀ (b : Nat) (cs : Array Value) (m : Nat × Nat), w.heap[b]? = some (Obj.cells cs 66 m) → w'.heap[b]? = w.heap[b]? := fun b cs m hc => hk b cs _ m (.inr (.inr rfl)) hc
    exact ⟨h1.kept h3 hs hk3, h2, Kept.mono h3 hk3, h4⟩
theorem RL.below (h : RL B w g d now outs S E) (hb : Below w.heap.size w w') : RL B w' g d now outs S E := h.far hb.size fun b cs t m _ hc => hb.block b (heap_lt hc)
theorem RL.drewN (h : RL B w g d now outs S E) (q : Nat) : RL B (w.drewN q) g d now outs S E := h.below ⟨rfl, rfl, rfl, Nat.le_refl _, fun _ _ => rfl⟩
theorem RL.lt (h : RL B w g d now outs S E) : g < w.heap.size := by obtain ⟨A, c, hb, _⟩ := h.row; exact hb.lt
theorem RL.size (h : RL B w g d now outs S E) : B ≤ w.heap.size := by have := h.lt; have := h.low; omega
/-- The program's lock does something. -/
theorem RL.eff {B' G O M n : Nat} {d' now' : Int} {outs' : List Bool} {S' : Int → Int → Option (List Od)} (h : RL B w g d now outs S E) (hL : LK B' w G O M n d' now' outs' S') (he : LEff w w' G O M) : RL B w' g d now outs S E := by
  obtain ⟨V, hm, _⟩ := hL.mp
  refine h.far he.size fun b cs t m ht hc => he.block b (heap_lt hc) ?_ ?_ (hm.ne hc)
  · rintro rfl
    have hk := hL.blk; unfold Blk at hk; rw [hc] at hk; injection hk with hk; injection hk with _ hk _
    rcases ht with rfl | rfl | rfl <;> exact absurd hk (by decide)
  · rintro rfl
    have hk := hL.ob; unfold Blk at hk; rw [hc] at hk; injection hk with hk; injection hk with _ hk _
    rcases ht with rfl | rfl | rfl <;> exact absurd hk (by decide)
/-- The reference does something: the program's lock stays. -/
theorem LK.te {B' G O M n : Nat} {d' now' : Int} {outs' : List Bool} {S' : Int → Int → Option (List Od)} (hL : LK B' w G O M n d' now' outs' S') (he : TE B w w') : LK B' w' G O M n d' now' outs' S' := by
  have hmm : ∀ k es cl, w.heap[k]? = some (Obj.map es cl) → w'.heap[k]? = w.heap[k]? := fun k es cl hc => he.keep k (heap_lt hc) (fun cs m e => by rw [hc] at e; cases e) (fun cs m e => by rw [hc] at e; cases e)
  obtain ⟨V, ⟨D, ⟨es, clock, hm, _⟩, _⟩, _⟩ := hL.mp
  exact hL.far he.bel.size (he.cells hL.blk (by decide) (by decide)) (he.cells hL.ob (by decide) (by decide)) (hmm M _ _ hm) (fun b cs m hc => he.cells hc (by decide) (by decide))
end
end Go.Proofs.YtkgdflecepockaaDoor
