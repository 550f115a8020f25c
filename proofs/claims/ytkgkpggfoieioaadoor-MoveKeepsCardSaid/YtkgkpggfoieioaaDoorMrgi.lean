import Derived.Test.YtkgkpggfoieioaaDoorMrgg
import Derived.Test.YtkgkpggfoieioaaDoorMrga
namespace Go.Proofs.YtkgkpggfoieioaaDoor
set_option linter.unusedVariables false
/-! How far it is, over a field: what the search keeps true, and what it comes to. -/
def NB (f : GF) (a b : Nat) : Prop := (b : Int) ∈ besL f (a : Int)
def at0 (l : List Int) (k : Nat) : Int := l.getD k 0
def atB (l : List Bool) (k : Nat) : Bool := l.getD k false
theorem at0_set (l : List Int) (i k : Nat) (x : Int) (h : i < l.length) : at0 (l.set i x) k = if i = k then x else at0 l k := by
  unfold at0
  rw [List.getD_eq_getElem?_getD, List.getD_eq_getElem?_getD, List.getElem?_set]
  by_cases e : i = k
  · subst e; simp [h]
  · simp [e]
theorem atB_set (l : List Bool) (i k : Nat) (x : Bool) (h : i < l.length) : atB (l.set i x) k = if i = k then x else atB l k := by
  unfold atB
  rw [List.getD_eq_getElem?_getD, List.getD_eq_getElem?_getD, List.getElem?_set]
  by_cases e : i = k
  · subst e; simp [h]
  · simp [e]
structure SInv (n src : Nat) (nb : Nat → Nat → Prop) (cost : Nat → Nat → Int) (out : List Int) (done : List Bool) (m : Nat) (M : Int) (R : Nat → Nat → Prop) : Prop where
  lo_ : out.length = n
  ld : done.length = n
  hsrc : src < n ∧ at0 out src = 0
  low : ∀ k, k < n → -1 ≤ at0 out k
  up : ∀ k, k < n → at0 out k ≤ 2 * m
  cnt : done.count true = m
  m0 : 0 ≤ M ∧ M ≤ 2 * m
  dn : ∀ k, k < n → atB done k = true → 0 ≤ at0 out k ∧ at0 out k ≤ M
  nd : ∀ k, k < n → atB done k = false → 0 ≤ at0 out k → M ≤ at0 out k
  pred : ∀ b, b < n → 0 ≤ at0 out b → b ≠ src → ∃ a, a < n ∧ atB done a = true ∧ nb a b ∧ 0 < cost a b ∧ at0 out b = at0 out a + cost a b
  rd : ∀ a b, R a b → atB done a = true
  relax : ∀ a b, a < n → b < n → R a b → 0 < cost a b → 0 ≤ at0 out b ∧ at0 out b ≤ at0 out a + cost a b
theorem count_set : ∀ (l : List Bool) (i : Nat), i < l.length → atB l i = false → (l.set i true).count true = l.count true + 1
  | [], i, h, _ => by simp at h
  | a :: l, 0, _, h => by
    have : a = false := by simpa [atB] using h
    subst this; simp
  | a :: l, i + 1, h, h2 => by
    have := count_set l i (by simpa using h) (by simpa [atB] using h2)
    rw [List.set_cons_succ, List.count_cons, List.count_cons, this]; omega
theorem at0_rep (n : Nat) (x : Int) (k : Nat) (h : k < n) : at0 (List.replicate n x) k = x := by
  unfold at0; rw [List.getD_eq_getElem?_getD, List.getElem?_replicate, if_pos h]; rfl
theorem atB_rep (n : Nat) (k : Nat) : atB (List.replicate n false) k = false := by
  unfold atB; rw [List.getD_eq_getElem?_getD, List.getElem?_replicate]; split <;> rfl
theorem sinv_start (n src : Nat) (nb : Nat → Nat → Prop) (cost : Nat → Nat → Int) (h : src < n) : SInv n src nb cost ((List.replicate n (-1)).set src 0) (List.replicate n false) 0 0 (fun _ _ => False) := by
  have hv : ∀ k, k < n → at0 ((List.replicate n (-1)).set src 0) k = if src = k then 0 else -1 := fun k hk => by
    rw [at0_set _ _ _ _ (by simpa using h), at0_rep n _ k hk]
  refine ⟨by simp, by simp, ⟨h, by rw [hv src h, if_pos rfl]⟩, ?_, ?_, ?_, by omega, ?_, ?_, ?_, fun a b h => h.elim, fun a b _ _ h => h.elim⟩
  · intro k hk; rw [hv k hk]; split <;> omega
  · intro k hk; rw [hv k hk]; split <;> omega
  · rw [List.count_replicate]; simp
  · intro k _ hd; rw [atB_rep] at hd; cases hd
  · intro k hk _ h0; rw [hv k hk] at h0 ⊢; split <;> (try rw [if_neg (by assumption)] at h0) <;> omega
  · intro b hb h0 hne; rw [hv b hb, if_neg (Ne.symm hne)] at h0; omega
section
variable {n src : Nat} {nb : Nat → Nat → Prop} {cost : Nat → Nat → Int} {out : List Int} {done : List Bool} {m : Nat} {M : Int} {R : Nat → Nat → Prop}
theorem SInv.le (h : SInv n src nb cost out done m M R) : m ≤ n := by rw [← h.cnt, ← h.ld]; exact List.count_le_length
/-- The nearest is picked. -/
theorem SInv.pick (h : SInv n src nb cost out done m M R) (a : Nat) (ha : a < n) (hd : atB done a = false) (h0 : 0 ≤ at0 out a) (hmin : ∀ k, k < n → atB done k = false → 0 ≤ at0 out k → at0 out a ≤ at0 out k) :
    SInv n src nb cost out (done.set a true) (m + 1) (at0 out a) R := by
  have hB : ∀ k, atB (done.set a true) k = if a = k then true else atB done k := fun k => atB_set done a k true (by rw [h.ld]; exact ha)
  refine ⟨h.lo_, by rw [List.length_set, h.ld], h.hsrc, h.low, fun k hk => by have := h.up k hk; omega, by rw [count_set done a (by rw [h.ld]; exact ha) hd, h.cnt], ⟨h0, by have := h.up a ha; omega⟩, ?_, ?_, ?_, fun x y hR => by rw [hB]; split <;> first | rfl | exact h.rd x y hR, h.relax⟩
  · intro k hk hdk
    rw [hB] at hdk
    by_cases e : a = k
    · subst e; exact ⟨h0, Int.le_refl _⟩
    · rw [if_neg e] at hdk
      have h1 := h.dn k hk hdk
      have h2 := h.nd a ha hd h0
      exact ⟨h1.1, by omega⟩
  · intro k hk hdk hk0
    rw [hB] at hdk
    by_cases e : a = k
    · rw [if_pos e] at hdk; cases hdk
    · rw [if_neg e] at hdk; exact hmin k hk hdk hk0
  · intro b hb hb0 hne
    obtain ⟨x, hx, hxd, h1, h2, h3⟩ := h.pred b hb hb0 hne
    exact ⟨x, hx, by rw [hB]; split <;> first | rfl | exact hxd, h1, h2, h3⟩
/-- One that is beside is told anew. -/
theorem SInv.tell (h : SInv n src nb cost out done m M R) (a b : Nat) (ha : a < n) (hb : b < n) (hd : atB done a = true) (hM : at0 out a = M) (hn : nb a b) (hc : 0 < cost a b) (hc2 : M + cost a b ≤ 2 * m) (hlt : at0 out b < 0 ∨ at0 out a + cost a b < at0 out b) :
    SInv n src nb cost (out.set b (at0 out a + cost a b)) done m M (fun x y => R x y ∨ (x = a ∧ y = b)) := by
  have hV : ∀ k, at0 (out.set b (at0 out a + cost a b)) k = if b = k then at0 out a + cost a b else at0 out k := fun k => at0_set out b k _ (by rw [h.lo_]; exact hb)
  have hm0 := h.m0
  have hbd : atB done b = false := by
    cases e : atB done b with
    | false => rfl
    | true => have := h.dn b hb e; omega
  have hba : b ≠ a := fun e => by subst e; rw [hd] at hbd; cases hbd
  have hbs : b ≠ src := fun e => by
    have := h.hsrc.2
    rw [← e] at this
    have := h.nd b hb hbd (by omega)
    omega
  refine ⟨by rw [List.length_set, h.lo_], h.ld, ⟨h.hsrc.1, by rw [hV, if_neg hbs]; exact h.hsrc.2⟩, ?_, ?_, h.cnt, h.m0, ?_, ?_, ?_, ?_, ?_⟩
  · intro k hk; rw [hV]; split
    · omega
    · exact h.low k hk
  · intro k hk; rw [hV]; split
    · omega
    · exact h.up k hk
  · intro k hk hdk
    rw [hV, if_neg (fun e => by subst e; rw [hdk] at hbd; cases hbd)]
    exact h.dn k hk hdk
  · intro k hk hdk h0
    rw [hV] at h0 ⊢
    split
    · omega
    · rename_i e; rw [if_neg e] at h0; exact h.nd k hk hdk h0
  · intro y hy hy0 hne
    rw [hV] at hy0 ⊢
    by_cases e : b = y
    · subst e
      exact ⟨a, ha, hd, hn, hc, by rw [if_pos rfl, hV, if_neg hba]⟩
    · rw [if_neg e] at hy0 ⊢
      obtain ⟨x, hx, hxd, h1, h2, h3⟩ := h.pred y hy hy0 hne
      exact ⟨x, hx, hxd, h1, h2, by rw [hV, if_neg (fun e => by subst e; rw [hxd] at hbd; cases hbd)]; exact h3⟩
  · intro x y hR
    rcases hR with hR | ⟨rfl, rfl⟩
    · exact h.rd x y hR
    · exact hd
  · intro x y hx hy hR hxy
    rw [hV, hV]
    rcases hR with hR | ⟨rfl, rfl⟩
    · have h1 := h.relax x y hx hy hR hxy
      have hxd := h.rd x y hR
      have e2 : b ≠ x := fun e => by subst e; rw [hxd] at hbd; cases hbd
      rw [if_neg e2]
      by_cases e : b = y
      · subst e
        rw [if_pos rfl]; omega
      · rw [if_neg e]; exact h1
    · rw [if_pos rfl, if_neg hba]; omega
/-- One that is beside stays. -/
theorem SInv.skip (h : SInv n src nb cost out done m M R) (a b : Nat) (hd : atB done a = true) (hlt : 0 < cost a b → 0 ≤ at0 out b ∧ at0 out b ≤ at0 out a + cost a b) :
    SInv n src nb cost out done m M (fun x y => R x y ∨ (x = a ∧ y = b)) :=
  ⟨h.lo_, h.ld, h.hsrc, h.low, h.up, h.cnt, h.m0, h.dn, h.nd, h.pred, fun x y hR => by
    rcases hR with hR | ⟨rfl, rfl⟩
    · exact h.rd x y hR
    · exact hd, fun x y hx hy hR hxy => by
    rcases hR with hR | ⟨rfl, rfl⟩
    · exact h.relax x y hx hy hR hxy
    · exact hlt hxy⟩
theorem SInv.fewer (h : SInv n src nb cost out done m M R) (R' : Nat → Nat → Prop) (hR : ∀ x y, R' x y → R x y) : SInv n src nb cost out done m M R' :=
  ⟨h.lo_, h.ld, h.hsrc, h.low, h.up, h.cnt, h.m0, h.dn, h.nd, h.pred, fun x y k => h.rd x y (hR x y k), fun x y hx hy k => h.relax x y hx hy (hR x y k)⟩
end
/-- How far it is from one to each. -/
structure Dist (n src : Nat) (nb : Nat → Nat → Prop) (cost : Nat → Nat → Int) (out : List Int) : Prop where
  len : out.length = n
  hsrc : src < n ∧ at0 out src = 0
  low : ∀ k, k < n → -1 ≤ at0 out k ∧ at0 out k ≤ 2 * n
  pred : ∀ b, b < n → 0 ≤ at0 out b → b ≠ src → ∃ a, a < n ∧ nb a b ∧ 0 < cost a b ∧ 0 ≤ at0 out a ∧ at0 out b = at0 out a + cost a b
  relax : ∀ a b, a < n → b < n → nb a b → 0 < cost a b → 0 ≤ at0 out a → 0 ≤ at0 out b ∧ at0 out b ≤ at0 out a + cost a b
theorem SInv.dist {n src : Nat} {nb : Nat → Nat → Prop} {cost : Nat → Nat → Int} {out : List Int} {done : List Bool} {m : Nat} {M : Int} (h : SInv n src nb cost out done m M (fun x y => atB done x = true ∧ nb x y)) (hend : ∀ k, k < n → at0 out k < 0 ∨ atB done k = true) : Dist n src nb cost out := by
  have hm := h.le
  refine ⟨h.lo_, h.hsrc, fun k hk => ⟨h.low k hk, by have := h.up k hk; omega⟩, ?_, ?_⟩
  · intro b hb h0 hne
    obtain ⟨a, ha, hd, h1, h2, h3⟩ := h.pred b hb h0 hne
    exact ⟨a, ha, h1, h2, (h.dn a ha hd).1, h3⟩
  · intro a b ha hb hn hc h0
    rcases hend a ha with h1 | h1
    · omega
    · exact h.relax a b ha hb ⟨h1, hn⟩ hc
/-- A way, step by step, and what it costs. -/
inductive Way (n : Nat) (nb : Nat → Nat → Prop) (cost : Nat → Nat → Int) : Nat → Nat → Int → Prop
  | here (a : Nat) : a < n → Way n nb cost a a 0
  | step (a b c : Nat) (d : Int) : Way n nb cost a b d → c < n → nb b c → 0 < cost b c → Way n nb cost a c (d + cost b c)
section
variable {n src : Nat} {nb : Nat → Nat → Prop} {cost : Nat → Nat → Int} {out : List Int}
theorem Way.lt {a b : Nat} {d : Int} (h : Way n nb cost a b d) : a < n ∧ b < n ∧ 0 ≤ d := by
  induction h with
  | here h => exact ⟨h, h, by omega⟩
  | step b c d hw hc hn hp ih => exact ⟨ih.1, hc, by omega⟩
theorem Way.trans {a b c : Nat} {d e : Int} (h : Way n nb cost a b d) (k : Way n nb cost b c e) : Way n nb cost a c (d + e) := by
  induction k with
  | here _ => simpa using h
  | step x y d' hw hy hn hc ih => rw [← Int.add_assoc]; exact .step _ _ _ _ ih hy hn hc
theorem Dist.least (h : Dist n src nb cost out) {b : Nat} {d : Int} (k : Way n nb cost src b d) : 0 ≤ at0 out b ∧ at0 out b ≤ d := by
  induction k with
  | here _ => have := h.hsrc.2; omega
  | step x y d' hw hy hn hc ih =>
    have := h.relax x y hw.lt.2.1 hy hn hc ih.1
    omega
theorem Dist.way (h : Dist n src nb cost out) : ∀ (f : Nat) (b : Nat), b < n → 0 ≤ at0 out b → at0 out b ≤ f → Way n nb cost src b (at0 out b)
  | f, b, hb, h0, hf => by
    by_cases e : b = src
    · subst e
      rw [h.hsrc.2]; exact .here _ hb
    · obtain ⟨a, ha, hn, hc, ha0, he⟩ := h.pred b hb h0 e
      match f, hf with
      | 0, hf => omega
      | f + 1, hf =>
        rw [he]
        exact .step _ _ _ _ (h.way f a ha ha0 (by omega)) hb hn hc
theorem Dist.way' (h : Dist n src nb cost out) (b : Nat) (hb : b < n) (h0 : 0 ≤ at0 out b) : Way n nb cost src b (at0 out b) := h.way (at0 out b).toNat b hb h0 (by omega)
theorem Dist.uniq (h : Dist n src nb cost out) {out' : List Int} (h' : Dist n src nb cost out') : out = out' := by
  refine List.ext_getElem (by rw [h.len, h'.len]) fun i h1 h2 => ?_
  have e1 : at0 out i = out[i] := by unfold at0; rw [List.getD_eq_getElem?_getD, List.getElem?_eq_getElem h1]; rfl
  have e2 : at0 out' i = out'[i] := by unfold at0; rw [List.getD_eq_getElem?_getD, List.getElem?_eq_getElem h2]; rfl
  rw [← e1, ← e2]
  have hi : i < n := by rw [← h.len]; exact h1
  have l1 := (h.low i hi).1
  have l2 := (h'.low i hi).1
  by_cases h0 : 0 ≤ at0 out i
  · have w1 := h'.least (h.way' i hi h0)
    have w2 := h.least (h'.way' i hi w1.1)
    omega
  · by_cases h3 : 0 ≤ at0 out' i
    · have := h.least (h'.way' i hi h3); omega
    · omega
/-- A way turned round. -/
theorem Way.back {cost' : Nat → Nat → Int} (hs : ∀ a b, a < n → b < n → nb a b → nb b a) (hc : ∀ a b, cost' b a = cost a b) {a b : Nat} {d : Int} (h : Way n nb cost a b d) : Way n nb cost' b a d := by
  induction h with
  | here h => exact .here _ h
  | step x y d hw hy hn hp ih =>
    have h1 : Way n nb cost' y x (0 + cost' y x) := .step _ _ _ _ (.here _ hy) hw.lt.2.1 (hs _ _ hw.lt.2.1 hy hn) (by rw [hc]; exact hp)
    have h2 := h1.trans ih
    rw [hc] at h2
    rw [show d + cost x y = 0 + cost x y + d by omega]
    exact h2
end
def costTo (f : GF) (fl : Bool) (a _b : Nat) : Int := ontoL f a fl
def costFrom (f : GF) (fl : Bool) (_a b : Nat) : Int := ontoL f b fl
theorem nb_in (f : GF) (h : Good f) (a b : Nat) (ha : a < f.ground.length) (hn : NB f a b) : b < f.ground.length := by
  have := bes_in f a b h.wide.1 (by omega) (by rw [← h.lg]; omega) hn
  rw [← h.lg] at this
  omega
theorem nb_sym (f : GF) (h : Good f) (a b : Nat) (ha : a < f.ground.length) (hn : NB f a b) : NB f b a := by
  obtain ⟨r0, r1⟩ := row_bd (a := (a : Int)) h.wide.1 (by omega) (by rw [← h.lg]; omega)
  exact bes_sym f a b h.wide.1 r0 r1 hn
/-! The next cell, and the cells of a way. -/
def okN (f : GF) (fl : Bool) (far : List Int) (a : Nat) (c : Int) : Bool := decide (0 < ontoL f c.toNat fl) && decide (0 ≤ at0 far c.toNat) && decide (ontoL f c.toNat fl + at0 far c.toNat = at0 far a)
def findD (p : Int → Bool) (d : Int) : List Int → Int
  | [] => d
  | x :: xs => if p x then x else findD p d xs
theorem findD_or (p : Int → Bool) (d : Int) : ∀ l : List Int, (findD p d l ∈ l ∧ p (findD p d l) = true) ∨ (findD p d l = d ∧ ∀ x ∈ l, p x = false)
  | [] => .inr ⟨rfl, by simp⟩
  | x :: xs => by
    unfold findD
    cases hx : p x with
    | true => simp [hx]
    | false =>
      simp only [Bool.false_eq_true, if_false]
      rcases findD_or p d xs with ⟨h1, h2⟩ | ⟨h1, h2⟩
      · exact .inl ⟨List.mem_cons_of_mem _ h1, h2⟩
      · exact .inr ⟨h1, fun y hy => by
          rcases List.mem_cons.1 hy with rfl | hy
          · exact hx
          · exact h2 y hy⟩
theorem findD_drop (p : Int → Bool) (d : Int) (l : List Int) (k : Nat) (h : k < l.length) : findD p d (l.drop k) = if p (l.getD k 0) then l.getD k 0 else findD p d (l.drop (k + 1)) := by
  rw [List.drop_eq_getElem_cons h, findD, List.getD_eq_getElem?_getD, List.getElem?_eq_getElem h]; rfl
def nextL (f : GF) (fl : Bool) (far : List Int) (a : Nat) : Nat := (findD (okN f fl far a) a (besL f a)).toNat
def DTo (f : GF) (fl : Bool) (src : Nat) (far : List Int) : Prop := Dist f.ground.length src (NB f) (costTo f fl) far
def DFrom (f : GF) (fl : Bool) (src : Nat) (far : List Int) : Prop := Dist f.ground.length src (NB f) (costFrom f fl) far
theorem next_spec (f : GF) (hg : Good f) (fl : Bool) (far : List Int) (tq a : Nat) (h : DTo f fl tq far) (ha : a < f.ground.length) (h0 : 0 ≤ at0 far a) (hne : a ≠ tq) :
    nextL f fl far a < f.ground.length ∧ ((nextL f fl far a : Nat) : Int) ∈ besL f a ∧ 0 < ontoL f (nextL f fl far a) fl ∧ 0 ≤ at0 far (nextL f fl far a) ∧ ontoL f (nextL f fl far a) fl + at0 far (nextL f fl far a) = at0 far a := by
  obtain ⟨x, hx, hn, hc, hx0, he⟩ := h.pred a ha h0 hne
  have hn2 := nb_sym f hg x a hx hn
  have hp : okN f fl far a (x : Int) = true := by
    unfold okN costTo at *
    simp only [Int.toNat_natCast, Bool.and_eq_true, decide_eq_true_eq]
    exact ⟨⟨hc, hx0⟩, by omega⟩
  unfold nextL
  rcases findD_or (okN f fl far a) a (besL f a) with ⟨h1, h2⟩ | ⟨_, h2⟩
  · have hb := bes_in f a _ hg.wide.1 (by omega) (by rw [← hg.lg]; omega) h1
    rw [← hg.lg] at hb
    generalize findD (okN f fl far a) a (besL f a) = y at *
    obtain ⟨z, rfl⟩ : ∃ z : Nat, y = z := ⟨y.toNat, by omega⟩
    unfold okN at h2
    simp only [Int.toNat_natCast, Bool.and_eq_true, decide_eq_true_eq] at h2 ⊢
    exact ⟨by omega, h1, h2.1.1, h2.1.2, h2.2⟩
  · have := h2 _ hn2
    rw [hp] at this; cases this
/-- The cells of a way, but for the first. -/
def pathF (f : GF) (fl : Bool) (far : List Int) (tq : Nat) : Nat → Nat → List Nat
  | 0, _ => []
  | k + 1, a => if a = tq then [] else nextL f fl far a :: pathF f fl far tq k (nextL f fl far a)
def pathL (f : GF) (fl : Bool) (far : List Int) (src tq : Nat) : List Nat := src :: pathF f fl far tq (at0 far src).toNat src
/-- What holds of a way. -/
inductive Goes (f : GF) (fl : Bool) (far : List Int) (tq : Nat) : List Nat → Prop
  | one : tq < f.ground.length → Goes f fl far tq [tq]
  | more (a b : Nat) (l : List Nat) : Goes f fl far tq (b :: l) → a < f.ground.length → ((b : Nat) : Int) ∈ besL f a → 0 < ontoL f b fl → 0 ≤ at0 far b → ontoL f b fl + at0 far b = at0 far a → Goes f fl far tq (a :: b :: l)
theorem onto_ge (f : GF) (k : Nat) (fl : Bool) (h : 0 < ontoL f k fl) : 1 ≤ ontoL f k fl := h
theorem path_goes (f : GF) (hg : Good f) (fl : Bool) (far : List Int) (tq : Nat) (h : DTo f fl tq far) : ∀ (k a : Nat), a < f.ground.length → 0 ≤ at0 far a → at0 far a ≤ k → Goes f fl far tq (a :: pathF f fl far tq k a)
  | 0, a, ha, h0, hk => by
    have : a = tq := Classical.byContradiction fun hne => by
      have := next_spec f hg fl far tq a h ha h0 hne
      omega
    subst this
    exact .one ha
  | k + 1, a, ha, h0, hk => by
    unfold pathF
    by_cases e : a = tq
    · rw [if_pos e]; subst e; exact .one ha
    · rw [if_neg e]
      obtain ⟨h1, h2, h3, h4, h5⟩ := next_spec f hg fl far tq a h ha h0 e
      exact .more _ _ _ (path_goes f hg fl far tq h k _ h1 h4 (by omega)) ha h2 h3 h4 h5
theorem onto_air (f : GF) (k : Nat) (fl : Bool) (h : 0 < ontoL f k fl) : 0 < ontoL f k true ∧ ontoL f k true ≤ ontoL f k fl := by
  unfold ontoL ontoG at *
  generalize gAt f k = g at *
  cases fl <;> (repeat' split at h) <;> (repeat' split) <;> simp_all <;> omega
theorem way_air (f : GF) (fl : Bool) {a b : Nat} {d : Int} (h : Way f.ground.length (NB f) (costTo f fl) a b d) : ∃ d', d' ≤ d ∧ Way f.ground.length (NB f) (costTo f true) a b d' := by
  induction h with
  | here h => exact ⟨0, by omega, .here _ h⟩
  | step x y d hw hy hn hp ih =>
    obtain ⟨d', h1, h2⟩ := ih
    have h3 := onto_air f x fl hp
    exact ⟨d' + costTo f true x y, by unfold costTo at *; omega, .step _ _ _ _ h2 hy hn h3.1⟩
theorem far_air (f : GF) (fl : Bool) (far air : List Int) (tq a : Nat) (h : DTo f fl tq far) (h' : DTo f true tq air) (ha : a < f.ground.length) (h0 : 0 ≤ at0 far a) : 0 ≤ at0 air a ∧ at0 air a ≤ at0 far a := by
  obtain ⟨d', h1, h2⟩ := way_air f fl (Dist.way' h a ha h0)
  have := Dist.least h' h2
  omega
/-- There and back: it is as far from one to the other as it is told to it. -/
theorem to_from (f : GF) (hg : Good f) (fl : Bool) (a b : Nat) (fr tq : List Int) (h : DFrom f fl a fr) (h' : DTo f fl b tq) : at0 fr b = at0 tq a ∨ (at0 fr b < 0 ∧ at0 tq a < 0) := by
  have hs : ∀ x y, x < f.ground.length → y < f.ground.length → NB f x y → NB f y x := fun x y hx _ hn => nb_sym f hg x y hx hn
  by_cases h0 : 0 ≤ at0 fr b
  · have w := Way.back (cost' := costTo f fl) hs (fun _ _ => rfl) (Dist.way' h b h'.hsrc.1 h0)
    have l := Dist.least h' w
    have w2 := Way.back (cost' := costFrom f fl) hs (fun _ _ => rfl) (Dist.way' h' a h.hsrc.1 l.1)
    have l2 := Dist.least h w2
    omega
  · by_cases h1 : 0 ≤ at0 tq a
    · have w2 := Way.back (cost' := costFrom f fl) hs (fun _ _ => rfl) (Dist.way' h' a h.hsrc.1 h1)
      have l2 := Dist.least h w2
      omega
    · omega
end Go.Proofs.YtkgkpggfoieioaaDoor
namespace Go.Proofs.YtkgkpggfoieioaaDoor
set_option linter.unusedVariables false
open Go.RowKit
/-! Whole blocks of numbers, and of truths. -/
def arrI (xs : List Int) : Array Value := (xs.map (.int .i64)).toArray
def arrB (xs : List Bool) : Array Value := (xs.map .bool).toArray
theorem arrI_size (xs : List Int) : (arrI xs).size = xs.length := by simp [arrI]
theorem arrB_size (xs : List Bool) : (arrB xs).size = xs.length := by simp [arrB]
section
variable {w : World} {g : Nat} {t : TypeId}
theorem Blk.atI {xs : List Int} (h : Blk w g t (arrI xs)) (k : Nat) (hk : k < xs.length) : w.cell? ⟨g, k, none⟩ = some (.int .i64 (at0 xs k)) := by
  rw [h.cell k]; unfold arrI at0; rw [List.getElem?_toArray, List.getElem?_map, List.getD_eq_getElem?_getD, List.getElem?_eq_getElem hk]; rfl
theorem Blk.atB {xs : List Bool} (h : Blk w g t (arrB xs)) (k : Nat) (hk : k < xs.length) : w.cell? ⟨g, k, none⟩ = some (.bool (atB xs k)) := by
  rw [h.cell k]; unfold arrB Proofs.YtkgkpggfoieioaaDoor.atB; rw [List.getElem?_toArray, List.getElem?_map, List.getD_eq_getElem?_getD, List.getElem?_eq_getElem hk]; rfl
theorem Blk.setI {xs : List Int} (h : Blk w g t (arrI xs)) (k : Nat) (x : Int) : Blk (w.setCell ⟨g, k, none⟩ (.int .i64 x)) g t (arrI (xs.set k x)) := by
  have := h.set_ k (.int .i64 x)
  unfold arrI at *
  rwa [List.setIfInBounds_toArray, ← List.map_set] at this
theorem Blk.setB {xs : List Bool} (h : Blk w g t (arrB xs)) (k : Nat) (x : Bool) : Blk (w.setCell ⟨g, k, none⟩ (.bool x)) g t (arrB (xs.set k x)) := by
  have := h.set_ k (.bool x)
  unfold arrB at *
  rwa [List.setIfInBounds_toArray, ← List.map_set] at this
theorem Blk.rdI {xs : List Int} (h : Blk w g t (arrI xs)) : RD w w.heap.size 1 (some ⟨g, 0, none⟩) xs.length (xs.map (.int .i64)) :=
  ⟨by simp, fun _ => ⟨g, 0, rfl, h.lt, fun j hj => by rw [Nat.zero_add, h.cell j]; unfold arrI; rw [List.getElem?_toArray]⟩⟩
end
theorem madeI (n : Nat) : madeCells #[.int .i64 0] n = arrI (List.replicate n 0) := by
  have := toList_madeCells_one (.int .i64 0) n
  unfold arrI
  rw [List.map_replicate, ← this]
theorem madeB (n : Nat) : madeCells #[.bool false] n = arrB (List.replicate n false) := by
  have := toList_madeCells_one (.bool false) n
  unfold arrB
  rw [List.map_replicate, ← this]
/-- How many truths a block holds. -/
def trues (w : World) (g : Nat) : Nat := match w.heap[g]? with
  | some (.cells cs _ _) => (cs.toList.filter (fun v => match v with | .bool true => true | _ => false)).length
  | _ => 0
theorem trues_blk {w : World} {g : Nat} {t : TypeId} {xs : List Bool} (h : Blk w g t (arrB xs)) : trues w g = xs.count true := by
  unfold trues
  unfold Blk at h
  rw [h]
  show ((arrB xs).toList.filter _).length = _
  unfold arrB
  rw [List.toList_toArray]
  clear h
  induction xs with
  | nil => rfl
  | cons x xs ih => cases x <;> simp_all
end Go.Proofs.YtkgkpggfoieioaaDoor
