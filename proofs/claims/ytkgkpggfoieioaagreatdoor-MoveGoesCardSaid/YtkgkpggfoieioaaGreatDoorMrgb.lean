import Derived.Test.YtkgkpggfoieioaaGreatDoorMrga
import Derived.Test.YtkgkpggfoieioaaGreatDoorRows
import Derived.Deep.Slices
import Derived.Deep.Fields
import Derived.ChangeSame
import Derived.ProofKit
import Derived.OpenShut
namespace Go.Proofs.YtkgkpggfoieioaaGreatDoor
set_option linter.unusedVariables false
theorem besL_eq (f : GF) (a : Int) : besL f a = (if a / f.wide - 1 < 0 then [] else [a - f.wide]) ++ (if a % f.wide - 1 < 0 then [] else [a - 1]) ++ (if a % f.wide + 1 < f.wide then [a + 1] else []) ++ (if a / f.wide + 1 < f.high then [a + f.wide] else []) := by
  show ([] ++ besS f a 0 ++ besS f a 1 ++ besS f a 2 ++ besS f a 3) = _
  rw [List.nil_append]; rfl
theorem besL_len (f : GF) (a : Int) : (besL f a).length ≤ 4 := besN_len f a 4
theorem mem_one {c : Prop} [Decidable c] {x y : Int} : x ∈ (if c then [] else [y]) ↔ ¬c ∧ x = y := by
  by_cases h : c
  · rw [if_pos h]; simp [h]
  · rw [if_neg h]; simp [h]
theorem mem_one' {c : Prop} [Decidable c] {x y : Int} : x ∈ (if c then [y] else []) ↔ c ∧ x = y := by
  by_cases h : c
  · rw [if_pos h]; simp [h]
  · rw [if_neg h]; simp [h]
theorem mem_bes (f : GF) (a b : Int) : b ∈ besL f a ↔ (1 ≤ a / f.wide ∧ b = a - f.wide) ∨ (1 ≤ a % f.wide ∧ b = a - 1) ∨ (a % f.wide + 1 < f.wide ∧ b = a + 1) ∨ (a / f.wide + 1 < f.high ∧ b = a + f.wide) := by
  rw [besL_eq]
  simp only [List.mem_append, mem_one, mem_one']
  omega
theorem dm {a w : Int} (hw : 0 < w) (q r : Int) (h : r + w * q = a) (h0 : 0 ≤ r) (h1 : r < w) : a / w = q ∧ a % w = r := (Int.ediv_emod_unique hw).2 ⟨h, h0, h1⟩
/-- What is beside a cell: where it lies. -/
theorem bes_dm (f : GF) (a b : Int) (hw : 1 ≤ f.wide) (hb : b ∈ besL f a) :
    (1 ≤ a / f.wide ∧ b = a - f.wide ∧ b / f.wide = a / f.wide - 1 ∧ b % f.wide = a % f.wide) ∨ (1 ≤ a % f.wide ∧ b = a - 1 ∧ b / f.wide = a / f.wide ∧ b % f.wide = a % f.wide - 1) ∨
    (a % f.wide + 1 < f.wide ∧ b = a + 1 ∧ b / f.wide = a / f.wide ∧ b % f.wide = a % f.wide + 1) ∨ (a / f.wide + 1 < f.high ∧ b = a + f.wide ∧ b / f.wide = a / f.wide + 1 ∧ b % f.wide = a % f.wide) := by
  have hd : f.wide * (a / f.wide) + a % f.wide = a := Int.mul_ediv_add_emod a f.wide
  have h0 : 0 ≤ a % f.wide := Int.emod_nonneg _ (by omega)
  have h1 : a % f.wide < f.wide := Int.emod_lt_of_pos _ (by omega)
  rcases (mem_bes f a b).1 hb with ⟨h, rfl⟩ | ⟨h, rfl⟩ | ⟨h, rfl⟩ | ⟨h, rfl⟩
  · exact .inl ⟨h, rfl, dm (by omega) _ _ (by rw [Int.mul_sub]; omega) h0 h1⟩
  · exact .inr (.inl ⟨h, rfl, dm (by omega) _ _ (by omega) (by omega) (by omega)⟩)
  · exact .inr (.inr (.inl ⟨h, rfl, dm (by omega) _ _ (by omega) (by omega) (by omega)⟩))
  · exact .inr (.inr (.inr ⟨h, rfl, dm (by omega) _ _ (by rw [Int.mul_add]; omega) h0 h1⟩))
/-- Beside is either way. -/
theorem bes_sym (f : GF) (a b : Int) (hw : 1 ≤ f.wide) (hr0 : 0 ≤ a / f.wide) (hr : a / f.wide < f.high) (hb : b ∈ besL f a) : a ∈ besL f b := by
  have h0 : 0 ≤ a % f.wide := Int.emod_nonneg _ (by omega)
  have h1 : a % f.wide < f.wide := Int.emod_lt_of_pos _ (by omega)
  rw [mem_bes]
  rcases bes_dm f a b hw hb with ⟨h, h2, h3, h4⟩ | ⟨h, h2, h3, h4⟩ | ⟨h, h2, h3, h4⟩ | ⟨h, h2, h3, h4⟩ <;> rw [h3, h4] <;> omega
theorem row_bd {a w h : Int} (hw : 1 ≤ w) (ha : 0 ≤ a) (hl : a < w * h) : 0 ≤ a / w ∧ a / w < h :=
  ⟨Int.ediv_nonneg ha (by omega), Int.ediv_lt_of_lt_mul (by omega) (by rw [Int.mul_comm]; exact hl)⟩
theorem cell_bd {b w h : Int} (hw : 1 ≤ w) (h0 : 0 ≤ b / w) (h1 : b / w < h) : 0 ≤ b ∧ b < w * h := by
  have hd : w * (b / w) + b % w = b := Int.mul_ediv_add_emod b w
  have h2 : 0 ≤ b % w := Int.emod_nonneg _ (by omega)
  have h3 : b % w < w := Int.emod_lt_of_pos _ (by omega)
  have h4 : 0 ≤ w * (b / w) := Int.mul_nonneg (by omega) h0
  have h5 : w * (b / w + 1) ≤ w * h := Int.mul_le_mul_of_nonneg_left (by omega) (by omega)
  rw [Int.mul_add] at h5
  omega
theorem bes_in (f : GF) (a b : Int) (hw : 1 ≤ f.wide) (ha : 0 ≤ a) (hl : a < f.wide * f.high) (hb : b ∈ besL f a) : 0 ≤ b ∧ b < f.wide * f.high := by
  obtain ⟨r0, r1⟩ := row_bd hw ha hl
  have key : 0 ≤ b / f.wide ∧ b / f.wide < f.high := by
    rcases bes_dm f a b hw hb with ⟨h, _, h3, _⟩ | ⟨h, _, h3, _⟩ | ⟨h, _, h3, _⟩ | ⟨h, _, h3, _⟩
    all_goals
      rw [h3]
      generalize a / f.wide = r at *
      clear h3
      omega
  exact cell_bd hw key.1 key.2
theorem bes_sorted (f : GF) (a : Int) (hw : 1 ≤ f.wide) : (besL f a).Pairwise (· < ·) := by
  have h0 : 0 ≤ a % f.wide := Int.emod_nonneg _ (by omega)
  have h1 : a % f.wide < f.wide := Int.emod_lt_of_pos _ (by omega)
  rw [besL_eq]
  generalize a / f.wide = r
  generalize a % f.wide = c at *
  split <;> split <;> split <;> split <;> simp <;> omega
theorem bes_nodup (f : GF) (a : Int) (hw : 1 ≤ f.wide) (i k : Nat) (hik : k < i) (hi : i < (besL f a).length) : (besL f a).getD k 0 ≠ (besL f a).getD i 0 := by
  have h := List.pairwise_iff_getElem.1 (bes_sorted f a hw) k i (by omega) hi hik
  rw [List.getD_eq_getElem?_getD, List.getD_eq_getElem?_getD, List.getElem?_eq_getElem (by omega), List.getElem?_eq_getElem hi]
  simp only [Option.getD_some]
  omega
end Go.Proofs.YtkgkpggfoieioaaGreatDoor
namespace Go.Proofs.YtkgkpggfoieioaaGreatDoor
set_option linter.unusedVariables false
/-! How far it is, over a field: what the search keeps true, and what it comes to. -/
def NB (f : GF) (a b : Nat) : Prop := (b : Int) ∈ besL f (a : Int)
def at0 (l : List Int) (k : Nat) : Int := l.getD k 0
def atB (l : List Bool) (k : Nat) : Bool := l.getD k false
theorem at0_set (l : List Int) (i k : Nat) (x : Int) (h : i < l.length) : at0 (l.set i x) k = if i = k then x else at0 l k := by
  unfold at0
  rw [List.getD_eq_getElem?_getD, List.getD_eq_getElem?_getD, List.getElem?_set]
  by_cases e : i = k
  · subst e; simp [h]
  · simp [e]
theorem atB_set (l : List Bool) (i k : Nat) (x : Bool) (h : i < l.length) : atB (l.set i x) k = if i = k then x else atB l k := by
  unfold atB
  rw [List.getD_eq_getElem?_getD, List.getD_eq_getElem?_getD, List.getElem?_set]
  by_cases e : i = k
  · subst e; simp [h]
  · simp [e]
structure SInv (n src : Nat) (nb : Nat → Nat → Prop) (cost : Nat → Nat → Int) (out : List Int) (done : List Bool) (m : Nat) (M : Int) (R : Nat → Nat → Prop) : Prop where
  lo_ : out.length = n
  ld : done.length = n
  hsrc : src < n ∧ at0 out src = 0
  low : ∀ k, k < n → -1 ≤ at0 out k
  up : ∀ k, k < n → at0 out k ≤ 2 * m
  cnt : done.count true = m
  m0 : 0 ≤ M ∧ M ≤ 2 * m
  dn : ∀ k, k < n → atB done k = true → 0 ≤ at0 out k ∧ at0 out k ≤ M
  nd : ∀ k, k < n → atB done k = false → 0 ≤ at0 out k → M ≤ at0 out k
  pred : ∀ b, b < n → 0 ≤ at0 out b → b ≠ src → ∃ a, a < n ∧ atB done a = true ∧ nb a b ∧ 0 < cost a b ∧ at0 out b = at0 out a + cost a b
  rd : ∀ a b, R a b → atB done a = true
  relax : ∀ a b, a < n → b < n → R a b → 0 < cost a b → 0 ≤ at0 out b ∧ at0 out b ≤ at0 out a + cost a b
theorem count_set : ∀ (l : List Bool) (i : Nat), i < l.length → atB l i = false → (l.set i true).count true = l.count true + 1
  | [], i, h, _ => by simp at h
  | a :: l, 0, _, h => by
    have : a = false := by simpa [atB] using h
    subst this; simp
  | a :: l, i + 1, h, h2 => by
    have := count_set l i (by simpa using h) (by simpa [atB] using h2)
    rw [List.set_cons_succ, List.count_cons, List.count_cons, this]; omega
theorem at0_rep (n : Nat) (x : Int) (k : Nat) (h : k < n) : at0 (List.replicate n x) k = x := by
  unfold at0; rw [List.getD_eq_getElem?_getD, List.getElem?_replicate, if_pos h]; rfl
theorem atB_rep (n : Nat) (k : Nat) : atB (List.replicate n false) k = false := by
  unfold atB; rw [List.getD_eq_getElem?_getD, List.getElem?_replicate]; split <;> rfl
theorem sinv_start (n src : Nat) (nb : Nat → Nat → Prop) (cost : Nat → Nat → Int) (h : src < n) : SInv n src nb cost ((List.replicate n (-1)).set src 0) (List.replicate n false) 0 0 (fun _ _ => False) := by
  have hv : ∀ k, k < n → at0 ((List.replicate n (-1)).set src 0) k = if src = k then 0 else -1 := fun k hk => by
    rw [at0_set _ _ _ _ (by simpa using h), at0_rep n _ k hk]
  refine ⟨by simp, by simp, ⟨h, by rw [hv src h, if_pos rfl]⟩, ?_, ?_, ?_, by omega, ?_, ?_, ?_, fun a b h => h.elim, fun a b _ _ h => h.elim⟩
  · intro k hk; rw [hv k hk]; split <;> omega
  · intro k hk; rw [hv k hk]; split <;> omega
  · rw [List.count_replicate]; simp
  · intro k _ hd; rw [atB_rep] at hd; cases hd
  · intro k hk _ h0; rw [hv k hk] at h0 ⊢; split <;> (try rw [if_neg (by assumption)] at h0) <;> omega
  · intro b hb h0 hne; rw [hv b hb, if_neg (Ne.symm hne)] at h0; omega
section
variable {n src : Nat} {nb : Nat → Nat → Prop} {cost : Nat → Nat → Int} {out : List Int} {done : List Bool} {m : Nat} {M : Int} {R : Nat → Nat → Prop}
theorem SInv.le (h : SInv n src nb cost out done m M R) : m ≤ n := by rw [← h.cnt, ← h.ld]; exact List.count_le_length
/-- The nearest is picked. -/
theorem SInv.pick (h : SInv n src nb cost out done m M R) (a : Nat) (ha : a < n) (hd : atB done a = false) (h0 : 0 ≤ at0 out a) (hmin : ∀ k, k < n → atB done k = false → 0 ≤ at0 out k → at0 out a ≤ at0 out k) :
    SInv n src nb cost out (done.set a true) (m + 1) (at0 out a) R := by
  have hB : ∀ k, atB (done.set a true) k = if a = k then true else atB done k := fun k => atB_set done a k true (by rw [h.ld]; exact ha)
  refine ⟨h.lo_, by rw [List.length_set, h.ld], h.hsrc, h.low, fun k hk => by have := h.up k hk; omega, by rw [count_set done a (by rw [h.ld]; exact ha) hd, h.cnt], ⟨h0, by have := h.up a ha; omega⟩, ?_, ?_, ?_, fun x y hR => by rw [hB]; split <;> first | rfl | exact h.rd x y hR, h.relax⟩
  · intro k hk hdk
    rw [hB] at hdk
    by_cases e : a = k
    · subst e; exact ⟨h0, Int.le_refl _⟩
    · rw [if_neg e] at hdk
      have h1 := h.dn k hk hdk
      have h2 := h.nd a ha hd h0
      exact ⟨h1.1, by omega⟩
  · intro k hk hdk hk0
    rw [hB] at hdk
    by_cases e : a = k
    · rw [if_pos e] at hdk; cases hdk
    · rw [if_neg e] at hdk; exact hmin k hk hdk hk0
  · intro b hb hb0 hne
    obtain ⟨x, hx, hxd, h1, h2, h3⟩ := h.pred b hb hb0 hne
    exact ⟨x, hx, by rw [hB]; split <;> first | rfl | exact hxd, h1, h2, h3⟩
/-- One that is beside is told anew. -/
theorem SInv.tell (h : SInv n src nb cost out done m M R) (a b : Nat) (ha : a < n) (hb : b < n) (hd : atB done a = true) (hM : at0 out a = M) (hn : nb a b) (hc : 0 < cost a b) (hc2 : M + cost a b ≤ 2 * m) (hlt : at0 out b < 0 ∨ at0 out a + cost a b < at0 out b) :
    SInv n src nb cost (out.set b (at0 out a + cost a b)) done m M (fun x y => R x y ∨ (x = a ∧ y = b)) := by
  have hV : ∀ k, at0 (out.set b (at0 out a + cost a b)) k = if b = k then at0 out a + cost a b else at0 out k := fun k => at0_set out b k _ (by rw [h.lo_]; exact hb)
  have hm0 := h.m0
  have hbd : atB done b = false := by
    cases e : atB done b with
    | false => rfl
    | true => have := h.dn b hb e; omega
  have hba : b ≠ a := fun e => by subst e; rw [hd] at hbd; cases hbd
  have hbs : b ≠ src := fun e => by
    have := h.hsrc.2
    rw [← e] at this
    have := h.nd b hb hbd (by omega)
    omega
  refine ⟨by rw [List.length_set, h.lo_], h.ld, ⟨h.hsrc.1, by rw [hV, if_neg hbs]; exact h.hsrc.2⟩, ?_, ?_, h.cnt, h.m0, ?_, ?_, ?_, ?_, ?_⟩
  · intro k hk; rw [hV]; split
    · omega
    · exact h.low k hk
  · intro k hk; rw [hV]; split
    · omega
    · exact h.up k hk
  · intro k hk hdk
    rw [hV, if_neg (fun e => by subst e; rw [hdk] at hbd; cases hbd)]
    exact h.dn k hk hdk
  · intro k hk hdk h0
    rw [hV] at h0 ⊢
    split
    · omega
    · rename_i e; rw [if_neg e] at h0; exact h.nd k hk hdk h0
  · intro y hy hy0 hne
    rw [hV] at hy0 ⊢
    by_cases e : b = y
    · subst e
      exact ⟨a, ha, hd, hn, hc, by rw [if_pos rfl, hV, if_neg hba]⟩
    · rw [if_neg e] at hy0 ⊢
      obtain ⟨x, hx, hxd, h1, h2, h3⟩ := h.pred y hy hy0 hne
      exact ⟨x, hx, hxd, h1, h2, by rw [hV, if_neg (fun e => by subst e; rw [hxd] at hbd; cases hbd)]; exact h3⟩
  · intro x y hR
    rcases hR with hR | ⟨rfl, rfl⟩
    · exact h.rd x y hR
    · exact hd
  · intro x y hx hy hR hxy
    rw [hV, hV]
    rcases hR with hR | ⟨rfl, rfl⟩
    · have h1 := h.relax x y hx hy hR hxy
      have hxd := h.rd x y hR
      have e2 : b ≠ x := fun e => by subst e; rw [hxd] at hbd; cases hbd
      rw [if_neg e2]
      by_cases e : b = y
      · subst e
        rw [if_pos rfl]; omega
      · rw [if_neg e]; exact h1
    · rw [if_pos rfl, if_neg hba]; omega
/-- One that is beside stays. -/
theorem SInv.skip (h : SInv n src nb cost out done m M R) (a b : Nat) (hd : atB done a = true) (hlt : 0 < cost a b → 0 ≤ at0 out b ∧ at0 out b ≤ at0 out a + cost a b) :
    SInv n src nb cost out done m M (fun x y => R x y ∨ (x = a ∧ y = b)) :=
  ⟨h.lo_, h.ld, h.hsrc, h.low, h.up, h.cnt, h.m0, h.dn, h.nd, h.pred, fun x y hR => by
    rcases hR with hR | ⟨rfl, rfl⟩
    · exact h.rd x y hR
    · exact hd, fun x y hx hy hR hxy => by
    rcases hR with hR | ⟨rfl, rfl⟩
    · exact h.relax x y hx hy hR hxy
    · exact hlt hxy⟩
theorem SInv.fewer (h : SInv n src nb cost out done m M R) (R' : Nat → Nat → Prop) (hR : ∀ x y, R' x y → R x y) : SInv n src nb cost out done m M R' :=
  ⟨h.lo_, h.ld, h.hsrc, h.low, h.up, h.cnt, h.m0, h.dn, h.nd, h.pred, fun x y k => h.rd x y (hR x y k), fun x y hx hy k => h.relax x y hx hy (hR x y k)⟩
end
/-- How far it is from one to each. -/
structure Dist (n src : Nat) (nb : Nat → Nat → Prop) (cost : Nat → Nat → Int) (out : List Int) : Prop where
  len : out.length = n
  hsrc : src < n ∧ at0 out src = 0
  low : ∀ k, k < n → -1 ≤ at0 out k ∧ at0 out k ≤ 2 * n
  pred : ∀ b, b < n → 0 ≤ at0 out b → b ≠ src → ∃ a, a < n ∧ nb a b ∧ 0 < cost a b ∧ 0 ≤ at0 out a ∧ at0 out b = at0 out a + cost a b
  relax : ∀ a b, a < n → b < n → nb a b → 0 < cost a b → 0 ≤ at0 out a → 0 ≤ at0 out b ∧ at0 out b ≤ at0 out a + cost a b
theorem SInv.dist {n src : Nat} {nb : Nat → Nat → Prop} {cost : Nat → Nat → Int} {out : List Int} {done : List Bool} {m : Nat} {M : Int} (h : SInv n src nb cost out done m M (fun x y => atB done x = true ∧ nb x y)) (hend : ∀ k, k < n → at0 out k < 0 ∨ atB done k = true) : Dist n src nb cost out := by
  have hm := h.le
  refine ⟨h.lo_, h.hsrc, fun k hk => ⟨h.low k hk, by have := h.up k hk; omega⟩, ?_, ?_⟩
  · intro b hb h0 hne
    obtain ⟨a, ha, hd, h1, h2, h3⟩ := h.pred b hb h0 hne
    exact ⟨a, ha, h1, h2, (h.dn a ha hd).1, h3⟩
  · intro a b ha hb hn hc h0
    rcases hend a ha with h1 | h1
    · omega
    · exact h.relax a b ha hb ⟨h1, hn⟩ hc
/-- A way, step by step, and what it costs. -/
inductive Way (n : Nat) (nb : Nat → Nat → Prop) (cost : Nat → Nat → Int) : Nat → Nat → Int → Prop
  | here (a : Nat) : a < n → Way n nb cost a a 0
  | step (a b c : Nat) (d : Int) : Way n nb cost a b d → c < n → nb b c → 0 < cost b c → Way n nb cost a c (d + cost b c)
section
variable {n src : Nat} {nb : Nat → Nat → Prop} {cost : Nat → Nat → Int} {out : List Int}
theorem Way.lt {a b : Nat} {d : Int} (h : Way n nb cost a b d) : a < n ∧ b < n ∧ 0 ≤ d := by
  induction h with
  | here h => exact ⟨h, h, by omega⟩
  | step b c d hw hc hn hp ih => exact ⟨ih.1, hc, by omega⟩
theorem Way.trans {a b c : Nat} {d e : Int} (h : Way n nb cost a b d) (k : Way n nb cost b c e) : Way n nb cost a c (d + e) := by
  induction k with
  | here _ => simpa using h
  | step x y d' hw hy hn hc ih => rw [← Int.add_assoc]; exact .step _ _ _ _ ih hy hn hc
theorem Dist.least (h : Dist n src nb cost out) {b : Nat} {d : Int} (k : Way n nb cost src b d) : 0 ≤ at0 out b ∧ at0 out b ≤ d := by
  induction k with
  | here _ => have := h.hsrc.2; omega
  | step x y d' hw hy hn hc ih =>
    have := h.relax x y hw.lt.2.1 hy hn hc ih.1
    omega
theorem Dist.way (h : Dist n src nb cost out) : ∀ (f : Nat) (b : Nat), b < n → 0 ≤ at0 out b → at0 out b ≤ f → Way n nb cost src b (at0 out b)
  | f, b, hb, h0, hf => by
    by_cases e : b = src
    · subst e
      rw [h.hsrc.2]; exact .here _ hb
    · obtain ⟨a, ha, hn, hc, ha0, he⟩ := h.pred b hb h0 e
      match f, hf with
      | 0, hf => omega
      | f + 1, hf =>
        rw [he]
        exact .step _ _ _ _ (h.way f a ha ha0 (by omega)) hb hn hc
theorem Dist.way' (h : Dist n src nb cost out) (b : Nat) (hb : b < n) (h0 : 0 ≤ at0 out b) : Way n nb cost src b (at0 out b) := h.way (at0 out b).toNat b hb h0 (by omega)
theorem Dist.uniq (h : Dist n src nb cost out) {out' : List Int} (h' : Dist n src nb cost out') : out = out' := by
  refine List.ext_getElem (by rw [h.len, h'.len]) fun i h1 h2 => ?_
  have e1 : at0 out i = out[i] := by unfold at0; rw [List.getD_eq_getElem?_getD, List.getElem?_eq_getElem h1]; rfl
  have e2 : at0 out' i = out'[i] := by unfold at0; rw [List.getD_eq_getElem?_getD, List.getElem?_eq_getElem h2]; rfl
  rw [← e1, ← e2]
  have hi : i < n := by rw [← h.len]; exact h1
  have l1 := (h.low i hi).1
  have l2 := (h'.low i hi).1
  by_cases h0 : 0 ≤ at0 out i
  · have w1 := h'.least (h.way' i hi h0)
    have w2 := h.least (h'.way' i hi w1.1)
    omega
  · by_cases h3 : 0 ≤ at0 out' i
    · have := h.least (h'.way' i hi h3); omega
    · omega
/-- A way turned round. -/
theorem Way.back {cost' : Nat → Nat → Int} (hs : ∀ a b, a < n → b < n → nb a b → nb b a) (hc : ∀ a b, cost' b a = cost a b) {a b : Nat} {d : Int} (h : Way n nb cost a b d) : Way n nb cost' b a d := by
  induction h with
  | here h => exact .here _ h
  | step x y d hw hy hn hp ih =>
    have h1 : Way n nb cost' y x (0 + cost' y x) := .step _ _ _ _ (.here _ hy) hw.lt.2.1 (hs _ _ hw.lt.2.1 hy hn) (by rw [hc]; exact hp)
    have h2 := h1.trans ih
    rw [hc] at h2
    rw [show d + cost x y = 0 + cost x y + d by omega]
    exact h2
end
def costTo (f : GF) (fl : Bool) (a _b : Nat) : Int := ontoL f a fl
def costFrom (f : GF) (fl : Bool) (_a b : Nat) : Int := ontoL f b fl
theorem nb_in (f : GF) (h : Good f) (a b : Nat) (ha : a < f.ground.length) (hn : NB f a b) : b < f.ground.length := by
  have := bes_in f a b h.wide.1 (by omega) (by rw [← h.lg]; omega) hn
  rw [← h.lg] at this
  omega
theorem nb_sym (f : GF) (h : Good f) (a b : Nat) (ha : a < f.ground.length) (hn : NB f a b) : NB f b a := by
  obtain ⟨r0, r1⟩ := row_bd (a := (a : Int)) h.wide.1 (by omega) (by rw [← h.lg]; omega)
  exact bes_sym f a b h.wide.1 r0 r1 hn
/-! The next cell, and the cells of a way. -/
def okN (f : GF) (fl : Bool) (far : List Int) (a : Nat) (c : Int) : Bool := decide (0 < ontoL f c.toNat fl) && decide (0 ≤ at0 far c.toNat) && decide (ontoL f c.toNat fl + at0 far c.toNat = at0 far a)
def findD (p : Int → Bool) (d : Int) : List Int → Int
  | [] => d
  | x :: xs => if p x then x else findD p d xs
theorem findD_or (p : Int → Bool) (d : Int) : ∀ l : List Int, (findD p d l ∈ l ∧ p (findD p d l) = true) ∨ (findD p d l = d ∧ ∀ x ∈ l, p x = false)
  | [] => .inr ⟨rfl, by simp⟩
  | x :: xs => by
    unfold findD
    cases hx : p x with
    | true => simp [hx]
    | false =>
      simp only [Bool.false_eq_true, if_false]
      rcases findD_or p d xs with ⟨h1, h2⟩ | ⟨h1, h2⟩
      · exact .inl ⟨List.mem_cons_of_mem _ h1, h2⟩
      · exact .inr ⟨h1, fun y hy => by
          rcases List.mem_cons.1 hy with rfl | hy
          · exact hx
          · exact h2 y hy⟩
theorem findD_drop (p : Int → Bool) (d : Int) (l : List Int) (k : Nat) (h : k < l.length) : findD p d (l.drop k) = if p (l.getD k 0) then l.getD k 0 else findD p d (l.drop (k + 1)) := by
  rw [List.drop_eq_getElem_cons h, findD, List.getD_eq_getElem?_getD, List.getElem?_eq_getElem h]; rfl
def nextL (f : GF) (fl : Bool) (far : List Int) (a : Nat) : Nat := (findD (okN f fl far a) a (besL f a)).toNat
def DTo (f : GF) (fl : Bool) (src : Nat) (far : List Int) : Prop := Dist f.ground.length src (NB f) (costTo f fl) far
def DFrom (f : GF) (fl : Bool) (src : Nat) (far : List Int) : Prop := Dist f.ground.length src (NB f) (costFrom f fl) far
theorem next_spec (f : GF) (hg : Good f) (fl : Bool) (far : List Int) (to a : Nat) (h : DTo f fl to far) (ha : a < f.ground.length) (h0 : 0 ≤ at0 far a) (hne : a ≠ to) :
    nextL f fl far a < f.ground.length ∧ ((nextL f fl far a : Nat) : Int) ∈ besL f a ∧ 0 < ontoL f (nextL f fl far a) fl ∧ 0 ≤ at0 far (nextL f fl far a) ∧ ontoL f (nextL f fl far a) fl + at0 far (nextL f fl far a) = at0 far a := by
  obtain ⟨x, hx, hn, hc, hx0, he⟩ := h.pred a ha h0 hne
  have hn2 := nb_sym f hg x a hx hn
  have hp : okN f fl far a (x : Int) = true := by
    unfold okN costTo at *
    simp only [Int.toNat_natCast, Bool.and_eq_true, decide_eq_true_eq]
    exact ⟨⟨hc, hx0⟩, by omega⟩
  unfold nextL
  rcases findD_or (okN f fl far a) a (besL f a) with ⟨h1, h2⟩ | ⟨_, h2⟩
  · have hb := bes_in f a _ hg.wide.1 (by omega) (by rw [← hg.lg]; omega) h1
    rw [← hg.lg] at hb
    generalize findD (okN f fl far a) a (besL f a) = y at *
    obtain ⟨z, rfl⟩ : ∃ z : Nat, y = z := ⟨y.toNat, by omega⟩
    unfold okN at h2
    simp only [Int.toNat_natCast, Bool.and_eq_true, decide_eq_true_eq] at h2 ⊢
    exact ⟨by omega, h1, h2.1.1, h2.1.2, h2.2⟩
  · have := h2 _ hn2
    rw [hp] at this; cases this
/-- The cells of a way, but for the first. -/
def pathF (f : GF) (fl : Bool) (far : List Int) (to : Nat) : Nat → Nat → List Nat
  | 0, _ => []
  | k + 1, a => if a = to then [] else nextL f fl far a :: pathF f fl far to k (nextL f fl far a)
def pathL (f : GF) (fl : Bool) (far : List Int) (src to : Nat) : List Nat := src :: pathF f fl far to (at0 far src).toNat src
/-- What holds of a way. -/
inductive Goes (f : GF) (fl : Bool) (far : List Int) (to : Nat) : List Nat → Prop
  | one : to < f.ground.length → Goes f fl far to [to]
  | more (a b : Nat) (l : List Nat) : Goes f fl far to (b :: l) → a < f.ground.length → ((b : Nat) : Int) ∈ besL f a → 0 < ontoL f b fl → 0 ≤ at0 far b → ontoL f b fl + at0 far b = at0 far a → Goes f fl far to (a :: b :: l)
theorem onto_ge (f : GF) (k : Nat) (fl : Bool) (h : 0 < ontoL f k fl) : 1 ≤ ontoL f k fl := h
theorem path_goes (f : GF) (hg : Good f) (fl : Bool) (far : List Int) (to : Nat) (h : DTo f fl to far) : ∀ (k a : Nat), a < f.ground.length → 0 ≤ at0 far a → at0 far a ≤ k → Goes f fl far to (a :: pathF f fl far to k a)
  | 0, a, ha, h0, hk => by
    have : a = to := Classical.byContradiction fun hne => by
      have := next_spec f hg fl far to a h ha h0 hne
      omega
    subst this
    exact .one ha
  | k + 1, a, ha, h0, hk => by
    unfold pathF
    by_cases e : a = to
    · rw [if_pos e]; subst e; exact .one ha
    · rw [if_neg e]
      obtain ⟨h1, h2, h3, h4, h5⟩ := next_spec f hg fl far to a h ha h0 e
      exact .more _ _ _ (path_goes f hg fl far to h k _ h1 h4 (by omega)) ha h2 h3 h4 h5
theorem onto_air (f : GF) (k : Nat) (fl : Bool) (h : 0 < ontoL f k fl) : 0 < ontoL f k true ∧ ontoL f k true ≤ ontoL f k fl := by
  unfold ontoL ontoG at *
  generalize gAt f k = g at *
  cases fl <;> (repeat' split at h) <;> (repeat' split) <;> simp_all <;> omega
theorem way_air (f : GF) (fl : Bool) {a b : Nat} {d : Int} (h : Way f.ground.length (NB f) (costTo f fl) a b d) : ∃ d', d' ≤ d ∧ Way f.ground.length (NB f) (costTo f true) a b d' := by
  induction h with
  | here h => exact ⟨0, by omega, .here _ h⟩
  | step x y d hw hy hn hp ih =>
    obtain ⟨d', h1, h2⟩ := ih
    have h3 := onto_air f x fl hp
    exact ⟨d' + costTo f true x y, by unfold costTo at *; omega, .step _ _ _ _ h2 hy hn h3.1⟩
theorem far_air (f : GF) (fl : Bool) (far air : List Int) (to a : Nat) (h : DTo f fl to far) (h' : DTo f true to air) (ha : a < f.ground.length) (h0 : 0 ≤ at0 far a) : 0 ≤ at0 air a ∧ at0 air a ≤ at0 far a := by
  obtain ⟨d', h1, h2⟩ := way_air f fl (Dist.way' h a ha h0)
  have := Dist.least h' h2
  omega
/-- There and back: it is as far from one to the other as it is told to it. -/
theorem to_from (f : GF) (hg : Good f) (fl : Bool) (a b : Nat) (fr to : List Int) (h : DFrom f fl a fr) (h' : DTo f fl b to) : at0 fr b = at0 to a ∨ (at0 fr b < 0 ∧ at0 to a < 0) := by
  have hs : ∀ x y, x < f.ground.length → y < f.ground.length → NB f x y → NB f y x := fun x y hx _ hn => nb_sym f hg x y hx hn
  by_cases h0 : 0 ≤ at0 fr b
  · have w := Way.back (cost' := costTo f fl) hs (fun _ _ => rfl) (Dist.way' h b h'.hsrc.1 h0)
    have l := Dist.least h' w
    have w2 := Way.back (cost' := costFrom f fl) hs (fun _ _ => rfl) (Dist.way' h' a h.hsrc.1 l.1)
    have l2 := Dist.least h w2
    omega
  · by_cases h1 : 0 ≤ at0 to a
    · have w2 := Way.back (cost' := costFrom f fl) hs (fun _ _ => rfl) (Dist.way' h' a h.hsrc.1 h1)
      have l2 := Dist.least h w2
      omega
    · omega
end Go.Proofs.YtkgkpggfoieioaaGreatDoor
namespace Go.Proofs.YtkgkpggfoieioaaGreatDoor
set_option linter.unusedVariables false
/-! How far it is, by going over all cells again and again. -/
def gP (N : Nat) (x : Int) : Nat := if x < 0 then N else x.toNat
def potL (N : Nat) (l : List Int) : Nat := (l.map (gP N)).sum
def nnC (l : List Int) : Nat := (l.map (fun x : Int => if x < 0 then 0 else 1)).sum
theorem sum_set (g : Int → Nat) : ∀ (l : List Int) (b : Nat) (y : Int), b < l.length → ((l.set b y).map g).sum + g (at0 l b) = (l.map g).sum + g y
  | [], b, y, h => by simp at h
  | x :: l, 0, y, h => by simp [at0]; omega
  | x :: l, b + 1, y, h => by
    have := sum_set g l b y (by simpa using h)
    have e : at0 (x :: l) (b + 1) = at0 l b := by simp [at0]
    rw [List.set_cons_succ, List.map_cons, List.map_cons, List.sum_cons, List.sum_cons, e]
    omega
theorem nnC_le (l : List Int) : nnC l ≤ l.length := by
  unfold nnC
  induction l with
  | nil => simp
  | cons x l ih => rw [List.map_cons, List.sum_cons, List.length_cons]; split <;> omega
structure TInv (n src : Nat) (nb : Nat → Nat → Prop) (cost : Nat → Nat → Int) (l : List Int) : Prop where
  len : l.length = n
  hsrc : src < n ∧ at0 l src = 0
  low : ∀ k, k < n → -1 ≤ at0 l k
  up : ∀ k, k < n → at0 l k ≤ 2 * nnC l
  pred : ∀ b, b < n → 0 ≤ at0 l b → b ≠ src → ∃ a, a < n ∧ nb a b ∧ 0 < cost a b ∧ 0 ≤ at0 l a ∧ at0 l a + cost a b ≤ at0 l b
theorem nnC_rep (n : Nat) : nnC (List.replicate n (-1)) = 0 := by
  unfold nnC
  induction n with
  | zero => rfl
  | succ n ih => rw [List.replicate_succ, List.map_cons, List.sum_cons, ih]; rfl
theorem tinv_start (n src : Nat) (nb : Nat → Nat → Prop) (cost : Nat → Nat → Int) (h : src < n) : TInv n src nb cost ((List.replicate n (-1)).set src 0) := by
  have hv : ∀ k, k < n → at0 ((List.replicate n (-1)).set src 0) k = if src = k then 0 else -1 := fun k hk => by
    rw [at0_set _ _ _ _ (by simpa using h), at0_rep n _ k hk]
  refine ⟨by simp, ⟨h, by rw [hv src h, if_pos rfl]⟩, ?_, ?_, ?_⟩
  · intro k hk; rw [hv k hk]; split <;> omega
  · intro k hk; rw [hv k hk]; split <;> omega
  · intro b hb h0 hne; rw [hv b hb, if_neg (Ne.symm hne)] at h0; omega
section
variable {n src : Nat} {nb : Nat → Nat → Prop} {cost : Nat → Nat → Int} {l : List Int}
theorem TInv.up2 (h : TInv n src nb cost l) (k : Nat) (hk : k < n) : at0 l k ≤ 2 * n := by
  have := h.up k hk
  have := nnC_le l
  rw [h.len] at this
  omega
theorem TInv.tell (h : TInv n src nb cost l) (a b : Nat) (ha : a < n) (hb : b < n) (hn : nb a b) (hc : 0 < cost a b ∧ cost a b ≤ 2) (ha0 : 0 ≤ at0 l a) (hlt : at0 l b < 0 ∨ at0 l a + cost a b < at0 l b) :
    TInv n src nb cost (l.set b (at0 l a + cost a b)) ∧ potL (2 * n + 1) (l.set b (at0 l a + cost a b)) < potL (2 * n + 1) l := by
  have hV : ∀ k, at0 (l.set b (at0 l a + cost a b)) k = if b = k then at0 l a + cost a b else at0 l k := fun k => at0_set l b k _ (by rw [h.len]; exact hb)
  have hba : b ≠ a := fun e => by subst e; omega
  have hbs : b ≠ src := fun e => by have := h.hsrc.2; rw [← e] at this; omega
  have hua := h.up a ha
  have hua2 := h.up2 a ha
  have hub := h.up b hb
  have hub2 := h.up2 b hb
  have hcs := sum_set (fun x : Int => if x < 0 then 0 else 1) l b (at0 l a + cost a b) (by rw [h.len]; exact hb)
  have hps := sum_set (gP (2 * n + 1)) l b (at0 l a + cost a b) (by rw [h.len]; exact hb)
  have hcs' : nnC (l.set b (at0 l a + cost a b)) + (if at0 l b < 0 then 0 else 1) = nnC l + 1 := by
    have e : (if at0 l a + cost a b < 0 then 0 else 1) = 1 := if_neg (by omega)
    unfold nnC; rw [hcs, e]
  have hmono : nnC l ≤ nnC (l.set b (at0 l a + cost a b)) := by
    by_cases e : at0 l b < 0
    · rw [if_pos e] at hcs'; omega
    · rw [if_neg e] at hcs'; omega
  have hnew : at0 l a + cost a b ≤ 2 * nnC (l.set b (at0 l a + cost a b)) := by
    by_cases e : at0 l b < 0
    · rw [if_pos e] at hcs'; omega
    · omega
  refine ⟨⟨by rw [List.length_set, h.len], ⟨h.hsrc.1, by rw [hV, if_neg hbs]; exact h.hsrc.2⟩, ?_, ?_, ?_⟩, ?_⟩
  · intro k hk; rw [hV]; split
    · omega
    · exact h.low k hk
  · intro k hk; rw [hV]; split
    · exact hnew
    · have := h.up k hk; omega
  · intro y hy hy0 hne
    rw [hV] at hy0 ⊢
    by_cases e : b = y
    · subst e
      rw [if_pos rfl]
      exact ⟨a, ha, hn, hc.1, by rw [hV, if_neg hba]; exact ha0, by rw [hV, if_neg hba]; omega⟩
    · rw [if_neg e] at hy0 ⊢
      obtain ⟨x, hx, h1, h2, h3, h4⟩ := h.pred y hy hy0 hne
      refine ⟨x, hx, h1, h2, ?_, ?_⟩
      · rw [hV]; split
        · omega
        · exact h3
      · rw [hV]; split
        · rename_i e2; subst e2; omega
        · exact h4
  · unfold potL
    have e1 : gP (2 * n + 1) (at0 l a + cost a b) = (at0 l a + cost a b).toNat := if_neg (by omega)
    rw [e1] at hps
    by_cases e : at0 l b < 0
    · have e2 : gP (2 * n + 1) (at0 l b) = 2 * n + 1 := if_pos e
      rw [e2] at hps
      by_cases hz : nnC l = n
      · -- all are told: none is not
        exfalso
        have : ∀ (l : List Int), nnC l = l.length → ∀ b, b < l.length → ¬ at0 l b < 0 := by
          intro l
          induction l with
          | nil => intro _ b hb; simp at hb
          | cons x l ih =>
            intro hl b hb
            have hle := nnC_le l
            unfold nnC at hl hle
            rw [List.map_cons, List.sum_cons, List.length_cons] at hl
            have hx : ¬ x < 0 := fun hx => by rw [if_pos hx] at hl; omega
            rw [if_neg hx] at hl
            cases b with
            | zero => simpa [at0] using hx
            | succ b =>
              have := ih (by unfold nnC; omega) b (by simpa using hb)
              simpa [at0] using this
        exact this l (by rw [hz, h.len]) b (by rw [h.len]; exact hb) e
      · have := nnC_le l
        rw [h.len] at this
        omega
    · have e2 : gP (2 * n + 1) (at0 l b) = (at0 l b).toNat := if_neg e
      rw [e2] at hps
      omega
/-- The cells that were looked at have nothing nearer. -/
def Rlx (cost : Nat → Nat → Int) (l : List Int) (a b : Nat) : Prop := 0 < cost a b → 0 ≤ at0 l a → 0 ≤ at0 l b ∧ at0 l b ≤ at0 l a + cost a b
theorem TInv.dist (h : TInv n src nb cost l) (hr : ∀ a b, a < n → b < n → nb a b → Rlx cost l a b) : Dist n src nb cost l := by
  refine ⟨h.len, h.hsrc, fun k hk => ⟨h.low k hk, h.up2 k hk⟩, ?_, fun a b ha hb hn hc h0 => hr a b ha hb hn hc h0⟩
  intro b hb h0 hne
  obtain ⟨a, ha, h1, h2, h3, h4⟩ := h.pred b hb h0 hne
  have := (hr a b ha hb h1 h2 h3).2
  exact ⟨a, ha, h1, h2, h3, by omega⟩
end
/-- What was looked at: all beside the cells ahead of i, and the first j beside i. -/
def Seen (f : GF) (cost : Nat → Nat → Int) (l : List Int) (i j : Nat) : Prop :=
  (∀ x, x < i → ∀ a : Nat, (a : Int) ∈ besL f x → Rlx cost l a x) ∧ (∀ k, k < j → ∀ a : Nat, (besL f i).getD k 0 = (a : Int) → Rlx cost l a i)
theorem seen_0 (f : GF) (cost : Nat → Nat → Int) (l : List Int) : Seen f cost l 0 0 := ⟨fun x h => by omega, fun k h => by omega⟩
theorem seen_next {f : GF} {cost : Nat → Nat → Int} {l : List Int} {i j b : Nat} (h : Seen f cost l i j) (hb : (besL f i).getD j 0 = (b : Int)) (hr : Rlx cost l b i) : Seen f cost l i (j + 1) :=
  ⟨h.1, fun k hk a ha => by
    rcases Nat.lt_or_ge k j with h1 | h1
    · exact h.2 k h1 a ha
    · obtain rfl : k = j := by omega
      rw [hb] at ha
      obtain rfl : b = a := by omega
      exact hr⟩
theorem seen_row {f : GF} {cost : Nat → Nat → Int} {l : List Int} {i : Nat} (h : Seen f cost l i (besL f i).length) : Seen f cost l (i + 1) 0 :=
  ⟨fun x hx a ha => by
    rcases Nat.lt_or_ge x i with h1 | h1
    · exact h.1 x h1 a ha
    · obtain rfl : x = i := by omega
      obtain ⟨k, hk, he⟩ := List.getElem_of_mem ha
      exact h.2 k hk a (by rw [List.getD_eq_getElem?_getD, List.getElem?_eq_getElem hk]; exact he), fun k h => by omega⟩
theorem seen_all {f : GF} (hg : Good f) {fl : Bool} {src : Nat} {l : List Int} (h : TInv f.ground.length src (NB f) (costTo f fl) l) (hs : Seen f (costTo f fl) l f.ground.length 0) : DTo f fl src l :=
  h.dist fun a b ha hb hn => hs.1 b hb a (nb_sym f hg a b ha hn)
/-- One round: nothing has turned, and all that was looked at is as it should be; or it has become less. -/
def Rnd (f : GF) (cost : Nat → Nat → Int) (l0 l : List Int) (i j : Nat) (m : Bool) : Prop :=
  (m = false ∧ l = l0 ∧ Seen f cost l i j) ∨ (m = true ∧ potL (2 * f.ground.length + 1) l < potL (2 * f.ground.length + 1) l0)
theorem rnd_0 (f : GF) (cost : Nat → Nat → Int) (l : List Int) : Rnd f cost l l 0 0 false := .inl ⟨rfl, rfl, seen_0 f cost l⟩
theorem rnd_skip {f : GF} {cost : Nat → Nat → Int} {l0 l : List Int} {i j b : Nat} {m : Bool} (h : Rnd f cost l0 l i j m) (hb : (besL f i).getD j 0 = (b : Int)) (hr : Rlx cost l b i) : Rnd f cost l0 l i (j + 1) m := by
  rcases h with ⟨h1, h2, h3⟩ | h
  · exact .inl ⟨h1, h2, seen_next h3 hb hr⟩
  · exact .inr h
theorem rnd_tell {f : GF} {cost : Nat → Nat → Int} {l0 l l' : List Int} {i j : Nat} {m : Bool} (h : Rnd f cost l0 l i j m) (hp : potL (2 * f.ground.length + 1) l' < potL (2 * f.ground.length + 1) l) : Rnd f cost l0 l' i (j + 1) true := by
  rcases h with ⟨h1, h2, h3⟩ | h
  · exact .inr ⟨rfl, by rw [← h2]; exact hp⟩
  · exact .inr ⟨rfl, Nat.lt_trans hp h.2⟩
theorem rnd_row {f : GF} {cost : Nat → Nat → Int} {l0 l : List Int} {i : Nat} {m : Bool} (h : Rnd f cost l0 l i (besL f i).length m) : Rnd f cost l0 l (i + 1) 0 m := by
  rcases h with ⟨h1, h2, h3⟩ | h
  · exact .inl ⟨h1, h2, seen_row h3⟩
  · exact .inr h
end Go.Proofs.YtkgkpggfoieioaaGreatDoor
namespace Go.Proofs.YtkgkpggfoieioaaGreatDoor
set_option linter.unusedVariables false
open Go.RowKit
/-! Whole blocks of numbers, and of truths. -/
def arrI (xs : List Int) : Array Value := (xs.map (.int .i64)).toArray
def arrB (xs : List Bool) : Array Value := (xs.map .bool).toArray
theorem arrI_size (xs : List Int) : (arrI xs).size = xs.length := by simp [arrI]
theorem arrB_size (xs : List Bool) : (arrB xs).size = xs.length := by simp [arrB]
section
variable {w : World} {g : Nat} {t : TypeId}
theorem Blk.atI {xs : List Int} (h : Blk w g t (arrI xs)) (k : Nat) (hk : k < xs.length) : w.cell? ⟨g, k, none⟩ = some (.int .i64 (at0 xs k)) := by
  rw [h.cell k]; unfold arrI at0; rw [List.getElem?_toArray, List.getElem?_map, List.getD_eq_getElem?_getD, List.getElem?_eq_getElem hk]; rfl
theorem Blk.atB {xs : List Bool} (h : Blk w g t (arrB xs)) (k : Nat) (hk : k < xs.length) : w.cell? ⟨g, k, none⟩ = some (.bool (atB xs k)) := by
  rw [h.cell k]; unfold arrB Proofs.YtkgkpggfoieioaaGreatDoor.atB; rw [List.getElem?_toArray, List.getElem?_map, List.getD_eq_getElem?_getD, List.getElem?_eq_getElem hk]; rfl
theorem Blk.setI {xs : List Int} (h : Blk w g t (arrI xs)) (k : Nat) (x : Int) : Blk (w.setCell ⟨g, k, none⟩ (.int .i64 x)) g t (arrI (xs.set k x)) := by
  have := h.set_ k (.int .i64 x)
  unfold arrI at *
  rwa [List.setIfInBounds_toArray, ← List.map_set] at this
theorem Blk.setB {xs : List Bool} (h : Blk w g t (arrB xs)) (k : Nat) (x : Bool) : Blk (w.setCell ⟨g, k, none⟩ (.bool x)) g t (arrB (xs.set k x)) := by
  have := h.set_ k (.bool x)
  unfold arrB at *
  rwa [List.setIfInBounds_toArray, ← List.map_set] at this
theorem Blk.rdI {xs : List Int} (h : Blk w g t (arrI xs)) : RD w w.heap.size 1 (some ⟨g, 0, none⟩) xs.length (xs.map (.int .i64)) :=
  ⟨by simp, fun _ => ⟨g, 0, rfl, h.lt, fun j hj => by rw [Nat.zero_add, h.cell j]; unfold arrI; rw [List.getElem?_toArray]⟩⟩
end
theorem madeI (n : Nat) : madeCells #[.int .i64 0] n = arrI (List.replicate n 0) := by
  have := toList_madeCells_one (.int .i64 0) n
  unfold arrI
  rw [List.map_replicate, ← this]
theorem madeB (n : Nat) : madeCells #[.bool false] n = arrB (List.replicate n false) := by
  have := toList_madeCells_one (.bool false) n
  unfold arrB
  rw [List.map_replicate, ← this]
/-- How many truths a block holds. -/
def trues (w : World) (g : Nat) : Nat := match w.heap[g]? with
  | some (.cells cs _ _) => (cs.toList.filter (fun v => match v with | .bool true => true | _ => false)).length
  | _ => 0
theorem trues_blk {w : World} {g : Nat} {t : TypeId} {xs : List Bool} (h : Blk w g t (arrB xs)) : trues w g = xs.count true := by
  unfold trues
  unfold Blk at h
  rw [h]
  show ((arrB xs).toList.filter _).length = _
  unfold arrB
  rw [List.toList_toArray]
  clear h
  induction xs with
  | nil => rfl
  | cons x xs ih => cases x <;> simp_all
end Go.Proofs.YtkgkpggfoieioaaGreatDoor
namespace Go.Proofs.YtkgkpggfoieioaaGreatDoor
set_option linter.unusedVariables false
open Go.ChangeShapes Go.WideShapes Go.RowKit Go.Deep
section
variable {H : Type} {enc : TypeId × Value → H} {P : Program} {w : World} {held : Bool}
/-- A slice of integers, opened. -/
theorem opI {t e : TypeId} {k : IntKind} {fuel : Nat} {cs : List Value} {x : DataW H × List MemPlace} (ht : P.underlying t = some (.slice e)) (he : P.underlying e = some (.int k)) (hc : P.cellsOf e = 1)
    (h : DataW.trod enc P w 0 (fun _ => true) held fuel t cs = some x) :
    ∃ (A : Option Addr) (n c : Nat) (xs : List Int), cs = [.slice A n c] ∧ xs.length = n ∧ RD w w.heap.size 1 A n (xs.map (.int k)) ∧ (∀ y ∈ xs, (Lit.int k y).wf = true) ∧ (A = none → c = 0) ∧ n ≤ c ∧ c ≤ maxLen := by
  rcases open_ints ht he hc h with ⟨rfl, _⟩ | ⟨a, l, c, zs, rfl, _, hl, hm, hz, _, hcell, hwz⟩
  · exact ⟨none, 0, 0, [], rfl, rfl, RD.nil_, by simp, fun _ => rfl, Nat.le_refl _, by unfold maxLen; omega⟩
  · obtain ⟨xs, h1, h2, h3, _, h5⟩ := isRow_rd (k := k) (w := w) (a := some a) (len := l) (cap := c) (zs := zs) (.inr ⟨a, rfl, hl, hm, by simpa using hz, hcell, hwz⟩)
    exact ⟨some a, l, c, xs, rfl, h1, h2, h3, (fun h => by cases h), h5, hm⟩
/-- A slice of structs of one-cell fields, opened: what each cell holds. -/
theorem opV {t e : TypeId} {fs : Array Field} {fuel : Nat} {cs : List Value} {x : DataW H × List MemPlace} (ht : P.underlying t = some (.slice e)) (he : P.underlying e = some (.struct fs))
    (hone : oneCellFields P fs = true) (hC : P.cellsOf e = fs.size) (hf0 : 0 < fs.size) (h : DataW.trod enc P w 0 (fun _ => true) held fuel t cs = some x) :
    ∃ (A : Option Addr) (n c : Nat) (val : Nat → Nat → Value), cs = [.slice A n c] ∧ (A = none → c = 0) ∧ n ≤ c ∧ c ≤ maxLen ∧
      (∀ i, i < n → ∀ (j : Nat) (f : Field), fs[j]? = some f → ∃ (m : Nat) (y : DataW H × List MemPlace), DataW.trod enc P w 0 (fun _ => true) held m f.type [val i j] = some y) ∧
      RD w w.heap.size fs.size A n ((List.range n).flatMap fun i => (List.range fs.size).map (val i)) := by
  rcases open_slice ht h with ⟨rfl, _⟩ | ⟨a, len, cap, m, n, D, Pl, rfl, hb, hl, hm, hmm, hx, hi⟩
  · exact ⟨none, 0, 0, fun _ _ => .bool false, rfl, (fun _ => rfl), Nat.le_refl _, by unfold maxLen; omega, (fun i hi => by omega), RD.nil_⟩
  · simp only [if_true] at hmm
    subst hmm
    have key : ∀ i, i < m → ∀ j, j < fs.size → ∃ v, w.cell? (a.add (i * fs.size + j)) = some v ∧ ∀ f, fs[j]? = some f → ∃ (n' : Nat) (y : DataW H × List MemPlace), DataW.trod enc P w 0 (fun _ => true) held n' f.type [v] = some y := by
      intro i him j hj
      obtain ⟨cs', hc, ht'⟩ := hi i him
      rw [hC] at hc
      obtain ⟨ys, n', hn', hy, hlen, hyl, hf⟩ := DataW.trod_struct he ht'
      obtain ⟨_, hcl, hat⟩ := World.cells?_some hc
      have hcell := hat j hj
      have hv : cs'[j]? = some (cs'[j]'(by omega)) := List.getElem?_eq_getElem (by omega)
      refine ⟨cs'[j]'(by omega), by rw [← Go.Deep.add_add, hcell, hv], fun f hj' => ?_⟩
      obtain ⟨ho, hk⟩ := hone_of hone j f hj'
      have h1 := hf j f hj'
      rw [ho, hk] at h1
      have hone' : (cs'.drop j).take 1 = [cs'[j]'(by omega)] := by
        rw [List.drop_eq_getElem_cons (by omega)]
        rfl
      rw [hone'] at h1
      have hys : ys[j]? = some (ys[j]'(by omega)) := List.getElem?_eq_getElem (by omega)
      exact ⟨_, _, h1.trans hys⟩
    refine ⟨some a, len, m, fun i j => (w.cell? (a.add (i * fs.size + j))).getD (.bool false), rfl, (fun h => by cases h), hl, hm, fun i hi j f hj => ?_, by rw [flat_len _ fs.size (by intro x; simp)]; simp, fun hn => ?_⟩
    · have hjl : j < fs.size := (Array.getElem?_eq_some_iff.1 hj).1
      obtain ⟨v, hv, hf⟩ := key i (by omega) j hjl
      simp only [hv, Option.getD_some]
      exact hf f hj
    · obtain ⟨b, off, spot⟩ := a
      obtain ⟨v0, h0, _⟩ := key 0 (by omega) 0 hf0
      have hs0 : spot = none := by
        have := World.cell?_spot h0
        simpa [Addr.add] using this
      subst hs0
      refine ⟨b, off, rfl, ?_, fun q hq => ?_⟩
      · rcases Nat.lt_or_ge b w.heap.size with hlt | hge
        · exact hlt
        · simp [Addr.add, World.cell?, Array.getElem?_eq_none hge] at h0
      · have hqi : q / fs.size < len := Nat.div_lt_of_lt_mul (by rw [Nat.mul_comm]; exact hq)
        have hqj : q % fs.size < fs.size := Nat.mod_lt _ hf0
        have hqq : q = q / fs.size * fs.size + q % fs.size := by have := Nat.div_add_mod q fs.size; rw [Nat.mul_comm] at this; omega
        obtain ⟨v, hv, _⟩ := key (q / fs.size) (by omega) (q % fs.size) hqj
        generalize q / fs.size = i at *
        generalize q % fs.size = j at *
        subst hqq
        rw [flat_get _ fs.size (by intro x; simp) _ _ _ hqj, List.getElem?_range hqi]
        simp only [Option.bind_some, List.getElem?_map, List.getElem?_range hqj, Option.map_some]
        rw [← addr_add, hv]; rfl
/-- A struct's field, by its place, offset and type. -/
theorem trod_fld {t : TypeId} {fs : Array Field} {fuel : Nat} {cs : List Value} {x : DataW H × List MemPlace} (ht : P.underlying t = some (.struct fs)) (h : DataW.trod enc P w 0 (fun _ => true) held fuel t cs = some x)
    (i off T k : Nat) (hi : (fs[i]?).map (fun f => (f.offset, f.type)) = some (off, T)) (hk : P.cellsOf T = k) : ∃ (m : Nat) (y : DataW H × List MemPlace), DataW.trod enc P w 0 (fun _ => true) held m T ((cs.drop off).take k) = some y := by
  obtain ⟨xs, n, _, _, _, hxl, hf⟩ := DataW.trod_struct ht h
  cases hfi : fs[i]? with
  | none => rw [hfi] at hi; cases hi
  | some f =>
    rw [hfi] at hi
    simp only [Option.map_some, Option.some.injEq, Prod.mk.injEq] at hi
    obtain ⟨rfl, rfl⟩ := hi
    have hlt : i < fs.size := (Array.getElem?_eq_some_iff.1 hfi).1
    have h1 := hf i f hfi
    rw [hk, List.getElem?_eq_getElem (by omega)] at h1
    exact ⟨n, _, h1⟩
/-- A slice of things of one cell each, opened: what each cell holds. -/
theorem opR {t e : TypeId} {fuel : Nat} {cs : List Value} {x : DataW H × List MemPlace} (ht : P.underlying t = some (.slice e)) (hC : P.cellsOf e = 1)
    (h : DataW.trod enc P w 0 (fun _ => true) held fuel t cs = some x) :
    ∃ (A : Option Addr) (n c : Nat) (val : Nat → Value), cs = [.slice A n c] ∧ (A = none → c = 0) ∧ n ≤ c ∧ c ≤ maxLen ∧
      (∀ i, i < n → ∃ (m : Nat) (y : DataW H × List MemPlace), DataW.trod enc P w 0 (fun _ => true) held m e [val i] = some y) ∧
      RD w w.heap.size 1 A n ((List.range n).map val) := by
  rcases open_slice ht h with ⟨rfl, _⟩ | ⟨a, len, cap, m, n, D, Pl, rfl, hb, hl, hm, hmm, hx, hi⟩
  · exact ⟨none, 0, 0, fun _ => .bool false, rfl, (fun _ => rfl), Nat.le_refl _, by unfold maxLen; omega, (fun i hi => by omega), RD.nil_⟩
  · simp only [if_true] at hmm
    subst hmm
    have key : ∀ i, i < m → ∃ v, w.cell? (a.add i) = some v ∧ ∃ (y : DataW H × List MemPlace), DataW.trod enc P w 0 (fun _ => true) held n e [v] = some y := by
      intro i him
      obtain ⟨cs', hc, ht'⟩ := hi i him
      rw [hC] at hc
      obtain ⟨_, hcl, hat⟩ := World.cells?_some hc
      have hcell := hat 0 (by omega)
      match cs', hcl with
      | [v], _ =>
        refine ⟨v, ?_, _, ht'⟩
        rw [Go.Deep.add_add] at hcell
        simpa using hcell
    refine ⟨some a, len, m, fun i => (w.cell? (a.add i)).getD (.bool false), rfl, (fun h => by cases h), hl, hm, fun i hi => ?_, by simp, fun hn => ?_⟩
    · obtain ⟨v, hv, y, hy⟩ := key i (by omega)
      simp only [hv, Option.getD_some]
      exact ⟨n, y, hy⟩
    · obtain ⟨b, off, spot⟩ := a
      obtain ⟨v0, h0, _⟩ := key 0 (by omega)
      have hs0 : spot = none := by
        have := World.cell?_spot h0
        simpa [Addr.add] using this
      subst hs0
      refine ⟨b, off, rfl, ?_, fun q hq => ?_⟩
      · rcases Nat.lt_or_ge b w.heap.size with hlt | hge
        · exact hlt
        · simp [Addr.add, World.cell?, Array.getElem?_eq_none hge] at h0
      · obtain ⟨v, hv, _⟩ := key q (by omega)
        rw [List.getElem?_map, List.getElem?_range (by omega)]
        simp only [Option.map_some]
        rw [← addr_add, hv]; rfl
/-- Of each index a thing: a list of them. -/
theorem list_of {α : Type} {Q : Nat → α → Prop} : ∀ (n : Nat), (∀ i, i < n → ∃ a, Q i a) → ∃ l : List α, l.length = n ∧ ∀ i a, l[i]? = some a → Q i a
  | 0, _ => ⟨[], rfl, fun i a h => by simp at h⟩
  | n + 1, h => by
    obtain ⟨l, hl, hq⟩ := list_of n (fun i hi => h i (by omega))
    obtain ⟨a, ha⟩ := h n (by omega)
    refine ⟨l ++ [a], by simp [hl], fun i b hb => ?_⟩
    rcases Nat.lt_or_ge i n with hi | hi
    · rw [List.getElem?_append_left (by omega)] at hb
      exact hq i b hb
    · rw [List.getElem?_append_right (by omega)] at hb
      rcases Nat.eq_or_lt_of_le hi with e | e
      · subst e
        rw [hl, Nat.sub_self] at hb
        simp at hb
        subst hb; exact ha
      · rw [List.getElem?_eq_none (by simp; omega)] at hb
        cases hb
end
end Go.Proofs.YtkgkpggfoieioaaGreatDoor
namespace Go.Proofs.YtkgkpggfoieioaaGreatDoor
set_option linter.unusedVariables false
open Go.ChangeShapes Go.WideShapes Go.RowKit Go.Deep
/-- The slices of a world's parts. -/
structure SL where
  A : Option Addr
  c : Nat
theorem fm_congr {α β : Type} {f g : α → List β} {l : List α} (h : ∀ x ∈ l, f x = g x) : l.flatMap f = l.flatMap g := by
  rw [List.flatMap_def, List.flatMap_def, List.map_congr_left h]
theorem i64_wf {x : Int} (h : (Lit.int .i64 x).wf = true) : I64 x := bounds_i64 h
theorem unit_all {H : Type} {enc : TypeId × Value → H} {P : Program} {w : World} {held : Bool} {m : Nat} {t : TypeId} {v : Value} {y : DataW H × List MemPlace} (ht : P.underlying t = some (.int .i64)) (h : DataW.trod enc P w 0 (fun _ => true) held m t [v] = some y) : v = .int .i64 (vi v) ∧ I64 (vi v) := by
  obtain ⟨n, h1, _, h3⟩ := DataW.trod_int ht h
  injection h1 with h1
  subst h1
  exact ⟨rfl, i64_wf h3⟩
end Go.Proofs.YtkgkpggfoieioaaGreatDoor
