import Derived.Test.YtkkdegcbikjebaaDoorPlainS
namespace Go.Proofs.YtkkdegcbikjebaaDoor
set_option linter.unusedVariables false
/-! How far it is, by going over all cells again and again. -/
def gP (N : Nat) (x : Int) : Nat := if x < 0 then N else x.toNat
def potL (N : Nat) (l : List Int) : Nat := (l.map (gP N)).sum
def nnC (l : List Int) : Nat := (l.map (fun x : Int => if x < 0 then 0 else 1)).sum
theorem sum_set (g : Int → Nat) : ∀ (l : List Int) (b : Nat) (y : Int), b < l.length → ((l.set b y).map g).sum + g (at0 l b) = (l.map g).sum + g y
  | [], b, y, h => by simp at h
  | x :: l, 0, y, h => by simp [at0]; omega
  | x :: l, b + 1, y, h => by
    have := sum_set g l b y (by simpa using h)
    have e : at0 (x :: l) (b + 1) = at0 l b := by simp [at0]
    rw [List.set_cons_succ, List.map_cons, List.map_cons, List.sum_cons, List.sum_cons, e]
    omega
theorem nnC_le (l : List Int) : nnC l ≤ l.length := by
  unfold nnC
  induction l with
  | nil => simp
  | cons x l ih => rw [List.map_cons, List.sum_cons, List.length_cons]; split <;> omega
structure TInv (n src : Nat) (nb : Nat → Nat → Prop) (cost : Nat → Nat → Int) (l : List Int) : Prop where
  len : l.length = n
  hsrc : src < n ∧ at0 l src = 0
  low : ∀ k, k < n → -1 ≤ at0 l k
  up : ∀ k, k < n → at0 l k ≤ 2 * nnC l
  pred : ∀ b, b < n → 0 ≤ at0 l b → b ≠ src → ∃ a, a < n ∧ nb a b ∧ 0 < cost a b ∧ 0 ≤ at0 l a ∧ at0 l a + cost a b ≤ at0 l b
theorem nnC_rep (n : Nat) : nnC (List.replicate n (-1)) = 0 := by
  unfold nnC
  induction n with
  | zero => rfl
  | succ n ih => rw [List.replicate_succ, List.map_cons, List.sum_cons, ih]; rfl
theorem tinv_start (n src : Nat) (nb : Nat → Nat → Prop) (cost : Nat → Nat → Int) (h : src < n) : TInv n src nb cost ((List.replicate n (-1)).set src 0) := by
  have hv : ∀ k, k < n → at0 ((List.replicate n (-1)).set src 0) k = if src = k then 0 else -1 := fun k hk => by
    rw [at0_set _ _ _ _ (by simpa using h), at0_rep n _ k hk]
  refine ⟨by simp, ⟨h, by rw [hv src h, if_pos rfl]⟩, ?_, ?_, ?_⟩
  · intro k hk; rw [hv k hk]; split <;> omega
  · intro k hk; rw [hv k hk]; split <;> omega
  · intro b hb h0 hne; rw [hv b hb, if_neg (Ne.symm hne)] at h0; omega
section
variable {n src : Nat} {nb : Nat → Nat → Prop} {cost : Nat → Nat → Int} {l : List Int}
theorem TInv.up2 (h : TInv n src nb cost l) (k : Nat) (hk : k < n) : at0 l k ≤ 2 * n := by
  have := h.up k hk
  have := nnC_le l
  rw [h.len] at this
  omega
theorem TInv.tell (h : TInv n src nb cost l) (a b : Nat) (ha : a < n) (hb : b < n) (hn : nb a b) (hc : 0 < cost a b ∧ cost a b ≤ 2) (ha0 : 0 ≤ at0 l a) (hlt : at0 l b < 0 ∨ at0 l a + cost a b < at0 l b) :
    TInv n src nb cost (l.set b (at0 l a + cost a b)) ∧ potL (2 * n + 1) (l.set b (at0 l a + cost a b)) < potL (2 * n + 1) l := by
  have hV : ∀ k, at0 (l.set b (at0 l a + cost a b)) k = if b = k then at0 l a + cost a b else at0 l k := fun k => at0_set l b k _ (by rw [h.len]; exact hb)
  have hba : b ≠ a := fun e => by subst e; omega
  have hbs : b ≠ src := fun e => by have := h.hsrc.2; rw [← e] at this; omega
  have hua := h.up a ha
  have hua2 := h.up2 a ha
  have hub := h.up b hb
  have hub2 := h.up2 b hb
  have hcs := sum_set (fun x : Int => if x < 0 then 0 else 1) l b (at0 l a + cost a b) (by rw [h.len]; exact hb)
  have hps := sum_set (gP (2 * n + 1)) l b (at0 l a + cost a b) (by rw [h.len]; exact hb)
  have hcs' : nnC (l.set b (at0 l a + cost a b)) + (if at0 l b < 0 then 0 else 1) = nnC l + 1 := by
    have e : (if at0 l a + cost a b < 0 then 0 else 1) = 1 := if_neg (by omega)
    unfold nnC; rw [hcs, e]
  have hmono : nnC l ≤ nnC (l.set b (at0 l a + cost a b)) := by
    by_cases e : at0 l b < 0
    · rw [if_pos e] at hcs'; omega
    · rw [if_neg e] at hcs'; omega
  have hnew : at0 l a + cost a b ≤ 2 * nnC (l.set b (at0 l a + cost a b)) := by
    by_cases e : at0 l b < 0
    · rw [if_pos e] at hcs'; omega
    · omega
  refine ⟨⟨by rw [List.length_set, h.len], ⟨h.hsrc.1, by rw [hV, if_neg hbs]; exact h.hsrc.2⟩, ?_, ?_, ?_⟩, ?_⟩
  · intro k hk; rw [hV]; split
    · omega
    · exact h.low k hk
  · intro k hk; rw [hV]; split
    · exact hnew
    · have := h.up k hk; omega
  · intro y hy hy0 hne
    rw [hV] at hy0 ⊢
    by_cases e : b = y
    · subst e
      rw [if_pos rfl]
      exact ⟨a, ha, hn, hc.1, by rw [hV, if_neg hba]; exact ha0, by rw [hV, if_neg hba]; omega⟩
    · rw [if_neg e] at hy0 ⊢
      obtain ⟨x, hx, h1, h2, h3, h4⟩ := h.pred y hy hy0 hne
      refine ⟨x, hx, h1, h2, ?_, ?_⟩
      · rw [hV]; split
        · omega
        · exact h3
      · rw [hV]; split
        · rename_i e2; subst e2; omega
        · exact h4
  · unfold potL
    have e1 : gP (2 * n + 1) (at0 l a + cost a b) = (at0 l a + cost a b).toNat := if_neg (by omega)
    rw [e1] at hps
    by_cases e : at0 l b < 0
    · have e2 : gP (2 * n + 1) (at0 l b) = 2 * n + 1 := if_pos e
      rw [e2] at hps
      by_cases hz : nnC l = n
      · -- all are told: none is not
        exfalso
        have : ∀ (l : List Int), nnC l = l.length → ∀ b, b < l.length → ¬ at0 l b < 0 := by
          intro l
          induction l with
          | nil => intro _ b hb; simp at hb
          | cons x l ih =>
            intro hl b hb
            have hle := nnC_le l
            unfold nnC at hl hle
            rw [List.map_cons, List.sum_cons, List.length_cons] at hl
            have hx : ¬ x < 0 := fun hx => by rw [if_pos hx] at hl; omega
            rw [if_neg hx] at hl
            cases b with
            | zero => simpa [at0] using hx
            | succ b =>
              have := ih (by unfold nnC; omega) b (by simpa using hb)
              simpa [at0] using this
        exact this l (by rw [hz, h.len]) b (by rw [h.len]; exact hb) e
      · have := nnC_le l
        rw [h.len] at this
        omega
    · have e2 : gP (2 * n + 1) (at0 l b) = (at0 l b).toNat := if_neg e
      rw [e2] at hps
      omega
/-- The cells that were looked at have nothing nearer. -/
def Rlx (cost : Nat → Nat → Int) (l : List Int) (a b : Nat) : Prop := 0 < cost a b → 0 ≤ at0 l a → 0 ≤ at0 l b ∧ at0 l b ≤ at0 l a + cost a b
theorem TInv.dist (h : TInv n src nb cost l) (hr : ∀ a b, a < n → b < n → nb a b → Rlx cost l a b) : Dist n src nb cost l := by
  refine ⟨h.len, h.hsrc, fun k hk => ⟨h.low k hk, h.up2 k hk⟩, ?_, fun a b ha hb hn hc h0 => hr a b ha hb hn hc h0⟩
  intro b hb h0 hne
  obtain ⟨a, ha, h1, h2, h3, h4⟩ := h.pred b hb h0 hne
  have := (hr a b ha hb h1 h2 h3).2
  exact ⟨a, ha, h1, h2, h3, by omega⟩
end
/-- What was looked at: all beside the cells ahead of i, and the first j beside i. -/
def Seen (f : GF) (cost : Nat → Nat → Int) (l : List Int) (i j : Nat) : Prop :=
  (∀ x, x < i → ∀ a : Nat, (a : Int) ∈ besL f x → Rlx cost l a x) ∧ (∀ k, k < j → ∀ a : Nat, (besL f i).getD k 0 = (a : Int) → Rlx cost l a i)
theorem seen_0 (f : GF) (cost : Nat → Nat → Int) (l : List Int) : Seen f cost l 0 0 := ⟨fun x h => by omega, fun k h => by omega⟩
theorem seen_next {f : GF} {cost : Nat → Nat → Int} {l : List Int} {i j b : Nat} (h : Seen f cost l i j) (hb : (besL f i).getD j 0 = (b : Int)) (hr : Rlx cost l b i) : Seen f cost l i (j + 1) :=
  ⟨h.1, fun k hk a ha => by
    rcases Nat.lt_or_ge k j with h1 | h1
    · exact h.2 k h1 a ha
    · obtain rfl : k = j := by omega
      rw [hb] at ha
      obtain rfl : b = a := by omega
      exact hr⟩
theorem seen_row {f : GF} {cost : Nat → Nat → Int} {l : List Int} {i : Nat} (h : Seen f cost l i (besL f i).length) : Seen f cost l (i + 1) 0 :=
  ⟨fun x hx a ha => by
    rcases Nat.lt_or_ge x i with h1 | h1
    · exact h.1 x h1 a ha
    · obtain rfl : x = i := by omega
      obtain ⟨k, hk, he⟩ := List.getElem_of_mem ha
      exact h.2 k hk a (by rw [List.getD_eq_getElem?_getD, List.getElem?_eq_getElem hk]; exact he), fun k h => by omega⟩
theorem seen_all {f : GF} (hg : Good f) {fl : Bool} {src : Nat} {l : List Int} (h : TInv f.ground.length src (NB f) (costTo f fl) l) (hs : Seen f (costTo f fl) l f.ground.length 0) : DTo f fl src l :=
  h.dist fun a b ha hb hn => hs.1 b hb a (nb_sym f hg a b ha hn)
/-- One round: nothing has turned, and all that was looked at is as it should be; or it has become less. -/
def Rnd (f : GF) (cost : Nat → Nat → Int) (l0 l : List Int) (i j : Nat) (m : Bool) : Prop :=
  (m = false ∧ l = l0 ∧ Seen f cost l i j) ∨ (m = true ∧ potL (2 * f.ground.length + 1) l < potL (2 * f.ground.length + 1) l0)
theorem rnd_0 (f : GF) (cost : Nat → Nat → Int) (l : List Int) : Rnd f cost l l 0 0 false := .inl ⟨rfl, rfl, seen_0 f cost l⟩
theorem rnd_skip {f : GF} {cost : Nat → Nat → Int} {l0 l : List Int} {i j b : Nat} {m : Bool} (h : Rnd f cost l0 l i j m) (hb : (besL f i).getD j 0 = (b : Int)) (hr : Rlx cost l b i) : Rnd f cost l0 l i (j + 1) m := by
  rcases h with ⟨h1, h2, h3⟩ | h
  · exact .inl ⟨h1, h2, seen_next h3 hb hr⟩
  · exact .inr h
theorem rnd_tell {f : GF} {cost : Nat → Nat → Int} {l0 l l' : List Int} {i j : Nat} {m : Bool} (h : Rnd f cost l0 l i j m) (hp : potL (2 * f.ground.length + 1) l' < potL (2 * f.ground.length + 1) l) : Rnd f cost l0 l' i (j + 1) true := by
  rcases h with ⟨h1, h2, h3⟩ | h
  · exact .inr ⟨rfl, by rw [← h2]; exact hp⟩
  · exact .inr ⟨rfl, Nat.lt_trans hp h.2⟩
theorem rnd_row {f : GF} {cost : Nat → Nat → Int} {l0 l : List Int} {i : Nat} {m : Bool} (h : Rnd f cost l0 l i (besL f i).length m) : Rnd f cost l0 l (i + 1) 0 m := by
  rcases h with ⟨h1, h2, h3⟩ | h
  · exact .inl ⟨h1, h2, seen_row h3⟩
  · exact .inr h
end Go.Proofs.YtkkdegcbikjebaaDoor
