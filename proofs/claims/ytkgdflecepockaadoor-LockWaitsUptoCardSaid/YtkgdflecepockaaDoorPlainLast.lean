import Derived.Test.YtkgdflecepockaaDoorPlainSort
namespace Go.Proofs.YtkgdflecepockaaDoor
set_option linter.unusedVariables false
/-! The orders that count, in plain data. -/
structure Od where
  player : Int
  unit : Int
  what : Int
  arg : Int
deriving DecidableEq
def OdOk (o : Od) : Prop := 0 ≤ o.player ∧ o.player ≤ 3 ∧ 0 ≤ o.unit ∧ o.unit ≤ 1000000 ∧ 0 ≤ o.arg ∧ o.arg ≤ 1000000 ∧ 0 ≤ o.what ∧ o.what ≤ 3 ∧ (o.what = 0 → o.arg = 0)
instance (o : Od) : Decidable (OdOk o) := by unfold OdOk; infer_instance
def rst (o : Od) : Int := if o.what = 3 then 0 else 1
def okey (o : Od) : Int := (o.player * 2000000 + o.unit) * 2 + rst o
def od (L : List Od) (i : Nat) : Od := L.getD i ⟨0, 0, 0, 0⟩
theorem od_get {L : List Od} {i : Nat} (h : i < L.length) : L[i]? = some (od L i) := by unfold od; rw [List.getD_eq_getElem?_getD, List.getElem?_eq_getElem h]; rfl
theorem od_mem {L : List Od} {i : Nat} (h : i < L.length) : od L i ∈ L := List.mem_of_getElem? (od_get h)
theorem rst_01 (o : Od) : rst o = 0 ∨ rst o = 1 := by unfold rst; split <;> simp
theorem okey_eq {a b : Od} (ha : OdOk a) (hb : OdOk b) : okey a = okey b ↔ a.player = b.player ∧ a.unit = b.unit ∧ rst a = rst b := by
  have r1 := rst_01 a
  have r2 := rst_01 b
  unfold OdOk at ha hb
  unfold okey
  constructor
  · intro h
    refine ⟨?_, ?_, ?_⟩ <;> omega
  · rintro ⟨h1, h2, h3⟩
    rw [h1, h2, h3]
theorem rst_0 {o : Od} : rst o = 0 ↔ o.what = 3 := by unfold rst; split <;> simp_all
/-- Less: by player, by unit, those that train first. -/
theorem okey_lt {a b : Od} (ha : OdOk a) (hb : OdOk b) : okey a < okey b ↔ a.player < b.player ∨ (a.player = b.player ∧ (a.unit < b.unit ∨ (a.unit = b.unit ∧ rst a < rst b))) := by
  have r1 := rst_01 a
  have r2 := rst_01 b
  unfold OdOk at ha hb
  unfold okey
  omega
def orank (L : List Od) (i : Nat) : Int := okey (od L i) * (L.length + 1 : Nat) + i
theorem orank_lt {L : List Od} {i j : Nat} (hi : i < L.length) (hj : j < L.length) : orank L i < orank L j ↔ okey (od L i) < okey (od L j) ∨ (okey (od L i) = okey (od L j) ∧ i < j) := by
  unfold orank
  generalize okey (od L i) = x
  generalize okey (od L j) = y
  generalize L.length = n at *
  rcases Int.lt_trichotomy x y with h | h | h
  · have h1 : (x + 1) * ((n + 1 : Nat) : Int) ≤ y * ((n + 1 : Nat) : Int) := Int.mul_le_mul_of_nonneg_right (by omega) (by omega)
    rw [Int.add_mul, Int.one_mul] at h1
    omega
  · subst h; omega
  · have h1 : (y + 1) * ((n + 1 : Nat) : Int) ≤ x * ((n + 1 : Nat) : Int) := Int.mul_le_mul_of_nonneg_right (by omega) (by omega)
    rw [Int.add_mul, Int.one_mul] at h1
    omega
/-- Counts: it trains, or nothing behind it is for the same. -/
def Keep (L : List Od) (i : Nat) : Prop := (od L i).what = 3 ∨ ∀ j, i < j → j < L.length → okey (od L j) ≠ okey (od L i)
/-- The orders that count, in their order. -/
def IsLast (L A : List Od) : Prop := ∃ I : List Nat, I.Pairwise (fun i j => orank L i < orank L j) ∧ (∀ i, i ∈ I ↔ i < L.length ∧ Keep L i) ∧ A = I.map (od L)
theorem inc_unique (f : Nat → Int) : ∀ {I J : List Nat}, I.Pairwise (fun i j => f i < f j) → J.Pairwise (fun i j => f i < f j) → (∀ x, x ∈ I ↔ x ∈ J) → I = J
  | [], [], _, _, _ => rfl
  | [], y :: J, _, _, h => by have := (h y).2 (by simp); simp at this
  | x :: I, [], _, _, h => by have := (h x).1 (by simp); simp at this
  | x :: I, y :: J, hI, hJ, h => by
    obtain ⟨i1, i2⟩ := List.pairwise_cons.1 hI
    obtain ⟨j1, j2⟩ := List.pairwise_cons.1 hJ
    have e : x = y := by
      rcases List.mem_cons.1 ((h x).1 (by simp)) with e | e
      · exact e
      · rcases List.mem_cons.1 ((h y).2 (by simp)) with e' | e'
        · exact e'.symm
        · have := j1 x e; have := i1 y e'; omega
    subst e
    rw [inc_unique f i2 j2 fun z => ⟨fun hz => by
      rcases List.mem_cons.1 ((h z).1 (by simp [hz])) with e | e
      · subst e; have := i1 z hz; omega
      · exact e, fun hz => by
      rcases List.mem_cons.1 ((h z).2 (by simp [hz])) with e | e
      · subst e; have := j1 z hz; omega
      · exact e⟩]
theorem IsLast.unique {L A B : List Od} (h : IsLast L A) (h' : IsLast L B) : A = B := by
  obtain ⟨I, i1, i2, rfl⟩ := h
  obtain ⟨J, j1, j2, rfl⟩ := h'
  rw [inc_unique _ i1 j1 fun x => (i2 x).trans (j2 x).symm]
/-- Sorted: place k has what stood at place t k. -/
structure Stab (L : List Od) (t : Nat → Nat) : Prop where
  inj : Srt.Inj L.length t
  lt : ∀ k, k < L.length → t k < L.length
  up : Srt.Up (orank L) t 0 L.length
/-- What has come of the first k. -/
def lastI (L : List Od) (t : Nat → Nat) : Nat → List Nat
  | 0 => []
  | k + 1 => (if 0 < k ∧ rst (od L (t k)) = 1 ∧ okey (od L (t (k - 1))) = okey (od L (t k)) then (lastI L t k).dropLast else lastI L t k) ++ [t k]
theorem lastI_last (L : List Od) (t : Nat → Nat) (k : Nat) (h : 0 < k) : ∃ I, lastI L t k = I ++ [t (k - 1)] := by
  obtain ⟨k, rfl⟩ : ∃ m, k = m + 1 := ⟨k - 1, by omega⟩
  exact ⟨_, rfl⟩
theorem lastI_len (L : List Od) (t : Nat → Nat) : ∀ k, (lastI L t k).length ≤ k
  | 0 => by simp [lastI]
  | k + 1 => by
    have := lastI_len L t k
    unfold lastI
    rw [List.length_append, List.length_singleton]
    split
    · rw [List.length_dropLast]; omega
    · omega
/-- Surjective, for what is injective goes over all. -/
theorem inj_onto : ∀ (n : Nat) (t : Nat → Nat), Srt.Inj n t → (∀ k, k < n → t k < n) → ∀ x, x < n → ∃ k, k < n ∧ t k = x
  | 0, _, _, _, x, hx => by omega
  | n + 1, t, hi, hl, x, hx => by
    by_cases hn : ∃ k, k < n + 1 ∧ t k = n
    · obtain ⟨k, hk, hkn⟩ := hn
      -- exchange k and n
      have hi2 : Srt.Inj n (Srt.swp t k n) := fun a b ha hb e => Srt.swp_inj hi hk (by omega) a b (by omega) (by omega) e
      have hl2 : ∀ a, a < n → Srt.swp t k n a < n := fun a ha => by
        have h0 : Srt.swp t k n a ≠ n := fun e => by
          have : Srt.swp t k n a = Srt.swp t k n n := by
            rw [e]; unfold Srt.swp
            by_cases e1 : n = k
            · subst e1; rw [if_pos rfl]; exact hkn.symm
            · rw [if_neg e1, if_pos rfl]; exact hkn.symm
          have := Srt.swp_inj hi hk (show n < n + 1 by omega) a n (by omega) (by omega) this
          omega
        have h1 : Srt.swp t k n a < n + 1 := by
          unfold Srt.swp
          split
          · exact hl n (by omega)
          · split
            · exact hl k hk
            · exact hl a (by omega)
        omega
      by_cases hxn : x = n
      · exact ⟨k, hk, by omega⟩
      · obtain ⟨a, ha, hax⟩ := inj_onto n (Srt.swp t k n) hi2 hl2 x (by omega)
        unfold Srt.swp at hax
        split at hax
        · exact ⟨n, by omega, hax⟩
        · split at hax
          · exact ⟨k, hk, hax⟩
          · exact ⟨a, by omega, hax⟩
    · -- nobody is n: then n + 1 things are below n
      exfalso
      have hl2 : ∀ a, a < n + 1 → t a < n := fun a ha => by
        have h1 := hl a ha
        have h2 : t a ≠ n := fun e => hn ⟨a, ha, e⟩
        omega
      obtain ⟨a, ha, hax⟩ := inj_onto n t (fun a b ha hb e => hi a b (by omega) (by omega) e) (fun a ha => hl2 a (by omega)) (t n) (hl2 n (by omega))
      have := hi a n (by omega) (by omega) hax
      omega
theorem Stab.onto {L : List Od} {t : Nat → Nat} (h : Stab L t) (x : Nat) (hx : x < L.length) : ∃ k, k < L.length ∧ t k = x := inj_onto _ t h.inj h.lt x hx
/-- Who is of the first k is in, but for those that have one for the same behind them. -/
theorem lastI_spec {L : List Od} {t : Nat → Nat} (h : Stab L t) : ∀ k, k ≤ L.length → (lastI L t k).Pairwise (fun i j => orank L i < orank L j) ∧
    ∀ x, x ∈ lastI L t k ↔ ∃ j, j < k ∧ t j = x ∧ (j + 1 = k ∨ (od L x).what = 3 ∨ okey (od L (t (j + 1))) ≠ okey (od L x))
  | 0, _ => ⟨by simp [lastI], fun x => by simp [lastI]⟩
  | k + 1, hk => by
    obtain ⟨p1, p2⟩ := lastI_spec h k (by omega)
    by_cases hc : 0 < k ∧ rst (od L (t k)) = 1 ∧ okey (od L (t (k - 1))) = okey (od L (t k))
    · have e : lastI L t (k + 1) = (lastI L t k).dropLast ++ [t k] := by rw [lastI, if_pos hc]
      obtain ⟨I, hI⟩ := lastI_last L t k hc.1
      rw [hI, List.dropLast_concat] at e
      rw [hI] at p1 p2
      obtain ⟨a1, a2, a3⟩ := List.pairwise_append.1 p1
      have hnotI : t (k - 1) ∉ I := fun hm => by have := a3 _ hm _ (List.mem_singleton.2 rfl); omega
      have wht : (od L (t (k - 1))).what ≠ 3 ∨ True := .inr trivial
      refine ⟨?_, fun x => ?_⟩
      · rw [e]
        refine List.pairwise_append.2 ⟨a1, by simp, fun x hx y hy => ?_⟩
        rw [List.mem_singleton] at hy; subst hy
        have h1 := a3 x hx _ (List.mem_singleton.2 rfl)
        have h2 := h.up (k - 1) k (by omega) (by omega) (by omega)
        omega
      · rw [e, List.mem_append, List.mem_singleton]
        constructor
        · rintro (hx | rfl)
          · obtain ⟨j, j1, j2, j3⟩ := (p2 x).1 (by simp [hx])
            have hjk : j + 1 ≠ k := fun e => by
              have : j = k - 1 := by omega
              subst this; subst j2; exact hnotI hx
            exact ⟨j, by omega, j2, .inr (j3.resolve_left hjk)⟩
          · exact ⟨k, by omega, rfl, .inl rfl⟩
        · rintro ⟨j, j1, j2, j3⟩
          by_cases hjk : j = k
          · subst hjk; exact .inr j2.symm
          · left
            have hx := (p2 x).2 ⟨j, by omega, j2, by
              rcases j3 with j3 | j3
              · omega
              · exact .inr j3⟩
            rcases List.mem_append.1 hx with hx | hx
            · exact hx
            · exfalso
              rw [List.mem_singleton] at hx
              have hj : j = k - 1 := h.inj j (k - 1) (by omega) (by omega) (j2.trans hx)
              subst hj
              rw [show k - 1 + 1 = k by omega, ← j2] at j3
              rcases j3 with j3 | j3 | j3
              · omega
              · have hr : rst (od L (t (k - 1))) = 0 := rst_0.2 j3
                have h1 := hc.2.1
                have h2 := hc.2.2
                unfold okey at h2
                omega
              · exact j3 hc.2.2.symm
    · have e : lastI L t (k + 1) = lastI L t k ++ [t k] := by rw [lastI, if_neg hc]
      refine ⟨?_, fun x => ?_⟩
      · rw [e]
        refine List.pairwise_append.2 ⟨p1, by simp, fun x hx y hy => ?_⟩
        rw [List.mem_singleton] at hy; subst hy
        obtain ⟨j, j1, j2, _⟩ := (p2 x).1 hx
        rw [← j2]
        exact h.up j k (by omega) (by omega) (by omega)
      · rw [e, List.mem_append, List.mem_singleton]
        constructor
        · rintro (hx | rfl)
          · obtain ⟨j, j1, j2, j3⟩ := (p2 x).1 hx
            refine ⟨j, by omega, j2, .inr ?_⟩
            rcases j3 with j3 | j3
            · obtain rfl : j = k - 1 := by omega
              rw [show k - 1 + 1 = k by omega, ← j2]
              by_cases hw : (od L (t (k - 1))).what = 3
              · exact .inl hw
              · right
                intro ek
                have r1 := rst_01 (od L (t k))
                have r2 := rst_01 (od L (t (k - 1)))
                have r3 : rst (od L (t (k - 1))) ≠ 0 := fun e => hw (rst_0.1 e)
                refine hc ⟨by omega, ?_, ek.symm⟩
                unfold okey at ek
                omega
            · exact j3
          · exact ⟨k, by omega, rfl, .inl rfl⟩
        · rintro ⟨j, j1, j2, j3⟩
          by_cases hjk : j = k
          · subst hjk; exact .inr j2.symm
          · left
            refine (p2 x).2 ⟨j, by omega, j2, ?_⟩
            rcases j3 with j3 | j3
            · omega
            · exact .inr j3
/-- All of them gone through: those that count. -/
theorem lastI_isLast {L : List Od} {t : Nat → Nat} (h : Stab L t) : IsLast L ((lastI L t L.length).map (od L)) := by
  obtain ⟨p1, p2⟩ := lastI_spec h L.length (Nat.le_refl _)
  refine ⟨_, p1, fun x => ?_, rfl⟩
  rw [p2 x]
  constructor
  · rintro ⟨j, j1, rfl, j3⟩
    refine ⟨h.lt j j1, ?_⟩
    by_cases hw : (od L (t j)).what = 3
    · exact .inl hw
    · right
      intro y y1 y2 ey
      obtain ⟨i, hi, rfl⟩ := h.onto y y2
      have hji : j < i := by
        rcases Nat.lt_trichotomy i j with h' | h' | h'
        · have := h.up i j (by omega) h' j1
          rw [orank_lt (h.lt i hi) (h.lt j j1)] at this
          omega
        · subst h'; omega
        · exact h'
      rcases j3 with j3 | j3 | j3
      · omega
      · exact hw j3
      · have q1 := h.up j (j + 1) (by omega) (by omega) (by omega)
        rw [orank_lt (h.lt j j1) (h.lt (j + 1) (by omega))] at q1
        rcases Nat.lt_or_ge (j + 1) i with h' | h'
        · have q2 := h.up (j + 1) i (by omega) h' hi
          rw [orank_lt (h.lt (j + 1) (by omega)) (h.lt i hi)] at q2
          omega
        · obtain rfl : i = j + 1 := by omega
          exact j3 ey
  · rintro ⟨hx, hk⟩
    obtain ⟨j, hj, rfl⟩ := h.onto x hx
    refine ⟨j, hj, rfl, ?_⟩
    rcases hk with hk | hk
    · exact .inr (.inl hk)
    · by_cases hjn : j + 1 = L.length
      · exact .inl hjn
      · right; right
        intro e
        have q1 := h.up j (j + 1) (by omega) (by omega) (by omega)
        rw [orank_lt (h.lt j hj) (h.lt (j + 1) (by omega))] at q1
        exact hk (t (j + 1)) (by omega) (h.lt (j + 1) (by omega)) e
theorem nodup_len : ∀ (n : Nat) (I : List Nat), I.Nodup → (∀ x ∈ I, x < n) → I.length ≤ n
  | 0, I, _, h => by
    cases I with
    | nil => simp
    | cons x I => have := h x (by simp); omega
  | n + 1, I, hn, h => by
    have h1 := nodup_len n (I.erase n) (hn.erase n) fun x hx => by
      have h2 := h x (List.mem_of_mem_erase hx)
      have h3 : x ≠ n := fun e => by subst e; exact (List.Nodup.not_mem_erase hn) hx
      omega
    by_cases hm : n ∈ I
    · have := List.length_erase_of_mem hm; omega
    · rw [List.erase_of_not_mem hm] at h1; omega
theorem IsLast.len {L A : List Od} (h : IsLast L A) : A.length ≤ L.length := by
  obtain ⟨I, i1, i2, rfl⟩ := h
  have hn : I.Nodup := i1.imp fun {a b} h e => by subst e; omega
  rw [List.length_map]
  exact nodup_len L.length I hn fun x hx => ((i2 x).1 hx).1
theorem IsLast.sub {L A : List Od} (h : IsLast L A) {o : Od} (ho : o ∈ A) : o ∈ L := by
  obtain ⟨I, i1, i2, rfl⟩ := h
  obtain ⟨i, hi, rfl⟩ := List.mem_map.1 ho
  exact od_mem ((i2 i).1 hi).1
end Go.Proofs.YtkgdflecepockaaDoor
