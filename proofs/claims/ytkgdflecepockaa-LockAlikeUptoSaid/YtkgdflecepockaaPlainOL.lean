import Derived.Test.YtkgdflecepockaaPlainLast
namespace Go.Proofs.Ytkgdflecepockaa
set_option linter.unusedVariables false
/-! The law of the orders that count, in plain data. -/
/-- Nothing of the places from i + 1 to k is another word for the same. -/
noncomputable def lastB (L : List Od) (i k : Nat) : Bool := @decide (∀ j, i < j → j < k → (od L j).what = 3 ∨ (od L j).player ≠ (od L i).player ∨ (od L j).unit ≠ (od L i).unit) (Classical.propDecidable _)
def inB (R : List Od) (o : Od) (k : Nat) : Bool := decide (∃ j, j < k ∧ od R j = o)
def tr (L : List Od) (k : Nat) : Nat := ((L.take k).filter fun o => o.what = 3).length
theorem tr_0 (L : List Od) : tr L 0 = 0 := rfl
theorem tr_s (L : List Od) (k : Nat) (h : k < L.length) : tr L (k + 1) = tr L k + if (od L k).what = 3 then 1 else 0 := by
  unfold tr
  have e : L.take (k + 1) = L.take k ++ [od L k] := by rw [List.take_add_one, od_get h]; rfl
  rw [e, List.filter_append, List.length_append]
  by_cases g : (od L k).what = 3 <;> simp [g]
theorem tr_le (L : List Od) (k : Nat) : tr L k ≤ k := by
  unfold tr
  exact Nat.le_trans (List.length_filter_le _ _) (List.length_take_le _ _)
theorem lastB_0 (L : List Od) (i : Nat) : lastB L i (i + 1) = true := by
  unfold lastB; simp only [decide_eq_true_eq]; intro j h1 h2; omega
theorem lastB_s (L : List Od) (i k : Nat) (h : i < k) : lastB L i (k + 1) = (lastB L i k && (decide ((od L k).what = 3) || (decide ((od L k).player ≠ (od L i).player) || decide ((od L k).unit ≠ (od L i).unit)))) := by
  unfold lastB
  rw [Bool.eq_iff_iff]
  simp only [Bool.and_eq_true, Bool.or_eq_true, decide_eq_true_eq]
  constructor
  · intro g
    exact ⟨fun j h1 h2 => g j h1 (by omega), g k h (by omega)⟩
  · rintro ⟨g1, g2⟩ j h1 h2
    rcases Nat.lt_or_ge j k with h3 | h3
    · exact g1 j h1 h3
    · obtain rfl : j = k := by omega
      exact g2
theorem inB_0 (R : List Od) (o : Od) : inB R o 0 = false := by
  unfold inB; simp
theorem inB_s (R : List Od) (o : Od) (k : Nat) : inB R o (k + 1) = (inB R o k || decide (od R k = o)) := by
  unfold inB
  rw [Bool.eq_iff_iff]
  simp only [Bool.or_eq_true, decide_eq_true_eq]
  constructor
  · rintro ⟨j, h1, h2⟩
    rcases Nat.lt_or_ge j k with h3 | h3
    · exact .inl ⟨j, h3, h2⟩
    · obtain rfl : j = k := by omega
      exact .inr h2
  · rintro (⟨j, h1, h2⟩ | h)
    · exact ⟨j, by omega, h2⟩
    · exact ⟨k, by omega, h⟩
/-- Who said the last word is in. -/
theorem isLast_in {L R : List Od} (h : IsLast L R) (hok : ∀ o ∈ L, OdOk o) {i : Nat} (hi : i < L.length) (h3 : (od L i).what ≠ 3) (hl : lastB L i L.length = true) : inB R (od L i) R.length = true := by
  obtain ⟨I, i1, i2, rfl⟩ := h
  have hk : Keep L i := .inr fun j h1 h2 e => by
    unfold lastB at hl
    simp only [decide_eq_true_eq] at hl
    obtain ⟨e1, e2, e3⟩ := (okey_eq (hok _ (od_mem h2)) (hok _ (od_mem hi))).1 e
    rcases hl j h1 h2 with g | g | g
    · have r1 := rst_0.2 g
      have : rst (od L i) ≠ 0 := fun e => h3 (rst_0.1 e)
      omega
    · exact g e1
    · exact g e2
  have hm := (i2 i).2 ⟨hi, hk⟩
  obtain ⟨j, hj, e⟩ := List.mem_iff_getElem.1 hm
  unfold inB
  simp only [decide_eq_true_eq]
  refine ⟨j, by simpa using hj, ?_⟩
  unfold od
  rw [List.getD_eq_getElem?_getD, List.getElem?_map, List.getElem?_eq_getElem hj, e]
  rfl
/-- No two of one and the same. -/
theorem isLast_two {L R : List Od} (h : IsLast L R) (hok : ∀ o ∈ L, OdOk o) {i k : Nat} (hk : k < i) (hi : i < R.length) (h1 : (od R i).what ≠ 3) (h2 : (od R k).what ≠ 3) (e1 : (od R k).player = (od R i).player) (e2 : (od R k).unit = (od R i).unit) : False := by
  obtain ⟨I, i1, i2, rfl⟩ := h
  rw [List.length_map] at hi
  have hkI : k < I.length := by omega
  have gi : od (I.map (od L)) i = od L I[i] := by unfold od; rw [List.getD_eq_getElem?_getD, List.getElem?_map, List.getElem?_eq_getElem hi]; rfl
  have gk : od (I.map (od L)) k = od L I[k] := by unfold od; rw [List.getD_eq_getElem?_getD, List.getElem?_map, List.getElem?_eq_getElem hkI]; rfl
  rw [gi] at h1 e1 e2
  rw [gk] at h2 e1 e2
  have hr := List.pairwise_iff_getElem.1 i1 k i hkI hi hk
  obtain ⟨b1, b2⟩ := (i2 I[i]).1 (List.getElem_mem hi)
  obtain ⟨c1, c2⟩ := (i2 I[k]).1 (List.getElem_mem hkI)
  have r1 : rst (od L I[i]) = 1 := by
    rcases rst_01 (od L I[i]) with g | g
    · exact absurd (rst_0.1 g) h1
    · exact g
  have r2 : rst (od L I[k]) = 1 := by
    rcases rst_01 (od L I[k]) with g | g
    · exact absurd (rst_0.1 g) h2
    · exact g
  have ek : okey (od L I[k]) = okey (od L I[i]) := (okey_eq (hok _ (od_mem c1)) (hok _ (od_mem b1))).2 ⟨e1, e2, by omega⟩
  have hlt : I[k] < I[i] := by
    rcases (orank_lt c1 b1).1 hr with g | g
    · omega
    · exact g.2
  rcases c2 with g | g
  · exact h2 g
  · exact g _ hlt b1 ek.symm
theorem nodup_le {α : Type} [DecidableEq α] : ∀ {A B : List α}, A.Nodup → (∀ x ∈ A, x ∈ B) → A.length ≤ B.length
  | [], B, _, _ => Nat.zero_le _
  | a :: A, B, hn, hs => by
    obtain ⟨h1, h2⟩ := List.nodup_cons.1 hn
    have hb := hs a (by simp)
    have := nodup_le (A := A) (B := B.erase a) h2 (fun x hx => (List.mem_erase_of_ne (by rintro rfl; exact h1 hx)).2 (hs x (by simp [hx])))
    rw [List.length_erase_of_mem hb] at this
    have : 0 < B.length := List.length_pos_of_mem hb
    simp only [List.length_cons]
    omega
theorem tr_range (L : List Od) : ∀ k, k ≤ L.length → tr L k = ((List.range k).filter fun i => (od L i).what = 3).length
  | 0, _ => rfl
  | k + 1, h => by
    rw [tr_s L k (by omega), tr_range L k (by omega), List.range_succ, List.filter_append, List.length_append]
    by_cases g : (od L k).what = 3 <;> simp [g]
/-- As many train as did. -/
theorem isLast_tr {L R : List Od} (h : IsLast L R) : tr R R.length = tr L L.length := by
  obtain ⟨I, i1, i2, rfl⟩ := h
  have e : tr (I.map (od L)) (I.map (od L)).length = (I.filter fun i => (od L i).what = 3).length := by
    unfold tr
    rw [List.take_length, List.filter_map, List.length_map]
    rfl
  rw [e, tr_range L _ (Nat.le_refl _)]
  have hn : I.Nodup := i1.imp (fun {a b} h => by rintro rfl; omega)
  refine Nat.le_antisymm (nodup_le (hn.sublist List.filter_sublist) fun x hx => ?_) (nodup_le (List.nodup_range.sublist List.filter_sublist) fun x hx => ?_)
  · obtain ⟨g1, g2⟩ := List.mem_filter.1 hx
    exact List.mem_filter.2 ⟨List.mem_range.2 ((i2 x).1 g1).1, g2⟩
  · obtain ⟨g1, g2⟩ := List.mem_filter.1 hx
    exact List.mem_filter.2 ⟨(i2 x).2 ⟨List.mem_range.1 g1, .inl (by simpa using g2)⟩, g2⟩
theorem isLast_le {L R : List Od} (h : IsLast L R) : R.length ≤ L.length := by
  obtain ⟨I, i1, i2, rfl⟩ := h
  rw [List.length_map]
  have hn : I.Nodup := i1.imp (fun {a b} h => by rintro rfl; omega)
  have := nodup_le (B := List.range L.length) hn (fun x hx => List.mem_range.2 ((i2 x).1 hx).1)
  simpa using this
/-- The law's own three. -/
def threeO : List Od := [⟨0, 2, 1, 5⟩, ⟨0, 1, 0, 0⟩, ⟨0, 2, 1, 6⟩]
theorem three_last {R : List Od} (h : IsLast threeO R) : R = [⟨0, 1, 0, 0⟩, ⟨0, 2, 1, 6⟩] := by
  refine h.unique ⟨[1, 2], ?_, fun i => ?_, rfl⟩
  · simp only [List.pairwise_cons, List.not_mem_nil, false_implies, implies_true, List.Pairwise.nil, and_true, List.mem_singleton, forall_eq]
    decide
  · unfold Keep
    constructor
    · intro hi
      simp only [List.mem_cons, List.not_mem_nil, or_false] at hi
      rcases hi with rfl | rfl
      · refine ⟨by decide, .inr fun j h1 h2 => ?_⟩
        have : j = 2 := by simp [threeO] at h2; omega
        subst this
        decide
      · refine ⟨by decide, .inr fun j h1 h2 => ?_⟩
        simp [threeO] at h2; omega
    · rintro ⟨h1, h2⟩
      have h1' : i < 3 := h1
      rcases (by omega : i = 0 ∨ i = 1 ∨ i = 2) with rfl | rfl | rfl
      · exfalso
        rcases h2 with g | g
        · exact absurd g (by decide)
        · exact g 2 (by omega) (by decide) (by decide)
      · simp
      · simp
theorem three_ok : ∀ o ∈ threeO, OdOk o := by
  intro o ho
  simp only [threeO, List.mem_cons, List.not_mem_nil, or_false] at ho
  rcases ho with rfl | rfl | rfl <;> decide
end Go.Proofs.Ytkgdflecepockaa
