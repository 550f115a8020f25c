import Derived.Test.YtkgdflecepockaaDoorPlainLast
namespace Go.Proofs.YtkgdflecepockaaDoor
set_option linter.unusedVariables false
/-! The reference's Last, in plain data. -/
def hitO (a b : Od) : Bool := decide (a.what ≠ 3) && decide (b.what ≠ 3) && (b.player == a.player) && (b.unit == a.unit)
/-- Of those behind place i, up to k: does none overrule it? -/
def keepT (L : List Od) (i : Nat) : Nat → Bool
  | 0 => true
  | k + 1 => keepT L i k && !(decide (i < k) && hitO (od L i) (od L k))
theorem keepT_start (L : List Od) (i : Nat) : ∀ k, k ≤ i + 1 → keepT L i k = true
  | 0, _ => rfl
  | k + 1, h => by rw [keepT, keepT_start L i k (by omega), decide_eq_false (by omega)]; rfl
theorem keepT_s (L : List Od) (i k : Nat) (h : i < k) : keepT L i (k + 1) = (keepT L i k && !hitO (od L i) (od L k)) := by rw [keepT, decide_eq_true h, Bool.true_and]
theorem keepT_iff (L : List Od) (i : Nat) : ∀ k, keepT L i k = true ↔ ∀ j, i < j → j < k → hitO (od L i) (od L j) = false
  | 0 => by simp [keepT]
  | k + 1 => by
    rw [keepT, Bool.and_eq_true, keepT_iff L i k]
    constructor
    · rintro ⟨h1, h2⟩ j hj1 hj2
      rcases Nat.lt_or_ge j k with h | h
      · exact h1 j hj1 h
      · obtain rfl : j = k := by omega
        rw [decide_eq_true hj1, Bool.true_and] at h2
        simpa using h2
    · intro h
      refine ⟨fun j h1 h2 => h j h1 (by omega), ?_⟩
      by_cases hi : i < k
      · rw [h k hi (by omega)]; simp
      · rw [decide_eq_false hi]; rfl
def someO (L : List Od) : Nat → List Od
  | 0 => []
  | k + 1 => someO L k ++ if keepT L k L.length = true then [od L k] else []
theorem someO_len (L : List Od) : ∀ k, (someO L k).length ≤ k
  | 0 => by simp [someO]
  | k + 1 => by
    have := someO_len L k
    rw [someO, List.length_append]
    split <;> simp <;> omega
/-- Does an order belong behind another one? -/
def bhd (a b : Od) : Bool := if a.player ≠ b.player then decide (b.player < a.player) else if a.unit ≠ b.unit then decide (b.unit < a.unit) else decide (a.what ≠ 3) && decide (b.what = 3)
def posO (A : List Od) (x : Od) : Nat → Nat
  | 0 => 0
  | k + 1 => if bhd (od A k) x = true then posO A x k else k + 1
theorem posO_le (A : List Od) (x : Od) : ∀ k, posO A x k ≤ k
  | 0 => Nat.le_refl _
  | k + 1 => by
    have := posO_le A x k
    rw [posO]; split <;> omega
def insO (A : List Od) (x : Od) : List Od := A.take (posO A x A.length) ++ x :: A.drop (posO A x A.length)
theorem insO_len (A : List Od) (x : Od) : (insO A x).length = A.length + 1 := by
  have := posO_le A x A.length
  unfold insO; rw [List.length_append, List.length_take, List.length_cons, List.length_drop]; omega
def insK (S : List Od) : Nat → List Od
  | 0 => []
  | k + 1 => insO (insK S k) (od S k)
theorem insK_len (S : List Od) : ∀ k, (insK S k).length = k
  | 0 => rfl
  | k + 1 => by rw [insK, insO_len, insK_len S k]
def lastR (L : List Od) : List Od := insK (someO L L.length) (someO L L.length).length
theorem bhd_iff {a b : Od} (ha : OdOk a) (hb : OdOk b) : bhd a b = true ↔ okey b < okey a := by
  rw [okey_lt hb ha]
  unfold bhd
  by_cases h1 : a.player = b.player
  · rw [if_neg (by simpa using h1)]
    by_cases h2 : a.unit = b.unit
    · rw [if_neg (by simpa using h2)]
      unfold rst
      by_cases h3 : a.what = 3 <;> by_cases h4 : b.what = 3 <;> simp [h1, h2, h3, h4]
    · rw [if_pos (by simpa using h2), decide_eq_true_iff]
      omega
  · rw [if_pos (by simpa using h1), decide_eq_true_iff]
    omega
theorem hitO_iff {a b : Od} (ha : OdOk a) (hb : OdOk b) : hitO a b = false ↔ a.what = 3 ∨ okey b ≠ okey a := by
  have r : rst a = 0 ∨ rst a = 1 := rst_01 a
  have e := okey_eq hb ha
  unfold hitO
  by_cases h3 : a.what = 3
  · simp [h3]
  · by_cases h4 : b.what = 3
    · have h5 : rst b ≠ rst a := by unfold rst; rw [if_pos h4, if_neg h3]; omega
      simp only [h3, h4, ne_eq, not_false_eq_true, not_true_eq_false, decide_false, decide_true, Bool.false_and, Bool.true_and, false_or, true_iff]
      intro h; exact h5 (e.1 h).2.2
    · have h5 : rst b = rst a := by unfold rst; rw [if_neg h4, if_neg h3]
      rw [decide_eq_true h3, decide_eq_true h4, Bool.true_and, Bool.true_and]
      constructor
      · intro h
        right
        intro h6
        obtain ⟨p1, p2, _⟩ := e.1 h6
        rw [p1, p2] at h
        simp at h
      · rintro (h | h)
        · exact absurd h h3
        · by_cases p1 : b.player = a.player
          · by_cases p2 : b.unit = a.unit
            · exact absurd (e.2 ⟨p1, p2, h5⟩) h
            · simp [p2]
          · simp [p1]
/-- The places that are kept, of the first m. -/
def someI (L : List Od) : Nat → List Nat
  | 0 => []
  | k + 1 => someI L k ++ if keepT L k L.length = true then [k] else []
theorem someI_map (L : List Od) : ∀ k, someO L k = (someI L k).map (od L)
  | 0 => rfl
  | k + 1 => by rw [someO, someI, List.map_append, someI_map L k]; split <;> rfl
theorem someI_mem (L : List Od) : ∀ k x, x ∈ someI L k ↔ x < k ∧ keepT L x L.length = true
  | 0, x => by simp [someI]
  | k + 1, x => by
    rw [someI, List.mem_append, someI_mem L k x]
    by_cases h : keepT L k L.length = true
    · rw [if_pos h, List.mem_singleton]
      constructor
      · rintro (⟨h1, h2⟩ | rfl)
        · exact ⟨by omega, h2⟩
        · exact ⟨by omega, h⟩
      · rintro ⟨h1, h2⟩
        by_cases e : x = k
        · exact .inr e
        · exact .inl ⟨by omega, h2⟩
    · rw [if_neg h]
      simp only [List.not_mem_nil, or_false]
      constructor
      · rintro ⟨h1, h2⟩; exact ⟨by omega, h2⟩
      · rintro ⟨h1, h2⟩
        refine ⟨?_, h2⟩
        by_cases e : x = k
        · subst e; exact absurd h2 h
        · omega
theorem someI_up (L : List Od) : ∀ k, (someI L k).Pairwise (· < ·)
  | 0 => by simp [someI]
  | k + 1 => by
    rw [someI]
    refine List.pairwise_append.2 ⟨someI_up L k, by split <;> simp, fun x hx y hy => ?_⟩
    have := ((someI_mem L k x).1 hx).1
    split at hy
    · rw [List.mem_singleton] at hy; omega
    · simp at hy
theorem od_map (L : List Od) (J : List Nat) (k : Nat) (h : k < J.length) : od (J.map (od L)) k = od L (J.getD k 0) := by
  unfold od
  rw [List.getD_eq_getElem?_getD, List.getElem?_map, List.getD_eq_getElem?_getD (l := J), List.getElem?_eq_getElem h]
  rfl
/-- Where one is put: none ahead of it is greater, each behind it is. -/
theorem posO_spec {L : List Od} (hL : ∀ o ∈ L, OdOk o) {J : List Nat} (hJ : J.Pairwise fun i j => orank L i < orank L j) {x : Nat} (hx : x < L.length) (hlt : ∀ j ∈ J, j < x) :
    ∀ k, k ≤ J.length → (∀ j, j < posO (J.map (od L)) (od L x) k → orank L (J.getD j 0) < orank L x) ∧ ∀ j, posO (J.map (od L)) (od L x) k ≤ j → j < k → orank L x < orank L (J.getD j 0)
  | 0, _ => ⟨fun j h => by simp [posO] at h, fun j _ h => by omega⟩
  | k + 1, hk => by
    have hm : J.getD k 0 ∈ J := by rw [List.getD_eq_getElem?_getD, List.getElem?_eq_getElem (by omega)]; exact List.getElem_mem _
    have hkl := hlt _ hm
    have ok1 := hL _ (od_mem (L := L) (i := J.getD k 0) (by omega))
    have ok2 := hL _ (od_mem hx)
    obtain ⟨h1, h2⟩ := posO_spec hL hJ hx hlt k (by omega)
    rw [posO, od_map L J k (by omega)]
    by_cases hb : bhd (od L (J.getD k 0)) (od L x) = true
    · rw [if_pos hb]
      refine ⟨h1, fun j hj1 hj2 => ?_⟩
      rcases Nat.lt_or_ge j k with h | h
      · exact h2 j hj1 h
      · obtain rfl : j = k := by omega
        rw [bhd_iff ok1 ok2] at hb
        exact (orank_lt hx (by omega)).2 (.inl hb)
    · rw [if_neg hb]
      refine ⟨fun j hj => ?_, fun j hj1 hj2 => by omega⟩
      have hkx : orank L (J.getD k 0) < orank L x := by
        rw [bhd_iff ok1 ok2] at hb
        rw [orank_lt (by omega) hx]
        omega
      rcases Nat.lt_or_ge j k with h | h
      · have hp := List.pairwise_iff_getElem.1 hJ j k (by omega) (by omega) h
        have e1 : J.getD j 0 = J[j]'(by omega) := by rw [List.getD_eq_getElem?_getD, List.getElem?_eq_getElem (by omega)]; rfl
        have e2 : J.getD k 0 = J[k]'(by omega) := by rw [List.getD_eq_getElem?_getD, List.getElem?_eq_getElem (by omega)]; rfl
        rw [e1]; rw [e2] at hkx
        omega
      · obtain rfl : j = k := by omega
        exact hkx
theorem getD_take (J : List Nat) (p j : Nat) (h : j < (J.take p).length) : (J.take p)[j] = J.getD j 0 := by
  rw [List.getElem_take, List.getD_eq_getElem?_getD, List.getElem?_eq_getElem (by rw [List.length_take] at h; omega)]; rfl
theorem getD_drop (J : List Nat) (p j : Nat) (h : j < (J.drop p).length) : (J.drop p)[j] = J.getD (p + j) 0 := by
  rw [List.getElem_drop, List.getD_eq_getElem?_getD, List.getElem?_eq_getElem (by rw [List.length_drop] at h; omega)]; rfl
theorem ins_spec {L : List Od} (hL : ∀ o ∈ L, OdOk o) {J : List Nat} (hJ : J.Pairwise fun i j => orank L i < orank L j) {x : Nat} (hx : x < L.length) (hlt : ∀ j ∈ J, j < x) :
    ∃ J' : List Nat, insO (J.map (od L)) (od L x) = J'.map (od L) ∧ (J'.Pairwise fun i j => orank L i < orank L j) ∧ ∀ y, y ∈ J' ↔ y ∈ J ∨ y = x := by
  have hp := posO_spec hL hJ hx hlt J.length (Nat.le_refl _)
  have hple := posO_le (J.map (od L)) (od L x) J.length
  unfold insO
  rw [List.length_map]
  generalize posO (J.map (od L)) (od L x) J.length = p at *
  obtain ⟨h1, h2⟩ := hp
  refine ⟨J.take p ++ x :: J.drop p, by rw [List.map_append, List.map_cons, List.map_take, List.map_drop], ?_, fun y => ?_⟩
  · refine List.pairwise_append.2 ⟨hJ.sublist (List.take_sublist _ _), List.pairwise_cons.2 ⟨fun y hy => ?_, hJ.sublist (List.drop_sublist _ _)⟩, fun a ha b hb => ?_⟩
    · obtain ⟨j, hj, rfl⟩ := List.mem_iff_getElem.1 hy
      rw [getD_drop J p j hj]
      rw [List.length_drop] at hj
      exact h2 (p + j) (by omega) (by omega)
    · obtain ⟨i, hi, rfl⟩ := List.mem_iff_getElem.1 ha
      rw [getD_take J p i hi]
      rw [List.length_take] at hi
      have q1 := h1 i (by omega)
      rcases List.mem_cons.1 hb with rfl | hb
      · exact q1
      · obtain ⟨j, hj, rfl⟩ := List.mem_iff_getElem.1 hb
        rw [getD_drop J p j hj]
        rw [List.length_drop] at hj
        have := h2 (p + j) (by omega) (by omega)
        omega
  · rw [List.mem_append, List.mem_cons]
    have hd : y ∈ J ↔ y ∈ J.take p ∨ y ∈ J.drop p := by rw [← List.mem_append, List.take_append_drop]
    rw [hd]
    constructor
    · rintro (h | h | h)
      · exact .inl (.inl h)
      · exact .inr h
      · exact .inl (.inr h)
    · rintro ((h | h) | h)
      · exact .inl h
      · exact .inr (.inr h)
      · exact .inr (.inl h)
theorem insK_spec {L : List Od} (hL : ∀ o ∈ L, OdOk o) (I : List Nat) (hI : I.Pairwise (· < ·)) (hb : ∀ i ∈ I, i < L.length) :
    ∀ k, k ≤ I.length → ∃ J : List Nat, insK (I.map (od L)) k = J.map (od L) ∧ (J.Pairwise fun i j => orank L i < orank L j) ∧ ∀ y, y ∈ J ↔ y ∈ I.take k
  | 0, _ => ⟨[], rfl, by simp, fun y => by simp⟩
  | k + 1, hk => by
    obtain ⟨J, h1, h2, h3⟩ := insK_spec hL I hI hb k (by omega)
    rw [insK, h1, od_map L I k (by omega)]
    have e : I.getD k 0 = I[k]'(by omega) := by rw [List.getD_eq_getElem?_getD, List.getElem?_eq_getElem (by omega)]; rfl
    rw [e]
    obtain ⟨J', g1, g2, g3⟩ := ins_spec hL h2 (x := I[k]'(by omega)) (hb _ (List.getElem_mem _)) (fun j hj => by
      obtain ⟨i, hi, rfl⟩ := List.mem_iff_getElem.1 ((h3 j).1 hj)
      rw [List.length_take] at hi
      rw [List.getElem_take]
      exact List.pairwise_iff_getElem.1 hI i k (by omega) (by omega) (by omega))
    refine ⟨J', g1, g2, fun y => ?_⟩
    rw [g3 y, h3 y, List.take_succ_eq_append_getElem (by omega), List.mem_append, List.mem_singleton]
/-- The reference's orders that count. -/
theorem lastR_isLast {L : List Od} (hL : ∀ o ∈ L, OdOk o) : IsLast L (lastR L) := by
  have hI := someI_up L L.length
  have hm := someI_mem L L.length
  obtain ⟨J, h1, h2, h3⟩ := insK_spec hL (someI L L.length) hI (fun i hi => ((hm i).1 hi).1) (someI L L.length).length (Nat.le_refl _)
  refine ⟨J, h2, fun i => ?_, ?_⟩
  · rw [h3 i, List.take_length, hm i, keepT_iff]
    constructor
    · rintro ⟨g1, g2⟩
      refine ⟨g1, ?_⟩
      unfold Keep
      by_cases hw : (od L i).what = 3
      · exact .inl hw
      · right
        intro j hj1 hj2
        exact ((hitO_iff (hL _ (od_mem g1)) (hL _ (od_mem hj2))).1 (g2 j hj1 hj2)).resolve_left hw
    · rintro ⟨g1, g2⟩
      refine ⟨g1, fun j hj1 hj2 => (hitO_iff (hL _ (od_mem g1)) (hL _ (od_mem hj2))).2 ?_⟩
      rcases g2 with g2 | g2
      · exact .inl g2
      · exact .inr (g2 j hj1 hj2)
  · unfold lastR
    rw [← h1, someI_map, List.length_map]
theorem lastR_len (L : List Od) : (lastR L).length ≤ L.length := by unfold lastR; rw [insK_len]; exact someO_len L _
end Go.Proofs.YtkgdflecepockaaDoor
