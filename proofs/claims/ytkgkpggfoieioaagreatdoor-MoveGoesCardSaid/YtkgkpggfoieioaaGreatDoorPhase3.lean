import Derived.Test.YtkgkpggfoieioaaGreatDoorPhase2
namespace Go.Proofs.YtkgkpggfoieioaaGreatDoor
set_option linter.unusedVariables false
/-! A region in two phases, as XPhase2's, but an operation of the second phase may wait for one of the first by way of another one of the first. -/
def chkT (md : Region.Mode) (ops : Array Oper) (n1 n2 : Nat) : Bool :=
  ((List.range n1).all fun i => match ops[i]? with | some o => o.after.all (fun e => decide (e.on < i)) | none => false) &&
  ((List.range n2).all fun k => match ops[n1 + k]? with | some o => o.after.any (fun e => Region.binds md e && decide (n1 ≤ e.on) && decide (e.on < n1 + n2)) || (List.range n1).all (fun j => o.after.any (fun e => Region.binds md e && e.on == j) || (List.range n1).any (fun t => o.after.any (fun e => Region.binds md e && e.on == t) && (match ops[t]? with | some p => p.after.any (fun e => Region.binds md e && e.on == j) | none => false))) | none => false)
/-- What has come up came up behind what it waits for. -/
def ClP (md : Region.Mode) (ops : Array Oper) (m : List Bool) : Prop := ∀ i, i < m.length → m.getD i false = true → ∀ o, ops[i]? = some o → ∀ e ∈ o.after, Region.binds md e = true → m.getD e.on false = true
theorem getD_set_true (m : List Bool) (i j : Nat) (h : m.getD j false = true) : (m.set i true).getD j false = true := by
  rw [List.getD_eq_getElem?_getD, List.getElem?_set]
  rw [List.getD_eq_getElem?_getD] at h
  split
  · split
    · rfl
    · rename_i h1 h2
      subst h1
      rw [List.getElem?_eq_none (by omega)] at h
      cases h
  · exact h
theorem clp_set {md : Region.Mode} {ops : Array Oper} {m : List Bool} {i : Nat} (h : ClP md ops m) (hi : i < m.length) (hr : ∀ o, ops[i]? = some o → ∀ e ∈ o.after, Region.binds md e = true → m.getD e.on false = true) : ClP md ops (m.set i true) := by
  intro t ht htt o ho e he hb
  rw [List.length_set] at ht
  refine getD_set_true m i _ ?_
  by_cases hti : i = t
  · subst hti; exact hr o ho e he hb
  · refine h t ht ?_ o ho e he hb
    rw [List.getD_eq_getElem?_getD, List.getElem?_set, if_neg hti] at htt
    rw [List.getD_eq_getElem?_getD]; exact htt
section
variable {P : Program} {md : Region.Mode} {ops : Array Oper} {Q : Exit → Act → World → Prop} {S : World → Prop} {n1 n2 : Nat}
theorem ready_three (hk : chkT md ops n1 n2 = true) (hsz : ops.size = n1 + n2) (m : List Bool) (hm : m.length = n1) (hn : m.all id = false) (hcl : ClP md ops m) :
    Region.ready md ops (mkB m n2 false) = Region.ready md ops (mkB m n2 true) ∧ Region.ready md ops (mkB m n2 false) ≠ [] ∧ ∀ i ∈ Region.ready md ops (mkB m n2 false), i < n1 ∧ m.getD i true = false := by
  unfold chkT at hk
  rw [Bool.and_eq_true, List.all_eq_true, List.all_eq_true] at hk
  obtain ⟨k1, k2⟩ := hk
  have f1 : ∀ i, i < n1 → ∀ o, ops[i]? = some o → ∀ e ∈ o.after, e.on < i := fun i hi o ho e he => by
    have := k1 i (List.mem_range.2 hi)
    rw [ho] at this
    simp only [Array.all_eq_true', decide_eq_true_eq] at this
    exact this e he
  have hlt : ∀ b, ∀ i, i ∈ Region.ready md ops (mkB m n2 b) → i < n1 := fun b i hi => by
    obtain ⟨h1, h2, o, ho, h3⟩ := (ready_iff _ _).1 hi
    rcases Nat.lt_or_ge i n1 with h | h
    · exact h
    · exfalso
      rw [mkB_get, if_neg (by omega), if_pos (by omega)] at h2
      subst h2
      obtain ⟨j, hj, hj2, _⟩ := exists_false m hn
      have := k2 (i - n1) (List.mem_range.2 (by omega))
      rw [show n1 + (i - n1) = i by omega, ho] at this
      simp only [Bool.or_eq_true (Array.any _ _ _ _)] at this
      rcases this with hA | this
      · rw [Array.any_eq_true'] at hA
        obtain ⟨e, he, heb⟩ := hA
        rw [Bool.and_eq_true, Bool.and_eq_true, decide_eq_true_iff, decide_eq_true_iff] at heb
        have h4 := h3 e he heb.1.1
        rw [mkB_get, if_neg (by omega), if_pos (by omega)] at h4
        cases h4
      simp only [List.all_eq_true, List.mem_range] at this
      have hj3 := this j (by omega)
      have key : ∀ t, t < n1 → (o.after.any (fun e => Region.binds md e && e.on == t)) = true → m.getD t false = true := fun t ht hj3 => by
        rw [Array.any_eq_true'] at hj3
        obtain ⟨e, he, heb⟩ := hj3
        rw [Bool.and_eq_true, beq_iff_eq] at heb
        have h4 := h3 e he heb.1
        rw [heb.2, mkB_get, if_pos (by omega)] at h4
        exact h4
      have hjf : m.getD j false = true := by
        rw [Bool.or_eq_true] at hj3
        rcases hj3 with h | h
        · exact key j (by omega) h
        · rw [List.any_eq_true] at h
          obtain ⟨t, ht, h⟩ := h
          rw [List.mem_range] at ht
          rw [Bool.and_eq_true] at h
          have k1 := key t ht h.1
          cases hp : ops[t]? with
          | none => rw [hp] at h; exact absurd h.2 (by simp)
          | some p =>
            rw [hp] at h
            have h2 := h.2
            simp only at h2
            rw [Array.any_eq_true'] at h2
            obtain ⟨e, he, heb⟩ := h2
            rw [Bool.and_eq_true, beq_iff_eq] at heb
            have := hcl t (by omega) k1 p hp e he heb.1
            rwa [heb.2] at this
      rw [List.getD_eq_getElem?_getD] at hjf hj2
      rw [List.getElem?_eq_getElem hj] at hjf hj2
      simp only [Option.getD_some] at hjf hj2
      rw [hjf] at hj2; cases hj2
  have hsame : ∀ b b', ∀ i, i < n1 → (i ∈ Region.ready md ops (mkB m n2 b) → i ∈ Region.ready md ops (mkB m n2 b')) := fun b b' i hi h => by
    obtain ⟨h1, h2, o, ho, h3⟩ := (ready_iff _ _).1 h
    refine (ready_iff _ _).2 ⟨h1, ?_, o, ho, fun e he hb => ?_⟩
    · rw [mkB_get, if_pos (by omega)] at h2 ⊢; exact h2
    · have h4 := h3 e he hb
      have h5 := f1 i hi o ho e he
      rw [mkB_get, if_pos (by omega)] at h4 ⊢; exact h4
  refine ⟨?_, ?_, fun i hi => ⟨hlt _ i hi, ?_⟩⟩
  · unfold Region.ready
    refine List.filter_congr fun i hi => ?_
    rw [Bool.eq_iff_iff]
    have g : ∀ b, ((!(mkB m n2 b).getD i true && ((ops[i]?).map (·.after.all fun e => !Region.binds md e || (mkB m n2 b).getD e.on false)).getD false) = true) ↔ i ∈ Region.ready md ops (mkB m n2 b) := fun b => by
      unfold Region.ready
      rw [List.mem_filter]
      exact ⟨fun h => ⟨hi, h⟩, fun h => h.2⟩
    rw [g false, g true]
    exact ⟨fun h => hsame _ _ i (hlt _ i h) h, fun h => hsame _ _ i (hlt _ i h) h⟩
  · obtain ⟨i, hi, hi2, hi3⟩ := exists_false m hn
    have hio : i < ops.size := by omega
    have : i ∈ Region.ready md ops (mkB m n2 false) := (ready_iff _ _).2 ⟨hio, by rw [mkB_get, if_pos hi]; exact hi2, ops[i], Array.getElem?_eq_getElem hio, fun e he _ => by
      have h5 := f1 i (by omega) _ (Array.getElem?_eq_getElem hio) e he
      rw [mkB_get, if_pos (by omega)]
      exact hi3 _ h5⟩
    intro e
    rw [e] at this
    cases this
  · obtain ⟨h1, h2, _⟩ := (ready_iff _ _).1 hi
    have := hlt _ i hi
    rwa [mkB_get, if_pos (by omega)] at h2
theorem two_phaseC (hk : chkT md ops n1 n2 = true) (hsz : ops.size = n1 + n2) : ∀ (fuel : Nat) (m : List Bool) (a : Act) (w : World), m.length = n1 → m.count false = fuel → ClP md ops m →
    wpAnyH P md ops (NxB P md ops Q n1 n2) S fuel (mkB m n2 true) a w → wpAny P md ops Q (fuel + n2) (mkB m n2 false) a w := by
  intro fuel
  induction fuel with
  | zero =>
    intro m a w hl hc hcl h
    have hm1 : m.all id = true := by
      rw [List.all_eq_true]
      intro x hx
      cases x with
      | true => rfl
      | false => have := List.count_pos_iff.2 hx; omega
    rw [all_trueB m hm1, hl]
    rw [Nat.zero_add]
    exact h.2
  | succ fuel ih =>
    intro m a w hl hc hcl h
    cases hall : m.all id with
    | true =>
      rw [all_trueB m hall] at hc
      rw [List.count_replicate] at hc
      simp at hc
    | false =>
      obtain ⟨h2, hne, h4⟩ := ready_three hk hsz m hl hall hcl
      rw [show fuel + 1 + n2 = (fuel + n2) + 1 by omega]
      refine ⟨fun e => absurd e hne, fun i hi => ?_⟩
      obtain ⟨hi1, hi2⟩ := h4 i hi
      have h6 := h.2 i (by rw [← h2]; exact hi)
      have h7 := owpOp_q' (Q := Q) (Q' := NxB P md ops Q n1 n2) (fun c a w h => h) (fun ⟨a, w, h⟩ => ⟨a, w, h⟩) h6
      refine wpOp_mono (fun a' w' hh => ?_) h7
      rw [set_mkB m n2 false i (by omega)]
      have hh2 := hh.2
      rw [set_mkB m n2 true i (by omega)] at hh2
      exact ih (m.set i true) a' w' (by rw [List.length_set]; exact hl) (by have := count_set_false' m i (by omega) hi2; omega) (clp_set hcl (by omega) (fun o ho e he hb => by
        obtain ⟨_, _, o', ho', h3⟩ := (ready_iff _ _).1 hi
        rw [ho] at ho'; injection ho' with ho'; subst ho'
        have h4 := h3 e he hb
        rw [mkB_get] at h4
        by_cases hh : e.on < m.length
        · rwa [if_pos hh] at h4
        · rw [if_neg hh] at h4
          split at h4 <;> cases h4)) hh2
theorem wp_region_twoC {id : Nat} {a : Act} {w : World} (S : World → Prop) (n1 n2 : Nat) (hm : P.follows .mixedOrders = true) (hsz : ops.size = n1 + n2) (hk : chkT .any ops n1 n2 = true)
    (h : wpAnyH P .any ops (NxB P .any ops Q n1 n2) S n1 (mkB (List.replicate n1 false) n2 true) a w.drew) : (Code.region id ops true).wp P Q a w := by
  refine wp_region_any hm ?_
  have hc : (List.replicate n1 false).count false = n1 := by rw [List.count_replicate]; simp
  have := two_phaseC (Q := Q) (S := S) hk hsz n1 (List.replicate n1 false) a w.drew (by simp) hc (fun i hi h => by
    rw [List.getD_eq_getElem?_getD, List.getElem?_replicate] at h
    split at h <;> cases h) h
  have e : mkB (List.replicate n1 false) n2 false = Array.replicate ops.size false := by
    unfold mkB
    rw [hsz, List.replicate_append_replicate, List.toArray_replicate]
  rw [e, ← hsz] at this
  exact this
end
end Go.Proofs.YtkgkpggfoieioaaGreatDoor
