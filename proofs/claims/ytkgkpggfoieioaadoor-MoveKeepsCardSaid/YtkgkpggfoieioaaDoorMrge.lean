import Derived.Test.YtkgkpggfoieioaaDoorRows
import Derived.WalkKit
import Derived.Deep.RegionHeld3
import Derived.Test.YtkgkpggfoieioaaDoorMrgb
namespace Go.Proofs.YtkgkpggfoieioaaDoor
set_option linter.unusedVariables false
/-! A region that draws its order, in two phases, the second behind the whole first: S is kept through the first alone. -/
theorem owp_q' {P : Program} {o : Oper} {a : Act} {w : World} {K : Act → World → Prop} {Q Q' : Exit → Act → World → Prop} (hp : ∀ c a w, Q' (.panic c) a w → Q (.panic c) a w) (hl : LetsOut Q' → LetsOut Q) (h : o.wp P a w K Q') : o.wp P a w K Q := by
  unfold Oper.wp at *
  generalize (execOp a.eval o).run P w = r at *
  cases r with
  | ok n w' =>
    cases n <;> simp only [Oper.upon] at h ⊢ <;>
      first
        | exact h
        | exact Calls.mono h (fun e w'' he => by cases e <;> first | exact he | exact hp _ _ _ he | exact hl he)
  | halt x w' => cases x <;> simp only [Oper.upon] at h ⊢ <;> first | exact h | exact hp _ _ _ h
theorem owpOp_q' {P : Program} {ops : Array Oper} {i : Nat} {a : Act} {w : World} {K : Act → World → Prop} {Q Q' : Exit → Act → World → Prop} (hp : ∀ c a w, Q' (.panic c) a w → Q (.panic c) a w) (hl : LetsOut Q' → LetsOut Q) (h : wpOp P ops Q' i K a w) : wpOp P ops Q i K a w := by
  unfold wpOp at *
  split
  · simpa [*] using h
  · rename_i o ho
    simp only [ho] at h
    split
    · rename_i hw
      simp only [hw, if_true] at h
      exact h.imp (owp_q' hp hl) (fun h => ⟨h.1, hl h.2⟩)
    · rename_i hw
      simp only [hw] at h
      exact h
def mkB (m : List Bool) (n2 : Nat) (b : Bool) : Array Bool := (m ++ List.replicate n2 b).toArray
theorem set_mkB (m : List Bool) (n2 : Nat) (b : Bool) (i : Nat) (h : i < m.length) : (mkB m n2 b).setIfInBounds i true = mkB (m.set i true) n2 b := by
  unfold mkB
  rw [List.setIfInBounds_toArray, List.set_append, if_pos h]
theorem count_set_false' : ∀ (l : List Bool) (i : Nat), i < l.length → l.getD i true = false → (l.set i true).count false + 1 = l.count false
  | [], i, h, _ => by simp at h
  | a :: l, 0, _, h => by
    have : a = false := by simpa using h
    subst this; simp
  | a :: l, i + 1, h, h2 => by
    have := count_set_false' l i (by simpa using h) (by simpa using h2)
    rw [List.set_cons_succ, List.count_cons, List.count_cons]; omega
theorem mkB_get (m : List Bool) (n2 : Nat) (b : Bool) (i : Nat) (d : Bool) : (mkB m n2 b).getD i d = if i < m.length then m.getD i d else if i < m.length + n2 then b else d := by
  unfold mkB
  rw [Array.getD_eq_getD_getElem?, List.getElem?_toArray, List.getElem?_append]
  split
  · rw [List.getD_eq_getElem?_getD]
  · rw [List.getElem?_replicate]
    by_cases h : i < m.length + n2
    · rw [if_pos h, if_pos (by omega)]; rfl
    · rw [if_neg h, if_neg (by omega)]; rfl
/-- Each operation of the first phase waits for earlier ones alone; each of the second waits for the whole first. -/
def chkS (md : Region.Mode) (ops : Array Oper) (n1 n2 : Nat) : Bool :=
  ((List.range n1).all fun i => match ops[i]? with | some o => o.after.all (fun e => decide (e.on < i)) | none => false) &&
  ((List.range n2).all fun k => match ops[n1 + k]? with | some o => (List.range n1).all (fun j => o.after.any (fun e => Region.binds md e && e.on == j)) | none => false)
section
variable {P : Program} {md : Region.Mode} {ops : Array Oper} {Q : Exit → Act → World → Prop} {S : World → Prop} {n1 n2 : Nat}
theorem ready_iff (listed : Array Bool) (i : Nat) : i ∈ Region.ready md ops listed ↔ i < ops.size ∧ listed.getD i true = false ∧ ∃ o, ops[i]? = some o ∧ ∀ e ∈ o.after, Region.binds md e = true → listed.getD e.on false = true := by
  unfold Region.ready
  rw [List.mem_filter, List.mem_range, Bool.and_eq_true]
  refine and_congr Iff.rfl (and_congr (by cases listed.getD i true <;> simp) ?_)
  cases ops[i]? with
  | none => simp
  | some o =>
    simp only [Option.map_some, Option.getD_some, Array.all_eq_true', Bool.or_eq_true, Bool.not_eq_true', Option.some.injEq, exists_eq_left']
    constructor
    · intro h e he hb
      rcases h e he with h1 | h1
      · rw [hb] at h1; cases h1
      · exact h1
    · intro h e he
      cases hb : Region.binds md e with
      | false => exact .inl rfl
      | true => exact .inr (h e he hb)
theorem exists_false : ∀ (m : List Bool), m.all id = false → ∃ i, i < m.length ∧ m.getD i true = false ∧ ∀ j, j < i → m.getD j false = true
  | [], h => by simp at h
  | false :: m, _ => ⟨0, by simp, rfl, fun j hj => absurd hj (by omega)⟩
  | true :: m, h => by
    obtain ⟨i, h1, h2, h3⟩ := exists_false m (by simpa using h)
    refine ⟨i + 1, by simpa using h1, by simpa using h2, fun j hj => ?_⟩
    cases j with
    | zero => rfl
    | succ j => simpa using h3 j (by omega)
theorem ready_two (hk : chkS md ops n1 n2 = true) (hsz : ops.size = n1 + n2) (m : List Bool) (hm : m.length = n1) (hn : m.all id = false) :
    Region.ready md ops (mkB m n2 false) = Region.ready md ops (mkB m n2 true) ∧ Region.ready md ops (mkB m n2 false) ≠ [] ∧ ∀ i ∈ Region.ready md ops (mkB m n2 false), i < n1 ∧ m.getD i true = false := by
  unfold chkS at hk
  rw [Bool.and_eq_true, List.all_eq_true, List.all_eq_true] at hk
  obtain ⟨k1, k2⟩ := hk
  have f1 : ∀ i, i < n1 → ∀ o, ops[i]? = some o → ∀ e ∈ o.after, e.on < i := fun i hi o ho e he => by
    have := k1 i (List.mem_range.2 hi)
    rw [ho] at this
    simp only [Array.all_eq_true', decide_eq_true_eq] at this
    exact this e he
  have hlt : ∀ b, ∀ i, i ∈ Region.ready md ops (mkB m n2 b) → i < n1 := fun b i hi => by
    obtain ⟨h1, h2, o, ho, h3⟩ := (ready_iff _ _).1 hi
    rcases Nat.lt_or_ge i n1 with h | h
    · exact h
    · exfalso
      rw [mkB_get, if_neg (by omega), if_pos (by omega)] at h2
      subst h2
      obtain ⟨j, hj, hj2, _⟩ := exists_false m hn
      have := k2 (i - n1) (List.mem_range.2 (by omega))
      rw [show n1 + (i - n1) = i by omega, ho] at this
      simp only [List.all_eq_true, List.mem_range] at this
      have hj3 := this j (by omega)
      rw [Array.any_eq_true'] at hj3
      obtain ⟨e, he, heb⟩ := hj3
      rw [Bool.and_eq_true, beq_iff_eq] at heb
      have h4 := h3 e he heb.1
      rw [heb.2, mkB_get, if_pos hj] at h4
      rw [List.getD_eq_getElem?_getD] at h4 hj2
      rw [List.getElem?_eq_getElem hj] at h4 hj2
      simp only [Option.getD_some] at h4 hj2
      rw [h4] at hj2; cases hj2
  have hsame : ∀ b b', ∀ i, i < n1 → (i ∈ Region.ready md ops (mkB m n2 b) → i ∈ Region.ready md ops (mkB m n2 b')) := fun b b' i hi h => by
    obtain ⟨h1, h2, o, ho, h3⟩ := (ready_iff _ _).1 h
    refine (ready_iff _ _).2 ⟨h1, ?_, o, ho, fun e he hb => ?_⟩
    · rw [mkB_get, if_pos (by omega)] at h2 ⊢; exact h2
    · have h4 := h3 e he hb
      have h5 := f1 i hi o ho e he
      rw [mkB_get, if_pos (by omega)] at h4 ⊢; exact h4
  refine ⟨?_, ?_, fun i hi => ⟨hlt _ i hi, ?_⟩⟩
  · unfold Region.ready
    refine List.filter_congr fun i hi => ?_
    rw [Bool.eq_iff_iff]
    have g : ∀ b, ((!(mkB m n2 b).getD i true && ((ops[i]?).map (·.after.all fun e => !Region.binds md e || (mkB m n2 b).getD e.on false)).getD false) = true) ↔ i ∈ Region.ready md ops (mkB m n2 b) := fun b => by
      unfold Region.ready
      rw [List.mem_filter]
      exact ⟨fun h => ⟨hi, h⟩, fun h => h.2⟩
    rw [g false, g true]
    exact ⟨fun h => hsame _ _ i (hlt _ i h) h, fun h => hsame _ _ i (hlt _ i h) h⟩
  · obtain ⟨i, hi, hi2, hi3⟩ := exists_false m hn
    have hio : i < ops.size := by omega
    have : i ∈ Region.ready md ops (mkB m n2 false) := (ready_iff _ _).2 ⟨hio, by rw [mkB_get, if_pos hi]; exact hi2, ops[i], Array.getElem?_eq_getElem hio, fun e he _ => by
      have h5 := f1 i (by omega) _ (Array.getElem?_eq_getElem hio) e he
      rw [mkB_get, if_pos (by omega)]
      exact hi3 _ h5⟩
    intro e
    rw [e] at this
    cases this
  · obtain ⟨h1, h2, _⟩ := (ready_iff _ _).1 hi
    have := hlt _ i hi
    rwa [mkB_get, if_pos (by omega)] at h2
/-- What follows the first phase. -/
def NxB (P : Program) (md : Region.Mode) (ops : Array Oper) (Q : Exit → Act → World → Prop) (n1 n2 : Nat) : Exit → Act → World → Prop
  | .normal, a, w => wpAny P md ops Q n2 (mkB (List.replicate n1 true) n2 false) a w
  | .panic c, a, w => Q (.panic c) a w
  | e, a, w => Q e a w
theorem all_trueB : ∀ (m : List Bool), m.all id = true → m = List.replicate m.length true
  | [], _ => rfl
  | a :: l, h => by
    simp only [List.all_cons, Bool.and_eq_true] at h
    rw [List.length_cons, List.replicate_succ, ← all_trueB l h.2]
    have : a = true := h.1
    rw [this]
theorem two_phaseB (hk : chkS md ops n1 n2 = true) (hsz : ops.size = n1 + n2) : ∀ (fuel : Nat) (m : List Bool) (a : Act) (w : World), m.length = n1 → m.count false = fuel →
    wpAnyH P md ops (NxB P md ops Q n1 n2) S fuel (mkB m n2 true) a w → wpAny P md ops Q (fuel + n2) (mkB m n2 false) a w := by
  intro fuel
  induction fuel with
  | zero =>
    intro m a w hl hc h
    have hm1 : m.all id = true := by
      rw [List.all_eq_true]
      intro x hx
      cases x with
      | true => rfl
      | false => have := List.count_pos_iff.2 hx; omega
    rw [all_trueB m hm1, hl]
    rw [Nat.zero_add]
    exact h.2
  | succ fuel ih =>
    intro m a w hl hc h
    cases hall : m.all id with
    | true =>
      rw [all_trueB m hall] at hc
      rw [List.count_replicate] at hc
      simp at hc
    | false =>
      obtain ⟨h2, hne, h4⟩ := ready_two hk hsz m hl hall
      rw [show fuel + 1 + n2 = (fuel + n2) + 1 by omega]
      refine ⟨fun e => absurd e hne, fun i hi => ?_⟩
      obtain ⟨hi1, hi2⟩ := h4 i hi
      have h6 := h.2 i (by rw [← h2]; exact hi)
      have h7 := owpOp_q' (Q := Q) (Q' := NxB P md ops Q n1 n2) (fun c a w h => h) (fun ⟨a, w, h⟩ => ⟨a, w, h⟩) h6
      refine wpOp_mono (fun a' w' hh => ?_) h7
      rw [set_mkB m n2 false i (by omega)]
      have hh2 := hh.2
      rw [set_mkB m n2 true i (by omega)] at hh2
      exact ih (m.set i true) a' w' (by rw [List.length_set]; exact hl) (by have := count_set_false' m i (by omega) hi2; omega) hh2
theorem wp_region_twoB {id : Nat} {a : Act} {w : World} (S : World → Prop) (n1 n2 : Nat) (hm : P.follows .mixedOrders = true) (hsz : ops.size = n1 + n2) (hk : chkS .any ops n1 n2 = true)
    (h : wpAnyH P .any ops (NxB P .any ops Q n1 n2) S n1 (mkB (List.replicate n1 false) n2 true) a w.drew) : (Code.region id ops true).wp P Q a w := by
  refine wp_region_any hm ?_
  have hc : (List.replicate n1 false).count false = n1 := by rw [List.count_replicate]; simp
  have := two_phaseB (Q := Q) (S := S) hk hsz n1 (List.replicate n1 false) a w.drew (by simp) hc h
  have e : mkB (List.replicate n1 false) n2 false = Array.replicate ops.size false := by
    unfold mkB
    rw [hsz, List.replicate_append_replicate, List.toArray_replicate]
  rw [e, ← hsz] at this
  exact this
end
end Go.Proofs.YtkgkpggfoieioaaDoor
namespace Go.Proofs.YtkgkpggfoieioaaDoor
set_option linter.unusedVariables false
/-! A region in two phases, as XPhase2's, but an operation of the second phase may wait for one of the first by way of another one of the first. -/
def chkT (md : Region.Mode) (ops : Array Oper) (n1 n2 : Nat) : Bool :=
  ((List.range n1).all fun i => match ops[i]? with | some o => o.after.all (fun e => decide (e.on < i)) | none => false) &&
  ((List.range n2).all fun k => match ops[n1 + k]? with | some o => o.after.any (fun e => Region.binds md e && decide (n1 ≤ e.on) && decide (e.on < n1 + n2)) || (List.range n1).all (fun j => o.after.any (fun e => Region.binds md e && e.on == j) || (List.range n1).any (fun t => o.after.any (fun e => Region.binds md e && e.on == t) && (match ops[t]? with | some p => p.after.any (fun e => Region.binds md e && e.on == j) | none => false))) | none => false)
/-- What has come up came up behind what it waits for. -/
def ClP (md : Region.Mode) (ops : Array Oper) (m : List Bool) : Prop := ∀ i, i < m.length → m.getD i false = true → ∀ o, ops[i]? = some o → ∀ e ∈ o.after, Region.binds md e = true → m.getD e.on false = true
theorem getD_set_true (m : List Bool) (i j : Nat) (h : m.getD j false = true) : (m.set i true).getD j false = true := by
  rw [List.getD_eq_getElem?_getD, List.getElem?_set]
  rw [List.getD_eq_getElem?_getD] at h
  split
  · split
    · rfl
    · rename_i h1 h2
      subst h1
      rw [List.getElem?_eq_none (by omega)] at h
      cases h
  · exact h
theorem clp_set {md : Region.Mode} {ops : Array Oper} {m : List Bool} {i : Nat} (h : ClP md ops m) (hi : i < m.length) (hr : ∀ o, ops[i]? = some o → ∀ e ∈ o.after, Region.binds md e = true → m.getD e.on false = true) : ClP md ops (m.set i true) := by
  intro t ht htt o ho e he hb
  rw [List.length_set] at ht
  refine getD_set_true m i _ ?_
  by_cases hti : i = t
  · subst hti; exact hr o ho e he hb
  · refine h t ht ?_ o ho e he hb
    rw [List.getD_eq_getElem?_getD, List.getElem?_set, if_neg hti] at htt
    rw [List.getD_eq_getElem?_getD]; exact htt
section
variable {P : Program} {md : Region.Mode} {ops : Array Oper} {Q : Exit → Act → World → Prop} {S : World → Prop} {n1 n2 : Nat}
theorem ready_three (hk : chkT md ops n1 n2 = true) (hsz : ops.size = n1 + n2) (m : List Bool) (hm : m.length = n1) (hn : m.all id = false) (hcl : ClP md ops m) :
    Region.ready md ops (mkB m n2 false) = Region.ready md ops (mkB m n2 true) ∧ Region.ready md ops (mkB m n2 false) ≠ [] ∧ ∀ i ∈ Region.ready md ops (mkB m n2 false), i < n1 ∧ m.getD i true = false := by
  unfold chkT at hk
  rw [Bool.and_eq_true, List.all_eq_true, List.all_eq_true] at hk
  obtain ⟨k1, k2⟩ := hk
  have f1 : ∀ i, i < n1 → ∀ o, ops[i]? = some o → ∀ e ∈ o.after, e.on < i := fun i hi o ho e he => by
    have := k1 i (List.mem_range.2 hi)
    rw [ho] at this
    simp only [Array.all_eq_true', decide_eq_true_eq] at this
    exact this e he
  have hlt : ∀ b, ∀ i, i ∈ Region.ready md ops (mkB m n2 b) → i < n1 := fun b i hi => by
    obtain ⟨h1, h2, o, ho, h3⟩ := (ready_iff _ _).1 hi
    rcases Nat.lt_or_ge i n1 with h | h
    · exact h
    · exfalso
      rw [mkB_get, if_neg (by omega), if_pos (by omega)] at h2
      subst h2
      obtain ⟨j, hj, hj2, _⟩ := exists_false m hn
      have := k2 (i - n1) (List.mem_range.2 (by omega))
      rw [show n1 + (i - n1) = i by omega, ho] at this
      simp only [Bool.or_eq_true (Array.any _ _ _ _)] at this
      rcases this with hA | this
      · rw [Array.any_eq_true'] at hA
        obtain ⟨e, he, heb⟩ := hA
        rw [Bool.and_eq_true, Bool.and_eq_true, decide_eq_true_iff, decide_eq_true_iff] at heb
        have h4 := h3 e he heb.1.1
        rw [mkB_get, if_neg (by omega), if_pos (by omega)] at h4
        cases h4
      simp only [List.all_eq_true, List.mem_range] at this
      have hj3 := this j (by omega)
      have key : ∀ t, t < n1 → (o.after.any (fun e => Region.binds md e && e.on == t)) = true → m.getD t false = true := fun t ht hj3 => by
        rw [Array.any_eq_true'] at hj3
        obtain ⟨e, he, heb⟩ := hj3
        rw [Bool.and_eq_true, beq_iff_eq] at heb
        have h4 := h3 e he heb.1
        rw [heb.2, mkB_get, if_pos (by omega)] at h4
        exact h4
      have hjf : m.getD j false = true := by
        rw [Bool.or_eq_true] at hj3
        rcases hj3 with h | h
        · exact key j (by omega) h
        · rw [List.any_eq_true] at h
          obtain ⟨t, ht, h⟩ := h
          rw [List.mem_range] at ht
          rw [Bool.and_eq_true] at h
          have k1 := key t ht h.1
          cases hp : ops[t]? with
          | none => rw [hp] at h; exact absurd h.2 (by simp)
          | some p =>
            rw [hp] at h
            have h2 := h.2
            simp only at h2
            rw [Array.any_eq_true'] at h2
            obtain ⟨e, he, heb⟩ := h2
            rw [Bool.and_eq_true, beq_iff_eq] at heb
            have := hcl t (by omega) k1 p hp e he heb.1
            rwa [heb.2] at this
      rw [List.getD_eq_getElem?_getD] at hjf hj2
      rw [List.getElem?_eq_getElem hj] at hjf hj2
      simp only [Option.getD_some] at hjf hj2
      rw [hjf] at hj2; cases hj2
  have hsame : ∀ b b', ∀ i, i < n1 → (i ∈ Region.ready md ops (mkB m n2 b) → i ∈ Region.ready md ops (mkB m n2 b')) := fun b b' i hi h => by
    obtain ⟨h1, h2, o, ho, h3⟩ := (ready_iff _ _).1 h
    refine (ready_iff _ _).2 ⟨h1, ?_, o, ho, fun e he hb => ?_⟩
    · rw [mkB_get, if_pos (by omega)] at h2 ⊢; exact h2
    · have h4 := h3 e he hb
      have h5 := f1 i hi o ho e he
      rw [mkB_get, if_pos (by omega)] at h4 ⊢; exact h4
  refine ⟨?_, ?_, fun i hi => ⟨hlt _ i hi, ?_⟩⟩
  · unfold Region.ready
    refine List.filter_congr fun i hi => ?_
    rw [Bool.eq_iff_iff]
    have g : ∀ b, ((!(mkB m n2 b).getD i true && ((ops[i]?).map (·.after.all fun e => !Region.binds md e || (mkB m n2 b).getD e.on false)).getD false) = true) ↔ i ∈ Region.ready md ops (mkB m n2 b) := fun b => by
      unfold Region.ready
      rw [List.mem_filter]
      exact ⟨fun h => ⟨hi, h⟩, fun h => h.2⟩
    rw [g false, g true]
    exact ⟨fun h => hsame _ _ i (hlt _ i h) h, fun h => hsame _ _ i (hlt _ i h) h⟩
  · obtain ⟨i, hi, hi2, hi3⟩ := exists_false m hn
    have hio : i < ops.size := by omega
    have : i ∈ Region.ready md ops (mkB m n2 false) := (ready_iff _ _).2 ⟨hio, by rw [mkB_get, if_pos hi]; exact hi2, ops[i], Array.getElem?_eq_getElem hio, fun e he _ => by
      have h5 := f1 i (by omega) _ (Array.getElem?_eq_getElem hio) e he
      rw [mkB_get, if_pos (by omega)]
      exact hi3 _ h5⟩
    intro e
    rw [e] at this
    cases this
  · obtain ⟨h1, h2, _⟩ := (ready_iff _ _).1 hi
    have := hlt _ i hi
    rwa [mkB_get, if_pos (by omega)] at h2
theorem two_phaseC (hk : chkT md ops n1 n2 = true) (hsz : ops.size = n1 + n2) : ∀ (fuel : Nat) (m : List Bool) (a : Act) (w : World), m.length = n1 → m.count false = fuel → ClP md ops m →
    wpAnyH P md ops (NxB P md ops Q n1 n2) S fuel (mkB m n2 true) a w → wpAny P md ops Q (fuel + n2) (mkB m n2 false) a w := by
  intro fuel
  induction fuel with
  | zero =>
    intro m a w hl hc hcl h
    have hm1 : m.all id = true := by
      rw [List.all_eq_true]
      intro x hx
      cases x with
      | true => rfl
      | false => have := List.count_pos_iff.2 hx; omega
    rw [all_trueB m hm1, hl]
    rw [Nat.zero_add]
    exact h.2
  | succ fuel ih =>
    intro m a w hl hc hcl h
    cases hall : m.all id with
    | true =>
      rw [all_trueB m hall] at hc
      rw [List.count_replicate] at hc
      simp at hc
    | false =>
      obtain ⟨h2, hne, h4⟩ := ready_three hk hsz m hl hall hcl
      rw [show fuel + 1 + n2 = (fuel + n2) + 1 by omega]
      refine ⟨fun e => absurd e hne, fun i hi => ?_⟩
      obtain ⟨hi1, hi2⟩ := h4 i hi
      have h6 := h.2 i (by rw [← h2]; exact hi)
      have h7 := owpOp_q' (Q := Q) (Q' := NxB P md ops Q n1 n2) (fun c a w h => h) (fun ⟨a, w, h⟩ => ⟨a, w, h⟩) h6
      refine wpOp_mono (fun a' w' hh => ?_) h7
      rw [set_mkB m n2 false i (by omega)]
      have hh2 := hh.2
      rw [set_mkB m n2 true i (by omega)] at hh2
      exact ih (m.set i true) a' w' (by rw [List.length_set]; exact hl) (by have := count_set_false' m i (by omega) hi2; omega) (clp_set hcl (by omega) (fun o ho e he hb => by
        obtain ⟨_, _, o', ho', h3⟩ := (ready_iff _ _).1 hi
        rw [ho] at ho'; injection ho' with ho'; subst ho'
        have h4 := h3 e he hb
        rw [mkB_get] at h4
        by_cases hh : e.on < m.length
        · rwa [if_pos hh] at h4
        · rw [if_neg hh] at h4
          split at h4 <;> cases h4)) hh2
theorem wp_region_twoC {id : Nat} {a : Act} {w : World} (S : World → Prop) (n1 n2 : Nat) (hm : P.follows .mixedOrders = true) (hsz : ops.size = n1 + n2) (hk : chkT .any ops n1 n2 = true)
    (h : wpAnyH P .any ops (NxB P .any ops Q n1 n2) S n1 (mkB (List.replicate n1 false) n2 true) a w.drew) : (Code.region id ops true).wp P Q a w := by
  refine wp_region_any hm ?_
  have hc : (List.replicate n1 false).count false = n1 := by rw [List.count_replicate]; simp
  have := two_phaseC (Q := Q) (S := S) hk hsz n1 (List.replicate n1 false) a w.drew (by simp) hc (fun i hi h => by
    rw [List.getD_eq_getElem?_getD, List.getElem?_replicate] at h
    split at h <;> cases h) h
  have e : mkB (List.replicate n1 false) n2 false = Array.replicate ops.size false := by
    unfold mkB
    rw [hsz, List.replicate_append_replicate, List.toArray_replicate]
  rw [e, ← hsz] at this
  exact this
end
end Go.Proofs.YtkgkpggfoieioaaDoor
namespace Go.Proofs.YtkgkpggfoieioaaDoor
set_option linter.unusedVariables false
open Go.RowKit
theorem sli_of_own {w : World} {base c : Nat} {A : Option Addr} {xs : List Int} (h : w.ownsRow base 3 1 (.slice A xs.length c) xs.length (xs.map (.int .i64))) (hx : ∀ x ∈ xs, I64 x) : SLI w ⟨A, c⟩ xs := by
  refine ⟨RD.of_own h, ?_, ?_, ?_, hx⟩
  all_goals
    rcases h.2 with ⟨hv, h0⟩ | ⟨g, cap, cur, hv, hb, hh, h1, h2, _⟩
    · injection hv with e1 e2 e3
      subst e1; subst e3
      simp [h0, maxLen]
    · injection hv with e1 e2 e3
      subst e1; subst e3
      simp; try omega
end Go.Proofs.YtkgkpggfoieioaaDoor
