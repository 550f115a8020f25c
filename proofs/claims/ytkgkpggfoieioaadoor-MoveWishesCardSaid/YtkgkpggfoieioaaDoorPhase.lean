import Derived.Test.YtkgkpggfoieioaaDoorTwo
namespace Go.Proofs.YtkgkpggfoieioaaDoor
set_option linter.unusedVariables false
/-! A region that draws its order, in two phases: S is kept through the first alone. -/
theorem owp_q {P : Program} {o : Oper} {a : Act} {w : World} {K : Act → World → Prop} {Q Q' : Exit → Act → World → Prop} (hp : ∀ c a w, Q' (.panic c) a w → Q (.panic c) a w) (hl : LetsOut Q' → LetsOut Q) (h : o.wp P a w K Q') : o.wp P a w K Q := by
  unfold Oper.wp at *
  generalize (execOp a.eval o).run P w = r at *
  cases r with
  | ok n w' =>
    cases n <;> simp only [Oper.upon] at h ⊢ <;>
      first
        | exact h
        | exact Calls.mono h (fun e w'' he => by cases e <;> first | exact he | exact hp _ _ _ he | exact hl he)
  | halt x w' => cases x <;> simp only [Oper.upon] at h ⊢ <;> first | exact h | exact hp _ _ _ h
theorem owpOp_q {P : Program} {ops : Array Oper} {i : Nat} {a : Act} {w : World} {K : Act → World → Prop} {Q Q' : Exit → Act → World → Prop} (hp : ∀ c a w, Q' (.panic c) a w → Q (.panic c) a w) (hl : LetsOut Q' → LetsOut Q) (h : wpOp P ops Q' i K a w) : wpOp P ops Q i K a w := by
  unfold wpOp at *
  split
  · simpa [*] using h
  · rename_i o ho
    simp only [ho] at h
    split
    · rename_i hw
      simp only [hw, if_true] at h
      exact h.imp (owp_q hp hl) (fun h => ⟨h.1, hl h.2⟩)
    · rename_i hw
      simp only [hw] at h
      exact h
def mk2 (m : List Bool) (n2 : Nat) (b : Bool) : Array Bool := (m ++ List.replicate n2 b).toArray
theorem set_mk2 (m : List Bool) (n2 : Nat) (b : Bool) (i : Nat) (h : i < m.length) : (mk2 m n2 b).setIfInBounds i true = mk2 (m.set i true) n2 b := by
  unfold mk2
  rw [List.setIfInBounds_toArray, List.set_append, if_pos h]
theorem count_set_false : ∀ (l : List Bool) (i : Nat), i < l.length → l.getD i true = false → (l.set i true).count false + 1 = l.count false
  | [], i, h, _ => by simp at h
  | a :: l, 0, _, h => by
    have : a = false := by simpa using h
    subst this; simp
  | a :: l, i + 1, h, h2 => by
    have := count_set_false l i (by simpa using h) (by simpa using h2)
    rw [List.set_cons_succ, List.count_cons, List.count_cons]; omega
/-- Which sets may have come up: those are listed, each with what may come up next. -/
def chk2 (md : Region.Mode) (ops : Array Oper) (n1 n2 : Nat) (Ms : List (List Bool)) : Bool :=
  Ms.contains (List.replicate n1 false) && Ms.all fun m => m.length == n1 && (m.all id ||
    ((Region.ready md ops (mk2 m n2 false)) == (Region.ready md ops (mk2 m n2 true)) && !(Region.ready md ops (mk2 m n2 false)).isEmpty &&
      (Region.ready md ops (mk2 m n2 false)).all fun i => decide (i < n1) && !(m.getD i true) && Ms.contains (m.set i true)))
theorem all_true : ∀ (m : List Bool), m.all id = true → m = List.replicate m.length true
  | [], _ => rfl
  | a :: l, h => by
    simp only [List.all_cons, Bool.and_eq_true] at h
    rw [List.length_cons, List.replicate_succ, ← all_true l h.2]
    have : a = true := h.1
    rw [this]
section
variable {P : Program} {md : Region.Mode} {ops : Array Oper} {Q : Exit → Act → World → Prop} {S : World → Prop} {n1 n2 : Nat}
/-- What follows the first phase. -/
def Nx2 (P : Program) (md : Region.Mode) (ops : Array Oper) (Q : Exit → Act → World → Prop) (n1 n2 : Nat) : Exit → Act → World → Prop
  | .normal, a, w => wpAny P md ops Q n2 (mk2 (List.replicate n1 true) n2 false) a w
  | .panic c, a, w => Q (.panic c) a w
  | e, a, w => Q e a w
theorem two_phase (Ms : List (List Bool)) (hk : chk2 md ops n1 n2 Ms = true) : ∀ (fuel : Nat) (m : List Bool) (a : Act) (w : World), m ∈ Ms → m.count false = fuel →
    wpAnyH P md ops (Nx2 P md ops Q n1 n2) S fuel (mk2 m n2 true) a w → wpAny P md ops Q (fuel + n2) (mk2 m n2 false) a w := by
  unfold chk2 at hk
  simp only [Bool.and_eq_true] at hk
  have hall := fun m hm => List.all_eq_true.1 hk.2 m hm
  intro fuel
  induction fuel with
  | zero =>
    intro m a w hm hc h
    have h1 := hall m hm
    simp only [Bool.and_eq_true, beq_iff_eq] at h1
    have hm1 : m.all id = true := by
      rw [List.all_eq_true]
      intro x hx
      cases x with
      | true => rfl
      | false => have := List.count_pos_iff.2 hx; omega
    rw [all_true m hm1, h1.1]
    rw [Nat.zero_add]
    exact h.2
  | succ fuel ih =>
    intro m a w hm hc h
    have h1 := hall m hm
    simp only [Bool.and_eq_true, Bool.or_eq_true, beq_iff_eq] at h1
    obtain ⟨hl, h2⟩ := h1
    rcases h2 with h2 | ⟨⟨h2, h3⟩, h4⟩
    · rw [all_true m h2] at hc
      rw [List.count_replicate] at hc
      simp at hc
    · have hne : Region.ready md ops (mk2 m n2 false) ≠ [] := by
        intro e; rw [e] at h3; simp at h3
      rw [show fuel + 1 + n2 = (fuel + n2) + 1 by omega]
      refine ⟨fun e => absurd e hne, fun i hi => ?_⟩
      have h5 := List.all_eq_true.1 h4 i hi
      simp only [Bool.and_eq_true, decide_eq_true_eq, Bool.not_eq_true', List.contains_iff_mem] at h5
      obtain ⟨⟨hi1, hi2⟩, hi3⟩ := h5
      have h6 := h.2 i (by rw [← h2]; exact hi)
      have h7 := owpOp_q (Q := Q) (Q' := Nx2 P md ops Q n1 n2) (fun c a w h => h) (fun ⟨a, w, h⟩ => ⟨a, w, h⟩) h6
      refine wpOp_mono (fun a' w' hh => ?_) h7
      rw [set_mk2 m n2 false i (by omega)]
      have hh2 := hh.2
      rw [set_mk2 m n2 true i (by omega)] at hh2
      exact ih (m.set i true) a' w' hi3 (by have := count_set_false m i (by omega) hi2; omega) hh2
theorem wp_region_two {id : Nat} {a : Act} {w : World} (S : World → Prop) (n1 n2 : Nat) (Ms : List (List Bool)) (hm : P.follows .mixedOrders = true) (hsz : ops.size = n1 + n2) (hk : chk2 .any ops n1 n2 Ms = true)
    (h : wpAnyH P .any ops (Nx2 P .any ops Q n1 n2) S n1 (mk2 (List.replicate n1 false) n2 true) a w.drew) : (Code.region id ops true).wp P Q a w := by
  refine wp_region_any hm ?_
  have hc : (List.replicate n1 false).count false = n1 := by rw [List.count_replicate]; simp
  have hmem : List.replicate n1 false ∈ Ms := by
    unfold chk2 at hk
    simp only [Bool.and_eq_true, List.contains_iff_mem] at hk
    exact hk.1
  have := two_phase (Q := Q) (S := S) Ms hk n1 (List.replicate n1 false) a w.drew hmem hc h
  have e : mk2 (List.replicate n1 false) n2 false = Array.replicate ops.size false := by
    unfold mk2
    rw [hsz, List.replicate_append_replicate, List.toArray_replicate]
  rw [e, ← hsz] at this
  exact this
end
end Go.Proofs.YtkgkpggfoieioaaDoor
