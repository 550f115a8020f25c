import Derived.Test.YtkgkpggfoieioaaGreatDoorWords
namespace Go.Proofs.YtkgkpggfoieioaaGreatDoor
set_option linter.unusedVariables false
/-- The first that is so; -1: none. -/
def firstI {α : Type} (p : α → Bool) (L : List α) : Int := match L.findIdx? p with
  | some i => i
  | none => -1
theorem first_any {α : Type} (p : α → Bool) (L : List α) : decide (0 ≤ firstI p L) = L.any p := by
  unfold firstI
  rw [Bool.eq_iff_iff, decide_eq_true_iff]
  rcases h : L.findIdx? p with _ | i
  · rw [List.findIdx?_eq_none_iff] at h
    simp only [List.any_eq_true]
    constructor
    · intro h1; omega
    · rintro ⟨x, hx, hp⟩
      rw [h x hx] at hp; cases hp
  · obtain ⟨h1, h2⟩ := List.findIdx?_eq_some_iff_getElem.1 h
    simp only [List.any_eq_true]
    constructor
    · intro _
      exact ⟨L[i], List.getElem_mem _, h2.1⟩
    · intro _; omega
theorem first_no {α : Type} (p : α → Bool) (L : List α) (h : ∀ x ∈ L, p x = false) : firstI p L = -1 := by
  unfold firstI
  rw [List.findIdx?_eq_none_iff.2 h]
theorem first_at {α : Type} (p : α → Bool) (L : List α) (k : Nat) (x : α) (hk : L[k]? = some x) (hx : p x = true) (h : ∀ y ∈ L.take k, p y = false) : firstI p L = k := by
  unfold firstI
  have hl : k < L.length := (List.getElem?_eq_some_iff.1 hk).1
  have : L.findIdx? p = some k := by
    rw [List.findIdx?_eq_some_iff_getElem]
    refine ⟨hl, ?_, fun j hj => ?_⟩
    · have e : L[k] = x := by rw [List.getElem?_eq_getElem hl] at hk; injection hk
      rw [e]; exact hx
    · have := h L[j] (by rw [List.mem_iff_getElem?]; exact ⟨j, by rw [List.getElem?_take_of_lt hj, List.getElem?_eq_getElem]⟩)
      simp [this]
  rw [this]
theorem first_lt {α : Type} (p : α → Bool) (L : List α) : -1 ≤ firstI p L ∧ firstI p L < L.length ∨ firstI p L = -1 := by
  unfold firstI
  rcases h : L.findIdx? p with _ | i
  · exact .inr rfl
  · obtain ⟨h1, _⟩ := List.findIdx?_eq_some_iff_getElem.1 h
    exact .inl ⟨by simp only; omega, by simp only; omega⟩
theorem first_ge {α : Type} (p : α → Bool) (L : List α) : -1 ≤ firstI p L := by
  unfold firstI
  rcases L.findIdx? p with _ | i <;> simp only <;> omega
theorem take_no {α : Type} (p : α → Bool) (L : List α) (k : Nat) (x : α) (hk : L[k]? = some x) (h : ∀ y ∈ L.take k, p y = false) (hx : p x = false) : ∀ y ∈ L.take (k + 1), p y = false := fun y hy => by
  have hl : k < L.length := (List.getElem?_eq_some_iff.1 hk).1
  have e : L[k] = x := by rw [List.getElem?_eq_getElem hl] at hk; injection hk
  rw [List.take_succ_eq_append_getElem hl, List.mem_append, List.mem_singleton] at hy
  rcases hy with hy | hy
  · exact h y hy
  · rw [hy, e]; exact hx
end Go.Proofs.YtkgkpggfoieioaaGreatDoor
