import Derived.Test.YtkgkpggfoieioaaDoorRank
namespace Go.Proofs.YtkgkpggfoieioaaDoor
set_option linter.unusedVariables false
theorem gtN_all (p : Int) (xs : List Int) : gtN p xs xs.length = (xs.filter fun q => decide (p < q)).length := by unfold gtN; rw [List.take_of_length_le (Nat.le_refl _)]
theorem flen_mono {α : Type} (f g : α → Bool) : ∀ (xs : List α), (∀ x ∈ xs, f x = true → g x = true) → (xs.filter f).length ≤ (xs.filter g).length
  | [], _ => by simp
  | x :: xs, h => by
    have ih := flen_mono f g xs (fun y hy => h y (List.mem_cons_of_mem _ hy))
    have hx := h x List.mem_cons_self
    cases hf : f x <;> cases hg : g x <;> simp [hf, hg] <;> first | omega | (rw [hf, hg] at hx; simp at hx)
theorem flen_strict {α : Type} (f g : α → Bool) : ∀ (xs : List α), (∀ x ∈ xs, f x = true → g x = true) → (∃ x ∈ xs, f x = false ∧ g x = true) → (xs.filter f).length < (xs.filter g).length
  | [], _, h => by obtain ⟨x, hx, _⟩ := h; simp at hx
  | x :: xs, h, ⟨y, hy, h1, h2⟩ => by
    have hx := h x List.mem_cons_self
    have hm := flen_mono f g xs (fun y hy => h y (List.mem_cons_of_mem _ hy))
    rcases List.mem_cons.1 hy with rfl | hy'
    · simp [h1, h2]; omega
    · have ih := flen_strict f g xs (fun y hy => h y (List.mem_cons_of_mem _ hy)) ⟨y, hy', h1, h2⟩
      cases hf : f x <;> cases hg : g x <;> simp [hf, hg] <;> first | omega | (rw [hf, hg] at hx; simp at hx)
theorem rk_lo (xs : List Int) (p : Int) : 1 ≤ rk xs p := by unfold rk; omega
theorem rk_hi (xs : List Int) (p : Int) (hp : p ∈ xs) : rk xs p ≤ xs.length := by
  unfold rk
  rw [gtN_all]
  have := flen_strict (fun q => decide (p < q)) (fun _ => true) xs (fun _ _ _ => rfl) ⟨p, hp, by simp, rfl⟩
  have e0 : List.filter (fun _ : Int => true) xs = xs := List.filter_eq_self.2 (fun _ _ => rfl)
  rw [e0] at this
  omega
theorem rk_lt (xs : List Int) (p q : Int) (hp : p ∈ xs) : (q < p ↔ rk xs p < rk xs q) := by
  unfold rk
  rw [gtN_all, gtN_all]
  constructor
  · intro h
    have := flen_strict (fun x => decide (p < x)) (fun x => decide (q < x)) xs (fun x _ hx => by simp at hx ⊢; omega) ⟨p, hp, by simp, by simpa using h⟩
    omega
  · intro h
    rcases Int.lt_or_le q p with h1 | h1
    · exact h1
    · have := flen_mono (fun x => decide (q < x)) (fun x => decide (p < x)) xs (fun x _ hx => by simp at hx ⊢; omega)
      omega
theorem has_max : ∀ (xs : List Int), xs ≠ [] → ∃ m ∈ xs, ∀ x ∈ xs, x ≤ m
  | [], h => absurd rfl h
  | [x], _ => ⟨x, by simp, by simp⟩
  | x :: y :: r, _ => by
    obtain ⟨m, hm, hmax⟩ := has_max (y :: r) (by simp)
    by_cases h : x ≤ m
    · exact ⟨m, List.mem_cons_of_mem _ hm, fun z hz => by
        rcases List.mem_cons.1 hz with rfl | hz
        · exact h
        · exact hmax z hz⟩
    · exact ⟨x, List.mem_cons_self, fun z hz => by
        rcases List.mem_cons.1 hz with rfl | hz
        · omega
        · have := hmax z hz; omega⟩
/-- Is the first place taken, among the first k? -/
def fstB (xs : List Int) (k : Nat) : Bool := decide (xs.length = 0) || ((rankL xs).take k).any (· == 1)
theorem fstB_next (xs : List Int) (k : Nat) (hk : k < xs.length) : fstB xs (k + 1) = (fstB xs k || (rk xs (xs.getD k 0) == 1)) := by
  unfold fstB
  rw [rank_take xs k hk, List.any_append]
  simp [Bool.or_assoc]
theorem fstB_all (xs : List Int) (k : Nat) (hk : xs.length ≤ k) : fstB xs k = true := by
  unfold fstB
  rw [List.take_of_length_le (by simp [rankL]; exact hk)]
  by_cases h : xs = []
  · simp [h]
  · obtain ⟨m, hm, hmax⟩ := has_max xs h
    have e : rk xs m = 1 := by
      unfold rk
      rw [gtN_all, List.filter_eq_nil_iff.2 (fun x hx => by have := hmax x hx; simp; omega)]
      rfl
    have : (rankL xs).any (· == 1) = true := List.any_eq_true.2 ⟨1, List.mem_map.2 ⟨m, hm, e⟩, by simp⟩
    simp [this]
theorem rank_get (xs : List Int) (k : Nat) (hk : k < xs.length) : (rankL xs).getD k 0 = rk xs (xs.getD k 0) := by
  simp [rankL, List.getD_eq_getElem?_getD, List.getElem?_eq_getElem hk]
theorem getD_mem (xs : List Int) (k : Nat) (hk : k < xs.length) : xs.getD k 0 ∈ xs := by
  rw [List.getD_eq_getElem?_getD, List.getElem?_eq_getElem hk]; exact List.getElem_mem hk
end Go.Proofs.YtkgkpggfoieioaaDoor
