import Derived.Test.YtkgdflecepockaaDoorFrame
namespace Go.Proofs.YtkgdflecepockaaDoor
set_option linter.unusedVariables false
/-- A frame; frames behind each other. -/
def frameL (a : List Int) : List Int := hiB a.length :: loB a.length :: a
def catF (ls : List (List Int)) : List Int := ls.flatMap frameL
def sizeF (ls : List (List Int)) : Nat := (ls.map fun a => 2 + a.length).sum
theorem frameL_len (a : List Int) : (frameL a).length = 2 + a.length := by simp [frameL]; omega
theorem catF_cons (a : List Int) (ls : List (List Int)) : catF (a :: ls) = frameL a ++ catF ls := by simp [catF]
theorem catF_len (ls : List (List Int)) : (catF ls).length = sizeF ls := by
  induction ls with
  | nil => rfl
  | cons a ls ih => rw [catF_cons, List.length_append, frameL_len, ih]; simp [sizeF]
theorem hl_back (n : Nat) (h : n ≤ 65535) : (hiB n).toNat * 256 + (loB n).toNat = n := by
  unfold hiB loB
  rw [IntKind.wrap_u8, IntKind.wrap_u8]
  omega
theorem getD_drop (P : List Int) (p j : Nat) : P.getD (p + j) 0 = (P.drop p).getD j 0 := by
  rw [List.getD_eq_getElem?_getD, List.getD_eq_getElem?_getD, List.getElem?_drop]
theorem fr_spec : ∀ (ls : List (List Int)) (f p : Nat) (P : List Int), (∀ a ∈ ls, a.length ≤ 65535) → p ≤ P.length → P.length - p ≤ (catF ls).length → P.length ≤ p + f → P.drop p = (catF ls).take (P.length - p) →
    ∃ m, m ≤ ls.length ∧ frF f P p = (ls.take m, p + sizeF (ls.take m)) ∧ p + sizeF (ls.take m) ≤ P.length ∧ ∀ a, ls[m]? = some a → P.length - (p + sizeF (ls.take m)) < 2 + a.length
  | [], f, p, P, _, hp, hr, _, _ => by
    have : (catF []).length = 0 := rfl
    refine ⟨0, Nat.le_refl _, ?_, by simp [sizeF]; omega, fun a h => by simp at h⟩
    rw [frF_none f P p (by unfold frK; rw [if_neg (by omega)])]
    rfl
  | a :: ls, f, p, P, hls, hp, hr, hf, hd => by
    have ha := hls a List.mem_cons_self
    by_cases h : p + (2 + a.length) ≤ P.length
    · obtain ⟨f', rfl⟩ : ∃ f', f = f' + 1 := ⟨f - 1, by omega⟩
      have hfl := frameL_len a
      rw [catF_cons] at hd hr
      rw [List.length_append] at hr
      have hd2 : P.drop p = frameL a ++ (catF ls).take (P.length - (p + (2 + a.length))) := by
        rw [hd, List.take_append, List.take_of_length_le (by omega), hfl]
        congr 2; omega
      have g0 : P.getD p 0 = hiB a.length := by
        have := getD_drop P p 0
        rw [Nat.add_zero] at this
        rw [this, hd2]; rfl
      have g1 : P.getD (p + 1) 0 = loB a.length := by rw [getD_drop, hd2]; rfl
      have hk : frK P p = some a.length := by
        unfold frK
        rw [if_pos (by omega), g0, g1, hl_back _ ha, if_pos (by omega)]
      have e2 : (P.drop (p + 2)).take a.length = a := by
        rw [← List.drop_drop, hd2]
        show (a ++ (catF ls).take _).take a.length = a
        rw [List.take_append, List.take_of_length_le (Nat.le_refl _)]; simp
      have e3 : P.drop (p + 2 + a.length) = (catF ls).take (P.length - (p + 2 + a.length)) := by
        rw [show p + 2 + a.length = p + (2 + a.length) by omega, ← List.drop_drop, hd2, List.drop_append, hfl, Nat.sub_self, List.drop_of_length_le (by omega)]
        simp
      obtain ⟨m, hm, hfr, hsz, hend⟩ := fr_spec ls f' (p + 2 + a.length) P (fun b hb => hls b (List.mem_cons_of_mem _ hb)) (by omega) (by omega) (by omega) e3
      have es : sizeF ((a :: ls).take (m + 1)) = 2 + a.length + sizeF (ls.take m) := by simp [sizeF]
      refine ⟨m + 1, by simpa using hm, ?_, by rw [es]; omega, fun b hb => ?_⟩
      · rw [frF_some f' P p a.length hk, e2, hfr, es]
        simp only [List.take_succ_cons, Prod.mk.injEq, true_and]
        omega
      · rw [es]
        have := hend b (by simpa using hb)
        omega
    · refine ⟨0, Nat.zero_le _, ?_, by simp [sizeF]; omega, fun b hb => ?_⟩
      · have hk : frK P p = none := by
          unfold frK
          by_cases h2 : p + 2 ≤ P.length
          · have hfl := frameL_len a
            rw [catF_cons] at hd hr
            rw [List.length_append] at hr
            have hd2 : P.drop p = (frameL a).take (P.length - p) := by
              rw [hd, List.take_append]
              rw [show P.length - p - (frameL a).length = 0 by omega]; simp
            have g0 : P.getD p 0 = hiB a.length := by
              have := getD_drop P p 0
              rw [Nat.add_zero] at this
              rw [this, hd2, show P.length - p = (P.length - p - 1) + 1 by omega]; rfl
            have g1 : P.getD (p + 1) 0 = loB a.length := by
              rw [getD_drop, hd2, show P.length - p = (P.length - p - 2) + 1 + 1 by omega]; rfl
            rw [if_pos h2, g0, g1, hl_back _ ha, if_neg (by omega)]
          · rw [if_neg h2]
        rw [frF_none f P p hk]; rfl
      · simp at hb
        subst hb
        simp [sizeF]; omega
end Go.Proofs.YtkgdflecepockaaDoor
