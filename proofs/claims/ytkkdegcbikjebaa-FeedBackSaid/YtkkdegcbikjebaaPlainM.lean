import Derived.Test.YtkkdegcbikjebaaPlainL
import Derived.Test.YtkkdegcbikjebaaReader
namespace Go.Proofs.Ytkkdegcbikjebaa
set_option linter.unusedVariables false
/-! What is packed is read as it was. -/
theorem rdS_num (pre rest : List Int) (n : Int) (h : -9223372036854775808 ≤ n ∧ n ≤ 9223372036854775807) : rdS (pre ++ numL n ++ rest) (some pre.length) = (n, some (pre.length + (numL n).length)) := by
  have h1 := rdI_numL n pre rest h
  unfold rdI at h1
  unfold rdS
  cases hr : rdU (pre ++ numL n ++ rest) pre.length with
  | none => rw [hr] at h1; cases h1
  | some r =>
    obtain ⟨v, q⟩ := r
    rw [hr] at h1
    simp only [Option.map_some, Option.some.injEq, Prod.mk.injEq] at h1
    obtain ⟨rfl, rfl⟩ := h1
    dsimp only
    rw [hr]; rfl
theorem pk_0 (L : List Ch) (zs : List Int) (hl : L.length ≤ 6000) (h : chkL L = 0) : rdS (pkB L ++ zs) (some 0) = ((L.length : Int), some (pkN L 0).length) := by
  obtain ⟨t, ht⟩ := pkN_split L 0 L.length
  rw [Nat.zero_add] at ht
  have hb : pkB L ++ zs = [] ++ numL L.length ++ (t ++ zs) := by
    unfold pkB
    rw [if_pos h, ht]
    show (numL L.length ++ t) ++ zs = _
    simp
  rw [hb]
  have := rdS_num [] (t ++ zs) L.length (by omega)
  rw [List.length_nil, Nat.zero_add] at this
  exact this
theorem pk_k (L : List Ch) (zs : List Int) (hl : L.length ≤ 6000) (h : chkL L = 0) (k : Nat) (hk : k < L.length) : ∃ p1 p2, rdS (pkB L ++ zs) (some (pkN L k).length) = ((chG L k).a - lastA L k, some p1) ∧
    rdS (pkB L ++ zs) (some p1) = ((chG L k).o + 1, some p2) ∧ rdS (pkB L ++ zs) (some p2) = ((chG L k).n + 1, some (pkN L (k + 1)).length) := by
  have hN : chkN L L.length = 0 := by unfold chkL at h; rwa [if_neg (by omega)] at h
  have hg := good_ch (chE_good L k (chkN_all L L.length hN k hk)).1
  have hla := lastA_bd L L.length k hN (by omega)
  obtain ⟨t, ht⟩ := pkN_split L (k + 1) (L.length - (k + 1))
  rw [show k + 1 + (L.length - (k + 1)) = L.length by omega] at ht
  have hb : pkB L ++ zs = pkN L k ++ numL ((chG L k).a - lastA L k) ++ numL ((chG L k).o + 1) ++ numL ((chG L k).n + 1) ++ (t ++ zs) := by
    unfold pkB
    rw [if_pos h, ht, pkN, pkO]
    simp only [List.append_assoc]
  have hlen : (pkN L (k + 1)).length = (pkN L k ++ numL ((chG L k).a - lastA L k) ++ numL ((chG L k).o + 1)).length + (numL ((chG L k).n + 1)).length := by
    rw [pkN, pkO]; simp only [List.length_append]; omega
  refine ⟨(pkN L k).length + (numL ((chG L k).a - lastA L k)).length, (pkN L k ++ numL ((chG L k).a - lastA L k) ++ numL ((chG L k).o + 1)).length, ?_, ?_, ?_⟩
  · rw [hb, List.append_assoc, List.append_assoc]
    exact rdS_num (pkN L k) _ _ (by omega)
  · rw [hb, List.append_assoc]
    have := rdS_num (pkN L k ++ numL ((chG L k).a - lastA L k)) (numL ((chG L k).n + 1) ++ (t ++ zs)) ((chG L k).o + 1) (by omega)
    rw [List.length_append] at this
    rw [this]; simp only [List.length_append]
  · rw [hb, hlen]
    exact rdS_num _ _ _ (by omega)
theorem pk_step (L : List Ch) (hl : L.length ≤ 6000) (h : chkL L = 0) (k : Nat) (hk : k < L.length) : 0 ≤ (chG L k).a - lastA L k ∧ (chG L k).a - lastA L k ≤ 5999 ∧ lastA L (k + 1) = (chG L k).a := by
  have hN : chkN L L.length = 0 := by unfold chkL at h; rwa [if_neg (by omega)] at h
  obtain ⟨hb, ho⟩ := chE_good L k (chkN_all L L.length hN k hk)
  have hg := good_ch hb
  have hla := lastA_bd L L.length k hN (by omega)
  refine ⟨?_, by omega, by unfold lastA; rw [if_neg (by omega)]; rfl⟩
  rcases Nat.eq_zero_or_pos k with h0 | h0
  · unfold lastA; rw [if_pos h0]; omega
  · have := ho h0
    unfold lastA; rw [if_neg (by omega)]; omega
end Go.Proofs.Ytkkdegcbikjebaa
