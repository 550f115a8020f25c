import Derived.Test.YtkgkpggfoieioaaDoorPlainPl
namespace Go.Proofs.YtkgkpggfoieioaaDoor
set_option linter.unusedVariables false
/-! A world where all have been told to rest. -/
def rsU (u : GU) : GU := ⟨u.id, u.player, u.kind, u.spot, u.life, u.load, 0, 0⟩
def restX (x : GW) : GW := { x with units := x.units.map rsU }
theorem restX_len (x : GW) : (restX x).units.length = x.units.length := by unfold restX; simp
theorem gu_map {l : List GU} {i : Nat} (h : i < l.length) : gu (l.map rsU) i = rsU (gu l i) := by
  unfold gu
  rw [List.getD_eq_getElem?_getD, List.getD_eq_getElem?_getD, List.getElem?_map, List.getElem?_eq_getElem h]
  rfl
theorem first_map (p : GU → Bool) (hp : ∀ u, p (rsU u) = p u) (l : List GU) : firstI p (l.map rsU) = firstI p l := by
  unfold firstI
  rw [List.findIdx?_map]
  have : p ∘ rsU = p := funext hp
  rw [this]
theorem onI_map (l : List GU) (c : Int) : onI (l.map rsU) c = onI l c := first_map _ (fun _ => rfl) l
theorem findId_map (l : List GU) (c : Int) : findId (l.map rsU) c = findId l c := first_map _ (fun _ => rfl) l
theorem rest_ok {L : List GK} {x : GW} (h : WorldOk L x) : WorldOk L (restX x) := by
  have hh := headE_ok h.head
  refine ⟨h.kinds, h.field, headE_of ⟨hh.turn, hh.next, hh.players, hh.gold, ?_⟩, fun i hi => ?_, h.few, fun i hi => ?_⟩
  · rw [restX_len]; exact hh.units
  · rw [restX_len] at hi
    have e1 : gu (restX x).units i = rsU (gu x.units i) := gu_map hi
    obtain ⟨h1, h2, h3, h4, h5, h6, h7, h8, h9, h10, h11, h12⟩ := unitE_ok (h.units i hi)
    refine unitE_of ⟨?_, ?_, ?_, ?_, ?_, ?_, ?_, ?_, ?_, ?_, ?_, ?_⟩
    all_goals try rw [e1]
    · exact h1
    · intro h0
      have e2 : gu (restX x).units (i - 1) = rsU (gu x.units (i - 1)) := gu_map (by omega)
      rw [e2]
      exact h2 h0
    · exact h3
    · exact h4
    · exact h5
    · exact h6
    · show (0 : Int) ≤ 0 ∧ (0 : Int) ≤ 2; omega
    · exact h8
    · show (0 : Int) ≤ 0 ∧ (0 : Int) < (x.field.ground.length : Int); omega
    · exact h10
    · have e3 : onI (restX x).units (rsU (gu x.units i)).spot = onI x.units (gu x.units i).spot := onI_map _ _
      rw [e3]; exact h11
    · intro _; rfl
  · have hj := h.jobs i hi
    change jobE L (restX x) (gj x.queue i) = 0
    unfold jobE at hj ⊢
    have e1 : findId (restX x).units (gj x.queue i).unit = findId x.units (gj x.queue i).unit := findId_map _ _
    rw [e1]
    by_cases h1 : findId x.units (gj x.queue i).unit < 0
    · rw [if_pos h1] at hj; cases hj
    have hl : (findId x.units (gj x.queue i).unit).toNat < x.units.length := by
      have := first_lt (fun v => v.id == (gj x.queue i).unit) x.units
      unfold findId at h1 ⊢
      omega
    have e2 : gu (restX x).units (findId x.units (gj x.queue i).unit).toNat = rsU (gu x.units (findId x.units (gj x.queue i).unit).toNat) := gu_map hl
    rw [e2]
    exact hj
/-- A row of cells that reads as units, the first of them told to rest. -/
def RowR (cur : Array Value) (us : List GU) (k : Nat) : Prop := us.length * 8 ≤ cur.size ∧ ∀ i j, i < us.length → j < 8 → cur[i * 8 + j]? = (uC (if i < k then rsU (gu us i) else gu us i))[j]?
theorem RowR.step {cur : Array Value} {us : List GU} {k : Nat} (h : RowR cur us k) (hk : k < us.length) : RowR ((cur.setIfInBounds (k * 8 + 6) (.int .i64 0)).setIfInBounds (k * 8 + 7) (.int .i64 0)) us (k + 1) := by
  refine ⟨by rw [Array.size_setIfInBounds, Array.size_setIfInBounds]; exact h.1, fun i j hi hj => ?_⟩
  have h0 := h.2 i j hi hj
  have hs := h.1
  by_cases e : i = k
  · subst e
    rw [if_neg (Nat.lt_irrefl i)] at h0
    rw [if_pos (Nat.lt_succ_self i)]
    by_cases e7 : j = 7
    · subst e7
      rw [Array.getElem?_setIfInBounds_self_of_lt (by rw [Array.size_setIfInBounds]; omega)]
      rfl
    · rw [Array.getElem?_setIfInBounds_ne (by omega)]
      by_cases e6 : j = 6
      · subst e6
        rw [Array.getElem?_setIfInBounds_self_of_lt (by omega)]
        rfl
      · rw [Array.getElem?_setIfInBounds_ne (by omega), h0]
        have : j = 0 ∨ j = 1 ∨ j = 2 ∨ j = 3 ∨ j = 4 ∨ j = 5 := by omega
        rcases this with rfl | rfl | rfl | rfl | rfl | rfl <;> rfl
  · rw [Array.getElem?_setIfInBounds_ne (by omega), Array.getElem?_setIfInBounds_ne (by omega), h0]
    by_cases hik : i < k
    · rw [if_pos hik, if_pos (by omega)]
    · rw [if_neg hik, if_neg (by omega)]
theorem RowR.start {cur : Array Value} {us : List GU} (h : cur.toList.take (us.length * 8) = us.flatMap uC) (hs : us.length * 8 ≤ cur.size) : RowR cur us 0 := by
  refine ⟨hs, fun i j hi hj => ?_⟩
  rw [if_neg (Nat.not_lt_zero i)]
  have h1 : (cur.toList.take (us.length * 8))[i * 8 + j]? = (us.flatMap uC)[i * 8 + j]? := by rw [h]
  rw [List.getElem?_take_of_lt (by omega), flat_get uC 8 uC_len us i j hj, gu_get hi] at h1
  rw [← Array.getElem?_toList]
  exact h1
theorem RowR.done {cur : Array Value} {us : List GU} (h : RowR cur us us.length) : cur.toList.take (us.length * 8) = (us.map rsU).flatMap uC := by
  have hl : ((us.map rsU).flatMap uC).length = us.length * 8 := by
    rw [flat_len uC 8 uC_len, List.length_map]
  refine List.ext_getElem? fun q => ?_
  by_cases hq : q < us.length * 8
  · have h1 := h.2 (q / 8) (q % 8) (by omega) (by omega)
    rw [if_pos (by omega : q / 8 < us.length)] at h1
    have e : q / 8 * 8 + q % 8 = q := by omega
    have h2 := flat_get uC 8 uC_len (us.map rsU) (q / 8) (q % 8) (by omega)
    rw [e] at h1 h2
    rw [List.getElem?_take_of_lt hq, h2, Array.getElem?_toList, h1, List.getElem?_map, gu_get (by omega : q / 8 < us.length)]
    rfl
  · rw [List.getElem?_eq_none (by rw [List.length_take]; omega), List.getElem?_eq_none (by omega)]
end Go.Proofs.YtkgkpggfoieioaaDoor
