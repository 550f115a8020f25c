import Derived.Test.YtkgkpggfoieioaaDoorPlainDo
import Derived.Test.YtkgkpggfoieioaaDoorPlainPl
namespace Go.Proofs.YtkgkpggfoieioaaDoor
set_option linter.unusedVariables false
/-! A move keeps a world right, and what has happened leads from cell to cell. -/
theorem first_id {α : Type} (p : α → Bool) (L : List α) : firstI p L = firstI id (L.map p) := by
  unfold firstI
  rw [List.findIdx?_map]
  rfl
theorem first_set {p : GU → Bool} {us : List GU} {i : Nat} {u : GU} (hi : i < us.length) (h : p u = p (gu us i)) : firstI p (us.set i u) = firstI p us := by
  rw [first_id p (us.set i u), first_id p us, List.map_set, h]
  congr 1
  refine List.ext_getElem? fun k => ?_
  rw [List.getElem?_set]
  split
  · rename_i e
    subst e
    rw [List.length_map, if_pos hi, List.getElem?_map, gu_get hi]
    rfl
  · rfl
theorem on_no {us : List GU} {c : Int} (h : onI us c < 0) {k : Nat} (hk : k < us.length) : (gu us k).spot ≠ c := fun e => by
  have h1 : decide (0 ≤ onI us c) = us.any (fun v => v.spot == c) := first_any _ us
  have h2 : us.any (fun v => v.spot == c) = true := List.any_eq_true.2 ⟨gu us k, gu_mem hk, by simp [e]⟩
  rw [h2, decide_eq_true_iff] at h1
  omega
theorem gu_take {us : List GU} {k : Nat} {y : GU} (h : y ∈ us.take k) : ∃ j, j < k ∧ j < us.length ∧ gu us j = y := by
  obtain ⟨j, hj⟩ := List.mem_iff_getElem?.1 h
  rw [List.getElem?_take] at hj
  split at hj
  · rename_i hjk
    have hl := (List.getElem?_eq_some_iff.1 hj).1
    rw [gu_get hl] at hj
    exact ⟨j, hjk, hl, by injection hj⟩
  · cases hj
theorem on_at {us : List GU} {c : Int} {k : Nat} (hk : k < us.length) (hs : (gu us k).spot = c) (hn : ∀ j, j < k → j < us.length → (gu us j).spot ≠ c) : onI us c = k :=
  first_at _ us k (gu us k) (gu_get hk) (by simp [hs]) fun y hy => by
    obtain ⟨j, h1, h2, rfl⟩ := gu_take hy
    have := hn j h1 h2
    simp [this]
theorem on_lt {us : List GU} {c : Int} {i : Nat} (h : ¬ onI us c < i) {j : Nat} (hj : j < i) (hl : j < us.length) : (gu us j).spot ≠ c := fun e => by
  have key : ∀ m, m ≤ j → (∃ k, k < m ∧ (gu us k).spot = c) → False := by
    intro m
    induction m with
    | zero => rintro _ ⟨k, hk, _⟩; omega
    | succ m ih =>
      rintro hm ⟨k, hk, hc⟩
      by_cases d : ∃ k, k < m ∧ (gu us k).spot = c
      · exact ih (by omega) d
      · have hkm : k = m := by
          by_cases e : k = m
          · exact e
          · exact absurd ⟨k, by omega, hc⟩ d
        subst hkm
        have := on_at (us := us) (k := k) (by omega) hc (fun j' hj' _ e => d ⟨j', hj', e⟩)
        omega
  by_cases d : ∃ k, k < j ∧ (gu us k).spot = c
  · exact key j (Nat.le_refl _) d
  · have := on_at (us := us) (k := j) hl e (fun j' hj' _ e => d ⟨j', hj', e⟩)
    omega
/-- A unit of a world that is right may be another one of the same kind, elsewhere. -/
theorem set_ok {L : List GK} {x : GW} (h : WorldOk L x) {i : Nat} (hi : i < x.units.length) {u : GU} (e1 : u.id = (gu x.units i).id) (e2 : u.player = (gu x.units i).player) (e3 : u.kind = (gu x.units i).kind) (e4 : u.life = (gu x.units i).life)
    (e5 : 0 ≤ u.load ∧ u.load ≤ (gk L u.kind.toNat).carry) (ht : 0 ≤ u.task ∧ u.task ≤ 2) (hs : 0 ≤ u.spot ∧ u.spot < x.field.ground.length) (hg : 0 ≤ u.goal ∧ u.goal < x.field.ground.length)
    (ho : ontoL x.field u.spot.toNat (gk L u.kind.toNat).flies ≠ 0) (hf : u.spot = (gu x.units i).spot ∨ onI x.units u.spot < 0) (hr : u.task = 0 → u.goal = 0) : WorldOk L (setU x i u) := by
  have hh := headE_ok h.head
  have hid : ∀ c, findId (setU x i u).units c = findId x.units c := fun c => first_set hi (by rw [e1])
  have hgu : ∀ j, gu (setU x i u).units j = if i = j then u else gu x.units j := fun j => gu_setU hi
  have hui := unitE_ok (h.units i hi)
  refine ⟨h.kinds, h.field, headE_of ⟨hh.turn, hh.next, hh.players, hh.gold, by rw [setU_len]; exact hh.units⟩, fun j hj => ?_, h.few, fun j hj => ?_⟩
  · rw [setU_len] at hj
    have huj := unitE_ok (h.units j hj)
    have hid2 : ∀ k, k < x.units.length → (gu (setU x i u).units k).id = (gu x.units k).id := fun k _ => by
      rw [hgu]; split
      · rename_i e; subst e; exact e1
      · rfl
    have hfirst : ¬ onI (setU x i u).units (gu (setU x i u).units j).spot < j := by
      have : onI (setU x i u).units (gu (setU x i u).units j).spot = j := by
        refine on_at (by rw [setU_len]; exact hj) rfl fun k hk hkl => ?_
        rw [setU_len] at hkl
        rw [hgu, hgu]
        by_cases c1 : i = k
        · rw [if_pos c1, if_neg (by omega)]
          subst c1
          rcases hf with hf | hf
          · rw [hf]; exact on_lt huj.first hk hkl
          · exact fun e => on_no hf hj e.symm
        · rw [if_neg c1]
          by_cases c2 : i = j
          · rw [if_pos c2]
            subst c2
            rcases hf with hf | hf
            · rw [hf]; exact on_lt huj.first hk hkl
            · exact on_no hf hkl
          · rw [if_neg c2]; exact on_lt huj.first hk hkl
      omega
    refine unitE_of ⟨?_, fun h0 => ?_, ?_, ?_, ?_, ?_, ?_, ?_, ?_, ?_, hfirst, ?_⟩
    · rw [hid2 j hj]; exact huj.id
    · rw [hid2 j hj, hid2 (j - 1) (by omega)]; exact huj.rise h0
    all_goals
      rw [hgu]
      split
      · rename_i e
        subst e
        first | (rw [e2]; exact hui.player) | (rw [e3]; exact hui.kind) | (rw [e4, e3]; exact hui.life) | assumption
      · first | exact huj.player | exact huj.kind | exact huj.life | exact huj.load | exact huj.task | exact huj.spot | exact huj.goal | exact huj.onto | exact huj.rest
  · have hj2 := h.jobs j hj
    change jobE L (setU x i u) (gj x.queue j) = 0
    unfold jobE at hj2 ⊢
    rw [hid]
    by_cases h1 : findId x.units (gj x.queue j).unit < 0
    · rw [if_pos h1] at hj2; cases hj2
    have ep : (gu (setU x i u).units (findId x.units (gj x.queue j).unit).toNat).player = (gu x.units (findId x.units (gj x.queue j).unit).toNat).player := by
      rw [hgu]; split
      · rename_i e; rw [← e]; exact e2
      · rfl
    have ek : (gu (setU x i u).units (findId x.units (gj x.queue j).unit).toNat).kind = (gu x.units (findId x.units (gj x.queue j).unit).toNat).kind := by
      rw [hgu]; split
      · rename_i e; rw [← e]; exact e3
      · rfl
    rw [ep, ek]
    exact hj2
theorem end_ok {L : List GK} {x : GW} (h : WorldOk L x) {i : Nat} (hi : i < x.units.length) : WorldOk L (endU x i) := by
  unfold endU
  split
  · have hui := unitE_ok (h.units i hi)
    refine set_ok h hi rfl rfl rfl rfl hui.load (by show (0 : Int) ≤ 0 ∧ (0 : Int) ≤ 2; omega) hui.spot (by have := hui.goal; show (0 : Int) ≤ 0 ∧ (0 : Int) < _; omega) hui.onto (.inl rfl) (fun _ => rfl)
  · exact h
/-- What has happened, told once more: how much each has left, and where each is. -/
noncomputable def rpStep (L : List GK) (x : GW) (r : List Int × List Int) (e : EV) : List Int × List Int :=
  (r.1.set (findId x.units e.unit).toNat (r.1.getD (findId x.units e.unit).toNat 0 - ontoL x.field e.arg.toNat (gk L (gu x.units (findId x.units e.unit).toNat).kind.toNat).flies), r.2.set (findId x.units e.unit).toNat e.arg)
noncomputable def rpRun (L : List GK) (x : GW) (l : List EV) : List Int × List Int :=
  l.foldl (rpStep L x) (x.units.map (fun u => (gk L u.kind.toNat).speed), x.units.map GU.spot)
structure RpOk (L : List GK) (x : GW) (r : List Int × List Int) (e : EV) : Prop where
  who : 0 ≤ findId x.units e.unit
  what : e.what = 1
  near : e.arg ∈ besL x.field (r.2.getD (findId x.units e.unit).toNat 0)
  cell : 0 ≤ e.arg ∧ e.arg < x.field.ground.length
  from_ : 0 ≤ r.2.getD (findId x.units e.unit).toNat 0 ∧ r.2.getD (findId x.units e.unit).toNat 0 < x.field.ground.length
  step : 1 ≤ ontoL x.field e.arg.toNat (gk L (gu x.units (findId x.units e.unit).toNat).kind.toNat).flies
  left : 0 ≤ r.1.getD (findId x.units e.unit).toNat 0 - ontoL x.field e.arg.toNat (gk L (gu x.units (findId x.units e.unit).toNat).kind.toNat).flies
noncomputable def evAt (l : List EV) (i : Nat) : EV := l.getD i ⟨0, 0, 0⟩
theorem ev_get {l : List EV} {i : Nat} (h : i < l.length) : l[i]? = some (evAt l i) := by unfold evAt; rw [List.getD_eq_getElem?_getD, List.getElem?_eq_getElem h]; rfl
def RpGood (L : List GK) (x : GW) (l : List EV) : Prop := ∀ i, i < l.length → RpOk L x (rpRun L x (l.take i)) (evAt l i)
theorem rpRun_app (L : List GK) (x : GW) (l : List EV) (e : EV) : rpRun L x (l ++ [e]) = rpStep L x (rpRun L x l) e := by
  unfold rpRun; rw [List.foldl_append]; rfl
theorem rpRun_take (L : List GK) (x : GW) (l : List EV) {i : Nat} (hi : i < l.length) : rpRun L x (l.take (i + 1)) = rpStep L x (rpRun L x (l.take i)) (evAt l i) := by
  rw [List.take_add_one, ev_get hi]
  exact rpRun_app L x _ _
theorem rpGood_app {L : List GK} {x : GW} {l : List EV} {e : EV} (h : RpGood L x l) (he : RpOk L x (rpRun L x l) e) : RpGood L x (l ++ [e]) := fun i hi => by
  rw [List.length_append, List.length_singleton] at hi
  by_cases c : i < l.length
  · have e1 : evAt (l ++ [e]) i = evAt l i := by unfold evAt; rw [List.getD_eq_getElem?_getD, List.getD_eq_getElem?_getD, List.getElem?_append_left c]
    rw [List.take_append_of_le_length (by omega), e1]
    exact h i c
  · have e0 : i = l.length := by omega
    subst e0
    have e1 : evAt (l ++ [e]) l.length = e := by unfold evAt; rw [List.getD_eq_getElem?_getD, List.getElem?_append_right (Nat.le_refl _)]; simp
    rw [List.take_append_of_le_length (Nat.le_refl _), List.take_length, e1]
    exact he
theorem rp_len (L : List GK) (x : GW) : ∀ l : List EV, (rpRun L x l).1.length = x.units.length ∧ (rpRun L x l).2.length = x.units.length := fun l => by
  have key : ∀ (l : List EV) (r : List Int × List Int), r.1.length = x.units.length → r.2.length = x.units.length → (l.foldl (rpStep L x) r).1.length = x.units.length ∧ (l.foldl (rpStep L x) r).2.length = x.units.length := by
    intro l
    induction l with
    | nil => intro r h1 h2; exact ⟨h1, h2⟩
    | cons e l ih => intro r h1 h2; exact ih _ (by unfold rpStep; simp [h1]) (by unfold rpStep; simp [h2])
  exact key l _ (by simp) (by simp)
theorem find_own {L : List GK} {x : GW} (h : WorldOk L x) {i : Nat} (hi : i < x.units.length) : findId x.units (gu x.units i).id = i := by
  have mono : ∀ d j, j + d < x.units.length → (gu x.units j).id ≤ (gu x.units (j + d)).id ∧ (0 < d → (gu x.units j).id < (gu x.units (j + d)).id) := by
    intro d
    induction d with
    | zero => intro j _; exact ⟨Int.le_refl _, fun c => absurd c (by omega)⟩
    | succ d ih =>
      intro j hj
      have h1 := (ih j (by omega)).1
      have h2 := (unitE_ok (h.units (j + d + 1) (by omega))).rise (by omega)
      have e : j + d + 1 - 1 = j + d := by omega
      rw [e] at h2
      have e2 : j + (d + 1) = j + d + 1 := by omega
      rw [e2]
      exact ⟨by omega, fun _ => by omega⟩
  refine first_at _ _ i (gu x.units i) (gu_get hi) (by simp) fun y hy => ?_
  obtain ⟨j, h1, h2, rfl⟩ := gu_take hy
  have := (mono (i - j) j (by omega)).2 (by omega)
  rw [show j + (i - j) = i by omega] at this
  simp; omega
/-- What holds while units move: those from the i-th on have not been asked. -/
structure Kp (L : List GK) (x y : GW) (ev : List EV) (i : Nat) : Prop where
  ok : WorldOk L y
  same : y = { x with units := y.units }
  len : y.units.length = x.units.length
  keep : ∀ j, j < x.units.length → (gu y.units j).id = (gu x.units j).id ∧ (gu y.units j).player = (gu x.units j).player ∧ (gu y.units j).kind = (gu x.units j).kind ∧ (gu y.units j).life = (gu x.units j).life ∧ (gu y.units j).load = (gu x.units j).load ∧ ((gu x.units j).task = 0 → gu y.units j = gu x.units j)
  good : RpGood L x ev
  spots : ∀ j, j < x.units.length → (rpRun L x ev).2.getD j 0 = (gu y.units j).spot
  later : ∀ j, i ≤ j → j < x.units.length → (rpRun L x ev).1.getD j 0 = (gk L (gu x.units j).kind.toNat).speed
  pos : ∀ j, j < x.units.length → 0 ≤ (rpRun L x ev).1.getD j 0
theorem getD_set' {l : List Int} {i j : Nat} {v : Int} (hi : i < l.length) : (l.set i v).getD j 0 = if i = j then v else l.getD j 0 := by
  rw [List.getD_eq_getElem?_getD, List.getD_eq_getElem?_getD, List.getElem?_set]
  by_cases e : i = j
  · subst e; simp [hi]
  · simp [e]
theorem Kp.field {L : List GK} {x y : GW} {ev : List EV} {i : Nat} (h : Kp L x y ev i) : y.field = x.field := by rw [h.same]
/-- May a unit go no further? -/
abbrev StopU (L : List GK) (y : GW) (i : Nat) (left : Int) : Prop := ((wishU L y (gu y.units i) : Nat) : Int) = (gu y.units i).spot ∨ 0 ≤ onI y.units (wishU L y (gu y.units i) : Nat) ∨ left < ontoL y.field (wishU L y (gu y.units i)) (gk L (gu y.units i).kind.toNat).flies
theorem step_kp {L : List GK} {x : GW} (hx : WorldOk L x) {i : Nat} (hi : i < x.units.length) {y : GW} {left : Int} {ev : List EV} (h : Kp L x y ev (i + 1)) (hl : (rpRun L x ev).1.getD i 0 = left) (c : ¬ StopU L y i left) :
    Kp L x (setU y i { gu y.units i with spot := ((wishU L y (gu y.units i) : Nat) : Int) }) (ev ++ [⟨1, (gu y.units i).id, ((wishU L y (gu y.units i) : Nat) : Int)⟩]) (i + 1) ∧ (rpRun L x (ev ++ [⟨1, (gu y.units i).id, ((wishU L y (gu y.units i) : Nat) : Int)⟩])).1.getD i 0 = left - ontoL y.field (wishU L y (gu y.units i)) (gk L (gu y.units i).kind.toNat).flies := by
  have hiy : i < y.units.length := by rw [h.len]; exact hi
  have hf := h.field
  unfold StopU at c
  have hw := wish_in h.ok.wm hiy
  have hui := unitE_ok (h.ok.units i hiy)
  have hxi := unitE_ok (hx.units i hi)
  have hne : wishU L y (gu y.units i) ≠ (gu y.units i).spot.toNat := fun e => c (.inl (by have := hui.spot; omega))
  obtain ⟨hnb, hon⟩ := hw.2 hne
  have hfr : ¬ 0 ≤ onI y.units (wishU L y (gu y.units i) : Nat) := fun d => c (.inr (.inl d))
  have hle : ¬ left < ontoL y.field (wishU L y (gu y.units i)) (gk L (gu y.units i).kind.toNat).flies := fun d => c (.inr (.inr d))
  have hwl := hw.1
  have htk : (gu y.units i).task ≠ 0 := fun e => hne (by
    unfold wishU
    rw [if_neg (by omega), if_neg (by omega)])
  clear hw c
  generalize wishU L y (gu y.units i) = cz at *
  obtain ⟨k1, k2, k3, k4, k5, k6⟩ := h.keep i hi
  have hfo : findId x.units (gu y.units i).id = (i : Int) := by rw [k1]; exact find_own hx hi
  have hln := rp_len L x ev
  have hsp := h.spots i hi
  unfold NB at hnb
  rw [Int.toNat_of_nonneg hui.spot.1, hf] at hnb
  rw [hf] at hon hle hwl ⊢
  rw [k3] at hon hle ⊢
  have hst : rpStep L x (rpRun L x ev) ⟨1, (gu y.units i).id, (cz : Int)⟩ = ((rpRun L x ev).1.set i (left - ontoL x.field cz (gk L (gu x.units i).kind.toNat).flies), (rpRun L x ev).2.set i (cz : Int)) := by
    unfold rpStep
    dsimp only
    rw [hfo, Int.toNat_natCast, Int.toNat_natCast, hl]
  have hgu : ∀ (u : GU) j, gu (setU y i u).units j = if i = j then u else gu y.units j := fun u j => gu_setU hiy
  refine ⟨⟨?_, ?_, ?_, fun j hj => ?_, ?_, fun j hj => ?_, fun j hij hj => ?_, fun j hj => ?_⟩, ?_⟩
  · refine set_ok h.ok hiy rfl rfl rfl rfl hui.load hui.task ⟨by show (0 : Int) ≤ (cz : Int); omega, by show (cz : Int) < _; rw [hf]; omega⟩ hui.goal ?_ (.inr (by show onI y.units (cz : Int) < 0; omega)) hui.rest
    show ontoL y.field (Int.toNat (cz : Int)) (gk L (gu y.units i).kind.toNat).flies ≠ 0
    rw [Int.toNat_natCast, hf, k3]
    omega
  · rw [h.same]; rfl
  · rw [setU_len]; exact h.len
  · rw [hgu]
    by_cases e : i = j
    · subst e
      rw [if_pos rfl]
      exact ⟨k1, k2, k3, k4, k5, fun c => absurd (by rw [k6 c]; exact c) htk⟩
    · rw [if_neg e]; exact h.keep j hj
  · refine rpGood_app h.good ⟨?_, rfl, ?_, ?_, ?_, ?_, ?_⟩
    · show 0 ≤ findId x.units (gu y.units i).id; omega
    · show (cz : Int) ∈ besL x.field ((rpRun L x ev).2.getD (findId x.units (gu y.units i).id).toNat 0)
      rw [hfo, Int.toNat_natCast, hsp]; exact hnb
    · show 0 ≤ (cz : Int) ∧ (cz : Int) < _; omega
    · show 0 ≤ (rpRun L x ev).2.getD (findId x.units (gu y.units i).id).toNat 0 ∧ (rpRun L x ev).2.getD (findId x.units (gu y.units i).id).toNat 0 < _
      rw [hfo, Int.toNat_natCast, hsp, ← hf]; exact hui.spot
    · show 1 ≤ ontoL x.field (Int.toNat (cz : Int)) (gk L (gu x.units (findId x.units (gu y.units i).id).toNat).kind.toNat).flies
      rw [hfo, Int.toNat_natCast, Int.toNat_natCast]; omega
    · show 0 ≤ (rpRun L x ev).1.getD (findId x.units (gu y.units i).id).toNat 0 - ontoL x.field (Int.toNat (cz : Int)) (gk L (gu x.units (findId x.units (gu y.units i).id).toNat).kind.toNat).flies
      rw [hfo, Int.toNat_natCast, Int.toNat_natCast, hl]; omega
  · rw [rpRun_app, hst, hgu]
    show ((rpRun L x ev).2.set i (cz : Int)).getD j 0 = _
    rw [getD_set' (by rw [hln.2]; exact hi)]
    split
    · rfl
    · exact h.spots j hj
  · rw [rpRun_app, hst]
    show ((rpRun L x ev).1.set i _).getD j 0 = _
    rw [getD_set' (by rw [hln.1]; exact hi), if_neg (by omega)]
    exact h.later j hij hj
  · rw [rpRun_app, hst]
    show 0 ≤ ((rpRun L x ev).1.set i _).getD j 0
    rw [getD_set' (by rw [hln.1]; exact hi)]
    split
    · omega
    · exact h.pos j hj
  · rw [rpRun_app, hst]
    show ((rpRun L x ev).1.set i _).getD i 0 = _
    rw [getD_set' (by rw [hln.1]; exact hi), if_pos rfl]
theorem goU_kp {L : List GK} {x : GW} (hx : WorldOk L x) {i : Nat} (hi : i < x.units.length) : ∀ (q : Nat) (y : GW) (left : Int) (ev : List EV), Kp L x y ev (i + 1) → (rpRun L x ev).1.getD i 0 = left → Kp L x (goU L i q y left ev).1 (goU L i q y left ev).2 (i + 1)
  | 0, y, left, ev, h, _ => h
  | q + 1, y, left, ev, h, hl => by
    unfold goU
    by_cases c : StopU L y i left
    · rw [if_pos c]; exact h
    · rw [if_neg c]
      obtain ⟨h1, h2⟩ := step_kp hx hi h hl c
      exact goU_kp hx hi q _ _ _ h1 h2
theorem endU_kp {L : List GK} {x y : GW} {ev : List EV} {i k : Nat} (h : Kp L x y ev k) (hi : i < x.units.length) : Kp L x (endU y i) ev k := by
  have hiy : i < y.units.length := by rw [h.len]; exact hi
  refine ⟨end_ok h.ok hiy, ?_, ?_, fun j hj => ?_, h.good, fun j hj => ?_, h.later, h.pos⟩
  · unfold endU
    split
    · rw [h.same]; rfl
    · exact h.same
  · unfold endU
    split
    · rw [setU_len]; exact h.len
    · exact h.len
  · unfold endU
    split
    · rename_i c
      rw [gu_setU hiy]
      by_cases e : i = j
      · subst e
        rw [if_pos rfl]
        obtain ⟨k1, k2, k3, k4, k5, k6⟩ := h.keep i hi
        exact ⟨k1, k2, k3, k4, k5, fun d => by have := c.1; rw [k6 d, d] at this; cases this⟩
      · rw [if_neg e]; exact h.keep j hj
    · exact h.keep j hj
  · rw [h.spots j hj]
    unfold endU
    split
    · rw [gu_setU hiy]
      split
      · rename_i e; subst e; rfl
      · rfl
    · rfl
theorem doN_kp {L : List GK} {x : GW} (hx : WorldOk L x) : ∀ k, k ≤ x.units.length → Kp L x (doN L x k).1 (doN L x k).2 k
  | 0, _ => by
    have hd : ∀ j, j < x.units.length → (x.units.map (fun u => (gk L u.kind.toNat).speed)).getD j 0 = (gk L (gu x.units j).kind.toNat).speed := fun j hj => by
      rw [List.getD_eq_getElem?_getD, List.getElem?_map, gu_get hj]; rfl
    refine ⟨hx, rfl, rfl, fun j _ => ⟨rfl, rfl, rfl, rfl, rfl, fun _ => rfl⟩, fun i hi => absurd hi (by show ¬ i < 0; omega), fun j hj => ?_, fun j _ hj => hd j hj, fun j hj => ?_⟩
    · show (x.units.map GU.spot).getD j 0 = (gu x.units j).spot
      rw [List.getD_eq_getElem?_getD, List.getElem?_map, gu_get hj]; rfl
    · show 0 ≤ (x.units.map (fun u => (gk L u.kind.toNat).speed)).getD j 0
      rw [hd j hj]
      have hk := (unitE_ok (hx.units j hj)).kind
      exact (kindsE_at hx.kinds (k := (gu x.units j).kind.toNat) (by omega)).speed.1
  | k + 1, hk => by
    have ih := doN_kp hx k (by omega)
    unfold doN
    refine endU_kp ?_ (by omega)
    have h1 : Kp L x (doN L x k).1 (doN L x k).2 (k + 1) := ⟨ih.ok, ih.same, ih.len, ih.keep, ih.good, ih.spots, fun j hj hl => ih.later j (by omega) hl, ih.pos⟩
    refine goU_kp hx (by omega) _ _ _ _ h1 ?_
    rw [ih.later k (Nat.le_refl _) (by omega), (ih.keep k (by omega)).2.2.1]
theorem goU_len {L : List GK} {i : Nat} : ∀ (q : Nat) (y : GW) (left : Int) (ev : List EV), (goU L i q y left ev).2.length ≤ ev.length + q
  | 0, y, left, ev => Nat.le_refl _
  | q + 1, y, left, ev => by
    unfold goU
    split
    · show ev.length ≤ _; omega
    · have := goU_len (L := L) (i := i) q (setU y i { gu y.units i with spot := ((wishU L y (gu y.units i) : Nat) : Int) }) (left - ontoL y.field (wishU L y (gu y.units i)) (gk L (gu y.units i).kind.toNat).flies) (ev ++ [⟨1, (gu y.units i).id, ((wishU L y (gu y.units i) : Nat) : Int)⟩])
      rw [List.length_append, List.length_singleton] at this
      omega
theorem doN_len {L : List GK} {x : GW} (hx : WorldOk L x) : ∀ k, k ≤ x.units.length → (doN L x k).2.length ≤ 5 * k
  | 0, _ => Nat.le_refl _
  | k + 1, hk => by
    have ih := doN_len hx k (by omega)
    have hp := doN_kp hx k (by omega)
    unfold doN
    have h1 := goU_len (L := L) (i := k) (((gk L (gu (doN L x k).1.units k).kind.toNat).speed).toNat + 1) (doN L x k).1 (gk L (gu (doN L x k).1.units k).kind.toNat).speed (doN L x k).2
    have hkd := (unitE_ok (hp.ok.units k (by rw [hp.len]; omega))).kind
    have hs := (kindsE_at hx.kinds (k := (gu (doN L x k).1.units k).kind.toNat) (by omega)).speed
    dsimp only
    omega
/-- While one unit goes: the i-th, from the world y0. -/
structure GoR (L : List GK) (x : GW) (i : Nat) (y0 : GW) (ev0 : List EV) (sp : Int) (y : GW) (ev : List EV) (left : Int) (m : Nat) : Prop where
  eq : goU L i m y left ev = goU L i (sp.toNat + 1) y0 sp ev0
  kp : Kp L x y ev (i + 1)
  lf : (rpRun L x ev).1.getD i 0 = left
  lt : left < m
  ln : ev.length + m ≤ 5 * i + 5
theorem GoR.start {L : List GK} {x : GW} (hx : WorldOk L x) {i : Nat} (hi : i < x.units.length) {y : GW} {ev : List EV} (h : doN L x i = (y, ev)) : GoR L x i y ev (gk L (gu y.units i).kind.toNat).speed y ev (gk L (gu y.units i).kind.toNat).speed ((gk L (gu y.units i).kind.toNat).speed.toNat + 1) := by
  have hp := doN_kp hx i (by omega)
  have hl := doN_len hx i (by omega)
  rw [h] at hp hl
  dsimp only at hp hl
  have hkd := (unitE_ok (hp.ok.units i (by rw [hp.len]; omega))).kind
  have hs := (kindsE_at hx.kinds (k := (gu y.units i).kind.toNat) (by omega)).speed
  refine ⟨rfl, ⟨hp.ok, hp.same, hp.len, hp.keep, hp.good, hp.spots, fun j hj hjl => hp.later j (by omega) hjl, hp.pos⟩, ?_, by omega, by omega⟩
  rw [hp.later i (Nat.le_refl _) hi, (hp.keep i hi).2.2.1]
section
variable {L : List GK} {x y0 y : GW} {i m : Nat} {ev0 ev : List EV} {sp left : Int}
theorem GoR.stop (h : GoR L x i y0 ev0 sp y ev left m) (hi : i < x.units.length) (c : StopU L y i left) : goU L i (sp.toNat + 1) y0 sp ev0 = (y, ev) := by
  have h0 := h.kp.pos i hi
  have h1 := h.lf
  have h2 := h.lt
  rw [← h.eq]
  obtain ⟨m, rfl⟩ : ∃ m', m = m' + 1 := ⟨m - 1, by omega⟩
  unfold goU
  rw [if_pos c]
theorem GoR.go (hx : WorldOk L x) (h : GoR L x i y0 ev0 sp y ev left m) (hi : i < x.units.length) (c : ¬ StopU L y i left) : ∃ m', m = m' + 1 ∧ GoR L x i y0 ev0 sp (setU y i { gu y.units i with spot := ((wishU L y (gu y.units i) : Nat) : Int) }) (ev ++ [⟨1, (gu y.units i).id, ((wishU L y (gu y.units i) : Nat) : Int)⟩]) (left - ontoL y.field (wishU L y (gu y.units i)) (gk L (gu y.units i).kind.toNat).flies) m' := by
  have h0 := h.kp.pos i hi
  have h1 := h.lf
  have h2 := h.lt
  have h3 := h.ln
  obtain ⟨m, rfl⟩ : ∃ m', m = m' + 1 := ⟨m - 1, by omega⟩
  obtain ⟨k1, k2⟩ := step_kp hx hi h.kp h1 c
  have hw := wish_in h.kp.ok.wm (i := i) (by rw [h.kp.len]; exact hi)
  have hon : 0 < ontoL y.field (wishU L y (gu y.units i)) (gk L (gu y.units i).kind.toNat).flies := (hw.2 (fun e => c (.inl (by have := (unitE_ok (h.kp.ok.units i (by rw [h.kp.len]; exact hi))).spot; omega)))).2
  refine ⟨m, rfl, ?_, k1, k2, by omega, by rw [List.length_append, List.length_singleton]; omega⟩
  rw [← h.eq]
  conv => rhs; unfold goU
  rw [if_neg c]
theorem GoR.fin (h : GoR L x i y0 ev0 sp y ev left m) (hi : i < x.units.length) (hd : doN L x i = (y0, ev0)) (hsp : sp = (gk L (gu y0.units i).kind.toNat).speed) (c : StopU L y i left) : doN L x (i + 1) = (endU y i, ev) := by
  unfold doN
  rw [hd]
  dsimp only
  rw [← hsp, h.stop hi c]
end
end Go.Proofs.YtkgkpggfoieioaaDoor
