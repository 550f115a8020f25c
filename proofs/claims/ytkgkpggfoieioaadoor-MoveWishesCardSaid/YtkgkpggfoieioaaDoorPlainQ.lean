import Derived.Test.YtkgkpggfoieioaaDoorPlainP
namespace Go.Proofs.YtkgkpggfoieioaaDoor
set_option linter.unusedVariables false
/-! A field read out of a text. -/
structure PS where
  c : Nat
  W : Nat
  H : Nat
  G : List Int
  O : List Int
def gOf (b : Int) : Int := if 49 ≤ b ∧ b ≤ 57 then 0 else if b = 46 then 0 else if b = 35 then 1 else if b = 126 then 2 else if b = 94 then 3 else -1
def oOf (b : Int) : Int := if 49 ≤ b ∧ b ≤ 57 then 10 * (b - 48) else 0
def badP (i : Nat) (e : Int) : GF × Int × Int := (⟨0, 0, [], []⟩, (i : Int), e)
def prun : List Int → Nat → PS → GF × Int × Int
  | [], i, s => if 0 < s.c ∨ s.H = 0 then badP i 2 else (⟨s.W, s.H, s.G, s.O⟩, 0, 0)
  | b :: bs, i, s =>
    if b = 10 then (if s.c = 0 ∨ (0 < s.H ∧ s.c ≠ s.W) then badP i 2 else prun bs (i + 1) ⟨0, s.c, s.H + 1, s.G, s.O⟩)
    else if gOf b < 0 ∨ (0 < s.H ∧ s.c = s.W) then badP i 2
    else if s.c = 12 ∨ s.H = 12 then badP i 4
    else prun bs (i + 1) ⟨s.c + 1, s.W, s.H, s.G ++ [gOf b], s.O ++ [oOf b]⟩
def s0 : PS := ⟨0, 0, 0, [], []⟩
def parseL (bs : List Int) : GF × Int × Int := prun bs 0 s0
/-- What is read so far. -/
structure PInv (s : PS) : Prop where
  c12 : s.c ≤ 12
  h12 : s.H ≤ 12
  ch : 0 < s.c → s.H < 12
  w12 : s.W ≤ 12
  hw : 0 < s.H → 1 ≤ s.W ∧ s.c ≤ s.W
  h0 : s.H = 0 → s.W = 0
  lg : s.G.length = s.H * s.W + s.c
  lo : s.O.length = s.H * s.W + s.c
  cells : ∀ k : Nat, k < s.G.length → 0 ≤ s.G.getD k 0 ∧ s.G.getD k 0 ≤ 3 ∧ 0 ≤ s.O.getD k 0 ∧ s.O.getD k 0 ≤ 90 ∧ (0 < s.O.getD k 0 → s.G.getD k 0 = 0)
theorem cellsE_ok : ∀ (gs os : List Int), gs.length = os.length → (∀ k : Nat, k < gs.length → 0 ≤ gs.getD k 0 ∧ gs.getD k 0 ≤ 3 ∧ 0 ≤ os.getD k 0 ∧ os.getD k 0 ≤ 1000000 ∧ (0 < os.getD k 0 → gs.getD k 0 = 0)) → cellsE gs os = 0
  | [], _, _, _ => by unfold cellsE; rfl
  | a :: gs, [], h, _ => by simp at h
  | a :: gs, b :: os, h, hc => by
    have h0 := hc 0 (by simp)
    simp only [List.getD_cons_zero] at h0
    rw [cellsE, if_neg (by
      have : numB b = true := by unfold numB; simp; omega
      simp [this]; omega), if_neg (by omega)]
    refine cellsE_ok gs os (by simpa using h) fun k hk => ?_
    have := hc (k + 1) (by simp; omega)
    simpa using this
theorem rowP_congr (f f' : GF) (W W' r c : Nat) (hW : r * W = r * W') (h : ∀ k, k < r * W + c → sgAt f k = sgAt f' k) : rowP f W r c = rowP f' W' r c := by
  induction c with
  | zero => rfl
  | succ c ih => rw [rowP, rowP, ih (fun k hk => h k (by omega)), h _ (by omega), hW]
theorem txtP_congr (f f' : GF) (W r : Nat) (h : ∀ k, k < r * W → sgAt f k = sgAt f' k) : txtP f W r = txtP f' W r := by
  induction r with
  | zero => rfl
  | succ r ih =>
    have e : (r + 1) * W = r * W + W := Nat.succ_mul r W
    rw [txtP, txtP, ih (fun k hk => h k (by omega)), rowP_congr f f' W W r W rfl (fun k hk => h k (by omega))]
def PS.fld (s : PS) : GF := ⟨s.W, s.H, s.G, s.O⟩
def PS.pre (s : PS) : List Int := txtP s.fld s.W s.H ++ rowP s.fld s.W s.H s.c
theorem getD_app_lt (l : List Int) (x : Int) (k : Nat) (h : k < l.length) : (l ++ [x]).getD k 0 = l.getD k 0 := by
  rw [List.getD_eq_getElem?_getD, List.getD_eq_getElem?_getD, List.getElem?_append_left h]
theorem getD_app_eq (l : List Int) (x : Int) (k : Nat) (h : k = l.length) : (l ++ [x]).getD k 0 = x := by
  rw [List.getD_eq_getElem?_getD, List.getElem?_append_right (by omega), h, Nat.sub_self]; rfl
theorem gOf_b (b : Int) (h : 0 ≤ gOf b) : signB (gOf b) (oOf b) = b ∧ gOf b ≤ 3 ∧ 0 ≤ oOf b ∧ oOf b ≤ 90 ∧ (0 < oOf b → gOf b = 0) ∧ oOf b % 10 = 0 := by
  by_cases h1 : 49 ≤ b ∧ b ≤ 57
  · have e1 : gOf b = 0 := by unfold gOf; rw [if_pos h1]
    have e2 : oOf b = 10 * (b - 48) := by unfold oOf; rw [if_pos h1]
    rw [e1, e2]
    unfold signB
    rw [if_pos (by omega), if_pos (by omega)]
    omega
  · have e2 : oOf b = 0 := by unfold oOf; rw [if_neg h1]
    rw [e2]
    unfold gOf at h ⊢
    rw [if_neg h1] at h ⊢
    unfold signB
    rw [if_neg (by omega)]
    by_cases h2 : b = 46
    · subst h2; decide
    · rw [if_neg h2] at h ⊢
      by_cases h3 : b = 35
      · subst h3; decide
      · rw [if_neg h3] at h ⊢
        by_cases h4 : b = 126
        · subst h4; decide
        · rw [if_neg h4] at h ⊢
          by_cases h5 : b = 94
          · subst h5; decide
          · rw [if_neg h5] at h; omega
theorem PInv.line {s : PS} (h : PInv s) (hc : ¬(s.c = 0 ∨ (0 < s.H ∧ s.c ≠ s.W))) : PInv ⟨0, s.c, s.H + 1, s.G, s.O⟩ ∧ PS.pre ⟨0, s.c, s.H + 1, s.G, s.O⟩ = s.pre ++ [10] := by
  obtain ⟨h1, h2, h3, h4, h5, h6, h7, h8, h9⟩ := h
  obtain ⟨c, W, H, G, O⟩ := s
  dsimp only at *
  have hHW : H * W = H * c := by
    rcases Nat.eq_zero_or_pos H with h0 | h0
    · subst h0; simp
    · rw [show c = W by omega]
  have e : (H + 1) * c = H * c + c := Nat.succ_mul H c
  refine ⟨⟨by simp, by simp; omega, by simp, by simp; omega, by simp; omega, by simp, by simp; omega, by simp; omega, h9⟩, ?_⟩
  unfold PS.pre PS.fld
  simp only [txtP, rowP, List.append_nil]
  congr 1
  have hs : ∀ k, sgAt ⟨c, ((H + 1 : Nat) : Int), G, O⟩ k = sgAt ⟨W, H, G, O⟩ k := fun k => rfl
  congr 1
  · rcases Nat.eq_zero_or_pos H with h0 | h0
    · subst h0; rfl
    · obtain rfl : c = W := by omega
      exact txtP_congr _ _ _ _ fun k _ => rfl
  · exact rowP_congr _ _ _ _ _ _ hHW.symm fun k _ => rfl
theorem PInv.sign {s : PS} (h : PInv s) (b : Int) (hb : ¬(gOf b < 0 ∨ (0 < s.H ∧ s.c = s.W))) (h12 : ¬(s.c = 12 ∨ s.H = 12)) : PInv ⟨s.c + 1, s.W, s.H, s.G ++ [gOf b], s.O ++ [oOf b]⟩ ∧ PS.pre ⟨s.c + 1, s.W, s.H, s.G ++ [gOf b], s.O ++ [oOf b]⟩ = s.pre ++ [b] := by
  obtain ⟨h1, h2, h3, h4, h5, h6, h7, h8, h9⟩ := h
  obtain ⟨c, W, H, G, O⟩ := s
  dsimp only at *
  obtain ⟨g1, g2, g3, g4, g5, _⟩ := gOf_b b (by omega)
  refine ⟨⟨by simp; omega, by simp; omega, by simp; omega, h4, by simp; omega, h6, by simp; omega, by simp; omega, ?_⟩, ?_⟩
  · intro k hk
    simp only [List.length_append, List.length_singleton] at hk
    dsimp only
    by_cases hk2 : k < G.length
    · rw [getD_app_lt _ _ _ hk2, getD_app_lt _ _ _ (by omega)]
      exact h9 k hk2
    · rw [getD_app_eq _ _ _ (by omega), getD_app_eq _ _ _ (by omega)]
      exact ⟨by omega, g2, g3, g4, g5⟩
  · unfold PS.pre PS.fld
    dsimp only
    have hs : ∀ k, k < H * W + c → sgAt ⟨W, H, G ++ [gOf b], O ++ [oOf b]⟩ k = sgAt ⟨W, H, G, O⟩ k := fun k hk => by
      unfold sgAt
      dsimp only
      rw [getD_app_lt _ _ _ (by omega), getD_app_lt _ _ _ (by omega)]
    rw [rowP, txtP_congr _ ⟨W, H, G, O⟩ W H (fun k hk => hs k (by omega)), rowP_congr _ ⟨W, H, G, O⟩ W W H c rfl hs, ← List.append_assoc]
    congr 2
    unfold sgAt
    dsimp only
    rw [getD_app_eq _ _ _ (by omega), getD_app_eq _ _ _ (by omega), g1]
/-- What is read is printed as that text. -/
theorem prun_back : ∀ (bs : List Int) (i : Nat) (s : PS) (g : GF) (p : Int), PInv s → prun bs i s = (g, p, 0) → fieldE g = 0 ∧ fieldT g = s.pre ++ bs ∧ p = 0 ∧ (∀ k : Nat, g.ore.getD k 0 ≤ 90)
  | [], i, s, g, p, hI, h => by
    rw [prun] at h
    by_cases h1 : 0 < s.c ∨ s.H = 0
    · rw [if_pos h1] at h
      unfold badP at h
      simp at h
    · rw [if_neg h1] at h
      simp only [Prod.mk.injEq] at h
      obtain ⟨rfl, rfl, _⟩ := h
      obtain ⟨g1, g2, g3, g4, g5, g6, g7, g8, g9⟩ := hI
      obtain ⟨c, W, H, G, O⟩ := s
      dsimp only at *
      obtain rfl : c = 0 := by omega
      refine ⟨good_to _ ⟨by dsimp only; omega, by dsimp only; omega, ?_, ?_, cellsE_ok _ _ (by dsimp only; omega) fun k hk => ?_⟩, ?_, rfl, ?_⟩
      · show (G.length : Int) = (W : Int) * H
        rw [g7, Nat.mul_comm]; simp
      · show (O.length : Int) = (W : Int) * H
        rw [g8, Nat.mul_comm]; simp
      · have := g9 k hk
        exact ⟨this.1, this.2.1, this.2.2.1, Int.le_trans this.2.2.2.1 (by decide), this.2.2.2.2⟩
      · unfold PS.pre PS.fld fieldT
        simp [rowP]
      · intro k
        show O.getD k 0 ≤ 90
        by_cases hk : k < G.length
        · exact (g9 k hk).2.2.2.1
        · rw [List.getD_eq_getElem?_getD, List.getElem?_eq_none (by omega)]; simp
  | b :: bs, i, s, g, p, hI, h => by
    rw [prun] at h
    by_cases h1 : b = 10
    · rw [if_pos h1] at h
      by_cases h2 : s.c = 0 ∨ (0 < s.H ∧ s.c ≠ s.W)
      · rw [if_pos h2] at h
        unfold badP at h
        simp at h
      · rw [if_neg h2] at h
        obtain ⟨k1, k2⟩ := hI.line h2
        have := prun_back bs (i + 1) _ g p k1 h
        rw [k2, List.append_assoc] at this
        subst h1
        exact this
    · rw [if_neg h1] at h
      by_cases h2 : gOf b < 0 ∨ (0 < s.H ∧ s.c = s.W)
      · rw [if_pos h2] at h
        unfold badP at h
        simp at h
      · rw [if_neg h2] at h
        by_cases h3 : s.c = 12 ∨ s.H = 12
        · rw [if_pos h3] at h
          unfold badP at h
          simp at h
        · rw [if_neg h3] at h
          obtain ⟨k1, k2⟩ := hI.sign b h2 h3
          have := prun_back bs (i + 1) _ g p k1 h
          rw [k2, List.append_assoc] at this
          exact this
theorem s0_inv : PInv s0 := ⟨by decide, by decide, by decide, by decide, by decide, by decide, rfl, rfl, fun k hk => by simp [s0] at hk⟩
theorem parse_back (bs : List Int) (g : GF) (p : Int) (h : parseL bs = (g, p, 0)) : fieldE g = 0 ∧ fieldT g = bs ∧ p = 0 := by
  obtain ⟨h1, h2, h3, _⟩ := prun_back bs 0 s0 g p s0_inv h
  exact ⟨h1, h2, h3⟩
/-- What has no other ore than tens is read as it was. -/
def stP (f : GF) (W r c : Nat) : PS := ⟨c, if r = 0 then 0 else W, r, f.ground.take (r * W + c), f.ore.take (r * W + c)⟩
theorem sign_b (g o : Int) (h : 0 ≤ g ∧ g ≤ 3 ∧ 0 ≤ o ∧ o ≤ 90 ∧ o % 10 = 0 ∧ (0 < o → g = 0)) : signB g o ≠ 10 ∧ gOf (signB g o) = g ∧ oOf (signB g o) = o := by
  by_cases h0 : 0 < o
  · have e : signB g o = 48 + o / 10 := by unfold signB; rw [if_pos h0, if_pos (by omega)]
    rw [e]
    unfold gOf oOf
    rw [if_pos (by omega), if_pos (by omega)]
    omega
  · obtain rfl : o = 0 := by omega
    have : g = 0 ∨ g = 1 ∨ g = 2 ∨ g = 3 := by omega
    rcases this with rfl | rfl | rfl | rfl <;> decide
theorem run_row (f : GF) (W r : Nat) (hr : r < 12) (hW : 1 ≤ W ∧ W ≤ 12) (hg : f.ground.length = f.ore.length) (hc : ∀ k : Nat, 0 ≤ f.ground.getD k 0 ∧ f.ground.getD k 0 ≤ 3 ∧ 0 ≤ f.ore.getD k 0 ∧ f.ore.getD k 0 ≤ 90 ∧ f.ore.getD k 0 % 10 = 0 ∧ (0 < f.ore.getD k 0 → f.ground.getD k 0 = 0)) :
    ∀ (c : Nat), c ≤ W → r * W + c ≤ f.ground.length → ∀ (i : Nat) (rest : List Int), prun (rowP f W r c ++ rest) i (stP f W r 0) = prun rest (i + c) (stP f W r c)
  | 0, _, _, i, rest => by simp [rowP]
  | c + 1, hcW, hl, i, rest => by
    rw [rowP, List.append_assoc, run_row f W r hr hW hg hc c (by omega) (by omega), List.singleton_append, prun]
    obtain ⟨e1, e2, e3⟩ := sign_b _ _ (hc (r * W + c))
    have e0 : sgAt f (r * W + c) = signB (f.ground.getD (r * W + c) 0) (f.ore.getD (r * W + c) 0) := rfl
    have hcc := hc (r * W + c)
    rw [e0, if_neg e1, e2, e3, if_neg (by
      unfold stP
      dsimp only
      rcases Nat.eq_zero_or_pos r with h0 | h0
      · omega
      · rw [if_neg (by omega)]; omega), if_neg (by unfold stP; dsimp only; omega)]
    have t1 : f.ground.take (r * W + c) ++ [f.ground.getD (r * W + c) 0] = f.ground.take (r * W + (c + 1)) := by
      rw [show r * W + (c + 1) = r * W + c + 1 by omega, List.take_succ_eq_append_getElem (by omega), List.getD_eq_getElem?_getD, List.getElem?_eq_getElem (by omega)]; rfl
    have t2 : f.ore.take (r * W + c) ++ [f.ore.getD (r * W + c) 0] = f.ore.take (r * W + (c + 1)) := by
      rw [show r * W + (c + 1) = r * W + c + 1 by omega, List.take_succ_eq_append_getElem (by omega), List.getD_eq_getElem?_getD, List.getElem?_eq_getElem (by omega)]; rfl
    unfold stP
    dsimp only
    rw [t1, t2, Nat.add_assoc]
theorem run_txt (f : GF) (W : Nat) (hW : 1 ≤ W ∧ W ≤ 12) (hg : f.ground.length = f.ore.length) (hc : ∀ k : Nat, 0 ≤ f.ground.getD k 0 ∧ f.ground.getD k 0 ≤ 3 ∧ 0 ≤ f.ore.getD k 0 ∧ f.ore.getD k 0 ≤ 90 ∧ f.ore.getD k 0 % 10 = 0 ∧ (0 < f.ore.getD k 0 → f.ground.getD k 0 = 0)) :
    ∀ (r : Nat), r ≤ 12 → r * W ≤ f.ground.length → ∀ (i : Nat) (rest : List Int), ∃ j, prun (txtP f W r ++ rest) i (stP f W 0 0) = prun rest j (stP f W r 0)
  | 0, _, _, i, rest => ⟨i, by simp [txtP]⟩
  | r + 1, hr, hl, i, rest => by
    have e : (r + 1) * W = r * W + W := Nat.succ_mul r W
    obtain ⟨j, hj⟩ := run_txt f W hW hg hc r (by omega) (by omega) i (rowP f W r W ++ ([10] ++ rest))
    refine ⟨j + W + 1, ?_⟩
    rw [txtP, List.append_assoc, List.append_assoc, hj, run_row f W r (by omega) hW hg hc W (Nat.le_refl _) (by omega), List.singleton_append, prun, if_pos rfl, if_neg (by
      unfold stP
      dsimp only
      rcases Nat.eq_zero_or_pos r with h0 | h0
      · omega
      · rw [if_neg (by omega)]; omega)]
    unfold stP
    dsimp only
    rw [if_neg (by omega), e, Nat.add_zero]
    rfl
theorem parse_there (f : GF) (h : fieldE f = 0) (ho : ∀ k : Nat, k < f.ore.length → f.ore.getD k 0 ≤ 90 ∧ f.ore.getD k 0 % 10 = 0) : parseL (fieldT f) = (f, 0, 0) := by
  have hg := good_of f h
  have hos := hg.ores
  have hn := hg.len
  have hW := hg.wide
  have hH := hg.high
  have hlg := hg.lg
  obtain ⟨W, eW⟩ : ∃ W : Nat, f.wide = (W : Int) := ⟨f.wide.toNat, by omega⟩
  obtain ⟨H, eH⟩ : ∃ H : Nat, f.high = (H : Int) := ⟨f.high.toNat, by omega⟩
  have hl : f.ground.length = H * W := by rw [eW, eH, Int.mul_comm] at hlg; exact_mod_cast hlg
  have eT : fieldT f = txtP f W H ++ [] := by unfold fieldT; rw [eW, eH, List.append_nil]; rfl
  obtain ⟨j, hj⟩ := run_txt f W (by omega) hn.2.2.symm (fun k => by
    have := hos k
    rcases Nat.lt_or_ge k f.ore.length with hk | hk
    · have := ho k hk
      omega
    · have e : f.ore.getD k 0 = 0 := by rw [List.getD_eq_getElem?_getD, List.getElem?_eq_none hk]; rfl
      rw [e] at this ⊢
      omega) H (by omega) (by omega) 0 []
  have e0 : stP f W 0 0 = s0 := by unfold stP s0; simp
  unfold parseL
  rw [eT, ← e0, hj, prun, if_neg (by unfold stP; dsimp only; omega)]
  unfold stP
  dsimp only
  rw [if_neg (by omega), Nat.add_zero, ← hl, List.take_length, List.take_of_length_le (by omega), ← eW, ← eH]
end Go.Proofs.YtkgkpggfoieioaaDoor
