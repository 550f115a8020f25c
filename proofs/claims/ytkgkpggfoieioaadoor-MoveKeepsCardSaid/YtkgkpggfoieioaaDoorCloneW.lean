import Derived.Test.YtkgkpggfoieioaaDoorMrgd
import Derived.Test.YtkgkpggfoieioaaDoorMrge
namespace Go.Proofs.YtkgkpggfoieioaaDoor
set_option linter.unusedVariables false
open Go.RowKit
/-! world.Clone. -/
theorem results_c {P : Program} {fn : Func} {p : Tmp} {ty : TypeId} (h : fn.results = #[.cell p ty]) (tmps : Array Value) (w : World) (g : Nat) (t : TypeId) (cs : Array Value) (d : TypeDesc)
    (hp : tmps.getD p undef = .pointer (some ⟨g, 0, none⟩)) (hg : w.heap[g]? = some (.cells cs t (0, 0)))
    (hu : P.underlying ty = some d) (hd : (match d with | .struct _ | .array _ _ => true | _ => false) = true) (hi : (P.info? ty).map (·.size) = some cs.size) :
    (results fn tmps).run P w = .ok (.agg cs) w := by
  have hp' : tmps[p]?.getD undef = .pointer (some ⟨g, 0, none⟩) := by simpa using hp
  simp [results, h, hp', asAddr, run_loadVar_row w g t ty cs (0, 0) d hg hu hd hi]
theorem slu_own {w : World} {base c : Nat} {A : Option Addr} {xs : List GU} (h : w.ownsRow base 33 8 (.slice A xs.length c) xs.length (xs.flatMap uC)) (hx : ∀ x ∈ xs, x.ok) : SLU w ⟨A, c⟩ xs := by
  refine ⟨RD.of_own h, ?_, ?_, ?_, hx⟩
  all_goals
    rcases h.2 with ⟨hv, h0⟩ | ⟨g, cap, cur, hv, hb, hh, h1, h2, _⟩
    · injection hv with e1 e2 e3
      subst e1; subst e3
      simp [h0, maxLen]
    · injection hv with e1 e2 e3
      subst e1; subst e3
      simp; try omega
theorem slj_own {w : World} {base c : Nat} {A : Option Addr} {xs : List GJ} (h : w.ownsRow base 126 4 (.slice A xs.length c) xs.length (xs.flatMap jC)) (hx : ∀ x ∈ xs, x.ok) : SLJ w ⟨A, c⟩ xs := by
  refine ⟨RD.of_own h, ?_, ?_, ?_, hx⟩
  all_goals
    rcases h.2 with ⟨hv, h0⟩ | ⟨g, cap, cur, hv, hb, hh, h1, h2, _⟩
    · injection hv with e1 e2 e3
      subst e1; subst e3
      simp [h0, maxLen]
    · injection hv with e1 e2 e3
      subst e1; subst e3
      simp; try omega
theorem own_farW {w : World} {base n sz b i : Nat} {e : TypeId} {v u : Value} {xs : List Value} (ho : w.ownsRow base e sz v n xs) (hb : b < base) : (w.setCell ⟨b, i, none⟩ u).ownsRow base e sz v n xs :=
  ho.kept (grownBy_set w b i u) (by
    cases hv : v.ownBlock with
    | none => exact .inl rfl
    | some g => exact .inr (fun e => by injection e with e; have := (ho.lt g hv).1; omega))
/-- All rows of a world are the call's own. -/
structure WOwn (w : World) (base : Nat) (s : SW) (x : GW) : Prop where
  g : w.ownsRow base 3 1 (.slice s.field.ground.A x.field.ground.length s.field.ground.c) x.field.ground.length (x.field.ground.map (.int .i64))
  o : w.ownsRow base 3 1 (.slice s.field.ore.A x.field.ore.length s.field.ore.c) x.field.ore.length (x.field.ore.map (.int .i64))
  d : w.ownsRow base 3 1 (.slice s.gold.A x.gold.length s.gold.c) x.gold.length (x.gold.map (.int .i64))
  u : w.ownsRow base 33 8 (.slice s.units.A x.units.length s.units.c) x.units.length (x.units.flatMap uC)
  q : w.ownsRow base 126 4 (.slice s.queue.A x.queue.length s.queue.c) x.queue.length (x.queue.flatMap jC)
/-- The numbers of a world are int's. -/
structure WInt (x : GW) : Prop where
  turn : I64 x.turn
  next : I64 x.next
  wide : I64 x.field.wide
  high : I64 x.field.high
  g : ∀ n ∈ x.field.ground, I64 n
  o : ∀ n ∈ x.field.ore, I64 n
  d : ∀ n ∈ x.gold, I64 n
  u : ∀ n ∈ x.units, n.ok
  q : ∀ n ∈ x.queue, n.ok
theorem WOk.int {w : World} {s : SW} {x : GW} (h : WOk w s x) : WInt x := ⟨h.1, h.2.1, h.2.2.1.1, h.2.2.1.2.1, h.2.2.1.2.2.1.2.2.2.2, h.2.2.1.2.2.2.2.2.2.2, h.2.2.2.1.2.2.2.2, h.2.2.2.2.1.2.2.2.2, h.2.2.2.2.2.2.2.2.2⟩
theorem WOwn.wok {w : World} {base : Nat} {s : SW} {x : GW} (h : WOwn w base s x) (hi : WInt x) : WOk w s x := ⟨hi.turn, hi.next, ⟨hi.wide, hi.high, sli_of_own h.g hi.g, sli_of_own h.o hi.o⟩, sli_of_own h.d hi.d, slu_own h.u hi.u, slj_own h.q hi.q⟩
theorem WOwn.below {w w' : World} {base : Nat} {s : SW} {x : GW} (h : WOwn w base s x) (hb : Below w.heap.size w w') : WOwn w' base s x := ⟨own_below h.g hb, own_below h.o hb, own_below h.d hb, own_below h.u hb, own_below h.q hb⟩
/-- While a world is copied: the copy's block, the result's block, what was given. -/
structure CW (w0 w : World) (s : SW) (x : GW) (wb rb : Nat) (cs : Array Value) : Prop where
  b : Below w0.heap.size w0 w
  kw : Blk w wb 55 cs
  kr : Blk w rb 55 #[.int .i64 0, .int .i64 0, .int .i64 0, .int .i64 0, .slice none 0 0, .slice none 0 0, .slice none 0 0, .slice none 0 0, .slice none 0 0]
  wo : WOk w0 s x
  p1 : w0.heap.size ≤ wb
  p2 : wb < rb
section
variable {w0 w w' : World} {s : SW} {x : GW} {wb rb : Nat} {cs : Array Value}
theorem CW.below (h : CW w0 w s x wb rb cs) (hb : Below w.heap.size w w') : CW w0 w' s x wb rb cs :=
  ⟨h.b.trans (hb.mono h.b.size), h.kw.below hb h.kw.lt, h.kr.below hb h.kr.lt, h.wo, h.p1, h.p2⟩
theorem CW.drewN (h : CW w0 w s x wb rb cs) (n : Nat) : CW w0 (w.drewN n) s x wb rb cs := h.below ⟨rfl, rfl, rfl, Nat.le_refl _, fun _ _ => rfl⟩
theorem CW.set (h : CW w0 w s x wb rb cs) (i : Nat) (u : Value) : CW w0 (w.setCell ⟨wb, i, none⟩ u) s x wb rb (cs.setIfInBounds i u) :=
  ⟨h.b.setCell h.p1 _, h.kw.set_ i u, h.kr.far (p := ⟨wb, i, none⟩) (fun e => by have := h.p2; simp only at e; omega) u, h.wo, h.p1, h.p2⟩
theorem CW.lt2 (h : CW w0 w s x wb rb cs) : rb + 1 ≤ w.heap.size := h.kr.lt
end
set_option maxHeartbeats 6400000 in
set_option maxRecDepth 100000 in
theorem wclone_any (s : SW) (x : GW) (w : World) (hW : WOk w s x) (h1 : x.field.ground.length ≤ 1000000000) (h2 : x.field.ore.length ≤ 1000000000) (h3 : x.gold.length ≤ 1000000000) (h4 : x.units.length ≤ 1000000000) (h5 : x.queue.length ≤ 1000000000) :
    Calls Tryd.prog 77 #[wA s x] w fun e w' => ∃ s', e = .returned (wA s' x) ∧ WOwn w' (w.heap.size + 2) s' x ∧ Below w.heap.size w w' := by
  have hX : CW w ((w.alloc (.cells #[.int .i64 x.turn, .int .i64 x.next, .int .i64 x.field.wide, .int .i64 x.field.high, .slice s.field.ground.A x.field.ground.length s.field.ground.c, .slice s.field.ore.A x.field.ore.length s.field.ore.c, .slice s.gold.A x.gold.length s.gold.c, .slice s.units.A x.units.length s.units.c, .slice s.queue.A x.queue.length s.queue.c] 55)).alloc (.cells #[.int .i64 0, .int .i64 0, .int .i64 0, .int .i64 0, .slice none 0 0, .slice none 0 0, .slice none 0 0, .slice none 0 0, .slice none 0 0] 55)) s x w.heap.size (w.heap.size + 1) #[.int .i64 x.turn, .int .i64 x.next, .int .i64 x.field.wide, .int .i64 x.field.high, .slice s.field.ground.A x.field.ground.length s.field.ground.c, .slice s.field.ore.A x.field.ore.length s.field.ore.c, .slice s.gold.A x.gold.length s.gold.c, .slice s.units.A x.units.length s.units.c, .slice s.queue.A x.queue.length s.queue.c] := by
    obtain ⟨hb1, hk1, hk2⟩ := two_boxes w 55 55 #[.int .i64 x.turn, .int .i64 x.next, .int .i64 x.field.wide, .int .i64 x.field.high, .slice s.field.ground.A x.field.ground.length s.field.ground.c, .slice s.field.ore.A x.field.ore.length s.field.ore.c, .slice s.gold.A x.gold.length s.gold.c, .slice s.units.A x.units.length s.units.c, .slice s.queue.A x.queue.length s.queue.c] #[.int .i64 0, .int .i64 0, .int .i64 0, .int .i64 0, .slice none 0 0, .slice none 0 0, .slice none 0 0, .slice none 0 0, .slice none 0 0]
    exact ⟨hb1, hk1, hk2, hW, Nat.le_refl _, by omega⟩
  have hwo := hW
  replace hX := Lib.hid hX
  replace hwo := Lib.hid hwo
  clear hW
  go_enter Tryd.func77, Tryd.ntmps77
  go_upto_region 1 with fail
  generalize ((w.alloc (.cells #[.int .i64 x.turn, .int .i64 x.next, .int .i64 x.field.wide, .int .i64 x.field.high, .slice s.field.ground.A x.field.ground.length s.field.ground.c, .slice s.field.ore.A x.field.ore.length s.field.ore.c, .slice s.gold.A x.gold.length s.gold.c, .slice s.units.A x.units.length s.units.c, .slice s.queue.A x.queue.length s.queue.c] 55)).alloc (.cells #[.int .i64 0, .int .i64 0, .int .i64 0, .int .i64 0, .slice none 0 0, .slice none 0 0, .slice none 0 0, .slice none 0 0, .slice none 0 0] 55)) = W at *
  obtain ⟨wb, hwb⟩ : ∃ wb, w.heap.size = wb := ⟨_, rfl⟩
  obtain ⟨rb, hrb⟩ : ∃ rb, wb + 1 = rb := ⟨_, rfl⟩
  rw [hwb]
  try rw [hrb]
  replace hX : CW w W s x wb rb #[.int .i64 x.turn, .int .i64 x.next, .int .i64 x.field.wide, .int .i64 x.field.high, .slice s.field.ground.A x.field.ground.length s.field.ground.c, .slice s.field.ore.A x.field.ore.length s.field.ore.c, .slice s.gold.A x.gold.length s.gold.c, .slice s.units.A x.units.length s.units.c, .slice s.queue.A x.queue.length s.queue.c] := by rw [← hrb, ← hwb]; exact hX.out
  replace hX := Lib.hid hX
  replace hwb := Lib.hid hwb
  replace hrb := Lib.hid hrb
  go_cut [] (fun wx0 => ∃ wx, wx = wx0 ∧ ∃ U1 c1 U2 c2, Hid (CW w wx s x wb rb #[.int .i64 x.turn, .int .i64 x.next, .int .i64 x.field.wide, .int .i64 x.field.high, .slice U1 x.field.ground.length c1, .slice U2 x.field.ore.length c2, .slice s.gold.A x.gold.length s.gold.c, .slice s.units.A x.units.length s.units.c, .slice s.queue.A x.queue.length s.queue.c]) ∧ Hid (wx.ownsRow (rb + 1) 3 1 (.slice U1 x.field.ground.length c1) x.field.ground.length (x.field.ground.map (.int .i64))) ∧ Hid (wx.ownsRow (rb + 1) 3 1 (.slice U2 x.field.ore.length c2) x.field.ore.length (x.field.ore.map (.int .i64))))
  case first =>
    as_aux_lemma =>
    refine wp_region_noPanic ?_
    refine wp_region_twoC (fun wz => wz.cell? ⟨wb, 4, none⟩ = some (.slice s.field.ground.A x.field.ground.length s.field.ground.c) ∧ wz.cell? ⟨wb, 5, none⟩ = some (.slice s.field.ore.A x.field.ore.length s.field.ore.c)) 10 4 (by kernel_rfl) rfl (by kernel_rfl) ?_
    have hHeld : (fun wz => wz.cell? ⟨wb, 4, none⟩ = some (.slice s.field.ground.A x.field.ground.length s.field.ground.c) ∧ wz.cell? ⟨wb, 5, none⟩ = some (.slice s.field.ore.A x.field.ore.length s.field.ore.c)) W.drew := ⟨hX.out.kw.cell 4, hX.out.kw.cell 5⟩
    replace hX := Lib.hid (hX.out.drewN 1)
    refine wpAnyH_take (i := 0) (oi := _) (v := ?_) rfl (by kernel_rfl) (by kernel_rfl) (by kernel_rfl) (fun _ _ _ h => h) (Or.inl ⟨by rfl, ?_⟩) hHeld ?_
    rotate_left
    · intro w' hSw
      try dsimp only at hSw
      first | (go_simp; done) | (go_simp; with_reducible rfl)
    try simp only [Act.put]
    try simp only [List.setIfInBounds_toArray]
    try simp only [List.set_cons_succ, List.set_cons_zero]
    try simp only [List.getElem_toArray]
    try simp only [List.getElem_cons_succ]
    try simp only [List.getElem_cons_zero]
    refine wpAnyH_take (i := 1) (oi := _) (v := ?_) rfl (by kernel_rfl) (by kernel_rfl) (by kernel_rfl) (fun _ _ _ h => h) (Or.inl ⟨by rfl, ?_⟩) hHeld ?_
    rotate_left
    · intro w' hSw
      try dsimp only at hSw
      first | (go_simp; done) | (go_simp; with_reducible rfl)
    try simp only [Act.put]
    try simp only [List.setIfInBounds_toArray]
    try simp only [List.set_cons_succ, List.set_cons_zero]
    try simp only [List.getElem_toArray]
    try simp only [List.getElem_cons_succ]
    try simp only [List.getElem_cons_zero]
    refine wpAnyH_take (i := 2) (oi := _) (v := ?_) rfl (by kernel_rfl) (by kernel_rfl) (by kernel_rfl) (fun _ _ _ h => h) (Or.inl ⟨by rfl, ?_⟩) hHeld ?_
    rotate_left
    · intro w' hSw
      try dsimp only at hSw
      first | (go_simp; done) | (go_simp; with_reducible rfl)
    try simp only [Act.put]
    try simp only [List.setIfInBounds_toArray]
    try simp only [List.set_cons_succ, List.set_cons_zero]
    try simp only [List.getElem_toArray]
    try simp only [List.getElem_cons_succ]
    try simp only [List.getElem_cons_zero]
    refine wpAnyH_take (i := 4) (oi := _) (v := ?_) rfl (by kernel_rfl) (by kernel_rfl) (by kernel_rfl) (fun _ _ _ h => h) (Or.inl ⟨by rfl, ?_⟩) hHeld ?_
    rotate_left
    · intro w' hSw
      try dsimp only at hSw
      first | (go_simp; done) | (go_simp; with_reducible rfl)
    try simp only [Act.put]
    try simp only [List.setIfInBounds_toArray]
    try simp only [List.set_cons_succ, List.set_cons_zero]
    try simp only [List.getElem_toArray]
    try simp only [List.getElem_cons_succ]
    try simp only [List.getElem_cons_zero]
    refine wpAnyH_take (i := 5) (oi := _) (v := ?_) rfl (by kernel_rfl) (by kernel_rfl) (by kernel_rfl) (fun _ _ _ h => h) (Or.inl ⟨by rfl, ?_⟩) hHeld ?_
    rotate_left
    · intro w' hSw
      try dsimp only at hSw
      first | (go_simp; done) | (go_simp; with_reducible rfl)
    try simp only [Act.put]
    try simp only [List.setIfInBounds_toArray]
    try simp only [List.set_cons_succ, List.set_cons_zero]
    try simp only [List.getElem_toArray]
    try simp only [List.getElem_cons_succ]
    try simp only [List.getElem_cons_zero]
    refine wpAnyH_take (i := 6) (oi := _) (v := ?_) rfl (by kernel_rfl) (by kernel_rfl) (by kernel_rfl) (fun _ _ _ h => h) (Or.inl ⟨by rfl, ?_⟩) hHeld ?_
    rotate_left
    · intro w' hSw
      try dsimp only at hSw
      first | (go_simp; done) | (go_simp; with_reducible rfl)
    try simp only [Act.put]
    try simp only [List.setIfInBounds_toArray]
    try simp only [List.set_cons_succ, List.set_cons_zero]
    try simp only [List.getElem_toArray]
    try simp only [List.getElem_cons_succ]
    try simp only [List.getElem_cons_zero]
    refine wpAnyH_ready (rs := [3]) (by kernel_rfl) (by simp) ?_
    refine AllReadyH.cons (o := { dst := some 6, op := .call { callee := .value (.func 122), args := #[.tmp 5], argTypes := #[34] }, type := _, pos := _, after := _, guard := none }) rfl (fun K hK => ?_) AllReadyH.nil
    go_simp
    refine (cloneI_any s.field.ground.A x.field.ground.length s.field.ground.c w.heap.size x.field.ground _ hwo.out.2.2.1.2.2.1.2.1 hX.out.b.size (hwo.out.2.2.1.2.2.1.1.below hX.out.b) (by omega)).mono ?_
    rintro e w1 ⟨v, rfl, ho, hb⟩
    have hXn := hX.out.below hb
    obtain ⟨U1, c1, rfl, _⟩ := own_slice ho
    have ho1 := own_base ho hX.out.lt2
    replace ho1 := Lib.hid ho1
    clear ho hb hX
    have hX := Lib.hid hXn
    clear hXn
    clear hHeld
    refine hK.out _ _ ⟨hX.out.kw.cell 4, hX.out.kw.cell 5⟩ (fun hHeld => ?_)
    clear hK K
    try simp only [Act.put]
    try simp only [List.setIfInBounds_toArray]
    try simp only [List.set_cons_succ, List.set_cons_zero]
    try simp only [List.getElem_toArray]
    try simp only [List.getElem_cons_succ]
    try simp only [List.getElem_cons_zero]
    refine wpAnyH_take (i := 8) (oi := _) (v := ?_) rfl (by kernel_rfl) (by kernel_rfl) (by kernel_rfl) (fun _ _ _ h => h) (Or.inl ⟨by rfl, ?_⟩) hHeld ?_
    rotate_left
    · intro w' hSw
      try dsimp only at hSw
      first | (go_simp; done) | (go_simp; with_reducible rfl)
    try simp only [Act.put]
    try simp only [List.setIfInBounds_toArray]
    try simp only [List.set_cons_succ, List.set_cons_zero]
    try simp only [List.getElem_toArray]
    try simp only [List.getElem_cons_succ]
    try simp only [List.getElem_cons_zero]
    refine wpAnyH_take (i := 9) (oi := _) (v := ?_) rfl (by kernel_rfl) (by kernel_rfl) (by kernel_rfl) (fun _ _ _ h => h) (Or.inl ⟨by rfl, ?_⟩) hHeld ?_
    rotate_left
    · intro w' hSw
      try dsimp only at hSw
      first | (go_simp; done) | (go_simp; with_reducible rfl)
    try simp only [Act.put]
    try simp only [List.setIfInBounds_toArray]
    try simp only [List.set_cons_succ, List.set_cons_zero]
    try simp only [List.getElem_toArray]
    try simp only [List.getElem_cons_succ]
    try simp only [List.getElem_cons_zero]
    refine wpAnyH_ready (rs := [7]) (by kernel_rfl) (by simp) ?_
    refine AllReadyH.cons (o := { dst := some 10, op := .call { callee := .value (.func 122), args := #[.tmp 9], argTypes := #[34] }, type := _, pos := _, after := _, guard := none }) rfl (fun K hK => ?_) AllReadyH.nil
    go_simp
    refine (cloneI_any s.field.ore.A x.field.ore.length s.field.ore.c w.heap.size x.field.ore _ hwo.out.2.2.1.2.2.2.2.1 hX.out.b.size (hwo.out.2.2.1.2.2.2.1.below hX.out.b) (by omega)).mono ?_
    rintro e w2 ⟨v, rfl, ho, hb⟩
    have hXn := hX.out.below hb
    obtain ⟨U2, c2, rfl, _⟩ := own_slice ho
    have ho2 := own_base ho hX.out.lt2
    replace ho1 := Lib.hid (own_below ho1.out hb)
    replace ho2 := Lib.hid ho2
    clear ho hb hX
    have hX := Lib.hid hXn
    clear hXn
    clear hHeld
    refine hK.out _ _ ⟨hX.out.kw.cell 4, hX.out.kw.cell 5⟩ (fun hHeld => ?_)
    clear hK K
    try simp only [Act.put]
    try simp only [List.setIfInBounds_toArray]
    try simp only [List.set_cons_succ, List.set_cons_zero]
    try simp only [List.getElem_toArray]
    try simp only [List.getElem_cons_succ]
    try simp only [List.getElem_cons_zero]
    refine wpAnyH_done (by kernel_rfl) ?_ _
    refine wpAny_of_held (S := fun _ => True) _ _ _ _ ?_
    have fz := hX.out.kw.frozen 4
    have cz := hX.out.kw.cell 4
    refine wpAnyH_ready (rs := [10]) (by kernel_rfl) (by simp) ?_
    refine AllReadyH.cons (o := _) rfl (fun K hK => ?_) AllReadyH.nil
    go_simp
    refine hK.out _ _ trivial (fun _ => ?_)
    clear hK K
    try simp only [Act.put]
    try simp only [List.setIfInBounds_toArray]
    try simp only [List.set_cons_succ, List.set_cons_zero]
    try simp only [List.getElem_toArray]
    try simp only [List.getElem_cons_succ]
    try simp only [List.getElem_cons_zero]
    replace hX := Lib.hid (hX.out.set 4 (.slice U1 x.field.ground.length c1))
    replace ho1 := Lib.hid (own_farW (b := wb) (i := 4) (u := .slice U1 x.field.ground.length c1) ho1.out (by have := hX.out.p2; omega))
    replace ho2 := Lib.hid (own_farW (b := wb) (i := 4) (u := .slice U1 x.field.ground.length c1) ho2.out (by have := hX.out.p2; omega))
    generalize w2.setCell ⟨wb, 4, none⟩ (.slice U1 x.field.ground.length c1) = w3 at *
    clear fz cz
    have fz := hX.out.kw.frozen 5
    have cz := hX.out.kw.cell 5
    try simp only [List.setIfInBounds_toArray] at cz
    try simp only [List.set_cons_succ, List.set_cons_zero] at cz
    try simp only [List.getElem?_toArray] at cz
    try simp only [List.getElem?_cons_succ, List.getElem?_cons_zero] at cz
    refine wpAnyH_take (i := 11) (oi := _) (v := ?_) rfl (by kernel_rfl) (by kernel_rfl) (by kernel_rfl) (fun _ _ _ h => h) (Or.inl ⟨by rfl, ?_⟩) trivial ?_
    rotate_left
    · intro w' hSw
      try dsimp only at hSw
      first | (go_simp; done) | (go_simp; with_reducible rfl)
    try simp only [Act.put]
    try simp only [List.setIfInBounds_toArray]
    try simp only [List.set_cons_succ, List.set_cons_zero]
    try simp only [List.getElem_toArray]
    try simp only [List.getElem_cons_succ]
    try simp only [List.getElem_cons_zero]
    refine wpAnyH_take (i := 12) (oi := _) (v := ?_) rfl (by kernel_rfl) (by kernel_rfl) (by kernel_rfl) (fun _ _ _ h => h) (Or.inl ⟨by rfl, ?_⟩) trivial ?_
    rotate_left
    · intro w' hSw
      try dsimp only at hSw
      first | (go_simp; done) | (go_simp; with_reducible rfl)
    try simp only [Act.put]
    try simp only [List.setIfInBounds_toArray]
    try simp only [List.set_cons_succ, List.set_cons_zero]
    try simp only [List.getElem_toArray]
    try simp only [List.getElem_cons_succ]
    try simp only [List.getElem_cons_zero]
    refine wpAnyH_ready (rs := [13]) (by kernel_rfl) (by simp) ?_
    refine AllReadyH.cons (o := _) rfl (fun K hK => ?_) AllReadyH.nil
    go_simp
    refine hK.out _ _ trivial (fun _ => ?_)
    clear hK K
    try simp only [Act.put]
    try simp only [List.setIfInBounds_toArray]
    try simp only [List.set_cons_succ, List.set_cons_zero]
    try simp only [List.getElem_toArray]
    try simp only [List.getElem_cons_succ]
    try simp only [List.getElem_cons_zero]
    replace hX := Lib.hid (hX.out.set 5 (.slice U2 x.field.ore.length c2))
    replace ho1 := Lib.hid (own_farW (b := wb) (i := 5) (u := .slice U2 x.field.ore.length c2) ho1.out (by have := hX.out.p2; omega))
    replace ho2 := Lib.hid (own_farW (b := wb) (i := 5) (u := .slice U2 x.field.ore.length c2) ho2.out (by have := hX.out.p2; omega))
    refine wpAnyH_done (by kernel_rfl) ?_ _
    refine NoPanic.normal ?_
    clear fz cz
    go_wp2_with fail
    go_meet
    exact ⟨_, rfl, U1, c1, U2, c2, Lib.hid (by have h := hX.out; simp only [List.setIfInBounds_toArray, List.set_cons_succ, List.set_cons_zero] at h; exact h), ho1, ho2⟩
  case rest =>
  obtain ⟨W3, rfl, U1, c1, U2, c2, hX, ho1, ho2⟩ := hcut
  go_upto_region 2 with fail
  go_cut [] (fun wx0 => ∃ wx, wx = wx0 ∧ ∃ U3 c3 U4 c4 U5 c5, Hid (CW w wx s x wb rb #[.int .i64 x.turn, .int .i64 x.next, .int .i64 x.field.wide, .int .i64 x.field.high, .slice U1 x.field.ground.length c1, .slice U2 x.field.ore.length c2, .slice U3 x.gold.length c3, .slice U4 x.units.length c4, .slice U5 x.queue.length c5]) ∧ Hid (wx.ownsRow (rb + 1) 3 1 (.slice U1 x.field.ground.length c1) x.field.ground.length (x.field.ground.map (.int .i64))) ∧ Hid (wx.ownsRow (rb + 1) 3 1 (.slice U2 x.field.ore.length c2) x.field.ore.length (x.field.ore.map (.int .i64))) ∧ Hid (wx.ownsRow (rb + 1) 3 1 (.slice U3 x.gold.length c3) x.gold.length (x.gold.map (.int .i64))) ∧ Hid (wx.ownsRow (rb + 1) 33 8 (.slice U4 x.units.length c4) x.units.length (x.units.flatMap uC)) ∧ Hid (wx.ownsRow (rb + 1) 126 4 (.slice U5 x.queue.length c5) x.queue.length (x.queue.flatMap jC)))
  case first =>
    as_aux_lemma =>
    refine wp_region_noPanic ?_
    refine wp_region_twoC (fun wz => wz.cell? ⟨wb, 6, none⟩ = some (.slice s.gold.A x.gold.length s.gold.c) ∧ wz.cell? ⟨wb, 7, none⟩ = some (.slice s.units.A x.units.length s.units.c) ∧ wz.cell? ⟨wb, 8, none⟩ = some (.slice s.queue.A x.queue.length s.queue.c)) 10 5 (by kernel_rfl) rfl (by kernel_rfl) ?_
    have hHeld : (fun wz => wz.cell? ⟨wb, 6, none⟩ = some (.slice s.gold.A x.gold.length s.gold.c) ∧ wz.cell? ⟨wb, 7, none⟩ = some (.slice s.units.A x.units.length s.units.c) ∧ wz.cell? ⟨wb, 8, none⟩ = some (.slice s.queue.A x.queue.length s.queue.c)) W3.drew := ⟨hX.out.kw.cell 6, hX.out.kw.cell 7, hX.out.kw.cell 8⟩
    replace hX := Lib.hid (hX.out.drewN 1)
    replace ho1 : Hid (W3.drew.ownsRow (rb + 1) 3 1 (.slice U1 x.field.ground.length c1) x.field.ground.length (x.field.ground.map (.int .i64))) := ho1
    replace ho2 : Hid (W3.drew.ownsRow (rb + 1) 3 1 (.slice U2 x.field.ore.length c2) x.field.ore.length (x.field.ore.map (.int .i64))) := ho2
    refine wpAnyH_take (i := 0) (oi := _) (v := ?_) rfl (by kernel_rfl) (by kernel_rfl) (by kernel_rfl) (fun _ _ _ h => h) (Or.inl ⟨by rfl, ?_⟩) hHeld ?_
    rotate_left
    · intro w' hSw
      try dsimp only at hSw
      first | (go_simp; done) | (go_simp; with_reducible rfl)
    try simp only [Act.put]
    try simp only [List.setIfInBounds_toArray]
    try simp only [List.set_cons_succ, List.set_cons_zero]
    try simp only [List.getElem_toArray]
    try simp only [List.getElem_cons_succ]
    try simp only [List.getElem_cons_zero]
    refine wpAnyH_take (i := 1) (oi := _) (v := ?_) rfl (by kernel_rfl) (by kernel_rfl) (by kernel_rfl) (fun _ _ _ h => h) (Or.inl ⟨by rfl, ?_⟩) hHeld ?_
    rotate_left
    · intro w' hSw
      try dsimp only at hSw
      first | (go_simp; done) | (go_simp; with_reducible rfl)
    try simp only [Act.put]
    try simp only [List.setIfInBounds_toArray]
    try simp only [List.set_cons_succ, List.set_cons_zero]
    try simp only [List.getElem_toArray]
    try simp only [List.getElem_cons_succ]
    try simp only [List.getElem_cons_zero]
    refine wpAnyH_take (i := 3) (oi := _) (v := ?_) rfl (by kernel_rfl) (by kernel_rfl) (by kernel_rfl) (fun _ _ _ h => h) (Or.inl ⟨by rfl, ?_⟩) hHeld ?_
    rotate_left
    · intro w' hSw
      try dsimp only at hSw
      first | (go_simp; done) | (go_simp; with_reducible rfl)
    try simp only [Act.put]
    try simp only [List.setIfInBounds_toArray]
    try simp only [List.set_cons_succ, List.set_cons_zero]
    try simp only [List.getElem_toArray]
    try simp only [List.getElem_cons_succ]
    try simp only [List.getElem_cons_zero]
    refine wpAnyH_take (i := 4) (oi := _) (v := ?_) rfl (by kernel_rfl) (by kernel_rfl) (by kernel_rfl) (fun _ _ _ h => h) (Or.inl ⟨by rfl, ?_⟩) hHeld ?_
    rotate_left
    · intro w' hSw
      try dsimp only at hSw
      first | (go_simp; done) | (go_simp; with_reducible rfl)
    try simp only [Act.put]
    try simp only [List.setIfInBounds_toArray]
    try simp only [List.set_cons_succ, List.set_cons_zero]
    try simp only [List.getElem_toArray]
    try simp only [List.getElem_cons_succ]
    try simp only [List.getElem_cons_zero]
    refine wpAnyH_take (i := 6) (oi := _) (v := ?_) rfl (by kernel_rfl) (by kernel_rfl) (by kernel_rfl) (fun _ _ _ h => h) (Or.inl ⟨by rfl, ?_⟩) hHeld ?_
    rotate_left
    · intro w' hSw
      try dsimp only at hSw
      first | (go_simp; done) | (go_simp; with_reducible rfl)
    try simp only [Act.put]
    try simp only [List.setIfInBounds_toArray]
    try simp only [List.set_cons_succ, List.set_cons_zero]
    try simp only [List.getElem_toArray]
    try simp only [List.getElem_cons_succ]
    try simp only [List.getElem_cons_zero]
    refine wpAnyH_take (i := 7) (oi := _) (v := ?_) rfl (by kernel_rfl) (by kernel_rfl) (by kernel_rfl) (fun _ _ _ h => h) (Or.inl ⟨by rfl, ?_⟩) hHeld ?_
    rotate_left
    · intro w' hSw
      try dsimp only at hSw
      first | (go_simp; done) | (go_simp; with_reducible rfl)
    try simp only [Act.put]
    try simp only [List.setIfInBounds_toArray]
    try simp only [List.set_cons_succ, List.set_cons_zero]
    try simp only [List.getElem_toArray]
    try simp only [List.getElem_cons_succ]
    try simp only [List.getElem_cons_zero]
    refine wpAnyH_ready (rs := [2]) (by kernel_rfl) (by simp) ?_
    refine AllReadyH.cons (o := { dst := some 17, op := .call { callee := .value (.func 122), args := #[.tmp 16], argTypes := #[34] }, type := _, pos := _, after := _, guard := none }) rfl (fun K hK => ?_) AllReadyH.nil
    go_simp
    refine (cloneI_any s.gold.A x.gold.length s.gold.c w.heap.size x.gold _ hwo.out.2.2.2.1.2.1 hX.out.b.size (hwo.out.2.2.2.1.1.below hX.out.b) (by omega)).mono ?_
    rintro e w3 ⟨v, rfl, ho, hb⟩
    have hXn := hX.out.below hb
    obtain ⟨U3, c3, rfl, _⟩ := own_slice ho
    have ho3 := own_base ho hX.out.lt2
    replace ho1 := Lib.hid (own_below ho1.out hb)
    replace ho2 := Lib.hid (own_below ho2.out hb)
    replace ho3 := Lib.hid ho3
    clear ho hb hX
    have hX := Lib.hid hXn
    clear hXn
    clear hHeld
    refine hK.out _ _ ⟨hX.out.kw.cell 6, hX.out.kw.cell 7, hX.out.kw.cell 8⟩ (fun hHeld => ?_)
    clear hK K
    try simp only [Act.put]
    try simp only [List.setIfInBounds_toArray]
    try simp only [List.set_cons_succ, List.set_cons_zero]
    try simp only [List.getElem_toArray]
    try simp only [List.getElem_cons_succ]
    try simp only [List.getElem_cons_zero]
    refine wpAnyH_take (i := 9) (oi := _) (v := ?_) rfl (by kernel_rfl) (by kernel_rfl) (by kernel_rfl) (fun _ _ _ h => h) (Or.inl ⟨by rfl, ?_⟩) hHeld ?_
    rotate_left
    · intro w' hSw
      try dsimp only at hSw
      first | (go_simp; done) | (go_simp; with_reducible rfl)
    try simp only [Act.put]
    try simp only [List.setIfInBounds_toArray]
    try simp only [List.set_cons_succ, List.set_cons_zero]
    try simp only [List.getElem_toArray]
    try simp only [List.getElem_cons_succ]
    try simp only [List.getElem_cons_zero]
    refine wpAnyH_ready (rs := [5]) (by kernel_rfl) (by simp) ?_
    refine AllReadyH.cons (o := { dst := some 20, op := .call { callee := .value (.func 123), args := #[.tmp 19], argTypes := #[29] }, type := _, pos := _, after := _, guard := none }) rfl (fun K hK => ?_) AllReadyH.nil
    go_simp
    refine (cloneU_any s.units.A x.units.length s.units.c w.heap.size x.units _ rfl hwo.out.2.2.2.2.1.2.1 hX.out.b.size (hwo.out.2.2.2.2.1.1.below hX.out.b) (by omega)).mono ?_
    rintro e w4 ⟨v, rfl, ho, hb⟩
    have hXn := hX.out.below hb
    obtain ⟨U4, c4, rfl, _⟩ := own_slice ho
    have ho4 := own_base ho hX.out.lt2
    replace ho1 := Lib.hid (own_below ho1.out hb)
    replace ho2 := Lib.hid (own_below ho2.out hb)
    replace ho3 := Lib.hid (own_below ho3.out hb)
    replace ho4 := Lib.hid ho4
    clear ho hb hX
    have hX := Lib.hid hXn
    clear hXn
    clear hHeld
    refine hK.out _ _ ⟨hX.out.kw.cell 6, hX.out.kw.cell 7, hX.out.kw.cell 8⟩ (fun hHeld => ?_)
    clear hK K
    try simp only [Act.put]
    try simp only [List.setIfInBounds_toArray]
    try simp only [List.set_cons_succ, List.set_cons_zero]
    try simp only [List.getElem_toArray]
    try simp only [List.getElem_cons_succ]
    try simp only [List.getElem_cons_zero]
    refine wpAnyH_ready (rs := [8]) (by kernel_rfl) (by simp) ?_
    refine AllReadyH.cons (o := { dst := some 23, op := .call { callee := .value (.func 124), args := #[.tmp 22], argTypes := #[53] }, type := _, pos := _, after := _, guard := none }) rfl (fun K hK => ?_) AllReadyH.nil
    go_simp
    refine (cloneJ_any s.queue.A x.queue.length s.queue.c w.heap.size x.queue _ rfl hwo.out.2.2.2.2.2.2.1 hX.out.b.size (hwo.out.2.2.2.2.2.1.below hX.out.b) (by omega)).mono ?_
    rintro e w5 ⟨v, rfl, ho, hb⟩
    have hXn := hX.out.below hb
    obtain ⟨U5, c5, rfl, _⟩ := own_slice ho
    have ho5 := own_base ho hX.out.lt2
    replace ho1 := Lib.hid (own_below ho1.out hb)
    replace ho2 := Lib.hid (own_below ho2.out hb)
    replace ho3 := Lib.hid (own_below ho3.out hb)
    replace ho4 := Lib.hid (own_below ho4.out hb)
    replace ho5 := Lib.hid ho5
    clear ho hb hX
    have hX := Lib.hid hXn
    clear hXn
    clear hHeld
    refine hK.out _ _ ⟨hX.out.kw.cell 6, hX.out.kw.cell 7, hX.out.kw.cell 8⟩ (fun hHeld => ?_)
    clear hK K
    try simp only [Act.put]
    try simp only [List.setIfInBounds_toArray]
    try simp only [List.set_cons_succ, List.set_cons_zero]
    try simp only [List.getElem_toArray]
    try simp only [List.getElem_cons_succ]
    try simp only [List.getElem_cons_zero]
    refine wpAnyH_done (by kernel_rfl) ?_ _
    refine wpAny_of_held (S := fun _ => True) _ _ _ _ ?_
    have fz := hX.out.kw.frozen 6
    have cz := hX.out.kw.cell 6
    try simp only [List.setIfInBounds_toArray] at cz
    try simp only [List.set_cons_succ, List.set_cons_zero] at cz
    try simp only [List.getElem?_toArray] at cz
    try simp only [List.getElem?_cons_succ, List.getElem?_cons_zero] at cz
    refine wpAnyH_ready (rs := [10]) (by kernel_rfl) (by simp) ?_
    refine AllReadyH.cons (o := _) rfl (fun K hK => ?_) AllReadyH.nil
    go_simp
    refine hK.out _ _ trivial (fun _ => ?_)
    clear hK K
    try simp only [Act.put]
    try simp only [List.setIfInBounds_toArray]
    try simp only [List.set_cons_succ, List.set_cons_zero]
    try simp only [List.getElem_toArray]
    try simp only [List.getElem_cons_succ]
    try simp only [List.getElem_cons_zero]
    replace hX := Lib.hid (hX.out.set 6 (.slice U3 x.gold.length c3))
    replace ho1 := Lib.hid (own_farW (b := wb) (i := 6) (u := .slice U3 x.gold.length c3) ho1.out (by have := hX.out.p2; omega))
    replace ho2 := Lib.hid (own_farW (b := wb) (i := 6) (u := .slice U3 x.gold.length c3) ho2.out (by have := hX.out.p2; omega))
    replace ho3 := Lib.hid (own_farW (b := wb) (i := 6) (u := .slice U3 x.gold.length c3) ho3.out (by have := hX.out.p2; omega))
    replace ho4 := Lib.hid (own_farW (b := wb) (i := 6) (u := .slice U3 x.gold.length c3) ho4.out (by have := hX.out.p2; omega))
    replace ho5 := Lib.hid (own_farW (b := wb) (i := 6) (u := .slice U3 x.gold.length c3) ho5.out (by have := hX.out.p2; omega))
    clear fz cz
    generalize w5.setCell ⟨wb, 6, none⟩ (.slice U3 x.gold.length c3) = w6 at *
    refine wpAnyH_take (i := 11) (oi := _) (v := ?_) rfl (by kernel_rfl) (by kernel_rfl) (by kernel_rfl) (fun _ _ _ h => h) (Or.inl ⟨by rfl, ?_⟩) trivial ?_
    rotate_left
    · intro w' hSw
      try dsimp only at hSw
      first | (go_simp; done) | (go_simp; with_reducible rfl)
    try simp only [Act.put]
    try simp only [List.setIfInBounds_toArray]
    try simp only [List.set_cons_succ, List.set_cons_zero]
    try simp only [List.getElem_toArray]
    try simp only [List.getElem_cons_succ]
    try simp only [List.getElem_cons_zero]
    have fz := hX.out.kw.frozen 7
    have cz := hX.out.kw.cell 7
    try simp only [List.setIfInBounds_toArray] at cz
    try simp only [List.set_cons_succ, List.set_cons_zero] at cz
    try simp only [List.getElem?_toArray] at cz
    try simp only [List.getElem?_cons_succ, List.getElem?_cons_zero] at cz
    refine wpAnyH_ready (rs := [12]) (by kernel_rfl) (by simp) ?_
    refine AllReadyH.cons (o := _) rfl (fun K hK => ?_) AllReadyH.nil
    go_simp
    refine hK.out _ _ trivial (fun _ => ?_)
    clear hK K
    try simp only [Act.put]
    try simp only [List.setIfInBounds_toArray]
    try simp only [List.set_cons_succ, List.set_cons_zero]
    try simp only [List.getElem_toArray]
    try simp only [List.getElem_cons_succ]
    try simp only [List.getElem_cons_zero]
    replace hX := Lib.hid (hX.out.set 7 (.slice U4 x.units.length c4))
    replace ho1 := Lib.hid (own_farW (b := wb) (i := 7) (u := .slice U4 x.units.length c4) ho1.out (by have := hX.out.p2; omega))
    replace ho2 := Lib.hid (own_farW (b := wb) (i := 7) (u := .slice U4 x.units.length c4) ho2.out (by have := hX.out.p2; omega))
    replace ho3 := Lib.hid (own_farW (b := wb) (i := 7) (u := .slice U4 x.units.length c4) ho3.out (by have := hX.out.p2; omega))
    replace ho4 := Lib.hid (own_farW (b := wb) (i := 7) (u := .slice U4 x.units.length c4) ho4.out (by have := hX.out.p2; omega))
    replace ho5 := Lib.hid (own_farW (b := wb) (i := 7) (u := .slice U4 x.units.length c4) ho5.out (by have := hX.out.p2; omega))
    clear fz cz
    generalize w6.setCell ⟨wb, 7, none⟩ (.slice U4 x.units.length c4) = w7 at *
    refine wpAnyH_take (i := 13) (oi := _) (v := ?_) rfl (by kernel_rfl) (by kernel_rfl) (by kernel_rfl) (fun _ _ _ h => h) (Or.inl ⟨by rfl, ?_⟩) trivial ?_
    rotate_left
    · intro w' hSw
      try dsimp only at hSw
      first | (go_simp; done) | (go_simp; with_reducible rfl)
    try simp only [Act.put]
    try simp only [List.setIfInBounds_toArray]
    try simp only [List.set_cons_succ, List.set_cons_zero]
    try simp only [List.getElem_toArray]
    try simp only [List.getElem_cons_succ]
    try simp only [List.getElem_cons_zero]
    have fz := hX.out.kw.frozen 8
    have cz := hX.out.kw.cell 8
    try simp only [List.setIfInBounds_toArray] at cz
    try simp only [List.set_cons_succ, List.set_cons_zero] at cz
    try simp only [List.getElem?_toArray] at cz
    try simp only [List.getElem?_cons_succ, List.getElem?_cons_zero] at cz
    refine wpAnyH_ready (rs := [14]) (by kernel_rfl) (by simp) ?_
    refine AllReadyH.cons (o := _) rfl (fun K hK => ?_) AllReadyH.nil
    go_simp
    refine hK.out _ _ trivial (fun _ => ?_)
    clear hK K
    try simp only [Act.put]
    try simp only [List.setIfInBounds_toArray]
    try simp only [List.set_cons_succ, List.set_cons_zero]
    try simp only [List.getElem_toArray]
    try simp only [List.getElem_cons_succ]
    try simp only [List.getElem_cons_zero]
    replace hX := Lib.hid (hX.out.set 8 (.slice U5 x.queue.length c5))
    replace ho1 := Lib.hid (own_farW (b := wb) (i := 8) (u := .slice U5 x.queue.length c5) ho1.out (by have := hX.out.p2; omega))
    replace ho2 := Lib.hid (own_farW (b := wb) (i := 8) (u := .slice U5 x.queue.length c5) ho2.out (by have := hX.out.p2; omega))
    replace ho3 := Lib.hid (own_farW (b := wb) (i := 8) (u := .slice U5 x.queue.length c5) ho3.out (by have := hX.out.p2; omega))
    replace ho4 := Lib.hid (own_farW (b := wb) (i := 8) (u := .slice U5 x.queue.length c5) ho4.out (by have := hX.out.p2; omega))
    replace ho5 := Lib.hid (own_farW (b := wb) (i := 8) (u := .slice U5 x.queue.length c5) ho5.out (by have := hX.out.p2; omega))
    clear fz cz
    refine wpAnyH_done (by kernel_rfl) ?_ _
    refine NoPanic.normal ?_
    go_wp2_with fail
    go_meet
    exact ⟨_, rfl, U3, c3, U4, c4, U5, c5, Lib.hid (by have h := hX.out; simp only [List.setIfInBounds_toArray, List.set_cons_succ, List.set_cons_zero] at h; exact h), ho1, ho2, ho3, ho4, ho5⟩
  case rest =>
  obtain ⟨W4, rfl, U3, c3, U4, c4, U5, c5, hX, ho1, ho2, ho3, ho4, ho5⟩ := hcut
  have hkw := hX.out.kw
  have hkr := hX.out.kr
  have hrw : w.heap.size ≤ rb := by have := hX.out.p1; have := hX.out.p2; omega
  have k0 := hkw.cell 0
  have r0 := hkr.cell 0
  have f0 := hkr.frozen 0
  have k1 := hkw.cell 1
  have r1 := hkr.cell 1
  have f1 := hkr.frozen 1
  have k2 := hkw.cell 2
  have r2 := hkr.cell 2
  have f2 := hkr.frozen 2
  have k3 := hkw.cell 3
  have r3 := hkr.cell 3
  have f3 := hkr.frozen 3
  have k4 := hkw.cell 4
  have r4 := hkr.cell 4
  have f4 := hkr.frozen 4
  have k5 := hkw.cell 5
  have r5 := hkr.cell 5
  have f5 := hkr.frozen 5
  have k6 := hkw.cell 6
  have r6 := hkr.cell 6
  have f6 := hkr.frozen 6
  have k7 := hkw.cell 7
  have r7 := hkr.cell 7
  have f7 := hkr.frozen 7
  have k8 := hkw.cell 8
  have r8 := hkr.cell 8
  have f8 := hkr.frozen 8
  try simp only [List.getElem?_toArray, List.getElem?_cons_succ, List.getElem?_cons_zero] at k0 r0 k1 r1 k2 r2 k3 r3 k4 r4 k5 r5 k6 r6 k7 r7 k8 r8
  have lw := hkw.lt
  have lr := hkr.lt
  have hzB : Blk (((((((((W4.setCell ⟨rb, 0, none⟩ (.int .i64 x.turn)).setCell ⟨rb, 1, none⟩ (.int .i64 x.next)).setCell ⟨rb, 2, none⟩ (.int .i64 x.field.wide)).setCell ⟨rb, 3, none⟩ (.int .i64 x.field.high)).setCell ⟨rb, 4, none⟩ (.slice U1 x.field.ground.length c1)).setCell ⟨rb, 5, none⟩ (.slice U2 x.field.ore.length c2)).setCell ⟨rb, 6, none⟩ (.slice U3 x.gold.length c3)).setCell ⟨rb, 7, none⟩ (.slice U4 x.units.length c4)).setCell ⟨rb, 8, none⟩ (.slice U5 x.queue.length c5)) rb 55 #[.int .i64 x.turn, .int .i64 x.next, .int .i64 x.field.wide, .int .i64 x.field.high, .slice U1 x.field.ground.length c1, .slice U2 x.field.ore.length c2, .slice U3 x.gold.length c3, .slice U4 x.units.length c4, .slice U5 x.queue.length c5] := by
    have h := (((((((((hkr.set_ 0 (.int .i64 x.turn)).set_ 1 (.int .i64 x.next)).set_ 2 (.int .i64 x.field.wide)).set_ 3 (.int .i64 x.field.high)).set_ 4 (.slice U1 x.field.ground.length c1)).set_ 5 (.slice U2 x.field.ore.length c2)).set_ 6 (.slice U3 x.gold.length c3)).set_ 7 (.slice U4 x.units.length c4)).set_ 8 (.slice U5 x.queue.length c5))
    simp only [List.setIfInBounds_toArray, List.set_cons_zero, List.set_cons_succ] at h
    exact h
  have hbB : Below w.heap.size w (((((((((W4.setCell ⟨rb, 0, none⟩ (.int .i64 x.turn)).setCell ⟨rb, 1, none⟩ (.int .i64 x.next)).setCell ⟨rb, 2, none⟩ (.int .i64 x.field.wide)).setCell ⟨rb, 3, none⟩ (.int .i64 x.field.high)).setCell ⟨rb, 4, none⟩ (.slice U1 x.field.ground.length c1)).setCell ⟨rb, 5, none⟩ (.slice U2 x.field.ore.length c2)).setCell ⟨rb, 6, none⟩ (.slice U3 x.gold.length c3)).setCell ⟨rb, 7, none⟩ (.slice U4 x.units.length c4)).setCell ⟨rb, 8, none⟩ (.slice U5 x.queue.length c5)) := (((((((((hX.out.b.setCell (p := ⟨rb, 0, none⟩) hrw (.int .i64 x.turn)).setCell (p := ⟨rb, 1, none⟩) hrw (.int .i64 x.next)).setCell (p := ⟨rb, 2, none⟩) hrw (.int .i64 x.field.wide)).setCell (p := ⟨rb, 3, none⟩) hrw (.int .i64 x.field.high)).setCell (p := ⟨rb, 4, none⟩) hrw (.slice U1 x.field.ground.length c1)).setCell (p := ⟨rb, 5, none⟩) hrw (.slice U2 x.field.ore.length c2)).setCell (p := ⟨rb, 6, none⟩) hrw (.slice U3 x.gold.length c3)).setCell (p := ⟨rb, 7, none⟩) hrw (.slice U4 x.units.length c4)).setCell (p := ⟨rb, 8, none⟩) hrw (.slice U5 x.queue.length c5))
  have hp1 := (own_farW (b := rb) (i := 8) (u := .slice U5 x.queue.length c5) (own_farW (b := rb) (i := 7) (u := .slice U4 x.units.length c4) (own_farW (b := rb) (i := 6) (u := .slice U3 x.gold.length c3) (own_farW (b := rb) (i := 5) (u := .slice U2 x.field.ore.length c2) (own_farW (b := rb) (i := 4) (u := .slice U1 x.field.ground.length c1) (own_farW (b := rb) (i := 3) (u := .int .i64 x.field.high) (own_farW (b := rb) (i := 2) (u := .int .i64 x.field.wide) (own_farW (b := rb) (i := 1) (u := .int .i64 x.next) (own_farW (b := rb) (i := 0) (u := .int .i64 x.turn) ho1.out (by omega)) (by omega)) (by omega)) (by omega)) (by omega)) (by omega)) (by omega)) (by omega)) (by omega))
  have hp2 := (own_farW (b := rb) (i := 8) (u := .slice U5 x.queue.length c5) (own_farW (b := rb) (i := 7) (u := .slice U4 x.units.length c4) (own_farW (b := rb) (i := 6) (u := .slice U3 x.gold.length c3) (own_farW (b := rb) (i := 5) (u := .slice U2 x.field.ore.length c2) (own_farW (b := rb) (i := 4) (u := .slice U1 x.field.ground.length c1) (own_farW (b := rb) (i := 3) (u := .int .i64 x.field.high) (own_farW (b := rb) (i := 2) (u := .int .i64 x.field.wide) (own_farW (b := rb) (i := 1) (u := .int .i64 x.next) (own_farW (b := rb) (i := 0) (u := .int .i64 x.turn) ho2.out (by omega)) (by omega)) (by omega)) (by omega)) (by omega)) (by omega)) (by omega)) (by omega)) (by omega))
  have hp3 := (own_farW (b := rb) (i := 8) (u := .slice U5 x.queue.length c5) (own_farW (b := rb) (i := 7) (u := .slice U4 x.units.length c4) (own_farW (b := rb) (i := 6) (u := .slice U3 x.gold.length c3) (own_farW (b := rb) (i := 5) (u := .slice U2 x.field.ore.length c2) (own_farW (b := rb) (i := 4) (u := .slice U1 x.field.ground.length c1) (own_farW (b := rb) (i := 3) (u := .int .i64 x.field.high) (own_farW (b := rb) (i := 2) (u := .int .i64 x.field.wide) (own_farW (b := rb) (i := 1) (u := .int .i64 x.next) (own_farW (b := rb) (i := 0) (u := .int .i64 x.turn) ho3.out (by omega)) (by omega)) (by omega)) (by omega)) (by omega)) (by omega)) (by omega)) (by omega)) (by omega))
  have hp4 := (own_farW (b := rb) (i := 8) (u := .slice U5 x.queue.length c5) (own_farW (b := rb) (i := 7) (u := .slice U4 x.units.length c4) (own_farW (b := rb) (i := 6) (u := .slice U3 x.gold.length c3) (own_farW (b := rb) (i := 5) (u := .slice U2 x.field.ore.length c2) (own_farW (b := rb) (i := 4) (u := .slice U1 x.field.ground.length c1) (own_farW (b := rb) (i := 3) (u := .int .i64 x.field.high) (own_farW (b := rb) (i := 2) (u := .int .i64 x.field.wide) (own_farW (b := rb) (i := 1) (u := .int .i64 x.next) (own_farW (b := rb) (i := 0) (u := .int .i64 x.turn) ho4.out (by omega)) (by omega)) (by omega)) (by omega)) (by omega)) (by omega)) (by omega)) (by omega)) (by omega))
  have hp5 := (own_farW (b := rb) (i := 8) (u := .slice U5 x.queue.length c5) (own_farW (b := rb) (i := 7) (u := .slice U4 x.units.length c4) (own_farW (b := rb) (i := 6) (u := .slice U3 x.gold.length c3) (own_farW (b := rb) (i := 5) (u := .slice U2 x.field.ore.length c2) (own_farW (b := rb) (i := 4) (u := .slice U1 x.field.ground.length c1) (own_farW (b := rb) (i := 3) (u := .int .i64 x.field.high) (own_farW (b := rb) (i := 2) (u := .int .i64 x.field.wide) (own_farW (b := rb) (i := 1) (u := .int .i64 x.next) (own_farW (b := rb) (i := 0) (u := .int .i64 x.turn) ho5.out (by omega)) (by omega)) (by omega)) (by omega)) (by omega)) (by omega)) (by omega)) (by omega)) (by omega))
  clear hkw hkr
  replace hzB := Lib.hid hzB
  replace hbB := Lib.hid hbB
  replace hp1 := Lib.hid hp1
  replace hp2 := Lib.hid hp2
  replace hp3 := Lib.hid hp3
  replace hp4 := Lib.hid hp4
  replace hp5 := Lib.hid hp5
  go_upto_region 3 with fail
  go_wp2_with fail
  have hrb2 : w.heap.size + 2 ≤ rb + 1 := by have := hwb.out; have := hrb.out; omega
  refine bodyPost_ret (results_c rfl _ _ rb _ #[.int .i64 x.turn, .int .i64 x.next, .int .i64 x.field.wide, .int .i64 x.field.high, .slice U1 x.field.ground.length c1, .slice U2 x.field.ore.length c2, .slice U3 x.gold.length c3, .slice U4 x.units.length c4, .slice U5 x.queue.length c5] _ rfl hzB.out Tryd.underlying55 rfl (by kernel_rfl)) rfl ?_
  exact ⟨⟨⟨⟨U1, c1⟩, ⟨U2, c2⟩⟩, ⟨U3, c3⟩, ⟨U4, c4⟩, ⟨U5, c5⟩⟩, rfl, ⟨own_base hp1.out hrb2, own_base hp2.out hrb2, own_base hp3.out hrb2, own_base hp4.out hrb2, own_base hp5.out hrb2⟩, hbB.out⟩
end Go.Proofs.YtkgkpggfoieioaaDoor
