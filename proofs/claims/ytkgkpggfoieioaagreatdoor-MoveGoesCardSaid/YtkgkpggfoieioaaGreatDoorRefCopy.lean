import Derived.Test.YtkgkpggfoieioaaGreatDoorPlaceU
namespace Go.Proofs.YtkgkpggfoieioaaGreatDoor
set_option linter.unusedVariables false
open Go.RowKit
/-! marchref2.Copy. -/
theorem CW.far {w0 w : World} {s : SW} {x : GW} {wb rb b i : Nat} {cs : Array Value} (h : CW w0 w s x wb rb cs) (hb : rb < b) (u : Value) : CW w0 (w.setCell ⟨b, i, none⟩ u) s x wb rb cs :=
  ⟨h.b.setCell (p := ⟨b, i, none⟩) (by have := h.p1; have := h.p2; show w0.heap.size ≤ b; omega) _, h.kw.far (p := ⟨b, i, none⟩) (by have := h.p2; show wb ≠ b; omega) u, h.kr.far (p := ⟨b, i, none⟩) (by show rb ≠ b; omega) u, h.wo, h.p1, h.p2⟩
theorem CW.alloc {w0 w : World} {s : SW} {x : GW} {wb rb : Nat} {cs : Array Value} (h : CW w0 w s x wb rb cs) (o : Obj) : CW w0 (w.alloc o) s x wb rb cs := h.below ((Below.refl _ _).alloc (Nat.le_refl _) o)
theorem own_farN {w : World} {base n sz b i : Nat} {e : TypeId} {v u : Value} {xs : List Value} (ho : w.ownsRow base e sz v n xs) (hb : v.ownBlock ≠ some b) : (w.setCell ⟨b, i, none⟩ u).ownsRow base e sz v n xs :=
  ho.kept (grownBy_set w b i u) (by
    cases hv : v.ownBlock with
    | none => exact .inl rfl
    | some g => exact .inr (fun e => hb (by rw [hv]; exact e)))
theorem grown_none {w w' : World} (h : w.grownBy w' (Value.slice none 0 0).ownBlock) : Below w.heap.size w w' := (Below.refl _ _).grown h (Nat.le_refl _) (by simp [Value.ownBlock])
theorem unitR_info : (Tryz.prog.info? 45).map (fun i => (i.zero, i.size, i.bytes)) = some (some (.agg #[.int .i64 0, .int .i64 0, .int .i64 0, .int .i64 0, .int .i64 0, .int .i64 0, .int .i64 0, .int .i64 0]), 8, 64) := by kernel_rfl
theorem jobR_info : (Tryz.prog.info? 71).map (fun i => (i.zero, i.size, i.bytes)) = some (some (.agg #[.int .i64 0, .int .i64 0, .int .i64 0, .int .i64 0]), 4, 32) := by kernel_rfl
set_option maxHeartbeats 6400000 in
set_option maxRecDepth 100000 in
theorem rcopy_any (s : SW) (x : GW) (w : World) (hW : WOk w s x) (h1 : x.field.ground.length ≤ 1000000000) (h2 : x.field.ore.length ≤ 1000000000) (h3 : x.gold.length ≤ 1000000000) (h4 : x.units.length ≤ 1000000000) (h5 : x.queue.length ≤ 1000000000) :
    Calls Tryz.prog 14 #[wA s x] w fun e w' => ∃ s', e = .returned (wA s' x) ∧ WOwn w' (w.heap.size + 3) s' x ∧ Below w.heap.size w w' := by
  obtain ⟨i0, hi0, hz0, hz1, hz2⟩ := info_parts cloneI_info
  obtain ⟨i1, hi1, hy0, hy1, hy2⟩ := info_parts unitR_info
  obtain ⟨i2, hi2, hx0, hx1, hx2⟩ := info_parts jobR_info
  have hX : CW w ((w.alloc (.cells #[.int .i64 x.turn, .int .i64 x.next, .int .i64 x.field.wide, .int .i64 x.field.high, .slice s.field.ground.A x.field.ground.length s.field.ground.c, .slice s.field.ore.A x.field.ore.length s.field.ore.c, .slice s.gold.A x.gold.length s.gold.c, .slice s.units.A x.units.length s.units.c, .slice s.queue.A x.queue.length s.queue.c] 29)).alloc (.cells #[.int .i64 0, .int .i64 0, .int .i64 0, .int .i64 0, .slice none 0 0, .slice none 0 0, .slice none 0 0, .slice none 0 0, .slice none 0 0] 29)) s x w.heap.size (w.heap.size + 1) #[.int .i64 x.turn, .int .i64 x.next, .int .i64 x.field.wide, .int .i64 x.field.high, .slice s.field.ground.A x.field.ground.length s.field.ground.c, .slice s.field.ore.A x.field.ore.length s.field.ore.c, .slice s.gold.A x.gold.length s.gold.c, .slice s.units.A x.units.length s.units.c, .slice s.queue.A x.queue.length s.queue.c] := by
    obtain ⟨hb1, hk1, hk2⟩ := two_boxes w 29 29 #[.int .i64 x.turn, .int .i64 x.next, .int .i64 x.field.wide, .int .i64 x.field.high, .slice s.field.ground.A x.field.ground.length s.field.ground.c, .slice s.field.ore.A x.field.ore.length s.field.ore.c, .slice s.gold.A x.gold.length s.gold.c, .slice s.units.A x.units.length s.units.c, .slice s.queue.A x.queue.length s.queue.c] #[.int .i64 0, .int .i64 0, .int .i64 0, .int .i64 0, .slice none 0 0, .slice none 0 0, .slice none 0 0, .slice none 0 0, .slice none 0 0]
    exact ⟨hb1, hk1, hk2, hW, Nat.le_refl _, by omega⟩
  replace hX := Lib.hid hX
  clear hW
  go_enter Tryz.func14, Tryz.ntmps14
  go_upto_region 1 with fail
  have hsz : ((w.alloc (.cells #[.int .i64 x.turn, .int .i64 x.next, .int .i64 x.field.wide, .int .i64 x.field.high, .slice s.field.ground.A x.field.ground.length s.field.ground.c, .slice s.field.ore.A x.field.ore.length s.field.ore.c, .slice s.gold.A x.gold.length s.gold.c, .slice s.units.A x.units.length s.units.c, .slice s.queue.A x.queue.length s.queue.c] 29)).alloc (.cells #[.int .i64 0, .int .i64 0, .int .i64 0, .int .i64 0, .slice none 0 0, .slice none 0 0, .slice none 0 0, .slice none 0 0, .slice none 0 0] 29)).heap.size = w.heap.size + 1 + 1 := by simp
  generalize ((w.alloc (.cells #[.int .i64 x.turn, .int .i64 x.next, .int .i64 x.field.wide, .int .i64 x.field.high, .slice s.field.ground.A x.field.ground.length s.field.ground.c, .slice s.field.ore.A x.field.ore.length s.field.ore.c, .slice s.gold.A x.gold.length s.gold.c, .slice s.units.A x.units.length s.units.c, .slice s.queue.A x.queue.length s.queue.c] 29)).alloc (.cells #[.int .i64 0, .int .i64 0, .int .i64 0, .int .i64 0, .slice none 0 0, .slice none 0 0, .slice none 0 0, .slice none 0 0, .slice none 0 0] 29)) = W at *
  obtain ⟨wb, hwb⟩ : ∃ wb, w.heap.size = wb := ⟨_, rfl⟩
  obtain ⟨rb, hrb⟩ : ∃ rb, wb + 1 = rb := ⟨_, rfl⟩
  rw [hwb] at hsz
  rw [hwb]
  try rw [hrb]
  rw [hrb] at hsz
  replace hX : CW w W s x wb rb #[.int .i64 x.turn, .int .i64 x.next, .int .i64 x.field.wide, .int .i64 x.field.high, .slice s.field.ground.A x.field.ground.length s.field.ground.c, .slice s.field.ore.A x.field.ore.length s.field.ore.c, .slice s.gold.A x.gold.length s.gold.c, .slice s.units.A x.units.length s.units.c, .slice s.queue.A x.queue.length s.queue.c] := by rw [← hrb, ← hwb]; exact hX.out
  replace hX := Lib.hid hX
  replace hwb := Lib.hid hwb
  replace hrb := Lib.hid hrb
  replace hsz := Lib.hid hsz
  go_upto_region 2 with fail
  have hXn := hX.out.alloc (.cells #[.int .i64 0, .int .i64 0, .slice none 0 0, .slice none 0 0] 25)
  have hv := Blk.new W 25 #[.int .i64 0, .int .i64 0, .slice none 0 0, .slice none 0 0]
  generalize (W.alloc (.cells #[.int .i64 0, .int .i64 0, .slice none 0 0, .slice none 0 0] 25)) = W1 at *
  obtain ⟨fb, hfb⟩ : ∃ fb, W.heap.size = fb := ⟨_, rfl⟩
  rw [hfb] at hv
  rw [hfb]
  have hfr : rb < fb := by have := hsz.out; omega
  clear hX
  have hX := Lib.hid hXn
  clear hXn
  replace hv := Lib.hid hv
  replace hfb := Lib.hid hfb
  replace hfr := Lib.hid hfr
  obtain ⟨m0, m1, m2, m3, m4, m5, m6, m7, m8, mll, rll⟩ := hX.out.wcells
  have z0 : W1.cell? ⟨fb, 0, none⟩ = some (.int .i64 0) := hv.out.cell 0
  have z1 : W1.cell? ⟨fb, 1, none⟩ = some (.int .i64 0) := hv.out.cell 1
  have y0 := hv.out.frozen 0
  have y1 := hv.out.frozen 1
  have vl := hv.out.lt
  go_upto_region 4 with fail
  have hXn := (hX.out.far (b := fb) (i := 0) hfr.out (.int .i64 x.field.wide)).far (b := fb) (i := 1) hfr.out (.int .i64 x.field.high)
  have hvn := (hv.out.set_ 0 (.int .i64 x.field.wide)).set_ 1 (.int .i64 x.field.high)
  simp only [List.setIfInBounds_toArray, List.set_cons_zero, List.set_cons_succ] at hvn
  generalize ((W1.setCell ⟨fb, 0, none⟩ (.int .i64 x.field.wide)).setCell ⟨fb, 1, none⟩ (.int .i64 x.field.high)) = W2 at *
  clear hX hv z0 z1 y0 y1 vl m0 m1 m2 m3 m4 m5 m6 m7 m8 mll rll
  have hX := Lib.hid hXn
  have hv := Lib.hid hvn
  clear hXn hvn
  obtain ⟨m0, m1, m2, m3, m4, m5, m6, m7, m8, mll, rll⟩ := hX.out.wcells
  have z0 : W2.cell? ⟨fb, 2, none⟩ = some (.slice none 0 0) := hv.out.cell 2
  have vl := hv.out.lt
  go_wp2_with (at_builtin; refine wpList_append_rd rfl (.tmp 14) (.tmp 17) 23 rfl W2.heap.size 3 i0 _ 1 8 Tryz.underlying23 hi0 hz0 hz1 hz2 rfl (by decide) _ (.slice none 0 0) 0 [] rfl (World.ownsRow_nil _ _ _ _) w.heap.size s.field.ground.A x.field.ground.length s.field.ground.c (x.field.ground.map (.int .i64)) rfl hX.out.wo.2.2.1.2.2.1.2.1 (hX.out.wo.2.2.1.2.2.1.1.below hX.out.b) (by simp [Value.oneCell']) ?_ ?_ (Nat.le_refl _) ?_)
  · unfold maxLen; omega
  · omega
  intro v' w0a hown hgrow
  clear m0 m1 m2 m3 m4 m5 m6 m7 m8 mll rll
  clear z0 vl
  have hbq := grown_none hgrow
  try rw [List.nil_append] at hown
  try rw [Nat.zero_add] at hown
  obtain ⟨U1, c1, rfl, _⟩ := own_slice hown
  have hXn := hX.out.below hbq
  have hvn := hv.out.below hbq hv.out.lt
  have hog : w0a.ownsRow (fb + 1) 3 1 (.slice U1 x.field.ground.length c1) x.field.ground.length (x.field.ground.map (.int .i64)) := own_base hown (by have := hv.out.lt; omega)
  clear hX hv hgrow hown hbq
  have hX := Lib.hid hXn
  have hv := Lib.hid hvn
  clear hXn hvn
  have z0 : w0a.cell? ⟨fb, 2, none⟩ = some (.slice none 0 0) := hv.out.cell 2
  have zf := hv.out.frozen 2
  have vl := hv.out.lt
  replace hog := Lib.hid hog
  go_upto_region 5 with fail
  have hXn := hX.out.far (b := fb) (i := 2) hfr.out (.slice U1 x.field.ground.length c1)
  have hvn := hv.out.set_ 2 (.slice U1 x.field.ground.length c1)
  simp only [List.setIfInBounds_toArray, List.set_cons_zero, List.set_cons_succ] at hvn
  replace hog := Lib.hid (own_farW (b := fb) (i := 2) (u := .slice U1 x.field.ground.length c1) hog.out (by omega))
  clear hX hv z0 zf vl
  have hX := Lib.hid hXn
  have hv := Lib.hid hvn
  clear hXn hvn
  generalize (w0a.setCell ⟨fb, 2, none⟩ (.slice U1 x.field.ground.length c1)) = W3 at *
  obtain ⟨m0, m1, m2, m3, m4, m5, m6, m7, m8, mll, rll⟩ := hX.out.wcells
  have z1 : W3.cell? ⟨fb, 3, none⟩ = some (.slice none 0 0) := hv.out.cell 3
  have vl := hv.out.lt
  go_wp2_with (at_builtin; refine wpList_append_rd rfl (.tmp 21) (.tmp 24) 23 rfl W3.heap.size 3 i0 _ 1 8 Tryz.underlying23 hi0 hz0 hz1 hz2 rfl (by decide) _ (.slice none 0 0) 0 [] rfl (World.ownsRow_nil _ _ _ _) w.heap.size s.field.ore.A x.field.ore.length s.field.ore.c (x.field.ore.map (.int .i64)) rfl hX.out.wo.2.2.1.2.2.2.2.1 (hX.out.wo.2.2.1.2.2.2.1.below hX.out.b) (by simp [Value.oneCell']) ?_ ?_ (Nat.le_refl _) ?_)
  · unfold maxLen; omega
  · omega
  intro v' w1a hown hgrow
  clear m0 m1 m2 m3 m4 m5 m6 m7 m8 mll rll
  clear z1 vl
  have hbq := grown_none hgrow
  try rw [List.nil_append] at hown
  try rw [Nat.zero_add] at hown
  obtain ⟨U2, c2, rfl, _⟩ := own_slice hown
  have hXn := hX.out.below hbq
  have hvn := hv.out.below hbq hv.out.lt
  have hoo : w1a.ownsRow (fb + 1) 3 1 (.slice U2 x.field.ore.length c2) x.field.ore.length (x.field.ore.map (.int .i64)) := own_base hown (by have := hv.out.lt; omega)
  replace hog := Lib.hid (own_below hog.out hbq)
  clear hX hv hgrow hown hbq
  have hX := Lib.hid hXn
  have hv := Lib.hid hvn
  clear hXn hvn
  have z1 : w1a.cell? ⟨fb, 3, none⟩ = some (.slice none 0 0) := hv.out.cell 3
  have zf := hv.out.frozen 3
  have vl := hv.out.lt
  replace hoo := Lib.hid hoo
  go_upto_region 6 with fail
  have hXn := hX.out.far (b := fb) (i := 3) hfr.out (.slice U2 x.field.ore.length c2)
  have hvn := hv.out.set_ 3 (.slice U2 x.field.ore.length c2)
  simp only [List.setIfInBounds_toArray, List.set_cons_zero, List.set_cons_succ] at hvn
  replace hog := Lib.hid (own_farW (b := fb) (i := 3) (u := .slice U2 x.field.ore.length c2) hog.out (by omega))
  replace hoo := Lib.hid (own_farW (b := fb) (i := 3) (u := .slice U2 x.field.ore.length c2) hoo.out (by omega))
  clear hX hv z1 zf vl
  have hX := Lib.hid hXn
  have hv := Lib.hid hvn
  clear hXn hvn
  generalize (w1a.setCell ⟨fb, 3, none⟩ (.slice U2 x.field.ore.length c2)) = W4 at *
  have hog := hog
  have hXn := hX.out.alloc (.cells #[.int .i64 0, .int .i64 0, .int .i64 0, .int .i64 0, .slice none 0 0, .slice none 0 0, .slice none 0 0, .slice none 0 0, .slice none 0 0] 29)
  have hvx := Blk.new W4 29 #[.int .i64 0, .int .i64 0, .int .i64 0, .int .i64 0, .slice none 0 0, .slice none 0 0, .slice none 0 0, .slice none 0 0, .slice none 0 0]
  have hng : (Value.slice U1 x.field.ground.length c1).ownBlock ≠ some W4.heap.size := fun e => by have := (hog.out.lt _ e).2; omega
  have hno : (Value.slice U2 x.field.ore.length c2).ownBlock ≠ some W4.heap.size := fun e => by have := (hoo.out.lt _ e).2; omega
  have hvf := hv.out.alloc (.cells #[.int .i64 0, .int .i64 0, .int .i64 0, .int .i64 0, .slice none 0 0, .slice none 0 0, .slice none 0 0, .slice none 0 0, .slice none 0 0] 29)
  have hxr0 : fb < W4.heap.size := hv.out.lt
  replace hog := Lib.hid (World.ownsRow.alloc (w := W4) hog.out (.cells #[.int .i64 0, .int .i64 0, .int .i64 0, .int .i64 0, .slice none 0 0, .slice none 0 0, .slice none 0 0, .slice none 0 0, .slice none 0 0] 29))
  replace hoo := Lib.hid (World.ownsRow.alloc (w := W4) hoo.out (.cells #[.int .i64 0, .int .i64 0, .int .i64 0, .int .i64 0, .slice none 0 0, .slice none 0 0, .slice none 0 0, .slice none 0 0, .slice none 0 0] 29))
  go_upto_region 7 with fail
  generalize (W4.alloc (.cells #[.int .i64 0, .int .i64 0, .int .i64 0, .int .i64 0, .slice none 0 0, .slice none 0 0, .slice none 0 0, .slice none 0 0, .slice none 0 0] 29)) = W5 at *
  obtain ⟨xb, hxb⟩ : ∃ xb, W4.heap.size = xb := ⟨_, rfl⟩
  rw [hxb] at hvx hng hno hxr0
  rw [hxb]
  clear hX hv
  have hX := Lib.hid hXn
  have hv := Lib.hid hvx
  replace hvf := Lib.hid hvf
  replace hng := Lib.hid hng
  replace hno := Lib.hid hno
  replace hxb := Lib.hid hxb
  have hxr : rb < xb := by have := hfr.out; omega
  have hxf : fb < xb := hxr0
  clear hXn hvx hxr0
  replace hxr := Lib.hid hxr
  replace hxf := Lib.hid hxf
  obtain ⟨m0, m1, m2, m3, m4, m5, m6, m7, m8, mll, rll⟩ := hX.out.wcells
  have z0 : W5.cell? ⟨xb, 0, none⟩ = some (.int .i64 0) := hv.out.cell 0
  have z1 : W5.cell? ⟨xb, 1, none⟩ = some (.int .i64 0) := hv.out.cell 1
  have z2 : W5.cell? ⟨xb, 2, none⟩ = some (.int .i64 0) := hv.out.cell 2
  have z3 : W5.cell? ⟨xb, 3, none⟩ = some (.int .i64 0) := hv.out.cell 3
  have z4 : W5.cell? ⟨xb, 4, none⟩ = some (.slice none 0 0) := hv.out.cell 4
  have z5 : W5.cell? ⟨xb, 5, none⟩ = some (.slice none 0 0) := hv.out.cell 5
  have y0 := hv.out.frozen 0
  have y1 := hv.out.frozen 1
  have y2 := hv.out.frozen 2
  have y3 := hv.out.frozen 3
  have y4 := hv.out.frozen 4
  have y5 := hv.out.frozen 5
  have f0 : W5.cell? ⟨fb, 0, none⟩ = some (.int .i64 x.field.wide) := hvf.out.cell 0
  have f1 : W5.cell? ⟨fb, 1, none⟩ = some (.int .i64 x.field.high) := hvf.out.cell 1
  have f2 : W5.cell? ⟨fb, 2, none⟩ = some (.slice U1 x.field.ground.length c1) := hvf.out.cell 2
  have f3 : W5.cell? ⟨fb, 3, none⟩ = some (.slice U2 x.field.ore.length c2) := hvf.out.cell 3
  have vl := hv.out.lt
  have fl := hvf.out.lt
  have nw : wb ≠ xb := by have := hxr.out; have := hX.out.p2; omega
  have nf : fb ≠ xb := by have := hxf.out; omega
  go_upto_region 10 with fail
  have hXn := ((((((hX.out.far (b := xb) (i := 0) hxr.out (.int .i64 x.turn)).far (b := xb) (i := 1) hxr.out (.int .i64 x.next)).far (b := xb) (i := 2) hxr.out (.int .i64 x.field.wide)).far (b := xb) (i := 3) hxr.out (.int .i64 x.field.high)).far (b := xb) (i := 4) hxr.out (.slice U1 x.field.ground.length c1)).far (b := xb) (i := 5) hxr.out (.slice U2 x.field.ore.length c2))
  have hvn := ((((((hv.out.set_ 0 (.int .i64 x.turn)).set_ 1 (.int .i64 x.next)).set_ 2 (.int .i64 x.field.wide)).set_ 3 (.int .i64 x.field.high)).set_ 4 (.slice U1 x.field.ground.length c1)).set_ 5 (.slice U2 x.field.ore.length c2))
  simp only [List.setIfInBounds_toArray, List.set_cons_zero, List.set_cons_succ] at hvn
  replace hog := Lib.hid ((own_farN (b := xb) (i := 5) (u := .slice U2 x.field.ore.length c2) (own_farN (b := xb) (i := 4) (u := .slice U1 x.field.ground.length c1) (own_farN (b := xb) (i := 3) (u := .int .i64 x.field.high) (own_farN (b := xb) (i := 2) (u := .int .i64 x.field.wide) (own_farN (b := xb) (i := 1) (u := .int .i64 x.next) (own_farN (b := xb) (i := 0) (u := .int .i64 x.turn) hog.out hng.out) hng.out) hng.out) hng.out) hng.out) hng.out))
  replace hoo := Lib.hid ((own_farN (b := xb) (i := 5) (u := .slice U2 x.field.ore.length c2) (own_farN (b := xb) (i := 4) (u := .slice U1 x.field.ground.length c1) (own_farN (b := xb) (i := 3) (u := .int .i64 x.field.high) (own_farN (b := xb) (i := 2) (u := .int .i64 x.field.wide) (own_farN (b := xb) (i := 1) (u := .int .i64 x.next) (own_farN (b := xb) (i := 0) (u := .int .i64 x.turn) hoo.out hno.out) hno.out) hno.out) hno.out) hno.out) hno.out))
  generalize ((((((W5.setCell ⟨xb, 0, none⟩ (.int .i64 x.turn)).setCell ⟨xb, 1, none⟩ (.int .i64 x.next)).setCell ⟨xb, 2, none⟩ (.int .i64 x.field.wide)).setCell ⟨xb, 3, none⟩ (.int .i64 x.field.high)).setCell ⟨xb, 4, none⟩ (.slice U1 x.field.ground.length c1)).setCell ⟨xb, 5, none⟩ (.slice U2 x.field.ore.length c2)) = W6 at *
  clear hX hv hvf z0 z1 z2 z3 z4 z5 y0 y1 y2 y3 y4 y5 f0 f1 f2 f3 vl fl nw nf m0 m1 m2 m3 m4 m5 m6 m7 m8 mll rll
  have hX := Lib.hid hXn
  have hv := Lib.hid hvn
  clear hXn hvn
  obtain ⟨m0, m1, m2, m3, m4, m5, m6, m7, m8, mll, rll⟩ := hX.out.wcells
  have z2 : W6.cell? ⟨xb, 6, none⟩ = some (.slice none 0 0) := hv.out.cell 6
  have vl := hv.out.lt
  go_wp2_with (at_builtin; refine wpList_append_rd rfl (.tmp 36) (.tmp 38) 23 rfl W6.heap.size 3 i0 _ 1 8 Tryz.underlying23 hi0 hz0 hz1 hz2 rfl (by decide) _ (.slice none 0 0) 0 [] rfl (World.ownsRow_nil _ _ _ _) w.heap.size s.gold.A x.gold.length s.gold.c (x.gold.map (.int .i64)) rfl hX.out.wo.2.2.2.1.2.1 (hX.out.wo.2.2.2.1.1.below hX.out.b) (by simp [Value.oneCell']) ?_ ?_ (Nat.le_refl _) ?_)
  · unfold maxLen; omega
  · omega
  intro v' w2a hown hgrow
  clear m0 m1 m2 m3 m4 m5 m6 m7 m8 mll rll
  clear z2 vl
  have hbq := grown_none hgrow
  try rw [List.nil_append] at hown
  try rw [Nat.zero_add] at hown
  obtain ⟨U3, c3, rfl, _⟩ := own_slice hown
  have hXn := hX.out.below hbq
  have hvn := hv.out.below hbq hv.out.lt
  have hod : w2a.ownsRow (xb + 1) 3 1 (.slice U3 x.gold.length c3) x.gold.length (x.gold.map (.int .i64)) := own_base hown (by have := hv.out.lt; omega)
  replace hog := Lib.hid (own_below hog.out hbq)
  replace hoo := Lib.hid (own_below hoo.out hbq)
  clear hX hv hgrow hown hbq
  have hX := Lib.hid hXn
  have hv := Lib.hid hvn
  clear hXn hvn
  have z2 : w2a.cell? ⟨xb, 6, none⟩ = some (.slice none 0 0) := hv.out.cell 6
  have zf := hv.out.frozen 6
  have vl := hv.out.lt
  replace hod := Lib.hid hod
  go_upto_region 11 with fail
  have hXn := hX.out.far (b := xb) (i := 6) hxr.out (.slice U3 x.gold.length c3)
  have hvn := hv.out.set_ 6 (.slice U3 x.gold.length c3)
  simp only [List.setIfInBounds_toArray, List.set_cons_zero, List.set_cons_succ] at hvn
  replace hog := Lib.hid (own_farN (b := xb) (i := 6) (u := .slice U3 x.gold.length c3) hog.out hng.out)
  replace hoo := Lib.hid (own_farN (b := xb) (i := 6) (u := .slice U3 x.gold.length c3) hoo.out hno.out)
  replace hod := Lib.hid (own_farW (b := xb) (i := 6) (u := .slice U3 x.gold.length c3) hod.out (by omega))
  clear hX hv z2 zf vl
  have hX := Lib.hid hXn
  have hv := Lib.hid hvn
  clear hXn hvn
  generalize (w2a.setCell ⟨xb, 6, none⟩ (.slice U3 x.gold.length c3)) = W7 at *
  obtain ⟨m0, m1, m2, m3, m4, m5, m6, m7, m8, mll, rll⟩ := hX.out.wcells
  have z3 : W7.cell? ⟨xb, 7, none⟩ = some (.slice none 0 0) := hv.out.cell 7
  have vl := hv.out.lt
  go_wp2_with (at_builtin; refine wpList_append_rd rfl (.tmp 42) (.tmp 44) 26 rfl W7.heap.size 45 i1 _ 8 64 Tryz.underlying26 hi1 hy0 hy1 hy2 rfl (by decide) _ (.slice none 0 0) 0 [] rfl (World.ownsRow_nil _ _ _ _) w.heap.size s.units.A x.units.length s.units.c (x.units.flatMap uC) rfl hX.out.wo.2.2.2.2.1.2.1 (hX.out.wo.2.2.2.2.1.1.below hX.out.b) (by simp only [List.all_flatMap]; rw [List.all_eq_true]; intro u hu; rw [List.all_eq_true]; exact uC_oneW u) ?_ ?_ (Nat.le_refl _) ?_)
  · unfold maxLen; omega
  · omega
  intro v' w3a hown hgrow
  clear m0 m1 m2 m3 m4 m5 m6 m7 m8 mll rll
  clear z3 vl
  have hbq := grown_none hgrow
  try rw [List.nil_append] at hown
  try rw [Nat.zero_add] at hown
  obtain ⟨U4, c4, rfl, _⟩ := own_slice hown
  have hXn := hX.out.below hbq
  have hvn := hv.out.below hbq hv.out.lt
  have hou : w3a.ownsRow (xb + 1) 45 8 (.slice U4 x.units.length c4) x.units.length (x.units.flatMap uC) := own_base hown (by have := hv.out.lt; omega)
  replace hog := Lib.hid (own_below hog.out hbq)
  replace hoo := Lib.hid (own_below hoo.out hbq)
  replace hod := Lib.hid (own_below hod.out hbq)
  clear hX hv hgrow hown hbq
  have hX := Lib.hid hXn
  have hv := Lib.hid hvn
  clear hXn hvn
  have z3 : w3a.cell? ⟨xb, 7, none⟩ = some (.slice none 0 0) := hv.out.cell 7
  have zf := hv.out.frozen 7
  have vl := hv.out.lt
  replace hou := Lib.hid hou
  go_upto_region 12 with fail
  have hXn := hX.out.far (b := xb) (i := 7) hxr.out (.slice U4 x.units.length c4)
  have hvn := hv.out.set_ 7 (.slice U4 x.units.length c4)
  simp only [List.setIfInBounds_toArray, List.set_cons_zero, List.set_cons_succ] at hvn
  replace hog := Lib.hid (own_farN (b := xb) (i := 7) (u := .slice U4 x.units.length c4) hog.out hng.out)
  replace hoo := Lib.hid (own_farN (b := xb) (i := 7) (u := .slice U4 x.units.length c4) hoo.out hno.out)
  replace hod := Lib.hid (own_farW (b := xb) (i := 7) (u := .slice U4 x.units.length c4) hod.out (by omega))
  replace hou := Lib.hid (own_farW (b := xb) (i := 7) (u := .slice U4 x.units.length c4) hou.out (by omega))
  clear hX hv z3 zf vl
  have hX := Lib.hid hXn
  have hv := Lib.hid hvn
  clear hXn hvn
  generalize (w3a.setCell ⟨xb, 7, none⟩ (.slice U4 x.units.length c4)) = W8 at *
  obtain ⟨m0, m1, m2, m3, m4, m5, m6, m7, m8, mll, rll⟩ := hX.out.wcells
  have z4 : W8.cell? ⟨xb, 8, none⟩ = some (.slice none 0 0) := hv.out.cell 8
  have vl := hv.out.lt
  go_wp2_with (at_builtin; refine wpList_append_rd rfl (.tmp 48) (.tmp 50) 27 rfl W8.heap.size 71 i2 _ 4 32 Tryz.underlying27 hi2 hx0 hx1 hx2 rfl (by decide) _ (.slice none 0 0) 0 [] rfl (World.ownsRow_nil _ _ _ _) w.heap.size s.queue.A x.queue.length s.queue.c (x.queue.flatMap jC) rfl hX.out.wo.2.2.2.2.2.2.1 (hX.out.wo.2.2.2.2.2.1.below hX.out.b) (by simp only [List.all_flatMap]; rw [List.all_eq_true]; intro u hu; rw [List.all_eq_true]; exact jC_oneW u) ?_ ?_ (Nat.le_refl _) ?_)
  · unfold maxLen; omega
  · omega
  intro v' w4a hown hgrow
  clear m0 m1 m2 m3 m4 m5 m6 m7 m8 mll rll
  clear z4 vl
  have hbq := grown_none hgrow
  try rw [List.nil_append] at hown
  try rw [Nat.zero_add] at hown
  obtain ⟨U5, c5, rfl, _⟩ := own_slice hown
  have hXn := hX.out.below hbq
  have hvn := hv.out.below hbq hv.out.lt
  have hoq : w4a.ownsRow (xb + 1) 71 4 (.slice U5 x.queue.length c5) x.queue.length (x.queue.flatMap jC) := own_base hown (by have := hv.out.lt; omega)
  replace hog := Lib.hid (own_below hog.out hbq)
  replace hoo := Lib.hid (own_below hoo.out hbq)
  replace hod := Lib.hid (own_below hod.out hbq)
  replace hou := Lib.hid (own_below hou.out hbq)
  clear hX hv hgrow hown hbq
  have hX := Lib.hid hXn
  have hv := Lib.hid hvn
  clear hXn hvn
  have z4 : w4a.cell? ⟨xb, 8, none⟩ = some (.slice none 0 0) := hv.out.cell 8
  have zf := hv.out.frozen 8
  have vl := hv.out.lt
  replace hoq := Lib.hid hoq
  go_upto_region 13 with fail
  have hXn := hX.out.far (b := xb) (i := 8) hxr.out (.slice U5 x.queue.length c5)
  have hvn := hv.out.set_ 8 (.slice U5 x.queue.length c5)
  simp only [List.setIfInBounds_toArray, List.set_cons_zero, List.set_cons_succ] at hvn
  replace hog := Lib.hid (own_farN (b := xb) (i := 8) (u := .slice U5 x.queue.length c5) hog.out hng.out)
  replace hoo := Lib.hid (own_farN (b := xb) (i := 8) (u := .slice U5 x.queue.length c5) hoo.out hno.out)
  replace hod := Lib.hid (own_farW (b := xb) (i := 8) (u := .slice U5 x.queue.length c5) hod.out (by omega))
  replace hou := Lib.hid (own_farW (b := xb) (i := 8) (u := .slice U5 x.queue.length c5) hou.out (by omega))
  replace hoq := Lib.hid (own_farW (b := xb) (i := 8) (u := .slice U5 x.queue.length c5) hoq.out (by omega))
  clear hX hv z4 zf vl
  have hX := Lib.hid hXn
  have hv := Lib.hid hvn
  clear hXn hvn
  generalize (w4a.setCell ⟨xb, 8, none⟩ (.slice U5 x.queue.length c5)) = W9 at *
  have k0 : W9.cell? ⟨xb, 0, none⟩ = some (.int .i64 x.turn) := hv.out.cell 0
  have r0 : W9.cell? ⟨rb, 0, none⟩ = some (.int .i64 0) := hX.out.kr.cell 0
  have y0 := hX.out.kr.frozen 0
  have k1 : W9.cell? ⟨xb, 1, none⟩ = some (.int .i64 x.next) := hv.out.cell 1
  have r1 : W9.cell? ⟨rb, 1, none⟩ = some (.int .i64 0) := hX.out.kr.cell 1
  have y1 := hX.out.kr.frozen 1
  have k2 : W9.cell? ⟨xb, 2, none⟩ = some (.int .i64 x.field.wide) := hv.out.cell 2
  have r2 : W9.cell? ⟨rb, 2, none⟩ = some (.int .i64 0) := hX.out.kr.cell 2
  have y2 := hX.out.kr.frozen 2
  have k3 : W9.cell? ⟨xb, 3, none⟩ = some (.int .i64 x.field.high) := hv.out.cell 3
  have r3 : W9.cell? ⟨rb, 3, none⟩ = some (.int .i64 0) := hX.out.kr.cell 3
  have y3 := hX.out.kr.frozen 3
  have k4 : W9.cell? ⟨xb, 4, none⟩ = some (.slice U1 x.field.ground.length c1) := hv.out.cell 4
  have r4 : W9.cell? ⟨rb, 4, none⟩ = some (.slice none 0 0) := hX.out.kr.cell 4
  have y4 := hX.out.kr.frozen 4
  have k5 : W9.cell? ⟨xb, 5, none⟩ = some (.slice U2 x.field.ore.length c2) := hv.out.cell 5
  have r5 : W9.cell? ⟨rb, 5, none⟩ = some (.slice none 0 0) := hX.out.kr.cell 5
  have y5 := hX.out.kr.frozen 5
  have k6 : W9.cell? ⟨xb, 6, none⟩ = some (.slice U3 x.gold.length c3) := hv.out.cell 6
  have r6 : W9.cell? ⟨rb, 6, none⟩ = some (.slice none 0 0) := hX.out.kr.cell 6
  have y6 := hX.out.kr.frozen 6
  have k7 : W9.cell? ⟨xb, 7, none⟩ = some (.slice U4 x.units.length c4) := hv.out.cell 7
  have r7 : W9.cell? ⟨rb, 7, none⟩ = some (.slice none 0 0) := hX.out.kr.cell 7
  have y7 := hX.out.kr.frozen 7
  have k8 : W9.cell? ⟨xb, 8, none⟩ = some (.slice U5 x.queue.length c5) := hv.out.cell 8
  have r8 : W9.cell? ⟨rb, 8, none⟩ = some (.slice none 0 0) := hX.out.kr.cell 8
  have y8 := hX.out.kr.frozen 8
  have vl := hv.out.lt
  have rl := hX.out.kr.lt
  have nx : xb ≠ rb := by have := hxr.out; omega
  have hrw : w.heap.size ≤ rb := by have := hX.out.p1; have := hX.out.p2; omega
  have hzB : Blk (((((((((W9.setCell ⟨rb, 0, none⟩ (.int .i64 x.turn)).setCell ⟨rb, 1, none⟩ (.int .i64 x.next)).setCell ⟨rb, 2, none⟩ (.int .i64 x.field.wide)).setCell ⟨rb, 3, none⟩ (.int .i64 x.field.high)).setCell ⟨rb, 4, none⟩ (.slice U1 x.field.ground.length c1)).setCell ⟨rb, 5, none⟩ (.slice U2 x.field.ore.length c2)).setCell ⟨rb, 6, none⟩ (.slice U3 x.gold.length c3)).setCell ⟨rb, 7, none⟩ (.slice U4 x.units.length c4)).setCell ⟨rb, 8, none⟩ (.slice U5 x.queue.length c5)) rb 29 #[.int .i64 x.turn, .int .i64 x.next, .int .i64 x.field.wide, .int .i64 x.field.high, .slice U1 x.field.ground.length c1, .slice U2 x.field.ore.length c2, .slice U3 x.gold.length c3, .slice U4 x.units.length c4, .slice U5 x.queue.length c5] := by
    have h := (((((((((hX.out.kr.set_ 0 (.int .i64 x.turn)).set_ 1 (.int .i64 x.next)).set_ 2 (.int .i64 x.field.wide)).set_ 3 (.int .i64 x.field.high)).set_ 4 (.slice U1 x.field.ground.length c1)).set_ 5 (.slice U2 x.field.ore.length c2)).set_ 6 (.slice U3 x.gold.length c3)).set_ 7 (.slice U4 x.units.length c4)).set_ 8 (.slice U5 x.queue.length c5))
    simp only [List.setIfInBounds_toArray, List.set_cons_zero, List.set_cons_succ] at h
    exact h
  have hbB : Below w.heap.size w (((((((((W9.setCell ⟨rb, 0, none⟩ (.int .i64 x.turn)).setCell ⟨rb, 1, none⟩ (.int .i64 x.next)).setCell ⟨rb, 2, none⟩ (.int .i64 x.field.wide)).setCell ⟨rb, 3, none⟩ (.int .i64 x.field.high)).setCell ⟨rb, 4, none⟩ (.slice U1 x.field.ground.length c1)).setCell ⟨rb, 5, none⟩ (.slice U2 x.field.ore.length c2)).setCell ⟨rb, 6, none⟩ (.slice U3 x.gold.length c3)).setCell ⟨rb, 7, none⟩ (.slice U4 x.units.length c4)).setCell ⟨rb, 8, none⟩ (.slice U5 x.queue.length c5)) := (((((((((hX.out.b.setCell (p := ⟨rb, 0, none⟩) hrw (.int .i64 x.turn)).setCell (p := ⟨rb, 1, none⟩) hrw (.int .i64 x.next)).setCell (p := ⟨rb, 2, none⟩) hrw (.int .i64 x.field.wide)).setCell (p := ⟨rb, 3, none⟩) hrw (.int .i64 x.field.high)).setCell (p := ⟨rb, 4, none⟩) hrw (.slice U1 x.field.ground.length c1)).setCell (p := ⟨rb, 5, none⟩) hrw (.slice U2 x.field.ore.length c2)).setCell (p := ⟨rb, 6, none⟩) hrw (.slice U3 x.gold.length c3)).setCell (p := ⟨rb, 7, none⟩) hrw (.slice U4 x.units.length c4)).setCell (p := ⟨rb, 8, none⟩) hrw (.slice U5 x.queue.length c5))
  have hpg := (own_farW (b := rb) (i := 8) (u := .slice U5 x.queue.length c5) (own_farW (b := rb) (i := 7) (u := .slice U4 x.units.length c4) (own_farW (b := rb) (i := 6) (u := .slice U3 x.gold.length c3) (own_farW (b := rb) (i := 5) (u := .slice U2 x.field.ore.length c2) (own_farW (b := rb) (i := 4) (u := .slice U1 x.field.ground.length c1) (own_farW (b := rb) (i := 3) (u := .int .i64 x.field.high) (own_farW (b := rb) (i := 2) (u := .int .i64 x.field.wide) (own_farW (b := rb) (i := 1) (u := .int .i64 x.next) (own_farW (b := rb) (i := 0) (u := .int .i64 x.turn) hog.out (by have := hfr.out; omega)) (by have := hfr.out; omega)) (by have := hfr.out; omega)) (by have := hfr.out; omega)) (by have := hfr.out; omega)) (by have := hfr.out; omega)) (by have := hfr.out; omega)) (by have := hfr.out; omega)) (by have := hfr.out; omega))
  have hpo := (own_farW (b := rb) (i := 8) (u := .slice U5 x.queue.length c5) (own_farW (b := rb) (i := 7) (u := .slice U4 x.units.length c4) (own_farW (b := rb) (i := 6) (u := .slice U3 x.gold.length c3) (own_farW (b := rb) (i := 5) (u := .slice U2 x.field.ore.length c2) (own_farW (b := rb) (i := 4) (u := .slice U1 x.field.ground.length c1) (own_farW (b := rb) (i := 3) (u := .int .i64 x.field.high) (own_farW (b := rb) (i := 2) (u := .int .i64 x.field.wide) (own_farW (b := rb) (i := 1) (u := .int .i64 x.next) (own_farW (b := rb) (i := 0) (u := .int .i64 x.turn) hoo.out (by have := hfr.out; omega)) (by have := hfr.out; omega)) (by have := hfr.out; omega)) (by have := hfr.out; omega)) (by have := hfr.out; omega)) (by have := hfr.out; omega)) (by have := hfr.out; omega)) (by have := hfr.out; omega)) (by have := hfr.out; omega))
  have hpd := (own_farW (b := rb) (i := 8) (u := .slice U5 x.queue.length c5) (own_farW (b := rb) (i := 7) (u := .slice U4 x.units.length c4) (own_farW (b := rb) (i := 6) (u := .slice U3 x.gold.length c3) (own_farW (b := rb) (i := 5) (u := .slice U2 x.field.ore.length c2) (own_farW (b := rb) (i := 4) (u := .slice U1 x.field.ground.length c1) (own_farW (b := rb) (i := 3) (u := .int .i64 x.field.high) (own_farW (b := rb) (i := 2) (u := .int .i64 x.field.wide) (own_farW (b := rb) (i := 1) (u := .int .i64 x.next) (own_farW (b := rb) (i := 0) (u := .int .i64 x.turn) hod.out (by have := hxr.out; omega)) (by have := hxr.out; omega)) (by have := hxr.out; omega)) (by have := hxr.out; omega)) (by have := hxr.out; omega)) (by have := hxr.out; omega)) (by have := hxr.out; omega)) (by have := hxr.out; omega)) (by have := hxr.out; omega))
  have hpu := (own_farW (b := rb) (i := 8) (u := .slice U5 x.queue.length c5) (own_farW (b := rb) (i := 7) (u := .slice U4 x.units.length c4) (own_farW (b := rb) (i := 6) (u := .slice U3 x.gold.length c3) (own_farW (b := rb) (i := 5) (u := .slice U2 x.field.ore.length c2) (own_farW (b := rb) (i := 4) (u := .slice U1 x.field.ground.length c1) (own_farW (b := rb) (i := 3) (u := .int .i64 x.field.high) (own_farW (b := rb) (i := 2) (u := .int .i64 x.field.wide) (own_farW (b := rb) (i := 1) (u := .int .i64 x.next) (own_farW (b := rb) (i := 0) (u := .int .i64 x.turn) hou.out (by have := hxr.out; omega)) (by have := hxr.out; omega)) (by have := hxr.out; omega)) (by have := hxr.out; omega)) (by have := hxr.out; omega)) (by have := hxr.out; omega)) (by have := hxr.out; omega)) (by have := hxr.out; omega)) (by have := hxr.out; omega))
  have hpq := (own_farW (b := rb) (i := 8) (u := .slice U5 x.queue.length c5) (own_farW (b := rb) (i := 7) (u := .slice U4 x.units.length c4) (own_farW (b := rb) (i := 6) (u := .slice U3 x.gold.length c3) (own_farW (b := rb) (i := 5) (u := .slice U2 x.field.ore.length c2) (own_farW (b := rb) (i := 4) (u := .slice U1 x.field.ground.length c1) (own_farW (b := rb) (i := 3) (u := .int .i64 x.field.high) (own_farW (b := rb) (i := 2) (u := .int .i64 x.field.wide) (own_farW (b := rb) (i := 1) (u := .int .i64 x.next) (own_farW (b := rb) (i := 0) (u := .int .i64 x.turn) hoq.out (by have := hxr.out; omega)) (by have := hxr.out; omega)) (by have := hxr.out; omega)) (by have := hxr.out; omega)) (by have := hxr.out; omega)) (by have := hxr.out; omega)) (by have := hxr.out; omega)) (by have := hxr.out; omega)) (by have := hxr.out; omega))
  replace hzB := Lib.hid hzB
  replace hbB := Lib.hid hbB
  replace hpg := Lib.hid hpg
  replace hpo := Lib.hid hpo
  replace hpd := Lib.hid hpd
  replace hpu := Lib.hid hpu
  replace hpq := Lib.hid hpq
  go_wp2_with fail
  refine bodyPost_ret (results_c rfl _ _ rb _ #[.int .i64 x.turn, .int .i64 x.next, .int .i64 x.field.wide, .int .i64 x.field.high, .slice U1 x.field.ground.length c1, .slice U2 x.field.ore.length c2, .slice U3 x.gold.length c3, .slice U4 x.units.length c4, .slice U5 x.queue.length c5] _ rfl hzB.out Tryz.underlying29 rfl (by kernel_rfl)) rfl ?_
  have e1 : w.heap.size + 3 ≤ fb + 1 := by have := hwb.out; have := hrb.out; have := hfr.out; omega
  have e2 : w.heap.size + 3 ≤ xb + 1 := by have := hxf.out; omega
  exact ⟨⟨⟨⟨U1, c1⟩, ⟨U2, c2⟩⟩, ⟨U3, c3⟩, ⟨U4, c4⟩, ⟨U5, c5⟩⟩, rfl, ⟨own_base hpg.out e1, own_base hpo.out e1, own_base hpd.out e2, own_base hpu.out e2, own_base hpq.out e2⟩, hbB.out⟩
end Go.Proofs.YtkgkpggfoieioaaGreatDoor
