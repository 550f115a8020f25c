import Derived.Test.YtkgkpggfoieioaaDoorSmallW
import Derived.Test.YtkgkpggfoieioaaDoorMove
import Derived.Test.YtkgkpggfoieioaaDoorPlainRest
import Derived.Test.YtkgkpggfoieioaaDoorPath
import Derived.Test.YtkgkpggfoieioaaDoorSameW
namespace Go.Proofs.YtkgkpggfoieioaaDoor
set_option linter.unusedVariables false
open Go.RowKit
/-! MoveWishes. -/
theorem unitM_info : (Tryd.prog.info? 33).map (fun i => (i.zero, i.size, i.bytes)) = some (some (.agg #[.int .i64 0, .int .i64 0, .int .i64 0, .int .i64 0, .int .i64 0, .int .i64 0, .int .i64 0, .int .i64 0]), 8, 64) := by kernel_rfl
theorem uC_oneM (u : GU) : ∀ v ∈ uC u, v.oneCell' = true := by
  intro v hv
  simp only [uC, List.mem_cons, List.not_mem_nil, or_false] at hv
  rcases hv with rfl | rfl | rfl | rfl | rfl | rfl | rfl | rfl <;> rfl
theorem rest_all (x : GW) : AllRest (restX x) := fun i hi => by
  rw [restX_len] at hi
  have e1 : gu (restX x).units i = rsU (gu x.units i) := gu_map hi
  rw [e1]; rfl
theorem wish_S : wishU sortsL xS4 (gu xS4.units 2) = 3 := by
  unfold wishU
  rw [if_neg (by decide), if_neg (by decide)]
  decide
theorem small_wish : ∃ z : GW, (∀ w : World, Calls Tryd.prog 25 #[] w fun e w' => ∃ s, e = .returned (.tuple #[.agg #[.int .i64 z.turn, .int .i64 z.next, .int .i64 z.field.wide, .int .i64 z.field.high, .slice s.field.ground.A z.field.ground.length s.field.ground.c, .slice s.field.ore.A z.field.ore.length s.field.ore.c, .slice s.gold.A z.gold.length s.gold.c, .slice s.units.A z.units.length s.units.c, .slice s.queue.A z.queue.length s.queue.c], .bool true]) ∧ WOk w' s z ∧ Below w.heap.size w w') ∧ ∀ (A : Option Addr) (c : Nat) (s : SW) (w : World), KS w w.heap.size ⟨A, c⟩ sortsL → WOk w s z → Calls Tryd.prog 52 #[.slice A 3 c, .agg #[.int .i64 z.turn, .int .i64 z.next, .int .i64 z.field.wide, .int .i64 z.field.high, .slice s.field.ground.A z.field.ground.length s.field.ground.c, .slice s.field.ore.A z.field.ore.length s.field.ore.c, .slice s.gold.A z.gold.length s.gold.c, .slice s.units.A z.units.length s.units.c, .slice s.queue.A z.queue.length s.queue.c], .int .i64 2] w fun e w' => e = .returned (.tuple #[.int .i64 3, .nilIface]) ∧ Below w.heap.size w w' := by
  refine ⟨xS4, fun w => (small_any w).mono fun _ _ ⟨s, h1, h2, h3⟩ => ⟨s, h1, h2.wok wintS4, h3⟩, fun A c s w hK hW => ?_⟩
  refine (wwish_ok ⟨A, c⟩ sortsL s xS4 2 w hK hW okS4 (by decide)).mono ?_
  rintro e w' ⟨he, hb⟩
  rw [wish_S] at he
  exact ⟨he, hb⟩
theorem sorts3m (w : World) : Calls Tryd.prog 13 #[] w fun e w' => ∃ A c, e = .returned (.slice A 3 c) ∧ KS w' w'.heap.size ⟨A, c⟩ sortsL ∧ Below w.heap.size w w' :=
  (sorts_any w).mono fun _ _ ⟨h1, h2, h3, h4⟩ => ⟨_, _, h1, h2.more h4, h3⟩
/-- Who marches gets no further away. -/
theorem march_law {f : GF} {fl : Bool} {a b : Nat} {far : List Int} (hg : Good f) (hd : DTo f fl b far) (ha : a < f.ground.length) (h0 : 0 < at0 far a) : nextL f fl far a < f.ground.length ∧ at0 far (nextL f fl far a) < at0 far a := by
  have hne : a ≠ b := fun e => by subst e; rw [hd.hsrc.2] at h0; omega
  have hs := next_spec f hg fl far b a hd ha (by omega) hne
  obtain ⟨h1, _, h2, _, h3⟩ := hs
  exact ⟨h1, by omega⟩
theorem SBx.far {w0 w : World} {sK : SL} {L : List GK} {s : SW} {x : GW} {wb b i : Nat} {v : Value} (h : SBx w0 w sK L s x wb) (hp : w0.heap.size ≤ b) (hne : wb ≠ b) : SBx w0 (w.setCell ⟨b, i, none⟩ v) sK L s x wb :=
  ⟨h.b.setCell (p := ⟨b, i, none⟩) hp v, h.kw.far (p := ⟨b, i, none⟩) hne v, h.ks, h.wo⟩
/-- While all are told to rest. -/
structure MwR (w0 w : World) (sK : SL) (L : List GK) (s : SW) (x : GW) (wb pr g cap k : Nat) : Prop where
  sb : SBx w0 w sK L s x wb
  kp : Blk w pr 55 #[.int .i64 x.turn, .int .i64 x.next, .int .i64 x.field.wide, .int .i64 x.field.high, .slice s.field.ground.A x.field.ground.length s.field.ground.c, .slice s.field.ore.A x.field.ore.length s.field.ore.c, .slice s.gold.A x.gold.length s.gold.c, .slice (some ⟨g, 0, none⟩) x.units.length cap, .slice s.queue.A x.queue.length s.queue.c]
  kg : ∃ cur, Blk w g 33 cur ∧ cur.size = cap * 8 ∧ RowR cur x.units k
  p1 : wb < pr
  p2 : pr < g
  p3 : w0.heap.size ≤ pr
  c1 : x.units.length ≤ cap
  c2 : cap ≤ maxLen
section
variable {w0 w w' : World} {sK : SL} {L : List GK} {s : SW} {x : GW} {wb pr g cap k : Nat}
theorem MwR.below (h : MwR w0 w sK L s x wb pr g cap k) (hb : Below w.heap.size w w') : MwR w0 w' sK L s x wb pr g cap k := by
  obtain ⟨cur, h1, h2⟩ := h.kg
  exact ⟨h.sb.below hb, h.kp.below hb h.kp.lt, ⟨cur, h1.below hb h1.lt, h2⟩, h.p1, h.p2, h.p3, h.c1, h.c2⟩
theorem MwR.alloc (h : MwR w0 w sK L s x wb pr g cap k) (o : Obj) : MwR w0 (w.alloc o) sK L s x wb pr g cap k := h.below ((Below.refl _ _).alloc (Nat.le_refl _) o)
theorem MwR.pcells (h : MwR w0 w sK L s x wb pr g cap k) : w.cell? ⟨pr, 0, none⟩ = some (.int .i64 x.turn) ∧ w.cell? ⟨pr, 1, none⟩ = some (.int .i64 x.next) ∧ w.cell? ⟨pr, 2, none⟩ = some (.int .i64 x.field.wide) ∧ w.cell? ⟨pr, 3, none⟩ = some (.int .i64 x.field.high) ∧ w.cell? ⟨pr, 4, none⟩ = some (.slice s.field.ground.A x.field.ground.length s.field.ground.c) ∧ w.cell? ⟨pr, 5, none⟩ = some (.slice s.field.ore.A x.field.ore.length s.field.ore.c) ∧ w.cell? ⟨pr, 6, none⟩ = some (.slice s.gold.A x.gold.length s.gold.c) ∧ w.cell? ⟨pr, 7, none⟩ = some (.slice (some ⟨g, 0, none⟩) x.units.length cap) ∧ w.cell? ⟨pr, 8, none⟩ = some (.slice s.queue.A x.queue.length s.queue.c) ∧ pr < w.heap.size := ⟨h.kp.cell 0, h.kp.cell 1, h.kp.cell 2, h.kp.cell 3, h.kp.cell 4, h.kp.cell 5, h.kp.cell 6, h.kp.cell 7, h.kp.cell 8, h.kp.lt⟩
theorem MwR.gcells (h : MwR w0 w sK L s x wb pr g cap k) (hk : k < x.units.length) : (∃ u, w.cell? ⟨g, k * 8 + 6, none⟩ = some u) ∧ (∃ u, w.cell? ⟨g, k * 8 + 7, none⟩ = some u) ∧ w.frozen? ⟨g, k * 8 + 6, none⟩ = false ∧ w.frozen? ⟨g, k * 8 + 7, none⟩ = false ∧ g < w.heap.size := by
  obtain ⟨cur, h1, h2, h3⟩ := h.kg
  refine ⟨⟨.int .i64 (gu x.units k).task, ?_⟩, ⟨.int .i64 (gu x.units k).goal, ?_⟩, h1.frozen _, h1.frozen _, h1.lt⟩
  · have := h3.2 k 6 hk (by omega)
    rw [if_neg (Nat.lt_irrefl k)] at this
    exact (h1.cell (k * 8 + 6)).trans this
  · have := h3.2 k 7 hk (by omega)
    rw [if_neg (Nat.lt_irrefl k)] at this
    exact (h1.cell (k * 8 + 7)).trans this
theorem MwR.step (h : MwR w0 w sK L s x wb pr g cap k) (hk : k < x.units.length) : MwR w0 ((w.setCell ⟨g, k * 8 + 6, none⟩ (.int .i64 0)).setCell ⟨g, k * 8 + 7, none⟩ (.int .i64 0)) sK L s x wb pr g cap (k + 1) := by
  obtain ⟨cur, h1, h2, h3⟩ := h.kg
  have e1 := h.p1; have e2 := h.p2; have e3 := h.p3
  refine ⟨(h.sb.far (by omega) (by omega)).far (by omega) (by omega), (h.kp.far (p := ⟨g, k * 8 + 6, none⟩) (by show pr ≠ g; omega) _).far (p := ⟨g, k * 8 + 7, none⟩) (by show pr ≠ g; omega) _, ⟨_, (h1.set_ (k * 8 + 6) _).set_ (k * 8 + 7) _, by rw [Array.size_setIfInBounds, Array.size_setIfInBounds]; exact h2, h3.step hk⟩, e1, e2, e3, h.c1, h.c2⟩
theorem MwR.wok (h : MwR w0 w sK L s x wb pr g cap x.units.length) (hi : WInt x) : WOk w ⟨s.field, s.gold, ⟨some ⟨g, 0, none⟩, cap⟩, s.queue⟩ (restX x) := by
  obtain ⟨cur, h1, h2, h3⟩ := h.kg
  obtain ⟨a1, a2, a3, a4, _, a6⟩ := h.sb.wo_
  have hc := h.c1
  refine ⟨a1, a2, a3, a4, slu_own (base := 0) ?_ ?_, a6⟩
  · have hl : ((x.units.map rsU).flatMap uC).length = x.units.length * 8 := by rw [flat_len uC 8 uC_len, List.length_map]
    show w.ownsRow 0 33 8 (.slice (some ⟨g, 0, none⟩) (restX x).units.length cap) (restX x).units.length ((x.units.map rsU).flatMap uC)
    rw [restX_len]
    exact ⟨hl, .inr ⟨g, cap, cur, rfl, Nat.zero_le _, h1, h.c1, h.c2, h2, h3.done⟩⟩
  · intro u hu
    have hu2 : u ∈ x.units.map rsU := hu
    rw [List.mem_map] at hu2
    obtain ⟨v, hv, rfl⟩ := hu2
    obtain ⟨b1, b2, b3, b4, b5, b6, _, _⟩ := hi.u v hv
    exact ⟨b1, b2, b3, b4, b5, b6, by show I64 0; unfold I64; omega, by show I64 0; unfold I64; omega⟩
end
set_option maxHeartbeats 12800000 in
set_option maxRecDepth 100000 in
theorem moveWishes_in (sK : SL) (L : List GK) (s : SW) (x : GW) (k : Int) (w : World) (hK : KS w w.heap.size sK L) (hW : WOk w s x) :
    Calls Tryd.prog 11 #[.slice sK.A L.length sK.c, .agg #[.int .i64 x.turn, .int .i64 x.next, .int .i64 x.field.wide, .int .i64 x.field.high, .slice s.field.ground.A x.field.ground.length s.field.ground.c, .slice s.field.ore.A x.field.ore.length s.field.ore.c, .slice s.gold.A x.gold.length s.gold.c, .slice s.units.A x.units.length s.units.c, .slice s.queue.A x.queue.length s.queue.c], .int .i64 k] w fun e w' => e = .returned (.bool true) ∧ Below w.heap.size w w' := by
  obtain ⟨z, hsm, hsp⟩ := small_wish
  replace hsm := Lib.hid hsm
  replace hsp := Lib.hid hsp
  have hB : SBx w (w.alloc (.cells #[.int .i64 x.turn, .int .i64 x.next, .int .i64 x.field.wide, .int .i64 x.field.high, .slice s.field.ground.A x.field.ground.length s.field.ground.c, .slice s.field.ore.A x.field.ore.length s.field.ore.c, .slice s.gold.A x.gold.length s.gold.c, .slice s.units.A x.units.length s.units.c, .slice s.queue.A x.queue.length s.queue.c] 55)) sK L s x w.heap.size := sbx_start w sK L s x hK hW
  obtain ⟨sA, sc⟩ := sK
  dsimp only
  have hcap := hK.cap
  have hmx := hK.max
  have hul := hW.ulen
  have hin := hW.int
  dsimp only at hcap hmx
  replace hB := Lib.hid hB
  replace hin := Lib.hid hin
  clear hK hW
  go_enter Tryd.func11, Tryd.ntmps11
  go_upto_region 1 with fail
  generalize (w.alloc (.cells #[.int .i64 x.turn, .int .i64 x.next, .int .i64 x.field.wide, .int .i64 x.field.high, .slice s.field.ground.A x.field.ground.length s.field.ground.c, .slice s.field.ore.A x.field.ore.length s.field.ore.c, .slice s.gold.A x.gold.length s.gold.c, .slice s.units.A x.units.length s.units.c, .slice s.queue.A x.queue.length s.queue.c] 55)) = W at *
  obtain ⟨wb, hwb⟩ : ∃ wb, w.heap.size = wb := ⟨_, rfl⟩
  rw [hwb] at hB
  rw [hwb]
  replace hB : SBx w W ⟨sA, sc⟩ L s x wb := hB.out
  replace hB := Lib.hid hB
  replace hwb := Lib.hid hwb
  go_upto_region 2 with (go_at_call 25; refine (hsm.out _).mono ?_; rintro e W1 ⟨sm, rfl, hzo, hb⟩)
  clear hsm
  replace hB := Lib.hid ((hB.out.below hb).alloc (.cells #[.int .i64 z.turn, .int .i64 z.next, .int .i64 z.field.wide, .int .i64 z.field.high, .slice sm.field.ground.A z.field.ground.length sm.field.ground.c, .slice sm.field.ore.A z.field.ore.length sm.field.ore.c, .slice sm.gold.A z.gold.length sm.gold.c, .slice sm.units.A z.units.length sm.units.c, .slice sm.queue.A z.queue.length sm.queue.c] 55))
  clear hb
  have hzk : Blk (W1.alloc (.cells #[.int .i64 z.turn, .int .i64 z.next, .int .i64 z.field.wide, .int .i64 z.field.high, .slice sm.field.ground.A z.field.ground.length sm.field.ground.c, .slice sm.field.ore.A z.field.ore.length sm.field.ore.c, .slice sm.gold.A z.gold.length sm.gold.c, .slice sm.units.A z.units.length sm.units.c, .slice sm.queue.A z.queue.length sm.queue.c] 55)) W1.heap.size 55 #[.int .i64 z.turn, .int .i64 z.next, .int .i64 z.field.wide, .int .i64 z.field.high, .slice sm.field.ground.A z.field.ground.length sm.field.ground.c, .slice sm.field.ore.A z.field.ore.length sm.field.ore.c, .slice sm.gold.A z.gold.length sm.gold.c, .slice sm.units.A z.units.length sm.units.c, .slice sm.queue.A z.queue.length sm.queue.c] := Blk.new _ _ _
  have hzw : WOk (W1.alloc (.cells #[.int .i64 z.turn, .int .i64 z.next, .int .i64 z.field.wide, .int .i64 z.field.high, .slice sm.field.ground.A z.field.ground.length sm.field.ground.c, .slice sm.field.ore.A z.field.ore.length sm.field.ore.c, .slice sm.gold.A z.gold.length sm.gold.c, .slice sm.units.A z.units.length sm.units.c, .slice sm.queue.A z.queue.length sm.queue.c] 55)) sm z := hzo.below ((Below.refl _ _).alloc (Nat.le_refl _) _)
  clear hzo
  generalize (W1.alloc (.cells #[.int .i64 z.turn, .int .i64 z.next, .int .i64 z.field.wide, .int .i64 z.field.high, .slice sm.field.ground.A z.field.ground.length sm.field.ground.c, .slice sm.field.ore.A z.field.ore.length sm.field.ore.c, .slice sm.gold.A z.gold.length sm.gold.c, .slice sm.units.A z.units.length sm.units.c, .slice sm.queue.A z.queue.length sm.queue.c] 55)) = W2 at *
  obtain ⟨pf, hpf⟩ : ∃ pf, W1.heap.size = pf := ⟨_, rfl⟩
  rw [hpf] at hzk ⊢
  clear hpf
  replace hzk := Lib.hid hzk
  replace hzw := Lib.hid hzw
  go_upto_region 4 with fail
  have hXn : SBx w W2.drew ⟨sA, sc⟩ L s x wb := hB.out.drewN 1
  have hzk2 : Blk W2.drew pf 55 #[.int .i64 z.turn, .int .i64 z.next, .int .i64 z.field.wide, .int .i64 z.field.high, .slice sm.field.ground.A z.field.ground.length sm.field.ground.c, .slice sm.field.ore.A z.field.ore.length sm.field.ore.c, .slice sm.gold.A z.gold.length sm.gold.c, .slice sm.units.A z.units.length sm.units.c, .slice sm.queue.A z.queue.length sm.queue.c] := hzk.out.drewN 1
  have hzw2 : WOk W2.drew sm z := hzw.out.below ⟨rfl, rfl, rfl, Nat.le_refl _, fun _ _ => rfl⟩
  clear hB hzk hzw
  have hB := Lib.hid hXn
  have hzk := Lib.hid hzk2
  have hzw := Lib.hid hzw2
  clear hXn hzk2 hzw2
  have hz9 : ∀ wz, Blk wz pf 55 #[.int .i64 z.turn, .int .i64 z.next, .int .i64 z.field.wide, .int .i64 z.field.high, .slice sm.field.ground.A z.field.ground.length sm.field.ground.c, .slice sm.field.ore.A z.field.ore.length sm.field.ore.c, .slice sm.gold.A z.gold.length sm.gold.c, .slice sm.units.A z.units.length sm.units.c, .slice sm.queue.A z.queue.length sm.queue.c] → (fun wz => wz.cell? ⟨pf, 0, none⟩ = some (.int .i64 z.turn) ∧ wz.cell? ⟨pf, 1, none⟩ = some (.int .i64 z.next) ∧ wz.cell? ⟨pf, 2, none⟩ = some (.int .i64 z.field.wide) ∧ wz.cell? ⟨pf, 3, none⟩ = some (.int .i64 z.field.high) ∧ wz.cell? ⟨pf, 4, none⟩ = some (.slice sm.field.ground.A z.field.ground.length sm.field.ground.c) ∧ wz.cell? ⟨pf, 5, none⟩ = some (.slice sm.field.ore.A z.field.ore.length sm.field.ore.c) ∧ wz.cell? ⟨pf, 6, none⟩ = some (.slice sm.gold.A z.gold.length sm.gold.c) ∧ wz.cell? ⟨pf, 7, none⟩ = some (.slice sm.units.A z.units.length sm.units.c) ∧ wz.cell? ⟨pf, 8, none⟩ = some (.slice sm.queue.A z.queue.length sm.queue.c)) wz := fun wz h => ⟨h.cell 0, h.cell 1, h.cell 2, h.cell 3, h.cell 4, h.cell 5, h.cell 6, h.cell 7, h.cell 8⟩
  replace hz9 := Lib.hid hz9
  refine wp_region_noPanic ?_
  refine wp_region_held_drew (S := (fun wz => wz.cell? ⟨pf, 0, none⟩ = some (.int .i64 z.turn) ∧ wz.cell? ⟨pf, 1, none⟩ = some (.int .i64 z.next) ∧ wz.cell? ⟨pf, 2, none⟩ = some (.int .i64 z.field.wide) ∧ wz.cell? ⟨pf, 3, none⟩ = some (.int .i64 z.field.high) ∧ wz.cell? ⟨pf, 4, none⟩ = some (.slice sm.field.ground.A z.field.ground.length sm.field.ground.c) ∧ wz.cell? ⟨pf, 5, none⟩ = some (.slice sm.field.ore.A z.field.ore.length sm.field.ore.c) ∧ wz.cell? ⟨pf, 6, none⟩ = some (.slice sm.gold.A z.gold.length sm.gold.c) ∧ wz.cell? ⟨pf, 7, none⟩ = some (.slice sm.units.A z.units.length sm.units.c) ∧ wz.cell? ⟨pf, 8, none⟩ = some (.slice sm.queue.A z.queue.length sm.queue.c))) (by kernel_rfl) (hz9.out _ hzk.out) (fun hHeld => ?_)
  generalize W2.drew = Wd at *
  refine wpAnyH_take (i := 1) (oi := _) (v := ?_) rfl (by kernel_rfl) (by kernel_rfl) (by kernel_rfl) (fun _ _ _ h => h) (Or.inl ⟨by rfl, ?_⟩) (by assumption) ?_
  rotate_left
  · intro w' hSw
    try dsimp only at hSw
    first | (go_simp; done) | (go_simp; with_reducible rfl)
  try simp only [Act.put]
  try simp only [List.setIfInBounds_toArray]
  try simp only [List.set_cons_succ, List.set_cons_zero]
  try simp only [List.getElem_toArray]
  try simp only [List.getElem_cons_succ]
  try simp only [List.getElem_cons_zero]
  refine wpAnyH_ready (rs := [0]) (by kernel_rfl) (by simp) ?_
  refine AllReadyH.cons (o := { dst := some 29, op := .call { callee := .value (.func 13), args := #[], argTypes := #[] }, type := _, pos := _, after := _, guard := none }) rfl (fun K hK => ?_) AllReadyH.nil
  go_simp
  refine (sorts3m _).mono ?_
  rintro e W3 ⟨A, c, rfl, hKs, hb⟩
  replace hKs := Lib.hid hKs
  have hBn := hB.out.below hb
  have hzkn := hzk.out.below hb hzk.out.lt
  have hzwn := hzw.out.below hb
  clear hB hzk hzw hHeld hb
  have hB := Lib.hid hBn
  have hzk := Lib.hid hzkn
  have hzw := Lib.hid hzwn
  clear hBn hzkn hzwn
  refine hK.out _ _ (hz9.out _ hzk.out) (fun hHeld => ?_)
  clear hK K
  try simp only [Act.put]
  try simp only [List.setIfInBounds_toArray]
  try simp only [List.set_cons_succ, List.set_cons_zero]
  try simp only [List.getElem_toArray]
  try simp only [List.getElem_cons_succ]
  try simp only [List.getElem_cons_zero]
  refine wpAnyH_ready (rs := [2]) (by kernel_rfl) (by simp) ?_
  refine AllReadyH.cons (o := { dst := some 31, op := .call { callee := .value (.func 52), args := #[.tmp 29, .tmp 30, .const (.int .i64 2)], argTypes := #[22, 55, 3] }, type := _, pos := _, after := _, guard := none }) rfl (fun K hK => ?_) AllReadyH.nil
  go_simp
  refine (hsp.out A c sm _ hKs.out hzw.out).mono ?_
  rintro e W4 ⟨rfl, hb⟩
  clear hKs
  have hBn := hB.out.below hb
  have hzkn := hzk.out.below hb hzk.out.lt
  have hzwn := hzw.out.below hb
  clear hB hzk hzw hHeld hb
  have hB := Lib.hid hBn
  have hzk := Lib.hid hzkn
  have hzw := Lib.hid hzwn
  clear hBn hzkn hzwn
  refine hK.out _ _ (hz9.out _ hzk.out) (fun hHeld => ?_)
  clear hK K
  try simp only [Act.put]
  try simp only [List.setIfInBounds_toArray]
  try simp only [List.set_cons_succ, List.set_cons_zero]
  try simp only [List.getElem_toArray]
  try simp only [List.getElem_cons_succ]
  try simp only [List.getElem_cons_zero]
  refine wpAnyH_take (i := 3) (oi := _) (v := ?_) rfl (by kernel_rfl) (by kernel_rfl) (by kernel_rfl) (fun _ _ _ h => h) (Or.inl ⟨by rfl, ?_⟩) (by assumption) ?_
  rotate_left
  · intro w' hSw
    try dsimp only at hSw
    first | (go_simp; done) | (go_simp; with_reducible rfl)
  try simp only [Act.put]
  try simp only [List.setIfInBounds_toArray]
  try simp only [List.set_cons_succ, List.set_cons_zero]
  try simp only [List.getElem_toArray]
  try simp only [List.getElem_cons_succ]
  try simp only [List.getElem_cons_zero]
  refine wpAnyH_take (i := 4) (oi := _) (v := ?_) rfl (by kernel_rfl) (by kernel_rfl) (by kernel_rfl) (fun _ _ _ h => h) (Or.inl ⟨by rfl, ?_⟩) (by assumption) ?_
  rotate_left
  · intro w' hSw
    try dsimp only at hSw
    first | (go_simp; done) | (go_simp; with_reducible rfl)
  try simp only [Act.put]
  try simp only [List.setIfInBounds_toArray]
  try simp only [List.set_cons_succ, List.set_cons_zero]
  try simp only [List.getElem_toArray]
  try simp only [List.getElem_cons_succ]
  try simp only [List.getElem_cons_zero]
  refine wpAnyH_take (i := 5) (oi := _) (v := ?_) rfl (by kernel_rfl) (by kernel_rfl) (by kernel_rfl) (fun _ _ _ h => h) (Or.inl ⟨by rfl, ?_⟩) (by assumption) ?_
  rotate_left
  · intro w' hSw
    try dsimp only at hSw
    first | (go_simp; done) | (go_simp; with_reducible rfl)
  try simp only [Act.put]
  try simp only [List.setIfInBounds_toArray]
  try simp only [List.set_cons_succ, List.set_cons_zero]
  try simp only [List.getElem_toArray]
  try simp only [List.getElem_cons_succ]
  try simp only [List.getElem_cons_zero]
  refine wpAnyH_take (i := 6) (oi := _) (v := ?_) rfl (by kernel_rfl) (by kernel_rfl) (by kernel_rfl) (fun _ _ _ h => h) (Or.inl ⟨by rfl, ?_⟩) (by assumption) ?_
  rotate_left
  · intro w' hSw
    try dsimp only at hSw
    first | (go_simp; done) | (go_simp; with_reducible rfl)
  try simp only [Act.put]
  try simp only [List.setIfInBounds_toArray]
  try simp only [List.set_cons_succ, List.set_cons_zero]
  try simp only [List.getElem_toArray]
  try simp only [List.getElem_cons_succ]
  try simp only [List.getElem_cons_zero]
  refine wpAnyH_take (i := 7) (oi := _) (v := ?_) rfl (by kernel_rfl) (by kernel_rfl) (by kernel_rfl) (fun _ _ _ h => h) (Or.inl ⟨by rfl, ?_⟩) (by assumption) ?_
  rotate_left
  · intro w' hSw
    try dsimp only at hSw
    first | (go_simp; done) | (go_simp; with_reducible rfl)
  try simp only [Act.put]
  try simp only [List.setIfInBounds_toArray]
  try simp only [List.set_cons_succ, List.set_cons_zero]
  try simp only [List.getElem_toArray]
  try simp only [List.getElem_cons_succ]
  try simp only [List.getElem_cons_zero]
  refine wpAnyH_done (by kernel_rfl) ?_ _
  refine NoPanic.normal ?_
  clear hHeld hz9 hzk hzw hsp
  go_upto_region 7 with fail
  by_cases h : worldE L x ≠ 0 ∨ k < 0 ∨ (x.units.length : Int) ≤ k
  case pos =>
    as_aux_lemma =>
    have hc : Calls Tryd.prog 52 #[.slice sA L.length sc, .agg #[.int .i64 x.turn, .int .i64 x.next, .int .i64 x.field.wide, .int .i64 x.field.high, .slice s.field.ground.A x.field.ground.length s.field.ground.c, .slice s.field.ore.A x.field.ore.length s.field.ore.c, .slice s.gold.A x.gold.length s.gold.c, .slice s.units.A x.units.length s.units.c, .slice s.queue.A x.queue.length s.queue.c], .int .i64 k] W4 fun e w' => (∃ E, e = .returned (.tuple #[.int .i64 0, .iface 93 (.int .i64 E)])) ∧ Below W4.heap.size W4 w' := wwish_no ⟨sA, sc⟩ L s x k W4 hB.out.ks_ hB.out.wo_ h
    replace hc := Lib.hid hc
    clear h
    obtain ⟨m0, m1, m2, m3, m4, m5, m6, m7, m8, mll⟩ := hB.out.cells
    go_wp2_with fail
    refine hc.out.mono ?_
    clear m0 m1 m2 m3 m4 m5 m6 m7 m8 mll
    rintro e W5 ⟨⟨E, rfl⟩, hb⟩
    have hB5 := hB.out.below hb
    go_wp2_with fail
    go_ret
    exact ⟨rfl, hB5.b⟩
  have hwe : worldE L x = 0 := by
    by_cases c : worldE L x = 0
    · exact c
    · exact absurd (.inl c) h
  have hok : WorldOk L x := worldE_0 hwe
  have hk0 : ¬ k < 0 := fun c => h (.inr (.inl c))
  have hk1 : ¬ (x.units.length : Int) ≤ k := fun c => h (.inr (.inr c))
  obtain ⟨i, rfl⟩ : ∃ i : Nat, k = (i : Int) := ⟨k.toNat, by omega⟩
  have hi : i < x.units.length := by omega
  have hm := hok.wm
  clear h hwe hk0 hk1
  obtain ⟨R, hR⟩ : ∃ R, wishU L x (gu x.units i) = R := ⟨_, rfl⟩
  have hc : Calls Tryd.prog 52 #[.slice sA L.length sc, .agg #[.int .i64 x.turn, .int .i64 x.next, .int .i64 x.field.wide, .int .i64 x.field.high, .slice s.field.ground.A x.field.ground.length s.field.ground.c, .slice s.field.ore.A x.field.ore.length s.field.ore.c, .slice s.gold.A x.gold.length s.gold.c, .slice s.units.A x.units.length s.units.c, .slice s.queue.A x.queue.length s.queue.c], .int .i64 (i : Int)] W4 fun e w' => e = .returned (.tuple #[.int .i64 ((wishU L x (gu x.units i) : Nat) : Int), .nilIface]) ∧ Below W4.heap.size W4 w' := wwish_ok ⟨sA, sc⟩ L s x i W4 hB.out.ks_ hB.out.wo_ hok hi
  rw [hR] at hc
  replace hc := Lib.hid hc
  replace hR := Lib.hid hR
  obtain ⟨m0, m1, m2, m3, m4, m5, m6, m7, m8, mll⟩ := hB.out.cells
  go_upto_region 8 with (go_at_call 52; refine hc.out.mono ?_; clear m0 m1 m2 m3 m4 m5 m6 m7 m8 mll; rintro e W5 ⟨rfl, hb⟩)
  clear hc
  replace hB := Lib.hid (hB.out.below hb)
  clear hb
  obtain ⟨kd, hkd⟩ : ∃ kd : Nat, (gu x.units i).kind = (kd : Int) := ⟨(gu x.units i).kind.toNat, by have := hm.kind i hi; omega⟩
  obtain ⟨a, hsa⟩ : ∃ a : Nat, (gu x.units i).spot = (a : Int) := ⟨(gu x.units i).spot.toNat, by have := hm.spot i hi; omega⟩
  obtain ⟨b, hsb⟩ : ∃ b : Nat, (gu x.units i).goal = (b : Int) := ⟨(gu x.units i).goal.toNat, by have := hm.goal i hi; omega⟩
  have hkl : kd < L.length := by have := hm.kind i hi; omega
  have ha : a < x.field.ground.length := by have := hm.spot i hi; omega
  have hb : b < x.field.ground.length := by have := hm.goal i hi; omega
  have hgl : x.field.ground.length ≤ 144 := by have := hm.good.len; omega
  have hun := (headE_ok hok.head).units
  have hR1 := hR.out
  unfold wishU at hR1
  rw [hkd, hsa, hsb, Int.toNat_natCast, Int.toNat_natCast, Int.toNat_natCast] at hR1
  have hii : (i : Int) < (x.units.length : Int) := by omega
  have hkli : (kd : Int) < (L.length : Int) := by omega
  obtain ⟨bk, okk, hAk, _⟩ := rk_at hB.out.ks_.rd kd hkl
  dsimp only at hAk
  subst hAk
  obtain ⟨xb, xo, hXA, _, p0, p1, p2, p3, p4, p5, p6, p7⟩ := ru_at hB.out.wo_.2.2.2.2.1.1 i hi
  rw [hkd] at p2
  rw [hsa] at p3
  rw [hsb] at p7
  obtain ⟨u, hu⟩ : ∃ u, gu x.units i = u := ⟨_, rfl⟩
  rw [hu] at p0 p1 p4 p5 p6 hR1
  clear hR
  have hR := Lib.hid hR1
  clear hR1
  replace hok := Lib.hid hok
  replace hm := Lib.hid hm
  replace hsa := Lib.hid hsa
  replace hsb := Lib.hid hsb
  replace hkd := Lib.hid hkd
  replace hu := Lib.hid hu
  obtain ⟨_, _, _, _, _, _, _, m7, _, mll⟩ := hB.out.cells
  rw [hXA] at m7
  replace hXA := Lib.hid hXA
  go_upto_region 11 with fail
  have hku : Blk (W5.alloc (.cells #[.int .i64 u.id, .int .i64 u.player, .int .i64 (kd : Int), .int .i64 (a : Int), .int .i64 u.life, .int .i64 u.load, .int .i64 u.task, .int .i64 (b : Int)] 33)) W5.heap.size 33 #[.int .i64 u.id, .int .i64 u.player, .int .i64 (kd : Int), .int .i64 (a : Int), .int .i64 u.life, .int .i64 u.load, .int .i64 u.task, .int .i64 (b : Int)] := Blk.new _ _ _
  have hBn := hB.out.alloc (.cells #[.int .i64 u.id, .int .i64 u.player, .int .i64 (kd : Int), .int .i64 (a : Int), .int .i64 u.life, .int .i64 u.load, .int .i64 u.task, .int .i64 (b : Int)] 33)
  clear hB p0 p1 p2 p3 p4 p5 p6 p7 m7 mll
  have hB := Lib.hid hBn
  clear hBn
  generalize (W5.alloc (.cells #[.int .i64 u.id, .int .i64 u.player, .int .i64 (kd : Int), .int .i64 (a : Int), .int .i64 u.life, .int .i64 u.load, .int .i64 u.task, .int .i64 (b : Int)] 33)) = W6 at *
  obtain ⟨ub, hub⟩ : ∃ ub, W5.heap.size = ub := ⟨_, rfl⟩
  rw [hub] at hku ⊢
  clear hub
  have v2 : W6.cell? ⟨ub, 2, none⟩ = some (.int .i64 (kd : Int)) := hku.cell 2
  have v3 : W6.cell? ⟨ub, 3, none⟩ = some (.int .i64 (a : Int)) := hku.cell 3
  have v6 : W6.cell? ⟨ub, 6, none⟩ = some (.int .i64 u.task) := hku.cell 6
  have v7 : W6.cell? ⟨ub, 7, none⟩ = some (.int .i64 (b : Int)) := hku.cell 7
  have vl := hku.lt
  replace hku := Lib.hid hku
  go_cut [62] (fun v wx => v = .bool false ∧ W6 = wx)
  case first =>
    as_aux_lemma =>
    by_cases t0 : u.task = 0
    · have hr := hR.out
      rw [if_neg (by rw [t0]; decide), if_neg (by rw [t0]; decide)] at hr
      subst hr
      have f0 : (u.task == 0) = true := by simp [t0]
      clear hR
      replace t0 := Lib.hid t0
      go_wp2_with fail
      go_meet
      exact ⟨rfl, rfl⟩
    · have f0 : (u.task == 0) = false := by simp [t0]
      replace t0 := Lib.hid t0
      go_wp2_with fail
      go_meet
      exact ⟨rfl, rfl⟩
  case rest =>
  obtain ⟨rfl, rfl⟩ := hcut
  go_upto_if 65 with fail
  go_cut [] (fun wx0 => ∃ wx, wx = wx0 ∧ Hid (SBx w wx ⟨some ⟨bk, okk, none⟩, sc⟩ L s x wb))
  case first =>
    as_aux_lemma =>
    by_cases t1 : u.task = 1
    case neg =>
      have f1 : (u.task == 1) = false := by simp [t1]
      replace t1 := Lib.hid t1
      go_wp2_with fail
      go_meet
      exact ⟨_, rfl, hB⟩
    have f1 : (u.task == 1) = true := by simp [t1]
    have hr := hR.out
    rw [if_pos t1] at hr
    clear hR
    replace t1 := Lib.hid t1
    obtain ⟨kf, hkf⟩ : ∃ kf, (gk L kd).flies = kf := ⟨_, rfl⟩
    rw [hkf] at hr
    replace hkf := Lib.hid hkf
    have hce : cellE x.field (b : Int) = 0 := cellE_ok x.field (b : Int) hm.out.good (by omega) (by omega)
    replace hce := Lib.hid hce
    go_upto_region 14 with fail
    clear v2 v3 v6 v7 vl
    have hS : ∀ wz, SBx w wz ⟨some ⟨bk, okk, none⟩, sc⟩ L s x wb → Blk wz ub 33 #[.int .i64 u.id, .int .i64 u.player, .int .i64 (kd : Int), .int .i64 (a : Int), .int .i64 u.life, .int .i64 u.load, .int .i64 u.task, .int .i64 (b : Int)] → (fun wz => wz.cell? ⟨wb, 2, none⟩ = some (.int .i64 x.field.wide) ∧ wz.cell? ⟨wb, 3, none⟩ = some (.int .i64 x.field.high) ∧ wz.cell? ⟨wb, 4, none⟩ = some (.slice s.field.ground.A x.field.ground.length s.field.ground.c) ∧ wz.cell? ⟨wb, 5, none⟩ = some (.slice s.field.ore.A x.field.ore.length s.field.ore.c) ∧ wz.cell? ⟨bk, okk + kd * 11 + 9, none⟩ = some (.bool kf) ∧ wz.cell? ⟨ub, 7, none⟩ = some (.int .i64 (b : Int)) ∧ wz.cell? ⟨ub, 2, none⟩ = some (.int .i64 (kd : Int))) wz := fun wz h h2 => by
      obtain ⟨_, _, m2, m3, m4, m5, _, _, _, _⟩ := h.cells
      have k9 := h.flies kd hkl
      rw [hkf.out] at k9
      exact ⟨m2, m3, m4, m5, k9, h2.cell 7, h2.cell 2⟩
    have hBn : SBx w W6.drew ⟨some ⟨bk, okk, none⟩, sc⟩ L s x wb := hB.out.drewN 1
    have hkn : Blk W6.drew ub 33 #[.int .i64 u.id, .int .i64 u.player, .int .i64 (kd : Int), .int .i64 (a : Int), .int .i64 u.life, .int .i64 u.load, .int .i64 u.task, .int .i64 (b : Int)] := hku.out.drewN 1
    clear hB hku
    have hB := Lib.hid hBn
    have hku := Lib.hid hkn
    clear hBn hkn
    have hfa : Calls Tryd.prog 41 #[.agg #[.int .i64 x.field.wide, .int .i64 x.field.high, .slice s.field.ground.A x.field.ground.length s.field.ground.c, .slice s.field.ore.A x.field.ore.length s.field.ore.c], .int .i64 (b : Int), .bool kf] W6.drew (FarPost W6.drew x.field b kf) := far_ok s.field x.field b kf W6.drew hB.out.wo_.2.2.1 hce.out
    replace hfa := Lib.hid hfa
    have hS0 := hS _ hB.out hku.out
    replace hS := Lib.hid hS
    refine wp_region_noPanic ?_
    refine wp_region_held_drew (S := (fun wz => wz.cell? ⟨wb, 2, none⟩ = some (.int .i64 x.field.wide) ∧ wz.cell? ⟨wb, 3, none⟩ = some (.int .i64 x.field.high) ∧ wz.cell? ⟨wb, 4, none⟩ = some (.slice s.field.ground.A x.field.ground.length s.field.ground.c) ∧ wz.cell? ⟨wb, 5, none⟩ = some (.slice s.field.ore.A x.field.ore.length s.field.ore.c) ∧ wz.cell? ⟨bk, okk + kd * 11 + 9, none⟩ = some (.bool kf) ∧ wz.cell? ⟨ub, 7, none⟩ = some (.int .i64 (b : Int)) ∧ wz.cell? ⟨ub, 2, none⟩ = some (.int .i64 (kd : Int)))) (by kernel_rfl) hS0 (fun hHeld => ?_)
    clear hS0
    generalize W6.drew = Wd6 at *
    refine wpAnyH_take (i := 0) (oi := _) (v := ?_) rfl (by kernel_rfl) (by kernel_rfl) (by kernel_rfl) (fun _ _ _ h => h) (Or.inl ⟨by rfl, ?_⟩) (by assumption) ?_
    rotate_left
    · intro w' hSw
      try dsimp only at hSw
      first | (go_simp; done) | (go_simp; with_reducible rfl)
    try simp only [Act.put]
    try simp only [List.setIfInBounds_toArray]
    try simp only [List.set_cons_succ, List.set_cons_zero]
    try simp only [List.getElem_toArray]
    try simp only [List.getElem_cons_succ]
    try simp only [List.getElem_cons_zero]
    refine wpAnyH_take (i := 1) (oi := _) (v := ?_) rfl (by kernel_rfl) (by kernel_rfl) (by kernel_rfl) (fun _ _ _ h => h) (Or.inl ⟨by rfl, ?_⟩) (by assumption) ?_
    rotate_left
    · intro w' hSw
      try dsimp only at hSw
      first | (go_simp; done) | (go_simp; with_reducible rfl)
    try simp only [Act.put]
    try simp only [List.setIfInBounds_toArray]
    try simp only [List.set_cons_succ, List.set_cons_zero]
    try simp only [List.getElem_toArray]
    try simp only [List.getElem_cons_succ]
    try simp only [List.getElem_cons_zero]
    refine wpAnyH_take (i := 2) (oi := _) (v := ?_) rfl (by kernel_rfl) (by kernel_rfl) (by kernel_rfl) (fun _ _ _ h => h) (Or.inl ⟨by rfl, ?_⟩) (by assumption) ?_
    rotate_left
    · intro w' hSw
      try dsimp only at hSw
      first | (go_simp; done) | (go_simp; with_reducible rfl)
    try simp only [Act.put]
    try simp only [List.setIfInBounds_toArray]
    try simp only [List.set_cons_succ, List.set_cons_zero]
    try simp only [List.getElem_toArray]
    try simp only [List.getElem_cons_succ]
    try simp only [List.getElem_cons_zero]
    refine wpAnyH_take (i := 3) (oi := _) (v := ?_) rfl (by kernel_rfl) (by kernel_rfl) (by kernel_rfl) (fun _ _ _ h => h) (Or.inl ⟨by rfl, ?_⟩) (by assumption) ?_
    rotate_left
    · intro w' hSw
      try dsimp only at hSw
      first | (go_simp; done) | (go_simp; with_reducible rfl)
    try simp only [Act.put]
    try simp only [List.setIfInBounds_toArray]
    try simp only [List.set_cons_succ, List.set_cons_zero]
    try simp only [List.getElem_toArray]
    try simp only [List.getElem_cons_succ]
    try simp only [List.getElem_cons_zero]
    refine wpAnyH_take (i := 4) (oi := _) (v := ?_) rfl (by kernel_rfl) (by kernel_rfl) (by kernel_rfl) (fun _ _ _ h => h) (Or.inl ⟨by rfl, ?_⟩) (by assumption) ?_
    rotate_left
    · intro w' hSw
      try dsimp only at hSw
      first | (go_simp; done) | (go_simp; with_reducible rfl)
    try simp only [Act.put]
    try simp only [List.setIfInBounds_toArray]
    try simp only [List.set_cons_succ, List.set_cons_zero]
    try simp only [List.getElem_toArray]
    try simp only [List.getElem_cons_succ]
    try simp only [List.getElem_cons_zero]
    refine wpAnyH_take (i := 5) (oi := _) (v := ?_) rfl (by kernel_rfl) (by kernel_rfl) (by kernel_rfl) (fun _ _ _ h => h) (Or.inl ⟨by rfl, ?_⟩) (by assumption) ?_
    rotate_left
    · intro w' hSw
      try dsimp only at hSw
      first | (go_simp; done) | (go_simp; with_reducible rfl)
    try simp only [Act.put]
    try simp only [List.setIfInBounds_toArray]
    try simp only [List.set_cons_succ, List.set_cons_zero]
    try simp only [List.getElem_toArray]
    try simp only [List.getElem_cons_succ]
    try simp only [List.getElem_cons_zero]
    refine wpAnyH_take (i := 6) (oi := _) (v := ?_) rfl (by kernel_rfl) (by kernel_rfl) (by kernel_rfl) (fun _ _ _ h => h) (Or.inl ⟨by rfl, ?_⟩) (by assumption) ?_
    rotate_left
    · intro w' hSw
      try dsimp only at hSw
      first | (go_simp; done) | (go_simp; with_reducible rfl)
    try simp only [Act.put]
    try simp only [List.setIfInBounds_toArray]
    try simp only [List.set_cons_succ, List.set_cons_zero]
    try simp only [List.getElem_toArray]
    try simp only [List.getElem_cons_succ]
    try simp only [List.getElem_cons_zero]
    refine wpAnyH_take (i := 7) (oi := _) (v := ?_) rfl (by kernel_rfl) (by kernel_rfl) (by kernel_rfl) (fun _ _ _ h => h) (Or.inl ⟨by rfl, ?_⟩) (by assumption) ?_
    rotate_left
    · intro w' hSw
      try dsimp only at hSw
      first | (go_simp; done) | (go_simp; with_reducible rfl)
    try simp only [Act.put]
    try simp only [List.setIfInBounds_toArray]
    try simp only [List.set_cons_succ, List.set_cons_zero]
    try simp only [List.getElem_toArray]
    try simp only [List.getElem_cons_succ]
    try simp only [List.getElem_cons_zero]
    refine wpAnyH_take (i := 8) (oi := _) (v := ?_) rfl (by kernel_rfl) (by kernel_rfl) (by kernel_rfl) (fun _ _ _ h => h) (Or.inl ⟨by rfl, ?_⟩) (by assumption) ?_
    rotate_left
    · intro w' hSw
      try dsimp only at hSw
      first | (go_simp; done) | (go_simp; with_reducible rfl)
    try simp only [Act.put]
    try simp only [List.setIfInBounds_toArray]
    try simp only [List.set_cons_succ, List.set_cons_zero]
    try simp only [List.getElem_toArray]
    try simp only [List.getElem_cons_succ]
    try simp only [List.getElem_cons_zero]
    refine wpAnyH_take (i := 9) (oi := _) (v := ?_) rfl (by kernel_rfl) (by kernel_rfl) (by kernel_rfl) (fun _ _ _ h => h) (Or.inl ⟨by rfl, ?_⟩) (by assumption) ?_
    rotate_left
    · intro w' hSw
      try dsimp only at hSw
      first | (go_simp; done) | (go_simp; with_reducible rfl)
    try simp only [Act.put]
    try simp only [List.setIfInBounds_toArray]
    try simp only [List.set_cons_succ, List.set_cons_zero]
    try simp only [List.getElem_toArray]
    try simp only [List.getElem_cons_succ]
    try simp only [List.getElem_cons_zero]
    refine wpAnyH_ready (rs := [10]) (by kernel_rfl) (by simp) ?_
    refine AllReadyH.cons (o := { dst := some 77, op := .call { callee := .value (.func 41), args := #[.tmp 68, .tmp 70, .tmp 76], argTypes := #[52, 3, 4] }, type := _, pos := _, after := _, guard := none }) rfl (fun K hK => ?_) AllReadyH.nil
    go_simp
    refine hfa.out.mono ?_
    rintro e W7 ⟨g, far, rfl, hd, hgg, hkg, hb7⟩
    have hBn := hB.out.below hb7
    have hkn := hku.out.below hb7 hku.out.lt
    clear hB hku hHeld hb7 hfa hgg
    have hB := Lib.hid hBn
    have hku := Lib.hid hkn
    clear hBn hkn
    replace hd := Lib.hid hd
    replace hkg := Lib.hid hkg
    refine hK.out _ _ (hS.out _ hB.out hku.out) (fun hHeld => ?_)
    clear hK K
    try simp only [Act.put]
    try simp only [List.setIfInBounds_toArray]
    try simp only [List.set_cons_succ, List.set_cons_zero]
    try simp only [List.getElem_toArray]
    try simp only [List.getElem_cons_succ]
    try simp only [List.getElem_cons_zero]
    refine wpAnyH_take (i := 11) (oi := _) (v := ?_) rfl (by kernel_rfl) (by kernel_rfl) (by kernel_rfl) (fun _ _ _ h => h) (Or.inl ⟨by rfl, ?_⟩) (by assumption) ?_
    rotate_left
    · intro w' hSw
      try dsimp only at hSw
      first | (go_simp; done) | (go_simp; with_reducible rfl)
    try simp only [Act.put]
    try simp only [List.setIfInBounds_toArray]
    try simp only [List.set_cons_succ, List.set_cons_zero]
    try simp only [List.getElem_toArray]
    try simp only [List.getElem_cons_succ]
    try simp only [List.getElem_cons_zero]
    refine wpAnyH_take (i := 12) (oi := _) (v := ?_) rfl (by kernel_rfl) (by kernel_rfl) (by kernel_rfl) (fun _ _ _ h => h) (Or.inl ⟨by rfl, ?_⟩) (by assumption) ?_
    rotate_left
    · intro w' hSw
      try dsimp only at hSw
      first | (go_simp; done) | (go_simp; with_reducible rfl)
    try simp only [Act.put]
    try simp only [List.setIfInBounds_toArray]
    try simp only [List.set_cons_succ, List.set_cons_zero]
    try simp only [List.getElem_toArray]
    try simp only [List.getElem_cons_succ]
    try simp only [List.getElem_cons_zero]
    refine wpAnyH_take (i := 13) (oi := _) (v := ?_) rfl (by kernel_rfl) (by kernel_rfl) (by kernel_rfl) (fun _ _ _ h => h) (Or.inl ⟨by rfl, ?_⟩) (by assumption) ?_
    rotate_left
    · intro w' hSw
      try dsimp only at hSw
      first | (go_simp; done) | (go_simp; with_reducible rfl)
    try simp only [Act.put]
    try simp only [List.setIfInBounds_toArray]
    try simp only [List.set_cons_succ, List.set_cons_zero]
    try simp only [List.getElem_toArray]
    try simp only [List.getElem_cons_succ]
    try simp only [List.getElem_cons_zero]
    refine wpAnyH_take (i := 14) (oi := _) (v := ?_) rfl (by kernel_rfl) (by kernel_rfl) (by kernel_rfl) (fun _ _ _ h => h) (Or.inl ⟨by rfl, ?_⟩) (by assumption) ?_
    rotate_left
    · intro w' hSw
      try dsimp only at hSw
      first | (go_simp; done) | (go_simp; with_reducible rfl)
    try simp only [Act.put]
    try simp only [List.setIfInBounds_toArray]
    try simp only [List.set_cons_succ, List.set_cons_zero]
    try simp only [List.getElem_toArray]
    try simp only [List.getElem_cons_succ]
    try simp only [List.getElem_cons_zero]
    refine wpAnyH_take (i := 15) (oi := _) (v := ?_) rfl (by kernel_rfl) (by kernel_rfl) (by kernel_rfl) (fun _ _ _ h => h) (Or.inl ⟨by rfl, ?_⟩) (by assumption) ?_
    rotate_left
    · intro w' hSw
      try dsimp only at hSw
      first | (go_simp; done) | (go_simp; with_reducible rfl)
    try simp only [Act.put]
    try simp only [List.setIfInBounds_toArray]
    try simp only [List.set_cons_succ, List.set_cons_zero]
    try simp only [List.getElem_toArray]
    try simp only [List.getElem_cons_succ]
    try simp only [List.getElem_cons_zero]
    refine wpAnyH_done (by kernel_rfl) ?_ _
    refine NoPanic.normal ?_
    clear hHeld hS
    try dsimp only [List.set]
    unfold towardL at hr
    rw [toF_eq hd.out] at hr
    have cf := hkg.out.atI a (by rw [hd.out.len]; omega)
    have v3 : W7.cell? ⟨ub, 3, none⟩ = some (.int .i64 (a : Int)) := hku.out.cell 3
    have vl := hku.out.lt
    have gl := hkg.out.lt
    have hai : (a : Int) < (x.field.ground.length : Int) := by omega
    have hBq : ∀ q, Hid (SBx w (W7.drewN q) ⟨some ⟨bk, okk, none⟩, sc⟩ L s x wb) := fun q => Lib.hid (hB.out.drewN q)
    replace hBq := Lib.hid hBq
    by_cases d0 : at0 far a < 0
    · rw [if_pos d0] at hr
      subst hr
      have f2 : decide (at0 far a < 0) = true := decide_eq_true d0
      have f3 : decide (0 < at0 far a) = false := decide_eq_false (by omega)
      clear hB hd
      generalize at0 far a = d at *
      go_wp2_with fail
      go_quiet (fail)
      go_wp2_with fail
      go_meet
      exact ⟨_, rfl, hBq.out _⟩
    rw [if_neg d0] at hr
    have f2 : decide (at0 far a < 0) = false := decide_eq_false d0
    by_cases d1 : 0 < at0 far a
    · have hml := march_law hm.out.good hd.out ha d1
      rw [hr] at hml
      obtain ⟨hRn, hRd⟩ := hml
      have cr := hkg.out.atI R (by rw [hd.out.len]; omega)
      have hri : (R : Int) < (x.field.ground.length : Int) := by omega
      have f3 : decide (0 < at0 far a) = true := decide_eq_true d1
      have f4 : decide (at0 far a ≤ at0 far R) = false := decide_eq_false (by omega)
      clear hB hd hr
      generalize at0 far a = d at *
      generalize at0 far R = e at *
      go_wp2_with fail
      go_quiet (fail)
      go_wp2_with fail
      go_meet
      exact ⟨_, rfl, hBq.out _⟩
    · have f3 : decide (0 < at0 far a) = false := decide_eq_false d1
      clear hB hd hr
      generalize at0 far a = d at *
      go_wp2_with fail
      go_quiet (fail)
      go_wp2_with fail
      go_meet
      exact ⟨_, rfl, hBq.out _⟩
  case rest =>
  obtain ⟨W8, rfl, hB⟩ := hcut
  clear hku v2 v3 v6 v7 vl
  obtain ⟨m0, m1, m2, m3, m4, m5, m6, m7, m8, mll⟩ := hB.out.cells
  go_upto_region 19 with fail
  clear m0 m1 m2 m3 m4 m5 m6 m7 m8 mll
  obtain ⟨i1, hi1, hy0, hy1, hy2⟩ := info_parts unitM_info
  have hkp0 : Blk (W8.alloc (.cells #[.int .i64 x.turn, .int .i64 x.next, .int .i64 x.field.wide, .int .i64 x.field.high, .slice s.field.ground.A x.field.ground.length s.field.ground.c, .slice s.field.ore.A x.field.ore.length s.field.ore.c, .slice s.gold.A x.gold.length s.gold.c, .slice none 0 0, .slice s.queue.A x.queue.length s.queue.c] 55)) W8.heap.size 55 #[.int .i64 x.turn, .int .i64 x.next, .int .i64 x.field.wide, .int .i64 x.field.high, .slice s.field.ground.A x.field.ground.length s.field.ground.c, .slice s.field.ore.A x.field.ore.length s.field.ore.c, .slice s.gold.A x.gold.length s.gold.c, .slice none 0 0, .slice s.queue.A x.queue.length s.queue.c] := Blk.new _ _ _
  have hBn := hB.out.alloc (.cells #[.int .i64 x.turn, .int .i64 x.next, .int .i64 x.field.wide, .int .i64 x.field.high, .slice s.field.ground.A x.field.ground.length s.field.ground.c, .slice s.field.ore.A x.field.ore.length s.field.ore.c, .slice s.gold.A x.gold.length s.gold.c, .slice none 0 0, .slice s.queue.A x.queue.length s.queue.c] 55)
  have hpb : wb < W8.heap.size := hB.out.kw.lt
  have hpw : w.heap.size ≤ W8.heap.size := hB.out.b.size
  clear hB
  generalize (W8.alloc (.cells #[.int .i64 x.turn, .int .i64 x.next, .int .i64 x.field.wide, .int .i64 x.field.high, .slice s.field.ground.A x.field.ground.length s.field.ground.c, .slice s.field.ore.A x.field.ore.length s.field.ore.c, .slice s.gold.A x.gold.length s.gold.c, .slice none 0 0, .slice s.queue.A x.queue.length s.queue.c] 55)) = W9 at *
  obtain ⟨pr, hpr⟩ : ∃ pr, W8.heap.size = pr := ⟨_, rfl⟩
  rw [hpr] at hkp0 hpb hpw ⊢
  clear hpr
  have hB := Lib.hid hBn
  clear hBn
  have z7 : W9.cell? ⟨pr, 7, none⟩ = some (.slice none 0 0) := hkp0.cell 7
  have vl := hkp0.lt
  have hkp := Lib.hid hkp0
  clear hkp0
  have hnilc := hB.out.wo.2.2.2.2.1.2.1
  have hrd := hB.out.wo.2.2.2.2.1.1.below hB.out.b
  replace hnilc := Lib.hid hnilc
  replace hrd := Lib.hid hrd
  obtain ⟨m0, m1, m2, m3, m4, m5, m6, m7, m8, mll⟩ := hB.out.cells
  go_wp2_with (at_builtin; refine wpList_append_rd rfl (.tmp 119) (.tmp 121) 29 rfl W9.heap.size 33 i1 _ 8 64 Tryd.underlying29 hi1 hy0 hy1 hy2 rfl (by decide) _ (.slice none 0 0) 0 [] rfl (World.ownsRow_nil _ _ _ _) w.heap.size s.units.A x.units.length s.units.c (x.units.flatMap uC) rfl hnilc.out hrd.out (by simp only [List.all_flatMap]; rw [List.all_eq_true]; intro u hu; rw [List.all_eq_true]; exact uC_oneM u) ?_ ?_ (Nat.le_refl _) ?_)
  · unfold maxLen; omega
  · omega
  intro v' W10 hown hgrow
  clear m0 m1 m2 m3 m4 m5 m6 m7 m8 mll
  clear z7 vl hnilc hrd
  have hbq : Below W9.heap.size W9 W10 := (Below.refl _ _).grown hgrow (Nat.le_refl _) (by simp [Value.ownBlock])
  try rw [List.nil_append] at hown
  try rw [Nat.zero_add] at hown
  rcases hown.2 with ⟨_, h0⟩ | ⟨g, cap, cur, hve, hgb, hgh, hc1, hc2, hc3, hc4⟩
  · exact absurd h0 (by omega)
  subst hve
  have hkg : Blk W10 g 33 cur := hgh
  have hrow : RowR cur x.units 0 := RowR.start hc4 (by omega)
  have hpg : pr < g := Nat.lt_of_lt_of_le hkp.out.lt hgb
  have hBn := hB.out.below hbq
  have hkn := hkp.out.below hbq hkp.out.lt
  clear hB hkp hgrow hbq hown hgh hc4 hgb
  have hB := Lib.hid hBn
  have hkp := Lib.hid hkn
  clear hBn hkn
  have z7 : W10.cell? ⟨pr, 7, none⟩ = some (.slice none 0 0) := hkp.out.cell 7
  have zf := hkp.out.frozen 7
  have vl := hkp.out.lt
  replace hkg := Lib.hid hkg
  replace hrow := Lib.hid hrow
  go_upto_region 20 with fail
  have hR0 : MwR w (W10.setCell ⟨pr, 7, none⟩ (.slice (some ⟨g, 0, none⟩) x.units.length cap)) ⟨some ⟨bk, okk, none⟩, sc⟩ L s x wb pr g cap 0 := by
    refine ⟨hB.out.far hpw (by omega), ?_, ⟨cur, hkg.out.far (by show g ≠ pr; omega) _, hc3, hrow.out⟩, hpb, hpg, hpw, hc1, hc2⟩
    have h := hkp.out.set_ 7 (.slice (some ⟨g, 0, none⟩) x.units.length cap)
    simp only [List.setIfInBounds_toArray, List.set_cons_zero, List.set_cons_succ] at h
    exact h
  clear hB hkp hkg hrow z7 zf vl
  replace hR0 := Lib.hid hR0
  generalize (W10.setCell ⟨pr, 7, none⟩ (.slice (some ⟨g, 0, none⟩) x.units.length cap)) = W11 at *
  go_wp2_with fail
  go_loopw [17] (fun v17 wr => ∃ k : Nat, v17 = .int .i64 k ∧ k ≤ x.units.length ∧ Hid (MwR w wr ⟨some ⟨bk, okk, none⟩, sc⟩ L s x wb pr g cap k)) (fun v17 _ => x.units.length - (intOf v17).toNat)
  case atStart => exact ⟨0, rfl, Nat.zero_le _, hR0⟩
  case round =>
    clear hR0
    obtain ⟨k, rfl, hk, hM⟩ := hrel
    have n7 := hM.out.kp.cell 7
    have n7 : wr.cell? ⟨pr, 7, none⟩ = some (.slice (some ⟨g, 0, none⟩) x.units.length cap) := n7
    have nl := hM.out.kp.lt
    by_cases hlt : k < x.units.length
    · as_aux_lemma =>
      have z1 : (k : Int) < (x.units.length : Int) := by omega
      obtain ⟨⟨u6, c6⟩, ⟨u7, c7⟩, f6, f7, gl⟩ := hM.out.gcells hlt
      have hMs := hM.out.step hlt
      replace hMs := Lib.hid hMs
      have hgp : ¬ pr = g := by omega
      clear hM
      go_wp2_with fail
      go_roundw
      case rel => exact ⟨k + 1, by go_num, by omega, hMs⟩
      case measure => simp [intOf]; omega
    · have z1 : ¬ (k : Int) < (x.units.length : Int) := by omega
      obtain rfl : k = x.units.length := by omega
      as_aux_lemma =>
      have hWo := hM.out.wok hin.out
      have hmv := move_rest ⟨some ⟨bk, okk, none⟩, sc⟩ L ⟨s.field, s.gold, ⟨some ⟨g, 0, none⟩, cap⟩, s.queue⟩ (restX x) wr hM.out.sb.ks_ hWo (rest_ok hok.out) (rest_all x)
      rw [restX_len] at hmv
      replace hmv : Calls Tryd.prog 49 #[.slice (some ⟨bk, okk, none⟩) L.length sc, .agg #[.int .i64 x.turn, .int .i64 x.next, .int .i64 x.field.wide, .int .i64 x.field.high, .slice s.field.ground.A x.field.ground.length s.field.ground.c, .slice s.field.ore.A x.field.ore.length s.field.ore.c, .slice s.gold.A x.gold.length s.gold.c, .slice (some ⟨g, 0, none⟩) x.units.length cap, .slice s.queue.A x.queue.length s.queue.c]] wr fun e w' => ∃ s', e = .returned (.tuple #[.agg #[.int .i64 x.turn, .int .i64 x.next, .int .i64 x.field.wide, .int .i64 x.field.high, .slice s'.field.ground.A x.field.ground.length s'.field.ground.c, .slice s'.field.ore.A x.field.ore.length s'.field.ore.c, .slice s'.gold.A x.gold.length s'.gold.c, .slice s'.units.A x.units.length s'.units.c, .slice s'.queue.A x.queue.length s'.queue.c], .slice none 0 0, .nilIface]) ∧ WOwn w' wr.heap.size s' (restX x) ∧ Below wr.heap.size wr w' := hmv
      replace hmv := Lib.hid hmv
      replace hWo := Lib.hid hWo
      obtain ⟨m0, m1, m2, m3, m4, m5, m6, m7, m8, mll⟩ := hM.out.pcells
      clear n7 nl
      go_upto_region 26 with (go_at_call 49; refine hmv.out.mono ?_; clear m0 m1 m2 m3 m4 m5 m6 m7 m8 mll; rintro e W12 ⟨s2, rfl, hO, hb12⟩)
      clear hmv
      have hMn := (hM.out.below hb12).alloc (.cells #[.int .i64 x.turn, .int .i64 x.next, .int .i64 x.field.wide, .int .i64 x.field.high, .slice s2.field.ground.A x.field.ground.length s2.field.ground.c, .slice s2.field.ore.A x.field.ore.length s2.field.ore.c, .slice s2.gold.A x.gold.length s2.gold.c, .slice s2.units.A x.units.length s2.units.c, .slice s2.queue.A x.queue.length s2.queue.c] 55)
      have hal : Below W12.heap.size W12 (W12.alloc (.cells #[.int .i64 x.turn, .int .i64 x.next, .int .i64 x.field.wide, .int .i64 x.field.high, .slice s2.field.ground.A x.field.ground.length s2.field.ground.c, .slice s2.field.ore.A x.field.ore.length s2.field.ore.c, .slice s2.gold.A x.gold.length s2.gold.c, .slice s2.units.A x.units.length s2.units.c, .slice s2.queue.A x.queue.length s2.queue.c] 55)) := (Below.refl _ _).alloc (Nat.le_refl _) _
      have hk2 : Blk (W12.alloc (.cells #[.int .i64 x.turn, .int .i64 x.next, .int .i64 x.field.wide, .int .i64 x.field.high, .slice s2.field.ground.A x.field.ground.length s2.field.ground.c, .slice s2.field.ore.A x.field.ore.length s2.field.ore.c, .slice s2.gold.A x.gold.length s2.gold.c, .slice s2.units.A x.units.length s2.units.c, .slice s2.queue.A x.queue.length s2.queue.c] 55)) W12.heap.size 55 #[.int .i64 x.turn, .int .i64 x.next, .int .i64 x.field.wide, .int .i64 x.field.high, .slice s2.field.ground.A x.field.ground.length s2.field.ground.c, .slice s2.field.ore.A x.field.ore.length s2.field.ore.c, .slice s2.gold.A x.gold.length s2.gold.c, .slice s2.units.A x.units.length s2.units.c, .slice s2.queue.A x.queue.length s2.queue.c] := Blk.new _ _ _
      have hO2 := hO.below hal
      have hW2 := (hWo.out.below hb12).below hal
      clear hM hb12 hal hO hWo
      generalize (W12.alloc (.cells #[.int .i64 x.turn, .int .i64 x.next, .int .i64 x.field.wide, .int .i64 x.field.high, .slice s2.field.ground.A x.field.ground.length s2.field.ground.c, .slice s2.field.ore.A x.field.ore.length s2.field.ore.c, .slice s2.gold.A x.gold.length s2.gold.c, .slice s2.units.A x.units.length s2.units.c, .slice s2.queue.A x.queue.length s2.queue.c] 55)) = W13 at *
      obtain ⟨px, hpx⟩ : ∃ px, W12.heap.size = px := ⟨_, rfl⟩
      rw [hpx] at hk2 ⊢
      clear hpx
      have hM := Lib.hid hMn
      clear hMn
      have hsw : Calls Tryd.prog 53 #[.agg #[.int .i64 (restX x).turn, .int .i64 (restX x).next, .int .i64 (restX x).field.wide, .int .i64 (restX x).field.high, .slice s2.field.ground.A (restX x).field.ground.length s2.field.ground.c, .slice s2.field.ore.A (restX x).field.ore.length s2.field.ore.c, .slice s2.gold.A (restX x).gold.length s2.gold.c, .slice s2.units.A (restX x).units.length s2.units.c, .slice s2.queue.A (restX x).queue.length s2.queue.c], .agg #[.int .i64 (restX x).turn, .int .i64 (restX x).next, .int .i64 (restX x).field.wide, .int .i64 (restX x).field.high, .slice s.field.ground.A (restX x).field.ground.length s.field.ground.c, .slice s.field.ore.A (restX x).field.ore.length s.field.ore.c, .slice s.gold.A (restX x).gold.length s.gold.c, .slice (some ⟨g, 0, none⟩) (restX x).units.length cap, .slice s.queue.A (restX x).queue.length s.queue.c]] W13 fun e w' => e = .returned (.bool true) ∧ Below W13.heap.size W13 w' := samew_eq s2 ⟨s.field, s.gold, ⟨some ⟨g, 0, none⟩, cap⟩, s.queue⟩ (restX x) W13 W13.heap.size ⟨RD.of_own hO2.g, RD.of_own hO2.o, RD.of_own hO2.d, RD.of_own hO2.u, RD.of_own hO2.q⟩ hW2.rd (by have := hm.out.good.len; show x.field.ground.length ≤ _; omega) (by have := hm.out.good.len; show x.field.ore.length ≤ _; omega) (by have := (headE_ok hok.out.head).players; show x.gold.length ≤ _; omega) (by rw [restX_len]; omega) (by have := hok.out.few; show x.queue.length ≤ _; omega) (Nat.le_refl _)
      rw [restX_len] at hsw
      replace hsw : Calls Tryd.prog 53 #[.agg #[.int .i64 x.turn, .int .i64 x.next, .int .i64 x.field.wide, .int .i64 x.field.high, .slice s2.field.ground.A x.field.ground.length s2.field.ground.c, .slice s2.field.ore.A x.field.ore.length s2.field.ore.c, .slice s2.gold.A x.gold.length s2.gold.c, .slice s2.units.A x.units.length s2.units.c, .slice s2.queue.A x.queue.length s2.queue.c], .agg #[.int .i64 x.turn, .int .i64 x.next, .int .i64 x.field.wide, .int .i64 x.field.high, .slice s.field.ground.A x.field.ground.length s.field.ground.c, .slice s.field.ore.A x.field.ore.length s.field.ore.c, .slice s.gold.A x.gold.length s.gold.c, .slice (some ⟨g, 0, none⟩) x.units.length cap, .slice s.queue.A x.queue.length s.queue.c]] W13 fun e w' => e = .returned (.bool true) ∧ Below W13.heap.size W13 w' := hsw
      replace hsw := Lib.hid hsw
      clear hO2 hW2
      have n0 : W13.cell? ⟨px, 0, none⟩ = some (.int .i64 x.turn) := hk2.cell 0
      have n1 : W13.cell? ⟨px, 1, none⟩ = some (.int .i64 x.next) := hk2.cell 1
      have n2 : W13.cell? ⟨px, 2, none⟩ = some (.int .i64 x.field.wide) := hk2.cell 2
      have n3 : W13.cell? ⟨px, 3, none⟩ = some (.int .i64 x.field.high) := hk2.cell 3
      have n4 : W13.cell? ⟨px, 4, none⟩ = some (.slice s2.field.ground.A x.field.ground.length s2.field.ground.c) := hk2.cell 4
      have n5 : W13.cell? ⟨px, 5, none⟩ = some (.slice s2.field.ore.A x.field.ore.length s2.field.ore.c) := hk2.cell 5
      have n6 : W13.cell? ⟨px, 6, none⟩ = some (.slice s2.gold.A x.gold.length s2.gold.c) := hk2.cell 6
      have n7 : W13.cell? ⟨px, 7, none⟩ = some (.slice s2.units.A x.units.length s2.units.c) := hk2.cell 7
      have n8 : W13.cell? ⟨px, 8, none⟩ = some (.slice s2.queue.A x.queue.length s2.queue.c) := hk2.cell 8
      have nl := hk2.lt
      clear hk2
      obtain ⟨m0, m1, m2, m3, m4, m5, m6, m7, m8, mll⟩ := hM.out.pcells
      have hbf := hM.out.sb.b
      replace hbf := Lib.hid hbf
      go_wp2_with (go_at_call 53; refine hsw.out.mono ?_; clear m0 m1 m2 m3 m4 m5 m6 m7 m8 mll; rintro e W14 ⟨rfl, hb14⟩)
      go_ret
      exact ⟨rfl, hbf.out.trans (hb14.mono hbf.out.size)⟩
theorem moveWishes_any (v0 : Value) (x0 : SL × List GK) (v1 : Value) (x1 : SW × GW) (a2 : Int) (w : World) (h0 : v0 = .slice x0.1.A x0.2.length x0.1.c ∧ SLK w x0.1 x0.2) (h1 : v1 = .agg (wV x1.1 x1.2).toArray ∧ WOk w x1.1 x1.2) (h2 : (Lit.int .i64 a2).wf = true) :
    Calls Tryd.prog 11 #[v0, v1, .int .i64 a2] w fun e w' => e = .returned (.bool true) ∧ Below w.heap.size w w' := by
  obtain ⟨rfl, hK⟩ := h0
  obtain ⟨rfl, hW⟩ := h1
  exact moveWishes_in x0.1 x0.2 x1.1 x1.2 a2 w hK.ks hW
end Go.Proofs.YtkgkpggfoieioaaDoor
