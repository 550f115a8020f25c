import Derived.Test.YtkgkpggfoieioaaGreatDoorRefMove
import Derived.Test.YtkgkpggfoieioaaGreatDoorMoveA
import Derived.Test.YtkgkpggfoieioaaGreatDoorEvents
import Derived.Test.YtkgkpggfoieioaaGreatDoorSameW
import Derived.Test.YtkgkpggfoieioaaGreatDoorMrga
import Derived.Laws.Tables
import Derived.Laws.CopyOwn
namespace Go.Proofs.YtkgkpggfoieioaaGreatDoor
set_option linter.unusedVariables false
open Go.RowKit
/-! MoveGoes. -/
def zeroM : GW := ⟨0, 0, ⟨0, 0, [], []⟩, [], [], []⟩
def nilM : SW := ⟨⟨⟨none, 0⟩, ⟨none, 0⟩⟩, ⟨none, 0⟩, ⟨none, 0⟩, ⟨none, 0⟩⟩
/-- What comes of a move: of a world that is wrong none. -/
noncomputable def gM (L : List GK) (x : GW) : GW × List EV := if worldE L x = 0 then doL L x else (zeroM, [])
theorem wrd_zero (w : World) : WRd w w.heap.size nilM zeroM := ⟨RD.nil_, RD.nil_, RD.nil_, RD.nil_, RD.nil_⟩
theorem wrd_own {w : World} {b : Nat} {s : SW} {x : GW} (h : WOwn w b s x) : WRd w w.heap.size s x := ⟨RD.of_own h.g, RD.of_own h.o, RD.of_own h.d, RD.of_own h.u, RD.of_own h.q⟩
theorem gM_len {L : List GK} {x : GW} : (gM L x).1.field.ground.length ≤ 144 ∧ (gM L x).1.field.ore.length ≤ 144 ∧ (gM L x).1.gold.length ≤ 4 ∧ (gM L x).1.units.length ≤ 40 ∧ (gM L x).1.queue.length ≤ 12 ∧ (gM L x).2.length ≤ 200 := by
  unfold gM
  split
  · rename_i h
    have hx := worldE_0 h
    have hp := doN_kp hx x.units.length (Nat.le_refl _)
    have hl := doN_len hx x.units.length (Nat.le_refl _)
    have hh := headE_ok hp.ok.head
    have hg := (good_of _ hp.ok.field).len
    have hq := hp.ok.few
    have hu := (headE_ok hx.head).units
    unfold doL
    exact ⟨hg.1, by omega, hh.players.2, hh.units, hq, by omega⟩
  · exact ⟨by decide, by decide, by decide, by decide, by decide, by decide⟩
theorem gmove_any (sK : SL) (L : List GK) (s : SW) (x : GW) (w : World) (hK : KS w w.heap.size sK L) (hW : WOk w s x) :
    Calls Tryz.prog 17 #[.slice sK.A L.length sK.c, .agg #[.int .i64 x.turn, .int .i64 x.next, .int .i64 x.field.wide, .int .i64 x.field.high, .slice s.field.ground.A x.field.ground.length s.field.ground.c, .slice s.field.ore.A x.field.ore.length s.field.ore.c, .slice s.gold.A x.gold.length s.gold.c, .slice s.units.A x.units.length s.units.c, .slice s.queue.A x.queue.length s.queue.c]] w fun e w' => ∃ s' A c, e = .returned (.tuple #[.agg #[.int .i64 (gM L x).1.turn, .int .i64 (gM L x).1.next, .int .i64 (gM L x).1.field.wide, .int .i64 (gM L x).1.field.high, .slice s'.field.ground.A (gM L x).1.field.ground.length s'.field.ground.c, .slice s'.field.ore.A (gM L x).1.field.ore.length s'.field.ore.c, .slice s'.gold.A (gM L x).1.gold.length s'.gold.c, .slice s'.units.A (gM L x).1.units.length s'.units.c, .slice s'.queue.A (gM L x).1.queue.length s'.queue.c], .slice A (gM L x).2.length c, errV (worldE L x)]) ∧ WRd w' w'.heap.size s' (gM L x).1 ∧ RE w' w'.heap.size A (gM L x).2 ∧ Below w.heap.size w w' := by
  unfold gM
  by_cases h : worldE L x = 0
  · rw [if_pos h, h]
    refine (move_ok sK L s x w hK hW (worldE_0 h)).mono ?_
    rintro e w' ⟨s', A, c, rfl, h1, h2, h3, h4⟩
    exact ⟨s', A, c, rfl, wrd_own h1, RD.of_own h3, h4⟩
  · rw [if_neg h]
    refine (move_no sK L s x w hK hW h).mono ?_
    rintro e w' ⟨rfl, h4⟩
    rw [errV_ne h]
    exact ⟨nilM, none, 0, rfl, wrd_zero _, RD.nil_, h4⟩
/-- Where a unit wishes to go; the error. -/
noncomputable def gWi (L : List GK) (x : GW) (i : Int) : Int := if worldE L x = 0 ∧ 0 ≤ i ∧ i < x.units.length then ((wishU L x (gu x.units i.toNat) : Nat) : Int) else 0
noncomputable def gWe (L : List GK) (x : GW) (i : Int) : Int := if worldE L x ≠ 0 then worldE L x else if i < 0 ∨ (x.units.length : Int) ≤ i then 6 else 0
structure MgB (w0 w : World) (sK : SL) (L : List GK) (s : SW) (x : GW) (wb : Nat) : Prop where
  b : Below w0.heap.size w0 w
  kw : Blk w wb 29 #[.int .i64 x.turn, .int .i64 x.next, .int .i64 x.field.wide, .int .i64 x.field.high, .slice s.field.ground.A x.field.ground.length s.field.ground.c, .slice s.field.ore.A x.field.ore.length s.field.ore.c, .slice s.gold.A x.gold.length s.gold.c, .slice s.units.A x.units.length s.units.c, .slice s.queue.A x.queue.length s.queue.c]
  ks : KS w0 w0.heap.size sK L
  wo : WOk w0 s x
  hv : HV w0
  lt : w0.heap.size ≤ wb
section
variable {w0 w w' : World} {sK : SL} {L : List GK} {s : SW} {x : GW} {wb : Nat}
theorem MgB.below (h : MgB w0 w sK L s x wb) (hb : Below w.heap.size w w') : MgB w0 w' sK L s x wb := ⟨h.b.trans (hb.mono h.b.size), h.kw.below hb h.kw.lt, h.ks, h.wo, h.hv, h.lt⟩
theorem MgB.alloc (h : MgB w0 w sK L s x wb) (o : Obj) : MgB w0 (w.alloc o) sK L s x wb := h.below ((Below.refl _ _).alloc (Nat.le_refl _) o)
theorem MgB.ks_ (h : MgB w0 w sK L s x wb) : KS w w.heap.size sK L := (h.ks.below h.b).more h.b.size
theorem MgB.wo_ (h : MgB w0 w sK L s x wb) : WOk w s x := h.wo.below h.b
theorem MgB.hv_ (h : MgB w0 w sK L s x wb) : HV w := h.hv.below h.b
theorem MgB.far (h : MgB w0 w sK L s x wb) {b i : Nat} {v : Value} (hb : w0.heap.size ≤ b) (hne : wb ≠ b) : MgB w0 (w.setCell ⟨b, i, none⟩ v) sK L s x wb := ⟨h.b.setCell (p := ⟨b, i, none⟩) hb v, h.kw.far (p := ⟨b, i, none⟩) hne v, h.ks, h.wo, h.hv, h.lt⟩
theorem own_rowM {base n sz b : Nat} {e : TypeId} {v : Value} {xs : List Value} {cs : Array Value} (ho : w.ownsRow base e sz v n xs) (hb : b < base) : (w.setRow b cs).ownsRow base e sz v n xs :=
  ⟨ho.1, ho.2.imp id (fun ⟨g, cap, cur, hv, hbg, hh, r⟩ => ⟨g, cap, cur, hv, hbg, (setRow_other w b g cs (by omega)).trans hh, r⟩)⟩
theorem MgB.row (h : MgB w0 w sK L s x wb) {b : Nat} (hb : w0.heap.size ≤ b) (hne : wb ≠ b) (cs : Array Value) : MgB w0 (w.setRow b cs) sK L s x wb := ⟨below_setRow h.b hb cs, (setRow_other w b wb cs (by omega)).trans h.kw, h.ks, h.wo, h.hv, h.lt⟩
theorem MgB.cells (h : MgB w0 w sK L s x wb) : w.cell? ⟨wb, 0, none⟩ = some (.int .i64 x.turn) ∧ w.cell? ⟨wb, 1, none⟩ = some (.int .i64 x.next) ∧ w.cell? ⟨wb, 2, none⟩ = some (.int .i64 x.field.wide) ∧ w.cell? ⟨wb, 3, none⟩ = some (.int .i64 x.field.high) ∧ w.cell? ⟨wb, 4, none⟩ = some (.slice s.field.ground.A x.field.ground.length s.field.ground.c) ∧ w.cell? ⟨wb, 5, none⟩ = some (.slice s.field.ore.A x.field.ore.length s.field.ore.c) ∧ w.cell? ⟨wb, 6, none⟩ = some (.slice s.gold.A x.gold.length s.gold.c) ∧ w.cell? ⟨wb, 7, none⟩ = some (.slice s.units.A x.units.length s.units.c) ∧ w.cell? ⟨wb, 8, none⟩ = some (.slice s.queue.A x.queue.length s.queue.c) ∧ wb < w.heap.size := ⟨h.kw.cell 0, h.kw.cell 1, h.kw.cell 2, h.kw.cell 3, h.kw.cell 4, h.kw.cell 5, h.kw.cell 6, h.kw.cell 7, h.kw.cell 8, h.kw.lt⟩
end
set_option maxHeartbeats 6400000 in
set_option maxRecDepth 100000 in
theorem wwish_e (sK : SL) (L : List GK) (s : SW) (x : GW) (k : Int) (w : World) (hK : KS w w.heap.size sK L) (hW : WOk w s x) (h : worldE L x ≠ 0 ∨ k < 0 ∨ (x.units.length : Int) ≤ k) :
    Calls Tryz.prog 20 #[.slice sK.A L.length sK.c, .agg #[.int .i64 x.turn, .int .i64 x.next, .int .i64 x.field.wide, .int .i64 x.field.high, .slice s.field.ground.A x.field.ground.length s.field.ground.c, .slice s.field.ore.A x.field.ore.length s.field.ore.c, .slice s.gold.A x.gold.length s.gold.c, .slice s.units.A x.units.length s.units.c, .slice s.queue.A x.queue.length s.queue.c], .int .i64 k] w fun e w' => e = .returned (.tuple #[.int .i64 0, .iface 65 (.int .i64 (gWe L x k))]) ∧ Below w.heap.size w w' := by
  have hB : SBx w (w.alloc (.cells #[.int .i64 x.turn, .int .i64 x.next, .int .i64 x.field.wide, .int .i64 x.field.high, .slice s.field.ground.A x.field.ground.length s.field.ground.c, .slice s.field.ore.A x.field.ore.length s.field.ore.c, .slice s.gold.A x.gold.length s.gold.c, .slice s.units.A x.units.length s.units.c, .slice s.queue.A x.queue.length s.queue.c] 29)) sK L s x w.heap.size := sbx_start w sK L s x hK hW
  obtain ⟨G, hG⟩ : ∃ G, gWe L x k = G := ⟨_, rfl⟩
  rw [hG]
  unfold gWe at hG
  obtain ⟨sA, sc⟩ := sK
  dsimp only
  have hul := hW.ulen
  replace hB := Lib.hid hB
  clear hK hW
  go_enter Tryz.func20, Tryz.ntmps20
  go_upto_region 1 with fail
  generalize (w.alloc (.cells #[.int .i64 x.turn, .int .i64 x.next, .int .i64 x.field.wide, .int .i64 x.field.high, .slice s.field.ground.A x.field.ground.length s.field.ground.c, .slice s.field.ore.A x.field.ore.length s.field.ore.c, .slice s.gold.A x.gold.length s.gold.c, .slice s.units.A x.units.length s.units.c, .slice s.queue.A x.queue.length s.queue.c] 29)) = W at *
  obtain ⟨wb, hwb⟩ : ∃ wb, w.heap.size = wb := ⟨_, rfl⟩
  rw [hwb] at hB
  rw [hwb]
  replace hB : SBx w W ⟨sA, sc⟩ L s x wb := hB.out
  replace hB := Lib.hid hB
  replace hwb := Lib.hid hwb
  have hc : Calls Tryz.prog 39 #[.slice sA L.length sc, .agg #[.int .i64 x.turn, .int .i64 x.next, .int .i64 x.field.wide, .int .i64 x.field.high, .slice s.field.ground.A x.field.ground.length s.field.ground.c, .slice s.field.ore.A x.field.ore.length s.field.ore.c, .slice s.gold.A x.gold.length s.gold.c, .slice s.units.A x.units.length s.units.c, .slice s.queue.A x.queue.length s.queue.c]] W fun e w' => e = .returned (errV (worldE L x)) ∧ Below W.heap.size W w' := wcheck_any ⟨sA, sc⟩ L s x W hB.out.ks_ hB.out.wo_
  by_cases z1 : worldE L x = 0
  case neg =>
    as_aux_lemma =>
    rw [errV_ne z1] at hc
    rw [if_pos z1] at hG
    rw [hG] at hc z1
    replace hG := Lib.hid hG
    replace hc := Lib.hid hc
    replace z1 := Lib.hid z1
    replace h := Lib.hid h
    obtain ⟨m0, m1, m2, m3, m4, m5, m6, m7, m8, mll⟩ := hB.out.cells
    go_wp2_with fail
    refine hc.out.mono ?_
    clear m0 m1 m2 m3 m4 m5 m6 m7 m8 mll
    rintro e W2 ⟨rfl, hb⟩
    have hB2 := hB.out.below hb
    go_wp2_with fail
    go_ret2
    exact ⟨rfl, hB2.b⟩
  rw [z1] at hc
  replace hc : Calls Tryz.prog 39 #[.slice sA L.length sc, .agg #[.int .i64 x.turn, .int .i64 x.next, .int .i64 x.field.wide, .int .i64 x.field.high, .slice s.field.ground.A x.field.ground.length s.field.ground.c, .slice s.field.ore.A x.field.ore.length s.field.ore.c, .slice s.gold.A x.gold.length s.gold.c, .slice s.units.A x.units.length s.units.c, .slice s.queue.A x.queue.length s.queue.c]] W fun e w' => e = .returned .nilIface ∧ Below W.heap.size W w' := hc
  replace hc := Lib.hid hc
  replace h : k < 0 ∨ (x.units.length : Int) ≤ k := h.resolve_left (fun c => c z1)
  rw [if_neg (fun c => c z1), if_pos h] at hG
  subst hG
  replace z1 := Lib.hid z1
  obtain ⟨m0, m1, m2, m3, m4, m5, m6, m7, m8, mll⟩ := hB.out.cells
  go_upto_region 4 with (go_at_call 39; refine hc.out.mono ?_; clear m0 m1 m2 m3 m4 m5 m6 m7 m8 mll; rintro e W2 ⟨rfl, hb⟩)
  clear hc
  replace hB := Lib.hid (hB.out.below hb)
  clear hb
  obtain ⟨m0, m1, m2, m3, m4, m5, m6, m7, m8, mll⟩ := hB.out.cells
  by_cases h2 : k < 0
  · have d2 : decide (k < 0) = true := decide_eq_true h2
    clear h
    go_wp2_with fail
    go_ret2
    exact ⟨rfl, hB.out.b⟩
  · have h3 : (x.units.length : Int) ≤ k := by omega
    have d2 : decide (k < 0) = false := decide_eq_false h2
    have d3 : decide ((x.units.length : Int) ≤ k) = true := decide_eq_true h3
    clear h
    go_wp2_with fail
    go_ret2
    exact ⟨rfl, hB.out.b⟩
theorem gwish_any (sK : SL) (L : List GK) (s : SW) (x : GW) (i : Int) (w : World) (hK : KS w w.heap.size sK L) (hW : WOk w s x) :
    Calls Tryz.prog 20 #[.slice sK.A L.length sK.c, .agg #[.int .i64 x.turn, .int .i64 x.next, .int .i64 x.field.wide, .int .i64 x.field.high, .slice s.field.ground.A x.field.ground.length s.field.ground.c, .slice s.field.ore.A x.field.ore.length s.field.ore.c, .slice s.gold.A x.gold.length s.gold.c, .slice s.units.A x.units.length s.units.c, .slice s.queue.A x.queue.length s.queue.c], .int .i64 i] w fun e w' => e = .returned (.tuple #[.int .i64 (gWi L x i), errV (gWe L x i)]) ∧ Below w.heap.size w w' := by
  by_cases h : worldE L x = 0 ∧ 0 ≤ i ∧ i < x.units.length
  · obtain ⟨h1, h2, h3⟩ := h
    obtain ⟨j, rfl⟩ : ∃ j : Nat, i = (j : Int) := ⟨i.toNat, by omega⟩
    have e1 : gWi L x (j : Int) = ((wishU L x (gu x.units j) : Nat) : Int) := by unfold gWi; rw [if_pos ⟨h1, h2, h3⟩, Int.toNat_natCast]
    have e2 : gWe L x (j : Int) = 0 := by unfold gWe; rw [if_neg (fun c => c h1), if_neg (by omega)]
    rw [e1, e2]
    exact wwish_ok sK L s x j w hK hW (worldE_0 h1) (by omega)
  · have hno : worldE L x ≠ 0 ∨ i < 0 ∨ (x.units.length : Int) ≤ i := by
      by_cases c : worldE L x = 0
      · right; omega
      · exact .inl c
    have e1 : gWi L x i = 0 := by unfold gWi; rw [if_neg h]
    have e2 : gWe L x i ≠ 0 := by
      unfold gWe
      split
      · assumption
      · rw [if_pos (hno.resolve_left (by assumption))]; decide
    rw [e1, errV_ne e2]
    exact wwish_e sK L s x i w hK hW hno
set_option maxHeartbeats 12800000 in
set_option maxRecDepth 100000 in
theorem moveGoes_in (sK : SL) (L : List GK) (s : SW) (x : GW) (i : Int) (w : World) (hv : HV w) (hK : KS w w.heap.size sK L) (hW : WOk w s x) :
    Calls Tryz.prog 4 #[.slice sK.A L.length sK.c, .agg #[.int .i64 x.turn, .int .i64 x.next, .int .i64 x.field.wide, .int .i64 x.field.high, .slice s.field.ground.A x.field.ground.length s.field.ground.c, .slice s.field.ore.A x.field.ore.length s.field.ore.c, .slice s.gold.A x.gold.length s.gold.c, .slice s.units.A x.units.length s.units.c, .slice s.queue.A x.queue.length s.queue.c], .int .i64 i] w fun e w' => e = .returned (.bool true) ∧ Below w.heap.size w w' := by
  have hB : MgB w (w.alloc (.cells #[.int .i64 x.turn, .int .i64 x.next, .int .i64 x.field.wide, .int .i64 x.field.high, .slice s.field.ground.A x.field.ground.length s.field.ground.c, .slice s.field.ore.A x.field.ore.length s.field.ore.c, .slice s.gold.A x.gold.length s.gold.c, .slice s.units.A x.units.length s.units.c, .slice s.queue.A x.queue.length s.queue.c] 29)) sK L s x w.heap.size := ⟨(Below.refl _ _).alloc (Nat.le_refl _) _, Blk.new _ _ _, hK, hW, hv, Nat.le_refl _⟩
  have hgl := @gM_len L x
  have hul := hW.ulen
  obtain ⟨Y, EV', hY⟩ : ∃ Y EV', gM L x = (Y, EV') := ⟨_, _, rfl⟩
  rw [hY] at hgl
  dsimp only at hgl
  replace hgl := Lib.hid hgl
  replace hY := Lib.hid hY
  replace hB := Lib.hid hB
  clear hK hW hv
  go_enter Tryz.func4, Tryz.ntmps4
  go_upto_region 1 with fail
  generalize (w.alloc (.cells #[.int .i64 x.turn, .int .i64 x.next, .int .i64 x.field.wide, .int .i64 x.field.high, .slice s.field.ground.A x.field.ground.length s.field.ground.c, .slice s.field.ore.A x.field.ore.length s.field.ore.c, .slice s.gold.A x.gold.length s.gold.c, .slice s.units.A x.units.length s.units.c, .slice s.queue.A x.queue.length s.queue.c] 29)) = W at *
  obtain ⟨wb, hwb⟩ : ∃ wb, w.heap.size = wb := ⟨_, rfl⟩
  rw [hwb] at hB
  rw [hwb]
  replace hB : MgB w W sK L s x wb := hB.out
  replace hB := Lib.hid hB
  replace hwb := Lib.hid hwb
  obtain ⟨E, hE⟩ : ∃ E, worldE L x = E := ⟨_, rfl⟩
  have hc : Calls Tryz.prog 11 #[.slice sK.A L.length sK.c, .agg #[.int .i64 x.turn, .int .i64 x.next, .int .i64 x.field.wide, .int .i64 x.field.high, .slice s.field.ground.A x.field.ground.length s.field.ground.c, .slice s.field.ore.A x.field.ore.length s.field.ore.c, .slice s.gold.A x.gold.length s.gold.c, .slice s.units.A x.units.length s.units.c, .slice s.queue.A x.queue.length s.queue.c]] W fun e w' => e = .returned (.int .i64 (worldE L x)) ∧ Below W.heap.size W w' := rwcheck_any sK L s x W hB.out.ks_ hB.out.wo_
  rw [hE] at hc
  replace hc := Lib.hid hc
  replace hE := Lib.hid hE
  obtain ⟨m0, m1, m2, m3, m4, m5, m6, m7, m8, mll⟩ := hB.out.cells
  go_upto_region 2 with (go_at_call 11; refine hc.out.mono ?_; clear m0 m1 m2 m3 m4 m5 m6 m7 m8 mll; rintro e W2 ⟨rfl, hb⟩)
  clear hc
  replace hB := Lib.hid (hB.out.below hb)
  clear hb
  go_upto_region 3 with fail
  have hP : Blk (W2.alloc (.cells #[.int .i64 0, .int .i64 0, .int .i64 0, .int .i64 0, .slice none 0 0, .slice none 0 0, .slice none 0 0, .slice none 0 0, .slice none 0 0] 29)) W2.heap.size 29 #[.int .i64 0, .int .i64 0, .int .i64 0, .int .i64 0, .slice none 0 0, .slice none 0 0, .slice none 0 0, .slice none 0 0, .slice none 0 0] := Blk.new _ _ _
  have hpw : w.heap.size ≤ W2.heap.size := hB.out.b.size
  have hwp : wb ≠ W2.heap.size := by have := hB.out.kw.lt; omega
  have hBn := hB.out.alloc (.cells #[.int .i64 0, .int .i64 0, .int .i64 0, .int .i64 0, .slice none 0 0, .slice none 0 0, .slice none 0 0, .slice none 0 0, .slice none 0 0] 29)
  clear hB
  have hB := Lib.hid hBn
  clear hBn
  generalize (W2.alloc (.cells #[.int .i64 0, .int .i64 0, .int .i64 0, .int .i64 0, .slice none 0 0, .slice none 0 0, .slice none 0 0, .slice none 0 0, .slice none 0 0] 29)) = W3 at *
  obtain ⟨pb, hpb⟩ : ∃ pb, W2.heap.size = pb := ⟨_, rfl⟩
  rw [hpb] at hP hpw hwp ⊢
  clear hpb
  have hPl : Hid (pb < W3.heap.size) := Lib.hid hP.lt
  replace hP := Lib.hid hP
  replace hpw := Lib.hid hpw
  replace hwp := Lib.hid hwp
  go_upto_if 24 with fail
  go_cut [9] (fun v9 wx0 => ∃ wx, wx = wx0 ∧ ∃ s1 A c, v9 = .slice A EV'.length c ∧ Hid (MgB w wx sK L s x wb) ∧ Hid (Blk wx pb 29 #[.int .i64 Y.turn, .int .i64 Y.next, .int .i64 Y.field.wide, .int .i64 Y.field.high, .slice s1.field.ground.A Y.field.ground.length s1.field.ground.c, .slice s1.field.ore.A Y.field.ore.length s1.field.ore.c, .slice s1.gold.A Y.gold.length s1.gold.c, .slice s1.units.A Y.units.length s1.units.c, .slice s1.queue.A Y.queue.length s1.queue.c]) ∧ Hid (WRd wx wx.heap.size s1 Y) ∧ Hid (RE wx wx.heap.size A EV'))
  case first =>
    as_aux_lemma =>
    by_cases z : E = 0
    · as_aux_lemma =>
      have z1 : (E == 0) = true := by simp [z]
      have hx := worldE_0 (hE.out.trans z)
      have hYd : doL L x = (Y, EV') := by have := hY.out; unfold gM at this; rw [if_pos (hE.out.trans z)] at this; exact this
      have hrm := rmove_any sK L s x W3 hB.out.ks_ hB.out.wo_ hx
      rw [hYd] at hrm
      dsimp only at hrm
      replace hrm := Lib.hid hrm
      replace z := Lib.hid z
      replace hYd := Lib.hid hYd
      replace hx := Lib.hid hx
      obtain ⟨m0, m1, m2, m3, m4, m5, m6, m7, m8, mll⟩ := hB.out.cells
      go_wp2_with fail
      refine hrm.out.mono ?_
      clear hrm m0 m1 m2 m3 m4 m5 m6 m7 m8 mll
      rintro e W4 ⟨s1, A, c, rfl, h1, _, h3, hb⟩
      replace hB := Lib.hid (hB.out.below hb)
      replace hP := Lib.hid (hP.out.below hb hP.out.lt)
      have hpl : pb < W3.heap.size := hPl.out
      have hpw2 := hpw.out
      have hwp2 := hwp.out
      have hBn : MgB w (W4.setRow pb #[.int .i64 Y.turn, .int .i64 Y.next, .int .i64 Y.field.wide, .int .i64 Y.field.high, .slice s1.field.ground.A Y.field.ground.length s1.field.ground.c, .slice s1.field.ore.A Y.field.ore.length s1.field.ore.c, .slice s1.gold.A Y.gold.length s1.gold.c, .slice s1.units.A Y.units.length s1.units.c, .slice s1.queue.A Y.queue.length s1.queue.c]) sK L s x wb := hB.out.row hpw2 hwp2 _
      have hPn : Blk (W4.setRow pb #[.int .i64 Y.turn, .int .i64 Y.next, .int .i64 Y.field.wide, .int .i64 Y.field.high, .slice s1.field.ground.A Y.field.ground.length s1.field.ground.c, .slice s1.field.ore.A Y.field.ore.length s1.field.ore.c, .slice s1.gold.A Y.gold.length s1.gold.c, .slice s1.units.A Y.units.length s1.units.c, .slice s1.queue.A Y.queue.length s1.queue.c]) pb 29 #[.int .i64 Y.turn, .int .i64 Y.next, .int .i64 Y.field.wide, .int .i64 Y.field.high, .slice s1.field.ground.A Y.field.ground.length s1.field.ground.c, .slice s1.field.ore.A Y.field.ore.length s1.field.ore.c, .slice s1.gold.A Y.gold.length s1.gold.c, .slice s1.units.A Y.units.length s1.units.c, .slice s1.queue.A Y.queue.length s1.queue.c] := setRow_heap W4 pb _ _ _ _ hP.out
      have hOn : WOwn (W4.setRow pb #[.int .i64 Y.turn, .int .i64 Y.next, .int .i64 Y.field.wide, .int .i64 Y.field.high, .slice s1.field.ground.A Y.field.ground.length s1.field.ground.c, .slice s1.field.ore.A Y.field.ore.length s1.field.ore.c, .slice s1.gold.A Y.gold.length s1.gold.c, .slice s1.units.A Y.units.length s1.units.c, .slice s1.queue.A Y.queue.length s1.queue.c]) W3.heap.size s1 Y := ⟨own_rowM h1.g hpl, own_rowM h1.o hpl, own_rowM h1.d hpl, own_rowM h1.u hpl, own_rowM h1.q hpl⟩
      have hEn : World.ownsRow (W4.setRow pb #[.int .i64 Y.turn, .int .i64 Y.next, .int .i64 Y.field.wide, .int .i64 Y.field.high, .slice s1.field.ground.A Y.field.ground.length s1.field.ground.c, .slice s1.field.ore.A Y.field.ore.length s1.field.ore.c, .slice s1.gold.A Y.gold.length s1.gold.c, .slice s1.units.A Y.units.length s1.units.c, .slice s1.queue.A Y.queue.length s1.queue.c]) W3.heap.size 77 3 (.slice A EV'.length c) EV'.length (EV'.flatMap eC) := own_rowM h3 hpl
      replace hBn := Lib.hid hBn
      replace hPn := Lib.hid hPn
      replace hOn := Lib.hid hOn
      replace hEn := Lib.hid hEn
      clear h1 h3 hb hB
      go_wp2_with (refine wpList_store_row rfl 29 (.tmp 8) (.tmp 29) rfl pb #[.int .i64 Y.turn, .int .i64 Y.next, .int .i64 Y.field.wide, .int .i64 Y.field.high, .slice s1.field.ground.A Y.field.ground.length s1.field.ground.c, .slice s1.field.ore.A Y.field.ore.length s1.field.ore.c, .slice s1.gold.A Y.gold.length s1.gold.c, .slice s1.units.A Y.units.length s1.units.c, .slice s1.queue.A Y.queue.length s1.queue.c] rfl rfl 29 _ hP.out (by kernel_rfl) rfl (by simp [Value.oneCell']) ?_)
      go_meet
      exact ⟨_, rfl, s1, A, c, rfl, hBn, hPn, Lib.hid (wrd_own hOn.out), Lib.hid (RD.of_own hEn.out)⟩
    · as_aux_lemma =>
      have z1 : (E == 0) = false := by simp [z]
      have hYd : Y = zeroM ∧ EV' = [] := by have := hY.out; unfold gM at this; rw [if_neg (fun c => z (hE.out.symm.trans c))] at this; injection this with h1 h2; exact ⟨h1.symm, h2.symm⟩
      obtain ⟨rfl, rfl⟩ := hYd
      replace z := Lib.hid z
      go_wp2_with fail
      go_meet
      exact ⟨_, rfl, nilM, none, 0, rfl, hB, hP, Lib.hid (wrd_zero _), Lib.hid RD.nil_⟩
  case rest =>
  obtain ⟨W4, rfl, s1, A1, c1, rfl, hB, hP, hR1, hV1⟩ := hcut
  have hc := gmove_any sK L s x W4 hB.out.ks_ hB.out.wo_
  rw [hE.out, hY.out] at hc
  dsimp only at hc
  replace hc := Lib.hid hc
  obtain ⟨m0, m1, m2, m3, m4, m5, m6, m7, m8, mll⟩ := hB.out.cells
  go_upto_region 7 with (go_at_call 17; refine hc.out.mono ?_; clear m0 m1 m2 m3 m4 m5 m6 m7 m8 mll; rintro e W5 ⟨s2, A2, c2, rfl, hR2, hV2, hb⟩)
  clear hc
  replace hB := Lib.hid (hB.out.below hb)
  replace hP := Lib.hid (hP.out.below hb hP.out.lt)
  replace hR1 := Lib.hid ((hR1.out.below hb).more hb.size)
  replace hV1 := Lib.hid (RD.more (RD.below hV1.out hb) hb.size)
  have hal : Below W5.heap.size W5 (W5.alloc (.cells #[.int .i64 Y.turn, .int .i64 Y.next, .int .i64 Y.field.wide, .int .i64 Y.field.high, .slice s2.field.ground.A Y.field.ground.length s2.field.ground.c, .slice s2.field.ore.A Y.field.ore.length s2.field.ore.c, .slice s2.gold.A Y.gold.length s2.gold.c, .slice s2.units.A Y.units.length s2.units.c, .slice s2.queue.A Y.queue.length s2.queue.c] 29)) := (Below.refl _ _).alloc (Nat.le_refl _) _
  have hX : Blk (W5.alloc (.cells #[.int .i64 Y.turn, .int .i64 Y.next, .int .i64 Y.field.wide, .int .i64 Y.field.high, .slice s2.field.ground.A Y.field.ground.length s2.field.ground.c, .slice s2.field.ore.A Y.field.ore.length s2.field.ore.c, .slice s2.gold.A Y.gold.length s2.gold.c, .slice s2.units.A Y.units.length s2.units.c, .slice s2.queue.A Y.queue.length s2.queue.c] 29)) W5.heap.size 29 #[.int .i64 Y.turn, .int .i64 Y.next, .int .i64 Y.field.wide, .int .i64 Y.field.high, .slice s2.field.ground.A Y.field.ground.length s2.field.ground.c, .slice s2.field.ore.A Y.field.ore.length s2.field.ore.c, .slice s2.gold.A Y.gold.length s2.gold.c, .slice s2.units.A Y.units.length s2.units.c, .slice s2.queue.A Y.queue.length s2.queue.c] := Blk.new _ _ _
  replace hB := Lib.hid (hB.out.below hal)
  replace hP := Lib.hid (hP.out.below hal hP.out.lt)
  replace hR1 := Lib.hid ((hR1.out.below hal).more hal.size)
  replace hV1 := Lib.hid (RD.more (RD.below hV1.out hal) hal.size)
  replace hR2 := Lib.hid ((hR2.below hal).more hal.size)
  replace hV2 := Lib.hid (RD.more (RD.below hV2 hal) hal.size)
  clear hal hb
  generalize (W5.alloc (.cells #[.int .i64 Y.turn, .int .i64 Y.next, .int .i64 Y.field.wide, .int .i64 Y.field.high, .slice s2.field.ground.A Y.field.ground.length s2.field.ground.c, .slice s2.field.ore.A Y.field.ore.length s2.field.ore.c, .slice s2.gold.A Y.gold.length s2.gold.c, .slice s2.units.A Y.units.length s2.units.c, .slice s2.queue.A Y.queue.length s2.queue.c] 29)) = W6 at *
  obtain ⟨xb, hxb⟩ : ∃ xb, W5.heap.size = xb := ⟨_, rfl⟩
  rw [hxb] at hX ⊢
  clear hxb
  replace hX := Lib.hid hX
  have hc : Calls Tryz.prog 9 #[errV E, .int .i64 E] W6 fun e w' => e = .returned (.bool true) ∧ Below W6.heap.size W6 w' := error_same E W6 hB.out.hv_
  replace hc := Lib.hid hc
  go_upto_region 8 with (go_at_call 9; refine hc.out.mono ?_; rintro e W7 ⟨rfl, hb⟩)
  clear hc
  replace hB := Lib.hid (hB.out.below hb)
  replace hX := Lib.hid (hX.out.below hb hX.out.lt)
  replace hP := Lib.hid (hP.out.below hb hP.out.lt)
  replace hR1 := Lib.hid ((hR1.out.below hb).more hb.size)
  replace hR2 := Lib.hid ((hR2.out.below hb).more hb.size)
  replace hV1 := Lib.hid (RD.more (RD.below hV1.out hb) hb.size)
  replace hV2 := Lib.hid (RD.more (RD.below hV2.out hb) hb.size)
  clear hb
  have hc : Calls Tryz.prog 10 #[.agg #[.int .i64 Y.turn, .int .i64 Y.next, .int .i64 Y.field.wide, .int .i64 Y.field.high, .slice s2.field.ground.A Y.field.ground.length s2.field.ground.c, .slice s2.field.ore.A Y.field.ore.length s2.field.ore.c, .slice s2.gold.A Y.gold.length s2.gold.c, .slice s2.units.A Y.units.length s2.units.c, .slice s2.queue.A Y.queue.length s2.queue.c], .agg #[.int .i64 Y.turn, .int .i64 Y.next, .int .i64 Y.field.wide, .int .i64 Y.field.high, .slice s1.field.ground.A Y.field.ground.length s1.field.ground.c, .slice s1.field.ore.A Y.field.ore.length s1.field.ore.c, .slice s1.gold.A Y.gold.length s1.gold.c, .slice s1.units.A Y.units.length s1.units.c, .slice s1.queue.A Y.queue.length s1.queue.c]] W7 fun e w' => e = .returned (.bool true) ∧ Below W7.heap.size W7 w' := samew_eq s2 s1 Y W7 W7.heap.size hR2.out hR1.out (by have := hgl.out; omega) (by have := hgl.out; omega) (by have := hgl.out; omega) (by have := hgl.out; omega) (by have := hgl.out; omega) (Nat.le_refl _)
  replace hc := Lib.hid hc
  have q0 : W7.cell? ⟨xb, 0, none⟩ = some (.int .i64 Y.turn) := hX.out.cell 0
  have y0 : W7.cell? ⟨pb, 0, none⟩ = some (.int .i64 Y.turn) := hP.out.cell 0
  have q1 : W7.cell? ⟨xb, 1, none⟩ = some (.int .i64 Y.next) := hX.out.cell 1
  have y1 : W7.cell? ⟨pb, 1, none⟩ = some (.int .i64 Y.next) := hP.out.cell 1
  have q2 : W7.cell? ⟨xb, 2, none⟩ = some (.int .i64 Y.field.wide) := hX.out.cell 2
  have y2 : W7.cell? ⟨pb, 2, none⟩ = some (.int .i64 Y.field.wide) := hP.out.cell 2
  have q3 : W7.cell? ⟨xb, 3, none⟩ = some (.int .i64 Y.field.high) := hX.out.cell 3
  have y3 : W7.cell? ⟨pb, 3, none⟩ = some (.int .i64 Y.field.high) := hP.out.cell 3
  have q4 : W7.cell? ⟨xb, 4, none⟩ = some (.slice s2.field.ground.A Y.field.ground.length s2.field.ground.c) := hX.out.cell 4
  have y4 : W7.cell? ⟨pb, 4, none⟩ = some (.slice s1.field.ground.A Y.field.ground.length s1.field.ground.c) := hP.out.cell 4
  have q5 : W7.cell? ⟨xb, 5, none⟩ = some (.slice s2.field.ore.A Y.field.ore.length s2.field.ore.c) := hX.out.cell 5
  have y5 : W7.cell? ⟨pb, 5, none⟩ = some (.slice s1.field.ore.A Y.field.ore.length s1.field.ore.c) := hP.out.cell 5
  have q6 : W7.cell? ⟨xb, 6, none⟩ = some (.slice s2.gold.A Y.gold.length s2.gold.c) := hX.out.cell 6
  have y6 : W7.cell? ⟨pb, 6, none⟩ = some (.slice s1.gold.A Y.gold.length s1.gold.c) := hP.out.cell 6
  have q7 : W7.cell? ⟨xb, 7, none⟩ = some (.slice s2.units.A Y.units.length s2.units.c) := hX.out.cell 7
  have y7 : W7.cell? ⟨pb, 7, none⟩ = some (.slice s1.units.A Y.units.length s1.units.c) := hP.out.cell 7
  have q8 : W7.cell? ⟨xb, 8, none⟩ = some (.slice s2.queue.A Y.queue.length s2.queue.c) := hX.out.cell 8
  have y8 : W7.cell? ⟨pb, 8, none⟩ = some (.slice s1.queue.A Y.queue.length s1.queue.c) := hP.out.cell 8
  have ql := hX.out.lt
  have yl := hP.out.lt
  go_upto_region 9 with (go_at_call 10; refine hc.out.mono ?_; clear q0 y0 q1 y1 q2 y2 q3 y3 q4 y4 q5 y5 q6 y6 q7 y7 q8 y8 ql yl; rintro e W8 ⟨rfl, hb⟩)
  clear hc hX hP hR1 hR2
  replace hB := Lib.hid (hB.out.below hb)
  replace hV1 := Lib.hid (RD.more (RD.below hV1.out hb) hb.size)
  replace hV2 := Lib.hid (RD.more (RD.below hV2.out hb) hb.size)
  clear hb
  have hc := samee_eq A2 A1 c2 c1 EV' W8 hV2.out hV1.out (by have := hgl.out; omega)
  replace hc := Lib.hid hc
  go_upto_region 10 with (go_at_call 18; refine hc.out.mono ?_; rintro e W9 ⟨rfl, hb⟩)
  clear hc hV1 hV2
  replace hB := Lib.hid (hB.out.below hb)
  clear hb
  obtain ⟨F, hF⟩ : ∃ F, gWe L x i = F := ⟨_, rfl⟩
  obtain ⟨T, hT⟩ : ∃ T, gWi L x i = T := ⟨_, rfl⟩
  replace hF := Lib.hid hF
  replace hT := Lib.hid hT
  obtain ⟨m0, m1, m2, m3, m4, m5, m6, m7, m8, mll⟩ := hB.out.cells
  go_upto_region 11 with fail
  obtain ⟨bI, hbI⟩ : ∃ bI : Bool, bI = decide (E = 0 ∧ (i < 0 ∨ (x.units.length : Int) ≤ i)) := ⟨_, rfl⟩
  replace hbI := Lib.hid hbI
  go_cut [59] (fun v wx => v = .bool bI ∧ W9 = wx)
  case first =>
    as_aux_lemma =>
    by_cases z : E = 0
    · have z1 : (E == 0) = true := by simp [z]
      by_cases z2 : i < 0
      · have d2 : decide (i < 0) = true := decide_eq_true z2
        have hb2 : Hid (bI = true) := Lib.hid (by rw [hbI.out]; exact decide_eq_true ⟨z, .inl z2⟩)
        replace z := Lib.hid z
        replace z2 := Lib.hid z2
        go_wp2_with fail
        go_meet
        exact ⟨by rw [hb2.out], rfl⟩
      have d2 : decide (i < 0) = false := decide_eq_false z2
      by_cases z3 : (x.units.length : Int) ≤ i
      · have d3 : decide ((x.units.length : Int) ≤ i) = true := decide_eq_true z3
        have hb2 : Hid (bI = true) := Lib.hid (by rw [hbI.out]; exact decide_eq_true ⟨z, .inr z3⟩)
        replace z := Lib.hid z
        replace z2 := Lib.hid z2
        replace z3 := Lib.hid z3
        go_wp2_with fail
        go_meet
        exact ⟨by rw [hb2.out], rfl⟩
      · have d3 : decide ((x.units.length : Int) ≤ i) = false := decide_eq_false z3
        have hb2 : Hid (bI = false) := Lib.hid (by rw [hbI.out]; exact decide_eq_false (fun c => by rcases c.2 with c | c; exact z2 c; exact z3 c))
        replace z := Lib.hid z
        replace z2 := Lib.hid z2
        replace z3 := Lib.hid z3
        go_wp2_with fail
        go_meet
        exact ⟨by rw [hb2.out], rfl⟩
    · have z1 : (E == 0) = false := by simp [z]
      have hb2 : Hid (bI = false) := Lib.hid (by rw [hbI.out]; exact decide_eq_false (fun c => z c.1))
      replace z := Lib.hid z
      go_wp2_with fail
      go_meet
      exact ⟨by rw [hb2.out], rfl⟩
  case rest =>
  obtain ⟨rfl, rfl⟩ := hcut
  go_upto_if 59 with fail
  go_cut [7] (fun v wx => v = .int .i64 F ∧ W9 = wx)
  case first =>
    as_aux_lemma =>
    have hFe := hF.out
    unfold gWe at hFe
    rw [hE.out] at hFe
    cases bI with
    | true =>
      have hp := of_decide_eq_true hbI.out.symm
      rw [if_neg (fun c => c hp.1), if_pos hp.2] at hFe
      subst hFe
      replace hp := Lib.hid hp
      go_wp2_with fail
      go_meet
      exact ⟨rfl, rfl⟩
    | false =>
      have hp := of_decide_eq_false hbI.out.symm
      have hEF : E = F := by
        by_cases z : E = 0
        · rw [if_neg (fun c => c z), if_neg (fun c => hp ⟨z, c⟩)] at hFe; omega
        · rw [if_pos z] at hFe; exact hFe
      replace hp := Lib.hid hp
      replace hFe := Lib.hid hFe
      replace hEF := Lib.hid hEF
      go_wp2_with fail
      go_meet
      exact ⟨by rw [hEF.out], rfl⟩
  case rest =>
  obtain ⟨rfl, rfl⟩ := hcut
  go_upto_if 61 with fail
  go_cut [16] (fun v wx0 => ∃ wx, wx = wx0 ∧ v = .int .i64 T ∧ Hid (MgB w wx sK L s x wb))
  case first =>
    as_aux_lemma =>
    by_cases z : F = 0
    · have z1 : (F == 0) = true := by simp [z]
      have hFe := hF.out.trans z
      unfold gWe at hFe
      have hE0 : worldE L x = 0 := by
        by_cases c : worldE L x = 0
        · exact c
        · rw [if_pos c] at hFe; exact absurd hFe c
      rw [if_neg (fun c => c hE0)] at hFe
      have hi : ¬ (i < 0 ∨ (x.units.length : Int) ≤ i) := fun c => by rw [if_pos c] at hFe; cases hFe
      have hT2 := hT.out
      unfold gWi at hT2
      rw [if_pos ⟨hE0, by omega, by omega⟩] at hT2
      have hok := worldE_0 hE0
      obtain ⟨j, rfl⟩ : ∃ j : Nat, i = (j : Int) := ⟨i.toNat, by omega⟩
      rw [Int.toNat_natCast] at hT2
      have hjl : j < x.units.length := by omega
      have hc := rwish_any sK L s x j W9 hB.out.ks_ hB.out.wo_ hok.wm hjl (unitE_ok (hok.units j hjl)).task
      rw [hT2] at hc
      replace hc := Lib.hid hc
      clear hT2 hFe hi
      replace hok := Lib.hid hok
      replace hE0 := Lib.hid hE0
      replace z := Lib.hid z
      go_wp2_with fail
      refine hc.out.mono ?_
      clear m0 m1 m2 m3 m4 m5 m6 m7 m8 mll
      rintro e W10 ⟨rfl, hb⟩
      replace hB := Lib.hid (hB.out.below hb)
      clear hb hc
      go_wp2_with fail
      go_meet
      exact ⟨_, rfl, rfl, hB⟩
    · have z1 : (F == 0) = false := by simp [z]
      have hT0 : T = 0 := by
        rw [← hT.out]
        unfold gWi
        refine if_neg (fun c => z ?_)
        rw [← hF.out]
        unfold gWe
        rw [if_neg (fun d => d c.1), if_neg (by omega)]
      subst hT0
      replace z := Lib.hid z
      go_wp2_with fail
      go_meet
      exact ⟨_, rfl, rfl, hB⟩
  case rest =>
  clear m0 m1 m2 m3 m4 m5 m6 m7 m8 mll
  obtain ⟨W10, rfl, rfl, hB⟩ := hcut
  have hc := gwish_any sK L s x i W10 hB.out.ks_ hB.out.wo_
  rw [hT.out, hF.out] at hc
  replace hc := Lib.hid hc
  obtain ⟨m0, m1, m2, m3, m4, m5, m6, m7, m8, mll⟩ := hB.out.cells
  go_upto_region 16 with (go_at_call 20; refine hc.out.mono ?_; clear m0 m1 m2 m3 m4 m5 m6 m7 m8 mll; rintro e W11 ⟨rfl, hb⟩)
  clear hc
  replace hB := Lib.hid (hB.out.below hb)
  clear hb
  have hc : Calls Tryz.prog 9 #[errV F, .int .i64 F] W11 fun e w' => e = .returned (.bool true) ∧ Below W11.heap.size W11 w' := error_same F W11 hB.out.hv_
  replace hc := Lib.hid hc
  have hbf := hB.out.b
  replace hbf := Lib.hid hbf
  have q4 : (T == T) = true := by simp
  go_wp2_with fail
  refine hc.out.mono ?_
  rintro e W12 ⟨rfl, hb⟩
  have hbg := hbf.out.trans (hb.mono hbf.out.size)
  replace hbg := Lib.hid hbg
  clear hb
  go_wp2_with fail
  go_ret
  exact ⟨rfl, hbg.out⟩
theorem moveGoes_any (v0 : Value) (x0 : SL × List GK) (v1 : Value) (x1 : SW × GW) (a2 : Int) (w : World) (hv : HV w) (h0 : v0 = .slice x0.1.A x0.2.length x0.1.c ∧ SLK w x0.1 x0.2) (h1 : v1 = .agg (wV x1.1 x1.2).toArray ∧ WOk w x1.1 x1.2) (h2 : (Lit.int .i64 a2).wf = true) :
    Calls Tryz.prog 4 #[v0, v1, .int .i64 a2] w fun e w' => e = .returned (.bool true) ∧ Below w.heap.size w w' := by
  obtain ⟨rfl, hK⟩ := h0
  obtain ⟨rfl, hW⟩ := h1
  exact moveGoes_in x0.1 x0.2 x1.1 x1.2 a2 w hv hK.ks hW
end Go.Proofs.YtkgkpggfoieioaaGreatDoor
