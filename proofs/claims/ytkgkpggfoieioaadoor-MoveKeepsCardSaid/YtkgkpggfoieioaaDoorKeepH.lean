import Derived.Test.YtkgkpggfoieioaaDoorSmall2W
import Derived.Test.YtkgkpggfoieioaaDoorMoveA
import Derived.Test.YtkgkpggfoieioaaDoorPlainMf
import Derived.Test.YtkgkpggfoieioaaDoorRefFind
import Derived.Test.YtkgkpggfoieioaaDoorNear
import Derived.Test.YtkgkpggfoieioaaDoorSameW
import Derived.Test.YtkgkpggfoieioaaDoorSpread
import Derived.Laws.Tables
import Derived.Laws.CopyOwn
namespace Go.Proofs.YtkgkpggfoieioaaDoor
set_option linter.unusedVariables false
open Go.RowKit
/-! MoveKeeps: the fact's move; right. -/
theorem WOwn.setJ {w : World} {B : Nat} {s : SW} {x : GW} {g i j : Nat} {u : GU} {n : Int} (h : WOwn w B s x) (hA : s.units.A = some ⟨g, 0, none⟩) (hi : i < x.units.length) (hj : j < 8) (hu : uC u = (uC (gu x.units i)).set j (.int .i64 n)) :
    WOwn (w.setCell ⟨g, i * 8 + j, none⟩ (.int .i64 n)) B s (setU x i u) := by
  have ho : w.ownsRow B 33 8 (.slice (some ⟨g, 0, none⟩) x.units.length s.units.c) x.units.length (x.units.flatMap uC) := by have := h.u; rw [hA] at this; exact this
  have hst := ho.stored (i * 8 + j) (.int .i64 n)
  have hlen : (setU x i u).units.length = x.units.length := setU_len x i u
  have far : ∀ {sz m : Nat} {e : TypeId} {v : Value} {ys : List Value}, w.ownsRow B e sz v m ys → e ≠ 33 → (w.setCell ⟨g, i * 8 + j, none⟩ (.int .i64 n)).ownsRow B e sz v m ys := fun hr hne =>
    hr.kept hst.2 (own_ne (fun e => hne e.symm) ho hr)
  refine ⟨far h.g (by decide), far h.o (by decide), far h.d (by decide), ?_, far h.q (by decide)⟩
  rw [hlen, hA]
  show (w.setCell ⟨g, i * 8 + j, none⟩ (.int .i64 n)).ownsRow B 33 8 (.slice (some ⟨g, 0, none⟩) x.units.length s.units.c) x.units.length ((x.units.set i u).flatMap uC)
  rw [flat_set hi hj hu]
  exact hst.1
theorem wrd_ownK {w : World} {b : Nat} {s : SW} {x : GW} (h : WOwn w b s x) : WRd w w.heap.size s x := ⟨RD.of_own h.g, RD.of_own h.o, RD.of_own h.d, RD.of_own h.u, RD.of_own h.q⟩
theorem own_rowK {w : World} {base n sz b : Nat} {e : TypeId} {v : Value} {xs : List Value} {cs : Array Value} (ho : w.ownsRow base e sz v n xs) (hb : b < base) : (w.setRow b cs).ownsRow base e sz v n xs :=
  ⟨ho.1, ho.2.imp id (fun ⟨g, cap, cur, hv, hbg, hh, r⟩ => ⟨g, cap, cur, hv, hbg, (setRow_other w b g cs (by omega)).trans hh, r⟩)⟩
theorem WOwn.rowK {w : World} {B b : Nat} {s : SW} {x : GW} {cs : Array Value} (h : WOwn w B s x) (hb : b < B) : WOwn (w.setRow b cs) B s x := ⟨own_rowK h.g hb, own_rowK h.o hb, own_rowK h.d hb, own_rowK h.u hb, own_rowK h.q hb⟩
theorem WRd.rowK {w : World} {B b : Nat} {s : SW} {x : GW} {cs : Array Value} (h : WRd w B s x) (hb : B ≤ b) : WRd (w.setRow b cs) B s x := h.below (below_setRow (Below.refl _ _) hb cs)
theorem SBx.rowK {w0 w : World} {sK : SL} {L : List GK} {s : SW} {x : GW} {wb b : Nat} (h : SBx w0 w sK L s x wb) (hb : w0.heap.size ≤ b) (hne : wb ≠ b) (cs : Array Value) : SBx w0 (w.setRow b cs) sK L s x wb := ⟨below_setRow h.b hb cs, (setRow_other w b wb cs (by omega)).trans h.kw, h.ks, h.wo⟩
theorem SBx.farK {w0 w : World} {sK : SL} {L : List GK} {s : SW} {x : GW} {wb b i : Nat} {v : Value} (h : SBx w0 w sK L s x wb) (hp : w0.heap.size ≤ b) (hne : wb ≠ b) : SBx w0 (w.setCell ⟨b, i, none⟩ v) sK L s x wb :=
  ⟨h.b.setCell (p := ⟨b, i, none⟩) hp v, h.kw.far (p := ⟨b, i, none⟩) hne v, h.ks, h.wo⟩
/-- What the fact says, in letters. -/
structure KF (z z2 y : GW) : Prop where
  small : ∀ w : World, Calls Tryd.prog 44 #[] w fun e w' => ∃ s, e = .returned (.tuple #[.agg #[.int .i64 z.turn, .int .i64 z.next, .int .i64 z.field.wide, .int .i64 z.field.high, .slice s.field.ground.A z.field.ground.length s.field.ground.c, .slice s.field.ore.A z.field.ore.length s.field.ore.c, .slice s.gold.A z.gold.length s.gold.c, .slice s.units.A z.units.length s.units.c, .slice s.queue.A z.queue.length s.queue.c], .bool true]) ∧ WOwn w' w.heap.size s z ∧ Below w.heap.size w w'
  len : z.units.length = 3
  step : ∀ (w : World) (B : Nat) (s : SW) (g : Nat), WOwn w B s z → s.units.A = some ⟨g, 0, none⟩ → WOwn ((w.setCell ⟨g, 22, none⟩ (.int .i64 1)).setCell ⟨g, 23, none⟩ (.int .i64 2)) B s z2
  int : WInt z2
  move : ∀ (A : Option Addr) (c : Nat) (s : SW) (w : World), KS w w.heap.size ⟨A, c⟩ sortsL → WOk w s z2 → Calls Tryd.prog 49 #[.slice A 3 c, .agg #[.int .i64 z.turn, .int .i64 z.next, .int .i64 z.field.wide, .int .i64 z.field.high, .slice s.field.ground.A z.field.ground.length s.field.ground.c, .slice s.field.ore.A z.field.ore.length s.field.ore.c, .slice s.gold.A z.gold.length s.gold.c, .slice s.units.A z.units.length s.units.c, .slice s.queue.A z.queue.length s.queue.c]] w fun e w' => ∃ s' A' c', e = .returned (.tuple #[.agg #[.int .i64 y.turn, .int .i64 y.next, .int .i64 y.field.wide, .int .i64 y.field.high, .slice s'.field.ground.A y.field.ground.length s'.field.ground.c, .slice s'.field.ore.A y.field.ore.length s'.field.ore.c, .slice s'.gold.A y.gold.length s'.gold.c, .slice s'.units.A y.units.length s'.units.c, .slice s'.queue.A y.queue.length s'.queue.c], .slice A' 1 c', .nilIface]) ∧ WOwn w' w.heap.size s' y ∧ Below w.heap.size w w'
  ylen : y.units.length = 3
  spot : (gu y.units 2).spot = 2
  task : (gu y.units 2).task = 0
theorem fwM_int : WInt fwM := by
  have h := wintS42
  refine ⟨h.turn, h.next, h.wide, h.high, h.g, h.o, h.d, fun v hv => ?_, h.q⟩
  rcases List.mem_or_eq_of_mem_set hv with hv | rfl
  · exact h.u v hv
  · unfold GU.ok I64; decide
theorem keep_fact : ∃ z z2 y : GW, KF z z2 y := by
  refine ⟨xS4, fwM, setU fwM 2 uM3, fun w => small2_any w, by decide, fun w B s g h hA => ?_, fwM_int, fun A c s w hK hW => ?_, by decide, by decide, by decide⟩
  · have h1 := h.setJ (i := 2) (j := 6) (n := 1) (u := { gu xS4.units 2 with task := 1 }) hA (by decide) (by omega) rfl
    have h2 := h1.setJ (i := 2) (j := 7) (n := 2) (u := uM) hA (by decide) (by omega) rfl
    exact h2
  · refine (move_ok ⟨A, c⟩ sortsL s fwM w hK hW okM).mono ?_
    rw [doM]
    rintro e w' ⟨s', A', c', rfl, h1, _, _, h4⟩
    exact ⟨s', A', c', rfl, h1, h4⟩
theorem right_any (sK : SL) (L : List GK) (s : SW) (x : GW) (w : World) (hK : KS w w.heap.size sK L) (hW : WOk w s x) (hok : WorldOk L x) :
    Calls Tryd.prog 47 #[.slice sK.A L.length sK.c, .agg #[.int .i64 x.turn, .int .i64 x.next, .int .i64 x.field.wide, .int .i64 x.field.high, .slice s.field.ground.A x.field.ground.length s.field.ground.c, .slice s.field.ore.A x.field.ore.length s.field.ore.c, .slice s.gold.A x.gold.length s.gold.c, .slice s.units.A x.units.length s.units.c, .slice s.queue.A x.queue.length s.queue.c]] w fun e w' => e = .returned (.bool true) ∧ Below w.heap.size w w' := by
  have hB : SBx w (w.alloc (.cells #[.int .i64 x.turn, .int .i64 x.next, .int .i64 x.field.wide, .int .i64 x.field.high, .slice s.field.ground.A x.field.ground.length s.field.ground.c, .slice s.field.ore.A x.field.ore.length s.field.ore.c, .slice s.gold.A x.gold.length s.gold.c, .slice s.units.A x.units.length s.units.c, .slice s.queue.A x.queue.length s.queue.c] 55)) sK L s x w.heap.size := sbx_start w sK L s x hK hW
  have hwe := worldE_ok hok
  obtain ⟨sA, sc⟩ := sK
  dsimp only
  replace hB := Lib.hid hB
  clear hK hW hok
  go_enter Tryd.func47, Tryd.ntmps47
  go_upto_region 1 with fail
  generalize (w.alloc (.cells #[.int .i64 x.turn, .int .i64 x.next, .int .i64 x.field.wide, .int .i64 x.field.high, .slice s.field.ground.A x.field.ground.length s.field.ground.c, .slice s.field.ore.A x.field.ore.length s.field.ore.c, .slice s.gold.A x.gold.length s.gold.c, .slice s.units.A x.units.length s.units.c, .slice s.queue.A x.queue.length s.queue.c] 55)) = W at *
  obtain ⟨wb, hwb⟩ : ∃ wb, w.heap.size = wb := ⟨_, rfl⟩
  rw [hwb] at hB
  rw [hwb]
  replace hB : SBx w W ⟨sA, sc⟩ L s x wb := hB.out
  have hc : Calls Tryd.prog 28 #[.slice sA L.length sc, .agg #[.int .i64 x.turn, .int .i64 x.next, .int .i64 x.field.wide, .int .i64 x.field.high, .slice s.field.ground.A x.field.ground.length s.field.ground.c, .slice s.field.ore.A x.field.ore.length s.field.ore.c, .slice s.gold.A x.gold.length s.gold.c, .slice s.units.A x.units.length s.units.c, .slice s.queue.A x.queue.length s.queue.c]] W fun e w' => e = .returned (errV (worldE L x)) ∧ Below W.heap.size W w' := wcheck_any ⟨sA, sc⟩ L s x W hB.ks_ hB.wo_
  rw [hwe] at hc
  replace hc : Calls Tryd.prog 28 #[.slice sA L.length sc, .agg #[.int .i64 x.turn, .int .i64 x.next, .int .i64 x.field.wide, .int .i64 x.field.high, .slice s.field.ground.A x.field.ground.length s.field.ground.c, .slice s.field.ore.A x.field.ore.length s.field.ore.c, .slice s.gold.A x.gold.length s.gold.c, .slice s.units.A x.units.length s.units.c, .slice s.queue.A x.queue.length s.queue.c]] W fun e w' => e = .returned .nilIface ∧ Below W.heap.size W w' := hc
  obtain ⟨m0, m1, m2, m3, m4, m5, m6, m7, m8, mll⟩ := hB.cells
  have hbf := hB.b
  replace hbf := Lib.hid hbf
  replace hc := Lib.hid hc
  replace hwe := Lib.hid hwe
  replace hwb := Lib.hid hwb
  clear hB
  go_wp2_with fail
  refine hc.out.mono ?_
  clear m0 m1 m2 m3 m4 m5 m6 m7 m8 mll
  rintro e W2 ⟨rfl, hb⟩
  have hbg := hbf.out.trans (hb.mono hbf.out.size)
  replace hbg := Lib.hid hbg
  clear hb
  go_wp2_with fail
  go_ret
  exact ⟨rfl, hbg.out⟩
end Go.Proofs.YtkgkpggfoieioaaDoor
