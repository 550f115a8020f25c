import Derived.Test.YtkgkpggfoieioaaDoorMrgh
import Derived.Test.YtkgkpggfoieioaaDoorPlaceO
import Derived.Deep.CutBlock
import Derived.Laws.Tables
import Derived.Deep.DeepCutAuto
namespace Go.Proofs.YtkgkpggfoieioaaDoor
set_option linter.unusedVariables false
open Go.RowKit
/-! The small world of the facts: its walk. -/
def SortC2 : Prop := ∀ w : World, Calls Tryd.prog 46 #[] w fun e w' => ∃ A c, e = .returned (.slice A 3 c) ∧ KS w' w'.heap.size ⟨A, c⟩ sortsL ∧ Below w.heap.size w w'
def ParC2 (f : GF) : Prop := ∀ w : World, Calls Tryd.prog 72 #[.string ⟨#[46, 46, 46, 46, 10, 46, 46, 51, 46, 10]⟩] w fun e w' => ∃ s : SF, e = .returned (.tuple #[.agg #[.int .i64 f.wide, .int .i64 f.high, .slice s.ground.A f.ground.length s.ground.c, .slice s.ore.A f.ore.length s.ore.c], .int .i64 0, .nilIface]) ∧ FOk w' s f ∧ Below w.heap.size w w'
def NewC2 (f : GF) (x : GW) : Prop := ∀ (A : Option Addr) (c : Nat) (s : SF) (w : World), KS w w.heap.size ⟨A, c⟩ sortsL → FOk w s f → Calls Tryd.prog 73 #[.slice A 3 c, .agg #[.int .i64 f.wide, .int .i64 f.high, .slice s.ground.A f.ground.length s.ground.c, .slice s.ore.A f.ore.length s.ore.c], .int .i64 2, .int .i64 100] w fun e w' => ∃ s', e = .returned (.tuple #[.agg #[.int .i64 x.turn, .int .i64 x.next, .int .i64 x.field.wide, .int .i64 x.field.high, .slice s'.field.ground.A x.field.ground.length s'.field.ground.c, .slice s'.field.ore.A x.field.ore.length s'.field.ore.c, .slice s'.gold.A x.gold.length s'.gold.c, .slice s'.units.A x.units.length s'.units.c, .slice s'.queue.A x.queue.length s'.queue.c], .nilIface]) ∧ WOwn w' w.heap.size s' x ∧ Below w.heap.size w w'
def PutC2 (x y : GW) (p k a : Int) : Prop := ∀ (A : Option Addr) (c : Nat) (s : SW) (w : World), KS w w.heap.size ⟨A, c⟩ sortsL → WOk w s x → Calls Tryd.prog 27 #[.slice A 3 c, .agg #[.int .i64 x.turn, .int .i64 x.next, .int .i64 x.field.wide, .int .i64 x.field.high, .slice s.field.ground.A x.field.ground.length s.field.ground.c, .slice s.field.ore.A x.field.ore.length s.field.ore.c, .slice s.gold.A x.gold.length s.gold.c, .slice s.units.A x.units.length s.units.c, .slice s.queue.A x.queue.length s.queue.c], .int .i64 p, .int .i64 k, .int .i64 a] w fun e w' => ∃ s', e = .returned (.tuple #[.agg #[.int .i64 y.turn, .int .i64 y.next, .int .i64 y.field.wide, .int .i64 y.field.high, .slice s'.field.ground.A y.field.ground.length s'.field.ground.c, .slice s'.field.ore.A y.field.ore.length s'.field.ore.c, .slice s'.gold.A y.gold.length s'.gold.c, .slice s'.units.A y.units.length s'.units.c, .slice s'.queue.A y.queue.length s'.queue.c], .nilIface]) ∧ WOwn w' w.heap.size s' y ∧ Below w.heap.size w w'
structure SF02 (w0 w : World) (rb fb : Nat) (s : SF) (f : GF) : Prop where
  b : Below w0.heap.size w0 w
  kr : Blk w rb 55 #[.int .i64 0, .int .i64 0, .int .i64 0, .int .i64 0, .slice none 0 0, .slice none 0 0, .slice none 0 0, .slice none 0 0, .slice none 0 0]
  kf : Blk w fb 52 #[.int .i64 f.wide, .int .i64 f.high, .slice s.ground.A f.ground.length s.ground.c, .slice s.ore.A f.ore.length s.ore.c]
  fo : FOk w s f
  p1 : w0.heap.size ≤ rb
  p2 : rb < fb
structure SM2 (w0 w : World) (rb pb : Nat) (s : SW) (x : GW) : Prop where
  b : Below w0.heap.size w0 w
  kr : Blk w rb 55 #[.int .i64 0, .int .i64 0, .int .i64 0, .int .i64 0, .slice none 0 0, .slice none 0 0, .slice none 0 0, .slice none 0 0, .slice none 0 0]
  kp : Blk w pb 55 #[.int .i64 x.turn, .int .i64 x.next, .int .i64 x.field.wide, .int .i64 x.field.high, .slice s.field.ground.A x.field.ground.length s.field.ground.c, .slice s.field.ore.A x.field.ore.length s.field.ore.c, .slice s.gold.A x.gold.length s.gold.c, .slice s.units.A x.units.length s.units.c, .slice s.queue.A x.queue.length s.queue.c]
  own : WOwn w (rb + 1) s x
  p1 : w0.heap.size ≤ rb
  p2 : rb < pb
section
variable {w0 w w' : World} {rb fb pb : Nat} {s : SF} {f : GF} {s' s2 : SW} {x y : GW}
theorem SF02.below (h : SF02 w0 w rb fb s f) (hb : Below w.heap.size w w') : SF02 w0 w' rb fb s f := ⟨h.b.trans (hb.mono h.b.size), h.kr.below hb h.kr.lt, h.kf.below hb h.kf.lt, h.fo.below hb, h.p1, h.p2⟩
theorem SF02.drewN (h : SF02 w0 w rb fb s f) (n : Nat) : SF02 w0 (w.drewN n) rb fb s f := h.below ⟨rfl, rfl, rfl, Nat.le_refl _, fun _ _ => rfl⟩
theorem SF02.cells (h : SF02 w0 w rb fb s f) : w.cell? ⟨fb, 0, none⟩ = some (.int .i64 f.wide) ∧ w.cell? ⟨fb, 1, none⟩ = some (.int .i64 f.high) ∧ w.cell? ⟨fb, 2, none⟩ = some (.slice s.ground.A f.ground.length s.ground.c) ∧ w.cell? ⟨fb, 3, none⟩ = some (.slice s.ore.A f.ore.length s.ore.c) := ⟨h.kf.cell 0, h.kf.cell 1, h.kf.cell 2, h.kf.cell 3⟩
theorem SM2.below (h : SM2 w0 w rb pb s' x) (hb : Below w.heap.size w w') : SM2 w0 w' rb pb s' x := ⟨h.b.trans (hb.mono h.b.size), h.kr.below hb h.kr.lt, h.kp.below hb h.kp.lt, h.own.below hb, h.p1, h.p2⟩
theorem SM2.drewN (h : SM2 w0 w rb pb s' x) (n : Nat) : SM2 w0 (w.drewN n) rb pb s' x := h.below ⟨rfl, rfl, rfl, Nat.le_refl _, fun _ _ => rfl⟩
theorem SM2.cells (h : SM2 w0 w rb pb s' x) : w.cell? ⟨pb, 0, none⟩ = some (.int .i64 x.turn) ∧ w.frozen? ⟨pb, 0, none⟩ = false ∧ w.cell? ⟨pb, 1, none⟩ = some (.int .i64 x.next) ∧ w.frozen? ⟨pb, 1, none⟩ = false ∧ w.cell? ⟨pb, 2, none⟩ = some (.int .i64 x.field.wide) ∧ w.frozen? ⟨pb, 2, none⟩ = false ∧ w.cell? ⟨pb, 3, none⟩ = some (.int .i64 x.field.high) ∧ w.frozen? ⟨pb, 3, none⟩ = false ∧ w.cell? ⟨pb, 4, none⟩ = some (.slice s'.field.ground.A x.field.ground.length s'.field.ground.c) ∧ w.frozen? ⟨pb, 4, none⟩ = false ∧ w.cell? ⟨pb, 5, none⟩ = some (.slice s'.field.ore.A x.field.ore.length s'.field.ore.c) ∧ w.frozen? ⟨pb, 5, none⟩ = false ∧ w.cell? ⟨pb, 6, none⟩ = some (.slice s'.gold.A x.gold.length s'.gold.c) ∧ w.frozen? ⟨pb, 6, none⟩ = false ∧ w.cell? ⟨pb, 7, none⟩ = some (.slice s'.units.A x.units.length s'.units.c) ∧ w.frozen? ⟨pb, 7, none⟩ = false ∧ w.cell? ⟨pb, 8, none⟩ = some (.slice s'.queue.A x.queue.length s'.queue.c) ∧ w.frozen? ⟨pb, 8, none⟩ = false ∧ pb < w.heap.size := ⟨h.kp.cell 0, h.kp.frozen 0, h.kp.cell 1, h.kp.frozen 1, h.kp.cell 2, h.kp.frozen 2, h.kp.cell 3, h.kp.frozen 3, h.kp.cell 4, h.kp.frozen 4, h.kp.cell 5, h.kp.frozen 5, h.kp.cell 6, h.kp.frozen 6, h.kp.cell 7, h.kp.frozen 7, h.kp.cell 8, h.kp.frozen 8, h.kp.lt⟩
theorem own_rowS2 {base n sz b : Nat} {e : TypeId} {v : Value} {xs : List Value} {cs : Array Value} (ho : w.ownsRow base e sz v n xs) (hb : b < base) : (w.setRow b cs).ownsRow base e sz v n xs :=
  ⟨ho.1, ho.2.imp id (fun ⟨g, cap, cur, hv, hbg, hh, r⟩ => ⟨g, cap, cur, hv, hbg, (setRow_other w b g cs (by omega)).trans hh, r⟩)⟩
/-- A world is stored into a box. -/
theorem store92 {cs0 : Array Value} (cs : Array Value) (hc : cs = #[.int .i64 y.turn, .int .i64 y.next, .int .i64 y.field.wide, .int .i64 y.field.high, .slice s2.field.ground.A y.field.ground.length s2.field.ground.c, .slice s2.field.ore.A y.field.ore.length s2.field.ore.c, .slice s2.gold.A y.gold.length s2.gold.c, .slice s2.units.A y.units.length s2.units.c, .slice s2.queue.A y.queue.length s2.queue.c]) (b : Below w0.heap.size w0 w) (kr : Blk w rb 55 #[.int .i64 0, .int .i64 0, .int .i64 0, .int .i64 0, .slice none 0 0, .slice none 0 0, .slice none 0 0, .slice none 0 0, .slice none 0 0]) (kp : Blk w pb 55 cs0) (ho : WOwn w (pb + 1) s2 y) (p1 : w0.heap.size ≤ rb) (p2 : rb < pb) : SM2 w0 (w.setRow pb cs) rb pb s2 y := by
  subst hc
  have hp := Nat.lt_succ_self pb
  exact ⟨below_setRow b (by omega) _, (setRow_other w pb rb _ (by omega)).trans kr, setRow_heap w pb _ _ _ _ kp, WOwn.base ⟨own_rowS2 ho.g hp, own_rowS2 ho.o hp, own_rowS2 ho.d hp, own_rowS2 ho.u hp, own_rowS2 ho.q hp⟩ (by omega), p1, p2⟩
theorem SM2.store (h : SM2 w0 w rb pb s' x) (ho : WOwn w (pb + 1) s2 y) : SM2 w0 (w.setRow pb #[.int .i64 y.turn, .int .i64 y.next, .int .i64 y.field.wide, .int .i64 y.field.high, .slice s2.field.ground.A y.field.ground.length s2.field.ground.c, .slice s2.field.ore.A y.field.ore.length s2.field.ore.c, .slice s2.gold.A y.gold.length s2.gold.c, .slice s2.units.A y.units.length s2.units.c, .slice s2.queue.A y.queue.length s2.queue.c]) rb pb s2 y := store92 _ rfl h.b h.kr h.kp ho h.p1 h.p2
theorem SF02.start (b : Below w0.heap.size w0 w) (kr : Blk w rb 55 #[.int .i64 0, .int .i64 0, .int .i64 0, .int .i64 0, .slice none 0 0, .slice none 0 0, .slice none 0 0, .slice none 0 0, .slice none 0 0]) (fo : FOk w s f) (p1 : w0.heap.size ≤ rb) : SF02 w0 (w.alloc (.cells #[.int .i64 f.wide, .int .i64 f.high, .slice s.ground.A f.ground.length s.ground.c, .slice s.ore.A f.ore.length s.ore.c] 52)) rb w.heap.size s f := by
  have hB : Below w.heap.size w (w.alloc (.cells #[.int .i64 f.wide, .int .i64 f.high, .slice s.ground.A f.ground.length s.ground.c, .slice s.ore.A f.ore.length s.ore.c] 52)) := (Below.refl _ _).alloc (Nat.le_refl _) _
  exact ⟨b.trans (hB.mono b.size), kr.below hB kr.lt, Blk.new _ _ _, fo.below hB, p1, kr.lt⟩
theorem below_put2 (w : World) (s2 : SW) (y : GW) : Below w.heap.size w (w.alloc (.cells #[.int .i64 y.turn, .int .i64 y.next, .int .i64 y.field.wide, .int .i64 y.field.high, .slice s2.field.ground.A y.field.ground.length s2.field.ground.c, .slice s2.field.ore.A y.field.ore.length s2.field.ore.c, .slice s2.gold.A y.gold.length s2.gold.c, .slice s2.units.A y.units.length s2.units.c, .slice s2.queue.A y.queue.length s2.queue.c] 55)) := (Below.refl _ _).alloc (Nat.le_refl _) _
theorem storeA2 {B : Nat} (b : Below w0.heap.size w0 w) (kr : Blk w rb 55 #[.int .i64 0, .int .i64 0, .int .i64 0, .int .i64 0, .slice none 0 0, .slice none 0 0, .slice none 0 0, .slice none 0 0, .slice none 0 0]) (ho : WOwn w B s2 y) (hB : rb + 1 ≤ B) (p1 : w0.heap.size ≤ rb) : SM2 w0 (w.alloc (.cells #[.int .i64 y.turn, .int .i64 y.next, .int .i64 y.field.wide, .int .i64 y.field.high, .slice s2.field.ground.A y.field.ground.length s2.field.ground.c, .slice s2.field.ore.A y.field.ore.length s2.field.ore.c, .slice s2.gold.A y.gold.length s2.gold.c, .slice s2.units.A y.units.length s2.units.c, .slice s2.queue.A y.queue.length s2.queue.c] 55)) rb w.heap.size s2 y := by
  have hb := below_put2 w s2 y
  exact ⟨b.trans (hb.mono b.size), kr.below hb kr.lt, Blk.new _ _ _, (ho.below hb).base hB, p1, kr.lt⟩
theorem SF02.cellsA (h : SF02 w0 w rb fb s f) (s2 : SW) (y : GW) : (w.alloc (.cells #[.int .i64 y.turn, .int .i64 y.next, .int .i64 y.field.wide, .int .i64 y.field.high, .slice s2.field.ground.A y.field.ground.length s2.field.ground.c, .slice s2.field.ore.A y.field.ore.length s2.field.ore.c, .slice s2.gold.A y.gold.length s2.gold.c, .slice s2.units.A y.units.length s2.units.c, .slice s2.queue.A y.queue.length s2.queue.c] 55)).cell? ⟨fb, 0, none⟩ = some (.int .i64 f.wide) ∧ (w.alloc (.cells #[.int .i64 y.turn, .int .i64 y.next, .int .i64 y.field.wide, .int .i64 y.field.high, .slice s2.field.ground.A y.field.ground.length s2.field.ground.c, .slice s2.field.ore.A y.field.ore.length s2.field.ore.c, .slice s2.gold.A y.gold.length s2.gold.c, .slice s2.units.A y.units.length s2.units.c, .slice s2.queue.A y.queue.length s2.queue.c] 55)).cell? ⟨fb, 1, none⟩ = some (.int .i64 f.high) ∧ (w.alloc (.cells #[.int .i64 y.turn, .int .i64 y.next, .int .i64 y.field.wide, .int .i64 y.field.high, .slice s2.field.ground.A y.field.ground.length s2.field.ground.c, .slice s2.field.ore.A y.field.ore.length s2.field.ore.c, .slice s2.gold.A y.gold.length s2.gold.c, .slice s2.units.A y.units.length s2.units.c, .slice s2.queue.A y.queue.length s2.queue.c] 55)).cell? ⟨fb, 2, none⟩ = some (.slice s.ground.A f.ground.length s.ground.c) ∧ (w.alloc (.cells #[.int .i64 y.turn, .int .i64 y.next, .int .i64 y.field.wide, .int .i64 y.field.high, .slice s2.field.ground.A y.field.ground.length s2.field.ground.c, .slice s2.field.ore.A y.field.ore.length s2.field.ore.c, .slice s2.gold.A y.gold.length s2.gold.c, .slice s2.units.A y.units.length s2.units.c, .slice s2.queue.A y.queue.length s2.queue.c] 55)).cell? ⟨fb, 3, none⟩ = some (.slice s.ore.A f.ore.length s.ore.c) := (h.below (below_put2 w s2 y)).cells
theorem SF02.cellsB (h : SF02 w0 w rb fb s f) (hne : fb ≠ pb) (cs : Array Value) : (w.setRow pb cs).cell? ⟨fb, 0, none⟩ = some (.int .i64 f.wide) ∧ (w.setRow pb cs).cell? ⟨fb, 1, none⟩ = some (.int .i64 f.high) ∧ (w.setRow pb cs).cell? ⟨fb, 2, none⟩ = some (.slice s.ground.A f.ground.length s.ground.c) ∧ (w.setRow pb cs).cell? ⟨fb, 3, none⟩ = some (.slice s.ore.A f.ore.length s.ore.c) := by
  have h2 : Blk (w.setRow pb cs) fb 52 #[.int .i64 f.wide, .int .i64 f.high, .slice s.ground.A f.ground.length s.ground.c, .slice s.ore.A f.ore.length s.ore.c] := (setRow_other w pb fb cs hne).trans h.kf
  exact ⟨h2.cell 0, h2.cell 1, h2.cell 2, h2.cell 3⟩
theorem SM2.cell9 (h : SM2 w0 w rb pb s' x) : w.cell? ⟨pb, 0, none⟩ = some (.int .i64 x.turn) ∧ w.cell? ⟨pb, 1, none⟩ = some (.int .i64 x.next) ∧ w.cell? ⟨pb, 2, none⟩ = some (.int .i64 x.field.wide) ∧ w.cell? ⟨pb, 3, none⟩ = some (.int .i64 x.field.high) ∧ w.cell? ⟨pb, 4, none⟩ = some (.slice s'.field.ground.A x.field.ground.length s'.field.ground.c) ∧ w.cell? ⟨pb, 5, none⟩ = some (.slice s'.field.ore.A x.field.ore.length s'.field.ore.c) ∧ w.cell? ⟨pb, 6, none⟩ = some (.slice s'.gold.A x.gold.length s'.gold.c) ∧ w.cell? ⟨pb, 7, none⟩ = some (.slice s'.units.A x.units.length s'.units.c) ∧ w.cell? ⟨pb, 8, none⟩ = some (.slice s'.queue.A x.queue.length s'.queue.c) := ⟨h.kp.cell 0, h.kp.cell 1, h.kp.cell 2, h.kp.cell 3, h.kp.cell 4, h.kp.cell 5, h.kp.cell 6, h.kp.cell 7, h.kp.cell 8⟩
theorem SM2.cellsB (h : SM2 w0 w rb pb s' x) (cs : Array Value) : (w.setRow rb cs).cell? ⟨pb, 0, none⟩ = some (.int .i64 x.turn) ∧ (w.setRow rb cs).cell? ⟨pb, 1, none⟩ = some (.int .i64 x.next) ∧ (w.setRow rb cs).cell? ⟨pb, 2, none⟩ = some (.int .i64 x.field.wide) ∧ (w.setRow rb cs).cell? ⟨pb, 3, none⟩ = some (.int .i64 x.field.high) ∧ (w.setRow rb cs).cell? ⟨pb, 4, none⟩ = some (.slice s'.field.ground.A x.field.ground.length s'.field.ground.c) ∧ (w.setRow rb cs).cell? ⟨pb, 5, none⟩ = some (.slice s'.field.ore.A x.field.ore.length s'.field.ore.c) ∧ (w.setRow rb cs).cell? ⟨pb, 6, none⟩ = some (.slice s'.gold.A x.gold.length s'.gold.c) ∧ (w.setRow rb cs).cell? ⟨pb, 7, none⟩ = some (.slice s'.units.A x.units.length s'.units.c) ∧ (w.setRow rb cs).cell? ⟨pb, 8, none⟩ = some (.slice s'.queue.A x.queue.length s'.queue.c) := by
  have h2 : Blk (w.setRow rb cs) pb 55 #[.int .i64 x.turn, .int .i64 x.next, .int .i64 x.field.wide, .int .i64 x.field.high, .slice s'.field.ground.A x.field.ground.length s'.field.ground.c, .slice s'.field.ore.A x.field.ore.length s'.field.ore.c, .slice s'.gold.A x.gold.length s'.gold.c, .slice s'.units.A x.units.length s'.units.c, .slice s'.queue.A x.queue.length s'.queue.c] := (setRow_other w rb pb cs (by have := h.p2; omega)).trans h.kp
  exact ⟨h2.cell 0, h2.cell 1, h2.cell 2, h2.cell 3, h2.cell 4, h2.cell 5, h2.cell 6, h2.cell 7, h2.cell 8⟩
theorem SM2.done (h : SM2 w0 w rb pb s' x) : Blk (w.setRow rb #[.int .i64 x.turn, .int .i64 x.next, .int .i64 x.field.wide, .int .i64 x.field.high, .slice s'.field.ground.A x.field.ground.length s'.field.ground.c, .slice s'.field.ore.A x.field.ore.length s'.field.ore.c, .slice s'.gold.A x.gold.length s'.gold.c, .slice s'.units.A x.units.length s'.units.c, .slice s'.queue.A x.queue.length s'.queue.c]) rb 55 #[.int .i64 x.turn, .int .i64 x.next, .int .i64 x.field.wide, .int .i64 x.field.high, .slice s'.field.ground.A x.field.ground.length s'.field.ground.c, .slice s'.field.ore.A x.field.ore.length s'.field.ore.c, .slice s'.gold.A x.gold.length s'.gold.c, .slice s'.units.A x.units.length s'.units.c, .slice s'.queue.A x.queue.length s'.queue.c] ∧ WOwn (w.setRow rb #[.int .i64 x.turn, .int .i64 x.next, .int .i64 x.field.wide, .int .i64 x.field.high, .slice s'.field.ground.A x.field.ground.length s'.field.ground.c, .slice s'.field.ore.A x.field.ore.length s'.field.ore.c, .slice s'.gold.A x.gold.length s'.gold.c, .slice s'.units.A x.units.length s'.units.c, .slice s'.queue.A x.queue.length s'.queue.c]) w0.heap.size s' x ∧ Below w0.heap.size w0 (w.setRow rb #[.int .i64 x.turn, .int .i64 x.next, .int .i64 x.field.wide, .int .i64 x.field.high, .slice s'.field.ground.A x.field.ground.length s'.field.ground.c, .slice s'.field.ore.A x.field.ore.length s'.field.ore.c, .slice s'.gold.A x.gold.length s'.gold.c, .slice s'.units.A x.units.length s'.units.c, .slice s'.queue.A x.queue.length s'.queue.c]) := by
  have hp := Nat.lt_succ_self rb
  have h1 := h.p1
  exact ⟨setRow_heap w rb _ _ _ _ h.kr, WOwn.base ⟨own_rowS2 h.own.g hp, own_rowS2 h.own.o hp, own_rowS2 h.own.d hp, own_rowS2 h.own.u hp, own_rowS2 h.own.q hp⟩ (by omega), below_setRow h.b h.p1 _⟩
theorem zcells2 (h : Blk w pb 55 #[.int .i64 0, .int .i64 0, .int .i64 0, .int .i64 0, .slice none 0 0, .slice none 0 0, .slice none 0 0, .slice none 0 0, .slice none 0 0]) : w.cell? ⟨pb, 0, none⟩ = some (.int .i64 0) ∧ w.frozen? ⟨pb, 0, none⟩ = false ∧ w.cell? ⟨pb, 1, none⟩ = some (.int .i64 0) ∧ w.frozen? ⟨pb, 1, none⟩ = false ∧ w.cell? ⟨pb, 2, none⟩ = some (.int .i64 0) ∧ w.frozen? ⟨pb, 2, none⟩ = false ∧ w.cell? ⟨pb, 3, none⟩ = some (.int .i64 0) ∧ w.frozen? ⟨pb, 3, none⟩ = false ∧ w.cell? ⟨pb, 4, none⟩ = some (.slice none 0 0) ∧ w.frozen? ⟨pb, 4, none⟩ = false ∧ w.cell? ⟨pb, 5, none⟩ = some (.slice none 0 0) ∧ w.frozen? ⟨pb, 5, none⟩ = false ∧ w.cell? ⟨pb, 6, none⟩ = some (.slice none 0 0) ∧ w.frozen? ⟨pb, 6, none⟩ = false ∧ w.cell? ⟨pb, 7, none⟩ = some (.slice none 0 0) ∧ w.frozen? ⟨pb, 7, none⟩ = false ∧ w.cell? ⟨pb, 8, none⟩ = some (.slice none 0 0) ∧ w.frozen? ⟨pb, 8, none⟩ = false ∧ pb < w.heap.size := ⟨h.cell 0, h.frozen 0, h.cell 1, h.frozen 1, h.cell 2, h.frozen 2, h.cell 3, h.frozen 3, h.cell 4, h.frozen 4, h.cell 5, h.frozen 5, h.cell 6, h.frozen 6, h.cell 7, h.frozen 7, h.cell 8, h.frozen 8, h.lt⟩
end
set_option maxHeartbeats 6400000 in
set_option maxRecDepth 100000 in
theorem small2_law (f : GF) (x1 x2 x3 x4 : GW) (i1 : WInt x1) (i2 : WInt x2) (i3 : WInt x3) (hso : SortC2) (hpa : ParC2 f) (hnw : NewC2 f x1) (hp2 : PutC2 x1 x2 0 0 0) (hp3 : PutC2 x2 x3 0 1 1) (hp4 : PutC2 x3 x4 1 2 3) (hl : x4.units.length = 3) (hg : x4.gold.length = 2) (w : World) :
    Calls Tryd.prog 44 #[] w fun e w' => ∃ s, e = .returned (.tuple #[wA s x4, .bool true]) ∧ WOwn w' w.heap.size s x4 ∧ Below w.heap.size w w' := by
  have hkr : Blk (w.alloc (.cells #[.int .i64 0, .int .i64 0, .int .i64 0, .int .i64 0, .slice none 0 0, .slice none 0 0, .slice none 0 0, .slice none 0 0, .slice none 0 0] 55)) w.heap.size 55 #[.int .i64 0, .int .i64 0, .int .i64 0, .int .i64 0, .slice none 0 0, .slice none 0 0, .slice none 0 0, .slice none 0 0, .slice none 0 0] := Blk.new _ _ _
  have hbe : Below w.heap.size w (w.alloc (.cells #[.int .i64 0, .int .i64 0, .int .i64 0, .int .i64 0, .slice none 0 0, .slice none 0 0, .slice none 0 0, .slice none 0 0, .slice none 0 0] 55)) := (Below.refl _ _).alloc (Nat.le_refl _) _
  replace hkr := Lib.hid hkr
  replace hbe := Lib.hid hbe
  replace hso := Lib.hid hso
  replace hpa := Lib.hid hpa
  replace hnw := Lib.hid hnw
  replace hp2 := Lib.hid hp2
  replace hp3 := Lib.hid hp3
  replace hp4 := Lib.hid hp4
  replace hl := Lib.hid hl
  replace hg := Lib.hid hg
  replace i1 := Lib.hid i1
  replace i2 := Lib.hid i2
  replace i3 := Lib.hid i3
  go_enter Tryd.func44, Tryd.ntmps44
  go_upto_region 1 with fail
  generalize (w.alloc (.cells #[.int .i64 0, .int .i64 0, .int .i64 0, .int .i64 0, .slice none 0 0, .slice none 0 0, .slice none 0 0, .slice none 0 0, .slice none 0 0] 55)) = W at *
  obtain ⟨rb, hrb⟩ : ∃ rb, w.heap.size = rb := ⟨_, rfl⟩
  try rw [hrb]
  replace hrb := Lib.hid hrb
  go_upto_region 2 with (go_at_call 72; refine (hpa.out _).mono ?_; rintro e w1 ⟨s, rfl, hF, hb1⟩)
  have hkr1 : Blk W rb 55 #[.int .i64 0, .int .i64 0, .int .i64 0, .int .i64 0, .slice none 0 0, .slice none 0 0, .slice none 0 0, .slice none 0 0, .slice none 0 0] := by rw [← hrb.out]; exact hkr.out
  have hX : SF02 w (w1.alloc (.cells #[.int .i64 f.wide, .int .i64 f.high, .slice s.ground.A f.ground.length s.ground.c, .slice s.ore.A f.ore.length s.ore.c] 52)) rb w1.heap.size s f := SF02.start (hbe.out.trans (hb1.mono hbe.out.size)) (hkr1.below hb1 hkr1.lt) hF (Nat.le_of_eq hrb.out)
  clear hkr hbe hkr1 hF hb1
  obtain ⟨fb, hfb⟩ : ∃ fb, w1.heap.size = fb := ⟨_, rfl⟩
  rw [hfb] at hX ⊢
  replace hX := Lib.hid hX
  clear hfb
  generalize (w1.alloc (.cells #[.int .i64 f.wide, .int .i64 f.high, .slice s.ground.A f.ground.length s.ground.c, .slice s.ore.A f.ore.length s.ore.c] 52)) = W1 at *
  go_cut [5, 6] (fun v v6 wx0 => ∃ wx pb s1, wx = wx0 ∧ v = .pointer (some ⟨pb, 0, none⟩) ∧ v6 = .nilIface ∧ Hid (SM2 w wx rb pb s1 x1))
  case first =>
    as_aux_lemma =>
    have hXn : SF02 w W1.drew rb fb s f := hX.out.drewN 1
    clear hX
    have hX := Lib.hid hXn
    clear hXn
    refine wp_region_noPanic ?_
    refine wp_region_held_drew (S := (fun wz => wz.cell? ⟨fb, 0, none⟩ = some (.int .i64 f.wide) ∧ wz.cell? ⟨fb, 1, none⟩ = some (.int .i64 f.high) ∧ wz.cell? ⟨fb, 2, none⟩ = some (.slice s.ground.A f.ground.length s.ground.c) ∧ wz.cell? ⟨fb, 3, none⟩ = some (.slice s.ore.A f.ore.length s.ore.c))) (by kernel_rfl) hX.out.cells (fun hHeld => ?_)
    generalize W1.drew = Wd at *
    refine wpAnyH_take (i := 1) (oi := _) (v := ?_) rfl (by kernel_rfl) (by kernel_rfl) (by kernel_rfl) (fun _ _ _ h => h) (Or.inl ⟨by rfl, ?_⟩) (by assumption) ?_
    rotate_left
    · intro w' hSw
      try dsimp only at hSw
      first | (go_simp; done) | (go_simp; with_reducible rfl)
    try simp only [Act.put]
    try simp only [List.setIfInBounds_toArray]
    try simp only [List.set_cons_succ, List.set_cons_zero]
    try simp only [List.getElem_toArray]
    try simp only [List.getElem_cons_succ]
    try simp only [List.getElem_cons_zero]
    refine wpAnyH_ready (rs := [0, 6]) (by kernel_rfl) (by simp) ?_
    refine AllReadyH.cons (o := { dst := some 16, op := .call { callee := .value (.func 46), args := #[], argTypes := #[] }, type := _, pos := _, after := _, guard := none }) rfl (fun K hK => ?_) (AllReadyH.cons (o := _) rfl (fun K hK => ?_) AllReadyH.nil)
    · go_simp
      refine (hso.out _).mono ?_
      rintro e w2 ⟨A, c, rfl, hKs, hbs⟩
      replace hKs := Lib.hid hKs
      have hXn := hX.out.below hbs
      clear hHeld hX
      have hX := Lib.hid hXn
      clear hXn
      clear hbs
      refine hK.out _ _ hX.out.cells (fun hHeld => ?_)
      clear hK K
      try simp only [Act.put]
      try simp only [List.setIfInBounds_toArray]
      try simp only [List.set_cons_succ, List.set_cons_zero]
      try simp only [List.getElem_toArray]
      try simp only [List.getElem_cons_succ]
      try simp only [List.getElem_cons_zero]
      refine wpAnyH_ready (rs := [2, 6]) (by kernel_rfl) (by simp) ?_
      refine AllReadyH.cons (o := { dst := some 18, op := .call { callee := .value (.func 73), args := #[.tmp 16, .tmp 17, .const (.int .i64 2), .const (.int .i64 100)], argTypes := #[22, 52, 3, 3] }, type := _, pos := _, after := _, guard := none }) rfl (fun K hK => ?_) (AllReadyH.cons (o := _) rfl (fun K hK => ?_) AllReadyH.nil)
      · go_simp
        refine (hnw.out A c s _ hKs.out hX.out.fo).mono ?_
        rintro e w3 ⟨s1, rfl, hO, hbs⟩
        clear hKs
        have hrw2 : rb + 1 ≤ w2.heap.size := hX.out.kr.lt
        replace hO := Lib.hid hO
        have hXn := hX.out.below hbs
        clear hHeld hX
        have hX := Lib.hid hXn
        clear hXn
        clear hbs
        refine hK.out _ _ hX.out.cells (fun hHeld => ?_)
        clear hK K
        try simp only [Act.put]
        try simp only [List.setIfInBounds_toArray]
        try simp only [List.set_cons_succ, List.set_cons_zero]
        try simp only [List.getElem_toArray]
        try simp only [List.getElem_cons_succ]
        try simp only [List.getElem_cons_zero]
        refine wpAnyH_take (i := 3) (oi := _) (v := ?_) rfl (by kernel_rfl) (by kernel_rfl) (by kernel_rfl) (fun _ _ _ h => h) (Or.inl ⟨by rfl, ?_⟩) (by assumption) ?_
        rotate_left
        · intro w' hSw
          try dsimp only at hSw
          first | (go_simp; done) | (go_simp; with_reducible rfl)
        try simp only [Act.put]
        try simp only [List.setIfInBounds_toArray]
        try simp only [List.set_cons_succ, List.set_cons_zero]
        try simp only [List.getElem_toArray]
        try simp only [List.getElem_cons_succ]
        try simp only [List.getElem_cons_zero]
        refine wpAnyH_take (i := 4) (oi := _) (v := ?_) rfl (by kernel_rfl) (by kernel_rfl) (by kernel_rfl) (fun _ _ _ h => h) (Or.inl ⟨by rfl, ?_⟩) (by assumption) ?_
        rotate_left
        · intro w' hSw
          try dsimp only at hSw
          first | (go_simp; done) | (go_simp; with_reducible rfl)
        try simp only [Act.put]
        try simp only [List.setIfInBounds_toArray]
        try simp only [List.set_cons_succ, List.set_cons_zero]
        try simp only [List.getElem_toArray]
        try simp only [List.getElem_cons_succ]
        try simp only [List.getElem_cons_zero]
        refine wpAnyH_take (i := 5) (oi := _) (v := ?_) rfl (by kernel_rfl) (by kernel_rfl) (by kernel_rfl) (fun _ _ _ h => h) (Or.inl ⟨by rfl, ?_⟩) (by assumption) ?_
        rotate_left
        · intro w' hSw
          try dsimp only at hSw
          first | (go_simp; done) | (go_simp; with_reducible rfl)
        try simp only [Act.put]
        try simp only [List.setIfInBounds_toArray]
        try simp only [List.set_cons_succ, List.set_cons_zero]
        try simp only [List.getElem_toArray]
        try simp only [List.getElem_cons_succ]
        try simp only [List.getElem_cons_zero]
        refine wpAnyH_ready (rs := [6]) (by kernel_rfl) (by simp) ?_
        refine AllReadyH.cons (o := _) rfl (fun K hK => ?_) AllReadyH.nil
        go_simp
        refine hK.out _ _ (hX.out.below ((Below.refl _ _).alloc (Nat.le_refl _) (.cells #[.int .i64 0, .int .i64 0, .int .i64 0, .int .i64 0, .slice none 0 0, .slice none 0 0, .slice none 0 0, .slice none 0 0, .slice none 0 0] 55))).cells (fun hHeld => ?_)
        clear hK K
        try simp only [Act.put]
        try simp only [List.setIfInBounds_toArray]
        try simp only [List.set_cons_succ, List.set_cons_zero]
        try simp only [List.getElem_toArray]
        try simp only [List.getElem_cons_succ]
        try simp only [List.getElem_cons_zero]
        obtain ⟨r0, g0, r1, g1, r2, g2, r3, g3, r4, g4, r5, g5, r6, g6, r7, g7, r8, g8, pl⟩ := zcells2 (Blk.new w3 55 #[.int .i64 0, .int .i64 0, .int .i64 0, .int .i64 0, .slice none 0 0, .slice none 0 0, .slice none 0 0, .slice none 0 0, .slice none 0 0])
        refine wpAnyH_ready (rs := [7]) (by kernel_rfl) (by simp) ?_
        refine AllReadyH.cons (o := _) rfl (fun K hK => ?_) AllReadyH.nil
        go_simp
        refine hK.out _ _ (hX.out.cellsA s1 x1) (fun hHeld => ?_)
        clear hK K
        try simp only [Act.put]
        try simp only [List.setIfInBounds_toArray]
        try simp only [List.set_cons_succ, List.set_cons_zero]
        try simp only [List.getElem_toArray]
        try simp only [List.getElem_cons_succ]
        try simp only [List.getElem_cons_zero]
        clear r0 g0 r1 g1 r2 g2 r3 g3 r4 g4 r5 g5 r6 g6 r7 g7 r8 g8 pl
        refine wpAnyH_take (i := 8) (oi := _) (v := ?_) rfl (by kernel_rfl) (by kernel_rfl) (by kernel_rfl) (fun _ _ _ h => h) (Or.inl ⟨by rfl, ?_⟩) (by assumption) ?_
        rotate_left
        · intro w' hSw
          try dsimp only at hSw
          first | (go_simp; done) | (go_simp; with_reducible rfl)
        try simp only [Act.put]
        try simp only [List.setIfInBounds_toArray]
        try simp only [List.set_cons_succ, List.set_cons_zero]
        try simp only [List.getElem_toArray]
        try simp only [List.getElem_cons_succ]
        try simp only [List.getElem_cons_zero]
        have hS := Lib.hid (storeA2 (s2 := s1) (y := x1) hX.out.b hX.out.kr hO.out hrw2 hX.out.p1)
        refine wpAnyH_done (by kernel_rfl) ?_ _
        refine NoPanic.normal ?_
        go_wp2_with fail
        go_meet
        exact ⟨_, _, _, rfl, rfl, rfl, hS⟩
      · go_simp
        have hbs : Below w2.heap.size w2 (w2.alloc (.cells #[.int .i64 0, .int .i64 0, .int .i64 0, .int .i64 0, .slice none 0 0, .slice none 0 0, .slice none 0 0, .slice none 0 0, .slice none 0 0] 55)) := (Below.refl _ _).alloc (Nat.le_refl _) _
        have hkp : Blk (w2.alloc (.cells #[.int .i64 0, .int .i64 0, .int .i64 0, .int .i64 0, .slice none 0 0, .slice none 0 0, .slice none 0 0, .slice none 0 0, .slice none 0 0] 55)) w2.heap.size 55 #[.int .i64 0, .int .i64 0, .int .i64 0, .int .i64 0, .slice none 0 0, .slice none 0 0, .slice none 0 0, .slice none 0 0, .slice none 0 0] := Blk.new _ _ _
        have hfp : fb < w2.heap.size := hX.out.kf.lt
        have hrp : rb < w2.heap.size := hX.out.kr.lt
        replace hkp := Lib.hid hkp
        have hXn := hX.out.below hbs
        clear hHeld hX
        have hX := Lib.hid hXn
        clear hXn
        have hksn := (hKs.out.below hbs).more hbs.size
        clear hKs
        have hKs := Lib.hid hksn
        clear hksn
        clear hbs
        refine hK.out _ _ hX.out.cells (fun hHeld => ?_)
        clear hK K
        try simp only [Act.put]
        try simp only [List.setIfInBounds_toArray]
        try simp only [List.set_cons_succ, List.set_cons_zero]
        try simp only [List.getElem_toArray]
        try simp only [List.getElem_cons_succ]
        try simp only [List.getElem_cons_zero]
        obtain ⟨pb, hpb⟩ : ∃ pb, w2.heap.size = pb := ⟨_, rfl⟩
        rw [hpb] at hkp hfp hrp ⊢
        clear hpb
        generalize (w2.alloc (.cells #[.int .i64 0, .int .i64 0, .int .i64 0, .int .i64 0, .slice none 0 0, .slice none 0 0, .slice none 0 0, .slice none 0 0, .slice none 0 0] 55)) = wa at *
        replace hfp := Lib.hid hfp
        replace hrp := Lib.hid hrp
        refine wpAnyH_ready (rs := [2]) (by kernel_rfl) (by simp) ?_
        refine AllReadyH.cons (o := { dst := some 18, op := .call { callee := .value (.func 73), args := #[.tmp 16, .tmp 17, .const (.int .i64 2), .const (.int .i64 100)], argTypes := #[22, 52, 3, 3] }, type := _, pos := _, after := _, guard := none }) rfl (fun K hK => ?_) AllReadyH.nil
        go_simp
        refine (hnw.out A c s _ hKs.out hX.out.fo).mono ?_
        rintro e w3 ⟨s1, rfl, hO, hbs⟩
        clear hKs
        have hp2 : pb + 1 ≤ wa.heap.size := hkp.out.lt
        have hO2 := hO.base hp2
        have hkpn := hkp.out.below hbs hkp.out.lt
        clear hO hp2 hkp
        have hO := Lib.hid hO2
        have hkp := Lib.hid hkpn
        clear hO2 hkpn
        have hXn := hX.out.below hbs
        clear hHeld hX
        have hX := Lib.hid hXn
        clear hXn
        clear hbs
        refine hK.out _ _ hX.out.cells (fun hHeld => ?_)
        clear hK K
        try simp only [Act.put]
        try simp only [List.setIfInBounds_toArray]
        try simp only [List.set_cons_succ, List.set_cons_zero]
        try simp only [List.getElem_toArray]
        try simp only [List.getElem_cons_succ]
        try simp only [List.getElem_cons_zero]
        refine wpAnyH_take (i := 3) (oi := _) (v := ?_) rfl (by kernel_rfl) (by kernel_rfl) (by kernel_rfl) (fun _ _ _ h => h) (Or.inl ⟨by rfl, ?_⟩) (by assumption) ?_
        rotate_left
        · intro w' hSw
          try dsimp only at hSw
          first | (go_simp; done) | (go_simp; with_reducible rfl)
        try simp only [Act.put]
        try simp only [List.setIfInBounds_toArray]
        try simp only [List.set_cons_succ, List.set_cons_zero]
        try simp only [List.getElem_toArray]
        try simp only [List.getElem_cons_succ]
        try simp only [List.getElem_cons_zero]
        refine wpAnyH_take (i := 4) (oi := _) (v := ?_) rfl (by kernel_rfl) (by kernel_rfl) (by kernel_rfl) (fun _ _ _ h => h) (Or.inl ⟨by rfl, ?_⟩) (by assumption) ?_
        rotate_left
        · intro w' hSw
          try dsimp only at hSw
          first | (go_simp; done) | (go_simp; with_reducible rfl)
        try simp only [Act.put]
        try simp only [List.setIfInBounds_toArray]
        try simp only [List.set_cons_succ, List.set_cons_zero]
        try simp only [List.getElem_toArray]
        try simp only [List.getElem_cons_succ]
        try simp only [List.getElem_cons_zero]
        refine wpAnyH_take (i := 5) (oi := _) (v := ?_) rfl (by kernel_rfl) (by kernel_rfl) (by kernel_rfl) (fun _ _ _ h => h) (Or.inl ⟨by rfl, ?_⟩) (by assumption) ?_
        rotate_left
        · intro w' hSw
          try dsimp only at hSw
          first | (go_simp; done) | (go_simp; with_reducible rfl)
        try simp only [Act.put]
        try simp only [List.setIfInBounds_toArray]
        try simp only [List.set_cons_succ, List.set_cons_zero]
        try simp only [List.getElem_toArray]
        try simp only [List.getElem_cons_succ]
        try simp only [List.getElem_cons_zero]
        refine wpAnyH_ready (rs := [7]) (by kernel_rfl) (by simp) ?_
        refine AllReadyH.cons (o := { dst := none, op := .store 55 (.tmp 5) (.tmp 19), type := _, pos := _, after := _, guard := none }) rfl (fun K hK => ?_) AllReadyH.nil
        rw [if_pos (by rfl)]
        refine wp_store_row 55 (.tmp 5) (.tmp 19) rfl pb #[.int .i64 x1.turn, .int .i64 x1.next, .int .i64 x1.field.wide, .int .i64 x1.field.high, .slice s1.field.ground.A x1.field.ground.length s1.field.ground.c, .slice s1.field.ore.A x1.field.ore.length s1.field.ore.c, .slice s1.gold.A x1.gold.length s1.gold.c, .slice s1.units.A x1.units.length s1.units.c, .slice s1.queue.A x1.queue.length s1.queue.c] (by rfl) (by rfl) 55 #[.int .i64 0, .int .i64 0, .int .i64 0, .int .i64 0, .slice none 0 0, .slice none 0 0, .slice none 0 0, .slice none 0 0, .slice none 0 0] hkp.out (by kernel_rfl) rfl (by simp [Value.oneCell']) ?_
        refine hK _ _ (hX.out.cellsB (Nat.ne_of_lt hfp.out) _) (fun hHeld => ?_)
        clear hK K
        try simp only [Act.put]
        try simp only [List.setIfInBounds_toArray]
        try simp only [List.set_cons_succ, List.set_cons_zero]
        try simp only [List.getElem_toArray]
        try simp only [List.getElem_cons_succ]
        try simp only [List.getElem_cons_zero]
        refine wpAnyH_take (i := 8) (oi := _) (v := ?_) rfl (by kernel_rfl) (by kernel_rfl) (by kernel_rfl) (fun _ _ _ h => h) (Or.inl ⟨by rfl, ?_⟩) (by assumption) ?_
        rotate_left
        · intro w' hSw
          try dsimp only at hSw
          first | (go_simp; done) | (go_simp; with_reducible rfl)
        try simp only [Act.put]
        try simp only [List.setIfInBounds_toArray]
        try simp only [List.set_cons_succ, List.set_cons_zero]
        try simp only [List.getElem_toArray]
        try simp only [List.getElem_cons_succ]
        try simp only [List.getElem_cons_zero]
        have hS := Lib.hid (store92 (s2 := s1) (y := x1) _ rfl hX.out.b hX.out.kr hkp.out hO.out hX.out.p1 hrp.out)
        refine wpAnyH_done (by kernel_rfl) ?_ _
        refine NoPanic.normal ?_
        go_wp2_with fail
        go_meet
        exact ⟨_, _, _, rfl, rfl, rfl, hS⟩
    · go_simp
      have hbs : Below Wd.heap.size Wd (Wd.alloc (.cells #[.int .i64 0, .int .i64 0, .int .i64 0, .int .i64 0, .slice none 0 0, .slice none 0 0, .slice none 0 0, .slice none 0 0, .slice none 0 0] 55)) := (Below.refl _ _).alloc (Nat.le_refl _) _
      have hkp : Blk (Wd.alloc (.cells #[.int .i64 0, .int .i64 0, .int .i64 0, .int .i64 0, .slice none 0 0, .slice none 0 0, .slice none 0 0, .slice none 0 0, .slice none 0 0] 55)) Wd.heap.size 55 #[.int .i64 0, .int .i64 0, .int .i64 0, .int .i64 0, .slice none 0 0, .slice none 0 0, .slice none 0 0, .slice none 0 0, .slice none 0 0] := Blk.new _ _ _
      have hfp : fb < Wd.heap.size := hX.out.kf.lt
      have hrp : rb < Wd.heap.size := hX.out.kr.lt
      replace hkp := Lib.hid hkp
      have hXn := hX.out.below hbs
      clear hHeld hX
      have hX := Lib.hid hXn
      clear hXn
      clear hbs
      refine hK.out _ _ hX.out.cells (fun hHeld => ?_)
      clear hK K
      try simp only [Act.put]
      try simp only [List.setIfInBounds_toArray]
      try simp only [List.set_cons_succ, List.set_cons_zero]
      try simp only [List.getElem_toArray]
      try simp only [List.getElem_cons_succ]
      try simp only [List.getElem_cons_zero]
      obtain ⟨pb, hpb⟩ : ∃ pb, Wd.heap.size = pb := ⟨_, rfl⟩
      rw [hpb] at hkp hfp hrp ⊢
      clear hpb
      generalize (Wd.alloc (.cells #[.int .i64 0, .int .i64 0, .int .i64 0, .int .i64 0, .slice none 0 0, .slice none 0 0, .slice none 0 0, .slice none 0 0, .slice none 0 0] 55)) = wa at *
      replace hfp := Lib.hid hfp
      replace hrp := Lib.hid hrp
      refine wpAnyH_ready (rs := [0]) (by kernel_rfl) (by simp) ?_
      refine AllReadyH.cons (o := { dst := some 16, op := .call { callee := .value (.func 46), args := #[], argTypes := #[] }, type := _, pos := _, after := _, guard := none }) rfl (fun K hK => ?_) AllReadyH.nil
      go_simp
      refine (hso.out _).mono ?_
      rintro e w2 ⟨A, c, rfl, hKs, hbs⟩
      replace hKs := Lib.hid hKs
      have hkpn := hkp.out.below hbs hkp.out.lt
      clear hkp
      have hkp := Lib.hid hkpn
      clear hkpn
      have hXn := hX.out.below hbs
      clear hHeld hX
      have hX := Lib.hid hXn
      clear hXn
      clear hbs
      refine hK.out _ _ hX.out.cells (fun hHeld => ?_)
      clear hK K
      try simp only [Act.put]
      try simp only [List.setIfInBounds_toArray]
      try simp only [List.set_cons_succ, List.set_cons_zero]
      try simp only [List.getElem_toArray]
      try simp only [List.getElem_cons_succ]
      try simp only [List.getElem_cons_zero]
      refine wpAnyH_ready (rs := [2]) (by kernel_rfl) (by simp) ?_
      refine AllReadyH.cons (o := { dst := some 18, op := .call { callee := .value (.func 73), args := #[.tmp 16, .tmp 17, .const (.int .i64 2), .const (.int .i64 100)], argTypes := #[22, 52, 3, 3] }, type := _, pos := _, after := _, guard := none }) rfl (fun K hK => ?_) AllReadyH.nil
      go_simp
      refine (hnw.out A c s _ hKs.out hX.out.fo).mono ?_
      rintro e w3 ⟨s1, rfl, hO, hbs⟩
      clear hKs
      have hp2 : pb + 1 ≤ w2.heap.size := hkp.out.lt
      have hO2 := hO.base hp2
      have hkpn := hkp.out.below hbs hkp.out.lt
      clear hO hp2 hkp
      have hO := Lib.hid hO2
      have hkp := Lib.hid hkpn
      clear hO2 hkpn
      have hXn := hX.out.below hbs
      clear hHeld hX
      have hX := Lib.hid hXn
      clear hXn
      clear hbs
      refine hK.out _ _ hX.out.cells (fun hHeld => ?_)
      clear hK K
      try simp only [Act.put]
      try simp only [List.setIfInBounds_toArray]
      try simp only [List.set_cons_succ, List.set_cons_zero]
      try simp only [List.getElem_toArray]
      try simp only [List.getElem_cons_succ]
      try simp only [List.getElem_cons_zero]
      refine wpAnyH_take (i := 3) (oi := _) (v := ?_) rfl (by kernel_rfl) (by kernel_rfl) (by kernel_rfl) (fun _ _ _ h => h) (Or.inl ⟨by rfl, ?_⟩) (by assumption) ?_
      rotate_left
      · intro w' hSw
        try dsimp only at hSw
        first | (go_simp; done) | (go_simp; with_reducible rfl)
      try simp only [Act.put]
      try simp only [List.setIfInBounds_toArray]
      try simp only [List.set_cons_succ, List.set_cons_zero]
      try simp only [List.getElem_toArray]
      try simp only [List.getElem_cons_succ]
      try simp only [List.getElem_cons_zero]
      refine wpAnyH_take (i := 4) (oi := _) (v := ?_) rfl (by kernel_rfl) (by kernel_rfl) (by kernel_rfl) (fun _ _ _ h => h) (Or.inl ⟨by rfl, ?_⟩) (by assumption) ?_
      rotate_left
      · intro w' hSw
        try dsimp only at hSw
        first | (go_simp; done) | (go_simp; with_reducible rfl)
      try simp only [Act.put]
      try simp only [List.setIfInBounds_toArray]
      try simp only [List.set_cons_succ, List.set_cons_zero]
      try simp only [List.getElem_toArray]
      try simp only [List.getElem_cons_succ]
      try simp only [List.getElem_cons_zero]
      refine wpAnyH_take (i := 5) (oi := _) (v := ?_) rfl (by kernel_rfl) (by kernel_rfl) (by kernel_rfl) (fun _ _ _ h => h) (Or.inl ⟨by rfl, ?_⟩) (by assumption) ?_
      rotate_left
      · intro w' hSw
        try dsimp only at hSw
        first | (go_simp; done) | (go_simp; with_reducible rfl)
      try simp only [Act.put]
      try simp only [List.setIfInBounds_toArray]
      try simp only [List.set_cons_succ, List.set_cons_zero]
      try simp only [List.getElem_toArray]
      try simp only [List.getElem_cons_succ]
      try simp only [List.getElem_cons_zero]
      refine wpAnyH_ready (rs := [7]) (by kernel_rfl) (by simp) ?_
      refine AllReadyH.cons (o := { dst := none, op := .store 55 (.tmp 5) (.tmp 19), type := _, pos := _, after := _, guard := none }) rfl (fun K hK => ?_) AllReadyH.nil
      rw [if_pos (by rfl)]
      refine wp_store_row 55 (.tmp 5) (.tmp 19) rfl pb #[.int .i64 x1.turn, .int .i64 x1.next, .int .i64 x1.field.wide, .int .i64 x1.field.high, .slice s1.field.ground.A x1.field.ground.length s1.field.ground.c, .slice s1.field.ore.A x1.field.ore.length s1.field.ore.c, .slice s1.gold.A x1.gold.length s1.gold.c, .slice s1.units.A x1.units.length s1.units.c, .slice s1.queue.A x1.queue.length s1.queue.c] (by rfl) (by rfl) 55 #[.int .i64 0, .int .i64 0, .int .i64 0, .int .i64 0, .slice none 0 0, .slice none 0 0, .slice none 0 0, .slice none 0 0, .slice none 0 0] hkp.out (by kernel_rfl) rfl (by simp [Value.oneCell']) ?_
      refine hK _ _ (hX.out.cellsB (Nat.ne_of_lt hfp.out) _) (fun hHeld => ?_)
      clear hK K
      try simp only [Act.put]
      try simp only [List.setIfInBounds_toArray]
      try simp only [List.set_cons_succ, List.set_cons_zero]
      try simp only [List.getElem_toArray]
      try simp only [List.getElem_cons_succ]
      try simp only [List.getElem_cons_zero]
      refine wpAnyH_take (i := 8) (oi := _) (v := ?_) rfl (by kernel_rfl) (by kernel_rfl) (by kernel_rfl) (fun _ _ _ h => h) (Or.inl ⟨by rfl, ?_⟩) (by assumption) ?_
      rotate_left
      · intro w' hSw
        try dsimp only at hSw
        first | (go_simp; done) | (go_simp; with_reducible rfl)
      try simp only [Act.put]
      try simp only [List.setIfInBounds_toArray]
      try simp only [List.set_cons_succ, List.set_cons_zero]
      try simp only [List.getElem_toArray]
      try simp only [List.getElem_cons_succ]
      try simp only [List.getElem_cons_zero]
      have hS := Lib.hid (store92 (s2 := s1) (y := x1) _ rfl hX.out.b hX.out.kr hkp.out hO.out hX.out.p1 hrp.out)
      refine wpAnyH_done (by kernel_rfl) ?_ _
      refine NoPanic.normal ?_
      go_wp2_with fail
      go_meet
      exact ⟨_, _, _, rfl, rfl, rfl, hS⟩
  case rest =>
  obtain ⟨W2, pb, s1, rfl, rfl, rfl, hX⟩ := hcut
  go_upto_region 3 with fail
  go_cut [7] (fun v wx0 => ∃ wx s2, wx = wx0 ∧ v = .nilIface ∧ Hid (SM2 w wx rb pb s2 x2))
  case first =>
    as_aux_lemma =>
    have hXn : SM2 w W2.drew rb pb s1 x1 := hX.out.drewN 1
    clear hX
    have hX := Lib.hid hXn
    clear hXn
    refine wp_region_noPanic ?_
    refine wp_region_held_drew (S := fun _ => True) (by kernel_rfl) trivial (fun _ => ?_)
    generalize W2.drew = Wd at *
    refine wpAnyH_ready (rs := [0, 1]) (by kernel_rfl) (by simp) ?_
    refine AllReadyH.cons (o := { dst := some 22, op := .call { callee := .value (.func 46), args := #[], argTypes := #[] }, type := _, pos := _, after := _, guard := none }) rfl (fun K hK => ?_) (AllReadyH.cons (o := _) rfl (fun K hK => ?_) AllReadyH.nil)
    · go_simp
      refine (hso.out _).mono ?_
      rintro e w2 ⟨A, c, rfl, hKs, hbs⟩
      replace hKs := Lib.hid hKs
      have hXn := hX.out.below hbs
      clear hX hbs
      have hX := Lib.hid hXn
      clear hXn
      refine hK.out _ _ trivial (fun _ => ?_)
      clear hK K
      try simp only [Act.put]
      try simp only [List.setIfInBounds_toArray]
      try simp only [List.set_cons_succ, List.set_cons_zero]
      try simp only [List.getElem_toArray]
      try simp only [List.getElem_cons_succ]
      try simp only [List.getElem_cons_zero]
      refine wpAnyH_ready (rs := [1]) (by kernel_rfl) (by simp) ?_
      refine AllReadyH.cons (o := _) rfl (fun K hK => ?_) AllReadyH.nil
      obtain ⟨r0, g0, r1, g1, r2, g2, r3, g3, r4, g4, r5, g5, r6, g6, r7, g7, r8, g8, pl⟩ := hX.out.cells
      go_simp
      clear r0 g0 r1 g1 r2 g2 r3 g3 r4 g4 r5 g5 r6 g6 r7 g7 r8 g8 pl
      refine hK.out _ _ trivial (fun _ => ?_)
      clear hK K
      try simp only [Act.put]
      try simp only [List.setIfInBounds_toArray]
      try simp only [List.set_cons_succ, List.set_cons_zero]
      try simp only [List.getElem_toArray]
      try simp only [List.getElem_cons_succ]
      try simp only [List.getElem_cons_zero]
      refine wpAnyH_ready (rs := [2]) (by kernel_rfl) (by simp) ?_
      refine AllReadyH.cons (o := { dst := some 24, op := .call { callee := .value (.func 27), args := #[.tmp 22, .tmp 23, .const (.int .i64 0), .const (.int .i64 0), .const (.int .i64 0)], argTypes := #[22, 55, 3, 3, 3] }, type := _, pos := _, after := _, guard := none }) rfl (fun K hK => ?_) AllReadyH.nil
      go_simp
      refine (hp2.out A c s1 _ hKs.out (hX.out.own.wok i1.out)).mono ?_
      rintro e w3 ⟨s2, rfl, hO, hbs⟩
      clear hKs
      have hO2 := hO.base (Nat.succ_le_of_lt hX.out.kp.lt)
      have hXn := hX.out.below hbs
      clear hX hbs hO
      have hX := Lib.hid hXn
      have hO := Lib.hid hO2
      clear hXn hO2
      refine hK.out _ _ trivial (fun _ => ?_)
      clear hK K
      try simp only [Act.put]
      try simp only [List.setIfInBounds_toArray]
      try simp only [List.set_cons_succ, List.set_cons_zero]
      try simp only [List.getElem_toArray]
      try simp only [List.getElem_cons_succ]
      try simp only [List.getElem_cons_zero]
      refine wpAnyH_take (i := 3) (oi := _) (v := ?_) rfl (by kernel_rfl) (by kernel_rfl) (by kernel_rfl) (fun _ _ _ h => h) (Or.inl ⟨by rfl, ?_⟩) trivial ?_
      rotate_left
      · intro w' hSw
        try dsimp only at hSw
        first | (go_simp; done) | (go_simp; with_reducible rfl)
      try simp only [Act.put]
      try simp only [List.setIfInBounds_toArray]
      try simp only [List.set_cons_succ, List.set_cons_zero]
      try simp only [List.getElem_toArray]
      try simp only [List.getElem_cons_succ]
      try simp only [List.getElem_cons_zero]
      refine wpAnyH_take (i := 4) (oi := _) (v := ?_) rfl (by kernel_rfl) (by kernel_rfl) (by kernel_rfl) (fun _ _ _ h => h) (Or.inl ⟨by rfl, ?_⟩) trivial ?_
      rotate_left
      · intro w' hSw
        try dsimp only at hSw
        first | (go_simp; done) | (go_simp; with_reducible rfl)
      try simp only [Act.put]
      try simp only [List.setIfInBounds_toArray]
      try simp only [List.set_cons_succ, List.set_cons_zero]
      try simp only [List.getElem_toArray]
      try simp only [List.getElem_cons_succ]
      try simp only [List.getElem_cons_zero]
      refine wpAnyH_take (i := 5) (oi := _) (v := ?_) rfl (by kernel_rfl) (by kernel_rfl) (by kernel_rfl) (fun _ _ _ h => h) (Or.inl ⟨by rfl, ?_⟩) trivial ?_
      rotate_left
      · intro w' hSw
        try dsimp only at hSw
        first | (go_simp; done) | (go_simp; with_reducible rfl)
      try simp only [Act.put]
      try simp only [List.setIfInBounds_toArray]
      try simp only [List.set_cons_succ, List.set_cons_zero]
      try simp only [List.getElem_toArray]
      try simp only [List.getElem_cons_succ]
      try simp only [List.getElem_cons_zero]
      refine wpAnyH_ready (rs := [6]) (by kernel_rfl) (by simp) ?_
      refine AllReadyH.cons (o := { dst := none, op := .store 55 (.tmp 5) (.tmp 25), type := _, pos := _, after := _, guard := none }) rfl (fun K hK => ?_) AllReadyH.nil
      rw [if_pos (by rfl)]
      refine wp_store_row 55 (.tmp 5) (.tmp 25) rfl pb #[.int .i64 x2.turn, .int .i64 x2.next, .int .i64 x2.field.wide, .int .i64 x2.field.high, .slice s2.field.ground.A x2.field.ground.length s2.field.ground.c, .slice s2.field.ore.A x2.field.ore.length s2.field.ore.c, .slice s2.gold.A x2.gold.length s2.gold.c, .slice s2.units.A x2.units.length s2.units.c, .slice s2.queue.A x2.queue.length s2.queue.c] (by rfl) (by rfl) 55 #[.int .i64 x1.turn, .int .i64 x1.next, .int .i64 x1.field.wide, .int .i64 x1.field.high, .slice s1.field.ground.A x1.field.ground.length s1.field.ground.c, .slice s1.field.ore.A x1.field.ore.length s1.field.ore.c, .slice s1.gold.A x1.gold.length s1.gold.c, .slice s1.units.A x1.units.length s1.units.c, .slice s1.queue.A x1.queue.length s1.queue.c] hX.out.kp (by kernel_rfl) rfl (by simp [Value.oneCell']) ?_
      refine hK _ _ trivial (fun _ => ?_)
      clear hK K
      try simp only [Act.put]
      try simp only [List.setIfInBounds_toArray]
      try simp only [List.set_cons_succ, List.set_cons_zero]
      try simp only [List.getElem_toArray]
      try simp only [List.getElem_cons_succ]
      try simp only [List.getElem_cons_zero]
      refine wpAnyH_take (i := 7) (oi := _) (v := ?_) rfl (by kernel_rfl) (by kernel_rfl) (by kernel_rfl) (fun _ _ _ h => h) (Or.inl ⟨by rfl, ?_⟩) trivial ?_
      rotate_left
      · intro w' hSw
        try dsimp only at hSw
        first | (go_simp; done) | (go_simp; with_reducible rfl)
      try simp only [Act.put]
      try simp only [List.setIfInBounds_toArray]
      try simp only [List.set_cons_succ, List.set_cons_zero]
      try simp only [List.getElem_toArray]
      try simp only [List.getElem_cons_succ]
      try simp only [List.getElem_cons_zero]
      have hS := Lib.hid (hX.out.store (s2 := s2) (y := x2) hO.out)
      refine wpAnyH_done (by kernel_rfl) ?_ _
      refine NoPanic.normal ?_
      go_wp2_with fail
      go_meet
      exact ⟨_, _, rfl, rfl, hS⟩
    · obtain ⟨r0, g0, r1, g1, r2, g2, r3, g3, r4, g4, r5, g5, r6, g6, r7, g7, r8, g8, pl⟩ := hX.out.cells
      go_simp
      clear r0 g0 r1 g1 r2 g2 r3 g3 r4 g4 r5 g5 r6 g6 r7 g7 r8 g8 pl
      refine hK.out _ _ trivial (fun _ => ?_)
      clear hK K
      try simp only [Act.put]
      try simp only [List.setIfInBounds_toArray]
      try simp only [List.set_cons_succ, List.set_cons_zero]
      try simp only [List.getElem_toArray]
      try simp only [List.getElem_cons_succ]
      try simp only [List.getElem_cons_zero]
      refine wpAnyH_ready (rs := [0]) (by kernel_rfl) (by simp) ?_
      refine AllReadyH.cons (o := { dst := some 22, op := .call { callee := .value (.func 46), args := #[], argTypes := #[] }, type := _, pos := _, after := _, guard := none }) rfl (fun K hK => ?_) AllReadyH.nil
      go_simp
      refine (hso.out _).mono ?_
      rintro e w2 ⟨A, c, rfl, hKs, hbs⟩
      replace hKs := Lib.hid hKs
      have hXn := hX.out.below hbs
      clear hX hbs
      have hX := Lib.hid hXn
      clear hXn
      refine hK.out _ _ trivial (fun _ => ?_)
      clear hK K
      try simp only [Act.put]
      try simp only [List.setIfInBounds_toArray]
      try simp only [List.set_cons_succ, List.set_cons_zero]
      try simp only [List.getElem_toArray]
      try simp only [List.getElem_cons_succ]
      try simp only [List.getElem_cons_zero]
      refine wpAnyH_ready (rs := [2]) (by kernel_rfl) (by simp) ?_
      refine AllReadyH.cons (o := { dst := some 24, op := .call { callee := .value (.func 27), args := #[.tmp 22, .tmp 23, .const (.int .i64 0), .const (.int .i64 0), .const (.int .i64 0)], argTypes := #[22, 55, 3, 3, 3] }, type := _, pos := _, after := _, guard := none }) rfl (fun K hK => ?_) AllReadyH.nil
      go_simp
      refine (hp2.out A c s1 _ hKs.out (hX.out.own.wok i1.out)).mono ?_
      rintro e w3 ⟨s2, rfl, hO, hbs⟩
      clear hKs
      have hO2 := hO.base (Nat.succ_le_of_lt hX.out.kp.lt)
      have hXn := hX.out.below hbs
      clear hX hbs hO
      have hX := Lib.hid hXn
      have hO := Lib.hid hO2
      clear hXn hO2
      refine hK.out _ _ trivial (fun _ => ?_)
      clear hK K
      try simp only [Act.put]
      try simp only [List.setIfInBounds_toArray]
      try simp only [List.set_cons_succ, List.set_cons_zero]
      try simp only [List.getElem_toArray]
      try simp only [List.getElem_cons_succ]
      try simp only [List.getElem_cons_zero]
      refine wpAnyH_take (i := 3) (oi := _) (v := ?_) rfl (by kernel_rfl) (by kernel_rfl) (by kernel_rfl) (fun _ _ _ h => h) (Or.inl ⟨by rfl, ?_⟩) trivial ?_
      rotate_left
      · intro w' hSw
        try dsimp only at hSw
        first | (go_simp; done) | (go_simp; with_reducible rfl)
      try simp only [Act.put]
      try simp only [List.setIfInBounds_toArray]
      try simp only [List.set_cons_succ, List.set_cons_zero]
      try simp only [List.getElem_toArray]
      try simp only [List.getElem_cons_succ]
      try simp only [List.getElem_cons_zero]
      refine wpAnyH_take (i := 4) (oi := _) (v := ?_) rfl (by kernel_rfl) (by kernel_rfl) (by kernel_rfl) (fun _ _ _ h => h) (Or.inl ⟨by rfl, ?_⟩) trivial ?_
      rotate_left
      · intro w' hSw
        try dsimp only at hSw
        first | (go_simp; done) | (go_simp; with_reducible rfl)
      try simp only [Act.put]
      try simp only [List.setIfInBounds_toArray]
      try simp only [List.set_cons_succ, List.set_cons_zero]
      try simp only [List.getElem_toArray]
      try simp only [List.getElem_cons_succ]
      try simp only [List.getElem_cons_zero]
      refine wpAnyH_take (i := 5) (oi := _) (v := ?_) rfl (by kernel_rfl) (by kernel_rfl) (by kernel_rfl) (fun _ _ _ h => h) (Or.inl ⟨by rfl, ?_⟩) trivial ?_
      rotate_left
      · intro w' hSw
        try dsimp only at hSw
        first | (go_simp; done) | (go_simp; with_reducible rfl)
      try simp only [Act.put]
      try simp only [List.setIfInBounds_toArray]
      try simp only [List.set_cons_succ, List.set_cons_zero]
      try simp only [List.getElem_toArray]
      try simp only [List.getElem_cons_succ]
      try simp only [List.getElem_cons_zero]
      refine wpAnyH_ready (rs := [6]) (by kernel_rfl) (by simp) ?_
      refine AllReadyH.cons (o := { dst := none, op := .store 55 (.tmp 5) (.tmp 25), type := _, pos := _, after := _, guard := none }) rfl (fun K hK => ?_) AllReadyH.nil
      rw [if_pos (by rfl)]
      refine wp_store_row 55 (.tmp 5) (.tmp 25) rfl pb #[.int .i64 x2.turn, .int .i64 x2.next, .int .i64 x2.field.wide, .int .i64 x2.field.high, .slice s2.field.ground.A x2.field.ground.length s2.field.ground.c, .slice s2.field.ore.A x2.field.ore.length s2.field.ore.c, .slice s2.gold.A x2.gold.length s2.gold.c, .slice s2.units.A x2.units.length s2.units.c, .slice s2.queue.A x2.queue.length s2.queue.c] (by rfl) (by rfl) 55 #[.int .i64 x1.turn, .int .i64 x1.next, .int .i64 x1.field.wide, .int .i64 x1.field.high, .slice s1.field.ground.A x1.field.ground.length s1.field.ground.c, .slice s1.field.ore.A x1.field.ore.length s1.field.ore.c, .slice s1.gold.A x1.gold.length s1.gold.c, .slice s1.units.A x1.units.length s1.units.c, .slice s1.queue.A x1.queue.length s1.queue.c] hX.out.kp (by kernel_rfl) rfl (by simp [Value.oneCell']) ?_
      refine hK _ _ trivial (fun _ => ?_)
      clear hK K
      try simp only [Act.put]
      try simp only [List.setIfInBounds_toArray]
      try simp only [List.set_cons_succ, List.set_cons_zero]
      try simp only [List.getElem_toArray]
      try simp only [List.getElem_cons_succ]
      try simp only [List.getElem_cons_zero]
      refine wpAnyH_take (i := 7) (oi := _) (v := ?_) rfl (by kernel_rfl) (by kernel_rfl) (by kernel_rfl) (fun _ _ _ h => h) (Or.inl ⟨by rfl, ?_⟩) trivial ?_
      rotate_left
      · intro w' hSw
        try dsimp only at hSw
        first | (go_simp; done) | (go_simp; with_reducible rfl)
      try simp only [Act.put]
      try simp only [List.setIfInBounds_toArray]
      try simp only [List.set_cons_succ, List.set_cons_zero]
      try simp only [List.getElem_toArray]
      try simp only [List.getElem_cons_succ]
      try simp only [List.getElem_cons_zero]
      have hS := Lib.hid (hX.out.store (s2 := s2) (y := x2) hO.out)
      refine wpAnyH_done (by kernel_rfl) ?_ _
      refine NoPanic.normal ?_
      go_wp2_with fail
      go_meet
      exact ⟨_, _, rfl, rfl, hS⟩
  case rest =>
  obtain ⟨W3, s2, rfl, rfl, hX⟩ := hcut
  go_upto_region 4 with fail
  go_cut [8] (fun v wx0 => ∃ wx s3, wx = wx0 ∧ v = .nilIface ∧ Hid (SM2 w wx rb pb s3 x3))
  case first =>
    as_aux_lemma =>
    have hXn : SM2 w W3.drew rb pb s2 x2 := hX.out.drewN 1
    clear hX
    have hX := Lib.hid hXn
    clear hXn
    refine wp_region_noPanic ?_
    refine wp_region_held_drew (S := fun _ => True) (by kernel_rfl) trivial (fun _ => ?_)
    generalize W3.drew = Wd at *
    refine wpAnyH_ready (rs := [0, 1]) (by kernel_rfl) (by simp) ?_
    refine AllReadyH.cons (o := { dst := some 28, op := .call { callee := .value (.func 46), args := #[], argTypes := #[] }, type := _, pos := _, after := _, guard := none }) rfl (fun K hK => ?_) (AllReadyH.cons (o := _) rfl (fun K hK => ?_) AllReadyH.nil)
    · go_simp
      refine (hso.out _).mono ?_
      rintro e w2 ⟨A, c, rfl, hKs, hbs⟩
      replace hKs := Lib.hid hKs
      have hXn := hX.out.below hbs
      clear hX hbs
      have hX := Lib.hid hXn
      clear hXn
      refine hK.out _ _ trivial (fun _ => ?_)
      clear hK K
      try simp only [Act.put]
      try simp only [List.setIfInBounds_toArray]
      try simp only [List.set_cons_succ, List.set_cons_zero]
      try simp only [List.getElem_toArray]
      try simp only [List.getElem_cons_succ]
      try simp only [List.getElem_cons_zero]
      refine wpAnyH_ready (rs := [1]) (by kernel_rfl) (by simp) ?_
      refine AllReadyH.cons (o := _) rfl (fun K hK => ?_) AllReadyH.nil
      obtain ⟨r0, g0, r1, g1, r2, g2, r3, g3, r4, g4, r5, g5, r6, g6, r7, g7, r8, g8, pl⟩ := hX.out.cells
      go_simp
      clear r0 g0 r1 g1 r2 g2 r3 g3 r4 g4 r5 g5 r6 g6 r7 g7 r8 g8 pl
      refine hK.out _ _ trivial (fun _ => ?_)
      clear hK K
      try simp only [Act.put]
      try simp only [List.setIfInBounds_toArray]
      try simp only [List.set_cons_succ, List.set_cons_zero]
      try simp only [List.getElem_toArray]
      try simp only [List.getElem_cons_succ]
      try simp only [List.getElem_cons_zero]
      refine wpAnyH_ready (rs := [2]) (by kernel_rfl) (by simp) ?_
      refine AllReadyH.cons (o := { dst := some 30, op := .call { callee := .value (.func 27), args := #[.tmp 28, .tmp 29, .const (.int .i64 0), .const (.int .i64 1), .const (.int .i64 1)], argTypes := #[22, 55, 3, 3, 3] }, type := _, pos := _, after := _, guard := none }) rfl (fun K hK => ?_) AllReadyH.nil
      go_simp
      refine (hp3.out A c s2 _ hKs.out (hX.out.own.wok i2.out)).mono ?_
      rintro e w3 ⟨s3, rfl, hO, hbs⟩
      clear hKs
      have hO2 := hO.base (Nat.succ_le_of_lt hX.out.kp.lt)
      have hXn := hX.out.below hbs
      clear hX hbs hO
      have hX := Lib.hid hXn
      have hO := Lib.hid hO2
      clear hXn hO2
      refine hK.out _ _ trivial (fun _ => ?_)
      clear hK K
      try simp only [Act.put]
      try simp only [List.setIfInBounds_toArray]
      try simp only [List.set_cons_succ, List.set_cons_zero]
      try simp only [List.getElem_toArray]
      try simp only [List.getElem_cons_succ]
      try simp only [List.getElem_cons_zero]
      refine wpAnyH_take (i := 3) (oi := _) (v := ?_) rfl (by kernel_rfl) (by kernel_rfl) (by kernel_rfl) (fun _ _ _ h => h) (Or.inl ⟨by rfl, ?_⟩) trivial ?_
      rotate_left
      · intro w' hSw
        try dsimp only at hSw
        first | (go_simp; done) | (go_simp; with_reducible rfl)
      try simp only [Act.put]
      try simp only [List.setIfInBounds_toArray]
      try simp only [List.set_cons_succ, List.set_cons_zero]
      try simp only [List.getElem_toArray]
      try simp only [List.getElem_cons_succ]
      try simp only [List.getElem_cons_zero]
      refine wpAnyH_take (i := 4) (oi := _) (v := ?_) rfl (by kernel_rfl) (by kernel_rfl) (by kernel_rfl) (fun _ _ _ h => h) (Or.inl ⟨by rfl, ?_⟩) trivial ?_
      rotate_left
      · intro w' hSw
        try dsimp only at hSw
        first | (go_simp; done) | (go_simp; with_reducible rfl)
      try simp only [Act.put]
      try simp only [List.setIfInBounds_toArray]
      try simp only [List.set_cons_succ, List.set_cons_zero]
      try simp only [List.getElem_toArray]
      try simp only [List.getElem_cons_succ]
      try simp only [List.getElem_cons_zero]
      refine wpAnyH_take (i := 5) (oi := _) (v := ?_) rfl (by kernel_rfl) (by kernel_rfl) (by kernel_rfl) (fun _ _ _ h => h) (Or.inl ⟨by rfl, ?_⟩) trivial ?_
      rotate_left
      · intro w' hSw
        try dsimp only at hSw
        first | (go_simp; done) | (go_simp; with_reducible rfl)
      try simp only [Act.put]
      try simp only [List.setIfInBounds_toArray]
      try simp only [List.set_cons_succ, List.set_cons_zero]
      try simp only [List.getElem_toArray]
      try simp only [List.getElem_cons_succ]
      try simp only [List.getElem_cons_zero]
      refine wpAnyH_ready (rs := [6]) (by kernel_rfl) (by simp) ?_
      refine AllReadyH.cons (o := { dst := none, op := .store 55 (.tmp 5) (.tmp 31), type := _, pos := _, after := _, guard := none }) rfl (fun K hK => ?_) AllReadyH.nil
      rw [if_pos (by rfl)]
      refine wp_store_row 55 (.tmp 5) (.tmp 31) rfl pb #[.int .i64 x3.turn, .int .i64 x3.next, .int .i64 x3.field.wide, .int .i64 x3.field.high, .slice s3.field.ground.A x3.field.ground.length s3.field.ground.c, .slice s3.field.ore.A x3.field.ore.length s3.field.ore.c, .slice s3.gold.A x3.gold.length s3.gold.c, .slice s3.units.A x3.units.length s3.units.c, .slice s3.queue.A x3.queue.length s3.queue.c] (by rfl) (by rfl) 55 #[.int .i64 x2.turn, .int .i64 x2.next, .int .i64 x2.field.wide, .int .i64 x2.field.high, .slice s2.field.ground.A x2.field.ground.length s2.field.ground.c, .slice s2.field.ore.A x2.field.ore.length s2.field.ore.c, .slice s2.gold.A x2.gold.length s2.gold.c, .slice s2.units.A x2.units.length s2.units.c, .slice s2.queue.A x2.queue.length s2.queue.c] hX.out.kp (by kernel_rfl) rfl (by simp [Value.oneCell']) ?_
      refine hK _ _ trivial (fun _ => ?_)
      clear hK K
      try simp only [Act.put]
      try simp only [List.setIfInBounds_toArray]
      try simp only [List.set_cons_succ, List.set_cons_zero]
      try simp only [List.getElem_toArray]
      try simp only [List.getElem_cons_succ]
      try simp only [List.getElem_cons_zero]
      refine wpAnyH_take (i := 7) (oi := _) (v := ?_) rfl (by kernel_rfl) (by kernel_rfl) (by kernel_rfl) (fun _ _ _ h => h) (Or.inl ⟨by rfl, ?_⟩) trivial ?_
      rotate_left
      · intro w' hSw
        try dsimp only at hSw
        first | (go_simp; done) | (go_simp; with_reducible rfl)
      try simp only [Act.put]
      try simp only [List.setIfInBounds_toArray]
      try simp only [List.set_cons_succ, List.set_cons_zero]
      try simp only [List.getElem_toArray]
      try simp only [List.getElem_cons_succ]
      try simp only [List.getElem_cons_zero]
      have hS := Lib.hid (hX.out.store (s2 := s3) (y := x3) hO.out)
      refine wpAnyH_done (by kernel_rfl) ?_ _
      refine NoPanic.normal ?_
      go_wp2_with fail
      go_meet
      exact ⟨_, _, rfl, rfl, hS⟩
    · obtain ⟨r0, g0, r1, g1, r2, g2, r3, g3, r4, g4, r5, g5, r6, g6, r7, g7, r8, g8, pl⟩ := hX.out.cells
      go_simp
      clear r0 g0 r1 g1 r2 g2 r3 g3 r4 g4 r5 g5 r6 g6 r7 g7 r8 g8 pl
      refine hK.out _ _ trivial (fun _ => ?_)
      clear hK K
      try simp only [Act.put]
      try simp only [List.setIfInBounds_toArray]
      try simp only [List.set_cons_succ, List.set_cons_zero]
      try simp only [List.getElem_toArray]
      try simp only [List.getElem_cons_succ]
      try simp only [List.getElem_cons_zero]
      refine wpAnyH_ready (rs := [0]) (by kernel_rfl) (by simp) ?_
      refine AllReadyH.cons (o := { dst := some 28, op := .call { callee := .value (.func 46), args := #[], argTypes := #[] }, type := _, pos := _, after := _, guard := none }) rfl (fun K hK => ?_) AllReadyH.nil
      go_simp
      refine (hso.out _).mono ?_
      rintro e w2 ⟨A, c, rfl, hKs, hbs⟩
      replace hKs := Lib.hid hKs
      have hXn := hX.out.below hbs
      clear hX hbs
      have hX := Lib.hid hXn
      clear hXn
      refine hK.out _ _ trivial (fun _ => ?_)
      clear hK K
      try simp only [Act.put]
      try simp only [List.setIfInBounds_toArray]
      try simp only [List.set_cons_succ, List.set_cons_zero]
      try simp only [List.getElem_toArray]
      try simp only [List.getElem_cons_succ]
      try simp only [List.getElem_cons_zero]
      refine wpAnyH_ready (rs := [2]) (by kernel_rfl) (by simp) ?_
      refine AllReadyH.cons (o := { dst := some 30, op := .call { callee := .value (.func 27), args := #[.tmp 28, .tmp 29, .const (.int .i64 0), .const (.int .i64 1), .const (.int .i64 1)], argTypes := #[22, 55, 3, 3, 3] }, type := _, pos := _, after := _, guard := none }) rfl (fun K hK => ?_) AllReadyH.nil
      go_simp
      refine (hp3.out A c s2 _ hKs.out (hX.out.own.wok i2.out)).mono ?_
      rintro e w3 ⟨s3, rfl, hO, hbs⟩
      clear hKs
      have hO2 := hO.base (Nat.succ_le_of_lt hX.out.kp.lt)
      have hXn := hX.out.below hbs
      clear hX hbs hO
      have hX := Lib.hid hXn
      have hO := Lib.hid hO2
      clear hXn hO2
      refine hK.out _ _ trivial (fun _ => ?_)
      clear hK K
      try simp only [Act.put]
      try simp only [List.setIfInBounds_toArray]
      try simp only [List.set_cons_succ, List.set_cons_zero]
      try simp only [List.getElem_toArray]
      try simp only [List.getElem_cons_succ]
      try simp only [List.getElem_cons_zero]
      refine wpAnyH_take (i := 3) (oi := _) (v := ?_) rfl (by kernel_rfl) (by kernel_rfl) (by kernel_rfl) (fun _ _ _ h => h) (Or.inl ⟨by rfl, ?_⟩) trivial ?_
      rotate_left
      · intro w' hSw
        try dsimp only at hSw
        first | (go_simp; done) | (go_simp; with_reducible rfl)
      try simp only [Act.put]
      try simp only [List.setIfInBounds_toArray]
      try simp only [List.set_cons_succ, List.set_cons_zero]
      try simp only [List.getElem_toArray]
      try simp only [List.getElem_cons_succ]
      try simp only [List.getElem_cons_zero]
      refine wpAnyH_take (i := 4) (oi := _) (v := ?_) rfl (by kernel_rfl) (by kernel_rfl) (by kernel_rfl) (fun _ _ _ h => h) (Or.inl ⟨by rfl, ?_⟩) trivial ?_
      rotate_left
      · intro w' hSw
        try dsimp only at hSw
        first | (go_simp; done) | (go_simp; with_reducible rfl)
      try simp only [Act.put]
      try simp only [List.setIfInBounds_toArray]
      try simp only [List.set_cons_succ, List.set_cons_zero]
      try simp only [List.getElem_toArray]
      try simp only [List.getElem_cons_succ]
      try simp only [List.getElem_cons_zero]
      refine wpAnyH_take (i := 5) (oi := _) (v := ?_) rfl (by kernel_rfl) (by kernel_rfl) (by kernel_rfl) (fun _ _ _ h => h) (Or.inl ⟨by rfl, ?_⟩) trivial ?_
      rotate_left
      · intro w' hSw
        try dsimp only at hSw
        first | (go_simp; done) | (go_simp; with_reducible rfl)
      try simp only [Act.put]
      try simp only [List.setIfInBounds_toArray]
      try simp only [List.set_cons_succ, List.set_cons_zero]
      try simp only [List.getElem_toArray]
      try simp only [List.getElem_cons_succ]
      try simp only [List.getElem_cons_zero]
      refine wpAnyH_ready (rs := [6]) (by kernel_rfl) (by simp) ?_
      refine AllReadyH.cons (o := { dst := none, op := .store 55 (.tmp 5) (.tmp 31), type := _, pos := _, after := _, guard := none }) rfl (fun K hK => ?_) AllReadyH.nil
      rw [if_pos (by rfl)]
      refine wp_store_row 55 (.tmp 5) (.tmp 31) rfl pb #[.int .i64 x3.turn, .int .i64 x3.next, .int .i64 x3.field.wide, .int .i64 x3.field.high, .slice s3.field.ground.A x3.field.ground.length s3.field.ground.c, .slice s3.field.ore.A x3.field.ore.length s3.field.ore.c, .slice s3.gold.A x3.gold.length s3.gold.c, .slice s3.units.A x3.units.length s3.units.c, .slice s3.queue.A x3.queue.length s3.queue.c] (by rfl) (by rfl) 55 #[.int .i64 x2.turn, .int .i64 x2.next, .int .i64 x2.field.wide, .int .i64 x2.field.high, .slice s2.field.ground.A x2.field.ground.length s2.field.ground.c, .slice s2.field.ore.A x2.field.ore.length s2.field.ore.c, .slice s2.gold.A x2.gold.length s2.gold.c, .slice s2.units.A x2.units.length s2.units.c, .slice s2.queue.A x2.queue.length s2.queue.c] hX.out.kp (by kernel_rfl) rfl (by simp [Value.oneCell']) ?_
      refine hK _ _ trivial (fun _ => ?_)
      clear hK K
      try simp only [Act.put]
      try simp only [List.setIfInBounds_toArray]
      try simp only [List.set_cons_succ, List.set_cons_zero]
      try simp only [List.getElem_toArray]
      try simp only [List.getElem_cons_succ]
      try simp only [List.getElem_cons_zero]
      refine wpAnyH_take (i := 7) (oi := _) (v := ?_) rfl (by kernel_rfl) (by kernel_rfl) (by kernel_rfl) (fun _ _ _ h => h) (Or.inl ⟨by rfl, ?_⟩) trivial ?_
      rotate_left
      · intro w' hSw
        try dsimp only at hSw
        first | (go_simp; done) | (go_simp; with_reducible rfl)
      try simp only [Act.put]
      try simp only [List.setIfInBounds_toArray]
      try simp only [List.set_cons_succ, List.set_cons_zero]
      try simp only [List.getElem_toArray]
      try simp only [List.getElem_cons_succ]
      try simp only [List.getElem_cons_zero]
      have hS := Lib.hid (hX.out.store (s2 := s3) (y := x3) hO.out)
      refine wpAnyH_done (by kernel_rfl) ?_ _
      refine NoPanic.normal ?_
      go_wp2_with fail
      go_meet
      exact ⟨_, _, rfl, rfl, hS⟩
  case rest =>
  obtain ⟨W4, s3, rfl, rfl, hX⟩ := hcut
  go_upto_region 5 with fail
  go_cut [9] (fun v wx0 => ∃ wx s4, wx = wx0 ∧ v = .nilIface ∧ Hid (SM2 w wx rb pb s4 x4))
  case first =>
    as_aux_lemma =>
    have hXn : SM2 w W4.drew rb pb s3 x3 := hX.out.drewN 1
    clear hX
    have hX := Lib.hid hXn
    clear hXn
    refine wp_region_noPanic ?_
    refine wp_region_held_drew (S := fun _ => True) (by kernel_rfl) trivial (fun _ => ?_)
    generalize W4.drew = Wd at *
    refine wpAnyH_ready (rs := [0, 1]) (by kernel_rfl) (by simp) ?_
    refine AllReadyH.cons (o := { dst := some 34, op := .call { callee := .value (.func 46), args := #[], argTypes := #[] }, type := _, pos := _, after := _, guard := none }) rfl (fun K hK => ?_) (AllReadyH.cons (o := _) rfl (fun K hK => ?_) AllReadyH.nil)
    · go_simp
      refine (hso.out _).mono ?_
      rintro e w2 ⟨A, c, rfl, hKs, hbs⟩
      replace hKs := Lib.hid hKs
      have hXn := hX.out.below hbs
      clear hX hbs
      have hX := Lib.hid hXn
      clear hXn
      refine hK.out _ _ trivial (fun _ => ?_)
      clear hK K
      try simp only [Act.put]
      try simp only [List.setIfInBounds_toArray]
      try simp only [List.set_cons_succ, List.set_cons_zero]
      try simp only [List.getElem_toArray]
      try simp only [List.getElem_cons_succ]
      try simp only [List.getElem_cons_zero]
      refine wpAnyH_ready (rs := [1]) (by kernel_rfl) (by simp) ?_
      refine AllReadyH.cons (o := _) rfl (fun K hK => ?_) AllReadyH.nil
      obtain ⟨r0, g0, r1, g1, r2, g2, r3, g3, r4, g4, r5, g5, r6, g6, r7, g7, r8, g8, pl⟩ := hX.out.cells
      go_simp
      clear r0 g0 r1 g1 r2 g2 r3 g3 r4 g4 r5 g5 r6 g6 r7 g7 r8 g8 pl
      refine hK.out _ _ trivial (fun _ => ?_)
      clear hK K
      try simp only [Act.put]
      try simp only [List.setIfInBounds_toArray]
      try simp only [List.set_cons_succ, List.set_cons_zero]
      try simp only [List.getElem_toArray]
      try simp only [List.getElem_cons_succ]
      try simp only [List.getElem_cons_zero]
      refine wpAnyH_ready (rs := [2]) (by kernel_rfl) (by simp) ?_
      refine AllReadyH.cons (o := { dst := some 36, op := .call { callee := .value (.func 27), args := #[.tmp 34, .tmp 35, .const (.int .i64 1), .const (.int .i64 2), .const (.int .i64 3)], argTypes := #[22, 55, 3, 3, 3] }, type := _, pos := _, after := _, guard := none }) rfl (fun K hK => ?_) AllReadyH.nil
      go_simp
      refine (hp4.out A c s3 _ hKs.out (hX.out.own.wok i3.out)).mono ?_
      rintro e w3 ⟨s4, rfl, hO, hbs⟩
      clear hKs
      have hO2 := hO.base (Nat.succ_le_of_lt hX.out.kp.lt)
      have hXn := hX.out.below hbs
      clear hX hbs hO
      have hX := Lib.hid hXn
      have hO := Lib.hid hO2
      clear hXn hO2
      refine hK.out _ _ trivial (fun _ => ?_)
      clear hK K
      try simp only [Act.put]
      try simp only [List.setIfInBounds_toArray]
      try simp only [List.set_cons_succ, List.set_cons_zero]
      try simp only [List.getElem_toArray]
      try simp only [List.getElem_cons_succ]
      try simp only [List.getElem_cons_zero]
      refine wpAnyH_take (i := 3) (oi := _) (v := ?_) rfl (by kernel_rfl) (by kernel_rfl) (by kernel_rfl) (fun _ _ _ h => h) (Or.inl ⟨by rfl, ?_⟩) trivial ?_
      rotate_left
      · intro w' hSw
        try dsimp only at hSw
        first | (go_simp; done) | (go_simp; with_reducible rfl)
      try simp only [Act.put]
      try simp only [List.setIfInBounds_toArray]
      try simp only [List.set_cons_succ, List.set_cons_zero]
      try simp only [List.getElem_toArray]
      try simp only [List.getElem_cons_succ]
      try simp only [List.getElem_cons_zero]
      refine wpAnyH_take (i := 4) (oi := _) (v := ?_) rfl (by kernel_rfl) (by kernel_rfl) (by kernel_rfl) (fun _ _ _ h => h) (Or.inl ⟨by rfl, ?_⟩) trivial ?_
      rotate_left
      · intro w' hSw
        try dsimp only at hSw
        first | (go_simp; done) | (go_simp; with_reducible rfl)
      try simp only [Act.put]
      try simp only [List.setIfInBounds_toArray]
      try simp only [List.set_cons_succ, List.set_cons_zero]
      try simp only [List.getElem_toArray]
      try simp only [List.getElem_cons_succ]
      try simp only [List.getElem_cons_zero]
      refine wpAnyH_take (i := 5) (oi := _) (v := ?_) rfl (by kernel_rfl) (by kernel_rfl) (by kernel_rfl) (fun _ _ _ h => h) (Or.inl ⟨by rfl, ?_⟩) trivial ?_
      rotate_left
      · intro w' hSw
        try dsimp only at hSw
        first | (go_simp; done) | (go_simp; with_reducible rfl)
      try simp only [Act.put]
      try simp only [List.setIfInBounds_toArray]
      try simp only [List.set_cons_succ, List.set_cons_zero]
      try simp only [List.getElem_toArray]
      try simp only [List.getElem_cons_succ]
      try simp only [List.getElem_cons_zero]
      refine wpAnyH_ready (rs := [6]) (by kernel_rfl) (by simp) ?_
      refine AllReadyH.cons (o := { dst := none, op := .store 55 (.tmp 5) (.tmp 37), type := _, pos := _, after := _, guard := none }) rfl (fun K hK => ?_) AllReadyH.nil
      rw [if_pos (by rfl)]
      refine wp_store_row 55 (.tmp 5) (.tmp 37) rfl pb #[.int .i64 x4.turn, .int .i64 x4.next, .int .i64 x4.field.wide, .int .i64 x4.field.high, .slice s4.field.ground.A x4.field.ground.length s4.field.ground.c, .slice s4.field.ore.A x4.field.ore.length s4.field.ore.c, .slice s4.gold.A x4.gold.length s4.gold.c, .slice s4.units.A x4.units.length s4.units.c, .slice s4.queue.A x4.queue.length s4.queue.c] (by rfl) (by rfl) 55 #[.int .i64 x3.turn, .int .i64 x3.next, .int .i64 x3.field.wide, .int .i64 x3.field.high, .slice s3.field.ground.A x3.field.ground.length s3.field.ground.c, .slice s3.field.ore.A x3.field.ore.length s3.field.ore.c, .slice s3.gold.A x3.gold.length s3.gold.c, .slice s3.units.A x3.units.length s3.units.c, .slice s3.queue.A x3.queue.length s3.queue.c] hX.out.kp (by kernel_rfl) rfl (by simp [Value.oneCell']) ?_
      refine hK _ _ trivial (fun _ => ?_)
      clear hK K
      try simp only [Act.put]
      try simp only [List.setIfInBounds_toArray]
      try simp only [List.set_cons_succ, List.set_cons_zero]
      try simp only [List.getElem_toArray]
      try simp only [List.getElem_cons_succ]
      try simp only [List.getElem_cons_zero]
      refine wpAnyH_take (i := 7) (oi := _) (v := ?_) rfl (by kernel_rfl) (by kernel_rfl) (by kernel_rfl) (fun _ _ _ h => h) (Or.inl ⟨by rfl, ?_⟩) trivial ?_
      rotate_left
      · intro w' hSw
        try dsimp only at hSw
        first | (go_simp; done) | (go_simp; with_reducible rfl)
      try simp only [Act.put]
      try simp only [List.setIfInBounds_toArray]
      try simp only [List.set_cons_succ, List.set_cons_zero]
      try simp only [List.getElem_toArray]
      try simp only [List.getElem_cons_succ]
      try simp only [List.getElem_cons_zero]
      have hS := Lib.hid (hX.out.store (s2 := s4) (y := x4) hO.out)
      refine wpAnyH_done (by kernel_rfl) ?_ _
      refine NoPanic.normal ?_
      go_wp2_with fail
      go_meet
      exact ⟨_, _, rfl, rfl, hS⟩
    · obtain ⟨r0, g0, r1, g1, r2, g2, r3, g3, r4, g4, r5, g5, r6, g6, r7, g7, r8, g8, pl⟩ := hX.out.cells
      go_simp
      clear r0 g0 r1 g1 r2 g2 r3 g3 r4 g4 r5 g5 r6 g6 r7 g7 r8 g8 pl
      refine hK.out _ _ trivial (fun _ => ?_)
      clear hK K
      try simp only [Act.put]
      try simp only [List.setIfInBounds_toArray]
      try simp only [List.set_cons_succ, List.set_cons_zero]
      try simp only [List.getElem_toArray]
      try simp only [List.getElem_cons_succ]
      try simp only [List.getElem_cons_zero]
      refine wpAnyH_ready (rs := [0]) (by kernel_rfl) (by simp) ?_
      refine AllReadyH.cons (o := { dst := some 34, op := .call { callee := .value (.func 46), args := #[], argTypes := #[] }, type := _, pos := _, after := _, guard := none }) rfl (fun K hK => ?_) AllReadyH.nil
      go_simp
      refine (hso.out _).mono ?_
      rintro e w2 ⟨A, c, rfl, hKs, hbs⟩
      replace hKs := Lib.hid hKs
      have hXn := hX.out.below hbs
      clear hX hbs
      have hX := Lib.hid hXn
      clear hXn
      refine hK.out _ _ trivial (fun _ => ?_)
      clear hK K
      try simp only [Act.put]
      try simp only [List.setIfInBounds_toArray]
      try simp only [List.set_cons_succ, List.set_cons_zero]
      try simp only [List.getElem_toArray]
      try simp only [List.getElem_cons_succ]
      try simp only [List.getElem_cons_zero]
      refine wpAnyH_ready (rs := [2]) (by kernel_rfl) (by simp) ?_
      refine AllReadyH.cons (o := { dst := some 36, op := .call { callee := .value (.func 27), args := #[.tmp 34, .tmp 35, .const (.int .i64 1), .const (.int .i64 2), .const (.int .i64 3)], argTypes := #[22, 55, 3, 3, 3] }, type := _, pos := _, after := _, guard := none }) rfl (fun K hK => ?_) AllReadyH.nil
      go_simp
      refine (hp4.out A c s3 _ hKs.out (hX.out.own.wok i3.out)).mono ?_
      rintro e w3 ⟨s4, rfl, hO, hbs⟩
      clear hKs
      have hO2 := hO.base (Nat.succ_le_of_lt hX.out.kp.lt)
      have hXn := hX.out.below hbs
      clear hX hbs hO
      have hX := Lib.hid hXn
      have hO := Lib.hid hO2
      clear hXn hO2
      refine hK.out _ _ trivial (fun _ => ?_)
      clear hK K
      try simp only [Act.put]
      try simp only [List.setIfInBounds_toArray]
      try simp only [List.set_cons_succ, List.set_cons_zero]
      try simp only [List.getElem_toArray]
      try simp only [List.getElem_cons_succ]
      try simp only [List.getElem_cons_zero]
      refine wpAnyH_take (i := 3) (oi := _) (v := ?_) rfl (by kernel_rfl) (by kernel_rfl) (by kernel_rfl) (fun _ _ _ h => h) (Or.inl ⟨by rfl, ?_⟩) trivial ?_
      rotate_left
      · intro w' hSw
        try dsimp only at hSw
        first | (go_simp; done) | (go_simp; with_reducible rfl)
      try simp only [Act.put]
      try simp only [List.setIfInBounds_toArray]
      try simp only [List.set_cons_succ, List.set_cons_zero]
      try simp only [List.getElem_toArray]
      try simp only [List.getElem_cons_succ]
      try simp only [List.getElem_cons_zero]
      refine wpAnyH_take (i := 4) (oi := _) (v := ?_) rfl (by kernel_rfl) (by kernel_rfl) (by kernel_rfl) (fun _ _ _ h => h) (Or.inl ⟨by rfl, ?_⟩) trivial ?_
      rotate_left
      · intro w' hSw
        try dsimp only at hSw
        first | (go_simp; done) | (go_simp; with_reducible rfl)
      try simp only [Act.put]
      try simp only [List.setIfInBounds_toArray]
      try simp only [List.set_cons_succ, List.set_cons_zero]
      try simp only [List.getElem_toArray]
      try simp only [List.getElem_cons_succ]
      try simp only [List.getElem_cons_zero]
      refine wpAnyH_take (i := 5) (oi := _) (v := ?_) rfl (by kernel_rfl) (by kernel_rfl) (by kernel_rfl) (fun _ _ _ h => h) (Or.inl ⟨by rfl, ?_⟩) trivial ?_
      rotate_left
      · intro w' hSw
        try dsimp only at hSw
        first | (go_simp; done) | (go_simp; with_reducible rfl)
      try simp only [Act.put]
      try simp only [List.setIfInBounds_toArray]
      try simp only [List.set_cons_succ, List.set_cons_zero]
      try simp only [List.getElem_toArray]
      try simp only [List.getElem_cons_succ]
      try simp only [List.getElem_cons_zero]
      refine wpAnyH_ready (rs := [6]) (by kernel_rfl) (by simp) ?_
      refine AllReadyH.cons (o := { dst := none, op := .store 55 (.tmp 5) (.tmp 37), type := _, pos := _, after := _, guard := none }) rfl (fun K hK => ?_) AllReadyH.nil
      rw [if_pos (by rfl)]
      refine wp_store_row 55 (.tmp 5) (.tmp 37) rfl pb #[.int .i64 x4.turn, .int .i64 x4.next, .int .i64 x4.field.wide, .int .i64 x4.field.high, .slice s4.field.ground.A x4.field.ground.length s4.field.ground.c, .slice s4.field.ore.A x4.field.ore.length s4.field.ore.c, .slice s4.gold.A x4.gold.length s4.gold.c, .slice s4.units.A x4.units.length s4.units.c, .slice s4.queue.A x4.queue.length s4.queue.c] (by rfl) (by rfl) 55 #[.int .i64 x3.turn, .int .i64 x3.next, .int .i64 x3.field.wide, .int .i64 x3.field.high, .slice s3.field.ground.A x3.field.ground.length s3.field.ground.c, .slice s3.field.ore.A x3.field.ore.length s3.field.ore.c, .slice s3.gold.A x3.gold.length s3.gold.c, .slice s3.units.A x3.units.length s3.units.c, .slice s3.queue.A x3.queue.length s3.queue.c] hX.out.kp (by kernel_rfl) rfl (by simp [Value.oneCell']) ?_
      refine hK _ _ trivial (fun _ => ?_)
      clear hK K
      try simp only [Act.put]
      try simp only [List.setIfInBounds_toArray]
      try simp only [List.set_cons_succ, List.set_cons_zero]
      try simp only [List.getElem_toArray]
      try simp only [List.getElem_cons_succ]
      try simp only [List.getElem_cons_zero]
      refine wpAnyH_take (i := 7) (oi := _) (v := ?_) rfl (by kernel_rfl) (by kernel_rfl) (by kernel_rfl) (fun _ _ _ h => h) (Or.inl ⟨by rfl, ?_⟩) trivial ?_
      rotate_left
      · intro w' hSw
        try dsimp only at hSw
        first | (go_simp; done) | (go_simp; with_reducible rfl)
      try simp only [Act.put]
      try simp only [List.setIfInBounds_toArray]
      try simp only [List.set_cons_succ, List.set_cons_zero]
      try simp only [List.getElem_toArray]
      try simp only [List.getElem_cons_succ]
      try simp only [List.getElem_cons_zero]
      have hS := Lib.hid (hX.out.store (s2 := s4) (y := x4) hO.out)
      refine wpAnyH_done (by kernel_rfl) ?_ _
      refine NoPanic.normal ?_
      go_wp2_with fail
      go_meet
      exact ⟨_, _, rfl, rfl, hS⟩
  case rest =>
  obtain ⟨W5, s4, rfl, rfl, hX⟩ := hcut
  go_upto_region 6 with fail
  have e1 : ((x4.units.length : Int) == 3) = true := by rw [hl.out]; rfl
  have e2 : ((x4.gold.length : Int) == 2) = true := by rw [hg.out]; rfl
  have hXn : SM2 w W5.drew rb pb s4 x4 := hX.out.drewN 1
  clear hX
  have hX := Lib.hid hXn
  clear hXn
  refine wp_region_noPanic ?_
  refine wp_region_held_drew (S := (fun wz => wz.cell? ⟨pb, 0, none⟩ = some (.int .i64 x4.turn) ∧ wz.cell? ⟨pb, 1, none⟩ = some (.int .i64 x4.next) ∧ wz.cell? ⟨pb, 2, none⟩ = some (.int .i64 x4.field.wide) ∧ wz.cell? ⟨pb, 3, none⟩ = some (.int .i64 x4.field.high) ∧ wz.cell? ⟨pb, 4, none⟩ = some (.slice s4.field.ground.A x4.field.ground.length s4.field.ground.c) ∧ wz.cell? ⟨pb, 5, none⟩ = some (.slice s4.field.ore.A x4.field.ore.length s4.field.ore.c) ∧ wz.cell? ⟨pb, 6, none⟩ = some (.slice s4.gold.A x4.gold.length s4.gold.c) ∧ wz.cell? ⟨pb, 7, none⟩ = some (.slice s4.units.A x4.units.length s4.units.c) ∧ wz.cell? ⟨pb, 8, none⟩ = some (.slice s4.queue.A x4.queue.length s4.queue.c))) (by kernel_rfl) hX.out.cell9 (fun hHeld => ?_)
  generalize W5.drew = Wd at *
  refine wpAnyH_take (i := 0) (oi := _) (v := ?_) rfl (by kernel_rfl) (by kernel_rfl) (by kernel_rfl) (fun _ _ _ h => h) (Or.inl ⟨by rfl, ?_⟩) (by assumption) ?_
  rotate_left
  · intro w' hSw
    try dsimp only at hSw
    first | (go_simp; done) | (go_simp; with_reducible rfl)
  try simp only [Act.put]
  try simp only [List.setIfInBounds_toArray]
  try simp only [List.set_cons_succ, List.set_cons_zero]
  try simp only [List.getElem_toArray]
  try simp only [List.getElem_cons_succ]
  try simp only [List.getElem_cons_zero]
  refine wpAnyH_take (i := 1) (oi := _) (v := ?_) rfl (by kernel_rfl) (by kernel_rfl) (by kernel_rfl) (fun _ _ _ h => h) (Or.inl ⟨by rfl, ?_⟩) (by assumption) ?_
  rotate_left
  · intro w' hSw
    try dsimp only at hSw
    first | (go_simp; done) | (go_simp; with_reducible rfl)
  try simp only [Act.put]
  try simp only [List.setIfInBounds_toArray]
  try simp only [List.set_cons_succ, List.set_cons_zero]
  try simp only [List.getElem_toArray]
  try simp only [List.getElem_cons_succ]
  try simp only [List.getElem_cons_zero]
  refine wpAnyH_take (i := 2) (oi := _) (v := ?_) rfl (by kernel_rfl) (by kernel_rfl) (by kernel_rfl) (fun _ _ _ h => h) (Or.inl ⟨by rfl, ?_⟩) (by assumption) ?_
  rotate_left
  · intro w' hSw
    try dsimp only at hSw
    first | (go_simp; done) | (go_simp; with_reducible rfl)
  try simp only [Act.put]
  try simp only [List.setIfInBounds_toArray]
  try simp only [List.set_cons_succ, List.set_cons_zero]
  try simp only [List.getElem_toArray]
  try simp only [List.getElem_cons_succ]
  try simp only [List.getElem_cons_zero]
  refine wpAnyH_take (i := 3) (oi := _) (v := ?_) rfl (by kernel_rfl) (by kernel_rfl) (by kernel_rfl) (fun _ _ _ h => h) (Or.inl ⟨by rfl, ?_⟩) (by assumption) ?_
  rotate_left
  · intro w' hSw
    try dsimp only at hSw
    first | (go_simp; done) | (go_simp; with_reducible rfl)
  try simp only [Act.put]
  try simp only [List.setIfInBounds_toArray]
  try simp only [List.set_cons_succ, List.set_cons_zero]
  try simp only [List.getElem_toArray]
  try simp only [List.getElem_cons_succ]
  try simp only [List.getElem_cons_zero]
  refine wpAnyH_take (i := 4) (oi := _) (v := ?_) rfl (by kernel_rfl) (by kernel_rfl) (by kernel_rfl) (fun _ _ _ h => h) (Or.inl ⟨by rfl, ?_⟩) (by assumption) ?_
  rotate_left
  · intro w' hSw
    try dsimp only at hSw
    first | (go_simp; done) | (go_simp; with_reducible rfl)
  try simp only [Act.put]
  try simp only [List.setIfInBounds_toArray]
  try simp only [List.set_cons_succ, List.set_cons_zero]
  try simp only [List.getElem_toArray]
  try simp only [List.getElem_cons_succ]
  try simp only [List.getElem_cons_zero]
  refine wpAnyH_take (i := 5) (oi := _) (v := ?_) rfl (by kernel_rfl) (by kernel_rfl) (by kernel_rfl) (fun _ _ _ h => h) (Or.inl ⟨by rfl, ?_⟩) (by assumption) ?_
  rotate_left
  · intro w' hSw
    try dsimp only at hSw
    first | (go_simp; done) | (go_simp; with_reducible rfl)
  try simp only [Act.put]
  try simp only [List.setIfInBounds_toArray]
  try simp only [List.set_cons_succ, List.set_cons_zero]
  try simp only [List.getElem_toArray]
  try simp only [List.getElem_cons_succ]
  try simp only [List.getElem_cons_zero]
  refine wpAnyH_take (i := 6) (oi := _) (v := ?_) rfl (by kernel_rfl) (by kernel_rfl) (by kernel_rfl) (fun _ _ _ h => h) (Or.inl ⟨by rfl, ?_⟩) (by assumption) ?_
  rotate_left
  · intro w' hSw
    try dsimp only at hSw
    first | (go_simp; done) | (go_simp; with_reducible rfl)
  try simp only [Act.put]
  try simp only [List.setIfInBounds_toArray]
  try simp only [List.set_cons_succ, List.set_cons_zero]
  try simp only [List.getElem_toArray]
  try simp only [List.getElem_cons_succ]
  try simp only [List.getElem_cons_zero]
  refine wpAnyH_take (i := 7) (oi := _) (v := ?_) rfl (by kernel_rfl) (by kernel_rfl) (by kernel_rfl) (fun _ _ _ h => h) (Or.inl ⟨by rfl, ?_⟩) (by assumption) ?_
  rotate_left
  · intro w' hSw
    try dsimp only at hSw
    first | (go_simp; done) | (go_simp; with_reducible rfl)
  try simp only [Act.put]
  try simp only [List.setIfInBounds_toArray]
  try simp only [List.set_cons_succ, List.set_cons_zero]
  try simp only [List.getElem_toArray]
  try simp only [List.getElem_cons_succ]
  try simp only [List.getElem_cons_zero]
  refine wpAnyH_take (i := 8) (oi := _) (v := ?_) rfl (by kernel_rfl) (by kernel_rfl) (by kernel_rfl) (fun _ _ _ h => h) (Or.inl ⟨by rfl, ?_⟩) (by assumption) ?_
  rotate_left
  · intro w' hSw
    try dsimp only at hSw
    first | (go_simp; done) | (go_simp; with_reducible rfl)
  try simp only [Act.put]
  try simp only [List.setIfInBounds_toArray]
  try simp only [List.set_cons_succ, List.set_cons_zero]
  try simp only [List.getElem_toArray]
  try simp only [List.getElem_cons_succ]
  try simp only [List.getElem_cons_zero]
  refine wpAnyH_take (i := 9) (oi := _) (v := ?_) rfl (by kernel_rfl) (by kernel_rfl) (by kernel_rfl) (fun _ _ _ h => h) (Or.inl ⟨by rfl, ?_⟩) (by assumption) ?_
  rotate_left
  · intro w' hSw
    try dsimp only at hSw
    first | (go_simp; done) | (go_simp; with_reducible rfl)
  try simp only [Act.put]
  try simp only [List.setIfInBounds_toArray]
  try simp only [List.set_cons_succ, List.set_cons_zero]
  try simp only [List.getElem_toArray]
  try simp only [List.getElem_cons_succ]
  try simp only [List.getElem_cons_zero]
  refine wpAnyH_take (i := 10) (oi := _) (v := ?_) rfl (by kernel_rfl) (by kernel_rfl) (by kernel_rfl) (fun _ _ _ h => h) (Or.inl ⟨by rfl, ?_⟩) (by assumption) ?_
  rotate_left
  · intro w' hSw
    try dsimp only at hSw
    first | (go_simp; done) | (go_simp; with_reducible rfl)
  try simp only [Act.put]
  try simp only [List.setIfInBounds_toArray]
  try simp only [List.set_cons_succ, List.set_cons_zero]
  try simp only [List.getElem_toArray]
  try simp only [List.getElem_cons_succ]
  try simp only [List.getElem_cons_zero]
  refine wpAnyH_take (i := 11) (oi := _) (v := ?_) rfl (by kernel_rfl) (by kernel_rfl) (by kernel_rfl) (fun _ _ _ h => h) (Or.inl ⟨by rfl, ?_⟩) (by assumption) ?_
  rotate_left
  · intro w' hSw
    try dsimp only at hSw
    first | (go_simp; done) | (go_simp; with_reducible rfl)
  try simp only [Act.put]
  try simp only [List.setIfInBounds_toArray]
  try simp only [List.set_cons_succ, List.set_cons_zero]
  try simp only [List.getElem_toArray]
  try simp only [List.getElem_cons_succ]
  try simp only [List.getElem_cons_zero]
  refine wpAnyH_take (i := 12) (oi := _) (v := ?_) rfl (by kernel_rfl) (by kernel_rfl) (by kernel_rfl) (fun _ _ _ h => h) (Or.inl ⟨by rfl, ?_⟩) (by assumption) ?_
  rotate_left
  · intro w' hSw
    try dsimp only at hSw
    first | (go_simp; done) | (go_simp; with_reducible rfl)
  try simp only [Act.put]
  try simp only [List.setIfInBounds_toArray]
  try simp only [List.set_cons_succ, List.set_cons_zero]
  try simp only [List.getElem_toArray]
  try simp only [List.getElem_cons_succ]
  try simp only [List.getElem_cons_zero]
  refine wpAnyH_take (i := 13) (oi := _) (v := ?_) rfl (by kernel_rfl) (by kernel_rfl) (by kernel_rfl) (fun _ _ _ h => h) (Or.inl ⟨by rfl, ?_⟩) (by assumption) ?_
  rotate_left
  · intro w' hSw
    try dsimp only at hSw
    first | (go_simp; done) | (go_simp; with_reducible rfl)
  try simp only [Act.put]
  try simp only [List.setIfInBounds_toArray]
  try simp only [List.set_cons_succ, List.set_cons_zero]
  try simp only [List.getElem_toArray]
  try simp only [List.getElem_cons_succ]
  try simp only [List.getElem_cons_zero]
  refine wpAnyH_take (i := 14) (oi := _) (v := ?_) rfl (by kernel_rfl) (by kernel_rfl) (by kernel_rfl) (fun _ _ _ h => h) (Or.inl ⟨by rfl, ?_⟩) (by assumption) ?_
  rotate_left
  · intro w' hSw
    try dsimp only at hSw
    first | (go_simp; done) | (go_simp; with_reducible rfl)
  try simp only [Act.put]
  try simp only [List.setIfInBounds_toArray]
  try simp only [List.set_cons_succ, List.set_cons_zero]
  try simp only [List.getElem_toArray]
  try simp only [List.getElem_cons_succ]
  try simp only [List.getElem_cons_zero]
  refine wpAnyH_take (i := 15) (oi := _) (v := ?_) rfl (by kernel_rfl) (by kernel_rfl) (by kernel_rfl) (fun _ _ _ h => h) (Or.inl ⟨by rfl, ?_⟩) (by assumption) ?_
  rotate_left
  · intro w' hSw
    try dsimp only at hSw
    first | (go_simp; done) | (go_simp; with_reducible rfl)
  try simp only [Act.put]
  try simp only [List.setIfInBounds_toArray]
  try simp only [List.set_cons_succ, List.set_cons_zero]
  try simp only [List.getElem_toArray]
  try simp only [List.getElem_cons_succ]
  try simp only [List.getElem_cons_zero]
  refine wpAnyH_take (i := 16) (oi := _) (v := ?_) rfl (by kernel_rfl) (by kernel_rfl) (by kernel_rfl) (fun _ _ _ h => h) (Or.inl ⟨by rfl, ?_⟩) (by assumption) ?_
  rotate_left
  · intro w' hSw
    try dsimp only at hSw
    first | (go_simp; done) | (go_simp; with_reducible rfl)
  try simp only [Act.put]
  try simp only [List.setIfInBounds_toArray]
  try simp only [List.set_cons_succ, List.set_cons_zero]
  try simp only [List.getElem_toArray]
  try simp only [List.getElem_cons_succ]
  try simp only [List.getElem_cons_zero]
  refine wpAnyH_take (i := 17) (oi := _) (v := ?_) rfl (by kernel_rfl) (by kernel_rfl) (by kernel_rfl) (fun _ _ _ h => h) (Or.inl ⟨by rfl, ?_⟩) (by assumption) ?_
  rotate_left
  · intro w' hSw
    try dsimp only at hSw
    first | (go_simp; done) | (go_simp; with_reducible rfl)
  try simp only [Act.put]
  try simp only [List.setIfInBounds_toArray]
  try simp only [List.set_cons_succ, List.set_cons_zero]
  try simp only [List.getElem_toArray]
  try simp only [List.getElem_cons_succ]
  try simp only [List.getElem_cons_zero]
  refine wpAnyH_take (i := 18) (oi := _) (v := ?_) rfl (by kernel_rfl) (by kernel_rfl) (by kernel_rfl) (fun _ _ _ h => h) (Or.inl ⟨by rfl, ?_⟩) (by assumption) ?_
  rotate_left
  · intro w' hSw
    try dsimp only at hSw
    first | (go_simp; done) | (go_simp; with_reducible rfl)
  try simp only [Act.put]
  try simp only [List.setIfInBounds_toArray]
  try simp only [List.set_cons_succ, List.set_cons_zero]
  try simp only [List.getElem_toArray]
  try simp only [List.getElem_cons_succ]
  try simp only [List.getElem_cons_zero]
  refine wpAnyH_take (i := 19) (oi := _) (v := ?_) rfl (by kernel_rfl) (by kernel_rfl) (by kernel_rfl) (fun _ _ _ h => h) (Or.inl ⟨by rfl, ?_⟩) (by assumption) ?_
  rotate_left
  · intro w' hSw
    try dsimp only at hSw
    first | (go_simp; done) | (go_simp; with_reducible rfl)
  try simp only [Act.put]
  try simp only [List.setIfInBounds_toArray]
  try simp only [List.set_cons_succ, List.set_cons_zero]
  try simp only [List.getElem_toArray]
  try simp only [List.getElem_cons_succ]
  try simp only [List.getElem_cons_zero]
  refine wpAnyH_take (i := 20) (oi := _) (v := ?_) rfl (by kernel_rfl) (by kernel_rfl) (by kernel_rfl) (fun _ _ _ h => h) (Or.inl ⟨by rfl, ?_⟩) (by assumption) ?_
  rotate_left
  · intro w' hSw
    try dsimp only at hSw
    first | (go_simp; done) | (go_simp; with_reducible rfl)
  try simp only [Act.put]
  try simp only [List.setIfInBounds_toArray]
  try simp only [List.set_cons_succ, List.set_cons_zero]
  try simp only [List.getElem_toArray]
  try simp only [List.getElem_cons_succ]
  try simp only [List.getElem_cons_zero]
  refine wpAnyH_take (i := 21) (oi := _) (v := ?_) rfl (by kernel_rfl) (by kernel_rfl) (by kernel_rfl) (fun _ _ _ h => h) (Or.inl ⟨by rfl, ?_⟩) (by assumption) ?_
  rotate_left
  · intro w' hSw
    try dsimp only at hSw
    first | (go_simp; done) | (go_simp; with_reducible rfl)
  try simp only [Act.put]
  try simp only [List.setIfInBounds_toArray]
  try simp only [List.set_cons_succ, List.set_cons_zero]
  try simp only [List.getElem_toArray]
  try simp only [List.getElem_cons_succ]
  try simp only [List.getElem_cons_zero]
  refine wpAnyH_take (i := 22) (oi := _) (v := ?_) rfl (by kernel_rfl) (by kernel_rfl) (by kernel_rfl) (fun _ _ _ h => h) (Or.inl ⟨by rfl, ?_⟩) (by assumption) ?_
  rotate_left
  · intro w' hSw
    try dsimp only at hSw
    first | (go_simp; done) | (go_simp; with_reducible rfl)
  try simp only [Act.put]
  try simp only [List.setIfInBounds_toArray]
  try simp only [List.set_cons_succ, List.set_cons_zero]
  try simp only [List.getElem_toArray]
  try simp only [List.getElem_cons_succ]
  try simp only [List.getElem_cons_zero]
  refine wpAnyH_take (i := 23) (oi := _) (v := ?_) rfl (by kernel_rfl) (by kernel_rfl) (by kernel_rfl) (fun _ _ _ h => h) (Or.inl ⟨by rfl, ?_⟩) (by assumption) ?_
  rotate_left
  · intro w' hSw
    try dsimp only at hSw
    first | (go_simp; done) | (go_simp; with_reducible rfl)
  try simp only [Act.put]
  try simp only [List.setIfInBounds_toArray]
  try simp only [List.set_cons_succ, List.set_cons_zero]
  try simp only [List.getElem_toArray]
  try simp only [List.getElem_cons_succ]
  try simp only [List.getElem_cons_zero]
  refine wpAnyH_take (i := 24) (oi := _) (v := ?_) rfl (by kernel_rfl) (by kernel_rfl) (by kernel_rfl) (fun _ _ _ h => h) (Or.inl ⟨by rfl, ?_⟩) (by assumption) ?_
  rotate_left
  · intro w' hSw
    try dsimp only at hSw
    first | (go_simp; done) | (go_simp; with_reducible rfl)
  try simp only [Act.put]
  try simp only [List.setIfInBounds_toArray]
  try simp only [List.set_cons_succ, List.set_cons_zero]
  try simp only [List.getElem_toArray]
  try simp only [List.getElem_cons_succ]
  try simp only [List.getElem_cons_zero]
  refine wpAnyH_take (i := 25) (oi := _) (v := ?_) rfl (by kernel_rfl) (by kernel_rfl) (by kernel_rfl) (fun _ _ _ h => h) (Or.inl ⟨by rfl, ?_⟩) (by assumption) ?_
  rotate_left
  · intro w' hSw
    try dsimp only at hSw
    first | (go_simp; done) | (go_simp; with_reducible rfl)
  try simp only [Act.put]
  try simp only [List.setIfInBounds_toArray]
  try simp only [List.set_cons_succ, List.set_cons_zero]
  try simp only [List.getElem_toArray]
  try simp only [List.getElem_cons_succ]
  try simp only [List.getElem_cons_zero]
  refine wpAnyH_take (i := 26) (oi := _) (v := ?_) rfl (by kernel_rfl) (by kernel_rfl) (by kernel_rfl) (fun _ _ _ h => h) (Or.inl ⟨by rfl, ?_⟩) (by assumption) ?_
  rotate_left
  · intro w' hSw
    try dsimp only at hSw
    first | (go_simp; done) | (go_simp; with_reducible rfl)
  try simp only [Act.put]
  try simp only [List.setIfInBounds_toArray]
  try simp only [List.set_cons_succ, List.set_cons_zero]
  try simp only [List.getElem_toArray]
  try simp only [List.getElem_cons_succ]
  try simp only [List.getElem_cons_zero]
  refine wpAnyH_take (i := 27) (oi := _) (v := ?_) rfl (by kernel_rfl) (by kernel_rfl) (by kernel_rfl) (fun _ _ _ h => h) (Or.inl ⟨by rfl, ?_⟩) (by assumption) ?_
  rotate_left
  · intro w' hSw
    try dsimp only at hSw
    first | (go_simp; done) | (go_simp; with_reducible rfl)
  try simp only [Act.put]
  try simp only [List.setIfInBounds_toArray]
  try simp only [List.set_cons_succ, List.set_cons_zero]
  try simp only [List.getElem_toArray]
  try simp only [List.getElem_cons_succ]
  try simp only [List.getElem_cons_zero]
  refine wpAnyH_take (i := 28) (oi := _) (v := ?_) rfl (by kernel_rfl) (by kernel_rfl) (by kernel_rfl) (fun _ _ _ h => h) (Or.inl ⟨by rfl, ?_⟩) (by assumption) ?_
  rotate_left
  · intro w' hSw
    try dsimp only at hSw
    first | (go_simp; done) | (go_simp; with_reducible rfl)
  try simp only [Act.put]
  try simp only [List.setIfInBounds_toArray]
  try simp only [List.set_cons_succ, List.set_cons_zero]
  try simp only [List.getElem_toArray]
  try simp only [List.getElem_cons_succ]
  try simp only [List.getElem_cons_zero]
  refine wpAnyH_take (i := 29) (oi := _) (v := ?_) rfl (by kernel_rfl) (by kernel_rfl) (by kernel_rfl) (fun _ _ _ h => h) (Or.inl ⟨by rfl, ?_⟩) (by assumption) ?_
  rotate_left
  · intro w' hSw
    try dsimp only at hSw
    first | (go_simp; done) | (go_simp; with_reducible rfl)
  try simp only [Act.put]
  try simp only [List.setIfInBounds_toArray]
  try simp only [List.set_cons_succ, List.set_cons_zero]
  try simp only [List.getElem_toArray]
  try simp only [List.getElem_cons_succ]
  try simp only [List.getElem_cons_zero]
  refine wpAnyH_take (i := 30) (oi := _) (v := ?_) rfl (by kernel_rfl) (by kernel_rfl) (by kernel_rfl) (fun _ _ _ h => h) (Or.inl ⟨by rfl, ?_⟩) (by assumption) ?_
  rotate_left
  · intro w' hSw
    try dsimp only at hSw
    first | (go_simp; done) | (go_simp; with_reducible rfl)
  try simp only [Act.put]
  try simp only [List.setIfInBounds_toArray]
  try simp only [List.set_cons_succ, List.set_cons_zero]
  try simp only [List.getElem_toArray]
  try simp only [List.getElem_cons_succ]
  try simp only [List.getElem_cons_zero]
  refine wpAnyH_ready (rs := [31]) (by kernel_rfl) (by simp) ?_
  refine AllReadyH.cons (o := { dst := none, op := .store 55 (.tmp 0) (.tmp 39), type := _, pos := _, after := _, guard := none }) rfl (fun K hK => ?_) AllReadyH.nil
  rw [if_pos (by rfl)]
  refine wp_store_row 55 (.tmp 0) (.tmp 39) rfl rb #[.int .i64 x4.turn, .int .i64 x4.next, .int .i64 x4.field.wide, .int .i64 x4.field.high, .slice s4.field.ground.A x4.field.ground.length s4.field.ground.c, .slice s4.field.ore.A x4.field.ore.length s4.field.ore.c, .slice s4.gold.A x4.gold.length s4.gold.c, .slice s4.units.A x4.units.length s4.units.c, .slice s4.queue.A x4.queue.length s4.queue.c] (by rfl) (by rfl) 55 #[.int .i64 0, .int .i64 0, .int .i64 0, .int .i64 0, .slice none 0 0, .slice none 0 0, .slice none 0 0, .slice none 0 0, .slice none 0 0] hX.out.kr (by kernel_rfl) rfl (by simp [Value.oneCell']) ?_
  refine hK _ _ (hX.out.cellsB _) (fun hHeld => ?_)
  clear hK K
  try simp only [Act.put]
  try simp only [List.setIfInBounds_toArray]
  try simp only [List.set_cons_succ, List.set_cons_zero]
  try simp only [List.getElem_toArray]
  try simp only [List.getElem_cons_succ]
  try simp only [List.getElem_cons_zero]
  refine wpAnyH_take (i := 32) (oi := _) (v := ?_) rfl (by kernel_rfl) (by kernel_rfl) (by kernel_rfl) (fun _ _ _ h => h) (Or.inl ⟨by rfl, ?_⟩) (by assumption) ?_
  rotate_left
  · intro w' hSw
    try dsimp only at hSw
    first | (go_simp; done) | (go_simp; with_reducible rfl)
  try simp only [Act.put]
  try simp only [List.setIfInBounds_toArray]
  try simp only [List.set_cons_succ, List.set_cons_zero]
  try simp only [List.getElem_toArray]
  try simp only [List.getElem_cons_succ]
  try simp only [List.getElem_cons_zero]
  obtain ⟨hzB, hOB, hbB⟩ := hX.out.done
  replace hzB := Lib.hid hzB
  replace hOB := Lib.hid hOB
  replace hbB := Lib.hid hbB
  refine wpAnyH_done (by kernel_rfl) ?_ _
  refine NoPanic.normal ?_
  go_wp2_with fail
  refine bodyPost_ret (results_ct rfl _ _ rb _ #[.int .i64 x4.turn, .int .i64 x4.next, .int .i64 x4.field.wide, .int .i64 x4.field.high, .slice s4.field.ground.A x4.field.ground.length s4.field.ground.c, .slice s4.field.ore.A x4.field.ore.length s4.field.ore.c, .slice s4.gold.A x4.gold.length s4.gold.c, .slice s4.units.A x4.units.length s4.units.c, .slice s4.queue.A x4.queue.length s4.queue.c] _ rfl hzB.out Tryd.underlying55 rfl (by kernel_rfl)) rfl ?_
  exact ⟨s4, rfl, hOB.out, hbB.out⟩
theorem WInt.add2 {L : List GK} {x : GW} {p : Int} {kd sp : Nat} (h : WInt x) (hp : PutOk L x p (kd : Int) (sp : Int)) : WInt (addX L x p kd (sp : Int)) := by
  have hh := headE_ok hp.ok.head
  have hk := kindsE_at hp.ok.kinds (k := kd) (by have := hp.kind; omega)
  have hl := (kindsE_0 hp.ok.kinds).1
  have hg := (good_of x.field hp.ok.field).len
  have h1 := hh.next
  have h2 := hp.player
  have h3 := hh.players
  have h4 := hp.kind
  have h5 := hp.spot
  have h6 := hk.life
  refine ⟨h.turn, ?_, h.wide, h.high, h.g, h.o, h.d, fun u hu => ?_, h.q⟩
  · unfold addX I64; simp only; omega
  · unfold addX at hu
    simp only [List.mem_append, List.mem_singleton] at hu
    rcases hu with hu | rfl
    · exact h.u u hu
    · unfold GU.ok I64
      simp only
      omega
theorem wintS12 : WInt xS1 := by
  refine ⟨by unfold I64; decide, by unfold I64; decide, by unfold I64; decide, by unfold I64; decide, ?_, ?_, ?_, fun u hu => absurd hu List.not_mem_nil, fun u hu => absurd hu List.not_mem_nil⟩
  · show ∀ n ∈ [(0 : Int), 0, 0, 0, 0, 0, 0, 0], I64 n
    unfold I64; decide
  · show ∀ n ∈ [(0 : Int), 0, 0, 0, 0, 0, 30, 0], I64 n
    unfold I64; decide
  · show ∀ n ∈ [(100 : Int), 100], I64 n
    unfold I64; decide
theorem wintS22 : WInt xS2 := wintS12.add2 putS1
theorem wintS32 : WInt xS3 := wintS22.add2 putS2
theorem wintS42 : WInt xS4 := wintS32.add2 putS3
theorem putC2 {x : GW} {p : Int} {kd sp : Nat} (hp : PutOk sortsL x p (kd : Int) (sp : Int)) : PutC2 x (addX sortsL x p kd (sp : Int)) p (kd : Int) (sp : Int) := fun A c s w hK hW =>
  (place_ok ⟨A, c⟩ sortsL s x p kd sp w hK hW hp).mono fun _ _ ⟨s', h1, h2, h3⟩ => ⟨s', h1, h2.base (by omega), h3⟩
theorem small2_any (w : World) : Calls Tryd.prog 44 #[] w fun e w' => ∃ s, e = .returned (.tuple #[wA s xS4, .bool true]) ∧ WOwn w' w.heap.size s xS4 ∧ Below w.heap.size w w' :=
  small2_law fS xS1 xS2 xS3 xS4 wintS12 wintS22 wintS32
    (fun w => (kinds2_any w).mono fun _ _ ⟨h1, h2, h3, h4⟩ => ⟨_, _, h1, h2.more h4, h3⟩)
    (fun w => parseS_any w)
    (fun A c s w hK hF => (new_ok ⟨A, c⟩ sortsL s fS 2 100 w hK hF newS_0).mono fun _ _ ⟨s', h1, h2, h3⟩ => ⟨s', h1, h2.base (by omega), h3⟩)
    (putC2 putS1) (putC2 putS2) (putC2 putS3) xS4_len.1 xS4_len.2.1 w
end Go.Proofs.YtkgkpggfoieioaaDoor
