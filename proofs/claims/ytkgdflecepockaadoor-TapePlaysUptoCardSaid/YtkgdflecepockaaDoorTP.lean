import Derived.Test.YtkgdflecepockaaDoorTapePl
import Derived.Test.YtkgdflecepockaaDoorFrame
import Derived.Test.YtkgdflecepockaaDoorPlainT
namespace Go.Proofs.YtkgdflecepockaaDoor
set_option linter.unusedVariables false
open Go.RowKit
/-- A tape, and what it should hold, side by side. -/
structure TP (B : Nat) (w : World) (g : Nat) (A : Option Addr) (c : Nat) (A2 : Option Addr) (c2 : Nat) (xs : List Int) (safe : Nat) (steps stop : Int) : Prop where
  t : TOk w B g A c xs (safe : Int) steps stop
  own : w.ownsRow B 5 1 (.slice A2 xs.length c2) xs.length (xs.map (.int .u8))
  apart : ∀ b, ob A = some b → ob A2 ≠ some b
  byte : ∀ x ∈ xs, Byte x
  sl : safe ≤ xs.length
  xl : xs.length ≤ 6000
theorem own_ob_ne {w : World} {B g n c : Nat} {A : Option Addr} {vs : List Value} {t : TypeId} {cs : Array Value} (h : w.ownsRow B 5 1 (.slice A n c) n vs) (hb : Blk w g t cs) (ht : t ≠ 5) : ob A ≠ some g := by
  rcases h.2 with ⟨hv, _⟩ | ⟨g', cap, cur, hv, _, hg, _⟩
  · injection hv with h1 _ _; subst h1; simp [ob, Value.ownBlock]
  · injection hv with h1 _ _; subst h1
    intro e
    simp only [ob, Value.ownBlock, Option.some.injEq] at e
    subst e
    unfold Blk at hb
    rw [hb] at hg
    injection hg with hg
    injection hg with _ ht'
    exact ht ht'
theorem own_ob_lt {w : World} {B n c : Nat} {A : Option Addr} {vs : List Value} (h : w.ownsRow B 5 1 (.slice A n c) n vs) {b : Nat} (hb : ob A = some b) : B ≤ b ∧ b < w.heap.size := h.lt b (by rw [ob_eq]; exact hb)
theorem TEff.keptRow {w w' : World} {B g n c : Nat} {A2 : Option Addr} {vs : List Value} {r : Option Nat} (h : w.ownsRow B 5 1 (.slice A2 n c) n vs) (he : TEff w w' g r) (h1 : ob A2 ≠ some g) (h2 : ∀ b, ob A2 = some b → r ≠ some b) : w'.ownsRow B 5 1 (.slice A2 n c) n vs := by
  rcases h.2 with ⟨hv, hn⟩ | ⟨g', cap, cur, hv, k1, k2, k3, k4, k5, k6⟩
  · exact ⟨h.1, .inl ⟨hv, hn⟩⟩
  · have e : ob A2 = some g' := by injection hv with h1 _ _; subst h1; rfl
    have hlt : g' < w.heap.size := (own_ob_lt h e).2
    refine ⟨h.1, .inr ⟨g', cap, cur, hv, k1, ?_, k3, k4, k5, k6⟩⟩
    rw [he.block g' hlt (fun x => h1 (by rw [e, x])) (fun x => h2 g' e x.symm)]
    exact k2
section
variable {w w' : World} {g B c c2 safe : Nat} {A A2 : Option Addr} {xs : List Int} {steps stop : Int}
theorem TP.far (h : TP B w g A c A2 c2 xs safe steps stop) : ob A2 ≠ some g := own_ob_ne h.own h.t.blk (by decide)
theorem TP.below (h : TP B w g A c A2 c2 xs safe steps stop) (hb : Below w.heap.size w w') : TP B w' g A c A2 c2 xs safe steps stop :=
  ⟨h.t.below hb, own_below h.own hb, h.apart, h.byte, h.sl, h.xl⟩
theorem TP.drewN (h : TP B w g A c A2 c2 xs safe steps stop) (n : Nat) : TP B (w.drewN n) g A c A2 c2 xs safe steps stop := ⟨h.t.drewN n, h.own, h.apart, h.byte, h.sl, h.xl⟩
theorem TP.eff (h : TP B w g A c A2 c2 xs safe steps stop) {s2 : Nat} {st2 sp2 : Int} (ht : TOk w' B g A c xs (s2 : Int) st2 sp2) (he : TEff w w' g none) (hs : s2 ≤ xs.length) : TP B w' g A c A2 c2 xs s2 st2 sp2 :=
  ⟨ht, he.keptRow h.own h.far (fun _ _ => by simp), h.apart, h.byte, hs, h.xl⟩
theorem TP.cut (h : TP B w g A c A2 c2 xs safe steps stop) {m s2 : Nat} {st2 sp2 : Int} (hm : m ≤ xs.length) (ht : TOk w' B g A c (xs.take m) (s2 : Int) st2 sp2) (he : TEff w w' g none) (hs : s2 ≤ m) : TP B w' g A c A2 c2 (xs.take m) s2 st2 sp2 := by
  have hl : (xs.take m).length = m := by rw [List.length_take]; omega
  have ho := own_cut (he.keptRow h.own h.far (fun _ _ => by simp)) hm
  rw [Nat.mul_one, ← List.map_take] at ho
  refine ⟨ht, by rw [hl]; exact ho, h.apart, fun x hx => h.byte x (List.mem_of_mem_take hx), by omega, by have := h.xl; omega⟩
theorem TP.app (h : TP B w g A c A2 c2 xs safe steps stop) {w1 w2 : World} {A' A2' : Option Addr} {c' c2' : Nat} {ys : List Int} {st2 : Int} (ht : TOk w1 B g A' c' (xs ++ ys) (safe : Int) st2 stop) (he : TEff w w1 g (ob A)) (hl : ob A' = ob A ∨ ∃ b, ob A' = some b ∧ w.heap.size ≤ b)
    (ho : w2.ownsRow B 5 1 (.slice A2' (xs.length + ys.length) c2') (xs.length + ys.length) (xs.map (.int .u8) ++ ys.map (.int .u8))) (hg : w1.grownBy w2 (ob A2)) (hl2 : ob A2' = ob A2 ∨ ob A2' = some w1.heap.size)
    (hy : ∀ y ∈ ys, Byte y) (hxl : xs.length + ys.length ≤ 6000) : TP B w2 g A' c' A2' c2' (xs ++ ys) safe st2 stop := by
  have ap1 : ∀ b, ob A' = some b → ob A2 ≠ some b := fun b hb hb2 => by
    have hlt := (own_ob_lt h.own hb2).2
    rcases hl with e | ⟨b', e, hge⟩
    · exact h.apart b (by rw [← e]; exact hb) hb2
    · rw [hb] at e; injection e with e; omega
  have hfar := h.far
  have hblk : Blk w2 g _ _ := ht.blk.grown hg (fun e => hfar e.symm)
  have htr : w2.ownsRow B 5 1 (.slice A' (xs ++ ys).length c') (xs ++ ys).length ((xs ++ ys).map (.int .u8)) := ht.own.kept hg (by
    rw [ob_eq]
    rcases hA : ob A' with _ | b
    · exact .inl rfl
    · exact .inr (fun e => ap1 b hA e.symm))
  refine ⟨⟨hblk, htr, ht.low⟩, ?_, fun b hb hb2 => ?_, fun x hx => ?_, ?_, ?_⟩
  · rw [List.length_append, List.map_append]; exact ho
  · rcases hl2 with e | e
    · exact ap1 b hb (by rw [← e]; exact hb2)
    · rw [hb2] at e; injection e with e; subst e
      have := (own_ob_lt ht.own hb).2
      omega
  · rcases List.mem_append.1 hx with e | e
    · exact h.byte x e
    · exact hy x e
  · rw [List.length_append]; have := h.sl; omega
  · rw [List.length_append]; exact hxl
theorem TP.own1 (h : TP B w g A c A2 c2 xs safe steps stop) (he : TEff w w' g (ob A)) : w'.ownsRow B 5 1 (.slice A2 xs.length c2) xs.length (xs.map (.int .u8)) :=
  he.keptRow h.own h.far (fun b hb e => h.apart b e hb)
theorem TP.rowLow (h : TP B w g A c A2 c2 xs safe steps stop) : ∀ b, ob A = some b → B ≤ b := fun b hb => (own_ob_lt h.t.own hb).1
theorem TP.rowLow2 (h : TP B w g A c A2 c2 xs safe steps stop) : ∀ b, ob A2 = some b → B ≤ b := fun b hb => (own_ob_lt h.own hb).1
theorem TP.size (h : TP B w g A c A2 c2 xs safe steps stop) : B ≤ w.heap.size := h.t.size
theorem Blk.eff {gv : Nat} {t : TypeId} {cs : Array Value} {r : Option Nat} (hk : Blk w gv t cs) (he : TEff w w' g r) (hg : gv ≠ g) (hr : some gv ≠ r) : Blk w' gv t cs := (he.block gv hk.lt hg hr).trans hk
end
/-- Parts of the bytes that came in. -/
def FV (w : World) (fs : List (Value × List Int)) : Prop := ∀ r ∈ fs, ∃ A c, r.1 = .slice A r.2.length c ∧ RD w w.heap.size 1 A r.2.length (r.2.map (.int .u8)) ∧ ∀ x ∈ r.2, Byte x
/-- What the second loop has so far. -/
def FR2 (w : World) (ys : List Int) (v i : Value) (wr : World) : Prop := ∃ (p f : Nat) (fs : List (Value × List Int)), i = .int .i64 p ∧ p ≤ ys.length ∧ ys.length ≤ p + f ∧ fs.length ≤ p ∧ Hid (fs.map (·.2) ++ (frF f ys p).1 = (framesL ys).1 ∧ (frF f ys p).2 = (framesL ys).2) ∧ Hid (wr.ownsRow w.heap.size 23 1 v fs.length (fs.map (·.1))) ∧ Hid (FV w fs) ∧ Hid (Below w.heap.size w wr)
theorem FV.snoc {w : World} {fs : List (Value × List Int)} (h : FV w fs) {A : Option Addr} {K c : Nat} {zs : List Int} (hl : zs.length = K) (hr : RD w w.heap.size 1 A K (zs.map (.int .u8))) (hb : ∀ x ∈ zs, Byte x) : FV w (fs ++ [(.slice A K c, zs)]) := fun r hm => by
  rcases List.mem_append.1 hm with e | e
  · exact h r e
  · obtain rfl : r = (.slice A K c, zs) := by simpa using e
    subst hl
    exact ⟨A, c, rfl, hr, hb⟩
theorem framesL_byte (ys : List Int) (h : ∀ y ∈ ys, Byte y) : ∀ (f p : Nat), ∀ l ∈ (frF f ys p).1, ∀ x ∈ l, Byte x
  | 0, p, l, hl, x, hx => by simp [frF] at hl
  | f + 1, p, l, hl, x, hx => by
    rcases hk : frK ys p with _ | k
    · rw [frF_none _ _ _ hk] at hl; simp at hl
    · rw [frF_some _ _ _ _ hk] at hl
      rcases List.mem_cons.1 hl with rfl | hl
      · exact h x (List.mem_of_mem_drop (List.mem_of_mem_take hx))
      · exact framesL_byte ys h f _ l hl x hx
theorem frame_rd2 (A : Option Addr) (n c B : Nat) (xs : List Int) (w : World) (hn0 : xs.length = n) (hnil : A = none → c = 0) (hB : B ≤ w.heap.size) (h : RD w B 1 A n (xs.map (.int .u8))) (hn : n + 2 ≤ 140737488355328) :
    Calls Tryd.prog 17 #[.slice A n c] w fun e w' => ∃ g d, e = .returned (.slice (some ⟨g, 0, none⟩) (2 + n) d) ∧ RD w' w'.heap.size 1 (some ⟨g, 0, none⟩) (2 + n) ((hiB n :: loB n :: xs).map (.int .u8)) ∧ 2 + n ≤ d ∧ Below w.heap.size w w' := by
  refine (frame_any A n c B xs w hnil hB h hn).mono ?_
  rintro e w' ⟨v, he, hown, hb⟩
  have hcap := hown.2
  obtain ⟨g, d, rfl, _⟩ := hown.form (by omega)
  subst hn0
  refine ⟨g, d, he, RD.of_own hown, ?_, hb⟩
  rcases hcap with ⟨h, _⟩ | ⟨g', cap, cur, hv, _, _, hle, _⟩
  · cases h
  · injection hv with _ _ hc
    omega
end Go.Proofs.YtkgdflecepockaaDoor
