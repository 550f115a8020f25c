import Derived.Test.YtkgdflecepockaaDoorRLockT
import Derived.Test.YtkgdflecepockaaDoorOrdEq
import Derived.Test.YtkgdflecepockaaDoorOpenO
import Derived.Test.YtkgdflecepockaaDoorRowsI
import Derived.Test.YtkgdflecepockaaDoorInts
import Derived.Test.YtkgdflecepockaaDoorTold
import Derived.BigQuiet
import Derived.Deep.QuietTactic
import Derived.Deep.CutBlock
import Derived.Deep.DeepCutAuto
namespace Go.Proofs.YtkgdflecepockaaDoor
set_option linter.unusedVariables false
open Go.RowKit
/-- Both locks, as they stand behind i steps. -/
structure WS (B : Nat) (w0 w : World) (G O M g : Nat) (d : Int) (P i : Nat) (n : Nat) (now : Int) (outs : List Bool) (S : Int → Int → Option (List Od)) (E : List SE) : Prop where
  lk : LK B w G O M n d now outs S
  rl : RL B w g d now outs S E
  len : outs.length = P
  n1 : n ≤ i
  n2 : now ≤ i
  n3 : E.length ≤ i
  bel : Below B w0 w
  hv : HV w
  pos : 0 < B
def WSx (B : Nat) (w0 w : World) (G O M g : Nat) (d : Int) (P i : Nat) : Prop := ∃ n now outs S E, WS B w0 w G O M g d P i n now outs S E
theorem rep_getD (P i : Nat) : (List.replicate P false).getD i false = false := by
  rw [List.getD_eq_getElem?_getD, List.getElem?_replicate]
  split <;> rfl
/-- Both locks at first. -/
theorem ws_new {w w1 : World} {G O M P : Nat} {d : Int} (hL : LK w.heap.size w1 G O M 0 d 0 (List.replicate P false) (fun _ _ => none)) (hb : Below w.heap.size w w1) (hv : HV w) (hP : 1 ≤ P ∧ P ≤ 4) (hd : 0 ≤ d ∧ d ≤ 20) :
    WSx w.heap.size w (w1.alloc (.cells #[.int .i64 (P : Int), .int .i64 d, .int .i64 0, .bool false, .bool false, .bool false, .bool false, .slice none 0 0] 63)) G O M w1.heap.size d P 0 := by
  have hb1 : Below w1.heap.size w1 (w1.alloc (.cells #[.int .i64 (P : Int), .int .i64 d, .int .i64 0, .bool false, .bool false, .bool false, .bool false, .slice none 0 0] 63)) := (Below.refl _ _).alloc (Nat.le_refl _) _
  have hs := hb.size
  have hb2 := hb.trans (hb1.mono hs)
  refine ⟨0, 0, _, _, [], hL.below hb1, ⟨⟨none, 0, ?_, World.ownsRow_nil _ _ _ _⟩, by simp, List.Pairwise.nil, fun p t _ => rfl, by simpa using hP, hd, by omega, by simp, hs⟩, by simp, by omega, by simp, by simp, hb2, hv.belowB hb2 hv.lt, hv.lt⟩
  rw [List.length_replicate, rep_getD, rep_getD, rep_getD, rep_getD]
  exact Blk.new _ _ _
/-- The three numbers of a step, as they are copied. -/
def VR (w0 : World) (vb : Nat) (wq : World) : Prop := ∃ a b c : Int, I6 a ∧ I6 b ∧ I6 c ∧ Blk wq vb 64 #[.int .i64 a, .int .i64 b, .int .i64 c] ∧ Below vb w0 wq
theorem VR.set_ {w0 wq : World} {vb : Nat} (h : VR w0 vb wq) (j : Nat) (hj : j < 3) (x : Int) (hx : I6 x) : VR w0 vb (wq.setCell ⟨vb, j, none⟩ (.int .i64 x)) := by
  obtain ⟨a, b, c, h1, h2, h3, h4, h5⟩ := h
  have h6 : Below vb w0 (wq.setCell ⟨vb, j, none⟩ (.int .i64 x)) := h5.setCell (Nat.le_refl _) _
  rcases (by omega : j = 0 ∨ j = 1 ∨ j = 2) with rfl | rfl | rfl
  · exact ⟨x, b, c, hx, h2, h3, h4.set_ 0 _, h6⟩
  · exact ⟨a, x, c, h1, hx, h3, h4.set_ 1 _, h6⟩
  · exact ⟨a, b, x, h1, h2, hx, h4.set_ 2 _, h6⟩
theorem WS.below {B : Nat} {w0 w w' : World} {G O M g : Nat} {d : Int} {P i n : Nat} {now : Int} {outs : List Bool} {S : Int → Int → Option (List Od)} {E : List SE} (h : WS B w0 w G O M g d P i n now outs S E) (hb : Below w.heap.size w w') : WS B w0 w' G O M g d P i n now outs S E :=
  ⟨h.lk.below hb, h.rl.below hb, h.len, h.n1, h.n2, h.n3, h.bel.trans (hb.mono h.lk.size), h.hv.below hb, h.pos⟩
theorem WS.more {B : Nat} {w0 w : World} {G O M g : Nat} {d : Int} {P i n : Nat} {now : Int} {outs : List Bool} {S : Int → Int → Option (List Od)} {E : List SE} (h : WS B w0 w G O M g d P i n now outs S E) : WS B w0 w G O M g d P (i + 1) n now outs S E :=
  ⟨h.lk, h.rl, h.len, by have := h.n1; omega, by have := h.n2; omega, by have := h.n3; omega, h.bel, h.hv, h.pos⟩
theorem i6_wf {x : Int} (h : (Lit.int .i64 x).wf = true) : I6 x := bounds_i64 h
def pickL (L : List Od) (p : Int) (s : Bool) : List Od := L.filter fun o => (o.player == p) || s
theorem pickL_s (L : List Od) (p : Int) (s : Bool) (k : Nat) (h : k < L.length) : pickL (L.take (k + 1)) p s = pickL (L.take k) p s ++ if ((od L k).player == p || s) = true then [od L k] else [] := by
  unfold pickL
  rw [List.take_succ_eq_append_getElem h, List.filter_append]
  have : od L k = L[k] := by unfold od; rw [List.getD_eq_getElem?_getD, List.getElem?_eq_getElem h]; rfl
  rw [this]
  by_cases g : (L[k].player == p || s) = true <;> simp [g]
theorem pickL_len (L : List Od) (p : Int) (s : Bool) (k : Nat) : (pickL (L.take k) p s).length ≤ k := Nat.le_trans (List.length_filter_le _ _) (List.length_take_le _ _)
def PRel (w : World) (L : List Od) (p : Int) (s : Bool) (k : Nat) (v : Value) (wr : World) : Prop :=
  Below w.heap.size w wr ∧ wr.ownsRow w.heap.size 66 4 v (pickL (L.take k) p s).length ((pickL (L.take k) p s).flatMap oC)
section
variable {B : Nat} {w0 w w' : World} {G O M g n vb : Nat} {d now : Int} {outs : List Bool} {S : Int → Int → Option (List Od)} {E : List SE}
theorem LK.blkEff (h : LK B w G O M n d now outs S) (he : LEff w w' G O M) {k : Nat} {t : TypeId} {cs : Array Value} (hk : Blk w k t cs) (h1 : t ≠ 90) (h2 : t ≠ 4) : Blk w' k t cs := by
  obtain ⟨V, hm, _⟩ := h.mp
  exact (he.block k hk.lt (hk.ne_ h.blk h1) (hk.ne_ h.ob h2) (hm.ne hk)).trans hk
theorem LK.ordEff (h : LK B w G O M n d now outs S) (he : LEff w w' G O M) : ∀ (b : Nat) (cs : Array Value) (m : Nat × Nat), w.heap[b]? = some (Obj.cells cs 66 m) → w'.heap[b]? = w.heap[b]? := fun b cs m hc => by
  obtain ⟨q1, q2, q3⟩ := h.apart hc
  exact he.block b (heap_lt hc) q1 q2 q3
/-- What stands while both send. -/
structure MS (B : Nat) (w0 w : World) (G O M g n1 : Nat) (d now : Int) (outs : List Bool) (S1 S : Int → Int → Option (List Od)) (E : List SE) (vb : Nat) (a b c : Int) (A : Option Addr) (L : List Od) : Prop where
  lk : LK B w G O M n1 d now outs S1
  rl : RL B w g d now outs S E
  vec : Blk w vb 64 #[.int .i64 a, .int .i64 b, .int .i64 c]
  ro : RO w w.heap.size A L
  kp : Kept w A
  bel : Below B w0 w
  hv : HV w
  pos : 0 < B
theorem MS.below {n1 : Nat} {S1 : Int → Int → Option (List Od)} {a b c : Int} {A : Option Addr} {L : List Od} (h : MS B w0 w G O M g n1 d now outs S1 S E vb a b c A L) (hb : Below w.heap.size w w') : MS B w0 w' G O M g n1 d now outs S1 S E vb a b c A L :=
  ⟨h.lk.below hb, h.rl.below hb, h.vec.below hb h.vec.lt, (h.ro.below hb).more hb.size, Kept.mono h.kp fun b cs m hc => hb.block b (heap_lt hc), h.bel.trans (hb.mono h.lk.size), h.hv.below hb, h.pos⟩
theorem MS.drewN {n1 : Nat} {S1 : Int → Int → Option (List Od)} {a b c : Int} {A : Option Addr} {L : List Od} (h : MS B w0 w G O M g n1 d now outs S1 S E vb a b c A L) (q : Nat) : MS B w0 (w.drewN q) G O M g n1 d now outs S1 S E vb a b c A L := h.below ⟨rfl, rfl, rfl, Nat.le_refl _, fun _ _ => rfl⟩
theorem MS.eff {n1 : Nat} {S2 : Int → Int → Option (List Od)} {a b c : Int} {A : Option Addr} {L : List Od} (h : MS B w0 w G O M g n d now outs S S E vb a b c A L) (hL : LK B w' G O M n1 d now outs S2) (he : LEff w w' G O M) : MS B w0 w' G O M g n1 d now outs S2 S E vb a b c A L :=
  have hb : Below B w w' := he.below h.lk.size h.lk.low
  ⟨hL, h.rl.eff h.lk he, h.lk.blkEff he h.vec (by decide) (by decide), h.ro.kept h.kp he.size (h.lk.ordEff he), Kept.mono h.kp (h.lk.ordEff he), h.bel.trans hb, h.hv.belowB hb h.pos, h.pos⟩
/-- The program's lock is sent to. -/
theorem MS.xsend {a b c : Int} {A : Option Addr} {co : Nat} {L : List Od} (h : MS B w0 w G O M g n d now outs S S E vb a b c A L) (hnil : A = none → co = 0) (hl : L.length ≤ 1048576) (hb6 : I6 b) (hc6 : I6 c) (hn : n ≤ 1000) :
    Calls Tryd.prog 23 #[.pointer (some ⟨G, 0, none⟩), .int .i64 b, .int .i64 c, .slice A L.length co] w fun e w' => e = .returned (errT (sendE outs now d S b c L)) ∧ ∃ n1 S1, (sendE outs now d S b c L = 0 → n1 = n + 1 ∧ S1 = putS S b c L) ∧ (sendE outs now d S b c L ≠ 0 → n1 = n ∧ S1 = S) ∧ MS B w0 w' G O M g n1 d now outs S1 S E vb a b c A L := by
  refine (lsend_any b c A co L h.lk h.ro hnil (by omega) hc6 hb6 (by omega)).mono ?_
  rintro e w' (⟨h1, rfl, hb⟩ | ⟨h1, rfl, hL, he⟩)
  · refine ⟨by unfold errT; rw [if_neg h1]; rfl, n, S, fun h => absurd h h1, fun _ => ⟨rfl, rfl⟩, h.below hb⟩
  · exact ⟨by rw [h1]; rfl, n + 1, putS S b c L, fun _ => ⟨rfl, rfl⟩, fun h => absurd h1 h, MS.eff h hL he⟩
/-- Then the reference's. -/
theorem MS.msend {n1 : Nat} {S1 : Int → Int → Option (List Od)} {a b c : Int} {A : Option Addr} {co : Nat} {L : List Od} (h : MS B w0 w G O M g n1 d now outs S1 S E vb a b c A L) (h0 : sendE outs now d S b c L = 0 → n1 = n + 1 ∧ S1 = putS S b c L) (h9 : sendE outs now d S b c L ≠ 0 → n1 = n ∧ S1 = S) (hnil : A = none → co = 0) (hl : L.length ≤ 1048576) (hb6 : I6 b) (hc6 : I6 c) (hn : E.length ≤ 60) :
    Calls Tryd.prog 24 #[.pointer (some ⟨g, 0, none⟩), .int .i64 b, .int .i64 c, .slice A L.length co] w fun e w' => e = .returned (.int .i64 (sendE outs now d S b c L)) ∧ ∃ n2 S2 E2, n2 ≤ n + 1 ∧ E2.length ≤ E.length + 1 ∧ LK B w' G O M n2 d now outs S2 ∧ RL B w' g d now outs S2 E2 ∧ Below B w0 w' ∧ HV w' ∧ Blk w' vb 64 #[.int .i64 a, .int .i64 b, .int .i64 c] := by
  refine (rsend_any b c A co L h.rl h.ro hnil h.kp (by omega) hc6 hb6 (by omega)).mono ?_
  rintro e w' (⟨h1, rfl, hb⟩ | ⟨h1, rfl, hR, he⟩)
  · obtain ⟨rfl, rfl⟩ := h9 h1
    have h2 := h.below hb
    exact ⟨rfl, _, _, _, by omega, by omega, h2.lk, h2.rl, h2.bel, h2.hv, h2.vec⟩
  · obtain ⟨rfl, rfl⟩ := h0 h1
    exact ⟨by rw [h1], _, _, _, by omega, by simp, h.lk.te he, hR, h.bel.trans he.bel, h.hv.belowB he.bel h.pos, he.blk h.vec (by decide) (by decide)⟩
/-- The reference's lock: one more is out. -/
theorem RL.out (h : RL B w g d now outs S E) {k : Nat} (hk : k < outs.length) : RL B (w.setCell ⟨g, 3 + k, none⟩ (.bool true)) g d now (outs.set k true) S E ∧ TE B w (w.setCell ⟨g, 3 + k, none⟩ (.bool true)) := by
  obtain ⟨A, c, hb, ho⟩ := h.row
  have hnp := h.np
  have hte := TE.setg hb h.low (3 + k) (.bool true)
  refine ⟨⟨⟨A, c, ?_, ho.kept (grownBy_set w g (3 + k) _) (.inr (own_neL ho hb))⟩, fun e he => ?_, h.once, h.tie, by simpa using hnp, h.dl, h.nw, h.few, h.low⟩, hte⟩
  · have hs := hb.set_ (3 + k) (.bool true)
    have e : ∀ i, (outs.set k true).getD i false = if i = k ∧ i < outs.length then true else outs.getD i false := fun i => by
      rw [List.getD_eq_getElem?_getD, List.getElem?_set]
      by_cases hi : k = i
      · subst hi
        rw [if_pos rfl, if_pos hk, if_pos ⟨rfl, hk⟩]; rfl
      · rw [if_neg hi, if_neg (by omega), ← List.getD_eq_getElem?_getD]
    rw [e 0, e 1, e 2, e 3, List.length_set]
    rcases (by omega : k = 0 ∨ k = 1 ∨ k = 2 ∨ k = 3) with rfl | rfl | rfl | rfl
    · rw [if_pos ⟨rfl, hk⟩, if_neg (by omega), if_neg (by omega), if_neg (by omega)]; exact hs
    · rw [if_neg (by omega), if_pos ⟨rfl, hk⟩, if_neg (by omega), if_neg (by omega)]; exact hs
    · rw [if_neg (by omega), if_neg (by omega), if_pos ⟨rfl, hk⟩, if_neg (by omega)]; exact hs
    · rw [if_neg (by omega), if_neg (by omega), if_neg (by omega), if_pos ⟨rfl, hk⟩]; exact hs
  · obtain ⟨h1, h2, h3, h4⟩ := h.ent e he
    exact ⟨RO.kept h1 h3 hte.bel.size (fun b cs m hc => hte.cells hc (by decide) (by decide)), h2, h3.te hte, h4⟩
end
end Go.Proofs.YtkgdflecepockaaDoor
