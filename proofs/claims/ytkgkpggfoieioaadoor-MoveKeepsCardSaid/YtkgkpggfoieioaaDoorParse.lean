import Derived.Test.YtkgkpggfoieioaaDoorMrgg
import Derived.Test.YtkgkpggfoieioaaDoorMrgd
import Derived.Deep.RegionLaw
import Derived.Test.YtkgkpggfoieioaaDoorMrge
namespace Go.Proofs.YtkgkpggfoieioaaDoor
set_option linter.unusedVariables false
open Go.RowKit
attribute [local go_sem ↓] Go.wp_at_zero Go.wp_at_succ
/-- A string's bytes. -/
def bsOf (s : ByteArray) : List Int := s.data.toList.map fun b => (b.toNat : Int)
theorem bsOf_len (s : ByteArray) : (bsOf s).length = s.size := by unfold bsOf; rw [List.length_map]; rfl
theorem bsOf_byte (s : ByteArray) : ∀ x ∈ bsOf s, Byte x := fun x hx => by
  obtain ⟨b, _, rfl⟩ := List.mem_map.1 hx
  have := b.toNat_lt
  unfold Byte
  omega
theorem toS_bsOf (s : ByteArray) : toS (bsOf s) = s := by
  unfold toS toU bsOf
  rw [List.map_map]
  have : (fun x : Int => UInt8.ofNat x.toNat) ∘ (fun b : UInt8 => (b.toNat : Int)) = id := by funext b; simp
  rw [this, List.map_id]
theorem bsOf_toS (xs : List Int) (h : ∀ x ∈ xs, Byte x) : bsOf (toS xs) = xs := by
  unfold bsOf toS
  exact toU_back xs h
theorem bytes_rd (w : World) (s : ByteArray) (C : Nat) (e : TypeId) (m : Nat × Nat) : RD (w.alloc (.cells (bytesRow s C) e m)) (w.heap.size + 1) 1 (some ⟨w.heap.size, 0, none⟩) (bsOf s).length ((bsOf s).map (.int .u8)) := by
  refine ⟨by simp, fun _ => ⟨_, 0, rfl, by omega, fun j hj => ?_⟩⟩
  rw [Nat.zero_add, cell_mark]
  rw [bsOf_len, Nat.mul_one] at hj
  have hj' : j < s.data.size := hj
  rw [bytesRow_at s C j hj']
  unfold bsOf
  rw [List.getElem?_map, List.getElem?_map, List.getElem?_eq_getElem (by simpa using hj')]
  simp
def digB (b : Nat) : Bool := decide (49 ≤ b ∧ b ≤ 57)
theorem digB_t (b : Nat) (h : 49 ≤ b) (k : b ≤ 57) : digB b = true := by unfold digB; simp; omega
theorem digB_f (b : Nat) (h : b < 49 ∨ 57 < b) : digB b = false := by unfold digB; simp; omega
theorem digB_of (b : Nat) (h : digB b = true) : 49 ≤ b ∧ b ≤ 57 := by simpa [digB] using h
theorem digB_no (b : Nat) (h : digB b = false) : ¬(49 ≤ b ∧ b ≤ 57) := by simpa [digB] using h
def toM (n : Nat) : List Bool := (List.range 11).map fun i => n.testBit i
def PaMs : List (List Bool) := [0, 1, 3, 4, 5, 7, 12, 13, 15, 31, 32, 33, 35, 36, 37, 39, 44, 45, 47, 63, 96, 97, 99, 100, 101, 103, 108, 109, 111, 127, 128, 129, 131, 132, 133, 135, 140, 141, 143, 159, 160, 161, 163, 164, 165, 167, 172, 173, 175, 191, 224, 225, 227, 228, 229, 231, 236, 237, 239, 255, 384, 385, 387, 388, 389, 391, 396, 397, 399, 415, 416, 417, 419, 420, 421, 423, 428, 429, 431, 447, 480, 481, 483, 484, 485, 487, 492, 493, 495, 511, 1023, 1151, 1279, 1535, 2047].map toM
/-- What a field read out of a text is handed back as. -/
def PaPost (w : World) (R : GF × Int × Int) (e : Ending) (w' : World) : Prop :=
  ∃ s' : SF, e = .returned (.tuple #[fA s' R.1, .int .i64 R.2.1, errV R.2.2]) ∧ FOk w' s' R.1 ∧ Below w.heap.size w w' ∧ (∀ b o, s'.ground.A = some ⟨b, o, none⟩ → w.heap.size ≤ b) ∧ (∀ b o, s'.ore.A = some ⟨b, o, none⟩ → w.heap.size ≤ b)
def PaRel (w3 : World) (fb n : Nat) (bs : List Int) (R : GF × Int × Int) (vc vi : Value) (wr : World) : Prop :=
  ∃ (k c Wd Hg : Nat) (G O : List Int) (AG AO : Option Addr) (cG cO : Nat), vi = .int .i64 k ∧ k ≤ n ∧ vc = .int .i64 (c : Int) ∧ Hid (PInv ⟨c, Wd, Hg, G, O⟩) ∧ Hid (prun (bs.drop k) k ⟨c, Wd, Hg, G, O⟩ = R) ∧
    Blk wr fb 52 #[.int .i64 (Wd : Int), .int .i64 (Hg : Int), .slice AG G.length cG, .slice AO O.length cO] ∧
    St2 wr w3.heap.size (.slice AG G.length cG) G.length (G.map (.int .i64)) (.slice AO O.length cO) O.length (O.map (.int .i64)) ∧ w3.grownBy wr (some fb)
def clrF (w : World) (g : Nat) (a b : Int) (v3 v4 : Value) : World := (((w.setCell ⟨g, 0, none⟩ (.int .i64 a)).setCell ⟨g, 1, none⟩ (.int .i64 b)).setCell ⟨g, 2, none⟩ v3).setCell ⟨g, 3, none⟩ v4
theorem clrF_blk {w : World} {g : Nat} {c0 c1 c2 c3 : Value} (h : Blk w g 52 #[c0, c1, c2, c3]) (a b : Int) (v3 v4 : Value) : Blk (clrF w g a b v3 v4) g 52 #[.int .i64 a, .int .i64 b, v3, v4] :=
  (((h.set_ 0 _).set_ 1 _).set_ 2 _).set_ 3 _
theorem clrF_below {B : Nat} {w0 w : World} {g : Nat} (h : Below B w0 w) (hg : B ≤ g) (a b : Int) (v3 v4 : Value) : Below B w0 (clrF w g a b v3 v4) := (((h.setCell (p := ⟨g, 0, none⟩) hg _).setCell (p := ⟨g, 1, none⟩) hg _).setCell (p := ⟨g, 2, none⟩) hg _).setCell (p := ⟨g, 3, none⟩) hg _
theorem prun_nil (i : Nat) (s : PS) (bs : List Int) (k : Nat) (h : bs.length ≤ k) : prun (bs.drop k) i s = if 0 < s.c ∨ s.H = 0 then badP i 2 else (⟨s.W, s.H, s.G, s.O⟩, 0, 0) := by rw [List.drop_of_length_le h]; rfl
theorem drop_cons (bs : List Int) (k : Nat) (h : k < bs.length) : bs.drop k = bs.getD k 0 :: bs.drop (k + 1) := by
  rw [List.drop_eq_getElem_cons h, List.getD_eq_getElem?_getD, List.getElem?_eq_getElem h]; rfl
theorem bad_post (w wf : World) (k : Nat) (e : Int) (he : e ≠ 0) (hB : Below w.heap.size w wf) : PaPost w (badP k e) (.returned (.tuple #[.agg #[.int .i64 0, .int .i64 0, .slice none 0 0, .slice none 0 0], .int .i64 k, erE e])) wf := by
  refine ⟨⟨⟨none, 0⟩, ⟨none, 0⟩⟩, ?_, ?_, hB, (fun b o h => nomatch h), (fun b o h => nomatch h)⟩
  · unfold badP fA
    rw [errVn _ he]; rfl
  · have hs : SLI wf ⟨none, 0⟩ [] := ⟨RD.nil_, fun _ => rfl, by simp, by simp [maxLen], by simp⟩
    exact ⟨by unfold badP I64; dsimp only; omega, by unfold badP I64; dsimp only; omega, hs, hs⟩
theorem ok_post (w wf : World) (base c Wd Hg : Nat) (G O : List Int) (AG AO : Option Addr) (cG cO : Nat) (hI : PInv ⟨c, Wd, Hg, G, O⟩) (hS : St2 wf base (.slice AG G.length cG) G.length (G.map (.int .i64)) (.slice AO O.length cO) O.length (O.map (.int .i64))) (hB : Below w.heap.size w wf) (hbase : w.heap.size ≤ base) :
    PaPost w (⟨Wd, Hg, G, O⟩, 0, 0) (.returned (.tuple #[.agg #[.int .i64 (Wd : Int), .int .i64 (Hg : Int), .slice AG G.length cG, .slice AO O.length cO], .int .i64 0, .nilIface])) wf := by
  have hc := hI.cells
  have hlg := hI.lg
  have hlo := hI.lo
  have h1 := hI.h12
  have h2 := hI.w12
  dsimp only at hc hlg hlo h1 h2
  refine ⟨⟨⟨AG, cG⟩, ⟨AO, cO⟩⟩, rfl, ⟨?_, ?_, ?_, ?_⟩, hB, fun b o h => Nat.le_trans hbase (own_block_lt hS.o1 b (by change AG = _ at h; rw [h]; rfl)).1, fun b o h => Nat.le_trans hbase (own_block_lt hS.o2 b (by change AO = _ at h; rw [h]; rfl)).1⟩
  · unfold I64; dsimp only; omega
  · unfold I64; dsimp only; omega
  · refine sli_of_own hS.o1 fun x hx => ?_
    change x ∈ G at hx
    obtain ⟨k, hk, rfl⟩ := List.getElem_of_mem hx
    have := hc k hk
    rw [List.getD_eq_getElem?_getD, List.getElem?_eq_getElem hk] at this
    simp only [Option.getD_some] at this
    unfold I64; omega
  · refine sli_of_own hS.o2 fun x hx => ?_
    change x ∈ O at hx
    obtain ⟨k, hk, rfl⟩ := List.getElem_of_mem hx
    have := (hc k (by omega)).2.2
    rw [List.getD_eq_getElem?_getD (l := O), List.getElem?_eq_getElem hk] at this
    simp only [Option.getD_some] at this
    unfold I64; omega
theorem pa_next {W3 wr : World} {fb n : Nat} {bs : List Int} {R : GF × Int × Int} {k c Wd Hg : Nat} {G O : List Int} (b GV OV : Int) {g1 g2 cap1 cap2 : Nat} (hI : PInv ⟨c, Wd, Hg, G, O⟩) (h2 : ¬(gOf b < 0 ∨ (0 < Hg ∧ c = Wd))) (h3 : ¬(c = 12 ∨ Hg = 12)) (hgv : gOf b = GV) (hov : oOf b = OV)
    (hP : prun (bs.drop (k + 1)) (k + 1) ⟨c + 1, Wd, Hg, G ++ [gOf b], O ++ [oOf b]⟩ = R) (hk : k + 1 ≤ n) (hB : Blk wr fb 52 #[.int .i64 (Wd : Int), .int .i64 (Hg : Int), .slice (some ⟨g1, 0, none⟩) (G.length + 1) cap1, .slice (some ⟨g2, 0, none⟩) (O.length + 1) cap2])
    (hS : St2 wr W3.heap.size (.slice (some ⟨g1, 0, none⟩) (G.length + 1) cap1) (G.length + 1) (G.map (.int .i64) ++ [.int .i64 GV]) (.slice (some ⟨g2, 0, none⟩) (O.length + 1) cap2) (O.length + 1) (O.map (.int .i64) ++ [.int .i64 OV])) (hgr : W3.grownBy wr (some fb)) :
    PaRel W3 fb n bs R (.int .i64 ((c : Int) + 1)) (.int .i64 ((k : Int) + 1)) wr := by
  refine ⟨k + 1, c + 1, Wd, Hg, G ++ [gOf b], O ++ [oOf b], some ⟨g1, 0, none⟩, some ⟨g2, 0, none⟩, cap1, cap2, rfl, hk, rfl, Lib.hid (hI.sign b h2 h3).1, Lib.hid hP, ?_, ?_, hgr⟩
  · simpa using hB
  · subst hgv; subst hov
    simpa using hS
theorem pa_line {W3 wr : World} {fb n : Nat} {bs : List Int} {R : GF × Int × Int} {k c Wd Hg : Nat} {G O : List Int} {AG AO : Option Addr} {cG cO : Nat} (hI : PInv ⟨c, Wd, Hg, G, O⟩) (h2 : ¬(c = 0 ∨ (0 < Hg ∧ c ≠ Wd)))
    (hP : prun (bs.drop (k + 1)) (k + 1) ⟨0, c, Hg + 1, G, O⟩ = R) (hk : k + 1 ≤ n) (hB : Blk wr fb 52 #[.int .i64 (Wd : Int), .int .i64 (Hg : Int), .slice AG G.length cG, .slice AO O.length cO])
    (hS : St2 wr W3.heap.size (.slice AG G.length cG) G.length (G.map (.int .i64)) (.slice AO O.length cO) O.length (O.map (.int .i64))) (hgr : W3.grownBy wr (some fb)) (hfb : fb < W3.heap.size) :
    PaRel W3 fb n bs R (.int .i64 0) (.int .i64 ((k : Int) + 1)) ((wr.setCell ⟨fb, 0, none⟩ (.int .i64 (c : Int))).setCell ⟨fb, 1, none⟩ (.int .i64 ((Hg : Int) + 1))) :=
  ⟨k + 1, 0, c, Hg + 1, G, O, AG, AO, cG, cO, rfl, hk, rfl, Lib.hid (hI.line h2).1, Lib.hid hP, (hB.set_ 0 _).set_ 1 _, (hS.set_ fb 0 _ hfb).set_ fb 1 _ hfb, grownBy_trans (grownBy_trans hgr (grownBy_set _ _ _ _)) (grownBy_set _ _ _ _)⟩
set_option maxHeartbeats 6400000 in
set_option maxRecDepth 100000 in
theorem parse_any (s : ByteArray) (w : World) (hs : s.size ≤ 9223372036854775807) :
    Calls Tryd.prog 72 #[.string s] w (PaPost w (parseL (bsOf s))) := by
  have hcv := fun w' => run_bytes_of_string (P := Tryd.prog) w' 9 65 5 s Tryd.underlying9 Tryd.underlying65 Tryd.underlying5
  have hby := bsOf_byte s
  have hln := bsOf_len s
  replace hby := Lib.hid hby
  have hrd := fun w' C e m => bytes_rd w' s C e m
  replace hrd := Lib.hid hrd
  go_enter Tryd.func72, Tryd.ntmps72
  go_wp2_with fail
  generalize grownCap ((w.alloc (.cells #[.int .i64 0, .int .i64 0, .slice none 0 0, .slice none 0 0] 52)).alloc (.cells #[.int .i64 0, .int .i64 0, .slice none 0 0, .slice none 0 0] 52)) s.size 0 5 = C at *
  have hb1 : Below w.heap.size w ((w.alloc (.cells #[.int .i64 0, .int .i64 0, .slice none 0 0, .slice none 0 0] 52)).alloc (.cells #[.int .i64 0, .int .i64 0, .slice none 0 0, .slice none 0 0] 52)) := ((Below.refl _ _).alloc (Nat.le_refl _) _).alloc (by simp) _
  have hkA : Blk ((w.alloc (.cells #[.int .i64 0, .int .i64 0, .slice none 0 0, .slice none 0 0] 52)).alloc (.cells #[.int .i64 0, .int .i64 0, .slice none 0 0, .slice none 0 0] 52)) w.heap.size 52 #[.int .i64 0, .int .i64 0, .slice none 0 0, .slice none 0 0] := (Blk.new w _ _).alloc _
  have hkB : Blk ((w.alloc (.cells #[.int .i64 0, .int .i64 0, .slice none 0 0, .slice none 0 0] 52)).alloc (.cells #[.int .i64 0, .int .i64 0, .slice none 0 0, .slice none 0 0] 52)) (w.heap.size + 1) 52 #[.int .i64 0, .int .i64 0, .slice none 0 0, .slice none 0 0] := by
    have := Blk.new (w.alloc (.cells #[.int .i64 0, .int .i64 0, .slice none 0 0, .slice none 0 0] 52)) 52 #[.int .i64 0, .int .i64 0, .slice none 0 0, .slice none 0 0]
    rwa [show (w.alloc (.cells #[.int .i64 0, .int .i64 0, .slice none 0 0, .slice none 0 0] 52)).heap.size = w.heap.size + 1 by simp] at this
  have hsz1 : ((w.alloc (.cells #[.int .i64 0, .int .i64 0, .slice none 0 0, .slice none 0 0] 52)).alloc (.cells #[.int .i64 0, .int .i64 0, .slice none 0 0, .slice none 0 0] 52)).heap.size = w.heap.size + 1 + 1 := by simp
  clear hcv
  generalize (w.alloc (.cells #[.int .i64 0, .int .i64 0, .slice none 0 0, .slice none 0 0] 52)).alloc (.cells #[.int .i64 0, .int .i64 0, .slice none 0 0, .slice none 0 0] 52) = W1 at *
  have hr1 := hrd.out W1 C 5 ((bytesRow s C).size, (bytesRow s C).size + 1)
  have hb2 := hb1.trans ((Below.refl w.heap.size W1).alloc (by omega) (.cells (bytesRow s C) 5 ((bytesRow s C).size, (bytesRow s C).size + 1)))
  have hkA2 := hkA.alloc (.cells (bytesRow s C) 5 ((bytesRow s C).size, (bytesRow s C).size + 1))
  have hkB2 := hkB.alloc (.cells (bytesRow s C) 5 ((bytesRow s C).size, (bytesRow s C).size + 1))
  have hsz2 : (W1.alloc (.cells (bytesRow s C) 5 ((bytesRow s C).size, (bytesRow s C).size + 1))).drew.heap.size = w.heap.size + 3 := by simp; omega
  replace hr1 := hr1.drewN 1
  replace hb2 := bdrewN hb2 1
  replace hkA2 := hkA2.drewN 1
  replace hkB2 := hkB2.drewN 1
  change RD (W1.alloc (.cells (bytesRow s C) 5 ((bytesRow s C).size, (bytesRow s C).size + 1))).drew _ _ _ _ _ at hr1
  change Below _ _ (W1.alloc (.cells (bytesRow s C) 5 ((bytesRow s C).size, (bytesRow s C).size + 1))).drew at hb2
  change Blk (W1.alloc (.cells (bytesRow s C) 5 ((bytesRow s C).size, (bytesRow s C).size + 1))).drew _ _ _ at hkA2
  change Blk (W1.alloc (.cells (bytesRow s C) 5 ((bytesRow s C).size, (bytesRow s C).size + 1))).drew _ _ _ at hkB2
  clear hkA hkB hrd hb1
  generalize (W1.alloc (.cells (bytesRow s C) 5 ((bytesRow s C).size, (bytesRow s C).size + 1))).drew = W3 at *
  rw [hsz1] at hr1
  rw [hln] at hr1
  generalize hBS : bsOf s = bs at *
  generalize hR : parseL bs = R at *
  unfold parseL s0 at hR
  replace hr1 := Lib.hid hr1
  replace hb2 := Lib.hid hb2
  replace hkA2 := Lib.hid hkA2
  replace hkB2 := Lib.hid hkB2
  replace hR := Lib.hid hR
  replace hBS := Lib.hid hBS
  go_loopw [6, 7, 8, 9, 10, 14] (fun c _ _ _ _ i wr => PaRel W3 (w.heap.size + 1) s.size bs R c i wr) (fun _ _ _ _ _ i _ => s.size - (intOf i).toNat)
  case atStart => exact ⟨0, 0, 0, 0, [], [], none, none, 0, 0, rfl, Nat.zero_le _, rfl, Lib.hid s0_inv, Lib.hid hR.out, hkB2.out, ⟨World.ownsRow_nil _ _ _ _, World.ownsRow_nil _ _ _ _, by simp [Value.ownBlock]⟩, World.grownBy.refl _ _⟩
  case round =>
    obtain ⟨k, c, Wd, Hg, G, O, AG, AO, cG, cO, rfl, hk, rfl, hI, hP, hB, hS, hgr⟩ := hrel
    have c0 := hB.cell 0
    have c1 := hB.cell 1
    have c2 := hB.cell 2
    have c3 := hB.cell 3
    have f0 := hB.frozen 0
    have f1 := hB.frozen 1
    have f2 := hB.frozen 2
    have f3 := hB.frozen 3
    have hkAr := hkA2.out.grown hgr (by simp)
    have r0 := hkAr.cell 0
    have r1 := hkAr.cell 1
    have r2 := hkAr.cell 2
    have r3 := hkAr.cell 3
    have y0 := hkAr.frozen 0
    have y1 := hkAr.frozen 1
    have y2 := hkAr.frozen 2
    have y3 := hkAr.frozen 3
    have hlt1 := hkAr.lt
    have hlt2 := hB.lt
    have hszr := hgr.size
    have i1 := hI.out.c12
    have i2 := hI.out.h12
    have i3 := hI.out.ch
    have i4 := hI.out.w12
    dsimp only at i1 i2 i3 i4
    replace hB := Lib.hid hB
    replace hS := Lib.hid hS
    replace hkAr := Lib.hid hkAr
    have hgr2 := Lib.hid hgr
    by_cases hlt : k < s.size
    · have hcell : wr.cell? ⟨w.heap.size + 1 + 1, k, none⟩ = some (.int .u8 (bs.getD k 0)) := by
        obtain ⟨b0, off, e, hb0, hc⟩ := hr1.out.2 (by omega)
        injection e with e
        injection e with e1 e2
        subst e1; subst e2
        have := hc k (by omega)
        rw [Nat.zero_add] at this
        have hbl := hgr.block (w.heap.size + 1 + 1) (by omega) (by simp)
        rw [World.cell?_of_block hbl, this, List.getElem?_map, List.getD_eq_getElem?_getD, List.getElem?_eq_getElem (by omega)]
        rfl
      clear hgr
      have hgr := hgr2
      have hst := hP.out
      rw [drop_cons bs k (by omega), prun] at hst
      have hbb : Byte (bs.getD k 0) := by
        rw [List.getD_eq_getElem?_getD, List.getElem?_eq_getElem (by omega)]
        exact hby.out _ (List.getElem_mem _)
      obtain ⟨b, hb⟩ : ∃ b : Nat, bs.getD k 0 = (b : Int) := ⟨(bs.getD k 0).toNat, by unfold Byte at hbb; omega⟩
      rw [hb] at hcell hst hbb
      have hb256 : b < 256 := by unfold Byte at hbb; omega
      clear hb hbb
      have j1 : (k : Int) < (s.size : Int) := by omega
      by_cases h10 : b = 10
      · rw [if_pos (by omega)] at hst
        subst h10
        dsimp only at hst
        by_cases hbad : c = 0 ∨ (0 < Hg ∧ c ≠ Wd)
        · rw [if_pos hbad] at hst
          replace hst := Lib.hid hst.symm
          have hcs : ((c : Int) == 0) = true ∨ (((c : Int) == 0) = false ∧ decide ((0 : Int) < (Hg : Int)) = true ∧ decide (0 < Hg) = true ∧ ((c : Int) != (Wd : Int)) = true) := by
            by_cases e : c = 0
            · left; simp [e]
            · right; simp; omega
          clear hbad
          rcases hcs with e1 | ⟨e1, e2, e3, e4⟩
          · go_wp2_with fail
            have hbw := clrF_below (grown_below (hgr.out) (by omega) (fun g hg => by injection hg with hg; omega) : Below w.heap.size W3 wr) (Nat.le_refl _) 0 0 (.slice none 0 0) (.slice none 0 0)
            have hbk := clrF_blk hkAr.out 0 0 (.slice none 0 0) (.slice none 0 0)
            unfold clrF at hbw hbk
            have q0 := hbk.cell 0
            have q1 := hbk.cell 1
            have q2 := hbk.cell 2
            have q3 := hbk.cell 3
            refine bodyPost_ret (v := .tuple #[.agg #[.int .i64 0, .int .i64 0, .slice none 0 0, .slice none 0 0], .int .i64 k, erE 2]) (by simp [results, Tryd.results72, go_sem, q0, q1, q2, q3] <;> rfl) rfl ?_
            rw [hst.out]
            exact bad_post w _ k 2 (by decide) (hb2.out.trans hbw)
          · go_wp2_with fail
            have hbw := clrF_below (grown_below (hgr.out) (by omega) (fun g hg => by injection hg with hg; omega) : Below w.heap.size W3 wr) (Nat.le_refl _) 0 0 (.slice none 0 0) (.slice none 0 0)
            have hbk := clrF_blk hkAr.out 0 0 (.slice none 0 0) (.slice none 0 0)
            unfold clrF at hbw hbk
            have q0 := hbk.cell 0
            have q1 := hbk.cell 1
            have q2 := hbk.cell 2
            have q3 := hbk.cell 3
            refine bodyPost_ret (v := .tuple #[.agg #[.int .i64 0, .int .i64 0, .slice none 0 0, .slice none 0 0], .int .i64 k, erE 2]) (by simp [results, Tryd.results72, go_sem, q0, q1, q2, q3] <;> rfl) rfl ?_
            rw [hst.out]
            exact bad_post w _ k 2 (by decide) (hb2.out.trans hbw)
        · rw [if_neg hbad] at hst
          replace hst := Lib.hid hst
          have hcs : ((c : Int) == 0) = false ∧ ((decide ((0 : Int) < (Hg : Int)) = false ∧ decide (0 < Hg) = false) ∨ (decide ((0 : Int) < (Hg : Int)) = true ∧ decide (0 < Hg) = true ∧ ((c : Int) != (Wd : Int)) = false)) := by
            simp; omega
          replace hbad := Lib.hid hbad
          have hrl := pa_line hI.out hbad.out hst.out (show k + 1 ≤ s.size by omega) hB.out hS.out hgr.out (by omega)
          replace hrl := Lib.hid hrl
          rcases hcs with ⟨e1, ⟨e2, e3⟩ | ⟨e2, e3, e4⟩⟩
          all_goals
            go_wp2_with fail
            go_roundw
            case rel => first | exact hrl.out | exact ⟨_, _, _, _, hrl.out, rfl⟩
            case measure => simp [intOf]; omega
      · rw [if_neg (by omega)] at hst
        dsimp only at hst
        have h10b : ((b : Int) == 10) = false := by simp; omega
        have hgb := gSg_bd (b : Int)
        go_upto_region 12 with (go_at_call 119; refine (sig_any b hb256 wr).mono ?_; rintro e w' ⟨rfl, rfl⟩)
        go_cut [14, 50] from 14 to 97 (fun i t wx => t = .bool (digB b) ∧ i = .int .i64 k ∧ wr = wx)
        case first =>
          as_aux_lemma =>
          by_cases d : 49 ≤ b
          · have d3 : decide ((49 : Int) ≤ (b : Int)) = true := by simp; omega
            have d5 : decide (49 ≤ b) = true := by simp; omega
            by_cases dd : b ≤ 57
            · have d4 : decide ((b : Int) ≤ 57) = true := by simp; omega
              have d6 : decide (b ≤ 57) = true := by simp; omega
              have d7 := digB_t b d dd
              replace d7 := Lib.hid d7
              go_wp2_with fail
              go_meet
              exact ⟨by rw [d7.out], rfl, rfl⟩
            · have d4 : decide ((b : Int) ≤ 57) = false := by simp; omega
              have d6 : decide (b ≤ 57) = false := by simp; omega
              have d7 := digB_f b (by omega)
              replace d7 := Lib.hid d7
              go_wp2_with fail
              go_meet
              exact ⟨by rw [d7.out], rfl, rfl⟩
          · have d3 : decide ((49 : Int) ≤ (b : Int)) = false := by simp; omega
            have d5 : decide (49 ≤ b) = false := by simp; omega
            have d7 := digB_f b (by omega)
            replace d7 := Lib.hid d7
            go_wp2_with fail
            go_meet
            exact ⟨by rw [d7.out], rfl, rfl⟩
        case rest =>
        obtain ⟨rfl, rfl, rfl⟩ := hcut
        go_upto_if 50 with fail
        go_cut [9, 10, 14] from 14 to 97 (fun g o i wx => ∃ GV OV : Int, g = .int .i64 GV ∧ o = .int .i64 OV ∧ gOf (b : Int) = GV ∧ oOf (b : Int) = OV ∧ i = .int .i64 k ∧ wr = wx)
        case first =>
          as_aux_lemma =>
          cases hdg : digB b with
          | true =>
            have hd := digB_of b hdg
            obtain ⟨a1, a2⟩ := gOf_hi b (by omega)
            obtain ⟨d1, d2⟩ := hd
            replace a1 := Lib.hid a1
            replace a2 := Lib.hid a2
            go_wp2_with fail
            go_meet
            exact ⟨_, _, rfl, rfl, a1.out, a2.out, rfl, rfl⟩
          | false =>
            obtain ⟨a1, a2⟩ := gOf_lo b (by have := digB_no b hdg; omega)
            replace a1 := Lib.hid a1
            replace a2 := Lib.hid a2
            go_wp2_with fail
            go_meet
            exact ⟨_, _, rfl, rfl, a1.out, a2.out, rfl, rfl⟩
        case rest =>
        obtain ⟨GV, OV, rfl, rfl, hgv, hov, rfl, rfl⟩ := hcut
        have hGV : -1 ≤ GV ∧ GV ≤ 3 := by
          by_cases hd : 49 ≤ (b : Int) ∧ (b : Int) ≤ 57
          · have := (gOf_hi b hd).1; omega
          · have := (gOf_lo b hd).1; omega
        clear hgb
        by_cases hbad : gOf (b : Int) < 0 ∨ (0 < Hg ∧ c = Wd)
        · rw [if_pos hbad] at hst
          replace hst := Lib.hid hst.symm
          have hcs : decide (GV < 0) = true ∨ (decide (GV < 0) = false ∧ decide ((0 : Int) < (Hg : Int)) = true ∧ decide (0 < Hg) = true ∧ ((c : Int) == (Wd : Int)) = true) := by
            simp; omega
          clear hbad hgv hov
          replace hGV := Lib.hid hGV
          rcases hcs with e1 | ⟨e1, e2, e3, e4⟩
          all_goals
            go_wp2_with fail
            have hbw := clrF_below (grown_below (hgr.out) (by omega) (fun g hg => by injection hg with hg; omega) : Below w.heap.size W3 wr) (Nat.le_refl _) 0 0 (.slice none 0 0) (.slice none 0 0)
            have hbk := clrF_blk hkAr.out 0 0 (.slice none 0 0) (.slice none 0 0)
            unfold clrF at hbw hbk
            have q0 := hbk.cell 0
            have q1 := hbk.cell 1
            have q2 := hbk.cell 2
            have q3 := hbk.cell 3
            refine bodyPost_ret (v := .tuple #[.agg #[.int .i64 0, .int .i64 0, .slice none 0 0, .slice none 0 0], .int .i64 k, erE 2]) (by simp [results, Tryd.results72, go_sem, q0, q1, q2, q3] <;> rfl) rfl ?_
            rw [hst.out]
            exact bad_post w _ k 2 (by decide) (hb2.out.trans hbw)
        · rw [if_neg hbad] at hst
          have hcs : decide (GV < 0) = false ∧ ((decide ((0 : Int) < (Hg : Int)) = false ∧ decide (0 < Hg) = false) ∨ (decide ((0 : Int) < (Hg : Int)) = true ∧ decide (0 < Hg) = true ∧ ((c : Int) == (Wd : Int)) = false)) := by
            simp; omega
          by_cases hful : c = 12 ∨ Hg = 12
          · rw [if_pos hful] at hst
            replace hst := Lib.hid hst.symm
            have hcf : ((c : Int) == 12) = true ∨ (((c : Int) == 12) = false ∧ ((Hg : Int) == 12) = true) := by
              simp; omega
            clear hbad hgv hov hful
            replace hGV := Lib.hid hGV
            rcases hcs with ⟨e1, ⟨e2, e3⟩ | ⟨e2, e3, e4⟩⟩
            all_goals
              rcases hcf with g1 | ⟨g1, g2⟩
            all_goals
              go_wp2_with fail
              have hbw := clrF_below (grown_below (hgr.out) (by omega) (fun g hg => by injection hg with hg; omega) : Below w.heap.size W3 wr) (Nat.le_refl _) 0 0 (.slice none 0 0) (.slice none 0 0)
              have hbk := clrF_blk hkAr.out 0 0 (.slice none 0 0) (.slice none 0 0)
              unfold clrF at hbw hbk
              have q0 := hbk.cell 0
              have q1 := hbk.cell 1
              have q2 := hbk.cell 2
              have q3 := hbk.cell 3
              refine bodyPost_ret (v := .tuple #[.agg #[.int .i64 0, .int .i64 0, .slice none 0 0, .slice none 0 0], .int .i64 k, erE 4]) (by simp [results, Tryd.results72, go_sem, q0, q1, q2, q3] <;> rfl) rfl ?_
              rw [hst.out]
              exact bad_post w _ k 4 (by decide) (hb2.out.trans hbw)
          · rw [if_neg hful] at hst
            replace hst := Lib.hid hst
            have hcf : ((c : Int) == 12) = false ∧ ((Hg : Int) == 12) = false := by
              simp; omega
            obtain ⟨g1, g2⟩ := hcf
            have hnx := fun wr' ga ca gb cb => pa_next (W3 := W3) (wr := wr') (fb := w.heap.size + 1) (g1 := ga) (cap1 := ca) (g2 := gb) (cap2 := cb) (b : Int) GV OV hI.out hbad hful hgv hov hst.out (show k + 1 ≤ s.size by omega)
            have hGl : G.length ≤ 100000 := by
              have e1 := hI.out.lg
              dsimp only at e1
              have e2 : Hg * Wd ≤ 12 * 12 := Nat.mul_le_mul (by omega) (by omega)
              omega
            have hOl : O.length ≤ 100000 := by
              have e1 := hI.out.lo
              dsimp only at e1
              have e2 : Hg * Wd ≤ 12 * 12 := Nat.mul_le_mul (by omega) (by omega)
              omega
            have hlf : ∀ (vf wZ) (ga ca gb cb : Nat), Below W3.heap.size wr wZ → St2 wZ W3.heap.size (.slice (some ⟨ga, 0, none⟩) (G.length + 1) ca) (G.length + 1) (G.map (.int .i64) ++ [.int .i64 GV]) (.slice (some ⟨gb, 0, none⟩) (O.length + 1) cb) (O.length + 1) (O.map (.int .i64) ++ [.int .i64 OV]) →
                (vf = (wZ.setCell ⟨w.heap.size + 1, 2, none⟩ (.slice (some ⟨ga, 0, none⟩) (G.length + 1) ca)).setCell ⟨w.heap.size + 1, 3, none⟩ (.slice (some ⟨gb, 0, none⟩) (O.length + 1) cb) ∨ vf = (wZ.setCell ⟨w.heap.size + 1, 3, none⟩ (.slice (some ⟨gb, 0, none⟩) (O.length + 1) cb)).setCell ⟨w.heap.size + 1, 2, none⟩ (.slice (some ⟨ga, 0, none⟩) (G.length + 1) ca)) → PaRel W3 (w.heap.size + 1) s.size bs R (.int .i64 ((c : Int) + 1)) (.int .i64 ((k : Int) + 1)) vf := by
              intro vf wZ ga ca gb cb hbel hst2 hvf
              have hBz := hB.out.below hbel (by omega)
              have hgz : W3.grownBy wZ (some (w.heap.size + 1)) := ⟨hbel.os.trans hgr.out.os, hbel.tape.trans hgr.out.tape, hbel.output.trans hgr.out.output, Nat.le_trans hgr.out.size hbel.size, fun x hx hne => (hbel.block x hx).trans (hgr.out.block x hx hne)⟩
              rcases hvf with rfl | rfl
              · exact hnx _ ga ca gb cb ((hBz.set_ 2 _).set_ 3 _) ((hst2.set_ _ 2 _ (by omega)).set_ _ 3 _ (by omega)) (grownBy_trans (grownBy_trans hgz (grownBy_set _ _ _ _)) (grownBy_set _ _ _ _))
              · exact hnx _ ga ca gb cb ((hBz.set_ 3 _).set_ 2 _) ((hst2.set_ _ 3 _ (by omega)).set_ _ 2 _ (by omega)) (grownBy_trans (grownBy_trans hgz (grownBy_set _ _ _ _)) (grownBy_set _ _ _ _))
            have hSA := hS
            have hSB := Lib.hid hS.out.swap
            have hAlt := Lib.hid (fun g hg => (own_block_lt hS.out.o1 g hg).2)
            have hBlt := Lib.hid (fun g hg => (own_block_lt hS.out.o2 g hg).2)
            replace hlf := Lib.hid hlf
            replace hbad := Lib.hid hbad
            replace hful := Lib.hid hful
            replace hgv := Lib.hid hgv
            replace hov := Lib.hid hov
            replace hGV := Lib.hid hGV
            clear hnx
            obtain ⟨e1, hcs⟩ := hcs
            go_upto_region 14 with fail
            go_cut [14, 55] from 14 to 97 (fun i t wx => t = .bool false ∧ i = .int .i64 k ∧ wr = wx)
            case first =>
              as_aux_lemma =>
              rcases hcs with ⟨e2, e3⟩ | ⟨e2, e3, e4⟩
              all_goals
                go_wp2_with fail
                go_meet
                exact ⟨rfl, rfl, rfl⟩
            case rest =>
            obtain ⟨rfl, rfl, rfl⟩ := hcut
            clear hcs e1
            go_upto_region 18 with fail
            have hcells : ∀ w', Below W3.heap.size wr w' → w'.cell? ⟨w.heap.size + 1, 2, none⟩ = some (.slice AG G.length cG) ∧ w'.cell? ⟨w.heap.size + 1, 3, none⟩ = some (.slice AO O.length cO) := fun w' hb => ⟨((hB.out.below hb (by omega)).cell 2), ((hB.out.below hb (by omega)).cell 3)⟩
            have hfz : ∀ w' i, Below W3.heap.size wr w' → w'.frozen? ⟨w.heap.size + 1, i, none⟩ = false := fun w' i hb => (hB.out.below hb (by omega)).frozen i
            replace hcells := Lib.hid hcells
            replace hfz := Lib.hid hfz
            refine wp_region_noPanic ?_
            refine wp_region_two (fun w' : World => w'.cell? ⟨w.heap.size + 1, 2, none⟩ = some (.slice AG G.length cG) ∧ w'.cell? ⟨w.heap.size + 1, 3, none⟩ = some (.slice AO O.length cO)) 11 3 PaMs (by kernel_rfl) rfl (by kernel_rfl) ?_
            have hH0 := hcells.out wr.drew (Below.draw1 (Below.refl _ _))
            refine wpAnyH_take (i := 0) (oi := _) (v := ?_) rfl (by kernel_rfl) (by kernel_rfl) (by kernel_rfl) (fun _ _ _ h => h) (Or.inl ⟨by rfl, ?_⟩) hH0 ?_
            rotate_left
            · intro w' hSw
              (try dsimp only at hSw)
              first | (go_simp; done) | (go_simp; with_reducible rfl)
            try simp only [List.getElem_toArray, List.getElem_cons_zero, Act.put, List.setIfInBounds_toArray, List.set_cons_zero, List.set_cons_succ]
            refine wpAnyH_take (i := 1) (oi := _) (v := ?_) rfl (by kernel_rfl) (by kernel_rfl) (by kernel_rfl) (fun _ _ _ h => h) (Or.inl ⟨by rfl, ?_⟩) hH0 ?_
            rotate_left
            · intro w' hSw
              (try dsimp only at hSw)
              first | (go_simp; done) | (go_simp; with_reducible rfl)
            try simp only [List.getElem_toArray, List.getElem_cons_zero, List.getElem_cons_succ, Act.put, List.setIfInBounds_toArray, List.set_cons_zero, List.set_cons_succ]
            refine wpAnyH_take (i := 2) (oi := _) (v := ?_) rfl (by kernel_rfl) (by kernel_rfl) (by kernel_rfl) (fun _ _ _ h => h) (Or.inl ⟨by rfl, ?_⟩) hH0 ?_
            rotate_left
            · intro w' hSw
              (try dsimp only at hSw)
              first | (go_simp; done) | (go_simp; with_reducible rfl)
            try simp only [List.getElem_toArray, List.getElem_cons_zero, List.getElem_cons_succ, Act.put, List.setIfInBounds_toArray, List.set_cons_zero, List.set_cons_succ]
            refine wpAnyH_take (i := 5) (oi := _) (v := ?_) rfl (by kernel_rfl) (by kernel_rfl) (by kernel_rfl) (fun _ _ _ h => h) (Or.inl ⟨by rfl, ?_⟩) hH0 ?_
            rotate_left
            · intro w' hSw
              (try dsimp only at hSw)
              first | (go_simp; done) | (go_simp; with_reducible rfl)
            try simp only [List.getElem_toArray, List.getElem_cons_zero, List.getElem_cons_succ, Act.put, List.setIfInBounds_toArray, List.set_cons_zero, List.set_cons_succ]
            refine wpAnyH_take (i := 6) (oi := _) (v := ?_) rfl (by kernel_rfl) (by kernel_rfl) (by kernel_rfl) (fun _ _ _ h => h) (Or.inl ⟨by rfl, ?_⟩) hH0 ?_
            rotate_left
            · intro w' hSw
              (try dsimp only at hSw)
              first | (go_simp; done) | (go_simp; with_reducible rfl)
            try simp only [List.getElem_toArray, List.getElem_cons_zero, List.getElem_cons_succ, Act.put, List.setIfInBounds_toArray, List.set_cons_zero, List.set_cons_succ]
            refine wpAnyH_take (i := 7) (oi := _) (v := ?_) rfl (by kernel_rfl) (by kernel_rfl) (by kernel_rfl) (fun _ _ _ h => h) (Or.inl ⟨by rfl, ?_⟩) hH0 ?_
            rotate_left
            · intro w' hSw
              (try dsimp only at hSw)
              first | (go_simp; done) | (go_simp; with_reducible rfl)
            try simp only [List.getElem_toArray, List.getElem_cons_zero, List.getElem_cons_succ, Act.put, List.setIfInBounds_toArray, List.set_cons_zero, List.set_cons_succ]
            refine wpAnyH_ready (rs := [3, 8]) (by kernel_rfl) (by simp) ?_
            refine AllReadyH.cons (o := _) rfl (fun K hK => ?_) ?_
            · skip
              go_simp
              refine hK.out _ _ ?_ (fun hHeld => ?_)
              · exact (hcells.out _ (by repeat (first | exact Below.refl _ _ | apply Below.draw1 | refine Below.alloc ?_ (by first | omega | (simp; omega)) _)))
              clear hK K
              try simp only [List.getElem_toArray, List.getElem_cons_zero, List.getElem_cons_succ, Act.put, List.setIfInBounds_toArray, List.set_cons_zero, List.set_cons_succ]
              refine wpAnyH_ready (rs := [4, 8]) (by kernel_rfl) (by simp) ?_
              refine AllReadyH.cons (o := _) rfl (fun K hK => ?_) ?_
              · skip
                refine step_put1 (by rfl) (.tmp 84) (.tmp 86) (by rfl) wr W3.heap.size (.slice AG G.length cG) G.length (G.map (.int .i64)) (.slice AO O.length cO) O.length (O.map (.int .i64)) GV (by rfl) (by repeat (first | exact hSA.out | apply St2.drew | apply St2.alloc)) (by repeat (first | exact Below.refl _ _ | apply Below.draw1 | refine Below.alloc ?_ (by first | omega | (simp; omega)) _)) hAlt.out _ _ (by rfl) (by repeat (first | exact Blk.new' _ _ _ _ (by first | rfl | simp) | apply Blk.drew | apply Blk.alloc)) hGl hszr ?_
                intro gA cA wA hPA
                refine hK.out _ _ ?_ (fun hHeld => ?_)
                · exact hcells.out _ hPA.bel
                clear hK K
                try simp only [List.getElem_toArray, List.getElem_cons_zero, List.getElem_cons_succ, Act.put, List.setIfInBounds_toArray, List.set_cons_zero, List.set_cons_succ]
                refine wpAnyH_take (i := 10) (oi := _) (v := ?_) rfl (by kernel_rfl) (by kernel_rfl) (by kernel_rfl) (fun _ _ _ h => h) (Or.inl ⟨by rfl, ?_⟩) hHeld ?_
                rotate_left
                · intro w' hSw
                  (try dsimp only at hSw)
                  first | (go_simp; done) | (go_simp; with_reducible rfl)
                try simp only [List.getElem_toArray, List.getElem_cons_zero, List.getElem_cons_succ, Act.put, List.setIfInBounds_toArray, List.set_cons_zero, List.set_cons_succ]
                refine wpAnyH_ready (rs := [8]) (by kernel_rfl) (by simp) ?_
                refine AllReadyH.cons (o := _) rfl (fun K hK => ?_) ?_
                · skip
                  go_simp
                  refine hK.out _ _ ?_ (fun hHeld => ?_)
                  · exact (hcells.out _ (by repeat (first | exact Below.refl _ _ | exact hPA.bel | apply Below.draw1 | refine Below.alloc ?_ (by first | omega | (simp; omega) | (have := hPA.bel.size; omega) | (have := hPA.bel.size; simp; omega)) _)))
                  clear hK K
                  try simp only [List.getElem_toArray, List.getElem_cons_zero, List.getElem_cons_succ, Act.put, List.setIfInBounds_toArray, List.set_cons_zero, List.set_cons_succ]
                  refine wpAnyH_ready (rs := [9]) (by kernel_rfl) (by simp) ?_
                  refine AllReadyH.cons (o := _) rfl (fun K hK => ?_) ?_
                  · skip
                    refine step_put1 (by rfl) (.tmp 89) (.tmp 91) (by rfl) wr W3.heap.size (.slice AO O.length cO) O.length (O.map (.int .i64)) (.slice (some ⟨gA, 0, none⟩) (G.length + 1) cA) (G.length + 1) (G.map (.int .i64) ++ [.int .i64 GV]) OV (by rfl) (by repeat (first | exact hPA.st.swap | apply St2.drew | apply St2.alloc)) (by repeat (first | exact hPA.bel | apply Below.draw1 | refine Below.alloc ?_ (by have := hPA.bel.size; first | omega | (simp; omega)) _)) hBlt.out _ _ (by rfl) (by repeat (first | exact Blk.new' _ _ _ _ (by first | rfl | simp) | (refine hPA.blk _ _ _ (by first | omega | (simp; omega)) ?_) | apply Blk.drew | apply Blk.alloc)) hOl hszr ?_
                    intro gB cB wB hPB
                    refine hK.out _ _ ?_ (fun hHeld => ?_)
                    · exact hcells.out _ hPB.bel
                    clear hK K
                    try simp only [List.getElem_toArray, List.getElem_cons_zero, List.getElem_cons_succ, Act.put, List.setIfInBounds_toArray, List.set_cons_zero, List.set_cons_succ]
                    refine wpAnyH_done (by kernel_rfl) ?_ _
                    have fz2 := hfz.out wB 2 hPB.bel
                    have fz3 := hfz.out wB 3 hPB.bel
                    obtain ⟨cz2, cz3⟩ := hcells.out wB hPB.bel
                    refine wpAny_of_held (S := fun _ => True) _ _ _ _ ?_
                    refine wpAnyH_ready (rs := [11]) (by kernel_rfl) (by simp) ?_
                    refine AllReadyH.cons (o := _) rfl (fun K hK => ?_) AllReadyH.nil
                    go_simp
                    refine hK.out _ _ trivial (fun _ => ?_)
                    clear hK K
                    try simp only [List.getElem_toArray, List.getElem_cons_zero, List.getElem_cons_succ, Act.put, List.setIfInBounds_toArray, List.set_cons_zero, List.set_cons_succ]
                    refine wpAnyH_take (i := 12) (oi := _) (v := ?_) rfl (by kernel_rfl) (by kernel_rfl) (by kernel_rfl) (fun _ _ _ h => h) (Or.inl ⟨by rfl, ?_⟩) trivial ?_
                    rotate_left
                    · intro w' hSw
                      (try dsimp only at hSw)
                      first | (go_simp; done) | (go_simp; with_reducible rfl)
                    try simp only [List.getElem_toArray, List.getElem_cons_zero, List.getElem_cons_succ, Act.put, List.setIfInBounds_toArray, List.set_cons_zero, List.set_cons_succ]
                    refine wpAnyH_ready (rs := [13]) (by kernel_rfl) (by simp) ?_
                    refine AllReadyH.cons (o := _) rfl (fun K hK => ?_) AllReadyH.nil
                    go_simp
                    refine hK.out _ _ trivial (fun _ => ?_)
                    clear hK K
                    try simp only [List.getElem_toArray, List.getElem_cons_zero, List.getElem_cons_succ, Act.put, List.setIfInBounds_toArray, List.set_cons_zero, List.set_cons_succ]
                    refine wpAnyH_done (by kernel_rfl) ?_ _
                    refine NoPanic.normal ?_
                    have hrl := hlf.out _ wB gA cA gB cB hPB.bel hPB.st.swap (.inl rfl)
                    replace hrl := Lib.hid hrl
                    go_wp2_with fail
                    go_roundw
                    case rel => first | exact hrl.out | exact ⟨_, _, _, _, hrl.out, rfl⟩
                    case measure => simp [intOf]; omega
                  exact AllReadyH.nil
                exact AllReadyH.nil
              refine AllReadyH.cons (o := _) rfl (fun K hK => ?_) ?_
              · skip
                go_simp
                refine hK.out _ _ ?_ (fun hHeld => ?_)
                · exact (hcells.out _ (by repeat (first | exact Below.refl _ _ | apply Below.draw1 | refine Below.alloc ?_ (by first | omega | (simp; omega)) _)))
                clear hK K
                try simp only [List.getElem_toArray, List.getElem_cons_zero, List.getElem_cons_succ, Act.put, List.setIfInBounds_toArray, List.set_cons_zero, List.set_cons_succ]
                refine wpAnyH_ready (rs := [4]) (by kernel_rfl) (by simp) ?_
                refine AllReadyH.cons (o := _) rfl (fun K hK => ?_) ?_
                · skip
                  refine step_put1 (by rfl) (.tmp 84) (.tmp 86) (by rfl) wr W3.heap.size (.slice AG G.length cG) G.length (G.map (.int .i64)) (.slice AO O.length cO) O.length (O.map (.int .i64)) GV (by rfl) (by repeat (first | exact hSA.out | apply St2.drew | apply St2.alloc)) (by repeat (first | exact Below.refl _ _ | apply Below.draw1 | refine Below.alloc ?_ (by first | omega | (simp; omega)) _)) hAlt.out _ _ (by rfl) (by repeat (first | exact Blk.new' _ _ _ _ (by first | rfl | simp) | apply Blk.drew | apply Blk.alloc)) hGl hszr ?_
                  intro gA cA wA hPA
                  refine hK.out _ _ ?_ (fun hHeld => ?_)
                  · exact hcells.out _ hPA.bel
                  clear hK K
                  try simp only [List.getElem_toArray, List.getElem_cons_zero, List.getElem_cons_succ, Act.put, List.setIfInBounds_toArray, List.set_cons_zero, List.set_cons_succ]
                  refine wpAnyH_take (i := 10) (oi := _) (v := ?_) rfl (by kernel_rfl) (by kernel_rfl) (by kernel_rfl) (fun _ _ _ h => h) (Or.inl ⟨by rfl, ?_⟩) hHeld ?_
                  rotate_left
                  · intro w' hSw
                    (try dsimp only at hSw)
                    first | (go_simp; done) | (go_simp; with_reducible rfl)
                  try simp only [List.getElem_toArray, List.getElem_cons_zero, List.getElem_cons_succ, Act.put, List.setIfInBounds_toArray, List.set_cons_zero, List.set_cons_succ]
                  refine wpAnyH_ready (rs := [9]) (by kernel_rfl) (by simp) ?_
                  refine AllReadyH.cons (o := _) rfl (fun K hK => ?_) ?_
                  · skip
                    refine step_put1 (by rfl) (.tmp 89) (.tmp 91) (by rfl) wr W3.heap.size (.slice AO O.length cO) O.length (O.map (.int .i64)) (.slice (some ⟨gA, 0, none⟩) (G.length + 1) cA) (G.length + 1) (G.map (.int .i64) ++ [.int .i64 GV]) OV (by rfl) (by repeat (first | exact hPA.st.swap | apply St2.drew | apply St2.alloc)) (by repeat (first | exact hPA.bel | apply Below.draw1 | refine Below.alloc ?_ (by have := hPA.bel.size; first | omega | (simp; omega)) _)) hBlt.out _ _ (by rfl) (by repeat (first | exact Blk.new' _ _ _ _ (by first | rfl | simp) | (refine hPA.blk _ _ _ (by first | omega | (simp; omega)) ?_) | apply Blk.drew | apply Blk.alloc)) hOl hszr ?_
                    intro gB cB wB hPB
                    refine hK.out _ _ ?_ (fun hHeld => ?_)
                    · exact hcells.out _ hPB.bel
                    clear hK K
                    try simp only [List.getElem_toArray, List.getElem_cons_zero, List.getElem_cons_succ, Act.put, List.setIfInBounds_toArray, List.set_cons_zero, List.set_cons_succ]
                    refine wpAnyH_done (by kernel_rfl) ?_ _
                    have fz2 := hfz.out wB 2 hPB.bel
                    have fz3 := hfz.out wB 3 hPB.bel
                    obtain ⟨cz2, cz3⟩ := hcells.out wB hPB.bel
                    refine wpAny_of_held (S := fun _ => True) _ _ _ _ ?_
                    refine wpAnyH_ready (rs := [11]) (by kernel_rfl) (by simp) ?_
                    refine AllReadyH.cons (o := _) rfl (fun K hK => ?_) AllReadyH.nil
                    go_simp
                    refine hK.out _ _ trivial (fun _ => ?_)
                    clear hK K
                    try simp only [List.getElem_toArray, List.getElem_cons_zero, List.getElem_cons_succ, Act.put, List.setIfInBounds_toArray, List.set_cons_zero, List.set_cons_succ]
                    refine wpAnyH_take (i := 12) (oi := _) (v := ?_) rfl (by kernel_rfl) (by kernel_rfl) (by kernel_rfl) (fun _ _ _ h => h) (Or.inl ⟨by rfl, ?_⟩) trivial ?_
                    rotate_left
                    · intro w' hSw
                      (try dsimp only at hSw)
                      first | (go_simp; done) | (go_simp; with_reducible rfl)
                    try simp only [List.getElem_toArray, List.getElem_cons_zero, List.getElem_cons_succ, Act.put, List.setIfInBounds_toArray, List.set_cons_zero, List.set_cons_succ]
                    refine wpAnyH_ready (rs := [13]) (by kernel_rfl) (by simp) ?_
                    refine AllReadyH.cons (o := _) rfl (fun K hK => ?_) AllReadyH.nil
                    go_simp
                    refine hK.out _ _ trivial (fun _ => ?_)
                    clear hK K
                    try simp only [List.getElem_toArray, List.getElem_cons_zero, List.getElem_cons_succ, Act.put, List.setIfInBounds_toArray, List.set_cons_zero, List.set_cons_succ]
                    refine wpAnyH_done (by kernel_rfl) ?_ _
                    refine NoPanic.normal ?_
                    have hrl := hlf.out _ wB gA cA gB cB hPB.bel hPB.st.swap (.inl rfl)
                    replace hrl := Lib.hid hrl
                    go_wp2_with fail
                    go_roundw
                    case rel => first | exact hrl.out | exact ⟨_, _, _, _, hrl.out, rfl⟩
                    case measure => simp [intOf]; omega
                  exact AllReadyH.nil
                exact AllReadyH.nil
              exact AllReadyH.nil
            refine AllReadyH.cons (o := _) rfl (fun K hK => ?_) ?_
            · skip
              go_simp
              refine hK.out _ _ ?_ (fun hHeld => ?_)
              · exact (hcells.out _ (by repeat (first | exact Below.refl _ _ | apply Below.draw1 | refine Below.alloc ?_ (by first | omega | (simp; omega)) _)))
              clear hK K
              try simp only [List.getElem_toArray, List.getElem_cons_zero, List.getElem_cons_succ, Act.put, List.setIfInBounds_toArray, List.set_cons_zero, List.set_cons_succ]
              refine wpAnyH_ready (rs := [3]) (by kernel_rfl) (by simp) ?_
              refine AllReadyH.cons (o := _) rfl (fun K hK => ?_) ?_
              · skip
                go_simp
                refine hK.out _ _ ?_ (fun hHeld => ?_)
                · exact (hcells.out _ (by repeat (first | exact Below.refl _ _ | apply Below.draw1 | refine Below.alloc ?_ (by first | omega | (simp; omega)) _)))
                clear hK K
                try simp only [List.getElem_toArray, List.getElem_cons_zero, List.getElem_cons_succ, Act.put, List.setIfInBounds_toArray, List.set_cons_zero, List.set_cons_succ]
                refine wpAnyH_ready (rs := [4]) (by kernel_rfl) (by simp) ?_
                refine AllReadyH.cons (o := _) rfl (fun K hK => ?_) ?_
                · skip
                  refine step_put1 (by rfl) (.tmp 84) (.tmp 86) (by rfl) wr W3.heap.size (.slice AG G.length cG) G.length (G.map (.int .i64)) (.slice AO O.length cO) O.length (O.map (.int .i64)) GV (by rfl) (by repeat (first | exact hSA.out | apply St2.drew | apply St2.alloc)) (by repeat (first | exact Below.refl _ _ | apply Below.draw1 | refine Below.alloc ?_ (by first | omega | (simp; omega)) _)) hAlt.out _ _ (by rfl) (by repeat (first | exact Blk.new' _ _ _ _ (by first | rfl | simp) | apply Blk.drew | apply Blk.alloc)) hGl hszr ?_
                  intro gA cA wA hPA
                  refine hK.out _ _ ?_ (fun hHeld => ?_)
                  · exact hcells.out _ hPA.bel
                  clear hK K
                  try simp only [List.getElem_toArray, List.getElem_cons_zero, List.getElem_cons_succ, Act.put, List.setIfInBounds_toArray, List.set_cons_zero, List.set_cons_succ]
                  refine wpAnyH_take (i := 10) (oi := _) (v := ?_) rfl (by kernel_rfl) (by kernel_rfl) (by kernel_rfl) (fun _ _ _ h => h) (Or.inl ⟨by rfl, ?_⟩) hHeld ?_
                  rotate_left
                  · intro w' hSw
                    (try dsimp only at hSw)
                    first | (go_simp; done) | (go_simp; with_reducible rfl)
                  try simp only [List.getElem_toArray, List.getElem_cons_zero, List.getElem_cons_succ, Act.put, List.setIfInBounds_toArray, List.set_cons_zero, List.set_cons_succ]
                  refine wpAnyH_ready (rs := [9]) (by kernel_rfl) (by simp) ?_
                  refine AllReadyH.cons (o := _) rfl (fun K hK => ?_) ?_
                  · skip
                    refine step_put1 (by rfl) (.tmp 89) (.tmp 91) (by rfl) wr W3.heap.size (.slice AO O.length cO) O.length (O.map (.int .i64)) (.slice (some ⟨gA, 0, none⟩) (G.length + 1) cA) (G.length + 1) (G.map (.int .i64) ++ [.int .i64 GV]) OV (by rfl) (by repeat (first | exact hPA.st.swap | apply St2.drew | apply St2.alloc)) (by repeat (first | exact hPA.bel | apply Below.draw1 | refine Below.alloc ?_ (by have := hPA.bel.size; first | omega | (simp; omega)) _)) hBlt.out _ _ (by rfl) (by repeat (first | exact Blk.new' _ _ _ _ (by first | rfl | simp) | (refine hPA.blk _ _ _ (by first | omega | (simp; omega)) ?_) | apply Blk.drew | apply Blk.alloc)) hOl hszr ?_
                    intro gB cB wB hPB
                    refine hK.out _ _ ?_ (fun hHeld => ?_)
                    · exact hcells.out _ hPB.bel
                    clear hK K
                    try simp only [List.getElem_toArray, List.getElem_cons_zero, List.getElem_cons_succ, Act.put, List.setIfInBounds_toArray, List.set_cons_zero, List.set_cons_succ]
                    refine wpAnyH_done (by kernel_rfl) ?_ _
                    have fz2 := hfz.out wB 2 hPB.bel
                    have fz3 := hfz.out wB 3 hPB.bel
                    obtain ⟨cz2, cz3⟩ := hcells.out wB hPB.bel
                    refine wpAny_of_held (S := fun _ => True) _ _ _ _ ?_
                    refine wpAnyH_ready (rs := [11]) (by kernel_rfl) (by simp) ?_
                    refine AllReadyH.cons (o := _) rfl (fun K hK => ?_) AllReadyH.nil
                    go_simp
                    refine hK.out _ _ trivial (fun _ => ?_)
                    clear hK K
                    try simp only [List.getElem_toArray, List.getElem_cons_zero, List.getElem_cons_succ, Act.put, List.setIfInBounds_toArray, List.set_cons_zero, List.set_cons_succ]
                    refine wpAnyH_take (i := 12) (oi := _) (v := ?_) rfl (by kernel_rfl) (by kernel_rfl) (by kernel_rfl) (fun _ _ _ h => h) (Or.inl ⟨by rfl, ?_⟩) trivial ?_
                    rotate_left
                    · intro w' hSw
                      (try dsimp only at hSw)
                      first | (go_simp; done) | (go_simp; with_reducible rfl)
                    try simp only [List.getElem_toArray, List.getElem_cons_zero, List.getElem_cons_succ, Act.put, List.setIfInBounds_toArray, List.set_cons_zero, List.set_cons_succ]
                    refine wpAnyH_ready (rs := [13]) (by kernel_rfl) (by simp) ?_
                    refine AllReadyH.cons (o := _) rfl (fun K hK => ?_) AllReadyH.nil
                    go_simp
                    refine hK.out _ _ trivial (fun _ => ?_)
                    clear hK K
                    try simp only [List.getElem_toArray, List.getElem_cons_zero, List.getElem_cons_succ, Act.put, List.setIfInBounds_toArray, List.set_cons_zero, List.set_cons_succ]
                    refine wpAnyH_done (by kernel_rfl) ?_ _
                    refine NoPanic.normal ?_
                    have hrl := hlf.out _ wB gA cA gB cB hPB.bel hPB.st.swap (.inl rfl)
                    replace hrl := Lib.hid hrl
                    go_wp2_with fail
                    go_roundw
                    case rel => first | exact hrl.out | exact ⟨_, _, _, _, hrl.out, rfl⟩
                    case measure => simp [intOf]; omega
                  exact AllReadyH.nil
                exact AllReadyH.nil
              exact AllReadyH.nil
            exact AllReadyH.nil
    · obtain rfl : k = s.size := by omega
      have hst := hP.out
      rw [prun_nil _ _ _ _ (by omega)] at hst
      dsimp only at hst
      by_cases hbad : 0 < c ∨ Hg = 0
      · rw [if_pos hbad] at hst
        replace hst := Lib.hid hst.symm
        have hcs : (decide ((0 : Int) < (c : Int)) = true ∧ decide (0 < c) = true) ∨ (decide ((0 : Int) < (c : Int)) = false ∧ decide (0 < c) = false ∧ ((Hg : Int) == 0) = true) := by
          simp; omega
        clear hbad hgr
        have hgr := hgr2
        rcases hcs with ⟨e1, e2⟩ | ⟨e1, e2, e3⟩
        all_goals
          go_wp2_with fail
          have hbw := clrF_below (grown_below (hgr.out) (by omega) (fun g hg => by injection hg with hg; omega) : Below w.heap.size W3 wr) (Nat.le_refl _) 0 0 (.slice none 0 0) (.slice none 0 0)
          have hbk := clrF_blk hkAr.out 0 0 (.slice none 0 0) (.slice none 0 0)
          unfold clrF at hbw hbk
          have q0 := hbk.cell 0
          have q1 := hbk.cell 1
          have q2 := hbk.cell 2
          have q3 := hbk.cell 3
          refine bodyPost_ret (v := .tuple #[.agg #[.int .i64 0, .int .i64 0, .slice none 0 0, .slice none 0 0], .int .i64 (s.size : Int), erE 2]) (by simp [results, Tryd.results72, go_sem, q0, q1, q2, q3] <;> rfl) rfl ?_
          rw [hst.out]
          exact bad_post w _ s.size 2 (by decide) (hb2.out.trans hbw)
      · rw [if_neg hbad] at hst
        replace hst := Lib.hid hst.symm
        have e1 : decide ((0 : Int) < (c : Int)) = false := by simp; omega
        have e2 : decide (0 < c) = false := by simp; omega
        have e3 : ((Hg : Int) == 0) = false := by simp; omega
        replace hbad := Lib.hid hbad
        clear hgr
        have hgr := hgr2
        go_wp2_with fail
        have hbw := clrF_below (grown_below (hgr.out) (by omega) (fun g hg => by injection hg with hg; omega) : Below w.heap.size W3 wr) (Nat.le_refl _) Wd Hg (.slice AG G.length cG) (.slice AO O.length cO)
        have hbk := clrF_blk hkAr.out Wd Hg (.slice AG G.length cG) (.slice AO O.length cO)
        have hsf : St2 (clrF wr w.heap.size Wd Hg (.slice AG G.length cG) (.slice AO O.length cO)) W3.heap.size (.slice AG G.length cG) G.length (G.map (.int .i64)) (.slice AO O.length cO) O.length (O.map (.int .i64)) :=
          (((hS.out.set_ _ 0 _ (by omega)).set_ _ 1 _ (by omega)).set_ _ 2 _ (by omega)).set_ _ 3 _ (by omega)
        unfold clrF at hbw hbk hsf
        have q0 := hbk.cell 0
        have q1 := hbk.cell 1
        have q2 := hbk.cell 2
        have q3 := hbk.cell 3
        refine bodyPost_ret (v := .tuple #[.agg #[.int .i64 (Wd : Int), .int .i64 (Hg : Int), .slice AG G.length cG, .slice AO O.length cO], .int .i64 0, .nilIface]) (by simp [results, Tryd.results72, go_sem, q0, q1, q2, q3] <;> rfl) rfl ?_
        rw [hst.out]
        exact ok_post w _ W3.heap.size c Wd Hg G O AG AO cG cO hI.out hsf (hb2.out.trans hbw) (by omega)
end Go.Proofs.YtkgkpggfoieioaaDoor
