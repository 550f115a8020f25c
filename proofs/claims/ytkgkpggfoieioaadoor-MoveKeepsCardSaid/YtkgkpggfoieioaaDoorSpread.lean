import Derived.Test.YtkgkpggfoieioaaDoorMrgi
import Derived.Test.YtkgkpggfoieioaaDoorNear0
import Derived.Test.YtkgkpggfoieioaaDoorMrgc
import Derived.BigQuiet
import Derived.Deep.QuietTactic
namespace Go.Proofs.YtkgkpggfoieioaaDoor
set_option linter.unusedVariables false
open Go.RowKit
theorem int_inf : (Tryd.prog.info? 3).map (fun i => (i.zero, i.size, i.bytes)) = some (some (.int .i64 0), 1, 8) := by kernel_rfl
theorem bool_inf : (Tryd.prog.info? 4).map (fun i => (i.zero, i.size, i.bytes)) = some (some (.bool false), 1, 1) := by kernel_rfl
theorem mk_ints (n : Nat) (h : n ≤ 1000000) (w : World) : (Instr.makeSlice 34 (.int .i64 (n : Int)) (.int .i64 (n : Int))).run Tryd.prog w = .ok (.slice (some ⟨w.heap.size, 0, none⟩) n n) (w.alloc (.cells (arrI (List.replicate n 0)) 3)) := by
  obtain ⟨i0, hi0, hz0, hz1, hz2⟩ := info_parts int_inf
  have := run_make (P := Tryd.prog) w 34 3 i0 _ Tryd.underlying34 hi0 hz0 .i64 .i64 n n (by omega) (Int.le_refl _) (by rw [hz2]; omega) (by omega)
  rw [Int.toNat_natCast, hz1, Nat.mul_one] at this
  rw [← madeI]
  exact this
theorem mk_bools (n : Nat) (h : n ≤ 1000000) (w : World) : (Instr.makeSlice 204 (.int .i64 (n : Int)) (.int .i64 (n : Int))).run Tryd.prog w = .ok (.slice (some ⟨w.heap.size, 0, none⟩) n n) (w.alloc (.cells (arrB (List.replicate n false)) 4)) := by
  obtain ⟨i0, hi0, hz0, hz1, hz2⟩ := info_parts bool_inf
  have := run_make (P := Tryd.prog) w 204 4 i0 _ Tryd.underlying204 hi0 hz0 .i64 .i64 n n (by omega) (Int.le_refl _) (by rw [hz2]; omega) (by omega)
  rw [Int.toNat_natCast, hz1, Nat.mul_one] at this
  rw [← madeB]
  exact this
def cand (out : List Int) (done : List Bool) (j : Nat) : Prop := 0 ≤ at0 out j ∧ atB done j = false
/-- The nearest among the first k. -/
def Sel (out : List Int) (done : List Bool) (k : Nat) (at_ : Int) : Prop := (at_ = -1 ∧ ∀ j, j < k → ¬cand out done j) ∨ ∃ a : Nat, a < k ∧ at_ = (a : Int) ∧ cand out done a ∧ ∀ j, j < k → cand out done j → at0 out a ≤ at0 out j
theorem own_block_lt' {w : World} {base : Nat} {e : TypeId} {sz n c : Nat} {A : Option Addr} {xs : List Value} (h : w.ownsRow base e sz (.slice A n c) n xs) : ∀ b o, A = some ⟨b, o, none⟩ → base ≤ b ∧ o = 0 := fun b o hA => by
  rcases h.2 with ⟨hv, _⟩ | ⟨g', cap, cur, hv, hb, hh, _⟩
  · injection hv with e1; rw [hA] at e1; cases e1
  · injection hv with e1
    rw [hA] at e1
    injection e1 with e1
    injection e1 with e1 e2
    subst e1
    exact ⟨hb, e2⟩
theorem sel_0 (out : List Int) (done : List Bool) : Sel out done 0 (-1) := .inl ⟨rfl, fun j h => absurd h (by omega)⟩
theorem sel_skip {out : List Int} {done : List Bool} {k : Nat} {a : Int} (h : Sel out done k a) (hk : cand out done k → ∃ a' : Nat, a = (a' : Int) ∧ at0 out a' ≤ at0 out k) : Sel out done (k + 1) a := by
  rcases h with ⟨h1, h2⟩ | ⟨a', h1, h2, h3, h4⟩
  · refine .inl ⟨h1, fun j hj hc => ?_⟩
    rcases Nat.lt_or_ge j k with h | h
    · exact h2 j h hc
    · obtain rfl : j = k := by omega
      obtain ⟨a', e, _⟩ := hk hc
      omega
  · refine .inr ⟨a', by omega, h2, h3, fun j hj hc => ?_⟩
    rcases Nat.lt_or_ge j k with h | h
    · exact h4 j h hc
    · obtain rfl : j = k := by omega
      obtain ⟨a'', e, h⟩ := hk hc
      obtain rfl : a' = a'' := by omega
      exact h
theorem sel_take {out : List Int} {done : List Bool} {k : Nat} {a : Int} (h : Sel out done k a) (hc : cand out done k) (hlt : a < 0 ∨ ∃ a' : Nat, a = (a' : Int) ∧ at0 out k < at0 out a') : Sel out done (k + 1) (k : Int) := by
  refine .inr ⟨k, by omega, rfl, hc, fun j hj hcj => ?_⟩
  rcases Nat.lt_or_ge j k with hjk | hjk
  · rcases h with ⟨h1, h2⟩ | ⟨a', h1, h2, h3, h4⟩
    · exact absurd hcj (h2 j hjk)
    · have := h4 j hjk hcj
      rcases hlt with hlt | ⟨a'', e, hlt⟩
      · omega
      · obtain rfl : a' = a'' := by omega
        omega
  · obtain rfl : j = k := by omega
    exact Int.le_refl _
def RRel (f : GF) (done : List Bool) (a j : Nat) (x y : Nat) : Prop := (atB done x = true ∧ NB f x y) ∨ (x = a ∧ ∃ i, i < j ∧ ((besL f a).getD i 0) = (y : Int))
/-- What the search keeps, in memory. -/
structure SpW (w0 : World) (g gd : Nat) (f : GF) (n src : Nat) (cost : Nat → Nat → Int) (wr : World) (out : List Int) (done : List Bool) (m : Nat) (M : Int) (R : Nat → Nat → Prop) : Prop where
  inv : SInv n src (NB f) cost out done m M R
  bo : Blk wr g 3 (arrI out)
  bd : Blk wr gd 4 (arrB done)
  ne : g < gd
  bel : Below g w0 wr
section
variable {w0 wr wr' : World} {g gd : Nat} {f : GF} {n src : Nat} {cost : Nat → Nat → Int} {out : List Int} {done : List Bool} {m : Nat} {M : Int} {R : Nat → Nat → Prop}
theorem SpW.below (h : SpW w0 g gd f n src cost wr out done m M R) (hb : Below wr.heap.size wr wr') : SpW w0 g gd f n src cost wr' out done m M R :=
  ⟨h.inv, h.bo.below hb h.bo.lt, h.bd.below hb h.bd.lt, h.ne, h.bel.trans (hb.mono (by have := h.bo.lt; omega))⟩
theorem SpW.drewN (h : SpW w0 g gd f n src cost wr out done m M R) (q : Nat) : SpW w0 g gd f n src cost (wr.drewN q) out done m M R :=
  ⟨h.inv, h.bo.drewN q, h.bd.drewN q, h.ne, bdrewN h.bel q⟩
theorem SpW.fewer (h : SpW w0 g gd f n src cost wr out done m M R) (R' : Nat → Nat → Prop) (hR : ∀ x y, R' x y → R x y) : SpW w0 g gd f n src cost wr out done m M R' := ⟨h.inv.fewer R' hR, h.bo, h.bd, h.ne, h.bel⟩
theorem SpW.pick (h : SpW w0 g gd f n src cost wr out done m M R) (a : Nat) (ha : a < n) (hc : cand out done a) (hmin : ∀ j, j < n → cand out done j → at0 out a ≤ at0 out j) :
    SpW w0 g gd f n src cost (wr.setCell ⟨gd, a, none⟩ (.bool true)) out (done.set a true) (m + 1) (at0 out a) R :=
  ⟨h.inv.pick a ha hc.2 hc.1 (fun k hk hd h0 => hmin k hk ⟨h0, hd⟩), h.bo.far (by show g ≠ gd; have := h.ne; omega) _, h.bd.setB a true, h.ne, h.bel.setCell (p := ⟨gd, a, none⟩) (by show g ≤ gd; have := h.ne; omega) _⟩
theorem SpW.tell (h : SpW w0 g gd f n src cost wr out done m M R) (a b : Nat) (ha : a < n) (hb : b < n) (hd : atB done a = true) (hM : at0 out a = M) (hn : NB f a b) (hc : 0 < cost a b) (hc2 : M + cost a b ≤ 2 * m) (hlt : at0 out b < 0 ∨ M + cost a b < at0 out b) :
    SpW w0 g gd f n src cost (wr.setCell ⟨g, b, none⟩ (.int .i64 (M + cost a b))) (out.set b (M + cost a b)) done m M (fun x y => R x y ∨ (x = a ∧ y = b)) := by
  subst hM
  exact ⟨h.inv.tell a b ha hb hd rfl hn hc hc2 hlt, h.bo.setI b _, h.bd.far (by show gd ≠ g; have := h.ne; omega) _, h.ne, h.bel.setCell (p := ⟨g, b, none⟩) (Nat.le_refl _) _⟩
theorem SpW.skip (h : SpW w0 g gd f n src cost wr out done m M R) (a b : Nat) (hd : atB done a = true) (hlt : 0 < cost a b → 0 ≤ at0 out b ∧ at0 out b ≤ at0 out a + cost a b) :
    SpW w0 g gd f n src cost wr out done m M (fun x y => R x y ∨ (x = a ∧ y = b)) := ⟨h.inv.skip a b hd hlt, h.bo, h.bd, h.ne, h.bel⟩
end
def SpRel (w0 : World) (g gd : Nat) (f : GF) (n src : Nat) (cost : Nat → Nat → Int) (wr : World) : Prop := ∃ out done m M, SpW w0 g gd f n src cost wr out done m M (fun x y => atB done x = true ∧ NB f x y)
def RxRel (w0 w1 : World) (g gd : Nat) (f : GF) (n src a : Nat) (M : Int) (done : List Bool) (m : Nat) (cost : Nat → Nat → Int) (i : Value) (wr : World) : Prop :=
  ∃ (j : Nat) (out : List Int), i = .int .i64 j ∧ j ≤ (besL f a).length ∧ Hid (SpW w0 g gd f n src cost wr out (done.set a true) (m + 1) M (RRel f done a j)) ∧ at0 out a = M ∧ Hid (w1.grownBy wr (some g))
theorem rrel_next {f : GF} {done : List Bool} {a j : Nat} {b : Nat} (hb : (besL f a).getD j 0 = (b : Int)) (x y : Nat) (h : RRel f done a (j + 1) x y) : RRel f done a j x y ∨ (x = a ∧ y = b) := by
  rcases h with h | ⟨rfl, i, hi, h⟩
  · exact .inl (.inl h)
  · rcases Nat.lt_or_ge i j with hij | hij
    · exact .inl (.inr ⟨rfl, i, hij, h⟩)
    · obtain rfl : i = j := by omega
      rw [hb] at h
      exact .inr ⟨rfl, by omega⟩
theorem rrel_end {f : GF} {done : List Bool} {a : Nat} (ha : a < done.length) (x y : Nat) (h : atB (done.set a true) x = true ∧ NB f x y) : RRel f done a (besL f a).length x y := by
  obtain ⟨h1, h2⟩ := h
  rw [atB_set done a x true ha] at h1
  by_cases e : a = x
  · subst e
    obtain ⟨i, hi, he⟩ := List.getElem_of_mem h2
    exact .inr ⟨rfl, i, hi, by rw [List.getD_eq_getElem?_getD, List.getElem?_eq_getElem hi]; exact he⟩
  · rw [if_neg e] at h1
    exact .inl ⟨h1, h2⟩
theorem rrel_start {f : GF} {done : List Bool} {a : Nat} (x y : Nat) (h : RRel f done a 0 x y) : atB done x = true ∧ NB f x y := by
  rcases h with h | ⟨_, i, hi, _⟩
  · exact h
  · omega
def SprPost (w : World) (f : GF) (src : Nat) (cost : Nat → Nat → Int) (e : Ending) (w' : World) : Prop :=
  ∃ g out, e = .returned (.slice (some ⟨g, 0, none⟩) f.ground.length f.ground.length) ∧ Dist f.ground.length src (NB f) cost out ∧ w.heap.size ≤ g ∧ Blk w' g 3 (arrI out) ∧ Below w.heap.size w w'
set_option maxHeartbeats 6400000 in
set_option maxRecDepth 100000 in
theorem spread_any (s : SF) (f : GF) (src : Nat) (F : FuncId) (p1 p2 : Value) (cost : Nat → Nat → Int) (w : World) (h : FOk w s f) (hg : Good f) (hsrc : src < f.ground.length) (hent : ∀ args w', (callFunc F args).run Tryd.prog w' = .ok (.enter F args) w') (hc2 : ∀ a b, 0 ≤ cost a b ∧ cost a b ≤ 2)
    (hcost : ∀ (a b : Nat) (wx : World), a < f.ground.length → b < f.ground.length → Below w.heap.size w wx → Calls Tryd.prog F #[.int .i64 a, .int .i64 b, p1, p2] wx fun e w' => e = .returned (.int .i64 (cost a b)) ∧ Below wx.heap.size wx w') :
    Calls Tryd.prog 130 #[fA s f, .int .i64 src, .func (.func F) #[] #[p1, p2]] w (SprPost w f src cost) := by
  have hn := hg.len
  obtain ⟨hn1, hn2, hn3⟩ := hn
  replace hn3 := Lib.hid hn3
  have hmk1 := mk_ints f.ground.length (by omega)
  have hmk2 := mk_bools f.ground.length (by omega)
  have H := Lib.hid h
  have HC := Lib.hid hcost
  replace hc2 := Lib.hid hc2
  have hgg := Lib.hid hg
  have hst := sinv_start f.ground.length src (NB f) cost hsrc
  replace hst := Lib.hid hst
  clear h hcost hg
  unfold fA
  go_enter Tryd.func130, Tryd.ntmps130
  go_wp2_with fail
  have hb1 : Below w.heap.size w (w.alloc (.cells #[.int .i64 f.wide, .int .i64 f.high, .slice s.ground.A f.ground.length s.ground.c, .slice s.ore.A f.ore.length s.ore.c] 52)) := (Below.refl _ _).alloc (Nat.le_refl _) _
  have hk1 := Blk.new w 52 #[.int .i64 f.wide, .int .i64 f.high, .slice s.ground.A f.ground.length s.ground.c, .slice s.ore.A f.ore.length s.ore.c]
  have hs1 : (w.alloc (.cells #[.int .i64 f.wide, .int .i64 f.high, .slice s.ground.A f.ground.length s.ground.c, .slice s.ore.A f.ore.length s.ore.c] 52)).heap.size = w.heap.size + 1 := by simp
  generalize (w.alloc (.cells #[.int .i64 f.wide, .int .i64 f.high, .slice s.ground.A f.ground.length s.ground.c, .slice s.ore.A f.ore.length s.ore.c] 52)) = W1 at *
  have hb2 := hb1.alloc (by omega) (.cells (arrI (List.replicate f.ground.length 0)) 3)
  have hk2 := hk1.alloc (.cells (arrI (List.replicate f.ground.length 0)) 3)
  have hko : Blk (W1.alloc (.cells (arrI (List.replicate f.ground.length 0)) 3)) (w.heap.size + 1) 3 (arrI (List.replicate f.ground.length 0)) := by rw [← hs1]; exact Blk.new W1 _ _
  have hs2 : (W1.alloc (.cells (arrI (List.replicate f.ground.length 0)) 3)).heap.size = w.heap.size + 2 := by simp; omega
  clear hb1 hk1 hmk1
  generalize W1.alloc (.cells (arrI (List.replicate f.ground.length 0)) 3) = W2 at *
  replace hb2 := Lib.hid hb2
  replace hk2 := Lib.hid hk2
  replace hko := Lib.hid hko
  go_loopw [8, 22] (fun _ i wr => ∃ k : Nat, i = .int .i64 k ∧ k ≤ f.ground.length ∧ Blk wr (w.heap.size + 1) 3 (arrI (List.replicate k (-1) ++ List.replicate (f.ground.length - k) 0)) ∧ Below (w.heap.size + 1) W2 wr) (fun _ i _ => f.ground.length - (intOf i).toNat)
  case atStart => exact ⟨0, rfl, Nat.zero_le _, by simpa using hko.out, Below.refl _ _⟩
  case round =>
    obtain ⟨k, rfl, hk, hB, hb⟩ := hrel
    by_cases hlt : k < f.ground.length
    · have hlen : k < (List.replicate k (-1 : Int) ++ List.replicate (f.ground.length - k) 0).length := by simp; omega
      have c0 := hB.atI k hlen
      have f0 := hB.frozen k
      have j1 : (k : Int) < (f.ground.length : Int) := by omega
      have hS := hB.setI k (-1)
      have e1 : (List.replicate k (-1 : Int) ++ List.replicate (f.ground.length - k) 0).set k (-1) = List.replicate (k + 1) (-1) ++ List.replicate (f.ground.length - (k + 1)) 0 := by
        rw [List.set_append, if_neg (by simp)]
        obtain ⟨d, hd⟩ : ∃ d, f.ground.length - k = d + 1 := ⟨f.ground.length - k - 1, by omega⟩
        rw [hd, show f.ground.length - (k + 1) = d by omega, List.length_replicate, Nat.sub_self, List.replicate_succ (n := d), List.set_cons_zero, List.replicate_succ' (n := k), List.append_assoc]
        rfl
      rw [e1] at hS
      have hb' := hb.setCell (p := ⟨w.heap.size + 1, k, none⟩) (Nat.le_refl _) (.int .i64 (-1))
      replace hS := Lib.hid hS
      replace hb' := Lib.hid hb'
      replace hB := Lib.hid hB
      clear e1 hlen
      go_wp2_with fail
      go_roundw
      case rel => exact ⟨k + 1, by go_num, by omega, hS.out, hb'.out⟩
      case measure => simp [intOf]; omega
    · obtain rfl : k = f.ground.length := by omega
      rw [Nat.sub_self, List.replicate_zero, List.append_nil] at hB
      have c0 := hB.atI src (by simpa using hsrc)
      have f0 := hB.frozen src
      have j1 : (src : Int) < (f.ground.length : Int) := by omega
      have hS := hB.setI src 0
      have hb' := hb.setCell (p := ⟨w.heap.size + 1, src, none⟩) (Nat.le_refl _) (.int .i64 0)
      have hsz := hb.size
      have hlo : w.heap.size + 1 < wr.heap.size := hB.lt
      have hkr := (hk2.out.below hb (by omega)).far (p := ⟨w.heap.size + 1, src, none⟩) (by show w.heap.size ≠ w.heap.size + 1; omega) (.int .i64 0)
      have hko3 := hS.alloc (.cells (arrB (List.replicate f.ground.length false)) 4)
      have hkd3 := Blk.new (wr.setCell ⟨w.heap.size + 1, src, none⟩ (.int .i64 0)) 4 (arrB (List.replicate f.ground.length false))
      have hkr3 := hkr.alloc (.cells (arrB (List.replicate f.ground.length false)) 4)
      have hsw : (wr.setCell ⟨w.heap.size + 1, src, none⟩ (.int .i64 0)).heap.size = wr.heap.size := by simp
      rw [hsw] at hkd3
      have hb3 := hb2.out.trans ((hb'.alloc (by omega) (.cells (arrB (List.replicate f.ground.length false)) 4)).mono (Nat.le_succ _))
      replace hB := Lib.hid hB
      replace hko3 := Lib.hid hko3
      replace hkd3 := Lib.hid hkd3
      replace hkr3 := Lib.hid hkr3
      replace hb3 := Lib.hid hb3
      have c0 := c0
      clear hS hb' hkr hsz hb hk2 hko hb2
      go_wp2_with fail
      generalize hgd : wr.heap.size = gd at *
      clear hB c0 f0 hsw
      generalize (wr.setCell ⟨w.heap.size + 1, src, none⟩ (.int .i64 0)).alloc (.cells (arrB (List.replicate f.ground.length false)) 4) = W3 at *
      have hst2 : SpW W3 (w.heap.size + 1) gd f f.ground.length src cost W3 ((List.replicate f.ground.length (-1)).set src 0) (List.replicate f.ground.length false) 0 0 (fun x y => atB (List.replicate f.ground.length false) x = true ∧ NB f x y) :=
        ⟨hst.out.fewer _ (fun x y h => by rw [atB_rep] at h; cases h.1), hko3.out, hkd3.out, hlo, Below.refl _ _⟩
      replace hst2 := Lib.hid hst2
      clear hst hko3 hkd3
      go_loopw [10, 11, 12, 14, 15] (fun _ _ _ _ _ wr => SpRel W3 (w.heap.size + 1) gd f f.ground.length src cost wr) (fun _ _ _ _ _ wr => f.ground.length - trues wr gd)
      case atStart => exact ⟨_, _, _, _, hst2.out⟩
      case round =>
        obtain ⟨out, done, m, M, hSp⟩ := hrel
        clear hst2
        have hlo := hSp.inv.lo_
        have hld := hSp.inv.ld
        have hlo' := Lib.hid hlo
        have hld' := Lib.hid hld
        replace hSp := Lib.hid hSp
        clear hlo hld
        go_wp2_with fail
        go_loop [10, 11, 12, 37] (fun a _ _ i => ∃ (k : Nat) (at_ : Int), i = .int .i64 k ∧ k ≤ f.ground.length ∧ a = .int .i64 at_ ∧ Hid (Sel out done k at_)) (fun _ _ _ i => f.ground.length - (intOf i).toNat)
        case atStart => exact ⟨0, -1, rfl, Nat.zero_le _, rfl, Lib.hid (sel_0 _ _)⟩
        case round =>
          obtain ⟨k, at_, rfl, hk, rfl, hsel⟩ := hrel
          by_cases hlt2 : k < f.ground.length
          · have c1 := hSp.out.bo.atI k (by rw [hlo'.out]; exact hlt2)
            have c2 := hSp.out.bd.atB k (by rw [hld'.out]; exact hlt2)
            have j2 : (k : Int) < (f.ground.length : Int) := by omega
            have hsk := fun h => sel_skip hsel.out h
            have htk := fun h1 h2 => sel_take hsel.out h1 h2
            have hcd : cand out done k ↔ (0 ≤ at0 out k ∧ atB done k = false) := Iff.rfl
            have hs2 := hsel.out
            replace hsk := Lib.hid hsk
            replace htk := Lib.hid htk
            replace hcd := Lib.hid hcd
            by_cases hd : 0 ≤ at0 out k
            · cases hdb : atB done k with
              | true =>
                rw [hdb] at c2
                have hs3 := hsk.out (fun h => by have := (hcd.out.1 h).2; rw [hdb] at this; cases this)
                replace hs3 := Lib.hid hs3
                replace hdb := Lib.hid hdb
                generalize at0 out k = d at *
                have d1 : decide ((0 : Int) ≤ d) = true := by simp; omega
                clear hs2
                go_wp2_with fail
                go_round
                case rel => exact ⟨k + 1, at_, by go_num, by omega, rfl, hs3⟩
                case measure => simp [intOf]; omega
              | false =>
                rw [hdb] at c2
                have hcc := hcd.out.2 ⟨hd, hdb⟩
                replace hdb := Lib.hid hdb
                rcases hs2 with ⟨rfl, hno⟩ | ⟨a, hak, rfl, hca, hmin⟩
                · have hs3 := htk.out hcc (.inl (by omega))
                  replace hs3 := Lib.hid hs3
                  replace hno := Lib.hid hno
                  replace hcc := Lib.hid hcc
                  generalize at0 out k = d at *
                  have d1 : decide ((0 : Int) ≤ d) = true := by simp; omega
                  go_wp2_with fail
                  go_round
                  case rel => exact ⟨k + 1, k, by go_num, by omega, rfl, hs3⟩
                  case measure => simp [intOf]; omega
                · have c3 := hSp.out.bo.atI a (by rw [hlo'.out]; omega)
                  have j3 : (a : Int) < (f.ground.length : Int) := by omega
                  by_cases hcl : at0 out k < at0 out a
                  · have hs3 := htk.out hcc (.inr ⟨a, rfl, hcl⟩)
                    replace hs3 := Lib.hid hs3
                    replace hcc := Lib.hid hcc
                    replace hca := Lib.hid hca
                    replace hmin := Lib.hid hmin
                    generalize at0 out k = d at *
                    generalize at0 out a = da at *
                    have d1 : decide ((0 : Int) ≤ d) = true := by simp; omega
                    have d2 : decide (d < da) = true := by simp; omega
                    go_wp2_with fail
                    go_round
                    case rel => exact ⟨k + 1, k, by go_num, by omega, rfl, hs3⟩
                    case measure => simp [intOf]; omega
                  · have hs3 := hsk.out (fun _ => ⟨a, rfl, by omega⟩)
                    replace hs3 := Lib.hid hs3
                    replace hcc := Lib.hid hcc
                    replace hca := Lib.hid hca
                    replace hmin := Lib.hid hmin
                    generalize at0 out k = d at *
                    generalize at0 out a = da at *
                    have d1 : decide ((0 : Int) ≤ d) = true := by simp; omega
                    have d2 : decide (d < da) = false := by simp; omega
                    go_wp2_with fail
                    go_round
                    case rel => exact ⟨k + 1, a, by go_num, by omega, rfl, hs3⟩
                    case measure => simp [intOf]; omega
            · have hs3 := hsk.out (fun h => absurd (hcd.out.1 h).1 hd)
              replace hs3 := Lib.hid hs3
              generalize at0 out k = d at *
              have d1 : decide ((0 : Int) ≤ d) = false := by simp; omega
              clear hs2
              go_wp2_with fail
              go_round
              case rel => exact ⟨k + 1, at_, by go_num, by omega, rfl, hs3⟩
              case measure => simp [intOf]; omega
          · obtain rfl : k = f.ground.length := by omega
            rcases hsel.out with ⟨rfl, hno⟩ | ⟨a, hak, rfl, hca, hmin⟩
            · have hdist := hSp.out.inv.dist (fun k hk => by
                by_cases h0 : at0 out k < 0
                · exact .inl h0
                · cases hb : atB done k with
                  | true => exact .inr rfl
                  | false => exact absurd ⟨by omega, hb⟩ (hno k hk))
              have hbw := hb3.out.trans (hSp.out.bel.mono (Nat.le_succ _))
              replace hdist := Lib.hid hdist
              replace hbw := Lib.hid hbw
              replace hno := Lib.hid hno
              go_wp2_with fail
              go_ret
              exact ⟨_, out, rfl, hdist.out, Nat.le_succ _, hSp.out.bo, hbw.out⟩
            · have hpk := hSp.out.pick a hak hca hmin
              have c2 := hSp.out.bd.atB a (by rw [hld'.out]; exact hak)
              have f2 := hSp.out.bd.frozen a
              have j3 : (a : Int) < (f.ground.length : Int) := by omega
              have hm := hpk.inv.le
              have hM0 := hpk.inv.m0
              have hup := hSp.out.inv.up a hak
              have htr := trues_blk hSp.out.bd
              have hcn := hSp.out.inv.cnt
              rw [hcn] at htr
              have hkrm : Blk (wr.setCell ⟨gd, a, none⟩ (.bool true)) w.heap.size 52 #[.int .i64 f.wide, .int .i64 f.high, .slice s.ground.A f.ground.length s.ground.c, .slice s.ore.A f.ore.length s.ore.c] :=
                ((hkr3.out.below hSp.out.bel (Nat.lt_succ_self _)).far (p := ⟨gd, a, none⟩) (by show w.heap.size ≠ gd; omega) (.bool true))
              have hbwm := hb3.out.trans (hpk.bel.mono (Nat.le_succ _))
              have hFm := H.out.below hbwm
              have k0 := hkrm.cell 0
              have k1 := hkrm.cell 1
              have k2 := hkrm.cell 2
              have k3 := hkrm.cell 3
              have hsz1 : (wr.setCell ⟨gd, a, none⟩ (.bool true)).heap.size = wr.heap.size := by simp
              have hglt := hpk.bo.lt
              have hgdlt := hpk.bd.lt
              replace hca := Lib.hid hca
              replace hmin := Lib.hid hmin
              replace hpk := Lib.hid hpk
              replace hkrm := Lib.hid hkrm
              replace hFm := Lib.hid hFm
              replace htr := Lib.hid htr
              replace hcn := Lib.hid hcn
              replace hbwm := Lib.hid hbwm
              generalize hMM : at0 out a = MM at *
              replace hMM := Lib.hid hMM
              go_wp2_with fail
              generalize wr.setCell ⟨gd, a, none⟩ (.bool true) = Wm at *
              refine (beside_any s f a Wm hgg.out.wide hgg.out.high ⟨by omega, by rw [← hgg.out.lg]; exact j3⟩).mono ?_
              rintro e W4 ⟨v, rfl, hown, hb4⟩
              obtain ⟨A, cc, rfl, _⟩ := own_slice hown
              have hrow := RD.of_own hown
              have hob := own_block_lt' hown
              have hl4 := besL_len f a
              have hs4 : SpW W3 (w.heap.size + 1) gd f f.ground.length src cost W4 out (done.set a true) (m + 1) MM (RRel f done a 0) := (hpk.out.below hb4).fewer _ (fun x y h => rrel_start x y h)
              replace hs4 := Lib.hid hs4
              replace hrow := Lib.hid hrow
              replace hob := Lib.hid hob
              have hb4s := hb4.size
              replace hown := Lib.hid hown
              replace hb4 := Lib.hid hb4
              clear k0 k1 k2 k3 c2 f2
              go_wp2_with fail
              go_loopw [14, 15, 75] (fun _ _ i wx => RxRel W3 W4 (w.heap.size + 1) gd f f.ground.length src a MM done m cost i wx) (fun _ _ i _ => (besL f a).length - (intOf i).toNat)
              case atStart => exact ⟨0, out, rfl, Nat.zero_le _, hs4, hMM.out, Lib.hid (World.grownBy.refl _ _)⟩
              case round =>
                obtain ⟨j, out2, rfl, hj, hS2, hMa, hg2⟩ := hrel
                by_cases hlt3 : j < (besL f a).length
                · have hsz2 := hg2.out.size
                  have hbm : (besL f a).getD j 0 ∈ besL f a := by
                    rw [List.getD_eq_getElem?_getD, List.getElem?_eq_getElem hlt3]; exact List.getElem_mem _
                  obtain ⟨b, hb⟩ : ∃ b : Nat, (besL f a).getD j 0 = (b : Int) := by
                    have := bes_in f a _ hgg.out.wide.1 (by omega) (by rw [← hgg.out.lg]; omega) hbm
                    exact ⟨((besL f a).getD j 0).toNat, by omega⟩
                  have hnb : NB f a b := by rw [hb] at hbm; exact hbm
                  have hbn := nb_in f hgg.out a b hak hnb
                  obtain ⟨bv, ov, hA, hbv⟩ := hrow.out.addr (by omega)
                  have hcv := hrow.out.at_ hA (j := j) (by omega)
                  rw [List.getElem?_map, List.getElem?_eq_getElem hlt3] at hcv
                  have hgj : (besL f a)[j] = (b : Int) := by rw [← hb, List.getD_eq_getElem?_getD, List.getElem?_eq_getElem hlt3]; rfl
                  rw [hgj] at hcv
                  simp only [Option.map_some] at hcv
                  have hbne : bv ≠ w.heap.size + 1 := by
                    have := (hob.out bv ov hA).1
                    omega
                  have hcv2 : wr.cell? ⟨bv, ov + j, none⟩ = some (.int .i64 (b : Int)) := by
                    rw [World.cell?_of_block (hg2.out.block bv hbv (by simpa using hbne))]; exact hcv
                  subst hA
                  have i1 : (j : Int) < ((besL f a).length : Int) := by omega
                  have hnx := fun x y => rrel_next (f := f) (done := done) (a := a) hb x y
                  have hbelx := hb3.out.trans (hS2.out.bel.mono (Nat.le_succ _))
                  have hcc := hc2.out a b
                  have hda : atB (done.set a true) a = true := by rw [atB_set done a a true (by rw [hld'.out]; exact hak), if_pos rfl]
                  replace hda := Lib.hid hda
                  replace hnx := Lib.hid hnx
                  replace hnb := Lib.hid hnb
                  replace hbelx := Lib.hid hbelx
                  replace hb := Lib.hid hb
                  replace hbm := Lib.hid hbm
                  replace hcv := Lib.hid hcv
                  replace hgj := Lib.hid hgj
                  go_wp2_with (refine (HC.out a b wr hak hbn hbelx.out).mono ?_; rintro e w5 ⟨rfl, hb5⟩)
                  have hS5 := hS2.out.below hb5
                  have hg5 : W4.grownBy w5 (some (w.heap.size + 1)) := grownBy_trans hg2.out (grownBy_of_below hb5)
                  have co := hS5.bo.atI b (by rw [hS5.inv.lo_]; exact hbn)
                  have ca := hS5.bo.atI a (by rw [hS5.inv.lo_]; exact hak)
                  rw [hMa] at ca
                  have fo := hS5.bo.frozen b
                  have hub := hS5.inv.up b hbn
                  have hlb := hS5.inv.low b hbn
                  have hmn := hS5.inv.m0
                  have j5 : (b : Int) < (f.ground.length : Int) := by omega
                  have htl := fun h1 h2 h3 => hS5.tell a b hak hbn hda.out hMa hnb.out h1 h2 h3
                  have hsk := fun h1 => hS5.skip a b hda.out h1
                  rw [hMa] at hsk
                  replace hS5 := Lib.hid hS5
                  replace htl := Lib.hid htl
                  replace hsk := Lib.hid hsk
                  replace hg5 := Lib.hid hg5
                  replace hS2 := Lib.hid hS2
                  clear hb5 hbelx
                  generalize hcost' : cost a b = cst at *
                  replace hcost' := Lib.hid hcost'
                  generalize hob' : at0 out2 b = ob at *
                  replace hob' := Lib.hid hob'
                  have hsta : (b = a → False) → at0 (out2.set b (MM + cst)) a = MM := fun h => by rw [at0_set out2 b a _ (by rw [hS5.out.inv.lo_]; exact hbn), if_neg h]; exact hMa
                  have hba : b = a → ob = MM := fun h => by rw [← hob'.out, ← hMa, h]
                  replace hsta := Lib.hid hsta
                  replace hba := Lib.hid hba
                  replace hMa := Lib.hid hMa
                  have hMb : MM ≤ 600 ∧ 0 ≤ MM := by omega
                  obtain ⟨hMb1, hMb2⟩ := hMb
                  obtain ⟨hcc1, hcc2⟩ := hcc
                  have hsumb : MM + cst ≤ 2 * ((m + 1 : Nat) : Int) := by omega
                  have e1 : IntKind.i64.wrap (MM + cst) = MM + cst := IntWalk.i64_in _ (by omega)
                  have e2 := e1
                  rw [IntWalk.i64_left] at e2
                  replace hub := Lib.hid hub
                  replace hlb := Lib.hid hlb
                  replace hmn := Lib.hid hmn
                  by_cases q1 : 0 < cst
                  · have d1 : decide ((0 : Int) < cst) = true := by simp; omega
                    by_cases q2 : ob < 0
                    · have d2 : decide (ob < 0) = true := by simp; omega
                      have hfin := htl.out q1 hsumb (.inl q2)
                      replace hfin := Lib.hid hfin
                      go_wp2_with fail
                      go_quiet (fail)
                      go_wp2_with fail
                      go_roundw
                      case rel => exact ⟨j + 1, _, by go_num, by omega, Lib.hid ((hfin.out.drewN _).fewer _ (fun x y h => hnx.out x y h)), hsta.out (fun h => by have := hba.out h; omega), Lib.hid (grownBy_trans (grown_drewN hg5.out _) (grownBy_set _ _ _ _))⟩
                      case measure => simp [intOf]; omega
                    · have d2 : decide (ob < 0) = false := by simp; omega
                      by_cases q3 : MM + cst < ob
                      · have d3 : decide (MM + cst < ob) = true := by simp; omega
                        have hfin := htl.out q1 hsumb (.inr q3)
                        replace hfin := Lib.hid hfin
                        go_wp2_with fail
                        go_quiet (fail)
                        go_wp2_with fail
                        go_roundw
                        case rel => exact ⟨j + 1, _, by go_num, by omega, Lib.hid ((hfin.out.drewN _).fewer _ (fun x y h => hnx.out x y h)), hsta.out (fun h => by have := hba.out h; omega), Lib.hid (grownBy_trans (grown_drewN hg5.out _) (grownBy_set _ _ _ _))⟩
                        case measure => simp [intOf]; omega
                      · have d3 : decide (MM + cst < ob) = false := by simp; omega
                        have hfin := hsk.out (fun _ => by omega)
                        replace hfin := Lib.hid hfin
                        go_wp2_with fail
                        go_quiet (fail)
                        go_wp2_with fail
                        go_roundw
                        case rel => exact ⟨j + 1, out2, by go_num, by omega, Lib.hid ((hfin.out.drewN _).fewer _ (fun x y h => hnx.out x y h)), hMa.out, Lib.hid (grown_drewN hg5.out _)⟩
                        case measure => simp [intOf]; omega
                  · have d1 : decide ((0 : Int) < cst) = false := by simp; omega
                    have hfin := hsk.out (fun h => absurd h q1)
                    replace hfin := Lib.hid hfin
                    go_wp2_with fail
                    go_quiet (fail)
                    go_wp2_with fail
                    go_roundw
                    case rel => exact ⟨j + 1, out2, by go_num, by omega, Lib.hid ((hfin.out.drewN _).fewer _ (fun x y h => hnx.out x y h)), hMa.out, Lib.hid (grown_drewN hg5.out _)⟩
                    case measure => simp [intOf]; omega
                · obtain rfl : j = (besL f a).length := by omega
                  have hrs := hS2.out.fewer (fun x y => atB (done.set a true) x = true ∧ NB f x y) (fun x y h => rrel_end (by rw [hld'.out]; exact hak) x y h)
                  have htd := trues_blk hS2.out.bd
                  rw [hS2.out.inv.cnt] at htd
                  replace hrs := Lib.hid hrs
                  replace htd := Lib.hid htd
                  go_wp2_with fail
                  go_roundw
                  case rel => exact ⟨_, _, _, _, hrs.out⟩
                  case measure => rw [htd.out, htr.out]; omega
end Go.Proofs.YtkgkpggfoieioaaDoor
