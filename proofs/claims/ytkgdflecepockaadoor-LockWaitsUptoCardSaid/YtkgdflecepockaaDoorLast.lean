import Derived.Test.YtkgdflecepockaaDoorSort0
namespace Go.Proofs.YtkgdflecepockaaDoor
set_option linter.unusedVariables false
open Go.RowKit Go.Sort
/-- While an order is held against the last one so far: its box, and the row. -/
structure LS (w0 w : World) (blk off : Nat) (L : List Od) (t : Nat → Nat) (W3 gb og cap m : Nat) (x y : Od) (I : List Od) (wS : World) : Prop where
  row : SRow w0 w blk off L t
  bel : Below W3 wS w
  ge : W3 ≤ w.heap.size
  bx : Blk w gb 66 #[.int .i64 x.player, .int .i64 x.unit, .int .i64 x.what, .int .i64 x.arg]
  own : w.ownsRow W3 66 4 (.slice (some ⟨og, 0, none⟩) (m + 1) cap) (m + 1) ((I ++ [y]).flatMap oC)
  hm : I.length = m
section
variable {w0 w w' wS : World} {blk off W3 gb og cap m : Nat} {L : List Od} {t : Nat → Nat} {x y : Od} {I : List Od}
theorem LS.below (h : LS w0 w blk off L t W3 gb og cap m x y I wS) (hb : Below w.heap.size w w') : LS w0 w' blk off L t W3 gb og cap m x y I wS :=
  ⟨h.row.below hb, h.bel.trans (hb.mono h.ge), Nat.le_trans h.ge hb.size, h.bx.below hb h.bx.lt, own_below h.own hb, h.hm⟩
theorem LS.drewN (h : LS w0 w blk off L t W3 gb og cap m x y I wS) (n : Nat) : LS w0 (w.drewN n) blk off L t W3 gb og cap m x y I wS := h.below ⟨rfl, rfl, rfl, Nat.le_refl _, fun _ _ => rfl⟩
theorem LS.rs (h : LS w0 w blk off L t W3 gb og cap m x y I wS) : w.rangeAt gb 0 (oC x) ∧ w.rangeAt og (m * 4) (oC y) :=
  ⟨fun j v hv => by
    rw [Nat.zero_add, h.bx.cell j, ← hv]
    have e : (oC x).toArray[j]? = (oC x)[j]? := by simp
    exact e, (own_there h.hm h.own).1⟩
end
theorem SRow.grownF {w0 w w' : World} {blk off : Nat} {L : List Od} {t : Nat → Nat} {row : Option Nat} (h : SRow w0 w blk off L t) (hg : w.grownBy w' row) (hr : ∀ b, row = some b → w0.heap.size ≤ b) : SRow w0 w' blk off L t := by
  have hl : blk < w.heap.size := Nat.lt_of_lt_of_le h.lt h.g.size
  have hne : some blk ≠ row := fun e => by have := hr blk e.symm; have := h.lt; omega
  have hblk := hg.block blk hl hne
  refine ⟨⟨hg.os.trans h.g.os, hg.tape.trans h.g.tape, hg.output.trans h.g.output, Nat.le_trans h.g.size hg.size, fun k hk hk2 => (hg.block k (Nat.lt_of_lt_of_le hk h.g.size) (fun e => by have := hr k e.symm; omega)).trans (h.g.block k hk hk2)⟩, fun j hj => ?_, h.lt⟩
  obtain ⟨h1, h2⟩ := h.h j hj
  refine ⟨(World.cell?_of_block (a := ⟨blk, off + j, none⟩) hblk).trans h1, ?_⟩
  have h3 : w'.frozen? ⟨blk, off + j, none⟩ = w.frozen? ⟨blk, off + j, none⟩ := by
    unfold World.frozen?
    simp only [hblk]
  exact h3.trans h2
/-- What the loop has so far. -/
def LRel (w2 w3 : World) (g : Nat) (L : List Od) (t : Nat → Nat) (k : Nat) (vo : Value) (wr : World) : Prop :=
  SRow w2 wr g 0 L t ∧ Below w3.heap.size w3 wr ∧ ∃ (oA : Option Addr) (oc : Nat), vo = .slice oA (lastI L t k).length oc ∧ wr.ownsRow w3.heap.size 66 4 (.slice oA (lastI L t k).length oc) (lastI L t k).length (((lastI L t k).map (od L)).flatMap oC)
theorem LRel.app {w2 w3 W w9 : World} {g k n : Nat} {L : List Od} {t : Nat → Nat} {J : List Nat} {v v' : Value} {x : Od} {cs : Array Value} (e : lastI L t (k + 1) = J ++ [t k]) (hx : od L (t k) = x) (hn : J.length = n) (hrow : SRow w2 W g 0 L t)
    (hbr : Below w3.heap.size w3 W) (hsz : w3.heap.size ≤ W.heap.size) (h23 : w2.heap.size ≤ w3.heap.size) {xs : List Value} (hxs : xs = (J.map (od L)).flatMap oC) (how : W.ownsRow w3.heap.size 66 4 v n xs)
    (hown' : w9.ownsRow w3.heap.size 66 4 v' (n + 1) (xs ++ cs.toList)) (hcs : cs.toList = oC x) (hgrow : W.grownBy w9 v.ownBlock) : LRel w2 w3 g L t (k + 1) v' w9 := by
  subst hxs
  have el : (lastI L t (k + 1)).length = n + 1 := by rw [e]; simp [hn]
  have ef : ((lastI L t (k + 1)).map (od L)).flatMap oC = (J.map (od L)).flatMap oC ++ oC x := by rw [e]; simp [hx]
  refine ⟨hrow.grownF hgrow (fun b e => by have := (how.lt b e).1; omega), hbr.grown hgrow hsz (fun b e => (how.lt b e).1), ?_⟩
  obtain ⟨A, c, rfl, _⟩ := own_slice hown'
  rw [hcs] at hown'
  exact ⟨A, c, by rw [el], by rw [el, ef]; exact hown'⟩
theorem LRel.put {w2 w3 W : World} {g k m og oc : Nat} {L : List Od} {t : Nat → Nat} {I0 : List Nat} {x y : Od} (e : lastI L t (k + 1) = I0 ++ [t k]) (hx : od L (t k) = x) (hm : (I0.map (od L)).length = m) (hrow : SRow w2 W g 0 L t)
    (hbr : Below w3.heap.size w3 W) (h23 : w2.heap.size ≤ w3.heap.size) (how : W.ownsRow w3.heap.size 66 4 (.slice (some ⟨og, 0, none⟩) (m + 1) oc) (m + 1) ((I0.map (od L) ++ [y]).flatMap oC)) :
    LRel w2 w3 g L t (k + 1) (.slice (some ⟨og, 0, none⟩) (m + 1) oc) (W.setCells og (m * 4) (oC x)) := by
  have el : (lastI L t (k + 1)).length = m + 1 := by rw [e]; simpa using hm
  have ef : ((lastI L t (k + 1)).map (od L)).flatMap oC = (I0.map (od L) ++ [x]).flatMap oC := by rw [e]; simp [hx]
  obtain ⟨h1, h2⟩ := own_last (x := x) hm how
  have hlt := how.lt og rfl
  refine ⟨hrow.grownF h2 (fun b e => by injection e with e; omega), hbr.grown h2 hbr.size (fun b e => by injection e with e; omega), _, oc, by rw [el], ?_⟩
  rw [el, ef]
  exact h1
def LastPost (w : World) (L : List Od) (e : Ending) (w' : World) : Prop := Below w.heap.size w w' ∧ ∃ (A : Option Addr) (c : Nat) (R : List Od), e = .returned (.tuple #[.slice A R.length c, .nilIface]) ∧ IsLast L R ∧ w'.ownsRow w.heap.size 66 4 (.slice A R.length c) R.length (R.flatMap oC)
set_option maxHeartbeats 6400000 in
set_option maxRecDepth 1000000 in
theorem last_pos (A : Option Addr) (c B : Nat) (L : List Od) (w : World) (h : RO w B A L) (hB : B ≤ w.heap.size) (hnil : A = none → c = 0) (hok : ∀ o ∈ L, OdOk o) (hl : L.length ≤ 60) (hp : 0 < L.length) :
    Calls Tryd.prog 60 #[.slice A L.length c] w (LastPost w L) := by
  obtain ⟨i0, hi0, hz0, hz1, hz2⟩ := info_parts ord_info
  have hE : oErr (ordsE L) = .nilIface := by unfold ordsE; rw [if_neg (by omega), if_pos hok]; rfl
  have hc := ocheck_any A c B L w h hB (by omega)
  rw [hE] at hc
  clear hE
  replace h := Lib.hid h
  replace hnil := Lib.hid hnil
  replace hok := Lib.hid hok
  replace hc := Lib.hid hc
  go_enter Tryd.func60, Tryd.ntmps60
  go_wp2_with fail
  refine hc.out.mono ?_
  clear hc
  rintro e w1 ⟨rfl, hb1⟩
  have hs1 := hb1.size
  replace hb1 := Lib.hid hb1
  go_wp2_with fail
  refine (cloneO_any A L.length c B L w1 rfl hnil.out (by omega) (h.out.below (hb1.out.mono hB)) (by omega)).mono ?_
  rintro e w2 ⟨v, rfl, hown, hb2⟩
  obtain ⟨g, cap, rfl, hge, hgl⟩ := hown.form hp
  have hs2 := hb2.size
  have hb12 := hb1.out.trans (hb2.mono hs1)
  have hsr := srow_of_own rfl hown hp
  replace hb12 := Lib.hid hb12
  replace hsr := Lib.hid hsr
  clear hown hb2 hb1
  go_wp2_with fail
  refine (sortStable_any cap g 0 L w2 w2 hsr.out hok.out hl).mono ?_
  clear hsr
  rintro e w3 ⟨rfl, t, hrow, hst⟩
  have hs3 := hrow.g.size
  have hb3 : Below w.heap.size w w3 := hb12.out.grown hrow.g (by omega) (fun b e => by injection e; omega)
  have hgl3 := hrow.lt
  replace hrow := Lib.hid hrow
  replace hst := Lib.hid hst
  replace hb3 := Lib.hid hb3
  clear hb12
  go_wp2_with fail
  have h23 := hrow.out.g.size
  go_loopw [5, 7, 8, 20] (fun vo _ _ vk wr => ∃ k : Nat, vk = .int .i64 k ∧ k ≤ L.length ∧ Hid (LRel w2 w3 g L t k vo wr)) (fun _ _ _ vk _ => L.length - (intOf vk).toNat)
  case atStart => exact ⟨0, rfl, Nat.zero_le _, Lib.hid ⟨hrow.out, Below.refl _ _, none, 0, rfl, World.ownsRow_nil _ _ _ _⟩⟩
  case round =>
    clear hrow
    obtain ⟨k, rfl, hk, hR⟩ := hrel
    obtain ⟨hrow, hbr, oA, oc, rfl, hown⟩ := hR.out
    clear hR
    replace hrow := Lib.hid hrow
    replace hbr := Lib.hid hbr
    replace hown := Lib.hid hown
    have hlen := lastI_len L t k
    by_cases hlt : k < L.length
    · have z1 : (k : Int) < (L.length : Int) := by omega
      have hs4 := hbr.out.size
      obtain ⟨⟨c0, c1, c2, c3⟩, _⟩ := hrow.out.cells hlt
      simp only [Nat.zero_add] at c0 c1 c2 c3
      obtain ⟨x, hx⟩ : ∃ x, od L (t k) = x := ⟨_, rfl⟩
      rw [hx] at c0 c1 c2 c3
      have hrowA : SRow w2 (wr.alloc (.cells #[.int .i64 x.player, .int .i64 x.unit, .int .i64 x.what, .int .i64 x.arg] 66)) g 0 L t := hrow.out.below ((Below.refl _ _).alloc (Nat.le_refl _) _)
      have hbrA : Below w3.heap.size w3 (wr.alloc (.cells #[.int .i64 x.player, .int .i64 x.unit, .int .i64 x.what, .int .i64 x.arg] 66)) := hbr.out.alloc hs4 _
      have hownA : (wr.alloc (.cells #[.int .i64 x.player, .int .i64 x.unit, .int .i64 x.what, .int .i64 x.arg] 66)).ownsRow w3.heap.size 66 4 (.slice oA (lastI L t k).length oc) (lastI L t k).length (((lastI L t k).map (od L)).flatMap oC) := hown.out.alloc _
      have hbxA := Blk.new wr 66 #[.int .i64 x.player, .int .i64 x.unit, .int .i64 x.what, .int .i64 x.arg]
      replace hx := Lib.hid hx
      replace hrowA := Lib.hid hrowA
      replace hbrA := Lib.hid hbrA
      replace hownA := Lib.hid hownA
      replace hbxA := Lib.hid hbxA
      clear hrow hbr hown
      go_upto_region 10 with fail
      clear c0 c1 c2 c3
      have hsA : w3.heap.size ≤ (wr.alloc (.cells #[.int .i64 x.player, .int .i64 x.unit, .int .i64 x.what, .int .i64 x.arg] 66)).heap.size := hbrA.out.size
      replace hsA := Lib.hid hsA
      generalize (wr.alloc (.cells #[.int .i64 x.player, .int .i64 x.unit, .int .i64 x.what, .int .i64 x.arg] 66)) = wa at *
      generalize wr.heap.size = gb at *
      rcases Nat.eq_zero_or_pos k with hk0 | hk0
      · as_aux_lemma =>
        have hst2 : lastI L t (k + 1) = [] ++ [t k] := by rw [hk0]; rfl
        have hJ : lastI L t k = [] := by rw [hk0]; rfl
        have hoE : wa.ownsRow w3.heap.size 66 4 (.slice oA 0 oc) 0 (([] : List Od).flatMap oC) := by have h := hownA.out; rw [hJ] at h; exact h
        rw [hJ]
        rw [show ([] : List Nat).length = 0 from rfl]
        have hbx := Lib.hid (hbxA.out.drewN 1)
        have hrow := Lib.hid (hrowA.out.drewN 1)
        have hbr := Lib.hid (bdrewN hbrA.out 1)
        have how : Hid ((wa.drewN 1).ownsRow w3.heap.size 66 4 (.slice oA 0 oc) 0 (([] : List Od).flatMap oC)) := Lib.hid hoE
        have hsz := Lib.hid (show w3.heap.size ≤ (wa.drewN 1).heap.size from hsA.out)
        replace hst2 := Lib.hid hst2
        replace hk0 := Lib.hid hk0
        clear hownA hrowA hbrA hbxA hoE hsA hJ hlen
        have dd : decide ((0 : Int) ≤ -1) = false := by decide
        go_wp2_with fail
        go_big_region
        have wdd : wa.drew = wa.drewN 1 := rfl
        rw [wdd]
        clear wdd
        generalize wa.drewN 1 = W at *
        have b0 := hbx.out.cell 0
        have b1 := hbx.out.cell 1
        have b2 := hbx.out.cell 2
        have b3 := hbx.out.cell 3
        have bl := hbx.out.lt
        have i32 := hsz.out
        go_wp2_with (at_builtin; refine wpList_app1 rfl (.tmp 47) (.tmp 49) 55 rfl w3.heap.size 66 i0 _ 4 32 Tryd.underlying55 hi0 hz0 hz1 hz2 rfl (by decide) (by decide) W #[.int .i64 x.player, .int .i64 x.unit, .int .i64 x.what, .int .i64 x.arg] (.slice oA 0 oc) (0) _ rfl how.out rfl rfl rfl (by omega) i32 ?_; intro v' w9 hown' hgrow)
        have hR9 : LRel w2 w3 g L t (k + 1) v' w9 := LRel.app (J := []) hst2.out hx.out rfl hrow.out hbr.out i32 h23 rfl how.out hown' rfl hgrow
        replace hR9 := Lib.hid hR9
        clear b0 b1 b2 b3 bl i32 hown' hgrow how hst2 hbx hrow hbr hsz
        go_wp2_with fail
        go_roundw
        case rel => exact ⟨k + 1, by go_num, by omega, hR9⟩
        case measure => simp [intOf]; (try omega)
      · obtain ⟨I0, hI0⟩ := lastI_last L t k hk0
        obtain ⟨m, hm⟩ : ∃ m, I0.length = m := ⟨_, rfl⟩
        obtain ⟨y, hy⟩ : ∃ y, od L (t (k - 1)) = y := ⟨_, rfl⟩
        have hl1 : (lastI L t k).length = m + 1 := by rw [hI0]; simp [hm]
        have hmb : m + 1 ≤ k := by rw [← hl1]; exact hlen
        have hownB : wa.ownsRow w3.heap.size 66 4 (.slice oA (m + 1) oc) (m + 1) ((I0.map (od L) ++ [y]).flatMap oC) := by
          have h := hownA.out
          rw [hl1, hI0, List.map_append, List.map_singleton, hy] at h
          exact h
        obtain ⟨og, ocap, hform, _⟩ := hownB.form (by omega)
        injection hform with hf1 hf2 hf3
        subst hf1
        clear hf2 hf3
        have hL : Hid (LS w2 wa g 0 L t w3.heap.size gb og oc m x y (I0.map (od L)) w3) := Lib.hid ⟨hrowA.out, hbrA.out, hsA.out, hbxA.out, hownB, by simp [hm]⟩
        have hnx : lastI L t (k + 1) = (if 0 < k ∧ rst (od L (t k)) = 1 ∧ okey (od L (t (k - 1))) = okey (od L (t k)) then (lastI L t k).dropLast else lastI L t k) ++ [t k] := rfl
        have hxy : plc y x = 0 ↔ okey y = okey x := plc_eq (by rw [← hy]; exact hok.out _ (od_mem (hst.out.lt _ (by omega)))) (by rw [← hx.out]; exact hok.out _ (od_mem (hst.out.lt _ hlt)))
        rw [hx.out, hy] at hnx
        rw [hl1]
        have d1 : decide ((0 : Int) ≤ (m : Int)) = true := by simp
        have d2 : (m : Int) < (m : Int) + 1 := by omega
        have d3 : m < m + 1 := by omega
        have d4 : (m : Int) + 1 - 1 = (m : Int) := by omega
        have d5 : ((m + 1 : Nat) : Int) - 1 = (m : Int) := by omega
        replace d4 := Lib.hid d4
        replace hI0 := Lib.hid hI0
        replace hy := Lib.hid hy
        replace hl1 := Lib.hid hl1
        replace d5 := Lib.hid d5
        clear hrowA hbrA hsA hbxA hownA hownB hlen
        rcases rst_01 x with hr | hr
        · as_aux_lemma =>
          have r0 : (rst x == 1) = false := by rw [hr]; rfl
          have hst2 : lastI L t (k + 1) = (I0 ++ [t (k - 1)]) ++ [t k] := by rw [hnx, if_neg (by omega), hI0.out]
          replace hst2 := Lib.hid hst2
          replace hxy := Lib.hid hxy
          clear hnx hr
          go_upto_region 11 with fail
          refine wp_region_noPanic ?_
          refine wp_region_held_drew (S := fun w' => w'.rangeAt gb 0 (oC x) ∧ w'.rangeAt og (m * 4) (oC y)) (by kernel_rfl) (LS.drewN hL.out 1).rs (fun _ => ?_)
          have hH0 := Lib.hid (LS.drewN hL.out 1)
          refine wpAnyH_take (i := 0) (oi := _) (v := ?_) rfl (by kernel_rfl) (by kernel_rfl) (by kernel_rfl) (fun _ _ _ h => h) (Or.inl ⟨by rfl, ?_⟩) hH0.out.rs ?_
          rotate_left
          · intro w' hSw
            clear hSw
            first | (go_simp; done) | (go_simp; with_reducible rfl)
          try simp only [Act.put]
          try simp only [List.setIfInBounds_toArray]
          try simp only [List.set_cons_succ, List.set_cons_zero]
          try simp only [List.getElem_toArray]
          try simp only [List.getElem_cons_succ]
          try simp only [List.getElem_cons_zero]
          refine wpAnyH_take (i := 1) (oi := _) (v := ?_) rfl (by kernel_rfl) (by kernel_rfl) (by kernel_rfl) (fun _ _ _ h => h) (Or.inl ⟨by rfl, ?_⟩) hH0.out.rs ?_
          rotate_left
          · intro w' hSw
            clear hSw
            first | (go_simp; done) | (go_simp; with_reducible rfl)
          try simp only [Act.put]
          try simp only [List.setIfInBounds_toArray]
          try simp only [List.set_cons_succ, List.set_cons_zero]
          try simp only [List.getElem_toArray]
          try simp only [List.getElem_cons_succ]
          try simp only [List.getElem_cons_zero]
          refine wpAnyH_take (i := 2) (oi := _) (v := ?_) rfl (by kernel_rfl) (by kernel_rfl) (by kernel_rfl) (fun _ _ _ h => h) (Or.inl ⟨by rfl, ?_⟩) hH0.out.rs ?_
          rotate_left
          · intro w' hSw
            clear hSw
            first | (go_simp; done) | (go_simp; with_reducible rfl)
          try simp only [Act.put]
          try simp only [List.setIfInBounds_toArray]
          try simp only [List.set_cons_succ, List.set_cons_zero]
          try simp only [List.getElem_toArray]
          try simp only [List.getElem_cons_succ]
          try simp only [List.getElem_cons_zero]
          refine wpAnyH_take (i := 3) (oi := _) (v := .agg (oC x).toArray) rfl (by kernel_rfl) (by kernel_rfl) (by kernel_rfl) (fun _ _ _ h => h) (yieldsIf_load_mid (by rfl) 66 (.tmp 7) (by rfl) gb (0) (by rfl) (oC x) _ (fun w' hw' => hw'.1) Tryd.underlying66 rfl ord_size) hH0.out.rs ?_
          try simp only [Act.put]
          try simp only [List.setIfInBounds_toArray]
          try simp only [List.set_cons_succ, List.set_cons_zero]
          try simp only [List.getElem_toArray]
          try simp only [List.getElem_cons_succ]
          try simp only [List.getElem_cons_zero]
          refine wpAnyH_ready (rs := [4]) (by kernel_rfl) (by simp) ?_
          refine AllReadyH.cons (o := { dst := some 31, op := .call { callee := .value (.func 77), args := #[.tmp 30], argTypes := _ }, type := _, pos := _, after := _, guard := some (2, true) }) rfl (fun K hK => ?_) AllReadyH.nil
          go_simp
          refine (rest_any x _).mono ?_
          rintro e w1 ⟨rfl, hb1⟩
          have hH1 := LS.below hH0.out hb1
          clear hb1
          go_wp2_with fail
          refine hK.out _ _ hH1.rs (fun hHeld => ?_)
          clear hK K hHeld
          replace hH1 := Lib.hid hH1
          try simp only [Act.put]
          try simp only [List.setIfInBounds_toArray]
          try simp only [List.set_cons_succ, List.set_cons_zero]
          try simp only [List.getElem_toArray]
          try simp only [List.getElem_cons_succ]
          try simp only [List.getElem_cons_zero]
          refine wpAnyH_take (i := 5) (oi := _) (v := ?_) rfl (by kernel_rfl) (by kernel_rfl) (by kernel_rfl) (fun _ _ _ h => h) (Or.inl ⟨by rfl, ?_⟩) hH1.out.rs ?_
          rotate_left
          · intro w' hSw
            clear hSw
            first | (go_simp; done) | (go_simp; with_reducible rfl)
          try simp only [Act.put]
          try simp only [List.setIfInBounds_toArray]
          try simp only [List.set_cons_succ, List.set_cons_zero]
          try simp only [List.getElem_toArray]
          try simp only [List.getElem_cons_succ]
          try simp only [List.getElem_cons_zero]
          refine wpAnyH_take (i := 6) (oi := _) (v := ?_) rfl (by kernel_rfl) (by kernel_rfl) (by kernel_rfl) (fun _ _ _ h => h) (Or.inl ⟨by rfl, ?_⟩) hH1.out.rs ?_
          rotate_left
          · intro w' hSw
            clear hSw
            first | (go_simp; done) | (go_simp; with_reducible rfl)
          try simp only [Act.put]
          try simp only [List.setIfInBounds_toArray]
          try simp only [List.set_cons_succ, List.set_cons_zero]
          try simp only [List.getElem_toArray]
          try simp only [List.getElem_cons_succ]
          try simp only [List.getElem_cons_zero]
          refine wpAnyH_take (i := 7) (oi := _) (v := ?_) rfl (by kernel_rfl) (by kernel_rfl) (by kernel_rfl) (fun _ _ _ h => h) (Or.inl ⟨by rfl, ?_⟩) hH1.out.rs ?_
          rotate_left
          · intro w' hSw
            clear hSw
            first | (go_simp; done) | (go_simp; with_reducible rfl)
          try simp only [Act.put]
          try simp only [List.setIfInBounds_toArray]
          try simp only [List.set_cons_succ, List.set_cons_zero]
          try simp only [List.getElem_toArray]
          try simp only [List.getElem_cons_succ]
          try simp only [List.getElem_cons_zero]
          refine wpAnyH_take (i := 8) (oi := _) (v := undef) rfl (by kernel_rfl) (by kernel_rfl) (by kernel_rfl) (fun _ _ _ h => h) (Or.inr ⟨by rfl, rfl⟩) hH1.out.rs ?_
          try simp only [Act.put]
          try simp only [List.setIfInBounds_toArray]
          try simp only [List.set_cons_succ, List.set_cons_zero]
          try simp only [List.getElem_toArray]
          try simp only [List.getElem_cons_succ]
          try simp only [List.getElem_cons_zero]
          refine wpAnyH_take (i := 9) (oi := _) (v := undef) rfl (by kernel_rfl) (by kernel_rfl) (by kernel_rfl) (fun _ _ _ h => h) (Or.inr ⟨by rfl, rfl⟩) hH1.out.rs ?_
          try simp only [Act.put]
          try simp only [List.setIfInBounds_toArray]
          try simp only [List.set_cons_succ, List.set_cons_zero]
          try simp only [List.getElem_toArray]
          try simp only [List.getElem_cons_succ]
          try simp only [List.getElem_cons_zero]
          refine wpAnyH_take (i := 10) (oi := _) (v := undef) rfl (by kernel_rfl) (by kernel_rfl) (by kernel_rfl) (fun _ _ _ h => h) (Or.inr ⟨by rfl, rfl⟩) hH1.out.rs ?_
          try simp only [Act.put]
          try simp only [List.setIfInBounds_toArray]
          try simp only [List.set_cons_succ, List.set_cons_zero]
          try simp only [List.getElem_toArray]
          try simp only [List.getElem_cons_succ]
          try simp only [List.getElem_cons_zero]
          refine wpAnyH_take (i := 11) (oi := _) (v := undef) rfl (by kernel_rfl) (by kernel_rfl) (by kernel_rfl) (fun _ _ _ h => h) (Or.inr ⟨by rfl, rfl⟩) hH1.out.rs ?_
          try simp only [Act.put]
          try simp only [List.setIfInBounds_toArray]
          try simp only [List.set_cons_succ, List.set_cons_zero]
          try simp only [List.getElem_toArray]
          try simp only [List.getElem_cons_succ]
          try simp only [List.getElem_cons_zero]
          refine wpAnyH_take (i := 12) (oi := _) (v := undef) rfl (by kernel_rfl) (by kernel_rfl) (by kernel_rfl) (fun _ _ _ h => h) (Or.inr ⟨by rfl, rfl⟩) hH1.out.rs ?_
          try simp only [Act.put]
          try simp only [List.setIfInBounds_toArray]
          try simp only [List.set_cons_succ, List.set_cons_zero]
          try simp only [List.getElem_toArray]
          try simp only [List.getElem_cons_succ]
          try simp only [List.getElem_cons_zero]
          refine wpAnyH_take (i := 13) (oi := _) (v := undef) rfl (by kernel_rfl) (by kernel_rfl) (by kernel_rfl) (fun _ _ _ h => h) (Or.inr ⟨by rfl, rfl⟩) hH1.out.rs ?_
          try simp only [Act.put]
          try simp only [List.setIfInBounds_toArray]
          try simp only [List.set_cons_succ, List.set_cons_zero]
          try simp only [List.getElem_toArray]
          try simp only [List.getElem_cons_succ]
          try simp only [List.getElem_cons_zero]
          refine wpAnyH_take (i := 14) (oi := _) (v := undef) rfl (by kernel_rfl) (by kernel_rfl) (by kernel_rfl) (fun _ _ _ h => h) (Or.inr ⟨by rfl, rfl⟩) hH1.out.rs ?_
          try simp only [Act.put]
          try simp only [List.setIfInBounds_toArray]
          try simp only [List.set_cons_succ, List.set_cons_zero]
          try simp only [List.getElem_toArray]
          try simp only [List.getElem_cons_succ]
          try simp only [List.getElem_cons_zero]
          refine wpAnyH_take (i := 15) (oi := _) (v := ?_) rfl (by kernel_rfl) (by kernel_rfl) (by kernel_rfl) (fun _ _ _ h => h) (Or.inl ⟨by rfl, ?_⟩) hH1.out.rs ?_
          rotate_left
          · intro w' hSw
            clear hSw
            first | (go_simp; done) | (go_simp; with_reducible rfl)
          try simp only [Act.put]
          try simp only [List.setIfInBounds_toArray]
          try simp only [List.set_cons_succ, List.set_cons_zero]
          try simp only [List.getElem_toArray]
          try simp only [List.getElem_cons_succ]
          try simp only [List.getElem_cons_zero]
          refine wpAnyH_done (by kernel_rfl) ?_ _
          refine NoPanic.normal ?_
          have hbx := Lib.hid hH1.out.bx
          have hrow := Lib.hid hH1.out.row
          have hbr := Lib.hid hH1.out.bel
          have how := Lib.hid hH1.out.own
          have hsz := Lib.hid hH1.out.ge
          clear hH1 hH0 hL
          generalize w1 = W at *
          have b0 := hbx.out.cell 0
          have b1 := hbx.out.cell 1
          have b2 := hbx.out.cell 2
          have b3 := hbx.out.cell 3
          have bl := hbx.out.lt
          have i32 := hsz.out
          go_wp2_with (at_builtin; refine wpList_app1 rfl (.tmp 47) (.tmp 49) 55 rfl w3.heap.size 66 i0 _ 4 32 Tryd.underlying55 hi0 hz0 hz1 hz2 rfl (by decide) (by decide) W #[.int .i64 x.player, .int .i64 x.unit, .int .i64 x.what, .int .i64 x.arg] (.slice (some ⟨og, 0, none⟩) (m + 1) oc) (m + 1) _ rfl how.out rfl rfl rfl (by omega) i32 ?_; intro v' w9 hown' hgrow)
          have hR9 : LRel w2 w3 g L t (k + 1) v' w9 := LRel.app (J := (I0 ++ [t (k - 1)])) hst2.out hx.out (by simp [hm]) hrow.out hbr.out i32 h23 (by simp [hy.out]) how.out hown' rfl hgrow
          replace hR9 := Lib.hid hR9
          clear b0 b1 b2 b3 bl i32 hown' hgrow how hst2 hbx hrow hbr hsz
          go_wp2_with fail
          go_roundw
          case rel => exact ⟨k + 1, by go_num, by omega, hR9⟩
          case measure => simp [intOf]; (try omega)
        · by_cases hp : plc y x = 0
          · as_aux_lemma =>
            have r0 : (rst x == 1) = true := by rw [hr]; rfl
            have p0 : (plc y x == 0) = true := by rw [hp]; rfl
            have hst2 : lastI L t (k + 1) = I0 ++ [t k] := by rw [hnx, if_pos ⟨hk0, hr, hxy.1 hp⟩, hI0.out]; simp
            replace hst2 := Lib.hid hst2
            replace hxy := Lib.hid hxy
            clear hnx hr hp
            go_upto_region 11 with fail
            refine wp_region_noPanic ?_
            refine wp_region_held_drew (S := fun w' => w'.rangeAt gb 0 (oC x) ∧ w'.rangeAt og (m * 4) (oC y)) (by kernel_rfl) (LS.drewN hL.out 1).rs (fun _ => ?_)
            have hH0 := Lib.hid (LS.drewN hL.out 1)
            refine wpAnyH_take (i := 0) (oi := _) (v := ?_) rfl (by kernel_rfl) (by kernel_rfl) (by kernel_rfl) (fun _ _ _ h => h) (Or.inl ⟨by rfl, ?_⟩) hH0.out.rs ?_
            rotate_left
            · intro w' hSw
              clear hSw
              first | (go_simp; done) | (go_simp; with_reducible rfl)
            try simp only [Act.put]
            try simp only [List.setIfInBounds_toArray]
            try simp only [List.set_cons_succ, List.set_cons_zero]
            try simp only [List.getElem_toArray]
            try simp only [List.getElem_cons_succ]
            try simp only [List.getElem_cons_zero]
            refine wpAnyH_take (i := 1) (oi := _) (v := ?_) rfl (by kernel_rfl) (by kernel_rfl) (by kernel_rfl) (fun _ _ _ h => h) (Or.inl ⟨by rfl, ?_⟩) hH0.out.rs ?_
            rotate_left
            · intro w' hSw
              clear hSw
              first | (go_simp; done) | (go_simp; with_reducible rfl)
            try simp only [Act.put]
            try simp only [List.setIfInBounds_toArray]
            try simp only [List.set_cons_succ, List.set_cons_zero]
            try simp only [List.getElem_toArray]
            try simp only [List.getElem_cons_succ]
            try simp only [List.getElem_cons_zero]
            refine wpAnyH_take (i := 2) (oi := _) (v := ?_) rfl (by kernel_rfl) (by kernel_rfl) (by kernel_rfl) (fun _ _ _ h => h) (Or.inl ⟨by rfl, ?_⟩) hH0.out.rs ?_
            rotate_left
            · intro w' hSw
              clear hSw
              first | (go_simp; done) | (go_simp; with_reducible rfl)
            try simp only [Act.put]
            try simp only [List.setIfInBounds_toArray]
            try simp only [List.set_cons_succ, List.set_cons_zero]
            try simp only [List.getElem_toArray]
            try simp only [List.getElem_cons_succ]
            try simp only [List.getElem_cons_zero]
            refine wpAnyH_take (i := 3) (oi := _) (v := .agg (oC x).toArray) rfl (by kernel_rfl) (by kernel_rfl) (by kernel_rfl) (fun _ _ _ h => h) (yieldsIf_load_mid (by rfl) 66 (.tmp 7) (by rfl) gb (0) (by rfl) (oC x) _ (fun w' hw' => hw'.1) Tryd.underlying66 rfl ord_size) hH0.out.rs ?_
            try simp only [Act.put]
            try simp only [List.setIfInBounds_toArray]
            try simp only [List.set_cons_succ, List.set_cons_zero]
            try simp only [List.getElem_toArray]
            try simp only [List.getElem_cons_succ]
            try simp only [List.getElem_cons_zero]
            refine wpAnyH_ready (rs := [4]) (by kernel_rfl) (by simp) ?_
            refine AllReadyH.cons (o := { dst := some 31, op := .call { callee := .value (.func 77), args := #[.tmp 30], argTypes := _ }, type := _, pos := _, after := _, guard := some (2, true) }) rfl (fun K hK => ?_) AllReadyH.nil
            go_simp
            refine (rest_any x _).mono ?_
            rintro e w1 ⟨rfl, hb1⟩
            have hH1 := LS.below hH0.out hb1
            clear hb1
            go_wp2_with fail
            refine hK.out _ _ hH1.rs (fun hHeld => ?_)
            clear hK K hHeld
            replace hH1 := Lib.hid hH1
            try simp only [Act.put]
            try simp only [List.setIfInBounds_toArray]
            try simp only [List.set_cons_succ, List.set_cons_zero]
            try simp only [List.getElem_toArray]
            try simp only [List.getElem_cons_succ]
            try simp only [List.getElem_cons_zero]
            refine wpAnyH_take (i := 5) (oi := _) (v := ?_) rfl (by kernel_rfl) (by kernel_rfl) (by kernel_rfl) (fun _ _ _ h => h) (Or.inl ⟨by rfl, ?_⟩) hH1.out.rs ?_
            rotate_left
            · intro w' hSw
              clear hSw
              first | (go_simp; done) | (go_simp; with_reducible rfl)
            try simp only [Act.put]
            try simp only [List.setIfInBounds_toArray]
            try simp only [List.set_cons_succ, List.set_cons_zero]
            try simp only [List.getElem_toArray]
            try simp only [List.getElem_cons_succ]
            try simp only [List.getElem_cons_zero]
            refine wpAnyH_take (i := 6) (oi := _) (v := ?_) rfl (by kernel_rfl) (by kernel_rfl) (by kernel_rfl) (fun _ _ _ h => h) (Or.inl ⟨by rfl, ?_⟩) hH1.out.rs ?_
            rotate_left
            · intro w' hSw
              clear hSw
              first | (go_simp; done) | (go_simp; with_reducible rfl)
            try simp only [Act.put]
            try simp only [List.setIfInBounds_toArray]
            try simp only [List.set_cons_succ, List.set_cons_zero]
            try simp only [List.getElem_toArray]
            try simp only [List.getElem_cons_succ]
            try simp only [List.getElem_cons_zero]
            refine wpAnyH_take (i := 7) (oi := _) (v := ?_) rfl (by kernel_rfl) (by kernel_rfl) (by kernel_rfl) (fun _ _ _ h => h) (Or.inl ⟨by rfl, ?_⟩) hH1.out.rs ?_
            rotate_left
            · intro w' hSw
              clear hSw
              first | (go_simp; done) | (go_simp; with_reducible rfl)
            try simp only [Act.put]
            try simp only [List.setIfInBounds_toArray]
            try simp only [List.set_cons_succ, List.set_cons_zero]
            try simp only [List.getElem_toArray]
            try simp only [List.getElem_cons_succ]
            try simp only [List.getElem_cons_zero]
            refine wpAnyH_take (i := 8) (oi := _) (v := ?_) rfl (by kernel_rfl) (by kernel_rfl) (by kernel_rfl) (fun _ _ _ h => h) (Or.inl ⟨by rfl, ?_⟩) hH1.out.rs ?_
            rotate_left
            · intro w' hSw
              clear hSw
              first | (go_simp; done) | (go_simp; with_reducible rfl)
            try simp only [Act.put]
            try simp only [List.setIfInBounds_toArray]
            try simp only [List.set_cons_succ, List.set_cons_zero]
            try simp only [List.getElem_toArray]
            try simp only [List.getElem_cons_succ]
            try simp only [List.getElem_cons_zero]
            refine wpAnyH_take (i := 9) (oi := _) (v := ?_) rfl (by kernel_rfl) (by kernel_rfl) (by kernel_rfl) (fun _ _ _ h => h) (Or.inl ⟨by rfl, ?_⟩) hH1.out.rs ?_
            rotate_left
            · intro w' hSw
              clear hSw
              first | (go_simp; done) | (go_simp; with_reducible rfl)
            try simp only [Act.put]
            try simp only [List.setIfInBounds_toArray]
            try simp only [List.set_cons_succ, List.set_cons_zero]
            try simp only [List.getElem_toArray]
            try simp only [List.getElem_cons_succ]
            try simp only [List.getElem_cons_zero]
            refine wpAnyH_take (i := 10) (oi := _) (v := ?_) rfl (by kernel_rfl) (by kernel_rfl) (by kernel_rfl) (fun _ _ _ h => h) (Or.inl ⟨by rfl, ?_⟩) hH1.out.rs ?_
            rotate_left
            · intro w' hSw
              clear hSw
              first | (go_simp; done) | (go_simp; with_reducible rfl)
            try simp only [Act.put]
            try simp only [List.setIfInBounds_toArray]
            try simp only [List.set_cons_succ, List.set_cons_zero]
            try simp only [List.getElem_toArray]
            try simp only [List.getElem_cons_succ]
            try simp only [List.getElem_cons_zero]
            refine wpAnyH_take (i := 11) (oi := _) (v := .agg (oC y).toArray) rfl (by kernel_rfl) (by kernel_rfl) (by kernel_rfl) (fun _ _ _ h => h) (yieldsIf_load_mid (by rfl) 66 (.tmp 37) (by rfl) og (m * 4) (by rfl) (oC y) _ (fun w' hw' => hw'.2) Tryd.underlying66 rfl ord_size) hH1.out.rs ?_
            try simp only [Act.put]
            try simp only [List.setIfInBounds_toArray]
            try simp only [List.set_cons_succ, List.set_cons_zero]
            try simp only [List.getElem_toArray]
            try simp only [List.getElem_cons_succ]
            try simp only [List.getElem_cons_zero]
            refine wpAnyH_take (i := 12) (oi := _) (v := .agg (oC x).toArray) rfl (by kernel_rfl) (by kernel_rfl) (by kernel_rfl) (fun _ _ _ h => h) (yieldsIf_load_mid (by rfl) 66 (.tmp 7) (by rfl) gb (0) (by rfl) (oC x) _ (fun w' hw' => hw'.1) Tryd.underlying66 rfl ord_size) hH1.out.rs ?_
            try simp only [Act.put]
            try simp only [List.setIfInBounds_toArray]
            try simp only [List.set_cons_succ, List.set_cons_zero]
            try simp only [List.getElem_toArray]
            try simp only [List.getElem_cons_succ]
            try simp only [List.getElem_cons_zero]
            refine wpAnyH_ready (rs := [13]) (by kernel_rfl) (by simp) ?_
            refine AllReadyH.cons (o := { dst := some 40, op := .call { callee := .value (.func 76), args := #[.tmp 38, .tmp 39], argTypes := _ }, type := _, pos := _, after := _, guard := some (7, true) }) rfl (fun K hK => ?_) AllReadyH.nil
            go_simp
            refine (place_any y x _).mono ?_
            rintro e w1_1 ⟨rfl, hb1⟩
            have hH2 := LS.below hH1.out hb1
            clear hb1
            go_wp2_with fail
            refine hK.out _ _ hH2.rs (fun hHeld => ?_)
            clear hK K hHeld
            replace hH2 := Lib.hid hH2
            try simp only [Act.put]
            try simp only [List.setIfInBounds_toArray]
            try simp only [List.set_cons_succ, List.set_cons_zero]
            try simp only [List.getElem_toArray]
            try simp only [List.getElem_cons_succ]
            try simp only [List.getElem_cons_zero]
            refine wpAnyH_take (i := 14) (oi := _) (v := ?_) rfl (by kernel_rfl) (by kernel_rfl) (by kernel_rfl) (fun _ _ _ h => h) (Or.inl ⟨by rfl, ?_⟩) hH2.out.rs ?_
            rotate_left
            · intro w' hSw
              clear hSw
              first | (go_simp; done) | (go_simp; with_reducible rfl)
            try simp only [Act.put]
            try simp only [List.setIfInBounds_toArray]
            try simp only [List.set_cons_succ, List.set_cons_zero]
            try simp only [List.getElem_toArray]
            try simp only [List.getElem_cons_succ]
            try simp only [List.getElem_cons_zero]
            refine wpAnyH_take (i := 15) (oi := _) (v := ?_) rfl (by kernel_rfl) (by kernel_rfl) (by kernel_rfl) (fun _ _ _ h => h) (Or.inl ⟨by rfl, ?_⟩) hH2.out.rs ?_
            rotate_left
            · intro w' hSw
              clear hSw
              first | (go_simp; done) | (go_simp; with_reducible rfl)
            try simp only [Act.put]
            try simp only [List.setIfInBounds_toArray]
            try simp only [List.set_cons_succ, List.set_cons_zero]
            try simp only [List.getElem_toArray]
            try simp only [List.getElem_cons_succ]
            try simp only [List.getElem_cons_zero]
            refine wpAnyH_done (by kernel_rfl) ?_ _
            refine NoPanic.normal ?_
            have hbx := Lib.hid hH2.out.bx
            have hrow := Lib.hid hH2.out.row
            have hbr := Lib.hid hH2.out.bel
            have how := Lib.hid hH2.out.own
            clear hH1 hH0 hH2 hL
            generalize w1_1 = W at *
            have b0 := hbx.out.cell 0
            have b1 := hbx.out.cell 1
            have b2 := hbx.out.cell 2
            have b3 := hbx.out.cell 3
            have hm' : (I0.map (od L)).length = m := by simp [hm]
            have tho := Lib.hid (own_there hm' how.out).2
            have hR9 : LRel w2 w3 g L t (k + 1) (.slice (some ⟨og, 0, none⟩) (m + 1) oc) (W.setCells og (m * 4) (oC x)) := LRel.put hst2.out hx.out hm' hrow.out hbr.out h23 how.out
            replace hR9 := Lib.hid hR9
            replace hm' := Lib.hid hm'
            clear how hrow hbr hst2
            go_upto_region 12 with fail
            refine wp_region_lit ?_
            refine wpList_plain rfl (fun K hK => ?_)
            replace hK := Lib.hid hK
            go_simp
            refine hK.out _ _ ?_
            clear hK K
            refine wpList_plain rfl (fun K hK => ?_)
            replace hK := Lib.hid hK
            go_simp
            refine hK.out _ _ ?_
            clear hK K
            refine wpList_plain rfl (fun K hK => ?_)
            replace hK := Lib.hid hK
            go_simp
            refine hK.out _ _ ?_
            clear hK K
            refine wpList_plain rfl (fun K hK => ?_)
            replace hK := Lib.hid hK
            go_simp
            refine hK.out _ _ ?_
            clear hK K
            refine wpList_store_mid rfl 66 (.tmp 46) (.tmp 45) rfl og (m * 4) (oC x).toArray (by rfl) (by rfl) tho.out ord_size (oC_all x) ?_
            generalize W.setCells og (m * 4) (oC x) = W9 at *
            clear b0 b1 b2 b3 hbx tho
            go_wp2_with fail
            go_roundw
            case rel => exact ⟨k + 1, by go_num, by omega, hR9⟩
            case measure => simp [intOf]; (try omega)
          · as_aux_lemma =>
            have r0 : (rst x == 1) = true := by rw [hr]; rfl
            have p0 : (plc y x == 0) = false := by simp [hp]
            have hst2 : lastI L t (k + 1) = (I0 ++ [t (k - 1)]) ++ [t k] := by rw [hnx, if_neg (fun h => hp (hxy.2 h.2.2)), hI0.out]
            replace hst2 := Lib.hid hst2
            replace hxy := Lib.hid hxy
            clear hnx hr hp
            go_upto_region 11 with fail
            refine wp_region_noPanic ?_
            refine wp_region_held_drew (S := fun w' => w'.rangeAt gb 0 (oC x) ∧ w'.rangeAt og (m * 4) (oC y)) (by kernel_rfl) (LS.drewN hL.out 1).rs (fun _ => ?_)
            have hH0 := Lib.hid (LS.drewN hL.out 1)
            refine wpAnyH_take (i := 0) (oi := _) (v := ?_) rfl (by kernel_rfl) (by kernel_rfl) (by kernel_rfl) (fun _ _ _ h => h) (Or.inl ⟨by rfl, ?_⟩) hH0.out.rs ?_
            rotate_left
            · intro w' hSw
              clear hSw
              first | (go_simp; done) | (go_simp; with_reducible rfl)
            try simp only [Act.put]
            try simp only [List.setIfInBounds_toArray]
            try simp only [List.set_cons_succ, List.set_cons_zero]
            try simp only [List.getElem_toArray]
            try simp only [List.getElem_cons_succ]
            try simp only [List.getElem_cons_zero]
            refine wpAnyH_take (i := 1) (oi := _) (v := ?_) rfl (by kernel_rfl) (by kernel_rfl) (by kernel_rfl) (fun _ _ _ h => h) (Or.inl ⟨by rfl, ?_⟩) hH0.out.rs ?_
            rotate_left
            · intro w' hSw
              clear hSw
              first | (go_simp; done) | (go_simp; with_reducible rfl)
            try simp only [Act.put]
            try simp only [List.setIfInBounds_toArray]
            try simp only [List.set_cons_succ, List.set_cons_zero]
            try simp only [List.getElem_toArray]
            try simp only [List.getElem_cons_succ]
            try simp only [List.getElem_cons_zero]
            refine wpAnyH_take (i := 2) (oi := _) (v := ?_) rfl (by kernel_rfl) (by kernel_rfl) (by kernel_rfl) (fun _ _ _ h => h) (Or.inl ⟨by rfl, ?_⟩) hH0.out.rs ?_
            rotate_left
            · intro w' hSw
              clear hSw
              first | (go_simp; done) | (go_simp; with_reducible rfl)
            try simp only [Act.put]
            try simp only [List.setIfInBounds_toArray]
            try simp only [List.set_cons_succ, List.set_cons_zero]
            try simp only [List.getElem_toArray]
            try simp only [List.getElem_cons_succ]
            try simp only [List.getElem_cons_zero]
            refine wpAnyH_take (i := 3) (oi := _) (v := .agg (oC x).toArray) rfl (by kernel_rfl) (by kernel_rfl) (by kernel_rfl) (fun _ _ _ h => h) (yieldsIf_load_mid (by rfl) 66 (.tmp 7) (by rfl) gb (0) (by rfl) (oC x) _ (fun w' hw' => hw'.1) Tryd.underlying66 rfl ord_size) hH0.out.rs ?_
            try simp only [Act.put]
            try simp only [List.setIfInBounds_toArray]
            try simp only [List.set_cons_succ, List.set_cons_zero]
            try simp only [List.getElem_toArray]
            try simp only [List.getElem_cons_succ]
            try simp only [List.getElem_cons_zero]
            refine wpAnyH_ready (rs := [4]) (by kernel_rfl) (by simp) ?_
            refine AllReadyH.cons (o := { dst := some 31, op := .call { callee := .value (.func 77), args := #[.tmp 30], argTypes := _ }, type := _, pos := _, after := _, guard := some (2, true) }) rfl (fun K hK => ?_) AllReadyH.nil
            go_simp
            refine (rest_any x _).mono ?_
            rintro e w1 ⟨rfl, hb1⟩
            have hH1 := LS.below hH0.out hb1
            clear hb1
            go_wp2_with fail
            refine hK.out _ _ hH1.rs (fun hHeld => ?_)
            clear hK K hHeld
            replace hH1 := Lib.hid hH1
            try simp only [Act.put]
            try simp only [List.setIfInBounds_toArray]
            try simp only [List.set_cons_succ, List.set_cons_zero]
            try simp only [List.getElem_toArray]
            try simp only [List.getElem_cons_succ]
            try simp only [List.getElem_cons_zero]
            refine wpAnyH_take (i := 5) (oi := _) (v := ?_) rfl (by kernel_rfl) (by kernel_rfl) (by kernel_rfl) (fun _ _ _ h => h) (Or.inl ⟨by rfl, ?_⟩) hH1.out.rs ?_
            rotate_left
            · intro w' hSw
              clear hSw
              first | (go_simp; done) | (go_simp; with_reducible rfl)
            try simp only [Act.put]
            try simp only [List.setIfInBounds_toArray]
            try simp only [List.set_cons_succ, List.set_cons_zero]
            try simp only [List.getElem_toArray]
            try simp only [List.getElem_cons_succ]
            try simp only [List.getElem_cons_zero]
            refine wpAnyH_take (i := 6) (oi := _) (v := ?_) rfl (by kernel_rfl) (by kernel_rfl) (by kernel_rfl) (fun _ _ _ h => h) (Or.inl ⟨by rfl, ?_⟩) hH1.out.rs ?_
            rotate_left
            · intro w' hSw
              clear hSw
              first | (go_simp; done) | (go_simp; with_reducible rfl)
            try simp only [Act.put]
            try simp only [List.setIfInBounds_toArray]
            try simp only [List.set_cons_succ, List.set_cons_zero]
            try simp only [List.getElem_toArray]
            try simp only [List.getElem_cons_succ]
            try simp only [List.getElem_cons_zero]
            refine wpAnyH_take (i := 7) (oi := _) (v := ?_) rfl (by kernel_rfl) (by kernel_rfl) (by kernel_rfl) (fun _ _ _ h => h) (Or.inl ⟨by rfl, ?_⟩) hH1.out.rs ?_
            rotate_left
            · intro w' hSw
              clear hSw
              first | (go_simp; done) | (go_simp; with_reducible rfl)
            try simp only [Act.put]
            try simp only [List.setIfInBounds_toArray]
            try simp only [List.set_cons_succ, List.set_cons_zero]
            try simp only [List.getElem_toArray]
            try simp only [List.getElem_cons_succ]
            try simp only [List.getElem_cons_zero]
            refine wpAnyH_take (i := 8) (oi := _) (v := ?_) rfl (by kernel_rfl) (by kernel_rfl) (by kernel_rfl) (fun _ _ _ h => h) (Or.inl ⟨by rfl, ?_⟩) hH1.out.rs ?_
            rotate_left
            · intro w' hSw
              clear hSw
              first | (go_simp; done) | (go_simp; with_reducible rfl)
            try simp only [Act.put]
            try simp only [List.setIfInBounds_toArray]
            try simp only [List.set_cons_succ, List.set_cons_zero]
            try simp only [List.getElem_toArray]
            try simp only [List.getElem_cons_succ]
            try simp only [List.getElem_cons_zero]
            refine wpAnyH_take (i := 9) (oi := _) (v := ?_) rfl (by kernel_rfl) (by kernel_rfl) (by kernel_rfl) (fun _ _ _ h => h) (Or.inl ⟨by rfl, ?_⟩) hH1.out.rs ?_
            rotate_left
            · intro w' hSw
              clear hSw
              first | (go_simp; done) | (go_simp; with_reducible rfl)
            try simp only [Act.put]
            try simp only [List.setIfInBounds_toArray]
            try simp only [List.set_cons_succ, List.set_cons_zero]
            try simp only [List.getElem_toArray]
            try simp only [List.getElem_cons_succ]
            try simp only [List.getElem_cons_zero]
            refine wpAnyH_take (i := 10) (oi := _) (v := ?_) rfl (by kernel_rfl) (by kernel_rfl) (by kernel_rfl) (fun _ _ _ h => h) (Or.inl ⟨by rfl, ?_⟩) hH1.out.rs ?_
            rotate_left
            · intro w' hSw
              clear hSw
              first | (go_simp; done) | (go_simp; with_reducible rfl)
            try simp only [Act.put]
            try simp only [List.setIfInBounds_toArray]
            try simp only [List.set_cons_succ, List.set_cons_zero]
            try simp only [List.getElem_toArray]
            try simp only [List.getElem_cons_succ]
            try simp only [List.getElem_cons_zero]
            refine wpAnyH_take (i := 11) (oi := _) (v := .agg (oC y).toArray) rfl (by kernel_rfl) (by kernel_rfl) (by kernel_rfl) (fun _ _ _ h => h) (yieldsIf_load_mid (by rfl) 66 (.tmp 37) (by rfl) og (m * 4) (by rfl) (oC y) _ (fun w' hw' => hw'.2) Tryd.underlying66 rfl ord_size) hH1.out.rs ?_
            try simp only [Act.put]
            try simp only [List.setIfInBounds_toArray]
            try simp only [List.set_cons_succ, List.set_cons_zero]
            try simp only [List.getElem_toArray]
            try simp only [List.getElem_cons_succ]
            try simp only [List.getElem_cons_zero]
            refine wpAnyH_take (i := 12) (oi := _) (v := .agg (oC x).toArray) rfl (by kernel_rfl) (by kernel_rfl) (by kernel_rfl) (fun _ _ _ h => h) (yieldsIf_load_mid (by rfl) 66 (.tmp 7) (by rfl) gb (0) (by rfl) (oC x) _ (fun w' hw' => hw'.1) Tryd.underlying66 rfl ord_size) hH1.out.rs ?_
            try simp only [Act.put]
            try simp only [List.setIfInBounds_toArray]
            try simp only [List.set_cons_succ, List.set_cons_zero]
            try simp only [List.getElem_toArray]
            try simp only [List.getElem_cons_succ]
            try simp only [List.getElem_cons_zero]
            refine wpAnyH_ready (rs := [13]) (by kernel_rfl) (by simp) ?_
            refine AllReadyH.cons (o := { dst := some 40, op := .call { callee := .value (.func 76), args := #[.tmp 38, .tmp 39], argTypes := _ }, type := _, pos := _, after := _, guard := some (7, true) }) rfl (fun K hK => ?_) AllReadyH.nil
            go_simp
            refine (place_any y x _).mono ?_
            rintro e w1_1 ⟨rfl, hb1⟩
            have hH2 := LS.below hH1.out hb1
            clear hb1
            go_wp2_with fail
            refine hK.out _ _ hH2.rs (fun hHeld => ?_)
            clear hK K hHeld
            replace hH2 := Lib.hid hH2
            try simp only [Act.put]
            try simp only [List.setIfInBounds_toArray]
            try simp only [List.set_cons_succ, List.set_cons_zero]
            try simp only [List.getElem_toArray]
            try simp only [List.getElem_cons_succ]
            try simp only [List.getElem_cons_zero]
            refine wpAnyH_take (i := 14) (oi := _) (v := ?_) rfl (by kernel_rfl) (by kernel_rfl) (by kernel_rfl) (fun _ _ _ h => h) (Or.inl ⟨by rfl, ?_⟩) hH2.out.rs ?_
            rotate_left
            · intro w' hSw
              clear hSw
              first | (go_simp; done) | (go_simp; with_reducible rfl)
            try simp only [Act.put]
            try simp only [List.setIfInBounds_toArray]
            try simp only [List.set_cons_succ, List.set_cons_zero]
            try simp only [List.getElem_toArray]
            try simp only [List.getElem_cons_succ]
            try simp only [List.getElem_cons_zero]
            refine wpAnyH_take (i := 15) (oi := _) (v := ?_) rfl (by kernel_rfl) (by kernel_rfl) (by kernel_rfl) (fun _ _ _ h => h) (Or.inl ⟨by rfl, ?_⟩) hH2.out.rs ?_
            rotate_left
            · intro w' hSw
              clear hSw
              first | (go_simp; done) | (go_simp; with_reducible rfl)
            try simp only [Act.put]
            try simp only [List.setIfInBounds_toArray]
            try simp only [List.set_cons_succ, List.set_cons_zero]
            try simp only [List.getElem_toArray]
            try simp only [List.getElem_cons_succ]
            try simp only [List.getElem_cons_zero]
            refine wpAnyH_done (by kernel_rfl) ?_ _
            refine NoPanic.normal ?_
            have hbx := Lib.hid hH2.out.bx
            have hrow := Lib.hid hH2.out.row
            have hbr := Lib.hid hH2.out.bel
            have how := Lib.hid hH2.out.own
            have hsz := Lib.hid hH2.out.ge
            clear hH1 hH0 hH2 hL
            generalize w1_1 = W at *
            have b0 := hbx.out.cell 0
            have b1 := hbx.out.cell 1
            have b2 := hbx.out.cell 2
            have b3 := hbx.out.cell 3
            have bl := hbx.out.lt
            have i32 := hsz.out
            go_wp2_with (at_builtin; refine wpList_app1 rfl (.tmp 47) (.tmp 49) 55 rfl w3.heap.size 66 i0 _ 4 32 Tryd.underlying55 hi0 hz0 hz1 hz2 rfl (by decide) (by decide) W #[.int .i64 x.player, .int .i64 x.unit, .int .i64 x.what, .int .i64 x.arg] (.slice (some ⟨og, 0, none⟩) (m + 1) oc) (m + 1) _ rfl how.out rfl rfl rfl (by omega) i32 ?_; intro v' w9 hown' hgrow)
            have hR9 : LRel w2 w3 g L t (k + 1) v' w9 := LRel.app (J := (I0 ++ [t (k - 1)])) hst2.out hx.out (by simp [hm]) hrow.out hbr.out i32 h23 (by simp [hy.out]) how.out hown' rfl hgrow
            replace hR9 := Lib.hid hR9
            clear b0 b1 b2 b3 bl i32 hown' hgrow how hst2 hbx hrow hbr hsz
            go_wp2_with fail
            go_roundw
            case rel => exact ⟨k + 1, by go_num, by omega, hR9⟩
            case measure => simp [intOf]; (try omega)
    · have z1 : ¬ (k : Int) < (L.length : Int) := by omega
      obtain rfl : k = L.length := by omega
      have hfin := lastI_isLast hst.out
      have e1 : ((lastI L t L.length).map (od L)).length = (lastI L t L.length).length := List.length_map _
      have hbT := hb3.out.trans (hbr.out.mono (Nat.le_trans hb3.out.size (Nat.le_refl _)))
      have hoT := own_base (base' := w.heap.size) hown.out hb3.out.size
      replace hfin := Lib.hid hfin
      replace e1 := Lib.hid e1
      replace hbT := Lib.hid hbT
      replace hoT := Lib.hid hoT
      clear hown hbr hrow
      go_wp2_with fail
      go_ret2
      exact ⟨hbT.out, oA, oc, _, by rw [e1.out]; rfl, hfin.out, by rw [e1.out]; exact hoT.out⟩
end Go.Proofs.YtkgdflecepockaaDoor
