import Derived.Test.YtkgdflecepockaaDoorLockW
import Derived.Test.YtkgdflecepockaaDoorConcat
import Derived.StillTailTactics
import Derived.Deep.AppendLies
import Derived.Deep.RegionHeld3
namespace Go.Proofs.YtkgdflecepockaaDoor
set_option linter.unusedVariables false
open Go.RowKit
/-- What was sent for a turn by the first k. -/
def gotL (S : Int → Int → Option (List Od)) (now : Int) : Nat → List Od
  | 0 => []
  | k + 1 => gotL S now k ++ (S k now).getD []
/-- Behind a turn: nothing is kept for it. -/
def gone (S : Int → Int → Option (List Od)) (now : Int) (k : Nat) : Int → Int → Option (List Od) := fun p t => if t = now ∧ 0 ≤ p ∧ p < k then none else S p t
theorem row_infoO : (Tryd.prog.info? 55).map (fun i => (i.zero, i.size, i.bytes)) = some (some (.slice none 0 0), 1, 24) := by kernel_rfl
/-- What the first loop of Take has so far. -/
def TRel (w : World) (S : Int → Int → Option (List Od)) (now : Int) (k : Nat) (v : Value) (wr : World) : Prop :=
  Below w.heap.size w wr ∧ ∃ rows : List RW, rows.length = k ∧ wr.ownsRow w.heap.size 55 1 v k (rows.map RW.v) ∧ (∀ r ∈ rows, r.ok w w.heap.size) ∧ catR rows = gotL S now k
theorem Below.drawK {B : Nat} {a w : World} (h : Below B a w) : Below B a w.drew := h.drew
theorem Blk.newK (w : World) (t : TypeId) (cs : Array Value) (g : Nat) (h : g = w.heap.size) : Blk (w.alloc (.cells cs t)) g t cs := by subst h; exact Blk.new w t cs
/-- append of one list at a step of a region that draws its order. -/
theorem step_row {ops : Array Oper} {o : Oper} {a : Act} {K : Act → World → Prop} {Q : Exit → Act → World → Prop} {E : Prop} {w : World} (hgd : o.guard = none) (s x : Operand)
    (ho : o.op = .call { callee := .builtin .append, args := #[s, x], argTypes := #[102, 102] })
    (w0 : World) (base : Nat) (v : Value) (n : Nat) (xs : List Value) (y : Value) (hs : a.eval s = v) (hown : w.ownsRow base 55 1 v n xs) (h0 : Below base w0 w)
    (ad c : Nat) (hx : a.eval x = .slice (some ⟨ad, 0, none⟩) 1 c) (hb : Blk w ad 55 #[y]) (h1 : y.oneCell' = true) (hn : n ≤ 100000) (hbase : base ≤ w0.heap.size)
    (h : ∀ v' w', w'.ownsRow base 55 1 v' (n + 1) (xs ++ [y]) → Below base w0 w' → K (a.put o.dst v') w') :
    if Region.wanted o (yielded ops a.tmps) = true then Oper.wp Tryd.prog o a w K Q else E := by
  obtain ⟨i0, hi0, hz0, hz1, hz2⟩ := info_parts row_infoO
  have hsz := h0.size
  refine step_append_lies w hgd s x 102 ho base 55 i0 _ 1 24 Tryd.underlying102 hi0 hz0 hz1 hz2 rfl (by decide) v n xs hs hown ⟨ad, 0, none⟩ 1 c [y] hx rfl (World.news_of_block (cs := #[y]) hb) (by simpa using h1) (by decide) (by unfold maxLen; omega) (by omega) (by omega) w.heap.size rfl ?_
  intro g cap w' hown' hgrow hat hlt'
  exact h _ w' hown' (h0.grown hgrow (by omega) (fun g hg => (hown.lt g hg).1))
theorem gone_0 (S : Int → Int → Option (List Od)) (now : Int) : gone S now 0 = S := by
  funext p t; unfold gone; rw [if_neg (by omega)]
theorem gone_s (S : Int → Int → Option (List Od)) (now : Int) (k : Nat) : gone S now (k + 1) = fun (p t : Int) => if p = (k : Int) ∧ t = now then none else gone S now k p t := by
  funext p t
  unfold gone
  by_cases h : p = (k : Int) ∧ t = now
  · rw [if_pos h, if_pos (by omega)]
  · rw [if_neg h]
    by_cases h2 : t = now ∧ 0 ≤ p ∧ p < k
    · rw [if_pos h2, if_pos (by omega)]
    · rw [if_neg h2, if_neg (by omega)]
theorem wpList_delete_run {P : Program} {ops : Array Oper} {rest : List Oper} {o : Oper} {a : Act} {Q : Exit → Act → World → Prop} (hgd : o.guard = none) (m x : Operand) (t tk : TypeId)
    (ho : o.op = .call { callee := .builtin .delete, args := #[m, x], argTypes := #[t, tk] }) (w w' : World) (v y r : Value) (hs : a.eval m = v) (hx : a.eval x = y)
    (hrun : (Builtin.delete_ #[t, tk] o.type #[v, y]).run P w = .ok r w') (h : wpList P ops Q rest (a.put o.dst r) w') : wpList P ops Q (o :: rest) a w :=
  wpList_plain hgd fun K hK => by
    unfold Oper.wp execOp
    simp only [ho, resolve, invoke, builtin, Sem.run_bind, Sem.run_pure, Result.andThen_ok, List.map_toArray, List.map_cons, List.map_nil, hs, hx, hrun]
    exact hK _ _ h
section
variable {w : World} {G O M B n : Nat} {d now : Int} {outs : List Bool} {S : Int → Int → Option (List Od)}
theorem LK.del (h : LK B w G O M n d now outs S) {p t : Int} (hp : I6 p) (ht : I6 t) (ty : TypeId) : ∃ w', (Builtin.delete_ #[88, 93] ty #[.map (some M), plV p t]).run Tryd.prog w = .ok (.tuple #[]) w' ∧ LK B w' G O M n d now outs (fun p' t' => if p' = p ∧ t' = t then none else S p' t') ∧ w.grownBy w' (some M) := by
  obtain ⟨V, hm, hS⟩ := h.mp
  obtain ⟨w', hrun, hm', hg⟩ := hm.del hp ht ty
  have hk := h.keepO hg
  have hS2 := SentIs.mono hS hk hg.size
  refine ⟨w', hrun, h.withMap hg hm' (fun p' t' => ?_), hg⟩
  by_cases e : p' = p ∧ t' = t
  · rw [if_pos e, if_pos e]
    exact ⟨fun _ => rfl, fun L (hL : none = some L) => (nomatch hL)⟩
  · rw [if_neg e, if_neg e]
    exact hS2 p' t'
theorem LK.ownApart (h : LK B w G O M n d now outs S) {b m : Nat} {v : Value} {xs : List Value} (ho : w.ownsRow b 66 4 v m xs) : v.ownBlock ≠ some G ∧ v.ownBlock ≠ some O ∧ v.ownBlock ≠ some M := by
  rcases ho.2 with ⟨rfl, _⟩ | ⟨g, cap, cur, rfl, _, hg, _⟩
  · simp [Value.ownBlock]
  · obtain ⟨h1, h2, h3⟩ := h.apart hg
    refine ⟨?_, ?_, ?_⟩ <;> (intro e; injection e; contradiction)
theorem ltake_no (h : LK B w G O M n d now outs S) (hw : waitL outs S now outs.length ≠ []) :
    Calls Tryd.prog 27 #[.pointer (some ⟨G, 0, none⟩)] w fun e w' => e = .returned (.tuple #[.int .i64 0, .slice none 0 0, erL 7]) ∧ Below w.heap.size w w' := by
  have hc := lready_any h _ rfl
  rw [decide_eq_false hw] at hc
  unfold erL
  replace hc := Lib.hid hc
  replace h := Lib.hid h
  clear hw
  go_enter Tryd.func27, Tryd.ntmps27
  go_wp2_with fail
  refine hc.out.mono ?_
  rintro e w1 ⟨rfl, hb⟩
  replace hb := Lib.hid hb
  go_wp2_with fail
  go_ret3
  exact ⟨rfl, hb.out⟩
set_option maxHeartbeats 3200000 in
set_option maxRecDepth 100000 in
theorem ltake_ok (h : LK B w G O M n d now outs S) (hw : waitL outs S now outs.length = []) (hsz : (gotL S now outs.length).length ≤ 1000000) (hnow : now + 1 ≤ 1000000) (hE : ordsE (gotL S now outs.length) = 0) :
    Calls Tryd.prog 27 #[.pointer (some ⟨G, 0, none⟩)] w fun e w' => ∃ A c R, e = .returned (.tuple #[.int .i64 now, .slice A R.length c, .nilIface]) ∧ IsLast (gotL S now outs.length) R ∧ w'.ownsRow w.heap.size 66 4 (.slice A R.length c) R.length (R.flatMap oC) ∧ LK B w' G O M n d (now + 1) outs (gone S now outs.length) ∧ LEff w w' G O M := by
  obtain ⟨iT, hj0, hy0, hy1, hy2⟩ := info_parts row_infoO
  have hc := lready_any h _ hw
  rw [decide_eq_true rfl] at hc
  have hnp := h.np
  replace hc := Lib.hid hc
  replace h := Lib.hid h
  replace hE := Lib.hid hE
  replace hsz := Lib.hid hsz
  clear hw
  go_enter Tryd.func27, Tryd.ntmps27
  go_wp2_with fail
  refine hc.out.mono ?_
  clear hc
  rintro e w1 ⟨rfl, hb1⟩
  have hL1 := h.out.below hb1
  obtain ⟨c0, c1, c2, c3, c4⟩ := hL1.cells
  have hs1 := hb1.size
  replace hb1 := Lib.hid hb1
  replace hL1 := Lib.hid hL1
  go_wp2_with fail
  clear c0 c1 c2 c3 c4
  have hT0 : TRel w1 S now 0 (.slice none 0 0) w1 := ⟨Below.refl _ _, [], rfl, World.ownsRow_nil _ _ _ _, by simp, rfl⟩
  replace hT0 := Lib.hid hT0
  go_loopw [5, 6, 16] (fun v _ vi wr => ∃ k : Nat, vi = .int .i64 k ∧ k ≤ outs.length ∧ Hid (TRel w1 S now k v wr)) (fun _ _ vi _ => outs.length - (intOf vi).toNat)
  case atStart => exact ⟨0, rfl, Nat.zero_le _, hT0⟩
  case round =>
    clear hT0
    obtain ⟨k, rfl, hk, hT⟩ := hrel
    obtain ⟨hb, rows, hrl, hown, hrok, hcat⟩ := hT.out
    clear hT
    by_cases hlt : k < outs.length
    · have i1 : (k : Int) < (outs.length : Int) := by omega
      have hL := hL1.out.below hb
      obtain ⟨c0, c1, c2, c3, c4⟩ := hL.cells
      obtain ⟨V, hm, hS⟩ := hL.mp
      have hnw := hL.nw
      have hgl := hL.blk.lt
      obtain ⟨V1, hm1, hS1⟩ := hL1.out.mp
      obtain ⟨r, hrv, hro, hrL⟩ : ∃ r : RW, (V1 (k : Int) now).getD (.slice none 0 0) = r.v ∧ r.ok w1 w1.heap.size ∧ r.L = (S (k : Int) now).getD [] := by
        obtain ⟨s1, s2⟩ := hS1 (k : Int) now
        rcases hs : S (k : Int) now with _ | L
        · rw [s1 hs]
          exact ⟨⟨none, 0, []⟩, rfl, ⟨RD.nil_, fun _ => rfl⟩, rfl⟩
        · obtain ⟨A, c, e, h1, h2, _⟩ := s2 L hs
          rw [e]
          exact ⟨⟨A, c, L⟩, rfl, ⟨h1, h2⟩, rfl⟩
      have hmk := hm1.below hb
      have hsz2 := hb.size
      have hcells : ∀ w', Below w1.heap.size w1 w' → w'.cell? ⟨G, 4, none⟩ = some (.map (some M)) ∧ w'.cell? ⟨G, 2, none⟩ = some (.int .i64 now) ∧ (Instr.lookup 88 (.map (some M)) (plV (k : Int) now) false).run Tryd.prog w' = .ok r.v w' := fun w' hb' => by
        have hLq := hL1.out.below hb'
        obtain ⟨_, _, q2, _, q4⟩ := hLq.cells
        have hlk := (hm1.below hb').look (p := (k : Int)) (t := now) (by unfold I6; omega) (by unfold I6; omega)
        rw [hrv] at hlk
        exact ⟨q4, q2, hlk⟩
      replace hL := Lib.hid hL
      replace hb := Lib.hid hb
      replace hown := Lib.hid hown
      replace hrok := Lib.hid hrok
      replace hcat := Lib.hid hcat
      replace hS := Lib.hid hS
      replace hS1 := Lib.hid hS1
      replace hm := Lib.hid hm
      replace hm1 := Lib.hid hm1
      replace hmk := Lib.hid hmk
      replace hrl := Lib.hid hrl
      replace hro := Lib.hid hro
      replace hrL := Lib.hid hrL
      replace hrv := Lib.hid hrv
      obtain ⟨rA, rc, rL⟩ := r
      dsimp only [RW.v] at hcells
      have hcw := hcells wr hb.out
      obtain ⟨q4, q2, hlk⟩ := hcw
      replace hcells := Lib.hid hcells
      clear c0 c1 c2 c3 c4
      go_upto_region 7 with fail
      go_region_held3 (fun wz => wz.cell? ⟨G, 4, none⟩ = some (.map (some M)) ∧ wz.cell? ⟨G, 2, none⟩ = some (.int .i64 now) ∧ (Instr.lookup 88 (.map (some M)) (plV (k : Int) now) false).run Tryd.prog wz = .ok (.slice rA rL.length rc) wz) (first | exact hcells.out _ hK1 | exact hcells.out _ (by repeat (first | exact hb.out | apply Below.drawK | refine Below.alloc ?_ (by first | omega | (simp; omega)) _))) (first | (refine step_row (by rfl) (.tmp 19) (.tmp 31) (by rfl) w1 w1.heap.size u5 k (rows.map RW.v) (.slice rA rL.length rc) (by rfl) (by repeat (first | exact hown.out | apply World.ownsRow.alloc)) (by repeat (first | exact hb.out | apply Below.drawK | refine Below.alloc ?_ (by first | omega | (simp; omega)) _)) _ _ (by rfl) (by repeat (first | exact Blk.newK _ _ _ _ (by first | rfl | simp) | apply Blk.drew | apply Blk.alloc)) rfl (by omega) (Nat.le_refl _) ?_; intro v8 W8 hown8 hK1))
      have hT9 : TRel w1 S now (k + 1) v8 W8 := ⟨hK1, rows ++ [⟨rA, rc, rL⟩], by simp [hrl.out], by rw [List.map_append]; exact hown8, fun x hx => by
        rcases List.mem_append.1 hx with h | h
        · exact hrok.out x h
        · obtain rfl : x = ⟨rA, rc, rL⟩ := by simpa using h
          exact hro.out, by
        have e1 : catR (rows ++ [⟨rA, rc, rL⟩]) = catR rows ++ rL := by simp [catR]
        have e2 := hrL.out
        dsimp only at e2
        rw [e1, hcat.out, e2]
        rfl⟩
      replace hT9 := Lib.hid hT9
      clear hown8 hK1 q4 q2 hlk
      go_wp2_with fail
      go_roundw
      case rel => exact ⟨k + 1, by go_num, by omega, hT9⟩
      case measure => simp [intOf]; omega
    · have i1 : ¬ (k : Int) < (outs.length : Int) := by omega
      obtain rfl : k = outs.length := by omega
      have hL2 := hL1.out.below hb
      have hs2 := hb.size
      have hb2 := hb1.out.trans (hb.mono hs1)
      obtain ⟨A5, c5, rfl, _⟩ := own_slice hown
      have hmg := merge_ok A5 outs.length c5 wr.heap.size rows wr hrl (Nat.le_refl _) (RD.of_own hown) (fun x hx => by
        obtain ⟨h1, h2⟩ := (hrok x hx).below hb
        exact ⟨h1.more hb.size, h2⟩) (by rw [← catR_len, hcat]; exact hsz.out) (by omega) (by rw [hcat]; exact hE.out)
      rw [hcat] at hmg
      replace hmg := Lib.hid hmg
      replace hL2 := Lib.hid hL2
      replace hb2 := Lib.hid hb2
      clear hb hown hrok hcat hrl
      go_wp2_with fail
      refine hmg.out.mono ?_
      clear hmg
      rintro e w5 ⟨hb5, A6, c6, R, rfl, hI, ho6⟩
      have hL5 := hL2.out.below hb5
      have hb6 := hb2.out.trans (hb5.mono hb2.out.size)
      have ho7 := own_base (base' := w.heap.size) ho6 hb2.out.size
      obtain ⟨c0, c1, c2, c3, c4⟩ := hL5.cells
      have hgl := hL5.blk.lt
      replace hL5 := Lib.hid hL5
      replace hb6 := Lib.hid hb6
      replace ho7 := Lib.hid ho7
      replace hI := Lib.hid hI
      clear hb5 ho6 hL2 hb2
      go_wp2_with fail
      clear c0 c1 c2 c3 c4
      go_loopw [7, 46] (fun _ vi wr => ∃ k : Nat, vi = .int .i64 k ∧ k ≤ outs.length ∧ Hid (LK B wr G O M n d now outs (gone S now k)) ∧ Hid (w5.grownBy wr (some M))) (fun _ vi _ => outs.length - (intOf vi).toNat)
      case atStart => exact ⟨0, rfl, Nat.zero_le _, Lib.hid (by rw [gone_0]; exact hL5.out), Lib.hid (World.grownBy.refl _ _)⟩
      case round =>
        obtain ⟨k, rfl, hk, hLr, hgr⟩ := hrel
        obtain ⟨c0, c1, c2, c3, c4⟩ := hLr.out.cells
        have hgl := hLr.out.blk.lt
        have hnw := hLr.out.nw
        by_cases hlt : k < outs.length
        · have i1 : (k : Int) < (outs.length : Int) := by omega
          obtain ⟨w8, hdel, hL8, hg8⟩ := (hLr.out.drewN 1).del (p := (k : Int)) (t := now) (by unfold I6; omega) (by unfold I6; omega) 0
          rw [← gone_s] at hL8
          have hg9 := Lib.hid (grownBy_trans (grownBy_drew hgr.out) hg8)
          replace hL8 := Lib.hid hL8
          replace hdel := Lib.hid hdel
          replace hLr := Lib.hid hLr.out
          go_upto_region 15 with fail
          go_still_tail 10, (by kernel_rfl)
          refine wpList_delete_run rfl (.tmp 52) (.tmp 58) 88 93 rfl _ w8 _ _ _ rfl rfl hdel.out ?_
          clear c0 c1 c2 c3 c4 hg8 hgl
          go_wp2_with fail
          go_roundw
          case rel => exact ⟨k + 1, by go_num, by omega, hL8, hg9⟩
          case measure => simp [intOf]; omega
        · have i1 : ¬ (k : Int) < (outs.length : Int) := by omega
          obtain rfl : k = outs.length := by omega
          have hap := hL5.out.ownApart ho7.out
          have ho8 := ho7.out.kept hgr.out (.inr (fun e => hap.2.2 e))
          have hap2 := hLr.out.ownApart ho8
          have ho9 := ho8.kept (grownBy_set wr G 2 (.int .i64 (now + 1))) (.inr (fun e => hap2.1 e))
          have hL9 := hLr.out.next hnow
          have hE9 : LEff w (wr.setCell ⟨G, 2, none⟩ (.int .i64 (now + 1))) G O M := ((LEff.of_below hb6.out).map hgr.out).set_ _ _ _ (.inl rfl)
          have f2 := hLr.out.blk.frozen 2
          have j1 : now + 1 - 1 = now := by omega
          replace ho9 := Lib.hid ho9
          replace hL9 := Lib.hid hL9
          replace hE9 := Lib.hid hE9
          clear hap hap2 ho8
          go_wp2_with fail
          go_ret3
          exact ⟨A6, c6, R, by simp, hI.out, ho9.out, hL9.out, hE9.out⟩
end
end Go.Proofs.YtkgdflecepockaaDoor
