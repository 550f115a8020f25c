import Derived.Test.YtkgkpggfoieioaaDoorNum
import Derived.Test.YtkgkpggfoieioaaDoorWorldC1
import Derived.Test.YtkgkpggfoieioaaDoorPlainEn
import Derived.Test.YtkgkpggfoieioaaDoorSameW
namespace Go.Proofs.YtkgkpggfoieioaaDoor
set_option linter.unusedVariables false
open Go.RowKit
set_option maxHeartbeats 1600000 in
set_option maxRecDepth 100000 in
theorem rnumB_any (base : Nat) (v : Value) (n0 : Nat) (xs : List Value) (n : Int) (w : World) (hown : w.ownsRow base 5 1 v n0 xs) (hbase : base ≤ w.heap.size) (hn0 : n0 ≤ 1000000000) (hn : -9223372036854775808 ≤ n ∧ n ≤ 9223372036854775807) :
    Calls Tryd.prog 94 #[v, .int .i64 n] w fun e w' => ∃ v', e = .returned v' ∧ w'.ownsRow base 5 1 v' (n0 + (numL n).length) (xs ++ (numL n).map (.int .u8)) ∧ w.grownBy w' v.ownBlock ∧ At w v.ownBlock v'.ownBlock := by
  obtain ⟨i0, hi0, hz0, hz1, hz2⟩ := info_parts num_info
  have hZ := zz_lt n hn
  have hl10 := numL_len n hn
  unfold numL at hl10 ⊢
  have H := Lib.hid hown
  clear hown
  go_enter Tryd.func94, Tryd.ntmps94
  go_upto_if 10 with fail
  go_cut [5] (fun x wx => x = .int .u64 (zz n : Nat) ∧ w = wx)
  case first =>
    by_cases h0 : n < 0
    · have d1 : decide (n < 0) = true := by simp; omega
      go_wp2_with fail
      go_meet
      refine ⟨congrArg (Value.int .u64) ?_, rfl⟩
      unfold zz
      rw [if_neg (by omega)]
      omega
    · have d1 : decide (n < 0) = false := by simp; omega
      go_wp2_with fail
      go_meet
      refine ⟨congrArg (Value.int .u64) ?_, rfl⟩
      simp only [IntKind.wrap_u64]
      unfold zz
      rw [if_pos (by omega)]
      omega
  case rest =>
  obtain ⟨rfl, rfl⟩ := hcut
  go_wp2_with fail
  generalize hZZ : zz n = Z at *
  replace hZZ := Lib.hid hZZ
  go_loopw [0, 5] (fun b x wr => NumRel w base v n0 xs Z b x wr) (fun _ x _ => (intOf x).toNat)
  case atStart => exact ⟨Z, [], rfl, Nat.le_refl _, Lib.hid (by simp), by simp, by simpa using H.out, World.grownBy.refl _ _, .inl rfl⟩
  case round =>
    obtain ⟨k, ds, rfl, hk, hds, hdl, hown, hgr, hat⟩ := hrel
    replace hown := Lib.hid hown
    have hs := hgr.size
    have hlen : ds.length + (vbN k).length = (vbN Z).length := by have := congrArg List.length hds.out; simpa using this
    have hpos := vb_pos k
    by_cases hlt : 128 ≤ k
    · have e1 := or128' k
      have e2 := vb_hi k hlt
      have hlen2 := hlen
      rw [e2, List.length_cons] at hlen2
      have hpos2 := vb_pos (k / 128)
      have hd2 : (ds ++ [((k % 128 + 128 : Nat) : Int)]) ++ vbN (k / 128) = vbN Z := by rw [← hds.out, e2]; simp
      replace hd2 := Lib.hid hd2
      replace e2 := Lib.hid e2
      replace hgr := Lib.hid hgr
      replace hat := Lib.hid hat
      go_wp2_with (at_builtin; refine wpList_app1a rfl (.tmp 19) (.tmp 24) 65 rfl base 5 i0 _ 1 1 Tryd.underlying65 hi0 hz0 hz1 hz2 rfl (by decide) (by decide) wr #[.int .u8 ((k : Int) % 128 + 128)] u0 (n0 + ds.length) _ rfl hown.out rfl rfl rfl (by omega) (by omega) ?_; intro v' w2 hown' hgrow hat')
      have hgr2 := grown_at hgr.out hgrow hat.out
      have hat2 := hat.out.trans hat' hs
      rw [show (#[Value.int .u8 ((k : Int) % 128 + 128)] : Array Value).toList = [.int .u8 ((k % 128 + 128 : Nat) : Int)] by simp] at hown'
      have ho2 : w2.ownsRow base 5 1 v' (n0 + (ds ++ [((k % 128 + 128 : Nat) : Int)]).length) (xs ++ (ds ++ [((k % 128 + 128 : Nat) : Int)]).map (.int .u8)) := by
        rw [List.map_append, ← List.append_assoc, List.length_append]; exact hown'
      have hT : NumRel w base v n0 xs Z v' (.int .u64 ((k / 128 : Nat) : Int)) w2 := ⟨k / 128, _, rfl, by omega, hd2, by simp; omega, ho2, hgr2, hat2⟩
      replace hT := Lib.hid hT
      clear hown' ho2 hgr2 hat2 hgrow hat'
      go_wp2_with fail
      go_roundw
      case rel => exact hT.out
      case measure => simp [intOf]; omega
    · have e2 := vb_lo k (by omega)
      have hl1 : (vbN k).length = 1 := by rw [e2]; rfl
      have hfin : vbN Z = ds ++ [(k : Int)] := by rw [← hds.out, e2]
      replace e2 := Lib.hid e2
      replace hfin := Lib.hid hfin
      replace hgr := Lib.hid hgr
      replace hat := Lib.hid hat
      go_wp2_with (at_builtin; refine wpList_app1a rfl (.tmp 28) (.tmp 31) 65 rfl base 5 i0 _ 1 1 Tryd.underlying65 hi0 hz0 hz1 hz2 rfl (by decide) (by decide) wr #[.int .u8 (k : Int)] u0 (n0 + ds.length) _ rfl hown.out rfl rfl rfl (by omega) (by omega) ?_; intro v' w2 hown' hgrow hat')
      go_ret
      refine ⟨_, rfl, ?_, grown_at hgr.out hgrow hat.out, hat.out.trans hat' hs⟩
      rw [hZZ.out, hfin.out, List.map_append, ← List.append_assoc, List.length_append]
      exact hown'
/-- Bytes that are being written, of a world that lies in a box. -/
structure OE (w0 : World) (s : SW) (x : GW) (cs : List (Nat × TypeId × Array Value)) (m : Nat) (v : Value) (bs : List Int) (w : World) : Prop where
  own : w.ownsRow (w0.heap.size + 1) 5 1 v bs.length (bs.map (.int .u8))
  bel : Below w0.heap.size w0 w
  kw : Blk w w0.heap.size 55 #[.int .i64 x.turn, .int .i64 x.next, .int .i64 x.field.wide, .int .i64 x.field.high, .slice s.field.ground.A x.field.ground.length s.field.ground.c, .slice s.field.ore.A x.field.ore.length s.field.ore.c, .slice s.gold.A x.gold.length s.gold.c, .slice s.units.A x.units.length s.units.c, .slice s.queue.A x.queue.length s.queue.c]
  wo : WOk w0 s x
  lim : bs.length ≤ m
  kp : ∀ p ∈ cs, Blk w p.1 p.2.1 p.2.2 ∧ v.ownBlock ≠ some p.1
section
variable {w0 w w' : World} {s : SW} {x : GW} {cs : List (Nat × TypeId × Array Value)} {m : Nat} {v : Value} {bs : List Int}
theorem OE.bas (h : OE w0 s x cs m v bs w) : w0.heap.size + 1 ≤ w.heap.size := h.kw.lt
theorem OE.num (h : OE w0 s x cs m v bs w) (n : Int) (hm : m ≤ 1000000000) (hn : I64 n) :
    Calls Tryd.prog 94 #[v, .int .i64 n] w fun e w' => ∃ v', e = .returned v' ∧ OE w0 s x cs (m + 10) v' (bs ++ numL n) w' := by
  refine (rnumB_any (w0.heap.size + 1) v bs.length _ n w h.own h.bas (by have := h.lim; omega) hn).mono ?_
  rintro e w' ⟨v', rfl, ho, hg, hat⟩
  have hl := numL_len n hn
  have hlt : ∀ q, v.ownBlock = some q → w0.heap.size + 1 ≤ q := fun q e => (h.own.lt q e).1
  refine ⟨v', rfl, ?_, h.bel.grown hg (by have := h.bas; omega) (fun q e => by have := hlt q e; omega), h.kw.grown hg (fun e => by have := hlt _ e.symm; omega), h.wo, by rw [List.length_append]; have := h.lim; omega, fun p hp => ?_⟩
  · rw [List.length_append, List.map_append]; exact ho
  · have h1 := (h.kp p hp).1
    refine ⟨h1.grown hg (fun e => (h.kp p hp).2 e.symm), ?_⟩
    rcases hat with e | ⟨q, e, hq⟩
    · rw [e]; exact (h.kp p hp).2
    · rw [e]; intro e; injection e; have := h1.lt; omega
/-- What is new lies behind all: the bytes stay. -/
theorem OE.below (h : OE w0 s x cs m v bs w) (hb : Below w.heap.size w w') : OE w0 s x cs m v bs w' := ⟨own_below h.own hb, h.bel.trans (hb.mono (by have := h.bas; omega)), h.kw.below hb h.kw.lt, h.wo, h.lim, fun p hp => ⟨(h.kp p hp).1.below hb (h.kp p hp).1.lt, (h.kp p hp).2⟩⟩
theorem OE.alloc (h : OE w0 s x cs m v bs w) (o : Obj) : OE w0 s x cs m v bs (w.alloc o) := h.below ((Below.refl _ _).alloc (Nat.le_refl _) o)
theorem OE.keep (h : OE w0 s x cs m v bs w) (t : TypeId) (xs : Array Value) : OE w0 s x ((w.heap.size, t, xs) :: cs) m v bs (w.alloc (.cells xs t)) := by
  have h1 := h.alloc (.cells xs t)
  refine ⟨h1.own, h1.bel, h1.kw, h1.wo, h1.lim, fun p hp => ?_⟩
  rcases List.mem_cons.1 hp with rfl | hp
  · exact ⟨Blk.new w t xs, fun e => by have := (h.own.lt _ e).2; exact absurd this (Nat.lt_irrefl _)⟩
  · exact h1.kp p hp
theorem OE.drop {p : Nat × TypeId × Array Value} (h : OE w0 s x (p :: cs) m v bs w) : OE w0 s x cs m v bs w := ⟨h.own, h.bel, h.kw, h.wo, h.lim, fun q hq => h.kp q (List.mem_cons_of_mem _ hq)⟩
theorem OE.up {m' : Nat} (h : OE w0 s x cs m v bs w) (hm : m ≤ m') : OE w0 s x cs m' v bs w := ⟨h.own, h.bel, h.kw, h.wo, Nat.le_trans h.lim hm, h.kp⟩
end
set_option maxHeartbeats 1600000 in
set_option maxRecDepth 100000 in
theorem nums_any {w0 : World} {s : SW} {x : GW} {cs : List (Nat × TypeId × Array Value)} {m : Nat} {v : Value} {bs : List Int} (A : Option Addr) (c : Nat) (l : List Int) (w : World) (h : OE w0 s x cs m v bs w) (hr : SLI w0 ⟨A, c⟩ l) (hm : m + 10 + 10 * l.length ≤ 1000000000) :
    Calls Tryd.prog 95 #[v, .slice A l.length c] w fun e w' => ∃ v', e = .returned v' ∧ OE w0 s x cs (m + 10 + 10 * l.length) v' (bs ++ (lN l).flatMap numL) w' := by
  have hl0 : (l.length : Int) ≤ 9223372036854775807 := by omega
  have H := Lib.hid h
  have HR := Lib.hid hr
  clear h hr
  go_enter Tryd.func95, Tryd.ntmps95
  go_wp2_with fail
  refine (H.out.num (l.length : Int) (by omega) (by unfold I64; omega)).mono ?_
  rintro e W1 ⟨v1, rfl, ho⟩
  replace ho := Lib.hid ho
  go_wp2_with fail
  go_loopw [0, 5] (fun vbN vi wr => ∃ k : Nat, vi = .int .i64 k ∧ k ≤ l.length ∧ Hid (OE w0 s x cs (m + 10 + 10 * k) vbN (bs ++ numL (l.length : Int) ++ (l.take k).flatMap numL) wr)) (fun _ vi _ => l.length - (intOf vi).toNat)
  case atStart => exact ⟨0, rfl, Nat.zero_le _, Lib.hid (by simpa using ho.out)⟩
  case round =>
    obtain ⟨k, rfl, hk, ho⟩ := hrel
    by_cases hlt : k < l.length
    · have j1 : (k : Int) < (l.length : Int) := by omega
      obtain ⟨b, o, hA, hcell, hbl⟩ := (HR.out.below (ho.out.bel)).at_ hlt
      have hI : I64 (l.getD k 0) := HR.out.2.2.2.2 _ (by rw [List.getD_eq_getElem?_getD, List.getElem?_eq_getElem hlt]; exact List.getElem_mem hlt)
      have htk : (l.take (k + 1)).flatMap numL = (l.take k).flatMap numL ++ numL (l.getD k 0) := by rw [List.take_succ_eq_append_getElem hlt, List.flatMap_append, List.getD_eq_getElem?_getD, List.getElem?_eq_getElem hlt]; simp
      dsimp only at hA
      subst hA
      generalize l.getD k 0 = n at *
      replace htk := Lib.hid htk
      go_wp2_with fail
      refine (ho.out.num n (by omega) hI).mono ?_
      rintro e W2 ⟨v2, rfl, ho2⟩
      clear hcell hbl
      have ho3 : OE w0 s x cs (m + 10 + 10 * (k + 1)) v2 (bs ++ numL (l.length : Int) ++ (l.take (k + 1)).flatMap numL) W2 := by
        rw [htk.out, ← List.append_assoc]
        exact ho2.up (by omega)
      replace ho3 := Lib.hid ho3
      clear ho2
      go_wp2_with fail
      go_roundw
      case rel => exact ⟨k + 1, by go_num, by omega, ho3⟩
      case measure => simp [intOf]; omega
    · have j1 : ¬ (k : Int) < (l.length : Int) := by omega
      have hfin : OE w0 s x cs (m + 10 + 10 * l.length) u0 (bs ++ (lN l).flatMap numL) wr := by
        have e : bs ++ (lN l).flatMap numL = bs ++ numL (l.length : Int) ++ l.flatMap numL := by unfold lN; simp
        have h := ho.out
        rw [show k = l.length by omega, List.take_of_length_le (Nat.le_refl _)] at h
        rw [e]; exact h
      replace hfin := Lib.hid hfin
      go_wp2_with fail
      go_ret
      exact ⟨_, rfl, hfin.out⟩
end Go.Proofs.YtkgkpggfoieioaaDoor
