import Derived.Test.YtkgkpggfoieioaaDoorBits
import Derived.Test.YtkgkpggfoieioaaDoorApp
import Derived.Test.YtkgkpggfoieioaaDoorRows
import Derived.WalkKit
import Derived.WalkLawsBesides
import Derived.Outline
import Derived.OwnWalk
import Derived.Deep.DeepCutAuto
import Derived.Deep.DeepFit
import Derived.Deep.DeepMust
import Derived.Lib.Hide
namespace Go.Proofs.YtkgkpggfoieioaaDoor
set_option linter.unusedVariables false
open Go.RowKit
theorem num_info : (Tryd.prog.info? 5).map (fun i => (i.zero, i.size, i.bytes)) = some (some (.int .u8 0), 1, 1) := by kernel_rfl
def NumRel (w : World) (base : Nat) (v0 : Value) (n0 : Nat) (xs : List Value) (Z : Nat) (vb_ vx : Value) (wr : World) : Prop :=
  ∃ (k : Nat) (ds : List Int), vx = .int .u64 k ∧ k ≤ Z ∧ Hid (ds ++ vbN k = vbN Z) ∧ ds.length ≤ 10 ∧ wr.ownsRow base 5 1 vb_ (n0 + ds.length) (xs ++ ds.map (.int .u8)) ∧ w.grownBy wr v0.ownBlock ∧ At w v0.ownBlock vb_.ownBlock
set_option maxHeartbeats 1600000 in
set_option maxRecDepth 100000 in
theorem num_any (base : Nat) (v : Value) (n0 : Nat) (xs : List Value) (n : Int) (w : World) (hown : w.ownsRow base 5 1 v n0 xs) (hbase : base ≤ w.heap.size) (hn0 : n0 ≤ 1000000000) (hn : -9223372036854775808 ≤ n ∧ n ≤ 9223372036854775807) :
    Calls Tryd.prog 93 #[v, .int .i64 n] w fun e w' => ∃ v', e = .returned v' ∧ w'.ownsRow base 5 1 v' (n0 + (numL n).length) (xs ++ (numL n).map (.int .u8)) ∧ w.grownBy w' v.ownBlock ∧ At w v.ownBlock v'.ownBlock := by
  obtain ⟨i0, hi0, hz0, hz1, hz2⟩ := info_parts num_info
  have hzb := zz_bits n hn
  have hZ := zz_lt n hn
  have hl10 := numL_len n hn
  unfold numL at hl10 ⊢
  have H := Lib.hid hown
  replace hzb := Lib.hid hzb
  clear hown
  go_enter Tryd.func93, Tryd.ntmps93
  go_wp2_with fail
  rw [hzb.out]
  generalize hZZ : zz n = Z at *
  replace hZZ := Lib.hid hZZ
  clear hzb
  go_loopw [0, 5] (fun b x wr => NumRel w base v n0 xs Z b x wr) (fun _ x _ => (intOf x).toNat)
  case atStart => exact ⟨Z, [], rfl, Nat.le_refl _, Lib.hid (by simp), by simp, by simpa using H.out, World.grownBy.refl _ _, .inl rfl⟩
  case round =>
    obtain ⟨k, ds, rfl, hk, hds, hdl, hown, hgr, hat⟩ := hrel
    replace hown := Lib.hid hown
    have hs := hgr.size
    have hlen : ds.length + (vbN k).length = (vbN Z).length := by have := congrArg List.length hds.out; simpa using this
    have hpos := vb_pos k
    by_cases hlt : 128 ≤ k
    · have e1 := or128' k
      have e2 := vb_hi k hlt
      have hlen2 := hlen
      rw [e2, List.length_cons] at hlen2
      have hpos2 := vb_pos (k / 128)
      have hd2 : (ds ++ [((k % 128 + 128 : Nat) : Int)]) ++ vbN (k / 128) = vbN Z := by rw [← hds.out, e2]; simp
      replace e1 := Lib.hid e1
      replace hd2 := Lib.hid hd2
      replace e2 := Lib.hid e2
      replace hgr := Lib.hid hgr
      replace hat := Lib.hid hat
      go_wp2_with (at_builtin; refine wpList_app1a rfl (.tmp 15) (.tmp 19) 65 rfl base 5 i0 _ 1 1 Tryd.underlying65 hi0 hz0 hz1 hz2 rfl (by decide) (by decide) wr #[.int .u8 (bits .or .u8 ((k : Int) % 256) 128)] u0 (n0 + ds.length) _ rfl hown.out rfl rfl rfl (by omega) (by omega) ?_; intro v' w2 hown' hgrow hat')
      have hgr2 := grown_at hgr.out hgrow hat.out
      have hat2 := hat.out.trans hat' hs
      rw [show (#[Value.int .u8 (bits .or .u8 ((k : Int) % 256) 128)] : Array Value).toList = [.int .u8 ((k % 128 + 128 : Nat) : Int)] by rw [e1.out]] at hown'
      have ho2 : w2.ownsRow base 5 1 v' (n0 + (ds ++ [((k % 128 + 128 : Nat) : Int)]).length) (xs ++ (ds ++ [((k % 128 + 128 : Nat) : Int)]).map (.int .u8)) := by
        rw [List.map_append, ← List.append_assoc, List.length_append]; exact hown'
      have hT : NumRel w base v n0 xs Z v' (.int .u64 ((k / 128 : Nat) : Int)) w2 := ⟨k / 128, _, rfl, by omega, hd2, by simp; omega, ho2, hgr2, hat2⟩
      replace hT := Lib.hid hT
      clear hown' ho2 hgr2 hat2 hgrow hat'
      go_wp2_with fail
      go_roundw
      case rel => exact hT.out
      case measure => simp [intOf]; omega
    · have e2 := vb_lo k (by omega)
      have hl1 : (vbN k).length = 1 := by rw [e2]; rfl
      have hfin : vbN Z = ds ++ [(k : Int)] := by rw [← hds.out, e2]
      replace e2 := Lib.hid e2
      replace hfin := Lib.hid hfin
      replace hgr := Lib.hid hgr
      replace hat := Lib.hid hat
      go_wp2_with (at_builtin; refine wpList_app1a rfl (.tmp 23) (.tmp 26) 65 rfl base 5 i0 _ 1 1 Tryd.underlying65 hi0 hz0 hz1 hz2 rfl (by decide) (by decide) wr #[.int .u8 (k : Int)] u0 (n0 + ds.length) _ rfl hown.out rfl rfl rfl (by omega) (by omega) ?_; intro v' w2 hown' hgrow hat')
      go_ret
      refine ⟨_, rfl, ?_, grown_at hgr.out hgrow hat.out, hat.out.trans hat' hs⟩
      rw [hZZ.out, hfin.out, List.map_append, ← List.append_assoc, List.length_append]
      exact hown'
end Go.Proofs.YtkgkpggfoieioaaDoor
