import Derived.Test.YtkngommlclcikaaDoorPlainX
namespace Go.Proofs.YtkngommlclcikaaDoor
set_option linter.unusedVariables false
open Go.RowKit
theorem list_info : (Tryd.prog.info? 3).map (fun i => (i.zero, i.size, i.bytes)) = some (some (.int .i64 0), 1, 8) := by kernel_rfl
set_option maxHeartbeats 1600000 in
set_option maxRecDepth 100000 in
theorem list_any {g D c : Nat} {A : Option Addr} {bs : List Int} (st : Option Nat) (w : World) (h : ROk w g A c D bs st) (hbs : ∀ x ∈ bs, Byte x) (hl : bs.length ≤ 9223372036854775807) (hD : D ≤ w.heap.size) :
    Calls Tryd.prog 72 #[.pointer (some ⟨g, 0, none⟩)] w fun e w' => ∃ v, e = .returned v ∧ w'.ownsRow w.heap.size 3 1 v (rdLs bs st).1.length ((rdLs bs st).1.map (.int .i64)) ∧ ROk w' g A c D bs (rdLs bs st).2 ∧ w.grownBy w' (some g) := by
  obtain ⟨i0, hi0, hz0, hz1, hz2⟩ := info_parts list_info
  have H := Lib.hid h
  have HB := Lib.hid hbs
  have hgl := h.lt
  have hAlt : ∀ b o, A = some ⟨b, o, none⟩ → 0 < bs.length → b < w.heap.size := fun b o e hp => by
    obtain ⟨b', o', e', hlt, _⟩ := h.rd.2 hp
    rw [e] at e'
    injection e' with e'
    injection e' with e1 e2
    omega
  replace hAlt := Lib.hid hAlt
  clear h hbs
  have hbd := rdM_bd bs st
  have hR : rdLs bs st = rdNs bs (rdM bs st 200).2 (rdM bs st 200).1.toNat := rfl
  have hm := many_any st 200 w H.out HB.out hl
  generalize rdLs bs st = R at *
  generalize rdM bs st 200 = M at *
  obtain ⟨m, s0⟩ := M
  dsimp only at *
  obtain ⟨n, rfl⟩ : ∃ n : Nat, m = (n : Int) := ⟨m.toNat, by omega⟩
  rw [Int.toNat_natCast] at hR
  have hn : n ≤ 200 := by omega
  replace hR := Lib.hid hR
  replace hm := Lib.hid hm
  clear hbd
  go_enter Tryd.func72, Tryd.ntmps72
  go_wp2_with fail
  refine hm.out.mono ?_
  clear hm
  rintro e W1 ⟨rfl, ho, hg⟩
  have hs1 := hg.size
  replace ho := Lib.hid ho
  replace hg := Lib.hid hg
  go_wp2_with fail
  go_loopw [2, 5] (fun vl vi wr => ∃ k : Nat, vi = .int .i64 k ∧ k ≤ n ∧ Hid (wr.ownsRow w.heap.size 3 1 vl k ((rdNs bs s0 k).1.map (.int .i64))) ∧ Hid (ROk wr g A c D bs (rdNs bs s0 k).2) ∧ Hid (w.grownBy wr (some g))) (fun _ vi _ => n - (intOf vi).toNat)
  case atStart => exact ⟨0, rfl, Nat.zero_le _, Lib.hid (World.ownsRow_nil _ _ _ _), ho, hg⟩
  case round =>
    clear ho hg hs1
    obtain ⟨k, rfl, hk, hown, ho, hg⟩ := hrel
    have hs := hg.out.size
    by_cases hlt : k < n
    · have j1 : (k : Int) < (n : Int) := by omega
      have hnx : rdNs bs s0 (k + 1) = ((rdNs bs s0 k).1 ++ [(rdS bs (rdNs bs s0 k).2).1], (rdS bs (rdNs bs s0 k).2).2) := rfl
      have hc := rnum_any (rdNs bs s0 k).2 wr ho.out HB.out hl
      generalize rdS bs (rdNs bs s0 k).2 = r at *
      obtain ⟨x, s1⟩ := r
      dsimp only at *
      have hx1 : (rdNs bs s0 (k + 1)).1.map (Value.int .i64) = (rdNs bs s0 k).1.map (.int .i64) ++ [.int .i64 x] := by rw [hnx]; simp
      have hx2 : (rdNs bs s0 (k + 1)).2 = s1 := by rw [hnx]
      replace hx1 := Lib.hid hx1
      replace hx2 := Lib.hid hx2
      replace hc := Lib.hid hc
      clear hnx
      go_wp2_with fail
      refine hc.out.mono ?_
      clear hc
      rintro e W2 ⟨rfl, ho2, hg2⟩
      have hs2 := hg2.size
      have hown2 := hown.out.kept hg2 (by cases hv : u2.ownBlock with
        | none => exact .inl rfl
        | some b => exact .inr (fun e => by injection e with e; have := (hown.out.lt b hv).1; omega))
      have hgg := grownBy_trans hg.out hg2
      replace ho2 := Lib.hid ho2
      replace hown2 := Lib.hid hown2
      replace hgg := Lib.hid hgg
      clear hown ho hg hg2
      generalize (rdNs bs s0 k).1.map (Value.int .i64) = cs at *
      go_wp2_with (at_builtin; refine wpList_app1 rfl (.tmp 7) (.tmp 10) 23 rfl w.heap.size 3 i0 _ 1 8 Tryd.underlying23 hi0 hz0 hz1 hz2 rfl (by decide) (by decide) W2 #[.int .i64 x] u2 k cs rfl hown2.out rfl rfl rfl (by omega) (by omega) ?_; intro v' W3 hown' hgrow)
      have hob : ∀ b, u2.ownBlock = some b → w.heap.size ≤ b := fun b hv => (hown2.out.lt b hv).1
      have ho3 := ho2.out.grown hgrow (fun e => by have := hob _ e; omega) (fun b o e hp e' => by have h1 := hAlt.out b o e hp; have h2 := hob _ e'; omega)
      have hg3 : w.grownBy W3 (some g) := ⟨hgrow.os.trans hgg.out.os, hgrow.tape.trans hgg.out.tape, hgrow.output.trans hgg.out.output, Nat.le_trans hgg.out.size hgrow.size, fun x hx hne => (hgrow.block x (by have := hgg.out.size; omega) (fun e => by have := hob x e.symm; omega)).trans (hgg.out.block x hx hne)⟩
      replace ho3 := Lib.hid ho3
      replace hg3 := Lib.hid hg3
      replace hown' := Lib.hid hown'
      clear hgrow
      go_roundw
      case rel => exact ⟨k + 1, by go_num, by omega, Lib.hid (by rw [hx1.out]; exact hown'.out), Lib.hid (by rw [hx2.out]; exact ho3.out), hg3⟩
      case measure => simp [intOf]; omega
    · have j1 : ¬ (k : Int) < (n : Int) := by omega
      have hfin : wr.ownsRow w.heap.size 3 1 u2 R.1.length (R.1.map (.int .i64)) ∧ ROk wr g A c D bs R.2 := by
        rw [hR.out, show n = k by omega, rdNs_len]
        exact ⟨hown.out, ho.out⟩
      replace hfin := Lib.hid hfin
      clear hown ho
      go_wp2_with fail
      go_ret
      exact ⟨u2, rfl, hfin.out.1, hfin.out.2, hg.out⟩
end Go.Proofs.YtkngommlclcikaaDoor
