import Derived.Test.YtkgkpggfoieioaaGreatDoorMrgg
namespace Go.Proofs.YtkgkpggfoieioaaGreatDoor
set_option linter.unusedVariables false
open Go.RowKit
/-- A slice of kinds, as it may be anywhere. -/
structure KS (w : World) (B : Nat) (s : SL) (L : List GK) : Prop where
  rd : RK w B s.A L
  nil : s.A = none → s.c = 0
  cap : L.length ≤ s.c
  max : s.c ≤ 9223372036854775807
  str : ∀ x ∈ L, x.name.size ≤ 9223372036854775807
theorem KS.below {w w' : World} {B : Nat} {s : SL} {L : List GK} (h : KS w B s L) (hb : Below B w w') : KS w' B s L := ⟨h.rd.below hb, h.nil, h.cap, h.max, h.str⟩
theorem KS.more {w : World} {B B' : Nat} {s : SL} {L : List GK} (h : KS w B s L) (hb : B ≤ B') : KS w B' s L := ⟨h.rd.more hb, h.nil, h.cap, h.max, h.str⟩
theorem KS.drewN {w : World} {B : Nat} {s : SL} {L : List GK} (h : KS w B s L) (q : Nat) : KS (w.drewN q) B s L := ⟨h.rd.drewN q, h.nil, h.cap, h.max, h.str⟩
theorem SLK.ks {w : World} {s : SL} {L : List GK} (h : SLK w s L) : KS w w.heap.size s L := by
  obtain ⟨h1, h2, h3, h4, h5⟩ := h
  unfold maxLen at h4
  exact ⟨h1, h2, h3, by omega, fun x hx => (h5 x hx).1⟩
set_option maxHeartbeats 1600000 in
set_option maxRecDepth 100000 in
theorem kcheck_any (s : SL) (L : List GK) (B : Nat) (w : World) (h : KS w B s L) (hB : B ≤ w.heap.size) :
    Calls Tryz.prog 29 #[.slice s.A L.length s.c] w fun e w' => e = .returned (errV (kindsE L)) ∧ Below w.heap.size w w' := by
  have hc := h.cap
  have hm := h.max
  obtain ⟨A, c⟩ := s
  dsimp only at hc hm ⊢
  replace h := Lib.hid h
  by_cases hn : 8 < L.length
  · have hv : kindsE L = 4 := by unfold kindsE; rw [if_pos hn]
    have z1 : (8 : Int) < (L.length : Int) := by omega
    rw [hv]
    clear hv
    go_enter Tryz.func29, Tryz.ntmps29
    go_wp2_with fail
    go_ret
    exact ⟨rfl, Below.refl _ _⟩
  · have z1 : ¬ (8 : Int) < (L.length : Int) := by omega
    have hv : kindsE L = kindsN L L.length := by unfold kindsE; rw [if_neg hn]
    replace hv := Lib.hid hv
    go_enter Tryz.func29, Tryz.ntmps29
    go_wp2_with fail
    go_loopw [11] (fun vi wr => ∃ k : Nat, vi = .int .i64 k ∧ k ≤ L.length ∧ Hid (kindsN L k = 0) ∧ Hid (Below w.heap.size w wr)) (fun vi _ => L.length - (intOf vi).toNat)
    case atStart => exact ⟨0, rfl, Nat.zero_le _, Lib.hid rfl, Lib.hid (Below.refl _ _)⟩
    case round =>
      obtain ⟨k, rfl, hk, hz, hb⟩ := hrel
      by_cases hlt : k < L.length
      · have z2 : (k : Int) < (L.length : Int) := by omega
        have hs := hb.out.size
        have hk1 := kind_any A c B k L wr (h.out.rd.below (hb.out.mono hB)) (Nat.le_trans hB hs) (by omega) hlt (h.out.str _ (gk_mem hlt)) hc hm
        have hst : kindsN L (k + 1) = kindE L k := by rw [kindsN, if_neg (fun e => e hz.out)]
        have hmo := kindsN_mono L (k + 1) L.length (by omega)
        by_cases he : kindE L k = 0
        · rw [he] at hk1 hst
          replace hk1 := Lib.hid hk1
          replace hst := Lib.hid hst
          replace he := Lib.hid he
          replace hmo := Lib.hid hmo
          go_wp2_with fail
          refine hk1.out.mono ?_
          rintro e w1 ⟨rfl, hb1⟩
          have hb2 := hb.out.trans (hb1.mono hs)
          replace hb2 := Lib.hid hb2
          clear hb1
          unfold errV
          go_wp2_with fail
          go_roundw
          case rel => exact ⟨k + 1, by go_num, by omega, hst, hb2⟩
          case measure => simp [intOf]; omega
        · have hfin : errV (kindsE L) = errV (kindE L k) := by rw [hv.out, hmo (by rw [hst]; exact he), hst]
          have hev : errV (kindE L k) = erE (kindE L k) := by unfold errV; rw [if_neg he]
          rw [hev] at hk1 hfin
          unfold erE at hk1 hfin
          replace hk1 := Lib.hid hk1
          replace hst := Lib.hid hst
          replace he := Lib.hid he
          replace hmo := Lib.hid hmo
          replace hfin := Lib.hid hfin
          replace hev := Lib.hid hev
          go_wp2_with fail
          refine hk1.out.mono ?_
          rintro e w1 ⟨rfl, hb1⟩
          have hb2 := hb.out.trans (hb1.mono hs)
          replace hb2 := Lib.hid hb2
          clear hb1
          go_wp2_with fail
          go_ret
          exact ⟨by rw [hfin.out]; rfl, hb2.out⟩
      · have z2 : ¬ (k : Int) < (L.length : Int) := by omega
        obtain rfl : k = L.length := by omega
        have hfin : errV (kindsE L) = .nilIface := by rw [hv.out, hz.out]; rfl
        replace hfin := Lib.hid hfin
        go_wp2_with fail
        go_ret
        exact ⟨by rw [hfin.out]; rfl, hb.out⟩
end Go.Proofs.YtkgkpggfoieioaaGreatDoor
