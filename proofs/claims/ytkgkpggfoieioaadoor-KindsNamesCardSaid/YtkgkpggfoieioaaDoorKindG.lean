import Derived.Test.YtkgkpggfoieioaaDoorKindC
namespace Go.Proofs.YtkgkpggfoieioaaDoor
set_option linter.unusedVariables false
open Go.RowKit
/-! kinds.Find. -/
def hasName (nm : ByteArray) (y : GK) : Bool := y.name.toList == nm.toList
def findE (L : List GK) (nm : ByteArray) : Int := if kindsE L ≠ 0 then kindsE L else if firstI (hasName nm) L < 0 then 6 else 0
def findV (L : List GK) (nm : ByteArray) : Int := if findE L nm = 0 then firstI (hasName nm) L else 0
theorem kfname_any (x : GK) (nm : ByteArray) (kb : Nat) (w : World) (hc : w.cell? ⟨kb, 0, none⟩ = some (.string nm)) (hb : kb < w.heap.size) :
    Calls Tryd.prog 55 #[kV x, .pointer (some ⟨kb, 0, none⟩)] w fun e w' => e = .returned (.bool (hasName nm x)) ∧ Below w.heap.size w w' := by
  unfold hasName
  go_enter Tryd.func55, Tryd.ntmps55
  go_wp2_with fail
  go_ret
  exact ⟨rfl, (Below.refl _ _).alloc (Nat.le_refl _) _⟩
set_option maxHeartbeats 1600000 in
set_option maxRecDepth 100000 in
theorem find_any (s : SL) (L : List GK) (nm : ByteArray) (B : Nat) (w : World) (h : KS w B s L) (hB : B ≤ w.heap.size) :
    Calls Tryd.prog 12 #[.slice s.A L.length s.c, .string nm] w fun e w' => e = .returned (.tuple #[.int .i64 (findV L nm), errV (findE L nm)]) ∧ Below w.heap.size w w' := by
  have hc := h.cap
  have hm := h.max
  obtain ⟨A, c⟩ := s
  dsimp only at hc hm ⊢
  have hb1 : Below w.heap.size w (w.alloc (.cells #[.string nm] 9)) := (Below.refl _ _).alloc (Nat.le_refl _) _
  have hk1 := Blk.new w 9 #[.string nm]
  have hkc := kcheck_any ⟨A, c⟩ L B (w.alloc (.cells #[.string nm] 9)) (h.below (hb1.mono hB)) (Nat.le_trans hB hb1.size)
  have hQ : ∀ w' E V, findE L nm = E → findV L nm = V → Below w.heap.size w w' → Ending.returned (.tuple #[.int .i64 V, errV E]) = Ending.returned (.tuple #[.int .i64 (findV L nm), errV (findE L nm)]) ∧ Below w.heap.size w w' := fun w' E V h1 h2 h3 => by rw [h1, h2]; exact ⟨rfl, h3⟩
  have hFE : findE L nm = if kindsE L ≠ 0 then kindsE L else if firstI (hasName nm) L < 0 then 6 else 0 := rfl
  have hFV : findV L nm = if findE L nm = 0 then firstI (hasName nm) L else 0 := rfl
  replace hQ := Lib.hid hQ
  replace h := Lib.hid h
  replace hkc := Lib.hid hkc
  replace hFE := Lib.hid hFE
  replace hFV := Lib.hid hFV
  dsimp only at hkc
  go_enter Tryd.func12, Tryd.ntmps12
  go_upto_region 1 with fail
  obtain ⟨kb, hkb⟩ : ∃ kb, w.heap.size = kb := ⟨_, rfl⟩
  rw [hkb]
  rw [hkb] at hk1
  generalize (w.alloc (.cells #[.string nm] 9)) = wA at *
  replace hkb := Lib.hid hkb
  have d0 : wA.cell? ⟨kb, 0, none⟩ = some (.string nm) := hk1.cell 0
  have hkl := hk1.lt
  replace hk1 := Lib.hid hk1
  replace hb1 := Lib.hid hb1
  by_cases hE : kindsE L = 0
  · have hkc1 := hkc.out
    have hK8 := (kindsE_0 hE).few
    rw [hE] at hkc1
    replace hkc1 : Calls Tryd.prog 14 #[.slice A L.length c] wA fun e w' => e = .returned .nilIface ∧ Below wA.heap.size wA w' := hkc1
    have hFE1 := hFE.out
    rw [if_neg (fun e => e hE)] at hFE1
    replace hFE1 := Lib.hid hFE1
    replace hE := Lib.hid hE
    replace hkc1 := Lib.hid hkc1
    go_wp2_with fail
    refine hkc1.out.mono ?_
    clear hkc1 hkc
    rintro e w2 ⟨rfl, hb2⟩
    have hb3 := hb1.out.trans (hb2.mono hb1.out.size)
    have hk2 := hk1.out.below hb2 hk1.out.lt
    clear d0 hkl
    have d0 : w2.cell? ⟨kb, 0, none⟩ = some (.string nm) := hk2.cell 0
    have hkl2 := hk2.lt
    have hi := idxK_any 55 (.pointer (some ⟨kb, 0, none⟩)) (hasName nm) A c B L w2 ((h.out.below (hb3.mono hB)).rd) (Nat.le_trans hB hb3.size) (by omega) (fun args w => by kernel_rfl) (fun y hy wz hz => kfname_any y nm kb wz ((hk2.below hz hk2.lt).cell 0) (by have := hz.size; omega))
    have hge := first_ge (hasName nm) L
    have hlt := first_lt (hasName nm) L
    obtain ⟨r, hr⟩ : ∃ r, firstI (hasName nm) L = r := ⟨_, rfl⟩
    rw [hr] at hi hge hlt
    have hFE2 := hFE1.out
    have hFV2 := hFV.out
    rw [hr] at hFE2 hFV2
    replace hr := Lib.hid hr
    replace hi := Lib.hid hi
    replace hb3 := Lib.hid hb3
    replace hk2 := Lib.hid hk2
    clear hb2 hk1 hb1
    by_cases hr0 : r < 0
    · rw [if_pos hr0] at hFE2
      rw [hFE2, if_neg (by decide)] at hFV2
      replace hFE2 := Lib.hid hFE2
      replace hFV2 := Lib.hid hFV2
      clear hlt
      go_wp2_with fail
      refine hi.out.mono ?_
      clear hi
      rintro e w3 ⟨rfl, hb4⟩
      have hb5 := hb3.out.trans (hb4.mono hb3.out.size)
      replace hb5 := Lib.hid hb5
      clear hb4 d0 hkl2
      go_wp2_with fail
      go_ret2
      exact hQ.out _ 6 0 hFE2.out hFV2.out hb5.out
    · rw [if_neg hr0] at hFE2
      rw [hFE2, if_pos rfl] at hFV2
      replace hFE2 := Lib.hid hFE2
      replace hFV2 := Lib.hid hFV2
      clear hlt
      go_wp2_with fail
      refine hi.out.mono ?_
      clear hi
      rintro e w3 ⟨rfl, hb4⟩
      have hb5 := hb3.out.trans (hb4.mono hb3.out.size)
      replace hb5 := Lib.hid hb5
      clear hb4 d0 hkl2
      go_wp2_with fail
      go_ret2
      exact hQ.out _ 0 r hFE2.out hFV2.out hb5.out
  · have hkc1 := hkc.out
    have hev : errV (kindsE L) = erE (kindsE L) := by unfold errV; rw [if_neg hE]
    have hFE1 := hFE.out
    rw [if_pos hE] at hFE1
    have hFV1 := hFV.out
    rw [hFE1, if_neg hE] at hFV1
    rw [hev] at hkc1
    have hQ1 := hQ.out
    have hQ2 : ∀ w', Below w.heap.size w w' → Ending.returned (.tuple #[.int .i64 0, erE (kindsE L)]) = Ending.returned (.tuple #[.int .i64 (findV L nm), errV (findE L nm)]) ∧ Below w.heap.size w w' := fun w' h => by rw [hFE1, hFV1, hev]; exact ⟨rfl, h⟩
    clear hQ1
    unfold erE at hkc1 hQ2
    generalize kindsE L = E at *
    replace hkc1 := Lib.hid hkc1
    replace hQ2 := Lib.hid hQ2
    replace hE := Lib.hid hE
    replace hev := Lib.hid hev
    replace hFE1 := Lib.hid hFE1
    replace hFV1 := Lib.hid hFV1
    go_wp2_with fail
    refine hkc1.out.mono ?_
    rintro e w2 ⟨rfl, hb2⟩
    have hb3 := hb1.out.trans (hb2.mono hb1.out.size)
    replace hb3 := Lib.hid hb3
    clear hb2
    go_wp2_with fail
    go_ret2
    exact hQ2.out _ hb3.out
end Go.Proofs.YtkgkpggfoieioaaDoor
