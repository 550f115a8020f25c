import Derived.Test.YtkgkpggfoieioaaDoorKind1
import Derived.Test.YtkgkpggfoieioaaDoorTrim0
import Derived.Test.YtkgkpggfoieioaaDoorField
import Derived.Deep.CutBlock
import Derived.Deep.DeepCutAuto
namespace Go.Proofs.YtkgkpggfoieioaaDoor
set_option linter.unusedVariables false
open Go.RowKit
/-- strings.Trim at the letters. -/
theorem trimK_any (s : ByteArray) (w : World) (hs : s.size ≤ 9223372036854775807) :
    Calls Tryd.prog 104 #[.string s, .string ⟨#[97, 98, 99, 100, 101, 102, 103, 104, 105, 106, 107, 108, 109, 110, 111, 112, 113, 114, 115, 116, 117, 118, 119, 120, 121, 122]⟩] w fun e w' => ∃ r : ByteArray, e = .returned (.string r) ∧ r.toList.isEmpty = lowB s ∧ Below w.heap.size w w' := by
  refine (Tryd.trim_any s ⟨#[97, 98, 99, 100, 101, 102, 103, 104, 105, 106, 107, 108, 109, 110, 111, 112, 113, 114, 115, 116, 117, 118, 119, 120, 121, 122]⟩ w hs (by decide) ?_).mono ?_
  · intro j b hj
    have hm : b ∈ letters := List.mem_of_getElem? hj
    have : ∀ b ∈ letters, b.toNat < 128 := by decide
    exact this b hm
  · rintro e w' ⟨rfl, hb⟩
    refine ⟨_, rfl, ?_, hb⟩
    rw [Lib.toList_data]
    show (Lib.trimS s.data.toList letters).isEmpty = lowB s
    rw [Bool.eq_iff_iff, List.isEmpty_iff, trim_low]; rfl
set_option maxHeartbeats 3200000 in
set_option maxRecDepth 100000 in
theorem kind_any (A : Option Addr) (c B i : Nat) (L : List GK) (w : World) (h : RK w B A L) (hB : B ≤ w.heap.size) (hl : L.length ≤ 1000000000) (hi : i < L.length) (hs : (gk L i).name.size ≤ 9223372036854775807) (hc : L.length ≤ c) (hcm : c ≤ 9223372036854775807) :
    Calls Tryd.prog 56 #[.slice A L.length c, .int .i64 (i : Int)] w fun e w' => e = .returned (errV (kindE L i)) ∧ Below w.heap.size w w' := by
  obtain ⟨b, o, hA, hbl, c0, c1, c2, c3, c4, c5, c6, c7, c8, c9, c10⟩ := rk_at h i hi
  have i1 : (i : Int) < (L.length : Int) := by omega
  subst hA
  have hpre := h.pre (m := i) (by omega)
  rw [show (L.flatMap kC).take (i * 11) = (L.take i).flatMap kC from flat_takeK L i] at hpre
  replace h := Lib.hid h
  replace hpre := Lib.hid hpre
  obtain ⟨x, hx⟩ : ∃ x, gk L i = x := ⟨_, rfl⟩
  rw [hx] at c0 c1 c2 c3 c4 c5 c6 c7 c8 c9 c10 hs
  replace hx := Lib.hid hx
  go_enter Tryd.func56, Tryd.ntmps56
  go_upto_region 2 with fail
  have hb1 : Below w.heap.size w (w.alloc (.cells (kC x).toArray 31)) := (Below.refl _ _).alloc (Nat.le_refl _) _
  have hk1 := Blk.new w 31 (kC x).toArray
  obtain ⟨kb, hkb⟩ : ∃ kb, w.heap.size = kb := ⟨_, rfl⟩
  have hWe : (w.alloc (.cells (kC x).toArray 31)) = w.alloc (.cells #[.string x.name, .int .i64 x.life, .int .i64 x.hit, .int .i64 x.range, .int .i64 x.sight, .int .i64 x.speed, .int .i64 x.price, .int .i64 x.turns, .int .i64 x.carry, .bool x.flies, .bool x.trains] 31) := rfl
  rw [← hWe, hkb]
  rw [hkb] at hk1
  generalize (w.alloc (.cells (kC x).toArray 31)) = wA at *
  replace hkb := Lib.hid hkb
  clear hWe c0 c1 c2 c3 c4 c5 c6 c7 c8 c9 c10
  have d0 : wA.cell? ⟨kb, 0, none⟩ = some (.string x.name) := hk1.cell 0
  have hkl := hk1.lt
  replace hk1 := Lib.hid hk1
  replace hb1 := Lib.hid hb1
  have hQ : ∀ w' E, kindE L i = E → Below w.heap.size w w' → Ending.returned (errV E) = Ending.returned (errV (kindE L i)) ∧ Below w.heap.size w w' := fun w' E h1 h2 => by rw [h1]; exact ⟨rfl, h2⟩
  have hE : kindE L i = if x.name.size = 0 ∨ 8 < x.name.size ∨ lowB x.name = false then 2 else if clashB L i = true then 8 else if x.life < 1 ∨ numsB x = true then 1 else if 4 < x.speed ∨ 12 < x.range ∨ 12 < x.sight then 1 else 0 := by
    unfold kindE; rw [hx.out]
  replace hQ := Lib.hid hQ
  have hsz : x.name.toList.length = x.name.size := by rw [Lib.toList_data, Lib.size_eq]
  by_cases hz : x.name.size = 0
  · have ht : x.name.toList = [] := List.eq_nil_of_length_eq_zero (by rw [hsz]; exact hz)
    rw [if_pos (.inl hz)] at hE
    replace hE := Lib.hid hE
    replace hz := Lib.hid hz
    replace hsz := Lib.hid hsz
    go_wp2_with fail
    go_ret
    exact hQ.out _ 2 hE.out hb1.out
  have ht : ¬ x.name.toList = [] := fun e => by rw [e] at hsz; exact hz hsz.symm
  have ht2 : (!x.name.toList.isEmpty) = true := by
    cases h : x.name.toList with
    | nil => exact absurd h ht
    | cons a r => rfl
  have ht3 : x.name.toList.isEmpty = false := by
    cases h : x.name.toList with
    | nil => exact absurd h ht
    | cons a r => rfl
  by_cases h8 : 8 < x.name.size
  · rw [if_pos (.inr (.inl h8))] at hE
    have h9 : (8 : Int) < (x.name.size : Int) := by omega
    replace hE := Lib.hid hE
    replace hz := Lib.hid hz
    replace hsz := Lib.hid hsz
    go_wp2_with fail
    go_ret
    exact hQ.out _ 2 hE.out hb1.out
  have h9 : ¬ (8 : Int) < (x.name.size : Int) := by omega
  have htr := trimK_any x.name wA hs
  replace hsz := Lib.hid hsz
  replace htr := Lib.hid htr
  cases hlow : lowB x.name with
  | false =>
    rw [if_pos (.inr (.inr hlow))] at hE
    replace hE := Lib.hid hE
    replace hz := Lib.hid hz
    go_wp2_with fail
    refine htr.out.mono ?_
    rintro e w2 ⟨r, rfl, hr, hb2⟩
    rw [hlow] at hr
    have hr1 : ¬ r.toList = [] := fun e => by rw [e] at hr; cases hr
    have hr2 : (!r.toList.isEmpty) = true := by rw [hr]; rfl
    have hb3 := hb1.out.trans (hb2.mono hb1.out.size)
    replace hlow := Lib.hid hlow
    replace hb3 := Lib.hid hb3
    clear hb2
    go_wp2_with fail
    go_ret
    exact hQ.out _ 2 hE.out hb3.out
  | true =>
    rw [if_neg (by rintro (h | h | h); exact hz h; exact h8 h; rw [hlow] at h; cases h)] at hE
    replace hz := Lib.hid hz
    replace hE := Lib.hid hE
    go_wp2_with fail
    refine htr.out.mono ?_
    rintro e w2 ⟨r, rfl, hr, hb2⟩
    rw [hlow] at hr
    have hr1 : r.toList = [] := List.isEmpty_iff.1 hr
    have hr2 : (!r.toList.isEmpty) = false := by rw [hr]; rfl
    have hb3 := hb1.out.trans (hb2.mono hb1.out.size)
    have hk2 := hk1.out.below hb2 hk1.out.lt
    have d0 : w2.cell? ⟨kb, 0, none⟩ = some (.string x.name) := hk2.cell 0
    have d1 : w2.cell? ⟨kb, 1, none⟩ = some (.int .i64 x.life) := hk2.cell 1
    have hkl2 := hk2.lt
    have hn1 := x.name
    have hct := ctnK_any 106 (.pointer (some ⟨kb, 0, none⟩)) (fun y => y.name.toList == x.name.toList) (some ⟨b, o, none⟩) c B (L.take i) w2 (by
      show RD w2 B 11 (some ⟨b, o, none⟩) (L.take i).length ((L.take i).flatMap kC)
      rw [List.length_take, Nat.min_eq_left (by omega)]
      exact hpre.out.below (hb3.mono hB)) (Nat.le_trans hB hb3.size) (by rw [List.length_take]; omega) (fun args w => by kernel_rfl) (fun y hy wz hz => kname_any y x.name kb wz ((hk2.below hz hk2.lt).cell 0) (by have := hz.size; omega))
    rw [show (L.take i).any (fun y => y.name.toList == x.name.toList) = clashB L i by unfold clashB; rw [hx.out], List.length_take, Nat.min_eq_left (by omega)] at hct
    replace hct := Lib.hid hct
    replace hk2 := Lib.hid hk2
    replace hlow := Lib.hid hlow
    replace hb3 := Lib.hid hb3
    replace hk1 := Lib.hid hk1
    clear hb2 hn1
    have hic : (i : Int) ≤ (c : Int) := by omega
    go_wp2_with fail
    refine hct.out.mono ?_
    clear hct
    rintro e w3 ⟨rfl, hb4⟩
    have hb5 := hb3.out.trans (hb4.mono hb3.out.size)
    have hk3 := hk2.out.below hb4 hk2.out.lt
    clear d0 d1 hkl2
    have d1 : w3.cell? ⟨kb, 1, none⟩ = some (.int .i64 x.life) := hk3.cell 1
    have d3 : w3.cell? ⟨kb, 3, none⟩ = some (.int .i64 x.range) := hk3.cell 3
    have d4 : w3.cell? ⟨kb, 4, none⟩ = some (.int .i64 x.sight) := hk3.cell 4
    have d5 : w3.cell? ⟨kb, 5, none⟩ = some (.int .i64 x.speed) := hk3.cell 5
    have hkl3 := hk3.lt
    replace hb5 := Lib.hid hb5
    replace hk3 := Lib.hid hk3
    clear hb4 hb3 hk2
    have hE2 := hE.out
    cases hcl : clashB L i with
    | true =>
      rw [if_pos hcl] at hE2
      replace hE2 := Lib.hid hE2
      replace hcl := Lib.hid hcl
      go_wp2_with fail
      go_ret
      exact hQ.out _ 8 hE2.out hb5.out
    | false =>
      rw [if_neg (by rw [hcl]; simp)] at hE2
      replace hcl := Lib.hid hcl
      by_cases hlf : x.life < 1
      · rw [if_pos (.inl hlf)] at hE2
        have e1 : decide (x.life < 1) = true := decide_eq_true hlf
        replace hE2 := Lib.hid hE2
        go_wp2_with fail
        go_ret
        exact hQ.out _ 1 hE2.out hb5.out
      · have e1 : decide (x.life < 1) = false := decide_eq_false hlf
        have hnb := numbers_any kb w3
        replace hnb := Lib.hid hnb
        go_wp2_with fail
        refine hnb.out.mono ?_
        clear hnb
        rintro e w4 ⟨rfl, hsb, hb6⟩
        have hb7 := hb5.out.trans (hb6.mono hb5.out.size)
        have hk4 := hk3.out.below hb6 hk3.out.lt
        have hcn := ctnN_any w3.heap.size kb x w4 hsb hk4
        clear d1 d3 d4 d5 hkl3
        have d3 : w4.cell? ⟨kb, 3, none⟩ = some (.int .i64 x.range) := hk4.cell 3
        have d4 : w4.cell? ⟨kb, 4, none⟩ = some (.int .i64 x.sight) := hk4.cell 4
        have d5 : w4.cell? ⟨kb, 5, none⟩ = some (.int .i64 x.speed) := hk4.cell 5
        have hkl4 := hk4.lt
        replace hcn := Lib.hid hcn
        replace hb7 := Lib.hid hb7
        replace hk4 := Lib.hid hk4
        clear hsb hb6 hb5 hk3
        go_wp2_with fail
        refine hcn.out.mono ?_
        clear hcn
        rintro e w5 ⟨rfl, rfl⟩
        cases hnm : numsB x with
        | true =>
          rw [if_pos (.inr hnm)] at hE2
          replace hE2 := Lib.hid hE2
          replace hnm := Lib.hid hnm
          go_wp2_with fail
          go_ret
          exact hQ.out _ 1 hE2.out hb7.out
        | false =>
          rw [if_neg (by rintro (h | h); omega; rw [hnm] at h; cases h)] at hE2
          replace hnm := Lib.hid hnm
          by_cases h5 : 4 < x.speed
          · rw [if_pos (.inl h5)] at hE2
            have e5 : decide (4 < x.speed) = true := decide_eq_true h5
            replace hE2 := Lib.hid hE2
            go_wp2_with fail
            go_ret
            exact hQ.out _ 1 hE2.out hb7.out
          have e5 : decide (4 < x.speed) = false := decide_eq_false h5
          by_cases h6 : 12 < x.range
          · rw [if_pos (.inr (.inl h6))] at hE2
            have e6 : decide (12 < x.range) = true := decide_eq_true h6
            replace hE2 := Lib.hid hE2
            go_wp2_with fail
            go_ret
            exact hQ.out _ 1 hE2.out hb7.out
          have e6 : decide (12 < x.range) = false := decide_eq_false h6
          by_cases h7 : 12 < x.sight
          · rw [if_pos (.inr (.inr h7))] at hE2
            have e7 : decide (12 < x.sight) = true := decide_eq_true h7
            replace hE2 := Lib.hid hE2
            go_wp2_with fail
            go_ret
            exact hQ.out _ 1 hE2.out hb7.out
          have e7 : decide (12 < x.sight) = false := decide_eq_false h7
          rw [if_neg (by omega)] at hE2
          replace hE2 := Lib.hid hE2
          go_wp2_with fail
          go_ret
          exact hQ.out _ 0 hE2.out hb7.out
end Go.Proofs.YtkgkpggfoieioaaDoor
