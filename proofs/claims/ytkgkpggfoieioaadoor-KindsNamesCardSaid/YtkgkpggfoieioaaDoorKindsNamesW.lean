import Derived.Test.YtkgkpggfoieioaaDoorWorthW
import Derived.Test.YtkgkpggfoieioaaDoorKindG
import Derived.Test.YtkgkpggfoieioaaDoorSorts
import Derived.OwnWalk
namespace Go.Proofs.YtkgkpggfoieioaaDoor
set_option linter.unusedVariables false
open Go.RowKit
/-! KindsNames. -/
theorem unitK_inf : (Tryd.prog.info? 33).map (fun i => (i.zero, i.size, i.bytes)) = some (some (.agg #[.int .i64 0, .int .i64 0, .int .i64 0, .int .i64 0, .int .i64 0, .int .i64 0, .int .i64 0, .int .i64 0]), 8, 64) := by kernel_rfl
def fighter : ByteArray := ⟨#[102, 105, 103, 104, 116, 101, 114]⟩
theorem hasName_data (nm : ByteArray) (y : GK) : hasName nm y = (y.name.data.toList == nm.data.toList) := by
  unfold hasName; simp only [Lib.toList_data]
theorem sorts_find : findE sortsL fighter = 0 ∧ findV sortsL fighter = 2 := by
  have h : firstI (hasName fighter) sortsL = 2 := by
    have e : hasName fighter = fun y => y.name.data.toList == fighter.data.toList := funext fun y => hasName_data _ _
    rw [e]; rfl
  have h1 : findE sortsL fighter = 0 := by unfold findE; rw [if_neg (by rw [sorts_0]; simp), h]; rfl
  exact ⟨h1, by unfold findV; rw [h1, if_pos rfl, h]⟩
theorem find_own {L : List GK} (hE : kindsE L = 0) {i : Nat} (hi : i < L.length) : findE L (gk L i).name = 0 ∧ findV L (gk L i).name = i := by
  have hK := kindsE_0 hE
  have h : firstI (hasName (gk L i).name) L = i := by
    refine first_at _ L i _ (gk_get hi) (by unfold hasName; simp) fun y hy => ?_
    obtain ⟨j, hj⟩ := List.mem_iff_getElem?.1 hy
    have hjl : j < i := by
      have := (List.getElem?_eq_some_iff.1 hj).1
      rw [List.length_take] at this; omega
    rw [List.getElem?_take_of_lt hjl, gk_get (by omega)] at hj
    injection hj with hj
    subst hj
    unfold hasName
    have := hK.apart i j hjl hi
    simpa using this
  have h1 : findE L (gk L i).name = 0 := by unfold findE; rw [if_neg (by rw [hE]; simp), h, if_neg (by omega)]
  exact ⟨h1, by unfold findV; rw [h1, if_pos rfl, h]⟩
/-- A whole unit of each kind; their prices together. -/
def uS (L : List GK) : Nat → List GU
  | 0 => []
  | k + 1 => uS L k ++ [⟨0, 2, (k : Int), 0, (gk L k).life, 0, 0, 0⟩]
def sP (L : List GK) : Nat → Int
  | 0 => 0
  | k + 1 => sP L k + (gk L k).price
theorem uS_len (L : List GK) : ∀ k, (uS L k).length = k
  | 0 => rfl
  | k + 1 => by rw [uS, List.length_append, uS_len L k]; rfl
theorem uS_at (L : List GK) : ∀ n i, i < n → gu (uS L n) i = ⟨0, 2, (i : Int), 0, (gk L i).life, 0, 0, 0⟩
  | 0, i, h => by omega
  | n + 1, i, h => by
    unfold gu
    rw [uS, List.getD_eq_getElem?_getD]
    rcases Nat.lt_or_ge i n with h1 | h1
    · rw [List.getElem?_append_left (by rw [uS_len]; exact h1), ← List.getD_eq_getElem?_getD]
      exact uS_at L n i h1
    · obtain rfl : i = n := by omega
      rw [List.getElem?_append_right (by rw [uS_len]; exact Nat.le_refl _), uS_len]
      simp
theorem uS_ok {L : List GK} (hK : KindsOk L) {n : Nat} (hn : n ≤ L.length) : ∀ u ∈ uS L n, u.ok := fun u hu => by
  obtain ⟨i, hi, rfl⟩ := gu_of hu
  rw [uS_len] at hi
  rw [uS_at L n i hi]
  have := (hK.each i (by omega)).life
  have hf := hK.few
  unfold GU.ok I64
  dsimp only
  omega
theorem uS_good {L : List GK} (hK : KindsOk L) {n : Nat} (hn : n ≤ L.length) : (uS L n).any (unitBad L) = false := by
  rw [List.any_eq_false]
  intro u hu
  obtain ⟨i, hi, rfl⟩ := gu_of hu
  rw [uS_len] at hi
  rw [uS_at L n i hi]
  have := (hK.each i (by omega)).life
  unfold unitBad
  simp only [Bool.or_eq_true, decide_eq_true_eq, Int.toNat_natCast, not_or]
  omega
theorem sP_bd {L : List GK} (hK : KindsOk L) : ∀ k, k ≤ L.length → 0 ≤ sP L k ∧ sP L k ≤ 1000 * k
  | 0, _ => ⟨Int.le_refl _, by simp [sP]⟩
  | k + 1, h => by
    have := sP_bd hK k (by omega)
    have := (hK.each k (by omega)).price
    rw [sP]; omega
theorem worthN_uS {L : List GK} (hK : KindsOk L) (n : Nat) (hn : n ≤ L.length) : ∀ k, k ≤ n → worthN L (uS L n) k = [0, 0, sP L k, 0]
  | 0, _ => rfl
  | k + 1, h => by
    rw [worthN, worthN_uS hK n hn k (by omega), uS_at L n k (by omega)]
    have := (hK.each k (by omega)).life
    have e : worthU L ⟨0, 2, (k : Int), 0, (gk L k).life, 0, 0, 0⟩ = (gk L k).price := by
      unfold worthU
      simp only [Int.toNat_natCast]
      exact Int.mul_ediv_cancel _ (by omega)
    rw [addW, e]
    rfl
theorem worthE_uS {L : List GK} (hE : kindsE L = 0) {n : Nat} (hn : n ≤ L.length) : worthE L (uS L n) = 0 := by
  have hK := kindsE_0 hE
  have := hK.few
  unfold worthE
  rw [if_neg (by rw [hE]; simp), if_neg (by rw [uS_len]; omega), uS_good hK hn]
  rfl
def URel (w : World) (L : List GK) (k : Nat) (v : Value) (wr : World) : Prop := Below w.heap.size w wr ∧ wr.ownsRow w.heap.size 33 8 v k ((uS L k).flatMap uC)
set_option maxHeartbeats 3200000 in
set_option maxRecDepth 100000 in
theorem kindsNames_any (v : Value) (x : SL × List GK) (w : World) (h : v = .slice x.1.A x.2.length x.1.c ∧ SLK w x.1 x.2) :
    Calls Tryd.prog 3 #[v] w fun e w' => e = .returned (.bool true) ∧ Below w.heap.size w w' := by
  obtain ⟨i0, hi0, hz0, hz1, hz2⟩ := info_parts unitK_inf
  obtain ⟨rfl, h⟩ := h
  obtain ⟨⟨A, c⟩, L⟩ := x
  have hKS := h.ks
  clear h
  have hcap := hKS.cap
  have hmx := hKS.max
  dsimp only at hcap hmx ⊢
  have hs := sorts_any w
  replace hs := Lib.hid hs
  replace hKS := Lib.hid hKS
  go_enter Tryd.func3, Tryd.ntmps3
  go_wp2_with fail
  refine hs.out.mono ?_
  clear hs
  rintro e w1 ⟨rfl, hk1, hb1, hz1⟩
  have hf := find_any _ sortsL fighter (w.heap.size + 1) w1 hk1 hz1
  rw [sorts_find.1, sorts_find.2] at hf
  replace hf : Calls Tryd.prog 12 #[.slice (some ⟨w.heap.size, 0, none⟩) 3 3, .string ⟨#[102, 105, 103, 104, 116, 101, 114]⟩] w1 fun e w' => e = .returned (.tuple #[.int .i64 2, .nilIface]) ∧ Below w1.heap.size w1 w' := hf
  replace hf := Lib.hid hf
  replace hb1 := Lib.hid hb1
  clear hk1
  go_wp2_with fail
  refine hf.out.mono ?_
  clear hf
  rintro e w2 ⟨rfl, hb2⟩
  have hb3 := hb1.out.trans (hb2.mono hb1.out.size)
  have hkc := kcheck_any ⟨A, c⟩ L w.heap.size w2 (hKS.out.below hb3) hb3.size
  dsimp only at hkc
  have hs2 := hb3.size
  replace hb3 := Lib.hid hb3
  clear hb2 hb1 hz1
  by_cases hE : kindsE L = 0
  · rw [hE] at hkc
    replace hkc : Calls Tryd.prog 14 #[.slice A L.length c] w2 fun e w' => e = .returned .nilIface ∧ Below w2.heap.size w2 w' := hkc
    have hK := kindsE_0 hE
    have hl8 := hK.few
    replace hkc := Lib.hid hkc
    replace hK := Lib.hid hK
    replace hE := Lib.hid hE
    go_wp2_with fail
    refine hkc.out.mono ?_
    clear hkc
    rintro e w3 ⟨rfl, hb4⟩
    have hb5 := hb3.out.trans (hb4.mono hs2)
    have hU : URel w L 0 (.slice none 0 0) w3 := ⟨hb5, World.ownsRow_nil _ _ _ _⟩
    replace hU := Lib.hid hU
    clear hb4 hb3 hb5 hs2
    go_wp2_with fail
    go_loopw [6, 7, 8] (fun vu vs vi wr => ∃ k : Nat, vi = .int .i64 k ∧ k ≤ L.length ∧ vs = .int .i64 (sP L k) ∧ Hid (URel w L k vu wr)) (fun _ _ vi _ => L.length - (intOf vi).toNat)
    case atStart => exact ⟨0, rfl, Nat.zero_le _, rfl, hU⟩
    case round =>
      clear hU
      obtain ⟨k, rfl, hk, rfl, hU⟩ := hrel
      obtain ⟨hb, hown⟩ := hU.out
      obtain ⟨U, cu, rfl, _⟩ := own_slice hown
      have hs := hb.size
      by_cases hlt : k < L.length
      · have z1 : (k : Int) < (L.length : Int) := by omega
        have hKr := hKS.out.below hb
        have hfo := find_own hE.out hlt
        have hf := find_any ⟨A, c⟩ L (gk L k).name w.heap.size wr hKr hs
        rw [hfo.1, hfo.2] at hf
        obtain ⟨b, o, hA, hbl, c0, c1, c2, c3, c4, c5, c6, c7, c8, c9, c10⟩ := rk_at hKr.rd k hlt
        dsimp only at hA
        subst hA
        replace hf : Calls Tryd.prog 12 #[.slice (some ⟨b, o, none⟩) L.length c, .string (gk L k).name] wr fun e w' => e = .returned (.tuple #[.int .i64 (k : Int), .nilIface]) ∧ Below wr.heap.size wr w' := hf
        have hkk := hK.out.each k hlt
        have hlf := hkk.life
        have hpr := hkk.price
        have hsb := sP_bd hK.out k hk
        have hnext : URel w L k (.slice U k cu) wr → ∀ w4 v8 w8, Below wr.heap.size wr w4 → (w8.ownsRow w.heap.size 33 8 v8 (k + 1) ((uS L k).flatMap uC ++ [.int .i64 0, .int .i64 2, .int .i64 (k : Int), .int .i64 0, .int .i64 (gk L k).life, .int .i64 0, .int .i64 0, .int .i64 0])) → w4.grownBy w8 (Value.slice U k cu).ownBlock → URel w L (k + 1) v8 w8 := fun h w4 v8 w8 hb4 ho hg =>
          ⟨(h.1.trans (hb4.mono h.1.size)).grown hg (Nat.le_trans h.1.size hb4.size) (fun b e => (h.2.lt b e).1), by rw [uS, List.flatMap_append]; exact ho⟩
        have hsp : sP L (k + 1) = sP L k + (gk L k).price := rfl
        have c0' := c0
        generalize hnme : (gk L k).name = nm at *
        generalize hlfe : (gk L k).life = lf at *
        generalize hpre : (gk L k).price = pr at *
        replace hnme := Lib.hid hnme
        replace hlfe := Lib.hid hlfe
        replace hpre := Lib.hid hpre
        replace hf := Lib.hid hf
        replace hnext := Lib.hid hnext
        replace hsp := Lib.hid hsp
        replace hKr := Lib.hid hKr
        replace hb := Lib.hid hb
        replace hown := Lib.hid hown
        replace hfo := Lib.hid hfo
        replace hkk := Lib.hid hkk
        clear c1 c2 c3 c4 c5 c6 c7 c8 c9 c10 c0'
        go_wp2_with fail
        refine hf.out.mono ?_
        clear hf
        rintro e w4 ⟨rfl, hb4⟩
        have hs4 := hb4.size
        obtain ⟨b', o', hA, hbl', d0, d1, d2, d3, d4, d5, d6, d7, d8, d9, d10⟩ := rk_at (hKr.out.rd.below (hb4.mono hs)) k hlt
        injection hA with hA
        injection hA with e1 e2
        subst e1; subst e2
        have hown4 := own_below hown.out hb4
        have hbase : w.heap.size ≤ w4.heap.size := Nat.le_trans hs hs4
        have hn4 := fun v8 w8 => hnext.out hU.out w4 v8 w8 hb4
        have hbl4 : b < w4.heap.size := Nat.lt_of_lt_of_le hbl hbase
        rw [show (gk L k).life = lf from hlfe.out] at d1
        replace hown4 := Lib.hid hown4
        replace hn4 := Lib.hid hn4
        replace hb4 := Lib.hid hb4
        clear d0 d2 d3 d4 d5 d6 d7 d8 d9 d10 hnext c0
        go_wp2_with (first | (at_builtin; refine wpList_app1 rfl (.tmp 50) (.tmp 58) 29 rfl w.heap.size 33 i0 _ 8 64 Tryd.underlying29 hi0 hz0 hz1 hz2 rfl (by decide) (by decide) w4 #[.int .i64 0, .int .i64 2, .int .i64 (k : Int), .int .i64 0, .int .i64 lf, .int .i64 0, .int .i64 0, .int .i64 0] (.slice U k cu) k ((uS L k).flatMap uC) rfl hown4.out rfl rfl rfl (by omega) hbase ?_; intro v8 w8 hown8 hg8; have hU8 := hn4.out v8 w8 hown8 hg8; obtain ⟨A8, c8, rfl, _⟩ := own_slice hown8; clear hown8 hg8; obtain ⟨b', o', hA, hbl', d0, d1, d2, d3, d4, d5, d6, d7, d8, d9, d10⟩ := rk_at (hKS.out.below hU8.1).rd k hlt; injection hA with hA; injection hA with e1 e2; subst e1; subst e2; have hbl8 : b < w8.heap.size := Nat.lt_of_lt_of_le hbl hU8.1.size; rw [show (gk L k).price = pr from hpre.out] at d6; replace hU8 := Lib.hid hU8; clear d0 d1 d2 d3 d4 d5 d7 d8 d9 d10))
        go_roundw
        case rel => exact ⟨k + 1, by go_num, by omega, by rw [hsp.out], hU8⟩
        case measure => simp [intOf]; omega
      · have z1 : ¬ (k : Int) < (L.length : Int) := by omega
        obtain rfl : k = L.length := by omega
        have hU2 : RU wr wr.heap.size U (uS L L.length) := by
          show RD wr wr.heap.size 8 U (uS L L.length).length _
          rw [uS_len]
          exact RD.of_own hown
        have hw := worth_any ⟨A, c⟩ L wr.heap.size U cu (uS L L.length) wr ((hKS.out.below hb).more hs) hU2 (Nat.le_refl _) (by rw [uS_len]; omega) (uS_ok hK.out (Nat.le_refl _))
        unfold WorthPost at hw
        rw [uS_len, worthN_uS hK.out _ (Nat.le_refl _) _ (Nat.le_refl _)] at hw
        have hW0 := worthE_uS hE.out (Nat.le_refl _)
        have hsb := sP_bd hK.out L.length (Nat.le_refl _)
        replace hw := Lib.hid hw
        replace hb := Lib.hid hb
        replace hW0 := Lib.hid hW0
        clear hU hU2 hown
        generalize sP L L.length = sp at *
        dsimp only at hw
        go_wp2_with fail
        refine hw.out.mono ?_
        clear hw
        rintro e w5 (⟨h, _⟩ | ⟨_, ob, rfl, hob, hobs, hb6⟩)
        · exact absurd hW0.out h
        have hb7 := hb.out.trans (hb6.mono hs)
        have d0 : w5.cell? ⟨ob, 0, none⟩ = some (.int .i64 0) := hob.cell 0
        have d2 : w5.cell? ⟨ob, 2, none⟩ = some (.int .i64 sp) := hob.cell 2
        have d3 : w5.cell? ⟨ob, 3, none⟩ = some (.int .i64 0) := hob.cell 3
        have hol := hob.lt
        replace hb7 := Lib.hid hb7
        clear hob hb6
        go_wp2_with fail
        go_ret
        exact ⟨rfl, hb7.out⟩
  · have hev : errV (kindsE L) = erE (kindsE L) := by unfold errV; rw [if_neg hE]
    rw [hev] at hkc
    unfold erE at hkc
    generalize kindsE L = E at *
    replace hkc := Lib.hid hkc
    replace hev := Lib.hid hev
    go_wp2_with fail
    refine hkc.out.mono ?_
    rintro e w3 ⟨rfl, hb4⟩
    have hb5 := hb3.out.trans (hb4.mono hs2)
    replace hb5 := Lib.hid hb5
    clear hb4
    go_wp2_with fail
    go_ret
    exact ⟨rfl, hb5.out⟩
end Go.Proofs.YtkgkpggfoieioaaDoor
