import Derived.Test.YtkgkpggfoieioaaGreatDoorKindC
import Derived.Deep.CutBlock
import Derived.Deep.DeepCutAuto
namespace Go.Proofs.YtkgkpggfoieioaaGreatDoor
set_option linter.unusedVariables false
open Go.RowKit
/-! The reference's Kind, Kinds. -/
theorem two_boxesK (w : World) (t t' : TypeId) (cs cs' : Array Value) : Below w.heap.size w ((w.alloc (.cells cs t)).alloc (.cells cs' t')) ∧ Blk ((w.alloc (.cells cs t)).alloc (.cells cs' t')) w.heap.size t cs ∧ Blk ((w.alloc (.cells cs t)).alloc (.cells cs' t')) (w.heap.size + 1) t' cs' :=
  ⟨((Below.refl _ _).alloc (Nat.le_refl _) _).alloc (by simp) _, (Blk.new _ _ _).alloc _, by have := Blk.new (w.alloc (.cells cs t)) t' cs'; simpa using this⟩
def lowb (b : UInt8) : Bool := decide (97 ≤ b.toNat) && decide (b.toNat ≤ 122)
def nb (s : ByteArray) (k : Nat) : Nat := (s.data.toList.getD k 0).toNat
theorem strk_at (s : ByteArray) (k : Nat) (hk : k < s.size) (w : World) : (Instr.index 9 (.string s) (.int .i64 (k : Int))).run Tryz.prog w = .ok (.int .u8 (nb s k : Int)) w := by
  rw [run_index_string _ _ _ _ _ Tryz.underlying9, dif_pos ⟨by omega, by omega⟩]
  have h1 : k < s.data.toList.length := hk
  have : nb s k = (s[k]'hk).toNat := by
    unfold nb
    rw [List.getD_eq_getElem?_getD, List.getElem?_eq_getElem h1]
    rfl
  simp only [Int.toNat_natCast]
  rw [this]
theorem lowB_eq (s : ByteArray) : lowB s = s.data.toList.all lowb := rfl
theorem low_no (s : ByteArray) (k : Nat) (hk : k < s.size) (h : nb s k < 97 ∨ 122 < nb s k) : lowB s = false := by
  rw [lowB_eq, List.all_eq_false]
  have h1 : k < s.data.toList.length := hk
  refine ⟨s.data.toList[k], List.getElem_mem _, ?_⟩
  unfold nb at h
  rw [List.getD_eq_getElem?_getD, List.getElem?_eq_getElem h1] at h
  unfold lowb
  simp only [Option.getD_some] at h
  simp only [Bool.and_eq_true, decide_eq_true_eq, not_and, Nat.not_le]
  omega
theorem low_next (s : ByteArray) (k : Nat) (hk : k < s.size) (h : 97 ≤ nb s k ∧ nb s k ≤ 122) (hp : (s.data.toList.take k).all lowb = true) : (s.data.toList.take (k + 1)).all lowb = true := by
  have h1 : k < s.data.toList.length := hk
  rw [List.take_succ_eq_append_getElem h1, List.all_append, hp]
  unfold nb at h
  rw [List.getD_eq_getElem?_getD, List.getElem?_eq_getElem h1] at h
  simp only [Option.getD_some] at h
  simp only [List.all_cons, List.all_nil, Bool.and_true, Bool.true_and]
  unfold lowb
  rw [decide_eq_true h.1, decide_eq_true h.2]
  rfl
theorem low_all (s : ByteArray) (h : (s.data.toList.take s.size).all lowb = true) : lowB s = true := by
  rw [lowB_eq]
  have e : s.data.toList.take s.size = s.data.toList := List.take_of_length_le (Nat.le_of_eq rfl)
  rwa [e] at h
theorem clash_at {l : List GK} {i j : Nat} (hj : j < i) (hi : i < l.length) (h : (gk l j).name.toList = (gk l i).name.toList) : clashB l i = true := by
  unfold clashB
  rw [List.any_eq_true]
  exact ⟨gk l j, by rw [List.mem_iff_getElem?]; exact ⟨j, by rw [List.getElem?_take_of_lt hj]; exact gk_get (by omega)⟩, by rw [h]; simp⟩
theorem clash_no {l : List GK} {i : Nat} (hi : i < l.length) (h : ∀ j, j < i → (gk l j).name.toList ≠ (gk l i).name.toList) : clashB l i = false := by
  unfold clashB
  rw [List.any_eq_false]
  intro x hx
  obtain ⟨j, hj⟩ := List.mem_iff_getElem?.1 hx
  have hjl : j < i := by
    have := (List.getElem?_eq_some_iff.1 hj).1
    rw [List.length_take] at this; omega
  rw [List.getElem?_take_of_lt hjl, gk_get (by omega)] at hj
  injection hj with hj
  subst hj
  have := h j hjl
  simpa using this
set_option maxRecDepth 100000 in
theorem rnumbers_any (k : GK) (w : World) :
    Calls Tryz.prog 53 #[kV k] w fun e w' => e = .returned (.slice (some ⟨w.heap.size + 1, 0, none⟩) 8 8) ∧ Blk w' (w.heap.size + 1) 3 #[.int .i64 k.life, .int .i64 k.hit, .int .i64 k.range, .int .i64 k.sight, .int .i64 k.speed, .int .i64 k.price, .int .i64 k.turns, .int .i64 k.carry] ∧ Below w.heap.size w w' := by
  obtain ⟨hb, _, hk⟩ := two_boxesK w 41 3 #[.string k.name, .int .i64 k.life, .int .i64 k.hit, .int .i64 k.range, .int .i64 k.sight, .int .i64 k.speed, .int .i64 k.price, .int .i64 k.turns, .int .i64 k.carry, .bool k.flies, .bool k.trains] #[.int .i64 k.life, .int .i64 k.hit, .int .i64 k.range, .int .i64 k.sight, .int .i64 k.speed, .int .i64 k.price, .int .i64 k.turns, .int .i64 k.carry]
  replace hb := Lib.hid hb
  replace hk := Lib.hid hk
  go_enter Tryz.func53, Tryz.ntmps53
  go_wp2_with fail
  go_ret
  exact ⟨by simp, hk.out, hb.out⟩
set_option maxHeartbeats 3200000 in
set_option maxRecDepth 100000 in
theorem rkind_any (A : Option Addr) (c B i : Nat) (L : List GK) (w : World) (h : RK w B A L) (hB : B ≤ w.heap.size) (hl : L.length ≤ 1000000000) (hi : i < L.length) (hs : (gk L i).name.size ≤ 9223372036854775807) :
    Calls Tryz.prog 28 #[.slice A L.length c, .int .i64 (i : Int)] w fun e w' => e = .returned (.int .i64 (kindE L i)) ∧ Below w.heap.size w w' := by
  obtain ⟨b, o, hA, hbl, c0, c1, c2, c3, c4, c5, c6, c7, c8, c9, c10⟩ := rk_at h i hi
  have i1 : (i : Int) < (L.length : Int) := by omega
  subst hA
  replace h := Lib.hid h
  obtain ⟨x, hx⟩ : ∃ x, gk L i = x := ⟨_, rfl⟩
  rw [hx] at c0 c1 c2 c3 c4 c5 c6 c7 c8 c9 c10 hs
  replace hx := Lib.hid hx
  have hE : kindE L i = if x.name.size = 0 ∨ 8 < x.name.size ∨ lowB x.name = false then 2 else if clashB L i = true then 8 else if x.life < 1 ∨ numsB x = true then 1 else if 4 < x.speed ∨ 12 < x.range ∨ 12 < x.sight then 1 else 0 := by
    unfold kindE; rw [hx.out]
  have hQ : ∀ w' E, kindE L i = E → Below w.heap.size w w' → Ending.returned (.int .i64 E) = Ending.returned (.int .i64 (kindE L i)) ∧ Below w.heap.size w w' := fun w' E h1 h2 => by rw [h1]; exact ⟨rfl, h2⟩
  replace hQ := Lib.hid hQ
  have hb1 : Below w.heap.size w (w.alloc (.cells (kC x).toArray 41)) := (Below.refl _ _).alloc (Nat.le_refl _) _
  have hk1 := Blk.new w 41 (kC x).toArray
  go_enter Tryz.func28, Tryz.ntmps28
  go_upto_region 2 with fail
  obtain ⟨kb, hkb⟩ : ∃ kb, w.heap.size = kb := ⟨_, rfl⟩
  have hWe : (w.alloc (.cells (kC x).toArray 41)) = w.alloc (.cells #[.string x.name, .int .i64 x.life, .int .i64 x.hit, .int .i64 x.range, .int .i64 x.sight, .int .i64 x.speed, .int .i64 x.price, .int .i64 x.turns, .int .i64 x.carry, .bool x.flies, .bool x.trains] 41) := rfl
  rw [← hWe, hkb]
  rw [hkb] at hk1
  generalize (w.alloc (.cells (kC x).toArray 41)) = wA at *
  replace hkb := Lib.hid hkb
  clear hWe c0 c1 c2 c3 c4 c5 c6 c7 c8 c9 c10
  have d0 : wA.cell? ⟨kb, 0, none⟩ = some (.string x.name) := hk1.cell 0
  have hkl := hk1.lt
  replace hk1 := Lib.hid hk1
  replace hb1 := Lib.hid hb1
  have hsz : x.name.toList.length = x.name.size := by rw [Lib.toList_data, Lib.size_eq]
  by_cases hz : x.name.size = 0
  · have ht : x.name.toList = [] := List.eq_nil_of_length_eq_zero (by rw [hsz]; exact hz)
    rw [if_pos (.inl hz)] at hE
    replace hE := Lib.hid hE
    replace hz := Lib.hid hz
    replace hsz := Lib.hid hsz
    go_wp2_with fail
    go_ret
    exact hQ.out _ 2 hE.out hb1.out
  have ht : ¬ x.name.toList = [] := fun e => by rw [e] at hsz; exact hz hsz.symm
  have ht3 : x.name.toList.isEmpty = false := by
    cases h : x.name.toList with
    | nil => exact absurd h ht
    | cons a r => rfl
  by_cases h8 : 8 < x.name.size
  · rw [if_pos (.inr (.inl h8))] at hE
    have h9 : (8 : Int) < (x.name.size : Int) := by omega
    replace hE := Lib.hid hE
    replace hz := Lib.hid hz
    replace hsz := Lib.hid hsz
    go_wp2_with fail
    go_ret
    exact hQ.out _ 2 hE.out hb1.out
  have h9 : ¬ (8 : Int) < (x.name.size : Int) := by omega
  replace hsz := Lib.hid hsz
  replace hE := Lib.hid hE
  replace hz := Lib.hid hz
  go_wp2_with fail
  go_loop [6] (fun vj => ∃ m : Nat, vj = .int .i64 m ∧ m ≤ x.name.size ∧ Hid ((x.name.data.toList.take m).all lowb = true)) (fun vj => x.name.size - (intOf vj).toNat)
  case atStart => exact ⟨0, rfl, Nat.zero_le _, Lib.hid rfl⟩
  case round =>
    obtain ⟨m, rfl, hm, hlo⟩ := hrel
    by_cases hlt : m < x.name.size
    · have z1 : (m : Int) < (x.name.size : Int) := by omega
      have hr := strk_at x.name m hlt
      have hno := low_no x.name m hlt
      have hnx := fun h => low_next x.name m hlt h hlo.out
      generalize nb x.name m = bb at *
      by_cases g1 : bb < 97
      · have hl0 := hno (.inl g1)
        have hE2 := hE.out
        rw [if_pos (.inr (.inr hl0))] at hE2
        have e1 : (bb : Int) < 97 := by omega
        have e2 : decide ((bb : Int) < 97) = true := decide_eq_true e1
        replace hE2 := Lib.hid hE2
        replace hl0 := Lib.hid hl0
        clear hno hnx
        go_wp2_with fail
        go_ret
        exact hQ.out _ 2 hE2.out hb1.out
      by_cases g2 : 122 < bb
      · have hl0 := hno (.inr g2)
        have hE2 := hE.out
        rw [if_pos (.inr (.inr hl0))] at hE2
        have e1 : ¬ (bb : Int) < 97 := by omega
        have e2 : (122 : Int) < (bb : Int) := by omega
        replace hE2 := Lib.hid hE2
        replace hl0 := Lib.hid hl0
        clear hno hnx
        go_wp2_with fail
        go_ret
        exact hQ.out _ 2 hE2.out hb1.out
      have hn := Lib.hid (hnx ⟨by omega, by omega⟩)
      have e1 : ¬ (bb : Int) < 97 := by omega
      have e2 : ¬ (122 : Int) < (bb : Int) := by omega
      clear hno hnx
      go_wp2_with fail
      go_round
      case rel => exact ⟨m + 1, by go_num, by omega, hn⟩
      case measure => simp [intOf]; omega
    · have z1 : ¬ (m : Int) < (x.name.size : Int) := by omega
      obtain rfl : m = x.name.size := by omega
      have hl1 := low_all x.name hlo.out
      have hE2 := hE.out
      rw [if_neg (by rintro (h | h | h); exact hz.out h; exact h8 h; rw [hl1] at h; cases h)] at hE2
      replace hE2 := Lib.hid hE2
      replace hl1 := Lib.hid hl1
      clear hE
      go_wp2_with fail
      go_loopw [7] (fun vj wr => ∃ m : Nat, vj = .int .i64 m ∧ m ≤ i ∧ Hid (∀ j, j < m → (gk L j).name.toList ≠ (gk L i).name.toList) ∧ Hid (Below w.heap.size w wr ∧ Blk wr kb 41 (kC x).toArray)) (fun vj _ => i - (intOf vj).toNat)
      case atStart => exact ⟨0, rfl, Nat.zero_le _, Lib.hid (fun j h => by omega), Lib.hid ⟨hb1.out, hk1.out⟩⟩
      case round =>
        clear hb1 hk1 d0 hkl
        obtain ⟨m, rfl, hm2, hcl, hBK⟩ := hrel
        obtain ⟨hb1, hk1⟩ := hBK.out
        have d0 : wr.cell? ⟨kb, 0, none⟩ = some (.string x.name) := hk1.cell 0
        have d1 : wr.cell? ⟨kb, 1, none⟩ = some (.int .i64 x.life) := hk1.cell 1
        have d3 : wr.cell? ⟨kb, 3, none⟩ = some (.int .i64 x.range) := hk1.cell 3
        have d4 : wr.cell? ⟨kb, 4, none⟩ = some (.int .i64 x.sight) := hk1.cell 4
        have d5 : wr.cell? ⟨kb, 5, none⟩ = some (.int .i64 x.speed) := hk1.cell 5
        have hkl := hk1.lt
        by_cases hlt2 : m < i
        · have z2 : (m : Int) < (i : Int) := by omega
          have z3 : (m : Int) < (L.length : Int) := by omega
          obtain ⟨b', o', hA', hbl', y0, y1, y2, y3, y4, y5, y6, y7, y8, y9, y10⟩ := rk_at (h.out.below (hb1.mono hB)) m (by omega)
          injection hA' with hA'
          injection hA' with e3 e4
          subst e3; subst e4
          clear y1 y2 y3 y4 y5 y6 y7 y8 y9 y10 d1 d3 d4 d5
          have hcy := fun e => clash_at (l := L) (j := m) (i := i) hlt2 hi e
          have hcn : (gk L m).name.toList ≠ (gk L i).name.toList → Hid (∀ j, j < m + 1 → (gk L j).name.toList ≠ (gk L i).name.toList) := fun hne => Lib.hid (fun j hj => by
            rcases Nat.lt_or_ge j m with h1 | h1
            · exact hcl.out j h1
            · obtain rfl : j = m := by omega
              exact hne)
          rw [hx.out] at hcy hcn
          generalize (gk L m).name = ym at *
          replace hb1 := Lib.hid hb1
          replace hk1 := Lib.hid hk1
          by_cases hq : ym.toList = x.name.toList
          · have hc1 := hcy hq
            have hE3 := hE2.out
            rw [if_pos hc1] at hE3
            have e5 : (ym.toList == x.name.toList) = true := by simp [hq]
            replace hE3 := Lib.hid hE3
            replace hc1 := Lib.hid hc1
            replace hq := Lib.hid hq
            clear hcy hcn
            go_wp2_with fail
            go_quiet (fail)
            go_wp2_with fail
            go_ret
            exact hQ.out _ 8 hE3.out (bdrewN hb1.out _)
          · have hn := hcn hq
            have e5 : (ym.toList == x.name.toList) = false := by simp [hq]
            replace hq := Lib.hid hq
            clear hcy hcn
            have hR : ∀ q, Hid (Below w.heap.size w (wr.drewN q) ∧ Blk (wr.drewN q) kb 41 (kC x).toArray) := fun q => Lib.hid ⟨bdrewN hb1.out q, hk1.out.drewN q⟩
            replace hR := Lib.hid hR
            go_wp2_with fail
            go_quiet (fail)
            go_wp2_with fail
            go_roundw
            case rel => exact ⟨m + 1, by go_num, by omega, by rw [hx.out]; exact hn, hR.out _⟩
            case measure => simp [intOf]; omega
        · have z2 : ¬ (m : Int) < (i : Int) := by omega
          obtain rfl : m = i := by omega
          have hcf := clash_no hi hcl.out
          have hE3 := hE2.out
          rw [if_neg (by rw [hcf]; simp)] at hE3
          have hnu := rnumbers_any x wr
          have f2 : wr.cell? ⟨kb, 2, none⟩ = some (.int .i64 x.hit) := hk1.cell 2
          have f6 : wr.cell? ⟨kb, 6, none⟩ = some (.int .i64 x.price) := hk1.cell 6
          have f7 : wr.cell? ⟨kb, 7, none⟩ = some (.int .i64 x.turns) := hk1.cell 7
          have f8 : wr.cell? ⟨kb, 8, none⟩ = some (.int .i64 x.carry) := hk1.cell 8
          have f9 : wr.cell? ⟨kb, 9, none⟩ = some (.bool x.flies) := hk1.cell 9
          have f10 : wr.cell? ⟨kb, 10, none⟩ = some (.bool x.trains) := hk1.cell 10
          replace hnu := Lib.hid hnu
          replace hE3 := Lib.hid hE3
          replace hcf := Lib.hid hcf
          replace hb1 := Lib.hid hb1
          replace hk1 := Lib.hid hk1
          go_wp2_with fail
          refine hnu.out.mono ?_
          clear hnu f2 f6 f7 f8 f9 f10 d0 d1 d3 d4 d5 hkl
          rintro e w2 ⟨rfl, hnb, hb2⟩
          obtain ⟨sb, hsb⟩ : ∃ sb, wr.heap.size + 1 = sb := ⟨_, rfl⟩
          rw [hsb] at hnb ⊢
          replace hsb := Lib.hid hsb
          have hb3 := hb1.out.trans (hb2.mono hb1.out.size)
          have hk2 := hk1.out.below hb2 hk1.out.lt
          have hsl := hnb.lt
          clear hb2 hb1 hk1
          have d1 : w2.cell? ⟨kb, 1, none⟩ = some (.int .i64 x.life) := hk2.cell 1
          have d3 : w2.cell? ⟨kb, 3, none⟩ = some (.int .i64 x.range) := hk2.cell 3
          have d4 : w2.cell? ⟨kb, 4, none⟩ = some (.int .i64 x.sight) := hk2.cell 4
          have d5 : w2.cell? ⟨kb, 5, none⟩ = some (.int .i64 x.speed) := hk2.cell 5
          have hkl := hk2.lt
          replace hb3 := Lib.hid hb3
          replace hk2 := Lib.hid hk2
          replace hnb := Lib.hid hnb
          go_wp2_with fail
          go_loop [9] (fun vj => ∃ m : Nat, vj = .int .i64 m ∧ m ≤ 8 ∧ Hid (((numK x).take m).any badN = false)) (fun vj => 8 - (intOf vj).toNat)
          case atStart => exact ⟨0, rfl, Nat.zero_le _, Lib.hid rfl⟩
          case round =>
            obtain ⟨m, rfl, hm8, hnn⟩ := hrel
            by_cases hlt3 : m < 8
            · have z4 : (m : Int) < 8 := by omega
              have hc := hnb.out.cell m
              have hlN : m < (numK x).length := hlt3
              have hcm : w2.cell? ⟨sb, m, none⟩ = some (.int .i64 (numK x)[m]) := by
                rw [hc]
                rcases (by omega : m = 0 ∨ m = 1 ∨ m = 2 ∨ m = 3 ∨ m = 4 ∨ m = 5 ∨ m = 6 ∨ m = 7) with rfl | rfl | rfl | rfl | rfl | rfl | rfl | rfl <;> rfl
              have htk : ((numK x).take (m + 1)).any badN = badN (numK x)[m] := by rw [List.take_succ_eq_append_getElem hlN, List.any_append, hnn.out]; simp
              have hal : badN (numK x)[m] = true → numsB x = true := fun hb => by unfold numsB; rw [List.any_eq_true]; exact ⟨_, List.getElem_mem _, hb⟩
              generalize (numK x)[m] = n at *
              clear hc
              by_cases g1 : n < 0
              · have hb := hal (by unfold badN; simp [g1])
                have hE4 := hE3.out
                rw [if_pos (.inr hb)] at hE4
                replace hE4 := Lib.hid hE4
                replace hb := Lib.hid hb
                clear hal htk
                go_wp2_with fail
                go_ret
                exact hQ.out _ 1 hE4.out hb3.out
              by_cases g2 : 1000 < n
              · have hb := hal (by unfold badN; simp [g2])
                have hE4 := hE3.out
                rw [if_pos (.inr hb)] at hE4
                replace hE4 := Lib.hid hE4
                replace hb := Lib.hid hb
                clear hal htk
                go_wp2_with fail
                go_ret
                exact hQ.out _ 1 hE4.out hb3.out
              have hn := Lib.hid (show ((numK x).take (m + 1)).any badN = false by rw [htk]; unfold badN; simp; omega)
              clear hal htk
              go_wp2_with fail
              go_round
              case rel => exact ⟨m + 1, by go_num, by omega, hn⟩
              case measure => simp [intOf]; omega
            · have z4 : ¬ (m : Int) < 8 := by omega
              obtain rfl : m = 8 := by omega
              have hnf : numsB x = false := hnn.out
              have hE4 := hE3.out
              by_cases k1 : x.life < 1
              · rw [if_pos (.inl k1)] at hE4
                replace hE4 := Lib.hid hE4
                replace hnf := Lib.hid hnf
                go_wp2_with fail
                go_ret
                exact hQ.out _ 1 hE4.out hb3.out
              rw [if_neg (by rintro (h | h); exact k1 h; rw [hnf] at h; cases h)] at hE4
              replace hnf := Lib.hid hnf
              by_cases k2 : 4 < x.speed
              · rw [if_pos (.inl k2)] at hE4
                replace hE4 := Lib.hid hE4
                go_wp2_with fail
                go_ret
                exact hQ.out _ 1 hE4.out hb3.out
              by_cases k3 : 12 < x.range
              · rw [if_pos (.inr (.inl k3))] at hE4
                replace hE4 := Lib.hid hE4
                go_wp2_with fail
                go_ret
                exact hQ.out _ 1 hE4.out hb3.out
              by_cases k4 : 12 < x.sight
              · rw [if_pos (.inr (.inr k4))] at hE4
                replace hE4 := Lib.hid hE4
                go_wp2_with fail
                go_ret
                exact hQ.out _ 1 hE4.out hb3.out
              rw [if_neg (by omega)] at hE4
              replace hE4 := Lib.hid hE4
              go_wp2_with fail
              go_ret
              exact hQ.out _ 0 hE4.out hb3.out
set_option maxHeartbeats 1600000 in
set_option maxRecDepth 100000 in
theorem rkinds_any (s : SL) (L : List GK) (B : Nat) (w : World) (h : KS w B s L) (hB : B ≤ w.heap.size) :
    Calls Tryz.prog 6 #[.slice s.A L.length s.c] w fun e w' => e = .returned (.int .i64 (kindsE L)) ∧ Below w.heap.size w w' := by
  have hc := h.cap
  have hm := h.max
  obtain ⟨A, c⟩ := s
  dsimp only at hc hm ⊢
  replace h := Lib.hid h
  by_cases hn : 8 < L.length
  · have hv : kindsE L = 4 := by unfold kindsE; rw [if_pos hn]
    have z1 : (8 : Int) < (L.length : Int) := by omega
    rw [hv]
    clear hv
    go_enter Tryz.func6, Tryz.ntmps6
    go_wp2_with fail
    go_ret
    exact ⟨rfl, Below.refl _ _⟩
  · have z1 : ¬ (8 : Int) < (L.length : Int) := by omega
    have hv : kindsE L = kindsN L L.length := by unfold kindsE; rw [if_neg hn]
    replace hv := Lib.hid hv
    go_enter Tryz.func6, Tryz.ntmps6
    go_wp2_with fail
    go_loopw [3] (fun vi wr => ∃ k : Nat, vi = .int .i64 k ∧ k ≤ L.length ∧ Hid (kindsN L k = 0) ∧ Hid (Below w.heap.size w wr)) (fun vi _ => L.length - (intOf vi).toNat)
    case atStart => exact ⟨0, rfl, Nat.zero_le _, Lib.hid rfl, Lib.hid (Below.refl _ _)⟩
    case round =>
      obtain ⟨k, rfl, hk, hz, hb⟩ := hrel
      by_cases hlt : k < L.length
      · have z2 : (k : Int) < (L.length : Int) := by omega
        have hs := hb.out.size
        have hk1 := rkind_any A c B k L wr (h.out.rd.below (hb.out.mono hB)) (Nat.le_trans hB hs) (by omega) hlt (h.out.str _ (gk_mem hlt))
        have hst : kindsN L (k + 1) = kindE L k := by rw [kindsN, if_neg (fun e => e hz.out)]
        have hmo := kindsN_mono L (k + 1) L.length (by omega)
        by_cases he : kindE L k = 0
        · rw [he] at hk1 hst
          replace hk1 := Lib.hid hk1
          replace hst := Lib.hid hst
          replace he := Lib.hid he
          replace hmo := Lib.hid hmo
          go_wp2_with fail
          refine hk1.out.mono ?_
          rintro e w1 ⟨rfl, hb1⟩
          have hb2 := hb.out.trans (hb1.mono hs)
          replace hb2 := Lib.hid hb2
          clear hb1
          go_wp2_with fail
          go_roundw
          case rel => exact ⟨k + 1, by go_num, by omega, hst, hb2⟩
          case measure => simp [intOf]; omega
        · have hfin : kindsE L = kindE L k := by rw [hv.out, hmo (by rw [hst]; exact he), hst]
          have hne : (kindE L k != 0) = true := by simp [he]
          generalize kindE L k = E at *
          replace hk1 := Lib.hid hk1
          replace hst := Lib.hid hst
          replace he := Lib.hid he
          replace hmo := Lib.hid hmo
          replace hfin := Lib.hid hfin
          go_wp2_with fail
          refine hk1.out.mono ?_
          rintro e w1 ⟨rfl, hb1⟩
          have hb2 := hb.out.trans (hb1.mono hs)
          replace hb2 := Lib.hid hb2
          clear hb1
          go_wp2_with fail
          go_ret
          exact ⟨by rw [hfin.out]; rfl, hb2.out⟩
      · have z2 : ¬ (k : Int) < (L.length : Int) := by omega
        obtain rfl : k = L.length := by omega
        have hfin : kindsE L = 0 := by rw [hv.out]; exact hz.out
        replace hfin := Lib.hid hfin
        go_wp2_with fail
        go_ret
        exact ⟨by rw [hfin.out]; rfl, hb.out⟩
end Go.Proofs.YtkgkpggfoieioaaGreatDoor
