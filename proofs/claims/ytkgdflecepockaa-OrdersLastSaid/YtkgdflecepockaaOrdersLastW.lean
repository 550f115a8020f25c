import Derived.Test.YtkgdflecepockaaLastA
import Derived.Test.YtkgdflecepockaaOpenO
import Derived.Test.YtkgdflecepockaaPlainOL
import Derived.Laws.StructEq
import Derived.OpenShut
import Derived.BigQuiet
import Derived.Deep.QuietTactic
namespace Go.Proofs.Ytkgdflecepockaa
set_option linter.unusedVariables false
open Go.RowKit
abbrev oV (x : Od) : Value := .agg #[.int .i64 x.player, .int .i64 x.unit, .int .i64 x.what, .int .i64 x.arg]
theorem run_eqO (x y : Od) (w : World) : (binOp .eql 28 (oV x) (oV y)).run Try.prog w = .ok (.bool (decide (x = y))) w := by
  obtain ⟨a, b, c, d⟩ := x
  obtain ⟨a', b', c', d'⟩ := y
  by_cases h1 : a = a'
  · subst h1
    by_cases h2 : b = b'
    · subst h2
      by_cases h3 : c = c'
      · subst h3
        by_cases h4 : d = d'
        · subst h4
          go_simp
        · have g : (d == d') = false := by simp [h4]
          go_simp
      · have g : (c == c') = false := by simp [h3]
        go_simp
    · have g : (b == b') = false := by simp [h2]
      go_simp
  · have g : (a == a') = false := by simp [h1]
    go_simp
theorem ro_c {w : World} {B b o : Nat} {L : List Od} (h : RO w B (some ⟨b, o, none⟩) L) (k : Nat) (hk : k < L.length) :
    w.cell? ⟨b, o + k * 4, none⟩ = some (.int .i64 (od L k).player) ∧ w.cell? ⟨b, o + k * 4 + 1, none⟩ = some (.int .i64 (od L k).unit) ∧ w.cell? ⟨b, o + k * 4 + 2, none⟩ = some (.int .i64 (od L k).what) ∧ w.cell? ⟨b, o + k * 4 + 3, none⟩ = some (.int .i64 (od L k).arg) := by
  obtain ⟨b', o', hA, _, h⟩ := ro_at h k hk
  injection hA with hA
  injection hA with e1 e2
  subst e1; subst e2
  exact h
theorem od_cells (L : List Od) (k : Nat) : ∃ p u x g, od L k = ⟨p, u, x, g⟩ := ⟨_, _, _, _, rfl⟩
set_option maxHeartbeats 3200000 in
set_option maxRecDepth 100000 in
theorem ordersLast_in (v : Value) (x : SL × List Od) (w : World) (h : v = .slice x.1.A x.2.length x.1.c ∧ SLO w x.1 x.2) :
    Calls Try.prog 3 #[v] w fun e w' => e = .returned (.bool true) ∧ Below w.heap.size w w' := by
  obtain ⟨⟨sA, sc⟩, L⟩ := x
  obtain ⟨rfl, hr, hnil, hlc, hcm, hI64⟩ := h
  dsimp only at hr hnil hlc hcm hI64 ⊢
  unfold maxLen at hcm
  have hlen : L.length ≤ 9223372036854775807 := by omega
  clear hI64 hlc hcm
  replace hr := Lib.hid hr
  replace hnil := Lib.hid hnil
  have h0 := RD.new w 4 3 #[.int .i64 0, .int .i64 2, .int .i64 1, .int .i64 5, .int .i64 0, .int .i64 1, .int .i64 0, .int .i64 0, .int .i64 0, .int .i64 2, .int .i64 1, .int .i64 6] 28 (0, 0) rfl
  have hbW : Below w.heap.size w (w.alloc (.cells #[.int .i64 0, .int .i64 2, .int .i64 1, .int .i64 5, .int .i64 0, .int .i64 1, .int .i64 0, .int .i64 0, .int .i64 0, .int .i64 2, .int .i64 1, .int .i64 6] 28)) := (Below.refl _ _).alloc (Nat.le_refl _) _
  have hc0 : Calls Try.prog 6 #[.slice (some ⟨w.heap.size, 0, none⟩) 3 3] (w.alloc (.cells #[.int .i64 0, .int .i64 2, .int .i64 1, .int .i64 5, .int .i64 0, .int .i64 1, .int .i64 0, .int .i64 0, .int .i64 0, .int .i64 2, .int .i64 1, .int .i64 6] 28)) (LastPost (w.alloc (.cells #[.int .i64 0, .int .i64 2, .int .i64 1, .int .i64 5, .int .i64 0, .int .i64 1, .int .i64 0, .int .i64 0, .int .i64 0, .int .i64 2, .int .i64 1, .int .i64 6] 28)) threeO) :=
    last_ok (some ⟨w.heap.size, 0, none⟩) 3 (w.heap.size + 1) threeO _ h0 (by simp) (fun e => by cases e) (ordsE_0.2 ⟨by decide, three_ok⟩)
  clear h0
  replace hc0 := Lib.hid hc0
  go_enter Try.func3, Try.ntmps3
  go_wp2_with fail
  refine hc0.out.mono ?_
  clear hc0
  rintro e w1 ⟨hb1, A1, c1, R1, rfl, hI1, ho1⟩
  obtain rfl := three_last hI1
  obtain ⟨g1, _, hA1, _⟩ := ho1.form (by decide)
  have hA1' : A1 = some ⟨g1, 0, none⟩ := by injection hA1
  subst hA1'
  have k1 := ho1.cellAt 1 (by decide)
  have k7 := ho1.cellAt 7 (by decide)
  replace k1 : w1.cell? ⟨g1, 1, none⟩ = some (.int .i64 1) := k1
  replace k7 : w1.cell? ⟨g1, 7, none⟩ = some (.int .i64 6) := k7
  have hb2 := hbW.trans (hb1.mono hbW.size)
  have hs2 := hb2.size
  have hr1 := hr.out.below hb2
  replace hr1 := Lib.hid hr1
  replace hb2 := Lib.hid hb2
  clear hb1 hbW hI1 ho1 hA1 hr
  simp only [List.length_cons, List.length_nil]
  go_wp2_with fail
  by_cases hE : ordsE L = 0
  · refine (last_ok sA sc _ L w1 hr1.out hs2 hnil.out hE).mono ?_
    rintro e w2 ⟨hb3, A, c, R, rfl, hI, ho⟩
    obtain ⟨hl60, hok⟩ := ordsE_0.1 hE
    have hb4 := hb2.out.trans (hb3.mono hs2)
    have hr2 := hr1.out.below (hb3.mono hs2)
    have hRo : RO w2 w2.heap.size A R := RD.of_own ho
    have hrl : R.length ≤ 60 := Nat.le_trans (isLast_le hI) hl60
    have htr := isLast_tr hI
    have hin := fun i hi h3 hl => isLast_in hI hok (i := i) hi h3 hl
    have htwo := fun i k hk hi => isLast_two hI hok (i := i) (k := k) hk hi
    replace htr := Lib.hid htr
    replace hin := Lib.hid hin
    replace htwo := Lib.hid htwo
    replace hRo := Lib.hid hRo
    replace hr2 := Lib.hid hr2
    replace hb4 := Lib.hid hb4
    clear hb3 hI ho hok hE hnil hr1 hb2 hs2 k1 k7
    go_wp2_with fail
    go_loopw [7, 8] (fun vt vi wr => ∃ i : Nat, i ≤ L.length ∧ vi = .int .i64 i ∧ vt = .int .i64 (tr L i) ∧ Hid (Below w2.heap.size w2 wr)) (fun _ vi _ => L.length - (intOf vi).toNat)
    case atStart => exact ⟨0, Nat.zero_le _, rfl, rfl, Lib.hid (Below.refl _ _)⟩
    case round =>
      obtain ⟨i, hi, rfl, rfl, hb⟩ := hrel
      have htl := tr_le L i
      by_cases hlt : i < L.length
      · have i1 : (i : Int) < (L.length : Int) := by omega
        have hro : RO wr w.heap.size sA L := hr2.out.below (hb.out.mono hb4.out.size)
        obtain ⟨b, o, hA, hbl, c0, c1, c2, c3⟩ := ro_at hro i hlt
        have hts := tr_s L i hlt
        subst hA
        obtain ⟨y, hy⟩ : ∃ y, od L i = y := ⟨_, rfl⟩
        rw [hy] at c0 c1 c2 c3 hts
        replace hy := Lib.hid hy
        by_cases h3 : y.what = 3
        · rw [if_pos h3] at hts
          rw [h3] at c2
          replace hts := Lib.hid hts
          replace hro := Lib.hid hro
          clear h3
          go_wp2_with fail
          go_roundw
          case rel => exact ⟨i + 1, by omega, by go_num, by rw [hts.out]; go_num, hb⟩
          case measure => simp [intOf]; omega
        · rw [if_neg h3, Nat.add_zero] at hts
          have gy : (y.what == 3) = false := by simp [h3]
          replace h3 := Lib.hid h3
          replace hts := Lib.hid hts
          replace hro := Lib.hid hro
          go_wp2_with fail
          obtain ⟨wo, rfl⟩ : ∃ wo : World, wo = wr := ⟨_, rfl⟩
          clear c0 c1 c2 c3 hro
          go_loopw [9, 10] (fun vl vk wq => ∃ (j : Nat) (B : Bool), i + 1 ≤ j ∧ j ≤ L.length ∧ vk = .int .i64 j ∧ vl = .bool B ∧ Hid (B = lastB L i j) ∧ Hid (Below w2.heap.size w2 wq)) (fun _ vk _ => L.length - (intOf vk).toNat)
          case atStart => exact ⟨i + 1, true, Nat.le_refl _, by omega, by go_num, rfl, Lib.hid (lastB_0 L i).symm, hb⟩
          case round =>
            obtain ⟨j, B, hj0, hj, rfl, rfl, hB, hbq⟩ := hrel
            by_cases hjl : j < L.length
            · have j1 : (j : Int) < (L.length : Int) := by omega
              have hro : RO wr w.heap.size (some ⟨b, o, none⟩) L := hr2.out.below (hbq.out.mono hb4.out.size)
              obtain ⟨c0, c1, c2, c3⟩ := ro_c hro i hlt
              obtain ⟨d0, d1, d2, d3⟩ := ro_c hro j hjl
              have hBs := lastB_s L i j (by omega)
              obtain ⟨z, hz⟩ : ∃ z, od L j = z := ⟨_, rfl⟩
              rw [hy.out] at c0 c1 c2 c3 hBs
              rw [hz] at d0 d1 d2 d3 hBs
              rw [← hB.out] at hBs
              replace hz := Lib.hid hz
              clear hro c2 c3 d3 hB
              cases B with
              | false =>
                have hnx : lastB L i (j + 1) = false := by rw [hBs]; rfl
                replace hnx := Lib.hid hnx
                clear hBs
                go_wp2_with fail
                go_quiet (fail)
                go_wp2_with fail
                go_roundw
                case rel => exact ⟨j + 1, false, by omega, by omega, by go_num, rfl, Lib.hid hnx.out.symm, Lib.hid (bdrewN hbq.out _)⟩
                case measure => simp [intOf]; omega
              | true =>
                by_cases f1 : z.what = 3
                · have g1 : (z.what == 3) = true := by simp [f1]
                  have hnx : lastB L i (j + 1) = true := by rw [hBs]; simp [f1]
                  replace hnx := Lib.hid hnx
                  replace f1 := Lib.hid f1
                  clear hBs
                  go_wp2_with fail
                  go_quiet (fail)
                  go_wp2_with fail
                  go_roundw
                  case rel => exact ⟨j + 1, true, by omega, by omega, by go_num, rfl, Lib.hid hnx.out.symm, Lib.hid (bdrewN hbq.out _)⟩
                  case measure => simp [intOf]; omega
                · have g1 : (z.what == 3) = false := by simp [f1]
                  by_cases f2 : z.player = y.player
                  · have g2 : (z.player != y.player) = false := by simp [f2]
                    by_cases f3 : z.unit = y.unit
                    · have g3 : (z.unit != y.unit) = false := by simp [f3]
                      have hnx : lastB L i (j + 1) = false := by rw [hBs]; simp [f1, f2, f3]
                      replace hnx := Lib.hid hnx
                      replace f1 := Lib.hid f1
                      replace f2 := Lib.hid f2
                      replace f3 := Lib.hid f3
                      clear hBs
                      go_wp2_with fail
                      go_quiet (fail)
                      go_wp2_with fail
                      go_roundw
                      case rel => exact ⟨j + 1, false, by omega, by omega, by go_num, rfl, Lib.hid hnx.out.symm, Lib.hid (bdrewN hbq.out _)⟩
                      case measure => simp [intOf]; omega
                    · have g3 : (z.unit != y.unit) = true := by simp [f3]
                      have hnx : lastB L i (j + 1) = true := by rw [hBs]; simp [f1, f2, f3]
                      replace hnx := Lib.hid hnx
                      replace f1 := Lib.hid f1
                      replace f2 := Lib.hid f2
                      replace f3 := Lib.hid f3
                      clear hBs
                      go_wp2_with fail
                      go_quiet (fail)
                      go_wp2_with fail
                      go_roundw
                      case rel => exact ⟨j + 1, true, by omega, by omega, by go_num, rfl, Lib.hid hnx.out.symm, Lib.hid (bdrewN hbq.out _)⟩
                      case measure => simp [intOf]; omega
                  · have g2 : (z.player != y.player) = true := by simp [f2]
                    have hnx : lastB L i (j + 1) = true := by rw [hBs]; simp [f1, f2]
                    replace hnx := Lib.hid hnx
                    replace f1 := Lib.hid f1
                    replace f2 := Lib.hid f2
                    clear hBs
                    go_wp2_with fail
                    go_quiet (fail)
                    go_wp2_with fail
                    go_roundw
                    case rel => exact ⟨j + 1, true, by omega, by omega, by go_num, rfl, Lib.hid hnx.out.symm, Lib.hid (bdrewN hbq.out _)⟩
                    case measure => simp [intOf]; omega
            · have j1 : ¬ (j : Int) < (L.length : Int) := by omega
              obtain rfl : j = L.length := by omega
              go_wp2_with fail
              clear hb
              obtain ⟨wo, rfl⟩ : ∃ wo : World, wo = wr := ⟨_, rfl⟩
              go_loopw [11, 12] (fun vn vk wq => ∃ (j : Nat) (C : Bool), j ≤ R.length ∧ vk = .int .i64 j ∧ vn = .bool C ∧ Hid (C = inB R y j) ∧ Hid (Below w2.heap.size w2 wq)) (fun _ vk _ => R.length - (intOf vk).toNat)
              case atStart => exact ⟨0, false, Nat.zero_le _, rfl, rfl, Lib.hid (inB_0 R y).symm, hbq⟩
              case round =>
                clear hbq
                obtain ⟨j, C, hjr, rfl, rfl, hC, hbq⟩ := hrel
                by_cases hjl : j < R.length
                · have j1 : (j : Int) < (R.length : Int) := by omega
                  have hro : RO wr w.heap.size (some ⟨b, o, none⟩) L := hr2.out.below (hbq.out.mono hb4.out.size)
                  obtain ⟨c0, c1, c2, c3⟩ := ro_c hro i hlt
                  obtain ⟨b', o', hA', hbl', d0, d1, d2, d3⟩ := ro_at (hRo.out.below hbq.out) j hjl
                  subst hA'
                  have hCs := inB_s R y j
                  obtain ⟨z, hz⟩ : ∃ z, od R j = z := ⟨_, rfl⟩
                  rw [hy.out] at c0 c1 c2 c3
                  rw [hz] at d0 d1 d2 d3 hCs
                  rw [← hC.out] at hCs
                  replace hz := Lib.hid hz
                  clear hro hC
                  cases C with
                  | true =>
                    have hnx : inB R y (j + 1) = true := by rw [hCs]; rfl
                    replace hnx := Lib.hid hnx
                    clear hCs
                    go_wp2_with fail
                    go_quiet (fail)
                    go_wp2_with fail
                    go_roundw
                    case rel => exact ⟨j + 1, true, by omega, by go_num, rfl, Lib.hid hnx.out.symm, Lib.hid (bdrewN hbq.out _)⟩
                    case measure => simp [intOf]; omega
                  | false =>
                    by_cases hd : z = y
                    · have hq : ∀ w : World, (binOp .eql 28 (.agg #[.int .i64 z.player, .int .i64 z.unit, .int .i64 z.what, .int .i64 z.arg]) (.agg #[.int .i64 y.player, .int .i64 y.unit, .int .i64 y.what, .int .i64 y.arg])).run Try.prog w = .ok (.bool true) w := fun w => by rw [run_eqO z y w]; simp [hd]
                      have hnx : inB R y (j + 1) = true := by rw [hCs]; simp [hd]
                      replace hnx := Lib.hid hnx
                      replace hd := Lib.hid hd
                      clear hCs
                      go_wp2_with fail
                      go_quiet (fail)
                      go_wp2_with fail
                      go_roundw
                      case rel => exact ⟨j + 1, true, by omega, by go_num, rfl, Lib.hid hnx.out.symm, Lib.hid (bdrewN hbq.out _)⟩
                      case measure => simp [intOf]; omega
                    · have hq : ∀ w : World, (binOp .eql 28 (.agg #[.int .i64 z.player, .int .i64 z.unit, .int .i64 z.what, .int .i64 z.arg]) (.agg #[.int .i64 y.player, .int .i64 y.unit, .int .i64 y.what, .int .i64 y.arg])).run Try.prog w = .ok (.bool false) w := fun w => by rw [run_eqO z y w]; simp [hd]
                      have hnx : inB R y (j + 1) = false := by rw [hCs]; simp [hd]
                      replace hnx := Lib.hid hnx
                      replace hd := Lib.hid hd
                      clear hCs
                      go_wp2_with fail
                      go_quiet (fail)
                      go_wp2_with fail
                      go_roundw
                      case rel => exact ⟨j + 1, false, by omega, by go_num, rfl, Lib.hid hnx.out.symm, Lib.hid (bdrewN hbq.out _)⟩
                      case measure => simp [intOf]; omega
                · have j1 : ¬ (j : Int) < (R.length : Int) := by omega
                  obtain rfl : j = R.length := by omega
                  have hBC : B = true → C = true := fun e => by
                    rw [hC.out, ← hy.out]
                    exact hin.out i hlt (by rw [hy.out]; exact h3.out) (by rw [← hB.out]; exact e)
                  have hb3 := hbq
                  clear hC hB
                  cases B with
                  | false =>
                    replace hBC := Lib.hid hBC
                    go_wp2_with fail
                    go_roundw
                    case rel => exact ⟨i + 1, by omega, by go_num, by simp [hts.out], hb3⟩
                    case measure => simp [intOf]; omega
                  | true =>
                    obtain rfl : C = true := hBC rfl
                    go_wp2_with fail
                    go_roundw
                    case rel => exact ⟨i + 1, by omega, by go_num, by simp [hts.out], hb3⟩
                    case measure => simp [intOf]; omega
      · have i1 : ¬ (i : Int) < (L.length : Int) := by omega
        obtain rfl : i = L.length := by omega
        rw [← htr.out]
        have hRl := tr_le R R.length
        go_wp2_with fail
        obtain ⟨wo, rfl⟩ : ∃ wo : World, wo = wr := ⟨_, rfl⟩
        go_loopw [7, 13] (fun vt vi wr => ∃ (i : Nat) (n : Int), i ≤ R.length ∧ vi = .int .i64 i ∧ vt = .int .i64 n ∧ Hid (n = (tr R R.length : Int) - tr R i) ∧ Hid (Below w2.heap.size w2 wr)) (fun _ vi _ => R.length - (intOf vi).toNat)
        case atStart => exact ⟨0, _, Nat.zero_le _, rfl, rfl, Lib.hid (by rw [tr_0]; simp), hb⟩
        case round =>
          clear hb
          obtain ⟨i, n, hi, rfl, rfl, hn, hb⟩ := hrel
          have htl := tr_le R i
          by_cases hlt : i < R.length
          · have i1 : (i : Int) < (R.length : Int) := by omega
            obtain ⟨b, o, hA, hbl, c0, c1, c2, c3⟩ := ro_at (hRo.out.below hb.out) i hlt
            have hts := tr_s R i hlt
            subst hA
            have hnb : -1000 ≤ n ∧ n ≤ 1000 := by have := hn.out; omega
            obtain ⟨hn1, hn2⟩ := hnb
            obtain ⟨y, hy⟩ : ∃ y, od R i = y := ⟨_, rfl⟩
            rw [hy] at c0 c1 c2 c3 hts
            replace hy := Lib.hid hy
            by_cases h3 : y.what = 3
            · rw [if_pos h3] at hts
              rw [h3] at c2
              replace hts := Lib.hid hts
              clear h3
              go_wp2_with fail
              go_roundw
              case rel => exact ⟨i + 1, n - 1, by omega, by go_num, rfl, Lib.hid (by rw [hts.out, hn.out]; omega), hb⟩
              case measure => simp [intOf]; omega
            · rw [if_neg h3, Nat.add_zero] at hts
              have gy : (y.what == 3) = false := by simp [h3]
              replace h3 := Lib.hid h3
              replace hts := Lib.hid hts
              go_wp2_with fail
              obtain ⟨wo, rfl⟩ : ∃ wo : World, wo = wr := ⟨_, rfl⟩
              clear c0 c1 c2 c3
              go_loopw [14] (fun vk wq => ∃ j : Nat, j ≤ i ∧ vk = .int .i64 j ∧ Hid (Below w2.heap.size w2 wq)) (fun vk _ => i - (intOf vk).toNat)
              case atStart => exact ⟨0, Nat.zero_le _, rfl, hb⟩
              case round =>
                clear hb
                obtain ⟨j, hj, rfl, hbq⟩ := hrel
                by_cases hjl : j < i
                · have j1 : (j : Int) < (i : Int) := by omega
                  have j2 : (j : Int) < (R.length : Int) := by omega
                  have hro := hRo.out.below hbq.out
                  obtain ⟨c0, c1, c2, c3⟩ := ro_c hro i hlt
                  obtain ⟨d0, d1, d2, d3⟩ := ro_c hro j (by omega)
                  have htw := htwo.out i j hjl hlt
                  obtain ⟨z, hz⟩ : ∃ z, od R j = z := ⟨_, rfl⟩
                  rw [hy.out] at c0 c1 c2 c3 htw
                  rw [hz] at d0 d1 d2 d3 htw
                  replace htw := htw h3.out
                  replace hz := Lib.hid hz
                  clear hro c2 c3 d3
                  by_cases f1 : z.what = 3
                  · have g1 : (z.what != 3) = false := by simp [f1]
                    replace f1 := Lib.hid f1
                    clear htw
                    go_wp2_with fail
                    go_quiet (fail)
                    go_wp2_with fail
                    go_roundw
                    case rel => exact ⟨j + 1, by omega, by go_num, Lib.hid (bdrewN hbq.out _)⟩
                    case measure => simp [intOf]; omega
                  · have g1 : (z.what != 3) = true := by simp [f1]
                    by_cases f2 : z.player = y.player
                    · have g2 : (z.player == y.player) = true := by simp [f2]
                      have f3 : z.unit ≠ y.unit := fun e => htw f1 f2 e
                      have g3 : (z.unit == y.unit) = false := by simp [f3]
                      replace f1 := Lib.hid f1
                      replace f2 := Lib.hid f2
                      replace f3 := Lib.hid f3
                      clear htw
                      go_wp2_with fail
                      go_quiet (fail)
                      go_wp2_with fail
                      go_roundw
                      case rel => exact ⟨j + 1, by omega, by go_num, Lib.hid (bdrewN hbq.out _)⟩
                      case measure => simp [intOf]; omega
                    · have g2 : (z.player == y.player) = false := by simp [f2]
                      replace f1 := Lib.hid f1
                      replace f2 := Lib.hid f2
                      clear htw
                      go_wp2_with fail
                      go_quiet (fail)
                      go_wp2_with fail
                      go_roundw
                      case rel => exact ⟨j + 1, by omega, by go_num, Lib.hid (bdrewN hbq.out _)⟩
                      case measure => simp [intOf]; omega
                · have j1 : ¬ (j : Int) < (i : Int) := by omega
                  go_wp2_with fail
                  go_roundw
                  case rel => exact ⟨i + 1, n, by omega, by go_num, rfl, Lib.hid (by rw [hts.out]; exact hn.out), hbq⟩
                  case measure => simp [intOf]; omega
          · have i1 : ¬ (i : Int) < (R.length : Int) := by omega
            obtain rfl : i = R.length := by omega
            obtain rfl : n = 0 := by have := hn.out; omega
            have hbz := hb4.out.trans (hb.out.mono hb4.out.size)
            replace hbz := Lib.hid hbz
            go_wp2_with fail
            go_ret
            exact ⟨rfl, hbz.out⟩
  · refine (last_bad sA sc _ L w1 hr1.out hs2 hlen hE).mono ?_
    rintro e w2 ⟨rfl, hb3⟩
    have hb4 := hb2.out.trans (hb3.mono hs2)
    have he : oErr (ordsE L) = .iface 51 (.int .i64 (ordsE L)) := by unfold oErr; rw [if_neg hE]
    rw [he]
    replace hb4 := Lib.hid hb4
    clear hb3 hr1 hb2 k1 k7 he hE
    go_wp2_with fail
    go_ret
    exact ⟨rfl, hb4.out⟩
end Go.Proofs.Ytkgdflecepockaa
