import Derived.Test.YtkkdegcbikjebaaDoorCells
import Derived.Test.YtkkdegcbikjebaaDoorPlainP
import Derived.Test.YtkkdegcbikjebaaDoorStr
import Derived.Laws.Concat
import Derived.Laws.Strings2
import Derived.BigQuiet
import Derived.Deep.QuietTactic
namespace Go.Proofs.YtkkdegcbikjebaaDoor
set_option linter.unusedVariables false
open Go.RowKit
theorem toS_app (xs ys : List Int) : toS xs ++ toS ys = toS (xs ++ ys) := by
  unfold toS toU
  rw [ByteArray.mk_append_mk, ← List.map_append]
theorem toS_size (xs : List Int) : (toS xs).size = xs.length := by
  show (toU xs).toArray.size = _
  simp [toU]
theorem add_run (xs ys : List Int) (h : xs.length ≤ 4000) (h' : ys.length ≤ 4000) (w : World) : (Op.stringOp .add (toS xs) (toS ys)).run Tryd.prog w = .ok (.string (toS (xs ++ ys))) w := by
  rw [run_string_add_sum w _ _ (by rw [toS_size, toS_size]; omega), toS_app]
theorem add_nl (xs : List Int) (h : xs.length ≤ 4000) (w : World) : (Op.stringOp .add (toS xs) ⟨#[10]⟩).run Tryd.prog w = .ok (.string (toS (xs ++ [10]))) w := add_run xs [10] h (by decide) w
theorem sgn_slice (g : Int) (h : 0 ≤ g ∧ g ≤ 3) (w : World) : (Instr.slice 9 (.string ⟨#[46, 35, 126, 94]⟩) (some (.int .i64 g)) (some (.int .i64 (g + 1))) none).run Tryd.prog w = .ok (.string (toS [sgn g])) w := by
  have : g = 0 ∨ g = 1 ∨ g = 2 ∨ g = 3 := by omega
  rcases this with rfl | rfl | rfl | rfl
  all_goals
    rw [run_slice_string _ _ _ _ _ _ _ Tryd.underlying9 (by decide) (by decide) (by decide)]
    congr 2
theorem dig_slice (k : Nat) (h : 1 ≤ k ∧ k ≤ 9) (w : World) : (Instr.slice 9 (.string ⟨#[48, 49, 50, 51, 52, 53, 54, 55, 56, 57]⟩) (some (.int .i64 (k : Int))) (some (.int .i64 ((k : Int) + 1))) none).run Tryd.prog w = .ok (.string (toS [48 + (k : Int)])) w := by
  have : k = 1 ∨ k = 2 ∨ k = 3 ∨ k = 4 ∨ k = 5 ∨ k = 6 ∨ k = 7 ∨ k = 8 ∨ k = 9 := by omega
  rcases this with rfl | rfl | rfl | rfl | rfl | rfl | rfl | rfl | rfl
  all_goals
    rw [run_slice_string _ _ _ _ _ _ _ Tryd.underlying9 (by decide) (by decide) (by decide)]
    congr 2
set_option maxHeartbeats 3200000 in
set_option maxRecDepth 100000 in
theorem rprint_any (s : SF) (f : GF) (w : World) (h : FOk w s f) (hE : fieldE f = 0) :
    Calls Tryd.prog 18 #[fA s f] w fun e w' => e = .returned (.string (toS (fieldT f))) ∧ Below w.heap.size w w' := by
  have hg := good_of f hE
  have hn := hg.len
  have hos := hg.ores
  have hlg := hg.lg
  have hwb := hg.wide
  have hhb := hg.high
  obtain ⟨Wd, hWd⟩ : ∃ Wd : Nat, f.wide = (Wd : Int) := ⟨f.wide.toNat, by omega⟩
  obtain ⟨Hg, hHg⟩ : ∃ Hg : Nat, f.high = (Hg : Int) := ⟨f.high.toNat, by omega⟩
  have hT : fieldT f = txtP f Wd Hg := by unfold fieldT; rw [hWd, hHg]; rfl
  have hnn : f.ground.length = Hg * Wd := by rw [hWd, hHg, Int.mul_comm] at hlg; exact_mod_cast hlg
  rw [hT]
  have H := Lib.hid h
  have hW1 : 1 ≤ Wd ∧ Wd ≤ 12 := by omega
  have hH1 : 1 ≤ Hg ∧ Hg ≤ 12 := by omega
  have hol := hn.2.2
  have hn144 := hn.1
  obtain ⟨hW1a, hW1b⟩ := hW1
  obtain ⟨hH1a, hH1b⟩ := hH1
  replace hos := Lib.hid hos
  replace hnn := Lib.hid hnn
  replace hol := Lib.hid hol
  replace hWd := Lib.hid hWd
  replace hHg := Lib.hid hHg
  clear h hT hg hlg hwb hhb hn hE
  unfold fA
  go_enter Tryd.func18, Tryd.ntmps18
  go_wp2_with fail
  have hb1 : Below w.heap.size w (w.alloc (.cells #[.int .i64 f.wide, .int .i64 f.high, .slice s.ground.A f.ground.length s.ground.c, .slice s.ore.A f.ore.length s.ore.c] 25)) := (Below.refl _ _).alloc (Nat.le_refl _) _
  have hk1 := Blk.new w 25 #[.int .i64 f.wide, .int .i64 f.high, .slice s.ground.A f.ground.length s.ground.c, .slice s.ore.A f.ore.length s.ore.c]
  generalize w.alloc (.cells #[.int .i64 f.wide, .int .i64 f.high, .slice s.ground.A f.ground.length s.ground.c, .slice s.ore.A f.ore.length s.ore.c] 25) = W at *
  have HF := Lib.hid (H.out.below hb1)
  have c0 := hk1.cell 0
  have c1 := hk1.cell 1
  have c2 := hk1.cell 2
  have c3 := hk1.cell 3
  replace c0 : W.cell? ⟨w.heap.size, 0, none⟩ = some (.int .i64 (Wd : Int)) := by rw [← hWd.out]; exact c0
  replace c1 : W.cell? ⟨w.heap.size, 1, none⟩ = some (.int .i64 (Hg : Int)) := by rw [← hHg.out]; exact c1
  replace c2 : W.cell? ⟨w.heap.size, 2, none⟩ = some (.slice s.ground.A f.ground.length s.ground.c) := c2
  replace c3 : W.cell? ⟨w.heap.size, 3, none⟩ = some (.slice s.ore.A f.ore.length s.ore.c) := c3
  replace hb1 := Lib.hid hb1
  replace hk1 := Lib.hid hk1
  have hlT := fun r => txtP_len f Wd r
  have hlR := fun r c => rowP_len f Wd r c
  replace hlT := Lib.hid hlT
  replace hlR := Lib.hid hlR
  go_loopw [3, 4, 5, 6, 7, 8, 9] (fun v r _ _ _ _ _ wr => ∃ rr q : Nat, rr ≤ Hg ∧ r = .int .i64 rr ∧ v = .string (toS (txtP f Wd rr)) ∧ wr = W.drewN q) (fun _ r _ _ _ _ _ _ => Hg - (intOf r).toNat)
  case atStart => exact ⟨0, 0, Nat.zero_le _, rfl, rfl, rfl⟩
  case round =>
  obtain ⟨r, q, hr, rfl, rfl, rfl⟩ := hrel
  by_cases hrl : r < Hg
  · have hT4 : (txtP f Wd r).length ≤ 3000 := by
      rw [hlT.out]
      have : r * (Wd + 1) ≤ 12 * 13 := Nat.mul_le_mul (by omega) (by omega)
      omega
    have hrW : r * Wd + Wd ≤ f.ground.length := by
      rw [hnn.out, ← Nat.succ_mul]; exact Nat.mul_le_mul_right _ hrl
    go_wp2_with fail
    go_loopw [3, 5, 6, 7, 8, 9] (fun v c _ _ _ _ wr => ∃ cc q : Nat, cc ≤ Wd ∧ c = .int .i64 cc ∧ v = .string (toS (txtP f Wd r ++ rowP f Wd r cc)) ∧ wr = W.drewN q) (fun _ c _ _ _ _ _ => Wd - (intOf c).toNat)
    case atStart => exact ⟨0, q, Nat.zero_le _, rfl, by rw [rowP, List.append_nil], rfl⟩
    case round =>
    obtain ⟨c, q2, hc, rfl, rfl, rfl⟩ := hrel
    by_cases hcl : c < Wd
    · obtain ⟨k, hk⟩ : ∃ k, r * Wd + c = k := ⟨_, rfl⟩
      obtain ⟨P, hP⟩ : ∃ P, r * Wd = P := ⟨_, rfl⟩
      have hkn : k < f.ground.length := by omega
      have hPk : P + c = k := by rw [← hP]; exact hk
      have m0 : (r : Int) * (Wd : Int) = (P : Int) := by rw [← hP]; simp
      have m1 : IntKind.i64.wrap ((r : Int) * (Wd : Int)) = (P : Int) := by rw [m0]; exact IntWalk.i64_in _ (by omega)
      have m2 : (P : Int) + (c : Int) = (k : Int) := by omega
      have hl1 : (txtP f Wd r ++ rowP f Wd r c).length ≤ 4000 := by rw [List.length_append, hlR.out]; omega
      obtain ⟨bg, og, hAg, cg1, _⟩ := HF.out.2.2.1.at_ (k := k) hkn
      obtain ⟨bo, oo, hAo, co1, _⟩ := HF.out.2.2.2.at_ (k := k) (by rw [hol.out]; exact hkn)
      obtain ⟨o0, o1, o2, g0, g1⟩ := hos.out k
      have hsg : sgAt f k = signB (f.ground.getD k 0) (f.ore.getD k 0) := rfl
      have hrow : rowP f Wd r (c + 1) = rowP f Wd r c ++ [sgAt f k] := by rw [rowP, hk]
      have hadd := fun V w' => add_run (txtP f Wd r ++ rowP f Wd r c) [V] hl1 (by simp) w'
      have hnx : txtP f Wd r ++ rowP f Wd r c ++ [sgAt f k] = txtP f Wd r ++ rowP f Wd r (c + 1) := by rw [hrow, List.append_assoc]
      generalize txtP f Wd r ++ rowP f Wd r c = TX at *
      generalize sgAt f k = SG at *
      generalize f.ground.getD k 0 = g at *
      generalize f.ore.getD k 0 = o at *
      have m3 : IntKind.i64.wrap ((P : Int) + (c : Int)) = (k : Int) := by rw [m2]; exact IntWalk.i64_in _ (by omega)
      have hPb : P ≤ 144 := by omega
      have m4 : IntKind.i64.wrap (g + 1) = g + 1 := IntWalk.i64_in _ (by omega)
      have hsl := fun w' => sgn_slice g ⟨g0, g1⟩ w'
      have i1 : (k : Int) < (f.ground.length : Int) := by omega
      have i2 : (k : Int) < (f.ore.length : Int) := by rw [hol.out]; omega
      have i2n : k < f.ore.length := by rw [hol.out]; omega
      have d2 := c2
      have d3 := c3
      rw [hAg] at d2
      rw [hAo] at d3
      have hsgn : ¬ 0 < o → SG = sgn g := fun h => by rw [hsg]; unfold signB; rw [if_neg h]
      have htk : 0 < o → tkB o 10 = SG := fun h => by rw [hsg]; exact tkB_10 g o h
      have htk1 : 0 < o → tkB o 1 = 43 := fun h => tkB_1 o h
      replace hk := Lib.hid hk
      replace hP := Lib.hid hP
      replace hPk := Lib.hid hPk
      replace hsg := Lib.hid hsg
      replace hrow := Lib.hid hrow
      replace hnx := Lib.hid hnx
      replace hsgn := Lib.hid hsgn
      replace htk := Lib.hid htk
      replace htk1 := Lib.hid htk1
      replace hAg := Lib.hid hAg
      replace hAo := Lib.hid hAo
      replace m2 := Lib.hid m2
      clear c2 c3 o2
      go_upto_region 9 with fail
      go_cut [7] from 16 to 61 (fun t wx => t = .string (toS [sgn g]) ∧ ∃ q', wx = W.drewN q')
      case first =>
        go_wp2_with fail
        go_big_quiet (fail)
        go_wp2_with fail
        go_meet
        exact ⟨rfl, _, World.drewN_drewN _ _ _⟩
      case rest =>
      obtain ⟨rfl, q3, rfl⟩ := hcut
      clear hsl m4
      by_cases ho : 0 < o
      · have e1 : decide (0 < o) = true := by simp; omega
        have h1 := htk1.out ho
        replace h1 := Lib.hid h1
        go_wp2_with fail
        go_loop [7, 9] (fun t kk => ∃ j : Nat, 1 ≤ j ∧ j ≤ 10 ∧ kk = .int .i64 j ∧ t = .string (toS [tkB o j])) (fun _ kk => 10 - (intOf kk).toNat)
        case atStart => exact ⟨1, by omega, by omega, rfl, by rw [h1.out]; rfl⟩
        case round =>
        obtain ⟨j, hj1, hj2, rfl, rfl⟩ := hrel
        by_cases hjl : j < 10
        · have i5 : (j : Int) < 10 := by omega
          by_cases hoj : o = 10 * (j : Int)
          · have e2 : (o == 10 * (j : Int)) = true := by simp [hoj]
            have hds := fun w' => dig_slice j ⟨hj1, by omega⟩ w'
            have hty := tkB_yes o j hoj
            replace hty := Lib.hid hty
            replace hoj := Lib.hid hoj
            go_wp2_with fail
            go_round
            case rel => exact ⟨j + 1, by omega, by omega, by go_num, by rw [hty.out]⟩
            case measure => simp [intOf]; omega
          · have e2 : (o == 10 * (j : Int)) = false := by simp [hoj]
            have hty := tkB_no o j hoj
            replace hty := Lib.hid hty
            replace hoj := Lib.hid hoj
            go_wp2_with fail
            go_round
            case rel => exact ⟨j + 1, by omega, by omega, by go_num, by rw [hty.out]⟩
            case measure => simp [intOf]; omega
        · obtain rfl : j = 10 := by omega
          have ha := hadd (tkB o 10)
          have ht := htk.out ho
          replace ht := Lib.hid ht
          go_wp2_with fail
          go_roundw
          case rel => exact ⟨c + 1, _, by omega, by go_num, by rw [ht.out, hnx.out], rfl⟩
          case measure => simp [intOf]; omega
      · have e1 : decide (0 < o) = false := by simp; omega
        have ha := hadd (sgn g)
        have ht := hsgn.out ho
        replace ht := Lib.hid ht
        go_wp2_with fail
        go_roundw
        case rel => exact ⟨c + 1, _, by omega, by go_num, by rw [← ht.out, hnx.out], rfl⟩
        case measure => simp [intOf]; omega
    · obtain rfl : c = Wd := by omega
      have hl1 : (txtP f c r ++ rowP f c r c).length ≤ 4000 := by rw [List.length_append, hlR.out]; omega
      have hnl := fun w' => add_nl (txtP f c r ++ rowP f c r c) hl1 w'
      have hnx : txtP f c r ++ rowP f c r c ++ [10] = txtP f c (r + 1) := rfl
      replace hnx := Lib.hid hnx
      go_wp2_with fail
      go_roundw
      case rel => exact ⟨r + 1, _, by omega, by go_num, by rw [← hnx.out, List.append_assoc], rfl⟩
      case measure => simp [intOf]; omega
  · obtain rfl : r = Hg := by omega
    go_wp2_with fail
    go_ret
    exact ⟨rfl, bdrewN hb1.out _⟩
end Go.Proofs.YtkkdegcbikjebaaDoor
