import Derived.Test.YtkkdegcbikjebaaPlainK
import Derived.Test.YtkkdegcbikjebaaFeed
import Derived.Test.YtkkdegcbikjebaaApp
import Derived.Test.YtkkdegcbikjebaaArr
import Derived.BigQuiet
import Derived.Deep.QuietTactic
import Derived.Deep.RegionWith
namespace Go.Proofs.Ytkkdegcbikjebaa
set_option linter.unusedVariables false
open Go.RowKit
/-- The changes that a slice holds. -/
def RC (w : World) (B : Nat) (A : Option Addr) (L : List Ch) : Prop := RD w B 3 A L.length (L.flatMap chC)
theorem rc_cell {w : World} {B b off : Nat} {A : Option Addr} {L : List Ch} (h : RC w B A L) (hA : A = some ⟨b, off, none⟩) (k : Nat) (hk : k < L.length) :
    w.cell? ⟨b, off + k * 3, none⟩ = some (.int .i64 (chG L k).a) ∧ w.cell? ⟨b, off + k * 3 + 1, none⟩ = some (.int .i64 (chG L k).o) ∧ w.cell? ⟨b, off + k * 3 + 2, none⟩ = some (.int .i64 (chG L k).n) := by
  obtain ⟨b', off', e, _, hc⟩ := h.2 (by omega)
  rw [e] at hA
  injection hA with hA
  injection hA with e1 e2
  subst e1; subst e2
  have g := fun j hj => flat_get chC 3 chC_len L k j hj
  have c0 := hc (k * 3 + 0) (by omega)
  have c1 := hc (k * 3 + 1) (by omega)
  have c2 := hc (k * 3 + 2) (by omega)
  rw [g 0 (by omega), chG_get L k hk] at c0
  rw [g 1 (by omega), chG_get L k hk] at c1
  rw [g 2 (by omega), chG_get L k hk] at c2
  exact ⟨c0, c1, c2⟩
theorem rc_addr {w : World} {B : Nat} {A : Option Addr} {L : List Ch} (h : RC w B A L) (hn : 0 < L.length) : ∃ b off, A = some ⟨b, off, none⟩ ∧ b < B := RD.addr h hn
def erK (n : Int) : Value := if n = 0 then .nilIface else .iface 69 (.int .i64 n)
theorem erK0 : erK 0 = .nilIface := rfl
theorem erKn (n : Int) (h : n ≠ 0) : erK n = .iface 69 (.int .i64 n) := if_neg h
theorem sign_any (n : Int) (w : World) : Calls Try.prog 58 #[.int .i64 n] w fun e w' => e = .returned (.bool (sgnOk n)) ∧ w = w' := by
  have hs : sgnOk n = (decide (-1 ≤ n) && decide (n ≤ 255)) := by unfold sgnOk; rw [Bool.eq_iff_iff]; simp
  rw [hs]
  by_cases h : -1 ≤ n
  · have d1 : decide (-1 ≤ n) = true := by simp; omega
    go_enter Try.func58, Try.ntmps58
    go_wp2_with fail
    go_ret
    exact ⟨by rw [d1]; rfl, rfl⟩
  · have d1 : decide (-1 ≤ n) = false := by simp; omega
    go_enter Try.func58, Try.ntmps58
    go_wp2_with fail
    go_ret
    exact ⟨by simp, rfl⟩
/-- The five ways in which a change is wrong, and the one in which it is not. -/
theorem bad_ways (c : Ch) : (badCh c = true ∧ (decide (c.a < 0) = true ∨ (decide (c.a < 0) = false ∧ decide ((6000 : Int) ≤ c.a) = true) ∨ (decide (c.a < 0) = false ∧ decide ((6000 : Int) ≤ c.a) = false ∧ sgnOk c.o = false) ∨
      (decide (c.a < 0) = false ∧ decide ((6000 : Int) ≤ c.a) = false ∧ sgnOk c.o = true ∧ sgnOk c.n = false) ∨ (decide (c.a < 0) = false ∧ decide ((6000 : Int) ≤ c.a) = false ∧ sgnOk c.o = true ∧ sgnOk c.n = true ∧ (c.o == c.n) = true))) ∨
    (badCh c = false ∧ decide (c.a < 0) = false ∧ decide ((6000 : Int) ≤ c.a) = false ∧ sgnOk c.o = true ∧ sgnOk c.n = true ∧ (c.o == c.n) = false) := by
  obtain ⟨a, o, n⟩ := c
  unfold badCh sgnOk
  simp only [decide_eq_true_eq, decide_eq_false_iff_not, beq_iff_eq, beq_eq_false_iff_ne, ne_eq]
  omega
theorem under_chf' : (match Try.prog.underlying 81 with | some (.func _ _ _) => true | _ => false) = true := by kernel_rfl
theorem under_chf : ∃ a b c, Try.prog.underlying 81 = some (.func a b c) := by
  have h := under_chf'
  split at h
  · rename_i a b c e; exact ⟨a, b, c, e⟩
  · cases h
theorem eql_nilFunc_in (d : Nat) (w : World) : (Op.equalIn (d + 1) 81 .nilFunc .nilFunc).run Try.prog w = .ok true w := by
  obtain ⟨a, b, c, h⟩ := under_chf
  simp [Op.equalIn, run_underlying h]
theorem eql_nilFunc_eq (w : World) : (Op.equal 81 .nilFunc .nilFunc).run Try.prog w = .ok true w := eql_nilFunc_in 9999 w
theorem eql_nilFunc (w : World) : (binOp .eql 81 .nilFunc .nilFunc).run Try.prog w = .ok (.bool true) w := by
  simp only [binOp]
  simp [eql_nilFunc_eq]
theorem eql_func_in (f : Fn) (fi ca : Array Value) (d : Nat) (w : World) : (Op.equalIn (d + 1) 81 (.func f fi ca) .nilFunc).run Try.prog w = .ok false w := by
  obtain ⟨a, b, c, h⟩ := under_chf
  simp [Op.equalIn, run_underlying h]
theorem eql_func_eq (f : Fn) (fi ca : Array Value) (w : World) : (Op.equal 81 (.func f fi ca) .nilFunc).run Try.prog w = .ok false w := eql_func_in f fi ca 9999 w
theorem eql_func (f : Fn) (fi ca : Array Value) (w : World) : (binOp .eql 81 (.func f fi ca) .nilFunc).run Try.prog w = .ok (.bool false) w := by
  simp only [binOp]
  simp [eql_func_eq]
def CkRel (w : World) (L : List Ch) (vi : Value) (wr : World) : Prop := ∃ k : Nat, vi = .int .i64 k ∧ k ≤ L.length ∧ Hid (chkN L k = 0) ∧ Hid (Below w.heap.size w wr)
set_option maxHeartbeats 3200000 in
set_option maxRecDepth 100000 in
theorem check_nil (A : Option Addr) (c : Nat) (L : List Ch) (w : World) (h : RC w w.heap.size A L) :
    Calls Try.prog 37 #[.slice A L.length c, .nilFunc] w fun e w' => e = .returned (erK (chkL L)) ∧ Below w.heap.size w w' := by
  have H := Lib.hid h
  clear h
  by_cases hl : 6000 < L.length
  · have hE : chkL L = 4 := if_pos hl
    have d1 : decide ((6000 : Int) < (L.length : Int)) = true := by simp; omega
    replace hE := Lib.hid hE
    go_enter Try.func37, Try.ntmps37
    go_wp2_with fail
    go_ret
    exact ⟨by rw [hE.out]; rfl, Below.refl _ _⟩
  · have d1 : decide ((6000 : Int) < (L.length : Int)) = false := by simp; omega
    have hE : chkL L = chkN L L.length := if_neg hl
    replace hE := Lib.hid hE
    go_enter Try.func37, Try.ntmps37
    go_wp2_with fail
    go_loopw [5, 6, 7, 14, 19, 48] (fun _ _ _ vi _ _ wr => CkRel w L vi wr) (fun _ _ _ vi _ _ _ => L.length - (intOf vi).toNat)
    case atStart => exact ⟨0, rfl, Nat.zero_le _, Lib.hid rfl, Lib.hid (Below.refl _ _)⟩
    case round =>
      obtain ⟨k, rfl, hk, hck, hb⟩ := hrel
      by_cases hlt : k < L.length
      · have hs := hb.out.size
        have HR : RC wr w.heap.size A L := H.out.below hb.out
        obtain ⟨b, off, hA, hbB⟩ := rc_addr HR (by omega)
        obtain ⟨e0, e1, e2⟩ := rc_cell HR hA k hlt
        subst hA
        have j1 : (k : Int) < (L.length : Int) := by omega
        have hnx := chkN_next L k hck.out
        have hpv : 0 < k → wr.cell? ⟨b, off + (k - 1) * 3, none⟩ = some (.int .i64 (chG L (k - 1)).a) := fun hk0 => (rc_cell HR rfl (k - 1) (by omega)).1
        have hw := bad_ways (chG L k)
        have hE1 := chE_1 L k
        have hE5 := chE_5 L k
        have hE0 := chE_0 L k
        replace HR := Lib.hid HR
        replace hw := Lib.hid hw
        replace hE1 := Lib.hid hE1
        replace hE5 := Lib.hid hE5
        replace hE0 := Lib.hid hE0
        replace hnx := Lib.hid hnx
        replace hpv := Lib.hid hpv
        generalize hcg : chG L k = cg at *
        replace hcg := Lib.hid hcg
        obtain ⟨ca, co, cn⟩ := cg
        dsimp only at *
        go_upto_region 6 with fail
        have hb1 : Below w.heap.size w (wr.alloc (.cells #[.int .i64 ca, .int .i64 co, .int .i64 cn] 45)) := hb.out.alloc hs _
        have hk1 := Blk.new wr 45 #[.int .i64 ca, .int .i64 co, .int .i64 cn]
        have hpv1 : 0 < k → (wr.alloc (.cells #[.int .i64 ca, .int .i64 co, .int .i64 cn] 45)).cell? ⟨b, off + (k - 1) * 3, none⟩ = some (.int .i64 (chG L (k - 1)).a) := fun h0 => by
          rw [World.cell?_of_block (w := wr) (Below.heap_alloc wr _ b (by omega))]; exact hpv.out h0
        clear e0 e1 e2 hpv HR
        generalize wr.alloc (.cells #[.int .i64 ca, .int .i64 co, .int .i64 cn] 45) = W1 at *
        generalize hg1 : wr.heap.size = g1 at *
        have c0 := hk1.cell 0
        have c1 := hk1.cell 1
        have c2 := hk1.cell 2
        have hlt1 := hk1.lt
        replace hk1 := Lib.hid hk1
        replace hb1 := Lib.hid hb1
        replace hpv1 := Lib.hid hpv1
        go_cut [19] from 15 to 71 (fun t wx => t = .bool (badCh ⟨ca, co, cn⟩) ∧ W1 = wx)
        case first =>
          rcases hw.out with ⟨hh, q1 | ⟨q1, q2⟩ | ⟨q1, q2, q3⟩ | ⟨q1, q2, q3, q4⟩ | ⟨q1, q2, q3, q4, q5⟩⟩ | ⟨hh, q1, q2, q3, q4, q5⟩
          all_goals replace hh := Lib.hid hh
          · go_wp2_with fail
            go_meet
            exact ⟨by rw [hh.out], rfl⟩
          · go_wp2_with fail
            go_meet
            exact ⟨by rw [hh.out], rfl⟩
          · go_wp2_with fail
            refine (sign_any co _).mono ?_
            rintro e w' ⟨rfl, rfl⟩
            go_wp2_with fail
            go_meet
            exact ⟨by rw [hh.out], rfl⟩
          all_goals
            go_wp2_with fail
            refine (sign_any co _).mono ?_
            rintro e w' ⟨rfl, rfl⟩
            go_wp2_with fail
            refine (sign_any cn _).mono ?_
            rintro e w' ⟨rfl, rfl⟩
            go_wp2_with fail
            go_meet
            exact ⟨by rw [hh.out], rfl⟩
        case rest =>
        obtain ⟨rfl, rfl⟩ := hcut
        have hend : ∀ n : Int, n ≠ 0 → chE L k = n → chkL L = n := fun n h0 h1 => by
          rw [hE.out, chkN_end L (k + 1) L.length (by omega) (by rw [hnx.out, h1]; exact h0), hnx.out, h1]
        replace hend := Lib.hid hend
        cases hbd : badCh ⟨ca, co, cn⟩ with
        | true =>
          have h1 := hend.out 1 (by omega) (hE1.out hbd)
          replace h1 := Lib.hid h1
          clear c0 c1 c2
          go_wp2_with fail
          go_ret
          exact ⟨by rw [h1.out]; rfl, hb1.out⟩
        | false =>
          go_upto_region 8 with fail
          go_cut [48] from 48 to 71 (fun t wx => t = .bool (decide (0 < k ∧ ca ≤ (chG L (k - 1)).a)) ∧ ∃ q, wx = W1.drewN q)
          case first =>
            rcases Nat.eq_zero_or_pos k with h0 | h0
            · have d0 : decide (0 < (k : Int)) = false := by simp; omega
              have d1 : decide (0 < k ∧ ca ≤ (chG L (k - 1)).a) = false := by simp; omega
              replace d1 := Lib.hid d1
              subst h0
              go_wp2_with fail
              go_quiet (fail)
              go_wp2_with fail
              go_meet
              exact ⟨by rw [d1.out], _, rfl⟩
            · have d0 : decide (0 < (k : Int)) = true := by simp; omega
              have hp := hpv1.out h0
              have hin : k - 1 < L.length := by omega
              obtain ⟨j, rfl⟩ : ∃ j, k = j + 1 := ⟨k - 1, by omega⟩
              have hp2 : W1.cell? ⟨b, off + j * 3, none⟩ = some (.int .i64 (chG L j).a) := hp
              have e5 : IntKind.i64.wrap (((j + 1 : Nat) : Int) - 1) = (j : Int) := by rw [IntKind.wrap_i64]; omega
              have e6 : (j : Int) < (L.length : Int) := by omega
              have e7 : 0 ≤ (j : Int) := by omega
              clear hp hpv1
              generalize hpa : (chG L j).a = pa at *
              have d1 : decide (0 < j + 1 ∧ ca ≤ pa) = decide (ca ≤ pa) := by simp
              replace d1 := Lib.hid d1
              go_wp2_with fail
              go_quiet (fail)
              go_wp2_with fail
              go_meet
              exact ⟨by rw [show j + 1 - 1 = j from rfl, hpa, d1.out], _, rfl⟩
          case rest =>
          obtain ⟨rfl, q, rfl⟩ := hcut
          clear c0 c1 c2
          by_cases ho : 0 < k ∧ ca ≤ (chG L (k - 1)).a
          · have h1 := hend.out 5 (by omega) (hE5.out hbd ho)
            replace h1 := Lib.hid h1
            have d1 : decide (0 < k ∧ ca ≤ (chG L (k - 1)).a) = true := decide_eq_true ho
            rw [d1]
            go_wp2_with fail
            go_ret
            exact ⟨by rw [h1.out]; rfl, below_drewN hb1.out _⟩
          · have d1 : decide (0 < k ∧ ca ≤ (chG L (k - 1)).a) = false := decide_eq_false ho
            have h1 : chkN L (k + 1) = 0 := hnx.out.trans (hE0.out hbd ho)
            replace h1 := Lib.hid h1
            rw [d1]
            have hnf := eql_nilFunc
            go_wp2_with fail
            go_roundw
            case rel => exact ⟨k + 1, by go_num, by omega, h1, Lib.hid (below_drewN hb1.out _)⟩
            case measure => simp [intOf]; omega
      · have j1 : ¬ (k : Int) < (L.length : Int) := by omega
        have h1 : chkL L = 0 := by rw [hE.out, show L.length = k by omega]; exact hck.out
        replace h1 := Lib.hid h1
        go_wp2_with fail
        go_ret
        exact ⟨by rw [h1.out]; rfl, hb.out⟩
end Go.Proofs.Ytkkdegcbikjebaa
