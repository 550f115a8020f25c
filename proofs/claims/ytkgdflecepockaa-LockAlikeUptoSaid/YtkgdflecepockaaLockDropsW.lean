import Derived.Test.YtkgdflecepockaaLockT
namespace Go.Proofs.Ytkgdflecepockaa
set_option linter.unusedVariables false
open Go.RowKit
def noS : Int → Int → Option (List Od) := fun _ _ => none
def outsK (P who k : Nat) : List Bool := (List.range P).map fun i => decide (i < k) && !(i == who)
theorem outsK_0 : ∀ P, P < 5 → ∀ who, who < P → List.replicate P false = outsK P who 0 := by decide
theorem outsK_s : ∀ P, P < 5 → ∀ who, who < P → ∀ k, k < P → k = who ∨ ((outsK P who k).set k true = outsK P who (k + 1) ∧ (outsK P who k).getD k false = false ∧ (outsK P who (k + 1)).getD k false = true) := by decide
theorem outsK_w : ∀ P, P < 5 → ∀ who, who < P → outsK P who (who + 1) = outsK P who who := by decide
theorem outsK_len (P who k : Nat) : (outsK P who k).length = P := by simp [outsK]
theorem outsK_all : ∀ P, P < 5 → ∀ who, who < P → (outsK P who P).set who true = List.replicate P true ∧ (outsK P who P).getD who false = false := by decide
theorem wait_one : ∀ P, P < 5 → ∀ who, who < P → waitL (outsK P who P) noS 0 P = [(who : Int)] := by decide
theorem wait_none (P : Nat) (now : Int) : ∀ k, k ≤ P → waitL (List.replicate P true) noS now k = []
  | 0, _ => rfl
  | k + 1, h => by
    rw [waitL, wait_none P now k (by omega), if_neg (by simp [List.getD_eq_getElem?_getD, show k < P by omega])]
    rfl
theorem wait_two : waitL (List.replicate 2 false) noS 0 2 = [0, 1] := by decide
theorem got_none (now : Int) : ∀ k, gotL noS now k = []
  | 0 => rfl
  | k + 1 => by rw [gotL, got_none now k]; rfl
theorem gone_none (now : Int) (k : Nat) : gone noS now k = noS := by
  funext p t; unfold gone; split <;> rfl
set_option maxHeartbeats 3200000 in
set_option maxRecDepth 100000 in
theorem lockDrops_in (pl who many : Int) (w : World) (h1 : (Lit.int .i64 pl).wf = true) (h2 : (Lit.int .i64 who).wf = true) (h3 : (Lit.int .i64 many).wf = true) :
    Calls Try.prog 4 #[.int .i64 pl, .int .i64 who, .int .i64 many] w fun e w' => e = .returned (.bool true) ∧ Below w.heap.size w w' := by
  clear h1 h2 h3
  go_enter Try.func4, Try.ntmps4
  go_wp2_with fail
  refine (lnew_ok 2 0 w (by omega) (by omega)).mono ?_
  rintro e w1 ⟨G0, O0, M0, rfl, hL0, hb1⟩
  have hs1 := hb1.size
  replace hL0 := Lib.hid hL0
  replace hb1 := Lib.hid hb1
  go_wp2_with fail
  refine (lwaits_any hL0.out).mono ?_
  rintro e w2 ⟨v0, rfl, ho2, hb2⟩
  have hwt : waitL (List.replicate 2 false) (fun _ _ => none) 0 (List.replicate 2 false).length = [0, 1] := wait_two
  rw [hwt] at ho2
  obtain ⟨A0, c0, rfl, _⟩ := own_slice ho2
  have hL2 := hL0.out.below hb2
  have hb3 := hb1.out.trans (hb2.mono hs1)
  have hrd := lready_any hL2 _ hwt
  rw [decide_eq_false (by simp)] at hrd
  replace hb3 := Lib.hid hb3
  replace hrd := Lib.hid hrd
  replace ho2 := Lib.hid ho2
  replace hwt := Lib.hid hwt
  clear hL0 hL2 hb2 hb1
  simp only [List.length_cons, List.length_nil]
  go_wp2_with (go_at_call 9; refine hrd.out.mono ?_; rintro e w3 ⟨rfl, hb4⟩; replace hb4 := Lib.hid hb4)
  have hb5 := hb3.out.trans (hb4.out.mono hb3.out.size)
  have hs3 := hb5.size
  replace hb5 := Lib.hid hb5
  clear hb3 hrd ho2 hb4 hs1
  by_cases hp : pl < 1 ∨ 4 < pl
  · have hc := lnew_bad pl 0 w3 (by omega)
    unfold erL at hc
    replace hc := Lib.hid hc
    refine hc.out.mono ?_
    rintro e w4 ⟨rfl, rfl⟩
    go_wp2_with fail
    go_ret
    exact ⟨rfl, hb5.out⟩
  · obtain ⟨P, rfl⟩ : ∃ P : Nat, pl = (P : Int) := ⟨pl.toNat, by omega⟩
    have hP1 : 1 ≤ P := by omega
    have hP4 : P ≤ 4 := by omega
    refine (lnew_ok P 0 w3 ⟨hP1, hP4⟩ (by omega)).mono ?_
    rintro e w4 ⟨G, O, M, rfl, hL4, hb6⟩
    have hb7 := hb5.out.trans (hb6.mono hs3)
    have hs7 := hb7.size
    replace hL4 := Lib.hid hL4
    replace hb7 := Lib.hid hb7
    clear hp hb6 hb5
    by_cases hw0 : who < 0
    · have d1 : decide (who < 0) = true := decide_eq_true hw0
      go_wp2_with fail
      go_ret
      exact ⟨rfl, hb7.out⟩
    have d1 : decide (who < 0) = false := decide_eq_false hw0
    by_cases hw1 : (P : Int) ≤ who
    · have d2 : decide ((P : Int) ≤ who) = true := decide_eq_true hw1
      go_wp2_with fail
      go_ret
      exact ⟨rfl, hb7.out⟩
    have d2 : decide ((P : Int) ≤ who) = false := decide_eq_false hw1
    by_cases hm0 : many < 0
    · have d3 : decide (many < 0) = true := decide_eq_true hm0
      go_wp2_with fail
      go_ret
      exact ⟨rfl, hb7.out⟩
    have d3 : decide (many < 0) = false := decide_eq_false hm0
    by_cases hm1 : 20 < many
    · have d4 : decide (20 < many) = true := decide_eq_true hm1
      go_wp2_with fail
      go_ret
      exact ⟨rfl, hb7.out⟩
    have d4 : decide (20 < many) = false := decide_eq_false hm1
    obtain ⟨W, rfl⟩ : ∃ W : Nat, who = (W : Int) := ⟨who.toNat, by omega⟩
    obtain ⟨T, rfl⟩ : ∃ T : Nat, many = (T : Int) := ⟨many.toNat, by omega⟩
    have hWP : W < P := by omega
    have hT20 : T ≤ 20 := by omega
    have d2n : decide (P ≤ W) = false := decide_eq_false (by omega)
    have hL40 : LK w3.heap.size w4 G O M 0 0 0 (outsK P W 0) noS := by
      have := hL4.out
      rw [outsK_0 P (by omega) W hWP] at this
      exact this
    replace hL40 := Lib.hid hL40
    clear hw0 hw1 hm0 hm1 hL4
    go_wp2_with fail
    go_loopw [12] (fun vp wr => ∃ k : Nat, vp = .int .i64 k ∧ k ≤ P ∧ Hid (LK w3.heap.size wr G O M 0 0 0 (outsK P W k) noS) ∧ Hid (LEff w4 wr G O M)) (fun vp _ => P - (intOf vp).toNat)
    case atStart => exact ⟨0, rfl, Nat.zero_le _, hL40, Lib.hid (LEff.refl _ _ _ _)⟩
    case round =>
      obtain ⟨k, rfl, hk, hLk, hE⟩ := hrel
      by_cases hlt : k < P
      · have i1 : (k : Int) < (P : Int) := by omega
        rcases outsK_s P (by omega) W hWP k hlt with hkw | ⟨s1, s2, s3⟩
        · subst hkw
          have hL9 := hLk.out
          rw [← outsK_w P (by omega) k hWP] at hL9
          replace hL9 := Lib.hid hL9
          go_wp2_with fail
          go_roundw
          case rel => exact ⟨k + 1, by go_num, by omega, hL9, hE⟩
          case measure => simp [intOf]; omega
        · by_cases hkw : k = W
          · subst hkw
            have hL9 := hLk.out
            rw [← outsK_w P (by omega) k hWP] at hL9
            replace hL9 := Lib.hid hL9
            clear s1 s2 s3
            go_wp2_with fail
            go_roundw
            case rel => exact ⟨k + 1, by go_num, by omega, hL9, hE⟩
            case measure => simp [intOf]; omega
          · have g1 : ((k : Int) == (W : Int)) = false := by rw [beq_eq_false_iff_ne]; omega
            replace s1 := Lib.hid s1
            replace s2 := Lib.hid s2
            replace s3 := Lib.hid s3
            replace hkw := Lib.hid hkw
            go_wp2_with fail
            refine (ldrop_ok k hLk.out (by rw [outsK_len]; exact hlt) s2.out).mono ?_
            rintro e w6 ⟨rfl, hL6, hE6⟩
            rw [s1.out] at hL6
            have hpe : plE (outsK P W (k + 1)) (k : Int) = 7 := by
              unfold plE
              rw [if_neg (by rw [outsK_len]; omega), if_pos (by simp only [Int.toNat_natCast]; exact s3.out)]
            have hdn := ldrop_no (k : Int) hL6 (by rw [hpe]; decide)
            rw [hpe] at hdn
            unfold erL at hdn
            have hE7 := hE.out.trans hE6
            replace hdn := Lib.hid hdn
            replace hL6 := Lib.hid hL6
            replace hE7 := Lib.hid hE7
            clear hE6 hpe
            go_wp2_with fail
            refine hdn.out.mono ?_
            rintro e w7 ⟨rfl, rfl⟩
            go_wp2_with fail
            go_roundw
            case rel => exact ⟨k + 1, by go_num, by omega, hL6, hE7⟩
            case measure => simp [intOf]; omega
      · have i1 : ¬ (k : Int) < (P : Int) := by omega
        obtain rfl : k = P := by omega
        clear hL40
        have hw1 := wait_one k (by omega) W hWP
        have hwa := lwaits_any hLk.out
        rw [outsK_len, hw1] at hwa
        have hbA := hb7.out.trans (hE.out.below hs7 (by have := hLk.out.low; omega))
        have hsA := hbA.size
        replace hwa := Lib.hid hwa
        replace hbA := Lib.hid hbA
        go_wp2_with fail
        refine hwa.out.mono ?_
        clear hwa
        rintro e w6 ⟨v6, rfl, ho6, hb6⟩
        obtain ⟨g6, c6, hv6, _⟩ := ho6.form (by simp)
        subst hv6
        have k6 := ho6.cellAt 0 (by simp)
        replace k6 : w6.cell? ⟨g6, 0, none⟩ = some (.int .i64 (W : Int)) := k6
        have hl6 := (ho6.lt g6 rfl).2
        have hL6 := hLk.out.below hb6
        have hrd := lready_any hL6 [(W : Int)] (by rw [outsK_len]; exact hw1)
        rw [decide_eq_false (by simp)] at hrd
        have hbB := hbA.out.trans (hb6.mono hsA)
        have hsB := hbB.size
        replace hrd := Lib.hid hrd
        replace hL6 := Lib.hid hL6
        replace hbB := Lib.hid hbB
        replace ho6 := Lib.hid ho6
        replace hw1 := Lib.hid hw1
        clear hb6 hbA hLk hE
        simp only [List.length_cons, List.length_nil]
        go_wp2_with (go_at_call 9; refine hrd.out.mono ?_; rintro e w7 ⟨rfl, hb8⟩; replace hb8 := Lib.hid hb8)
        have hL7 := hL6.out.below hb8.out
        have hbC := hbB.out.trans (hb8.out.mono hsB)
        have hsC := hbC.size
        obtain ⟨a1, a2⟩ := outsK_all k (by omega) W hWP
        have hdr := ldrop_ok W hL7 (by rw [outsK_len]; exact hWP) a2
        rw [a1] at hdr
        replace hdr := Lib.hid hdr
        replace hbC := Lib.hid hbC
        clear k6 hl6 hb8 hL6 hbB hL7 a1 a2
        refine hdr.out.mono ?_
        clear hdr
        rintro e w8 ⟨rfl, hL8, hE8⟩
        have hbD := hbC.out.trans (hE8.below hsC (by have := hL8.low; omega))
        have hsD := hbD.size
        replace hL8 := Lib.hid hL8
        replace hbD := Lib.hid hbD
        clear hE8 hbC
        go_wp2_with fail
        go_loopw [17] (fun vt wr => ∃ t : Nat, vt = .int .i64 t ∧ t ≤ T ∧ Hid (LK w3.heap.size wr G O M 0 0 t (List.replicate k true) noS) ∧ Hid (LEff w8 wr G O M)) (fun vt _ => T - (intOf vt).toNat)
        case atStart => exact ⟨0, rfl, Nat.zero_le _, hL8, Lib.hid (LEff.refl _ _ _ _)⟩
        case round =>
          clear hL8
          obtain ⟨t, rfl, ht, hLt, hEt⟩ := hrel
          have hwn : waitL (List.replicate k true) noS t (List.replicate k true).length = [] := by rw [List.length_replicate]; exact wait_none k t k (Nat.le_refl _)
          by_cases htl : t < T
          · have i2 : (t : Int) < (T : Int) := by omega
            have htk := ltake_ok hLt.out hwn (by rw [got_none]; simp) (by omega) (by rw [got_none]; rfl)
            rw [got_none, gone_none] at htk
            replace htk := Lib.hid htk
            replace hwn := Lib.hid hwn
            go_wp2_with fail
            refine htk.out.mono ?_
            clear htk
            rintro e w9 ⟨A9, c9, R, rfl, hI, ho9, hL9, hE9⟩
            obtain rfl := hI.unique isLast_nil
            have hE10 := hEt.out.trans hE9
            have hL10 : LK w3.heap.size w9 G O M 0 0 ((t + 1 : Nat) : Int) (List.replicate k true) noS := by
              rw [show (((t + 1 : Nat) : Int)) = (t : Int) + 1 by omega]; exact hL9
            replace hE10 := Lib.hid hE10
            replace hL10 := Lib.hid hL10
            clear hI ho9 hL9 hE9
            simp only [List.length_nil]
            go_wp2_with fail
            go_roundw
            case rel => exact ⟨t + 1, by go_num, by omega, hL10, hE10⟩
            case measure => simp [intOf]; omega
          · have i2 : ¬ (t : Int) < (T : Int) := by omega
            obtain rfl : t = T := by omega
            have hrd := lready_any hLt.out _ hwn
            rw [decide_eq_true rfl] at hrd
            have hbE := hbD.out.trans (hEt.out.below hsD (by have := hLt.out.low; omega))
            have hsE := hbE.size
            replace hrd := Lib.hid hrd
            replace hbE := Lib.hid hbE
            replace hwn := Lib.hid hwn
            go_wp2_with (first | (go_at_call 9; refine hrd.out.mono ?_; rintro e w9 ⟨rfl, hb9⟩; replace hb9 := Lib.hid hb9) | (go_at_call 12; refine (lnow_any (hLt.out.below hb9.out)).mono ?_; rintro e w10 ⟨rfl, rfl⟩))
            go_ret
            exact ⟨rfl, hbE.out.trans (hb9.out.mono hsE)⟩
end Go.Proofs.Ytkgdflecepockaa
