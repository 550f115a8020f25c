import Derived.Test.YtkkdegcbikjebaaDoorRefK
namespace Go.Proofs.YtkkdegcbikjebaaDoor
set_option linter.unusedVariables false
open Go.RowKit
theorem rbad_ways (c : Ch) : (badCh c = true ∧ (decide (c.a < 0) = true ∨ (decide (c.a < 0) = false ∧ decide ((5999 : Int) < c.a) = true) ∨ (decide (c.a < 0) = false ∧ decide ((5999 : Int) < c.a) = false ∧ decide (c.o < -1) = true) ∨
      (decide (c.a < 0) = false ∧ decide ((5999 : Int) < c.a) = false ∧ decide (c.o < -1) = false ∧ decide ((255 : Int) < c.o) = true) ∨
      (decide (c.a < 0) = false ∧ decide ((5999 : Int) < c.a) = false ∧ decide (c.o < -1) = false ∧ decide ((255 : Int) < c.o) = false ∧ decide (c.n < -1) = true) ∨
      (decide (c.a < 0) = false ∧ decide ((5999 : Int) < c.a) = false ∧ decide (c.o < -1) = false ∧ decide ((255 : Int) < c.o) = false ∧ decide (c.n < -1) = false ∧ decide ((255 : Int) < c.n) = true) ∨
      (decide (c.a < 0) = false ∧ decide ((5999 : Int) < c.a) = false ∧ decide (c.o < -1) = false ∧ decide ((255 : Int) < c.o) = false ∧ decide (c.n < -1) = false ∧ decide ((255 : Int) < c.n) = false ∧ (c.o == c.n) = true))) ∨
    (badCh c = false ∧ decide (c.a < 0) = false ∧ decide ((5999 : Int) < c.a) = false ∧ decide (c.o < -1) = false ∧ decide ((255 : Int) < c.o) = false ∧ decide (c.n < -1) = false ∧ decide ((255 : Int) < c.n) = false ∧ (c.o == c.n) = false) := by
  obtain ⟨a, o, n⟩ := c
  unfold badCh
  simp only [decide_eq_true_eq, decide_eq_false_iff_not, beq_iff_eq, beq_eq_false_iff_ne, ne_eq]
  omega
set_option maxHeartbeats 3200000 in
set_option maxRecDepth 100000 in
theorem rchange_any (A : Option Addr) (c B : Nat) (L : List Ch) (k : Nat) (w : World) (h : RC w B A L) (hB : B ≤ w.heap.size) (hlt : k < L.length) (hL6 : L.length ≤ 6000) :
    Calls Tryd.prog 68 #[.slice A L.length c, .int .i64 k] w fun e w' => e = .returned (.int .i64 (chE L k)) ∧ Below w.heap.size w w' := by
  have HR := h
  clear h
  obtain ⟨b, off, hA, hbB⟩ := rc_addr HR (by omega)
  obtain ⟨e0, e1, e2⟩ := rc_cell HR hA k hlt
  subst hA
  have j1 : (k : Int) < (L.length : Int) := by omega
  have hpv : 0 < k → w.cell? ⟨b, off + (k - 1) * 3, none⟩ = some (.int .i64 (chG L (k - 1)).a) := fun hk0 => (rc_cell HR rfl (k - 1) (by omega)).1
  have hw := rbad_ways (chG L k)
  have hE1 := chE_1 L k
  have hE5 := chE_5 L k
  have hE0 := chE_0 L k
  replace HR := Lib.hid HR
  replace hw := Lib.hid hw
  replace hE1 := Lib.hid hE1
  replace hE5 := Lib.hid hE5
  replace hE0 := Lib.hid hE0
  replace hpv := Lib.hid hpv
  generalize hcg : chG L k = cg at *
  replace hcg := Lib.hid hcg
  obtain ⟨ca, co, cn⟩ := cg
  dsimp only at *
  go_enter Tryd.func68, Tryd.ntmps68
  go_upto_region 2 with fail
  have hb1 : Below w.heap.size w (w.alloc (.cells #[.int .i64 ca, .int .i64 co, .int .i64 cn] 111)) := (Below.refl _ _).alloc (Nat.le_refl _) _
  have hk1 := Blk.new w 111 #[.int .i64 ca, .int .i64 co, .int .i64 cn]
  have hpv1 : 0 < k → (w.alloc (.cells #[.int .i64 ca, .int .i64 co, .int .i64 cn] 111)).cell? ⟨b, off + (k - 1) * 3, none⟩ = some (.int .i64 (chG L (k - 1)).a) := fun h0 => by
    rw [World.cell?_of_block (w := w) (Below.heap_alloc w _ b (by omega))]; exact hpv.out h0
  clear e0 e1 e2 hpv HR
  generalize w.alloc (.cells #[.int .i64 ca, .int .i64 co, .int .i64 cn] 111) = W1 at *
  generalize hg1 : w.heap.size = g1 at *
  have c0 := hk1.cell 0
  have c1 := hk1.cell 1
  have c2 := hk1.cell 2
  have hlt1 := hk1.lt
  replace hk1 := Lib.hid hk1
  replace hb1 := Lib.hid hb1
  replace hpv1 := Lib.hid hpv1
  go_cut [44] from 10 to 57 (fun t wx => t = .bool (badCh ⟨ca, co, cn⟩) ∧ W1 = wx)
  case first =>
    rcases hw.out with ⟨hh, q1 | ⟨q1, q2⟩ | ⟨q1, q2, q3⟩ | ⟨q1, q2, q3, q4⟩ | ⟨q1, q2, q3, q4, q5⟩ | ⟨q1, q2, q3, q4, q5, q6⟩ | ⟨q1, q2, q3, q4, q5, q6, q7⟩⟩ | ⟨hh, q1, q2, q3, q4, q5, q6, q7⟩
    all_goals
      replace hh := Lib.hid hh
      go_wp2_with fail
      go_meet
      exact ⟨by rw [hh.out], rfl⟩
  case rest =>
  obtain ⟨rfl, rfl⟩ := hcut
  cases hbd : badCh ⟨ca, co, cn⟩ with
  | true =>
    have h1 := hE1.out hbd
    replace h1 := Lib.hid h1
    clear c0 c1 c2
    go_wp2_with fail
    go_ret
    exact ⟨by rw [h1.out]; rfl, hg1 ▸ hb1.out⟩
  | false =>
    go_upto_region 4 with fail
    go_cut [57] from 45 to 57 (fun t wx => t = .bool (decide (0 < k ∧ ca ≤ (chG L (k - 1)).a)) ∧ ∃ q, wx = W1.drewN q)
    case first =>
      rcases Nat.eq_zero_or_pos k with h0 | h0
      · have d0 : decide (0 < (k : Int)) = false := by simp; omega
        have d1 : decide (0 < k ∧ ca ≤ (chG L (k - 1)).a) = false := by simp; omega
        replace d1 := Lib.hid d1
        subst h0
        go_wp2_with fail
        go_quiet (fail)
        go_wp2_with fail
        go_meet
        exact ⟨by rw [d1.out], _, rfl⟩
      · have d0 : decide (0 < (k : Int)) = true := by simp; omega
        have hp := hpv1.out h0
        have hin : k - 1 < L.length := by omega
        obtain ⟨j, rfl⟩ : ∃ j, k = j + 1 := ⟨k - 1, by omega⟩
        have hp2 : W1.cell? ⟨b, off + j * 3, none⟩ = some (.int .i64 (chG L j).a) := hp
        have e5 : IntKind.i64.wrap (((j + 1 : Nat) : Int) - 1) = (j : Int) := by rw [IntKind.wrap_i64]; omega
        have e6 : (j : Int) < (L.length : Int) := by omega
        have e7 : 0 ≤ (j : Int) := by omega
        clear hp hpv1
        generalize hpa : (chG L j).a = pa at *
        have d1 : decide (0 < j + 1 ∧ ca ≤ pa) = decide (ca ≤ pa) := by simp
        replace d1 := Lib.hid d1
        go_wp2_with fail
        go_quiet (fail)
        go_wp2_with fail
        go_meet
        exact ⟨by rw [show j + 1 - 1 = j from rfl, hpa, d1.out], _, rfl⟩
    case rest =>
    obtain ⟨rfl, q, rfl⟩ := hcut
    clear c0 c1 c2
    by_cases ho : 0 < k ∧ ca ≤ (chG L (k - 1)).a
    · have h1 := hE5.out hbd ho
      replace h1 := Lib.hid h1
      have d1 : decide (0 < k ∧ ca ≤ (chG L (k - 1)).a) = true := decide_eq_true ho
      rw [d1]
      go_wp2_with fail
      go_ret
      exact ⟨by rw [h1.out]; rfl, hg1 ▸ below_drewN hb1.out _⟩
    · have d1 : decide (0 < k ∧ ca ≤ (chG L (k - 1)).a) = false := decide_eq_false ho
      have h1 := hE0.out hbd ho
      replace h1 := Lib.hid h1
      rw [d1]
      go_wp2_with fail
      go_ret
      exact ⟨by rw [h1.out]; rfl, hg1 ▸ below_drewN hb1.out _⟩
end Go.Proofs.YtkkdegcbikjebaaDoor
