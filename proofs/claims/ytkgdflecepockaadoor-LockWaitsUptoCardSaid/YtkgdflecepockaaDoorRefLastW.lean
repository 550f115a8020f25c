import Derived.Test.YtkgdflecepockaaDoorRefLast
import Derived.StillTailTactics
import Derived.WalkSpells
namespace Go.Proofs.YtkgdflecepockaaDoor
set_option linter.unusedVariables false
open Go.RowKit
/-! The walk of the reference's Last. -/
theorem ro_cc {w : World} {B b o : Nat} {L : List Od} (h : RO w B (some ⟨b, o, none⟩) L) (k : Nat) (hk : k < L.length) :
    w.cell? ⟨b, o + k * 4, none⟩ = some (.int .i64 (od L k).player) ∧ w.cell? ⟨b, o + k * 4 + 1, none⟩ = some (.int .i64 (od L k).unit) ∧ w.cell? ⟨b, o + k * 4 + 2, none⟩ = some (.int .i64 (od L k).what) ∧ w.cell? ⟨b, o + k * 4 + 3, none⟩ = some (.int .i64 (od L k).arg) := by
  obtain ⟨b', o', hA, _, h⟩ := ro_at h k hk
  injection hA with hA
  injection hA with e1 e2
  subst e1; subst e2
  exact h
theorem flat_take {α : Type} (f : α → List Value) (sz : Nat) (hf : ∀ x, (f x).length = sz) : ∀ (L : List α) (p : Nat), (L.flatMap f).take (p * sz) = (L.take p).flatMap f
  | [], p => by simp
  | x :: L, 0 => by simp
  | x :: L, p + 1 => by
    rw [List.flatMap_cons, List.take_succ_cons, List.flatMap_cons, List.take_append, hf, List.take_of_length_le (by rw [hf, Nat.add_mul]; omega), show (p + 1) * sz - sz = p * sz by rw [Nat.add_mul]; omega, flat_take f sz hf L p]
theorem flat_drop {α : Type} (f : α → List Value) (sz : Nat) (hf : ∀ x, (f x).length = sz) : ∀ (L : List α) (p : Nat), (L.flatMap f).drop (p * sz) = (L.drop p).flatMap f
  | [], p => by simp
  | x :: L, 0 => by simp
  | x :: L, p + 1 => by
    rw [List.flatMap_cons, List.drop_succ_cons, List.drop_append, hf, List.drop_of_length_le (by rw [hf, Nat.add_mul]; omega), show (p + 1) * sz - sz = p * sz by rw [Nat.add_mul]; omega, flat_drop f sz hf L p]; rfl
theorem RD.post {w : World} {B sz n p b o : Nat} {xs : List Value} (h : RD w B sz (some ⟨b, o, none⟩) n xs) (hp : p ≤ n) : RD w B sz (some ⟨b, o + p * sz, none⟩) (n - p) (xs.drop (p * sz)) := by
  have hm : (n - p) * sz + p * sz = n * sz := by rw [← Nat.add_mul]; congr 1; omega
  refine ⟨by rw [List.length_drop, h.1]; omega, fun hn => ?_⟩
  obtain ⟨b', o', hA, hb⟩ := h.addr (by omega)
  injection hA with hA
  injection hA with e1 e2
  subst e1; subst e2
  refine ⟨b, o + p * sz, rfl, hb, fun j hj => ?_⟩
  rw [Nat.add_assoc, h.at_ rfl (by omega), List.getElem?_drop]
theorem flatO_one (L : List Od) : (L.flatMap oC).all (·.oneCell') = true := List.all_eq_true.2 (fun v hv => by
  obtain ⟨o, _, ho⟩ := List.mem_flatMap.1 hv
  exact oC_one o v ho)
theorem own_room4 {w : World} {base : Nat} {e : TypeId} {sz n c : Nat} {A : Option Addr} {xs : List Value} (h : w.ownsRow base e sz (.slice A n c) n xs) : n ≤ c := by
  rcases h.2 with ⟨hv, _⟩ | ⟨g, cap, cur, hv, _, _, hcur, hcap, _⟩
  · injection hv with _ e2 e3; omega
  · injection hv with _ e2 e3
    first | omega | (subst e3; assumption)
theorem RD.zero_ {w : World} {B sz : Nat} {A : Option Addr} : RD w B sz A 0 [] := ⟨by simp, fun h => absurd h (by omega)⟩
/-- What the first loop has so far. -/
def SRel (w : World) (L : List Od) (k : Nat) (v : Value) (wr : World) : Prop :=
  Below w.heap.size w wr ∧ wr.ownsRow w.heap.size 66 4 v (someO L k).length ((someO L k).flatMap oC)
/-- What the second loop has so far. -/
def ORel (w : World) (S : List Od) (k : Nat) (v : Value) (wr : World) : Prop :=
  Below w.heap.size w wr ∧ wr.ownsRow w.heap.size 66 4 v (insK S k).length ((insK S k).flatMap oC)
set_option maxHeartbeats 6400000 in
set_option maxRecDepth 100000 in
theorem rlast_any (A : Option Addr) (c B : Nat) (L : List Od) (w : World) (h : RO w B A L) (hB : B ≤ w.heap.size) (hl : L.length ≤ 1000000) :
    Calls Tryd.prog 47 #[.slice A L.length c] w fun e w' => ∃ v, e = .returned v ∧ w'.ownsRow w.heap.size 66 4 v (lastR L).length ((lastR L).flatMap oC) ∧ Below w.heap.size w w' := by
  obtain ⟨i0, hi0, hz0, hz1, hz2⟩ := info_parts ord_info
  replace h := Lib.hid h
  go_enter Tryd.func47, Tryd.ntmps47
  go_wp2_with fail
  go_loopw [3, 4] (fun v vi wr => ∃ k : Nat, vi = .int .i64 k ∧ k ≤ L.length ∧ Hid (SRel w L k v wr)) (fun _ vi _ => L.length - (intOf vi).toNat)
  case atStart => exact ⟨0, rfl, Nat.zero_le _, Lib.hid ⟨Below.refl _ _, World.ownsRow_nil _ _ _ _⟩⟩
  case round =>
    obtain ⟨i, rfl, hi, hR⟩ := hrel
    obtain ⟨hb, hown⟩ := hR.out
    clear hR
    by_cases hlt : i < L.length
    · as_aux_lemma =>
      have i1 : (i : Int) < (L.length : Int) := by omega
      have hro : RO wr B A L := h.out.below (hb.mono hB)
      obtain ⟨b, o, hA, hbl, c0, c1, c2, c3⟩ := ro_at hro i hlt
      have hs := hb.size
      have hsl := someO_len L i
      subst hA
      obtain ⟨x, hx⟩ : ∃ x, od L i = x := ⟨_, rfl⟩
      have hse : someO L (i + 1) = someO L i ++ if keepT L i L.length = true then [od L i] else [] := rfl
      rw [hx] at c0 c1 c2 c3 hse
      replace hx := Lib.hid hx
      replace hb := Lib.hid hb
      replace hown := Lib.hid hown
      replace hro := Lib.hid hro
      replace hse := Lib.hid hse
      go_wp2_with fail
      obtain ⟨wo, rfl⟩ : ∃ wo : World, wo = wr := ⟨_, rfl⟩
      clear c0 c1 c2 c3
      go_loopw [5, 6] (fun vl vk wq => ∃ (j : Nat) (C : Bool), i + 1 ≤ j ∧ j ≤ L.length ∧ vk = .int .i64 j ∧ vl = .bool C ∧ Hid (C = keepT L i j) ∧ Hid (Below wo.heap.size wo wq)) (fun _ vk _ => L.length - (intOf vk).toNat)
      case atStart => exact ⟨i + 1, true, Nat.le_refl _, by omega, by go_num, rfl, Lib.hid (keepT_start L i _ (Nat.le_refl _)).symm, Lib.hid (Below.refl _ _)⟩
      case round =>
        obtain ⟨j, C, hj0, hj, rfl, rfl, hC, hbq⟩ := hrel
        by_cases hjl : j < L.length
        · have j1 : (j : Int) < (L.length : Int) := by omega
          have hrq : RO wr B (some ⟨b, o, none⟩) L := hro.out.below (hbq.out.mono (Nat.le_trans hB hs))
          obtain ⟨c0, c1, c2, c3⟩ := ro_cc hrq i hlt
          obtain ⟨d0, d1, d2, d3⟩ := ro_cc hrq j hjl
          have hCs := keepT_s L i j (by omega)
          obtain ⟨z, hz⟩ : ∃ z, od L j = z := ⟨_, rfl⟩
          rw [hx.out] at c0 c1 c2 c3 hCs
          rw [hz] at d0 d1 d2 d3 hCs
          rw [← hC.out] at hCs
          replace hz := Lib.hid hz
          clear hrq c3 d3 hC
          by_cases f1 : x.what = 3
          · have g1 : (x.what != 3) = false := by simp [f1]
            have hnx : keepT L i (j + 1) = C := by rw [hCs]; unfold hitO; simp [f1]
            replace hnx := Lib.hid hnx
            replace f1 := Lib.hid f1
            clear hCs
            go_wp2_with fail
            go_quiet (fail)
            go_wp2_with fail
            go_roundw
            case rel => exact ⟨j + 1, C, by omega, by omega, by go_num, rfl, Lib.hid hnx.out.symm, Lib.hid (bdrewN hbq.out _)⟩
            case measure => simp [intOf]; omega
          · have g1 : (x.what != 3) = true := by simp [f1]
            by_cases f2 : z.what = 3
            · have g2 : (z.what != 3) = false := by simp [f2]
              have hnx : keepT L i (j + 1) = C := by rw [hCs]; unfold hitO; simp [f2]
              replace hnx := Lib.hid hnx
              replace f1 := Lib.hid f1
              replace f2 := Lib.hid f2
              clear hCs
              go_wp2_with fail
              go_quiet (fail)
              go_wp2_with fail
              go_roundw
              case rel => exact ⟨j + 1, C, by omega, by omega, by go_num, rfl, Lib.hid hnx.out.symm, Lib.hid (bdrewN hbq.out _)⟩
              case measure => simp [intOf]; omega
            · have g2 : (z.what != 3) = true := by simp [f2]
              by_cases f3 : z.player = x.player
              · have g3 : (z.player == x.player) = true := by simp [f3]
                by_cases f4 : z.unit = x.unit
                · have g4 : (z.unit == x.unit) = true := by simp [f4]
                  have hnx : keepT L i (j + 1) = false := by rw [hCs]; unfold hitO; simp [f1, f2, f3, f4]
                  replace hnx := Lib.hid hnx
                  replace f1 := Lib.hid f1
                  replace f2 := Lib.hid f2
                  replace f3 := Lib.hid f3
                  replace f4 := Lib.hid f4
                  clear hCs
                  go_wp2_with fail
                  go_quiet (fail)
                  go_wp2_with fail
                  go_roundw
                  case rel => exact ⟨j + 1, false, by omega, by omega, by go_num, rfl, Lib.hid hnx.out.symm, Lib.hid (bdrewN hbq.out _)⟩
                  case measure => simp [intOf]; omega
                · have g4 : (z.unit == x.unit) = false := by simp [f4]
                  have hnx : keepT L i (j + 1) = C := by rw [hCs]; unfold hitO; simp [f4]
                  replace hnx := Lib.hid hnx
                  replace f1 := Lib.hid f1
                  replace f2 := Lib.hid f2
                  replace f3 := Lib.hid f3
                  replace f4 := Lib.hid f4
                  clear hCs
                  go_wp2_with fail
                  go_quiet (fail)
                  go_wp2_with fail
                  go_roundw
                  case rel => exact ⟨j + 1, C, by omega, by omega, by go_num, rfl, Lib.hid hnx.out.symm, Lib.hid (bdrewN hbq.out _)⟩
                  case measure => simp [intOf]; omega
              · have g3 : (z.player == x.player) = false := by simp [f3]
                have hnx : keepT L i (j + 1) = C := by rw [hCs]; unfold hitO; simp [f3]
                replace hnx := Lib.hid hnx
                replace f1 := Lib.hid f1
                replace f2 := Lib.hid f2
                replace f3 := Lib.hid f3
                clear hCs
                go_wp2_with fail
                go_quiet (fail)
                go_wp2_with fail
                go_roundw
                case rel => exact ⟨j + 1, C, by omega, by omega, by go_num, rfl, Lib.hid hnx.out.symm, Lib.hid (bdrewN hbq.out _)⟩
                case measure => simp [intOf]; omega
        · have j1 : ¬ (j : Int) < (L.length : Int) := by omega
          obtain rfl : j = L.length := by omega
          have hb2 := hb.out.trans (hbq.out.mono hs)
          have hown2 := own_below hown.out hbq.out
          have hsq := hb2.size
          have hrq : RO wr B (some ⟨b, o, none⟩) L := hro.out.below (hbq.out.mono (Nat.le_trans hB hs))
          obtain ⟨c0, c1, c2, c3⟩ := ro_cc hrq i hlt
          rw [hx.out] at c0 c1 c2 c3
          have hbw : b < wr.heap.size := by have := hbq.out.size; omega
          replace hb2 := Lib.hid hb2
          replace hown2 := Lib.hid hown2
          clear hrq hown hb hbq
          cases C with
          | true =>
            have hse2 : someO L (i + 1) = someO L i ++ [x] := by rw [hse.out, if_pos hC.out.symm]
            replace hse2 := Lib.hid hse2
            replace hC := Lib.hid hC
            go_wp2_with (at_builtin; refine wpList_app1 rfl (.tmp 66) (.tmp 71) 55 rfl w.heap.size 66 i0 _ 4 32 Tryd.underlying55 hi0 hz0 hz1 hz2 rfl (by decide) (by decide) wr #[.int .i64 x.player, .int .i64 x.unit, .int .i64 x.what, .int .i64 x.arg] u3 (someO L i).length _ rfl hown2.out rfl rfl rfl (by omega) hsq ?_; intro v' w9 hown' hgrow)
            have hR9 : SRel w L (i + 1) v' w9 := ⟨hb2.out.grown hgrow hsq (fun b e => (hown2.out.lt b e).1), by rw [hse2.out, List.length_append, List.flatMap_append]; exact hown'⟩
            replace hR9 := Lib.hid hR9
            clear hown' hgrow c0 c1 c2 c3
            go_wp2_with fail
            go_roundw
            case rel => exact ⟨i + 1, by go_num, by omega, hR9⟩
            case measure => simp [intOf]; omega
          | false =>
            have hR9 : SRel w L (i + 1) u3 wr := ⟨hb2.out, by rw [hse.out, if_neg (by rw [← hC.out]; simp), List.append_nil]; exact hown2.out⟩
            replace hR9 := Lib.hid hR9
            replace hC := Lib.hid hC
            clear c0 c1 c2 c3
            go_wp2_with fail
            go_roundw
            case rel => exact ⟨i + 1, by go_num, by omega, hR9⟩
            case measure => simp [intOf]; omega
    · as_aux_lemma =>
      have i1 : ¬ (i : Int) < (L.length : Int) := by omega
      obtain rfl : i = L.length := by omega
      have hsl := someO_len L L.length
      have hs1 := hb.size
      have hlr : lastR L = insK (someO L L.length) (someO L L.length).length := rfl
      generalize hS : someO L L.length = S at *
      obtain ⟨AS, cS, rfl, _⟩ := own_slice hown
      have hrS : RO wr wr.heap.size AS S := RD.of_own hown
      replace hS := Lib.hid hS
      replace hlr := Lib.hid hlr
      replace hrS := Lib.hid hrS
      replace hb := Lib.hid hb
      clear hown h
      go_wp2_with fail
      obtain ⟨w1, rfl⟩ : ∃ w1 : World, w1 = wr := ⟨_, rfl⟩
      go_loopw [7, 8] (fun v vi wq => ∃ k : Nat, vi = .int .i64 k ∧ k ≤ S.length ∧ Hid (ORel w1 S k v wq)) (fun _ vi _ => S.length - (intOf vi).toNat)
      case atStart => exact ⟨0, rfl, Nat.zero_le _, Lib.hid ⟨Below.refl _ _, World.ownsRow_nil _ _ _ _⟩⟩
      case round =>
        obtain ⟨k, rfl, hk, hR⟩ := hrel
        obtain ⟨hbq, hown⟩ := hR.out
        clear hR
        obtain ⟨w2, rfl⟩ : ∃ w2 : World, w2 = wr := ⟨_, rfl⟩
        have hs2 := hbq.size
        have hXl := insK_len S k
        by_cases hlt : k < S.length
        · have k1 : (k : Int) < (S.length : Int) := by omega
          have hXn : insK S (k + 1) = insO (insK S k) (od S k) := rfl
          generalize insK S k = X at *
          obtain ⟨AX, cX, rfl, _⟩ := own_slice hown
          have hrX : RO w2 w2.heap.size AX X := RD.of_own hown
          have hrS2 := hrS.out.below hbq
          obtain ⟨bs, os, hAS, hbS, _⟩ := ro_at hrS2 k hlt
          subst hAS
          obtain ⟨x, hx⟩ : ∃ x, od S k = x := ⟨_, rfl⟩
          rw [hx] at hXn
          have hp0 : posO X x X.length = posO X x X.length := rfl
          replace hx := Lib.hid hx
          replace hXn := Lib.hid hXn
          replace hrX := Lib.hid hrX
          replace hrS2 := Lib.hid hrS2
          replace hown := Lib.hid hown
          replace hbq := Lib.hid hbq
          replace hXl := Lib.hid hXl
          obtain ⟨n, hn⟩ : ∃ n, X.length = n := ⟨_, rfl⟩
          rw [hn]
          replace hn := Lib.hid hn
          clear hp0
          go_upto_block 6 with fail
          go_cut [9] (fun vk wx0 => ∃ wx, wx = wx0 ∧ vk = .int .i64 (posO X x n : Nat) ∧ Hid (Below w2.heap.size w2 wx))
          case first =>
            go_wp2_with fail
            go_loopw [9] (fun vk wq => ∃ j : Nat, vk = .int .i64 j ∧ j ≤ n ∧ Hid (posO X x j = posO X x n) ∧ Hid (Below w2.heap.size w2 wq)) (fun vk _ => (intOf vk).toNat)
            case atStart => exact ⟨n, rfl, Nat.le_refl _, Lib.hid rfl, Lib.hid (Below.refl _ _)⟩
            case round =>
              obtain ⟨j, rfl, hj, hP, hb3⟩ := hrel
              by_cases hj0 : j = 0
              · have g0 : decide (0 < (j : Int)) = false := decide_eq_false (by omega)
                have hP0 : posO X x n = j := by rw [← hP.out, hj0]; rfl
                replace hP0 := Lib.hid hP0
                go_wp2_with fail
                go_quiet (fail)
                go_wp2_with fail
                go_meet
                exact ⟨_, rfl, by rw [hP0.out], Lib.hid (bdrewN hb3.out _)⟩
              · obtain ⟨m, rfl⟩ : ∃ m, j = m + 1 := ⟨j - 1, by omega⟩
                have hP1 : (if bhd (od X m) x = true then posO X x m else m + 1) = posO X x n := hP.out
                obtain ⟨bx, ox, hAX, hbX, _⟩ := ro_at hrX.out m (by rw [hn.out]; omega)
                subst hAX
                obtain ⟨y, hy⟩ : ∃ y, od X m = y := ⟨_, rfl⟩
                rw [hy] at hP1
                have hcells : ∀ wz, Below w2.heap.size w2 wz → wz.cell? ⟨bx, ox + m * 4, none⟩ = some (.int .i64 y.player) ∧ wz.cell? ⟨bx, ox + m * 4 + 1, none⟩ = some (.int .i64 y.unit) ∧ wz.cell? ⟨bx, ox + m * 4 + 2, none⟩ = some (.int .i64 y.what) ∧ wz.cell? ⟨bx, ox + m * 4 + 3, none⟩ = some (.int .i64 y.arg) ∧ wz.cell? ⟨bs, os + k * 4, none⟩ = some (.int .i64 x.player) ∧ wz.cell? ⟨bs, os + k * 4 + 1, none⟩ = some (.int .i64 x.unit) ∧ wz.cell? ⟨bs, os + k * 4 + 2, none⟩ = some (.int .i64 x.what) ∧ wz.cell? ⟨bs, os + k * 4 + 3, none⟩ = some (.int .i64 x.arg) := fun wz hz => by
                  obtain ⟨c0, c1, c2, c3⟩ := ro_cc (hrX.out.below hz) m (by rw [hn.out]; omega)
                  obtain ⟨d0, d1, d2, d3⟩ := ro_cc (hrS2.out.below (hz.mono hs2)) k hlt
                  rw [hx.out] at d0 d1 d2 d3
                  rw [hy] at c0 c1 c2 c3
                  exact ⟨c0, c1, c2, c3, d0, d1, d2, d3⟩
                have g0 : decide (0 < ((m + 1 : Nat) : Int)) = true := decide_eq_true (by omega)
                have g1 : decide (0 < (m : Int) + 1) = true := decide_eq_true (by omega)
                have m1 : (m : Int) < (n : Int) := by omega
                have m2 : 0 ≤ (m : Int) := by omega
                have hbh := fun wz => behind_any y x wz
                have hnl := hl
                have hxl := hXl.out
                have hml : (m : Int) + 1 ≤ 1000000 := by have := hn.out; omega
                replace hxl := Lib.hid hxl
                replace hcells := Lib.hid hcells
                replace hy := Lib.hid hy
                replace hbh := Lib.hid hbh
                replace hP1 := Lib.hid hP1
                clear hnl
                go_wp2_with fail
                go_cut [94] (fun b wx0 => ∃ wx, wx = wx0 ∧ b = .bool (bhd y x) ∧ Hid (Below w2.heap.size w2 wx))
                case first =>
                  have a1 : IntKind.i64.wrap ((m : Int) + 1 - 1) = m := by rw [show (m : Int) + 1 - 1 = m by omega]; exact IntWalk.i64_in _ (by omega)
                  have a2 : IntKind.i64.wrap (m : Int) = m := IntWalk.i64_in _ (by omega)
                  go_region_held3 (fun wz => wz.cell? ⟨bx, ox + m * 4, none⟩ = some (.int .i64 y.player) ∧ wz.cell? ⟨bx, ox + m * 4 + 1, none⟩ = some (.int .i64 y.unit) ∧ wz.cell? ⟨bx, ox + m * 4 + 2, none⟩ = some (.int .i64 y.what) ∧ wz.cell? ⟨bx, ox + m * 4 + 3, none⟩ = some (.int .i64 y.arg) ∧ wz.cell? ⟨bs, os + k * 4, none⟩ = some (.int .i64 x.player) ∧ wz.cell? ⟨bs, os + k * 4 + 1, none⟩ = some (.int .i64 x.unit) ∧ wz.cell? ⟨bs, os + k * 4 + 2, none⟩ = some (.int .i64 x.what) ∧ wz.cell? ⟨bs, os + k * 4 + 3, none⟩ = some (.int .i64 x.arg)) (first | exact hcells.out _ hK1 | exact hcells.out _ hb3.out | exact hcells.out _ (bdrewN hb3.out _)) ((go_at_call 59; refine (hbh.out _).mono ?_; rintro e w9 ⟨rfl, hb9⟩; have hK1 := (bdrewN hb3.out 1).trans (hb9.mono (by simpa using hb3.out.size))))
                  go_wp2_with fail
                  go_meet
                  exact ⟨_, rfl, rfl, Lib.hid hK1⟩
                case rest =>
                  clear hb3
                  obtain ⟨wx, rfl, rfl, hb3⟩ := hcut
                  cases hbq9 : bhd y x with
                  | true =>
                    have hP2 : posO X x m = posO X x n := by rw [← hP1.out, if_pos hbq9]
                    replace hP2 := Lib.hid hP2
                    replace hbq9 := Lib.hid hbq9
                    clear hP
                    go_wp2_with fail
                    go_roundw
                    case rel => exact ⟨m, by first | rfl | go_num, by omega, hP2, hb3⟩
                    case measure => simp [intOf]
                  | false =>
                    have hP2 : posO X x n = m + 1 := by rw [← hP1.out, if_neg (by rw [hbq9]; simp)]
                    replace hP2 := Lib.hid hP2
                    replace hbq9 := Lib.hid hbq9
                    clear hP
                    go_wp2_with fail
                    go_meet
                    exact ⟨_, rfl, by rw [hP2.out], hb3⟩
          case rest =>
          obtain ⟨wx, rfl, rfl, hb3⟩ := hcut
          have hpl : posO X x n ≤ n := posO_le X x n
          have hIn : insO X x = X.take (posO X x n) ++ x :: X.drop (posO X x n) := by unfold insO; rw [hn.out]
          have hoX := own_below hown.out hb3.out
          have hrX3 := hrX.out.below hb3.out
          have hb3s := hb3.out.size
          have hb4 := hbq.out.trans (hb3.out.mono hs2)
          have hs4 := hb4.size
          have hn6 : n ≤ 1000000 := by have := hn.out; have := hXl.out; omega
          generalize posO X x n = p at *
          replace hIn := Lib.hid hIn
          replace hb4 := Lib.hid hb4
          clear hb3
          rw [hn.out] at hoX hrX3
          have hXi : ∀ wz vz, wz.ownsRow wx.heap.size 66 4 vz (n + 1) ((insO X x).flatMap oC) → Below wx.heap.size wx wz → Hid (ORel w1 S (k + 1) vz wz) := fun wz vz ho hb => Lib.hid ⟨hb4.out.trans (hb.mono hs4), by
            rw [hXn.out, insO_len, hn.out]
            exact own_base ho hs4⟩
          replace hXi := Lib.hid hXi
          rcases hoX.2 with ⟨hv, hXe⟩ | ⟨g, cap, cur, hv, hg1, hg2, hg3⟩
          · injection hv with e1 e2 e3
            subst e1; subst e3
            have hn0 : n = 0 := e2
            subst hn0
            have hp0 : p = 0 := by omega
            subst hp0
            have hX0 : X = [] := List.eq_nil_of_length_eq_zero hn.out
            have hI0 : insO X x = [x] := by rw [hIn.out, hX0]; rfl
            have hrs := hrS.out.below hb4.out
            obtain ⟨d0, d1, d2, d3⟩ := ro_cc hrs k hlt
            rw [hx.out] at d0 d1 d2 d3
            replace hI0 := Lib.hid hI0
            replace hX0 := Lib.hid hX0
            replace hrs := Lib.hid hrs
            replace hoX := Lib.hid hoX
            replace hrX3 := Lib.hid hrX3
            have hbz : bs < wx.heap.size := by omega
            clear hXe e2 hpl
            go_wp2_with (first | (at_builtin; refine wpList_app1 rfl (.tmp 102) (.tmp 107) 55 rfl wx.heap.size 66 i0 _ 4 32 Tryd.underlying55 hi0 hz0 hz1 hz2 rfl (by decide) (by decide) wx #[.int .i64 x.player, .int .i64 x.unit, .int .i64 x.what, .int .i64 x.arg] (.slice none 0 0) 0 [] rfl (World.ownsRow_nil _ _ _ _) rfl rfl rfl (by omega) (Nat.le_refl _) ?_; intro v8 w8 hown8 hg8; obtain ⟨A8, c8, rfl, _⟩ := own_slice hown8; have hb8 : Below wx.heap.size wx w8 := (Below.refl _ _).grown hg8 (Nat.le_refl _) (fun b e => by cases e); have hz8 := hb8.size; replace hown8 := Lib.hid hown8; replace hb8 := Lib.hid hb8) | (at_builtin; refine wpList_append_rd rfl (.tmp 109) (.tmp 112) 55 rfl wx.heap.size 66 i0 _ 4 32 Tryd.underlying55 hi0 hz0 hz1 hz2 rfl (by decide) w8 (.slice A8 (0 + 1) c8) (0 + 1) _ rfl hown8.out w8.heap.size none 0 0 [] rfl (fun _ => rfl) RD.nil_ rfl (by unfold maxLen; omega) (by omega) hz8 ?_; intro v9 w9 hown9 hg9))
            have hb9 := hb8.out.grown hg9 hz8 (fun b e => (hown8.out.lt b e).1)
            have hR9 := hXi.out w9 v9 (by rw [hI0.out]; exact hown9) hb9
            clear hown9 hg9 hb9 hg8
            go_wp2_with fail
            go_roundw
            case rel => exact ⟨k + 1, by go_num, by omega, hR9⟩
            case measure => simp [intOf]; omega
          · injection hv with e1 e2 e3
            subst e1; subst e3
            have hgr := own_room4 hoX
            have hpc : p ≤ cX := Nat.le_trans hpl hgr
            have hpre := hrX3.pre hpl
            have hpost := hrX3.post hpl
            rw [flat_take oC 4 oC_len] at hpre
            rw [flat_drop oC 4 oC_len, Nat.zero_add] at hpost
            have hone1 : ((X.take p).flatMap oC).all (·.oneCell') = true := flatO_one _
            have hone2 : ((X.drop p).flatMap oC).all (·.oneCell') = true := flatO_one _
            have hgl : g < wx.heap.size := (hoX.lt g rfl).2
            have hlen1 : p + 1 + (n - p) = n + 1 := by omega
            have hfl : (insO X x).flatMap oC = (X.take p).flatMap oC ++ oC x ++ (X.drop p).flatMap oC := by rw [hIn.out, List.flatMap_append, List.flatMap_cons, List.append_assoc]
            replace hpre := Lib.hid (hpre.more hb3s)
            have hpost0 : p = cX → RD wx wx.heap.size 4 (some ⟨g, 0, none⟩) (n - p) ((X.drop p).flatMap oC) := fun e => by
              have e1 : n - p = 0 := by omega
              have e2 : X.drop p = [] := List.drop_of_length_le (by rw [hn.out]; omega)
              rw [e1, e2]; exact RD.zero_
            replace hpost := Lib.hid (hpost.more hb3s)
            replace hpost0 := Lib.hid hpost0
            replace hoX := Lib.hid hoX
            replace hrX3 := Lib.hid hrX3
            replace hfl := Lib.hid hfl
            replace hlen1 := Lib.hid hlen1
            replace hone1 := Lib.hid hone1
            replace hone2 := Lib.hid hone2
            replace hg2 := Lib.hid hg2
            replace hg3 := Lib.hid hg3
            clear e2
            have hpn : ((p : Int) ≤ (n : Int)) := by omega
            have hpc2 : ((p : Int) ≤ (cX : Int)) := by omega
            by_cases hpx : p = cX
            · as_aux_lemma =>
              have hnp : n = p := by omega
              have hX9 : (X.drop p).flatMap oC = [] := by rw [List.drop_of_length_le (by rw [hn.out]; omega)]; rfl
              subst hpx
              subst hnp
              replace hX9 := Lib.hid hX9
              go_wp2_with (first | (at_builtin; (refine wpList_append_rd rfl (.tmp 97) (.tmp 100) 55 rfl wx.heap.size 66 i0 _ 4 32 Tryd.underlying55 hi0 hz0 hz1 hz2 rfl (by decide) wx (.slice none 0 0) 0 [] rfl (World.ownsRow_nil _ _ _ _) wx.heap.size (some ⟨g, 0, none⟩) n n _ rfl (fun e => by cases e) hpre.out hone1.out (by unfold maxLen; omega) (by omega) (Nat.le_refl _) ?_; intro v7 w7 hown7 hg7; rw [Nat.zero_add, List.nil_append] at hown7; have hb7 : Below wx.heap.size wx w7 := (Below.refl _ _).grown hg7 (Nat.le_refl _) (fun b e => by cases e); have hz7 := hb7.size; have hrs := hrS.out.below (hb4.out.trans (hb7.mono hs4)); obtain ⟨d0, d1, d2, d3⟩ := ro_cc hrs k hlt; rw [hx.out] at d0 d1 d2 d3; have hbz : bs < w7.heap.size := (by omega); replace hrs := Lib.hid hrs; replace hown7 := Lib.hid hown7; replace hb7 := Lib.hid hb7)) | (at_builtin; (refine wpList_app1 rfl (.tmp 102) (.tmp 107) 55 rfl wx.heap.size 66 i0 _ 4 32 Tryd.underlying55 hi0 hz0 hz1 hz2 rfl (by decide) (by decide) w7 #[.int .i64 x.player, .int .i64 x.unit, .int .i64 x.what, .int .i64 x.arg] v7 n _ rfl hown7.out rfl rfl rfl (by omega) hz7 ?_; intro v8 w8 hown8 hg8; have hb8 := hb7.out.grown hg8 hz7 (fun b e => (hown7.out.lt b e).1); have hz8 := hb8.size; replace hown8 := Lib.hid hown8; replace hb8 := Lib.hid hb8)) | (at_builtin; (refine wpList_append_rd rfl (.tmp 109) (.tmp 112) 55 rfl wx.heap.size 66 i0 _ 4 32 Tryd.underlying55 hi0 hz0 hz1 hz2 rfl (by decide) w8 v8 (n + 1) _ rfl hown8.out wx.heap.size (some ⟨g, 0, none⟩) 0 0 [] rfl (fun e => by cases e) RD.zero_ rfl (by unfold maxLen; omega) (by omega) hz8 ?_; intro v9 w9 hown9 hg9)))
              have hb9 := hb8.out.grown hg9 hz8 (fun b e => (hown8.out.lt b e).1)
              have hR9 := hXi.out w9 v9 (by rw [hfl.out, hX9.out]; exact hown9) hb9
              clear hown9 hg9 hb9 hg8 hg7 d0 d1 d2 d3
              go_wp2_with fail
              go_roundw
              case rel => exact ⟨k + 1, by go_num, by omega, hR9⟩
              case measure => simp [intOf]; omega
            · as_aux_lemma =>
              go_wp2_with (first | (at_builtin; (refine wpList_append_rd rfl (.tmp 97) (.tmp 100) 55 rfl wx.heap.size 66 i0 _ 4 32 Tryd.underlying55 hi0 hz0 hz1 hz2 rfl (by decide) wx (.slice none 0 0) 0 [] rfl (World.ownsRow_nil _ _ _ _) wx.heap.size (some ⟨g, 0, none⟩) p cX _ rfl (fun e => by cases e) hpre.out hone1.out (by unfold maxLen; omega) (by omega) (Nat.le_refl _) ?_; intro v7 w7 hown7 hg7; rw [Nat.zero_add, List.nil_append] at hown7; have hb7 : Below wx.heap.size wx w7 := (Below.refl _ _).grown hg7 (Nat.le_refl _) (fun b e => by cases e); have hz7 := hb7.size; have hrs := hrS.out.below (hb4.out.trans (hb7.mono hs4)); obtain ⟨d0, d1, d2, d3⟩ := ro_cc hrs k hlt; rw [hx.out] at d0 d1 d2 d3; have hbz : bs < w7.heap.size := (by omega); replace hrs := Lib.hid hrs; replace hown7 := Lib.hid hown7; replace hb7 := Lib.hid hb7)) | (at_builtin; (refine wpList_app1 rfl (.tmp 102) (.tmp 107) 55 rfl wx.heap.size 66 i0 _ 4 32 Tryd.underlying55 hi0 hz0 hz1 hz2 rfl (by decide) (by decide) w7 #[.int .i64 x.player, .int .i64 x.unit, .int .i64 x.what, .int .i64 x.arg] v7 p _ rfl hown7.out rfl rfl rfl (by omega) hz7 ?_; intro v8 w8 hown8 hg8; have hb8 := hb7.out.grown hg8 hz7 (fun b e => (hown7.out.lt b e).1); have hz8 := hb8.size; replace hown8 := Lib.hid hown8; replace hb8 := Lib.hid hb8)) | (at_builtin; (refine wpList_append_rd rfl (.tmp 109) (.tmp 112) 55 rfl wx.heap.size 66 i0 _ 4 32 Tryd.underlying55 hi0 hz0 hz1 hz2 rfl (by decide) w8 v8 (p + 1) _ rfl hown8.out wx.heap.size (some ⟨g, p * 4, none⟩) (n - p) (cX - p) _ rfl (fun e => by cases e) (hpost.out.below hb8.out) hone2.out (by unfold maxLen; omega) (by omega) hz8 ?_; intro v9 w9 hown9 hg9)))
              have hb9 := hb8.out.grown hg9 hz8 (fun b e => (hown8.out.lt b e).1)
              have hR9 := hXi.out w9 v9 (by rw [hfl.out, ← hlen1.out]; exact hown9) hb9
              clear hown9 hg9 hb9 hg8 hg7 d0 d1 d2 d3
              go_wp2_with fail
              go_roundw
              case rel => exact ⟨k + 1, by go_num, by omega, hR9⟩
              case measure => simp [intOf]; omega
        · have k1 : ¬ (k : Int) < (S.length : Int) := by omega
          obtain rfl : k = S.length := by omega
          have hb9 := hb.out.trans (hbq.mono hs1)
          have ho9 := own_base hown hs1
          rw [← hlr.out] at ho9
          replace hb9 := Lib.hid hb9
          replace ho9 := Lib.hid ho9
          replace hbq := Lib.hid hbq
          replace hown := Lib.hid hown
          replace hXl := Lib.hid hXl
          go_wp2_with fail
          go_ret
          exact ⟨_, rfl, ho9.out, hb9.out⟩
end Go.Proofs.YtkgdflecepockaaDoor
