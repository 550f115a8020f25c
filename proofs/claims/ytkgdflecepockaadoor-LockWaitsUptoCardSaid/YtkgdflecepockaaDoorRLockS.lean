import Derived.Test.YtkgdflecepockaaDoorRLockO
import Derived.BigQuiet
import Derived.Deep.QuietTactic
namespace Go.Proofs.YtkgdflecepockaaDoor
set_option linter.unusedVariables false
open Go.RowKit
/-! The reference's lock: Send. -/
section
variable {w w' w'' : World} {B g : Nat} {d now : Int} {outs : List Bool} {S : Int → Int → Option (List Od)} {E : List SE}
theorem TE.grown {v : Value} {n : Nat} {xs : List Value} (ho : w.ownsRow B 101 3 v n xs) (hg : w.grownBy w' v.ownBlock) (hB : B ≤ w.heap.size) : TE B w w' := by
  refine ⟨(Below.refl _ _).grown hg hB (fun b e => (ho.lt b e).1), fun k hk _ h2 => hg.block k hk fun e => ?_⟩
  rcases ho.2 with ⟨rfl, _⟩ | ⟨r, cap, cur, rfl, _, hr, _⟩
  · cases e
  · simp only [Value.ownBlock, Option.some.injEq] at e
    subst e
    exact h2 _ _ hr
theorem TE.setg {cs : Array Value} (hb : Blk w g 63 cs) (hB : B ≤ g) (i : Nat) (u : Value) : TE B w (w.setCell ⟨g, i, none⟩ u) :=
  ⟨(Below.refl _ _).setCell hB _, fun k hk h1 _ => Below.heap_setCell w _ u k (fun e => by subst e; exact h1 _ _ hb)⟩
theorem own_neL {v : Value} {n : Nat} {xs : List Value} {cs : Array Value} (ho : w.ownsRow B 101 3 v n xs) (hb : Blk w g 63 cs) : v.ownBlock ≠ some g := by
  rcases ho.2 with ⟨rfl, _⟩ | ⟨r, cap, cur, rfl, _, hr, _⟩
  · simp [Value.ownBlock]
  · intro e
    simp only [Value.ownBlock, Option.some.injEq] at e
    subst e
    unfold Blk at hb
    rw [hr] at hb
    injection hb with hb
    injection hb with _ hb _
    exact absurd hb (by decide)
/-- One more was sent. -/
theorem RL.put (h : RL B w g d now outs S E) {p t : Int} {A A' : Option Addr} {c c' : Nat} {L : List Od} {cE : Nat} {AE : Option Addr} (ht : now ≤ t)
    (hb : Blk w g 63 #[.int .i64 (outs.length : Int), .int .i64 d, .int .i64 now, .bool (outs.getD 0 false), .bool (outs.getD 1 false), .bool (outs.getD 2 false), .bool (outs.getD 3 false), .slice AE E.length cE])
    (ho : w.ownsRow B 101 3 (.slice AE E.length cE) E.length (E.flatMap sC))
    (hr : RO w w.heap.size A L) (hnil : A = none → c = 0) (hk : Kept w A) (hl : L.length ≤ 60) (hno : hasE E p t = false) (hf : E.length + 1 ≤ 1000)
    (hg : w.grownBy w' (Value.slice AE E.length cE).ownBlock) (ho' : w'.ownsRow B 101 3 (.slice A' (E.length + 1) c') (E.length + 1) (E.flatMap sC ++ [.int .i64 p, .int .i64 t, .slice A L.length c])) :
    RL B (w'.setCell ⟨g, 7, none⟩ (.slice A' (E.length + 1) c')) g d now outs (putS S p t L) (E ++ [⟨p, t, A, c, L⟩]) ∧ TE B w (w'.setCell ⟨g, 7, none⟩ (.slice A' (E.length + 1) c')) := by
  have hB := h.size
  have hne := own_neL ho hb
  have hb2 := hb.grown hg (fun e => hne e.symm)
  have hte := (TE.grown ho hg hB).trans (TE.setg hb2 h.low 7 (.slice A' (E.length + 1) c'))
  have hne2 := own_neL ho' hb2
  refine ⟨⟨⟨A', c', ?_, ?_⟩, fun e he => ?_, ?_, fun p' t' h' => ?_, h.np, h.dl, h.nw, by simpa using hf, h.low⟩, hte⟩
  · have := hb2.set_ 7 (.slice A' (E.length + 1) c')
    rw [List.length_append, List.length_singleton]
    exact this
  · rw [List.length_append, List.length_singleton, List.flatMap_append]
    exact ho'.kept (grownBy_set w' g 7 _) (.inr hne2)
  · rcases List.mem_append.1 he with he | he
    · obtain ⟨h1, h2, h3, h4⟩ := h.ent e he
      exact ⟨RO.kept h1 h3 hte.bel.size (fun b cs m hc => hte.cells hc (by decide) (by decide)), h2, h3.te hte, h4⟩
    · obtain rfl : e = ⟨p, t, A, c, L⟩ := by simpa using he
      exact ⟨RO.kept hr hk hte.bel.size (fun b cs m hc => hte.cells hc (by decide) (by decide)), hnil, hk.te hte, hl⟩
  · refine List.pairwise_append.2 ⟨h.once, by simp, fun a ha b hb => ?_⟩
    obtain rfl : b = ⟨p, t, A, c, L⟩ := by simpa using hb
    rintro ⟨e1, e2⟩
    unfold hasE at hno
    rw [List.any_eq_false] at hno
    exact hno a ha (by unfold hitS; simp only at e1 e2; rw [e1, e2]; simp)
  · rw [lookE_app E ⟨p, t, A, c, L⟩ p' t' hno]
    unfold putS
    split
    · rfl
    · exact h.tie p' t' h'
def RSendPost (B : Nat) (w : World) (g : Nat) (d now : Int) (outs : List Bool) (S : Int → Int → Option (List Od)) (E : List SE) (p t : Int) (A : Option Addr) (c : Nat) (L : List Od) (e : Ending) (w' : World) : Prop :=
  (sendE outs now d S p t L ≠ 0 ∧ e = .returned (.int .i64 (sendE outs now d S p t L)) ∧ Below w.heap.size w w') ∨ (sendE outs now d S p t L = 0 ∧ e = .returned (.int .i64 0) ∧ RL B w' g d now outs (putS S p t L) (E ++ [⟨p, t, A, c, L⟩]) ∧ TE B w w')
theorem sent_info : (Tryd.prog.info? 101).map (fun i => (i.zero, i.size, i.bytes)) = some (some (.agg #[.int .i64 0, .int .i64 0, .slice none 0 0]), 3, 40) := by kernel_rfl
set_option maxHeartbeats 3200000 in
set_option maxRecDepth 100000 in
theorem rsend_any (p t : Int) (A : Option Addr) (c : Nat) (L : List Od) (h : RL B w g d now outs S E) (hr : RO w w.heap.size A L) (hnil : A = none → c = 0) (hk : Kept w A) (hl : L.length ≤ 1000000000) (ht : I6 t) (hp6 : I6 p) (hf : E.length + 1 ≤ 1000) :
    Calls Tryd.prog 24 #[.pointer (some ⟨g, 0, none⟩), .int .i64 p, .int .i64 t, .slice A L.length c] w (RSendPost B w g d now outs S E p t A c L) := by
  obtain ⟨i0, hi0, hz0, hz1, hz2⟩ := info_parts sent_info
  obtain ⟨AE, cE, hb, ho⟩ := h.row
  obtain ⟨c0, c1, c2⟩ := h.nums
  have c7 := hb.cell 7
  replace c7 : w.cell? ⟨g, 7, none⟩ = some (.slice AE E.length cE) := c7
  have hnp := h.np
  have hdl := h.dl
  have hnw := h.nw
  have hgl := hb.lt
  have hB := h.size
  unfold I6 at ht hp6
  have hQ : ∀ k w', sendE outs now d S p t L = k → k ≠ 0 → Below w.heap.size w w' → RSendPost B w g d now outs S E p t A c L (.returned (.int .i64 k)) w' := fun k w' h1 h2 hb => .inl ⟨by rw [h1]; exact h2, by rw [h1], hb⟩
  replace hQ := Lib.hid hQ
  by_cases hp1 : p < 0 ∨ (outs.length : Int) ≤ p
  · have hv : sendE outs now d S p t L = 1 := by unfold sendE plE; rw [if_pos hp1, if_pos (by decide)]
    replace hv := Lib.hid hv
    replace h := Lib.hid h
    replace hb := Lib.hid hb
    replace ho := Lib.hid ho
    replace hr := Lib.hid hr
    replace hnil := Lib.hid hnil
    replace hk := Lib.hid hk
    rcases (by omega : p < 0 ∨ (0 ≤ p ∧ (outs.length : Int) ≤ p)) with h1 | ⟨h1, h2⟩
    · have b1 : decide (p < 0) = true := decide_eq_true h1
      clear hp1
      go_enter Tryd.func24, Tryd.ntmps24
      go_wp2_with fail
      go_ret
      exact hQ.out 1 _ hv.out (by decide) (Below.refl _ _)
    · have b1 : decide (p < 0) = false := decide_eq_false (by omega)
      have b2 : decide ((outs.length : Int) ≤ p) = true := decide_eq_true h2
      clear hp1
      go_enter Tryd.func24, Tryd.ntmps24
      go_wp2_with fail
      go_ret
      exact hQ.out 1 _ hv.out (by decide) (Below.refl _ _)
  · obtain ⟨q, rfl⟩ : ∃ q : Nat, p = (q : Int) := ⟨p.toNat, by omega⟩
    have hql : q < outs.length := by omega
    have o1 := h.out_at hql
    have b1 : decide ((q : Int) < 0) = false := decide_eq_false (by omega)
    have b2 : decide ((outs.length : Int) ≤ (q : Int)) = false := decide_eq_false (by omega)
    have b3 : decide (outs.length ≤ q) = false := decide_eq_false (by omega)
    have b4 : (q : Int) < 4 := by omega
    have hpl : plE outs (q : Int) = if outs.getD q false = true then 7 else 0 := by unfold plE; rw [if_neg hp1]; simp
    have hse : sendE outs now d S (q : Int) t L = if plE outs (q : Int) ≠ 0 then plE outs (q : Int) else if t < now then 7 else if d < t - now then 1 else if (S (q : Int) t).isSome = true then 8 else if ordsE L ≠ 0 then ordsE L else if anyNe L (q : Int) = true then 3 else 0 := rfl
    have hha := fun n => rhas_any (q : Int) t (h.drewN n)
    have hro := fun n => rorders_any A c w.heap.size L (w.drewN n) hr (Nat.le_refl _) (by omega)
    replace hha := Lib.hid hha
    replace hro := Lib.hid hro
    replace h := Lib.hid h
    replace hb := Lib.hid hb
    replace ho := Lib.hid ho
    replace hr := Lib.hid hr
    replace hnil := Lib.hid hnil
    replace hk := Lib.hid hk
    clear hp1
    cases hob : outs.getD q false with
    | true =>
      rw [hob] at o1 hpl
      rw [if_pos rfl] at hpl
      have hv : sendE outs now d S (q : Int) t L = 7 := by rw [hse, hpl]; rfl
      replace hv := Lib.hid hv
      replace hse := Lib.hid hse
      replace hpl := Lib.hid hpl
      replace hob := Lib.hid hob
      go_enter Tryd.func24, Tryd.ntmps24
      go_wp2_with fail
      go_ret
      exact hQ.out 7 _ hv.out (by decide) (Below.refl _ _)
    | false =>
      rw [hob] at o1 hpl
      rw [if_neg (by simp)] at hpl
      rw [hpl, if_neg (by simp)] at hse
      replace hpl := Lib.hid hpl
      replace hob := Lib.hid hob
      by_cases ht1 : t < now
      · rw [if_pos ht1] at hse
        have d1 : decide (t < now) = true := decide_eq_true ht1
        replace hse := Lib.hid hse
        go_enter Tryd.func24, Tryd.ntmps24
        go_wp2_with fail
        go_ret
        exact hQ.out 7 _ hse.out (by decide) (Below.refl _ _)
      · rw [if_neg ht1] at hse
        have d1 : decide (t < now) = false := decide_eq_false ht1
        have w1 : IntKind.i64.wrap (t - now) = t - now := IntWalk.i64_in _ (by omega)
        by_cases hd1 : d < t - now
        · rw [if_pos hd1] at hse
          have e1 : decide (d < t - now) = true := decide_eq_true hd1
          replace hse := Lib.hid hse
          go_enter Tryd.func24, Tryd.ntmps24
          go_wp2_with fail
          go_quiet (fail)
          go_wp2_with fail
          go_ret
          exact hQ.out 1 _ hse.out (by decide) (bdrewN (Below.refl _ _) _)
        · rw [if_neg hd1] at hse
          have e1 : decide (d < t - now) = false := decide_eq_false hd1
          have hiS : (S (q : Int) t).isSome = hasE E (q : Int) t := by rw [hasE_look, h.out.tie _ _ (by omega)]
          rw [hiS] at hse
          obtain ⟨hs, hhs⟩ : ∃ b, hasE E (q : Int) t = b := ⟨_, rfl⟩
          rw [hhs] at hse
          replace hiS := Lib.hid hiS
          cases hs with
          | true =>
            rw [if_pos rfl] at hse
            replace hse := Lib.hid hse
            replace hhs := Lib.hid hhs
            go_enter Tryd.func24, Tryd.ntmps24
            go_wp2_with fail
            go_quiet (fail)
            go_wp2_with fail
            refine (hha.out _).mono ?_
            rw [hhs.out]
            rintro e w1 ⟨rfl, rfl⟩
            go_wp2_with fail
            go_ret
            exact hQ.out 8 _ hse.out (by decide) (bdrewN (Below.refl _ _) _)
          | false =>
            rw [if_neg (by simp)] at hse
            by_cases hoe : ordsE L ≠ 0
            · rw [if_pos hoe] at hse
              have hon : (ordsE L != 0) = true := by simp [hoe]
              replace hse := Lib.hid hse
              replace hhs := Lib.hid hhs
              replace hoe := Lib.hid hoe
              go_enter Tryd.func24, Tryd.ntmps24
              go_wp2_with fail
              go_quiet (fail)
              go_wp2_with fail
              refine (hha.out _).mono ?_
              rw [hhs.out]
              rintro e w1 ⟨rfl, rfl⟩
              go_wp2_with fail
              refine (hro.out _).mono ?_
              rintro e w1 ⟨rfl, hb1⟩
              have hb2 : Below w.heap.size w w1 := (bdrewN (Below.refl _ _) _).trans hb1
              replace hb2 := Lib.hid hb2
              clear hb1
              go_wp2_with fail
              go_ret
              exact hQ.out _ _ hse.out hoe.out hb2.out
            · rw [if_neg hoe] at hse
              have hoe0 : ordsE L = 0 := Classical.byContradiction hoe
              have hl60 := (ordsE_0.1 hoe0).1
              replace hse := Lib.hid hse
              replace hhs := Lib.hid hhs
              replace hoe := Lib.hid hoe
              replace hoe0 := Lib.hid hoe0
              go_enter Tryd.func24, Tryd.ntmps24
              go_wp2_with fail
              go_quiet (fail)
              go_wp2_with fail
              refine (hha.out _).mono ?_
              rw [hhs.out]
              rintro e w1 ⟨rfl, rfl⟩
              go_wp2_with fail
              refine (hro.out _).mono ?_
              rw [hoe0.out]
              rintro e w1 ⟨rfl, hb1⟩
              have hb2 : Below w.heap.size w w1 := (bdrewN (Below.refl _ _) _).trans hb1
              replace hb2 := Lib.hid hb2
              have h1 := h.out.below hb2.out
              have hr1 := (hr.out.below hb2.out).more hb2.out.size
              have hk1 : Kept w1 A := Kept.mono hk.out fun b cs m hc => hb2.out.block b (heap_lt hc)
              clear hb1 c0 c1 c2 c7 o1 hb ho hro hha
              obtain ⟨AE, cE, hb, ho⟩ := h1.row
              have c7 := hb.cell 7
              replace c7 : w1.cell? ⟨g, 7, none⟩ = some (.slice AE E.length cE) := c7
              have hgl1 := hb.lt
              have hB1 := h1.size
              have f7 := hb.frozen 7
              replace h1 := Lib.hid h1
              replace hr1 := Lib.hid hr1
              replace hk1 := Lib.hid hk1
              replace hb := Lib.hid hb
              replace ho := Lib.hid ho
              go_wp2_with fail
              go_loop [11] (fun vi => ∃ k : Nat, vi = .int .i64 k ∧ k ≤ L.length ∧ Hid (anyNe (L.take k) (q : Int) = false)) (fun vi => L.length - (intOf vi).toNat)
              case atStart => exact ⟨0, rfl, Nat.zero_le _, Lib.hid rfl⟩
              case round =>
                obtain ⟨k, rfl, hk9, hno⟩ := hrel
                by_cases hlt : k < L.length
                · have i1 : (k : Int) < (L.length : Int) := by omega
                  obtain ⟨b, o, hA, hbl, d0, _⟩ := ro_at hr1.out k hlt
                  subst hA
                  have hns := anyNe_tk L (q : Int) k hlt
                  rw [hno.out, Bool.false_or] at hns
                  by_cases hpq : (od L k).player = (q : Int)
                  · have g1 : ((od L k).player != (q : Int)) = false := by simp [hpq]
                    rw [decide_eq_false (by simp [hpq])] at hns
                    replace hns := Lib.hid hns
                    replace hpq := Lib.hid hpq
                    go_wp2_with fail
                    go_round
                    case rel => exact ⟨k + 1, by go_num, by omega, hns⟩
                    case measure => simp [intOf]; omega
                  · have g1 : ((od L k).player != (q : Int)) = true := by simp [hpq]
                    rw [decide_eq_true hpq] at hns
                    have hse3 := hse.out
                    rw [if_pos (anyNe_of L (q : Int) (k + 1) hns)] at hse3
                    replace hns := Lib.hid hns
                    replace hpq := Lib.hid hpq
                    replace hse3 := Lib.hid hse3
                    go_wp2_with fail
                    go_ret
                    exact hQ.out 3 _ hse3.out (by decide) hb2.out
                · have i1 : ¬ (k : Int) < (L.length : Int) := by omega
                  obtain rfl : k = L.length := by omega
                  have hse0 := hse.out
                  have hno2 := hno.out
                  rw [List.take_length] at hno2
                  rw [if_neg (by rw [hno2]; simp)] at hse0
                  replace hse0 := Lib.hid hse0
                  replace hno2 := Lib.hid hno2
                  go_wp2_with (at_builtin; refine wpList_app1 rfl (.tmp 74) (.tmp 79) 61 rfl B 101 i0 _ 3 40 Tryd.underlying61 hi0 hz0 hz1 hz2 rfl (by decide) (by decide) w1 #[.int .i64 (q : Int), .int .i64 t, .slice A L.length c] (.slice AE E.length cE) E.length _ rfl ho.out rfl rfl rfl (by omega) hB1 ?_; intro v' w9 hown' hgrow; obtain ⟨A9, c9, rfl, _⟩ := own_slice hown'; have hb9 := hb.out.grown hgrow (fun e => own_neL ho.out hb.out e.symm); have c79 := hb9.cell 7; replace c79 : w9.cell? ⟨g, 7, none⟩ = some (.slice AE E.length cE) := c79; have f79 := hb9.frozen 7; have hgl9 := hb9.lt; replace hb9 := Lib.hid hb9; replace hown' := Lib.hid hown')
                  have hfin := RL.put (A' := A9) (c' := c9) h1.out (by omega) hb.out ho.out hr1.out hnil.out hk1.out hl60 hhs.out hf hgrow hown'.out
                  replace hfin := Lib.hid hfin
                  clear hgrow
                  go_wp2_with fail
                  go_ret
                  exact .inr ⟨hse0.out, rfl, hfin.out.1, (TE.of_below hb2.out hB).trans hfin.out.2⟩
end
end Go.Proofs.YtkgdflecepockaaDoor
