import Derived.Test.YtkkdegcbikjebaaChk
import Derived.Test.YtkkdegcbikjebaaNum
import Derived.Deep.RegionHeld3
namespace Go.Proofs.Ytkkdegcbikjebaa
set_option linter.unusedVariables false
open Go.RowKit
/-- Bytes that are being written, beside a block that stays. -/
structure NSt (w0 : World) (base g1 : Nat) (t : TypeId) (cs : Array Value) (m : Nat) (v : Value) (bs : List Int) (w : World) : Prop where
  own : w.ownsRow base 5 1 v bs.length (bs.map (.int .u8))
  blk : Blk w g1 t cs
  far : v.ownBlock ≠ some g1
  bel : Below base w0 w
  bas : base ≤ w.heap.size
  lim : bs.length ≤ m
theorem NSt.drewN {w0 : World} {base g1 : Nat} {t : TypeId} {cs : Array Value} {m : Nat} {v : Value} {bs : List Int} {w : World} (h : NSt w0 base g1 t cs m v bs w) (n : Nat) : NSt w0 base g1 t cs m v bs (w.drewN n) :=
  ⟨h.own, h.blk.drewN n, h.far, below_drewN h.bel n, h.bas, h.lim⟩
theorem NSt.num {w0 : World} {base g1 : Nat} {t : TypeId} {cs : Array Value} {m : Nat} {v : Value} {bs : List Int} {w : World} (h : NSt w0 base g1 t cs m v bs w) (n : Int) (hm : m ≤ 1000000000) (hn : -9223372036854775808 ≤ n ∧ n ≤ 9223372036854775807) :
    Calls Try.prog 42 #[v, .int .i64 n] w fun e w' => ∃ v', e = .returned v' ∧ NSt w0 base g1 t cs (m + 10) v' (bs ++ numL n) w' := by
  refine (num_any base v bs.length _ n w h.own h.bas (by have := h.lim; omega) hn).mono ?_
  rintro e w' ⟨v', rfl, ho, hg, hat⟩
  have hl := numL_len n hn
  refine ⟨v', rfl, ?_, h.blk.grown hg (fun e => h.far e.symm), ?_, h.bel.grown hg h.bas (fun g hg => (h.own.lt g hg).1), Nat.le_trans h.bas hg.size, by rw [List.length_append]; have := h.lim; omega⟩
  · rw [List.length_append, List.map_append]; exact ho
  · rcases hat with e | ⟨g, e, hgg⟩
    · rw [e]; exact h.far
    · rw [e]; have := h.blk.lt; intro e; injection e; omega
set_option maxHeartbeats 3200000 in
set_option maxRecDepth 100000 in
theorem pack_any (A : Option Addr) (c : Nat) (L : List Ch) (w : World) (h : RC w w.heap.size A L) :
    Calls Try.prog 19 #[.slice A L.length c] w fun e w' => Below w.heap.size w w' ∧ ((chkL L ≠ 0 ∧ e = .returned (.tuple #[.slice none 0 0, erK (chkL L)])) ∨
      (chkL L = 0 ∧ ∃ v, e = .returned (.tuple #[v, .nilIface]) ∧ w'.ownsRow w.heap.size 5 1 v (pkB L).length ((pkB L).map (.int .u8)))) := by
  have H := Lib.hid h
  clear h
  go_enter Try.func19, Try.ntmps19
  go_wp2_with fail
  refine (check_nil A c L w H.out).mono ?_
  rintro e W1 ⟨rfl, hb1⟩
  by_cases hz : chkL L = 0
  · rw [hz, erK0]
    have hL6 : L.length ≤ 6000 := by
      rcases Nat.lt_or_ge 6000 L.length with h | h
      · unfold chkL at hz; rw [if_pos h] at hz; cases hz
      · exact h
    have hzN : chkN L L.length = 0 := by unfold chkL at hz; rwa [if_neg (by omega)] at hz
    have hpk : pkB L = pkN L L.length := by unfold pkB; rw [if_pos hz]
    replace hz := Lib.hid hz
    replace hzN := Lib.hid hzN
    replace hpk := Lib.hid hpk
    replace hb1 := Lib.hid hb1
    go_wp2_with fail
    refine (num_any w.heap.size (.slice none 0 0) 0 [] L.length W1 (World.ownsRow_nil _ _ _ _) hb1.out.size (by omega) (by omega)).mono ?_
    rintro e W2 ⟨v', rfl, ho, hg, hat⟩
    have hb2 := hb1.out.grown hg hb1.out.size (fun g hg => by cases hg)
    rw [Nat.zero_add, List.nil_append] at ho
    replace ho := Lib.hid ho
    replace hb2 := Lib.hid hb2
    clear hg hat
    go_wp2_with fail
    go_loopw [5, 6, 8, 19] (fun vb vl _ vi wr => ∃ k : Nat, vi = .int .i64 k ∧ k ≤ L.length ∧ vl = .int .i64 (lastA L k) ∧ Hid (wr.ownsRow w.heap.size 5 1 vb (pkN L k).length ((pkN L k).map (.int .u8))) ∧ Hid (Below w.heap.size w wr)) (fun _ _ _ vi _ => L.length - (intOf vi).toNat)
    case atStart => exact ⟨0, rfl, Nat.zero_le _, rfl, ho, hb2⟩
    case round =>
      obtain ⟨k, rfl, hk, rfl, ho, hb⟩ := hrel
      by_cases hlt : k < L.length
      · have hs := hb.out.size
        have HR : RC wr w.heap.size A L := H.out.below hb.out
        obtain ⟨b, off, hA, hbB⟩ := rc_addr HR (by omega)
        obtain ⟨e0, e1, e2⟩ := rc_cell HR hA k hlt
        subst hA
        have j1 : (k : Int) < (L.length : Int) := by omega
        have hgd := good_ch (chE_good L k (chkN_all L L.length hzN.out k hlt)).1
        have hla := lastA_bd L L.length k hzN.out hk
        have hla1 : lastA L (k + 1) = (chG L k).a := by unfold lastA; rw [if_neg (by omega)]; rfl
        have hpN := pkN_len L L.length hL6 hzN.out k hk
        have hpK : pkN L (k + 1) = pkN L k ++ (numL ((chG L k).a - lastA L k) ++ numL ((chG L k).o + 1) ++ numL ((chG L k).n + 1)) := rfl
        replace HR := Lib.hid HR
        replace hpK := Lib.hid hpK
        generalize chG L k = cg at *
        obtain ⟨ca, co, cn⟩ := cg
        dsimp only at *
        replace hla1 := Lib.hid hla1
        replace hpN := Lib.hid hpN
        generalize lastA L k = la at *
        go_upto_region 9 with fail
        have hN0 : NSt w w.heap.size wr.heap.size 45 #[.int .i64 ca, .int .i64 co, .int .i64 cn] (10 + 30 * k) u5 (pkN L k) (wr.alloc (.cells #[.int .i64 ca, .int .i64 co, .int .i64 cn] 45)) :=
          ⟨ho.out.kept (World.grownBy_alloc wr _ none) (by cases hv : u5.ownBlock <;> simp), Blk.new wr _ _, fun e => by have := (ho.out.lt _ e).2; omega, hb.out.alloc hs _, by simp; omega, hpN.out⟩
        have i1 : IntKind.i64.wrap (ca - la) = ca - la := IntWalk.i64_in _ (by omega)
        have i2 : IntKind.i64.wrap (co + 1) = co + 1 := IntWalk.i64_in _ (by omega)
        have i3 : IntKind.i64.wrap (cn + 1) = cn + 1 := IntWalk.i64_in _ (by omega)
        clear e0 e1 e2
        generalize (wr.alloc (.cells #[.int .i64 ca, .int .i64 co, .int .i64 cn] 45)) = W3 at *
        generalize wr.heap.size = g1 at *
        have c0 := hN0.blk.cell 0
        have c1 := hN0.blk.cell 1
        have c2 := hN0.blk.cell 2
        change W3.cell? ⟨g1, 0, none⟩ = some (.int .i64 ca) at c0
        change W3.cell? ⟨g1, 1, none⟩ = some (.int .i64 co) at c1
        change W3.cell? ⟨g1, 2, none⟩ = some (.int .i64 cn) at c2
        replace hN0 := Lib.hid hN0
        go_cut [5] from 20 to 39 (fun v wx => ∃ m, Hid (NSt w w.heap.size g1 45 #[.int .i64 ca, .int .i64 co, .int .i64 cn] m v (pkN L (k + 1)) wx))
        case first =>
          have r1 : -9223372036854775808 ≤ ca - la ∧ ca - la ≤ 9223372036854775807 := by omega
          have r2 : -9223372036854775808 ≤ co + 1 ∧ co + 1 ≤ 9223372036854775807 := by omega
          have r3 : -9223372036854775808 ≤ cn + 1 ∧ cn + 1 ≤ 9223372036854775807 := by omega
          have m1 : 10 + 30 * k ≤ 1000000000 := by omega
          have m2 : 10 + 30 * k + 10 ≤ 1000000000 := by omega
          have m3 : 10 + 30 * k + 10 + 10 ≤ 1000000000 := by omega
          replace r1 := Lib.hid r1
          replace r2 := Lib.hid r2
          replace r3 := Lib.hid r3
          replace m1 := Lib.hid m1
          replace m2 := Lib.hid m2
          replace m3 := Lib.hid m3
          go_region_held3 (fun wz => wz.cell? ⟨g1, 0, none⟩ = some (.int .i64 ca) ∧ wz.cell? ⟨g1, 1, none⟩ = some (.int .i64 co) ∧ wz.cell? ⟨g1, 2, none⟩ = some (.int .i64 cn)) (first | exact ⟨x0, x1, x2⟩ | exact ⟨c0, c1, c2⟩) (first | (go_at_call_of 42 u5; refine (NSt.num (hN0.out.drewN 1) (ca - la) m1.out r1.out).mono ?_; rintro e w1 ⟨v1, rfl, hN1⟩; have x0 := hN1.blk.cell 0; have x1 := hN1.blk.cell 1; have x2 := hN1.blk.cell 2; replace hN1 := Lib.hid hN1) | (go_at_call_of 42 v1; refine (NSt.num hN1.out (co + 1) m2.out r2.out).mono ?_; rintro e w2 ⟨v2, rfl, hN2⟩; clear x0 x1 x2; have x0 := hN2.blk.cell 0; have x1 := hN2.blk.cell 1; have x2 := hN2.blk.cell 2; replace hN2 := Lib.hid hN2) | (go_at_call_of 42 v2; refine (NSt.num hN2.out (cn + 1) m3.out r3.out).mono ?_; rintro e w3 ⟨v3, rfl, hN3⟩; clear x0 x1 x2; have x0 := hN3.blk.cell 0; have x1 := hN3.blk.cell 1; have x2 := hN3.blk.cell 2; replace hN3 := Lib.hid hN3))
          clear x0 x1 x2
          have hN4 : pkN L k ++ numL (ca - la) ++ numL (co + 1) ++ numL (cn + 1) = pkN L (k + 1) := by rw [hpK.out]; simp only [List.append_assoc]
          have hN5 := hN3.out
          rw [hN4] at hN5
          replace hN4 := Lib.hid hN4
          replace hN5 := Lib.hid hN5
          go_wp2_with fail
          go_meet
          exact ⟨_, hN5⟩
        case rest =>
        obtain ⟨m, hN⟩ := hcut
        have x0 := hN.out.blk.cell 0
        have hltg := hN.out.blk.lt
        go_wp2_with fail
        go_roundw
        case rel => exact ⟨k + 1, by go_num, by omega, by rw [hla1.out], Lib.hid hN.out.own, Lib.hid hN.out.bel⟩
        case measure => simp [intOf]; omega
      · have j1 : ¬ (k : Int) < (L.length : Int) := by omega
        have hfin : wr.ownsRow w.heap.size 5 1 u5 (pkB L).length ((pkB L).map (.int .u8)) := by
          rw [hpk.out, show L.length = k by omega]; exact ho.out
        replace hfin := Lib.hid hfin
        go_wp2_with fail
        go_ret2
        exact ⟨hb.out, .inr ⟨hz.out, u5, rfl, hfin.out⟩⟩
  · rw [erKn _ hz]
    have hz2 := erKn _ hz
    replace hz2 := Lib.hid hz2
    replace hz := Lib.hid hz
    go_wp2_with fail
    go_ret2
    exact ⟨hb1, .inl ⟨hz.out, by rw [hz2.out]; rfl⟩⟩
end Go.Proofs.Ytkkdegcbikjebaa
