import Derived.Test.YtkkdegcbikjebaaPlainM
import Derived.Test.YtkkdegcbikjebaaMany
import Derived.Test.YtkkdegcbikjebaaChk
namespace Go.Proofs.Ytkkdegcbikjebaa
set_option linter.unusedVariables false
open Go.RowKit
set_option maxHeartbeats 3200000 in
set_option maxRecDepth 100000 in
theorem unpack_ok (A : Option Addr) (c : Nat) (L : List Ch) (bs zs : List Int) (w : World) (h : RD w w.heap.size 1 A bs.length (bs.map (.int .u8))) (hbs : ∀ x ∈ bs, Byte x) (hl : bs.length ≤ 4611686018427387904) (hL : L.length ≤ 6000) (hc : chkL L = 0) (he : bs = pkB L ++ zs) :
    Calls Try.prog 20 #[.slice A bs.length c] w fun e w' => Below w.heap.size w w' ∧ ∃ D d, ∃ n : Int, e = .returned (.tuple #[.slice D L.length d, .int .i64 n, .nilIface]) ∧ RC w' w'.heap.size D L := by
  obtain ⟨i0, hi0, hz0, hz1, hz2⟩ := info_parts ch_info
  have H := Lib.hid h
  have HB := Lib.hid hbs
  have HE := Lib.hid he
  have HC := Lib.hid hc
  clear h hbs he hc
  go_enter Try.func20, Try.ntmps20
  go_upto_region 2 with fail
  have hpos : 0 < bs.length := by
    have h1 := vb_pos (zz L.length)
    obtain ⟨t, ht⟩ := pkN_split L 0 L.length
    rw [Nat.zero_add] at ht
    rw [HE.out, List.length_append]
    have h2 : pkB L = pkN L L.length := by unfold pkB; rw [if_pos HC.out]
    have h3 : (pkN L 0).length = (vb (zz L.length)).length := rfl
    rw [h2, ht, List.length_append]
    omega
  have hb1 : Below w.heap.size w (w.alloc (.cells #[.slice A bs.length c, .int .i64 0, .bool false] 87)) := (Below.refl _ _).alloc (Nat.le_refl _) _
  have hR1 : ROk (w.alloc (.cells #[.slice A bs.length c, .int .i64 0, .bool false] 87)) w.heap.size A c w.heap.size bs (some 0) :=
    ROk.mk' (q := 0) false (Blk.new w 87 #[.slice A bs.length c, .int .i64 0, .bool false]) rfl (Nat.zero_le _) (fun p h => by injection h) (H.out.alloc (Nat.le_refl _) _) (fun b o e => by
      obtain ⟨b', o', e', hlt, _⟩ := H.out.2 hpos
      rw [e] at e'
      injection e' with e'
      injection e' with e1
      omega)
  have hs1 : (w.alloc (.cells #[.slice A bs.length c, .int .i64 0, .bool false] 87)).heap.size = w.heap.size + 1 := by simp
  generalize (w.alloc (.cells #[.slice A bs.length c, .int .i64 0, .bool false] 87)) = W1 at *
  have hAlt : ∀ b o, A = some ⟨b, o, none⟩ → b < w.heap.size := fun b o e => by
    obtain ⟨b', o', e', hlt, _⟩ := H.out.2 hpos
    rw [e] at e'
    injection e' with e'
    injection e' with e1 e2
    omega
  replace hAlt := Lib.hid hAlt
  generalize hg0 : w.heap.size = g0 at *
  have hp0 := pk_0 L zs hL HC.out
  rw [← HE.out] at hp0
  have hm0 : rdM bs (some 0) 6000 = ((L.length : Int), some (pkN L 0).length) := by rw [rdM_ok _ _ _ (by rw [hp0]; dsimp only; omega), hp0]
  replace hp0 := Lib.hid hp0
  replace hR1 := Lib.hid hR1
  replace hb1 := Lib.hid hb1
  have hm := many_any (some 0) 6000 W1 hR1.out HB.out hl
  rw [hm0] at hm
  replace hm := Lib.hid hm
  go_wp2_with fail
  refine hm.out.mono ?_
  rintro e W2 ⟨rfl, hR2, hq⟩
  have hb2 : Below g0 w W2 := hb1.out.grown hq (by omega) (fun g hg => by injection hg; omega)
  have hs2 : g0 + 1 ≤ W2.heap.size := by have := hq.size; omega
  replace hR2 := Lib.hid hR2
  replace hb2 := Lib.hid hb2
  clear hq hm hm0
  go_wp2_with fail
  go_loopw [6, 7, 8, 14] (fun vl va _ vi wr => ∃ k : Nat, vi = .int .i64 k ∧ k ≤ L.length ∧ va = .int .i64 (lastA L k) ∧ Hid (ROk wr g0 A c g0 bs (some (pkN L k).length)) ∧ Hid (wr.ownsRow (g0 + 1) 45 3 vl k ((L.take k).flatMap chC)) ∧ Hid (Below g0 w wr) ∧ g0 + 1 ≤ wr.heap.size) (fun _ _ _ vi _ => L.length - (intOf vi).toNat)
  case atStart => exact ⟨0, rfl, Nat.zero_le _, rfl, hR2, Lib.hid (World.ownsRow_nil _ _ _ _), hb2, hs2⟩
  case round =>
    clear hR2 hb2 hs2
    obtain ⟨k, rfl, hk, rfl, hR, ho, hb, hs⟩ := hrel
    by_cases hlt : k < L.length
    · have j1 : (k : Int) < (L.length : Int) := by omega
      obtain ⟨q, hq, hql, _⟩ := hR.out.blk
      have c2 := hq.cell 2
      have hltg := hq.lt
      replace hq := Lib.hid hq
      obtain ⟨p1, p2, r1, r2, r3⟩ := pk_k L zs hL HC.out k hlt
      obtain ⟨t1, t2, t3⟩ := pk_step L hL HC.out k hlt
      have hN : chkN L L.length = 0 := by have := HC.out; unfold chkL at this; rwa [if_neg (by omega)] at this
      have hgd := good_ch (chE_good L k (chkN_all L L.length hN k hlt)).1
      have hla := lastA_bd L L.length k hN hk
      rw [← HE.out] at r1 r2 r3
      have htk : L.take (k + 1) = L.take k ++ [chG L k] := by
        rw [List.take_succ_eq_append_getElem hlt]
        unfold chG
        rw [List.getD_eq_getElem?_getD, List.getElem?_eq_getElem hlt]; rfl
      have hfm : (L.take (k + 1)).flatMap chC = (L.take k).flatMap chC ++ chC (chG L k) := by rw [htk, List.flatMap_append]; simp
      clear htk
      replace hfm := Lib.hid hfm
      generalize chG L k = cg at *
      obtain ⟨ca, co, cn⟩ := cg
      dsimp only at *
      replace t3 := Lib.hid t3
      generalize hd : ca - lastA L k = d at *
      generalize lastA L k = la at *
      have hn1 := rnum_any (some (pkN L k).length) wr hR.out HB.out hl
      rw [r1] at hn1
      have m2 : rdM bs (some p1) 256 = (co + 1, some p2) := by rw [rdM_ok _ _ _ (by rw [r2]; dsimp only; omega), r2]
      have m3 : rdM bs (some p2) 256 = (cn + 1, some (pkN L (k + 1)).length) := by rw [rdM_ok _ _ _ (by rw [r3]; dsimp only; omega), r3]
      have i1 : IntKind.i64.wrap (la + d) = ca := by rw [show la + d = ca by omega]; exact IntWalk.i64_in _ (by omega)
      have i2 : IntKind.i64.wrap (co + 1 - 1) = co := by rw [Int.add_sub_cancel]; exact IntWalk.i64_in _ (by omega)
      have i3 : IntKind.i64.wrap (cn + 1 - 1) = cn := by rw [Int.add_sub_cancel]; exact IntWalk.i64_in _ (by omega)
      replace hd := Lib.hid hd
      replace r1 := Lib.hid r1
      replace r2 := Lib.hid r2
      replace r3 := Lib.hid r3
      replace m2 := Lib.hid m2
      replace m3 := Lib.hid m3
      replace hn1 := Lib.hid hn1
      replace i1 := Lib.hid i1
      replace i2 := Lib.hid i2
      replace i3 := Lib.hid i3
      go_wp2_with fail
      refine hn1.out.mono ?_
      clear hn1
      rintro e W3 ⟨rfl, hR3, hq3⟩
      have hb3 : Below g0 w W3 := hb.out.grown hq3 (by omega) (fun g hg => by injection hg; omega)
      have ho3 := ho.out.kept hq3 (by cases hv : u6.ownBlock with
        | none => exact .inl rfl
        | some b => exact .inr (fun e => by injection e with e; have := (ho.out.lt b hv).1; omega))
      have hs3 := hq3.size
      clear c2 hltg hq
      replace hR3 := Lib.hid hR3
      replace hb3 := Lib.hid hb3
      replace ho3 := Lib.hid ho3
      clear hq3
      go_wp2_with fail
      rw [show la + d = ca by have := hd.out; omega]
      have hm2 := many_any (some p1) 256 W3 hR3.out HB.out hl
      rw [m2.out] at hm2
      refine hm2.mono ?_
      clear hm2
      rintro e W4 ⟨rfl, hR4, hq4⟩
      have hb4 : Below g0 w W4 := hb3.out.grown hq4 (by omega) (fun g hg => by injection hg; omega)
      have ho4 := ho3.out.kept hq4 (by cases hv : u6.ownBlock with
        | none => exact .inl rfl
        | some b => exact .inr (fun e => by injection e with e; have := (ho.out.lt b hv).1; omega))
      have hs4 := hq4.size
      replace hR4 := Lib.hid hR4
      replace hb4 := Lib.hid hb4
      replace ho4 := Lib.hid ho4
      clear hq4
      go_wp2_with fail
      have hm3 := many_any (some p2) 256 W4 hR4.out HB.out hl
      rw [m3.out] at hm3
      refine hm3.mono ?_
      clear hm3
      rintro e W5 ⟨rfl, hR5, hq5⟩
      have hb5 : Below g0 w W5 := hb4.out.grown hq5 (by omega) (fun g hg => by injection hg; omega)
      have ho5 := ho4.out.kept hq5 (by cases hv : u6.ownBlock with
        | none => exact .inl rfl
        | some b => exact .inr (fun e => by injection e with e; have := (ho.out.lt b hv).1; omega))
      have hs5 := hq5.size
      replace hR5 := Lib.hid hR5
      replace hb5 := Lib.hid hb5
      replace ho5 := Lib.hid ho5
      clear hq5 ho
      go_upto_region 8 with fail
      have hk6 := Blk.new W5 45 #[.int .i64 ca, .int .i64 co, .int .i64 cn]
      have hbel : Below W5.heap.size W5 (W5.alloc (.cells #[.int .i64 ca, .int .i64 co, .int .i64 cn] 45)) := (Below.refl _ _).alloc (Nat.le_refl _) _
      have hR6 := hR5.out.below hbel
      have hb6 : Below g0 w (W5.alloc (.cells #[.int .i64 ca, .int .i64 co, .int .i64 cn] 45)) := hb5.out.trans (hbel.mono (by omega))
      have ho6 := ho5.out.alloc (.cells #[.int .i64 ca, .int .i64 co, .int .i64 cn] 45)
      have hown5 : ∀ b, u6.ownBlock = some b → g0 + 1 ≤ b ∧ b < W5.heap.size := fun b hv => ho5.out.lt b hv
      have hs6 := hbel.size
      generalize (W5.alloc (.cells #[.int .i64 ca, .int .i64 co, .int .i64 cn] 45)) = W6 at *
      generalize W5.heap.size = g5 at *
      have c0 := hk6.cell 0
      have c1 := hk6.cell 1
      have c2 := hk6.cell 2
      have hlt6 := hk6.lt
      clear hbel
      replace hk6 := Lib.hid hk6
      replace hR6 := Lib.hid hR6
      replace hb6 := Lib.hid hb6
      replace ho6 := Lib.hid ho6
      replace hown5 := Lib.hid hown5
      generalize (L.take k).flatMap chC = cs at *
      go_wp2_with (at_builtin; refine wpList_app1 rfl (.tmp 33) (.tmp 35) 46 rfl (g0 + 1) 45 i0 _ 3 24 Try.underlying46 hi0 hz0 hz1 hz2 rfl (by decide) (by decide) W6 #[.int .i64 ca, .int .i64 co, .int .i64 cn] u6 k cs rfl ho6.out rfl rfl rfl (by omega) (by omega) ?_; intro v' W8 hown' hgrow; have hk8 := hk6.out.grown hgrow (fun e => Nat.lt_irrefl _ (hown5.out g5 e.symm).2); have d0 := hk8.cell 0; have hlt8 := hk8.lt)
      have hR8 := hR6.out.grown hgrow (fun e => by have := (hown5.out _ e).1; omega) (fun b o e e' => by have h1 := hAlt.out b o e; have h2 := (hown5.out _ e').1; omega)
      have hb8 : Below g0 w W8 := hb6.out.grown hgrow (by omega) (fun b e => by have := (hown5.out _ e).1; omega)
      have hs8 := hgrow.size
      replace hk8 := Lib.hid hk8
      replace hR8 := Lib.hid hR8
      replace hb8 := Lib.hid hb8
      replace hown' := Lib.hid hown'
      clear hgrow
      go_roundw
      case rel => exact ⟨k + 1, by go_num, by omega, by rw [t3.out], hR8, Lib.hid (by rw [hfm.out]; exact hown'.out), hb8, by omega⟩
      case measure => simp [intOf]; omega
    · have j1 : ¬ (k : Int) < (L.length : Int) := by omega
      obtain ⟨q, hq, hql, _⟩ := hR.out.blk
      have c1 := hq.cell 1
      have c2 := hq.cell 2
      have hltg := hq.lt
      have ho2 : wr.ownsRow (g0 + 1) 45 3 u6 L.length (L.flatMap chC) := by
        have := ho.out
        rwa [show k = L.length by omega, List.take_of_length_le (Nat.le_refl _)] at this
      obtain ⟨D, dd, rfl, _⟩ := own_slice ho2
      have hrd := RD.of_own ho2
      replace hrd := Lib.hid hrd
      replace hq := Lib.hid hq
      clear ho2 ho
      go_wp2_with fail
      refine (check_nil D dd L wr hrd.out).mono ?_
      rintro e W9 ⟨rfl, hb9⟩
      rw [HC.out, erK0]
      have hq9 := hq.out.below hb9 hltg
      have e1 := hq9.cell 1
      have e2 := hq9.cell 2
      have hlt9 := hq9.lt
      have hr9 := (RD.below hrd.out hb9).more hb9.size
      have hbf : Below g0 w W9 := hb.out.trans (hb9.mono (by omega))
      clear c1 c2 hltg hb9
      replace hq9 := Lib.hid hq9
      replace hr9 := Lib.hid hr9
      replace hbf := Lib.hid hbf
      go_wp2_with fail
      go_quiet (fail)
      go_wp2_with fail
      go_ret3
      exact ⟨by rw [hg0]; exact below_drewN hbf.out _, D, dd, _, rfl, hr9.out.drewN _⟩
end Go.Proofs.Ytkkdegcbikjebaa
