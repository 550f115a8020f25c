import Derived.Test.YtkgdflecepockaaDoorOrd
import Derived.Lib.BufferRead
namespace Go.Proofs.YtkgdflecepockaaDoor
set_option linter.unusedVariables false
open Go.RowKit
/-- A slice that reads as orders. -/
abbrev RO (w : World) (B : Nat) (A : Option Addr) (L : List Od) : Prop := RD w B 4 A L.length (L.flatMap oC)
theorem ro_at {w : World} {B : Nat} {A : Option Addr} {L : List Od} (h : RO w B A L) (k : Nat) (hk : k < L.length) :
    ∃ b o, A = some ⟨b, o, none⟩ ∧ b < B ∧ w.cell? ⟨b, o + k * 4, none⟩ = some (.int .i64 (od L k).player) ∧ w.cell? ⟨b, o + k * 4 + 1, none⟩ = some (.int .i64 (od L k).unit) ∧ w.cell? ⟨b, o + k * 4 + 2, none⟩ = some (.int .i64 (od L k).what) ∧ w.cell? ⟨b, o + k * 4 + 3, none⟩ = some (.int .i64 (od L k).arg) := by
  obtain ⟨b, o, hA, hb⟩ := h.addr (by omega)
  have key : ∀ j, j < 4 → w.cell? ⟨b, o + (k * 4 + j), none⟩ = (oC (od L k))[j]? := fun j hj => by
    rw [h.at_ hA (by omega), flat_get oC 4 oC_len L k j hj, od_get hk]; rfl
  exact ⟨b, o, hA, hb, key 0 (by omega), key 1 (by omega), key 2 (by omega), key 3 (by omega)⟩
theorem odOk_mk (o : Od) : (⟨o.player, o.unit, o.what, o.arg⟩ : Od) = o := rfl
set_option maxHeartbeats 1600000 in
set_option maxRecDepth 100000 in
theorem ocheck_any (A : Option Addr) (c B : Nat) (L : List Od) (w : World) (h : RO w B A L) (hB : B ≤ w.heap.size) (hl : L.length ≤ 9223372036854775807) :
    Calls Tryd.prog 41 #[.slice A L.length c] w fun e w' => e = .returned (oErr (ordsE L)) ∧ Below w.heap.size w w' := by
  replace h := Lib.hid h
  by_cases hn : 60 < L.length
  · have hv : oErr (ordsE L) = .iface 80 (.int .i64 4) := by unfold ordsE; rw [if_pos hn]; rfl
    have z1 : (60 : Int) < (L.length : Int) := by omega
    rw [hv]
    clear hv
    go_enter Tryd.func41, Tryd.ntmps41
    go_wp2_with fail
    go_ret
    exact ⟨rfl, Below.refl _ _⟩
  · have z1 : ¬ (60 : Int) < (L.length : Int) := by omega
    have hv : ordsE L = if ∀ o ∈ L, OdOk o then 0 else 1 := by unfold ordsE; rw [if_neg hn]
    replace hv := Lib.hid hv
    go_enter Tryd.func41, Tryd.ntmps41
    go_wp2_with fail
    go_loopw [4, 5, 12] (fun _ _ vi wr => ∃ k : Nat, vi = .int .i64 k ∧ k ≤ L.length ∧ Hid (∀ j, j < k → OdOk (od L j)) ∧ Hid (Below w.heap.size w wr)) (fun _ _ vi _ => L.length - (intOf vi).toNat)
    case atStart => exact ⟨0, rfl, Nat.zero_le _, Lib.hid (fun j h => by omega), Lib.hid (Below.refl _ _)⟩
    case round =>
      obtain ⟨k, rfl, hk, hok, hb⟩ := hrel
      by_cases hlt : k < L.length
      · have z2 : (k : Int) < (L.length : Int) := by omega
        obtain ⟨b, o, hA, hbl, c0, c1, c2, c3⟩ := ro_at (h.out.below (hb.out.mono hB)) k hlt
        subst hA
        have hs := hb.out.size
        by_cases ho : OdOk (od L k)
        · have hok2 : Hid (∀ j, j < k + 1 → OdOk (od L j)) := Lib.hid (fun j hj => by
            rcases Nat.lt_or_ge j k with h1 | h1
            · exact hok.out j h1
            · obtain rfl : j = k := by omega
              exact ho)
          replace ho := Lib.hid ho
          clear hok
          go_wp2_with fail
          refine (order_ok _ _ _ _ _ ho.out).mono ?_
          rintro e w1 ⟨rfl, hb1⟩
          have hb2 := (hb.out.alloc hs (.cells #[.int .i64 (od L k).player, .int .i64 (od L k).unit, .int .i64 (od L k).what, .int .i64 (od L k).arg] 66)).trans (hb1.mono (by simp; omega))
          replace hb2 := Lib.hid hb2
          clear hb1 c0 c1 c2 c3
          go_wp2_with fail
          go_roundw
          case rel => exact ⟨k + 1, by go_num, by omega, hok2, hb2⟩
          case measure => simp [intOf]; omega
        · have hv1 : oErr (ordsE L) = .iface 80 (.int .i64 1) := by
            rw [hv.out, if_neg (fun h => ho (h _ (od_mem hlt)))]; rfl
          replace hv1 := Lib.hid hv1
          replace ho := Lib.hid ho
          clear hok
          go_wp2_with fail
          refine (order_no _ _ _ _ _ ho.out).mono ?_
          rintro e w1 ⟨rfl, hb1⟩
          have hb2 := (hb.out.alloc hs (.cells #[.int .i64 (od L k).player, .int .i64 (od L k).unit, .int .i64 (od L k).what, .int .i64 (od L k).arg] 66)).trans (hb1.mono (by simp; omega))
          replace hb2 := Lib.hid hb2
          clear hb1 c0 c1 c2 c3
          go_wp2_with fail
          go_ret
          exact ⟨by rw [hv1.out]; rfl, hb2.out⟩
      · have z2 : ¬ (k : Int) < (L.length : Int) := by omega
        have hv1 : oErr (ordsE L) = .nilIface := by
          rw [hv.out, if_pos (fun o ho => by
            obtain ⟨i, hi⟩ := List.mem_iff_getElem?.1 ho
            have hil : i < L.length := (List.getElem?_eq_some_iff.1 hi).1
            rw [od_get hil] at hi
            injection hi with hi
            rw [← hi]
            exact hok.out i (by omega))]
          rfl
        replace hv1 := Lib.hid hv1
        go_wp2_with fail
        go_ret
        exact ⟨by rw [hv1.out]; rfl, hb.out⟩
theorem ord_info : (Tryd.prog.info? 66).map (fun i => (i.zero, i.size, i.bytes)) = some (some (.agg #[.int .i64 0, .int .i64 0, .int .i64 0, .int .i64 0]), 4, 32) := by kernel_rfl
set_option maxRecDepth 100000 in
theorem cloneO_any (A : Option Addr) (n c B : Nat) (L : List Od) (w : World) (hn0 : L.length = n) (hnil : A = none → c = 0) (hB : B ≤ w.heap.size) (h : RO w B A L) (hn : n ≤ 1000000000000) :
    Calls Tryd.prog 44 #[.slice A n c] w fun e w' => ∃ v, e = .returned v ∧ w'.ownsRow w.heap.size 66 4 v n (L.flatMap oC) ∧ Below w.heap.size w w' := by
  subst hn0
  obtain ⟨i0, hi0, hz0, hz1, hz2⟩ := info_parts ord_info
  have H := Lib.hid h
  have HN := Lib.hid hnil
  clear h hnil
  have hq := fun (w : World) (a : Option Addr) (n c : Nat) => Lib.run_eql_slice_nil (P := Tryd.prog) w 55 66 a n c 0 0 Tryd.underlying55
  rcases A with _ | ad
  · have hn0 : L.length = 0 := by
      rcases Nat.eq_zero_or_pos L.length with h0 | h0
      · exact h0
      · obtain ⟨b, off, e, _⟩ := H.out.2 h0
        cases e
    obtain rfl : L = [] := List.eq_nil_of_length_eq_zero hn0
    clear H
    go_enter Tryd.func44, Tryd.ntmps44
    go_wp2
    go_ret
    exact ⟨_, rfl, World.ownsRow_nil _ _ _ _, Below.refl _ _⟩
  · have hone : (L.flatMap oC).all (·.oneCell') = true := List.all_eq_true.2 (fun v hv => by
      obtain ⟨o, _, ho⟩ := List.mem_flatMap.1 hv
      exact oC_one o v ho)
    go_enter Tryd.func44, Tryd.ntmps44
    have ho : (w.alloc (.cells #[] 66)).ownsRow w.heap.size 66 4 (.slice (some ⟨w.heap.size, 0, none⟩) 0 0) 0 [] := World.ownsRow_made w #[] 0 (Nat.le_refl _) (by unfold maxLen; omega) rfl
    replace ho := Lib.hid ho
    go_wp2_with (at_builtin; refine wpList_append_rd rfl (.tmp 5) (.tmp 6) 55 rfl w.heap.size 66 i0 _ 4 32 Tryd.underlying55 hi0 hz0 hz1 hz2 rfl (by decide) _ (.slice (some ⟨w.heap.size, 0, none⟩) 0 0) 0 _ rfl ho.out B (some ad) L.length c (L.flatMap oC) rfl HN.out (H.out.alloc hB _) hone ?_ ?_ ?_ ?_)
    · unfold maxLen; omega
    · omega
    · simp
    · intro v' w1 hown hgrow
      go_wp2
      go_ret
      exact ⟨_, rfl, by simpa using hown, ((Below.refl _ _).alloc (Nat.le_refl _) _).grown hgrow (by simp) (by simp [Value.ownBlock])⟩
end Go.Proofs.YtkgdflecepockaaDoor
