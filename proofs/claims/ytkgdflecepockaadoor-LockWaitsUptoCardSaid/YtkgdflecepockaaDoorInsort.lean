import Derived.Test.YtkgdflecepockaaDoorSwapR
import Derived.Test.YtkgdflecepockaaDoorPlace
namespace Go.Proofs.YtkgdflecepockaaDoor
set_option linter.unusedVariables false
open Go.RowKit Go.Sort
/-- Of two, the later one in the text: less by what they are, less by rank. -/
theorem later_lt {L : List Od} {i j : Nat} (hok : ∀ o ∈ L, OdOk o) (hi : i < L.length) (hj : j < L.length) (h : j < i) : plc (od L i) (od L j) < 0 ↔ orank L i < orank L j := by
  rw [plc_lt (hok _ (od_mem hi)) (hok _ (od_mem hj)), orank_lt hi hj]; omega
theorem later_ge {L : List Od} {i j : Nat} (hok : ∀ o ∈ L, OdOk o) (hi : i < L.length) (hj : j < L.length) (h : j < i) (hn : ¬ plc (od L i) (od L j) < 0) : orank L j < orank L i := by
  rw [plc_lt (hok _ (od_mem hi)) (hok _ (od_mem hj))] at hn
  rw [orank_lt hj hi]; omega
theorem down_at (t : Nat → Nat) (i j : Nat) (h : j ≤ i) : Srt.down t i j j = t i := by unfold Srt.down; rw [if_neg (by omega), if_pos rfl]
theorem down_lo (t : Nat → Nat) (i j k : Nat) (h : k < j) : Srt.down t i j k = t k := by unfold Srt.down; rw [if_pos (.inl h)]
def SortPost (w0 : World) (blk off : Nat) (L : List Od) (t : Nat → Nat) (a b : Nat) (e : Ending) (w' : World) : Prop := e = .returned (.tuple #[]) ∧ ∃ t', SRow w0 w' blk off L t' ∧ Srt.In L.length t t' a b ∧ Srt.Up (orank L) t' a b
set_option maxHeartbeats 3200000 in
set_option maxRecDepth 1000000 in
theorem insort_any (a b cap blk off : Nat) (L : List Od) (t : Nat → Nat) (w0 w : World) (h : SRow w0 w blk off L t) (hok : ∀ o ∈ L, OdOk o) (hab : a ≤ b) (hb : b ≤ L.length) (hl : L.length ≤ 1000) (htl : ∀ k, k < L.length → t k < L.length) (htag : ∀ i j, a ≤ i → i < j → j < b → t i < t j) :
    Calls Tryd.prog 92 #[.slice (some ⟨blk, off, none⟩) L.length cap, .int .i64 a, .int .i64 b, .func (.func 76) #[] #[]] w (SortPost w0 blk off L t a b) := by
  replace h := Lib.hid h
  replace hok := Lib.hid hok
  replace htl := Lib.hid htl
  replace htag := Lib.hid htag
  go_enter Tryd.func92, Tryd.ntmps92
  go_wp2_with fail
  go_loopw [8] (fun vi wr => ∃ i : Nat, ∃ t1, vi = .int .i64 i ∧ a < i ∧ (i ≤ b ∨ i = a + 1) ∧ Hid (SRow w0 wr blk off L t1) ∧ Hid (Srt.In L.length t t1 a (min i b)) ∧ Hid (Srt.Up (orank L) t1 a (min i b))) (fun vi _ => b - (intOf vi).toNat)
  case atStart => exact ⟨a + 1, t, by go_num, by omega, .inr rfl, h, Lib.hid (Srt.In.refl _ _ _ _), Lib.hid (fun x y h1 h2 h3 => by omega)⟩
  case round =>
    obtain ⟨i, t1, rfl, hai, hib, hr, hI, hU⟩ := hrel
    by_cases hlt : i < b
    · have hltz : (i : Int) < (b : Int) := by omega
      have hmin : min i b = i := by omega
      rw [hmin] at hI hU
      clear hmin
      go_wp2_with fail
      go_loopw [9] (fun vj wx => ∃ j : Nat, vj = .int .i64 j ∧ a ≤ j ∧ j ≤ i ∧ Hid (SRow w0 wx blk off L (Srt.down t1 i j)) ∧ Hid (∀ k, j ≤ k → k < i → orank L (t1 i) < orank L (t1 k))) (fun vj _ => (intOf vj).toNat)
      case atStart => exact ⟨i, rfl, by omega, Nat.le_refl _, Lib.hid (by rw [Srt.down_self]; exact hr.out), Lib.hid (fun k h1 h2 => by omega)⟩
      case round =>
        clear hr
        obtain ⟨j, rfl, haj, hji, hr, hlo⟩ := hrel
        have hti : t1 i = t i := hI.out.out i (.inr (Nat.le_refl _))
        have hout : (∀ k, a ≤ k → k < j → orank L (t1 k) < orank L (t1 i)) → Hid (Srt.In L.length t (Srt.down t1 i j) a (min (i + 1) b)) ∧ Hid (Srt.Up (orank L) (Srt.down t1 i j) a (min (i + 1) b)) := fun hh => by
          rw [show min (i + 1) b = i + 1 by omega]
          exact ⟨Lib.hid ((hI.out.more (Nat.le_refl _) (by omega)).trans (Srt.In.down t1 haj hji (by omega) (by omega))), Lib.hid (Srt.up_down hU.out haj hji hlo.out hh)⟩
        by_cases hja : a < j
        · have hjaz : (a : Int) < (j : Int) := by omega
          obtain ⟨p, rfl⟩ : ∃ p, j = p + 1 := ⟨j - 1, by omega⟩
          have tp : t1 p < L.length ∧ t1 p < t1 i := by
            obtain ⟨x, x1, x2, x3⟩ := hI.out.from_ p (by omega) (by omega)
            rw [x3, hti]
            exact ⟨htl.out x (by omega), htag.out x i x1 x2 hlt⟩
          have tl : t1 i < L.length := by rw [hti]; exact htl.out i (by omega)
          have e1 : ((p + 1 : Nat) : Int) - 1 = (p : Int) := by omega
          have e2 : IntKind.i64.wrap (p : Int) = (p : Int) := IntWalk.i64_in _ (by omega)
          have b1 : (p : Int) < (L.length : Int) := by omega
          have b2 : (p : Int) + 1 < (L.length : Int) := by omega
          have hjaz2 : (a : Int) < (p : Int) + 1 := by omega
          have i9 : p + 1 < L.length := by omega
          have i10 : p < L.length := by omega
          have p0 : (0 : Int) ≤ (p : Int) + 1 := by omega
          have e0 : ((p : Int) + 1).toNat = p + 1 := by omega
          have cj := down_at t1 i (p + 1) hji
          have cp := down_lo t1 i (p + 1) p (by omega)
          replace e1 := Lib.hid e1
          replace hti := Lib.hid hti
          replace hout := Lib.hid hout
          by_cases hv : plc (od L (t1 i)) (od L (t1 p)) < 0
          · have hv1 := (later_lt hok.out tl tp.1 tp.2).1 hv
            have hlo2 : Hid (∀ k, p ≤ k → k < i → orank L (t1 i) < orank L (t1 k)) := Lib.hid (fun k h1 h2 => by
              rcases Nat.lt_or_ge p k with h3 | h3
              · exact hlo.out k h3 h2
              · obtain rfl : k = p := by omega
                exact hv1)
            clear hv1 hlo hout
            replace cj := Lib.hid cj
            replace cp := Lib.hid cp
            replace tp := Lib.hid tp
            go_upto_region 4 with fail
            refine wp_region_noPanic ?_
            refine wp_region_held_drew (S := fun w' => SRow w0 w' blk off L (Srt.down t1 i (p + 1))) (by kernel_rfl) (hr.out.drewN 1) (fun hH0 => ?_)
            replace hH0 := Lib.hid hH0
            refine wpAnyH_take (i := 0) (oi := _) (v := ?_) rfl (by kernel_rfl) (by kernel_rfl) (by kernel_rfl) (fun _ _ _ h => h) (Or.inl ⟨by rfl, ?_⟩) hH0.out ?_
            rotate_left
            · intro w' hSw
              clear hSw
              first | (go_simp; done) | (go_simp; with_reducible rfl)
            try simp only [Act.put]
            try simp only [List.setIfInBounds_toArray]
            try simp only [List.set_cons_succ, List.set_cons_zero]
            try simp only [List.getElem_toArray]
            try simp only [List.getElem_cons_succ]
            try simp only [List.getElem_cons_zero]
            refine wpAnyH_take (i := 1) (oi := _) (v := ?_) rfl (by kernel_rfl) (by kernel_rfl) (by kernel_rfl) (fun _ _ _ h => h) (Or.inl ⟨by rfl, ?_⟩) hH0.out ?_
            rotate_left
            · intro w' hSw
              clear hSw
              first | (go_simp; done) | (go_simp; with_reducible rfl)
            try simp only [Act.put]
            try simp only [List.setIfInBounds_toArray]
            try simp only [List.set_cons_succ, List.set_cons_zero]
            try simp only [List.getElem_toArray]
            try simp only [List.getElem_cons_succ]
            try simp only [List.getElem_cons_zero]
            refine wpAnyH_take (i := 2) (oi := _) (v := ?_) rfl (by kernel_rfl) (by kernel_rfl) (by kernel_rfl) (fun _ _ _ h => h) (Or.inl ⟨by rfl, ?_⟩) hH0.out ?_
            rotate_left
            · intro w' hSw
              clear hSw
              first | (go_simp; done) | (go_simp; with_reducible rfl)
            try simp only [Act.put]
            try simp only [List.setIfInBounds_toArray]
            try simp only [List.set_cons_succ, List.set_cons_zero]
            try simp only [List.getElem_toArray]
            try simp only [List.getElem_cons_succ]
            try simp only [List.getElem_cons_zero]
            refine wpAnyH_take (i := 3) (oi := _) (v := ?_) rfl (by kernel_rfl) (by kernel_rfl) (by kernel_rfl) (fun _ _ _ h => h) (Or.inl ⟨by rfl, ?_⟩) hH0.out ?_
            rotate_left
            · intro w' hSw
              clear hSw
              first | (go_simp; done) | (go_simp; with_reducible rfl)
            try simp only [Act.put]
            try simp only [List.setIfInBounds_toArray]
            try simp only [List.set_cons_succ, List.set_cons_zero]
            try simp only [List.getElem_toArray]
            try simp only [List.getElem_cons_succ]
            try simp only [List.getElem_cons_zero]
            refine wpAnyH_take (i := 4) (oi := _) (v := ?_) rfl (by kernel_rfl) (by kernel_rfl) (by kernel_rfl) (fun _ _ _ h => h) (Or.inl ⟨by rfl, ?_⟩) hH0.out ?_
            rotate_left
            · intro w' hSw
              clear hSw
              first | (go_simp; done) | (go_simp; with_reducible rfl)
            try simp only [Act.put]
            try simp only [List.setIfInBounds_toArray]
            try simp only [List.set_cons_succ, List.set_cons_zero]
            try simp only [List.getElem_toArray]
            try simp only [List.getElem_cons_succ]
            try simp only [List.getElem_cons_zero]
            refine wpAnyH_take (i := 5) (oi := _) (v := ?_) rfl (by kernel_rfl) (by kernel_rfl) (by kernel_rfl) (fun _ _ _ h => h) (Or.inl ⟨by rfl, ?_⟩) hH0.out ?_
            rotate_left
            · intro w' hSw
              clear hSw
              first | (go_simp; done) | (go_simp; with_reducible rfl)
            try simp only [Act.put]
            try simp only [List.setIfInBounds_toArray]
            try simp only [List.set_cons_succ, List.set_cons_zero]
            try simp only [List.getElem_toArray]
            try simp only [List.getElem_cons_succ]
            try simp only [List.getElem_cons_zero]
            refine wpAnyH_take (i := 6) (oi := _) (v := ?_) rfl (by kernel_rfl) (by kernel_rfl) (by kernel_rfl) (fun _ _ _ h => h) (Or.inl ⟨by rfl, ?_⟩) hH0.out ?_
            rotate_left
            · intro w' hSw
              clear hSw
              first | (go_simp; done) | (go_simp; with_reducible rfl)
            try simp only [Act.put]
            try simp only [List.setIfInBounds_toArray]
            try simp only [List.set_cons_succ, List.set_cons_zero]
            try simp only [List.getElem_toArray]
            try simp only [List.getElem_cons_succ]
            try simp only [List.getElem_cons_zero]
            refine wpAnyH_take (i := 7) (oi := _) (v := ?_) rfl (by kernel_rfl) (by kernel_rfl) (by kernel_rfl) (fun _ _ _ h => h) (Or.inl ⟨by rfl, ?_⟩) hH0.out ?_
            rotate_left
            · intro w' hSw
              clear hSw
              first | (go_simp; done) | (go_simp; with_reducible rfl)
            try simp only [Act.put]
            try simp only [List.setIfInBounds_toArray]
            try simp only [List.set_cons_succ, List.set_cons_zero]
            try simp only [List.getElem_toArray]
            try simp only [List.getElem_cons_succ]
            try simp only [List.getElem_cons_zero]
            refine wpAnyH_take (i := 8) (oi := _) (v := .agg (oC (od L (t1 i))).toArray) rfl (by kernel_rfl) (by kernel_rfl) (by kernel_rfl) (fun _ _ _ h => h) (yieldsIf_load_mid (by rfl) 66 (.tmp 25) (by rfl) blk (off + (p + 1) * 4) (by rfl) (oC (od L (t1 i))) _ (fun w' hw' => by have h := SRow.range hw' i9; (first | rw [cj.out] at h | rw [cp.out] at h); exact h) Tryd.underlying66 rfl ord_size) hH0.out ?_
            try simp only [Act.put]
            try simp only [List.setIfInBounds_toArray]
            try simp only [List.set_cons_succ, List.set_cons_zero]
            try simp only [List.getElem_toArray]
            try simp only [List.getElem_cons_succ]
            try simp only [List.getElem_cons_zero]
            refine wpAnyH_take (i := 9) (oi := _) (v := ?_) rfl (by kernel_rfl) (by kernel_rfl) (by kernel_rfl) (fun _ _ _ h => h) (Or.inl ⟨by rfl, ?_⟩) hH0.out ?_
            rotate_left
            · intro w' hSw
              clear hSw
              first | (go_simp; done) | (go_simp; with_reducible rfl)
            try simp only [Act.put]
            try simp only [List.setIfInBounds_toArray]
            try simp only [List.set_cons_succ, List.set_cons_zero]
            try simp only [List.getElem_toArray]
            try simp only [List.getElem_cons_succ]
            try simp only [List.getElem_cons_zero]
            refine wpAnyH_take (i := 10) (oi := _) (v := ?_) rfl (by kernel_rfl) (by kernel_rfl) (by kernel_rfl) (fun _ _ _ h => h) (Or.inl ⟨by rfl, ?_⟩) hH0.out ?_
            rotate_left
            · intro w' hSw
              clear hSw
              first | (go_simp; done) | (go_simp; with_reducible rfl)
            try simp only [Act.put]
            try simp only [List.setIfInBounds_toArray]
            try simp only [List.set_cons_succ, List.set_cons_zero]
            try simp only [List.getElem_toArray]
            try simp only [List.getElem_cons_succ]
            try simp only [List.getElem_cons_zero]
            refine wpAnyH_take (i := 11) (oi := _) (v := ?_) rfl (by kernel_rfl) (by kernel_rfl) (by kernel_rfl) (fun _ _ _ h => h) (Or.inl ⟨by rfl, ?_⟩) hH0.out ?_
            rotate_left
            · intro w' hSw
              clear hSw
              first | (go_simp; done) | (go_simp; with_reducible rfl)
            try simp only [Act.put]
            try simp only [List.setIfInBounds_toArray]
            try simp only [List.set_cons_succ, List.set_cons_zero]
            try simp only [List.getElem_toArray]
            try simp only [List.getElem_cons_succ]
            try simp only [List.getElem_cons_zero]
            refine wpAnyH_take (i := 12) (oi := _) (v := ?_) rfl (by kernel_rfl) (by kernel_rfl) (by kernel_rfl) (fun _ _ _ h => h) (Or.inl ⟨by rfl, ?_⟩) hH0.out ?_
            rotate_left
            · intro w' hSw
              clear hSw
              first | (go_simp; done) | (go_simp; with_reducible rfl)
            try simp only [Act.put]
            try simp only [List.setIfInBounds_toArray]
            try simp only [List.set_cons_succ, List.set_cons_zero]
            try simp only [List.getElem_toArray]
            try simp only [List.getElem_cons_succ]
            try simp only [List.getElem_cons_zero]
            refine wpAnyH_take (i := 13) (oi := _) (v := .agg (oC (od L (t1 p))).toArray) rfl (by kernel_rfl) (by kernel_rfl) (by kernel_rfl) (fun _ _ _ h => h) (yieldsIf_load_mid (by rfl) 66 (.tmp 30) (by rfl) blk (off + (p) * 4) (by rfl) (oC (od L (t1 p))) _ (fun w' hw' => by have h := SRow.range hw' i10; (first | rw [cj.out] at h | rw [cp.out] at h); exact h) Tryd.underlying66 rfl ord_size) hH0.out ?_
            try simp only [Act.put]
            try simp only [List.setIfInBounds_toArray]
            try simp only [List.set_cons_succ, List.set_cons_zero]
            try simp only [List.getElem_toArray]
            try simp only [List.getElem_cons_succ]
            try simp only [List.getElem_cons_zero]
            refine wpAnyH_ready (rs := [14]) (by kernel_rfl) (by simp) ?_
            refine AllReadyH.cons (o := { dst := some 32, op := .call { callee := .value (.tmp 22), args := #[.tmp 26, .tmp 31], argTypes := _ }, type := _, pos := _, after := _, guard := some (3, true) }) rfl (fun K hK => ?_) AllReadyH.nil
            go_simp
            refine (place_any (od L (t1 i)) (od L (t1 p)) _).mono ?_
            rintro e w1 ⟨rfl, hb1⟩
            have hH1 := hH0.out.below hb1
            clear hb1
            go_wp2_with fail
            refine hK.out _ _ hH1 (fun hHeld => ?_)
            clear hK K hH0 hH1
            replace hHeld := Lib.hid hHeld
            try simp only [Act.put]
            try simp only [List.setIfInBounds_toArray]
            try simp only [List.set_cons_succ, List.set_cons_zero]
            try simp only [List.getElem_toArray]
            try simp only [List.getElem_cons_succ]
            try simp only [List.getElem_cons_zero]
            refine wpAnyH_take (i := 15) (oi := _) (v := ?_) rfl (by kernel_rfl) (by kernel_rfl) (by kernel_rfl) (fun _ _ _ h => h) (Or.inl ⟨by rfl, ?_⟩) hHeld.out ?_
            rotate_left
            · intro w' hSw
              clear hSw
              first | (go_simp; done) | (go_simp; with_reducible rfl)
            try simp only [Act.put]
            try simp only [List.setIfInBounds_toArray]
            try simp only [List.set_cons_succ, List.set_cons_zero]
            try simp only [List.getElem_toArray]
            try simp only [List.getElem_cons_succ]
            try simp only [List.getElem_cons_zero]
            refine wpAnyH_take (i := 16) (oi := _) (v := ?_) rfl (by kernel_rfl) (by kernel_rfl) (by kernel_rfl) (fun _ _ _ h => h) (Or.inl ⟨by rfl, ?_⟩) hHeld.out ?_
            rotate_left
            · intro w' hSw
              clear hSw
              first | (go_simp; done) | (go_simp; with_reducible rfl)
            try simp only [Act.put]
            try simp only [List.setIfInBounds_toArray]
            try simp only [List.set_cons_succ, List.set_cons_zero]
            try simp only [List.getElem_toArray]
            try simp only [List.getElem_cons_succ]
            try simp only [List.getElem_cons_zero]
            refine wpAnyH_done (by kernel_rfl) ?_ _
            refine NoPanic.normal ?_
            have hd := hHeld.out.drewN 1
            have hsw := hd.swap i9 i10
            have hstep := Srt.down_step t1 i (p + 1) (by omega) hji
            rw [Nat.add_sub_cancel] at hstep
            rw [hstep] at hsw
            clear hstep
            have ra := Lib.hid (hd.range i10)
            have rb := Lib.hid (hd.range i9)
            have tha := Lib.hid (hd.there i9)
            have thb := Lib.hid (hd.there i10)
            rw [cj.out] at hsw rb
            rw [cp.out] at hsw ra
            replace ra := Lib.hid ra.out
            replace hsw := Lib.hid hsw
            clear hHeld hd hr
            go_wp2_with fail
            go_upto_region 6 with fail
            refine wp_region_noPanic ?_
            refine wp_region_held_drew (S := fun _ => True) (by kernel_rfl) trivial (fun _ => ?_)
            refine wpAnyH_take (i := 0) (oi := _) (v := ?_) rfl (by kernel_rfl) (by kernel_rfl) (by kernel_rfl) (fun _ _ _ h => h) (Or.inl ⟨by rfl, ?_⟩) trivial ?_
            rotate_left
            · intro w' hSw
              clear hSw
              first | (go_simp; done) | (go_simp; with_reducible rfl)
            try simp only [Act.put]
            try simp only [List.setIfInBounds_toArray]
            try simp only [List.set_cons_succ, List.set_cons_zero]
            try simp only [List.getElem_toArray]
            try simp only [List.getElem_cons_succ]
            try simp only [List.getElem_cons_zero]
            refine wpAnyH_take (i := 1) (oi := _) (v := ?_) rfl (by kernel_rfl) (by kernel_rfl) (by kernel_rfl) (fun _ _ _ h => h) (Or.inl ⟨by rfl, ?_⟩) trivial ?_
            rotate_left
            · intro w' hSw
              clear hSw
              first | (go_simp; done) | (go_simp; with_reducible rfl)
            try simp only [Act.put]
            try simp only [List.setIfInBounds_toArray]
            try simp only [List.set_cons_succ, List.set_cons_zero]
            try simp only [List.getElem_toArray]
            try simp only [List.getElem_cons_succ]
            try simp only [List.getElem_cons_zero]
            refine wpAnyH_take (i := 2) (oi := _) (v := ?_) rfl (by kernel_rfl) (by kernel_rfl) (by kernel_rfl) (fun _ _ _ h => h) (Or.inl ⟨by rfl, ?_⟩) trivial ?_
            rotate_left
            · intro w' hSw
              clear hSw
              first | (go_simp; done) | (go_simp; with_reducible rfl)
            try simp only [Act.put]
            try simp only [List.setIfInBounds_toArray]
            try simp only [List.set_cons_succ, List.set_cons_zero]
            try simp only [List.getElem_toArray]
            try simp only [List.getElem_cons_succ]
            try simp only [List.getElem_cons_zero]
            refine wpAnyH_take (i := 3) (oi := _) (v := ?_) rfl (by kernel_rfl) (by kernel_rfl) (by kernel_rfl) (fun _ _ _ h => h) (Or.inl ⟨by rfl, ?_⟩) trivial ?_
            rotate_left
            · intro w' hSw
              clear hSw
              first | (go_simp; done) | (go_simp; with_reducible rfl)
            try simp only [Act.put]
            try simp only [List.setIfInBounds_toArray]
            try simp only [List.set_cons_succ, List.set_cons_zero]
            try simp only [List.getElem_toArray]
            try simp only [List.getElem_cons_succ]
            try simp only [List.getElem_cons_zero]
            refine wpAnyH_take (i := 4) (oi := _) (v := ?_) rfl (by kernel_rfl) (by kernel_rfl) (by kernel_rfl) (fun _ _ _ h => h) (Or.inl ⟨by rfl, ?_⟩) trivial ?_
            rotate_left
            · intro w' hSw
              clear hSw
              first | (go_simp; done) | (go_simp; with_reducible rfl)
            try simp only [Act.put]
            try simp only [List.setIfInBounds_toArray]
            try simp only [List.set_cons_succ, List.set_cons_zero]
            try simp only [List.getElem_toArray]
            try simp only [List.getElem_cons_succ]
            try simp only [List.getElem_cons_zero]
            refine wpAnyH_take (i := 5) (oi := _) (v := ?_) rfl (by kernel_rfl) (by kernel_rfl) (by kernel_rfl) (fun _ _ _ h => h) (Or.inl ⟨by rfl, ?_⟩) trivial ?_
            rotate_left
            · intro w' hSw
              clear hSw
              first | (go_simp; done) | (go_simp; with_reducible rfl)
            try simp only [Act.put]
            try simp only [List.setIfInBounds_toArray]
            try simp only [List.set_cons_succ, List.set_cons_zero]
            try simp only [List.getElem_toArray]
            try simp only [List.getElem_cons_succ]
            try simp only [List.getElem_cons_zero]
            refine wpAnyH_take (i := 6) (oi := _) (v := ?_) rfl (by kernel_rfl) (by kernel_rfl) (by kernel_rfl) (fun _ _ _ h => h) (Or.inl ⟨by rfl, ?_⟩) trivial ?_
            rotate_left
            · intro w' hSw
              clear hSw
              first | (go_simp; done) | (go_simp; with_reducible rfl)
            try simp only [Act.put]
            try simp only [List.setIfInBounds_toArray]
            try simp only [List.set_cons_succ, List.set_cons_zero]
            try simp only [List.getElem_toArray]
            try simp only [List.getElem_cons_succ]
            try simp only [List.getElem_cons_zero]
            refine wpAnyH_take (i := 7) (oi := _) (v := ?_) rfl (by kernel_rfl) (by kernel_rfl) (by kernel_rfl) (fun _ _ _ h => h) (Or.inl ⟨by rfl, ?_⟩) trivial ?_
            rotate_left
            · intro w' hSw
              clear hSw
              first | (go_simp; done) | (go_simp; with_reducible rfl)
            try simp only [Act.put]
            try simp only [List.setIfInBounds_toArray]
            try simp only [List.set_cons_succ, List.set_cons_zero]
            try simp only [List.getElem_toArray]
            try simp only [List.getElem_cons_succ]
            try simp only [List.getElem_cons_zero]
            refine wpAnyH_take (i := 8) (oi := _) (v := ?_) rfl (by kernel_rfl) (by kernel_rfl) (by kernel_rfl) (fun _ _ _ h => h) (Or.inl ⟨by rfl, ?_⟩) trivial ?_
            rotate_left
            · intro w' hSw
              clear hSw
              first | (go_simp; done) | (go_simp; with_reducible rfl)
            try simp only [Act.put]
            try simp only [List.setIfInBounds_toArray]
            try simp only [List.set_cons_succ, List.set_cons_zero]
            try simp only [List.getElem_toArray]
            try simp only [List.getElem_cons_succ]
            try simp only [List.getElem_cons_zero]
            refine wpAnyH_take (i := 10) (oi := _) (v := ?_) rfl (by kernel_rfl) (by kernel_rfl) (by kernel_rfl) (fun _ _ _ h => h) (Or.inl ⟨by rfl, ?_⟩) trivial ?_
            rotate_left
            · intro w' hSw
              clear hSw
              first | (go_simp; done) | (go_simp; with_reducible rfl)
            try simp only [Act.put]
            try simp only [List.setIfInBounds_toArray]
            try simp only [List.set_cons_succ, List.set_cons_zero]
            try simp only [List.getElem_toArray]
            try simp only [List.getElem_cons_succ]
            try simp only [List.getElem_cons_zero]
            refine wpAnyH_take (i := 11) (oi := _) (v := ?_) rfl (by kernel_rfl) (by kernel_rfl) (by kernel_rfl) (fun _ _ _ h => h) (Or.inl ⟨by rfl, ?_⟩) trivial ?_
            rotate_left
            · intro w' hSw
              clear hSw
              first | (go_simp; done) | (go_simp; with_reducible rfl)
            try simp only [Act.put]
            try simp only [List.setIfInBounds_toArray]
            try simp only [List.set_cons_succ, List.set_cons_zero]
            try simp only [List.getElem_toArray]
            try simp only [List.getElem_cons_succ]
            try simp only [List.getElem_cons_zero]
            refine wpAnyH_take (i := 12) (oi := _) (v := ?_) rfl (by kernel_rfl) (by kernel_rfl) (by kernel_rfl) (fun _ _ _ h => h) (Or.inl ⟨by rfl, ?_⟩) trivial ?_
            rotate_left
            · intro w' hSw
              clear hSw
              first | (go_simp; done) | (go_simp; with_reducible rfl)
            try simp only [Act.put]
            try simp only [List.setIfInBounds_toArray]
            try simp only [List.set_cons_succ, List.set_cons_zero]
            try simp only [List.getElem_toArray]
            try simp only [List.getElem_cons_succ]
            try simp only [List.getElem_cons_zero]
            refine wpAnyH_ready (rs := [9, 13]) (by kernel_rfl) (by simp) ?_
            refine AllReadyH.cons (o := { dst := some 46, op := .load 66 (.tmp 45), type := _, pos := _, after := _, guard := none }) rfl (fun K hK => ?_) (AllReadyH.cons (o := { dst := some 50, op := .load 66 (.tmp 49), type := _, pos := _, after := _, guard := none }) rfl (fun K hK => ?_) AllReadyH.nil)
            · skip
              rw [if_pos (by rfl)]
              refine wp_load_mid 66 (.tmp 45) rfl blk (off + (p) * 4) (by rfl) (oC (od L (t1 p))) _ ra.out Tryd.underlying66 rfl ord_size ?_
              refine hK.out _ _ trivial (fun _ => ?_)
              clear hK K
              try simp only [Act.put]
              try simp only [List.setIfInBounds_toArray]
              try simp only [List.set_cons_succ, List.set_cons_zero]
              try simp only [List.getElem_toArray]
              try simp only [List.getElem_cons_succ]
              try simp only [List.getElem_cons_zero]
              refine wpAnyH_ready (rs := [13]) (by kernel_rfl) (by simp) ?_
              refine AllReadyH.cons (o := { dst := some 50, op := .load 66 (.tmp 49), type := _, pos := _, after := _, guard := none }) rfl (fun K hK => ?_) AllReadyH.nil
              rw [if_pos (by rfl)]
              refine wp_load_mid 66 (.tmp 49) rfl blk (off + (p + 1) * 4) (by rfl) (oC (od L (t1 i))) _ rb.out Tryd.underlying66 rfl ord_size ?_
              refine hK.out _ _ trivial (fun _ => ?_)
              clear hK K
              try simp only [Act.put]
              try simp only [List.setIfInBounds_toArray]
              try simp only [List.set_cons_succ, List.set_cons_zero]
              try simp only [List.getElem_toArray]
              try simp only [List.getElem_cons_succ]
              try simp only [List.getElem_cons_zero]
              refine wpAnyH_take (i := 14) (oi := _) (v := ?_) rfl (by kernel_rfl) (by kernel_rfl) (by kernel_rfl) (fun _ _ _ h => h) (Or.inl ⟨by rfl, ?_⟩) trivial ?_
              rotate_left
              · intro w' hSw
                clear hSw
                first | (go_simp; done) | (go_simp; with_reducible rfl)
              try simp only [Act.put]
              try simp only [List.setIfInBounds_toArray]
              try simp only [List.set_cons_succ, List.set_cons_zero]
              try simp only [List.getElem_toArray]
              try simp only [List.getElem_cons_succ]
              try simp only [List.getElem_cons_zero]
              refine wpAnyH_ready (rs := [15]) (by kernel_rfl) (by simp) ?_
              refine AllReadyH.cons (o := { dst := none, op := .store 66 (.tmp 51) (.tmp 46), type := _, pos := _, after := _, guard := none }) rfl (fun K hK => ?_) AllReadyH.nil
              rw [if_pos (by rfl)]
              refine wp_store_mid 66 (.tmp 51) (.tmp 46) rfl blk (off + (p + 1) * 4) (oC (od L (t1 p))).toArray (by rfl) (by rfl) tha.out ord_size (oC_all _) ?_
              refine hK.out _ _ trivial (fun _ => ?_)
              clear hK K
              try simp only [Act.put]
              try simp only [List.setIfInBounds_toArray]
              try simp only [List.set_cons_succ, List.set_cons_zero]
              try simp only [List.getElem_toArray]
              try simp only [List.getElem_cons_succ]
              try simp only [List.getElem_cons_zero]
              refine wpAnyH_take (i := 16) (oi := _) (v := ?_) rfl (by kernel_rfl) (by kernel_rfl) (by kernel_rfl) (fun _ _ _ h => h) (Or.inl ⟨by rfl, ?_⟩) trivial ?_
              rotate_left
              · intro w' hSw
                clear hSw
                first | (go_simp; done) | (go_simp; with_reducible rfl)
              try simp only [Act.put]
              try simp only [List.setIfInBounds_toArray]
              try simp only [List.set_cons_succ, List.set_cons_zero]
              try simp only [List.getElem_toArray]
              try simp only [List.getElem_cons_succ]
              try simp only [List.getElem_cons_zero]
              refine wpAnyH_ready (rs := [17]) (by kernel_rfl) (by simp) ?_
              refine AllReadyH.cons (o := { dst := none, op := .store 66 (.tmp 52) (.tmp 50), type := _, pos := _, after := _, guard := none }) rfl (fun K hK => ?_) AllReadyH.nil
              rw [if_pos (by rfl)]
              refine wp_store_mid 66 (.tmp 52) (.tmp 50) rfl blk (off + (p) * 4) (oC (od L (t1 i))).toArray (by rfl) (by rfl) (World.there_setCells thb.out _ _ _) ord_size (oC_all _) ?_
              refine hK.out _ _ trivial (fun _ => ?_)
              clear hK K
              try simp only [Act.put]
              try simp only [List.setIfInBounds_toArray]
              try simp only [List.set_cons_succ, List.set_cons_zero]
              try simp only [List.getElem_toArray]
              try simp only [List.getElem_cons_succ]
              try simp only [List.getElem_cons_zero]
              refine wpAnyH_done (by kernel_rfl) ?_ _
              refine NoPanic.normal ?_
              have hs2 : SRow w0 ((w1.drew.setCells blk (off + (p + 1) * 4) (oC (od L (t1 p)))).setCells blk (off + p * 4) (oC (od L (t1 i)))) blk off L (Srt.down t1 i p) := hsw.out
              replace hs2 := Lib.hid hs2
              clear ra rb tha thb hsw
              go_wp2_with fail
              go_roundw
              case rel => exact ⟨p, by first | rfl | go_num | (congr 1; omega), by omega, by omega, hs2, hlo2⟩
              case measure => simp [intOf]; (try omega)
            · skip
              rw [if_pos (by rfl)]
              refine wp_load_mid 66 (.tmp 49) rfl blk (off + (p + 1) * 4) (by rfl) (oC (od L (t1 i))) _ rb.out Tryd.underlying66 rfl ord_size ?_
              refine hK.out _ _ trivial (fun _ => ?_)
              clear hK K
              try simp only [Act.put]
              try simp only [List.setIfInBounds_toArray]
              try simp only [List.set_cons_succ, List.set_cons_zero]
              try simp only [List.getElem_toArray]
              try simp only [List.getElem_cons_succ]
              try simp only [List.getElem_cons_zero]
              refine wpAnyH_ready (rs := [9]) (by kernel_rfl) (by simp) ?_
              refine AllReadyH.cons (o := { dst := some 46, op := .load 66 (.tmp 45), type := _, pos := _, after := _, guard := none }) rfl (fun K hK => ?_) AllReadyH.nil
              rw [if_pos (by rfl)]
              refine wp_load_mid 66 (.tmp 45) rfl blk (off + (p) * 4) (by rfl) (oC (od L (t1 p))) _ ra.out Tryd.underlying66 rfl ord_size ?_
              refine hK.out _ _ trivial (fun _ => ?_)
              clear hK K
              try simp only [Act.put]
              try simp only [List.setIfInBounds_toArray]
              try simp only [List.set_cons_succ, List.set_cons_zero]
              try simp only [List.getElem_toArray]
              try simp only [List.getElem_cons_succ]
              try simp only [List.getElem_cons_zero]
              refine wpAnyH_take (i := 14) (oi := _) (v := ?_) rfl (by kernel_rfl) (by kernel_rfl) (by kernel_rfl) (fun _ _ _ h => h) (Or.inl ⟨by rfl, ?_⟩) trivial ?_
              rotate_left
              · intro w' hSw
                clear hSw
                first | (go_simp; done) | (go_simp; with_reducible rfl)
              try simp only [Act.put]
              try simp only [List.setIfInBounds_toArray]
              try simp only [List.set_cons_succ, List.set_cons_zero]
              try simp only [List.getElem_toArray]
              try simp only [List.getElem_cons_succ]
              try simp only [List.getElem_cons_zero]
              refine wpAnyH_ready (rs := [15]) (by kernel_rfl) (by simp) ?_
              refine AllReadyH.cons (o := { dst := none, op := .store 66 (.tmp 51) (.tmp 46), type := _, pos := _, after := _, guard := none }) rfl (fun K hK => ?_) AllReadyH.nil
              rw [if_pos (by rfl)]
              refine wp_store_mid 66 (.tmp 51) (.tmp 46) rfl blk (off + (p + 1) * 4) (oC (od L (t1 p))).toArray (by rfl) (by rfl) tha.out ord_size (oC_all _) ?_
              refine hK.out _ _ trivial (fun _ => ?_)
              clear hK K
              try simp only [Act.put]
              try simp only [List.setIfInBounds_toArray]
              try simp only [List.set_cons_succ, List.set_cons_zero]
              try simp only [List.getElem_toArray]
              try simp only [List.getElem_cons_succ]
              try simp only [List.getElem_cons_zero]
              refine wpAnyH_take (i := 16) (oi := _) (v := ?_) rfl (by kernel_rfl) (by kernel_rfl) (by kernel_rfl) (fun _ _ _ h => h) (Or.inl ⟨by rfl, ?_⟩) trivial ?_
              rotate_left
              · intro w' hSw
                clear hSw
                first | (go_simp; done) | (go_simp; with_reducible rfl)
              try simp only [Act.put]
              try simp only [List.setIfInBounds_toArray]
              try simp only [List.set_cons_succ, List.set_cons_zero]
              try simp only [List.getElem_toArray]
              try simp only [List.getElem_cons_succ]
              try simp only [List.getElem_cons_zero]
              refine wpAnyH_ready (rs := [17]) (by kernel_rfl) (by simp) ?_
              refine AllReadyH.cons (o := { dst := none, op := .store 66 (.tmp 52) (.tmp 50), type := _, pos := _, after := _, guard := none }) rfl (fun K hK => ?_) AllReadyH.nil
              rw [if_pos (by rfl)]
              refine wp_store_mid 66 (.tmp 52) (.tmp 50) rfl blk (off + (p) * 4) (oC (od L (t1 i))).toArray (by rfl) (by rfl) (World.there_setCells thb.out _ _ _) ord_size (oC_all _) ?_
              refine hK.out _ _ trivial (fun _ => ?_)
              clear hK K
              try simp only [Act.put]
              try simp only [List.setIfInBounds_toArray]
              try simp only [List.set_cons_succ, List.set_cons_zero]
              try simp only [List.getElem_toArray]
              try simp only [List.getElem_cons_succ]
              try simp only [List.getElem_cons_zero]
              refine wpAnyH_done (by kernel_rfl) ?_ _
              refine NoPanic.normal ?_
              have hs2 : SRow w0 ((w1.drew.setCells blk (off + (p + 1) * 4) (oC (od L (t1 p)))).setCells blk (off + p * 4) (oC (od L (t1 i)))) blk off L (Srt.down t1 i p) := hsw.out
              replace hs2 := Lib.hid hs2
              clear ra rb tha thb hsw
              go_wp2_with fail
              go_roundw
              case rel => exact ⟨p, by first | rfl | go_num | (congr 1; omega), by omega, by omega, hs2, hlo2⟩
              case measure => simp [intOf]; (try omega)
          · have hv1 := later_ge hok.out tl tp.1 tp.2 hv
            have hfin := hout.out (fun k h1 h2 => by
              rcases Nat.lt_or_ge k p with h3 | h3
              · have := hU.out k p h1 h3 (by omega); omega
              · obtain rfl : k = p := by omega
                exact hv1)
            replace hfin := Lib.hid hfin
            clear hv1 hlo hout
            replace cj := Lib.hid cj
            replace cp := Lib.hid cp
            replace tp := Lib.hid tp
            go_upto_region 4 with fail
            refine wp_region_noPanic ?_
            refine wp_region_held_drew (S := fun w' => SRow w0 w' blk off L (Srt.down t1 i (p + 1))) (by kernel_rfl) (hr.out.drewN 1) (fun hH0 => ?_)
            replace hH0 := Lib.hid hH0
            refine wpAnyH_take (i := 0) (oi := _) (v := ?_) rfl (by kernel_rfl) (by kernel_rfl) (by kernel_rfl) (fun _ _ _ h => h) (Or.inl ⟨by rfl, ?_⟩) hH0.out ?_
            rotate_left
            · intro w' hSw
              clear hSw
              first | (go_simp; done) | (go_simp; with_reducible rfl)
            try simp only [Act.put]
            try simp only [List.setIfInBounds_toArray]
            try simp only [List.set_cons_succ, List.set_cons_zero]
            try simp only [List.getElem_toArray]
            try simp only [List.getElem_cons_succ]
            try simp only [List.getElem_cons_zero]
            refine wpAnyH_take (i := 1) (oi := _) (v := ?_) rfl (by kernel_rfl) (by kernel_rfl) (by kernel_rfl) (fun _ _ _ h => h) (Or.inl ⟨by rfl, ?_⟩) hH0.out ?_
            rotate_left
            · intro w' hSw
              clear hSw
              first | (go_simp; done) | (go_simp; with_reducible rfl)
            try simp only [Act.put]
            try simp only [List.setIfInBounds_toArray]
            try simp only [List.set_cons_succ, List.set_cons_zero]
            try simp only [List.getElem_toArray]
            try simp only [List.getElem_cons_succ]
            try simp only [List.getElem_cons_zero]
            refine wpAnyH_take (i := 2) (oi := _) (v := ?_) rfl (by kernel_rfl) (by kernel_rfl) (by kernel_rfl) (fun _ _ _ h => h) (Or.inl ⟨by rfl, ?_⟩) hH0.out ?_
            rotate_left
            · intro w' hSw
              clear hSw
              first | (go_simp; done) | (go_simp; with_reducible rfl)
            try simp only [Act.put]
            try simp only [List.setIfInBounds_toArray]
            try simp only [List.set_cons_succ, List.set_cons_zero]
            try simp only [List.getElem_toArray]
            try simp only [List.getElem_cons_succ]
            try simp only [List.getElem_cons_zero]
            refine wpAnyH_take (i := 3) (oi := _) (v := ?_) rfl (by kernel_rfl) (by kernel_rfl) (by kernel_rfl) (fun _ _ _ h => h) (Or.inl ⟨by rfl, ?_⟩) hH0.out ?_
            rotate_left
            · intro w' hSw
              clear hSw
              first | (go_simp; done) | (go_simp; with_reducible rfl)
            try simp only [Act.put]
            try simp only [List.setIfInBounds_toArray]
            try simp only [List.set_cons_succ, List.set_cons_zero]
            try simp only [List.getElem_toArray]
            try simp only [List.getElem_cons_succ]
            try simp only [List.getElem_cons_zero]
            refine wpAnyH_take (i := 4) (oi := _) (v := ?_) rfl (by kernel_rfl) (by kernel_rfl) (by kernel_rfl) (fun _ _ _ h => h) (Or.inl ⟨by rfl, ?_⟩) hH0.out ?_
            rotate_left
            · intro w' hSw
              clear hSw
              first | (go_simp; done) | (go_simp; with_reducible rfl)
            try simp only [Act.put]
            try simp only [List.setIfInBounds_toArray]
            try simp only [List.set_cons_succ, List.set_cons_zero]
            try simp only [List.getElem_toArray]
            try simp only [List.getElem_cons_succ]
            try simp only [List.getElem_cons_zero]
            refine wpAnyH_take (i := 5) (oi := _) (v := ?_) rfl (by kernel_rfl) (by kernel_rfl) (by kernel_rfl) (fun _ _ _ h => h) (Or.inl ⟨by rfl, ?_⟩) hH0.out ?_
            rotate_left
            · intro w' hSw
              clear hSw
              first | (go_simp; done) | (go_simp; with_reducible rfl)
            try simp only [Act.put]
            try simp only [List.setIfInBounds_toArray]
            try simp only [List.set_cons_succ, List.set_cons_zero]
            try simp only [List.getElem_toArray]
            try simp only [List.getElem_cons_succ]
            try simp only [List.getElem_cons_zero]
            refine wpAnyH_take (i := 6) (oi := _) (v := ?_) rfl (by kernel_rfl) (by kernel_rfl) (by kernel_rfl) (fun _ _ _ h => h) (Or.inl ⟨by rfl, ?_⟩) hH0.out ?_
            rotate_left
            · intro w' hSw
              clear hSw
              first | (go_simp; done) | (go_simp; with_reducible rfl)
            try simp only [Act.put]
            try simp only [List.setIfInBounds_toArray]
            try simp only [List.set_cons_succ, List.set_cons_zero]
            try simp only [List.getElem_toArray]
            try simp only [List.getElem_cons_succ]
            try simp only [List.getElem_cons_zero]
            refine wpAnyH_take (i := 7) (oi := _) (v := ?_) rfl (by kernel_rfl) (by kernel_rfl) (by kernel_rfl) (fun _ _ _ h => h) (Or.inl ⟨by rfl, ?_⟩) hH0.out ?_
            rotate_left
            · intro w' hSw
              clear hSw
              first | (go_simp; done) | (go_simp; with_reducible rfl)
            try simp only [Act.put]
            try simp only [List.setIfInBounds_toArray]
            try simp only [List.set_cons_succ, List.set_cons_zero]
            try simp only [List.getElem_toArray]
            try simp only [List.getElem_cons_succ]
            try simp only [List.getElem_cons_zero]
            refine wpAnyH_take (i := 8) (oi := _) (v := .agg (oC (od L (t1 i))).toArray) rfl (by kernel_rfl) (by kernel_rfl) (by kernel_rfl) (fun _ _ _ h => h) (yieldsIf_load_mid (by rfl) 66 (.tmp 25) (by rfl) blk (off + (p + 1) * 4) (by rfl) (oC (od L (t1 i))) _ (fun w' hw' => by have h := SRow.range hw' i9; (first | rw [cj.out] at h | rw [cp.out] at h); exact h) Tryd.underlying66 rfl ord_size) hH0.out ?_
            try simp only [Act.put]
            try simp only [List.setIfInBounds_toArray]
            try simp only [List.set_cons_succ, List.set_cons_zero]
            try simp only [List.getElem_toArray]
            try simp only [List.getElem_cons_succ]
            try simp only [List.getElem_cons_zero]
            refine wpAnyH_take (i := 9) (oi := _) (v := ?_) rfl (by kernel_rfl) (by kernel_rfl) (by kernel_rfl) (fun _ _ _ h => h) (Or.inl ⟨by rfl, ?_⟩) hH0.out ?_
            rotate_left
            · intro w' hSw
              clear hSw
              first | (go_simp; done) | (go_simp; with_reducible rfl)
            try simp only [Act.put]
            try simp only [List.setIfInBounds_toArray]
            try simp only [List.set_cons_succ, List.set_cons_zero]
            try simp only [List.getElem_toArray]
            try simp only [List.getElem_cons_succ]
            try simp only [List.getElem_cons_zero]
            refine wpAnyH_take (i := 10) (oi := _) (v := ?_) rfl (by kernel_rfl) (by kernel_rfl) (by kernel_rfl) (fun _ _ _ h => h) (Or.inl ⟨by rfl, ?_⟩) hH0.out ?_
            rotate_left
            · intro w' hSw
              clear hSw
              first | (go_simp; done) | (go_simp; with_reducible rfl)
            try simp only [Act.put]
            try simp only [List.setIfInBounds_toArray]
            try simp only [List.set_cons_succ, List.set_cons_zero]
            try simp only [List.getElem_toArray]
            try simp only [List.getElem_cons_succ]
            try simp only [List.getElem_cons_zero]
            refine wpAnyH_take (i := 11) (oi := _) (v := ?_) rfl (by kernel_rfl) (by kernel_rfl) (by kernel_rfl) (fun _ _ _ h => h) (Or.inl ⟨by rfl, ?_⟩) hH0.out ?_
            rotate_left
            · intro w' hSw
              clear hSw
              first | (go_simp; done) | (go_simp; with_reducible rfl)
            try simp only [Act.put]
            try simp only [List.setIfInBounds_toArray]
            try simp only [List.set_cons_succ, List.set_cons_zero]
            try simp only [List.getElem_toArray]
            try simp only [List.getElem_cons_succ]
            try simp only [List.getElem_cons_zero]
            refine wpAnyH_take (i := 12) (oi := _) (v := ?_) rfl (by kernel_rfl) (by kernel_rfl) (by kernel_rfl) (fun _ _ _ h => h) (Or.inl ⟨by rfl, ?_⟩) hH0.out ?_
            rotate_left
            · intro w' hSw
              clear hSw
              first | (go_simp; done) | (go_simp; with_reducible rfl)
            try simp only [Act.put]
            try simp only [List.setIfInBounds_toArray]
            try simp only [List.set_cons_succ, List.set_cons_zero]
            try simp only [List.getElem_toArray]
            try simp only [List.getElem_cons_succ]
            try simp only [List.getElem_cons_zero]
            refine wpAnyH_take (i := 13) (oi := _) (v := .agg (oC (od L (t1 p))).toArray) rfl (by kernel_rfl) (by kernel_rfl) (by kernel_rfl) (fun _ _ _ h => h) (yieldsIf_load_mid (by rfl) 66 (.tmp 30) (by rfl) blk (off + (p) * 4) (by rfl) (oC (od L (t1 p))) _ (fun w' hw' => by have h := SRow.range hw' i10; (first | rw [cj.out] at h | rw [cp.out] at h); exact h) Tryd.underlying66 rfl ord_size) hH0.out ?_
            try simp only [Act.put]
            try simp only [List.setIfInBounds_toArray]
            try simp only [List.set_cons_succ, List.set_cons_zero]
            try simp only [List.getElem_toArray]
            try simp only [List.getElem_cons_succ]
            try simp only [List.getElem_cons_zero]
            refine wpAnyH_ready (rs := [14]) (by kernel_rfl) (by simp) ?_
            refine AllReadyH.cons (o := { dst := some 32, op := .call { callee := .value (.tmp 22), args := #[.tmp 26, .tmp 31], argTypes := _ }, type := _, pos := _, after := _, guard := some (3, true) }) rfl (fun K hK => ?_) AllReadyH.nil
            go_simp
            refine (place_any (od L (t1 i)) (od L (t1 p)) _).mono ?_
            rintro e w1 ⟨rfl, hb1⟩
            have hH1 := hH0.out.below hb1
            clear hb1
            go_wp2_with fail
            refine hK.out _ _ hH1 (fun hHeld => ?_)
            clear hK K hH0 hH1
            replace hHeld := Lib.hid hHeld
            try simp only [Act.put]
            try simp only [List.setIfInBounds_toArray]
            try simp only [List.set_cons_succ, List.set_cons_zero]
            try simp only [List.getElem_toArray]
            try simp only [List.getElem_cons_succ]
            try simp only [List.getElem_cons_zero]
            refine wpAnyH_take (i := 15) (oi := _) (v := ?_) rfl (by kernel_rfl) (by kernel_rfl) (by kernel_rfl) (fun _ _ _ h => h) (Or.inl ⟨by rfl, ?_⟩) hHeld.out ?_
            rotate_left
            · intro w' hSw
              clear hSw
              first | (go_simp; done) | (go_simp; with_reducible rfl)
            try simp only [Act.put]
            try simp only [List.setIfInBounds_toArray]
            try simp only [List.set_cons_succ, List.set_cons_zero]
            try simp only [List.getElem_toArray]
            try simp only [List.getElem_cons_succ]
            try simp only [List.getElem_cons_zero]
            refine wpAnyH_take (i := 16) (oi := _) (v := ?_) rfl (by kernel_rfl) (by kernel_rfl) (by kernel_rfl) (fun _ _ _ h => h) (Or.inl ⟨by rfl, ?_⟩) hHeld.out ?_
            rotate_left
            · intro w' hSw
              clear hSw
              first | (go_simp; done) | (go_simp; with_reducible rfl)
            try simp only [Act.put]
            try simp only [List.setIfInBounds_toArray]
            try simp only [List.set_cons_succ, List.set_cons_zero]
            try simp only [List.getElem_toArray]
            try simp only [List.getElem_cons_succ]
            try simp only [List.getElem_cons_zero]
            refine wpAnyH_done (by kernel_rfl) ?_ _
            refine NoPanic.normal ?_
            go_wp2_with fail
            go_roundw
            case rel => exact ⟨i + 1, _, by go_num, by omega, .inl (by omega), hHeld, hfin.out.1, hfin.out.2⟩
            case measure => simp [intOf]; omega
        · obtain rfl : j = a := by omega
          have hfin := hout (fun k h1 h2 => by omega)
          replace hfin := Lib.hid hfin
          replace hti := Lib.hid hti
          clear hout hlo
          have hjaz : decide ((j : Int) < (j : Int)) = false := by simp
          have hdr : SRow w0 wr.drew blk off L (Srt.down t1 i j) := hr.out.drewN 1
          replace hdr := Lib.hid hdr
          go_wp2_with fail
          go_big_region
          all_goals go_wp2_with fail
          go_roundw
          case rel => exact ⟨i + 1, _, by go_num, by omega, .inl (by omega), hdr, hfin.out.1, hfin.out.2⟩
          case measure => simp [intOf]; omega
    · have hltz : ¬ (i : Int) < (b : Int) := by omega
      have hmin : min i b = b := by omega
      rw [hmin] at hI hU
      clear hmin
      go_wp2_with fail
      go_end0
      exact ⟨rfl, t1, hr.out, hI.out, hU.out⟩
end Go.Proofs.YtkgdflecepockaaDoor
