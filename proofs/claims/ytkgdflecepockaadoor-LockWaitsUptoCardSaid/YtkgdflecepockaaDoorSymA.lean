import Derived.Test.YtkgdflecepockaaDoorInsort
namespace Go.Proofs.YtkgdflecepockaaDoor
set_option linter.unusedVariables false
open Go.RowKit Go.Sort
theorem up_at (t : Nat → Nat) (i j : Nat) (h : i ≤ j) : Srt.up t i j j = t i := by unfold Srt.up; rw [if_neg (by omega), if_pos rfl]
theorem up_hi (t : Nat → Nat) (i j k : Nat) (h : j < k) : Srt.up t i j k = t k := by unfold Srt.up; rw [if_pos (.inr h)]
set_option maxHeartbeats 3200000 in
set_option maxRecDepth 1000000 in
theorem sym_left (a m b cap blk off : Nat) (L : List Od) (t : Nat → Nat) (w0 w : World) (h : SRow w0 w blk off L t) (hok : ∀ o ∈ L, OdOk o) (hM : Srt.Mrg (orank L) t a m b) (ham : a < m) (hmb : m < b) (hb : b ≤ L.length) (hl : L.length ≤ 1000) (htl : ∀ k, k < L.length → t k < L.length) (h1 : m = a + 1) :
    Calls Tryd.prog 93 #[.slice (some ⟨blk, off, none⟩) L.length cap, .int .i64 a, .int .i64 m, .int .i64 b, .func (.func 76) #[] #[]] w (SortPost w0 blk off L t a b) := by
  replace h := Lib.hid h
  replace hok := Lib.hid hok
  replace htl := Lib.hid htl
  replace hM := Lib.hid hM
  have q1 : ((m : Int) - (a : Int) == 1) = true := by simp; omega
  replace h1 := Lib.hid h1
  go_enter Tryd.func93, Tryd.ntmps93
  go_wp2_with fail
  go_loopw [10, 11, 12] (fun vi vj _ wx => ∃ i j : Nat, vi = .int .i64 i ∧ vj = .int .i64 j ∧ m ≤ i ∧ i ≤ j ∧ j ≤ b ∧ Hid (SRow w0 wx blk off L t) ∧ Hid (∀ k, m ≤ k → k < i → orank L (t k) < orank L (t a)) ∧ Hid (∀ k, j ≤ k → k < b → orank L (t a) < orank L (t k))) (fun vi vj _ _ => (intOf vj).toNat - (intOf vi).toNat)
  case atStart => exact ⟨m, b, rfl, rfl, by omega, by omega, by omega, h, Lib.hid (fun k h1 h2 => by omega), Lib.hid (fun k h1 h2 => by omega)⟩
  case round =>
    obtain ⟨i, j, rfl, rfl, hmi, hij, hjb, hr, hlo, hhi⟩ := hrel
    by_cases hlt : i < j
    · have hltz : (i : Int) < (j : Int) := by omega
      obtain ⟨c, hc⟩ : ∃ c : Nat, (i + j) / 2 = c := ⟨_, rfl⟩
      have ec : ((i : Int) + (j : Int)) / 2 = (c : Int) := by omega
      have hic : i ≤ c ∧ c < j := by omega
      obtain ⟨hic, hcj⟩ := hic
      replace ec := Lib.hid ec
      replace hc := Lib.hid hc
      have i9 : c < L.length := by omega
      have i10 : a < L.length := by omega
      have b1 : (c : Int) < (L.length : Int) := by omega
      have b2 : (a : Int) < (L.length : Int) := by omega
      have htag := hM.out.tag a c (Nat.le_refl _) ham (by omega) (by omega)
      by_cases hv : plc (od L (t c)) (od L (t a)) < 0
      · have hv1 := (later_lt hok.out (htl.out c i9) (htl.out a i10) htag).1 hv
        have hlo2 : Hid (∀ k, m ≤ k → k < c + 1 → orank L (t k) < orank L (t a)) := Lib.hid (fun k k1 k2 => by
          rcases Nat.lt_or_ge k c with h3 | h3
          · have := hM.out.r k c k1 h3 (by omega); omega
          · obtain rfl : k = c := by omega
            exact hv1)
        clear hv1 hlo
        go_upto_region 5 with fail
        rw [ec.out]
        clear ec hc
        replace htag := Lib.hid htag
        go_upto_region 5 with fail
        refine wp_region_noPanic ?_
        refine wp_region_held_drew (S := fun w' => SRow w0 w' blk off L (t)) (by kernel_rfl) (hr.out.drewN 1) (fun hH0 => ?_)
        replace hH0 := Lib.hid hH0
        refine wpAnyH_take (i := 0) (oi := _) (v := ?_) rfl (by kernel_rfl) (by kernel_rfl) (by kernel_rfl) (fun _ _ _ h => h) (Or.inl ⟨by rfl, ?_⟩) hH0.out ?_
        rotate_left
        · intro w' hSw
          clear hSw
          first | (go_simp; done) | (go_simp; with_reducible rfl)
        try simp only [Act.put]
        try simp only [List.setIfInBounds_toArray]
        try simp only [List.set_cons_succ, List.set_cons_zero]
        try simp only [List.getElem_toArray]
        try simp only [List.getElem_cons_succ]
        try simp only [List.getElem_cons_zero]
        refine wpAnyH_take (i := 1) (oi := _) (v := ?_) rfl (by kernel_rfl) (by kernel_rfl) (by kernel_rfl) (fun _ _ _ h => h) (Or.inl ⟨by rfl, ?_⟩) hH0.out ?_
        rotate_left
        · intro w' hSw
          clear hSw
          first | (go_simp; done) | (go_simp; with_reducible rfl)
        try simp only [Act.put]
        try simp only [List.setIfInBounds_toArray]
        try simp only [List.set_cons_succ, List.set_cons_zero]
        try simp only [List.getElem_toArray]
        try simp only [List.getElem_cons_succ]
        try simp only [List.getElem_cons_zero]
        refine wpAnyH_take (i := 2) (oi := _) (v := ?_) rfl (by kernel_rfl) (by kernel_rfl) (by kernel_rfl) (fun _ _ _ h => h) (Or.inl ⟨by rfl, ?_⟩) hH0.out ?_
        rotate_left
        · intro w' hSw
          clear hSw
          first | (go_simp; done) | (go_simp; with_reducible rfl)
        try simp only [Act.put]
        try simp only [List.setIfInBounds_toArray]
        try simp only [List.set_cons_succ, List.set_cons_zero]
        try simp only [List.getElem_toArray]
        try simp only [List.getElem_cons_succ]
        try simp only [List.getElem_cons_zero]
        refine wpAnyH_take (i := 3) (oi := _) (v := ?_) rfl (by kernel_rfl) (by kernel_rfl) (by kernel_rfl) (fun _ _ _ h => h) (Or.inl ⟨by rfl, ?_⟩) hH0.out ?_
        rotate_left
        · intro w' hSw
          clear hSw
          first | (go_simp; done) | (go_simp; with_reducible rfl)
        try simp only [Act.put]
        try simp only [List.setIfInBounds_toArray]
        try simp only [List.set_cons_succ, List.set_cons_zero]
        try simp only [List.getElem_toArray]
        try simp only [List.getElem_cons_succ]
        try simp only [List.getElem_cons_zero]
        refine wpAnyH_take (i := 4) (oi := _) (v := .agg (oC (od L (t c))).toArray) rfl (by kernel_rfl) (by kernel_rfl) (by kernel_rfl) (fun _ _ _ h => h) (yieldsIf_load_mid (by rfl) 66 (.tmp 43) (by rfl) blk (off + (c) * 4) (by rfl) (oC (od L (t c))) _ (fun w' hw' => by have h := SRow.range hw' i9; exact h) Tryd.underlying66 rfl ord_size) hH0.out ?_
        try simp only [Act.put]
        try simp only [List.setIfInBounds_toArray]
        try simp only [List.set_cons_succ, List.set_cons_zero]
        try simp only [List.getElem_toArray]
        try simp only [List.getElem_cons_succ]
        try simp only [List.getElem_cons_zero]
        refine wpAnyH_take (i := 5) (oi := _) (v := ?_) rfl (by kernel_rfl) (by kernel_rfl) (by kernel_rfl) (fun _ _ _ h => h) (Or.inl ⟨by rfl, ?_⟩) hH0.out ?_
        rotate_left
        · intro w' hSw
          clear hSw
          first | (go_simp; done) | (go_simp; with_reducible rfl)
        try simp only [Act.put]
        try simp only [List.setIfInBounds_toArray]
        try simp only [List.set_cons_succ, List.set_cons_zero]
        try simp only [List.getElem_toArray]
        try simp only [List.getElem_cons_succ]
        try simp only [List.getElem_cons_zero]
        refine wpAnyH_take (i := 6) (oi := _) (v := ?_) rfl (by kernel_rfl) (by kernel_rfl) (by kernel_rfl) (fun _ _ _ h => h) (Or.inl ⟨by rfl, ?_⟩) hH0.out ?_
        rotate_left
        · intro w' hSw
          clear hSw
          first | (go_simp; done) | (go_simp; with_reducible rfl)
        try simp only [Act.put]
        try simp only [List.setIfInBounds_toArray]
        try simp only [List.set_cons_succ, List.set_cons_zero]
        try simp only [List.getElem_toArray]
        try simp only [List.getElem_cons_succ]
        try simp only [List.getElem_cons_zero]
        refine wpAnyH_take (i := 7) (oi := _) (v := ?_) rfl (by kernel_rfl) (by kernel_rfl) (by kernel_rfl) (fun _ _ _ h => h) (Or.inl ⟨by rfl, ?_⟩) hH0.out ?_
        rotate_left
        · intro w' hSw
          clear hSw
          first | (go_simp; done) | (go_simp; with_reducible rfl)
        try simp only [Act.put]
        try simp only [List.setIfInBounds_toArray]
        try simp only [List.set_cons_succ, List.set_cons_zero]
        try simp only [List.getElem_toArray]
        try simp only [List.getElem_cons_succ]
        try simp only [List.getElem_cons_zero]
        refine wpAnyH_take (i := 8) (oi := _) (v := .agg (oC (od L (t a))).toArray) rfl (by kernel_rfl) (by kernel_rfl) (by kernel_rfl) (fun _ _ _ h => h) (yieldsIf_load_mid (by rfl) 66 (.tmp 47) (by rfl) blk (off + (a) * 4) (by rfl) (oC (od L (t a))) _ (fun w' hw' => by have h := SRow.range hw' i10; exact h) Tryd.underlying66 rfl ord_size) hH0.out ?_
        try simp only [Act.put]
        try simp only [List.setIfInBounds_toArray]
        try simp only [List.set_cons_succ, List.set_cons_zero]
        try simp only [List.getElem_toArray]
        try simp only [List.getElem_cons_succ]
        try simp only [List.getElem_cons_zero]
        refine wpAnyH_ready (rs := [9]) (by kernel_rfl) (by simp) ?_
        refine AllReadyH.cons (o := { dst := some 49, op := .call { callee := .value (.tmp 40), args := #[.tmp 44, .tmp 48], argTypes := _ }, type := _, pos := _, after := _, guard := none }) rfl (fun K hK => ?_) AllReadyH.nil
        go_simp
        refine (place_any (od L (t c)) (od L (t a)) _).mono ?_
        rintro e w1 ⟨rfl, hb1⟩
        have hH1 := hH0.out.below hb1
        clear hb1
        go_wp2_with fail
        refine hK.out _ _ hH1 (fun hHeld => ?_)
        clear hK K hH0 hH1
        replace hHeld := Lib.hid hHeld
        try simp only [Act.put]
        try simp only [List.setIfInBounds_toArray]
        try simp only [List.set_cons_succ, List.set_cons_zero]
        try simp only [List.getElem_toArray]
        try simp only [List.getElem_cons_succ]
        try simp only [List.getElem_cons_zero]
        refine wpAnyH_take (i := 10) (oi := _) (v := ?_) rfl (by kernel_rfl) (by kernel_rfl) (by kernel_rfl) (fun _ _ _ h => h) (Or.inl ⟨by rfl, ?_⟩) hHeld.out ?_
        rotate_left
        · intro w' hSw
          clear hSw
          first | (go_simp; done) | (go_simp; with_reducible rfl)
        try simp only [Act.put]
        try simp only [List.setIfInBounds_toArray]
        try simp only [List.set_cons_succ, List.set_cons_zero]
        try simp only [List.getElem_toArray]
        try simp only [List.getElem_cons_succ]
        try simp only [List.getElem_cons_zero]
        refine wpAnyH_done (by kernel_rfl) ?_ _
        refine NoPanic.normal ?_
        go_wp2_with fail
        go_roundw
        case rel => exact ⟨c + 1, j, by go_num, rfl, by omega, by omega, by omega, hHeld, hlo2, hhi⟩
        case measure => simp [intOf]; omega
      · have hv1 := later_ge hok.out (htl.out c i9) (htl.out a i10) htag hv
        have hhi2 : Hid (∀ k, c ≤ k → k < b → orank L (t a) < orank L (t k)) := Lib.hid (fun k k1 k2 => by
          rcases Nat.lt_or_ge c k with h3 | h3
          · have := hM.out.r c k (by omega) h3 (by omega); omega
          · obtain rfl : k = c := by omega
            exact hv1)
        clear hv1 hhi
        go_upto_region 5 with fail
        rw [ec.out]
        clear ec hc
        replace htag := Lib.hid htag
        go_upto_region 5 with fail
        refine wp_region_noPanic ?_
        refine wp_region_held_drew (S := fun w' => SRow w0 w' blk off L (t)) (by kernel_rfl) (hr.out.drewN 1) (fun hH0 => ?_)
        replace hH0 := Lib.hid hH0
        refine wpAnyH_take (i := 0) (oi := _) (v := ?_) rfl (by kernel_rfl) (by kernel_rfl) (by kernel_rfl) (fun _ _ _ h => h) (Or.inl ⟨by rfl, ?_⟩) hH0.out ?_
        rotate_left
        · intro w' hSw
          clear hSw
          first | (go_simp; done) | (go_simp; with_reducible rfl)
        try simp only [Act.put]
        try simp only [List.setIfInBounds_toArray]
        try simp only [List.set_cons_succ, List.set_cons_zero]
        try simp only [List.getElem_toArray]
        try simp only [List.getElem_cons_succ]
        try simp only [List.getElem_cons_zero]
        refine wpAnyH_take (i := 1) (oi := _) (v := ?_) rfl (by kernel_rfl) (by kernel_rfl) (by kernel_rfl) (fun _ _ _ h => h) (Or.inl ⟨by rfl, ?_⟩) hH0.out ?_
        rotate_left
        · intro w' hSw
          clear hSw
          first | (go_simp; done) | (go_simp; with_reducible rfl)
        try simp only [Act.put]
        try simp only [List.setIfInBounds_toArray]
        try simp only [List.set_cons_succ, List.set_cons_zero]
        try simp only [List.getElem_toArray]
        try simp only [List.getElem_cons_succ]
        try simp only [List.getElem_cons_zero]
        refine wpAnyH_take (i := 2) (oi := _) (v := ?_) rfl (by kernel_rfl) (by kernel_rfl) (by kernel_rfl) (fun _ _ _ h => h) (Or.inl ⟨by rfl, ?_⟩) hH0.out ?_
        rotate_left
        · intro w' hSw
          clear hSw
          first | (go_simp; done) | (go_simp; with_reducible rfl)
        try simp only [Act.put]
        try simp only [List.setIfInBounds_toArray]
        try simp only [List.set_cons_succ, List.set_cons_zero]
        try simp only [List.getElem_toArray]
        try simp only [List.getElem_cons_succ]
        try simp only [List.getElem_cons_zero]
        refine wpAnyH_take (i := 3) (oi := _) (v := ?_) rfl (by kernel_rfl) (by kernel_rfl) (by kernel_rfl) (fun _ _ _ h => h) (Or.inl ⟨by rfl, ?_⟩) hH0.out ?_
        rotate_left
        · intro w' hSw
          clear hSw
          first | (go_simp; done) | (go_simp; with_reducible rfl)
        try simp only [Act.put]
        try simp only [List.setIfInBounds_toArray]
        try simp only [List.set_cons_succ, List.set_cons_zero]
        try simp only [List.getElem_toArray]
        try simp only [List.getElem_cons_succ]
        try simp only [List.getElem_cons_zero]
        refine wpAnyH_take (i := 4) (oi := _) (v := .agg (oC (od L (t c))).toArray) rfl (by kernel_rfl) (by kernel_rfl) (by kernel_rfl) (fun _ _ _ h => h) (yieldsIf_load_mid (by rfl) 66 (.tmp 43) (by rfl) blk (off + (c) * 4) (by rfl) (oC (od L (t c))) _ (fun w' hw' => by have h := SRow.range hw' i9; exact h) Tryd.underlying66 rfl ord_size) hH0.out ?_
        try simp only [Act.put]
        try simp only [List.setIfInBounds_toArray]
        try simp only [List.set_cons_succ, List.set_cons_zero]
        try simp only [List.getElem_toArray]
        try simp only [List.getElem_cons_succ]
        try simp only [List.getElem_cons_zero]
        refine wpAnyH_take (i := 5) (oi := _) (v := ?_) rfl (by kernel_rfl) (by kernel_rfl) (by kernel_rfl) (fun _ _ _ h => h) (Or.inl ⟨by rfl, ?_⟩) hH0.out ?_
        rotate_left
        · intro w' hSw
          clear hSw
          first | (go_simp; done) | (go_simp; with_reducible rfl)
        try simp only [Act.put]
        try simp only [List.setIfInBounds_toArray]
        try simp only [List.set_cons_succ, List.set_cons_zero]
        try simp only [List.getElem_toArray]
        try simp only [List.getElem_cons_succ]
        try simp only [List.getElem_cons_zero]
        refine wpAnyH_take (i := 6) (oi := _) (v := ?_) rfl (by kernel_rfl) (by kernel_rfl) (by kernel_rfl) (fun _ _ _ h => h) (Or.inl ⟨by rfl, ?_⟩) hH0.out ?_
        rotate_left
        · intro w' hSw
          clear hSw
          first | (go_simp; done) | (go_simp; with_reducible rfl)
        try simp only [Act.put]
        try simp only [List.setIfInBounds_toArray]
        try simp only [List.set_cons_succ, List.set_cons_zero]
        try simp only [List.getElem_toArray]
        try simp only [List.getElem_cons_succ]
        try simp only [List.getElem_cons_zero]
        refine wpAnyH_take (i := 7) (oi := _) (v := ?_) rfl (by kernel_rfl) (by kernel_rfl) (by kernel_rfl) (fun _ _ _ h => h) (Or.inl ⟨by rfl, ?_⟩) hH0.out ?_
        rotate_left
        · intro w' hSw
          clear hSw
          first | (go_simp; done) | (go_simp; with_reducible rfl)
        try simp only [Act.put]
        try simp only [List.setIfInBounds_toArray]
        try simp only [List.set_cons_succ, List.set_cons_zero]
        try simp only [List.getElem_toArray]
        try simp only [List.getElem_cons_succ]
        try simp only [List.getElem_cons_zero]
        refine wpAnyH_take (i := 8) (oi := _) (v := .agg (oC (od L (t a))).toArray) rfl (by kernel_rfl) (by kernel_rfl) (by kernel_rfl) (fun _ _ _ h => h) (yieldsIf_load_mid (by rfl) 66 (.tmp 47) (by rfl) blk (off + (a) * 4) (by rfl) (oC (od L (t a))) _ (fun w' hw' => by have h := SRow.range hw' i10; exact h) Tryd.underlying66 rfl ord_size) hH0.out ?_
        try simp only [Act.put]
        try simp only [List.setIfInBounds_toArray]
        try simp only [List.set_cons_succ, List.set_cons_zero]
        try simp only [List.getElem_toArray]
        try simp only [List.getElem_cons_succ]
        try simp only [List.getElem_cons_zero]
        refine wpAnyH_ready (rs := [9]) (by kernel_rfl) (by simp) ?_
        refine AllReadyH.cons (o := { dst := some 49, op := .call { callee := .value (.tmp 40), args := #[.tmp 44, .tmp 48], argTypes := _ }, type := _, pos := _, after := _, guard := none }) rfl (fun K hK => ?_) AllReadyH.nil
        go_simp
        refine (place_any (od L (t c)) (od L (t a)) _).mono ?_
        rintro e w1 ⟨rfl, hb1⟩
        have hH1 := hH0.out.below hb1
        clear hb1
        go_wp2_with fail
        refine hK.out _ _ hH1 (fun hHeld => ?_)
        clear hK K hH0 hH1
        replace hHeld := Lib.hid hHeld
        try simp only [Act.put]
        try simp only [List.setIfInBounds_toArray]
        try simp only [List.set_cons_succ, List.set_cons_zero]
        try simp only [List.getElem_toArray]
        try simp only [List.getElem_cons_succ]
        try simp only [List.getElem_cons_zero]
        refine wpAnyH_take (i := 10) (oi := _) (v := ?_) rfl (by kernel_rfl) (by kernel_rfl) (by kernel_rfl) (fun _ _ _ h => h) (Or.inl ⟨by rfl, ?_⟩) hHeld.out ?_
        rotate_left
        · intro w' hSw
          clear hSw
          first | (go_simp; done) | (go_simp; with_reducible rfl)
        try simp only [Act.put]
        try simp only [List.setIfInBounds_toArray]
        try simp only [List.set_cons_succ, List.set_cons_zero]
        try simp only [List.getElem_toArray]
        try simp only [List.getElem_cons_succ]
        try simp only [List.getElem_cons_zero]
        refine wpAnyH_done (by kernel_rfl) ?_ _
        refine NoPanic.normal ?_
        go_wp2_with fail
        go_roundw
        case rel => exact ⟨i, c, rfl, rfl, by omega, by omega, by omega, hHeld, hlo, hhi2⟩
        case measure => simp [intOf]; omega
    · have hltz : ¬ (i : Int) < (j : Int) := by omega
      obtain rfl : j = i := by omega
      obtain ⟨d, rfl⟩ : ∃ d, j = d + 1 := ⟨j - 1, by omega⟩
      have hfin : Srt.Up (orank L) (Srt.up t a d) a b := Srt.up_up (fun x y x1 x2 x3 => hM.out.r x y (by have := h1.out; omega) x2 x3) (by omega) (by omega) (fun k k1 k2 => hlo.out k (by have := h1.out; omega) (by omega)) (fun k k1 k2 => hhi.out k (by omega) k2)
      have hfin2 : Srt.In L.length t (Srt.up t a d) a b := Srt.In.up t (Nat.le_refl _) (by omega) (by omega) hb
      replace hfin := Lib.hid hfin
      replace hfin2 := Lib.hid hfin2
      have ed : ((d + 1 : Nat) : Int) - 1 = (d : Int) := by omega
      have had : a ≤ d := by omega
      have hdb : d < b := by omega
      clear hlo hhi hmi hij hjb
      go_wp2_with fail
      go_loopw [13] (fun vk wx => ∃ k : Nat, vk = .int .i64 k ∧ a ≤ k ∧ k ≤ d ∧ Hid (SRow w0 wx blk off L (Srt.up t a k))) (fun vk _ => d - (intOf vk).toNat)
      case atStart => exact ⟨a, rfl, Nat.le_refl _, had, Lib.hid (by rw [Srt.up_self]; exact hr.out)⟩
      case round =>
        clear hr
        obtain ⟨k, rfl, hak, hkd, hr⟩ := hrel
        by_cases hlt2 : k < d
        · have hz : (k : Int) < (d : Int) := by omega
          have i9 : k < L.length := by omega
          have i10 : k + 1 < L.length := by omega
          have b1 : (k : Int) < (L.length : Int) := by omega
          have b2 : (k : Int) + 1 < (L.length : Int) := by omega
          have p0 : (0 : Int) ≤ (k : Int) + 1 := by omega
          have e0 : ((k : Int) + 1).toNat = k + 1 := by omega
          have e1 : IntKind.i64.wrap ((k : Int) + 1) = (k : Int) + 1 := IntWalk.i64_in _ (by omega)
          have ck := up_at t a k hak
          have cn := up_hi t a k (k + 1) (by omega)
          have hd := hr.out.drewN 1
          have hsw := hd.swap i9 i10
          rw [Srt.up_step t a k hak, ck, cn] at hsw
          have ra := Lib.hid (hd.range i10)
          have rb := Lib.hid (hd.range i9)
          have tha := Lib.hid (hd.there i9)
          have thb := Lib.hid (hd.there i10)
          rw [ck] at rb
          rw [cn] at ra
          replace hsw := Lib.hid hsw
          clear hd hr ck cn
          go_wp2_with fail
          go_upto_region 11 with fail
          refine wp_region_noPanic ?_
          refine wp_region_held_drew (S := fun _ => True) (by kernel_rfl) trivial (fun _ => ?_)
          refine wpAnyH_take (i := 0) (oi := _) (v := ?_) rfl (by kernel_rfl) (by kernel_rfl) (by kernel_rfl) (fun _ _ _ h => h) (Or.inl ⟨by rfl, ?_⟩) trivial ?_
          rotate_left
          · intro w' hSw
            clear hSw
            first | (go_simp; done) | (go_simp; with_reducible rfl)
          try simp only [Act.put]
          try simp only [List.setIfInBounds_toArray]
          try simp only [List.set_cons_succ, List.set_cons_zero]
          try simp only [List.getElem_toArray]
          try simp only [List.getElem_cons_succ]
          try simp only [List.getElem_cons_zero]
          refine wpAnyH_take (i := 1) (oi := _) (v := ?_) rfl (by kernel_rfl) (by kernel_rfl) (by kernel_rfl) (fun _ _ _ h => h) (Or.inl ⟨by rfl, ?_⟩) trivial ?_
          rotate_left
          · intro w' hSw
            clear hSw
            first | (go_simp; done) | (go_simp; with_reducible rfl)
          try simp only [Act.put]
          try simp only [List.setIfInBounds_toArray]
          try simp only [List.set_cons_succ, List.set_cons_zero]
          try simp only [List.getElem_toArray]
          try simp only [List.getElem_cons_succ]
          try simp only [List.getElem_cons_zero]
          refine wpAnyH_take (i := 2) (oi := _) (v := ?_) rfl (by kernel_rfl) (by kernel_rfl) (by kernel_rfl) (fun _ _ _ h => h) (Or.inl ⟨by rfl, ?_⟩) trivial ?_
          rotate_left
          · intro w' hSw
            clear hSw
            first | (go_simp; done) | (go_simp; with_reducible rfl)
          try simp only [Act.put]
          try simp only [List.setIfInBounds_toArray]
          try simp only [List.set_cons_succ, List.set_cons_zero]
          try simp only [List.getElem_toArray]
          try simp only [List.getElem_cons_succ]
          try simp only [List.getElem_cons_zero]
          refine wpAnyH_take (i := 3) (oi := _) (v := ?_) rfl (by kernel_rfl) (by kernel_rfl) (by kernel_rfl) (fun _ _ _ h => h) (Or.inl ⟨by rfl, ?_⟩) trivial ?_
          rotate_left
          · intro w' hSw
            clear hSw
            first | (go_simp; done) | (go_simp; with_reducible rfl)
          try simp only [Act.put]
          try simp only [List.setIfInBounds_toArray]
          try simp only [List.set_cons_succ, List.set_cons_zero]
          try simp only [List.getElem_toArray]
          try simp only [List.getElem_cons_succ]
          try simp only [List.getElem_cons_zero]
          refine wpAnyH_take (i := 4) (oi := _) (v := ?_) rfl (by kernel_rfl) (by kernel_rfl) (by kernel_rfl) (fun _ _ _ h => h) (Or.inl ⟨by rfl, ?_⟩) trivial ?_
          rotate_left
          · intro w' hSw
            clear hSw
            first | (go_simp; done) | (go_simp; with_reducible rfl)
          try simp only [Act.put]
          try simp only [List.setIfInBounds_toArray]
          try simp only [List.set_cons_succ, List.set_cons_zero]
          try simp only [List.getElem_toArray]
          try simp only [List.getElem_cons_succ]
          try simp only [List.getElem_cons_zero]
          refine wpAnyH_take (i := 5) (oi := _) (v := ?_) rfl (by kernel_rfl) (by kernel_rfl) (by kernel_rfl) (fun _ _ _ h => h) (Or.inl ⟨by rfl, ?_⟩) trivial ?_
          rotate_left
          · intro w' hSw
            clear hSw
            first | (go_simp; done) | (go_simp; with_reducible rfl)
          try simp only [Act.put]
          try simp only [List.setIfInBounds_toArray]
          try simp only [List.set_cons_succ, List.set_cons_zero]
          try simp only [List.getElem_toArray]
          try simp only [List.getElem_cons_succ]
          try simp only [List.getElem_cons_zero]
          refine wpAnyH_take (i := 6) (oi := _) (v := ?_) rfl (by kernel_rfl) (by kernel_rfl) (by kernel_rfl) (fun _ _ _ h => h) (Or.inl ⟨by rfl, ?_⟩) trivial ?_
          rotate_left
          · intro w' hSw
            clear hSw
            first | (go_simp; done) | (go_simp; with_reducible rfl)
          try simp only [Act.put]
          try simp only [List.setIfInBounds_toArray]
          try simp only [List.set_cons_succ, List.set_cons_zero]
          try simp only [List.getElem_toArray]
          try simp only [List.getElem_cons_succ]
          try simp only [List.getElem_cons_zero]
          refine wpAnyH_take (i := 7) (oi := _) (v := ?_) rfl (by kernel_rfl) (by kernel_rfl) (by kernel_rfl) (fun _ _ _ h => h) (Or.inl ⟨by rfl, ?_⟩) trivial ?_
          rotate_left
          · intro w' hSw
            clear hSw
            first | (go_simp; done) | (go_simp; with_reducible rfl)
          try simp only [Act.put]
          try simp only [List.setIfInBounds_toArray]
          try simp only [List.set_cons_succ, List.set_cons_zero]
          try simp only [List.getElem_toArray]
          try simp only [List.getElem_cons_succ]
          try simp only [List.getElem_cons_zero]
          refine wpAnyH_take (i := 8) (oi := _) (v := ?_) rfl (by kernel_rfl) (by kernel_rfl) (by kernel_rfl) (fun _ _ _ h => h) (Or.inl ⟨by rfl, ?_⟩) trivial ?_
          rotate_left
          · intro w' hSw
            clear hSw
            first | (go_simp; done) | (go_simp; with_reducible rfl)
          try simp only [Act.put]
          try simp only [List.setIfInBounds_toArray]
          try simp only [List.set_cons_succ, List.set_cons_zero]
          try simp only [List.getElem_toArray]
          try simp only [List.getElem_cons_succ]
          try simp only [List.getElem_cons_zero]
          refine wpAnyH_take (i := 10) (oi := _) (v := ?_) rfl (by kernel_rfl) (by kernel_rfl) (by kernel_rfl) (fun _ _ _ h => h) (Or.inl ⟨by rfl, ?_⟩) trivial ?_
          rotate_left
          · intro w' hSw
            clear hSw
            first | (go_simp; done) | (go_simp; with_reducible rfl)
          try simp only [Act.put]
          try simp only [List.setIfInBounds_toArray]
          try simp only [List.set_cons_succ, List.set_cons_zero]
          try simp only [List.getElem_toArray]
          try simp only [List.getElem_cons_succ]
          try simp only [List.getElem_cons_zero]
          refine wpAnyH_take (i := 11) (oi := _) (v := ?_) rfl (by kernel_rfl) (by kernel_rfl) (by kernel_rfl) (fun _ _ _ h => h) (Or.inl ⟨by rfl, ?_⟩) trivial ?_
          rotate_left
          · intro w' hSw
            clear hSw
            first | (go_simp; done) | (go_simp; with_reducible rfl)
          try simp only [Act.put]
          try simp only [List.setIfInBounds_toArray]
          try simp only [List.set_cons_succ, List.set_cons_zero]
          try simp only [List.getElem_toArray]
          try simp only [List.getElem_cons_succ]
          try simp only [List.getElem_cons_zero]
          refine wpAnyH_take (i := 12) (oi := _) (v := ?_) rfl (by kernel_rfl) (by kernel_rfl) (by kernel_rfl) (fun _ _ _ h => h) (Or.inl ⟨by rfl, ?_⟩) trivial ?_
          rotate_left
          · intro w' hSw
            clear hSw
            first | (go_simp; done) | (go_simp; with_reducible rfl)
          try simp only [Act.put]
          try simp only [List.setIfInBounds_toArray]
          try simp only [List.set_cons_succ, List.set_cons_zero]
          try simp only [List.getElem_toArray]
          try simp only [List.getElem_cons_succ]
          try simp only [List.getElem_cons_zero]
          refine wpAnyH_ready (rs := [9, 13]) (by kernel_rfl) (by simp) ?_
          refine AllReadyH.cons (o := { dst := some 70, op := .load 66 (.tmp 69), type := _, pos := _, after := _, guard := none }) rfl (fun K hK => ?_) (AllReadyH.cons (o := { dst := some 74, op := .load 66 (.tmp 73), type := _, pos := _, after := _, guard := none }) rfl (fun K hK => ?_) AllReadyH.nil)
          · skip
            rw [if_pos (by rfl)]
            refine wp_load_mid 66 (.tmp 69) rfl blk (off + (k + 1) * 4) (by rfl) (oC (od L (t (k + 1)))) _ ra.out Tryd.underlying66 rfl ord_size ?_
            refine hK.out _ _ trivial (fun _ => ?_)
            clear hK K
            try simp only [Act.put]
            try simp only [List.setIfInBounds_toArray]
            try simp only [List.set_cons_succ, List.set_cons_zero]
            try simp only [List.getElem_toArray]
            try simp only [List.getElem_cons_succ]
            try simp only [List.getElem_cons_zero]
            refine wpAnyH_ready (rs := [13]) (by kernel_rfl) (by simp) ?_
            refine AllReadyH.cons (o := { dst := some 74, op := .load 66 (.tmp 73), type := _, pos := _, after := _, guard := none }) rfl (fun K hK => ?_) AllReadyH.nil
            rw [if_pos (by rfl)]
            refine wp_load_mid 66 (.tmp 73) rfl blk (off + (k) * 4) (by rfl) (oC (od L (t a))) _ rb.out Tryd.underlying66 rfl ord_size ?_
            refine hK.out _ _ trivial (fun _ => ?_)
            clear hK K
            try simp only [Act.put]
            try simp only [List.setIfInBounds_toArray]
            try simp only [List.set_cons_succ, List.set_cons_zero]
            try simp only [List.getElem_toArray]
            try simp only [List.getElem_cons_succ]
            try simp only [List.getElem_cons_zero]
            refine wpAnyH_take (i := 14) (oi := _) (v := ?_) rfl (by kernel_rfl) (by kernel_rfl) (by kernel_rfl) (fun _ _ _ h => h) (Or.inl ⟨by rfl, ?_⟩) trivial ?_
            rotate_left
            · intro w' hSw
              clear hSw
              first | (go_simp; done) | (go_simp; with_reducible rfl)
            try simp only [Act.put]
            try simp only [List.setIfInBounds_toArray]
            try simp only [List.set_cons_succ, List.set_cons_zero]
            try simp only [List.getElem_toArray]
            try simp only [List.getElem_cons_succ]
            try simp only [List.getElem_cons_zero]
            refine wpAnyH_ready (rs := [15]) (by kernel_rfl) (by simp) ?_
            refine AllReadyH.cons (o := { dst := none, op := .store 66 (.tmp 75) (.tmp 70), type := _, pos := _, after := _, guard := none }) rfl (fun K hK => ?_) AllReadyH.nil
            rw [if_pos (by rfl)]
            refine wp_store_mid 66 (.tmp 75) (.tmp 70) rfl blk (off + (k) * 4) (oC (od L (t (k + 1)))).toArray (by rfl) (by rfl) tha.out ord_size (oC_all _) ?_
            refine hK.out _ _ trivial (fun _ => ?_)
            clear hK K
            try simp only [Act.put]
            try simp only [List.setIfInBounds_toArray]
            try simp only [List.set_cons_succ, List.set_cons_zero]
            try simp only [List.getElem_toArray]
            try simp only [List.getElem_cons_succ]
            try simp only [List.getElem_cons_zero]
            refine wpAnyH_take (i := 16) (oi := _) (v := ?_) rfl (by kernel_rfl) (by kernel_rfl) (by kernel_rfl) (fun _ _ _ h => h) (Or.inl ⟨by rfl, ?_⟩) trivial ?_
            rotate_left
            · intro w' hSw
              clear hSw
              first | (go_simp; done) | (go_simp; with_reducible rfl)
            try simp only [Act.put]
            try simp only [List.setIfInBounds_toArray]
            try simp only [List.set_cons_succ, List.set_cons_zero]
            try simp only [List.getElem_toArray]
            try simp only [List.getElem_cons_succ]
            try simp only [List.getElem_cons_zero]
            refine wpAnyH_ready (rs := [17]) (by kernel_rfl) (by simp) ?_
            refine AllReadyH.cons (o := { dst := none, op := .store 66 (.tmp 76) (.tmp 74), type := _, pos := _, after := _, guard := none }) rfl (fun K hK => ?_) AllReadyH.nil
            rw [if_pos (by rfl)]
            refine wp_store_mid 66 (.tmp 76) (.tmp 74) rfl blk (off + (k + 1) * 4) (oC (od L (t a))).toArray (by rfl) (by rfl) (World.there_setCells thb.out _ _ _) ord_size (oC_all _) ?_
            refine hK.out _ _ trivial (fun _ => ?_)
            clear hK K
            try simp only [Act.put]
            try simp only [List.setIfInBounds_toArray]
            try simp only [List.set_cons_succ, List.set_cons_zero]
            try simp only [List.getElem_toArray]
            try simp only [List.getElem_cons_succ]
            try simp only [List.getElem_cons_zero]
            refine wpAnyH_done (by kernel_rfl) ?_ _
            refine NoPanic.normal ?_
            have hs2 : SRow w0 ((wr.drew.setCells blk (off + k * 4) (oC (od L (t (k + 1))))).setCells blk (off + (k + 1) * 4) (oC (od L (t a)))) blk off L (Srt.up t a (k + 1)) := hsw.out
            replace hs2 := Lib.hid hs2
            clear ra rb tha thb hsw e1
            go_wp2_with fail
            go_roundw
            case rel => exact ⟨k + 1, by go_num, by omega, by omega, hs2⟩
            case measure => simp [intOf]; omega
          · skip
            rw [if_pos (by rfl)]
            refine wp_load_mid 66 (.tmp 73) rfl blk (off + (k) * 4) (by rfl) (oC (od L (t a))) _ rb.out Tryd.underlying66 rfl ord_size ?_
            refine hK.out _ _ trivial (fun _ => ?_)
            clear hK K
            try simp only [Act.put]
            try simp only [List.setIfInBounds_toArray]
            try simp only [List.set_cons_succ, List.set_cons_zero]
            try simp only [List.getElem_toArray]
            try simp only [List.getElem_cons_succ]
            try simp only [List.getElem_cons_zero]
            refine wpAnyH_ready (rs := [9]) (by kernel_rfl) (by simp) ?_
            refine AllReadyH.cons (o := { dst := some 70, op := .load 66 (.tmp 69), type := _, pos := _, after := _, guard := none }) rfl (fun K hK => ?_) AllReadyH.nil
            rw [if_pos (by rfl)]
            refine wp_load_mid 66 (.tmp 69) rfl blk (off + (k + 1) * 4) (by rfl) (oC (od L (t (k + 1)))) _ ra.out Tryd.underlying66 rfl ord_size ?_
            refine hK.out _ _ trivial (fun _ => ?_)
            clear hK K
            try simp only [Act.put]
            try simp only [List.setIfInBounds_toArray]
            try simp only [List.set_cons_succ, List.set_cons_zero]
            try simp only [List.getElem_toArray]
            try simp only [List.getElem_cons_succ]
            try simp only [List.getElem_cons_zero]
            refine wpAnyH_take (i := 14) (oi := _) (v := ?_) rfl (by kernel_rfl) (by kernel_rfl) (by kernel_rfl) (fun _ _ _ h => h) (Or.inl ⟨by rfl, ?_⟩) trivial ?_
            rotate_left
            · intro w' hSw
              clear hSw
              first | (go_simp; done) | (go_simp; with_reducible rfl)
            try simp only [Act.put]
            try simp only [List.setIfInBounds_toArray]
            try simp only [List.set_cons_succ, List.set_cons_zero]
            try simp only [List.getElem_toArray]
            try simp only [List.getElem_cons_succ]
            try simp only [List.getElem_cons_zero]
            refine wpAnyH_ready (rs := [15]) (by kernel_rfl) (by simp) ?_
            refine AllReadyH.cons (o := { dst := none, op := .store 66 (.tmp 75) (.tmp 70), type := _, pos := _, after := _, guard := none }) rfl (fun K hK => ?_) AllReadyH.nil
            rw [if_pos (by rfl)]
            refine wp_store_mid 66 (.tmp 75) (.tmp 70) rfl blk (off + (k) * 4) (oC (od L (t (k + 1)))).toArray (by rfl) (by rfl) tha.out ord_size (oC_all _) ?_
            refine hK.out _ _ trivial (fun _ => ?_)
            clear hK K
            try simp only [Act.put]
            try simp only [List.setIfInBounds_toArray]
            try simp only [List.set_cons_succ, List.set_cons_zero]
            try simp only [List.getElem_toArray]
            try simp only [List.getElem_cons_succ]
            try simp only [List.getElem_cons_zero]
            refine wpAnyH_take (i := 16) (oi := _) (v := ?_) rfl (by kernel_rfl) (by kernel_rfl) (by kernel_rfl) (fun _ _ _ h => h) (Or.inl ⟨by rfl, ?_⟩) trivial ?_
            rotate_left
            · intro w' hSw
              clear hSw
              first | (go_simp; done) | (go_simp; with_reducible rfl)
            try simp only [Act.put]
            try simp only [List.setIfInBounds_toArray]
            try simp only [List.set_cons_succ, List.set_cons_zero]
            try simp only [List.getElem_toArray]
            try simp only [List.getElem_cons_succ]
            try simp only [List.getElem_cons_zero]
            refine wpAnyH_ready (rs := [17]) (by kernel_rfl) (by simp) ?_
            refine AllReadyH.cons (o := { dst := none, op := .store 66 (.tmp 76) (.tmp 74), type := _, pos := _, after := _, guard := none }) rfl (fun K hK => ?_) AllReadyH.nil
            rw [if_pos (by rfl)]
            refine wp_store_mid 66 (.tmp 76) (.tmp 74) rfl blk (off + (k + 1) * 4) (oC (od L (t a))).toArray (by rfl) (by rfl) (World.there_setCells thb.out _ _ _) ord_size (oC_all _) ?_
            refine hK.out _ _ trivial (fun _ => ?_)
            clear hK K
            try simp only [Act.put]
            try simp only [List.setIfInBounds_toArray]
            try simp only [List.set_cons_succ, List.set_cons_zero]
            try simp only [List.getElem_toArray]
            try simp only [List.getElem_cons_succ]
            try simp only [List.getElem_cons_zero]
            refine wpAnyH_done (by kernel_rfl) ?_ _
            refine NoPanic.normal ?_
            have hs2 : SRow w0 ((wr.drew.setCells blk (off + k * 4) (oC (od L (t (k + 1))))).setCells blk (off + (k + 1) * 4) (oC (od L (t a)))) blk off L (Srt.up t a (k + 1)) := hsw.out
            replace hs2 := Lib.hid hs2
            clear ra rb tha thb hsw e1
            go_wp2_with fail
            go_roundw
            case rel => exact ⟨k + 1, by go_num, by omega, by omega, hs2⟩
            case measure => simp [intOf]; omega
        · have hz : ¬ (k : Int) < (d : Int) := by omega
          obtain rfl : k = d := by omega
          go_wp2_with fail
          go_end0
          exact ⟨rfl, _, hr.out, hfin2.out, hfin.out⟩
end Go.Proofs.YtkgdflecepockaaDoor
