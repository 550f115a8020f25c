import Derived.Test.YtkgdflecepockaaDoorSymA
import Derived.Test.YtkgdflecepockaaDoorSymR
import Derived.Test.YtkgdflecepockaaDoorRotate
namespace Go.Proofs.YtkgdflecepockaaDoor
set_option linter.unusedVariables false
open Go.RowKit Go.Sort
theorem in_lt {n a b : Nat} {t t' : Nat → Nat} (h : Srt.In n t t' a b) (hb : b ≤ n) (hl : ∀ k, k < n → t k < n) : ∀ k, k < n → t' k < n := fun k hk => by
  by_cases e : a ≤ k ∧ k < b
  · obtain ⟨j, j1, j2, j3⟩ := h.from_ k e.1 e.2
    rw [j3]; exact hl j (by omega)
  · rw [h.out k (by omega)]; exact hl k hk
theorem rot_id (t : Nat → Nat) (s m e : Nat) (h : s = m ∨ m = e) (h1 : s ≤ m) (h2 : m ≤ e) : Srt.rot t s m e = t := by
  funext k
  unfold Srt.rot
  rcases h with h | h
  · subst h
    by_cases e1 : s ≤ k ∧ k < s + (e - s)
    · rw [if_pos e1]; congr 1; omega
    · rw [if_neg e1, if_neg (by omega)]
  · subst h
    rw [if_neg (by omega)]
    by_cases e1 : s + (m - m) ≤ k ∧ k < m
    · rw [if_pos e1]; congr 1; omega
    · rw [if_neg e1]
set_option maxHeartbeats 6400000 in
set_option maxRecDepth 1000000 in
theorem sym_gen (a m b cap blk off : Nat) (L : List Od) (t : Nat → Nat) (w0 w : World) (h : SRow w0 w blk off L t) (hok : ∀ o ∈ L, OdOk o) (hM : Srt.Mrg (orank L) t a m b) (ham : a + 1 < m) (hmb : m + 1 < b) (hb : b ≤ L.length) (hl : L.length ≤ 1000) (htl : ∀ k, k < L.length → t k < L.length)
    (IH : ∀ (a' m' b' : Nat) (t' : Nat → Nat) (w' : World), b' - a' < b - a → SRow w0 w' blk off L t' → Srt.Mrg (orank L) t' a' m' b' → a' < m' → m' < b' → b' ≤ L.length → (∀ k, k < L.length → t' k < L.length) → Calls Tryd.prog 93 #[.slice (some ⟨blk, off, none⟩) L.length cap, .int .i64 (a' : Nat), .int .i64 (m' : Nat), .int .i64 (b' : Nat), .func (.func 76) #[] #[]] w' (SortPost w0 blk off L t' a' b')) :
    Calls Tryd.prog 93 #[.slice (some ⟨blk, off, none⟩) L.length cap, .int .i64 (a : Nat), .int .i64 (m : Nat), .int .i64 (b : Nat), .func (.func 76) #[] #[]] w (SortPost w0 blk off L t a b) := by
  replace h := Lib.hid h
  replace hok := Lib.hid hok
  replace htl := Lib.hid htl
  replace hM := Lib.hid hM
  replace IH := Lib.hid IH
  have q0 : ((m : Int) - (a : Int) == 1) = false := by simp; omega
  have q1 : ((b : Int) - (m : Int) == 1) = false := by simp; omega
  obtain ⟨mid, hmid⟩ : ∃ mid, mid = (a + b) / 2 := ⟨_, rfl⟩
  have em : ((a : Int) + (b : Int)) / 2 = (mid : Int) := by omega
  have hm1 : a + 1 < mid := by omega
  have hm2 : mid + 1 < b := by omega
  obtain ⟨p, hp⟩ : ∃ p : Nat, mid + m = p + 1 := ⟨mid + m - 1, by omega⟩
  have ep : (mid : Int) + (m : Int) - 1 = (p : Int) := by omega
  obtain ⟨s0, hs0⟩ : ∃ s0 : Nat, (mid < m ∧ s0 = mid + m - b) ∨ (m ≤ mid ∧ s0 = a) := by
    rcases Nat.lt_or_ge mid m with h1 | h1
    · exact ⟨_, .inl ⟨h1, rfl⟩⟩
    · exact ⟨_, .inr ⟨h1, rfl⟩⟩
  obtain ⟨r0, hr0⟩ : ∃ r0 : Nat, (mid < m ∧ r0 = mid) ∨ (m ≤ mid ∧ r0 = m) := by
    rcases Nat.lt_or_ge mid m with h1 | h1
    · exact ⟨_, .inl ⟨h1, rfl⟩⟩
    · exact ⟨_, .inr ⟨h1, rfl⟩⟩
  have hsr : a ≤ s0 ∧ s0 ≤ r0 ∧ r0 ≤ m ∧ r0 ≤ mid ∧ p < b + s0 ∧ m + r0 ≤ p + 1 := by omega
  obtain ⟨hs1, hs2, hs3, hs4, hs5, hs6⟩ := hsr
  have hr0' : (if mid < m then mid else m) = r0 := by
    rcases hr0 with ⟨h1, h2⟩ | ⟨h1, h2⟩
    · rw [if_pos h1, h2]
    · rw [if_neg (by omega), h2]
  replace em := Lib.hid em
  replace ep := Lib.hid ep
  have Hmid := Lib.hid hmid
  have Hp := Lib.hid hp
  replace hs0 := Lib.hid hs0
  replace hr0 := Lib.hid hr0
  replace hr0' := Lib.hid hr0'
  clear hmid hp
  go_enter Tryd.func93, Tryd.ntmps93
  go_upto_region 25 with fail
  rw [em.out]
  go_upto_if 140 with fail
  go_cut [20, 21] from 138 to 146 (fun vs vr wx => vs = .int .i64 (s0 : Nat) ∧ vr = .int .i64 (r0 : Nat) ∧ w = wx)
  case first =>
    rcases Nat.lt_or_ge mid m with h1 | h1
    · have z1 : (mid : Int) < (m : Int) := by omega
      have z2 : (mid : Int) + (m : Int) - (b : Int) = (s0 : Int) := by have := hs0.out; have := Hmid.out; omega
      have z3 : (mid : Int) = (r0 : Int) := by have := hr0.out; omega
      replace z2 := Lib.hid z2
      replace z3 := Lib.hid z3
      go_wp2_with fail
      go_meet
      case rel => exact ⟨by rw [← z2.out], by rw [← z3.out], rfl⟩
    · have z1 : ¬ (mid : Int) < (m : Int) := by omega
      have z2 : (a : Int) = (s0 : Int) := by have := hs0.out; have := Hmid.out; omega
      have z3 : (m : Int) = (r0 : Int) := by have := hr0.out; omega
      replace z2 := Lib.hid z2
      replace z3 := Lib.hid z3
      go_wp2_with fail
      go_meet
      case rel => exact ⟨by rw [← z2.out], by rw [← z3.out], rfl⟩
  case rest =>
  obtain ⟨rfl, rfl, rfl⟩ := hcut
  go_upto_region 33 with fail
  rw [ep.out]
  go_wp2_with fail
  go_loopw [20, 21, 23] (fun vs vr _ wx => ∃ s r : Nat, vs = .int .i64 s ∧ vr = .int .i64 r ∧ s0 ≤ s ∧ s ≤ r ∧ r ≤ r0 ∧ Hid (SRow w0 wx blk off L t) ∧ Hid (∀ c, s0 ≤ c → c < s → orank L (t c) < orank L (t (p - c))) ∧ Hid (∀ c, r ≤ c → c < r0 → orank L (t (p - c)) < orank L (t c))) (fun vs vr _ _ => (intOf vr).toNat - (intOf vs).toNat)
  case atStart => exact ⟨s0, r0, rfl, rfl, by omega, by omega, by omega, h, Lib.hid (fun k h1 h2 => by omega), Lib.hid (fun k h1 h2 => by omega)⟩
  case round =>
    obtain ⟨s, r, rfl, rfl, hs, hsr, hr, hrow, hlo, hhi⟩ := hrel
    by_cases hlt : s < r
    · as_aux_lemma =>
      have hltz : (s : Int) < (r : Int) := by omega
      obtain ⟨c, hc⟩ : ∃ c : Nat, (s + r) / 2 = c := ⟨_, rfl⟩
      have ec : ((s : Int) + (r : Int)) / 2 = (c : Int) := by omega
      have hic : s ≤ c ∧ c < r := by omega
      obtain ⟨hic, hcj⟩ := hic
      replace ec := Lib.hid ec
      replace hc := Lib.hid hc
      obtain ⟨d, hd⟩ : ∃ d : Nat, p = c + d := ⟨p - c, by omega⟩
      have hdm : m ≤ d ∧ d < b := by omega
      obtain ⟨hdm, hdb⟩ := hdm
      have e1 : IntKind.i64.wrap ((p : Int) - (c : Int)) = (d : Int) := by
        rw [show (p : Int) - (c : Int) = (d : Int) by omega]; exact IntWalk.i64_in _ (by omega)
      have hd' := Lib.hid hd
      clear hd
      have i9 : d < L.length := by omega
      have i10 : c < L.length := by omega
      have b1 : (d : Int) < (L.length : Int) := by omega
      have b2 : (c : Int) < (L.length : Int) := by omega
      have htag := hM.out.tag c d (by omega) (by omega) hdm hdb
      by_cases hv : plc (od L (t d)) (od L (t c)) < 0
      · have hv1 := (later_lt hok.out (htl.out d i9) (htl.out c i10) htag).1 hv
        have hhi2 : Hid (∀ k, c ≤ k → k < r0 → orank L (t (p - k)) < orank L (t k)) := Lib.hid (fun k k1 k2 => by
          have hdd := hd'.out
          rcases Nat.lt_or_ge c k with h3 | h3
          · have g1 := hM.out.l c k (by omega) h3 (by omega)
            have g2 := hM.out.r (p - k) d (by omega) (by omega) hdb
            omega
          · obtain rfl : k = c := by omega
            rw [show p - k = d by omega]
            exact hv1)
        have hv2 : decide (0 ≤ plc (od L (t d)) (od L (t c))) = false := decide_eq_false (by omega)
        have hvd : decide (plc (od L (t d)) (od L (t c)) < 0) = true := decide_eq_true hv
        clear hv1 hhi
        go_upto_region 35 with fail
        rw [ec.out]
        clear ec hc
        replace htag := Lib.hid htag
        go_upto_region 35 with fail
        refine wp_region_noPanic ?_
        refine wp_region_held_drew (S := fun w' => SRow w0 w' blk off L (t)) (by kernel_rfl) (hrow.out.drewN 1) (fun hH0 => ?_)
        replace hH0 := Lib.hid hH0
        refine wpAnyH_take (i := 0) (oi := _) (v := ?_) rfl (by kernel_rfl) (by kernel_rfl) (by kernel_rfl) (fun _ _ _ h => h) (Or.inl ⟨by rfl, ?_⟩) hH0.out ?_
        rotate_left
        · intro w' hSw
          clear hSw
          first | (go_simp; done) | (go_simp; with_reducible rfl)
        try simp only [Act.put]
        try simp only [List.setIfInBounds_toArray]
        try simp only [List.set_cons_succ, List.set_cons_zero]
        try simp only [List.getElem_toArray]
        try simp only [List.getElem_cons_succ]
        try simp only [List.getElem_cons_zero]
        refine wpAnyH_take (i := 1) (oi := _) (v := ?_) rfl (by kernel_rfl) (by kernel_rfl) (by kernel_rfl) (fun _ _ _ h => h) (Or.inl ⟨by rfl, ?_⟩) hH0.out ?_
        rotate_left
        · intro w' hSw
          clear hSw
          first | (go_simp; done) | (go_simp; with_reducible rfl)
        try simp only [Act.put]
        try simp only [List.setIfInBounds_toArray]
        try simp only [List.set_cons_succ, List.set_cons_zero]
        try simp only [List.getElem_toArray]
        try simp only [List.getElem_cons_succ]
        try simp only [List.getElem_cons_zero]
        refine wpAnyH_take (i := 2) (oi := _) (v := ?_) rfl (by kernel_rfl) (by kernel_rfl) (by kernel_rfl) (fun _ _ _ h => h) (Or.inl ⟨by rfl, ?_⟩) hH0.out ?_
        rotate_left
        · intro w' hSw
          clear hSw
          first | (go_simp; done) | (go_simp; with_reducible rfl)
        try simp only [Act.put]
        try simp only [List.setIfInBounds_toArray]
        try simp only [List.set_cons_succ, List.set_cons_zero]
        try simp only [List.getElem_toArray]
        try simp only [List.getElem_cons_succ]
        try simp only [List.getElem_cons_zero]
        refine wpAnyH_take (i := 3) (oi := _) (v := ?_) rfl (by kernel_rfl) (by kernel_rfl) (by kernel_rfl) (fun _ _ _ h => h) (Or.inl ⟨by rfl, ?_⟩) hH0.out ?_
        rotate_left
        · intro w' hSw
          clear hSw
          first | (go_simp; done) | (go_simp; with_reducible rfl)
        try simp only [Act.put]
        try simp only [List.setIfInBounds_toArray]
        try simp only [List.set_cons_succ, List.set_cons_zero]
        try simp only [List.getElem_toArray]
        try simp only [List.getElem_cons_succ]
        try simp only [List.getElem_cons_zero]
        refine wpAnyH_take (i := 4) (oi := _) (v := ?_) rfl (by kernel_rfl) (by kernel_rfl) (by kernel_rfl) (fun _ _ _ h => h) (Or.inl ⟨by rfl, ?_⟩) hH0.out ?_
        rotate_left
        · intro w' hSw
          clear hSw
          first | (go_simp; done) | (go_simp; with_reducible rfl)
        try simp only [Act.put]
        try simp only [List.setIfInBounds_toArray]
        try simp only [List.set_cons_succ, List.set_cons_zero]
        try simp only [List.getElem_toArray]
        try simp only [List.getElem_cons_succ]
        try simp only [List.getElem_cons_zero]
        refine wpAnyH_take (i := 5) (oi := _) (v := ?_) rfl (by kernel_rfl) (by kernel_rfl) (by kernel_rfl) (fun _ _ _ h => h) (Or.inl ⟨by rfl, ?_⟩) hH0.out ?_
        rotate_left
        · intro w' hSw
          clear hSw
          first | (go_simp; done) | (go_simp; with_reducible rfl)
        try simp only [Act.put]
        try simp only [List.setIfInBounds_toArray]
        try simp only [List.set_cons_succ, List.set_cons_zero]
        try simp only [List.getElem_toArray]
        try simp only [List.getElem_cons_succ]
        try simp only [List.getElem_cons_zero]
        refine wpAnyH_take (i := 6) (oi := _) (v := .agg (oC (od L (t d))).toArray) rfl (by kernel_rfl) (by kernel_rfl) (by kernel_rfl) (fun _ _ _ h => h) (yieldsIf_load_mid (by rfl) 66 (.tmp 163) (by rfl) blk (off + (d) * 4) (by rfl) (oC (od L (t d))) _ (fun w' hw' => by have h := SRow.range hw' i9; exact h) Tryd.underlying66 rfl ord_size) hH0.out ?_
        try simp only [Act.put]
        try simp only [List.setIfInBounds_toArray]
        try simp only [List.set_cons_succ, List.set_cons_zero]
        try simp only [List.getElem_toArray]
        try simp only [List.getElem_cons_succ]
        try simp only [List.getElem_cons_zero]
        refine wpAnyH_take (i := 7) (oi := _) (v := ?_) rfl (by kernel_rfl) (by kernel_rfl) (by kernel_rfl) (fun _ _ _ h => h) (Or.inl ⟨by rfl, ?_⟩) hH0.out ?_
        rotate_left
        · intro w' hSw
          clear hSw
          first | (go_simp; done) | (go_simp; with_reducible rfl)
        try simp only [Act.put]
        try simp only [List.setIfInBounds_toArray]
        try simp only [List.set_cons_succ, List.set_cons_zero]
        try simp only [List.getElem_toArray]
        try simp only [List.getElem_cons_succ]
        try simp only [List.getElem_cons_zero]
        refine wpAnyH_take (i := 8) (oi := _) (v := ?_) rfl (by kernel_rfl) (by kernel_rfl) (by kernel_rfl) (fun _ _ _ h => h) (Or.inl ⟨by rfl, ?_⟩) hH0.out ?_
        rotate_left
        · intro w' hSw
          clear hSw
          first | (go_simp; done) | (go_simp; with_reducible rfl)
        try simp only [Act.put]
        try simp only [List.setIfInBounds_toArray]
        try simp only [List.set_cons_succ, List.set_cons_zero]
        try simp only [List.getElem_toArray]
        try simp only [List.getElem_cons_succ]
        try simp only [List.getElem_cons_zero]
        refine wpAnyH_take (i := 9) (oi := _) (v := ?_) rfl (by kernel_rfl) (by kernel_rfl) (by kernel_rfl) (fun _ _ _ h => h) (Or.inl ⟨by rfl, ?_⟩) hH0.out ?_
        rotate_left
        · intro w' hSw
          clear hSw
          first | (go_simp; done) | (go_simp; with_reducible rfl)
        try simp only [Act.put]
        try simp only [List.setIfInBounds_toArray]
        try simp only [List.set_cons_succ, List.set_cons_zero]
        try simp only [List.getElem_toArray]
        try simp only [List.getElem_cons_succ]
        try simp only [List.getElem_cons_zero]
        refine wpAnyH_take (i := 10) (oi := _) (v := .agg (oC (od L (t c))).toArray) rfl (by kernel_rfl) (by kernel_rfl) (by kernel_rfl) (fun _ _ _ h => h) (yieldsIf_load_mid (by rfl) 66 (.tmp 167) (by rfl) blk (off + (c) * 4) (by rfl) (oC (od L (t c))) _ (fun w' hw' => by have h := SRow.range hw' i10; exact h) Tryd.underlying66 rfl ord_size) hH0.out ?_
        try simp only [Act.put]
        try simp only [List.setIfInBounds_toArray]
        try simp only [List.set_cons_succ, List.set_cons_zero]
        try simp only [List.getElem_toArray]
        try simp only [List.getElem_cons_succ]
        try simp only [List.getElem_cons_zero]
        refine wpAnyH_ready (rs := [11]) (by kernel_rfl) (by simp) ?_
        refine AllReadyH.cons (o := { dst := some 169, op := .call { callee := .value (.tmp 158), args := #[.tmp 164, .tmp 168], argTypes := _ }, type := _, pos := _, after := _, guard := none }) rfl (fun K hK => ?_) AllReadyH.nil
        go_simp
        refine (place_any (od L (t d)) (od L (t c)) _).mono ?_
        rintro e w1 ⟨rfl, hb1⟩
        have hH1 := hH0.out.below hb1
        clear hb1
        go_wp2_with fail
        refine hK.out _ _ hH1 (fun hHeld => ?_)
        clear hK K hH0 hH1
        replace hHeld := Lib.hid hHeld
        try simp only [Act.put]
        try simp only [List.setIfInBounds_toArray]
        try simp only [List.set_cons_succ, List.set_cons_zero]
        try simp only [List.getElem_toArray]
        try simp only [List.getElem_cons_succ]
        try simp only [List.getElem_cons_zero]
        refine wpAnyH_take (i := 12) (oi := _) (v := ?_) rfl (by kernel_rfl) (by kernel_rfl) (by kernel_rfl) (fun _ _ _ h => h) (Or.inl ⟨by rfl, ?_⟩) hHeld.out ?_
        rotate_left
        · intro w' hSw
          clear hSw
          first | (go_simp; done) | (go_simp; with_reducible rfl)
        try simp only [Act.put]
        try simp only [List.setIfInBounds_toArray]
        try simp only [List.set_cons_succ, List.set_cons_zero]
        try simp only [List.getElem_toArray]
        try simp only [List.getElem_cons_succ]
        try simp only [List.getElem_cons_zero]
        refine wpAnyH_take (i := 13) (oi := _) (v := ?_) rfl (by kernel_rfl) (by kernel_rfl) (by kernel_rfl) (fun _ _ _ h => h) (Or.inl ⟨by rfl, ?_⟩) hHeld.out ?_
        rotate_left
        · intro w' hSw
          clear hSw
          first | (go_simp; done) | (go_simp; with_reducible rfl)
        try simp only [Act.put]
        try simp only [List.setIfInBounds_toArray]
        try simp only [List.set_cons_succ, List.set_cons_zero]
        try simp only [List.getElem_toArray]
        try simp only [List.getElem_cons_succ]
        try simp only [List.getElem_cons_zero]
        refine wpAnyH_done (by kernel_rfl) ?_ _
        refine NoPanic.normal ?_
        go_wp2_with fail
        go_roundw
        case rel => exact ⟨s, c, rfl, rfl, by omega, by omega, by omega, hHeld, hlo, hhi2⟩
        case measure => simp [intOf]; omega
      · have hv1 := later_ge hok.out (htl.out d i9) (htl.out c i10) htag hv
        have hlo2 : Hid (∀ k, s0 ≤ k → k < c + 1 → orank L (t k) < orank L (t (p - k))) := Lib.hid (fun k k1 k2 => by
          have hdd := hd'.out
          rcases Nat.lt_or_ge k c with h3 | h3
          · have g1 := hM.out.l k c (by omega) h3 (by omega)
            have g2 := hM.out.r d (p - k) hdm (by omega) (by omega)
            omega
          · obtain rfl : k = c := by omega
            rw [show p - k = d by omega]
            exact hv1)
        have hvd : decide (plc (od L (t d)) (od L (t c)) < 0) = false := decide_eq_false hv
        clear hv1 hlo
        go_upto_region 35 with fail
        rw [ec.out]
        clear ec hc
        replace htag := Lib.hid htag
        go_upto_region 35 with fail
        refine wp_region_noPanic ?_
        refine wp_region_held_drew (S := fun w' => SRow w0 w' blk off L (t)) (by kernel_rfl) (hrow.out.drewN 1) (fun hH0 => ?_)
        replace hH0 := Lib.hid hH0
        refine wpAnyH_take (i := 0) (oi := _) (v := ?_) rfl (by kernel_rfl) (by kernel_rfl) (by kernel_rfl) (fun _ _ _ h => h) (Or.inl ⟨by rfl, ?_⟩) hH0.out ?_
        rotate_left
        · intro w' hSw
          clear hSw
          first | (go_simp; done) | (go_simp; with_reducible rfl)
        try simp only [Act.put]
        try simp only [List.setIfInBounds_toArray]
        try simp only [List.set_cons_succ, List.set_cons_zero]
        try simp only [List.getElem_toArray]
        try simp only [List.getElem_cons_succ]
        try simp only [List.getElem_cons_zero]
        refine wpAnyH_take (i := 1) (oi := _) (v := ?_) rfl (by kernel_rfl) (by kernel_rfl) (by kernel_rfl) (fun _ _ _ h => h) (Or.inl ⟨by rfl, ?_⟩) hH0.out ?_
        rotate_left
        · intro w' hSw
          clear hSw
          first | (go_simp; done) | (go_simp; with_reducible rfl)
        try simp only [Act.put]
        try simp only [List.setIfInBounds_toArray]
        try simp only [List.set_cons_succ, List.set_cons_zero]
        try simp only [List.getElem_toArray]
        try simp only [List.getElem_cons_succ]
        try simp only [List.getElem_cons_zero]
        refine wpAnyH_take (i := 2) (oi := _) (v := ?_) rfl (by kernel_rfl) (by kernel_rfl) (by kernel_rfl) (fun _ _ _ h => h) (Or.inl ⟨by rfl, ?_⟩) hH0.out ?_
        rotate_left
        · intro w' hSw
          clear hSw
          first | (go_simp; done) | (go_simp; with_reducible rfl)
        try simp only [Act.put]
        try simp only [List.setIfInBounds_toArray]
        try simp only [List.set_cons_succ, List.set_cons_zero]
        try simp only [List.getElem_toArray]
        try simp only [List.getElem_cons_succ]
        try simp only [List.getElem_cons_zero]
        refine wpAnyH_take (i := 3) (oi := _) (v := ?_) rfl (by kernel_rfl) (by kernel_rfl) (by kernel_rfl) (fun _ _ _ h => h) (Or.inl ⟨by rfl, ?_⟩) hH0.out ?_
        rotate_left
        · intro w' hSw
          clear hSw
          first | (go_simp; done) | (go_simp; with_reducible rfl)
        try simp only [Act.put]
        try simp only [List.setIfInBounds_toArray]
        try simp only [List.set_cons_succ, List.set_cons_zero]
        try simp only [List.getElem_toArray]
        try simp only [List.getElem_cons_succ]
        try simp only [List.getElem_cons_zero]
        refine wpAnyH_take (i := 4) (oi := _) (v := ?_) rfl (by kernel_rfl) (by kernel_rfl) (by kernel_rfl) (fun _ _ _ h => h) (Or.inl ⟨by rfl, ?_⟩) hH0.out ?_
        rotate_left
        · intro w' hSw
          clear hSw
          first | (go_simp; done) | (go_simp; with_reducible rfl)
        try simp only [Act.put]
        try simp only [List.setIfInBounds_toArray]
        try simp only [List.set_cons_succ, List.set_cons_zero]
        try simp only [List.getElem_toArray]
        try simp only [List.getElem_cons_succ]
        try simp only [List.getElem_cons_zero]
        refine wpAnyH_take (i := 5) (oi := _) (v := ?_) rfl (by kernel_rfl) (by kernel_rfl) (by kernel_rfl) (fun _ _ _ h => h) (Or.inl ⟨by rfl, ?_⟩) hH0.out ?_
        rotate_left
        · intro w' hSw
          clear hSw
          first | (go_simp; done) | (go_simp; with_reducible rfl)
        try simp only [Act.put]
        try simp only [List.setIfInBounds_toArray]
        try simp only [List.set_cons_succ, List.set_cons_zero]
        try simp only [List.getElem_toArray]
        try simp only [List.getElem_cons_succ]
        try simp only [List.getElem_cons_zero]
        refine wpAnyH_take (i := 6) (oi := _) (v := .agg (oC (od L (t d))).toArray) rfl (by kernel_rfl) (by kernel_rfl) (by kernel_rfl) (fun _ _ _ h => h) (yieldsIf_load_mid (by rfl) 66 (.tmp 163) (by rfl) blk (off + (d) * 4) (by rfl) (oC (od L (t d))) _ (fun w' hw' => by have h := SRow.range hw' i9; exact h) Tryd.underlying66 rfl ord_size) hH0.out ?_
        try simp only [Act.put]
        try simp only [List.setIfInBounds_toArray]
        try simp only [List.set_cons_succ, List.set_cons_zero]
        try simp only [List.getElem_toArray]
        try simp only [List.getElem_cons_succ]
        try simp only [List.getElem_cons_zero]
        refine wpAnyH_take (i := 7) (oi := _) (v := ?_) rfl (by kernel_rfl) (by kernel_rfl) (by kernel_rfl) (fun _ _ _ h => h) (Or.inl ⟨by rfl, ?_⟩) hH0.out ?_
        rotate_left
        · intro w' hSw
          clear hSw
          first | (go_simp; done) | (go_simp; with_reducible rfl)
        try simp only [Act.put]
        try simp only [List.setIfInBounds_toArray]
        try simp only [List.set_cons_succ, List.set_cons_zero]
        try simp only [List.getElem_toArray]
        try simp only [List.getElem_cons_succ]
        try simp only [List.getElem_cons_zero]
        refine wpAnyH_take (i := 8) (oi := _) (v := ?_) rfl (by kernel_rfl) (by kernel_rfl) (by kernel_rfl) (fun _ _ _ h => h) (Or.inl ⟨by rfl, ?_⟩) hH0.out ?_
        rotate_left
        · intro w' hSw
          clear hSw
          first | (go_simp; done) | (go_simp; with_reducible rfl)
        try simp only [Act.put]
        try simp only [List.setIfInBounds_toArray]
        try simp only [List.set_cons_succ, List.set_cons_zero]
        try simp only [List.getElem_toArray]
        try simp only [List.getElem_cons_succ]
        try simp only [List.getElem_cons_zero]
        refine wpAnyH_take (i := 9) (oi := _) (v := ?_) rfl (by kernel_rfl) (by kernel_rfl) (by kernel_rfl) (fun _ _ _ h => h) (Or.inl ⟨by rfl, ?_⟩) hH0.out ?_
        rotate_left
        · intro w' hSw
          clear hSw
          first | (go_simp; done) | (go_simp; with_reducible rfl)
        try simp only [Act.put]
        try simp only [List.setIfInBounds_toArray]
        try simp only [List.set_cons_succ, List.set_cons_zero]
        try simp only [List.getElem_toArray]
        try simp only [List.getElem_cons_succ]
        try simp only [List.getElem_cons_zero]
        refine wpAnyH_take (i := 10) (oi := _) (v := .agg (oC (od L (t c))).toArray) rfl (by kernel_rfl) (by kernel_rfl) (by kernel_rfl) (fun _ _ _ h => h) (yieldsIf_load_mid (by rfl) 66 (.tmp 167) (by rfl) blk (off + (c) * 4) (by rfl) (oC (od L (t c))) _ (fun w' hw' => by have h := SRow.range hw' i10; exact h) Tryd.underlying66 rfl ord_size) hH0.out ?_
        try simp only [Act.put]
        try simp only [List.setIfInBounds_toArray]
        try simp only [List.set_cons_succ, List.set_cons_zero]
        try simp only [List.getElem_toArray]
        try simp only [List.getElem_cons_succ]
        try simp only [List.getElem_cons_zero]
        refine wpAnyH_ready (rs := [11]) (by kernel_rfl) (by simp) ?_
        refine AllReadyH.cons (o := { dst := some 169, op := .call { callee := .value (.tmp 158), args := #[.tmp 164, .tmp 168], argTypes := _ }, type := _, pos := _, after := _, guard := none }) rfl (fun K hK => ?_) AllReadyH.nil
        go_simp
        refine (place_any (od L (t d)) (od L (t c)) _).mono ?_
        rintro e w1 ⟨rfl, hb1⟩
        have hH1 := hH0.out.below hb1
        clear hb1
        go_wp2_with fail
        refine hK.out _ _ hH1 (fun hHeld => ?_)
        clear hK K hH0 hH1
        replace hHeld := Lib.hid hHeld
        try simp only [Act.put]
        try simp only [List.setIfInBounds_toArray]
        try simp only [List.set_cons_succ, List.set_cons_zero]
        try simp only [List.getElem_toArray]
        try simp only [List.getElem_cons_succ]
        try simp only [List.getElem_cons_zero]
        refine wpAnyH_take (i := 12) (oi := _) (v := ?_) rfl (by kernel_rfl) (by kernel_rfl) (by kernel_rfl) (fun _ _ _ h => h) (Or.inl ⟨by rfl, ?_⟩) hHeld.out ?_
        rotate_left
        · intro w' hSw
          clear hSw
          first | (go_simp; done) | (go_simp; with_reducible rfl)
        try simp only [Act.put]
        try simp only [List.setIfInBounds_toArray]
        try simp only [List.set_cons_succ, List.set_cons_zero]
        try simp only [List.getElem_toArray]
        try simp only [List.getElem_cons_succ]
        try simp only [List.getElem_cons_zero]
        refine wpAnyH_take (i := 13) (oi := _) (v := ?_) rfl (by kernel_rfl) (by kernel_rfl) (by kernel_rfl) (fun _ _ _ h => h) (Or.inl ⟨by rfl, ?_⟩) hHeld.out ?_
        rotate_left
        · intro w' hSw
          clear hSw
          first | (go_simp; done) | (go_simp; with_reducible rfl)
        try simp only [Act.put]
        try simp only [List.setIfInBounds_toArray]
        try simp only [List.set_cons_succ, List.set_cons_zero]
        try simp only [List.getElem_toArray]
        try simp only [List.getElem_cons_succ]
        try simp only [List.getElem_cons_zero]
        refine wpAnyH_done (by kernel_rfl) ?_ _
        refine NoPanic.normal ?_
        go_wp2_with fail
        go_roundw
        case rel => exact ⟨c + 1, r, by go_num, rfl, by omega, by omega, by omega, hHeld, hlo2, hhi⟩
        case measure => simp [intOf]; omega
    · have hltz : ¬ (s : Int) < (r : Int) := by omega
      obtain rfl : r = s := by omega
      have hC : Srt.Cut (orank L) t a m b mid r := by
        have hpp := Hp.out
        refine Srt.Cut.of (s0 := s0) hM.out (by omega) (by omega) Hmid.out (by have h1 := hs0.out; have h2 := hr0.out; omega) (fun c c1 c2 => ?_) (fun c c1 c2 => ?_)
        · rw [show mid + m - 1 - c = p - c by omega]; exact hlo.out c c1 c2
        · rw [hr0'.out] at c2
          rw [show mid + m - 1 - c = p - c by omega]; exact hhi.out c c1 c2
      obtain ⟨e, he⟩ : ∃ e : Nat, mid + m - r = e := ⟨_, rfl⟩
      have hc1 := hC.lo
      have hc2 := hC.hi
      have hc3 := hC.e1
      have hc4 := hC.e2
      have hc5 := hC.s_mid
      obtain ⟨hA, hB, hX⟩ := Srt.Cut.rot hM.out hC (by omega)
      have ee : (mid : Int) + (m : Int) - (r : Int) = (e : Int) := by omega
      have em2 : mid + m = r + e := by omega
      rw [he] at hA hB hX hc3 hc4
      replace ee := Lib.hid ee
      replace em2 := Lib.hid em2
      have hIn : Srt.In L.length t (Srt.rot t r m e) a b := Srt.In.rot t hc1 hc2 hc3 hc4 hb
      replace hIn := Lib.hid hIn
      replace hA := Lib.hid hA
      replace hB := Lib.hid hB
      replace hX := Lib.hid hX
      clear hlo hhi hC he hs0 hr0 hr0' hs hsr hr h hM
      go_upto_region 39 with fail
      rw [ee.out]
      go_cut [24, 185] from 178 to 185 (fun ve vc wx => ve = .int .i64 (e : Nat) ∧ vc = .bool (decide (r < m ∧ m < e)) ∧ Hid (SRow w0 wx blk off L (t)))
      case first =>
        by_cases g1 : r < m
        · have z1 : (r : Int) < (m : Int) := by omega
          by_cases g2 : m < e
          · have z2 : (m : Int) < (e : Int) := by omega
            have hbb : decide (r < m ∧ m < e) = true := decide_eq_true ⟨g1, g2⟩
            replace hbb := Lib.hid hbb
            go_wp2_with fail
            go_meet
            case rel => exact ⟨rfl, by rw [hbb.out], hrow⟩
          · have z2 : ¬ (m : Int) < (e : Int) := by omega
            have hbb : decide (r < m ∧ m < e) = false := decide_eq_false (fun h => g2 h.2)
            replace hbb := Lib.hid hbb
            go_wp2_with fail
            go_meet
            case rel => exact ⟨rfl, by rw [hbb.out], hrow⟩
        · have z1 : ¬ (r : Int) < (m : Int) := by omega
          have hbb : decide (r < m ∧ m < e) = false := decide_eq_false (fun h => g1 h.1)
          replace hbb := Lib.hid hbb
          go_wp2_with fail
          go_meet
          case rel => exact ⟨rfl, by rw [hbb.out], hrow⟩
      case rest =>
      obtain ⟨rfl, rfl, hrown⟩ := hcut
      clear hrow
      go_upto_if 185 with fail
      go_cut [24] from 185 to 191 (fun ve wx => ve = .int .i64 (e : Nat) ∧ Hid (SRow w0 wx blk off L (Srt.rot t r m e)))
      case first =>
        as_aux_lemma =>
        cases hbb : decide (r < m ∧ m < e) with
        | false =>
          have g := of_decide_eq_false hbb
          have hid := rot_id t r m e (by omega) hc2 hc3
          replace hid := Lib.hid hid
          replace hbb := Lib.hid hbb
          go_wp2_with fail
          go_meet
          case rel => exact ⟨rfl, by rw [hid.out]; exact hrown⟩
        | true =>
          have g := of_decide_eq_true hbb
          obtain ⟨g1, g2⟩ := g
          replace hbb := Lib.hid hbb
          go_wp2_with fail
          refine (rotate_any r m e cap blk off _ L t w0 _ hrown.out g1 g2 (by omega) hl).mono ?_
          rintro ev w1 ⟨rfl, hr1⟩
          replace hr1 := Lib.hid hr1
          go_wp2_with fail
          go_meet
          case rel => exact ⟨rfl, hr1⟩
      case rest =>
      obtain ⟨rfl, hrow1⟩ := hcut
      clear hrown
      have htl1 := in_lt hIn.out hb htl.out
      replace htl1 := Lib.hid htl1
      generalize Srt.rot t r m e = t0 at *
      go_upto_region 41 with fail
      go_cut [24, 199] from 192 to 199 (fun ve vc wx => ve = .int .i64 (e : Nat) ∧ vc = .bool (decide (a < r ∧ r < mid)) ∧ Hid (SRow w0 wx blk off L (t0)))
      case first =>
        by_cases g1 : a < r
        · have z1 : (a : Int) < (r : Int) := by omega
          by_cases g2 : r < mid
          · have z2 : (r : Int) < (mid : Int) := by omega
            have hbb : decide (a < r ∧ r < mid) = true := decide_eq_true ⟨g1, g2⟩
            replace hbb := Lib.hid hbb
            go_wp2_with fail
            go_meet
            case rel => exact ⟨rfl, by rw [hbb.out], hrow1⟩
          · have z2 : ¬ (r : Int) < (mid : Int) := by omega
            have hbb : decide (a < r ∧ r < mid) = false := decide_eq_false (fun h => g2 h.2)
            replace hbb := Lib.hid hbb
            go_wp2_with fail
            go_meet
            case rel => exact ⟨rfl, by rw [hbb.out], hrow1⟩
        · have z1 : ¬ (a : Int) < (r : Int) := by omega
          have hbb : decide (a < r ∧ r < mid) = false := decide_eq_false (fun h => g1 h.1)
          replace hbb := Lib.hid hbb
          go_wp2_with fail
          go_meet
          case rel => exact ⟨rfl, by rw [hbb.out], hrow1⟩
      case rest =>
      obtain ⟨rfl, rfl, hrow1n⟩ := hcut
      clear hrow1
      go_upto_if 199 with fail
      go_cut [24] from 199 to 205 (fun ve wx => ve = .int .i64 (e : Nat) ∧ ∃ t1, Hid (SRow w0 wx blk off L t1) ∧ Hid (Srt.In L.length t0 t1 a mid) ∧ Hid (Srt.Up (orank L) t1 a mid))
      case first =>
        as_aux_lemma =>
        cases hbb : decide (a < r ∧ r < mid) with
        | false =>
          have g := of_decide_eq_false hbb
          have hu : Srt.Up (orank L) t0 a mid := by
            by_cases g1 : r = mid
            · subst g1; exact hA.out.noneR
            · obtain rfl : r = a := by omega
              exact hA.out.noneL
          replace hu := Lib.hid hu
          replace hbb := Lib.hid hbb
          clear g
          go_wp2_with fail
          go_meet
          case rel => exact ⟨rfl, t0, hrow1n, Lib.hid (Srt.In.refl _ _ _ _), hu⟩
        | true =>
          have g := of_decide_eq_true hbb
          obtain ⟨g1, g2⟩ := g
          replace hbb := Lib.hid hbb
          go_wp2_with fail
          refine (IH.out a r mid t0 _ (by omega) hrow1n.out hA.out g1 g2 (by omega) htl1.out).mono ?_
          rintro ev w1 ⟨rfl, t1, x1, x2, x3⟩
          replace x1 := Lib.hid x1
          replace x2 := Lib.hid x2
          replace x3 := Lib.hid x3
          go_wp2_with fail
          go_meet
          case rel => exact ⟨rfl, t1, x1, x2, x3⟩
      case rest =>
      obtain ⟨rfl, t1, hrow2, hIn1, hU1⟩ := hcut
      clear hrow1n
      have htl2 := in_lt hIn1.out (by omega) htl1.out
      replace htl2 := Lib.hid htl2
      have fin : ∀ t2, Srt.In L.length t1 t2 mid b → Srt.Up (orank L) t2 mid b → Srt.In L.length t t2 a b ∧ Srt.Up (orank L) t2 a b := fun t2 y1 y2 => by
        obtain ⟨v1, v2⟩ := Srt.two_up hb (by omega) (by omega) hX.out hIn1.out hU1.out y1 y2
        exact ⟨hIn.out.trans v2, v1⟩
      have hB1 : Srt.Mrg (orank L) t1 mid e b := hB.out.keep (fun k k1 k2 => hIn1.out.out k (.inr k1)) (by have := em2.out; omega) hc4
      replace fin := Lib.hid fin
      replace hB1 := Lib.hid hB1
      go_upto_region 43 with fail
      go_cut [24, 213] from 206 to 213 (fun ve vc wx => ve = .int .i64 (e : Nat) ∧ vc = .bool (decide (mid < e ∧ e < b)) ∧ Hid (SRow w0 wx blk off L (t1)))
      case first =>
        by_cases g1 : mid < e
        · have z1 : (mid : Int) < (e : Int) := by omega
          by_cases g2 : e < b
          · have z2 : (e : Int) < (b : Int) := by omega
            have hbb : decide (mid < e ∧ e < b) = true := decide_eq_true ⟨g1, g2⟩
            replace hbb := Lib.hid hbb
            go_wp2_with fail
            go_meet
            case rel => exact ⟨rfl, by rw [hbb.out], hrow2⟩
          · have z2 : ¬ (e : Int) < (b : Int) := by omega
            have hbb : decide (mid < e ∧ e < b) = false := decide_eq_false (fun h => g2 h.2)
            replace hbb := Lib.hid hbb
            go_wp2_with fail
            go_meet
            case rel => exact ⟨rfl, by rw [hbb.out], hrow2⟩
        · have z1 : ¬ (mid : Int) < (e : Int) := by omega
          have hbb : decide (mid < e ∧ e < b) = false := decide_eq_false (fun h => g1 h.1)
          replace hbb := Lib.hid hbb
          go_wp2_with fail
          go_meet
          case rel => exact ⟨rfl, by rw [hbb.out], hrow2⟩
      case rest =>
      obtain ⟨rfl, rfl, hrow2n⟩ := hcut
      clear hrow2
      cases hbb : decide (mid < e ∧ e < b) with
      | false =>
        as_aux_lemma =>
        have g := of_decide_eq_false hbb
        have hf := fin.out t1 (Srt.In.refl _ _ _ _) (by
          by_cases g1 : e = b
          · subst g1; exact hB1.out.noneR
          · obtain rfl : e = mid := by have := em2.out; omega
            exact hB1.out.noneL)
        replace hf := Lib.hid hf
        replace hbb := Lib.hid hbb
        clear g
        go_wp2_with fail
        go_end0
        exact ⟨rfl, t1, hrow2n.out, hf.out.1, hf.out.2⟩
      | true =>
        as_aux_lemma =>
        have g := of_decide_eq_true hbb
        obtain ⟨g1, g2⟩ := g
        replace hbb := Lib.hid hbb
        go_wp2_with fail
        refine (IH.out mid e b t1 _ (by omega) hrow2n.out hB1.out g1 g2 hb htl2.out).mono ?_
        rintro ev w1 ⟨rfl, t2, x1, x2, x3⟩
        have hf := fin.out t2 x2 x3
        replace x1 := Lib.hid x1
        replace hf := Lib.hid hf
        clear x2 x3
        go_wp2_with fail
        go_end0
        exact ⟨rfl, t2, x1.out, hf.out.1, hf.out.2⟩
theorem sym_any (cap blk off : Nat) (L : List Od) (w0 : World) (hok : ∀ o ∈ L, OdOk o) (hl : L.length ≤ 1000) : ∀ (fuel a m b : Nat) (t : Nat → Nat) (w : World), b - a ≤ fuel → SRow w0 w blk off L t → Srt.Mrg (orank L) t a m b → a < m → m < b → b ≤ L.length → (∀ k, k < L.length → t k < L.length) → Calls Tryd.prog 93 #[.slice (some ⟨blk, off, none⟩) L.length cap, .int .i64 (a : Nat), .int .i64 (m : Nat), .int .i64 (b : Nat), .func (.func 76) #[] #[]] w (SortPost w0 blk off L t a b)
  | 0, a, m, b, t, w, hf, h, hM, ham, hmb, hb, htl => by omega
  | fuel + 1, a, m, b, t, w, hf, h, hM, ham, hmb, hb, htl => by
    by_cases h1 : m = a + 1
    · exact sym_left a m b cap blk off L t w0 w h hok hM ham hmb hb hl htl h1
    · by_cases h2 : b = m + 1
      · exact sym_right a m b cap blk off L t w0 w h hok hM ham hmb hb hl htl h1 h2
      · exact sym_gen a m b cap blk off L t w0 w h hok hM (by omega) (by omega) hb hl htl (fun a' m' b' t' w' hlt h' hM' x1 x2 x3 x4 => sym_any cap blk off L w0 hok hl fuel a' m' b' t' w' (by omega) h' hM' x1 x2 x3 x4)
end Go.Proofs.YtkgdflecepockaaDoor
