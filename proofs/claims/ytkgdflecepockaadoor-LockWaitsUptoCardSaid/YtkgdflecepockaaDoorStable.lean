import Derived.Test.YtkgdflecepockaaDoorSymB
namespace Go.Proofs.YtkgdflecepockaaDoor
set_option linter.unusedVariables false
open Go.RowKit Go.Sort
/-- Sorted by blocks of B; nobody has left its block. -/
structure Sb (L : List Od) (B : Nat) (t : Nat → Nat) : Prop where
  lt : ∀ k, k < L.length → t k < L.length
  blk : ∀ k, k < L.length → t k / B = k / B
  up : ∀ i j, i < j → j < L.length → i / B = j / B → orank L (t i) < orank L (t j)
  inj : Srt.Inj L.length t
/-- Blocks of 20, as far as a; what stands behind is as it was. -/
structure S20 (L : List Od) (a : Nat) (t : Nat → Nat) : Prop where
  lt : ∀ k, k < L.length → t k < L.length
  blk : ∀ k, k < L.length → t k / 20 = k / 20
  up : ∀ i j, i < j → j < a → i / 20 = j / 20 → orank L (t i) < orank L (t j)
  id : ∀ k, a ≤ k → t k = k
  inj : Srt.Inj L.length t
theorem S20.next {L : List Od} {a b : Nat} {t t' : Nat → Nat} (h : S20 L a t) (ha : a % 20 = 0) (hab : a ≤ b) (hb : b ≤ a + 20) (hn : b ≤ L.length) (hI : Srt.In L.length t t' a b) (hU : Srt.Up (orank L) t' a b) : S20 L b t' := by
  refine ⟨in_lt hI hn h.lt, fun k hk => ?_, fun i j h1 h2 h3 => ?_, fun k hk => ?_, hI.inj h.inj⟩
  · by_cases e : a ≤ k ∧ k < b
    · obtain ⟨j, j1, j2, j3⟩ := hI.from_ k e.1 e.2
      rw [j3, h.id j j1]; omega
    · rw [hI.out k (by omega)]; exact h.blk k hk
  · by_cases e : j < a
    · rw [hI.out i (by omega), hI.out j (by omega)]; exact h.up i j h1 e h3
    · exact hU i j (by omega) h1 h2
  · rw [hI.out k (by omega)]; exact h.id k (by omega)
theorem S20.all {L : List Od} {t : Nat → Nat} (h : S20 L L.length t) : Sb L 20 t := ⟨h.lt, h.blk, fun i j h1 h2 h3 => h.up i j h1 h2 h3, h.inj⟩
/-- Blocks of 40 as far as a, of 20 behind. -/
structure S40 (L : List Od) (a : Nat) (t : Nat → Nat) : Prop where
  lt : ∀ k, k < L.length → t k < L.length
  blk : ∀ k, k < L.length → t k / 40 = k / 40 ∧ (a ≤ k → t k / 20 = k / 20)
  up : ∀ i j, i < j → j < L.length → (j < a → i / 40 = j / 40 → orank L (t i) < orank L (t j)) ∧ (a ≤ i → i / 20 = j / 20 → orank L (t i) < orank L (t j))
  inj : Srt.Inj L.length t
theorem S40.first {L : List Od} {t : Nat → Nat} (h : Sb L 20 t) : S40 L 0 t := ⟨h.lt, fun k hk => ⟨by have := h.blk k hk; omega, fun _ => h.blk k hk⟩, fun i j h1 h2 => ⟨fun h3 => by omega, fun _ h4 => h.up i j h1 h2 h4⟩, h.inj⟩
theorem S40.mrg {L : List Od} {a b : Nat} {t : Nat → Nat} (h : S40 L a t) (ha : a % 40 = 0) (h1 : a + 20 ≤ b) (h2 : b ≤ a + 40) (hn : b ≤ L.length) : Srt.Mrg (orank L) t a (a + 20) b :=
  ⟨fun i j x y z => (h.up i j y (by omega)).2 x (by omega), fun i j x y z => (h.up i j y (by omega)).2 (by omega) (by omega), fun i j x y z u => by
    have q1 := (h.blk i (by omega)).2 x
    have q2 := (h.blk j (by omega)).2 (by omega)
    omega⟩
theorem S40.next {L : List Od} {a b : Nat} {t t' : Nat → Nat} (h : S40 L a t) (ha : a % 40 = 0) (hab : a ≤ b) (hb : b ≤ a + 40) (hn : b ≤ L.length) (hI : Srt.In L.length t t' a b) (hU : Srt.Up (orank L) t' a b) : S40 L b t' := by
  refine ⟨in_lt hI hn h.lt, fun k hk => ⟨?_, fun hk2 => ?_⟩, fun i j h1 h2 => ⟨fun h3 h4 => ?_, fun h3 h4 => ?_⟩, hI.inj h.inj⟩
  · by_cases e : a ≤ k ∧ k < b
    · obtain ⟨j, j1, j2, j3⟩ := hI.from_ k e.1 e.2
      have := (h.blk j (by omega)).1
      rw [j3]; omega
    · rw [hI.out k (by omega)]; exact (h.blk k hk).1
  · rw [hI.out k (by omega)]; exact (h.blk k hk).2 (by omega)
  · by_cases e : j < a
    · rw [hI.out i (by omega), hI.out j (by omega)]; exact (h.up i j h1 h2).1 e h4
    · exact hU i j (by omega) h1 h3
  · rw [hI.out i (by omega), hI.out j (by omega)]; exact (h.up i j h1 h2).2 (by omega) h4
theorem S40.all {L : List Od} {t : Nat → Nat} (h : S40 L L.length t) : Sb L 40 t := ⟨h.lt, fun k hk => (h.blk k hk).1, fun i j h1 h2 h3 => (h.up i j h1 h2).1 h2 h3, h.inj⟩
/-- The last block alone. -/
theorem S40.last {L : List Od} {a : Nat} {t : Nat → Nat} (h : S40 L a t) (ha : a % 40 = 0) (hn : L.length ≤ a + 20) : S40 L L.length t :=
  ⟨h.lt, fun k hk => ⟨(h.blk k hk).1, fun e => by omega⟩, fun i j h1 h2 => ⟨fun _ h4 => by
    by_cases e : j < a
    · exact (h.up i j h1 h2).1 e h4
    · exact (h.up i j h1 h2).2 (by omega) (by omega), fun e => by omega⟩, h.inj⟩
theorem Sb.mrg {L : List Od} {t : Nat → Nat} (h : Sb L 40 t) (h40 : 40 ≤ L.length) (hn : L.length ≤ 80) : Srt.Mrg (orank L) t 0 40 L.length :=
  ⟨fun i j x y z => h.up i j y (by omega) (by omega), fun i j x y z => h.up i j y z (by omega), fun i j x y z u => by
    have q1 := h.blk i (by omega)
    have q2 := h.blk j u
    omega⟩
theorem Sb.stab {L : List Od} {t : Nat → Nat} (h : Sb L 80 t) (hn : L.length ≤ 80) : Stab L t := ⟨h.inj, h.lt, fun i j x y z => h.up i j y z (by omega)⟩
set_option maxHeartbeats 3200000 in
set_option maxRecDepth 100000 in
theorem stable_any (cap blk off : Nat) (L : List Od) (w0 w : World) (h : SRow w0 w blk off L id) (hok : ∀ o ∈ L, OdOk o) (hl : L.length ≤ 60) :
    Calls Tryd.prog 86 #[.slice (some ⟨blk, off, none⟩) L.length cap, .int .i64 L.length, .func (.func 76) #[] #[]] w fun e w' => e = .returned (.tuple #[]) ∧ ∃ t, SRow w0 w' blk off L t ∧ Stab L t := by
  replace h := Lib.hid h
  replace hok := Lib.hid hok
  go_enter Tryd.func86, Tryd.ntmps86
  go_wp2_with fail
  go_loopw [7, 8] (fun va vb wx => ∃ a : Nat, ∃ t, va = .int .i64 a ∧ vb = .int .i64 ((a : Int) + 20) ∧ a ≤ L.length ∧ a % 20 = 0 ∧ Hid (SRow w0 wx blk off L t) ∧ Hid (S20 L a t)) (fun va _ _ => 60 - (intOf va).toNat)
  case atStart => exact ⟨0, id, rfl, rfl, Nat.zero_le _, rfl, h, Lib.hid ⟨fun k hk => hk, fun k hk => rfl, fun i j h1 h2 => by omega, fun k _ => rfl, fun i j _ _ e => e⟩⟩
  case round =>
    clear h
    obtain ⟨a, t, rfl, rfl, han, ha, hr, hS⟩ := hrel
    by_cases hlt : a + 20 ≤ L.length
    · as_aux_lemma =>
      have z1 : (a : Int) + 20 ≤ (L.length : Int) := by omega
      have e1 : (a : Int) + 20 = ((a + 20 : Nat) : Int) := by omega
      replace e1 := Lib.hid e1
      have e2 : ((a + 20 : Nat) : Int) + 20 = ((a + 20 : Nat) : Int) + 20 := rfl
      go_wp2_with fail
      rw [e1.out]
      refine (insort_any a (a + 20) cap blk off L t w0 _ hr.out hok.out (by omega) hlt (by omega) hS.out.lt (fun i j x y z => by rw [hS.out.id i x, hS.out.id j (by omega)]; exact y)).mono ?_
      rintro e w1 ⟨rfl, t', x1, x2, x3⟩
      have hS2 := hS.out.next ha (by omega) (Nat.le_refl _) hlt x2 x3
      replace x1 := Lib.hid x1
      replace hS2 := Lib.hid hS2
      clear x2 x3 hS hr e2
      go_wp2_with fail
      go_roundw
      case rel => exact ⟨a + 20, t', rfl, rfl, hlt, by omega, x1, hS2⟩
      case measure => simp [intOf]; omega
    · have z1 : ¬ (a : Int) + 20 ≤ (L.length : Int) := by omega
      go_wp2_with fail
      refine (insort_any a L.length cap blk off L t w0 _ hr.out hok.out han (Nat.le_refl _) (by omega) hS.out.lt (fun i j x y z => by rw [hS.out.id i x, hS.out.id j (by omega)]; exact y)).mono ?_
      rintro e w1 ⟨rfl, t', x1, x2, x3⟩
      have hS2 := (hS.out.next ha han (by omega) (Nat.le_refl _) x2 x3).all
      replace x1 := Lib.hid x1
      replace hS2 := Lib.hid hS2
      clear x2 x3 hS hr han ha hlt z1
      go_wp2_with fail
      go_loopw [6, 7, 8, 9] (fun vB _ _ _ wx => ∃ t, Hid (SRow w0 wx blk off L t) ∧ ((vB = .int .i64 20 ∧ Hid (Sb L 20 t)) ∨ (vB = .int .i64 40 ∧ 20 < L.length ∧ Hid (Sb L 40 t)) ∨ (vB = .int .i64 80 ∧ 40 < L.length ∧ Hid (Sb L 80 t)))) (fun vB _ _ _ _ => 80 - (intOf vB).toNat)
      case atStart => exact ⟨t', x1, .inl ⟨rfl, hS2⟩⟩
      case round =>
        clear x1 hS2
        obtain ⟨t1, hr, hB⟩ := hrel
        rcases hB with ⟨rfl, hS⟩ | ⟨rfl, hn20, hS⟩ | ⟨rfl, hn40, hS⟩
        · by_cases hn : 20 < L.length
          · as_aux_lemma =>
            have z1 : (20 : Int) < (L.length : Int) := by omega
            go_wp2_with fail
            go_loopw [7, 8] (fun va vb wx => ∃ a : Nat, ∃ t, va = .int .i64 a ∧ vb = .int .i64 ((a : Int) + 40) ∧ a ≤ L.length ∧ a % 40 = 0 ∧ Hid (SRow w0 wx blk off L t) ∧ Hid (S40 L a t)) (fun va _ _ => 60 - (intOf va).toNat)
            case atStart => exact ⟨0, t1, rfl, rfl, Nat.zero_le _, rfl, hr, Lib.hid (S40.first hS.out)⟩
            case round =>
              clear hr hS
              obtain ⟨a, t, rfl, rfl, han, ha, hr, hS⟩ := hrel
              by_cases hlt : a + 40 ≤ L.length
              · have y1 : (a : Int) + 40 ≤ (L.length : Int) := by omega
                have e1 : (a : Int) + 40 = ((a + 40 : Nat) : Int) := by omega
                have e3 : (a : Int) + 20 = ((a + 20 : Nat) : Int) := by omega
                replace e1 := Lib.hid e1
                replace e3 := Lib.hid e3
                go_wp2_with fail
                rw [e1.out, e3.out]
                refine (sym_any cap blk off L w0 hok.out (by omega) 1000 a (a + 20) (a + 40) t _ (by omega) hr.out (hS.out.mrg ha (by omega) (Nat.le_refl _) hlt) (by omega) (by omega) hlt hS.out.lt).mono ?_
                rintro e w1 ⟨rfl, t', x1, x2, x3⟩
                have hS2 := hS.out.next ha (by omega) (Nat.le_refl _) hlt x2 x3
                replace x1 := Lib.hid x1
                replace hS2 := Lib.hid hS2
                clear x2 x3 hS hr
                go_wp2_with fail
                go_roundw
                case rel => exact ⟨a + 40, t', rfl, rfl, hlt, by omega, x1, hS2⟩
                case measure => simp [intOf]; omega
              · have y1 : ¬ (a : Int) + 40 ≤ (L.length : Int) := by omega
                by_cases hlt2 : a + 20 < L.length
                · have y2 : (a : Int) + 20 < (L.length : Int) := by omega
                  have e3 : (a : Int) + 20 = ((a + 20 : Nat) : Int) := by omega
                  replace e3 := Lib.hid e3
                  go_wp2_with fail
                  rw [e3.out]
                  refine (sym_any cap blk off L w0 hok.out (by omega) 1000 a (a + 20) L.length t _ (by omega) hr.out (hS.out.mrg ha (by omega) (by omega) (Nat.le_refl _)) (by omega) hlt2 (Nat.le_refl _) hS.out.lt).mono ?_
                  rintro e w1 ⟨rfl, t', x1, x2, x3⟩
                  have hS2 := (hS.out.next ha (by omega) (by omega) (Nat.le_refl _) x2 x3).all
                  replace x1 := Lib.hid x1
                  replace hS2 := Lib.hid hS2
                  clear x2 x3 hS hr
                  go_wp2_with fail
                  go_roundw
                  case rel => exact ⟨t', x1, .inr (.inl ⟨rfl, hn, hS2⟩)⟩
                  case measure => simp [intOf]
                · have y2 : ¬ (a : Int) + 20 < (L.length : Int) := by omega
                  have hS2 := (hS.out.last ha (by omega)).all
                  replace hS2 := Lib.hid hS2
                  clear hS
                  go_wp2_with fail
                  go_roundw
                  case rel => exact ⟨t, hr, .inr (.inl ⟨rfl, hn, hS2⟩)⟩
                  case measure => simp [intOf]
          · have z1 : ¬ (20 : Int) < (L.length : Int) := by omega
            have hSt : Stab L t1 := ⟨hS.out.inj, hS.out.lt, fun i j x y z => hS.out.up i j y z (by omega)⟩
            replace hSt := Lib.hid hSt
            go_wp2_with fail
            go_end0
            exact ⟨rfl, t1, hr.out, hSt.out⟩
        · by_cases hn : 40 < L.length
          · as_aux_lemma =>
            have z1 : (40 : Int) < (L.length : Int) := by omega
            have y1 : ¬ (80 : Int) ≤ (L.length : Int) := by omega
            go_wp2_with fail
            refine wp_loop_rounds 1 ?_
            rw [rounds_succ]
            go_wp2_with fail
            refine (sym_any cap blk off L w0 hok.out (by omega) 1000 0 40 L.length t1 _ (by omega) hr.out (hS.out.mrg (by omega) (by omega)) (by omega) hn (Nat.le_refl _) hS.out.lt).mono ?_
            rintro e w1 ⟨rfl, t', x1, x2, x3⟩
            have hS2 : Sb L 80 t' := ⟨in_lt x2 (Nat.le_refl _) hS.out.lt, fun k hk => by have := in_lt x2 (Nat.le_refl _) hS.out.lt k hk; omega, fun i j h1 h2 h3 => x3 i j (Nat.zero_le _) h1 h2, x2.inj hS.out.inj⟩
            replace x1 := Lib.hid x1
            replace hS2 := Lib.hid hS2
            clear x2 x3 hS hr
            go_wp2_with fail
            go_roundw
            case rel => exact ⟨t', x1, .inr (.inr ⟨rfl, hn, hS2⟩)⟩
            case measure => simp [intOf]
          · have z1 : ¬ (40 : Int) < (L.length : Int) := by omega
            have hSt : Stab L t1 := ⟨hS.out.inj, hS.out.lt, fun i j x y z => hS.out.up i j y z (by omega)⟩
            replace hSt := Lib.hid hSt
            go_wp2_with fail
            go_end0
            exact ⟨rfl, t1, hr.out, hSt.out⟩
        · have z1 : ¬ (80 : Int) < (L.length : Int) := by omega
          have hSt := hS.out.stab (by omega)
          replace hSt := Lib.hid hSt
          go_wp2_with fail
          go_end0
          exact ⟨rfl, t1, hr.out, hSt.out⟩
theorem sortStable_any (cap blk off : Nat) (L : List Od) (w0 w : World) (h : SRow w0 w blk off L id) (hok : ∀ o ∈ L, OdOk o) (hl : L.length ≤ 60) :
    Calls Tryd.prog 75 #[.slice (some ⟨blk, off, none⟩) L.length cap, .func (.func 76) #[] #[]] w fun e w' => e = .returned (.tuple #[]) ∧ ∃ t, SRow w0 w' blk off L t ∧ Stab L t := by
  replace h := Lib.hid h
  replace hok := Lib.hid hok
  go_enter Tryd.func75, Tryd.ntmps75
  go_wp2_with fail
  refine (stable_any cap blk off L w0 _ h.out hok.out hl).mono ?_
  rintro e w1 ⟨rfl, t, x1, x2⟩
  replace x1 := Lib.hid x1
  replace x2 := Lib.hid x2
  go_wp2_with fail
  go_end0
  exact ⟨rfl, t, x1.out, x2.out⟩
end Go.Proofs.YtkgdflecepockaaDoor
