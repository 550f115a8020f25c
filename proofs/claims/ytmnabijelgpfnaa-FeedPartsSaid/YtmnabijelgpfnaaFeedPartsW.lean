import Derived.Test.YtmnabijelgpfnaaFeed
import Derived.OpenShut
import Derived.Lib.SlBytesConst
namespace Go.Proofs.Ytmnabijelgpfnaa
open Go.RowKit
theorem RB.cell {w : World} {B b off : Nat} {A : Option Addr} {xs : List Int} (h : RB w B A xs) (hA : A = some ⟨b, off, none⟩) {i : Nat} (hi : i < xs.length) : w.cell? ⟨b, off + i, none⟩ = some (.int .u8 (atV xs i)) := by
  obtain ⟨b', off', e, _, hc⟩ := h.2 (by omega)
  rw [e] at hA
  injection hA with hA
  injection hA with e1 e2
  subst e1; subst e2
  rw [hc i (by omega), List.getElem?_map, atV_in xs i hi]; rfl
theorem RB.addr {w : World} {B : Nat} {A : Option Addr} {xs : List Int} (h : RB w B A xs) (hn : 0 < xs.length) : ∃ b off, A = some ⟨b, off, none⟩ := by
  obtain ⟨b, off, e, _⟩ := h.2 hn
  exact ⟨b, off, e⟩
theorem ch_cell {w : World} {B b off : Nat} {A : Option Addr} {L : List Ch} (h : RD w B 3 A L.length (L.flatMap chC)) (hA : A = some ⟨b, off, none⟩) {k : Nat} {c : Ch} (hk : L[k]? = some c) :
    w.cell? ⟨b, off + k * 3, none⟩ = some (.int .i64 c.a) ∧ w.cell? ⟨b, off + k * 3 + 1, none⟩ = some (.int .i64 c.o) ∧ w.cell? ⟨b, off + k * 3 + 2, none⟩ = some (.int .i64 c.n) := by
  have hkl : k < L.length := by
    rcases Nat.lt_or_ge k L.length with h | h
    · exact h
    · rw [List.getElem?_eq_none h] at hk; cases hk
  obtain ⟨b', off', e, _, hc⟩ := h.2 (by omega)
  rw [e] at hA
  injection hA with hA
  injection hA with e1 e2
  subst e1; subst e2
  have g := fun j hj => flat_get chC 3 chC_len L k j hj
  have c0 := hc (k * 3 + 0) (by omega)
  have c1 := hc (k * 3 + 1) (by omega)
  have c2 := hc (k * 3 + 2) (by omega)
  rw [g 0 (by omega), hk] at c0
  rw [g 1 (by omega), hk] at c1
  rw [g 2 (by omega), hk] at c2
  exact ⟨c0, c1, c2⟩
set_option maxHeartbeats 3200000 in
set_option maxRecDepth 100000 in
theorem parts_ok (A A' : Option Addr) (c c' : Nat) (xs ys : List Int) (w : World) (h : RB w w.heap.size A xs) (h' : RB w w.heap.size A' ys) (hx : ∀ x ∈ xs, Byte x) (hy : ∀ x ∈ ys, Byte x) (h1 : xs.length ≤ 6000) (h2 : ys.length ≤ 6000) :
    Calls Try.prog 4 #[.slice A xs.length c, .slice A' ys.length c'] w fun e w' => e = .returned (.bool true) ∧ Below w.heap.size w w' := by
  have H := Lib.hid h; have H' := Lib.hid h'; have HX := Lib.hid hx; have HY := Lib.hid hy; clear h h' hx hy
  have kc := fun (w : World) (C : Array Value) (n c : Nat) => Lib.run_convert_bytes_const (P := Try.prog) w 27 5 C n c Try.underlying27 Try.underlying5
  have kc2 := fun (o : Obj) (C : Array Value) (n c : Nat) => kc (w.alloc o) C n c
  simp only [World.size_alloc] at kc2
  go_enter Try.func4, Try.ntmps4
  go_wp2_with fail
  have r1 : RB ((w.alloc (.cells #[.int .u8 97, .int .u8 98] 5 (2, 3))).alloc (.cells #[.int .u8 97] 5 (1, 2))) (w.heap.size + 1 + 1) (some ⟨w.heap.size, 0, none⟩) [97, 98] :=
    ((RD.new w 1 2 #[.int .u8 97, .int .u8 98] 5 (2, 3) rfl).alloc (by simp) _).more (by omega)
  have r2 : RB ((w.alloc (.cells #[.int .u8 97, .int .u8 98] 5 (2, 3))).alloc (.cells #[.int .u8 97] 5 (1, 2))) (w.heap.size + 1 + 1) (some ⟨w.heap.size + 1, 0, none⟩) [97] :=
    by have h := RD.new (w.alloc (.cells #[.int .u8 97, .int .u8 98] 5 (2, 3))) 1 1 #[.int .u8 97] 5 (1, 2) rfl
       rw [World.size_alloc] at h
       exact h
  have hbw : Below w.heap.size w ((w.alloc (.cells #[.int .u8 97, .int .u8 98] 5 (2, 3))).alloc (.cells #[.int .u8 97] 5 (1, 2))) := ((Below.refl _ _).alloc (Nat.le_refl _) _).alloc (by simp) _
  have hsz : ((w.alloc (.cells #[.int .u8 97, .int .u8 98] 5 (2, 3))).alloc (.cells #[.int .u8 97] 5 (1, 2))).heap.size = w.heap.size + 1 + 1 := by simp
  generalize ((w.alloc (.cells #[.int .u8 97, .int .u8 98] 5 (2, 3))).alloc (.cells #[.int .u8 97] 5 (1, 2))) = W at *
  rw [← hsz] at r1 r2
  have hwl : w.heap.size ≤ W.heap.size := by omega
  have hsz := Lib.hid hsz
  have HW := Lib.hid (H.out.below hbw)
  have HW' := Lib.hid (H'.out.below hbw)
  refine (diff_fact _ _ _ r1 r2).mono ?_
  rintro e W1 ⟨g, d, rfl, hc0, hc2, hb1⟩
  clear r1 r2
  have hb2 := hbw.trans (hb1.mono hwl)
  go_wp2_with fail
  have hwl1 := hb2.size
  refine (diff_rd A A' c c' w.heap.size xs ys W1 hb2.size (H.out.below hb2) (H'.out.below hb2) HX.out HY.out h1 h2).mono ?_
  rintro e W2 ⟨D, d2, rfl, hrd, hb3⟩
  have hb4 := hb2.trans (hb3.mono hwl1)
  have HB := Lib.hid hb4
  have R1 := Lib.hid (H.out.below hb4)
  have R2 := Lib.hid (H'.out.below hb4)
  have RL := Lib.hid hrd
  have hlen := diffL_len xs ys h1 h2
  clear hbw hb1 hb2 hb3 hb4 hrd kc kc2 hc0 hc2 HW HW' hsz H H'
  generalize hL : (diffL xs ys).length = N at *
  have hL := Lib.hid hL
  go_wp2_with fail
  go_loop [9, 10] (fun v u => ∃ i : Nat, i ≤ max xs.length ys.length ∧ u = .int .i64 i ∧ v = .int .i64 (diffN xs ys i).length) (fun _ u => 6000 - (intOf u).toNat)
  case atStart => exact ⟨0, by omega, rfl, rfl⟩
  case round =>
    obtain ⟨i, hi, rfl, rfl⟩ := hrel
    by_cases hlt : i < max xs.length ys.length
    · have bx := atV_bd xs HX.out i
      have by' := atV_bd ys HY.out i
      have eN := fun h => diffL_get xs ys i hlt h
      have eY : atV xs i = atV ys i → (diffN xs ys (i + 1)).length = (diffN xs ys i).length := fun h => by rw [diffN_yes xs ys i h]
      have eU : ¬ atV xs i = atV ys i → (diffN xs ys (i + 1)).length = (diffN xs ys i).length + 1 := fun h => by rw [diffN_no xs ys i h]; simp
      have cx := fun b off hA (h : i < xs.length) => RB.cell R1.out (b := b) (off := off) hA h
      have cy := fun b off hA (h : i < ys.length) => RB.cell R2.out (b := b) (off := off) hA h
      have px := fun h : i < xs.length => (HX.out (atV xs i) (List.mem_of_getElem? (atV_in xs i h))).1
      have py := fun h : i < ys.length => (HY.out (atV ys i) (List.mem_of_getElem? (atV_in ys i h))).1
      have nx := fun h : xs.length ≤ i => atV_out xs i h
      have ny := fun h : ys.length ≤ i => atV_out ys i h
      rw [hL.out] at eN
      generalize (diffN xs ys i).length = k at *
      generalize hX : atV xs i = x at *
      generalize hY : atV ys i = y at *
      clear hX hY
      by_cases hu : x = y
      · have e1 := Lib.hid (eY hu)
        subst hu
        have hn : i < xs.length := by
          rcases Nat.lt_or_ge i xs.length with h | h
          · exact h
          · have h1 := nx h
            have h2 := py (by omega)
            omega
        have hm : i < ys.length := by
          rcases Nat.lt_or_ge i ys.length with h | h
          · exact h
          · have h1 := ny h
            have h2 := px (by omega)
            omega
        obtain ⟨b1, o1, rfl⟩ := RB.addr R1.out (by omega)
        obtain ⟨b2, o2, rfl⟩ := RB.addr R2.out (by omega)
        have c1 := cx b1 o1 rfl hn
        have c2 := cy b2 o2 rfl hm
        clear cx cy px py nx ny eN eY eU
        go_wp2_with fail
        go_round
        case rel => exact ⟨i + 1, by omega, by go_num, by rw [e1.out]⟩
        case measure => simp [intOf]; omega
      · have e1 := Lib.hid (eU hu)
        obtain ⟨hk, hkN⟩ := eN hu
        obtain ⟨b3, o3, hD⟩ : ∃ b off, D = some ⟨b, off, none⟩ := by
          obtain ⟨b, off, e, _⟩ := RL.out.2 (by omega)
          exact ⟨b, off, e⟩
        subst hD
        obtain ⟨l0, l1, l2⟩ := ch_cell (b := b3) (off := o3) (by rw [hL.out]; exact RL.out) rfl hk
        have hne : (x == y) = false := by simp [hu]
        have hu := Lib.hid hu
        clear hk
        by_cases hn : i < xs.length
        · obtain ⟨b1, o1, rfl⟩ := RB.addr R1.out (by omega)
          have c1 := cx b1 o1 rfl hn
          by_cases hm : i < ys.length
          · obtain ⟨b2, o2, rfl⟩ := RB.addr R2.out (by omega)
            have c2 := cy b2 o2 rfl hm
            clear cx cy px py nx ny eN eY eU
            go_wp2_with fail
            go_round
            case rel => exact ⟨i + 1, by omega, by go_num, by rw [e1.out]; go_num⟩
            case measure => simp [intOf]; omega
          · obtain rfl := ny (by omega)
            clear cx cy px py nx ny eN eY eU
            go_wp2_with fail
            go_round
            case rel => exact ⟨i + 1, by omega, by go_num, by rw [e1.out]; go_num⟩
            case measure => simp [intOf]; omega
        · obtain rfl := nx (by omega)
          have hm : i < ys.length := by omega
          obtain ⟨b2, o2, rfl⟩ := RB.addr R2.out (by omega)
          have c2 := cy b2 o2 rfl hm
          clear cx cy px py nx ny eN eY eU
          go_wp2_with fail
          go_round
          case rel => exact ⟨i + 1, by omega, by go_num, by rw [e1.out]; go_num⟩
          case measure => simp [intOf]; omega
    · obtain rfl : i = max xs.length ys.length := by omega
      have e1 : (diffN xs ys (max xs.length ys.length)).length = N := hL.out
      go_wp2_with fail
      go_ret
      exact ⟨rfl, HB.out⟩
theorem byte_of {x : Int} (h : (Lit.int .u8 x).wf = true) : Byte x := by have := bounds_u8 h; unfold Byte; omega
set_option maxHeartbeats 1600000 in
set_option maxRecDepth 100000 in
theorem parts_full (A A' : Option Addr) (n m c c' : Nat) (w : World) (h : 6000 < n ∨ 6000 < m) :
    Calls Try.prog 4 #[.slice A n c, .slice A' m c'] w fun e w' => e = .returned (.bool true) ∧ Below w.heap.size w w' := by
  have H := Lib.hid h
  clear h
  have kc := fun (w : World) (C : Array Value) (n c : Nat) => Lib.run_convert_bytes_const (P := Try.prog) w 27 5 C n c Try.underlying27 Try.underlying5
  have kc2 := fun (o : Obj) (C : Array Value) (n c : Nat) => kc (w.alloc o) C n c
  simp only [World.size_alloc] at kc2
  go_enter Try.func4, Try.ntmps4
  go_wp2_with fail
  have r1 : RB ((w.alloc (.cells #[.int .u8 97, .int .u8 98] 5 (2, 3))).alloc (.cells #[.int .u8 97] 5 (1, 2))) (w.heap.size + 1 + 1) (some ⟨w.heap.size, 0, none⟩) [97, 98] :=
    ((RD.new w 1 2 #[.int .u8 97, .int .u8 98] 5 (2, 3) rfl).alloc (by simp) _).more (by omega)
  have r2 : RB ((w.alloc (.cells #[.int .u8 97, .int .u8 98] 5 (2, 3))).alloc (.cells #[.int .u8 97] 5 (1, 2))) (w.heap.size + 1 + 1) (some ⟨w.heap.size + 1, 0, none⟩) [97] :=
    by have h := RD.new (w.alloc (.cells #[.int .u8 97, .int .u8 98] 5 (2, 3))) 1 1 #[.int .u8 97] 5 (1, 2) rfl
       rw [World.size_alloc] at h
       exact h
  have hbw : Below w.heap.size w ((w.alloc (.cells #[.int .u8 97, .int .u8 98] 5 (2, 3))).alloc (.cells #[.int .u8 97] 5 (1, 2))) := ((Below.refl _ _).alloc (Nat.le_refl _) _).alloc (by simp) _
  have hsz : ((w.alloc (.cells #[.int .u8 97, .int .u8 98] 5 (2, 3))).alloc (.cells #[.int .u8 97] 5 (1, 2))).heap.size = w.heap.size + 1 + 1 := by simp
  generalize ((w.alloc (.cells #[.int .u8 97, .int .u8 98] 5 (2, 3))).alloc (.cells #[.int .u8 97] 5 (1, 2))) = W at *
  rw [← hsz] at r1 r2
  have hwl : w.heap.size ≤ W.heap.size := by omega
  have hsz := Lib.hid hsz
  refine (diff_fact _ _ _ r1 r2).mono ?_
  rintro e W1 ⟨g, d, rfl, hc0, hc2, hb1⟩
  clear r1 r2
  have hb2 := hbw.trans (hb1.mono hwl)
  go_wp2_with fail
  refine (diff_full _ _ _ _ _ _ _ H.out).mono ?_
  rintro e w' ⟨rfl, rfl⟩
  go_wp2_with fail
  go_ret
  exact ⟨rfl, hb2⟩
theorem parts_walk (a0 : Option Addr) (len0 cap0 : Nat) (z0 : List Int) (a1 : Option Addr) (len1 cap1 : Nat) (z1 : List Int) (w : World) (w0 : IsRow .u8 w a0 len0 cap0 z0) (w1 : IsRow .u8 w a1 len1 cap1 z1) :
    Calls Try.prog 4 #[.slice a0 len0 cap0, .slice a1 len1 cap1] w fun e w' => e = .returned (.bool true) ∧ Below w.heap.size w w' := by
  obtain ⟨xs, rfl, hx, hbx, _⟩ := isRow_rd w0
  obtain ⟨ys, rfl, hy, hby, _⟩ := isRow_rd w1
  by_cases h : 6000 < xs.length ∨ 6000 < ys.length
  · exact parts_full _ _ _ _ _ _ w h
  · exact parts_ok _ _ _ _ xs ys w hx hy (fun x h => byte_of (hbx x h)) (fun x h => byte_of (hby x h)) (by omega) (by omega)
end Go.Proofs.Ytmnabijelgpfnaa
