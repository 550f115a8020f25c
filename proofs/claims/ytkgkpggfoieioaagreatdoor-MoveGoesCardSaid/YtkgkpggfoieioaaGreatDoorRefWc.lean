import Derived.Test.YtkgkpggfoieioaaGreatDoorWorldC
import Derived.Test.YtkgkpggfoieioaaGreatDoorRefKd
import Derived.Test.YtkgkpggfoieioaaGreatDoorMrge
namespace Go.Proofs.YtkgkpggfoieioaaGreatDoor
set_option linter.unusedVariables false
open Go.RowKit
/-! The reference's On, Find, Check. -/
theorem good_gW {f : GF} (hg : Good f) (k : Nat) : 0 ≤ gAt f k ∧ gAt f k ≤ 3 := by
  unfold gAt
  rw [List.getD_eq_getElem?_getD]
  cases he : f.ground[k]? with
  | none => simp
  | some g => exact hg.cell k g he
theorem rnum2_any (n : Int) (w : World) :
    Calls Tryz.prog 38 #[.int .i64 n] w fun e w' => e = .returned (.bool (numB n)) ∧ w = w' := by
  have hs : numB n = (decide (0 ≤ n) && decide (n ≤ 1000000)) := by unfold numB; rw [Bool.eq_iff_iff]; simp
  rw [hs]
  clear hs
  go_enter Tryz.func38, Tryz.ntmps38
  by_cases h1 : 0 ≤ n
  · go_wp2
    go_ret
    exact ⟨by simp; omega, rfl⟩
  · go_wp2
    go_ret
    exact ⟨by simp; omega, rfl⟩
set_option maxRecDepth 100000 in
theorem ron_any (s : SW) (x : GW) (c : Int) (w : World) (h : WOk w s x) :
    Calls Tryz.prog 13 #[wA s x, .int .i64 c] w fun e w' => e = .returned (.int .i64 (onI x.units c)) ∧ Below w.heap.size w w' := by
  have hb1 : Below w.heap.size w (w.alloc (.cells #[.int .i64 x.turn, .int .i64 x.next, .int .i64 x.field.wide, .int .i64 x.field.high, .slice s.field.ground.A x.field.ground.length s.field.ground.c, .slice s.field.ore.A x.field.ore.length s.field.ore.c, .slice s.gold.A x.gold.length s.gold.c, .slice s.units.A x.units.length s.units.c, .slice s.queue.A x.queue.length s.queue.c] 29)) := (Below.refl _ _).alloc (Nat.le_refl _) _
  have hk1 := Blk.new w 29 #[.int .i64 x.turn, .int .i64 x.next, .int .i64 x.field.wide, .int .i64 x.field.high, .slice s.field.ground.A x.field.ground.length s.field.ground.c, .slice s.field.ore.A x.field.ore.length s.field.ore.c, .slice s.gold.A x.gold.length s.gold.c, .slice s.units.A x.units.length s.units.c, .slice s.queue.A x.queue.length s.queue.c]
  have hul := h.ulen
  have hru := h.ru.below hb1
  obtain ⟨sf, sg, ⟨uA, uc⟩, sq⟩ := s
  dsimp only at hb1 hk1 hru ⊢
  unfold onI
  go_enter Tryz.func13, Tryz.ntmps13
  go_upto_region 1 with fail
  generalize (w.alloc (.cells #[.int .i64 x.turn, .int .i64 x.next, .int .i64 x.field.wide, .int .i64 x.field.high, .slice sf.ground.A x.field.ground.length sf.ground.c, .slice sf.ore.A x.field.ore.length sf.ore.c, .slice sg.A x.gold.length sg.c, .slice uA x.units.length uc, .slice sq.A x.queue.length sq.c] 29)) = W at *
  have c4 : W.cell? ⟨w.heap.size, 7, none⟩ = some (.slice uA x.units.length uc) := hk1.cell 7
  have l4 := hk1.lt
  clear h hk1
  replace hb1 := Lib.hid hb1
  replace hru := Lib.hid hru
  go_wp2_with fail
  go_loop [5] (fun vi => ∃ k : Nat, vi = .int .i64 k ∧ k ≤ x.units.length ∧ Hid (∀ y ∈ x.units.take k, (y.spot == c) = false)) (fun vi => x.units.length - (intOf vi).toNat)
  case atStart => exact ⟨0, rfl, Nat.zero_le _, Lib.hid (by simp)⟩
  case round =>
    obtain ⟨k, rfl, hk, hK⟩ := hrel
    by_cases hlt : k < x.units.length
    · have i1 : (k : Int) < (x.units.length : Int) := by omega
      obtain ⟨b, o, hA, hbl, y0, y1, y2, y3, y4, y5, y6, y7⟩ := ru_at hru.out k hlt
      subst hA
      have hfa := first_at (fun v : GU => v.spot == c) x.units k _ (gu_get hlt)
      have htn := take_no (fun v : GU => v.spot == c) x.units k _ (gu_get hlt) hK.out
      generalize (gu x.units k).spot = z at *
      replace hfa := Lib.hid hfa
      replace htn := Lib.hid htn
      by_cases hq : z = c
      · have hf := hfa.out (by simp [hq]) hK.out
        have e1 : (z == c) = true := by simp [hq]
        replace hf := Lib.hid hf
        replace hq := Lib.hid hq
        go_wp2_with fail
        go_ret
        exact ⟨by rw [hf.out]; rfl, hb1.out⟩
      · have hn := Lib.hid (htn.out (by simp [hq]))
        have e1 : (z == c) = false := by simp [hq]
        replace hq := Lib.hid hq
        go_wp2_with fail
        go_round
        case rel => exact ⟨k + 1, by go_num, by omega, hn⟩
        case measure => simp [intOf]; omega
    · have i1 : ¬ (k : Int) < (x.units.length : Int) := by omega
      have hf := first_no (fun v : GU => v.spot == c) x.units (by have := hK.out; rwa [List.take_of_length_le (by omega)] at this)
      replace hf := Lib.hid hf
      go_wp2_with fail
      go_ret
      exact ⟨by rw [hf.out]; rfl, hb1.out⟩
set_option maxRecDepth 100000 in
theorem rwfind_any (s : SW) (x : GW) (c : Int) (w : World) (h : WOk w s x) :
    Calls Tryz.prog 25 #[wA s x, .int .i64 c] w fun e w' => e = .returned (.int .i64 (findId x.units c)) ∧ Below w.heap.size w w' := by
  have hb1 : Below w.heap.size w (w.alloc (.cells #[.int .i64 x.turn, .int .i64 x.next, .int .i64 x.field.wide, .int .i64 x.field.high, .slice s.field.ground.A x.field.ground.length s.field.ground.c, .slice s.field.ore.A x.field.ore.length s.field.ore.c, .slice s.gold.A x.gold.length s.gold.c, .slice s.units.A x.units.length s.units.c, .slice s.queue.A x.queue.length s.queue.c] 29)) := (Below.refl _ _).alloc (Nat.le_refl _) _
  have hk1 := Blk.new w 29 #[.int .i64 x.turn, .int .i64 x.next, .int .i64 x.field.wide, .int .i64 x.field.high, .slice s.field.ground.A x.field.ground.length s.field.ground.c, .slice s.field.ore.A x.field.ore.length s.field.ore.c, .slice s.gold.A x.gold.length s.gold.c, .slice s.units.A x.units.length s.units.c, .slice s.queue.A x.queue.length s.queue.c]
  have hul := h.ulen
  have hru := h.ru.below hb1
  obtain ⟨sf, sg, ⟨uA, uc⟩, sq⟩ := s
  dsimp only at hb1 hk1 hru ⊢
  unfold findId
  go_enter Tryz.func25, Tryz.ntmps25
  go_upto_region 1 with fail
  generalize (w.alloc (.cells #[.int .i64 x.turn, .int .i64 x.next, .int .i64 x.field.wide, .int .i64 x.field.high, .slice sf.ground.A x.field.ground.length sf.ground.c, .slice sf.ore.A x.field.ore.length sf.ore.c, .slice sg.A x.gold.length sg.c, .slice uA x.units.length uc, .slice sq.A x.queue.length sq.c] 29)) = W at *
  have c4 : W.cell? ⟨w.heap.size, 7, none⟩ = some (.slice uA x.units.length uc) := hk1.cell 7
  have l4 := hk1.lt
  clear h hk1
  replace hb1 := Lib.hid hb1
  replace hru := Lib.hid hru
  go_wp2_with fail
  go_loop [5] (fun vi => ∃ k : Nat, vi = .int .i64 k ∧ k ≤ x.units.length ∧ Hid (∀ y ∈ x.units.take k, (y.id == c) = false)) (fun vi => x.units.length - (intOf vi).toNat)
  case atStart => exact ⟨0, rfl, Nat.zero_le _, Lib.hid (by simp)⟩
  case round =>
    obtain ⟨k, rfl, hk, hK⟩ := hrel
    by_cases hlt : k < x.units.length
    · have i1 : (k : Int) < (x.units.length : Int) := by omega
      obtain ⟨b, o, hA, hbl, y0, y1, y2, y3, y4, y5, y6, y7⟩ := ru_at hru.out k hlt
      subst hA
      have hfa := first_at (fun v : GU => v.id == c) x.units k _ (gu_get hlt)
      have htn := take_no (fun v : GU => v.id == c) x.units k _ (gu_get hlt) hK.out
      generalize (gu x.units k).id = z at *
      replace hfa := Lib.hid hfa
      replace htn := Lib.hid htn
      by_cases hq : z = c
      · have hf := hfa.out (by simp [hq]) hK.out
        have e1 : (z == c) = true := by simp [hq]
        replace hf := Lib.hid hf
        replace hq := Lib.hid hq
        go_wp2_with fail
        go_ret
        exact ⟨by rw [hf.out]; rfl, hb1.out⟩
      · have hn := Lib.hid (htn.out (by simp [hq]))
        have e1 : (z == c) = false := by simp [hq]
        replace hq := Lib.hid hq
        go_wp2_with fail
        go_round
        case rel => exact ⟨k + 1, by go_num, by omega, hn⟩
        case measure => simp [intOf]; omega
    · have i1 : ¬ (k : Int) < (x.units.length : Int) := by omega
      have hf := first_no (fun v : GU => v.id == c) x.units (by have := hK.out; rwa [List.take_of_length_le (by omega)] at this)
      replace hf := Lib.hid hf
      go_wp2_with fail
      go_ret
      exact ⟨by rw [hf.out]; rfl, hb1.out⟩
section
variable {B wb ub : Nat} {w0 w w' : World} {sK : SL} {L : List GK} {s : SW} {x : GW} {u : GU}
theorem UB.ronto (h : UB B w0 w sK L s x wb ub u) (k : Nat) (fl : Bool) (hk : k < x.field.ground.length) (hg : 0 ≤ gAt x.field k ∧ gAt x.field k ≤ 3) : Calls Tryz.prog 12 #[.agg #[.int .i64 x.field.wide, .int .i64 x.field.high, .slice s.field.ground.A x.field.ground.length s.field.ground.c, .slice s.field.ore.A x.field.ore.length s.field.ore.c], .int .i64 (k : Int), .bool fl] w fun e w' => e = .returned (.int .i64 (ontoL x.field k fl)) ∧ UB B w0 w' sK L s x wb ub u :=
  (ronto_any s.field x.field k fl w h.wo.2.2.1 hk hg).mono fun _ _ ⟨h1, h2⟩ => ⟨h1, h.below h2⟩
theorem UB.ron (h : UB B w0 w sK L s x wb ub u) (c : Int) : Calls Tryz.prog 13 #[wA s x, .int .i64 c] w fun e w' => e = .returned (.int .i64 (onI x.units c)) ∧ UB B w0 w' sK L s x wb ub u :=
  (ron_any s x c w h.wo).mono fun _ _ ⟨h1, h2⟩ => ⟨h1, h.below h2⟩
end
set_option maxHeartbeats 12800000 in
set_option maxRecDepth 100000 in
theorem rwcheck_any (sK : SL) (L : List GK) (s : SW) (x : GW) (w : World) (hK : KS w w.heap.size sK L) (hW : WOk w s x) :
    Calls Tryz.prog 11 #[.slice sK.A L.length sK.c, wA s x] w fun e w' => e = .returned (.int .i64 (worldE L x)) ∧ Below w.heap.size w w' := by
  obtain ⟨sf, sg, ⟨uA, uc⟩, ⟨qA, qc⟩⟩ := s
  have hQ : ∀ w' E, worldE L x = E → Below w.heap.size w w' → Ending.returned (.int .i64 E) = Ending.returned (.int .i64 (worldE L x)) ∧ Below w.heap.size w w' := fun w' E h1 h2 => by rw [h1]; exact ⟨rfl, h2⟩
  have hE : worldE L x = worldE L x := rfl
  conv at hE => rhs; unfold worldE
  have hB : WB w.heap.size w (w.alloc (.cells #[.int .i64 x.turn, .int .i64 x.next, .int .i64 x.field.wide, .int .i64 x.field.high, .slice sf.ground.A x.field.ground.length sf.ground.c, .slice sf.ore.A x.field.ore.length sf.ore.c, .slice sg.A x.gold.length sg.c, .slice uA x.units.length uc, .slice qA x.queue.length qc] 29)) sK L ⟨sf, sg, ⟨uA, uc⟩, ⟨qA, qc⟩⟩ x w.heap.size := by
    have hb1 : Below w.heap.size w (w.alloc (.cells #[.int .i64 x.turn, .int .i64 x.next, .int .i64 x.field.wide, .int .i64 x.field.high, .slice sf.ground.A x.field.ground.length sf.ground.c, .slice sf.ore.A x.field.ore.length sf.ore.c, .slice sg.A x.gold.length sg.c, .slice uA x.units.length uc, .slice qA x.queue.length qc] 29)) := (Below.refl _ _).alloc (Nat.le_refl _) _
    exact ⟨hb1, hb1.size, Blk.new _ _ _, hW.below hb1, hK.up hb1⟩
  have hgl : x.gold.length ≤ 9223372036854775807 := by
    have a := hW.2.2.2.1.2.2.1
    have b := hW.2.2.2.1.2.2.2.1
    unfold maxLen at b; omega
  have hul := hW.ulen
  have hgrl : x.field.ground.length ≤ 9223372036854775807 := by
    have a := hW.2.2.1.2.2.1.2.2.1
    have b := hW.2.2.1.2.2.1.2.2.2.1
    unfold maxLen at b; omega
  have hjl : x.queue.length ≤ 9223372036854775807 := by
    have a := hW.2.2.2.2.2.2.2.1
    have b := hW.2.2.2.2.2.2.2.2.1
    unfold maxLen at b; omega
  have hcap := hK.cap
  have hmx := hK.max
  replace hB := Lib.hid hB
  replace hQ := Lib.hid hQ
  replace hE := Lib.hid hE
  clear hK hW
  go_enter Tryz.func11, Tryz.ntmps11
  go_upto_region 1 with fail
  generalize (w.alloc (.cells #[.int .i64 x.turn, .int .i64 x.next, .int .i64 x.field.wide, .int .i64 x.field.high, .slice sf.ground.A x.field.ground.length sf.ground.c, .slice sf.ore.A x.field.ore.length sf.ore.c, .slice sg.A x.gold.length sg.c, .slice uA x.units.length uc, .slice qA x.queue.length qc] 29)) = W at *
  obtain ⟨wb, hwb⟩ : ∃ wb, w.heap.size = wb := ⟨_, rfl⟩
  rw [hwb]
  replace hB : WB w.heap.size w W sK L ⟨sf, sg, ⟨uA, uc⟩, ⟨qA, qc⟩⟩ x wb := by rw [← hwb]; exact hB.out
  replace hwb := Lib.hid hwb
  have hkc := rkinds_any sK L W.heap.size W hB.ks (Nat.le_refl _)
  replace hB := Lib.hid hB
  by_cases hk0 : kindsE L = 0
  case neg =>
    replace hE := hE.out
    rw [if_pos hk0] at hE
    have e1 : (kindsE L == 0) = false := by simp [hk0]
    have e2 : (kindsE L != 0) = true := by simp [hk0]
    generalize kindsE L = E at *
    replace hkc := Lib.hid hkc
    replace hk0 := Lib.hid hk0
    replace hE := Lib.hid hE
    go_wp2_with fail
    refine hkc.out.mono ?_
    rintro e W2 ⟨rfl, hb2⟩
    have hB2 := hB.out.below hb2
    replace hB2 := Lib.hid hB2
    clear hb2
    go_wp2_with fail
    go_ret
    exact hQ.out _ E hE.out hB2.out.b
  replace hE := hE.out
  rw [if_neg (fun c => c hk0)] at hE
  rw [hk0] at hkc
  have hK8 := (kindsE_0 hk0).few
  replace hkc := Lib.hid hkc
  replace hE := Lib.hid hE
  replace hk0 := Lib.hid hk0
  go_wp2_with fail
  refine hkc.out.mono ?_
  clear hkc
  rintro e W2 ⟨rfl, hb2⟩
  have hB2 := hB.out.below hb2
  clear hb2 hB
  have hfc := rfield_any sf x.field W2 hB2.wo.2.2.1
  unfold fA at hfc
  obtain ⟨m0, m1, m2, m3, m4, m5, m6, m7, m8, mll⟩ := hB2.wcells
  replace hB2 := Lib.hid hB2
  by_cases hf0 : fieldE x.field = 0
  case neg =>
    replace hE := hE.out
    rw [if_pos hf0] at hE
    have e2 : (fieldE x.field != 0) = true := by simp [hf0]
    generalize fieldE x.field = E at *
    replace hfc := Lib.hid hfc
    replace hf0 := Lib.hid hf0
    replace hE := Lib.hid hE
    go_wp2_with fail
    refine hfc.out.mono ?_
    rintro e W3 ⟨rfl, hb3⟩
    have hB3 := hB2.out.below hb3
    replace hB3 := Lib.hid hB3
    clear hb3
    clear m0 m1 m2 m3 m4 m5 m6 m7 m8 mll
    go_wp2_with fail
    go_ret
    exact hQ.out _ E hE.out hB3.out.b
  replace hE := hE.out
  rw [if_neg (fun c => c hf0)] at hE
  rw [hf0] at hfc
  replace hfc := Lib.hid hfc
  replace hE := Lib.hid hE
  replace hf0 := Lib.hid hf0
  go_wp2_with fail
  refine hfc.out.mono ?_
  clear hfc
  clear m0 m1 m2 m3 m4 m5 m6 m7 m8 mll
  rintro e W3 ⟨rfl, hb3⟩
  have hB3 := hB2.out.below hb3
  clear hb3 hB2
  obtain ⟨m0, m1, m2, m3, m4, m5, m6, m7, m8, mll⟩ := hB3.wcells
  have hH : headE x = headE x := rfl
  conv at hH => rhs; unfold headE
  have hEh : ∀ E, headE x = E → E ≠ 0 → worldE L x = E := fun E h h2 => by rw [hE.out, if_pos (by rw [h]; exact h2), h]
  replace hEh := Lib.hid hEh
  replace hB3 := Lib.hid hB3
  cases hn1 : numB x.turn with
  | false =>
    have hE1 := hEh.out 1 (by rw [hH, if_pos (.inl hn1)]) (by decide)
    replace hE1 := Lib.hid hE1
    replace hH := Lib.hid hH
    go_wp2_with (go_at_call 38; refine (rnum2_any _ _).mono ?_; rintro e w' ⟨rfl, rfl⟩)
    go_ret
    exact hQ.out _ 1 hE1.out hB3.out.b
  | true =>
  cases hn2 : numB x.next with
  | false =>
    have hE1 := hEh.out 1 (by rw [hH, if_pos (.inr (.inl hn2))]) (by decide)
    replace hE1 := Lib.hid hE1
    replace hH := Lib.hid hH
    go_wp2_with (go_at_call 38; refine (rnum2_any _ _).mono ?_; rintro e w' ⟨rfl, rfl⟩)
    go_ret
    exact hQ.out _ 1 hE1.out hB3.out.b
  | true =>
  by_cases hn3 : x.next = 0
  · have e3 : (x.next == 0) = true := by simp [hn3]
    have hE1 := hEh.out 1 (by rw [hH, if_pos (.inr (.inr (.inl hn3)))]) (by decide)
    replace hE1 := Lib.hid hE1
    replace hH := Lib.hid hH
    replace hn3 := Lib.hid hn3
    go_wp2_with (go_at_call 38; refine (rnum2_any _ _).mono ?_; rintro e w' ⟨rfl, rfl⟩)
    go_ret
    exact hQ.out _ 1 hE1.out hB3.out.b
  have e3 : (x.next == 0) = false := by simp [hn3]
  by_cases hn4 : x.gold.length < 1
  · have p4 : (x.gold.length : Int) < 1 := by omega
    have hE1 := hEh.out 1 (by rw [hH, if_pos (.inr (.inr (.inr (.inl hn4))))]) (by decide)
    replace hE1 := Lib.hid hE1
    replace hH := Lib.hid hH
    go_wp2_with (go_at_call 38; refine (rnum2_any _ _).mono ?_; rintro e w' ⟨rfl, rfl⟩)
    go_ret
    exact hQ.out _ 1 hE1.out hB3.out.b
  have p4 : ¬ (x.gold.length : Int) < 1 := by omega
  by_cases hn5 : 4 < x.gold.length
  · have p5 : (4 : Int) < (x.gold.length : Int) := by omega
    have hE1 := hEh.out 1 (by rw [hH, if_pos (.inr (.inr (.inr (.inr hn5))))]) (by decide)
    replace hE1 := Lib.hid hE1
    replace hH := Lib.hid hH
    go_wp2_with (go_at_call 38; refine (rnum2_any _ _).mono ?_; rintro e w' ⟨rfl, rfl⟩)
    go_ret
    exact hQ.out _ 1 hE1.out hB3.out.b
  have p5 : ¬ (4 : Int) < (x.gold.length : Int) := by omega
  rw [if_neg (by rintro (h | h | h | h | h); rw [hn1] at h; cases h; rw [hn2] at h; cases h; exact hn3 h; exact hn4 h; exact hn5 h)] at hH
  have hg4 : x.gold.length ≤ 4 := by omega
  replace hH := Lib.hid hH
  go_wp2_with (go_at_call 38; refine (rnum2_any _ _).mono ?_; rintro e w' ⟨rfl, rfl⟩)
  clear p4 p5 e3 hn1 hn2
  have hgr := hB3.out.wo.2.2.2.1.1
  replace hgr := Lib.hid hgr
  go_loop [8, 9] (fun vi _ => ∃ k : Nat, vi = .int .i64 k ∧ k ≤ x.gold.length ∧ Hid ((x.gold.take k).any (fun n => !numB n) = false)) (fun vi _ => x.gold.length - (intOf vi).toNat)
  case atStart => exact ⟨0, rfl, Nat.zero_le _, Lib.hid rfl⟩
  case round =>
    obtain ⟨k, rfl, hk, hno⟩ := hrel
    by_cases hlt : k < x.gold.length
    · have z1 : (k : Int) < (x.gold.length : Int) := by omega
      obtain ⟨b, o, hA, hbl⟩ := hgr.out.addr (by omega)
      have hcell := hgr.out.at_ hA (j := k) (by omega)
      rw [List.getElem?_map, List.getElem?_eq_getElem hlt] at hcell
      simp only [Option.map_some] at hcell
      dsimp only at hA
      have hnx : numB x.gold[k] = true → Hid ((x.gold.take (k + 1)).any (fun n => !numB n) = false) := fun e => Lib.hid (by
        rw [List.take_succ_eq_append_getElem hlt, List.any_append, hno.out]; simp [e])
      have hbad : numB x.gold[k] = false → x.gold.any (fun n => !numB n) = true := fun e => by rw [List.any_eq_true]; exact ⟨_, List.getElem_mem _, by rw [e]; rfl⟩
      generalize x.gold[k] = n at *
      rw [hA] at m6
      replace hA := Lib.hid hA
      cases hn : numB n with
      | true =>
        have hx := hnx hn
        clear hnx hbad
        go_wp2_with (go_at_call 38; refine (rnum2_any _ _).mono ?_; rintro e w' ⟨rfl, rfl⟩)
        go_round
        case rel => exact ⟨k + 1, by go_num, by omega, hx⟩
        case measure => simp [intOf]; omega
      | false =>
        have hx := hbad hn
        have hE1 := hEh.out 1 (by rw [hH.out, if_pos hx]) (by decide)
        replace hE1 := Lib.hid hE1
        clear hnx hbad
        replace hx := Lib.hid hx
        go_wp2_with (go_at_call 38; refine (rnum2_any _ _).mono ?_; rintro e w' ⟨rfl, rfl⟩)
        go_ret
        exact hQ.out _ 1 hE1.out hB3.out.b
    · have z1 : ¬ (k : Int) < (x.gold.length : Int) := by omega
      have hgo : x.gold.any (fun n => !numB n) = false := by have := hno.out; rwa [List.take_of_length_le (by omega)] at this
      replace hH := hH.out
      rw [if_neg (by rw [hgo]; simp)] at hH
      clear hno hgo
      by_cases h40 : 40 < x.units.length
      · have z4 : (40 : Int) < (x.units.length : Int) := by omega
        rw [if_pos h40] at hH
        have hE1 := hEh.out 4 hH (by decide)
        replace hE1 := Lib.hid hE1
        replace hH := Lib.hid hH
        go_wp2_with fail
        go_ret
        exact hQ.out _ 4 hE1.out hB3.out.b
      have z4 : ¬ (40 : Int) < (x.units.length : Int) := by omega
      rw [if_neg h40] at hH
      replace hE := hE.out
      rw [if_neg (fun c => c hH)] at hE
      have hu40 : x.units.length ≤ 40 := by omega
      have hmU := seqE_mono (unitE L x)
      replace hH := Lib.hid hH
      replace hE := Lib.hid hE
      replace hEh := Lib.hid hEh
      replace hmU := Lib.hid hmU
      go_wp2_with fail
      clear m0 m1 m2 m3 m4 m5 m6 m7 m8 mll
      go_loopw [11] (fun vi wr => ∃ k : Nat, vi = .int .i64 k ∧ k ≤ x.units.length ∧ Hid (seqE (unitE L x) k = 0) ∧ Hid (WB w.heap.size w wr sK L ⟨sf, sg, ⟨uA, uc⟩, ⟨qA, qc⟩⟩ x wb)) (fun vi _ => x.units.length - (intOf vi).toNat)
      case atStart => exact ⟨0, rfl, Nat.zero_le _, Lib.hid rfl, hB3⟩
      case round =>
        clear hB3
        obtain ⟨k, rfl, hk, hz, hBB⟩ := hrel
        obtain ⟨m0, m1, m2, m3, m4, m5, m6, m7, m8, mll⟩ := hBB.out.wcells
        by_cases hlt : k < x.units.length
        · as_aux_lemma =>
          have z2 : (k : Int) < (x.units.length : Int) := by omega
          have hst : seqE (unitE L x) (k + 1) = unitE L x k := by rw [seqE, if_neg (fun e => e hz.out)]
          have hQu : ∀ w' E, unitE L x k = E → E ≠ 0 → Below w.heap.size w w' → Ending.returned (.int .i64 E) = Ending.returned (.int .i64 (worldE L x)) ∧ Below w.heap.size w w' := fun w' E he hne hb => by
            have h1 := hmU.out (k + 1) x.units.length (by omega) (by rw [hst, he]; exact hne)
            exact hQ.out w' E (by rw [hE.out, if_pos (by rw [h1, hst, he]; exact hne), h1, hst, he]) hb
          have hst2 : unitE L x k = 0 → Hid (seqE (unitE L x) (k + 1) = 0) := fun e => Lib.hid (by rw [hst, e])
          obtain ⟨b, o, hA, hbl, c0, c1, c2, c3, c4, c5, c6, c7⟩ := ru_at hBB.out.wo.ru k hlt
          dsimp only at hA
          subst hA
          have hok := hBB.out.wo.2.2.2.2.1.2.2.2.2 _ (gu_mem hlt)
          have hEu : unitE L x k = unitE L x k := rfl
          conv at hEu => rhs; unfold unitE
          obtain ⟨u, hu⟩ : ∃ u, gu x.units k = u := ⟨_, rfl⟩
          rw [hu] at c0 c1 c2 c3 c4 c5 c6 c7 hEu hok
          obtain ⟨ui, up, uk, usp, ul, uo, ut, ug⟩ := u
          obtain ⟨r0, r1, r2, r3, r4, r5, r6, r7⟩ := hok
          unfold I64 at r0 r1 r2 r3 r4 r5 r6 r7
          dsimp only at c0 c1 c2 c3 c4 c5 c6 c7 hEu r0 r1 r2 r3 r4 r5 r6 r7
          have hU : UB w.heap.size w (wr.alloc (.cells #[.int .i64 ui, .int .i64 up, .int .i64 uk, .int .i64 usp, .int .i64 ul, .int .i64 uo, .int .i64 ut, .int .i64 ug] 45)) sK L ⟨sf, sg, ⟨some ⟨b, o, none⟩, uc⟩, ⟨qA, qc⟩⟩ x wb wr.heap.size ⟨ui, up, uk, usp, ul, uo, ut, ug⟩ := by
            have hal : Below wr.heap.size wr (wr.alloc (.cells #[.int .i64 ui, .int .i64 up, .int .i64 uk, .int .i64 usp, .int .i64 ul, .int .i64 uo, .int .i64 ut, .int .i64 ug] 45)) := (Below.refl _ _).alloc (Nat.le_refl _) _
            have hBa := hBB.out.below hal
            exact ⟨hBa.b, hBa.sz, hBa.kw, Blk.new _ _ _, hBa.wo, hBa.ks⟩
          replace hU := Lib.hid hU
          replace hEu := Lib.hid hEu
          replace hu := Lib.hid hu
          replace hst := Lib.hid hst
          replace hst2 := Lib.hid hst2
          replace hQu := Lib.hid hQu
          go_upto_region 23 with fail
          generalize (wr.alloc (.cells #[.int .i64 ui, .int .i64 up, .int .i64 uk, .int .i64 usp, .int .i64 ul, .int .i64 uo, .int .i64 ut, .int .i64 ug] 45)) = W at *
          obtain ⟨ub, hub⟩ : ∃ ub, wr.heap.size = ub := ⟨_, rfl⟩
          rw [hub]
          replace hU : UB w.heap.size w W sK L ⟨sf, sg, ⟨some ⟨b, o, none⟩, uc⟩, ⟨qA, qc⟩⟩ x wb ub ⟨ui, up, uk, usp, ul, uo, ut, ug⟩ := by rw [← hub]; exact hU.out
          replace hub := Lib.hid hub
          replace hU := Lib.hid hU
          clear m0 m1 m2 m3 m4 m5 m6 m7 m8 mll
          clear c0 c1 c2 c3 c4 c5 c6 c7
          obtain ⟨u0, u1, u2, u3, u4, u5, u6, u7, ull⟩ := hU.out.ucells
          obtain ⟨m0, m1, m2, m3, m4, m5, m6, m7, m8, mll⟩ := hU.out.wcells
          dsimp only at u0 u1 u2 u3 u4 u5 u6 u7 m0 m1 m2 m3 m4 m5 m6 m7 m8
          by_cases h1 : ui < 1
          · replace hEu := hEu.out
            rw [if_pos (.inl h1)] at hEu
            have dh1 : decide (ui < 1) = true := decide_eq_true h1
            replace hEu := Lib.hid hEu
            go_wp2_with fail
            go_ret
            exact hQu.out _ 1 hEu.out (by decide) hU.out.b
          have dh1 : decide (ui < 1) = false := decide_eq_false h1
          by_cases h2 : x.next ≤ ui
          · replace hEu := hEu.out
            rw [if_pos (.inr h2)] at hEu
            have dh2 : decide (x.next ≤ ui) = true := decide_eq_true h2
            replace hEu := Lib.hid hEu
            go_wp2_with fail
            go_ret
            exact hQu.out _ 1 hEu.out (by decide) hU.out.b
          have dh2 : decide (x.next ≤ ui) = false := decide_eq_false h2
          replace hEu := hEu.out
          rw [if_neg (by omega)] at hEu
          replace hEu := Lib.hid hEu
          obtain ⟨m, hm⟩ : ∃ m, k - 1 = m := ⟨_, rfl⟩
          obtain ⟨pid, hpid⟩ : ∃ pid, (gu x.units (k - 1)).id = pid := ⟨_, rfl⟩
          replace hEu := hEu.out
          rw [hpid] at hEu
          replace hEu := Lib.hid hEu
          go_upto_region 25 with fail
          go_cut [115] (fun t wx => t = .bool (decide (0 < k ∧ ui ≤ pid)) ∧ ∃ q, wx = W.drewN q)
          case first =>
            rcases Nat.eq_zero_or_pos k with h0 | h0
            · have d0 : decide (0 < (k : Int)) = false := by simp; omega
              have d1 : decide (0 < k ∧ ui ≤ pid) = false := by simp; omega
              replace d1 := Lib.hid d1
              subst h0
              clear hm hpid
              go_wp2_with fail
              go_quiet (fail)
              go_wp2_with fail
              go_meet
              exact ⟨by rw [d1.out], _, rfl⟩
            · have d0 : decide (0 < (k : Int)) = true := by simp; omega
              have hmi : m < x.units.length := by omega
              obtain ⟨b', o', hA', hbl', y0, y1, y2, y3, y4, y5, y6, y7⟩ := ru_at hU.out.wo.ru m hmi
              dsimp only at hA'
              injection hA' with hA'
              injection hA' with e3 e4
              subst e3; subst e4
              clear y1 y2 y3 y4 y5 y6 y7
              rw [hm] at hpid
              rw [hpid] at y0
              have e5 : IntKind.i64.wrap ((k : Int) - 1) = (m : Int) := by rw [show (k : Int) - 1 = (m : Int) by omega]; exact IntWalk.i64_in _ (by omega)
              have e6 : (m : Int) < (x.units.length : Int) := by omega
              have e7 : 0 ≤ (m : Int) := by omega
              have d1 : decide (0 < k ∧ ui ≤ pid) = decide (ui ≤ pid) := by simp [h0]
              replace d1 := Lib.hid d1
              replace hpid := Lib.hid hpid
              replace hm := Lib.hid hm
              go_wp2_with fail
              go_quiet (fail)
              go_wp2_with fail
              go_meet
              exact ⟨by rw [d1.out], _, rfl⟩
          case rest =>
          obtain ⟨rfl, q, rfl⟩ := hcut
          replace hU := Lib.hid (hU.out.drewN q)
          clear u0 u1 u2 u3 u4 u5 u6 u7 ull m0 m1 m2 m3 m4 m5 m6 m7 m8 mll
          generalize W.drewN q = W2 at *
          obtain ⟨u0, u1, u2, u3, u4, u5, u6, u7, ull⟩ := hU.out.ucells
          obtain ⟨m0, m1, m2, m3, m4, m5, m6, m7, m8, mll⟩ := hU.out.wcells
          dsimp only at u0 u1 u2 u3 u4 u5 u6 u7 m0 m1 m2 m3 m4 m5 m6 m7 m8
          replace hm := Lib.hid hm
          replace hpid := Lib.hid hpid
          by_cases h4 : 0 < k ∧ ui ≤ pid
          · replace hEu := hEu.out
            rw [if_pos h4] at hEu
            replace hEu := Lib.hid hEu
            rw [decide_eq_true h4]
            go_wp2_with fail
            go_ret
            exact hQu.out _ 5 hEu.out (by decide) hU.out.b
          replace hEu := hEu.out
          rw [if_neg h4] at hEu
          replace hEu := Lib.hid hEu
          rw [decide_eq_false h4]
          replace h4 := Lib.hid h4
          by_cases f1 : up < 0
          · replace hEu := hEu.out
            rw [if_pos (.inl f1)] at hEu
            have df1 : decide (up < 0) = true := decide_eq_true f1
            replace hEu := Lib.hid hEu
            go_wp2_with fail
            go_ret
            exact hQu.out _ 1 hEu.out (by decide) hU.out.b
          have df1 : decide (up < 0) = false := decide_eq_false f1
          by_cases f2 : (x.gold.length : Int) ≤ up
          · replace hEu := hEu.out
            rw [if_pos (.inr (.inl f2))] at hEu
            have df2 : decide ((x.gold.length : Int) ≤ up) = true := decide_eq_true f2
            replace hEu := Lib.hid hEu
            go_wp2_with fail
            go_ret
            exact hQu.out _ 1 hEu.out (by decide) hU.out.b
          have df2 : decide ((x.gold.length : Int) ≤ up) = false := decide_eq_false f2
          by_cases f3 : uk < 0
          · replace hEu := hEu.out
            rw [if_pos (.inr (.inr (.inl f3)))] at hEu
            have df3 : decide (uk < 0) = true := decide_eq_true f3
            replace hEu := Lib.hid hEu
            go_wp2_with fail
            go_ret
            exact hQu.out _ 1 hEu.out (by decide) hU.out.b
          have df3 : decide (uk < 0) = false := decide_eq_false f3
          by_cases f4 : (L.length : Int) ≤ uk
          · replace hEu := hEu.out
            rw [if_pos (.inr (.inr (.inr f4)))] at hEu
            have df4 : decide ((L.length : Int) ≤ uk) = true := decide_eq_true f4
            replace hEu := Lib.hid hEu
            go_wp2_with fail
            go_ret
            exact hQu.out _ 1 hEu.out (by decide) hU.out.b
          have df4 : decide ((L.length : Int) ≤ uk) = false := decide_eq_false f4
          replace hEu := hEu.out
          rw [if_neg (by omega)] at hEu
          replace hEu := Lib.hid hEu
          obtain ⟨kd, rfl⟩ : ∃ kd : Nat, uk = (kd : Int) := ⟨uk.toNat, by omega⟩
          have hkd : kd < L.length := by omega
          have hkdi : (kd : Int) < (L.length : Int) := by omega
          obtain ⟨sA, sc⟩ := sK
          dsimp only at hcap hmx
          obtain ⟨bk, okk, hAk, hbk, _, k1, _, _, _, _, _, _, k8, k9, _⟩ := rk_at hU.out.ks.rd kd hkd
          dsimp only at hAk
          subst hAk
          replace hEu := hEu.out
          rw [Int.toNat_natCast] at hEu
          generalize hkl : (gk L kd).life = kl at *
          generalize hkc : (gk L kd).carry = kc at *
          generalize hkf : (gk L kd).flies = kf at *
          replace hEu := Lib.hid hEu
          replace hkl := Lib.hid hkl
          replace hkc := Lib.hid hkc
          replace hkf := Lib.hid hkf
          dsimp only
          by_cases g1 : ul < 1
          · replace hEu := hEu.out
            rw [if_pos (.inl g1)] at hEu
            have dg1 : decide (ul < 1) = true := decide_eq_true g1
            replace hEu := Lib.hid hEu
            go_wp2_with fail
            go_quiet (fail)
            go_wp2_with fail
            go_ret
            exact hQu.out _ 1 hEu.out (by decide) (hU.out.drewN _).b
          have dg1 : decide (ul < 1) = false := decide_eq_false g1
          by_cases g2 : kl < ul
          · replace hEu := hEu.out
            rw [if_pos (.inr (.inl g2))] at hEu
            have dg2 : decide (kl < ul) = true := decide_eq_true g2
            replace hEu := Lib.hid hEu
            go_wp2_with fail
            go_quiet (fail)
            go_wp2_with fail
            go_ret
            exact hQu.out _ 1 hEu.out (by decide) (hU.out.drewN _).b
          have dg2 : decide (kl < ul) = false := decide_eq_false g2
          by_cases g3 : uo < 0
          · replace hEu := hEu.out
            rw [if_pos (.inr (.inr (.inl g3)))] at hEu
            have dg3 : decide (uo < 0) = true := decide_eq_true g3
            replace hEu := Lib.hid hEu
            go_wp2_with fail
            go_quiet (fail)
            go_wp2_with fail
            go_ret
            exact hQu.out _ 1 hEu.out (by decide) (hU.out.drewN _).b
          have dg3 : decide (uo < 0) = false := decide_eq_false g3
          by_cases g4 : kc < uo
          · replace hEu := hEu.out
            rw [if_pos (.inr (.inr (.inr (.inl g4))))] at hEu
            have dg4 : decide (kc < uo) = true := decide_eq_true g4
            replace hEu := Lib.hid hEu
            go_wp2_with fail
            go_quiet (fail)
            go_wp2_with fail
            go_ret
            exact hQu.out _ 1 hEu.out (by decide) (hU.out.drewN _).b
          have dg4 : decide (kc < uo) = false := decide_eq_false g4
          by_cases g5 : ut < 0
          · replace hEu := hEu.out
            rw [if_pos (.inr (.inr (.inr (.inr (.inl g5)))))] at hEu
            have dg5 : decide (ut < 0) = true := decide_eq_true g5
            replace hEu := Lib.hid hEu
            go_wp2_with fail
            go_quiet (fail)
            go_wp2_with fail
            go_ret
            exact hQu.out _ 1 hEu.out (by decide) (hU.out.drewN _).b
          have dg5 : decide (ut < 0) = false := decide_eq_false g5
          by_cases g6 : 2 < ut
          · replace hEu := hEu.out
            rw [if_pos (.inr (.inr (.inr (.inr (.inr g6)))))] at hEu
            have dg6 : decide (2 < ut) = true := decide_eq_true g6
            replace hEu := Lib.hid hEu
            go_wp2_with fail
            go_quiet (fail)
            go_wp2_with fail
            go_ret
            exact hQu.out _ 1 hEu.out (by decide) (hU.out.drewN _).b
          have dg6 : decide (2 < ut) = false := decide_eq_false g6
          replace hEu := hEu.out
          rw [if_neg (by omega)] at hEu
          replace hEu := Lib.hid hEu
          go_wp2_with fail
          go_quiet (fail)
          replace hU := Lib.hid (hU.out.drewN nq)
          clear u0 u1 u2 u3 u4 u5 u6 u7 ull m0 m1 m2 m3 m4 m5 m6 m7 m8 mll
          generalize W2.drewN nq = W3 at *
          obtain ⟨u0, u1, u2, u3, u4, u5, u6, u7, ull⟩ := hU.out.ucells
          obtain ⟨m0, m1, m2, m3, m4, m5, m6, m7, m8, mll⟩ := hU.out.wcells
          dsimp only at u0 u1 u2 u3 u4 u5 u6 u7 m0 m1 m2 m3 m4 m5 m6 m7 m8
          by_cases p1 : usp < 0
          · replace hEu := hEu.out
            rw [if_pos (.inl p1)] at hEu
            have dp1 : decide (usp < 0) = true := decide_eq_true p1
            replace hEu := Lib.hid hEu
            go_wp2_with fail
            go_ret
            exact hQu.out _ 6 hEu.out (by decide) hU.out.b
          have dp1 : decide (usp < 0) = false := decide_eq_false p1
          by_cases p2 : (x.field.ground.length : Int) ≤ usp
          · replace hEu := hEu.out
            rw [if_pos (.inr (.inl p2))] at hEu
            have dp2 : decide ((x.field.ground.length : Int) ≤ usp) = true := decide_eq_true p2
            replace hEu := Lib.hid hEu
            go_wp2_with fail
            go_ret
            exact hQu.out _ 6 hEu.out (by decide) hU.out.b
          have dp2 : decide ((x.field.ground.length : Int) ≤ usp) = false := decide_eq_false p2
          by_cases p3 : ug < 0
          · replace hEu := hEu.out
            rw [if_pos (.inr (.inr (.inl p3)))] at hEu
            have dp3 : decide (ug < 0) = true := decide_eq_true p3
            replace hEu := Lib.hid hEu
            go_wp2_with fail
            go_ret
            exact hQu.out _ 6 hEu.out (by decide) hU.out.b
          have dp3 : decide (ug < 0) = false := decide_eq_false p3
          by_cases p4 : (x.field.ground.length : Int) ≤ ug
          · replace hEu := hEu.out
            rw [if_pos (.inr (.inr (.inr p4)))] at hEu
            have dp4 : decide ((x.field.ground.length : Int) ≤ ug) = true := decide_eq_true p4
            replace hEu := Lib.hid hEu
            go_wp2_with fail
            go_ret
            exact hQu.out _ 6 hEu.out (by decide) hU.out.b
          have dp4 : decide ((x.field.ground.length : Int) ≤ ug) = false := decide_eq_false p4
          replace hEu := hEu.out
          rw [if_neg (by omega)] at hEu
          replace hEu := Lib.hid hEu
          obtain ⟨sp, rfl⟩ : ∃ sp : Nat, usp = (sp : Int) := ⟨usp.toNat, by omega⟩
          have hsp : sp < x.field.ground.length := by omega
          replace hEu := hEu.out
          rw [Int.toNat_natCast] at hEu
          replace hEu := Lib.hid hEu
          have hS : ∀ wz, UB w.heap.size w wz ⟨some ⟨bk, okk, none⟩, sc⟩ L ⟨sf, sg, ⟨some ⟨b, o, none⟩, uc⟩, ⟨qA, qc⟩⟩ x wb ub ⟨ui, up, (kd : Int), (sp : Int), ul, uo, ut, ug⟩ → wz.cell? ⟨wb, 2, none⟩ = some (.int .i64 x.field.wide) ∧ wz.cell? ⟨wb, 3, none⟩ = some (.int .i64 x.field.high) ∧ wz.cell? ⟨wb, 4, none⟩ = some (.slice sf.ground.A x.field.ground.length sf.ground.c) ∧ wz.cell? ⟨wb, 5, none⟩ = some (.slice sf.ore.A x.field.ore.length sf.ore.c) ∧ wz.cell? ⟨ub, 2, none⟩ = some (.int .i64 (kd : Int)) ∧ wz.cell? ⟨ub, 3, none⟩ = some (.int .i64 (sp : Int)) ∧ wz.cell? ⟨bk, okk + kd * 11 + 9, none⟩ = some (.bool kf) := fun wz h => by
            obtain ⟨m0, m1, m2, m3, m4, m5, m6, m7, m8, _⟩ := h.wcells
            obtain ⟨_, _, u2, u3, _, _, u6, u7, _⟩ := h.ucells
            obtain ⟨b', o', hA', _, _, _, _, _, _, _, _, _, _, k9, _⟩ := rk_at h.ks.rd kd hkd
            dsimp only at hA'
            injection hA' with hA'
            injection hA' with e3 e4
            subst e3; subst e4
            rw [hkf.out] at k9
            exact ⟨m2, m3, m4, m5, u2, u3, k9⟩
          obtain ⟨ov, hov⟩ : ∃ ov, ontoL x.field sp kf = ov := ⟨_, rfl⟩
          obtain ⟨oi, hoi⟩ : ∃ oi, onI x.units (sp : Int) = oi := ⟨_, rfl⟩
          have hgd := good_gW (good_of x.field hf0.out) sp
          have hon : ∀ wz, UB w.heap.size w wz ⟨some ⟨bk, okk, none⟩, sc⟩ L ⟨sf, sg, ⟨some ⟨b, o, none⟩, uc⟩, ⟨qA, qc⟩⟩ x wb ub ⟨ui, up, (kd : Int), (sp : Int), ul, uo, ut, ug⟩ → Calls Tryz.prog 12 #[.agg #[.int .i64 x.field.wide, .int .i64 x.field.high, .slice sf.ground.A x.field.ground.length sf.ground.c, .slice sf.ore.A x.field.ore.length sf.ore.c], .int .i64 (sp : Int), .bool kf] wz fun e w' => e = .returned (.int .i64 ov) ∧ UB w.heap.size w w' ⟨some ⟨bk, okk, none⟩, sc⟩ L ⟨sf, sg, ⟨some ⟨b, o, none⟩, uc⟩, ⟨qA, qc⟩⟩ x wb ub ⟨ui, up, (kd : Int), (sp : Int), ul, uo, ut, ug⟩ := fun wz h => by
            have := UB.ronto h sp kf hsp hgd
            rwa [hov] at this
          have hoc : ∀ wz, UB w.heap.size w wz ⟨some ⟨bk, okk, none⟩, sc⟩ L ⟨sf, sg, ⟨some ⟨b, o, none⟩, uc⟩, ⟨qA, qc⟩⟩ x wb ub ⟨ui, up, (kd : Int), (sp : Int), ul, uo, ut, ug⟩ → Calls Tryz.prog 13 #[.agg #[.int .i64 x.turn, .int .i64 x.next, .int .i64 x.field.wide, .int .i64 x.field.high, .slice sf.ground.A x.field.ground.length sf.ground.c, .slice sf.ore.A x.field.ore.length sf.ore.c, .slice sg.A x.gold.length sg.c, .slice (some ⟨b, o, none⟩) x.units.length uc, .slice qA x.queue.length qc], .int .i64 (sp : Int)] wz fun e w' => e = .returned (.int .i64 oi) ∧ UB w.heap.size w w' ⟨some ⟨bk, okk, none⟩, sc⟩ L ⟨sf, sg, ⟨some ⟨b, o, none⟩, uc⟩, ⟨qA, qc⟩⟩ x wb ub ⟨ui, up, (kd : Int), (sp : Int), ul, uo, ut, ug⟩ := fun wz h => by
            have := UB.ron h (sp : Int)
            rwa [hoi] at this
          replace hEu := hEu.out
          rw [hov, hoi] at hEu
          replace hEu := Lib.hid hEu
          replace hov := Lib.hid hov
          replace hoi := Lib.hid hoi
          have hQd := hU.out.drewN 1
          have q0 := Lib.hid (hS _ hQd)
          replace hQd := Lib.hid hQd
          replace hS := Lib.hid hS
          replace hon := Lib.hid hon
          replace hoc := Lib.hid hoc
          replace hgd := Lib.hid hgd
          go_upto_region 33 with fail
          clear u0 u1 u2 u3 u4 u5 u6 u7 ull m0 m1 m2 m3 m4 m5 m6 m7 m8 mll
          go_region_held3 (fun wz => wz.cell? ⟨wb, 2, none⟩ = some (.int .i64 x.field.wide) ∧ wz.cell? ⟨wb, 3, none⟩ = some (.int .i64 x.field.high) ∧ wz.cell? ⟨wb, 4, none⟩ = some (.slice sf.ground.A x.field.ground.length sf.ground.c) ∧ wz.cell? ⟨wb, 5, none⟩ = some (.slice sf.ore.A x.field.ore.length sf.ore.c) ∧ wz.cell? ⟨ub, 2, none⟩ = some (.int .i64 (kd : Int)) ∧ wz.cell? ⟨ub, 3, none⟩ = some (.int .i64 (sp : Int)) ∧ wz.cell? ⟨bk, okk + kd * 11 + 9, none⟩ = some (.bool kf)) (first | exact q0.out | exact q2.out) ((go_at_call 12; refine (hon.out _ hQd.out).mono ?_; rintro e w5 ⟨rfl, hQ1⟩; have q2 := Lib.hid (hS.out _ hQ1); replace hQ1 := Lib.hid hQ1; clear hQd))
          clear q0 hS hon hU q2
          have hU := hQ1
          clear hQ1
          obtain ⟨u0, u1, u2, u3, u4, u5, u6, u7, ull⟩ := hU.out.ucells
          obtain ⟨m0, m1, m2, m3, m4, m5, m6, m7, m8, mll⟩ := hU.out.wcells
          dsimp only at u0 u1 u2 u3 u4 u5 u6 u7 m0 m1 m2 m3 m4 m5 m6 m7 m8
          have hoc2 := hoc.out _ hU.out
          replace hoc2 := Lib.hid hoc2
          clear hoc
          go_wp2_with fail
          refine hoc2.out.mono ?_
          clear hoc2
          clear u0 u1 u2 u3 u4 u5 u6 u7 ull m0 m1 m2 m3 m4 m5 m6 m7 m8 mll
          rintro e w6 ⟨rfl, hU6⟩
          clear hU
          have hU := Lib.hid hU6
          clear hU6
          obtain ⟨u0, u1, u2, u3, u4, u5, u6, u7, ull⟩ := hU.out.ucells
          obtain ⟨m0, m1, m2, m3, m4, m5, m6, m7, m8, mll⟩ := hU.out.wcells
          dsimp only at u0 u1 u2 u3 u4 u5 u6 u7 m0 m1 m2 m3 m4 m5 m6 m7 m8
          have hWB : WB w.heap.size w w6 ⟨some ⟨bk, okk, none⟩, sc⟩ L ⟨sf, sg, ⟨some ⟨b, o, none⟩, uc⟩, ⟨qA, qc⟩⟩ x wb := ⟨hU.out.b, hU.out.sz, hU.out.kw, hU.out.wo, hU.out.ks⟩
          replace hWB := Lib.hid hWB
          by_cases z0 : ov = 0
          · have z1 : (ov == 0) = true := by simp [z0]
            replace hEu := hEu.out
            rw [if_pos (.inl z0)] at hEu
            replace hEu := Lib.hid hEu
            replace z0 := Lib.hid z0
            go_wp2_with fail
            go_ret
            exact hQu.out _ 7 hEu.out (by decide) hU.out.b
          have z1 : (ov == 0) = false := by simp [z0]
          by_cases z5 : oi < (k : Int)
          · have z3 : decide (oi < (k : Int)) = true := decide_eq_true z5
            replace hEu := hEu.out
            rw [if_pos (.inr (.inl z5))] at hEu
            replace hEu := Lib.hid hEu
            go_wp2_with fail
            go_ret
            exact hQu.out _ 7 hEu.out (by decide) hU.out.b
          have z3 : decide (oi < (k : Int)) = false := decide_eq_false z5
          by_cases z6 : ug = 0
          · have z7 : (ug != 0) = false := by simp [z6]
            replace hEu := hEu.out
            rw [if_neg (by rintro (h | h | h); exact z0 h; exact z5 h; exact h.1 z6)] at hEu
            replace hEu := Lib.hid hEu
            have hrl := hst2.out hEu.out
            replace hrl := Lib.hid hrl
            replace z6 := Lib.hid z6
            go_wp2_with fail
            go_roundw
            case rel => exact ⟨k + 1, by go_num, by omega, hrl.out, hWB⟩
            case measure => simp [intOf]; omega
          have z7 : (ug != 0) = true := by simp [z6]
          by_cases z8 : ut = 0
          · have z9 : (ut == 0) = true := by simp [z8]
            replace hEu := hEu.out
            rw [if_pos (.inr (.inr ⟨z6, z8⟩))] at hEu
            replace hEu := Lib.hid hEu
            replace z8 := Lib.hid z8
            go_wp2_with fail
            go_ret
            exact hQu.out _ 7 hEu.out (by decide) hU.out.b
          have z9 : (ut == 0) = false := by simp [z8]
          replace hEu := hEu.out
          rw [if_neg (by rintro (h | h | h); exact z0 h; exact z5 h; exact z8 h.2)] at hEu
          replace hEu := Lib.hid hEu
          have hrl := hst2.out hEu.out
          replace hrl := Lib.hid hrl
          replace z8 := Lib.hid z8
          go_wp2_with fail
          go_roundw
          case rel => exact ⟨k + 1, by go_num, by omega, hrl.out, hWB⟩
          case measure => simp [intOf]; omega
        · as_aux_lemma =>
          have z2 : ¬ (k : Int) < (x.units.length : Int) := by omega
          obtain rfl : k = x.units.length := by omega
          replace hE := hE.out
          rw [if_neg (fun c => c hz.out)] at hE
          have hUk : ∀ i, i < x.units.length → 0 ≤ (gu x.units i).kind ∧ (gu x.units i).kind < L.length := fun i hi => (unitE_ok (seqE_0 _ hz.out i hi)).kind
          have hmJ := seqE_mono (fun i => jobE L x (gj x.queue i))
          replace hmJ := Lib.hid hmJ
          replace hUk := Lib.hid hUk
          by_cases h12 : 12 < x.queue.length
          · have z5 : (12 : Int) < (x.queue.length : Int) := by omega
            rw [if_pos h12] at hE
            replace hE := Lib.hid hE
            go_wp2_with fail
            go_ret
            exact hQ.out _ 4 hE.out hBB.out.b
          have z5 : ¬ (12 : Int) < (x.queue.length : Int) := by omega
          rw [if_neg h12] at hE
          replace hE := Lib.hid hE
          obtain ⟨wo, rfl⟩ : ∃ wo : World, wo = wr := ⟨_, rfl⟩
          go_wp2_with fail
          clear m0 m1 m2 m3 m4 m5 m6 m7 m8 mll
          go_loopw [15] (fun vi wr => ∃ k : Nat, vi = .int .i64 k ∧ k ≤ x.queue.length ∧ Hid (seqE (fun i => jobE L x (gj x.queue i)) k = 0) ∧ Hid (WB w.heap.size w wr sK L ⟨sf, sg, ⟨uA, uc⟩, ⟨qA, qc⟩⟩ x wb)) (fun vi _ => x.queue.length - (intOf vi).toNat)
          case atStart => exact ⟨0, rfl, Nat.zero_le _, Lib.hid rfl, hBB⟩
          case round =>
            clear hBB
            obtain ⟨k, rfl, hk, hz2, hBB⟩ := hrel
            obtain ⟨m0, m1, m2, m3, m4, m5, m6, m7, m8, mll⟩ := hBB.out.wcells
            by_cases hlt : k < x.queue.length
            · have z6 : (k : Int) < (x.queue.length : Int) := by omega
              obtain ⟨bq, oq, hA, hbl, c0, c1, c2, c3⟩ := rj_at hBB.out.wo.rj k hlt
              have hst : seqE (fun i => jobE L x (gj x.queue i)) (k + 1) = jobE L x (gj x.queue k) := by rw [seqE, if_neg (fun e => e hz2.out)]
              have hQj : ∀ w' E, jobE L x (gj x.queue k) = E → E ≠ 0 → Below w.heap.size w w' → Ending.returned (.int .i64 E) = Ending.returned (.int .i64 (worldE L x)) ∧ Below w.heap.size w w' := fun w' E he hne hb => by
                have h1 := hmJ.out (k + 1) x.queue.length (by omega) (by rw [hst, he]; exact hne)
                exact hQ.out w' E (by rw [hE.out, h1, hst, he]) hb
              have hst2 : jobE L x (gj x.queue k) = 0 → Hid (seqE (fun i => jobE L x (gj x.queue i)) (k + 1) = 0) := fun e => Lib.hid (by rw [hst, e])
              dsimp only at hA
              subst hA
              obtain ⟨gg, hgg⟩ : ∃ gg, gj x.queue k = gg := ⟨_, rfl⟩
              rw [hgg] at c0 c1 c2 c3 hst hQj hst2
              obtain ⟨jp, ju, jk, jl⟩ := gg
              have hEj : jobE L x ⟨jp, ju, jk, jl⟩ = jobE L x ⟨jp, ju, jk, jl⟩ := rfl
              conv at hEj => rhs; unfold jobE
              dsimp only at c0 c1 c2 c3 hEj
              have hal : Below wr.heap.size wr (wr.alloc (.cells #[.int .i64 jp, .int .i64 ju, .int .i64 jk, .int .i64 jl] 71)) := (Below.refl _ _).alloc (Nat.le_refl _) _
              have hBa := hBB.out.below hal
              have hkj := Blk.new wr 71 #[.int .i64 jp, .int .i64 ju, .int .i64 jk, .int .i64 jl]
              replace hgg := Lib.hid hgg
              replace hBa := Lib.hid hBa
              replace hkj := Lib.hid hkj
              replace hst := Lib.hid hst
              replace hst2 := Lib.hid hst2
              replace hQj := Lib.hid hQj
              have hge := first_ge (fun v : GU => v.id == ju) x.units
              have hfl := first_lt (fun v : GU => v.id == ju) x.units
              obtain ⟨r, hr⟩ : ∃ r, findId x.units ju = r := ⟨_, rfl⟩
              rw [show firstI (fun v : GU => v.id == ju) x.units = r from hr] at hge hfl
              rw [hr] at hEj
              replace hEj := Lib.hid hEj
              replace hfl := Lib.hid hfl
              replace hr := Lib.hid hr
              go_upto_region 43 with fail
              obtain ⟨jb, hjb⟩ : ∃ jb, wr.heap.size = jb := ⟨_, rfl⟩
              rw [hjb]
              replace hkj : Blk (wr.alloc (.cells #[.int .i64 jp, .int .i64 ju, .int .i64 jk, .int .i64 jl] 71)) jb 71 #[.int .i64 jp, .int .i64 ju, .int .i64 jk, .int .i64 jl] := by rw [← hjb]; exact hkj.out
              clear hal c0 c1 c2 c3
              clear m0 m1 m2 m3 m4 m5 m6 m7 m8 mll
              generalize (wr.alloc (.cells #[.int .i64 jp, .int .i64 ju, .int .i64 jk, .int .i64 jl] 71)) = wa at *
              replace hjb := Lib.hid hjb
              obtain ⟨m0, m1, m2, m3, m4, m5, m6, m7, m8, mll⟩ := hBa.out.wcells
              have j1 : wa.cell? ⟨jb, 1, none⟩ = some (.int .i64 ju) := hkj.cell 1
              have jll := hkj.lt
              have hfi := rwfind_any ⟨sf, sg, ⟨uA, uc⟩, ⟨some ⟨bq, oq, none⟩, qc⟩⟩ x ju wa hBa.out.wo
              rw [hr.out] at hfi
              replace hfi := Lib.hid hfi
              replace hkj := Lib.hid hkj
              go_wp2_with fail
              refine hfi.out.mono ?_
              clear hfi j1 jll
              clear m0 m1 m2 m3 m4 m5 m6 m7 m8 mll
              rintro e wf ⟨rfl, hbf⟩
              have hBf := hBa.out.below hbf
              have hkf := hkj.out.below hbf hkj.out.lt
              clear hbf hBa hkj
              obtain ⟨m0, m1, m2, m3, m4, m5, m6, m7, m8, mll⟩ := hBf.wcells
              have j0 : wf.cell? ⟨jb, 0, none⟩ = some (.int .i64 jp) := hkf.cell 0
              have j1 : wf.cell? ⟨jb, 1, none⟩ = some (.int .i64 ju) := hkf.cell 1
              have j2 : wf.cell? ⟨jb, 2, none⟩ = some (.int .i64 jk) := hkf.cell 2
              have j3 : wf.cell? ⟨jb, 3, none⟩ = some (.int .i64 jl) := hkf.cell 3
              have jll := hkf.lt
              replace hkf := Lib.hid hkf
              by_cases h1 : r < 0
              · replace hBf := Lib.hid hBf
                replace hEj := hEj.out
                rw [if_pos h1] at hEj
                replace hEj := Lib.hid hEj
                go_wp2_with fail
                go_ret
                exact hQj.out _ 6 hEj.out (by decide) hBf.out.b
              replace hEj := hEj.out
              rw [if_neg h1] at hEj
              replace hEj := Lib.hid hEj
              obtain ⟨n, rfl⟩ : ∃ n : Nat, r = (n : Int) := ⟨r.toNat, by omega⟩
              have hn : n < x.units.length := by have := hfl.out; omega
              have hni : (n : Int) < (x.units.length : Int) := by omega
              obtain ⟨b, o, hA, hbl2, _, c1, c2, _, _, _, _, _⟩ := ru_at hBf.wo.ru n hn
              dsimp only at hA
              have hun := hUk.out n hn
              replace hEj := hEj.out
              rw [Int.toNat_natCast] at hEj
              obtain ⟨u, hux⟩ : ∃ u, gu x.units n = u := ⟨_, rfl⟩
              rw [hux] at hEj c1 c2 hun
              obtain ⟨ui, up, uk, usp, ul, uo, ut, ug⟩ := u
              dsimp only at hEj c1 c2 hun
              obtain ⟨kd, rfl⟩ : ∃ kd : Nat, uk = (kd : Int) := ⟨uk.toNat, by omega⟩
              have hkd : kd < L.length := by omega
              have hkdi : (kd : Int) < (L.length : Int) := by omega
              rw [Int.toNat_natCast] at hEj
              obtain ⟨sA, sc⟩ := sK
              dsimp only at hcap hmx
              obtain ⟨bk, okk, hAk, hbk, _, _, _, _, _, _, _, _, _, _, k10⟩ := rk_at hBf.ks.rd kd hkd
              dsimp only at hAk
              subst hAk
              subst hA
              generalize hkt : (gk L kd).trains = kt at *
              replace hkt := Lib.hid hkt
              replace hEj := Lib.hid hEj
              replace hux := Lib.hid hux
              replace hBf := Lib.hid hBf
              replace hun := Lib.hid hun
              by_cases h2 : up = jp
              · have d2 : (up != jp) = false := by simp [h2]
                cases kt with
                | false =>
                  replace hEj := hEj.out
                  rw [if_pos (.inr rfl)] at hEj
                  replace hEj := Lib.hid hEj
                  replace h2 := Lib.hid h2
                  go_wp2_with fail
                  go_quiet (fail)
                  go_wp2_with fail
                  go_ret
                  exact hQj.out _ 7 hEj.out (by decide) (hBf.out.drewN _).b
                | true =>
                  replace hEj := hEj.out
                  rw [if_neg (by rintro (h | h); exact h h2; cases h)] at hEj
                  replace hEj := Lib.hid hEj
                  replace h2 := Lib.hid h2
                  by_cases f1 : jk < 0
                  · replace hEj := hEj.out
                    rw [if_pos (.inl f1)] at hEj
                    replace hEj := Lib.hid hEj
                    go_wp2_with fail
                    go_quiet (fail)
                    go_wp2_with fail
                    go_ret
                    exact hQj.out _ 1 hEj.out (by decide) (hBf.out.drewN _).b
                  by_cases f2 : (L.length : Int) ≤ jk
                  · replace hEj := hEj.out
                    rw [if_pos (.inr (.inl f2))] at hEj
                    replace hEj := Lib.hid hEj
                    go_wp2_with fail
                    go_quiet (fail)
                    go_wp2_with fail
                    go_ret
                    exact hQj.out _ 1 hEj.out (by decide) (hBf.out.drewN _).b
                  by_cases f3 : jl < 1
                  · replace hEj := hEj.out
                    rw [if_pos (.inr (.inr (.inl f3)))] at hEj
                    replace hEj := Lib.hid hEj
                    go_wp2_with fail
                    go_quiet (fail)
                    go_wp2_with fail
                    go_ret
                    exact hQj.out _ 1 hEj.out (by decide) (hBf.out.drewN _).b
                  by_cases f4 : 1000 < jl
                  · replace hEj := hEj.out
                    rw [if_pos (.inr (.inr (.inr f4)))] at hEj
                    replace hEj := Lib.hid hEj
                    go_wp2_with fail
                    go_quiet (fail)
                    go_wp2_with fail
                    go_ret
                    exact hQj.out _ 1 hEj.out (by decide) (hBf.out.drewN _).b
                  replace hEj := hEj.out
                  rw [if_neg (by omega)] at hEj
                  replace hEj := Lib.hid hEj
                  have hrl := hst2.out hEj.out
                  replace hrl := Lib.hid hrl
                  have hR : ∀ q, Hid (WB w.heap.size w (wf.drewN q) ⟨some ⟨bk, okk, none⟩, sc⟩ L ⟨sf, sg, ⟨some ⟨b, o, none⟩, uc⟩, ⟨some ⟨bq, oq, none⟩, qc⟩⟩ x wb) := fun q => Lib.hid (hBf.out.drewN q)
                  replace hR := Lib.hid hR
                  go_wp2_with fail
                  go_quiet (fail)
                  go_wp2_with fail
                  go_roundw
                  case rel => exact ⟨k + 1, by go_num, by omega, hrl.out, hR.out _⟩
                  case measure => simp [intOf]; omega
              · have d2 : (up != jp) = true := by simp [h2]
                replace hEj := hEj.out
                rw [if_pos (.inl h2)] at hEj
                replace hEj := Lib.hid hEj
                replace h2 := Lib.hid h2
                go_wp2_with fail
                go_quiet (fail)
                go_wp2_with fail
                go_ret
                exact hQj.out _ 7 hEj.out (by decide) (hBf.out.drewN _).b
            · have z6 : ¬ (k : Int) < (x.queue.length : Int) := by omega
              obtain rfl : k = x.queue.length := by omega
              have hE1 : worldE L x = 0 := by rw [hE.out]; exact hz2.out
              replace hE1 := Lib.hid hE1
              go_wp2_with fail
              go_ret
              exact hQ.out _ 0 hE1.out hBB.out.b
end Go.Proofs.YtkgkpggfoieioaaGreatDoor
