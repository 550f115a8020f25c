import Derived.Test.YtkgkpggfoieioaaDoorWish
import Derived.Test.YtkgkpggfoieioaaDoorPlaceO
namespace Go.Proofs.YtkgkpggfoieioaaDoor
set_option linter.unusedVariables false
open Go.RowKit
/-! move.Do, move.Move where all rest. -/
def AllRest (x : GW) : Prop := ∀ i, i < x.units.length → (gu x.units i).task = 0
theorem wish_rest {L : List GK} {x : GW} (h : AllRest x) {i : Nat} (hi : i < x.units.length) : wishU L x (gu x.units i) = (gu x.units i).spot.toNat := by
  unfold wishU
  rw [if_neg (by rw [h i hi]; decide), if_neg (by rw [h i hi]; decide)]
theorem results_ctt3 {P : Program} {fn : Func} {p u v : Tmp} {ty : TypeId} (h : fn.results = #[.cell p ty, .tmp u, .tmp v]) (tmps : Array Value) (w : World) (g : Nat) (t : TypeId) (cs : Array Value) (d : TypeDesc)
    (hp : tmps.getD p undef = .pointer (some ⟨g, 0, none⟩)) (hg : w.heap[g]? = some (.cells cs t (0, 0)))
    (hu : P.underlying ty = some d) (hd : (match d with | .struct _ | .array _ _ => true | _ => false) = true) (hi : (P.info? ty).map (·.size) = some cs.size) :
    (results fn tmps).run P w = .ok (.tuple #[.agg cs, tmps.getD u undef, tmps.getD v undef]) w := by
  have hp' : tmps[p]?.getD undef = .pointer (some ⟨g, 0, none⟩) := by simpa using hp
  simp [results, h, hp', asAddr, run_loadVar_row w g t ty cs (0, 0) d hg hu hd hi]
set_option maxHeartbeats 12800000 in
set_option maxRecDepth 100000 in
theorem do_rest (sK : SL) (L : List GK) (s : SW) (x : GW) (wb : Nat) (w : World) (hK : KS w w.heap.size sK L) (hW : WOk w s x) (hkw : Blk w wb 55 #[.int .i64 x.turn, .int .i64 x.next, .int .i64 x.field.wide, .int .i64 x.field.high, .slice s.field.ground.A x.field.ground.length s.field.ground.c, .slice s.field.ore.A x.field.ore.length s.field.ore.c, .slice s.gold.A x.gold.length s.gold.c, .slice s.units.A x.units.length s.units.c, .slice s.queue.A x.queue.length s.queue.c]) (hm : WM L x) (hr : AllRest x) :
    Calls Tryd.prog 101 #[.slice sK.A L.length sK.c, .pointer (some ⟨wb, 0, none⟩)] w fun e w' => e = .returned (.slice none 0 0) ∧ Below w.heap.size w w' := by
  have hB : SBx w w sK L s x wb := ⟨Below.refl _ _, hkw, hK, hW⟩
  have hul := hW.ulen
  by_cases h0 : x.units.length = 0
  · as_aux_lemma =>
    have z1 : ¬ ((0 : Int) < (x.units.length : Int)) := by omega
    replace hB := Lib.hid hB
    replace h0 := Lib.hid h0
    clear hK hW hkw
    go_enter Tryd.func101, Tryd.ntmps101
    obtain ⟨m0, m1, m2, m3, m4, m5, m6, m7, m8, mll⟩ := hB.out.cells
    go_wp2_with fail
    clear m0 m1 m2 m3 m4 m5 m6 m7 m8 mll
    go_loopw [4, 14] (fun v4 v14 wr => v4 = .slice none 0 0 ∧ v14 = .int .i64 0 ∧ w = wr) (fun _ _ _ => 0)
    case atStart => exact ⟨rfl, rfl, rfl⟩
    case round =>
      obtain ⟨rfl, rfl, rfl⟩ := hrel
      go_wp2_with fail
      go_ret
      exact ⟨rfl, Below.refl _ _⟩
  obtain ⟨bk, okk, hAk, _⟩ := rk_at hK.rd (gu x.units 0).kind.toNat (by have := hm.kind 0 (by omega); omega)
  obtain ⟨sA, sc⟩ := sK
  dsimp only at hAk
  subst hAk
  dsimp only
  have hcap := hK.cap
  have hmx := hK.max
  dsimp only at hcap hmx
  replace hB := Lib.hid hB
  replace hm := Lib.hid hm
  replace hr := Lib.hid hr
  clear hK hW hkw h0
  go_enter Tryd.func101, Tryd.ntmps101
  obtain ⟨m0, m1, m2, m3, m4, m5, m6, m7, m8, mll⟩ := hB.out.cells
  go_wp2_with fail
  clear m0 m1 m2 m3 m4 m5 m6 m7 m8 mll
  go_loopw [4, 14] (fun v4 v14 wr => ∃ k : Nat, v4 = .slice none 0 0 ∧ v14 = .int .i64 k ∧ k ≤ x.units.length ∧ Hid (SBx w wr ⟨some ⟨bk, okk, none⟩, sc⟩ L s x wb)) (fun _ v14 _ => x.units.length - (intOf v14).toNat)
  case atStart => exact ⟨0, rfl, rfl, Nat.zero_le _, hB⟩
  case round =>
    clear hB
    obtain ⟨k, rfl, rfl, hk, hB⟩ := hrel
    obtain ⟨wo, hwo⟩ : ∃ wo : World, wo = wr := ⟨_, rfl⟩
    subst hwo
    by_cases hlt : k < x.units.length
    · as_aux_lemma =>
      have z1 : (k : Int) < (x.units.length : Int) := by omega
      obtain ⟨a, hsa⟩ : ∃ a : Nat, (gu x.units k).spot = (a : Int) := ⟨(gu x.units k).spot.toNat, by have := hm.out.spot k hlt; omega⟩
      obtain ⟨kv, hkv⟩ : ∃ kv : Nat, (gu x.units k).kind = (kv : Int) := ⟨(gu x.units k).kind.toNat, by have := hm.out.kind k hlt; omega⟩
      have hkvl : kv < L.length := by have := hm.out.kind k hlt; omega
      have hkvi : (kv : Int) < (L.length : Int) := by omega
      obtain ⟨xb, xo, hXA, _, p0, p1, p2, p3, p4, p5, p6, p7⟩ := ru_at hB.out.wo_.2.2.2.2.1.1 k hlt
      rw [hr.out k hlt] at p6
      rw [hkv] at p2
      rw [hsa] at p3
      obtain ⟨b', o', hA', _, _, _, _, _, _, g5, _⟩ := rk_at hB.out.ks_.rd kv hkvl
      dsimp only at hA'
      injection hA' with hA'
      injection hA' with e3 e4
      subst e3; subst e4
      have hwi : Calls Tryd.prog 103 #[.slice (some ⟨bk, okk, none⟩) L.length sc, .agg #[.int .i64 x.turn, .int .i64 x.next, .int .i64 x.field.wide, .int .i64 x.field.high, .slice s.field.ground.A x.field.ground.length s.field.ground.c, .slice s.field.ore.A x.field.ore.length s.field.ore.c, .slice s.gold.A x.gold.length s.gold.c, .slice s.units.A x.units.length s.units.c, .slice s.queue.A x.queue.length s.queue.c], .int .i64 (k : Int)] wo fun e w' => e = .returned (.int .i64 ((wishU L x (gu x.units k) : Nat) : Int)) ∧ Below wo.heap.size wo w' := wish_any ⟨some ⟨bk, okk, none⟩, sc⟩ L s x k wo hB.out.ks_ hB.out.wo_ hm.out hlt
      rw [wish_rest hr.out hlt, hsa, Int.toNat_natCast] at hwi
      generalize (gk L kv).speed = sp at *
      rw [hXA] at hwi
      replace hwi := Lib.hid hwi
      obtain ⟨m0, m1, m2, m3, m4, m5, m6, m7, m8, mll⟩ := hB.out.cells
      rw [hXA] at m7
      replace hXA := Lib.hid hXA
      replace hsa := Lib.hid hsa
      replace hkv := Lib.hid hkv
      go_wp2_with fail
      go_loopw [4, 7] (fun v4 v7 wr => v4 = .slice none 0 0 ∧ v7 = .int .i64 sp ∧ wo = wr) (fun _ _ _ => 0)
      case atStart => exact ⟨rfl, rfl, rfl⟩
      case round =>
        obtain ⟨rfl, rfl, rfl⟩ := hrel
        go_upto_region 7 with (go_at_call 103; refine hwi.out.mono ?_; rintro e W2 ⟨rfl, hb2⟩)
        clear hwi
        have hB2 := (hB.out.below hb2).drewN 1
        clear hB hb2
        have hB : Hid (SBx w W2.drew ⟨some ⟨bk, okk, none⟩, sc⟩ L s x wb) := Lib.hid hB2
        clear hB2
        have hS : ∀ wz, (SBx w wz ⟨some ⟨bk, okk, none⟩, sc⟩ L s x wb) → (fun wz => wz.cell? ⟨xb, xo + k * 8 + 3, none⟩ = some (.int .i64 (a : Int))) wz := fun wz h => by
          obtain ⟨xb', xo', hXA', _, p0, p1, p2, p3, _⟩ := ru_at h.wo_.2.2.2.2.1.1 k hlt
          rw [hXA.out] at hXA'
          injection hXA' with hA'
          injection hA' with e3 e4
          subst e3; subst e4
          rw [hsa.out] at p3
          exact p3
        have hS0 := hS _ hB.out
        clear p0 p1 p2 p3 p4 p5 p6 p7 m0 m1 m2 m3 m4 m5 m6 m7 m8 mll
        refine wp_region_noPanic ?_
        refine wp_region_held_drew (S := (fun wz => wz.cell? ⟨xb, xo + k * 8 + 3, none⟩ = some (.int .i64 (a : Int)))) (by kernel_rfl) hS0 (fun hHeld => ?_)
        clear hS0 hS
        generalize W2.drew = Wd at *
        refine wpAnyH_take (i := 0) (oi := _) (v := ?_) rfl (by kernel_rfl) (by kernel_rfl) (by kernel_rfl) (fun _ _ _ h => h) (Or.inl ⟨by rfl, ?_⟩) (by assumption) ?_
        rotate_left
        · intro w' hSw
          try dsimp only at hSw
          first | (go_simp; done) | (go_simp; with_reducible rfl)
        try simp only [Act.put]
        try simp only [List.setIfInBounds_toArray]
        try simp only [List.set_cons_succ, List.set_cons_zero]
        try simp only [List.getElem_toArray]
        try simp only [List.getElem_cons_succ]
        try simp only [List.getElem_cons_zero]
        refine wpAnyH_take (i := 1) (oi := _) (v := ?_) rfl (by kernel_rfl) (by kernel_rfl) (by kernel_rfl) (fun _ _ _ h => h) (Or.inl ⟨by rfl, ?_⟩) (by assumption) ?_
        rotate_left
        · intro w' hSw
          try dsimp only at hSw
          first | (go_simp; done) | (go_simp; with_reducible rfl)
        try simp only [Act.put]
        try simp only [List.setIfInBounds_toArray]
        try simp only [List.set_cons_succ, List.set_cons_zero]
        try simp only [List.getElem_toArray]
        try simp only [List.getElem_cons_succ]
        try simp only [List.getElem_cons_zero]
        refine wpAnyH_take (i := 2) (oi := _) (v := ?_) rfl (by kernel_rfl) (by kernel_rfl) (by kernel_rfl) (fun _ _ _ h => h) (Or.inl ⟨by rfl, ?_⟩) (by assumption) ?_
        rotate_left
        · intro w' hSw
          try dsimp only at hSw
          first | (go_simp; done) | (go_simp; with_reducible rfl)
        try simp only [Act.put]
        try simp only [List.setIfInBounds_toArray]
        try simp only [List.set_cons_succ, List.set_cons_zero]
        try simp only [List.getElem_toArray]
        try simp only [List.getElem_cons_succ]
        try simp only [List.getElem_cons_zero]
        refine wpAnyH_take (i := 3) (oi := _) (v := ?_) rfl (by kernel_rfl) (by kernel_rfl) (by kernel_rfl) (fun _ _ _ h => h) (Or.inl ⟨by rfl, ?_⟩) (by assumption) ?_
        rotate_left
        · intro w' hSw
          try dsimp only at hSw
          first | (go_simp; done) | (go_simp; with_reducible rfl)
        try simp only [Act.put]
        try simp only [List.setIfInBounds_toArray]
        try simp only [List.set_cons_succ, List.set_cons_zero]
        try simp only [List.getElem_toArray]
        try simp only [List.getElem_cons_succ]
        try simp only [List.getElem_cons_zero]
        refine wpAnyH_take (i := 4) (oi := _) (v := ?_) rfl (by kernel_rfl) (by kernel_rfl) (by kernel_rfl) (fun _ _ _ h => h) (Or.inl ⟨by rfl, ?_⟩) (by assumption) ?_
        rotate_left
        · intro w' hSw
          try dsimp only at hSw
          first | (go_simp; done) | (go_simp; with_reducible rfl)
        try simp only [Act.put]
        try simp only [List.setIfInBounds_toArray]
        try simp only [List.set_cons_succ, List.set_cons_zero]
        try simp only [List.getElem_toArray]
        try simp only [List.getElem_cons_succ]
        try simp only [List.getElem_cons_zero]
        refine wpAnyH_take (i := 5) (oi := _) (v := ?_) rfl (by kernel_rfl) (by kernel_rfl) (by kernel_rfl) (fun _ _ _ h => h) (Or.inl ⟨by rfl, ?_⟩) (by assumption) ?_
        rotate_left
        · intro w' hSw
          try dsimp only at hSw
          first | (go_simp; done) | (go_simp; with_reducible rfl)
        try simp only [Act.put]
        try simp only [List.setIfInBounds_toArray]
        try simp only [List.set_cons_succ, List.set_cons_zero]
        try simp only [List.getElem_toArray]
        try simp only [List.getElem_cons_succ]
        try simp only [List.getElem_cons_zero]
        refine wpAnyH_take (i := 6) (oi := _) (v := ?_) rfl (by kernel_rfl) (by kernel_rfl) (by kernel_rfl) (fun _ _ _ h => h) (Or.inl ⟨by rfl, ?_⟩) (by assumption) ?_
        rotate_left
        · intro w' hSw
          try dsimp only at hSw
          first | (go_simp; done) | (go_simp; with_reducible rfl)
        try simp only [Act.put]
        try simp only [List.setIfInBounds_toArray]
        try simp only [List.set_cons_succ, List.set_cons_zero]
        try simp only [List.getElem_toArray]
        try simp only [List.getElem_cons_succ]
        try simp only [List.getElem_cons_zero]
        refine wpAnyH_take (i := 7) (oi := _) (v := undef) rfl (by kernel_rfl) (by kernel_rfl) (by kernel_rfl) (fun _ _ _ h => h) (Or.inr ⟨by rfl, rfl⟩) (by assumption) ?_
        try simp only [Act.put]
        try simp only [List.setIfInBounds_toArray]
        try simp only [List.set_cons_succ, List.set_cons_zero]
        try simp only [List.getElem_toArray]
        try simp only [List.getElem_cons_succ]
        try simp only [List.getElem_cons_zero]
        refine wpAnyH_take (i := 8) (oi := _) (v := undef) rfl (by kernel_rfl) (by kernel_rfl) (by kernel_rfl) (fun _ _ _ h => h) (Or.inr ⟨by rfl, rfl⟩) (by assumption) ?_
        try simp only [Act.put]
        try simp only [List.setIfInBounds_toArray]
        try simp only [List.set_cons_succ, List.set_cons_zero]
        try simp only [List.getElem_toArray]
        try simp only [List.getElem_cons_succ]
        try simp only [List.getElem_cons_zero]
        refine wpAnyH_take (i := 9) (oi := _) (v := undef) rfl (by kernel_rfl) (by kernel_rfl) (by kernel_rfl) (fun _ _ _ h => h) (Or.inr ⟨by rfl, rfl⟩) (by assumption) ?_
        try simp only [Act.put]
        try simp only [List.setIfInBounds_toArray]
        try simp only [List.set_cons_succ, List.set_cons_zero]
        try simp only [List.getElem_toArray]
        try simp only [List.getElem_cons_succ]
        try simp only [List.getElem_cons_zero]
        refine wpAnyH_take (i := 10) (oi := _) (v := undef) rfl (by kernel_rfl) (by kernel_rfl) (by kernel_rfl) (fun _ _ _ h => h) (Or.inr ⟨by rfl, rfl⟩) (by assumption) ?_
        try simp only [Act.put]
        try simp only [List.setIfInBounds_toArray]
        try simp only [List.set_cons_succ, List.set_cons_zero]
        try simp only [List.getElem_toArray]
        try simp only [List.getElem_cons_succ]
        try simp only [List.getElem_cons_zero]
        refine wpAnyH_take (i := 11) (oi := _) (v := undef) rfl (by kernel_rfl) (by kernel_rfl) (by kernel_rfl) (fun _ _ _ h => h) (Or.inr ⟨by rfl, rfl⟩) (by assumption) ?_
        try simp only [Act.put]
        try simp only [List.setIfInBounds_toArray]
        try simp only [List.set_cons_succ, List.set_cons_zero]
        try simp only [List.getElem_toArray]
        try simp only [List.getElem_cons_succ]
        try simp only [List.getElem_cons_zero]
        refine wpAnyH_take (i := 12) (oi := _) (v := undef) rfl (by kernel_rfl) (by kernel_rfl) (by kernel_rfl) (fun _ _ _ h => h) (Or.inr ⟨by rfl, rfl⟩) (by assumption) ?_
        try simp only [Act.put]
        try simp only [List.setIfInBounds_toArray]
        try simp only [List.set_cons_succ, List.set_cons_zero]
        try simp only [List.getElem_toArray]
        try simp only [List.getElem_cons_succ]
        try simp only [List.getElem_cons_zero]
        refine wpAnyH_take (i := 13) (oi := _) (v := ?_) rfl (by kernel_rfl) (by kernel_rfl) (by kernel_rfl) (fun _ _ _ h => h) (Or.inl ⟨by rfl, ?_⟩) (by assumption) ?_
        rotate_left
        · intro w' hSw
          try dsimp only at hSw
          first | (go_simp; done) | (go_simp; with_reducible rfl)
        try simp only [Act.put]
        try simp only [List.setIfInBounds_toArray]
        try simp only [List.set_cons_succ, List.set_cons_zero]
        try simp only [List.getElem_toArray]
        try simp only [List.getElem_cons_succ]
        try simp only [List.getElem_cons_zero]
        refine wpAnyH_take (i := 14) (oi := _) (v := ?_) rfl (by kernel_rfl) (by kernel_rfl) (by kernel_rfl) (fun _ _ _ h => h) (Or.inl ⟨by rfl, ?_⟩) (by assumption) ?_
        rotate_left
        · intro w' hSw
          try dsimp only at hSw
          first | (go_simp; done) | (go_simp; with_reducible rfl)
        try simp only [Act.put]
        try simp only [List.setIfInBounds_toArray]
        try simp only [List.set_cons_succ, List.set_cons_zero]
        try simp only [List.getElem_toArray]
        try simp only [List.getElem_cons_succ]
        try simp only [List.getElem_cons_zero]
        refine wpAnyH_take (i := 15) (oi := _) (v := undef) rfl (by kernel_rfl) (by kernel_rfl) (by kernel_rfl) (fun _ _ _ h => h) (Or.inr ⟨by rfl, rfl⟩) (by assumption) ?_
        try simp only [Act.put]
        try simp only [List.setIfInBounds_toArray]
        try simp only [List.set_cons_succ, List.set_cons_zero]
        try simp only [List.getElem_toArray]
        try simp only [List.getElem_cons_succ]
        try simp only [List.getElem_cons_zero]
        refine wpAnyH_take (i := 16) (oi := _) (v := undef) rfl (by kernel_rfl) (by kernel_rfl) (by kernel_rfl) (fun _ _ _ h => h) (Or.inr ⟨by rfl, rfl⟩) (by assumption) ?_
        try simp only [Act.put]
        try simp only [List.setIfInBounds_toArray]
        try simp only [List.set_cons_succ, List.set_cons_zero]
        try simp only [List.getElem_toArray]
        try simp only [List.getElem_cons_succ]
        try simp only [List.getElem_cons_zero]
        refine wpAnyH_take (i := 17) (oi := _) (v := undef) rfl (by kernel_rfl) (by kernel_rfl) (by kernel_rfl) (fun _ _ _ h => h) (Or.inr ⟨by rfl, rfl⟩) (by assumption) ?_
        try simp only [Act.put]
        try simp only [List.setIfInBounds_toArray]
        try simp only [List.set_cons_succ, List.set_cons_zero]
        try simp only [List.getElem_toArray]
        try simp only [List.getElem_cons_succ]
        try simp only [List.getElem_cons_zero]
        refine wpAnyH_take (i := 18) (oi := _) (v := undef) rfl (by kernel_rfl) (by kernel_rfl) (by kernel_rfl) (fun _ _ _ h => h) (Or.inr ⟨by rfl, rfl⟩) (by assumption) ?_
        try simp only [Act.put]
        try simp only [List.setIfInBounds_toArray]
        try simp only [List.set_cons_succ, List.set_cons_zero]
        try simp only [List.getElem_toArray]
        try simp only [List.getElem_cons_succ]
        try simp only [List.getElem_cons_zero]
        refine wpAnyH_take (i := 19) (oi := _) (v := undef) rfl (by kernel_rfl) (by kernel_rfl) (by kernel_rfl) (fun _ _ _ h => h) (Or.inr ⟨by rfl, rfl⟩) (by assumption) ?_
        try simp only [Act.put]
        try simp only [List.setIfInBounds_toArray]
        try simp only [List.set_cons_succ, List.set_cons_zero]
        try simp only [List.getElem_toArray]
        try simp only [List.getElem_cons_succ]
        try simp only [List.getElem_cons_zero]
        refine wpAnyH_take (i := 20) (oi := _) (v := undef) rfl (by kernel_rfl) (by kernel_rfl) (by kernel_rfl) (fun _ _ _ h => h) (Or.inr ⟨by rfl, rfl⟩) (by assumption) ?_
        try simp only [Act.put]
        try simp only [List.setIfInBounds_toArray]
        try simp only [List.set_cons_succ, List.set_cons_zero]
        try simp only [List.getElem_toArray]
        try simp only [List.getElem_cons_succ]
        try simp only [List.getElem_cons_zero]
        refine wpAnyH_take (i := 21) (oi := _) (v := undef) rfl (by kernel_rfl) (by kernel_rfl) (by kernel_rfl) (fun _ _ _ h => h) (Or.inr ⟨by rfl, rfl⟩) (by assumption) ?_
        try simp only [Act.put]
        try simp only [List.setIfInBounds_toArray]
        try simp only [List.set_cons_succ, List.set_cons_zero]
        try simp only [List.getElem_toArray]
        try simp only [List.getElem_cons_succ]
        try simp only [List.getElem_cons_zero]
        refine wpAnyH_take (i := 22) (oi := _) (v := undef) rfl (by kernel_rfl) (by kernel_rfl) (by kernel_rfl) (fun _ _ _ h => h) (Or.inr ⟨by rfl, rfl⟩) (by assumption) ?_
        try simp only [Act.put]
        try simp only [List.setIfInBounds_toArray]
        try simp only [List.set_cons_succ, List.set_cons_zero]
        try simp only [List.getElem_toArray]
        try simp only [List.getElem_cons_succ]
        try simp only [List.getElem_cons_zero]
        refine wpAnyH_take (i := 23) (oi := _) (v := undef) rfl (by kernel_rfl) (by kernel_rfl) (by kernel_rfl) (fun _ _ _ h => h) (Or.inr ⟨by rfl, rfl⟩) (by assumption) ?_
        try simp only [Act.put]
        try simp only [List.setIfInBounds_toArray]
        try simp only [List.set_cons_succ, List.set_cons_zero]
        try simp only [List.getElem_toArray]
        try simp only [List.getElem_cons_succ]
        try simp only [List.getElem_cons_zero]
        refine wpAnyH_take (i := 24) (oi := _) (v := undef) rfl (by kernel_rfl) (by kernel_rfl) (by kernel_rfl) (fun _ _ _ h => h) (Or.inr ⟨by rfl, rfl⟩) (by assumption) ?_
        try simp only [Act.put]
        try simp only [List.setIfInBounds_toArray]
        try simp only [List.set_cons_succ, List.set_cons_zero]
        try simp only [List.getElem_toArray]
        try simp only [List.getElem_cons_succ]
        try simp only [List.getElem_cons_zero]
        refine wpAnyH_take (i := 25) (oi := _) (v := undef) rfl (by kernel_rfl) (by kernel_rfl) (by kernel_rfl) (fun _ _ _ h => h) (Or.inr ⟨by rfl, rfl⟩) (by assumption) ?_
        try simp only [Act.put]
        try simp only [List.setIfInBounds_toArray]
        try simp only [List.set_cons_succ, List.set_cons_zero]
        try simp only [List.getElem_toArray]
        try simp only [List.getElem_cons_succ]
        try simp only [List.getElem_cons_zero]
        refine wpAnyH_take (i := 26) (oi := _) (v := undef) rfl (by kernel_rfl) (by kernel_rfl) (by kernel_rfl) (fun _ _ _ h => h) (Or.inr ⟨by rfl, rfl⟩) (by assumption) ?_
        try simp only [Act.put]
        try simp only [List.setIfInBounds_toArray]
        try simp only [List.set_cons_succ, List.set_cons_zero]
        try simp only [List.getElem_toArray]
        try simp only [List.getElem_cons_succ]
        try simp only [List.getElem_cons_zero]
        refine wpAnyH_take (i := 27) (oi := _) (v := undef) rfl (by kernel_rfl) (by kernel_rfl) (by kernel_rfl) (fun _ _ _ h => h) (Or.inr ⟨by rfl, rfl⟩) (by assumption) ?_
        try simp only [Act.put]
        try simp only [List.setIfInBounds_toArray]
        try simp only [List.set_cons_succ, List.set_cons_zero]
        try simp only [List.getElem_toArray]
        try simp only [List.getElem_cons_succ]
        try simp only [List.getElem_cons_zero]
        refine wpAnyH_take (i := 28) (oi := _) (v := undef) rfl (by kernel_rfl) (by kernel_rfl) (by kernel_rfl) (fun _ _ _ h => h) (Or.inr ⟨by rfl, rfl⟩) (by assumption) ?_
        try simp only [Act.put]
        try simp only [List.setIfInBounds_toArray]
        try simp only [List.set_cons_succ, List.set_cons_zero]
        try simp only [List.getElem_toArray]
        try simp only [List.getElem_cons_succ]
        try simp only [List.getElem_cons_zero]
        refine wpAnyH_take (i := 29) (oi := _) (v := undef) rfl (by kernel_rfl) (by kernel_rfl) (by kernel_rfl) (fun _ _ _ h => h) (Or.inr ⟨by rfl, rfl⟩) (by assumption) ?_
        try simp only [Act.put]
        try simp only [List.setIfInBounds_toArray]
        try simp only [List.set_cons_succ, List.set_cons_zero]
        try simp only [List.getElem_toArray]
        try simp only [List.getElem_cons_succ]
        try simp only [List.getElem_cons_zero]
        refine wpAnyH_take (i := 30) (oi := _) (v := undef) rfl (by kernel_rfl) (by kernel_rfl) (by kernel_rfl) (fun _ _ _ h => h) (Or.inr ⟨by rfl, rfl⟩) (by assumption) ?_
        try simp only [Act.put]
        try simp only [List.setIfInBounds_toArray]
        try simp only [List.set_cons_succ, List.set_cons_zero]
        try simp only [List.getElem_toArray]
        try simp only [List.getElem_cons_succ]
        try simp only [List.getElem_cons_zero]
        refine wpAnyH_take (i := 31) (oi := _) (v := ?_) rfl (by kernel_rfl) (by kernel_rfl) (by kernel_rfl) (fun _ _ _ h => h) (Or.inl ⟨by rfl, ?_⟩) (by assumption) ?_
        rotate_left
        · intro w' hSw
          try dsimp only at hSw
          first | (go_simp; done) | (go_simp; with_reducible rfl)
        try simp only [Act.put]
        try simp only [List.setIfInBounds_toArray]
        try simp only [List.set_cons_succ, List.set_cons_zero]
        try simp only [List.getElem_toArray]
        try simp only [List.getElem_cons_succ]
        try simp only [List.getElem_cons_zero]
        refine wpAnyH_done (by kernel_rfl) ?_ _
        refine NoPanic.normal ?_
        clear hHeld
        try dsimp only [List.set]
        obtain ⟨xb', xo', hXA', _, p0, p1, p2, p3, p4, p5, p6, p7⟩ := ru_at hB.out.wo_.2.2.2.2.1.1 k hlt
        rw [hXA.out] at hXA'
        injection hXA' with hA'
        injection hA' with e3 e4
        subst e3; subst e4
        rw [hr.out k hlt] at p6
        have hBq : ∀ q, Hid (SBx w (Wd.drewN q) ⟨some ⟨bk, okk, none⟩, sc⟩ L s x wb) := fun q => Lib.hid (hB.out.drewN q)
        replace hBq := Lib.hid hBq
        clear hB p0 p1 p2 p3 p4 p5 p7
        go_wp2_with fail
        go_quiet (fail)
        go_wp2_with fail
        go_roundw
        case rel => exact ⟨k + 1, rfl, by go_num, by omega, hBq.out _⟩
        case measure => simp [intOf]; omega
    · have z1 : ¬ (k : Int) < (x.units.length : Int) := by omega
      go_wp2_with fail
      go_ret
      exact ⟨rfl, hB.out.b⟩
set_option maxHeartbeats 12800000 in
set_option maxRecDepth 100000 in
theorem move_rest (sK : SL) (L : List GK) (s : SW) (x : GW) (w : World) (hK : KS w w.heap.size sK L) (hW : WOk w s x) (hok : WorldOk L x) (hr : AllRest x) :
    Calls Tryd.prog 49 #[.slice sK.A L.length sK.c, .agg #[.int .i64 x.turn, .int .i64 x.next, .int .i64 x.field.wide, .int .i64 x.field.high, .slice s.field.ground.A x.field.ground.length s.field.ground.c, .slice s.field.ore.A x.field.ore.length s.field.ore.c, .slice s.gold.A x.gold.length s.gold.c, .slice s.units.A x.units.length s.units.c, .slice s.queue.A x.queue.length s.queue.c]] w fun e w' => ∃ s', e = .returned (.tuple #[.agg #[.int .i64 x.turn, .int .i64 x.next, .int .i64 x.field.wide, .int .i64 x.field.high, .slice s'.field.ground.A x.field.ground.length s'.field.ground.c, .slice s'.field.ore.A x.field.ore.length s'.field.ore.c, .slice s'.gold.A x.gold.length s'.gold.c, .slice s'.units.A x.units.length s'.units.c, .slice s'.queue.A x.queue.length s'.queue.c], .slice none 0 0, .nilIface]) ∧ WOwn w' w.heap.size s' x ∧ Below w.heap.size w w' := by
  obtain ⟨sA, sc⟩ := sK
  dsimp only
  have hX : CW w ((w.alloc (.cells #[.int .i64 x.turn, .int .i64 x.next, .int .i64 x.field.wide, .int .i64 x.field.high, .slice s.field.ground.A x.field.ground.length s.field.ground.c, .slice s.field.ore.A x.field.ore.length s.field.ore.c, .slice s.gold.A x.gold.length s.gold.c, .slice s.units.A x.units.length s.units.c, .slice s.queue.A x.queue.length s.queue.c] 55)).alloc (.cells #[.int .i64 0, .int .i64 0, .int .i64 0, .int .i64 0, .slice none 0 0, .slice none 0 0, .slice none 0 0, .slice none 0 0, .slice none 0 0] 55)) s x w.heap.size (w.heap.size + 1) #[.int .i64 x.turn, .int .i64 x.next, .int .i64 x.field.wide, .int .i64 x.field.high, .slice s.field.ground.A x.field.ground.length s.field.ground.c, .slice s.field.ore.A x.field.ore.length s.field.ore.c, .slice s.gold.A x.gold.length s.gold.c, .slice s.units.A x.units.length s.units.c, .slice s.queue.A x.queue.length s.queue.c] := by
    obtain ⟨hb1, hk1, hk2⟩ := two_boxes w 55 55 #[.int .i64 x.turn, .int .i64 x.next, .int .i64 x.field.wide, .int .i64 x.field.high, .slice s.field.ground.A x.field.ground.length s.field.ground.c, .slice s.field.ore.A x.field.ore.length s.field.ore.c, .slice s.gold.A x.gold.length s.gold.c, .slice s.units.A x.units.length s.units.c, .slice s.queue.A x.queue.length s.queue.c] #[.int .i64 0, .int .i64 0, .int .i64 0, .int .i64 0, .slice none 0 0, .slice none 0 0, .slice none 0 0, .slice none 0 0, .slice none 0 0]
    exact ⟨hb1, hk1, hk2, hW, Nat.le_refl _, by omega⟩
  have hul := hW.ulen
  have hh := headE_ok hok.head
  have hgd := (good_of x.field hok.field).len
  have hin := hW.int
  have hm := hok.wm
  have hq := hok.few
  have hwe := worldE_ok hok
  have hun := hh.units
  replace hX := Lib.hid hX
  replace hK := Lib.hid hK
  replace hin := Lib.hid hin
  replace hgd := Lib.hid hgd
  replace hh := Lib.hid hh
  replace hm := Lib.hid hm
  replace hr := Lib.hid hr
  clear hW hok
  go_enter Tryd.func49, Tryd.ntmps49
  go_upto_region 1 with fail
  generalize ((w.alloc (.cells #[.int .i64 x.turn, .int .i64 x.next, .int .i64 x.field.wide, .int .i64 x.field.high, .slice s.field.ground.A x.field.ground.length s.field.ground.c, .slice s.field.ore.A x.field.ore.length s.field.ore.c, .slice s.gold.A x.gold.length s.gold.c, .slice s.units.A x.units.length s.units.c, .slice s.queue.A x.queue.length s.queue.c] 55)).alloc (.cells #[.int .i64 0, .int .i64 0, .int .i64 0, .int .i64 0, .slice none 0 0, .slice none 0 0, .slice none 0 0, .slice none 0 0, .slice none 0 0] 55)) = W at *
  obtain ⟨wb, hwb⟩ : ∃ wb, w.heap.size = wb := ⟨_, rfl⟩
  obtain ⟨rb, hrb⟩ : ∃ rb, wb + 1 = rb := ⟨_, rfl⟩
  rw [hwb]
  try rw [hrb]
  replace hX : CW w W s x wb rb #[.int .i64 x.turn, .int .i64 x.next, .int .i64 x.field.wide, .int .i64 x.field.high, .slice s.field.ground.A x.field.ground.length s.field.ground.c, .slice s.field.ore.A x.field.ore.length s.field.ore.c, .slice s.gold.A x.gold.length s.gold.c, .slice s.units.A x.units.length s.units.c, .slice s.queue.A x.queue.length s.queue.c] := by rw [← hrb, ← hwb]; exact hX.out
  replace hX := Lib.hid hX
  replace hwb := Lib.hid hwb
  replace hrb := Lib.hid hrb
  obtain ⟨m0, m1, m2, m3, m4, m5, m6, m7, m8, mll, rll⟩ := hX.out.wcells
  have hwc : Calls Tryd.prog 28 #[.slice sA L.length sc, .agg #[.int .i64 x.turn, .int .i64 x.next, .int .i64 x.field.wide, .int .i64 x.field.high, .slice s.field.ground.A x.field.ground.length s.field.ground.c, .slice s.field.ore.A x.field.ore.length s.field.ore.c, .slice s.gold.A x.gold.length s.gold.c, .slice s.units.A x.units.length s.units.c, .slice s.queue.A x.queue.length s.queue.c]] W fun e w' => e = .returned (errV (worldE L x)) ∧ Below W.heap.size W w' := wcheck_any ⟨sA, sc⟩ L s x W ((hK.out.below hX.out.b).more hX.out.b.size) hX.out.wo_
  rw [hwe] at hwc
  replace hwc : Calls Tryd.prog 28 #[.slice sA L.length sc, .agg #[.int .i64 x.turn, .int .i64 x.next, .int .i64 x.field.wide, .int .i64 x.field.high, .slice s.field.ground.A x.field.ground.length s.field.ground.c, .slice s.field.ore.A x.field.ore.length s.field.ore.c, .slice s.gold.A x.gold.length s.gold.c, .slice s.units.A x.units.length s.units.c, .slice s.queue.A x.queue.length s.queue.c]] W fun e w' => e = .returned .nilIface ∧ Below W.heap.size W w' := hwc
  replace hwc := Lib.hid hwc
  clear hwe
  go_upto_region 4 with (go_at_call 28; refine hwc.out.mono ?_; clear m0 m1 m2 m3 m4 m5 m6 m7 m8 mll rll; rintro e w2 ⟨rfl, hb2⟩)
  clear hwc
  replace hX := Lib.hid (hX.out.below hb2)
  clear hb2
  obtain ⟨m0, m1, m2, m3, m4, m5, m6, m7, m8, mll, rll⟩ := hX.out.wcells
  have hnrw : rb ≠ wb := by have := hX.out.p2; omega
  have hwr1 : wb < rb + 1 := by have := hX.out.p2; omega
  have hszc : rb + 1 ≤ w2.heap.size := hX.out.kr.lt
  have hwsz : w.heap.size + 2 ≤ rb + 1 := by have := hwb.out; have := hrb.out; omega
  replace hnrw := Lib.hid hnrw
  replace hwr1 := Lib.hid hwr1
  replace hszc := Lib.hid hszc
  replace hwsz := Lib.hid hwsz
  have hcl : Calls Tryd.prog 77 #[.agg #[.int .i64 x.turn, .int .i64 x.next, .int .i64 x.field.wide, .int .i64 x.field.high, .slice s.field.ground.A x.field.ground.length s.field.ground.c, .slice s.field.ore.A x.field.ore.length s.field.ore.c, .slice s.gold.A x.gold.length s.gold.c, .slice s.units.A x.units.length s.units.c, .slice s.queue.A x.queue.length s.queue.c]] w2 fun e w' => ∃ s', e = .returned (.agg #[.int .i64 x.turn, .int .i64 x.next, .int .i64 x.field.wide, .int .i64 x.field.high, .slice s'.field.ground.A x.field.ground.length s'.field.ground.c, .slice s'.field.ore.A x.field.ore.length s'.field.ore.c, .slice s'.gold.A x.gold.length s'.gold.c, .slice s'.units.A x.units.length s'.units.c, .slice s'.queue.A x.queue.length s'.queue.c]) ∧ WOwn w' (w2.heap.size + 2) s' x ∧ Below w2.heap.size w2 w' := wclone_any s x w2 hX.out.wo_ (by have := hgd.out; omega) (by have := hgd.out; omega) (by have := hh.out.players; omega) (by omega) (by omega)
  replace hcl := Lib.hid hcl
  go_wp2_with fail
  refine hcl.out.mono ?_
  clear hcl m0 m1 m2 m3 m4 m5 m6 m7 m8 mll rll
  rintro e w7 ⟨s1, rfl, hO, hb7⟩
  replace hX := Lib.hid (hX.out.below hb7)
  clear hb7
  have hO1 : WOwn w7 (rb + 1) s1 x := hO.base (by have := hszc.out; omega)
  clear hO
  replace hO1 := Lib.hid hO1
  have k0 : w7.cell? ⟨wb, 0, none⟩ = some (.int .i64 x.turn) := hX.out.kw.cell 0
  have y0 := hX.out.kw.frozen 0
  have k1 : w7.cell? ⟨wb, 1, none⟩ = some (.int .i64 x.next) := hX.out.kw.cell 1
  have y1 := hX.out.kw.frozen 1
  have k2 : w7.cell? ⟨wb, 2, none⟩ = some (.int .i64 x.field.wide) := hX.out.kw.cell 2
  have y2 := hX.out.kw.frozen 2
  have k3 : w7.cell? ⟨wb, 3, none⟩ = some (.int .i64 x.field.high) := hX.out.kw.cell 3
  have y3 := hX.out.kw.frozen 3
  have k4 : w7.cell? ⟨wb, 4, none⟩ = some (.slice s.field.ground.A x.field.ground.length s.field.ground.c) := hX.out.kw.cell 4
  have y4 := hX.out.kw.frozen 4
  have k5 : w7.cell? ⟨wb, 5, none⟩ = some (.slice s.field.ore.A x.field.ore.length s.field.ore.c) := hX.out.kw.cell 5
  have y5 := hX.out.kw.frozen 5
  have k6 : w7.cell? ⟨wb, 6, none⟩ = some (.slice s.gold.A x.gold.length s.gold.c) := hX.out.kw.cell 6
  have y6 := hX.out.kw.frozen 6
  have k7 : w7.cell? ⟨wb, 7, none⟩ = some (.slice s.units.A x.units.length s.units.c) := hX.out.kw.cell 7
  have y7 := hX.out.kw.frozen 7
  have k8 : w7.cell? ⟨wb, 8, none⟩ = some (.slice s.queue.A x.queue.length s.queue.c) := hX.out.kw.cell 8
  have y8 := hX.out.kw.frozen 8
  have kll := hX.out.kw.lt
  go_upto_region 5 with fail
  have hrw : w.heap.size ≤ wb := hX.out.p1
  have hkw8 : Blk (((((((((w7.setCell ⟨wb, 0, none⟩ (.int .i64 x.turn)).setCell ⟨wb, 1, none⟩ (.int .i64 x.next)).setCell ⟨wb, 2, none⟩ (.int .i64 x.field.wide)).setCell ⟨wb, 3, none⟩ (.int .i64 x.field.high)).setCell ⟨wb, 4, none⟩ (.slice s1.field.ground.A x.field.ground.length s1.field.ground.c)).setCell ⟨wb, 5, none⟩ (.slice s1.field.ore.A x.field.ore.length s1.field.ore.c)).setCell ⟨wb, 6, none⟩ (.slice s1.gold.A x.gold.length s1.gold.c)).setCell ⟨wb, 7, none⟩ (.slice s1.units.A x.units.length s1.units.c)).setCell ⟨wb, 8, none⟩ (.slice s1.queue.A x.queue.length s1.queue.c)) wb 55 #[.int .i64 x.turn, .int .i64 x.next, .int .i64 x.field.wide, .int .i64 x.field.high, .slice s1.field.ground.A x.field.ground.length s1.field.ground.c, .slice s1.field.ore.A x.field.ore.length s1.field.ore.c, .slice s1.gold.A x.gold.length s1.gold.c, .slice s1.units.A x.units.length s1.units.c, .slice s1.queue.A x.queue.length s1.queue.c] := by
    have h := (((((((((hX.out.kw.set_ 0 (.int .i64 x.turn)).set_ 1 (.int .i64 x.next)).set_ 2 (.int .i64 x.field.wide)).set_ 3 (.int .i64 x.field.high)).set_ 4 (.slice s1.field.ground.A x.field.ground.length s1.field.ground.c)).set_ 5 (.slice s1.field.ore.A x.field.ore.length s1.field.ore.c)).set_ 6 (.slice s1.gold.A x.gold.length s1.gold.c)).set_ 7 (.slice s1.units.A x.units.length s1.units.c)).set_ 8 (.slice s1.queue.A x.queue.length s1.queue.c))
    simp only [List.setIfInBounds_toArray, List.set_cons_zero, List.set_cons_succ] at h
    exact h
  have hkr8 : Blk (((((((((w7.setCell ⟨wb, 0, none⟩ (.int .i64 x.turn)).setCell ⟨wb, 1, none⟩ (.int .i64 x.next)).setCell ⟨wb, 2, none⟩ (.int .i64 x.field.wide)).setCell ⟨wb, 3, none⟩ (.int .i64 x.field.high)).setCell ⟨wb, 4, none⟩ (.slice s1.field.ground.A x.field.ground.length s1.field.ground.c)).setCell ⟨wb, 5, none⟩ (.slice s1.field.ore.A x.field.ore.length s1.field.ore.c)).setCell ⟨wb, 6, none⟩ (.slice s1.gold.A x.gold.length s1.gold.c)).setCell ⟨wb, 7, none⟩ (.slice s1.units.A x.units.length s1.units.c)).setCell ⟨wb, 8, none⟩ (.slice s1.queue.A x.queue.length s1.queue.c)) rb 55 #[.int .i64 0, .int .i64 0, .int .i64 0, .int .i64 0, .slice none 0 0, .slice none 0 0, .slice none 0 0, .slice none 0 0, .slice none 0 0] := (((((((((hX.out.kr.far (p := ⟨wb, 0, none⟩) hnrw.out (.int .i64 x.turn)).far (p := ⟨wb, 1, none⟩) hnrw.out (.int .i64 x.next)).far (p := ⟨wb, 2, none⟩) hnrw.out (.int .i64 x.field.wide)).far (p := ⟨wb, 3, none⟩) hnrw.out (.int .i64 x.field.high)).far (p := ⟨wb, 4, none⟩) hnrw.out (.slice s1.field.ground.A x.field.ground.length s1.field.ground.c)).far (p := ⟨wb, 5, none⟩) hnrw.out (.slice s1.field.ore.A x.field.ore.length s1.field.ore.c)).far (p := ⟨wb, 6, none⟩) hnrw.out (.slice s1.gold.A x.gold.length s1.gold.c)).far (p := ⟨wb, 7, none⟩) hnrw.out (.slice s1.units.A x.units.length s1.units.c)).far (p := ⟨wb, 8, none⟩) hnrw.out (.slice s1.queue.A x.queue.length s1.queue.c))
  have hbe8 : Below w.heap.size w (((((((((w7.setCell ⟨wb, 0, none⟩ (.int .i64 x.turn)).setCell ⟨wb, 1, none⟩ (.int .i64 x.next)).setCell ⟨wb, 2, none⟩ (.int .i64 x.field.wide)).setCell ⟨wb, 3, none⟩ (.int .i64 x.field.high)).setCell ⟨wb, 4, none⟩ (.slice s1.field.ground.A x.field.ground.length s1.field.ground.c)).setCell ⟨wb, 5, none⟩ (.slice s1.field.ore.A x.field.ore.length s1.field.ore.c)).setCell ⟨wb, 6, none⟩ (.slice s1.gold.A x.gold.length s1.gold.c)).setCell ⟨wb, 7, none⟩ (.slice s1.units.A x.units.length s1.units.c)).setCell ⟨wb, 8, none⟩ (.slice s1.queue.A x.queue.length s1.queue.c)) := (((((((((hX.out.b.setCell (p := ⟨wb, 0, none⟩) hrw (.int .i64 x.turn)).setCell (p := ⟨wb, 1, none⟩) hrw (.int .i64 x.next)).setCell (p := ⟨wb, 2, none⟩) hrw (.int .i64 x.field.wide)).setCell (p := ⟨wb, 3, none⟩) hrw (.int .i64 x.field.high)).setCell (p := ⟨wb, 4, none⟩) hrw (.slice s1.field.ground.A x.field.ground.length s1.field.ground.c)).setCell (p := ⟨wb, 5, none⟩) hrw (.slice s1.field.ore.A x.field.ore.length s1.field.ore.c)).setCell (p := ⟨wb, 6, none⟩) hrw (.slice s1.gold.A x.gold.length s1.gold.c)).setCell (p := ⟨wb, 7, none⟩) hrw (.slice s1.units.A x.units.length s1.units.c)).setCell (p := ⟨wb, 8, none⟩) hrw (.slice s1.queue.A x.queue.length s1.queue.c))
  have hO8 : WOwn (((((((((w7.setCell ⟨wb, 0, none⟩ (.int .i64 x.turn)).setCell ⟨wb, 1, none⟩ (.int .i64 x.next)).setCell ⟨wb, 2, none⟩ (.int .i64 x.field.wide)).setCell ⟨wb, 3, none⟩ (.int .i64 x.field.high)).setCell ⟨wb, 4, none⟩ (.slice s1.field.ground.A x.field.ground.length s1.field.ground.c)).setCell ⟨wb, 5, none⟩ (.slice s1.field.ore.A x.field.ore.length s1.field.ore.c)).setCell ⟨wb, 6, none⟩ (.slice s1.gold.A x.gold.length s1.gold.c)).setCell ⟨wb, 7, none⟩ (.slice s1.units.A x.units.length s1.units.c)).setCell ⟨wb, 8, none⟩ (.slice s1.queue.A x.queue.length s1.queue.c)) (rb + 1) s1 x := (WOwn.farW (b := wb) (i := 8) (u := .slice s1.queue.A x.queue.length s1.queue.c) (WOwn.farW (b := wb) (i := 7) (u := .slice s1.units.A x.units.length s1.units.c) (WOwn.farW (b := wb) (i := 6) (u := .slice s1.gold.A x.gold.length s1.gold.c) (WOwn.farW (b := wb) (i := 5) (u := .slice s1.field.ore.A x.field.ore.length s1.field.ore.c) (WOwn.farW (b := wb) (i := 4) (u := .slice s1.field.ground.A x.field.ground.length s1.field.ground.c) (WOwn.farW (b := wb) (i := 3) (u := .int .i64 x.field.high) (WOwn.farW (b := wb) (i := 2) (u := .int .i64 x.field.wide) (WOwn.farW (b := wb) (i := 1) (u := .int .i64 x.next) (WOwn.farW (b := wb) (i := 0) (u := .int .i64 x.turn) hO1.out hwr1.out) hwr1.out) hwr1.out) hwr1.out) hwr1.out) hwr1.out) hwr1.out) hwr1.out) hwr1.out)
  clear k0 y0 k1 y1 k2 y2 k3 y3 k4 y4 k5 y5 k6 y6 k7 y7 k8 y8 kll
  generalize (((((((((w7.setCell ⟨wb, 0, none⟩ (.int .i64 x.turn)).setCell ⟨wb, 1, none⟩ (.int .i64 x.next)).setCell ⟨wb, 2, none⟩ (.int .i64 x.field.wide)).setCell ⟨wb, 3, none⟩ (.int .i64 x.field.high)).setCell ⟨wb, 4, none⟩ (.slice s1.field.ground.A x.field.ground.length s1.field.ground.c)).setCell ⟨wb, 5, none⟩ (.slice s1.field.ore.A x.field.ore.length s1.field.ore.c)).setCell ⟨wb, 6, none⟩ (.slice s1.gold.A x.gold.length s1.gold.c)).setCell ⟨wb, 7, none⟩ (.slice s1.units.A x.units.length s1.units.c)).setCell ⟨wb, 8, none⟩ (.slice s1.queue.A x.queue.length s1.queue.c)) = w8 at *
  have hdo := do_rest ⟨sA, sc⟩ L s1 x wb w8 ((hK.out.below hbe8).more hbe8.size) (hO8.wok hin.out) hkw8 hm.out hr.out
  replace hdo := Lib.hid hdo
  replace hkw8 := Lib.hid hkw8
  replace hkr8 := Lib.hid hkr8
  replace hbe8 := Lib.hid hbe8
  replace hO8 := Lib.hid hO8
  clear hO1 hX
  go_upto_region 6 with (go_at_call 101; refine hdo.out.mono ?_; rintro e w9 ⟨rfl, hb9⟩)
  clear hdo
  have hkw9 := hkw8.out.below hb9 hkw8.out.lt
  have hkr9 := hkr8.out.below hb9 hkr8.out.lt
  have hO9 := hO8.out.below hb9
  have hbe := hbe8.out.trans (hb9.mono hbe8.out.size)
  clear hkw8 hkr8 hO8 hbe8 hb9
  have q0 : w9.cell? ⟨wb, 0, none⟩ = some (.int .i64 x.turn) := hkw9.cell 0
  have r0 : w9.cell? ⟨rb, 0, none⟩ = some (.int .i64 0) := hkr9.cell 0
  have j0 := hkr9.frozen 0
  have q1 : w9.cell? ⟨wb, 1, none⟩ = some (.int .i64 x.next) := hkw9.cell 1
  have r1 : w9.cell? ⟨rb, 1, none⟩ = some (.int .i64 0) := hkr9.cell 1
  have j1 := hkr9.frozen 1
  have q2 : w9.cell? ⟨wb, 2, none⟩ = some (.int .i64 x.field.wide) := hkw9.cell 2
  have r2 : w9.cell? ⟨rb, 2, none⟩ = some (.int .i64 0) := hkr9.cell 2
  have j2 := hkr9.frozen 2
  have q3 : w9.cell? ⟨wb, 3, none⟩ = some (.int .i64 x.field.high) := hkw9.cell 3
  have r3 : w9.cell? ⟨rb, 3, none⟩ = some (.int .i64 0) := hkr9.cell 3
  have j3 := hkr9.frozen 3
  have q4 : w9.cell? ⟨wb, 4, none⟩ = some (.slice s1.field.ground.A x.field.ground.length s1.field.ground.c) := hkw9.cell 4
  have r4 : w9.cell? ⟨rb, 4, none⟩ = some (.slice none 0 0) := hkr9.cell 4
  have j4 := hkr9.frozen 4
  have q5 : w9.cell? ⟨wb, 5, none⟩ = some (.slice s1.field.ore.A x.field.ore.length s1.field.ore.c) := hkw9.cell 5
  have r5 : w9.cell? ⟨rb, 5, none⟩ = some (.slice none 0 0) := hkr9.cell 5
  have j5 := hkr9.frozen 5
  have q6 : w9.cell? ⟨wb, 6, none⟩ = some (.slice s1.gold.A x.gold.length s1.gold.c) := hkw9.cell 6
  have r6 : w9.cell? ⟨rb, 6, none⟩ = some (.slice none 0 0) := hkr9.cell 6
  have j6 := hkr9.frozen 6
  have q7 : w9.cell? ⟨wb, 7, none⟩ = some (.slice s1.units.A x.units.length s1.units.c) := hkw9.cell 7
  have r7 : w9.cell? ⟨rb, 7, none⟩ = some (.slice none 0 0) := hkr9.cell 7
  have j7 := hkr9.frozen 7
  have q8 : w9.cell? ⟨wb, 8, none⟩ = some (.slice s1.queue.A x.queue.length s1.queue.c) := hkw9.cell 8
  have r8 : w9.cell? ⟨rb, 8, none⟩ = some (.slice none 0 0) := hkr9.cell 8
  have j8 := hkr9.frozen 8
  have qll := hkw9.lt
  have rll := hkr9.lt
  have nwr : wb ≠ rb := fun e => hnrw.out e.symm
  have hwbr : w.heap.size ≤ rb := by have := hwr1.out; omega
  have hzB : Blk (((((((((w9.setCell ⟨rb, 0, none⟩ (.int .i64 x.turn)).setCell ⟨rb, 1, none⟩ (.int .i64 x.next)).setCell ⟨rb, 2, none⟩ (.int .i64 x.field.wide)).setCell ⟨rb, 3, none⟩ (.int .i64 x.field.high)).setCell ⟨rb, 4, none⟩ (.slice s1.field.ground.A x.field.ground.length s1.field.ground.c)).setCell ⟨rb, 5, none⟩ (.slice s1.field.ore.A x.field.ore.length s1.field.ore.c)).setCell ⟨rb, 6, none⟩ (.slice s1.gold.A x.gold.length s1.gold.c)).setCell ⟨rb, 7, none⟩ (.slice s1.units.A x.units.length s1.units.c)).setCell ⟨rb, 8, none⟩ (.slice s1.queue.A x.queue.length s1.queue.c)) rb 55 #[.int .i64 x.turn, .int .i64 x.next, .int .i64 x.field.wide, .int .i64 x.field.high, .slice s1.field.ground.A x.field.ground.length s1.field.ground.c, .slice s1.field.ore.A x.field.ore.length s1.field.ore.c, .slice s1.gold.A x.gold.length s1.gold.c, .slice s1.units.A x.units.length s1.units.c, .slice s1.queue.A x.queue.length s1.queue.c] := by
    have h := (((((((((hkr9.set_ 0 (.int .i64 x.turn)).set_ 1 (.int .i64 x.next)).set_ 2 (.int .i64 x.field.wide)).set_ 3 (.int .i64 x.field.high)).set_ 4 (.slice s1.field.ground.A x.field.ground.length s1.field.ground.c)).set_ 5 (.slice s1.field.ore.A x.field.ore.length s1.field.ore.c)).set_ 6 (.slice s1.gold.A x.gold.length s1.gold.c)).set_ 7 (.slice s1.units.A x.units.length s1.units.c)).set_ 8 (.slice s1.queue.A x.queue.length s1.queue.c))
    simp only [List.setIfInBounds_toArray, List.set_cons_zero, List.set_cons_succ] at h
    exact h
  have hbB : Below w.heap.size w (((((((((w9.setCell ⟨rb, 0, none⟩ (.int .i64 x.turn)).setCell ⟨rb, 1, none⟩ (.int .i64 x.next)).setCell ⟨rb, 2, none⟩ (.int .i64 x.field.wide)).setCell ⟨rb, 3, none⟩ (.int .i64 x.field.high)).setCell ⟨rb, 4, none⟩ (.slice s1.field.ground.A x.field.ground.length s1.field.ground.c)).setCell ⟨rb, 5, none⟩ (.slice s1.field.ore.A x.field.ore.length s1.field.ore.c)).setCell ⟨rb, 6, none⟩ (.slice s1.gold.A x.gold.length s1.gold.c)).setCell ⟨rb, 7, none⟩ (.slice s1.units.A x.units.length s1.units.c)).setCell ⟨rb, 8, none⟩ (.slice s1.queue.A x.queue.length s1.queue.c)) := (((((((((hbe.setCell (p := ⟨rb, 0, none⟩) hwbr (.int .i64 x.turn)).setCell (p := ⟨rb, 1, none⟩) hwbr (.int .i64 x.next)).setCell (p := ⟨rb, 2, none⟩) hwbr (.int .i64 x.field.wide)).setCell (p := ⟨rb, 3, none⟩) hwbr (.int .i64 x.field.high)).setCell (p := ⟨rb, 4, none⟩) hwbr (.slice s1.field.ground.A x.field.ground.length s1.field.ground.c)).setCell (p := ⟨rb, 5, none⟩) hwbr (.slice s1.field.ore.A x.field.ore.length s1.field.ore.c)).setCell (p := ⟨rb, 6, none⟩) hwbr (.slice s1.gold.A x.gold.length s1.gold.c)).setCell (p := ⟨rb, 7, none⟩) hwbr (.slice s1.units.A x.units.length s1.units.c)).setCell (p := ⟨rb, 8, none⟩) hwbr (.slice s1.queue.A x.queue.length s1.queue.c))
  have hOB : WOwn (((((((((w9.setCell ⟨rb, 0, none⟩ (.int .i64 x.turn)).setCell ⟨rb, 1, none⟩ (.int .i64 x.next)).setCell ⟨rb, 2, none⟩ (.int .i64 x.field.wide)).setCell ⟨rb, 3, none⟩ (.int .i64 x.field.high)).setCell ⟨rb, 4, none⟩ (.slice s1.field.ground.A x.field.ground.length s1.field.ground.c)).setCell ⟨rb, 5, none⟩ (.slice s1.field.ore.A x.field.ore.length s1.field.ore.c)).setCell ⟨rb, 6, none⟩ (.slice s1.gold.A x.gold.length s1.gold.c)).setCell ⟨rb, 7, none⟩ (.slice s1.units.A x.units.length s1.units.c)).setCell ⟨rb, 8, none⟩ (.slice s1.queue.A x.queue.length s1.queue.c)) (rb + 1) s1 x := (WOwn.farW (b := rb) (i := 8) (u := .slice s1.queue.A x.queue.length s1.queue.c) (WOwn.farW (b := rb) (i := 7) (u := .slice s1.units.A x.units.length s1.units.c) (WOwn.farW (b := rb) (i := 6) (u := .slice s1.gold.A x.gold.length s1.gold.c) (WOwn.farW (b := rb) (i := 5) (u := .slice s1.field.ore.A x.field.ore.length s1.field.ore.c) (WOwn.farW (b := rb) (i := 4) (u := .slice s1.field.ground.A x.field.ground.length s1.field.ground.c) (WOwn.farW (b := rb) (i := 3) (u := .int .i64 x.field.high) (WOwn.farW (b := rb) (i := 2) (u := .int .i64 x.field.wide) (WOwn.farW (b := rb) (i := 1) (u := .int .i64 x.next) (WOwn.farW (b := rb) (i := 0) (u := .int .i64 x.turn) hO9 (Nat.lt_succ_self _)) (Nat.lt_succ_self _)) (Nat.lt_succ_self _)) (Nat.lt_succ_self _)) (Nat.lt_succ_self _)) (Nat.lt_succ_self _)) (Nat.lt_succ_self _)) (Nat.lt_succ_self _)) (Nat.lt_succ_self _))
  replace hzB := Lib.hid hzB
  replace hbB := Lib.hid hbB
  replace hOB := Lib.hid hOB
  clear hkw9 hkr9 hbe hO9
  go_wp2_with fail
  refine bodyPost_ret (results_ctt3 rfl _ _ rb _ #[.int .i64 x.turn, .int .i64 x.next, .int .i64 x.field.wide, .int .i64 x.field.high, .slice s1.field.ground.A x.field.ground.length s1.field.ground.c, .slice s1.field.ore.A x.field.ore.length s1.field.ore.c, .slice s1.gold.A x.gold.length s1.gold.c, .slice s1.units.A x.units.length s1.units.c, .slice s1.queue.A x.queue.length s1.queue.c] _ rfl hzB.out Tryd.underlying55 rfl (by kernel_rfl)) rfl ?_
  exact ⟨s1, rfl, hOB.out.base (by have := hwsz.out; omega), hbB.out⟩
end Go.Proofs.YtkgkpggfoieioaaDoor
