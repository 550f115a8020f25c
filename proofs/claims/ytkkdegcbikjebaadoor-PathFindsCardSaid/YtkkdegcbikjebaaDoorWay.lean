import Derived.Test.YtkkdegcbikjebaaDoorNext
import Derived.Test.YtkkdegcbikjebaaDoorPlainV
namespace Go.Proofs.YtkkdegcbikjebaaDoor
set_option linter.unusedVariables false
open Go.RowKit
set_option maxRecDepth 100000 in
theorem cells2_any (s : SF) (f : GF) (a b : Int) (w : World) (h : FOk w s f) :
    let W := (w1F w s f).alloc (.cells #[.int .i64 a, .int .i64 b] 3)
    Calls Tryd.prog 60 #[fA s f, .slice (some ⟨w.heap.size + 1, 0, none⟩) 2 2] W fun e w' => e = .returned (errV (faultL f [a, b])) ∧ Below w.heap.size w w' ∧ Blk w' w.heap.size 25 #[.int .i64 f.wide, .int .i64 f.high, .slice s.ground.A f.ground.length s.ground.c, .slice s.ore.A f.ore.length s.ore.c] := by
  intro W
  have hb1 : Below w.heap.size w W := ((Below.refl _ _).alloc (Nat.le_refl _) _).alloc (by simp) _
  have hs : (w1F w s f).heap.size = w.heap.size + 1 := by simp [w1F]
  have hr : RD W W.heap.size 1 (some ⟨w.heap.size + 1, 0, none⟩) 2 ([a, b].map (.int .i64)) := by
    have := RD.new (w1F w s f) 1 2 #[.int .i64 a, .int .i64 b] 3 (0, 0) rfl
    rw [hs] at this
    exact this.more (by show _ ≤ W.heap.size; simp [W, hs])
  have hk : Blk W w.heap.size 25 #[.int .i64 f.wide, .int .i64 f.high, .slice s.ground.A f.ground.length s.ground.c, .slice s.ore.A f.ore.length s.ore.c] := (Blk.new w _ _).alloc _
  refine (fcells_any s f (some ⟨w.heap.size + 1, 0, none⟩) 2 [a, b] W (h.below hb1) hr (by simp)).mono ?_
  rintro e w' ⟨he, hb⟩
  exact ⟨he, hb1.trans (hb.mono hb1.size), hk.below hb hk.lt⟩
theorem faultL_2 (f : GF) (a b : Int) (h : faultL f [a, b] = 0) : Good f ∧ 0 ≤ a ∧ a < f.ground.length ∧ 0 ≤ b ∧ b < f.ground.length ∧ cellE f a = 0 ∧ cellE f b = 0 := by
  unfold faultL at h
  by_cases h1 : fieldE f = 0
  · rw [if_neg (by simp [h1])] at h
    by_cases h2 : ([a, b].any (badC f.ground.length)) = true
    · rw [if_pos h2] at h; cases h
    · simp only [List.any_cons, List.any_nil, Bool.or_false, Bool.or_eq_true, not_or] at h2
      unfold badC at h2
      simp only [decide_eq_true_eq] at h2
      have hg := good_of f h1
      exact ⟨hg, by omega, by omega, by omega, by omega, cellE_ok f a hg (by omega) (by omega), cellE_ok f b hg (by omega) (by omega)⟩
  · rw [if_pos h1] at h; exact absurd h h1
set_option maxRecDepth 100000 in
theorem path_no (s : SF) (f : GF) (a b : Int) (fl : Bool) (w : World) (h : FOk w s f) (hE : faultL f [a, b] ≠ 0) :
    Calls Tryd.prog 30 #[fA s f, .int .i64 a, .int .i64 b, .bool fl] w fun e w' => e = .returned (.tuple #[.slice none 0 0, erE (faultL f [a, b])]) ∧ Below w.heap.size w w' := by
  have hc := cells2_any s f a b w h
  dsimp only at hc
  unfold w1F at hc
  replace hc := Lib.hid hc
  clear h
  unfold fA
  go_enter Tryd.func30, Tryd.ntmps30
  go_wp2_with fail
  refine hc.out.mono ?_
  rintro e W ⟨rfl, hb, hk⟩
  rw [errVn _ hE]
  unfold erE
  have hE2 := Lib.hid hE
  clear hE hk hc
  go_wp2_with fail
  go_ret2
  exact ⟨rfl, hb⟩
theorem own_1i (w : World) (base : Nat) (x : Int) (hb : base ≤ w.heap.size) : (w.alloc (.cells #[.int .i64 x] 3)).ownsRow base 3 1 (.slice (some ⟨w.heap.size, 0, none⟩) 1 1) 1 [.int .i64 x] :=
  ⟨rfl, .inr ⟨w.heap.size, 1, #[.int .i64 x], rfl, hb, heap_alloc_new w _, by omega, by simp [maxLen], rfl, rfl⟩⟩
theorem own_block_lt'' {w : World} {base : Nat} {e : TypeId} {sz n : Nat} {v : Value} {xs : List Value} (h : w.ownsRow base e sz v n xs) : ∀ g, v.ownBlock = some g → base ≤ g := fun g hg => by
  rcases h.2 with ⟨rfl, _⟩ | ⟨g', cap, cur, rfl, hb, hh, _⟩
  · simp [Value.ownBlock] at hg
  · simp only [Value.ownBlock, Option.some.injEq] at hg
    subst hg
    exact hb
def WayRel (f : GF) (fl : Bool) (far : List Int) (src tg : Nat) (base : Nat) (w4 : World) (vl va : Value) (wr : World) : Prop :=
  ∃ (pre : List Nat) (a : Nat), va = .int .i64 a ∧ a < f.ground.length ∧ 0 ≤ at0 far a ∧ (pre.length : Int) + at0 far a ≤ at0 far src ∧ Hid (pre ++ (a :: pathF f fl far tg (at0 far a).toNat a) = pathL f fl far src tg) ∧
    Hid (wr.ownsRow base 3 1 vl (pre.length + 1) ((pre.map (fun x : Nat => Value.int .i64 (x : Int))) ++ [.int .i64 a])) ∧ Hid (Below base w4 wr)
def PathOk (w : World) (f : GF) (src tg : Nat) (fl : Bool) (e : Ending) (w' : World) : Prop :=
  ∃ far, DTo f fl tg far ∧ Below w.heap.size w w' ∧ ((at0 far src < 0 ∧ e = .returned (.tuple #[.slice none 0 0, erE 7])) ∨
    (0 ≤ at0 far src ∧ ∃ A c, e = .returned (.tuple #[.slice A (pathI f fl far src tg).length c, .nilIface]) ∧ w'.ownsRow w.heap.size 3 1 (.slice A (pathI f fl far src tg).length c) (pathI f fl far src tg).length ((pathI f fl far src tg).map (.int .i64))))
set_option maxHeartbeats 3200000 in
set_option maxRecDepth 100000 in
theorem path_ok (s : SF) (f : GF) (a b : Nat) (fl : Bool) (w : World) (h : FOk w s f) (hE : faultL f [a, b] = 0) :
    Calls Tryd.prog 30 #[fA s f, .int .i64 a, .int .i64 b, .bool fl] w (PathOk w f a b fl) := by
  obtain ⟨i0, hi0, hz0, hz1, hz2⟩ := info_parts int_inf
  obtain ⟨hg, ha0, ha1, hb0, hb1, _, _⟩ := faultL_2 f a b hE
  have hc := cells2_any s f a b w h
  dsimp only at hc
  unfold w1F at hc
  have H := Lib.hid h
  have hn := hg.len
  replace hc := Lib.hid hc
  replace hg := Lib.hid hg
  replace hn := Lib.hid hn
  clear h
  unfold fA
  go_enter Tryd.func30, Tryd.ntmps30
  go_wp2_with fail
  refine hc.out.mono ?_
  rintro e W ⟨rfl, hb, hk⟩
  rw [hE, errV0]
  have c0 := hk.cell 0
  have c1 := hk.cell 1
  have c2 := hk.cell 2
  have c3 := hk.cell 3
  have HF := H.out.below hb
  have hs := hb.size
  have hE2 := Lib.hid hE
  have hklt := hk.lt
  replace HF := Lib.hid HF
  replace hb := Lib.hid hb
  replace hk := Lib.hid hk
  clear hE hc
  go_wp2_with fail
  refine (to_any s f b fl W HF.out hg.out (by omega)).mono ?_
  intro e W2 hp
  obtain ⟨g, far, rfl, hd, hg3, hkf, hb5⟩ := hp
  have hk2 := hk.out.below hb5 hklt
  have HF2 := HF.out.below hb5
  have hb6 := hb.out.trans (hb5.mono hs)
  have cf := hkf.atI a (by rw [hd.len]; omega)
  have hs5 := hb5.size
  have hwlt := hk2.lt
  have hglt := hkf.lt
  have hlow := hd.low a (by omega)
  have j1 : (a : Int) < (f.ground.length : Int) := by omega
  replace hd := Lib.hid hd
  replace hkf := Lib.hid hkf
  replace hk2 := Lib.hid hk2
  replace HF2 := Lib.hid HF2
  replace hb6 := Lib.hid hb6
  clear hb5 c0 c1 c2 c3
  by_cases hneg : at0 far a < 0
  · have d1 : decide (at0 far a < 0) = true := by simp; omega
    go_wp2_with fail
    go_ret2
    exact ⟨far, hd.out, hb6.out, .inl ⟨hneg, rfl⟩⟩
  · have d1 : decide (at0 far a < 0) = false := by simp; omega
    go_wp2_with fail
    have hown := own_1i W2 W2.heap.size a (Nat.le_refl _)
    have hb8 := (Below.refl W2.heap.size W2).alloc (Nat.le_refl _) (.cells #[.int .i64 (a : Int)] 3)
    have hsz3 : (W2.alloc (.cells #[.int .i64 (a : Int)] 3)).heap.size = W2.heap.size + 1 := by simp
    generalize W2.alloc (.cells #[.int .i64 (a : Int)] 3) = W3 at *
    replace hown := Lib.hid hown
    replace hb8 := Lib.hid hb8
    have hup := hlow.2
    have hn3 := hn.out.1
    clear cf
    go_loopw [12, 13] (fun vl va wr => WayRel f fl far a b W2.heap.size W2 vl va wr) (fun _ va _ => (at0 far (intOf va).toNat).toNat)
    case atStart => exact ⟨[], a, rfl, by omega, by omega, by simp, Lib.hid rfl, Lib.hid hown.out, Lib.hid hb8.out⟩
    case round =>
      obtain ⟨pre, x, rfl, hx, hx0, hpl, hpf, hownr, hbr⟩ := hrel
      have hszr := hbr.out.size
      by_cases hxb : x = b
      · subst hxb
        have hpf2 := hpf.out
        rw [path_end] at hpf2
        have e1 : pathI f fl far a x = (pre ++ [x]).map (fun y : Nat => (y : Int)) := by unfold pathI; rw [← hpf2]
        have e2 : (pathI f fl far a x).length = pre.length + 1 := by rw [e1]; simp
        have e3 : (pathI f fl far a x).map (.int .i64) = (pre.map (fun y : Nat => Value.int .i64 (y : Int))) ++ [.int .i64 x] := by rw [e1]; simp
        obtain ⟨A, c, rfl, _⟩ := own_slice hownr.out
        have hbf := hb6.out.trans (hbr.out.mono (by omega))
        replace e1 := Lib.hid e1
        replace hpf2 := Lib.hid hpf2
        have d2 : ((x : Int) != (x : Int)) = false := by simp
        have hof : wr.ownsRow w.heap.size 3 1 (.slice A (pathI f fl far a x).length c) (pathI f fl far a x).length ((pathI f fl far a x).map (.int .i64)) := by
          rw [e2, e3]; exact own_base hownr.out (by omega)
        replace hof := Lib.hid hof
        replace e3 := Lib.hid e3
        replace e2 := Lib.hid e2
        go_wp2_with fail
        go_ret2
        refine ⟨far, hd.out, hbf, .inr ⟨by omega, A, c, ?_, hof.out⟩⟩
        rw [e2.out]
        rfl
      · have hst := path_step f hg.out fl far b x hd.out hx hx0 hxb
        obtain ⟨s1, s2, s3, s4, s5⟩ := next_spec f hg.out fl far b x hd.out hx hx0 hxb
        have d2 : ((x : Int) != (b : Int)) = true := by simp; omega
        have hkr := hk2.out.below hbr.out hwlt
        have hkfr := hkf.out.below hbr.out hglt
        have HFr := HF2.out.below hbr.out
        have c0 := hkr.cell 0
        have c1 := hkr.cell 1
        have c2 := hkr.cell 2
        have c3 := hkr.cell 3
        have hbd : ∀ k, k < f.ground.length → -1 ≤ at0 far k ∧ at0 far k ≤ 1000 := fun k hk => by have := hd.out.low k hk; omega
        have hln := hd.out.len
        have hpf2 := hpf.out
        rw [hst] at hpf2
        replace hkr := Lib.hid hkr
        replace hkfr := Lib.hid hkfr
        replace HFr := Lib.hid HFr
        replace hst := Lib.hid hst
        replace hpf2 := Lib.hid hpf2
        replace hbd := Lib.hid hbd
        replace hln := Lib.hid hln
        replace s2 := Lib.hid s2
        clear hpf
        go_wp2_with fail
        refine (next_any s f fl g far x wr HFr.out hg.out hx hkfr.out hln.out hbd.out).mono ?_
        rintro e w5 ⟨rfl, hb5⟩
        generalize nextL f fl far x = y at *
        have hown5 := own_below hownr.out hb5
        have hbr5 := hbr.out.trans (hb5.mono hszr)
        have hsz5 := hbr5.size
        have hpre : pre.length ≤ 1000 := by omega
        replace hown5 := Lib.hid hown5
        replace hbr5 := Lib.hid hbr5
        replace s5 := Lib.hid s5
        have hpl2 : ((pre.length : Int) + 1) + at0 far y ≤ at0 far a := by have := s5.out; omega
        go_wp2_with (at_builtin; refine wpList_app1 rfl (.tmp 38) (.tmp 40) 23 rfl W2.heap.size 3 i0 _ 1 8 Tryd.underlying23 hi0 hz0 hz1 hz2 rfl (by decide) (by decide) w5 #[.int .i64 (y : Int)] u12 (pre.length + 1) _ rfl hown5.out rfl rfl rfl (by omega) hsz5 ?_; intro v' w6 hown' hgrow)
        go_roundw
        case rel =>
          refine ⟨pre ++ [x], y, rfl, s1, s4, by simp; omega, Lib.hid (by rw [← hpf2.out]; simp), Lib.hid ?_, Lib.hid (hbr5.out.grown hgrow hsz5 (fun g hg => (own_block_lt'' hown5.out g hg)))⟩
          simpa using hown'
        case measure => simp [intOf]; have := s5.out; omega
def ReachOk (w : World) (f : GF) (src : Nat) (most : Int) (fl : Bool) (e : Ending) (w' : World) : Prop :=
  ∃ fr A c, DFrom f fl src fr ∧ e = .returned (.tuple #[.slice A (rchN fr most f.ground.length).length c, .nilIface]) ∧ w'.ownsRow w.heap.size 3 1 (.slice A (rchN fr most f.ground.length).length c) (rchN fr most f.ground.length).length ((rchN fr most f.ground.length).map (.int .i64)) ∧ Below w.heap.size w w'
set_option maxRecDepth 100000 in
theorem reach_no (s : SF) (f : GF) (a m : Int) (fl : Bool) (w : World) (h : FOk w s f) (hE : cellE f a ≠ 0) :
    Calls Tryd.prog 31 #[fA s f, .int .i64 a, .int .i64 m, .bool fl] w fun e w' => e = .returned (.tuple #[.slice none 0 0, erE (cellE f a)]) ∧ Below w.heap.size w w' := by
  have hc := cells1_any s f a w h
  dsimp only at hc
  unfold w1F at hc
  replace hc := Lib.hid hc
  clear h
  unfold fA
  go_enter Tryd.func31, Tryd.ntmps31
  go_wp2_with fail
  refine hc.out.mono ?_
  rintro e W ⟨rfl, hb, hk⟩
  rw [errVn _ hE]
  unfold erE
  have hE2 := Lib.hid hE
  clear hE hk hc
  go_wp2_with fail
  go_ret2
  exact ⟨rfl, hb⟩
set_option maxRecDepth 100000 in
theorem reach_num (s : SF) (f : GF) (a m : Int) (fl : Bool) (w : World) (h : FOk w s f) (hE : cellE f a = 0) (hm : numB m = false) :
    Calls Tryd.prog 31 #[fA s f, .int .i64 a, .int .i64 m, .bool fl] w fun e w' => e = .returned (.tuple #[.slice none 0 0, erE 1]) ∧ Below w.heap.size w w' := by
  have hc := cells1_any s f a w h
  dsimp only at hc
  unfold w1F at hc
  replace hc := Lib.hid hc
  clear h
  unfold fA
  go_enter Tryd.func31, Tryd.ntmps31
  go_wp2_with fail
  refine hc.out.mono ?_
  rintro e W ⟨rfl, hb, hk⟩
  rw [hE, errV0]
  have hE2 := Lib.hid hE
  clear hE hk hc
  go_wp2_with (go_at_call 59; refine (numb_any m W).mono ?_; rintro e w' ⟨rfl, rfl⟩; rw [hm])
  go_ret2
  exact ⟨rfl, hb⟩
def RchRel (f : GF) (fr : List Int) (m : Int) (w4 : World) (vl vi : Value) (wr : World) : Prop :=
  ∃ k : Nat, vi = .int .i64 k ∧ k ≤ f.ground.length ∧ Hid (wr.ownsRow w4.heap.size 3 1 vl (rchN fr m k).length ((rchN fr m k).map (.int .i64))) ∧ Hid (Below w4.heap.size w4 wr)
set_option maxHeartbeats 3200000 in
set_option maxRecDepth 100000 in
theorem reach_ok (s : SF) (f : GF) (a : Nat) (m : Int) (fl : Bool) (w : World) (h : FOk w s f) (hE : cellE f a = 0) (hm : numB m = true) :
    Calls Tryd.prog 31 #[fA s f, .int .i64 a, .int .i64 m, .bool fl] w (ReachOk w f a m fl) := by
  obtain ⟨i0, hi0, hz0, hz1, hz2⟩ := info_parts int_inf
  obtain ⟨hg, ha0, ha1⟩ := cellE_in f a hE
  have hc := cells1_any s f a w h
  dsimp only at hc
  unfold w1F at hc
  have H := Lib.hid h
  have hn1 := hg.len.1
  replace hc := Lib.hid hc
  replace hg := Lib.hid hg
  clear h
  unfold fA
  go_enter Tryd.func31, Tryd.ntmps31
  go_wp2_with fail
  refine hc.out.mono ?_
  rintro e W ⟨rfl, hb, hk⟩
  rw [hE, errV0]
  have c0 := hk.cell 0
  have c1 := hk.cell 1
  have c2 := hk.cell 2
  have c3 := hk.cell 3
  have HF := H.out.below hb
  have hs := hb.size
  have hE2 := Lib.hid hE
  replace HF := Lib.hid HF
  replace hb := Lib.hid hb
  clear hE hc hk
  go_wp2_with (go_at_call 59; refine (numb_any m W).mono ?_; rintro e w' ⟨rfl, rfl⟩; rw [hm])
  refine (from_any s f a fl W HF.out hg.out (by omega)).mono ?_
  intro e W2 hp
  obtain ⟨g, fr, rfl, hd, hg3, hkf, hb5⟩ := hp
  have hb6 := hb.out.trans (hb5.mono hs)
  have hglt := hkf.lt
  have hln := hd.len
  replace hd := Lib.hid hd
  replace hkf := Lib.hid hkf
  replace hb6 := Lib.hid hb6
  replace hln := Lib.hid hln
  clear hb5 c0 c1 c2 c3
  go_wp2_with fail
  go_loopw [11, 12, 13, 30] (fun vl _ _ vi wr => RchRel f fr m W2 vl vi wr) (fun _ _ _ vi _ => f.ground.length - (intOf vi).toNat)
  case atStart => exact ⟨0, rfl, Nat.zero_le _, Lib.hid (World.ownsRow_nil _ _ _ _), Lib.hid (Below.refl _ _)⟩
  case round =>
    obtain ⟨k, rfl, hk, hown, hbr⟩ := hrel
    have hsz := hbr.out.size
    by_cases hlt : k < f.ground.length
    · have hkfr := hkf.out.below hbr.out hglt
      have cf := hkfr.atI k (by rw [hln.out]; exact hlt)
      have j1 : (k : Int) < (f.ground.length : Int) := by omega
      have hl := rchN_len fr m k
      have hyes := rchN_yes fr m k
      have hno := rchN_no fr m k
      replace hkfr := Lib.hid hkfr
      replace hyes := Lib.hid hyes
      replace hno := Lib.hid hno
      generalize at0 fr k = d at *
      by_cases q1 : 0 ≤ d
      · have d1 : decide ((0 : Int) ≤ d) = true := by simp; omega
        by_cases q2 : d ≤ m
        · have d2 : decide (d ≤ m) = true := by simp; omega
          have e1 := hyes.out ⟨q1, q2⟩
          have e2 : (rchN fr m (k + 1)).length = (rchN fr m k).length + 1 := by rw [e1]; simp
          have e3 : (rchN fr m (k + 1)).map (.int .i64) = (rchN fr m k).map (.int .i64) ++ [Value.int .i64 (k : Int)] := by rw [e1]; simp
          replace e1 := Lib.hid e1
          replace e2 := Lib.hid e2
          replace e3 := Lib.hid e3
          generalize (rchN fr m k).length = dl at *
          generalize (rchN fr m k).map (Value.int .i64) = cs at *
          go_wp2_with (at_builtin; refine wpList_app1 rfl (.tmp 42) (.tmp 44) 23 rfl W2.heap.size 3 i0 _ 1 8 Tryd.underlying23 hi0 hz0 hz1 hz2 rfl (by decide) (by decide) wr #[.int .i64 (k : Int)] u11 dl cs rfl hown.out rfl rfl rfl (by omega) hsz ?_; intro v' w6 hown' hgrow)
          go_roundw
          case rel => exact ⟨k + 1, by go_num, by omega, Lib.hid (by rw [e2.out, e3.out]; exact hown'), Lib.hid (hbr.out.grown hgrow hsz (fun g hg => (own_block_lt'' hown.out g hg)))⟩
          case measure => simp [intOf]; omega
        · have d2 : decide (d ≤ m) = false := by simp; omega
          have e1 := hno.out (fun h => q2 h.2)
          replace e1 := Lib.hid e1
          go_wp2_with fail
          go_roundw
          case rel => exact ⟨k + 1, by go_num, by omega, by rw [e1.out]; exact hown, hbr⟩
          case measure => simp [intOf]; omega
      · have d1 : decide ((0 : Int) ≤ d) = false := by simp; omega
        have e1 := hno.out (fun h => q1 h.1)
        replace e1 := Lib.hid e1
        go_wp2_with fail
        go_roundw
        case rel => exact ⟨k + 1, by go_num, by omega, by rw [e1.out]; exact hown, hbr⟩
        case measure => simp [intOf]; omega
    · obtain rfl : k = f.ground.length := by omega
      obtain ⟨A, c, rfl, _⟩ := own_slice hown.out
      have hbf := hb6.out.trans (hbr.out.mono hb6.out.size)
      have hof := own_base hown.out hb6.out.size
      replace hof := Lib.hid hof
      replace hbf := Lib.hid hbf
      go_wp2_with fail
      go_ret2
      exact ⟨fr, A, c, hd.out, rfl, hof.out, hbf.out⟩
end Go.Proofs.YtkkdegcbikjebaaDoor
