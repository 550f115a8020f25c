import Derived.Test.YtkkdegcbikjebaaDec
import Derived.Test.YtkkdegcbikjebaaEncW
import Derived.Test.YtkkdegcbikjebaaSameW
import Derived.Test.YtkkdegcbikjebaaStr
import Derived.StillTailTactics
namespace Go.Proofs.Ytkkdegcbikjebaa
set_option linter.unusedVariables false
open Go.RowKit
def fx : GW := ⟨1, 0, ⟨0, 0, [], []⟩, [], [], []⟩
def sN : SW := ⟨⟨⟨none, 0⟩, ⟨none, 0⟩⟩, ⟨none, 0⟩, ⟨none, 0⟩, ⟨none, 0⟩⟩
theorem numL_0 : numL 0 = [0] := vb_lo 0 (by omega)
theorem numL_1 : numL 1 = [2] := vb_lo 2 (by omega)
theorem fact_L : encL fx = [2, 0, 0, 0, 0, 0, 0, 0, 0] := by
  simp [encL, wN, lN, fx, numL_0, numL_1]
instance (x : GW) : Decidable (Short x) := by unfold Short; infer_instance
theorem nil_rd (w : World) (B : Nat) : WRd w B sN fx := ⟨RD.nil_, RD.nil_, RD.nil_, RD.nil_, RD.nil_⟩
theorem enc_fx (w : World) : Calls Try.prog 22 #[.agg #[.int .i64 1, .int .i64 0, .int .i64 0, .int .i64 0, .slice none 0 0, .slice none 0 0, .slice none 0 0, .slice none 0 0, .slice none 0 0]] w fun e w' =>
    ∃ b off c, e = .returned (.slice (some ⟨b, off, none⟩) 9 c) ∧ b < w'.heap.size ∧ w'.cell? ⟨b, off, none⟩ = some (.int .u8 2) ∧ Below w.heap.size w w' := by
  have h := nil_rd w w.heap.size
  refine (encode_any sN fx w h.g h.o h.d h.u h.j (by intro n hn; simp [wN, lN, fx] at hn; rcases hn with rfl | rfl <;> (unfold I64; omega)) (by decide) (by decide) (by decide) (by decide) (by decide)).mono ?_
  rintro e w' ⟨v, rfl, hown, hb⟩
  rw [fact_L] at hown
  obtain ⟨A, c, rfl, _⟩ := own_slice hown
  have hr := RD.of_own hown
  obtain ⟨b, off, rfl, hlt, hc⟩ := hr.2 (by decide)
  have h0 := hc 0 (by decide)
  exact ⟨b, off, c, rfl, hlt, h0, hb⟩
/-- A world by value, all of it. -/
theorem wN_i64 {w : World} {s : SW} {x : GW} (h : WOk w s x) (hs : Short x) : ∀ n ∈ wN x, I64 n := by
  obtain ⟨a1, a2, ⟨b1, b2, b3, b4⟩, a3, a4, a5⟩ := h
  obtain ⟨c1, c2, c3, c4, c5⟩ := hs
  intro n hn
  simp only [wN, lN, List.mem_append, List.mem_cons, List.not_mem_nil, or_false, List.mem_flatMap] at hn
  have hlen : ∀ k : Nat, k ≤ 200 → I64 (k : Int) := fun k hk => by unfold I64; omega
  rcases hn with (rfl | rfl | rfl | rfl) | (rfl | hn) | (rfl | hn) | (rfl | hn) | (rfl | ⟨u, hu, hn⟩) | (rfl | ⟨u, hu, hn⟩)
  · exact a1
  · exact a2
  · exact b1
  · exact b2
  · exact hlen _ c1
  · exact b3.2.2.2.2 n hn
  · exact hlen _ c2
  · exact b4.2.2.2.2 n hn
  · exact hlen _ c3
  · exact a3.2.2.2.2 n hn
  · exact hlen _ c4
  · obtain ⟨d1, d2, d3, d4, d5, d6, d7, d8⟩ := a4.2.2.2.2 u hu
    simp only [uN, List.mem_cons, List.not_mem_nil, or_false] at hn
    rcases hn with rfl | rfl | rfl | rfl | rfl | rfl | rfl | rfl <;> assumption
  · exact hlen _ c5
  · obtain ⟨d1, d2, d3, d4⟩ := a5.2.2.2.2 u hu
    simp only [jN, List.mem_cons, List.not_mem_nil, or_false] at hn
    rcases hn with rfl | rfl | rfl | rfl <;> assumption
theorem flat_numL : ∀ l : List Int, (∀ n ∈ l, I64 n) → (l.flatMap numL).length ≤ 10 * l.length
  | [], _ => by simp
  | n :: l, h => by
    have h1 := numL_len n (h n (by simp))
    have h2 := flat_numL l fun m hm => h m (List.mem_cons_of_mem _ hm)
    rw [List.flatMap_cons, List.length_append, List.length_cons]; omega
theorem uN_flat : ∀ l : List GU, (l.flatMap uN).length = 8 * l.length
  | [] => rfl
  | u :: l => by rw [List.flatMap_cons, List.length_append, uN_flat l, List.length_cons]; show 8 + _ = _; omega
theorem jN_flat : ∀ l : List GJ, (l.flatMap jN).length = 4 * l.length
  | [] => rfl
  | u :: l => by rw [List.flatMap_cons, List.length_append, jN_flat l, List.length_cons]; show 4 + _ = _; omega
theorem encL_len {x : GW} (hI : ∀ n ∈ wN x, I64 n) (hs : Short x) : (encL x).length ≤ 40000 := by
  have h1 := flat_numL (wN x) hI
  obtain ⟨c1, c2, c3, c4, c5⟩ := hs
  have h2 : (wN x).length ≤ 3100 := by
    simp only [wN, lN, List.length_append, List.length_cons, List.length_nil, uN_flat, jN_flat]
    omega
  have h3 : (encL x).length ≤ 10 * (wN x).length := h1
  omega
theorem dec_none (A : Option Addr) (c : Nat) (bs : List Int) (w : World) (h : RD w w.heap.size 1 A bs.length (bs.map (.int .u8))) (hbs : ∀ x ∈ bs, Byte x) (hl : bs.length ≤ 4611686018427387904) (hd : (dJ bs).2 = none) :
    Calls Try.prog 23 #[.slice A bs.length c] w fun e w' => Below w.heap.size w w' ∧ e = .returned (.tuple #[.agg zW, .int .i64 0, .iface 69 (.int .i64 9)]) := by
  refine (decode_any A c bs w h hbs hl).mono ?_
  rintro e w' ⟨hb, ⟨_, rfl⟩ | ⟨p, hp, _⟩⟩
  · exact ⟨hb, rfl⟩
  · rw [hd] at hp; cases hp
theorem dec_some (A : Option Addr) (c : Nat) (bs : List Int) (w : World) (p : Nat) (h : RD w w.heap.size 1 A bs.length (bs.map (.int .u8))) (hbs : ∀ x ∈ bs, Byte x) (hl : bs.length ≤ 4611686018427387904) (hd : (dJ bs).2 = some p) :
    Calls Try.prog 23 #[.slice A bs.length c] w fun e w' => Below w.heap.size w w' ∧ ∃ s, e = .returned (.tuple #[.agg (wV s (dW bs)).toArray, .int .i64 p, .nilIface]) ∧ WRd w' w'.heap.size s (dW bs) := by
  refine (decode_any A c bs w h hbs hl).mono ?_
  rintro e w' ⟨hb, ⟨hp, _⟩ | ⟨p', hp, _, Ag, cg, Ao, co, Ad, cd, Au, cu, Aj, cj, rfl, h1, h2, h3, h4, h5⟩⟩
  · rw [hd] at hp; cases hp
  · rw [hd] at hp
    obtain rfl : p = p' := by simpa using hp
    exact ⟨hb, ⟨⟨⟨Ag, cg⟩, ⟨Ao, co⟩⟩, ⟨Ad, cd⟩, ⟨Au, cu⟩, ⟨Aj, cj⟩⟩, rfl, ⟨h1, h2, h3, h4, h5⟩⟩
theorem enc_any (s : SW) (x : GW) (w : World) (h : WRd w w.heap.size s x) (hI : ∀ n ∈ wN x, I64 n) (hs : Short x) :
    Calls Try.prog 22 #[.agg (wV s x).toArray] w fun e w' => ∃ g c, e = .returned (.slice (some ⟨g, 0, none⟩) (encL x).length c) ∧ (encL x).length ≤ c ∧ g < w'.heap.size ∧ w'.ownsRow w.heap.size 5 1 (.slice (some ⟨g, 0, none⟩) (encL x).length c) (encL x).length ((encL x).map (.int .u8)) ∧ Below w.heap.size w w' := by
  refine (encode_any s x w h.g h.o h.d h.u h.j hI hs.1 hs.2.1 hs.2.2.1 hs.2.2.2.1 hs.2.2.2.2).mono ?_
  rintro e w' ⟨v, rfl, hown, hb⟩
  have ho := own_base (base' := w.heap.size) hown (by omega)
  rcases ho.2 with ⟨_, h0⟩ | ⟨g, c, cur, rfl, _, hg, hn, _⟩
  · have := encL_pos x; omega
  · exact ⟨g, c, rfl, hn, (ho.lt g rfl).2, ho, hb⟩
set_option maxHeartbeats 6400000 in
set_option maxRecDepth 100000 in
theorem worldBack_in (s : SW) (x : GW) (A : Option Addr) (c : Nat) (bs : List Int) (w : World) (h : WOk w s x) (hr : RD w w.heap.size 1 A bs.length (bs.map (.int .u8))) (hby : ∀ y ∈ bs, Byte y) (hnil : A = none → c = 0) (hcap : bs.length ≤ c)
    (hlen : bs.length ≤ 1048576) :
    Calls Try.prog 7 #[.agg (wV s x).toArray, .slice A bs.length c] w fun e w' => e = .returned (.bool true) ∧ Below w.heap.size w w' := by
  replace hr := Lib.hid hr
  replace hby := Lib.hid hby
  replace hnil := Lib.hid hnil
  have hR := h.rd
  have hI := fun hs => wN_i64 h hs
  replace hR := Lib.hid hR
  replace hI := Lib.hid hI
  clear h
  unfold wV
  go_enter Try.func7, Try.ntmps7
  go_upto_region 1 with fail
  have hb1 : Below w.heap.size w (w.alloc (.cells #[.int .i64 x.turn, .int .i64 x.next, .int .i64 x.field.wide, .int .i64 x.field.high, .slice s.field.ground.A x.field.ground.length s.field.ground.c, .slice s.field.ore.A x.field.ore.length s.field.ore.c, .slice s.gold.A x.gold.length s.gold.c, .slice s.units.A x.units.length s.units.c, .slice s.queue.A x.queue.length s.queue.c] 57)) := (Below.refl _ _).alloc (Nat.le_refl _) _
  have hk1 := Blk.new w 57 #[.int .i64 x.turn, .int .i64 x.next, .int .i64 x.field.wide, .int .i64 x.field.high, .slice s.field.ground.A x.field.ground.length s.field.ground.c, .slice s.field.ore.A x.field.ore.length s.field.ore.c, .slice s.gold.A x.gold.length s.gold.c, .slice s.units.A x.units.length s.units.c, .slice s.queue.A x.queue.length s.queue.c]
  generalize (w.alloc (.cells #[.int .i64 x.turn, .int .i64 x.next, .int .i64 x.field.wide, .int .i64 x.field.high, .slice s.field.ground.A x.field.ground.length s.field.ground.c, .slice s.field.ore.A x.field.ore.length s.field.ore.c, .slice s.gold.A x.gold.length s.gold.c, .slice s.units.A x.units.length s.units.c, .slice s.queue.A x.queue.length s.queue.c] 57)) = W1 at *
  have hs1 := hb1.size
  have l1 := hk1.lt
  replace hk1 := Lib.hid hk1
  replace hb1 := Lib.hid hb1
  go_wp2_with fail
  refine (enc_fx W1).mono ?_
  rintro e W2 ⟨bf, off, cf, rfl, hbf, hc0, hb2⟩
  have hb3 : Below w.heap.size w W2 := hb1.out.trans (hb2.mono hs1)
  have hk2 := hk1.out.below hb2 l1
  have hs2 := hb2.size
  have l2 := hk2.lt
  clear hk1 hb1 hb2
  replace hk2 := Lib.hid hk2
  replace hb3 := Lib.hid hb3
  go_upto_region 4 with fail

  have c4 : W2.cell? ⟨w.heap.size, 4, none⟩ = some (.slice s.field.ground.A x.field.ground.length s.field.ground.c) := hk2.out.cell 4
  have c5 : W2.cell? ⟨w.heap.size, 5, none⟩ = some (.slice s.field.ore.A x.field.ore.length s.field.ore.c) := hk2.out.cell 5
  have c6 : W2.cell? ⟨w.heap.size, 6, none⟩ = some (.slice s.gold.A x.gold.length s.gold.c) := hk2.out.cell 6
  have c7 : W2.cell? ⟨w.heap.size, 7, none⟩ = some (.slice s.units.A x.units.length s.units.c) := hk2.out.cell 7
  have c8 : W2.cell? ⟨w.heap.size, 8, none⟩ = some (.slice s.queue.A x.queue.length s.queue.c) := hk2.out.cell 8
  go_cut [59] from 30 to 101 (fun t wx => t = .bool (decide (Short x)) ∧ W2 = wx)
  case first =>
    by_cases q0 : x.field.ground.length ≤ 200
    rotate_left
    · have p0 : ¬ (x.field.ground.length : Int) ≤ 200 := by omega
      have hS : decide (Short x) = false := decide_eq_false fun hs => q0 hs.1
      replace hS := Lib.hid hS
      go_wp2_with fail
      go_meet
      case rel => exact ⟨congrArg Value.bool hS.out.symm, rfl⟩
    have p0 : (x.field.ground.length : Int) ≤ 200 := by omega
    by_cases q1 : x.field.ore.length ≤ 200
    rotate_left
    · have p1 : ¬ (x.field.ore.length : Int) ≤ 200 := by omega
      have hS : decide (Short x) = false := decide_eq_false fun hs => q1 hs.2.1
      replace hS := Lib.hid hS
      go_wp2_with fail
      go_meet
      case rel => exact ⟨congrArg Value.bool hS.out.symm, rfl⟩
    have p1 : (x.field.ore.length : Int) ≤ 200 := by omega
    by_cases q2 : x.gold.length ≤ 200
    rotate_left
    · have p2 : ¬ (x.gold.length : Int) ≤ 200 := by omega
      have hS : decide (Short x) = false := decide_eq_false fun hs => q2 hs.2.2.1
      replace hS := Lib.hid hS
      go_wp2_with fail
      go_meet
      case rel => exact ⟨congrArg Value.bool hS.out.symm, rfl⟩
    have p2 : (x.gold.length : Int) ≤ 200 := by omega
    by_cases q3 : x.units.length ≤ 200
    rotate_left
    · have p3 : ¬ (x.units.length : Int) ≤ 200 := by omega
      have hS : decide (Short x) = false := decide_eq_false fun hs => q3 hs.2.2.2.1
      replace hS := Lib.hid hS
      go_wp2_with fail
      go_meet
      case rel => exact ⟨congrArg Value.bool hS.out.symm, rfl⟩
    have p3 : (x.units.length : Int) ≤ 200 := by omega
    by_cases q4 : x.queue.length ≤ 200
    rotate_left
    · have p4 : ¬ (x.queue.length : Int) ≤ 200 := by omega
      have hS : decide (Short x) = false := decide_eq_false fun hs => q4 hs.2.2.2.2
      replace hS := Lib.hid hS
      go_wp2_with fail
      go_meet
      case rel => exact ⟨congrArg Value.bool hS.out.symm, rfl⟩
    have p4 : (x.queue.length : Int) ≤ 200 := by omega
    have hS : decide (Short x) = true := decide_eq_true ⟨q0, q1, q2, q3, q4⟩
    replace hS := Lib.hid hS
    go_wp2_with fail
    go_meet
    case rel => exact ⟨congrArg Value.bool hS.out.symm, rfl⟩
  case rest =>
  obtain ⟨rfl, rfl⟩ := hcut
  clear c4 c5 c6 c7 c8
  have hbi : Below w.heap.size w W2 := hb3.out
  have hR2 := hR.out.below (B := w.heap.size) hbi
  have hr2 : RD W2 w.heap.size 1 A bs.length _ := hr.out.below hbi
  replace hR2 := Lib.hid hR2
  replace hr2 := Lib.hid hr2
  clear hbi
  cases hS : decide (Short x)
  · go_upto_region 15 with fail
    have hsw := hb3.out.size
    have hrW := (hr.out.below hb3.out).more hsw
    cases hd : (dJ bs).2 with
    | none =>
      as_aux_lemma =>
        replace hrW := Lib.hid hrW
        replace hd := Lib.hid hd
        go_wp2_with fail
        refine (dec_none A c bs W2 hrW.out hby.out (by omega) hd.out).mono ?_
        rintro e V ⟨hbV, rfl⟩
        have hbF := hb3.out.trans (hbV.mono hsw)
        replace hbV := Lib.hid hbV
        replace hbF := Lib.hid hbF
        unfold zW
        go_wp2_with fail
        go_ret
        exact ⟨rfl, hbF.out.alloc hbF.out.size _⟩
    | some p =>
      as_aux_lemma =>
        obtain ⟨g1, g2, g3⟩ := world_back' bs p hby.out hd
        have g4 := (world_back bs p hby.out hd).le.2
        have g5 : 0 < p := by rw [← g3]; exact encL_pos _
        have hsV := dW_short bs
        obtain ⟨b0, o0, rfl, hb0, _⟩ := hrW.2 (by omega)
        replace hrW := Lib.hid hrW
        replace hd := Lib.hid hd
        replace g1 := Lib.hid g1
        replace g2 := Lib.hid g2
        replace g3 := Lib.hid g3
        replace hsV := Lib.hid hsV
        go_wp2_with fail
        refine (dec_some (some ⟨b0, o0, none⟩) c bs W2 p hrW.out hby.out (by omega) hd.out).mono ?_
        rintro e V ⟨hbV, sV, rfl, hV⟩
        generalize hy : dW bs = y at *
        replace hy := Lib.hid hy
        have hbF := hb3.out.trans (hbV.mono hsw)
        replace hbF := Lib.hid hbF
        replace hbV := Lib.hid hbV
        replace hV := Lib.hid hV
        unfold wV
        go_upto_region 18 with fail
        have hbG := hbF.out.alloc hbF.out.size (.cells #[.int .i64 y.turn, .int .i64 y.next, .int .i64 y.field.wide, .int .i64 y.field.high, .slice sV.field.ground.A y.field.ground.length sV.field.ground.c, .slice sV.field.ore.A y.field.ore.length sV.field.ore.c, .slice sV.gold.A y.gold.length sV.gold.c, .slice sV.units.A y.units.length sV.units.c, .slice sV.queue.A y.queue.length sV.queue.c] 57)
        have hkY := Blk.new V 57 #[.int .i64 y.turn, .int .i64 y.next, .int .i64 y.field.wide, .int .i64 y.field.high, .slice sV.field.ground.A y.field.ground.length sV.field.ground.c, .slice sV.field.ore.A y.field.ore.length sV.field.ore.c, .slice sV.gold.A y.gold.length sV.gold.c, .slice sV.units.A y.units.length sV.units.c, .slice sV.queue.A y.queue.length sV.queue.c]
        have hV2 := hV.out.below ((Below.refl V.heap.size V).alloc (Nat.le_refl _) (.cells #[.int .i64 y.turn, .int .i64 y.next, .int .i64 y.field.wide, .int .i64 y.field.high, .slice sV.field.ground.A y.field.ground.length sV.field.ground.c, .slice sV.field.ore.A y.field.ore.length sV.field.ore.c, .slice sV.gold.A y.gold.length sV.gold.c, .slice sV.units.A y.units.length sV.units.c, .slice sV.queue.A y.queue.length sV.queue.c] 57))
        generalize (V.alloc (.cells #[.int .i64 y.turn, .int .i64 y.next, .int .i64 y.field.wide, .int .i64 y.field.high, .slice sV.field.ground.A y.field.ground.length sV.field.ground.c, .slice sV.field.ore.A y.field.ore.length sV.field.ore.c, .slice sV.gold.A y.gold.length sV.gold.c, .slice sV.units.A y.units.length sV.units.c, .slice sV.queue.A y.queue.length sV.queue.c] 57)) = V2 at *
        have hvs : V.heap.size ≤ V2.heap.size := by have := hkY.lt; omega
        have lY := hkY.lt
        have y0 := hkY.cell 0
        have y1 := hkY.cell 1
        have y2 := hkY.cell 2
        have y3 := hkY.cell 3
        have y4 := hkY.cell 4
        have y5 := hkY.cell 5
        have y6 := hkY.cell 6
        have y7 := hkY.cell 7
        have y8 := hkY.cell 8
        replace hbG := Lib.hid hbG
        replace hkY := Lib.hid hkY
        have hV3 := hV2.more hvs
        replace hV3 := Lib.hid hV3
        clear hV hbF hbV hV2
        go_wp2_with fail
        refine (enc_any sV y V2 hV3.out g1.out hsV.out).mono ?_
        rintro e V3 ⟨ge, ce, rfl, hce, hge, hown, hb5⟩
        have hr5 := RD.of_own hown
        rw [g2.out, List.length_take, Nat.min_eq_left g4] at hr5 hce
        rw [g2.out, List.length_take, Nat.min_eq_left g4]
        have hbH := hbG.out.trans (hb5.mono hbG.out.size)
        have hrZ := ((hr.out.below hbH).pre (m := p) g4)
        rw [Nat.mul_one, ← List.map_take] at hrZ
        have hpl : (bs.take p).length = p := by rw [List.length_take]; omega
        have hpb : ∀ z ∈ bs.take p, Byte z := fun z hz => hby.out z (List.mem_of_mem_take hz)
        have s1 := fun q => str_run (V3.drewN q) _ (some ⟨ge, 0, none⟩) p ce (bs.take p) hpl (hr5.drewN q) hpb
        have s2 := fun q => str_run (V3.drewN q) _ (some ⟨b0, o0, none⟩) p c (bs.take p) hpl (hrZ.drewN q) hpb
        have q1 : ((toS (bs.take p)).toList == (toS (bs.take p)).toList) = true := by simp
        generalize toS (bs.take p) = tS at *
        replace hbH := Lib.hid hbH
        clear y0 y1 y2 y3 y4 y5 y6 y7 y8 hown hr5 hrZ hbG hb5 hpb
        have pc : p ≤ c := by omega
        go_wp2_with fail
        go_quiet (fail)
        go_wp2_with fail
        go_ret
        exact ⟨rfl, below_drewN hbH.out _⟩
  · have hs : Short x := of_decide_eq_true hS
    clear hS
    have hi := hI.out hs
    replace hi := Lib.hid hi
    replace hs := Lib.hid hs
    go_upto_region 5 with fail
    have c0 : W2.cell? ⟨w.heap.size, 0, none⟩ = some (.int .i64 x.turn) := hk2.out.cell 0
    have c1 : W2.cell? ⟨w.heap.size, 1, none⟩ = some (.int .i64 x.next) := hk2.out.cell 1
    have c2 : W2.cell? ⟨w.heap.size, 2, none⟩ = some (.int .i64 x.field.wide) := hk2.out.cell 2
    have c3 : W2.cell? ⟨w.heap.size, 3, none⟩ = some (.int .i64 x.field.high) := hk2.out.cell 3
    have c4 : W2.cell? ⟨w.heap.size, 4, none⟩ = some (.slice s.field.ground.A x.field.ground.length s.field.ground.c) := hk2.out.cell 4
    have c5 : W2.cell? ⟨w.heap.size, 5, none⟩ = some (.slice s.field.ore.A x.field.ore.length s.field.ore.c) := hk2.out.cell 5
    have c6 : W2.cell? ⟨w.heap.size, 6, none⟩ = some (.slice s.gold.A x.gold.length s.gold.c) := hk2.out.cell 6
    have c7 : W2.cell? ⟨w.heap.size, 7, none⟩ = some (.slice s.units.A x.units.length s.units.c) := hk2.out.cell 7
    have c8 : W2.cell? ⟨w.heap.size, 8, none⟩ = some (.slice s.queue.A x.queue.length s.queue.c) := hk2.out.cell 8
    have hX := hR2.out.more hb3.out.size
    replace hX := Lib.hid hX
    go_wp2_with fail
    refine (enc_any s x W2 hX.out hi.out hs.out).mono ?_
    rintro e W3 ⟨gx, cx, rfl, hcx, hgx, hown, hb4⟩
    have hb5 := hb3.out.trans (hb4.mono hb3.out.size)
    have hk3 := hk2.out.below hb4 l2
    have hs4 := hb4.size
    have hlx := encL_len hi.out hs.out
    have hpx := encL_pos x
    obtain ⟨m, hm⟩ : ∃ m, (encL x).length = m + 1 := ⟨(encL x).length - 1, by omega⟩
    have hct := world_cut x hi.out hs.out
    have hth := world_there x bs hi.out hs.out
    have hbx := encL_byte x
    have hrx := RD.of_own hown
    have hr3 := hr2.out.below (hb4.mono hb3.out.size)
    have hR3 := hR2.out.below (B := w.heap.size) (hb4.mono hb3.out.size)
    clear c0 c1 c2 c3 c4 c5 c6 c7 c8 hX hr2 hR2 hb3 hk2
    generalize encL x = L at *
    rw [hm] at hcx hct
    rw [show m + 1 - 1 = m by omega] at hct
    have hrk := hrx.pre (m := m) (by omega)
    rw [Nat.mul_one, ← List.map_take] at hrk
    have hkl : (L.take m).length = m := by rw [List.length_take]; omega
    have j1 : ¬ ((L.length : Nat) : Int) < 1 := by omega
    have j2 : ((L.length : Nat) : Int) - 1 = (m : Int) := by omega
    replace hbx := Lib.hid hbx
    replace hrx := Lib.hid hrx
    replace hrk := Lib.hid hrk
    replace hr3 := Lib.hid hr3
    replace hR3 := Lib.hid hR3
    replace hct := Lib.hid hct
    replace hth := Lib.hid hth
    replace hown := Lib.hid hown
    replace hb5 := Lib.hid hb5
    replace hk3 := Lib.hid hk3
    replace hkl := Lib.hid hkl
    replace hm := Lib.hid hm
    clear hb4
    go_upto_region 9 with fail
    go_wp2_with fail
    have hd1 := dec_none (some ⟨gx, 0, none⟩) cx (L.take m) W3 (by rw [hkl.out]; exact hrk.out) (fun y hy => hbx.out y (List.mem_of_mem_take hy)) (by rw [hkl.out]; omega) hct.out
    rw [hkl.out] at hd1
    refine hd1.mono ?_
    clear hd1
    rintro e W4 ⟨hb6, rfl⟩
    have hs6 := hb6.size
    have hb7 := hb5.out.trans (hb6.mono (by omega))
    have hk4 := hk3.out.below hb6 (by omega)
    have ho4 := own_below hown.out hb6
    have ho5 := ho4.alloc (.cells #[.int .i64 0, .int .i64 0, .int .i64 0, .int .i64 0, .slice none 0 0, .slice none 0 0, .slice none 0 0, .slice none 0 0, .slice none 0 0] 57)
    have hk5 := hk4.alloc (.cells #[.int .i64 0, .int .i64 0, .int .i64 0, .int .i64 0, .slice none 0 0, .slice none 0 0, .slice none 0 0, .slice none 0 0, .slice none 0 0] 57)
    have hb8 := hb7.alloc hb7.size (.cells #[.int .i64 0, .int .i64 0, .int .i64 0, .int .i64 0, .slice none 0 0, .slice none 0 0, .slice none 0 0, .slice none 0 0, .slice none 0 0] 57)
    have hs8 : (W4.alloc (.cells #[.int .i64 0, .int .i64 0, .int .i64 0, .int .i64 0, .slice none 0 0, .slice none 0 0, .slice none 0 0, .slice none 0 0, .slice none 0 0] 57)).heap.size = W4.heap.size + 1 := by simp
    have hgx : W2.heap.size ≤ gx := (hown.out.lt gx rfl).1
    replace ho5 := Lib.hid ho5
    replace hk5 := Lib.hid hk5
    replace hb8 := Lib.hid hb8
    clear hb5 hb6 hb7 hk3 hk4 hown ho4 hr3 hR3 hrx hrk
    unfold zW
    go_upto_region 10 with fail
    generalize (W4.alloc (.cells #[.int .i64 0, .int .i64 0, .int .i64 0, .int .i64 0, .slice none 0 0, .slice none 0 0, .slice none 0 0, .slice none 0 0, .slice none 0 0] 57)) = W5 at *
    obtain ⟨i0, hi0, hz0, hz1, hz2⟩ := info_parts num_info
    have hr5 := (hr.out.below hb8.out)
    replace hr5 := Lib.hid hr5
    have hs5 : W2.heap.size ≤ W5.heap.size := by omega
    go_wp2_with (at_builtin; refine wpList_append_rd rfl (.tmp 75) (.tmp 76) 41 rfl W2.heap.size 5 i0 _ 1 1 Try.underlying41 hi0 hz0 hz1 hz2 rfl (by decide) W5 (.slice (some ⟨gx, 0, none⟩) L.length cx) L.length _ rfl ho5.out w.heap.size A bs.length c (bs.map (.int .u8)) rfl hnil.out hr5.out (by simp [Value.oneCell']) (by unfold maxLen; omega) (by omega) hs5 ?_; intro v6 W6 ho6 hg6)
    obtain ⟨A6, c6, rfl, _⟩ := own_slice ho6
    have hb9 := hb8.out.grown hg6 (by omega) (fun q e => by (have e' : some gx = some q := e); injection e' with e'; omega)
    have hk6 := hk5.out.grown hg6 (fun e => by (have e' : some w.heap.size = some gx := e); injection e' with e'; omega)
    have hr6 := RD.of_own ho6
    have hs6 := hg6.size
    rw [← List.map_append] at hr6
    replace hb9 := Lib.hid hb9
    replace hk6 := Lib.hid hk6
    replace hr6 := Lib.hid hr6
    clear ho6 hg6 hr5 ho5 hk5 hb8 hz0 hz1 hz2 hi0
    go_wp2_with fail
    have hd2 := dec_some A6 c6 (L ++ bs) W6 L.length (by rw [List.length_append]; exact hr6.out) (fun y hy => (List.mem_append.1 hy).elim (hbx.out y) (hby.out y)) (by rw [List.length_append]; omega) (by rw [hth.out.1])
    rw [List.length_append, hth.out.2] at hd2
    refine hd2.mono ?_
    clear hd2
    rintro e W7 ⟨hbA, s7, rfl, hW7⟩
    have hsA := hbA.size
    have hbB := hb9.out.trans (hbA.mono (by have := hb9.out.size; omega))
    have hbC := hbB.alloc hbB.size (.cells #[.int .i64 x.turn, .int .i64 x.next, .int .i64 x.field.wide, .int .i64 x.field.high, .slice s7.field.ground.A x.field.ground.length s7.field.ground.c, .slice s7.field.ore.A x.field.ore.length s7.field.ore.c, .slice s7.gold.A x.gold.length s7.gold.c, .slice s7.units.A x.units.length s7.units.c, .slice s7.queue.A x.queue.length s7.queue.c] 57)
    have hk7 := (hk6.out.below hbA (by omega)).alloc (.cells #[.int .i64 x.turn, .int .i64 x.next, .int .i64 x.field.wide, .int .i64 x.field.high, .slice s7.field.ground.A x.field.ground.length s7.field.ground.c, .slice s7.field.ore.A x.field.ore.length s7.field.ore.c, .slice s7.gold.A x.gold.length s7.gold.c, .slice s7.units.A x.units.length s7.units.c, .slice s7.queue.A x.queue.length s7.queue.c] 57)
    have hm7 := Blk.new W7 57 #[.int .i64 x.turn, .int .i64 x.next, .int .i64 x.field.wide, .int .i64 x.field.high, .slice s7.field.ground.A x.field.ground.length s7.field.ground.c, .slice s7.field.ore.A x.field.ore.length s7.field.ore.c, .slice s7.gold.A x.gold.length s7.gold.c, .slice s7.units.A x.units.length s7.units.c, .slice s7.queue.A x.queue.length s7.queue.c]
    have hW8 := hW7.below ((Below.refl W7.heap.size W7).alloc (Nat.le_refl _) (.cells #[.int .i64 x.turn, .int .i64 x.next, .int .i64 x.field.wide, .int .i64 x.field.high, .slice s7.field.ground.A x.field.ground.length s7.field.ground.c, .slice s7.field.ore.A x.field.ore.length s7.field.ore.c, .slice s7.gold.A x.gold.length s7.gold.c, .slice s7.units.A x.units.length s7.units.c, .slice s7.queue.A x.queue.length s7.queue.c] 57))
    unfold wV
    replace hk7 := Lib.hid hk7
    replace hm7 := Lib.hid hm7
    replace hW8 := Lib.hid hW8
    replace hbC := Lib.hid hbC
    clear hbA hbB hb9 hk6 hr6 hW7
    go_upto_region 12 with fail
    generalize (W7.alloc (.cells #[.int .i64 x.turn, .int .i64 x.next, .int .i64 x.field.wide, .int .i64 x.field.high, .slice s7.field.ground.A x.field.ground.length s7.field.ground.c, .slice s7.field.ore.A x.field.ore.length s7.field.ore.c, .slice s7.gold.A x.gold.length s7.gold.c, .slice s7.units.A x.units.length s7.units.c, .slice s7.queue.A x.queue.length s7.queue.c] 57)) = W8 at *
    have hR8 := (hR.out.below (B := w.heap.size) hbC.out).more hbC.out.size
    have l7 := hm7.out.lt
    have hW9 := hW8.out.more (C := W8.heap.size) (by omega)
    have l8 := hk7.out.lt
    replace hR8 := Lib.hid hR8
    replace hW9 := Lib.hid hW9
    have c0 := hk7.out.cell 0
    have d0 := hm7.out.cell 0
    have c1 := hk7.out.cell 1
    have d1 := hm7.out.cell 1
    have c2 := hk7.out.cell 2
    have d2 := hm7.out.cell 2
    have c3 := hk7.out.cell 3
    have d3 := hm7.out.cell 3
    have c4 := hk7.out.cell 4
    have d4 := hm7.out.cell 4
    have c5 := hk7.out.cell 5
    have d5 := hm7.out.cell 5
    have c6 := hk7.out.cell 6
    have d6 := hm7.out.cell 6
    have c7 := hk7.out.cell 7
    have d7 := hm7.out.cell 7
    have c8 := hk7.out.cell 8
    have d8 := hm7.out.cell 8
    clear hW8
    go_wp2_with fail
    obtain ⟨z1, z2, z3, z4, z5⟩ := hs.out
    refine (samew_eq s7 s x W8 W8.heap.size hW9.out hR8.out (by omega) (by omega) (by omega) (by omega) (by omega) (Nat.le_refl _)).mono ?_
    rintro e W9 ⟨rfl, hbD⟩
    have hbE := hbC.out.trans (hbD.mono hbC.out.size)
    replace hbE := Lib.hid hbE
    clear c0 d0 c1 d1 c2 d2 c3 d3 c4 d4 c5 d5 c6 d6 c7 d7 c8 d8 hR8 hW9 hbD hbC z1 z2 z3 z4 z5
    go_upto_region 15 with fail
    have hsw := hbE.out.size
    have hrW := (hr.out.below hbE.out).more hsw
    cases hd : (dJ bs).2 with
    | none =>
      as_aux_lemma =>
        replace hrW := Lib.hid hrW
        replace hd := Lib.hid hd
        go_wp2_with fail
        refine (dec_none A c bs W9 hrW.out hby.out (by omega) hd.out).mono ?_
        rintro e V ⟨hbV, rfl⟩
        have hbF := hbE.out.trans (hbV.mono hsw)
        replace hbV := Lib.hid hbV
        replace hbF := Lib.hid hbF
        unfold zW
        go_wp2_with fail
        go_ret
        exact ⟨rfl, hbF.out.alloc hbF.out.size _⟩
    | some p =>
      as_aux_lemma =>
        obtain ⟨g1, g2, g3⟩ := world_back' bs p hby.out hd
        have g4 := (world_back bs p hby.out hd).le.2
        have g5 : 0 < p := by rw [← g3]; exact encL_pos _
        have hsV := dW_short bs
        obtain ⟨b0, o0, rfl, hb0, _⟩ := hrW.2 (by omega)
        replace hrW := Lib.hid hrW
        replace hd := Lib.hid hd
        replace g1 := Lib.hid g1
        replace g2 := Lib.hid g2
        replace g3 := Lib.hid g3
        replace hsV := Lib.hid hsV
        go_wp2_with fail
        refine (dec_some (some ⟨b0, o0, none⟩) c bs W9 p hrW.out hby.out (by omega) hd.out).mono ?_
        rintro e V ⟨hbV, sV, rfl, hV⟩
        generalize hy : dW bs = y at *
        replace hy := Lib.hid hy
        have hbF := hbE.out.trans (hbV.mono hsw)
        replace hbF := Lib.hid hbF
        replace hbV := Lib.hid hbV
        replace hV := Lib.hid hV
        unfold wV
        go_upto_region 18 with fail
        have hbG := hbF.out.alloc hbF.out.size (.cells #[.int .i64 y.turn, .int .i64 y.next, .int .i64 y.field.wide, .int .i64 y.field.high, .slice sV.field.ground.A y.field.ground.length sV.field.ground.c, .slice sV.field.ore.A y.field.ore.length sV.field.ore.c, .slice sV.gold.A y.gold.length sV.gold.c, .slice sV.units.A y.units.length sV.units.c, .slice sV.queue.A y.queue.length sV.queue.c] 57)
        have hkY := Blk.new V 57 #[.int .i64 y.turn, .int .i64 y.next, .int .i64 y.field.wide, .int .i64 y.field.high, .slice sV.field.ground.A y.field.ground.length sV.field.ground.c, .slice sV.field.ore.A y.field.ore.length sV.field.ore.c, .slice sV.gold.A y.gold.length sV.gold.c, .slice sV.units.A y.units.length sV.units.c, .slice sV.queue.A y.queue.length sV.queue.c]
        have hV2 := hV.out.below ((Below.refl V.heap.size V).alloc (Nat.le_refl _) (.cells #[.int .i64 y.turn, .int .i64 y.next, .int .i64 y.field.wide, .int .i64 y.field.high, .slice sV.field.ground.A y.field.ground.length sV.field.ground.c, .slice sV.field.ore.A y.field.ore.length sV.field.ore.c, .slice sV.gold.A y.gold.length sV.gold.c, .slice sV.units.A y.units.length sV.units.c, .slice sV.queue.A y.queue.length sV.queue.c] 57))
        generalize (V.alloc (.cells #[.int .i64 y.turn, .int .i64 y.next, .int .i64 y.field.wide, .int .i64 y.field.high, .slice sV.field.ground.A y.field.ground.length sV.field.ground.c, .slice sV.field.ore.A y.field.ore.length sV.field.ore.c, .slice sV.gold.A y.gold.length sV.gold.c, .slice sV.units.A y.units.length sV.units.c, .slice sV.queue.A y.queue.length sV.queue.c] 57)) = V2 at *
        have hvs : V.heap.size ≤ V2.heap.size := by have := hkY.lt; omega
        have lY := hkY.lt
        have y0 := hkY.cell 0
        have y1 := hkY.cell 1
        have y2 := hkY.cell 2
        have y3 := hkY.cell 3
        have y4 := hkY.cell 4
        have y5 := hkY.cell 5
        have y6 := hkY.cell 6
        have y7 := hkY.cell 7
        have y8 := hkY.cell 8
        replace hbG := Lib.hid hbG
        replace hkY := Lib.hid hkY
        have hV3 := hV2.more hvs
        replace hV3 := Lib.hid hV3
        clear hV hbF hbV hV2
        go_wp2_with fail
        refine (enc_any sV y V2 hV3.out g1.out hsV.out).mono ?_
        rintro e V3 ⟨ge, ce, rfl, hce, hge, hown, hb5⟩
        have hr5 := RD.of_own hown
        rw [g2.out, List.length_take, Nat.min_eq_left g4] at hr5 hce
        rw [g2.out, List.length_take, Nat.min_eq_left g4]
        have hbH := hbG.out.trans (hb5.mono hbG.out.size)
        have hrZ := ((hr.out.below hbH).pre (m := p) g4)
        rw [Nat.mul_one, ← List.map_take] at hrZ
        have hpl : (bs.take p).length = p := by rw [List.length_take]; omega
        have hpb : ∀ z ∈ bs.take p, Byte z := fun z hz => hby.out z (List.mem_of_mem_take hz)
        have s1 := fun q => str_run (V3.drewN q) _ (some ⟨ge, 0, none⟩) p ce (bs.take p) hpl (hr5.drewN q) hpb
        have s2 := fun q => str_run (V3.drewN q) _ (some ⟨b0, o0, none⟩) p c (bs.take p) hpl (hrZ.drewN q) hpb
        have q1 : ((toS (bs.take p)).toList == (toS (bs.take p)).toList) = true := by simp
        generalize toS (bs.take p) = tS at *
        replace hbH := Lib.hid hbH
        clear y0 y1 y2 y3 y4 y5 y6 y7 y8 hown hr5 hrZ hbG hb5 hpb
        have pc : p ≤ c := by omega
        go_wp2_with fail
        go_quiet (fail)
        go_wp2_with fail
        go_ret
        exact ⟨rfl, below_drewN hbH.out _⟩
theorem law_walk (v : Value) (x : SW × GW) (a1 : Option Addr) (len1 cap1 : Nat) (z1 : List Int) (w : World) (h : v = .agg (wV x.1 x.2).toArray ∧ WOk w x.1 x.2) (w1 : IsRow .u8 w a1 len1 cap1 z1) (b1 : len1 ≤ 1048576) :
    Calls Try.prog 7 #[v, .slice a1 len1 cap1] w fun e w' => e = .returned (.bool true) ∧ Below w.heap.size w w' := by
  have hn1 : a1 = none → cap1 = 0 := by
    rcases w1 with ⟨_, _, h, _⟩ | ⟨x, h, _⟩
    · exact fun _ => h
    · intro e; rw [e] at h; cases h
  obtain ⟨bs, rfl, hr1, hw1, _, hc1⟩ := isRow_rd w1
  obtain ⟨rfl, hk⟩ := h
  refine worldBack_in x.1 x.2 a1 cap1 bs w hk hr1 (fun y hy => ?_) hn1 hc1 b1
  have := bounds_u8 (hw1 y hy)
  exact this
end Go.Proofs.Ytkkdegcbikjebaa
