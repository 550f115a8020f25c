import Derived.Test.YtkkdegcbikjebaaParse
import Derived.Test.YtkkdegcbikjebaaPrint
import Derived.Test.YtkkdegcbikjebaaSameF
import Derived.OpenShut
namespace Go.Proofs.Ytkkdegcbikjebaa
set_option linter.unusedVariables false
open Go.RowKit
theorem tiny_parse : parseL (bsOf ⟨#[46, 51, 10]⟩) = (⟨2, 1, [0, 0], [0, 30]⟩, 0, 0) := by decide +kernel
theorem cat_byte (f : GF) (h : fieldE f = 0) : ∀ x ∈ fieldT f, Byte x := by
  have hg := good_of f h
  have hos := hg.ores
  exact fun x hx => txtP_byte f (fun k => (hos k).1) f.wide.toNat f.high.toNat x hx
theorem fieldT_len (f : GF) (h : fieldE f = 0) : (fieldT f).length ≤ 1000 := by
  have hg := good_of f h
  have h1 := hg.wide
  have h2 := hg.high
  unfold fieldT
  rw [txtP_len]
  have : f.high.toNat * (f.wide.toNat + 1) ≤ 12 * 13 := Nat.mul_le_mul (by omega) (by omega)
  omega
theorem sli_far {w : World} {s : SL} {xs : List Int} (h : SLI w s xs) {g i : Nat} (hg : ∀ b o, s.A = some ⟨b, o, none⟩ → b ≠ g) (u : Value) : SLI (w.setCell ⟨g, i, none⟩ u) s xs := by
  refine ⟨⟨h.1.1, fun hn => ?_⟩, h.2⟩
  obtain ⟨b, off, e, hb, hc⟩ := h.1.2 hn
  refine ⟨b, off, e, by simpa using hb, fun j hj => ?_⟩
  rw [World.cell?_setCell_other w _ _ u (by intro h2; injection h2 with h3; exact hg b off e h3.symm)]
  exact hc j hj
theorem clrF_fok {w : World} {s : SF} {f : GF} (h : FOk w s f) {g : Nat} (h1 : ∀ b o, s.ground.A = some ⟨b, o, none⟩ → b ≠ g) (h2 : ∀ b o, s.ore.A = some ⟨b, o, none⟩ → b ≠ g) (a b : Int) (v3 v4 : Value) : FOk (clrF w g a b v3 v4) s f :=
  ⟨h.1, h.2.1, sli_far (sli_far (sli_far (sli_far h.2.2.1 h1 _) h1 _) h1 _) h1 _, sli_far (sli_far (sli_far (sli_far h.2.2.2 h2 _) h2 _) h2 _) h2 _⟩
/-- A field boxed. -/
def fC (s : SF) (f : GF) : Array Value := #[.int .i64 f.wide, .int .i64 f.high, .slice s.ground.A f.ground.length s.ground.c, .slice s.ore.A f.ore.length s.ore.c]
set_option maxHeartbeats 6400000 in
set_option maxRecDepth 100000 in
theorem fieldBack_in (s : SF) (f : GF) (tx : ByteArray) (w : World) (h : FOk w s f) (htx : tx.size ≤ 9223372036854775807) :
    Calls Try.prog 3 #[fA s f, .string tx] w fun e w' => e = .returned (.bool true) ∧ Below w.heap.size w w' := by
  have H := Lib.hid h
  clear h
  unfold fA
  go_enter Try.func3, Try.ntmps3
  go_wp2_with fail
  have hb1 : Below w.heap.size w (w.alloc (.cells #[.int .i64 f.wide, .int .i64 f.high, .slice s.ground.A f.ground.length s.ground.c, .slice s.ore.A f.ore.length s.ore.c] 24)) := (Below.refl _ _).alloc (Nat.le_refl _) _
  have hk1 := Blk.new w 24 #[.int .i64 f.wide, .int .i64 f.high, .slice s.ground.A f.ground.length s.ground.c, .slice s.ore.A f.ore.length s.ore.c]
  generalize w.alloc (.cells #[.int .i64 f.wide, .int .i64 f.high, .slice s.ground.A f.ground.length s.ground.c, .slice s.ore.A f.ore.length s.ore.c] 24) = W at *
  have hs1 := hb1.size
  have hk1lt := hk1.lt
  refine (parse_any ⟨#[46, 51, 10]⟩ W (by decide)).mono ?_
  intro e W1 hp
  obtain ⟨s1, rfl, hF1, hb2, _, _⟩ := hp
  rw [tiny_parse] at hF1 ⊢
  dsimp only at hF1 ⊢
  rw [errV0]
  unfold fA
  obtain ⟨_, _, _, ho1⟩ := hF1
  obtain ⟨bo, oo, hAo, hco, hbo⟩ := ho1.at_ (k := 1) (by decide)
  obtain ⟨⟨Ag1, cg1⟩, ⟨Ao1, co1⟩⟩ := s1
  dsimp only at hAo
  subst hAo
  change W1.cell? ⟨bo, oo + 1, none⟩ = some (.int .i64 30) at hco
  have hb3 := hb1.trans (hb2.mono hs1)
  have hk2 := hk1.below hb2 hk1lt
  have hs2 := hb3.size
  replace hk2 := Lib.hid hk2
  replace hb3 := Lib.hid hb3
  clear hk1 hb1 hb2 ho1
  go_wp2_with fail
  have hb4 := hb3.out.alloc hs2 (.cells #[.int .i64 2, .int .i64 1, .slice Ag1 2 cg1, .slice (some ⟨bo, oo, none⟩) 2 co1] 24)
  have hk3 := hk2.out.alloc (.cells #[.int .i64 2, .int .i64 1, .slice Ag1 2 cg1, .slice (some ⟨bo, oo, none⟩) 2 co1] 24)
  have hq := Blk.new W1 24 #[.int .i64 2, .int .i64 1, .slice Ag1 2 cg1, .slice (some ⟨bo, oo, none⟩) 2 co1]
  have hco2 : (W1.alloc (.cells #[.int .i64 2, .int .i64 1, .slice Ag1 2 cg1, .slice (some ⟨bo, oo, none⟩) 2 co1] 24)).cell? ⟨bo, oo + 1, none⟩ = some (.int .i64 30) := by
    rw [World.cell?_alloc_lt _ _ _ hbo]; exact hco
  have hk3lt := hk3.lt
  have hs4 := hb4.size
  replace hk3 := Lib.hid hk3
  replace hb4 := Lib.hid hb4
  clear hq hco2 hco hk2 hb3
  generalize W1.alloc (.cells #[.int .i64 2, .int .i64 1, .slice Ag1 2 cg1, .slice (some ⟨bo, oo, none⟩) 2 co1] 24) = W2 at *
  refine (parse_any tx W2 htx).mono ?_
  intro e W3 hp
  obtain ⟨s3, rfl, hF3, hb5, _, _⟩ := hp
  generalize hR : parseL (bsOf tx) = R at *
  obtain ⟨g, p, er⟩ := R
  dsimp only at hF3 ⊢
  unfold fA
  have hk4 := hk3.out.below hb5 hk3lt
  have hb6 := hb4.out.trans (hb5.mono hs4)
  have hb6s := hb6.size
  have hs6b : w.heap.size ≤ W3.heap.size := hb6s
  have hs6c : w.heap.size < W3.heap.size := by have := (hk3.out.below hb5 hk3lt).lt; omega
  replace hR := Lib.hid hR
  replace hk4 := Lib.hid hk4
  replace hb6 := Lib.hid hb6
  clear hb5 hk3
  go_upto_region 5 with fail
  have hk5 := hk4.out.alloc (.cells #[.int .i64 g.wide, .int .i64 g.high, .slice s3.ground.A g.ground.length s3.ground.c, .slice s3.ore.A g.ore.length s3.ore.c] 24)
  have hb7 := hb6.out.alloc hb6s (.cells #[.int .i64 g.wide, .int .i64 g.high, .slice s3.ground.A g.ground.length s3.ground.c, .slice s3.ore.A g.ore.length s3.ore.c] 24)
  have hF4 := hF3.below ((Below.refl _ _).alloc (Nat.le_refl _) (.cells #[.int .i64 g.wide, .int .i64 g.high, .slice s3.ground.A g.ground.length s3.ground.c, .slice s3.ore.A g.ore.length s3.ore.c] 24))
  have hq4 := Blk.new W3 24 #[.int .i64 g.wide, .int .i64 g.high, .slice s3.ground.A g.ground.length s3.ground.c, .slice s3.ore.A g.ore.length s3.ore.c]
  have hk5lt := hk5.lt
  have hq4lt := hq4.lt
  have hs7 := hb7.size
  replace hk5 := Lib.hid hk5
  replace hb7 := Lib.hid hb7
  replace hF4 := Lib.hid hF4
  replace hq4 := Lib.hid hq4
  clear hk4 hb6 hF3
  generalize W3.alloc (.cells #[.int .i64 g.wide, .int .i64 g.high, .slice s3.ground.A g.ground.length s3.ground.c, .slice s3.ore.A g.ore.length s3.ore.c] 24) = W4 at *
  go_cut [10, 50] (fun v t wx => v = errV er ∧ t = .bool (decide (er = 0)) ∧ W4 = wx)
  case first =>
    by_cases her : er = 0
    · subst her
      rw [errV0]
      go_wp2_with fail
      go_meet
      exact ⟨rfl, rfl, rfl⟩
    · rw [errVn _ her]
      have hd : decide (er = 0) = false := by simp [her]
      unfold erE
      have her2 := Lib.hid her
      clear her
      go_wp2_with fail
      go_meet
      exact ⟨(errVn _ her2.out).symm, by rw [hd], rfl⟩
  case rest =>
  obtain ⟨rfl, rfl, rfl⟩ := hcut
  go_upto_if 50 with fail
  go_cut [11, 12] (fun _ _ wx0 => ∃ wx, wx = wx0 ∧ Hid (Below W4.heap.size W4 wx))
  case first =>
    by_cases her : er = 0
    · obtain ⟨g0, gT, gp⟩ := parse_back _ g p (by have := hR.out; rw [her] at this; exact this)
      have hd : decide (er = 0) = true := by simp [her]
      rw [hd]
      clear gp
      have c0 := hq4.out.cell 0
      have c1 := hq4.out.cell 1
      have c2 := hq4.out.cell 2
      have c3 := hq4.out.cell 3
      replace her := Lib.hid her
      replace hd := Lib.hid hd
      go_wp2_with fail
      refine (print_ok s3 g W4 hF4.out g0).mono ?_
      rintro e w5 ⟨rfl, hb8⟩
      rw [gT, toS_bsOf]
      replace hb8 := Lib.hid hb8
      replace gT := Lib.hid gT
      replace g0 := Lib.hid g0
      go_wp2_with fail
      go_meet
      exact ⟨_, rfl, hb8⟩
    · have hd : decide (er = 0) = false := by simp [her]
      rw [hd]
      replace her := Lib.hid her
      replace hd := Lib.hid hd
      go_wp2_with fail
      go_meet
      exact ⟨_, rfl, Lib.hid (Below.refl _ _)⟩
  case rest =>
  obtain ⟨W5, rfl, hb8⟩ := hcut
  have hs8 := hb8.out.size
  have hk6 := hk5.out.below hb8.out hk5lt
  have hq6 := hq4.out.below hb8.out hq4lt
  have hb9 := hb7.out.trans (hb8.out.mono hs7)
  have HF5 := H.out.below hb9
  have d0 := hk6.cell 0
  have d1 := hk6.cell 1
  have d2 := hk6.cell 2
  have d3 := hk6.cell 3
  have hk6lt := hk6.lt
  have hq6lt := hq6.lt
  have hs9 := hb9.size
  replace hk6 := Lib.hid hk6
  replace hq6 := Lib.hid hq6
  replace hb9 := Lib.hid hb9
  replace HF5 := Lib.hid HF5
  clear hk5 hq4 hb7 hb8 hF4
  go_wp2_with fail
  by_cases hE : fieldE f = 0
  case neg =>
    refine (print_no s f W5 HF5.out hE).mono ?_
    rintro e W6 ⟨rfl, hb10⟩
    unfold erE
    replace hE := Lib.hid hE
    go_wp2_with fail
    go_ret
    exact ⟨rfl, hb9.out.trans (hb10.mono hs9)⟩
  refine (print_ok s f W5 HF5.out hE).mono ?_
  rintro e W6 ⟨rfl, hb10⟩
  have hg := good_of f hE
  have hos := hg.ores
  have hn := hg.len
  have hby := cat_byte f hE
  have htl := fieldT_len f hE
  have hk7 := hk6.out.below hb10 hk6lt
  have hq7 := hq6.out.below hb10 hq6lt
  have hb11 := hb9.out.trans (hb10.mono hs9)
  have HF6 := HF5.out.below hb10
  have hs11 := hb11.size
  have hol : f.ore.length ≤ 144 := by omega
  have hgl : f.ground.length ≤ 144 := by omega
  have o0 := hk7.cell 3
  have hk7lt := hk7.lt
  have hq7lt := hq7.lt
  have hpt := parse_there f hE
  replace hE := Lib.hid hE
  replace hg := Lib.hid hg
  replace hos := Lib.hid hos
  replace hn := Lib.hid hn
  replace hby := Lib.hid hby
  replace hk7 := Lib.hid hk7
  replace hq7 := Lib.hid hq7
  replace hb11 := Lib.hid hb11
  replace HF6 := Lib.hid HF6
  replace hpt := Lib.hid hpt
  clear hk6 hq6 hb9 HF5 hb10 d0 d1 d2 d3
  go_wp2_with fail
  go_loop [14] (fun i => ∃ k : Nat, k ≤ f.ore.length ∧ i = .int .i64 k ∧ Hid (∀ j : Nat, j < k → f.ore.getD j 0 ≤ 90 ∧ f.ore.getD j 0 % 10 = 0)) (fun i => f.ore.length - (intOf i).toNat)
  case atStart => exact ⟨0, Nat.zero_le _, rfl, Lib.hid (fun j h => absurd h (by omega))⟩
  case round =>
  obtain ⟨k, hk, rfl, hpre⟩ := hrel
  by_cases hlt : k < f.ore.length
  · obtain ⟨b, o, hA, hc, hb⟩ := HF6.out.2.2.2.at_ hlt
    have o1 := o0
    rw [show (#[Value.int .i64 f.wide, .int .i64 f.high, .slice s.ground.A f.ground.length s.ground.c, .slice s.ore.A f.ore.length s.ore.c] : Array Value)[3]? = some (.slice (some ⟨b, o, none⟩) f.ore.length s.ore.c) by rw [← hA]; rfl] at o1
    have i1 : (k : Int) < (f.ore.length : Int) := by omega
    obtain ⟨v0, _, _, _, _⟩ := hos.out k
    have hnx : f.ore.getD k 0 ≤ 90 → f.ore.getD k 0 % 10 = 0 → ∀ j : Nat, j < k + 1 → f.ore.getD j 0 ≤ 90 ∧ f.ore.getD j 0 % 10 = 0 := fun h1 h2 j hj => by
      rcases Nat.lt_or_ge j k with h | h
      · exact hpre.out j h
      · obtain rfl : j = k := by omega
        exact ⟨h1, h2⟩
    replace hnx := Lib.hid hnx
    replace hA := Lib.hid hA
    clear o0
    generalize f.ore.getD k 0 = ov at *
    by_cases q1 : 90 < ov
    · have e1 : decide ((90 : Int) < ov) = true := by simp; omega
      go_wp2_with fail
      go_ret
      exact ⟨rfl, hb11.out⟩
    · have e1 : decide ((90 : Int) < ov) = false := by simp; omega
      by_cases q2 : ov % 10 = 0
      · have e2 : (ov % 10 != 0) = false := by simp [q2]
        have e3 := hnx.out (by omega) q2
        replace e3 := Lib.hid e3
        replace q2 := Lib.hid q2
        go_wp2_with fail
        go_round
        case rel => exact ⟨k + 1, by omega, by go_num, e3⟩
        case measure => simp [intOf]; omega
      · have e2 : (ov % 10 != 0) = true := by simp [q2]
        replace q2 := Lib.hid q2
        go_wp2_with fail
        go_ret
        exact ⟨rfl, hb11.out⟩
  · have hall := hpt.out (fun j hj => hpre.out j (by omega))
    have hbs := bsOf_toS (fieldT f) hby.out
    replace hall := Lib.hid hall
    replace hbs := Lib.hid hbs
    go_wp2_with fail
    refine (parse_any (toS (fieldT f)) W6 (by rw [← bsOf_len, hbs.out]; omega)).mono ?_
    intro e W7 hp
    obtain ⟨s7, rfl, hF7, hb12, hA7, hB7⟩ := hp
    rw [hbs.out, hall.out] at hF7 ⊢
    dsimp only at hF7 ⊢
    rw [errV0]
    unfold fA
    have hk8 := hk7.out.below hb12 hk7lt
    have hq8 := hq7.out.below hb12 hq7lt
    have hb13 := hb11.out.trans (hb12.mono hs11)
    have HF7 := HF6.out.below hb12
    have y0 := hq8.frozen 0
    have y1 := hq8.frozen 1
    have y2 := hq8.frozen 2
    have y3 := hq8.frozen 3
    have r0 := hq8.cell 0
    have r1 := hq8.cell 1
    have r2 := hq8.cell 2
    have r3 := hq8.cell 3
    have hcw := clrF_blk hq8 f.wide f.high (.slice s7.ground.A f.ground.length s7.ground.c) (.slice s7.ore.A f.ore.length s7.ore.c)
    have hcb := clrF_below hb13 hs6b f.wide f.high (.slice s7.ground.A f.ground.length s7.ground.c) (.slice s7.ore.A f.ore.length s7.ore.c)
    have hck : Blk (clrF W7 W3.heap.size f.wide f.high (.slice s7.ground.A f.ground.length s7.ground.c) (.slice s7.ore.A f.ore.length s7.ore.c)) w.heap.size 24 #[.int .i64 f.wide, .int .i64 f.high, .slice s.ground.A f.ground.length s.ground.c, .slice s.ore.A f.ore.length s.ore.c] :=
      (((hk8.far (p := ⟨W3.heap.size, 0, none⟩) (by show w.heap.size ≠ W3.heap.size; omega) _).far (p := ⟨W3.heap.size, 1, none⟩) (by show w.heap.size ≠ W3.heap.size; omega) _).far (p := ⟨W3.heap.size, 2, none⟩) (by show w.heap.size ≠ W3.heap.size; omega) _).far (p := ⟨W3.heap.size, 3, none⟩) (by show w.heap.size ≠ W3.heap.size; omega) _
    have hcF7 : FOk (clrF W7 W3.heap.size f.wide f.high (.slice s7.ground.A f.ground.length s7.ground.c) (.slice s7.ore.A f.ore.length s7.ore.c)) s7 f := clrF_fok hF7 (fun b o h => by have := hA7 b o h; omega) (fun b o h => by have := hB7 b o h; omega) _ _ _ _
    have hcF : FOk (clrF W7 W3.heap.size f.wide f.high (.slice s7.ground.A f.ground.length s7.ground.c) (.slice s7.ore.A f.ore.length s7.ore.c)) s f := H.out.below hcb
    have hc1 : ((((W7.setCell ⟨W3.heap.size, 0, none⟩ (.int .i64 f.wide)).setCell ⟨W3.heap.size, 1, none⟩ (.int .i64 f.high)).setCell ⟨W3.heap.size, 2, none⟩ (.slice s7.ground.A f.ground.length s7.ground.c)).setCell ⟨W3.heap.size, 3, none⟩ (.slice s7.ore.A f.ore.length s7.ore.c)) = clrF W7 W3.heap.size f.wide f.high (.slice s7.ground.A f.ground.length s7.ground.c) (.slice s7.ore.A f.ore.length s7.ore.c) := rfl
    replace hc1 := Lib.hid hc1
    go_upto_region 18 with fail
    rw [hc1.out]
    generalize clrF W7 W3.heap.size f.wide f.high (.slice s7.ground.A f.ground.length s7.ground.c) (.slice s7.ore.A f.ore.length s7.ore.c) = W8 at *
    have r0 := hcw.cell 0
    have r1 := hcw.cell 1
    have r2 := hcw.cell 2
    have r3 := hcw.cell 3
    have z0 := hck.cell 0
    have z1 := hck.cell 1
    have z2 := hck.cell 2
    have z3 := hck.cell 3
    replace hcb := Lib.hid hcb
    replace hcF := Lib.hid hcF
    replace hcF7 := Lib.hid hcF7
    replace hF7 := Lib.hid hF7
    clear hc1
    go_wp2_with fail
    refine (samef_any s7 s f f W8 hcF7.out hcF.out (by omega) (by omega)).mono ?_
    rintro e W9 ⟨rfl, hb14⟩
    rw [sameB_refl]
    have hfin := hcb.out.trans (hb14.mono hcb.out.size)
    replace hfin := Lib.hid hfin
    go_wp2_with fail
    go_ret
    exact ⟨rfl, hfin.out⟩
theorem fieldBack_walk (v0 : Value) (x0 : SF × GF) (s1 : ByteArray) (w : World) (w0 : v0 = .agg (fV x0.1 x0.2).toArray ∧ FOk w x0.1 x0.2) (w1 : s1.size ≤ maxLen) :
    Calls Try.prog 3 #[v0, .string s1] w fun e w' => e = .returned (.bool true) ∧ Below w.heap.size w w' := by
  obtain ⟨s, f⟩ := x0
  obtain ⟨rfl, h⟩ := w0
  exact fieldBack_in s f s1 w h (by unfold maxLen at w1; omega)
end Go.Proofs.Ytkkdegcbikjebaa
