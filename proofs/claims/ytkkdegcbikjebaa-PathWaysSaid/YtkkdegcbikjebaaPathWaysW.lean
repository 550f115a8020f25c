import Derived.Test.YtkkdegcbikjebaaWay
import Derived.Test.YtkkdegcbikjebaaPlainY
import Derived.OpenShut
import Derived.Deep.RegionHeld3
import Derived.Deep.RegionWith
namespace Go.Proofs.Ytkkdegcbikjebaa
set_option linter.unusedVariables false
open Go.RowKit
theorem I64_smallW (n : Int) (h : -1000 ≤ n ∧ n ≤ 1000) : I64 n := by unfold I64; omega
theorem sli_newW {w : World} (g n : Nat) (C : Array Value) (t : TypeId) (xs : List Int) (hb : Blk w g t C) (hC : C.toList = xs.map (.int .i64)) (hx : ∀ x ∈ xs, I64 x) (hl : xs.length ≤ 1000) : SLI w ⟨some ⟨g, 0, none⟩, xs.length⟩ xs := by
  refine ⟨⟨by simp, fun hn => ⟨g, 0, rfl, hb.lt, fun j hj => ?_⟩⟩, (fun h => by cases h), Nat.le_refl _, by unfold maxLen; show xs.length ≤ _; omega, hx⟩
  rw [Nat.zero_add, hb.cell j, ← hC]; simp
/-- Is one that is near enough told to be, with more? -/
theorem in_more (fr : List Int) (n : Nat) (a2 a3 : Int) (x : Int) (h : x ∈ rchN fr a2 n) (h3 : ¬ a3 < a2) : x ∈ rchN fr a3 n := by
  obtain ⟨i, h1, h2, h4, h5⟩ := (mem_rch fr a2 n x).1 h
  exact (mem_rch fr a3 n x).2 ⟨i, h1, h2, h4, by omega⟩
def inB (e : Int) (a2 a3 : Int) : Bool := decide (e ≠ 0 ∨ a3 < a2)
theorem rch_at (fr : List Int) (m : Int) (n i : Nat) (hi : i < (rchN fr m n).length) : ∃ x : Nat, (rchN fr m n)[i]? = some (x : Int) ∧ x < n ∧ 0 ≤ at0 fr x ∧ at0 fr x ≤ m ∧ ((x : Nat) : Int) ∈ rchN fr m n := by
  have hm := List.getElem_mem hi
  obtain ⟨x, h1, h2, h3, h4⟩ := (mem_rch fr m n _).1 hm
  exact ⟨x, by rw [List.getElem?_eq_getElem hi, h2], h1, h3, h4, by rw [← h2]; exact hm⟩
theorem rch_rise (fr : List Int) (m : Int) (n i : Nat) (x y : Int) (hx : (rchN fr m n)[i]? = some x) (hy : (rchN fr m n)[i + 1]? = some y) : x < y := by
  obtain ⟨h1, e1⟩ := List.getElem?_eq_some_iff.1 hx
  obtain ⟨h2, e2⟩ := List.getElem?_eq_some_iff.1 hy
  have := List.pairwise_iff_getElem.1 (rch_sorted fr m n) i (i + 1) h1 h2 (by omega)
  rw [e1, e2] at this
  exact this
theorem path_row {w w' : World} {f : GF} {src tg : Nat} {fl : Bool} {e : Ending} {far : List Int} (hd : DTo f fl tg far) (h0 : 0 ≤ at0 far src) (hp : PathOk w f src tg fl e w') : Below w.heap.size w w' ∧ ∃ A c, e = .returned (.tuple #[.slice A (pathI f fl far src tg).length c, .nilIface]) ∧ RD w' w'.heap.size 1 A (pathI f fl far src tg).length ((pathI f fl far src tg).map (.int .i64)) ∧ (pathI f fl far src tg).length ≤ 9223372036854775807 := by
  obtain ⟨far2, hd2, hb, hc⟩ := hp
  have eu := hd2.uniq hd
  subst eu
  rcases hc with ⟨hneg, _⟩ | ⟨_, A, c, he, ho⟩
  · omega
  · refine ⟨hb, A, c, he, RD.of_own ho, ?_⟩
    obtain ⟨h1, h2⟩ := ho
    rcases h2 with ⟨_, h2⟩ | ⟨g', cap, cur, hv, _, _, h3, h4, _⟩
    · omega
    · unfold maxLen at h4; omega
set_option maxHeartbeats 6400000 in
set_option maxRecDepth 100000 in
theorem pathWays_in (s : SF) (f : GF) (a1 a2 a3 : Int) (fl : Bool) (w : World) (h : FOk w s f) :
    Calls Try.prog 5 #[fA s f, .int .i64 a1, .int .i64 a2, .int .i64 a3, .bool fl] w fun e w' => e = .returned (.bool true) ∧ Below w.heap.size w w' := by
  have H := Lib.hid h
  clear h
  unfold fA
  go_enter Try.func5, Try.ntmps5
  go_wp2_with fail
  have hk0 : Blk ((((w.alloc (.cells #[.int .i64 f.wide, .int .i64 f.high, .slice s.ground.A f.ground.length s.ground.c, .slice s.ore.A f.ore.length s.ore.c] 24)).alloc (.cells #[.int .i64 0, .int .i64 3, .int .i64 0] 3)).alloc (.cells #[.int .i64 0, .int .i64 0, .int .i64 0] 3)).alloc (.cells #[.int .i64 3, .int .i64 1, .slice (some ⟨w.heap.size + 1, 0, none⟩) 3 3, .slice (some ⟨w.heap.size + 1 + 1, 0, none⟩) 3 3] 24)) w.heap.size 24 #[.int .i64 f.wide, .int .i64 f.high, .slice s.ground.A f.ground.length s.ground.c, .slice s.ore.A f.ore.length s.ore.c] := (((Blk.new w _ _).alloc _).alloc _).alloc _
  have hk1 : Blk ((((w.alloc (.cells #[.int .i64 f.wide, .int .i64 f.high, .slice s.ground.A f.ground.length s.ground.c, .slice s.ore.A f.ore.length s.ore.c] 24)).alloc (.cells #[.int .i64 0, .int .i64 3, .int .i64 0] 3)).alloc (.cells #[.int .i64 0, .int .i64 0, .int .i64 0] 3)).alloc (.cells #[.int .i64 3, .int .i64 1, .slice (some ⟨w.heap.size + 1, 0, none⟩) 3 3, .slice (some ⟨w.heap.size + 1 + 1, 0, none⟩) 3 3] 24)) (w.heap.size + 1) 3 #[.int .i64 0, .int .i64 3, .int .i64 0] := by
    have := ((Blk.new (w.alloc (.cells #[.int .i64 f.wide, .int .i64 f.high, .slice s.ground.A f.ground.length s.ground.c, .slice s.ore.A f.ore.length s.ore.c] 24)) 3 #[.int .i64 0, .int .i64 3, .int .i64 0]).alloc (.cells #[.int .i64 0, .int .i64 0, .int .i64 0] 3)).alloc (.cells #[.int .i64 3, .int .i64 1, .slice (some ⟨w.heap.size + 1, 0, none⟩) 3 3, .slice (some ⟨w.heap.size + 1 + 1, 0, none⟩) 3 3] 24)
    rw [World.size_alloc] at this
    exact this
  have hk2 : Blk ((((w.alloc (.cells #[.int .i64 f.wide, .int .i64 f.high, .slice s.ground.A f.ground.length s.ground.c, .slice s.ore.A f.ore.length s.ore.c] 24)).alloc (.cells #[.int .i64 0, .int .i64 3, .int .i64 0] 3)).alloc (.cells #[.int .i64 0, .int .i64 0, .int .i64 0] 3)).alloc (.cells #[.int .i64 3, .int .i64 1, .slice (some ⟨w.heap.size + 1, 0, none⟩) 3 3, .slice (some ⟨w.heap.size + 1 + 1, 0, none⟩) 3 3] 24)) (w.heap.size + 1 + 1) 3 #[.int .i64 0, .int .i64 0, .int .i64 0] := by
    have := (Blk.new ((w.alloc (.cells #[.int .i64 f.wide, .int .i64 f.high, .slice s.ground.A f.ground.length s.ground.c, .slice s.ore.A f.ore.length s.ore.c] 24)).alloc (.cells #[.int .i64 0, .int .i64 3, .int .i64 0] 3)) 3 #[.int .i64 0, .int .i64 0, .int .i64 0]).alloc (.cells #[.int .i64 3, .int .i64 1, .slice (some ⟨w.heap.size + 1, 0, none⟩) 3 3, .slice (some ⟨w.heap.size + 1 + 1, 0, none⟩) 3 3] 24)
    rw [World.size_alloc, World.size_alloc] at this
    exact this
  have hbW : Below w.heap.size w ((((w.alloc (.cells #[.int .i64 f.wide, .int .i64 f.high, .slice s.ground.A f.ground.length s.ground.c, .slice s.ore.A f.ore.length s.ore.c] 24)).alloc (.cells #[.int .i64 0, .int .i64 3, .int .i64 0] 3)).alloc (.cells #[.int .i64 0, .int .i64 0, .int .i64 0] 3)).alloc (.cells #[.int .i64 3, .int .i64 1, .slice (some ⟨w.heap.size + 1, 0, none⟩) 3 3, .slice (some ⟨w.heap.size + 1 + 1, 0, none⟩) 3 3] 24)) := ((((Below.refl _ _).alloc (Nat.le_refl _) _).alloc (by simp) _).alloc (by simp; omega) _).alloc (by simp; omega) _
  generalize ((((w.alloc (.cells #[.int .i64 f.wide, .int .i64 f.high, .slice s.ground.A f.ground.length s.ground.c, .slice s.ore.A f.ore.length s.ore.c] 24)).alloc (.cells #[.int .i64 0, .int .i64 3, .int .i64 0] 3)).alloc (.cells #[.int .i64 0, .int .i64 0, .int .i64 0] 3)).alloc (.cells #[.int .i64 3, .int .i64 1, .slice (some ⟨w.heap.size + 1, 0, none⟩) 3 3, .slice (some ⟨w.heap.size + 1 + 1, 0, none⟩) 3 3] 24)) = W at *
  have hF1 : FOk W ⟨⟨some ⟨w.heap.size + 1, 0, none⟩, 3⟩, ⟨some ⟨w.heap.size + 1 + 1, 0, none⟩, 3⟩⟩ threeF := ⟨I64_smallW _ (by decide), I64_smallW _ (by decide), sli_newW _ 3 _ _ [0, 3, 0] hk1 rfl (by simp [I64]) (by decide), sli_newW _ 3 _ _ [0, 0, 0] hk2 rfl (by simp [I64]) (by decide)⟩
  clear hk1 hk2
  refine (reach_ok _ threeF 0 2 false W hF1 (by decide) (by decide)).mono ?_
  intro e W1 hp
  obtain ⟨fr1, A1, c1, hd1, rfl, ho1, hb1⟩ := hp
  have eo := hd1.uniq threeF_dist
  subst eo
  have el : rchN frF 2 threeF.ground.length = [0, 1] := by decide
  rw [el] at ho1
  obtain ⟨g1, _, hA1, _⟩ := ho1.form (by decide)
  have hA1' : A1 = some ⟨g1, 0, none⟩ := by injection hA1
  subst hA1'
  have hc1 := ho1.cellAt 1 (by decide)
  have hk := hk0.below hb1 hk0.lt
  have hb2 := hbW.trans (hb1.mono hbW.size)
  rw [el]
  simp only [List.length_cons, List.length_nil]
  change W1.cell? ⟨g1, 1, none⟩ = some (.int .i64 1) at hc1
  replace el := Lib.hid el
  clear ho1 hk0 hbW hb1 hF1 hA1 hd1
  have HF := Lib.hid (H.out.below hb2)
  have d0 := hk.cell 0
  have d1 := hk.cell 1
  have d2 := hk.cell 2
  have d3 := hk.cell 3
  have hs2 := hb2.size
  have hklt := hk.lt
  replace hk := Lib.hid hk
  replace hb2 := Lib.hid hb2
  go_wp2_with fail
  by_cases hE : cellE f a1 = 0
  case neg =>
    refine (reach_no s f a1 a2 fl W1 HF.out hE).mono ?_
    rintro e W2 ⟨rfl, hb3⟩
    replace hE := Lib.hid hE
    unfold erE
    go_wp2_with fail
    go_ret
    exact ⟨rfl, hb2.out.trans (hb3.mono hs2)⟩
  cases hm2 : numB a2 with
  | false =>
    refine (reach_num s f a1 a2 fl W1 HF.out hE hm2).mono ?_
    rintro e W2 ⟨rfl, hb3⟩
    replace hE := Lib.hid hE
    unfold erE
    go_wp2_with fail
    go_ret
    exact ⟨rfl, hb2.out.trans (hb3.mono hs2)⟩
  | true =>
  obtain ⟨hg, ha0, ha1⟩ := cellE_in f a1 hE
  obtain ⟨u, rfl⟩ : ∃ u : Nat, a1 = (u : Int) := ⟨a1.toNat, by omega⟩
  refine (reach_ok s f u a2 fl W1 HF.out hE hm2).mono ?_
  intro e W2 hp
  obtain ⟨fr, A2, c2, hd, rfl, ho2, hb3⟩ := hp
  have hRA := RD.of_own ho2
  have hk2 := hk.out.below hb3 hk.out.lt
  have hb4 := hb2.out.trans (hb3.mono hs2)
  have HF2 := HF.out.below hb3
  have hs3 := hb3.size
  have hn144 := hg.len.1
  have hk2lt := hk2.lt
  have d0 := hk2.cell 0
  have d1 := hk2.cell 1
  have d2 := hk2.cell 2
  have d3 := hk2.cell 3
  have hun : u < f.ground.length := by omega
  have hRl := rchN_len fr a2 f.ground.length
  replace hm2 := Lib.hid hm2
  replace hk2 := Lib.hid hk2
  replace hb4 := Lib.hid hb4
  replace HF2 := Lib.hid HF2
  replace hd := Lib.hid hd
  replace hg := Lib.hid hg
  replace hE := Lib.hid hE
  replace hRA := Lib.hid hRA
  clear hb3 hc1 ho2
  go_upto_region 8 with fail
  go_cut [15, 16] (fun ve vb wx0 => ∃ wx, wx = wx0 ∧ ∃ (er : Int) (Bl : List Int) (Ab : Option Addr) (cb : Nat), ve = errV er ∧ vb = .slice Ab Bl.length cb ∧ Hid (RD wx wx.heap.size 1 Ab Bl.length (Bl.map (.int .i64))) ∧ Hid ((er = 0 ∧ Bl = rchN fr a3 f.ground.length) ∨ er = 1) ∧ Bl.length ≤ 144 ∧ Hid (Below W2.heap.size W2 wx))
  case first =>
    as_aux_lemma =>
    cases hm3 : numB a3 with
    | false =>
      go_wp2_with fail
      refine (reach_num s f u a3 fl W2 HF2.out hE.out hm3).mono ?_
      rintro e W3 ⟨rfl, hb5⟩
      replace hb5 := Lib.hid hb5
      replace hm3 := Lib.hid hm3
      go_wp2_with fail
      go_meet
      exact ⟨_, rfl, 1, [], none, 0, rfl, rfl, Lib.hid RD.nil_, Lib.hid (.inr rfl), by simp, hb5⟩
    | true =>
      go_wp2_with fail
      refine (reach_ok s f u a3 fl W2 HF2.out hE.out hm3).mono ?_
      intro e W3 hp
      obtain ⟨fr2, A3, c3, hd2, rfl, ho3, hb5⟩ := hp
      have e2 := hd2.uniq hd.out
      subst e2
      have hl3 := rchN_len fr2 a3 f.ground.length
      have hR3 := RD.of_own ho3
      replace hb5 := Lib.hid hb5
      replace hm3 := Lib.hid hm3
      replace hR3 := Lib.hid hR3
      clear ho3 hd2
      go_wp2_with fail
      go_meet
      exact ⟨_, rfl, 0, _, A3, c3, rfl, rfl, hR3, Lib.hid (.inl ⟨rfl, rfl⟩), by omega, hb5⟩
  case rest =>
  obtain ⟨W5, rfl, er, Bl, Ab, cb, rfl, rfl, hRB, hBl, hBn, hb5⟩ := hcut
  have hs5 := hb5.out.size
  have hk5 := Lib.hid (hk2.out.below hb5.out hk2lt)
  have HF5 := Lib.hid (HF2.out.below hb5.out)
  have hRA5 := Lib.hid ((hRA.out.below hb5.out).more hs5)
  have hb6 := Lib.hid (hb4.out.trans (hb5.out.mono hb4.out.size))
  have hRat := rch_at fr a2 f.ground.length
  have hRri := rch_rise fr a2 f.ground.length
  have hcE : ∀ b : Nat, b < f.ground.length → cellE f (b : Int) = 0 := fun b hb => cellE_ok f b hg.out (by omega) (by omega)
  have hfE : ∀ b : Nat, b < f.ground.length → faultL f [(u : Int), (b : Int)] = 0 := fun b hb => by
    refine faultL_0 f _ (good_to f hg.out) ?_
    simp [badC]; omega
  have hBin : ∀ x : Int, x ∈ rchN fr a2 f.ground.length → inB er a2 a3 = true ∨ x ∈ Bl := fun x hx => by
    rcases hBl.out with ⟨h1, h2⟩ | h1
    · by_cases h3 : a3 < a2
      · exact .inl (by unfold inB; simp [h3])
      · exact .inr (by rw [h2]; exact in_more fr _ a2 a3 x hx h3)
    · exact .inl (by unfold inB; simp [h1])
  have hin0 : (er = 0 ∧ (a3 < a2 ∧ inB er a2 a3 = true ∨ ¬ a3 < a2 ∧ inB er a2 a3 = false)) ∨ (er ≠ 0 ∧ inB er a2 a3 = true) := by
    unfold inB
    by_cases h1 : er = 0 <;> by_cases h2 : a3 < a2 <;> simp [h1, h2]
  have hlen2 := rchN_len fr a2 f.ground.length
  replace hRat := Lib.hid hRat
  replace hRri := Lib.hid hRri
  replace hcE := Lib.hid hcE
  replace hfE := Lib.hid hfE
  replace hBin := Lib.hid hBin
  replace hin0 := Lib.hid hin0
  have hk5lt := hk5.out.lt
  clear hRl hBl hk2 HF2 hRA hb4 hb5 hs5 hk HF hb2 hs2 hs3
  generalize hRAe : rchN fr a2 f.ground.length = RA at *
  replace hRAe := Lib.hid hRAe
  go_wp2_with fail
  go_loopw [17, 18, 19, 20, 21, 22, 23, 24, 25, 26] (fun i _ _ _ _ _ _ _ _ _ wr => ∃ k : Nat, k ≤ RA.length ∧ i = .int .i64 k ∧ Hid (Below W5.heap.size W5 wr)) (fun i _ _ _ _ _ _ _ _ _ _ => RA.length - (intOf i).toNat)
  case atStart => exact ⟨0, Nat.zero_le _, rfl, Lib.hid (Below.refl _ _)⟩
  case round =>
  obtain ⟨i, hi, rfl, hb⟩ := hrel
  have hsb := hb.out.size
  by_cases hlt : i < RA.length
  · obtain ⟨x, hx, hxn, hx0, hxm, hxin⟩ := hRat.out i hlt
    have hRw := (hRA5.out.below hb.out).more hsb
    obtain ⟨bl, ol, hA, hbl⟩ := hRw.addr (by omega)
    subst hA
    have hcl := hRw.at_ rfl (j := i) (by omega)
    rw [List.getElem?_map, hx] at hcl
    simp only [Option.map_some] at hcl
    have i1 : (i : Int) < (RA.length : Int) := by omega
    have hcx := Lib.hid (hcE.out x hxn)
    have hfx := Lib.hid (hfE.out x hxn)
    replace hRw := Lib.hid hRw
    replace hxin := Lib.hid hxin
    go_upto_region 12 with fail
    go_cut [85] from 66 to 203 (fun t wx => t = .bool false ∧ ∃ q, wx = wr.drewN q)
    case first =>
      as_aux_lemma =>
      cases i with
      | zero =>
        have d9 : decide ((0 : Int) < ((0 : Nat) : Int)) = false := by simp
        go_wp2_with fail
        go_big_quiet (fail)
        go_wp2_with fail
        go_meet
        exact ⟨rfl, _, rfl⟩
      | succ k =>
        obtain ⟨y, hy, hyn, _, _, _⟩ := hRat.out k (by omega)
        have hri := hRri.out k y x hy hx
        have hcy := hRw.out.at_ rfl (j := k) (by omega)
        rw [List.getElem?_map, hy] at hcy
        simp only [Option.map_some] at hcy
        have e0 : ((k + 1 : Nat) : Int) = (k : Int) + 1 := by omega
        rw [e0] at i1 ⊢
        have i2 : (k : Int) < (RA.length : Int) := by omega
        have i3 : k < RA.length := by omega
        have d9 : decide ((0 : Int) < (k : Int) + 1) = true := decide_eq_true (by omega)
        have d8 : decide ((x : Int) ≤ (y : Int)) = false := by simp; omega
        have d7 : decide (x ≤ y) = false := by simp; omega
        have i9 : IntKind.i64.wrap ((k : Int) + 1 - 1) = (k : Int) := by rw [Int.add_sub_cancel]; exact IntWalk.i64_in _ (by omega)
        have i9c : IntKind.i64.wrap (k : Int) = (k : Int) := IntWalk.i64_in _ (by omega)
        go_wp2_with fail
        go_big_quiet (fail)
        go_wp2_with fail
        go_meet
        exact ⟨rfl, _, rfl⟩
    case rest =>
    obtain ⟨rfl, q0, rfl⟩ := hcut
    have hbq : Below W5.heap.size W5 (wr.drewN q0) := bdrewN hb.out q0
    have hRq : RD (wr.drewN q0) (wr.drewN q0).heap.size 1 (some ⟨bl, ol, none⟩) RA.length (RA.map (.int .i64)) := hRw.out
    generalize wr.drewN q0 = wy at *
    have hsy := hbq.size
    have hky := hk5.out.below hbq hk5lt
    have HFy := HF5.out.below hbq
    have d0 := hky.cell 0
    have d1 := hky.cell 1
    have d2 := hky.cell 2
    have d3 := hky.cell 3
    have hcly := hRq.at_ rfl (j := i) (by omega)
    rw [List.getElem?_map, hx] at hcly
    simp only [Option.map_some] at hcly
    replace hky := Lib.hid hky
    replace HFy := Lib.hid HFy
    replace hbq := Lib.hid hbq
    replace hRq := Lib.hid hRq
    clear hcl hRw hb hsb
    go_upto_region 14 with fail
    go_cut [18, 19] from 66 to 203 (fun m e wx0 => ∃ wx, wx = wx0 ∧ ∃ (g : Nat) (far : List Int), m = .slice (some ⟨g, 0, none⟩) f.ground.length f.ground.length ∧ e = .nilIface ∧ Hid (DTo f fl x far) ∧ Hid (Blk wx g 3 (arrI far)) ∧ Hid (Below wy.heap.size wy wx))
    case first =>
      as_aux_lemma =>
      go_region_with (go_at_call 12; refine (far_ok s f x fl _ (by first | exact HFy.out | exact HFy.out.drewN _) hcx.out).mono ?_; intro e w' hp; obtain ⟨g, far, rfl, hdf, hgg, hkf, hbm⟩ := hp)
      all_goals
        have hbm2 : Hid (Below wy.heap.size wy w') := Lib.hid ⟨hbm.os, hbm.tape, hbm.output, hbm.size, hbm.block⟩
        replace hdf := Lib.hid hdf
        replace hkf := Lib.hid hkf
        clear hbm
        go_wp2_with fail
        go_meet
        exact ⟨_, rfl, g, far, rfl, rfl, hdf, hkf, hbm2⟩
    case rest =>
    as_aux_lemma =>
    obtain ⟨wz, rfl, g, far, rfl, rfl, hdf, hkf, hbz⟩ := hcut
    have hsz := hbz.out.size
    have htf := to_from f hg.out fl u x fr far hd.out hdf.out
    have hfu : 0 ≤ at0 far u ∧ at0 far u ≤ a2 := by omega
    have cfu := hkf.out.atI u (by rw [hdf.out.len]; exact hun)
    have hkz := Lib.hid (hky.out.below hbz.out hky.out.lt)
    have HFz := Lib.hid (HFy.out.below hbz.out)
    have hRz := Lib.hid ((hRq.out.below hbz.out).more hsz)
    have hbzz := Lib.hid (hbq.out.trans (hbz.out.mono hsy))
    have hRBz := Lib.hid ((hRB.out.below hbzz.out).more hbzz.out.size)
    have j1 : (u : Int) < (f.ground.length : Int) := by omega
    obtain ⟨hfu0, hfum⟩ := hfu
    have p1 : decide (at0 far u < 0) = false := by simp; omega
    have p2 : decide (a2 < at0 far u) = false := by simp; omega
    replace htf := Lib.hid htf
    clear d0 d1 d2 d3 hcly hbz hbq hky HFy hRq
    go_upto_region 17 with fail
    go_cut [15, 20] from 66 to 203 (fun v b wx => v = errV er ∧ b = .bool (inB er a2 a3) ∧ wz = wx)
    case first =>
      as_aux_lemma =>
      rcases hin0.out with ⟨rfl, ⟨h1, h2⟩ | ⟨h1, h2⟩⟩ | ⟨h1, h2⟩
      · rw [errV0]
        have p3 : decide (a3 < a2) = true := by simp; omega
        replace h2 := Lib.hid h2
        go_wp2_with fail
        go_meet
        exact ⟨rfl, by rw [h2.out], rfl⟩
      · rw [errV0]
        have p3 : decide (a3 < a2) = false := by simp; omega
        replace h2 := Lib.hid h2
        go_wp2_with fail
        go_meet
        exact ⟨rfl, by rw [h2.out], rfl⟩
      · rw [errVn _ h1]
        unfold erE
        replace h1 := Lib.hid h1
        replace h2 := Lib.hid h2
        go_wp2_with fail
        go_meet
        exact ⟨(errVn _ h1.out).symm, by rw [h2.out], rfl⟩
    case rest =>
    obtain ⟨rfl, rfl, rfl⟩ := hcut
    have hBx := hBin.out x hxin.out
    generalize inB er a2 a3 = B0 at *
    replace hBx := Lib.hid hBx
    have hclz := hRz.out.at_ rfl (j := i) (by omega)
    rw [List.getElem?_map, hx] at hclz
    simp only [Option.map_some] at hclz
    clear cfu p1 p2
    have i1n : i < RA.length := hlt
    go_wp2_with fail
    go_loopw [20, 21] (fun bb j wr2 => ∃ (t : Nat) (B : Bool) (q : Nat), t ≤ Bl.length ∧ j = .int .i64 t ∧ bb = .bool B ∧ Hid (B = (B0 || (Bl.take t).any (· == (x : Int)))) ∧ wr2 = wz.drewN q) (fun _ j _ => Bl.length - (intOf j).toNat)
    case atStart => exact ⟨0, B0, 0, Nat.zero_le _, rfl, rfl, Lib.hid (by simp), rfl⟩
    case round =>
    obtain ⟨t3, B, q, ht, rfl, rfl, hBB, rfl⟩ := hrel
    by_cases htl : t3 < Bl.length
    · as_aux_lemma =>
      obtain ⟨bm, om, hAm, _⟩ := hRBz.out.addr (by omega)
      have hcm := hRBz.out.at_ hAm (j := t3) (by omega)
      rw [List.getElem?_map, List.getElem?_eq_getElem htl] at hcm
      simp only [Option.map_some] at hcm
      subst hAm
      have hnx : (B0 || (Bl.take (t3 + 1)).any (· == (x : Int))) = ((B0 || (Bl.take t3).any (· == (x : Int))) || (Bl[t3] == (x : Int))) := by rw [List.take_succ_eq_append_getElem htl, List.any_append]; simp [Bool.or_assoc]
      rw [← hBB.out] at hnx
      generalize Bl[t3] = z at *
      have i2 : (t3 : Int) < (Bl.length : Int) := by omega
      cases B with
      | true =>
        replace hnx := Lib.hid hnx
        go_wp2_with fail
        go_big_quiet (fail)
        go_wp2_with fail
        go_roundw
        case rel => exact ⟨t3 + 1, true, _, by omega, by go_num, rfl, Lib.hid (by rw [hnx.out]; rfl), rfl⟩
        case measure => simp [intOf]; omega
      | false =>
        cases hya : (z == (x : Int)) with
        | true =>
          rw [hya] at hnx
          replace hnx := Lib.hid hnx
          go_wp2_with fail
          go_big_quiet (fail)
          go_wp2_with fail
          go_roundw
          case rel => exact ⟨t3 + 1, true, _, by omega, by go_num, rfl, Lib.hid (by rw [hnx.out]; rfl), rfl⟩
          case measure => simp [intOf]; omega
        | false =>
          rw [hya] at hnx
          replace hnx := Lib.hid hnx
          go_wp2_with fail
          go_big_quiet (fail)
          go_wp2_with fail
          go_roundw
          case rel => exact ⟨t3 + 1, false, _, by omega, by go_num, rfl, Lib.hid (by rw [hnx.out]; rfl), rfl⟩
          case measure => simp [intOf]; omega
    · have hBt : B = true := by
        rw [hBB.out, List.take_of_length_le (by omega)]
        rcases hBx.out with h1 | h1
        · rw [h1]; rfl
        · rw [show Bl.any (· == (x : Int)) = true from List.any_eq_true.2 ⟨_, h1, by simp⟩]; simp
      subst hBt
      have hbv : Below W5.heap.size W5 (wz.drewN q) := bdrewN hbzz.out q
      have hkv : Blk (wz.drewN q) w.heap.size 24 #[.int .i64 f.wide, .int .i64 f.high, .slice s.ground.A f.ground.length s.ground.c, .slice s.ore.A f.ore.length s.ore.c] := hkz.out
      have HFv : FOk (wz.drewN q) s f := HFz.out
      have hRv : RD (wz.drewN q) (wz.drewN q).heap.size 1 (some ⟨bl, ol, none⟩) RA.length (RA.map (.int .i64)) := hRz.out
      generalize wz.drewN q = wv at *
      have hsv := hbv.size
      have d0 := hkv.cell 0
      have d1 := hkv.cell 1
      have d2 := hkv.cell 2
      have d3 := hkv.cell 3
      have hclv := hRv.at_ rfl (j := i) (by omega)
      rw [List.getElem?_map, hx] at hclv
      simp only [Option.map_some] at hclv
      replace hkv := Lib.hid hkv
      replace HFv := Lib.hid HFv
      replace hRv := Lib.hid hRv
      replace hbv := Lib.hid hbv
      have hx2 := Lib.hid hx
      clear hBB hclz hBx hRBz hkz HFz hRz hbzz hx
      go_upto_region 24 with fail
      go_cut [22, 23] from 66 to 203 (fun m e wx0 => ∃ wx, wx = wx0 ∧ ∃ (P : List Int) (A : Option Addr) (c : Nat), m = .slice A P.length c ∧ e = .nilIface ∧ Hid (P = pathI f fl far u x) ∧ Hid (RD wx wx.heap.size 1 A P.length (P.map (.int .i64))) ∧ P.length ≤ 9223372036854775807 ∧ Hid (Below wv.heap.size wv wx))
      case first =>
        as_aux_lemma =>
        go_region_with (go_at_call 15; refine (path_ok s f u x fl _ (by first | exact HFv.out | exact HFv.out.drewN _) hfx.out).mono ?_; intro e w' hp; obtain ⟨hbm, A, c, rfl, hRp, hmx⟩ := path_row hdf.out hfu0 hp)
        all_goals
          have hbm2 : Hid (Below wv.heap.size wv w') := Lib.hid ⟨hbm.os, hbm.tape, hbm.output, hbm.size, hbm.block⟩
          replace hRp := Lib.hid hRp
          clear hbm
          go_wp2_with fail
          go_meet
          exact ⟨_, rfl, _, A, c, rfl, rfl, Lib.hid rfl, hRp, hmx, hbm2⟩
      case rest =>
      obtain ⟨wp, rfl, P, A, c, rfl, rfl, hPe, hRp, hPm, hbp⟩ := hcut
      have hgo := pathL_goes f hg.out fl far x u hdf.out hun hfu0
      have hne := goes_ne hgo
      have hpn := pathI_len f fl far u x
      rw [← hPe.out] at hpn
      have hpa := fun k h => pathI_at f fl far u x k h
      rw [← hPe.out] at hpa
      have hPr : ∀ k, k < P.length → ∃ y : Nat, P[k]? = some (y : Int) ∧ (y : Int) ∈ RA := fun k hk => by
        have h1 := goes_reach hg.out hgo u a2 rfl hd.out hfum hfu0 k (by omega)
        exact ⟨_, hpa k (by omega), by rw [← hRAe.out]; exact h1⟩
      have hP0 : P[0]? = some (u : Int) := hpa 0 hne.1
      obtain ⟨L, hL⟩ : ∃ L, P.length = L + 1 := ⟨P.length - 1, by omega⟩
      have hPl : P[L]? = some (x : Int) := by
        have := hpa L (by omega)
        have e := hne.2
        rw [← hpn, hL, Nat.add_sub_cancel] at e
        rw [this, e]
      have hRp0 := hRp.out.addr (by omega)
      obtain ⟨bp, op, hAp, _⟩ := hRp0
      subst hAp
      have q0 := hRp.out.at_ rfl (j := 0) (by omega)
      rw [List.getElem?_map, hP0] at q0
      have qL := hRp.out.at_ rfl (j := L) (by omega)
      rw [List.getElem?_map, hPl] at qL
      have hRr := (hRv.out.below hbp.out).more hbp.out.size
      have qx := hRr.at_ rfl (j := i) (by omega)
      rw [List.getElem?_map, hx2.out] at qx
      simp only [Option.map_some] at q0 qL qx
      rw [Nat.add_zero] at q0
      have hbpp := Lib.hid (hbv.out.trans (hbp.out.mono hsv))
      have j5 : (0 : Int) < (P.length : Int) := by omega
      have j6 : 0 < P.length := by omega
      have j7 : ((P.length : Int) == 0) = false := beq_eq_false_iff_ne.2 (by omega)
      have j8 : (P.length : Int) - 1 = (L : Int) := by omega
      have j9 : IntKind.i64.wrap ((P.length : Int) - 1) = (L : Int) := by rw [j8]; exact IntWalk.i64_in _ (by omega)
      have j10 : (L : Int) < (P.length : Int) := by omega
      have j11 : L < P.length := by omega
      replace hPr := Lib.hid hPr
      replace hRr := Lib.hid hRr
      replace hP0 := Lib.hid hP0
      replace hPl := Lib.hid hPl
      replace hpn := Lib.hid hpn
      replace hgo := Lib.hid hgo
      replace hne := Lib.hid hne
      replace hL := Lib.hid hL
      replace hpa := Lib.hid hpa
      have j8h := Lib.hid j8
      clear d0 d1 d2 d3 hclv hRv hkv HFv j8
      go_wp2_with fail
      go_big_quiet (fail)
      go_wp2_with fail
      clear j5 j6 j7 j9 j10 j11 q0 qL qx
      go_loopw [24, 25, 26] (fun kk _ _ wr2 => ∃ k q : Nat, k ≤ P.length ∧ kk = .int .i64 k ∧ wr2 = wp.drewN q) (fun kk _ _ _ => P.length - (intOf kk).toNat)
      case atStart => exact ⟨0, _, Nat.zero_le _, rfl, rfl⟩
      case round =>
      as_aux_lemma =>
      obtain ⟨k, q2, hk, rfl, rfl⟩ := hrel
      by_cases hkl : k < P.length
      · obtain ⟨y, hy, hyin⟩ := hPr.out k hkl
        have qy := hRp.out.at_ rfl (j := k) (by omega)
        rw [List.getElem?_map, hy] at qy
        simp only [Option.map_some] at qy
        have m1 : (k : Int) < (P.length : Int) := by omega
        replace hy := Lib.hid hy
        replace hyin := Lib.hid hyin
        go_wp2_with fail
        go_loopw [25, 26] (fun bb j wr2 => ∃ (t : Nat) (B : Bool) (q : Nat), t ≤ RA.length ∧ j = .int .i64 t ∧ bb = .bool B ∧ Hid (B = (RA.take t).any (· == (y : Int))) ∧ wr2 = wp.drewN q) (fun _ j _ => RA.length - (intOf j).toNat)
        case atStart => exact ⟨0, false, q2, Nat.zero_le _, rfl, rfl, Lib.hid (by simp), rfl⟩
        case round =>
        obtain ⟨t4, B, q4, ht4, rfl, rfl, hBB, rfl⟩ := hrel
        by_cases htl : t4 < RA.length
        · as_aux_lemma =>
          have hcm := hRr.out.at_ rfl (j := t4) (by omega)
          rw [List.getElem?_map, List.getElem?_eq_getElem htl] at hcm
          simp only [Option.map_some] at hcm
          have hnx : (RA.take (t4 + 1)).any (· == (y : Int)) = ((RA.take t4).any (· == (y : Int)) || (RA[t4] == (y : Int))) := by rw [List.take_succ_eq_append_getElem htl, List.any_append]; simp
          rw [← hBB.out] at hnx
          generalize RA[t4] = z at *
          have i2 : (t4 : Int) < (RA.length : Int) := by omega
          cases B with
          | true =>
            replace hnx := Lib.hid hnx
            go_wp2_with fail
            go_big_quiet (fail)
            go_wp2_with fail
            go_roundw
            case rel => exact ⟨t4 + 1, true, _, by omega, by go_num, rfl, Lib.hid (by rw [hnx.out]; rfl), rfl⟩
            case measure => simp [intOf]; omega
          | false =>
            cases hya : (z == (y : Int)) with
            | true =>
              rw [hya] at hnx
              replace hnx := Lib.hid hnx
              go_wp2_with fail
              go_big_quiet (fail)
              go_wp2_with fail
              go_roundw
              case rel => exact ⟨t4 + 1, true, _, by omega, by go_num, rfl, Lib.hid (by rw [hnx.out]; rfl), rfl⟩
              case measure => simp [intOf]; omega
            | false =>
              rw [hya] at hnx
              replace hnx := Lib.hid hnx
              go_wp2_with fail
              go_big_quiet (fail)
              go_wp2_with fail
              go_roundw
              case rel => exact ⟨t4 + 1, false, _, by omega, by go_num, rfl, Lib.hid (by rw [hnx.out]; rfl), rfl⟩
              case measure => simp [intOf]; omega
        · as_aux_lemma =>
          have hBt : B = true := by
            rw [hBB.out, List.take_of_length_le (by omega)]
            exact List.any_eq_true.2 ⟨_, hyin.out, by simp⟩
          subst hBt
          clear hBB
          go_wp2_with fail
          go_roundw
          case rel => exact ⟨k + 1, _, by omega, by go_num, rfl⟩
          case measure => simp [intOf]; omega
      · as_aux_lemma =>
        have hbz2 : Below W5.heap.size W5 (wp.drewN q2) := bdrewN hbpp.out q2
        replace hbz2 := Lib.hid hbz2
        go_wp2_with fail
        go_roundw
        case rel => exact ⟨i + 1, by omega, by go_num, hbz2⟩
        case measure => simp [intOf]; omega
  · have hbf := hb6.out.trans (hb.out.mono hb6.out.size)
    replace hbf := Lib.hid hbf
    go_wp2_with fail
    go_ret
    exact ⟨rfl, hbf.out⟩
theorem pathWays_walk (v0 : Value) (x0 : SF × GF) (a1 a2 a3 : Int) (b4 : Bool) (w : World) (w0 : v0 = .agg (fV x0.1 x0.2).toArray ∧ FOk w x0.1 x0.2) (w1 : (Lit.int .i64 a1).wf = true) (w2 : (Lit.int .i64 a2).wf = true) (w3 : (Lit.int .i64 a3).wf = true) :
    Calls Try.prog 5 #[v0, .int .i64 a1, .int .i64 a2, .int .i64 a3, .bool b4] w fun e w' => e = .returned (.bool true) ∧ Below w.heap.size w w' := by
  obtain ⟨s, f⟩ := x0
  obtain ⟨rfl, h⟩ := w0
  exact pathWays_in s f a1 a2 a3 b4 w h
end Go.Proofs.Ytkkdegcbikjebaa
