import Derived.Test.YtkkdegcbikjebaaWay
import Derived.Test.YtkkdegcbikjebaaPlainU
import Derived.OpenShut
import Derived.Deep.RegionHeld3
import Derived.Deep.RegionWith
namespace Go.Proofs.Ytkkdegcbikjebaa
set_option linter.unusedVariables false
open Go.RowKit
theorem I64_small (n : Int) (h : -1000 ≤ n ∧ n ≤ 1000) : I64 n := by unfold I64; omega
theorem sli_new {w : World} {B : Nat} (g n : Nat) (C : Array Value) (t : TypeId) (xs : List Int) (hb : Blk w g t C) (hC : C.toList = xs.map (.int .i64)) (hx : ∀ x ∈ xs, I64 x) (hl : xs.length ≤ 1000) : SLI w ⟨some ⟨g, 0, none⟩, xs.length⟩ xs := by
  refine ⟨⟨by simp, fun hn => ⟨g, 0, rfl, hb.lt, fun j hj => ?_⟩⟩, (fun h => by cases h), Nat.le_refl _, by unfold maxLen; show xs.length ≤ _; omega, hx⟩
  rw [Nat.zero_add, hb.cell j, ← hC]; simp
set_option maxHeartbeats 6400000 in
set_option maxRecDepth 100000 in
theorem pathShort_in (s : SF) (f : GF) (a1 a2 : Int) (fl : Bool) (w : World) (h : FOk w s f) :
    Calls Try.prog 4 #[fA s f, .int .i64 a1, .int .i64 a2, .bool fl] w fun e w' => e = .returned (.bool true) ∧ Below w.heap.size w w' := by
  have H := Lib.hid h
  clear h
  unfold fA
  go_enter Try.func4, Try.ntmps4
  go_wp2_with fail
  have hk0 : Blk ((((w.alloc (.cells #[.int .i64 f.wide, .int .i64 f.high, .slice s.ground.A f.ground.length s.ground.c, .slice s.ore.A f.ore.length s.ore.c] 24)).alloc (.cells #[.int .i64 0, .int .i64 1, .int .i64 0, .int .i64 0, .int .i64 3, .int .i64 0] 3)).alloc (.cells #[.int .i64 0, .int .i64 0, .int .i64 0, .int .i64 0, .int .i64 0, .int .i64 0] 3)).alloc (.cells #[.int .i64 3, .int .i64 2, .slice (some ⟨w.heap.size + 1, 0, none⟩) 6 6, .slice (some ⟨w.heap.size + 1 + 1, 0, none⟩) 6 6] 24)) w.heap.size 24 #[.int .i64 f.wide, .int .i64 f.high, .slice s.ground.A f.ground.length s.ground.c, .slice s.ore.A f.ore.length s.ore.c] := (((Blk.new w _ _).alloc _).alloc _).alloc _
  have hk1 : Blk ((((w.alloc (.cells #[.int .i64 f.wide, .int .i64 f.high, .slice s.ground.A f.ground.length s.ground.c, .slice s.ore.A f.ore.length s.ore.c] 24)).alloc (.cells #[.int .i64 0, .int .i64 1, .int .i64 0, .int .i64 0, .int .i64 3, .int .i64 0] 3)).alloc (.cells #[.int .i64 0, .int .i64 0, .int .i64 0, .int .i64 0, .int .i64 0, .int .i64 0] 3)).alloc (.cells #[.int .i64 3, .int .i64 2, .slice (some ⟨w.heap.size + 1, 0, none⟩) 6 6, .slice (some ⟨w.heap.size + 1 + 1, 0, none⟩) 6 6] 24)) (w.heap.size + 1) 3 #[.int .i64 0, .int .i64 1, .int .i64 0, .int .i64 0, .int .i64 3, .int .i64 0] := by
    have := ((Blk.new (w.alloc (.cells #[.int .i64 f.wide, .int .i64 f.high, .slice s.ground.A f.ground.length s.ground.c, .slice s.ore.A f.ore.length s.ore.c] 24)) 3 #[.int .i64 0, .int .i64 1, .int .i64 0, .int .i64 0, .int .i64 3, .int .i64 0]).alloc (.cells #[.int .i64 0, .int .i64 0, .int .i64 0, .int .i64 0, .int .i64 0, .int .i64 0] 3)).alloc (.cells #[.int .i64 3, .int .i64 2, .slice (some ⟨w.heap.size + 1, 0, none⟩) 6 6, .slice (some ⟨w.heap.size + 1 + 1, 0, none⟩) 6 6] 24)
    rw [World.size_alloc] at this
    exact this
  have hk2 : Blk ((((w.alloc (.cells #[.int .i64 f.wide, .int .i64 f.high, .slice s.ground.A f.ground.length s.ground.c, .slice s.ore.A f.ore.length s.ore.c] 24)).alloc (.cells #[.int .i64 0, .int .i64 1, .int .i64 0, .int .i64 0, .int .i64 3, .int .i64 0] 3)).alloc (.cells #[.int .i64 0, .int .i64 0, .int .i64 0, .int .i64 0, .int .i64 0, .int .i64 0] 3)).alloc (.cells #[.int .i64 3, .int .i64 2, .slice (some ⟨w.heap.size + 1, 0, none⟩) 6 6, .slice (some ⟨w.heap.size + 1 + 1, 0, none⟩) 6 6] 24)) (w.heap.size + 1 + 1) 3 #[.int .i64 0, .int .i64 0, .int .i64 0, .int .i64 0, .int .i64 0, .int .i64 0] := by
    have := (Blk.new ((w.alloc (.cells #[.int .i64 f.wide, .int .i64 f.high, .slice s.ground.A f.ground.length s.ground.c, .slice s.ore.A f.ore.length s.ore.c] 24)).alloc (.cells #[.int .i64 0, .int .i64 1, .int .i64 0, .int .i64 0, .int .i64 3, .int .i64 0] 3)) 3 #[.int .i64 0, .int .i64 0, .int .i64 0, .int .i64 0, .int .i64 0, .int .i64 0]).alloc (.cells #[.int .i64 3, .int .i64 2, .slice (some ⟨w.heap.size + 1, 0, none⟩) 6 6, .slice (some ⟨w.heap.size + 1 + 1, 0, none⟩) 6 6] 24)
    rw [World.size_alloc, World.size_alloc] at this
    exact this
  have hbW : Below w.heap.size w ((((w.alloc (.cells #[.int .i64 f.wide, .int .i64 f.high, .slice s.ground.A f.ground.length s.ground.c, .slice s.ore.A f.ore.length s.ore.c] 24)).alloc (.cells #[.int .i64 0, .int .i64 1, .int .i64 0, .int .i64 0, .int .i64 3, .int .i64 0] 3)).alloc (.cells #[.int .i64 0, .int .i64 0, .int .i64 0, .int .i64 0, .int .i64 0, .int .i64 0] 3)).alloc (.cells #[.int .i64 3, .int .i64 2, .slice (some ⟨w.heap.size + 1, 0, none⟩) 6 6, .slice (some ⟨w.heap.size + 1 + 1, 0, none⟩) 6 6] 24)) := ((((Below.refl _ _).alloc (Nat.le_refl _) _).alloc (by simp) _).alloc (by simp; omega) _).alloc (by simp; omega) _
  generalize ((((w.alloc (.cells #[.int .i64 f.wide, .int .i64 f.high, .slice s.ground.A f.ground.length s.ground.c, .slice s.ore.A f.ore.length s.ore.c] 24)).alloc (.cells #[.int .i64 0, .int .i64 1, .int .i64 0, .int .i64 0, .int .i64 3, .int .i64 0] 3)).alloc (.cells #[.int .i64 0, .int .i64 0, .int .i64 0, .int .i64 0, .int .i64 0, .int .i64 0] 3)).alloc (.cells #[.int .i64 3, .int .i64 2, .slice (some ⟨w.heap.size + 1, 0, none⟩) 6 6, .slice (some ⟨w.heap.size + 1 + 1, 0, none⟩) 6 6] 24)) = W at *
  have hF1 : FOk W ⟨⟨some ⟨w.heap.size + 1, 0, none⟩, 6⟩, ⟨some ⟨w.heap.size + 1 + 1, 0, none⟩, 6⟩⟩ twoF := ⟨I64_small _ (by decide), I64_small _ (by decide), sli_new (B := 0) _ 6 _ _ [0, 1, 0, 0, 3, 0] hk1 rfl (by simp [I64]) (by decide), sli_new (B := 0) _ 6 _ _ [0, 0, 0, 0, 0, 0] hk2 rfl (by simp [I64]) (by decide)⟩
  clear hk1 hk2
  refine (far_ok _ twoF 2 false W hF1 (by decide)).mono ?_
  intro e W1 hp
  obtain ⟨g1, out, rfl, hd1, hg1, hkf, hb1⟩ := hp
  have eo := hd1.uniq twoF_dist
  subst eo
  have hc0 := hkf.cell 0
  have hc2 := hkf.cell 2
  have hk := hk0.below hb1 hk0.lt
  have hb2 := hbW.trans (hb1.mono hbW.size)
  change W1.cell? ⟨g1, 0, none⟩ = some (.int .i64 5) at hc0
  change W1.cell? ⟨g1, 2, none⟩ = some (.int .i64 0) at hc2
  have et : twoF.ground.length = 6 := rfl
  rw [et]
  clear hk0 hbW hb1 hF1 hkf hd1
  have HF := Lib.hid (H.out.below hb2)
  have d0 := hk.cell 0
  have d1 := hk.cell 1
  have d2 := hk.cell 2
  have d3 := hk.cell 3
  have hs2 := hb2.size
  have hklt := hk.lt
  replace hk := Lib.hid hk
  replace hb2 := Lib.hid hb2
  go_wp2_with fail
  by_cases hE : cellE f a2 = 0
  case neg =>
    refine (far_no s f a2 fl W1 HF.out hE).mono ?_
    rintro e W2 ⟨rfl, hb3⟩
    replace hE := Lib.hid hE
    unfold erE
    go_wp2_with fail
    go_ret
    exact ⟨rfl, hb2.out.trans (hb3.mono hs2)⟩
  obtain ⟨hg, ha0, ha1⟩ := cellE_in f a2 hE
  obtain ⟨t, rfl⟩ : ∃ t : Nat, a2 = (t : Int) := ⟨a2.toNat, by omega⟩
  refine (far_ok s f t fl W1 HF.out hE).mono ?_
  intro e W2 hp
  obtain ⟨g, far, rfl, hd, hg3, hkf, hb3⟩ := hp
  have hk2 := hk.out.below hb3 hk.out.lt
  have hb4 := hb2.out.trans (hb3.mono hs2)
  have HF2 := HF.out.below hb3
  have hs3 := hb3.size
  have hn144 := hg.len.1
  have hfl := hd.len
  have hflt := hkf.lt
  have hk2lt := hk2.lt
  have hcE : ∀ b : Nat, b < f.ground.length → cellE f (b : Int) = 0 := fun b hb => cellE_ok f b hg (by omega) (by omega)
  have hbx : ∀ (i k : Nat), i < f.ground.length → k < (besL f (i : Int)).length → ∃ b : Nat, (besL f (i : Int))[k]? = some (b : Int) ∧ b < f.ground.length ∧ NB f b i := fun i k hi hk => by
    have hm : (besL f (i : Int))[k] ∈ besL f (i : Int) := List.getElem_mem hk
    have hin := bes_in f i _ hg.wide.1 (by omega) (by rw [← hg.lg]; omega) hm
    rw [← hg.lg] at hin
    obtain ⟨b, hb⟩ : ∃ b : Nat, (besL f (i : Int))[k] = (b : Int) := ⟨((besL f (i : Int))[k]).toNat, by omega⟩
    refine ⟨b, by rw [List.getElem?_eq_getElem hk, hb], by omega, nb_sym f hg i b hi ?_⟩
    unfold NB; rw [← hb]; exact hm
  have hrx : ∀ (i b : Nat), i < f.ground.length → b < f.ground.length → NB f b i → 0 < ontoL f b fl → 0 ≤ at0 far b → 0 ≤ at0 far i ∧ at0 far i ≤ at0 far b + ontoL f b fl := fun i b hi hb hn hc h0 => hd.relax b i hb hi hn hc h0
  have hlow := hd.low
  have hnl : ∀ i : Nat, (besL f (i : Int)).length ≤ 4 := fun i => besL_len f i
  replace hk2 := Lib.hid hk2
  replace hb4 := Lib.hid hb4
  replace HF2 := Lib.hid HF2
  replace hkf := Lib.hid hkf
  replace hd := Lib.hid hd
  replace hg := Lib.hid hg
  replace hE := Lib.hid hE
  replace hfl := Lib.hid hfl
  replace hcE := Lib.hid hcE
  replace hbx := Lib.hid hbx
  replace hrx := Lib.hid hrx
  replace hlow := Lib.hid hlow
  replace hnl := Lib.hid hnl
  clear hb3 d0 d1 d2 d3 hc0 hc2
  go_wp2_with fail
  go_loopw [14, 15, 16, 17, 18, 19, 20] (fun i _ _ _ _ _ _ wr => ∃ k : Nat, k ≤ f.ground.length ∧ i = .int .i64 k ∧ Hid (Below W2.heap.size W2 wr)) (fun i _ _ _ _ _ _ _ => f.ground.length - (intOf i).toNat)
  case atStart => exact ⟨0, Nat.zero_le _, rfl, Lib.hid (Below.refl _ _)⟩
  case round =>
  obtain ⟨i, hi, rfl, hb⟩ := hrel
  have hsb := hb.out.size
  have hkW := hk2.out.below hb.out hk2lt
  have hkfW := hkf.out.below hb.out hflt
  have HFW := HF2.out.below hb.out
  have hbw := hb4.out.trans (hb.out.mono hb4.out.size)
  have d0 := hkW.cell 0
  have d1 := hkW.cell 1
  have d2 := hkW.cell 2
  have d3 := hkW.cell 3
  by_cases hlt : i < f.ground.length
  · have i1 : (i : Int) < (f.ground.length : Int) := by omega
    have hci := hcE.out i hlt
    replace hci := Lib.hid hci
    have cfi := hkfW.atI i (by rw [hfl.out]; exact hlt)
    replace HFW := Lib.hid HFW
    replace hkW := Lib.hid hkW
    replace hkfW := Lib.hid hkfW
    replace hbw := Lib.hid hbw
    replace cfi := Lib.hid cfi
    go_wp2_with fail
    refine (near_ok s f i wr HFW.out hci.out).mono ?_
    rintro e W3 ⟨A, c, rfl, ho, hb5⟩
    have hR := RD.of_own ho
    have hb6 := hb.out.trans (hb5.mono hsb)
    have hs6 := hb6.size
    have hbi := hbx.out i
    have hnl4 := hnl.out i
    replace hR := Lib.hid hR
    replace hb6 := Lib.hid hb6
    replace hbi := Lib.hid hbi
    have hkW3 := Lib.hid (hk2.out.below hb6.out hk2lt)
    have hkfW3 := Lib.hid (hkf.out.below hb6.out hflt)
    have HFW3 := Lib.hid (HF2.out.below hb6.out)
    clear ho hb5 d0 d1 d2 d3
    generalize hL : besL f (i : Int) = l at *
    replace hL := Lib.hid hL
    go_wp2_with fail
    go_loopw [17, 18, 19, 20] (fun k _ _ _ wr => ∃ j : Nat, j ≤ l.length ∧ k = .int .i64 j ∧ Hid (Below W3.heap.size W3 wr)) (fun k _ _ _ _ => l.length - (intOf k).toNat)
    case atStart => exact ⟨0, Nat.zero_le _, rfl, Lib.hid (Below.refl _ _)⟩
    case round =>
    obtain ⟨j, hj, rfl, hbj⟩ := hrel
    have hsj := hbj.out.size
    by_cases hlj : j < l.length
    · obtain ⟨b, hlb, hbn, hnb⟩ := hbi.out j hlt hlj
      have hRw := (hR.out.below hbj.out).more hsj
      obtain ⟨bl, ol, hA, hbl⟩ := hRw.addr (by omega)
      have hcl := hRw.at_ hA (j := j) (by omega)
      rw [List.getElem?_map, hlb] at hcl
      simp only [Option.map_some] at hcl
      subst hA
      have hkx := hkW3.out.below hbj.out hkW3.out.lt
      have d0 := hkx.cell 0
      have d1 := hkx.cell 1
      have d2 := hkx.cell 2
      have d3 := hkx.cell 3
      have hkfx := hkfW3.out.below hbj.out hkfW3.out.lt
      have cb := hkfx.atI b (by rw [hfl.out]; exact hbn)
      have ci := hkfx.atI i (by rw [hfl.out]; exact hlt)
      have HFx := HFW3.out.below hbj.out
      have i2 : (j : Int) < (l.length : Int) := by omega
      have i3 : (b : Int) < (f.ground.length : Int) := by omega
      have hcb := hcE.out b hbn
      have hrl := hrx.out i b hlt hbn hnb
      have hlwb := hlow.out b hbn
      have hlwi := hlow.out i hlt
      have hob := ontoL_bd f b fl
      replace hcb := Lib.hid hcb
      replace hnb := Lib.hid hnb
      replace hlb := Lib.hid hlb
      replace HFx := Lib.hid HFx
      replace hkx := Lib.hid hkx
      replace hkfx := Lib.hid hkfx
      replace hRw := Lib.hid hRw
      replace hrl := Lib.hid hrl
      replace cb := Lib.hid cb
      replace ci := Lib.hid ci
      have hb9 := Lib.hid hbj
      go_upto_region 17 with fail
      go_cut [18, 19] (fun m e wz0 => ∃ wz, wz = wz0 ∧ m = .int .i64 (ontoL f b fl) ∧ e = .nilIface ∧ Hid (Below wr.heap.size wr wz))
      case first =>
        go_region_with (go_at_call 14; refine (step_ok s f b fl _ (by first | exact HFx.out | exact HFx.out.drewN _) hcb.out).mono ?_; rintro e w' ⟨rfl, hbm⟩)
        all_goals
          have hbm2 : Hid (Below wr.heap.size wr w') := Lib.hid ⟨hbm.os, hbm.tape, hbm.output, hbm.size, hbm.block⟩
          clear hbm
          go_wp2_with fail
          go_meet
          exact ⟨_, rfl, rfl, rfl, hbm2⟩
      case rest =>
      obtain ⟨wz, rfl, rfl, rfl, hbz⟩ := hcut
      have hbb := hbj.out.trans (hbz.out.mono hsj)
      have hsz := hbb.size
      have e5 := (hRw.out.below hbz.out).at_ rfl (j := j) (by omega)
      rw [List.getElem?_map, hlb.out] at e5
      simp only [Option.map_some] at e5
      have hkz := hkfx.out.below hbz.out hkfx.out.lt
      have cbz := hkz.atI b (by rw [hfl.out]; exact hbn)
      have ciz := hkz.atI i (by rw [hfl.out]; exact hlt)
      replace hkz := Lib.hid hkz
      replace hbb := Lib.hid hbb
      clear d0 d1 d2 d3 hcl
      generalize ontoL f b fl = sc at *
      generalize hdb : at0 far b = db at *
      generalize hdi : at0 far i = di at *
      replace hdb := Lib.hid hdb
      replace hdi := Lib.hid hdi
      obtain ⟨hob1, hob2⟩ := hob
      have e1 : IntKind.i64.wrap (sc + db) = sc + db := IntWalk.i64_in _ (by omega)
      have e2 := e1
      rw [IntWalk.i64_left] at e2
      by_cases q1 : 0 < sc
      · have p1 : decide ((0 : Int) < sc) = true := by simp; omega
        by_cases q2 : 0 ≤ db
        · have p2 : decide ((0 : Int) ≤ db) = true := by simp; omega
          obtain ⟨r1, r2⟩ := hrl.out q1 q2
          have p3 : decide (di < 0) = false := by simp; omega
          have p4 : decide (sc + db < di) = false := by simp; omega
          go_wp2_with fail
          go_roundw
          case rel => exact ⟨j + 1, by omega, by go_num, hbb⟩
          case measure => simp [intOf]; omega
        · have p2 : decide ((0 : Int) ≤ db) = false := by simp; omega
          go_wp2_with fail
          go_roundw
          case rel => exact ⟨j + 1, by omega, by go_num, hbb⟩
          case measure => simp [intOf]; omega
      · have p1 : decide ((0 : Int) < sc) = false := by simp; omega
        go_wp2_with fail
        go_roundw
        case rel => exact ⟨j + 1, by omega, by go_num, hbb⟩
        case measure => simp [intOf]; omega
    · have hb7 := hb6.out.trans (hbj.out.mono hs6)
      replace hb7 := Lib.hid hb7
      go_wp2_with fail
      go_roundw
      case rel => exact ⟨i + 1, by omega, by go_num, hb7⟩
      case measure => simp [intOf]; omega
  · replace HFW := Lib.hid HFW
    replace hkW := Lib.hid hkW
    replace hkfW := Lib.hid hkfW
    replace hbw := Lib.hid hbw
    go_wp2_with fail
    by_cases hF : faultL f [a1, (t : Int)] = 0
    case neg =>
      refine (path_no s f a1 t fl wr HFW.out hF).mono ?_
      rintro e W3 ⟨rfl, hb5⟩
      replace hF := Lib.hid hF
      unfold erE
      go_wp2_with fail
      go_ret
      exact ⟨rfl, hbw.out.trans (hb5.mono hbw.out.size)⟩
    obtain ⟨_, hu0, hu1, _, _, _, _⟩ := faultL_2 f a1 t hF
    obtain ⟨u, rfl⟩ : ∃ u : Nat, a1 = (u : Int) := ⟨a1.toNat, by omega⟩
    refine (path_ok s f u t fl wr HFW.out hF).mono ?_
    intro e W3 hp
    obtain ⟨far2, hd2, hb5, hcase⟩ := hp
    have eu := hd2.uniq hd.out
    subst eu
    clear hd2
    have hb6 := hbw.out.trans (hb5.mono hbw.out.size)
    replace hF := Lib.hid hF
    rcases hcase with ⟨hneg, rfl⟩ | ⟨hpos, A, c, rfl, ho⟩
    · unfold erE
      go_wp2_with fail
      go_ret
      exact ⟨rfl, hb6⟩
    have hR := RD.of_own ho
    have hgo := pathL_goes f hg.out fl far2 t u hd.out (by omega) hpos
    have hpa := fun i h => pathI_at f fl far2 u t i h
    have hpn := pathI_len f fl far2 u t
    have hlast := goes_ne hgo
    have hP : ∀ i, i + 1 < (pathI f fl far2 u t).length → ∃ x y : Nat, (pathI f fl far2 u t)[i]? = some (x : Int) ∧ (pathI f fl far2 u t)[i + 1]? = some (y : Int) ∧ x < f.ground.length ∧ y < f.ground.length ∧ (y : Int) ∈ besL f (x : Int) ∧ 0 < ontoL f y fl ∧ 0 ≤ at0 far2 y ∧ ontoL f y fl + at0 far2 y = at0 far2 x := fun i hi => by
      rw [hpn] at hi
      have h1 := goes_at hgo i hi
      exact ⟨_, _, hpa i (by omega), hpa (i + 1) hi, h1.1, goes_lt hgo (i + 1) hi, h1.2.1, h1.2.2.1, h1.2.2.2.1, h1.2.2.2.2⟩
    have hP0 : (pathI f fl far2 u t)[0]? = some (u : Int) := hpa 0 hlast.1
    have hPl : (pathI f fl far2 u t)[(pathI f fl far2 u t).length - 1]? = some (t : Int) := by
      rw [hpn, hpa _ (by omega), hlast.2]
    have hPn : 0 < (pathI f fl far2 u t).length := by rw [hpn]; exact hlast.1
    have hft : at0 far2 t = 0 := hd.out.hsrc.2
    have hmax : (pathI f fl far2 u t).length ≤ 9223372036854775807 := by
      obtain ⟨h1, h2⟩ := ho
      rcases h2 with ⟨_, h2⟩ | ⟨g', cap, cur, hv, _, _, h3, h4, _⟩
      · omega
      · unfold maxLen at h4; omega
    generalize pathI f fl far2 u t = P at *
    have hk3 := Lib.hid (hk2.out.below (hb.out.trans (hb5.mono hsb)) hk2lt)
    have hkf3 := Lib.hid (hkf.out.below (hb.out.trans (hb5.mono hsb)) hflt)
    have HF3 := Lib.hid (HF2.out.below (hb.out.trans (hb5.mono hsb)))
    replace hR := Lib.hid hR
    replace hb6 := Lib.hid hb6
    replace hP := Lib.hid hP
    replace hP0 := Lib.hid hP0
    replace hPl := Lib.hid hPl
    replace hft := Lib.hid hft
    have hlwu := hlow.out u (by omega)
    clear ho hb5 hgo hpa hpn hlast d0 d1 d2 d3 hb hkW hkfW HFW hbw
    go_wp2_with fail
    go_loopw [22, 23, 24, 25, 26, 27, 28, 29] (fun sm i _ _ _ _ _ _ wr => ∃ (k x : Nat) (S : Int), k + 1 ≤ P.length ∧ i = .int .i64 ((k : Int) + 1) ∧ sm = .int .i64 S ∧ x < f.ground.length ∧ Hid (P[k]? = some (x : Int)) ∧ 0 ≤ at0 far2 x ∧ Hid (S + at0 far2 x = at0 far2 u) ∧ Hid (Below W3.heap.size W3 wr)) (fun _ i _ _ _ _ _ _ _ => P.length - (intOf i).toNat)
    case atStart => exact ⟨0, u, 0, hPn, rfl, rfl, by omega, hP0, hpos, Lib.hid (by omega), Lib.hid (Below.refl _ _)⟩
    case round =>
    obtain ⟨k, x, S, hk1, rfl, rfl, hxn, hPx, hfx, hS, hbj⟩ := hrel
    have hsj := hbj.out.size
    have hkx := hk3.out.below hbj.out hk3.out.lt
    have hkfx := hkf3.out.below hbj.out hkf3.out.lt
    have HFx := HF3.out.below hbj.out
    have d0 := hkx.cell 0
    have d1 := hkx.cell 1
    have d2 := hkx.cell 2
    have d3 := hkx.cell 3
    replace hkx := Lib.hid hkx
    replace hkfx := Lib.hid hkfx
    replace HFx := Lib.hid HFx
    have hlwx := hlow.out x hxn
    have hSb : -1000 ≤ S ∧ S ≤ 1000 := by have := hS.out; omega
    obtain ⟨hSb1, hSb2⟩ := hSb
    by_cases hlj : k + 1 < P.length
    · obtain ⟨x', y, hPx', hPy, _, hyn, hyb, hyo, hyf, hye⟩ := hP.out k hlj
      have exx : (x : Int) = (x' : Int) := by have := hPx.out; rw [hPx'] at this; injection this with this; exact this.symm
      have exx' : x' = x := by omega
      subst exx'
      have hRw := (hR.out.below hbj.out).more hsj
      obtain ⟨bl, ol, hA, hbl⟩ := hRw.addr (by omega)
      have hcl := hRw.at_ hA (j := k + 1) (by omega)
      rw [List.getElem?_map, hPy] at hcl
      simp only [Option.map_some] at hcl
      subst hA
      have i1 : (k : Int) + 1 < (P.length : Int) := by omega
      have i8 : (k : Int) < (P.length : Int) := by omega
      have i8n : k < P.length := by omega
      have hcy := hcE.out y hyn
      have hcx := hcE.out x' hxn
      replace hcy := Lib.hid hcy
      replace hcx := Lib.hid hcx
      replace hRw := Lib.hid hRw
      replace hPx' := Lib.hid hPx'
      replace hPy := Lib.hid hPy
      replace hyb := Lib.hid hyb
      replace hye := Lib.hid hye
      have hob := ontoL_bd f y fl
      go_upto_region 30 with fail
      go_cut [24, 25] (fun m e wz0 => ∃ wz, wz = wz0 ∧ m = .int .i64 (ontoL f y fl) ∧ e = .nilIface ∧ Hid (Below wr.heap.size wr wz))
      case first =>
        go_region_with (go_at_call 14; refine (step_ok s f y fl _ (by first | exact HFx.out | exact HFx.out.drewN _) hcy.out).mono ?_; rintro e w' ⟨rfl, hbm⟩)
        all_goals
          have hbm2 : Hid (Below wr.heap.size wr w') := Lib.hid ⟨hbm.os, hbm.tape, hbm.output, hbm.size, hbm.block⟩
          clear hbm
          go_wp2_with fail
          go_meet
          exact ⟨_, rfl, rfl, rfl, hbm2⟩
      case rest =>
      obtain ⟨wz, rfl, rfl, rfl, hbz⟩ := hcut
      have hsz := hbz.out.size
      have hkz := hkx.out.below hbz.out hkx.out.lt
      have HFz := HFx.out.below hbz.out
      have hRz := (hRw.out.below hbz.out).more hsz
      have hcz := hRz.at_ rfl (j := k) (by omega)
      rw [List.getElem?_map, hPx'.out] at hcz
      simp only [Option.map_some] at hcz
      replace d0 := hkz.cell 0
      replace d1 := hkz.cell 1
      replace d2 := hkz.cell 2
      replace d3 := hkz.cell 3
      have hbzz := hbj.out.trans (hbz.out.mono hsj)
      replace hkz := Lib.hid hkz
      replace HFz := Lib.hid HFz
      replace hRz := Lib.hid hRz
      replace hbzz := Lib.hid hbzz
      have i9 : IntKind.i64.wrap ((k : Int) + 1 - 1) = (k : Int) := by rw [Int.add_sub_cancel]; exact IntWalk.i64_in _ (by omega)
      clear hcl
      go_upto_region 31 with fail
      go_cut [26, 27] (fun m e wx0 => ∃ wx, wx = wx0 ∧ ∃ Am cm, m = .slice Am (besL f x').length cm ∧ e = .nilIface ∧ Hid (wx.ownsRow wz.heap.size 3 1 (.slice Am (besL f x').length cm) (besL f x').length ((besL f x').map (.int .i64))) ∧ Hid (Below wz.heap.size wz wx))
      case first =>
        have i9c : IntKind.i64.wrap (k : Int) = (k : Int) := IntWalk.i64_in _ (by omega)
        have i6 : (0 : Int) ≤ (k : Int) + 1 - 1 := by omega
        have i7 : (k : Int) + 1 - 1 < (P.length : Int) := by omega
        go_region_with (go_at_call 13; refine (near_ok s f x' _ (by first | exact HFz.out | exact HFz.out.drewN _) hcx.out).mono ?_; rintro e w' ⟨Am, cm, rfl, hom, hbm⟩)
        all_goals
          have hom2 := Lib.hid hom
          have hbm2 : Hid (Below wz.heap.size wz w') := Lib.hid ⟨hbm.os, hbm.tape, hbm.output, hbm.size, hbm.block⟩
          clear hom hbm
          go_wp2_with fail
          go_meet
          exact ⟨_, rfl, _, _, rfl, rfl, hom2, hbm2⟩
      case rest =>
      obtain ⟨wx, rfl, Am, cm, rfl, rfl, hom, hbm⟩ := hcut
      have hRm := RD.of_own hom.out
      have hlm := besL_len f x'
      have hbx := hbzz.out.trans (hbm.out.mono (by have := hbzz.out.size; omega))
      have hRx := (hRz.out.below hbm.out).more hbm.out.size
      have hcx2 := hRx.at_ rfl (j := k + 1) (by omega)
      rw [List.getElem?_map, hPy.out] at hcx2
      simp only [Option.map_some] at hcx2
      have hyb2 := hyb
      replace hRm := Lib.hid hRm
      replace hbx := Lib.hid hbx
      replace hRx := Lib.hid hRx
      clear hom hbm d0 d1 d2 d3 hcz
      generalize hM : besL f (x' : Int) = M at *
      replace hM := Lib.hid hM
      go_wp2_with fail
      go_loopw [28, 29] (fun bb j wr2 => ∃ (t : Nat) (B : Bool) (q : Nat), t ≤ M.length ∧ j = .int .i64 t ∧ bb = .bool B ∧ Hid (B = (M.take t).any (· == (y : Int))) ∧ wr2 = wx.drewN q) (fun _ j _ => M.length - (intOf j).toNat)
      case atStart => exact ⟨0, false, 0, Nat.zero_le _, rfl, rfl, Lib.hid (by simp), rfl⟩
      case round =>
      obtain ⟨t3, B, q, ht, rfl, rfl, hBB, rfl⟩ := hrel
      have hcxq : (wx.drewN q).cell? ⟨bl, ol + (k + 1), none⟩ = some (.int .i64 (y : Int)) := hcx2
      have i10 : k + 1 < P.length := hlj
      by_cases htl : t3 < M.length
      · obtain ⟨bm, om, hAm, _⟩ := hRm.out.addr (by omega)
        have hcm := hRm.out.at_ hAm (j := t3) (by omega)
        rw [List.getElem?_map, List.getElem?_eq_getElem htl] at hcm
        simp only [Option.map_some] at hcm
        subst hAm
        have hnx : (M.take (t3 + 1)).any (· == (y : Int)) = ((M.take t3).any (· == (y : Int)) || (M[t3] == (y : Int))) := by rw [List.take_succ_eq_append_getElem htl, List.any_append]; simp
        rw [← hBB.out] at hnx
        generalize M[t3] = z at *
        have i2 : (t3 : Int) < (M.length : Int) := by omega
        cases B with
        | true =>
          replace hnx := Lib.hid hnx
          go_wp2_with fail
          go_big_quiet (fail)
          go_wp2_with fail
          go_roundw
          case rel => exact ⟨t3 + 1, true, _, by omega, by go_num, rfl, Lib.hid (by rw [hnx.out]; rfl), rfl⟩
          case measure => simp [intOf]; omega
        | false =>
          cases hya : (z == (y : Int)) with
          | true =>
            rw [hya] at hnx
            replace hnx := Lib.hid hnx
            go_wp2_with fail
            go_big_quiet (fail)
            go_wp2_with fail
            go_roundw
            case rel => exact ⟨t3 + 1, true, _, by omega, by go_num, rfl, Lib.hid (by rw [hnx.out]; rfl), rfl⟩
            case measure => simp [intOf]; omega
          | false =>
            rw [hya] at hnx
            replace hnx := Lib.hid hnx
            go_wp2_with fail
            go_big_quiet (fail)
            go_wp2_with fail
            go_roundw
            case rel => exact ⟨t3 + 1, false, _, by omega, by go_num, rfl, Lib.hid (by rw [hnx.out]; rfl), rfl⟩
            case measure => simp [intOf]; omega
      · have hBt : B = true := by
          rw [hBB.out, List.take_of_length_le (by omega)]
          exact List.any_eq_true.2 ⟨y, hyb.out, by simp⟩
        subst hBt
        have hlwy := hlow.out y hyn
        have hSy : S + ontoL f y fl + at0 far2 y = at0 far2 u := by have := hye.out; have := hS.out; omega
        have hbq : Below W3.heap.size W3 (wx.drewN q) := bdrewN hbx.out q
        replace hSy := Lib.hid hSy
        replace hbq := Lib.hid hbq
        clear hBB hcxq
        generalize ontoL f y fl = sc at *
        obtain ⟨hob1, hob2⟩ := hob
        have p1 : decide (sc < 1) = false := by simp; omega
        go_wp2_with fail
        go_roundw
        case rel => exact ⟨k + 1, y, S + sc, by omega, by go_num, rfl, hyn, hPy, hyf, hSy, hbq⟩
        case measure => simp [intOf]; omega
    · have hkl : k = P.length - 1 := by omega
      have hxt : x = t := by
        have h1 := hPx.out
        rw [hkl, hPl.out] at h1
        injection h1 with h1
        omega
      subst hxt
      have hSf : S = at0 far2 u := by have := hS.out; have := hft.out; omega
      have hcx := hcE.out x hxn
      have hbf := hb6.out.trans (hbj.out.mono hb6.out.size)
      have hun : u < f.ground.length := by omega
      replace hbf := Lib.hid hbf
      replace hcx := Lib.hid hcx
      clear hkl
      go_wp2_with fail
      refine (far_ok s f x true wr HFx.out hcx.out).mono ?_
      intro e W5 hp
      obtain ⟨g5, air, rfl, hd5, hg5, hkf5, hb5⟩ := hp
      have hair := far_air f fl far2 air x u hd.out hd5 hun hpos
      have hkf2 := hkfx.out.below hb5 hkfx.out.lt
      have ca := hkf5.atI u (by rw [hd5.len]; exact hun)
      have cf := hkf2.atI u (by rw [hfl.out]; exact hun)
      have hbe := hbf.out.trans (hb5.mono hbf.out.size)
      have j1 : (u : Int) < (f.ground.length : Int) := by omega
      replace hkf2 := Lib.hid hkf2
      replace hkf5 := Lib.hid hkf5
      replace hbe := Lib.hid hbe
      replace hd5 := Lib.hid hd5
      obtain ⟨ha1', ha2'⟩ := hair
      subst hSf
      generalize at0 air u = av at *
      generalize at0 far2 u = fv at *
      have p1 : decide ((0 : Int) ≤ av) = true := by simp; omega
      have p2 : decide (av ≤ fv) = true := by simp; omega
      have p3 : (fv == fv) = true := by simp
      clear hb5
      go_wp2_with fail
      go_big_quiet (fail)
      go_wp2_with fail
      go_ret
      exact ⟨rfl, bdrewN hbe.out _⟩
theorem pathShort_walk (v0 : Value) (x0 : SF × GF) (a1 a2 : Int) (b3 : Bool) (w : World) (w0 : v0 = .agg (fV x0.1 x0.2).toArray ∧ FOk w x0.1 x0.2) (w1 : (Lit.int .i64 a1).wf = true) (w2 : (Lit.int .i64 a2).wf = true) :
    Calls Try.prog 4 #[v0, .int .i64 a1, .int .i64 a2, .bool b3] w fun e w' => e = .returned (.bool true) ∧ Below w.heap.size w w' := by
  obtain ⟨s, f⟩ := x0
  obtain ⟨rfl, h⟩ := w0
  exact pathShort_in s f a1 a2 b3 w h
end Go.Proofs.Ytkkdegcbikjebaa
