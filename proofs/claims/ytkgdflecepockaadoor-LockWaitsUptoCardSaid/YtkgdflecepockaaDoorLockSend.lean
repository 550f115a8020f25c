import Derived.Test.YtkgdflecepockaaDoorLockS
import Derived.Deep.CutBlock
import Derived.Deep.DeepCutAuto
namespace Go.Proofs.YtkgdflecepockaaDoor
set_option linter.unusedVariables false
open Go.RowKit
def putS (S : Int → Int → Option (List Od)) (p t : Int) (L : List Od) : Int → Int → Option (List Od) := fun p' t' => if p' = p ∧ t' = t then some L else S p' t'
/-- The fault of what is sent. -/
def sendE (outs : List Bool) (now d : Int) (S : Int → Int → Option (List Od)) (p t : Int) (L : List Od) : Int :=
  if plE outs p ≠ 0 then plE outs p else if t < now then 7 else if d < t - now then 1 else if (S p t).isSome = true then 8 else if ordsE L ≠ 0 then ordsE L else if anyNe L p = true then 3 else 0
theorem kept_own {w : World} {b n c : Nat} {A : Option Addr} {xs : List Value} (h : w.ownsRow b 66 4 (.slice A n c) n xs) : Kept w A := fun g o s e => by
  rcases h.2 with ⟨hv, _⟩ | ⟨g', cap, cur, hv, _, hg, _⟩
  · injection hv with h1 _ _; rw [h1] at e; cases e
  · injection hv with h1 _ _
    rw [h1] at e
    injection e with e
    injection e with e1 _ _
    subst e1
    exact ⟨cur, _, hg⟩
section
variable {w : World} {G O M B n : Nat} {d now : Int} {outs : List Bool} {S : Int → Int → Option (List Od)}
theorem LK.put (h : LK B w G O M n d now outs S) {p t : Int} (hp : I6 p) (ht : I6 t) (hn : n ≤ 1000000) {A : Option Addr} {c : Nat} {L : List Od} (hr : RO w w.heap.size A L) (hnil : A = none → c = 0) (hk : Kept w A) :
    ∃ w', (Instr.mapUpdate 88 (.map (some M)) (plV p t) (.slice A L.length c)).run Tryd.prog w = .ok () w' ∧ LK B w' G O M (n + 1) d now outs (putS S p t L) ∧ w.grownBy w' (some M) := by
  obtain ⟨V, hm, hS⟩ := h.mp
  obtain ⟨w', hrun, hm', hg⟩ := hm.put hp ht (by unfold maxLen; omega) (.slice A L.length c)
  have hko := h.keepO hg
  have hS2 := SentIs.mono hS hko hg.size
  refine ⟨w', hrun, h.withMap hg hm' (fun p' t' => ?_), hg⟩
  unfold putS
  by_cases e : p' = p ∧ t' = t
  · rw [if_pos e, if_pos e]
    refine ⟨fun (h : some L = none) => (nomatch h), fun L' (hL : some L = some L') => ?_⟩
    injection hL with hL
    subst hL
    refine ⟨A, c, rfl, ⟨hr.1, fun hpos => ?_⟩, hnil, Kept.mono hk hko⟩
    obtain ⟨b, off, ea, hb, hc⟩ := hr.2 hpos
    refine ⟨b, off, ea, Nat.lt_of_lt_of_le hb hg.size, fun j hj => ?_⟩
    obtain ⟨cs, m, hcs⟩ := hk b off none ea
    rw [← hc j hj]
    exact World.cell?_of_block (a := ⟨b, off + j, none⟩) (hko b cs m hcs)
  · rw [if_neg e, if_neg e]
    exact hS2 p' t'
/-- What Send answers. -/
def SendPost (B : Nat) (w : World) (G O M n : Nat) (d now : Int) (outs : List Bool) (S : Int → Int → Option (List Od)) (p t : Int) (L : List Od) (e : Ending) (w' : World) : Prop :=
  (sendE outs now d S p t L ≠ 0 ∧ e = .returned (erL (sendE outs now d S p t L)) ∧ Below w.heap.size w w') ∨ (sendE outs now d S p t L = 0 ∧ e = .returned .nilIface ∧ LK B w' G O M (n + 1) d now outs (putS S p t L) ∧ LEff w w' G O M)
set_option maxHeartbeats 3200000 in
set_option maxRecDepth 100000 in
theorem lsend_any (p t : Int) (A : Option Addr) (c : Nat) (L : List Od) (h : LK B w G O M n d now outs S) (hr : RO w w.heap.size A L) (hnil : A = none → c = 0) (hl : L.length ≤ 1000000000) (ht : I6 t) (hp6 : I6 p) (hn : n ≤ 1000000) :
    Calls Tryd.prog 23 #[.pointer (some ⟨G, 0, none⟩), .int .i64 p, .int .i64 t, .slice A L.length c] w (SendPost B w G O M n d now outs S p t L) := by
  have hbA : Below w.heap.size w (w.alloc (.cells #[.int .i64 p] 3)) := (Below.refl _ _).alloc (Nat.le_refl _) _
  have hkA := Blk.new w 3 #[.int .i64 p]
  have hLA := h.below hbA
  have hpc := lplayer_any p hLA
  have hcp := hkA.cell 0
  replace hcp : (w.alloc (.cells #[.int .i64 p] 3)).cell? ⟨w.heap.size, 0, none⟩ = some (.int .i64 p) := hcp
  have hrA := (hr.below hbA).more hbA.size
  by_cases hpe : plE outs p ≠ 0
  · have e1 : sendE outs now d S p t L = plE outs p := by unfold sendE; rw [if_pos hpe]
    have e2 : erV (plE outs p) = erL (plE outs p) := by unfold erV; rw [if_neg hpe]
    rw [e2] at hpc
    have hQ : ∀ w', Below w.heap.size w w' → SendPost B w G O M n d now outs S p t L (.returned (erL (plE outs p))) w' := fun w' hb => .inl ⟨by rw [e1]; exact hpe, by rw [e1], hb⟩
    replace hQ := Lib.hid hQ
    unfold erL at hpc hQ
    replace hpc := Lib.hid hpc
    replace h := Lib.hid h
    replace hr := Lib.hid hr
    replace hnil := Lib.hid hnil
    replace hLA := Lib.hid hLA
    replace hrA := Lib.hid hrA
    replace hkA := Lib.hid hkA
    replace hpe := Lib.hid hpe
    clear e1 e2
    go_enter Tryd.func23, Tryd.ntmps23
    go_wp2_with fail
    refine hpc.out.mono ?_
    rintro e w1 ⟨rfl, rfl⟩
    go_wp2_with fail
    go_ret
    exact hQ.out _ hbA
  · have hpe0 : plE outs p = 0 := Classical.byContradiction hpe
    have e2 : erV (plE outs p) = .nilIface := by rw [hpe0]; rfl
    rw [e2] at hpc
    have e0 : sendE outs now d S p t L = if t < now then 7 else if d < t - now then 1 else if (S p t).isSome = true then 8 else if ordsE L ≠ 0 then ordsE L else if anyNe L p = true then 3 else 0 := by unfold sendE; rw [if_neg hpe]
    obtain ⟨c0, c1, c2, c3, c4⟩ := hLA.cells
    obtain ⟨V, hm, hS⟩ := hLA.mp
    have hnw := hLA.nw
    have hdl := hLA.dl
    have hiso : (V p t).isSome = (S p t).isSome := by
      obtain ⟨s1, s2⟩ := hS p t
      rcases hs : S p t with _ | L'
      · rw [s1 hs]; rfl
      · obtain ⟨A', c', e, _⟩ := s2 L' hs
        rw [e]; rfl
    have hlk := fun q => (hm.drewN q).lookOk hp6 ht
    rw [hiso] at hlk
    have hgl := hLA.blk.lt
    have hkl := hkA.lt
    unfold I6 at ht hp6
    replace hpc := Lib.hid hpc
    replace h := Lib.hid h
    replace hr := Lib.hid hr
    replace hnil := Lib.hid hnil
    replace hLA := Lib.hid hLA
    replace hrA := Lib.hid hrA
    replace hkA := Lib.hid hkA
    replace hpe := Lib.hid hpe
    replace hpe0 := Lib.hid hpe0
    replace e0 := Lib.hid e0
    replace hm := Lib.hid hm
    replace hS := Lib.hid hS
    replace hiso := Lib.hid hiso
    replace hbA := Lib.hid hbA
    clear e2
    generalize (V p t).getD (.slice none 0 0) = vv at *
    obtain ⟨si, hsi⟩ : ∃ si, (S p t).isSome = si := ⟨_, rfl⟩
    rw [hsi] at hlk
    replace hsi := Lib.hid hsi
    go_enter Tryd.func23, Tryd.ntmps23
    go_wp2_with fail
    refine hpc.out.mono ?_
    clear hpc
    rintro e w1 ⟨rfl, rfl⟩
    generalize (w.alloc (.cells #[.int .i64 p] 3)) = wA at *
    obtain ⟨pb, hpb⟩ : ∃ pb, w.heap.size = pb := ⟨_, rfl⟩
    rw [hpb] at hcp hkl hkA
    rw [hpb]
    replace hpb := Lib.hid hpb
    go_upto_region 4 with fail
    go_cut [10, 11] (fun _ b wx0 => ∃ wx, wx = wx0 ∧ b = .bool si ∧ Hid (Below wA.heap.size wA wx))
    case first =>
      go_quiet (fail)
      go_wp2_with fail
      go_meet
      exact ⟨_, rfl, rfl, Lib.hid (bdrewN (Below.refl _ _) _)⟩
    case rest =>
    obtain ⟨wx, rfl, rfl, hbx⟩ := hcut
    have hLx := hLA.out.below hbx.out
    have hkx := hkA.out.below hbx.out hkA.out.lt
    have hbX := hbA.out.trans (hbx.out.mono hbA.out.size)
    have hrX := (hr.out.below hbX).more hbX.size
    have hsX := hbX.size
    have hQ : ∀ k w', sendE outs now d S p t L = k → k ≠ 0 → Below w.heap.size w w' → SendPost B w G O M n d now outs S p t L (.returned (.iface 80 (.int .i64 k))) w' := fun k w' h1 h2 hb => .inl ⟨by rw [h1]; exact h2, by rw [h1]; rfl, hb⟩
    replace hQ := Lib.hid hQ
    clear c0 c1 c2 c3 c4 hcp hlk hkl hgl hm hS hiso hLA hkA hrA hbx hbA h
    obtain ⟨c0, c1, c2, c3, c4⟩ := hLx.cells
    have hcp := hkx.cell 0
    replace hcp : wx.cell? ⟨pb, 0, none⟩ = some (.int .i64 p) := hcp
    have hgl := hLx.blk.lt
    have hkl := hkx.lt
    replace hLx := Lib.hid hLx
    replace hkx := Lib.hid hkx
    replace hbX := Lib.hid hbX
    replace hrX := Lib.hid hrX
    by_cases h1 : t < now
    · have es : sendE outs now d S p t L = 7 := by rw [e0.out, if_pos h1]
      replace es := Lib.hid es
      go_wp2_with fail
      go_ret
      exact hQ.out 7 _ es.out (by omega) hbX.out
    have w1 : IntKind.i64.wrap (t - now) = t - now := IntWalk.i64_in _ (by omega)
    by_cases h2 : d < t - now
    · have es : sendE outs now d S p t L = 1 := by rw [e0.out, if_neg h1, if_pos h2]
      replace es := Lib.hid es
      go_wp2_with fail
      go_quiet (fail)
      go_wp2_with fail
      go_ret
      exact hQ.out 1 _ es.out (by omega) (bdrewN hbX.out _)
    cases si with
    | true =>
      have es : sendE outs now d S p t L = 8 := by rw [e0.out, if_neg h1, if_neg h2, if_pos hsi.out]
      replace es := Lib.hid es
      go_wp2_with fail
      go_quiet (fail)
      go_wp2_with fail
      go_ret
      exact hQ.out 8 _ es.out (by omega) (bdrewN hbX.out _)
    | false =>
    have e3 : sendE outs now d S p t L = if ordsE L ≠ 0 then ordsE L else if anyNe L p = true then 3 else 0 := by rw [e0.out, if_neg h1, if_neg h2, if_neg (by rw [hsi.out]; simp)]
    replace e3 := Lib.hid e3
    go_upto_region 7 with fail
    go_cut [38] (fun b wx0 => ∃ wz, wz = wx0 ∧ b = .bool false ∧ Hid (Below wx.heap.size wx wz))
    case first =>
      go_quiet (fail)
      go_wp2_with fail
      go_meet
      exact ⟨_, rfl, rfl, Lib.hid (bdrewN (Below.refl _ _) _)⟩
    case rest =>
    obtain ⟨wz, rfl, rfl, hbz⟩ := hcut
    have hLz := hLx.out.below hbz.out
    have hkz := hkx.out.below hbz.out hkx.out.lt
    have hbZ := hbX.out.trans (hbz.out.mono hbX.out.size)
    have hrZ := (hr.out.below hbZ)
    have hsZ := hbZ.size
    have hck := ocheck_any A c w.heap.size L wz hrZ hsZ (by omega)
    clear c0 c1 c2 c3 c4 hcp hgl hkl hbz hLx hkx hbX hrX hsX e0 w1
    replace hLz := Lib.hid hLz
    replace hkz := Lib.hid hkz
    replace hbZ := Lib.hid hbZ
    replace hrZ := Lib.hid hrZ
    by_cases h3 : ordsE L ≠ 0
    · have es : sendE outs now d S p t L = ordsE L := by rw [e3.out, if_pos h3]
      have ev : oErr (ordsE L) = .iface 80 (.int .i64 (ordsE L)) := by unfold oErr; rw [if_neg h3]
      rw [ev] at hck
      replace es := Lib.hid es
      replace h3 := Lib.hid h3
      replace hck := Lib.hid hck
      clear ev
      go_wp2_with fail
      refine hck.out.mono ?_
      rintro e w5 ⟨rfl, hb5⟩
      have hb6 := hbZ.out.trans (hb5.mono hsZ)
      replace hb6 := Lib.hid hb6
      go_wp2_with fail
      go_ret
      exact hQ.out _ _ es.out h3.out hb6.out
    have h30 : ordsE L = 0 := Classical.byContradiction h3
    rw [show oErr (ordsE L) = .nilIface by rw [h30]; rfl] at hck
    replace hck := Lib.hid hck
    replace h3 := Lib.hid h3
    replace h30 := Lib.hid h30
    go_wp2_with fail
    refine hck.out.mono ?_
    clear hck
    rintro e w5 ⟨rfl, hb5⟩
    have hL5 := hLz.out.below hb5
    have hk5 := hkz.out.below hb5 hkz.out.lt
    have hb6 := hbZ.out.trans (hb5.mono hsZ)
    have hr5 := hr.out.below hb6
    have hs5 := hb6.size
    have hct := ctnO_any A c w.heap.size pb p L w5 hr5 hs5 hl (hk5.cell 0) hk5.lt
    replace hL5 := Lib.hid hL5
    replace hk5 := Lib.hid hk5
    replace hb6 := Lib.hid hb6
    clear hb5 hLz hkz hbZ hrZ hsZ hr5
    cases han : anyNe L p with
    | true =>
      rw [han] at hct
      have es : sendE outs now d S p t L = 3 := by rw [e3.out, if_neg h3.out, if_pos han]
      replace es := Lib.hid es
      replace hct := Lib.hid hct
      replace han := Lib.hid han
      go_wp2_with fail
      refine hct.out.mono ?_
      rintro e w7 ⟨rfl, hb7⟩
      have hb8 := hb6.out.trans (hb7.mono hs5)
      replace hb8 := Lib.hid hb8
      go_wp2_with fail
      go_ret
      exact hQ.out 3 _ es.out (by omega) hb8.out
    | false =>
      rw [han] at hct
      have es : sendE outs now d S p t L = 0 := by rw [e3.out, if_neg h3.out, if_neg (by rw [han]; simp)]
      replace es := Lib.hid es
      replace hct := Lib.hid hct
      replace han := Lib.hid han
      go_wp2_with fail
      refine hct.out.mono ?_
      rintro e w7 ⟨rfl, hb7⟩
      have hL7 := hL5.out.below hb7
      have hk7 := hk5.out.below hb7 hk5.out.lt
      have hb8 := hb6.out.trans (hb7.mono hs5)
      have hs8 := hb8.size
      have hcells : ∀ w', Below w7.heap.size w7 w' → w'.cell? ⟨G, 4, none⟩ = some (.map (some M)) ∧ w'.cell? ⟨pb, 0, none⟩ = some (.int .i64 p) := fun w' hb' => ⟨(hL7.below hb').cells.2.2.2.2, (hk7.below hb' hk7.lt).cell 0⟩
      have hcl : ∀ W, Below w7.heap.size w7 W → Calls Tryd.prog 44 #[.slice A L.length c] W fun e w' => ∃ A8 c8 w9, e = .returned (.slice A8 L.length c8) ∧ Below w7.heap.size w7 w' ∧ (Instr.mapUpdate 88 (.map (some M)) (plV p t) (.slice A8 L.length c8)).run Tryd.prog w' = .ok () w9 ∧ LK B w9 G O M (n + 1) d now outs (putS S p t L) ∧ LEff w w9 G O M ∧ w9.cell? ⟨G, 4, none⟩ = some (.map (some M)) ∧ w9.cell? ⟨pb, 0, none⟩ = some (.int .i64 p) := fun W hbW =>
        (cloneO_any A L.length c w.heap.size L W rfl hnil.out (Nat.le_trans hs8 hbW.size) (hr.out.below (hb8.trans (hbW.mono hs8))) (by omega)).mono fun e w' ⟨v, he, ho, hb⟩ => by
          obtain ⟨A8, c8, rfl, _⟩ := own_slice ho
          have hb9 := hbW.trans (hb.mono hbW.size)
          have hL9 := hL7.below hb9
          obtain ⟨w9, hput, hLp, hg⟩ := hL9.put (p := p) (t := t) hp6 ht hn (A := A8) (c := c8) (L := L) (RD.of_own ho) (own_roomC ho).2 (kept_own ho)
          obtain ⟨V9, hm9, _⟩ := hL9.mp
          have hk9 := (hk7.below hb9 hk7.lt)
          have hpm : pb ≠ M := hm9.ne hk9
          have hk10 := hk9.grown hg (fun e => hpm (by injection e))
          exact ⟨A8, c8, w9, he, hb9, hput, hLp, (LEff.of_below (hb8.trans (hb9.mono hs8))).map hg, hLp.cells.2.2.2.2, hk10.cell 0⟩
      have hgl := hL7.blk.lt
      have hkl := hk7.lt
      obtain ⟨q4, qp⟩ := hcells w7 (Below.refl _ _)
      replace hcells := Lib.hid hcells
      replace hcl := Lib.hid hcl
      replace hL7 := Lib.hid hL7
      replace hk7 := Lib.hid hk7
      replace hb8 := Lib.hid hb8
      clear hL5 hk5 hb6 hb7 hct
      go_upto_region 16 with fail
      go_region_held3 (fun wz => wz.cell? ⟨G, 4, none⟩ = some (.map (some M)) ∧ wz.cell? ⟨pb, 0, none⟩ = some (.int .i64 p)) (first | exact hS9 | exact hcells.out _ hK1 | exact hcells.out _ (by repeat (first | exact Below.refl _ _ | apply Below.drawK | refine Below.alloc ?_ (by first | omega | (simp; omega)) _))) ((go_at_call 44; refine (hcl.out _ (by repeat (first | exact Below.refl _ _ | apply Below.drawK | refine Below.alloc ?_ (by first | omega | (simp; omega)) _))).mono ?_; rintro e w8 ⟨A8, c8, w9, rfl, hK1, hput, hLp, hEp, hS9⟩))
      replace hLp := Lib.hid hLp
      replace hEp := Lib.hid hEp
      have hF : SendPost B w G O M n d now outs S p t L (.returned .nilIface) w9 := .inr ⟨es.out, rfl, hLp.out, hEp.out⟩
      replace hF := Lib.hid hF
      clear hS9 hK1 hput q4 qp
      go_wp2_with fail
      go_ret
      exact hF.out
end
end Go.Proofs.YtkgdflecepockaaDoor
