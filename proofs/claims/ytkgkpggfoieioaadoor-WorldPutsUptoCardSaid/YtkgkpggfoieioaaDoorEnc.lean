import Derived.Test.YtkgkpggfoieioaaDoorMrgb
import Derived.Test.YtkgkpggfoieioaaDoorNum
namespace Go.Proofs.YtkgkpggfoieioaaDoor
set_option linter.unusedVariables false
open Go.RowKit
/-- While a world is written: the bytes' box behind r0, the bytes behind that; and the blocks that stay. -/
structure EB (w0 : World) (r0 : Nat) (cs : List (Nat × TypeId × Array Value)) (bs : List Int) (m : Nat) (w : World) : Prop where
  wb : ∀ p ∈ cs, Blk w p.1 p.2.1 p.2.2 ∧ p.1 ≠ r0 + 1
  ex : ∃ A c, Blk w (r0 + 1) 65 #[.slice A bs.length c] ∧ w.ownsRow (r0 + 2) 5 1 (.slice A bs.length c) bs.length (bs.map (.int .u8)) ∧ ∀ p ∈ cs, (Value.slice A bs.length c).ownBlock ≠ some p.1
  bel : Below r0 w0 w
  sz : r0 + 2 ≤ w.heap.size
  lim : bs.length ≤ m
/-- A list's block is none of those that are written. -/
def Aw (w : World) (r0 : Nat) (A : Option Addr) : Prop := ∀ b o, A = some ⟨b, o, none⟩ → b < w.heap.size ∧ b ≠ r0 + 1 ∧ ∀ v, Blk w (r0 + 1) 65 #[v] → v.ownBlock ≠ some b
set_option maxHeartbeats 1600000 in
set_option maxRecDepth 100000 in
theorem put_any {w0 : World} {r0 : Nat} {cs : List (Nat × TypeId × Array Value)} {bs : List Int} {m : Nat} (A : Option Addr) (c D : Nat) (l : List Int) (w : World) (h : EB w0 r0 cs bs m w) (hr : RD w D 1 A l.length (l.map (.int .i64)))
    (hA : 0 < l.length → Aw w r0 A) (hI : ∀ x ∈ l, I64 x) (hm : m + 10 * l.length ≤ 1000000000) :
    Calls Tryd.prog 92 #[.slice A l.length c, .pointer (some ⟨r0 + 1, 0, none⟩)] w fun e w' => e = .returned (.tuple #[]) ∧ EB w0 r0 cs (bs ++ l.flatMap numL) (m + 10 * l.length) w' := by
  have H := Lib.hid h
  have HR := Lib.hid hr
  have HA := Lib.hid hA
  have HI := Lib.hid hI
  clear h hr hA hI
  go_enter Tryd.func92, Tryd.ntmps92
  go_wp2_with fail
  go_loopw [4, 7] (fun _ vi wr => ∃ k : Nat, vi = .int .i64 k ∧ k ≤ l.length ∧ Hid (EB w0 r0 cs (bs ++ (l.take k).flatMap numL) (m + 10 * k) wr) ∧ Hid (RD wr D 1 A l.length (l.map (.int .i64))) ∧ Hid (0 < l.length → Aw wr r0 A)) (fun _ vi _ => l.length - (intOf vi).toNat)
  case atStart => exact ⟨0, rfl, Nat.zero_le _, Lib.hid (by simpa using H.out), HR, HA⟩
  case round =>
    obtain ⟨k, rfl, hk, hE, hR, hAw⟩ := hrel
    by_cases hlt : k < l.length
    · have j1 : (k : Int) < (l.length : Int) := by omega
      obtain ⟨b, o, hb1, hbD, hcs⟩ := hR.out.2 (by omega)
      have hcell := hcs k (by omega)
      rw [List.getElem?_map, List.getElem?_eq_getElem hlt, Option.map_some] at hcell
      have hx := HI.out l[k] (List.getElem_mem hlt)
      have htk : (l.take (k + 1)).flatMap numL = (l.take k).flatMap numL ++ numL l[k] := by rw [List.take_succ_eq_append_getElem hlt, List.flatMap_append]; simp
      generalize l[k] = x at *
      subst hb1
      obtain ⟨hbl, hbn, hbo⟩ := hAw.out (by omega) b o rfl
      obtain ⟨Ab, cb, hBx, hown, hks⟩ := hE.out.ex
      replace hks := Lib.hid hks
      have hbo2 := hbo _ hBx
      have hlim := hE.out.lim
      have hsz := hE.out.sz
      have c0 := hBx.cell 0
      have f0 := hBx.frozen 0
      have hlb := hBx.lt
      replace htk := Lib.hid htk
      replace hbo := Lib.hid hbo
      replace hBx := Lib.hid hBx
      replace hcs := Lib.hid hcs
      generalize hbb : bs ++ (l.take k).flatMap numL = bk at *
      replace hbb := Lib.hid hbb
      replace hown := Lib.hid hown
      unfold I64 at hx
      go_wp2_with fail
      refine (num_any (r0 + 2) (.slice Ab bk.length cb) bk.length _ x wr hown.out hsz (by omega) hx).mono ?_
      rintro e W2 ⟨v', rfl, ho2, hg2, hat⟩
      have hnl := numL_len x hx
      obtain ⟨A2, c2, rfl, _⟩ := own_slice ho2
      have hlt2 : ∀ q, (Value.slice Ab bk.length cb).ownBlock = some q → r0 + 2 ≤ q ∧ q < wr.heap.size := fun q e => hown.out.lt q e
      have hB2 := hBx.out.grown hg2 (fun e => by have := (hlt2 _ e.symm).1; omega)
      have hW2 : ∀ p ∈ cs, Blk W2 p.1 p.2.1 p.2.2 ∧ p.1 ≠ r0 + 1 := fun p hp => ⟨(hE.out.wb p hp).1.grown hg2 (fun e => hks.out p hp e.symm), (hE.out.wb p hp).2⟩
      have hk2 : ∀ p ∈ cs, (Value.slice A2 (bk.length + (numL x).length) c2).ownBlock ≠ some p.1 := fun p hp => by
        have h1 := (hE.out.wb p hp).1.lt
        rcases hat with e | ⟨q, e, hq⟩
        · rw [e]; exact hks.out p hp
        · rw [e]; intro e; injection e; omega
      have hb2 := hE.out.bel.grown hg2 (by omega) (fun q e => by have := (hlt2 _ e).1; omega)
      have hs2 := hg2.size
      have hR2 : RD W2 D 1 (some ⟨b, o, none⟩) l.length (l.map (.int .i64)) := ⟨hR.out.1, fun _ => ⟨b, o, rfl, hbD, fun j hj => (World.cell?_of_block (w := wr) (hg2.block b hbl (fun e => hbo2 e.symm))).trans (hcs.out j hj)⟩⟩
      have hne : (Value.slice A2 (bk.length + (numL x).length) c2).ownBlock ≠ some b := by
        rcases hat with e | ⟨q, e, hq⟩
        · rw [e]; exact hbo2
        · rw [e]; intro e; injection e; omega
      have c1 := hB2.cell 0
      have f1 := hB2.frozen 0
      have hl1 := hB2.lt
      clear c0 f0 hlb hg2 hat
      replace ho2 := Lib.hid ho2
      replace hB2 := Lib.hid hB2
      replace hW2 := Lib.hid hW2
      replace hb2 := Lib.hid hb2
      replace hR2 := Lib.hid hR2
      replace hne := Lib.hid hne
      replace hk2 := Lib.hid hk2
      replace hlt2 := Lib.hid hlt2
      go_wp2_with fail
      have hE3 : EB w0 r0 cs (bs ++ (l.take (k + 1)).flatMap numL) (m + 10 * (k + 1)) (W2.setCell ⟨r0 + 1, 0, none⟩ (.slice A2 (bk.length + (numL x).length) c2)) := by
        have e1 : bs ++ (l.take (k + 1)).flatMap numL = bk ++ numL x := by rw [htk.out, ← List.append_assoc, hbb.out]
        have e2 : (bk ++ numL x).length = bk.length + (numL x).length := List.length_append
        rw [e1]
        refine ⟨fun p hp => ⟨(hW2.out p hp).1.far (p := ⟨r0 + 1, 0, none⟩) (hW2.out p hp).2 _, (hW2.out p hp).2⟩, ⟨A2, c2, ?_, ?_, ?_⟩, hb2.out.setCell (p := ⟨r0 + 1, 0, none⟩) (by show r0 ≤ r0 + 1; omega) _, by simp; omega, by rw [e2]; omega⟩
        · rw [e2]; exact hB2.out.set_ 0 _
        · rw [e2, List.map_append]
          refine ho2.out.kept (grownBy_set W2 (r0 + 1) 0 _) ?_
          cases hv : (Value.slice A2 (bk.length + (numL x).length) c2).ownBlock with
          | none => exact .inl rfl
          | some q => exact .inr (fun e => by injection e with e; have := (ho2.out.lt q hv).1; omega)
        · rw [e2]; exact hk2.out
      have hR3 : RD (W2.setCell ⟨r0 + 1, 0, none⟩ (.slice A2 (bk.length + (numL x).length) c2)) D 1 (some ⟨b, o, none⟩) l.length (l.map (.int .i64)) :=
        ⟨hR2.out.1, fun hp => by
          obtain ⟨b', o', e, hd, hc⟩ := hR2.out.2 hp
          injection e with e
          injection e with e1 e2
          subst e1; subst e2
          exact ⟨b, o, rfl, hd, fun j hj => (World.cell?_setCell_other W2 _ _ _ (by intro h; injection h with h1; exact hbn h1.symm)).trans (hc j hj)⟩⟩
      have hA3 : Aw (W2.setCell ⟨r0 + 1, 0, none⟩ (.slice A2 (bk.length + (numL x).length) c2)) r0 (some ⟨b, o, none⟩) := fun b' o' e => by
        injection e with e
        injection e with e1 e2
        subst e1
        refine ⟨by simp; omega, hbn, fun v hv => ?_⟩
        have := (hB2.out.set_ 0 (.slice A2 (bk.length + (numL x).length) c2)).cell 0
        rw [hv.cell 0] at this
        have h3 : v = .slice A2 (bk.length + (numL x).length) c2 := by simpa using this
        rw [h3]; exact hne.out
      replace hE3 := Lib.hid hE3
      replace hR3 := Lib.hid hR3
      replace hA3 := Lib.hid hA3
      go_roundw
      case rel => exact ⟨k + 1, by go_num, by omega, hE3, hR3, Lib.hid (fun _ => hA3.out)⟩
      case measure => simp [intOf]; omega
    · have j1 : ¬ (k : Int) < (l.length : Int) := by omega
      have hfin : EB w0 r0 cs (bs ++ l.flatMap numL) (m + 10 * l.length) wr := by
        have := hE.out
        rwa [show k = l.length by omega, List.take_of_length_le (Nat.le_refl _)] at this
      replace hfin := Lib.hid hfin
      go_wp2_with fail
      go_end0
      exact ⟨rfl, hfin.out⟩
section
variable {w0 w : World} {r0 : Nat} {cs : List (Nat × TypeId × Array Value)} {bs : List Int} {m : Nat}
theorem EB.alloc (h : EB w0 r0 cs bs m w) (o : Obj) : EB w0 r0 cs bs m (w.alloc o) := by
  obtain ⟨A, c, h1, h2, h3⟩ := h.ex
  have hz := h.sz
  exact ⟨fun p hp => ⟨(h.wb p hp).1.alloc o, (h.wb p hp).2⟩, ⟨A, c, h1.alloc o, h2.alloc o, h3⟩, h.bel.alloc (by omega) o, by simp; omega, h.lim⟩
/-- A block that was just laid may be kept. -/
theorem EB.keep (h : EB w0 r0 cs bs m w) (t : TypeId) (xs : Array Value) : EB w0 r0 ((w.heap.size, t, xs) :: cs) bs m (w.alloc (.cells xs t)) := by
  obtain ⟨A, c, h1, h2, h3⟩ := h.ex
  have hz := h.sz
  refine ⟨fun p hp => ?_, ⟨A, c, h1.alloc _, h2.alloc _, fun p hp => ?_⟩, h.bel.alloc (by omega) _, by simp; omega, h.lim⟩
  · rcases List.mem_cons.1 hp with rfl | hp
    · exact ⟨Blk.new w t xs, by show w.heap.size ≠ r0 + 1; omega⟩
    · exact ⟨(h.wb p hp).1.alloc _, (h.wb p hp).2⟩
  · rcases List.mem_cons.1 hp with rfl | hp
    · intro e
      have := (h2.lt _ e).2
      exact absurd this (Nat.lt_irrefl _)
    · exact h3 p hp
theorem EB.drop {p : Nat × TypeId × Array Value} (h : EB w0 r0 (p :: cs) bs m w) : EB w0 r0 cs bs m w := by
  obtain ⟨A, c, h1, h2, h3⟩ := h.ex
  exact ⟨fun q hq => h.wb q (List.mem_cons_of_mem _ hq), ⟨A, c, h1, h2, fun q hq => h3 q (List.mem_cons_of_mem _ hq)⟩, h.bel, h.sz, h.lim⟩
/-- Numbers in a row that was just made are written. -/
theorem put_temp (h : EB w0 r0 cs bs m w) (xs : List Int) (hI : ∀ x ∈ xs, I64 x) (hm : m + 10 * xs.length ≤ 1000000000) :
    Calls Tryd.prog 92 #[.slice (some ⟨w.heap.size, 0, none⟩) xs.length xs.length, .pointer (some ⟨r0 + 1, 0, none⟩)] (w.alloc (.cells (xs.map (.int .i64)).toArray 3)) fun e w' => e = .returned (.tuple #[]) ∧ EB w0 r0 cs (bs ++ xs.flatMap numL) (m + 10 * xs.length) w' := by
  obtain ⟨A, c, h1, h2, h3⟩ := h.ex
  have hz := h.sz
  refine put_any (some ⟨w.heap.size, 0, none⟩) xs.length (w.alloc (.cells (xs.map (.int .i64)).toArray 3)).heap.size xs _ (h.alloc _) ?_ (fun _ => ?_) hI hm
  · exact ⟨by simp, fun _ => ⟨w.heap.size, 0, rfl, by simp, fun j hj => by rw [Nat.zero_add, (Blk.new w _ _).cell j, List.getElem?_toArray]⟩⟩
  · intro b o e
    injection e with e
    injection e with e1 e2
    subst e1
    refine ⟨by simp, by omega, fun v hv => ?_⟩
    have := (h1.alloc (.cells (xs.map (Value.int .i64)).toArray 3)).cell 0
    rw [hv.cell 0] at this
    have h5 : v = .slice A bs.length c := by simpa using this
    rw [h5]
    intro e
    have := (h2.lt _ e).2
    exact absurd this (Nat.lt_irrefl _)
/-- A list that came in is written. -/
theorem put_list (h : EB w0 r0 cs bs m w) (hr0 : r0 = w0.heap.size) (A : Option Addr) (c : Nat) (l : List Int) (hr : RD w0 w0.heap.size 1 A l.length (l.map (.int .i64))) (hI : ∀ x ∈ l, I64 x) (hm : m + 10 * l.length ≤ 1000000000) :
    Calls Tryd.prog 92 #[.slice A l.length c, .pointer (some ⟨r0 + 1, 0, none⟩)] w fun e w' => e = .returned (.tuple #[]) ∧ EB w0 r0 cs (bs ++ l.flatMap numL) (m + 10 * l.length) w' := by
  obtain ⟨A', c', h1, h2, h3⟩ := h.ex
  have hz := h.sz
  subst hr0
  refine put_any A c w0.heap.size l w h (RD.below hr h.bel) (fun hp => ?_) hI hm
  intro b o e
  obtain ⟨b', o', e', hlt, _⟩ := hr.2 hp
  rw [e] at e'
  injection e' with e'
  injection e' with e1 e2
  subst e1
  refine ⟨by omega, by omega, fun v hv => ?_⟩
  have := h1.cell 0
  rw [hv.cell 0] at this
  have h5 : v = .slice A' bs.length c' := by simpa using this
  rw [h5]
  intro e
  have := (h2.lt _ e).1
  omega
end
end Go.Proofs.YtkgkpggfoieioaaDoor
