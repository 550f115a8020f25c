import Derived.Test.YtkgdflecepockaaLockM
import Derived.Test.YtkgdflecepockaaLockB
import Derived.Test.YtkgdflecepockaaOpenT
import Derived.Test.YtkgdflecepockaaLockDropsW
import Derived.Test.YtkgdflecepockaaPlainOL
namespace Go.Proofs.Ytkgdflecepockaa
set_option linter.unusedVariables false
open Go.RowKit
def turnL (rows : List RW) (t : Nat) : List Od := (rows.map RW.L).getD t []
/-- What the second lock holds: of both players, all from turn t to the one ahead of s. -/
def SbF (rows : List RW) (t s : Nat) : Int → Int → Option (List Od) := fun p t' => if (p = 0 ∨ p = 1) ∧ (t : Int) ≤ t' ∧ t' < s then some (mineL (turnL rows t'.toNat) p) else none
theorem SbF_0 (rows : List RW) (t : Nat) : SbF rows t t = noS := by
  funext p t'; unfold SbF; rw [if_neg (by omega)]; rfl
theorem SbF_put (rows : List RW) (t s : Nat) (h : t ≤ s) : putS (putS (SbF rows t s) 1 s (mineL (turnL rows s) 1)) 0 s (mineL (turnL rows s) 0) = SbF rows t (s + 1) := by
  funext p t'
  unfold putS SbF
  by_cases e : t' = (s : Int)
  · subst e
    rcases (by omega : p = 0 ∨ p = 1 ∨ (p ≠ 0 ∧ p ≠ 1)) with rfl | rfl | ⟨h1, h2⟩
    · rw [if_pos ⟨rfl, rfl⟩, if_pos (by omega)]; simp
    · rw [if_neg (by omega), if_pos ⟨rfl, rfl⟩, if_pos (by omega)]; simp
    · rw [if_neg (by omega), if_neg (by omega), if_neg (by omega), if_neg (by omega)]
  · rw [if_neg (by omega), if_neg (by omega)]
    by_cases h2 : (p = 0 ∨ p = 1) ∧ (t : Int) ≤ t' ∧ t' < s
    · rw [if_pos h2, if_pos (by omega)]
    · rw [if_neg h2, if_neg (by omega)]
theorem SbF_gone (rows : List RW) (t s : Nat) (h : t < s) : gone (SbF rows t s) t 2 = SbF rows (t + 1) s := by
  funext p t'
  unfold gone SbF
  by_cases h1 : t' = (t : Int) ∧ 0 ≤ p ∧ p < (2 : Nat)
  · rw [if_pos h1, if_neg (by omega)]
  · rw [if_neg h1]
    by_cases h2 : (p = 0 ∨ p = 1) ∧ (t : Int) ≤ t' ∧ t' < s
    · rw [if_pos h2, if_pos (by omega)]
    · rw [if_neg h2, if_neg (by omega)]
theorem put_gone (t : Nat) (a b : List Od) : gone (putS (putS noS 0 t a) 1 t b) t 2 = noS := by
  funext p t'
  unfold gone putS noS
  by_cases h1 : t' = (t : Int) ∧ 0 ≤ p ∧ p < (2 : Nat)
  · rw [if_pos h1]
  · rw [if_neg h1, if_neg (by omega), if_neg (by omega)]
theorem SbF_at (rows : List RW) (t s : Nat) (h : t < s) (p : Int) (hp : p = 0 ∨ p = 1) : SbF rows t s p t = some (mineL (turnL rows t) p) := by
  unfold SbF; rw [if_pos (by omega)]; simp
theorem put_at0 (t : Nat) (a b : List Od) : putS (putS noS 0 t a) 1 t b 0 t = some a := by
  unfold putS; rw [if_neg (by omega), if_pos ⟨rfl, rfl⟩]
theorem put_at1 (t : Nat) (a b : List Od) : putS (putS noS 0 t a) 1 t b 1 t = some b := by
  unfold putS; rw [if_pos ⟨rfl, rfl⟩]
theorem wait_2 (S : Int → Int → Option (List Od)) (t : Int) (a b : List Od) (h0 : S 0 t = some a) (h1 : S 1 t = some b) : waitL [false, false] S t 2 = [] ∧ gotL S t 2 = a ++ b := by
  refine ⟨?_, ?_⟩
  · simp [waitL, h0, h1]
  · simp [gotL, h0, h1]
section
variable {w w' : World} {G O M B n : Nat} {d now : Int} {outs : List Bool} {S : Int → Int → Option (List Od)}
/-- Another lock's method. -/
theorem LK.eff (h : LK B w G O M n d now outs S) {B' G' O' M' n' : Nat} {d' now' : Int} {outs' : List Bool} {S' : Int → Int → Option (List Od)} (h' : LK B' w G' O' M' n' d' now' outs' S') (ap : G ≠ G' ∧ O ≠ O' ∧ M ≠ M') (he : LEff w w' G' O' M') : LK B w' G O M n d now outs S := by
  obtain ⟨V, hm, _⟩ := h.mp
  obtain ⟨V', hm', _⟩ := h'.mp
  have k1 : G ≠ O' := h.blk.ne_ h'.ob (by decide)
  have k2 : O ≠ G' := h.ob.ne_ h'.blk (by decide)
  have k3 : G ≠ M' := hm'.ne h.blk
  have k4 : O ≠ M' := hm'.ne h.ob
  have k5 : M ≠ G' := fun e => hm.ne h'.blk e.symm
  have k6 : M ≠ O' := fun e => hm.ne h'.ob e.symm
  refine h.far he.size (he.block _ h.blk.lt ap.1 k1 k3) (he.block _ h.ob.lt k2 ap.2.1 k4) (he.block _ h.mlt k5 k6 ap.2.2) (fun b cs m hc => ?_)
  obtain ⟨q1, q2, q3⟩ := h'.apart hc
  refine he.block b ?_ q1 q2 q3
  rcases Nat.lt_or_ge b w.heap.size with h | h
  · exact h
  · rw [Array.getElem?_eq_none h] at hc; cases hc
end
theorem LK.blkFar {w w' : World} {G O M B n : Nat} {d now : Int} {outs : List Bool} {S : Int → Int → Option (List Od)} (h : LK B w G O M n d now outs S) (he : LEff w w' G O M) {g : Nat} {cs : Array Value} (hk : Blk w g 41 cs) : Blk w' g 41 cs := by
  obtain ⟨V, hm, _⟩ := h.mp
  exact (he.block g hk.lt (hk.ne_ h.blk (by decide)) (hk.ne_ h.ob (by decide)) (hm.ne hk)).trans hk
theorem turnL_get (rows : List RW) (t : Nat) (h : t < rows.length) : (rows.map RW.L)[t]? = some (turnL rows t) := by
  unfold turnL
  rw [List.getD_eq_getElem?_getD, List.getElem?_map, List.getElem?_eq_getElem h]; rfl
theorem turnL_len (rows : List RW) (t : Nat) (hl : ∀ r ∈ rows, r.L.length ≤ 1000000000) : (turnL rows t).length ≤ 1000000000 := by
  unfold turnL
  rw [List.getD_eq_getElem?_getD, List.getElem?_map]
  rcases Nat.lt_or_ge t rows.length with h | h
  · rw [List.getElem?_eq_getElem h]; exact hl _ (List.getElem_mem h)
  · rw [List.getElem?_eq_none h]; simp
theorem mine_len (rows : List RW) (t : Nat) (p : Int) (hl : ∀ r ∈ rows, r.L.length ≤ 1000000000) : (mineL (turnL rows t) p).length ≤ 1000000000 := Nat.le_trans (List.length_filter_le _ _) (turnL_len rows t hl)
theorem sendE_0 {outs : List Bool} {now d : Int} {S : Int → Int → Option (List Od)} {p t : Int} {L : List Od} (h : sendE outs now d S p t L = 0) : ordsE L = 0 := by
  unfold sendE at h
  by_cases h1 : plE outs p ≠ 0
  · rw [if_pos h1] at h; exact absurd h h1
  rw [if_neg h1] at h
  by_cases h2 : t < now
  · rw [if_pos h2] at h; omega
  rw [if_neg h2] at h
  by_cases h3 : d < t - now
  · rw [if_pos h3] at h; omega
  rw [if_neg h3] at h
  by_cases h4 : (S p t).isSome = true
  · rw [if_pos h4] at h; omega
  rw [if_neg h4] at h
  by_cases h5 : ordsE L ≠ 0
  · rw [if_pos h5] at h; exact absurd h h5
  · exact Classical.byContradiction h5
theorem _root_.Go.Proofs.Ytkgdflecepockaa.LK.ownEff {w w' : World} {B G O M n : Nat} {d now : Int} {outs : List Bool} {S : Int → Int → Option (List Od)} (h : LK B w G O M n d now outs S) {b m : Nat} {v : Value} {xs : List Value} (ho : w.ownsRow b 28 4 v m xs) (hE : LEff w w' G O M) : w'.ownsRow b 28 4 v m xs := by
  have hap := h.ownApart ho
  rcases ho.2 with ⟨hv, hn⟩ | ⟨g, cap, cur, hv, k1, k2, k3⟩
  · exact ⟨ho.1, .inl ⟨hv, hn⟩⟩
  · subst hv
    have hlt := (ho.lt g rfl).2
    refine ⟨ho.1, .inr ⟨g, cap, cur, rfl, k1, ?_, k3⟩⟩
    rw [hE.block g hlt (fun e => hap.1 (by rw [e]; rfl)) (fun e => hap.2.1 (by rw [e]; rfl)) (fun e => hap.2.2 (by rw [e]; rfl))]
    exact k2
def oneO : List Od := [⟨0, 3, 0, 0⟩]
theorem oneO_last {R : List Od} (h : IsLast oneO R) : R = oneO := by
  refine h.unique ⟨[0], by simp, fun i => ?_, rfl⟩
  unfold Keep
  constructor
  · intro hi
    obtain rfl : i = 0 := by simpa using hi
    exact ⟨by decide, .inr fun j h1 h2 => by simp [oneO] at h2; omega⟩
  · rintro ⟨h1, _⟩
    have : i < 1 := h1
    simp; omega
theorem one_send : sendE [false] 0 0 noS 0 0 oneO = 0 := by decide
theorem one_wait : waitL [false] (putS noS 0 0 oneO) 0 1 = [] ∧ gotL (putS noS 0 0 oneO) 0 1 = oneO ∧ ordsE oneO = 0 := by decide
set_option maxHeartbeats 6400000 in
set_option maxRecDepth 100000 in
theorem alike_in (TA : Option Addr) (tc : Nat) (rows : List RW) (d : Int) (w : World) (h : TOks w TA tc rows) (hd6 : I6 d) (hn : rows.length ≤ 1000000000) (hl : ∀ r ∈ rows, r.L.length ≤ 1000000000) :
    Calls Try.prog 5 #[.slice TA rows.length tc, .int .i64 d] w fun e w' => e = .returned (.bool true) ∧ Below w.heap.size w w' := by
  obtain ⟨hrd, htn, hlc, hcm, hrows⟩ := h
  have hok : ∀ r ∈ rows, r.ok w w.heap.size := fun r hr => (hrows r hr).1
  clear hrows hlc hcm htn
  have hb0 : Below w.heap.size w (w.alloc (.cells #[.slice TA rows.length tc] 41)) := (Below.refl _ _).alloc (Nat.le_refl _) _
  have hkt := Blk.new w 41 #[.slice TA rows.length tc]
  have hs0 := hb0.size
  unfold I6 at hd6
  replace hrd := Lib.hid hrd
  replace hok := Lib.hid hok
  replace hl := Lib.hid hl
  replace hkt := Lib.hid hkt
  replace hb0 := Lib.hid hb0
  go_enter Try.func5, Try.ntmps5
  go_wp2_with fail
  obtain ⟨tb, htb⟩ : ∃ tb, w.heap.size = tb := ⟨_, rfl⟩
  generalize (w.alloc (.cells #[.slice TA rows.length tc] 41)) = w0 at *
  rw [htb]
  rw [htb] at hkt
  replace htb := Lib.hid htb
  refine (lnew_ok 1 0 w0 (by omega) (by omega)).mono ?_
  rintro e w1 ⟨G1, O1, M1, rfl, hL1, hb1⟩
  have hb2 := hb0.out.trans (hb1.mono hs0)
  have hs2 := hb2.size
  replace hL1 : LK w0.heap.size w1 G1 O1 M1 0 0 0 [false] noS := hL1
  have hkt1 := hkt.out.below hb1 hkt.out.lt
  have hr1 := RD.new w1 4 1 #[.int .i64 0, .int .i64 3, .int .i64 0, .int .i64 0] 28 (0, 0) rfl
  have hb3 : Below w1.heap.size w1 (w1.alloc (.cells #[.int .i64 0, .int .i64 3, .int .i64 0, .int .i64 0] 28)) := (Below.refl _ _).alloc (Nat.le_refl _) _
  have hL2 := hL1.below hb3
  have hkt2 := hkt1.below hb3 hkt1.lt
  have hb4 := hb2.trans (hb3.mono hs2)
  have hz2 : (w1.alloc (.cells #[.int .i64 0, .int .i64 3, .int .i64 0, .int .i64 0] 28)).heap.size = w1.heap.size + 1 := by simp
  have hsn := lsend_any (p := 0) (t := 0) (some ⟨w1.heap.size, 0, none⟩) 1 oneO hL2 (by rw [hz2]; exact hr1) (fun e => by cases e) (by decide) (by unfold I6; omega) (by unfold I6; omega) (by omega)
  replace hsn := Lib.hid hsn
  replace hb4 := Lib.hid hb4
  replace hkt2 := Lib.hid hkt2
  replace hL2 := Lib.hid hL2
  clear hL1 hkt hkt1 hr1 hb3 hb2 hb1 hb0 hz2
  go_wp2_with fail
  refine hsn.out.mono ?_
  clear hsn
  rintro e w3 (⟨h1, _, _⟩ | ⟨_, rfl, hL3, hE3⟩)
  · exact absurd one_send h1
  obtain ⟨ow1, ow2, ow3⟩ := one_wait
  have hkt3 := hL2.out.blkFar hE3 hkt2.out
  have hs4 := hb4.out.size
  have hb5 := hb4.out.trans (hE3.below hs4 (by have := hL3.low; omega))
  have hs5 := hb5.size
  have htk := ltake_ok hL3 ow1 (by rw [show [false].length = 1 from rfl, ow2]; decide) (by omega) (by rw [show [false].length = 1 from rfl, ow2]; exact ow3)
  rw [show [false].length = 1 from rfl, ow2] at htk
  replace htk := Lib.hid htk
  replace hL3 := Lib.hid hL3
  replace hb5 := Lib.hid hb5
  replace hkt3 := Lib.hid hkt3
  clear ow1 ow2 ow3 hE3 hL2 hkt2 hb4 hs4
  go_wp2_with fail
  refine htk.out.mono ?_
  clear htk
  rintro e w4 ⟨A4, c4, R, rfl, hI, ho4, hL4, hE4⟩
  obtain rfl := oneO_last hI
  obtain ⟨g4, _, hv4, _⟩ := ho4.form (by decide)
  have hA4 : A4 = some ⟨g4, 0, none⟩ := by injection hv4
  subst hA4
  have k4 := ho4.cellAt 1 (by decide)
  replace k4 : w4.cell? ⟨g4, 1, none⟩ = some (.int .i64 3) := k4
  have hg4 := (ho4.lt g4 rfl).2
  have hkt4 := hL3.out.blkFar hE4 hkt3.out
  have hb6 := hb5.out.trans (hE4.below hs5 (by have := hL3.out.low; omega))
  have hs6 := hb6.size
  replace hb6 := Lib.hid hb6
  replace hkt4 := Lib.hid hkt4
  clear hI ho4 hL4 hE4 hL3 hkt3 hb5 hv4
  rw [show oneO.length = 1 from rfl]
  by_cases hd0 : d < 0
  · have d1 : decide (d < 0) = true := decide_eq_true hd0
    go_wp2_with fail
    go_ret
    exact ⟨rfl, hb6.out⟩
  have d1 : decide (d < 0) = false := decide_eq_false hd0
  by_cases hd1 : 20 < d
  · have d2 : decide (20 < d) = true := decide_eq_true hd1
    go_wp2_with fail
    go_ret
    exact ⟨rfl, hb6.out⟩
  have d2 : decide (20 < d) = false := decide_eq_false hd1
  go_wp2_with fail
  refine (lnew_ok 2 0 w4 (by omega) (by omega)).mono ?_
  rintro e w5 ⟨Ga, Oa, Ma, rfl, hLa, hb7⟩
  replace hLa : LK w4.heap.size w5 Ga Oa Ma 0 0 0 [false, false] noS := hLa
  have hkt5 := hkt4.out.below hb7 hkt4.out.lt
  have hb8 := hb6.out.trans (hb7.mono hs6)
  have hs8 := hb8.size
  replace hLa := Lib.hid hLa
  replace hb8 := Lib.hid hb8
  replace hkt5 := Lib.hid hkt5
  clear hkt4 hb7 k4 hg4
  go_wp2_with fail
  refine (lnew_ok 2 d w5 (by omega) ⟨by omega, by omega⟩).mono ?_
  rintro e w6 ⟨Gb, Ob, Mb, rfl, hLb, hb9⟩
  replace hLb : LK w5.heap.size w6 Gb Ob Mb 0 d 0 [false, false] noS := hLb
  have hap : Gb ≠ Ga ∧ Ob ≠ Oa ∧ Mb ≠ Ma := by
    have l1 := hLa.out.blk.lt
    have l2 := hLa.out.ob.lt
    have l3 := hLa.out.mlt
    have l4 := hLb.low
    exact ⟨by omega, by omega, by omega⟩
  have hLa6 := hLa.out.below hb9
  have hkt6 := hkt5.out.below hb9 hkt5.out.lt
  have hb10 := hb8.out.trans (hb9.mono hs8)
  have hs10 := hb10.size
  have hct := hkt6.cell 0
  replace hct : w6.cell? ⟨tb, 0, none⟩ = some (.slice TA rows.length tc) := hct
  have hlow : w.heap.size ≤ w4.heap.size ∧ w.heap.size ≤ w5.heap.size := ⟨by omega, by omega⟩
  replace hLa6 := Lib.hid hLa6
  replace hLb := Lib.hid hLb
  replace hkt6 := Lib.hid hkt6
  replace hb10 := Lib.hid hb10
  replace hap := Lib.hid hap
  clear hLa hkt5 hb8 hb9
  obtain ⟨K, hK⟩ : ∃ K : Nat, (rows.length ≤ K ∧ K = rows.length ∧ K ≤ 12 ∧ ¬ ((12 : Int) < (rows.length : Int))) ∨ (K = 12 ∧ 12 < rows.length ∧ (12 : Int) < (rows.length : Int)) := by
    rcases Nat.lt_or_ge 12 rows.length with h | h
    · exact ⟨12, .inr ⟨rfl, h, by omega⟩⟩
    · exact ⟨rows.length, .inl ⟨Nat.le_refl _, rfl, h, by omega⟩⟩
  go_upto_if 89 with fail
  go_cut [14] (fun vk wz => w6 = wz ∧ vk = .int .i64 (K : Int))
  case first =>
    rcases hK with ⟨k1, rfl, k3, k4⟩ | ⟨rfl, k2, k3⟩
    · go_wp2_with fail
      go_meet
      exact ⟨rfl, rfl⟩
    · go_wp2_with fail
      go_meet
      exact ⟨rfl, rfl⟩
  case rest =>
  obtain ⟨rfl, rfl⟩ := hcut
  have hKr : K ≤ rows.length := by omega
  have hK12 : K ≤ 12 := by omega
  clear hK
  go_wp2_with fail
  clear hct
  go_loopw [16, 17] (fun vs vt wr => ∃ t s : Nat, vt = .int .i64 t ∧ vs = .int .i64 s ∧ t ≤ K ∧ t ≤ s ∧ s ≤ K ∧ Hid (LK w4.heap.size wr Ga Oa Ma (2 * t) 0 t [false, false] noS) ∧ Hid (LK w5.heap.size wr Gb Ob Mb (2 * s) d t [false, false] (SbF rows t s)) ∧ Hid (Blk wr tb 41 #[.slice TA rows.length tc]) ∧ Hid (Below w.heap.size w wr)) (fun _ vt _ => K - (intOf vt).toNat)
  case atStart => exact ⟨0, 0, rfl, rfl, Nat.zero_le _, Nat.le_refl _, Nat.zero_le _, hLa6, Lib.hid (by rw [SbF_0]; exact hLb.out), hkt6, hb10⟩
  case round =>
    clear hLa6 hLb hkt6 hb10
    obtain ⟨t, s, rfl, rfl, htK, hts, hsK, hLao, hLbo, hkto, hbwo⟩ := hrel
    obtain ⟨wr_o, rfl⟩ : ∃ wr_o : World, wr_o = wr := ⟨_, rfl⟩
    by_cases htl : t < K
    · have i1 : (t : Int) < (K : Int) := by omega
      have htr : t < rows.length := by omega
      go_wp2_with fail
      refine (mine_any tb w.heap.size t rows.length tc 0 TA rows wr_o (hkto.out.cell 0) hkto.out.lt hbwo.out.size (hrd.out.below hbwo.out) rfl (fun r hr => (hok.out r hr).below hbwo.out) htr hn (turnL rows t) (turnL_get rows t htr) (turnL_len rows t hl.out)).mono ?_
      rintro e wo1 ⟨vo1, rfl, hoo1, hbmo1⟩
      obtain ⟨Ao1, co1, rfl, _⟩ := own_slice hoo1
      have hLao1 := hLao.out.below hbmo1
      have hLbo1 := hLbo.out.below hbmo1
      have hkto1 := hkto.out.below hbmo1 hkto.out.lt
      have hbwo1 := hbwo.out.trans (hbmo1.mono hbwo.out.size)
      replace hLao1 := Lib.hid hLao1
      replace hLbo1 := Lib.hid hLbo1
      replace hkto1 := Lib.hid hkto1
      replace hbwo1 := Lib.hid hbwo1
      have hsno1 := lsend_any (p := 0) (t := (t : Int)) Ao1 co1 (mineL (turnL rows t) 0) hLao1.out (RD.of_own hoo1) (own_roomC hoo1).2 (mine_len rows t 0 hl.out) (by unfold I6; omega) (by unfold I6; omega) (by omega)
      replace hsno1 := Lib.hid hsno1
      clear hoo1 hbmo1
      go_wp2_with fail
      refine hsno1.out.mono ?_
      clear hsno1
      rintro e wo2 (⟨_, rfl, hbeo2⟩ | ⟨hzo2, rfl, hLno2, hEo2⟩)
      · have hLao2 := hLao1.out.below hbeo2
        have hLbo2 := hLbo1.out.below hbeo2
        have hkto2 := hkto1.out.below hbeo2 hkto1.out.lt
        have hbwo2 := hbwo1.out.trans (hbeo2.mono hbwo1.out.size)
        replace hLao2 := Lib.hid hLao2
        replace hLbo2 := Lib.hid hLbo2
        replace hkto2 := Lib.hid hkto2
        replace hbwo2 := Lib.hid hbwo2
        unfold erL
        go_wp2_with fail
        refine (mine_any tb w.heap.size t rows.length tc 1 TA rows wo2 (hkto2.out.cell 0) hkto2.out.lt hbwo2.out.size (hrd.out.below hbwo2.out) rfl (fun r hr => (hok.out r hr).below hbwo2.out) htr hn (turnL rows t) (turnL_get rows t htr) (turnL_len rows t hl.out)).mono ?_
        rintro e wo3 ⟨vo3, rfl, hoo3, hbmo3⟩
        obtain ⟨Ao3, co3, rfl, _⟩ := own_slice hoo3
        have hLao3 := hLao2.out.below hbmo3
        have hLbo3 := hLbo2.out.below hbmo3
        have hkto3 := hkto2.out.below hbmo3 hkto2.out.lt
        have hbwo3 := hbwo2.out.trans (hbmo3.mono hbwo2.out.size)
        replace hLao3 := Lib.hid hLao3
        replace hLbo3 := Lib.hid hLbo3
        replace hkto3 := Lib.hid hkto3
        replace hbwo3 := Lib.hid hbwo3
        have hsno3 := lsend_any (p := 1) (t := (t : Int)) Ao3 co3 (mineL (turnL rows t) 1) hLao3.out (RD.of_own hoo3) (own_roomC hoo3).2 (mine_len rows t 1 hl.out) (by unfold I6; omega) (by unfold I6; omega) (by omega)
        replace hsno3 := Lib.hid hsno3
        clear hoo3 hbmo3
        go_wp2_with fail
        refine hsno3.out.mono ?_
        clear hsno3
        rintro e wo4 (⟨_, rfl, hbeo4⟩ | ⟨_, rfl, hLno4, hEo4⟩)
        · have hbwo4 := hbwo3.out.trans (hbeo4.mono hbwo3.out.size)
          replace hbwo4 := Lib.hid hbwo4
          unfold erL
          go_wp2_with fail
          go_ret
          exact ⟨rfl, hbwo4.out⟩
        · have hbwo4 := hbwo3.out.trans (hEo4.below hbwo3.out.size (by have := hLno4.low; omega))
          replace hbwo4 := Lib.hid hbwo4
          go_wp2_with fail
          go_ret
          exact ⟨rfl, hbwo4.out⟩
      · have hLbo2 := hLbo1.out.eff hLao1.out hap.out hEo2
        have hkto2 := hLao1.out.blkFar hEo2 hkto1.out
        have hbwo2 := hbwo1.out.trans (hEo2.below hbwo1.out.size (by have := hLno2.low; omega))
        have hLao2 := hLno2
        have ho0o2 := sendE_0 hzo2
        replace hLbo2 := Lib.hid hLbo2
        replace hkto2 := Lib.hid hkto2
        replace hbwo2 := Lib.hid hbwo2
        replace hLao2 := Lib.hid hLao2
        replace ho0o2 := Lib.hid ho0o2
        clear hLno2 hEo2 hzo2
        go_wp2_with fail
        refine (mine_any tb w.heap.size t rows.length tc 1 TA rows wo2 (hkto2.out.cell 0) hkto2.out.lt hbwo2.out.size (hrd.out.below hbwo2.out) rfl (fun r hr => (hok.out r hr).below hbwo2.out) htr hn (turnL rows t) (turnL_get rows t htr) (turnL_len rows t hl.out)).mono ?_
        rintro e wo3 ⟨vo3, rfl, hoo3, hbmo3⟩
        obtain ⟨Ao3, co3, rfl, _⟩ := own_slice hoo3
        have hLao3 := hLao2.out.below hbmo3
        have hLbo3 := hLbo2.out.below hbmo3
        have hkto3 := hkto2.out.below hbmo3 hkto2.out.lt
        have hbwo3 := hbwo2.out.trans (hbmo3.mono hbwo2.out.size)
        replace hLao3 := Lib.hid hLao3
        replace hLbo3 := Lib.hid hLbo3
        replace hkto3 := Lib.hid hkto3
        replace hbwo3 := Lib.hid hbwo3
        have hsno3 := lsend_any (p := 1) (t := (t : Int)) Ao3 co3 (mineL (turnL rows t) 1) hLao3.out (RD.of_own hoo3) (own_roomC hoo3).2 (mine_len rows t 1 hl.out) (by unfold I6; omega) (by unfold I6; omega) (by omega)
        replace hsno3 := Lib.hid hsno3
        clear hoo3 hbmo3
        go_wp2_with fail
        refine hsno3.out.mono ?_
        clear hsno3
        rintro e wo4 (⟨_, rfl, hbeo4⟩ | ⟨hzo4, rfl, hLno4, hEo4⟩)
        · have hbwo4 := hbwo3.out.trans (hbeo4.mono hbwo3.out.size)
          replace hbwo4 := Lib.hid hbwo4
          unfold erL
          go_wp2_with fail
          go_ret
          exact ⟨rfl, hbwo4.out⟩
        · have hLbo4 := hLbo3.out.eff hLao3.out hap.out hEo4
          have hkto4 := hLao3.out.blkFar hEo4 hkto3.out
          have hbwo4 := hbwo3.out.trans (hEo4.below hbwo3.out.size (by have := hLno4.low; omega))
          have hLao4 := hLno4
          have ho0o4 := sendE_0 hzo4
          replace hLbo4 := Lib.hid hLbo4
          replace hkto4 := Lib.hid hkto4
          replace hbwo4 := Lib.hid hbwo4
          replace hLao4 := Lib.hid hLao4
          replace ho0o4 := Lib.hid ho0o4
          clear hLno4 hEo4 hzo4 hLao1 hLao2 hLao3 hLbo1 hLbo2 hLbo3 hkto1 hkto2 hkto3 hbwo1 hbwo2 hbwo3
          obtain ⟨wo, rfl⟩ : ∃ wo : World, wo = wo4 := ⟨_, rfl⟩
          go_upto_block 2 with fail
          go_cut [16] (fun vs wx0 => ∃ wx, wx = wx0 ∧ ∃ s : Nat, vs = .int .i64 s ∧ t < s ∧ s ≤ K ∧ Hid (LK w4.heap.size wx Ga Oa Ma (2 * t + 1 + 1) 0 t [false, false] (putS (putS noS 0 t (mineL (turnL rows t) 0)) 1 t (mineL (turnL rows t) 1))) ∧ Hid (LK w5.heap.size wx Gb Ob Mb (2 * s) d t [false, false] (SbF rows t s)) ∧ Hid (Blk wx tb 41 #[.slice TA rows.length tc]) ∧ Hid (Below w.heap.size w wx))
          case first =>
            as_aux_lemma =>
            go_wp2_with fail
            go_loopw [16] (fun vs wr => ∃ s : Nat, vs = .int .i64 s ∧ t ≤ s ∧ s ≤ K ∧ Hid (LK w4.heap.size wr Ga Oa Ma (2 * t + 1 + 1) 0 t [false, false] (putS (putS noS 0 t (mineL (turnL rows t) 0)) 1 t (mineL (turnL rows t) 1))) ∧ Hid (LK w5.heap.size wr Gb Ob Mb (2 * s) d t [false, false] (SbF rows t s)) ∧ Hid (Blk wr tb 41 #[.slice TA rows.length tc]) ∧ Hid (Below w.heap.size w wr)) (fun vs _ => K - (intOf vs).toNat)
            case atStart => exact ⟨s, rfl, hts, hsK, hLao4, hLbo4, hkto4, hbwo4⟩
            case round =>
              clear hLao4 hLbo4 hkto4 hbwo4 hsK hts
              obtain ⟨s, rfl, hts, hsK, hLai, hLbi, hkti, hbwi⟩ := hrel
              obtain ⟨wr_i, rfl⟩ : ∃ wr_i : World, wr_i = wr := ⟨_, rfl⟩
              by_cases hsk : s < K
              · have i2 : (s : Int) < (K : Int) := by omega
                by_cases hsd : (s : Int) - (t : Int) ≤ d
                · have i3 : decide ((s : Int) - (t : Int) ≤ d) = true := decide_eq_true hsd
                  have hsr : s < rows.length := by omega
                  go_wp2_with fail
                  refine (mine_any tb w.heap.size s rows.length tc 1 TA rows wr_i (hkti.out.cell 0) hkti.out.lt hbwi.out.size (hrd.out.below hbwi.out) rfl (fun r hr => (hok.out r hr).below hbwi.out) hsr hn (turnL rows s) (turnL_get rows s hsr) (turnL_len rows s hl.out)).mono ?_
                  rintro e wi1 ⟨vi1, rfl, hoi1, hbmi1⟩
                  obtain ⟨Ai1, ci1, rfl, _⟩ := own_slice hoi1
                  have hLai1 := hLai.out.below hbmi1
                  have hLbi1 := hLbi.out.below hbmi1
                  have hkti1 := hkti.out.below hbmi1 hkti.out.lt
                  have hbwi1 := hbwi.out.trans (hbmi1.mono hbwi.out.size)
                  replace hLai1 := Lib.hid hLai1
                  replace hLbi1 := Lib.hid hLbi1
                  replace hkti1 := Lib.hid hkti1
                  replace hbwi1 := Lib.hid hbwi1
                  have hsni1 := lsend_any (p := 1) (t := (s : Int)) Ai1 ci1 (mineL (turnL rows s) 1) hLbi1.out (RD.of_own hoi1) (own_roomC hoi1).2 (mine_len rows s 1 hl.out) (by unfold I6; omega) (by unfold I6; omega) (by omega)
                  replace hsni1 := Lib.hid hsni1
                  clear hoi1 hbmi1
                  go_wp2_with fail
                  refine hsni1.out.mono ?_
                  clear hsni1
                  rintro e wi2 (⟨_, rfl, hbei2⟩ | ⟨hzi2, rfl, hLni2, hEi2⟩)
                  · have hLai2 := hLai1.out.below hbei2
                    have hLbi2 := hLbi1.out.below hbei2
                    have hkti2 := hkti1.out.below hbei2 hkti1.out.lt
                    have hbwi2 := hbwi1.out.trans (hbei2.mono hbwi1.out.size)
                    replace hLai2 := Lib.hid hLai2
                    replace hLbi2 := Lib.hid hLbi2
                    replace hkti2 := Lib.hid hkti2
                    replace hbwi2 := Lib.hid hbwi2
                    unfold erL
                    go_wp2_with fail
                    refine (mine_any tb w.heap.size s rows.length tc 0 TA rows wi2 (hkti2.out.cell 0) hkti2.out.lt hbwi2.out.size (hrd.out.below hbwi2.out) rfl (fun r hr => (hok.out r hr).below hbwi2.out) hsr hn (turnL rows s) (turnL_get rows s hsr) (turnL_len rows s hl.out)).mono ?_
                    rintro e wi3 ⟨vi3, rfl, hoi3, hbmi3⟩
                    obtain ⟨Ai3, ci3, rfl, _⟩ := own_slice hoi3
                    have hLai3 := hLai2.out.below hbmi3
                    have hLbi3 := hLbi2.out.below hbmi3
                    have hkti3 := hkti2.out.below hbmi3 hkti2.out.lt
                    have hbwi3 := hbwi2.out.trans (hbmi3.mono hbwi2.out.size)
                    replace hLai3 := Lib.hid hLai3
                    replace hLbi3 := Lib.hid hLbi3
                    replace hkti3 := Lib.hid hkti3
                    replace hbwi3 := Lib.hid hbwi3
                    have hsni3 := lsend_any (p := 0) (t := (s : Int)) Ai3 ci3 (mineL (turnL rows s) 0) hLbi3.out (RD.of_own hoi3) (own_roomC hoi3).2 (mine_len rows s 0 hl.out) (by unfold I6; omega) (by unfold I6; omega) (by omega)
                    replace hsni3 := Lib.hid hsni3
                    clear hoi3 hbmi3
                    go_wp2_with fail
                    refine hsni3.out.mono ?_
                    clear hsni3
                    rintro e wi4 (⟨_, rfl, hbei4⟩ | ⟨_, rfl, hLni4, hEi4⟩)
                    · have hbwi4 := hbwi3.out.trans (hbei4.mono hbwi3.out.size)
                      replace hbwi4 := Lib.hid hbwi4
                      unfold erL
                      go_wp2_with fail
                      go_ret
                      exact ⟨rfl, hbwi4.out⟩
                    · have hbwi4 := hbwi3.out.trans (hEi4.below hbwi3.out.size (by have := hLni4.low; omega))
                      replace hbwi4 := Lib.hid hbwi4
                      go_wp2_with fail
                      go_ret
                      exact ⟨rfl, hbwi4.out⟩
                  · have hLai2 := hLai1.out.eff hLbi1.out ⟨hap.out.1.symm, hap.out.2.1.symm, hap.out.2.2.symm⟩ hEi2
                    have hkti2 := hLbi1.out.blkFar hEi2 hkti1.out
                    have hbwi2 := hbwi1.out.trans (hEi2.below hbwi1.out.size (by have := hLni2.low; omega))
                    have hLbi2 := hLni2
                    have ho0i2 := sendE_0 hzi2
                    replace hLai2 := Lib.hid hLai2
                    replace hkti2 := Lib.hid hkti2
                    replace hbwi2 := Lib.hid hbwi2
                    replace hLbi2 := Lib.hid hLbi2
                    replace ho0i2 := Lib.hid ho0i2
                    clear hLni2 hEi2 hzi2
                    go_wp2_with fail
                    refine (mine_any tb w.heap.size s rows.length tc 0 TA rows wi2 (hkti2.out.cell 0) hkti2.out.lt hbwi2.out.size (hrd.out.below hbwi2.out) rfl (fun r hr => (hok.out r hr).below hbwi2.out) hsr hn (turnL rows s) (turnL_get rows s hsr) (turnL_len rows s hl.out)).mono ?_
                    rintro e wi3 ⟨vi3, rfl, hoi3, hbmi3⟩
                    obtain ⟨Ai3, ci3, rfl, _⟩ := own_slice hoi3
                    have hLai3 := hLai2.out.below hbmi3
                    have hLbi3 := hLbi2.out.below hbmi3
                    have hkti3 := hkti2.out.below hbmi3 hkti2.out.lt
                    have hbwi3 := hbwi2.out.trans (hbmi3.mono hbwi2.out.size)
                    replace hLai3 := Lib.hid hLai3
                    replace hLbi3 := Lib.hid hLbi3
                    replace hkti3 := Lib.hid hkti3
                    replace hbwi3 := Lib.hid hbwi3
                    have hsni3 := lsend_any (p := 0) (t := (s : Int)) Ai3 ci3 (mineL (turnL rows s) 0) hLbi3.out (RD.of_own hoi3) (own_roomC hoi3).2 (mine_len rows s 0 hl.out) (by unfold I6; omega) (by unfold I6; omega) (by omega)
                    replace hsni3 := Lib.hid hsni3
                    clear hoi3 hbmi3
                    go_wp2_with fail
                    refine hsni3.out.mono ?_
                    clear hsni3
                    rintro e wi4 (⟨_, rfl, hbei4⟩ | ⟨hzi4, rfl, hLni4, hEi4⟩)
                    · have hbwi4 := hbwi3.out.trans (hbei4.mono hbwi3.out.size)
                      replace hbwi4 := Lib.hid hbwi4
                      unfold erL
                      go_wp2_with fail
                      go_ret
                      exact ⟨rfl, hbwi4.out⟩
                    · have hLai4 := hLai3.out.eff hLbi3.out ⟨hap.out.1.symm, hap.out.2.1.symm, hap.out.2.2.symm⟩ hEi4
                      have hkti4 := hLbi3.out.blkFar hEi4 hkti3.out
                      have hbwi4 := hbwi3.out.trans (hEi4.below hbwi3.out.size (by have := hLni4.low; omega))
                      have hLbi4 := hLni4
                      have ho0i4 := sendE_0 hzi4
                      replace hLai4 := Lib.hid hLai4
                      replace hkti4 := Lib.hid hkti4
                      replace hbwi4 := Lib.hid hbwi4
                      replace hLbi4 := Lib.hid hLbi4
                      replace ho0i4 := Lib.hid ho0i4
                      clear hLni4 hEi4 hzi4 hLai1 hLai2 hLai3 hLbi1 hLbi2 hLbi3 hkti1 hkti2 hkti3 hbwi1 hbwi2 hbwi3
                      have hn2 : 2 * s + 1 + 1 = 2 * (s + 1) := by omega
                      have hLbn := hLbi4.out
                      rw [hn2, SbF_put rows t s hts] at hLbn
                      replace hLbn := Lib.hid hLbn
                      replace hn2 := Lib.hid hn2
                      clear hLbi4
                      go_wp2_with fail
                      go_roundw
                      case rel => exact ⟨s + 1, by go_num, by omega, by omega, hLai4, hLbn, hkti4, hbwi4⟩
                      case measure => simp [intOf]; omega
                · have i3 : decide ((s : Int) - (t : Int) ≤ d) = false := decide_eq_false hsd
                  go_wp2_with fail
                  go_meet
                  exact ⟨_, rfl, s, rfl, by omega, hsK, hLai, hLbi, hkti, hbwi⟩
              · have i2 : ¬ (s : Int) < (K : Int) := by omega
                go_wp2_with fail
                go_meet
                exact ⟨_, rfl, s, rfl, by omega, hsK, hLai, hLbi, hkti, hbwi⟩
          case rest =>
          clear hLao4 hLbo4 hkto4 hbwo4 hts hsK
          obtain ⟨wx, rfl, s, rfl, hts, hsK, hLa, hLb, hkt, hbw⟩ := hcut
          obtain ⟨wa1, wa2⟩ := wait_2 _ t _ _ (put_at0 t (mineL (turnL rows t) 0) (mineL (turnL rows t) 1)) (put_at1 t _ _)
          obtain ⟨wb1, wb2⟩ := wait_2 _ t _ _ (SbF_at rows t s hts 0 (.inl rfl)) (SbF_at rows t s hts 1 (.inr rfl))
          have hm0 := (ordsE_0.1 ho0o2.out).1
          have hm1 := (ordsE_0.1 ho0o4.out).1
          have hgl : (mineL (turnL rows t) 0 ++ mineL (turnL rows t) 1).length ≤ 1000000 := by rw [List.length_append]; omega
          generalize hAL : mineL (turnL rows t) 0 ++ mineL (turnL rows t) 1 = AL at *
          have hapS : Ga ≠ Gb ∧ Oa ≠ Ob ∧ Ma ≠ Mb := ⟨hap.out.1.symm, hap.out.2.1.symm, hap.out.2.2.symm⟩
          by_cases hEo : ordsE AL = 0
          · as_aux_lemma =>
            have hta := ltake_ok hLa.out wa1 (by show (gotL _ _ 2).length ≤ _; rw [wa2]; exact hgl) (by omega) (by show ordsE (gotL _ _ 2) = 0; rw [wa2]; exact hEo)
            rw [show [false, false].length = 2 from rfl, wa2, put_gone] at hta
            replace hta := Lib.hid hta
            replace hEo := Lib.hid hEo
            replace hAL := Lib.hid hAL
            replace wa1 := Lib.hid wa1
            replace wa2 := Lib.hid wa2
            replace wb1 := Lib.hid wb1
            replace wb2 := Lib.hid wb2
            go_wp2_with fail
            refine hta.out.mono ?_
            clear hta
            rintro e w8 ⟨A8, c8, R, rfl, hI, ho8, hLa8, hE8⟩
            have hLb8 := hLb.out.eff hLa.out hap.out hE8
            have hkt8 := hLa.out.blkFar hE8 hkt.out
            have hbw8 := hbw.out.trans (hE8.below hbw.out.size (by have := hLa8.low; omega))
            have htb := ltake_ok hLb8 wb1.out (by show (gotL _ _ 2).length ≤ _; rw [wb2.out]; exact hgl) (by omega) (by show ordsE (gotL _ _ 2) = 0; rw [wb2.out]; exact hEo.out)
            rw [show [false, false].length = 2 from rfl, wb2.out, SbF_gone rows t s hts] at htb
            replace htb := Lib.hid htb
            replace hLa8 := Lib.hid hLa8
            replace hLb8 := Lib.hid hLb8
            replace hkt8 := Lib.hid hkt8
            replace hbw8 := Lib.hid hbw8
            replace hI := Lib.hid hI
            replace ho8 := Lib.hid ho8
            clear hE8 hLa hLb hkt hbw
            go_wp2_with fail
            refine htb.out.mono ?_
            clear htb
            rintro e w9 ⟨A9, c9, R9, rfl, hI9, ho9, hLb9, hE9⟩
            obtain rfl := hI9.unique hI.out
            have hLa9 := hLa8.out.eff hLb8.out hapS hE9
            have hkt9 := hLb8.out.blkFar hE9 hkt8.out
            have hbw9 := hbw8.out.trans (hE9.below hbw8.out.size (by have := hLb9.low; omega))
            have hr8 : RO w9 w9.heap.size A8 R9 := RD.of_own (hLb8.out.ownEff ho8.out hE9)
            have hRl : R9.length ≤ 1000000 := Nat.le_trans (isLast_le hI.out) hgl
            have hse := ordersEq_any A8 A9 c8 c9 w9.heap.size R9 w9 hr8 (RD.of_own ho9) (Nat.le_trans hRl (by decide)) (Nat.le_refl _)
            have hnx : 2 * t + 1 + 1 = 2 * (t + 1) := by omega
            rw [hnx] at hLa9
            replace hse := Lib.hid hse
            replace hLa9 := Lib.hid hLa9
            replace hLb9 := Lib.hid hLb9
            replace hkt9 := Lib.hid hkt9
            replace hbw9 := Lib.hid hbw9
            replace hnx := Lib.hid hnx
            clear hLa8 hLb8 hkt8 hbw8 ho8 ho9 hI hI9 hE9 hr8
            go_wp2_with fail
            refine hse.out.mono ?_
            clear hse
            rintro e w10 ⟨rfl, hb10⟩
            have hLa10 := hLa9.out.below hb10
            have hLb10 := hLb9.out.below hb10
            rw [show ((t : Int) + 1) = ((t + 1 : Nat) : Int) by omega] at hLa10 hLb10
            have hkt10 := hkt9.out.below hb10 hkt9.out.lt
            have hbw10 := hbw9.out.trans (hb10.mono hbw9.out.size)
            replace hLa10 := Lib.hid hLa10
            replace hLb10 := Lib.hid hLb10
            replace hkt10 := Lib.hid hkt10
            replace hbw10 := Lib.hid hbw10
            clear hLa9 hLb9 hkt9 hbw9 hb10
            go_wp2_with fail
            go_roundw
            case rel => exact ⟨t + 1, s, by go_num, rfl, by omega, by omega, hsK, hLa10, hLb10, hkt10, hbw10⟩
            case measure => simp [intOf]; omega
          · as_aux_lemma =>
            have hta := ltake_bad hLa.out wa1 (by show (gotL _ _ 2).length ≤ _; rw [wa2]; exact hgl) (by show ordsE (gotL _ _ 2) ≠ 0; rw [wa2]; exact hEo)
            rw [show [false, false].length = 2 from rfl, wa2] at hta
            replace hta := Lib.hid hta
            replace hEo := Lib.hid hEo
            replace hAL := Lib.hid hAL
            replace wa1 := Lib.hid wa1
            replace wa2 := Lib.hid wa2
            replace wb1 := Lib.hid wb1
            replace wb2 := Lib.hid wb2
            go_wp2_with fail
            refine hta.out.mono ?_
            clear hta
            rintro e w8 ⟨rfl, hb8⟩
            have hLb8 := hLb.out.below hb8
            have hbw8 := hbw.out.trans (hb8.mono hbw.out.size)
            have htb := ltake_bad hLb8 wb1.out (by show (gotL _ _ 2).length ≤ _; rw [wb2.out]; exact hgl) (by show ordsE (gotL _ _ 2) ≠ 0; rw [wb2.out]; exact hEo.out)
            rw [show [false, false].length = 2 from rfl, wb2.out] at htb
            replace htb := Lib.hid htb
            replace hbw8 := Lib.hid hbw8
            replace hLb8 := Lib.hid hLb8
            clear hb8
            go_wp2_with fail
            refine htb.out.mono ?_
            clear htb
            rintro e w9 ⟨rfl, hb9⟩
            have hbw9 := hbw8.out.trans (hb9.mono hbw8.out.size)
            replace hbw9 := Lib.hid hbw9
            clear hb9
            go_wp2_with fail
            go_quiet (fail)
            go_wp2_with fail
            go_ret
            exact ⟨rfl, bdrewN hbw9.out _⟩
    · have i1 : ¬ (t : Int) < (K : Int) := by omega
      go_wp2_with fail
      go_ret
      exact ⟨rfl, hbwo.out⟩
theorem lockAlike_in (v : Value) (x : (Option Addr × Nat) × List RW) (d : Int) (w : World) (h : v = .slice x.1.1 x.2.length x.1.2 ∧ TOks w x.1.1 x.1.2 x.2) (hd : (Lit.int .i64 d).wf = true) (hb : x.2.length ≤ 1048576 ∧ ∀ r ∈ x.2, r.L.length ≤ 1048576) :
    Calls Try.prog 5 #[v, .int .i64 d] w fun e w' => e = .returned (.bool true) ∧ Below w.heap.size w w' := by
  obtain ⟨rfl, ht⟩ := h
  exact alike_in x.1.1 x.1.2 x.2 d w ht (i64_wf hd) (by have := hb.1; omega) (fun r hr => by have := hb.2 r hr; omega)
end Go.Proofs.Ytkgdflecepockaa
