import Derived.Test.YtkgkpggfoieioaaDoorRefEw
namespace Go.Proofs.YtkgkpggfoieioaaDoor
set_option linter.unusedVariables false
open Go.RowKit
/-! world.Sum, marchref2.Sum. -/
def sumN (bs : List Int) : Nat → Int
  | 0 => 1
  | k + 1 => (sumN bs k * 257 + bs.getD k 0) % 1000000007
def sumL (bs : List Int) : Int := sumN bs bs.length
theorem sumN_bd (bs : List Int) : ∀ k, 0 ≤ sumN bs k ∧ sumN bs k ≤ 1000000007
  | 0 => by unfold sumN; omega
  | k + 1 => by unfold sumN; omega
theorem vbN_byte (n : Nat) : ∀ b ∈ vbN n, 0 ≤ b ∧ b ≤ 255 := by
  induction n using Nat.strongRecOn with
  | _ n ih =>
    intro b hb
    by_cases h : 128 ≤ n
    · rw [vb_hi n h, List.mem_cons] at hb
      rcases hb with rfl | hb
      · omega
      · exact ih (n / 128) (by omega) b hb
    · rw [vb_lo n (by omega), List.mem_singleton] at hb
      subst hb; omega
theorem encL_byte (x : GW) : ∀ b ∈ encL x, 0 ≤ b ∧ b ≤ 255 := by
  intro b hb
  unfold encL at hb
  rw [List.mem_flatMap] at hb
  obtain ⟨n, _, hn⟩ := hb
  exact vbN_byte _ b hn
set_option maxHeartbeats 1600000 in
set_option maxRecDepth 100000 in
theorem rsum_any (A : Option Addr) (c : Nat) (bs : List Int) (B : Nat) (w : World) (hr : RD w B 1 A bs.length (bs.map (.int .u8))) (hB : B ≤ w.heap.size) (hb : ∀ b ∈ bs, 0 ≤ b ∧ b ≤ 255) (hl : bs.length ≤ 1000000000) :
    Calls Tryd.prog 33 #[.slice A bs.length c] w fun e w' => e = .returned (.int .i64 (sumL bs)) ∧ w = w' := by
  have HR := Lib.hid hr
  have HB := Lib.hid hb
  clear hr hb
  go_enter Tryd.func33, Tryd.ntmps33
  go_wp2_with fail
  go_loopw [3, 4] (fun vx vi wr => ∃ k : Nat, vi = .int .i64 k ∧ k ≤ bs.length ∧ vx = .int .i64 (sumN bs k) ∧ w = wr) (fun _ vi _ => bs.length - (intOf vi).toNat)
  case atStart => exact ⟨0, rfl, Nat.zero_le _, rfl, rfl⟩
  case round =>
    obtain ⟨k, rfl, hk, rfl, rfl⟩ := hrel
    by_cases hlt : k < bs.length
    · have j1 : (k : Int) < (bs.length : Int) := by omega
      obtain ⟨b, o, hA, hbl, hcs⟩ := HR.out.2 (by omega)
      subst hA
      have hcell := hcs k (by omega)
      rw [List.getElem?_map, List.getElem?_eq_getElem hlt, Option.map_some] at hcell
      have hby := HB.out bs[k] (List.getElem_mem hlt)
      have hs1 : sumN bs (k + 1) = (sumN bs k * 257 + bs[k]) % 1000000007 := by
        show (sumN bs k * 257 + bs.getD k 0) % 1000000007 = _
        rw [List.getD_eq_getElem?_getD, List.getElem?_eq_getElem hlt]; rfl
      have hsb := sumN_bd bs k
      have hbw : b < w.heap.size := by omega
      generalize bs[k] = y at *
      obtain ⟨S, hS⟩ : ∃ S, sumN bs k = S := ⟨_, rfl⟩
      rw [hS] at hs1 hsb ⊢
      have e1 : IntKind.i64.wrap (S * 257) = S * 257 := IntWalk.i64_in _ (by omega)
      have e2 : IntKind.i64.wrap (S * 257 + y) = S * 257 + y := IntWalk.i64_in _ (by omega)
      have e3 : IntKind.i64.wrap y = y := IntWalk.i64_in _ (by omega)
      have e4 : (S * 257 + y).tmod 1000000007 = (S * 257 + y) % 1000000007 := Int.tmod_eq_emod_of_nonneg (by omega)
      have e5 : IntKind.i64.wrap ((S * 257 + y) % 1000000007) = (S * 257 + y) % 1000000007 := IntWalk.i64_in _ (by omega)
      replace hs1 := Lib.hid hs1
      replace hS := Lib.hid hS
      clear hcs
      go_wp2_with fail
      go_roundw
      case rel => exact ⟨k + 1, by go_num, by omega, by first | exact ⟨by rw [hs1.out], rfl⟩ | exact ⟨by rw [hs1.out], trivial⟩⟩
      case measure => simp [intOf]; omega
    · have j1 : ¬ (k : Int) < (bs.length : Int) := by omega
      obtain rfl : k = bs.length := by omega
      go_wp2_with fail
      go_ret
      exact ⟨rfl, rfl⟩
structure FewB (x : GW) : Prop where
  g : x.field.ground.length ≤ 1048576
  o : x.field.ore.length ≤ 1048576
  d : x.gold.length ≤ 1048576
  u : x.units.length ≤ 1048576
  q : x.queue.length ≤ 1048576
theorem numL_le (n : Int) (h : I64 n) : (numL n).length ≤ 10 := by have := numL_len n h; omega
theorem flat_le {α : Type} (f : α → List Int) (k : Nat) : ∀ (l : List α), (∀ a ∈ l, (f a).length ≤ k) → (l.flatMap f).length ≤ k * l.length
  | [], _ => by simp
  | a :: l, h => by
    have h1 := h a (by simp)
    have h2 := flat_le f k l (fun b hb => h b (by simp [hb]))
    rw [List.flatMap_cons, List.length_append, List.length_cons, Nat.mul_succ]
    omega
theorem WOk.nums {w : World} {s : SW} {x : GW} (hW : WOk w s x) (hf : FewB x) : ∀ n ∈ wN x, I64 n := by
  obtain ⟨h1, h2, h3, h4, h5⟩ := hf
  have i1 := hW.1
  have i2 := hW.2.1
  have i3 := hW.2.2.1.1
  have i4 := hW.2.2.1.2.1
  have iG := hW.2.2.1.2.2.1.2.2.2.2
  have iO := hW.2.2.1.2.2.2.2.2.2.2
  have iD := hW.2.2.2.1.2.2.2.2
  have iU := hW.2.2.2.2.1.2.2.2.2
  have iQ := hW.2.2.2.2.2.2.2.2.2
  intro n hn
  simp only [wN, lN, List.mem_append, List.mem_cons, List.mem_flatMap, List.not_mem_nil, or_false] at hn
  have e : ∀ k : Nat, k ≤ 1048576 → I64 (k : Int) := fun k hk => by unfold I64; omega
  rcases hn with (rfl | rfl | rfl | rfl) | (rfl | hn) | (rfl | hn) | (rfl | hn) | (rfl | ⟨u, hu, hn⟩) | (rfl | ⟨u, hu, hn⟩)
  · exact i1
  · exact i2
  · exact i3
  · exact i4
  · exact e _ h1
  · exact iG _ hn
  · exact e _ h2
  · exact iO _ hn
  · exact e _ h3
  · exact iD _ hn
  · exact e _ h4
  · have h := iU u hu
    unfold GU.ok at h
    obtain ⟨a1, a2, a3, a4, a5, a6, a7, a8⟩ := h
    simp only [uN, List.mem_cons, List.not_mem_nil, or_false] at hn
    rcases hn with rfl | rfl | rfl | rfl | rfl | rfl | rfl | rfl <;> assumption
  · exact e _ h5
  · have h := iQ u hu
    unfold GJ.ok at h
    obtain ⟨a1, a2, a3, a4⟩ := h
    simp only [jN, List.mem_cons, List.not_mem_nil, or_false] at hn
    rcases hn with rfl | rfl | rfl | rfl <;> assumption
theorem encL_len {x : GW} (hf : FewB x) (hI : ∀ n ∈ wN x, I64 n) : (encL x).length ≤ 1000000000 := by
  obtain ⟨h1, h2, h3, h4, h5⟩ := hf
  have h := flat_le numL 10 (wN x) (fun n hn => numL_le n (hI n hn))
  have hu := flat_le uN 8 x.units (fun u _ => Nat.le_of_eq rfl)
  have hj := flat_le jN 4 x.queue (fun u _ => Nat.le_of_eq rfl)
  have e : (wN x).length = 4 + ((x.field.ground.length + 1) + ((x.field.ore.length + 1) + ((x.gold.length + 1) + ((x.units.flatMap uN).length + 1 + ((x.queue.flatMap jN).length + 1))))) := by
    simp only [wN, lN, List.length_append, List.length_cons, List.length_nil]
  unfold encL
  rw [e] at h
  omega
theorem enc_any (s : SW) (x : GW) (w : World) (hW : WOk w s x) (hf : FewB x) :
    Calls Tryd.prog 31 #[.agg #[.int .i64 x.turn, .int .i64 x.next, .int .i64 x.field.wide, .int .i64 x.field.high, .slice s.field.ground.A x.field.ground.length s.field.ground.c, .slice s.field.ore.A x.field.ore.length s.field.ore.c, .slice s.gold.A x.gold.length s.gold.c, .slice s.units.A x.units.length s.units.c, .slice s.queue.A x.queue.length s.queue.c]] w fun e w' => ∃ v, e = .returned v ∧ w'.ownsRow (w.heap.size + 2) 5 1 v (encL x).length ((encL x).map (.int .u8)) ∧ Below w.heap.size w w' :=
  encode_big s x w hW.rd.g hW.rd.o hW.rd.d hW.rd.u hW.rd.j (hW.nums hf) hf.g hf.o hf.d hf.u hf.q
set_option maxHeartbeats 1600000 in
set_option maxRecDepth 100000 in
theorem wsum_any (s : SW) (x : GW) (w : World) (hW : WOk w s x) (hf : FewB x) :
    Calls Tryd.prog 26 #[.agg #[.int .i64 x.turn, .int .i64 x.next, .int .i64 x.field.wide, .int .i64 x.field.high, .slice s.field.ground.A x.field.ground.length s.field.ground.c, .slice s.field.ore.A x.field.ore.length s.field.ore.c, .slice s.gold.A x.gold.length s.gold.c, .slice s.units.A x.units.length s.units.c, .slice s.queue.A x.queue.length s.queue.c]] w fun e w' => e = .returned (.int .i64 (sumL (encL x))) ∧ Below w.heap.size w w' := by
  have hb1 : Below w.heap.size w (w.alloc (.cells #[.int .i64 x.turn, .int .i64 x.next, .int .i64 x.field.wide, .int .i64 x.field.high, .slice s.field.ground.A x.field.ground.length s.field.ground.c, .slice s.field.ore.A x.field.ore.length s.field.ore.c, .slice s.gold.A x.gold.length s.gold.c, .slice s.units.A x.units.length s.units.c, .slice s.queue.A x.queue.length s.queue.c] 55)) := (Below.refl _ _).alloc (Nat.le_refl _) _
  have hk1 := Blk.new w 55 #[.int .i64 x.turn, .int .i64 x.next, .int .i64 x.field.wide, .int .i64 x.field.high, .slice s.field.ground.A x.field.ground.length s.field.ground.c, .slice s.field.ore.A x.field.ore.length s.field.ore.c, .slice s.gold.A x.gold.length s.gold.c, .slice s.units.A x.units.length s.units.c, .slice s.queue.A x.queue.length s.queue.c]
  have hlen := encL_len hf (hW.nums hf)
  have HB := Lib.hid (encL_byte x)
  have hec := enc_any s x _ (hW.below hb1) hf
  replace hec := Lib.hid hec
  replace hb1 := Lib.hid hb1
  clear hW
  go_enter Tryd.func26, Tryd.ntmps26
  go_upto_region 2 with fail
  generalize (w.alloc (.cells #[.int .i64 x.turn, .int .i64 x.next, .int .i64 x.field.wide, .int .i64 x.field.high, .slice s.field.ground.A x.field.ground.length s.field.ground.c, .slice s.field.ore.A x.field.ore.length s.field.ore.c, .slice s.gold.A x.gold.length s.gold.c, .slice s.units.A x.units.length s.units.c, .slice s.queue.A x.queue.length s.queue.c] 55)) = W at *
  obtain ⟨wb, hwb⟩ : ∃ wb, w.heap.size = wb := ⟨_, rfl⟩
  rw [hwb] at hk1
  rw [hwb]
  replace hwb := Lib.hid hwb
  have m0 : W.cell? ⟨wb, 0, none⟩ = some (.int .i64 x.turn) := hk1.cell 0
  have m1 : W.cell? ⟨wb, 1, none⟩ = some (.int .i64 x.next) := hk1.cell 1
  have m2 : W.cell? ⟨wb, 2, none⟩ = some (.int .i64 x.field.wide) := hk1.cell 2
  have m3 : W.cell? ⟨wb, 3, none⟩ = some (.int .i64 x.field.high) := hk1.cell 3
  have m4 : W.cell? ⟨wb, 4, none⟩ = some (.slice s.field.ground.A x.field.ground.length s.field.ground.c) := hk1.cell 4
  have m5 : W.cell? ⟨wb, 5, none⟩ = some (.slice s.field.ore.A x.field.ore.length s.field.ore.c) := hk1.cell 5
  have m6 : W.cell? ⟨wb, 6, none⟩ = some (.slice s.gold.A x.gold.length s.gold.c) := hk1.cell 6
  have m7 : W.cell? ⟨wb, 7, none⟩ = some (.slice s.units.A x.units.length s.units.c) := hk1.cell 7
  have m8 : W.cell? ⟨wb, 8, none⟩ = some (.slice s.queue.A x.queue.length s.queue.c) := hk1.cell 8
  have ml := hk1.lt
  replace hk1 := Lib.hid hk1
  go_wp2_with (go_at_call 31; refine hec.out.mono ?_; clear m0 m1 m2 m3 m4 m5 m6 m7 m8 ml; rintro e W2 ⟨v, rfl, hown, hb2⟩; obtain ⟨A, c, rfl, _⟩ := own_slice hown)
  have hR := RD.of_own hown
  have hbe := hb1.out.trans (hb2.mono hb1.out.size)
  replace hR := Lib.hid hR
  replace hbe := Lib.hid hbe
  clear hec hown hb2 hk1 hb1
  obtain ⟨bs, hbs⟩ : ∃ bs, encL x = bs := ⟨_, rfl⟩
  rw [hbs] at hR HB hlen
  rw [hbs]
  replace hbs := Lib.hid hbs
  go_loopw [3, 5, 9] (fun vx _ vi wr => ∃ k : Nat, vi = .int .i64 k ∧ k ≤ bs.length ∧ vx = .int .i64 (sumN bs k) ∧ W2 = wr) (fun _ _ vi _ => bs.length - (intOf vi).toNat)
  case atStart => exact ⟨0, rfl, Nat.zero_le _, rfl, rfl⟩
  case round =>
    obtain ⟨k, rfl, hk, rfl, rfl⟩ := hrel
    by_cases hlt : k < bs.length
    · have j1 : (k : Int) < (bs.length : Int) := by omega
      obtain ⟨b, o, hA, hbl, hcs⟩ := hR.out.2 (by omega)
      subst hA
      have hcell := hcs k (by omega)
      rw [List.getElem?_map, List.getElem?_eq_getElem hlt, Option.map_some] at hcell
      have hby := HB.out bs[k] (List.getElem_mem hlt)
      have hs1 : sumN bs (k + 1) = (sumN bs k * 257 + bs[k]) % 1000000007 := by
        show (sumN bs k * 257 + bs.getD k 0) % 1000000007 = _
        rw [List.getD_eq_getElem?_getD, List.getElem?_eq_getElem hlt]; rfl
      have hsb := sumN_bd bs k
      generalize bs[k] = y at *
      obtain ⟨S, hS⟩ : ∃ S, sumN bs k = S := ⟨_, rfl⟩
      rw [hS] at hs1 hsb ⊢
      have e1 : IntKind.i64.wrap (S * 257) = S * 257 := IntWalk.i64_in _ (by omega)
      have e2 : IntKind.i64.wrap (S * 257 + y) = S * 257 + y := IntWalk.i64_in _ (by omega)
      have e3 : IntKind.i64.wrap y = y := IntWalk.i64_in _ (by omega)
      have e4 : (S * 257 + y).tmod 1000000007 = (S * 257 + y) % 1000000007 := Int.tmod_eq_emod_of_nonneg (by omega)
      have e5 : IntKind.i64.wrap ((S * 257 + y) % 1000000007) = (S * 257 + y) % 1000000007 := IntWalk.i64_in _ (by omega)
      replace hs1 := Lib.hid hs1
      replace hS := Lib.hid hS
      clear hcs
      go_wp2_with fail
      go_roundw
      case rel => exact ⟨k + 1, by go_num, by omega, by first | exact ⟨by rw [hs1.out], rfl⟩ | exact ⟨by rw [hs1.out], trivial⟩⟩
      case measure => simp [intOf]; omega
    · have j1 : ¬ (k : Int) < (bs.length : Int) := by omega
      obtain rfl : k = bs.length := by omega
      go_wp2_with fail
      go_ret
      exact ⟨by rw [hbs.out]; rfl, hwb.out ▸ hbe.out⟩
end Go.Proofs.YtkgkpggfoieioaaDoor
