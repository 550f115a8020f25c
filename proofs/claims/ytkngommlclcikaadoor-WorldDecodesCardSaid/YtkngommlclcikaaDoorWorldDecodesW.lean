import Derived.Test.YtkngommlclcikaaDoorRefF
import Derived.Test.YtkngommlclcikaaDoorLaid
namespace Go.Proofs.YtkngommlclcikaaDoor
set_option linter.unusedVariables false
open Go.RowKit
def sN0 : SW := ⟨⟨⟨none, 0⟩, ⟨none, 0⟩⟩, ⟨none, 0⟩, ⟨none, 0⟩, ⟨none, 0⟩⟩
def x00 : GW := ⟨0, 0, ⟨0, 0, [], []⟩, [], [], []⟩
theorem samew_zero (w : World) : Calls Tryd.prog 15 #[.agg #[.int .i64 0, .int .i64 0, .int .i64 0, .int .i64 0, .slice none 0 0, .slice none 0 0, .slice none 0 0, .slice none 0 0, .slice none 0 0], .agg #[.int .i64 0, .int .i64 0, .int .i64 0, .int .i64 0, .slice none 0 0, .slice none 0 0, .slice none 0 0, .slice none 0 0, .slice none 0 0]] w fun e w' => e = .returned (.bool true) ∧ Below w.heap.size w w' :=
  samew_eq sN0 sN0 x00 w w.heap.size ⟨RD.nil_, RD.nil_, RD.nil_, RD.nil_, RD.nil_⟩ ⟨RD.nil_, RD.nil_, RD.nil_, RD.nil_, RD.nil_⟩ (by simp [x00]) (by simp [x00]) (by simp [x00]) (by simp [x00]) (by simp [x00]) (Nat.le_refl _)
theorem rdec_none (A : Option Addr) (c : Nat) (bs : List Int) (w : World) (h : RD w w.heap.size 1 A bs.length (bs.map (.int .u8))) (hbs : ∀ x ∈ bs, Byte x) (hl : bs.length ≤ 9223372036854775807) (hd : (dJ bs).2 = none) :
    Calls Tryd.prog 12 #[.slice A bs.length c] w fun e w' => Below w.heap.size w w' ∧ e = .returned (.tuple #[.agg #[.int .i64 0, .int .i64 0, .int .i64 0, .int .i64 0, .slice none 0 0, .slice none 0 0, .slice none 0 0, .slice none 0 0, .slice none 0 0], .int .i64 0, .bool false]) := by
  refine (rdec_any A c bs w h hbs hl).mono ?_
  rintro e w' ⟨hb, ⟨_, rfl⟩ | ⟨p, hp, _⟩⟩
  · exact ⟨hb, rfl⟩
  · rw [hd] at hp; cases hp
theorem rdec_some (A : Option Addr) (c : Nat) (bs : List Int) (w : World) (p : Nat) (h : RD w w.heap.size 1 A bs.length (bs.map (.int .u8))) (hbs : ∀ x ∈ bs, Byte x) (hl : bs.length ≤ 9223372036854775807) (hd : (dJ bs).2 = some p) :
    Calls Tryd.prog 12 #[.slice A bs.length c] w fun e w' => Below w.heap.size w w' ∧ ∃ s, e = .returned (.tuple #[.agg (wV s (dW bs)).toArray, .int .i64 p, .bool true]) ∧ WRd w' w'.heap.size s (dW bs) := by
  refine (rdec_any A c bs w h hbs hl).mono ?_
  rintro e w' ⟨hb, ⟨hp, _⟩ | ⟨p', hp, s, rfl, hs⟩⟩
  · rw [hd] at hp; cases hp
  · rw [hd] at hp
    obtain rfl : p = p' := by simpa using hp
    exact ⟨hb, s, rfl, hs⟩
theorem pdec_none (A : Option Addr) (c : Nat) (bs : List Int) (w : World) (h : RD w w.heap.size 1 A bs.length (bs.map (.int .u8))) (hbs : ∀ x ∈ bs, Byte x) (hl : bs.length ≤ 9223372036854775807) (hd : (dJ bs).2 = none) :
    Calls Tryd.prog 13 #[.slice A bs.length c] w fun e w' => Below w.heap.size w w' ∧ e = .returned (.tuple #[.agg #[.int .i64 0, .int .i64 0, .int .i64 0, .int .i64 0, .slice none 0 0, .slice none 0 0, .slice none 0 0, .slice none 0 0, .slice none 0 0], .int .i64 0, .iface 130 (.int .i64 9)]) := by
  refine (decode_any A c bs w h hbs hl).mono ?_
  rintro e w' ⟨hb, ⟨_, rfl⟩ | ⟨p, hp, _⟩⟩
  · exact ⟨hb, rfl⟩
  · rw [hd] at hp; cases hp
theorem pdec_some (A : Option Addr) (c : Nat) (bs : List Int) (w : World) (p : Nat) (h : RD w w.heap.size 1 A bs.length (bs.map (.int .u8))) (hbs : ∀ x ∈ bs, Byte x) (hl : bs.length ≤ 9223372036854775807) (hd : (dJ bs).2 = some p) :
    Calls Tryd.prog 13 #[.slice A bs.length c] w fun e w' => Below w.heap.size w w' ∧ ∃ s, e = .returned (.tuple #[.agg (wV s (dW bs)).toArray, .int .i64 p, .nilIface]) ∧ WRd w' w'.heap.size s (dW bs) := by
  refine (decode_any A c bs w h hbs hl).mono ?_
  rintro e w' ⟨hb, ⟨hp, _⟩ | ⟨p', hp, _, Ag, cg, Ao, co, Ad, cd, Au, cu, Aj, cj, rfl, h1, h2, h3, h4, h5⟩⟩
  · rw [hd] at hp; cases hp
  · rw [hd] at hp
    obtain rfl : p = p' := by simpa using hp
    exact ⟨hb, ⟨⟨⟨Ag, cg⟩, ⟨Ao, co⟩⟩, ⟨Ad, cd⟩, ⟨Au, cu⟩, ⟨Aj, cj⟩⟩, rfl, ⟨h1, h2, h3, h4, h5⟩⟩
set_option maxHeartbeats 3200000 in
set_option maxRecDepth 100000 in
theorem wdecodes_none (A : Option Addr) (c : Nat) (bs : List Int) (w : World) (hv : HV w) (hr : RD w w.heap.size 1 A bs.length (bs.map (.int .u8))) (hby : ∀ x ∈ bs, Byte x) (hl : bs.length ≤ 9223372036854775807) (hd : (dJ bs).2 = none) :
    Calls Tryd.prog 3 #[.slice A bs.length c] w fun e w' => e = .returned (.bool true) ∧ Below w.heap.size w w' := by
  replace hr := Lib.hid hr
  replace hby := Lib.hid hby
  replace hv := Lib.hid hv
  replace hd := Lib.hid hd
  go_enter Tryd.func3, Tryd.ntmps3
  go_wp2_with fail
  refine (rdec_none A c bs _ hr.out hby.out hl hd.out).mono ?_
  rintro e W1 ⟨hb1, rfl⟩
  have hs1 := hb1.size
  go_upto_region 2 with fail
  have hbA1 := hb1.alloc hb1.size (.cells #[.int .i64 0, .int .i64 0, .int .i64 0, .int .i64 0, .slice none 0 0, .slice none 0 0, .slice none 0 0, .slice none 0 0, .slice none 0 0] 29)
  have hk1 := Blk.new W1 29 #[.int .i64 0, .int .i64 0, .int .i64 0, .int .i64 0, .slice none 0 0, .slice none 0 0, .slice none 0 0, .slice none 0 0, .slice none 0 0]
  have hA1 : Below W1.heap.size W1 (W1.alloc (.cells #[.int .i64 0, .int .i64 0, .int .i64 0, .int .i64 0, .slice none 0 0, .slice none 0 0, .slice none 0 0, .slice none 0 0, .slice none 0 0] 29)) := (Below.refl _ _).alloc (Nat.le_refl _) _
  generalize (W1.alloc (.cells #[.int .i64 0, .int .i64 0, .int .i64 0, .int .i64 0, .slice none 0 0, .slice none 0 0, .slice none 0 0, .slice none 0 0, .slice none 0 0] 29)) = B1 at *
  have lk1 := hk1.lt
  have hr1 : RD B1 B1.heap.size 1 A bs.length (bs.map (.int .u8)) := (hr.out.below hbA1).more hbA1.size
  replace hr1 := Lib.hid hr1
  have hsA1 := hbA1.size
  replace hbA1 := Lib.hid hbA1
  replace hk1 := Lib.hid hk1
  clear hb1 hA1
  go_wp2_with fail
  refine (pdec_none A c bs _ hr1.out hby.out hl hd.out).mono ?_
  rintro e W2 ⟨hb2, rfl⟩
  have hs2 := hb2.size
  go_upto_region 6 with fail
  have hbA2 := hb2.alloc hb2.size (.cells #[.int .i64 0, .int .i64 0, .int .i64 0, .int .i64 0, .slice none 0 0, .slice none 0 0, .slice none 0 0, .slice none 0 0, .slice none 0 0] 29)
  have hk2 := Blk.new W2 29 #[.int .i64 0, .int .i64 0, .int .i64 0, .int .i64 0, .slice none 0 0, .slice none 0 0, .slice none 0 0, .slice none 0 0, .slice none 0 0]
  have hA2 : Below W2.heap.size W2 (W2.alloc (.cells #[.int .i64 0, .int .i64 0, .int .i64 0, .int .i64 0, .slice none 0 0, .slice none 0 0, .slice none 0 0, .slice none 0 0, .slice none 0 0] 29)) := (Below.refl _ _).alloc (Nat.le_refl _) _
  generalize (W2.alloc (.cells #[.int .i64 0, .int .i64 0, .int .i64 0, .int .i64 0, .slice none 0 0, .slice none 0 0, .slice none 0 0, .slice none 0 0, .slice none 0 0] 29)) = B2 at *
  have lk2 := hk2.lt
  have hkA := (hk1.out.below hb2 lk1).below hA2 (by omega)
  have hbT : Below w.heap.size w B2 := hbA1.out.trans ((hb2.trans (hA2.mono (by omega))).mono (by omega))
  have hvE := hv.out.below hbT
  have hsT := hbT.size
  replace hbT := Lib.hid hbT
  replace hvE := Lib.hid hvE
  replace hkA := Lib.hid hkA
  replace hk2 := Lib.hid hk2
  clear hk1 hb2 hA2 hbA2
  go_wp2_with fail
  refine (error_err 9 9 _ hvE.out).mono ?_
  rintro e W3 ⟨rfl, hb3⟩
  have hs3 := hb3.size
  have k1 := (hkA.out.below hb3 (by omega))
  have k2 := (hk2.out.below hb3 lk2)
  have a0 := k1.cell 0
  have b0 := k2.cell 0
  have a1 := k1.cell 1
  have b1 := k2.cell 1
  have a2 := k1.cell 2
  have b2 := k2.cell 2
  have a3 := k1.cell 3
  have b3 := k2.cell 3
  have a4 := k1.cell 4
  have b4 := k2.cell 4
  have a5 := k1.cell 5
  have b5 := k2.cell 5
  have a6 := k1.cell 6
  have b6 := k2.cell 6
  have a7 := k1.cell 7
  have b7 := k2.cell 7
  have a8 := k1.cell 8
  have b8 := k2.cell 8
  have hbU := hbT.out.trans (hb3.mono hsT)
  replace hbU := Lib.hid hbU
  have hlk1 := k1.lt
  have hlk2 := k2.lt
  clear k1 k2 hb3
  go_wp2_with fail
  refine (samew_zero _).mono ?_
  rintro e W4 ⟨rfl, hb4⟩
  have hbZ := hbU.out.trans (hb4.mono hbU.out.size)
  replace hbZ := Lib.hid hbZ
  clear a0 b0 a1 b1 a2 b2 a3 b3 a4 b4 a5 b5 a6 b6 a7 b7 a8 b8 hb4
  go_wp2_with fail
  go_ret
  first | exact ⟨rfl, hbZ.out⟩ | exact ⟨by simp, hbZ.out⟩
set_option maxHeartbeats 3200000 in
set_option maxRecDepth 100000 in
theorem wdecodes_some (A : Option Addr) (c : Nat) (bs : List Int) (w : World) (hv : HV w) (hr : RD w w.heap.size 1 A bs.length (bs.map (.int .u8))) (hby : ∀ x ∈ bs, Byte x) (hl : bs.length ≤ 9223372036854775807) (p : Nat) (hd : (dJ bs).2 = some p) :
    Calls Tryd.prog 3 #[.slice A bs.length c] w fun e w' => e = .returned (.bool true) ∧ Below w.heap.size w w' := by
  have hsh := dW_short bs
  obtain ⟨q1, q2, q3, q4, q5⟩ : (dW bs).field.ground.length ≤ 100000000000000 ∧ (dW bs).field.ore.length ≤ 100000000000000 ∧ (dW bs).gold.length ≤ 100000000000000 ∧ (dW bs).units.length ≤ 100000000000000 ∧ (dW bs).queue.length ≤ 100000000000000 := by
    obtain ⟨h1, h2, h3, h4, h5⟩ := hsh
    omega
  clear hsh
  replace hr := Lib.hid hr
  replace hby := Lib.hid hby
  replace hv := Lib.hid hv
  replace hd := Lib.hid hd
  go_enter Tryd.func3, Tryd.ntmps3
  go_wp2_with fail
  refine (rdec_some A c bs _ p hr.out hby.out hl hd.out).mono ?_
  rintro e W1 ⟨hb1, s1, rfl, hV1⟩
  generalize hy : dW bs = y at *
  replace hy := Lib.hid hy
  replace hV1 := Lib.hid hV1
  unfold wV
  have hs1 := hb1.size
  go_upto_region 2 with fail
  have hbA1 := hb1.alloc hb1.size (.cells #[.int .i64 y.turn, .int .i64 y.next, .int .i64 y.field.wide, .int .i64 y.field.high, .slice s1.field.ground.A y.field.ground.length s1.field.ground.c, .slice s1.field.ore.A y.field.ore.length s1.field.ore.c, .slice s1.gold.A y.gold.length s1.gold.c, .slice s1.units.A y.units.length s1.units.c, .slice s1.queue.A y.queue.length s1.queue.c] 29)
  have hk1 := Blk.new W1 29 #[.int .i64 y.turn, .int .i64 y.next, .int .i64 y.field.wide, .int .i64 y.field.high, .slice s1.field.ground.A y.field.ground.length s1.field.ground.c, .slice s1.field.ore.A y.field.ore.length s1.field.ore.c, .slice s1.gold.A y.gold.length s1.gold.c, .slice s1.units.A y.units.length s1.units.c, .slice s1.queue.A y.queue.length s1.queue.c]
  have hA1 : Below W1.heap.size W1 (W1.alloc (.cells #[.int .i64 y.turn, .int .i64 y.next, .int .i64 y.field.wide, .int .i64 y.field.high, .slice s1.field.ground.A y.field.ground.length s1.field.ground.c, .slice s1.field.ore.A y.field.ore.length s1.field.ore.c, .slice s1.gold.A y.gold.length s1.gold.c, .slice s1.units.A y.units.length s1.units.c, .slice s1.queue.A y.queue.length s1.queue.c] 29)) := (Below.refl _ _).alloc (Nat.le_refl _) _
  generalize (W1.alloc (.cells #[.int .i64 y.turn, .int .i64 y.next, .int .i64 y.field.wide, .int .i64 y.field.high, .slice s1.field.ground.A y.field.ground.length s1.field.ground.c, .slice s1.field.ore.A y.field.ore.length s1.field.ore.c, .slice s1.gold.A y.gold.length s1.gold.c, .slice s1.units.A y.units.length s1.units.c, .slice s1.queue.A y.queue.length s1.queue.c] 29)) = B1 at *
  have lk1 := hk1.lt
  have hr1 : RD B1 B1.heap.size 1 A bs.length (bs.map (.int .u8)) := (hr.out.below hbA1).more hbA1.size
  replace hr1 := Lib.hid hr1
  have hV1' : WRd B1 W1.heap.size s1 y := hV1.out.below hA1
  replace hV1' := Lib.hid hV1'
  have hsA1 := hbA1.size
  replace hbA1 := Lib.hid hbA1
  replace hk1 := Lib.hid hk1
  clear hb1 hA1
  go_wp2_with fail
  refine (pdec_some A c bs _ p hr1.out hby.out hl hd.out).mono ?_
  rintro e W2 ⟨hb2, s2, rfl, hV2⟩
  rw [hy.out] at hV2 ⊢
  replace hV2 := Lib.hid hV2
  unfold wV
  have hs2 := hb2.size
  go_upto_region 6 with fail
  have hbA2 := hb2.alloc hb2.size (.cells #[.int .i64 y.turn, .int .i64 y.next, .int .i64 y.field.wide, .int .i64 y.field.high, .slice s2.field.ground.A y.field.ground.length s2.field.ground.c, .slice s2.field.ore.A y.field.ore.length s2.field.ore.c, .slice s2.gold.A y.gold.length s2.gold.c, .slice s2.units.A y.units.length s2.units.c, .slice s2.queue.A y.queue.length s2.queue.c] 29)
  have hk2 := Blk.new W2 29 #[.int .i64 y.turn, .int .i64 y.next, .int .i64 y.field.wide, .int .i64 y.field.high, .slice s2.field.ground.A y.field.ground.length s2.field.ground.c, .slice s2.field.ore.A y.field.ore.length s2.field.ore.c, .slice s2.gold.A y.gold.length s2.gold.c, .slice s2.units.A y.units.length s2.units.c, .slice s2.queue.A y.queue.length s2.queue.c]
  have hA2 : Below W2.heap.size W2 (W2.alloc (.cells #[.int .i64 y.turn, .int .i64 y.next, .int .i64 y.field.wide, .int .i64 y.field.high, .slice s2.field.ground.A y.field.ground.length s2.field.ground.c, .slice s2.field.ore.A y.field.ore.length s2.field.ore.c, .slice s2.gold.A y.gold.length s2.gold.c, .slice s2.units.A y.units.length s2.units.c, .slice s2.queue.A y.queue.length s2.queue.c] 29)) := (Below.refl _ _).alloc (Nat.le_refl _) _
  generalize (W2.alloc (.cells #[.int .i64 y.turn, .int .i64 y.next, .int .i64 y.field.wide, .int .i64 y.field.high, .slice s2.field.ground.A y.field.ground.length s2.field.ground.c, .slice s2.field.ore.A y.field.ore.length s2.field.ore.c, .slice s2.gold.A y.gold.length s2.gold.c, .slice s2.units.A y.units.length s2.units.c, .slice s2.queue.A y.queue.length s2.queue.c] 29)) = B2 at *
  have lk2 := hk2.lt
  have hkA := (hk1.out.below hb2 lk1).below hA2 (by omega)
  have hV1'' : WRd B2 B2.heap.size s1 y := ((hV1'.out.below (hb2.mono (by omega))).below (hA2.mono (by omega))).more (by have := hA2.size; omega)
  have hV2' : WRd B2 B2.heap.size s2 y := (hV2.out.below hA2).more hA2.size
  replace hV1'' := Lib.hid hV1''
  replace hV2' := Lib.hid hV2'
  have hbT : Below w.heap.size w B2 := hbA1.out.trans ((hb2.trans (hA2.mono (by omega))).mono (by omega))
  have hvE := hv.out.below hbT
  have hsT := hbT.size
  replace hbT := Lib.hid hbT
  replace hvE := Lib.hid hvE
  replace hkA := Lib.hid hkA
  replace hk2 := Lib.hid hk2
  clear hk1 hb2 hA2 hbA2
  go_wp2_with fail
  refine (error_nil 0 _).mono ?_
  rintro e W3 ⟨rfl, rfl⟩
  have hb3 : Below B2.heap.size B2 B2 := Below.refl _ _
  have hs3 := hb3.size
  have k1 := (hkA.out.below hb3 (by omega))
  have k2 := (hk2.out.below hb3 lk2)
  have a0 := k1.cell 0
  have b0 := k2.cell 0
  have a1 := k1.cell 1
  have b1 := k2.cell 1
  have a2 := k1.cell 2
  have b2 := k2.cell 2
  have a3 := k1.cell 3
  have b3 := k2.cell 3
  have a4 := k1.cell 4
  have b4 := k2.cell 4
  have a5 := k1.cell 5
  have b5 := k2.cell 5
  have a6 := k1.cell 6
  have b6 := k2.cell 6
  have a7 := k1.cell 7
  have b7 := k2.cell 7
  have a8 := k1.cell 8
  have b8 := k2.cell 8
  have hW1 := (hV1''.out.below hb3).more hb3.size
  have hW2 := (hV2'.out.below hb3).more hb3.size
  replace hW1 := Lib.hid hW1
  replace hW2 := Lib.hid hW2
  have hbU := hbT.out.trans (hb3.mono hsT)
  replace hbU := Lib.hid hbU
  have hlk1 := k1.lt
  have hlk2 := k2.lt
  clear k1 k2 hb3
  go_wp2_with fail
  refine (samew_eq s2 s1 y _ _ hW2.out hW1.out q1 q2 q3 q4 q5 (Nat.le_refl _)).mono ?_
  rintro e W4 ⟨rfl, hb4⟩
  have hbZ := hbU.out.trans (hb4.mono hbU.out.size)
  replace hbZ := Lib.hid hbZ
  clear a0 b0 a1 b1 a2 b2 a3 b3 a4 b4 a5 b5 a6 b6 a7 b7 a8 b8 hb4
  go_wp2_with fail
  go_ret
  first | exact ⟨rfl, hbZ.out⟩ | exact ⟨by simp, hbZ.out⟩
theorem wdecodes_walk (a0 : Option Addr) (len0 cap0 : Nat) (z0 : List Int) (w : World) (hv : HV w) (w0 : IsRow .u8 w a0 len0 cap0 z0) :
    Calls Tryd.prog 3 #[.slice a0 len0 cap0] w fun e w' => e = .returned (.bool true) ∧ Below w.heap.size w w' := by
  obtain ⟨xs, rfl, hr0, hw0, hm, _⟩ := isRow_rd w0
  have hl : xs.length ≤ 9223372036854775807 := by unfold maxLen at hm; omega
  have hb : ∀ x ∈ xs, Byte x := fun x hx => by have := bounds_u8 (hw0 x hx); unfold Byte; omega
  cases hd : (dJ xs).2 with
  | none => exact wdecodes_none a0 cap0 xs w hv hr0 hb hl hd
  | some p => exact wdecodes_some a0 cap0 xs w hv hr0 hb hl p hd
end Go.Proofs.YtkngommlclcikaaDoor
