import Derived.Test.YtkgkpggfoieioaaGreatDoorMrgf
import Derived.Test.YtkgkpggfoieioaaGreatDoorWish
namespace Go.Proofs.YtkgkpggfoieioaaGreatDoor
set_option linter.unusedVariables false
open Go.RowKit
/-! The reference's toward. -/
set_option maxHeartbeats 1600000 in
set_option maxRecDepth 100000 in
theorem rtoward_any (s : SW) (x : GW) (a b : Nat) (fl : Bool) (w : World) (hW : WOk w s x) (hg : Good x.field) (ha : a < x.field.ground.length) (hb : b < x.field.ground.length) :
    Calls Tryz.prog 45 #[.agg #[.int .i64 x.turn, .int .i64 x.next, .int .i64 x.field.wide, .int .i64 x.field.high, .slice s.field.ground.A x.field.ground.length s.field.ground.c, .slice s.field.ore.A x.field.ore.length s.field.ore.c, .slice s.gold.A x.gold.length s.gold.c, .slice s.units.A x.units.length s.units.c, .slice s.queue.A x.queue.length s.queue.c], .int .i64 (a : Int), .int .i64 (b : Int), .bool fl] w fun e w' => e = .returned (.int .i64 ((towardL x.field fl a b : Nat) : Int)) ∧ Below w.heap.size w w' := by
  have hkb : Blk (w.alloc (.cells #[.int .i64 x.turn, .int .i64 x.next, .int .i64 x.field.wide, .int .i64 x.field.high, .slice s.field.ground.A x.field.ground.length s.field.ground.c, .slice s.field.ore.A x.field.ore.length s.field.ore.c, .slice s.gold.A x.gold.length s.gold.c, .slice s.units.A x.units.length s.units.c, .slice s.queue.A x.queue.length s.queue.c] 29)) w.heap.size 29 #[.int .i64 x.turn, .int .i64 x.next, .int .i64 x.field.wide, .int .i64 x.field.high, .slice s.field.ground.A x.field.ground.length s.field.ground.c, .slice s.field.ore.A x.field.ore.length s.field.ore.c, .slice s.gold.A x.gold.length s.gold.c, .slice s.units.A x.units.length s.units.c, .slice s.queue.A x.queue.length s.queue.c] := Blk.new _ _ _
  have hbe : Below w.heap.size w (w.alloc (.cells #[.int .i64 x.turn, .int .i64 x.next, .int .i64 x.field.wide, .int .i64 x.field.high, .slice s.field.ground.A x.field.ground.length s.field.ground.c, .slice s.field.ore.A x.field.ore.length s.field.ore.c, .slice s.gold.A x.gold.length s.gold.c, .slice s.units.A x.units.length s.units.c, .slice s.queue.A x.queue.length s.queue.c] 29)) := (Below.refl _ _).alloc (Nat.le_refl _) _
  have hWn := hW.below hbe
  have hgl : x.field.ground.length ≤ 144 := by have := hg.len; omega
  obtain ⟨R, hR⟩ : ∃ R, towardL x.field fl a b = R := ⟨_, rfl⟩
  rw [hR]
  unfold towardL at hR
  replace hR := Lib.hid hR
  replace hkb := Lib.hid hkb
  replace hbe := Lib.hid hbe
  replace hWn := Lib.hid hWn
  replace hg := Lib.hid hg
  clear hW
  go_enter Tryz.func45, Tryz.ntmps45
  go_upto_region 1 with fail
  generalize (w.alloc (.cells #[.int .i64 x.turn, .int .i64 x.next, .int .i64 x.field.wide, .int .i64 x.field.high, .slice s.field.ground.A x.field.ground.length s.field.ground.c, .slice s.field.ore.A x.field.ore.length s.field.ore.c, .slice s.gold.A x.gold.length s.gold.c, .slice s.units.A x.units.length s.units.c, .slice s.queue.A x.queue.length s.queue.c] 29)) = W at *
  have m2 : W.cell? ⟨w.heap.size, 2, none⟩ = some (.int .i64 x.field.wide) := hkb.out.cell 2
  have m3 : W.cell? ⟨w.heap.size, 3, none⟩ = some (.int .i64 x.field.high) := hkb.out.cell 3
  have m4 : W.cell? ⟨w.heap.size, 4, none⟩ = some (.slice s.field.ground.A x.field.ground.length s.field.ground.c) := hkb.out.cell 4
  have m5 : W.cell? ⟨w.heap.size, 5, none⟩ = some (.slice s.field.ore.A x.field.ore.length s.field.ore.c) := hkb.out.cell 5
  have ml := hkb.out.lt
  have hto : Calls Tryz.prog 46 #[.agg #[.int .i64 x.field.wide, .int .i64 x.field.high, .slice s.field.ground.A x.field.ground.length s.field.ground.c, .slice s.field.ore.A x.field.ore.length s.field.ore.c], .int .i64 (b : Int), .bool fl] W (SprPost W x.field b (costTo x.field fl)) := rto_any s.field x.field b fl W hWn.out.2.2.1 hg.out hb
  replace hto := Lib.hid hto
  go_upto_region 2 with (go_at_call 46; refine hto.out.mono ?_; clear m2 m3 m4 m5 ml; rintro e W2 ⟨g, far, rfl, hd, hgg, hkg, hb2⟩)
  clear hto
  have hDT : DTo x.field fl b far := hd
  have hr := hR.out
  rw [toF_eq hDT] at hr
  have hbf := hbe.out.trans (hb2.mono hbe.out.size)
  have hk2 := hkb.out.below hb2 hkb.out.lt
  have hW2 := hWn.out.below hb2
  have hlow := hDT.low
  have hlen := hDT.len
  have cf := hkg.atI a (by rw [hlen]; exact ha)
  have hai : (a : Int) < (x.field.ground.length : Int) := by omega
  have hbd : ∀ k, k < x.field.ground.length → -1 ≤ at0 far k ∧ at0 far k ≤ 1000 := fun k hk => by have := hlow k hk; omega
  clear hb2 hgg hd hlow hbe hkb hWn hR
  replace hbf := Lib.hid hbf
  replace hk2 := Lib.hid hk2
  replace hW2 := Lib.hid hW2
  replace hlen := Lib.hid hlen
  replace hbd := Lib.hid hbd
  replace hDT := Lib.hid hDT
  have gl := hkg.lt
  replace hkg := Lib.hid hkg
  by_cases d0 : at0 far a < 0
  · rw [if_pos d0] at hr
    subst hr
    have f0 : decide (at0 far a < 0) = true := decide_eq_true d0
    generalize at0 far a = d at *
    go_wp2_with fail
    go_ret
    exact ⟨rfl, hbf.out⟩
  · rw [if_neg d0] at hr
    have f0 : decide (at0 far a < 0) = false := decide_eq_false d0
    have hnx : Calls Tryz.prog 67 #[.agg #[.int .i64 x.field.wide, .int .i64 x.field.high, .slice s.field.ground.A x.field.ground.length s.field.ground.c, .slice s.field.ore.A x.field.ore.length s.field.ore.c], .slice (some ⟨g, 0, none⟩) x.field.ground.length x.field.ground.length, .int .i64 (a : Int), .bool fl] W2 fun e w' => e = .returned (.int .i64 ((nextL x.field fl far a : Nat) : Int)) ∧ Below W2.heap.size W2 w' := rnext_any s.field x.field fl g far a W2 hW2.out.2.2.1 hg.out ha hkg.out hlen.out hbd.out
    rw [hr] at hnx
    replace hnx := Lib.hid hnx
    clear hr
    generalize at0 far a = d at *
    have m2 : W2.cell? ⟨w.heap.size, 2, none⟩ = some (.int .i64 x.field.wide) := hk2.out.cell 2
    have m3 : W2.cell? ⟨w.heap.size, 3, none⟩ = some (.int .i64 x.field.high) := hk2.out.cell 3
    have m4 : W2.cell? ⟨w.heap.size, 4, none⟩ = some (.slice s.field.ground.A x.field.ground.length s.field.ground.c) := hk2.out.cell 4
    have m5 : W2.cell? ⟨w.heap.size, 5, none⟩ = some (.slice s.field.ore.A x.field.ore.length s.field.ore.c) := hk2.out.cell 5
    have ml := hk2.out.lt
    go_wp2_with fail
    refine hnx.out.mono ?_
    clear m2 m3 m4 m5 ml
    rintro e W3 ⟨rfl, hb3⟩
    have hbg := hbf.out.trans (hb3.mono hbf.out.size)
    replace hbg := Lib.hid hbg
    clear hb3
    go_wp2_with fail
    go_ret
    exact ⟨rfl, hbg.out⟩
end Go.Proofs.YtkgkpggfoieioaaGreatDoor
