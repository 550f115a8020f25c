import Derived.Test.YtkgkpggfoieioaaDoorSumW
import Derived.Test.YtkgkpggfoieioaaDoorRefWc
import Derived.Test.YtkgkpggfoieioaaDoorTold
import Derived.Test.YtkgkpggfoieioaaDoorStr
namespace Go.Proofs.YtkgkpggfoieioaaDoor
set_option linter.unusedVariables false
open Go.RowKit
/-! WorldChecks. -/
/-- A world in a box, and kinds. -/
structure WBx (w0 w : World) (sK : SL) (L : List GK) (s : SW) (x : GW) (wb : Nat) : Prop where
  b : Below w0.heap.size w0 w
  kw : Blk w wb 55 #[.int .i64 x.turn, .int .i64 x.next, .int .i64 x.field.wide, .int .i64 x.field.high, .slice s.field.ground.A x.field.ground.length s.field.ground.c, .slice s.field.ore.A x.field.ore.length s.field.ore.c, .slice s.gold.A x.gold.length s.gold.c, .slice s.units.A x.units.length s.units.c, .slice s.queue.A x.queue.length s.queue.c]
  ks : KS w0 w0.heap.size sK L
  wo : WOk w0 s x
  hv : HV w0
section
variable {w0 w w' : World} {sK : SL} {L : List GK} {s : SW} {x : GW} {wb : Nat}
theorem WBx.below (h : WBx w0 w sK L s x wb) (hb : Below w.heap.size w w') : WBx w0 w' sK L s x wb := ⟨h.b.trans (hb.mono h.b.size), h.kw.below hb h.kw.lt, h.ks, h.wo, h.hv⟩
theorem WBx.ks_ (h : WBx w0 w sK L s x wb) : KS w w.heap.size sK L := (h.ks.below h.b).more h.b.size
theorem WBx.wo_ (h : WBx w0 w sK L s x wb) : WOk w s x := h.wo.below h.b
theorem WBx.hv_ (h : WBx w0 w sK L s x wb) : HV w := h.hv.below h.b
theorem WBx.cells (h : WBx w0 w sK L s x wb) : w.cell? ⟨wb, 0, none⟩ = some (.int .i64 x.turn) ∧ w.cell? ⟨wb, 1, none⟩ = some (.int .i64 x.next) ∧ w.cell? ⟨wb, 2, none⟩ = some (.int .i64 x.field.wide) ∧ w.cell? ⟨wb, 3, none⟩ = some (.int .i64 x.field.high) ∧ w.cell? ⟨wb, 4, none⟩ = some (.slice s.field.ground.A x.field.ground.length s.field.ground.c) ∧ w.cell? ⟨wb, 5, none⟩ = some (.slice s.field.ore.A x.field.ore.length s.field.ore.c) ∧ w.cell? ⟨wb, 6, none⟩ = some (.slice s.gold.A x.gold.length s.gold.c) ∧ w.cell? ⟨wb, 7, none⟩ = some (.slice s.units.A x.units.length s.units.c) ∧ w.cell? ⟨wb, 8, none⟩ = some (.slice s.queue.A x.queue.length s.queue.c) ∧ wb < w.heap.size := ⟨h.kw.cell 0, h.kw.cell 1, h.kw.cell 2, h.kw.cell 3, h.kw.cell 4, h.kw.cell 5, h.kw.cell 6, h.kw.cell 7, h.kw.cell 8, h.kw.lt⟩
end
set_option maxHeartbeats 6400000 in
set_option maxRecDepth 100000 in
theorem worldChecks_in (sK : SL) (L : List GK) (s : SW) (x : GW) (id : Int) (w : World) (hv : HV w) (hK : KS w w.heap.size sK L) (hW : WOk w s x) (hf : FewB x) :
    Calls Tryd.prog 6 #[.slice sK.A L.length sK.c, .agg #[.int .i64 x.turn, .int .i64 x.next, .int .i64 x.field.wide, .int .i64 x.field.high, .slice s.field.ground.A x.field.ground.length s.field.ground.c, .slice s.field.ore.A x.field.ore.length s.field.ore.c, .slice s.gold.A x.gold.length s.gold.c, .slice s.units.A x.units.length s.units.c, .slice s.queue.A x.queue.length s.queue.c], .int .i64 id] w fun e w' => e = .returned (.bool true) ∧ Below w.heap.size w w' := by
  have hlen := encL_len hf (hW.nums hf)
  have HBy := Lib.hid (encL_byte x)
  have hB : WBx w (w.alloc (.cells #[.int .i64 x.turn, .int .i64 x.next, .int .i64 x.field.wide, .int .i64 x.field.high, .slice s.field.ground.A x.field.ground.length s.field.ground.c, .slice s.field.ore.A x.field.ore.length s.field.ore.c, .slice s.gold.A x.gold.length s.gold.c, .slice s.units.A x.units.length s.units.c, .slice s.queue.A x.queue.length s.queue.c] 55)) sK L s x w.heap.size := ⟨(Below.refl _ _).alloc (Nat.le_refl _) _, Blk.new _ _ _, hK, hW, hv⟩
  replace hB := Lib.hid hB
  replace hf := Lib.hid hf
  clear hK hW hv
  go_enter Tryd.func6, Tryd.ntmps6
  go_upto_region 1 with fail
  generalize (w.alloc (.cells #[.int .i64 x.turn, .int .i64 x.next, .int .i64 x.field.wide, .int .i64 x.field.high, .slice s.field.ground.A x.field.ground.length s.field.ground.c, .slice s.field.ore.A x.field.ore.length s.field.ore.c, .slice s.gold.A x.gold.length s.gold.c, .slice s.units.A x.units.length s.units.c, .slice s.queue.A x.queue.length s.queue.c] 55)) = W at *
  obtain ⟨wb, hwb⟩ : ∃ wb, w.heap.size = wb := ⟨_, rfl⟩
  rw [hwb] at hB
  rw [hwb]
  replace hB : WBx w W sK L s x wb := hB.out
  replace hB := Lib.hid hB
  replace hwb := Lib.hid hwb
  obtain ⟨E, hE⟩ : ∃ E, worldE L x = E := ⟨_, rfl⟩
  have hc : Calls Tryd.prog 30 #[.slice sK.A L.length sK.c, .agg #[.int .i64 x.turn, .int .i64 x.next, .int .i64 x.field.wide, .int .i64 x.field.high, .slice s.field.ground.A x.field.ground.length s.field.ground.c, .slice s.field.ore.A x.field.ore.length s.field.ore.c, .slice s.gold.A x.gold.length s.gold.c, .slice s.units.A x.units.length s.units.c, .slice s.queue.A x.queue.length s.queue.c]] W fun e w' => e = .returned (.int .i64 (worldE L x)) ∧ Below W.heap.size W w' := rwcheck_any sK L s x W hB.out.ks_ hB.out.wo_
  rw [hE] at hc
  replace hc := Lib.hid hc
  replace hE := Lib.hid hE
  obtain ⟨m0, m1, m2, m3, m4, m5, m6, m7, m8, mll⟩ := hB.out.cells
  go_upto_region 2 with (go_at_call 30; refine hc.out.mono ?_; clear m0 m1 m2 m3 m4 m5 m6 m7 m8 mll; rintro e W2 ⟨rfl, hb⟩)
  clear hc
  replace hB := Lib.hid (hB.out.below hb)
  clear hb
  have hc : Calls Tryd.prog 28 #[.slice sK.A L.length sK.c, .agg #[.int .i64 x.turn, .int .i64 x.next, .int .i64 x.field.wide, .int .i64 x.field.high, .slice s.field.ground.A x.field.ground.length s.field.ground.c, .slice s.field.ore.A x.field.ore.length s.field.ore.c, .slice s.gold.A x.gold.length s.gold.c, .slice s.units.A x.units.length s.units.c, .slice s.queue.A x.queue.length s.queue.c]] W2 fun e w' => e = .returned (errV (worldE L x)) ∧ Below W2.heap.size W2 w' := wcheck_any sK L s x W2 hB.out.ks_ hB.out.wo_
  rw [hE.out] at hc
  replace hc := Lib.hid hc
  obtain ⟨m0, m1, m2, m3, m4, m5, m6, m7, m8, mll⟩ := hB.out.cells
  go_wp2_with fail
  refine hc.out.mono ?_
  clear hc m0 m1 m2 m3 m4 m5 m6 m7 m8 mll
  rintro e W3 ⟨rfl, hb⟩
  replace hB := Lib.hid (hB.out.below hb)
  clear hb
  have hc : Calls Tryd.prog 17 #[errV E, .int .i64 E] W3 fun e w' => e = .returned (.bool true) ∧ Below W3.heap.size W3 w' := error_same E W3 hB.out.hv_
  replace hc := Lib.hid hc
  go_upto_region 3 with (go_at_call 17; refine hc.out.mono ?_; rintro e W4 ⟨rfl, hb⟩)
  clear hc
  replace hB := Lib.hid (hB.out.below hb)
  clear hb
  have hc := enc_any s x W4 hB.out.wo_ hf.out
  replace hc := Lib.hid hc
  obtain ⟨m0, m1, m2, m3, m4, m5, m6, m7, m8, mll⟩ := hB.out.cells
  go_upto_region 4 with (go_at_call 31; refine hc.out.mono ?_; clear m0 m1 m2 m3 m4 m5 m6 m7 m8 mll; rintro e W5 ⟨v1, rfl, ho1, hb⟩; obtain ⟨A1, c1, rfl, _⟩ := own_slice ho1)
  clear hc
  replace hB := Lib.hid (hB.out.below hb)
  have hR1 := RD.of_own ho1
  clear hb ho1
  have hc := rencode_any s x W5 hB.out.wo_ hf.out.g hf.out.o hf.out.d hf.out.u hf.out.q
  replace hc := Lib.hid hc
  replace hR1 := Lib.hid hR1
  obtain ⟨m0, m1, m2, m3, m4, m5, m6, m7, m8, mll⟩ := hB.out.cells
  go_upto_region 5 with (go_at_call 32; refine hc.out.mono ?_; clear m0 m1 m2 m3 m4 m5 m6 m7 m8 mll; rintro e W6 ⟨v2, rfl, ho2, hb⟩; obtain ⟨A2, c2, rfl, _⟩ := own_slice ho2)
  clear hc
  replace hB := Lib.hid (hB.out.below hb)
  have hR2 := RD.of_own ho2
  replace hR1 := Lib.hid ((hR1.out.below hb).more hb.size)
  clear hb ho2
  replace hR2 := Lib.hid hR2
  obtain ⟨SU, hSU⟩ : ∃ SU, sumL (encL x) = SU := ⟨_, rfl⟩
  have hc := wsum_any s x W6 hB.out.wo_ hf.out
  rw [hSU] at hc
  replace hc := Lib.hid hc
  replace hSU := Lib.hid hSU
  obtain ⟨m0, m1, m2, m3, m4, m5, m6, m7, m8, mll⟩ := hB.out.cells
  go_upto_region 6 with (go_at_call 26; refine hc.out.mono ?_; clear m0 m1 m2 m3 m4 m5 m6 m7 m8 mll; rintro e W7 ⟨rfl, hb⟩)
  clear hc
  replace hB := Lib.hid (hB.out.below hb)
  replace hR1 := Lib.hid ((hR1.out.below hb).more hb.size)
  replace hR2 := Lib.hid ((hR2.out.below hb).more hb.size)
  clear hb
  obtain ⟨FI, hFI⟩ : ∃ FI, findId x.units id = FI := ⟨_, rfl⟩
  have hc : Calls Tryd.prog 29 #[.agg #[.int .i64 x.turn, .int .i64 x.next, .int .i64 x.field.wide, .int .i64 x.field.high, .slice s.field.ground.A x.field.ground.length s.field.ground.c, .slice s.field.ore.A x.field.ore.length s.field.ore.c, .slice s.gold.A x.gold.length s.gold.c, .slice s.units.A x.units.length s.units.c, .slice s.queue.A x.queue.length s.queue.c], .int .i64 id] W7 fun e w' => e = .returned (.int .i64 (findId x.units id)) ∧ Below W7.heap.size W7 w' := wfind_any s x id W7 hB.out.wo_
  rw [hFI] at hc
  replace hc := Lib.hid hc
  replace hFI := Lib.hid hFI
  obtain ⟨m0, m1, m2, m3, m4, m5, m6, m7, m8, mll⟩ := hB.out.cells
  go_upto_region 7 with (go_at_call 29; refine hc.out.mono ?_; clear m0 m1 m2 m3 m4 m5 m6 m7 m8 mll; rintro e W8 ⟨rfl, hb⟩)
  clear hc
  replace hB := Lib.hid (hB.out.below hb)
  replace hR1 := Lib.hid ((hR1.out.below hb).more hb.size)
  replace hR2 := Lib.hid ((hR2.out.below hb).more hb.size)
  clear hb
  have hq1 := str_run W8 W8.heap.size A1 (encL x).length c1 (encL x) rfl hR1.out HBy.out
  have hq2 := str_run W8 W8.heap.size A2 (encL x).length c2 (encL x) rfl hR2.out HBy.out
  have hc := rsum_any A2 c2 (encL x) W8.heap.size W8 hR2.out (Nat.le_refl _) HBy.out hlen
  rw [hSU.out] at hc
  have q1 : ((toS (encL x)).toList == (toS (encL x)).toList) = true := by simp
  have q3 : (SU == SU) = true := by simp
  have q4 : (FI == FI) = true := by simp
  generalize toS (encL x) = tS at *
  replace hc := Lib.hid hc
  obtain ⟨m0, m1, m2, m3, m4, m5, m6, m7, m8, mll⟩ := hB.out.cells
  have hc2 : Calls Tryd.prog 34 #[.agg #[.int .i64 x.turn, .int .i64 x.next, .int .i64 x.field.wide, .int .i64 x.field.high, .slice s.field.ground.A x.field.ground.length s.field.ground.c, .slice s.field.ore.A x.field.ore.length s.field.ore.c, .slice s.gold.A x.gold.length s.gold.c, .slice s.units.A x.units.length s.units.c, .slice s.queue.A x.queue.length s.queue.c], .int .i64 id] W8 fun e w' => e = .returned (.int .i64 (findId x.units id)) ∧ Below W8.heap.size W8 w' := rwfind_any s x id W8 hB.out.wo_
  rw [hFI.out] at hc2
  replace hc2 := Lib.hid hc2
  have hbf := hB.out.b
  replace hbf := Lib.hid hbf
  go_wp2_with (first | (go_at_call 33; refine hc.out.mono ?_; rintro e w' ⟨rfl, rfl⟩) | (go_at_call 34; refine hc2.out.mono ?_; rintro e W9 ⟨rfl, hb⟩))
  go_ret
  exact ⟨rfl, hbf.out.trans (hb.mono hbf.out.size)⟩
theorem worldChecks_any (v0 : Value) (x0 : SL × List GK) (v1 : Value) (x1 : SW × GW) (a2 : Int) (w : World) (hv : HV w) (h0 : v0 = .slice x0.1.A x0.2.length x0.1.c ∧ SLK w x0.1 x0.2) (h1 : v1 = .agg (wV x1.1 x1.2).toArray ∧ WOk w x1.1 x1.2) (h2 : (Lit.int .i64 a2).wf = true) (b0 : x0.2.length ≤ 1048576) (b1 : FewB x1.2) :
    Calls Tryd.prog 6 #[v0, v1, .int .i64 a2] w fun e w' => e = .returned (.bool true) ∧ Below w.heap.size w w' := by
  obtain ⟨rfl, hK⟩ := h0
  obtain ⟨rfl, hW⟩ := h1
  exact worldChecks_in x0.1 x0.2 x1.1 x1.2 a2 w hv hK.ks hW b1
end Go.Proofs.YtkgkpggfoieioaaDoor
