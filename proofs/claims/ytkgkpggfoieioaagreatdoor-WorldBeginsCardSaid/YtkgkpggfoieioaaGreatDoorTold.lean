import Derived.Test.YtkgkpggfoieioaaGreatDoorAs
import Derived.Test.YtkgkpggfoieioaaGreatDoorWords
import Derived.WalkLawsBesides
import Derived.Outline
import Derived.Lib.Hide
namespace Go.Proofs.YtkgkpggfoieioaaGreatDoor
set_option linter.unusedVariables false
open Go.RowKit
/-- The variable errors.errorType, as the program lays it. -/
def HV (w : World) : Prop := w.cell? ⟨0, 0, none⟩ = some (.iface 145 (.agg #[.pointer (some ⟨4, 33, none⟩)]))
theorem HV.lt {w : World} (h : HV w) : 0 < w.heap.size := by
  rcases Nat.eq_zero_or_pos w.heap.size with h0 | h'
  · unfold HV at h; simp [World.cell?, h0] at h
  · exact h'
theorem HV.below {w w' : World} (h : HV w) (hb : Below w.heap.size w w') : HV w' := (hb.cell (p := ⟨0, 0, none⟩) h.lt).trans h
theorem HV.belowB {w w' : World} {B : Nat} (h : HV w) (hb : Below B w w') (hB : 0 < B) : HV w' := (hb.cell (p := ⟨0, 0, none⟩) hB).trans h
theorem HV.drewN {w : World} (h : HV w) (n : Nat) : HV (w.drewN n) := h
theorem HV.alloc {w : World} (h : HV w) (o : Obj) : HV (w.alloc o) := (World.cell?_alloc_lt w o ⟨0, 0, none⟩ h.lt).trans h
theorem HV.setCell {w : World} (h : HV w) {p : Addr} (hp : 0 < p.block) (u : Value) : HV (w.setCell p u) :=
  (World.cell?_setCell_other w p _ u (by rintro rfl; exact absurd hp (by simp))).trans h
theorem HV.grown {w w' : World} {row : Option Nat} (h : HV w) (hg : w.grownBy w' row) (hr : row ≠ some 0) : HV w' :=
  (World.cell?_of_block (w := w) (w' := w') (a := ⟨0, 0, none⟩) (hg.block 0 h.lt (fun e => hr e.symm))).trans h
theorem told_nil (w : World) : Calls Tryz.prog 35 #[.nilIface] w fun e w' => e = .returned (.int .i64 0) ∧ w = w' := by
  go_enter Tryz.func35, Tryz.ntmps35
  go_wp2_with fail
  go_ret
  exact ⟨rfl, rfl⟩
set_option maxRecDepth 100000 in
theorem told_err (k : Int) (w : World) (hv : HV w) : Calls Tryz.prog 35 #[.iface 65 (.int .i64 k)] w fun e w' => e = .returned (.int .i64 k) ∧ Below w.heap.size w w' := by
  have HVH := Lib.hid hv
  clear hv
  go_enter Tryz.func35, Tryz.ntmps35
  go_wp2_with fail
  refine (as_hit k ⟨w.heap.size, 0, none⟩ (.int .i64 0) _ (HVH.out.alloc _) (by simp) (by simp)).mono ?_
  rintro e w' ⟨rfl, hw⟩
  have hc : w'.cell? ⟨w.heap.size, 0, none⟩ = some (.int .i64 k) := by
    rw [hw]
    exact ((((((Blk.new w 65 #[.int .i64 0]).alloc _).alloc _).alloc _).alloc _).set_ 0 (.int .i64 k)).cell 0
  have hb : Below w.heap.size w w' := by
    rw [hw]
    exact ((((((Below.refl _ _).alloc (Nat.le_refl _) _).alloc (by simp) _).alloc (by simp; omega) _).alloc (by simp; omega) _).alloc (by simp; omega) _).setCell (by simp) _
  clear hw
  go_wp2_with fail
  go_ret
  exact ⟨rfl, hb⟩
theorem error_nil (n : Int) (w : World) : Calls Tryz.prog 9 #[.nilIface, .int .i64 n] w fun e w' => e = .returned (.bool ((0 : Int) == n)) ∧ w = w' := by
  go_enter Tryz.func9, Tryz.ntmps9
  go_wp2_with fail
  refine (told_nil _).mono ?_
  rintro e w' ⟨rfl, rfl⟩
  go_wp2_with fail
  go_ret
  exact ⟨rfl, rfl⟩
theorem error_err (k n : Int) (w : World) (hv : HV w) : Calls Tryz.prog 9 #[.iface 65 (.int .i64 k), .int .i64 n] w fun e w' => e = .returned (.bool (k == n)) ∧ Below w.heap.size w w' := by
  have HVH := Lib.hid hv
  clear hv
  go_enter Tryz.func9, Tryz.ntmps9
  go_wp2_with fail
  refine (told_err k _ HVH.out).mono ?_
  rintro e w' ⟨rfl, hb⟩
  go_wp2_with fail
  go_ret
  exact ⟨rfl, hb⟩
/-- What an error is: nil, or one of the numbers. -/
def errT (k : Int) : Value := if k = 0 then .nilIface else .iface 65 (.int .i64 k)
theorem error_same (k : Int) (w : World) (hv : HV w) : Calls Tryz.prog 9 #[errT k, .int .i64 k] w fun e w' => e = .returned (.bool true) ∧ Below w.heap.size w w' := by
  by_cases h : k = 0
  · subst h
    refine (error_nil 0 w).mono ?_
    rintro e w' ⟨rfl, rfl⟩
    exact ⟨rfl, Below.refl _ _⟩
  · unfold errT
    rw [if_neg h]
    refine (error_err k k w hv).mono ?_
    rintro e w' ⟨rfl, hb⟩
    exact ⟨by simp, hb⟩
end Go.Proofs.YtkgkpggfoieioaaGreatDoor
