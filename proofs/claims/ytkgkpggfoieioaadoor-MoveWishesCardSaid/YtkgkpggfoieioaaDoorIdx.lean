import Derived.Test.YtkgkpggfoieioaaDoorPlainQ
import Derived.Test.YtkgkpggfoieioaaDoorMrgc
import Derived.Laws.StandIn
import Derived.Lib.Bytealg
namespace Go.Proofs.YtkgkpggfoieioaaDoor
set_option linter.unusedVariables false
open Go.RowKit
theorem ib_run (s : ByteArray) (c : Int) (w : World) : (callFunc 174 #[.string s, .int .u8 c]).run Tryd.prog w = .ok (.value (.int .i64 (Lib.indexByte s.data.toList c.toNat.toUInt8))) w := by
  rw [run_callFunc_indexByte Tryd.func174 (by kernel_rfl) (by kernel_rfl) (by kernel_rfl) (by kernel_rfl), Lib.run_indexByteString]
  rfl
theorem ib2_any (s : ByteArray) (c : Int) (w : World) :
    Calls Tryd.prog 153 #[.string s, .int .u8 c] w fun e w' => e = .returned (.int .i64 (Lib.indexByte s.data.toList c.toNat.toUInt8)) ∧ w = w' := by
  have hd := fun w => ib_run s c w
  go_enter Tryd.func153, Tryd.ntmps153
  go_wp2_with fail
  go_ret
  exact ⟨rfl, rfl⟩
theorem ib3_any (s : ByteArray) (c : Int) (w : World) :
    Calls Tryd.prog 119 #[.string s, .int .u8 c] w fun e w' => e = .returned (.int .i64 (Lib.indexByte s.data.toList c.toNat.toUInt8)) ∧ w = w' := by
  go_enter Tryd.func119, Tryd.ntmps119
  go_wp2_with fail
  refine (ib2_any s c w).mono ?_
  rintro e w' ⟨rfl, rfl⟩
  go_wp2_with fail
  go_ret
  exact ⟨rfl, rfl⟩
def sigS : ByteArray := ⟨#[46, 35, 126, 94]⟩
/-- The sign's ground, but for digits. -/
def gSg (b : Int) : Int := if b = 46 then 0 else if b = 35 then 1 else if b = 126 then 2 else if b = 94 then 3 else -1
theorem sig_nat : ∀ b : Fin 256, Lib.indexByte [46, 35, 126, 94] ((b.val : Nat).toUInt8) = gSg ((b.val : Nat) : Int) := by decide +kernel
theorem sig_any (b : Nat) (hb : b < 256) (w : World) :
    Calls Tryd.prog 119 #[.string ⟨#[46, 35, 126, 94]⟩, .int .u8 (b : Int)] w fun e w' => e = .returned (.int .i64 (gSg b)) ∧ w = w' := by
  refine (ib3_any ⟨#[46, 35, 126, 94]⟩ b w).mono ?_
  rintro e w' ⟨rfl, rfl⟩
  have := sig_nat ⟨b, hb⟩
  exact ⟨congrArg (fun z => Ending.returned (Value.int .i64 z)) this, rfl⟩
theorem gSg_bd (b : Int) : -1 ≤ gSg b ∧ gSg b ≤ 3 := by
  unfold gSg
  repeat' split
  all_goals omega
theorem gOf_lo (b : Int) (h : ¬(49 ≤ b ∧ b ≤ 57)) : gOf b = gSg b ∧ oOf b = 0 := by unfold gOf gSg oOf; rw [if_neg h, if_neg h]; exact ⟨rfl, rfl⟩
theorem gOf_hi (b : Int) (h : 49 ≤ b ∧ b ≤ 57) : gOf b = 0 ∧ oOf b = 10 * (b - 48) := by unfold gOf oOf; rw [if_pos h, if_pos h]; exact ⟨rfl, rfl⟩
end Go.Proofs.YtkgkpggfoieioaaDoor
