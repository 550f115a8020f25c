import Derived.Test.YtkgkpggfoieioaaDoorPlainN
import Derived.Laws.BitsAllLaws
import Derived.IntWalk
namespace Go.Proofs.YtkgkpggfoieioaaDoor
set_option linter.unusedVariables false
/-! What the machine's operations on bits come to, of the numbers that are met. -/
theorem bvn (n a : Nat) (h : a < 2 ^ n) : (BitVec.ofInt n (a : Int)).toNat = a := by
  rw [BitVec.ofInt_natCast, BitVec.toNat_ofNat]; exact Nat.mod_eq_of_lt h
theorem u64_or_nat (a b : Nat) (ha : a < 2 ^ 64) (hb : b < 2 ^ 64) : bits .or .u64 (a : Int) (b : Int) = ((a ||| b : Nat) : Int) := by
  have hx : a ||| b < 2 ^ 64 := Nat.or_lt_two_pow ha hb
  show IntKind.u64.wrap ((BitVec.ofInt 64 (a : Int) ||| BitVec.ofInt 64 (b : Int)).toNat : Int) = _
  rw [BitVec.toNat_or, bvn 64 a ha, bvn 64 b hb, IntKind.wrap_u64]
  omega
/-- A number with a sign made one without. -/
theorem zz_bits (n : Int) (h : -9223372036854775808 ≤ n ∧ n ≤ 9223372036854775807) : bits .xor .u64 (IntKind.u64.wrap (IntKind.u64.wrap n * 2)) (IntKind.u64.wrap (n / 9223372036854775808)) = (zz n : Int) := by
  by_cases h0 : 0 ≤ n
  · have e1 : IntKind.u64.wrap (IntKind.u64.wrap n * 2) = ((2 * n).toNat : Int) := by rw [IntKind.wrap_u64, IntKind.wrap_u64]; omega
    have e2 : IntKind.u64.wrap (n / 9223372036854775808) = ((0 : Nat) : Int) := by rw [IntKind.wrap_u64]; omega
    rw [e1, e2]
    show IntKind.u64.wrap ((BitVec.ofInt 64 ((2 * n).toNat : Int) ^^^ BitVec.ofInt 64 ((0 : Nat) : Int)).toNat : Int) = _
    rw [BitVec.toNat_xor, bvn 64 _ (by omega), bvn 64 _ (by omega), Nat.xor_zero, IntKind.wrap_u64]
    unfold zz
    rw [if_pos h0]; omega
  · have e1 : IntKind.u64.wrap (IntKind.u64.wrap n * 2) = ((2 * n + 18446744073709551616).toNat : Int) := by rw [IntKind.wrap_u64, IntKind.wrap_u64]; omega
    have e2 : IntKind.u64.wrap (n / 9223372036854775808) = ((18446744073709551615 : Nat) : Int) := by rw [IntKind.wrap_u64]; omega
    rw [e1, e2]
    show IntKind.u64.wrap ((BitVec.ofInt 64 ((2 * n + 18446744073709551616).toNat : Int) ^^^ BitVec.ofInt 64 ((18446744073709551615 : Nat) : Int)).toNat : Int) = _
    have e3 : BitVec.ofInt 64 ((18446744073709551615 : Nat) : Int) = BitVec.allOnes 64 := by decide
    rw [e3, BitVec.xor_allOnes, BitVec.toNat_not, bvn 64 _ (by omega), IntKind.wrap_u64]
    unfold zz
    rw [if_neg h0]; omega
theorem low_bits (k : Nat) : IntKind.u8.wrap (k : Int) = ((k % 256 : Nat) : Int) := by rw [IntKind.wrap_u8]; omega
/-- The low seven of a number, with the mark that more follows. -/
theorem or128 (k : Nat) : bits .or .u8 (IntKind.u8.wrap (k : Int)) 128 = ((k % 128 + 128 : Nat) : Int) := by
  rw [low_bits]
  have h : ∀ x : Fin 256, bits .or .u8 ((x.val : Nat) : Int) 128 = ((x.val % 128 + 128 : Nat) : Int) := by decide +kernel
  have := h ⟨k % 256, Nat.mod_lt _ (by omega)⟩
  simp only at this
  rw [this]; omega
theorem or128' (k : Nat) : bits .or .u8 ((k : Int) % 256) 128 = ((k % 128 + 128 : Nat) : Int) := by
  have h := or128 k
  rw [IntKind.wrap_u8] at h
  exact h
theorem and127 (c : Nat) (h : c < 256) : bits .and .u8 (c : Int) 127 = ((c % 128 : Nat) : Int) := by
  have h2 : ∀ x : Fin 256, bits .and .u8 ((x.val : Nat) : Int) 127 = ((x.val % 128 : Nat) : Int) := by decide +kernel
  exact h2 ⟨c, h⟩
theorem or_shift (x d i : Nat) (hx : x < 2 ^ (7 * i)) (hm : d * 2 ^ (7 * i) < 18446744073709551616) (hx2 : x < 18446744073709551616) : bits .or .u64 (x : Int) (IntKind.u64.wrap ((d : Int) * 2 ^ (7 * i))) = ((x + d * 2 ^ (7 * i) : Nat) : Int) := by
  have e : ((d : Int) * 2 ^ (7 * i)) = ((d * 2 ^ (7 * i) : Nat) : Int) := by simp
  rw [e]
  have e2 : IntKind.u64.wrap ((d * 2 ^ (7 * i) : Nat) : Int) = ((d * 2 ^ (7 * i) : Nat) : Int) := by rw [IntKind.wrap_u64]; omega
  rw [e2, u64_or_nat _ _ hx2 hm]
  congr 1
  have := Nat.two_pow_add_eq_or_of_lt (i := 7 * i) (b := x) hx d
  rw [Nat.or_comm, Nat.mul_comm d]
  omega
/-- Back: a number without a sign made one that has one. -/
theorem unz_bits (x : Nat) (h : x < 18446744073709551616) : bits .xor .i64 (IntKind.i64.wrap ((x : Int) / 2)) (IntKind.i64.wrap (-(IntKind.i64.wrap (bits .and .u64 (x : Int) 1)))) = unz x := by
  have ea : bits .and .u64 (x : Int) 1 = ((x % 2 : Nat) : Int) := by
    show IntKind.u64.wrap ((BitVec.ofInt 64 (x : Int) &&& BitVec.ofInt 64 ((1 : Nat) : Int)).toNat : Int) = _
    rw [BitVec.toNat_and, bvn 64 x h, bvn 64 1 (by decide), Nat.and_one_is_mod, IntKind.wrap_u64]; omega
  rw [ea]
  have e1 : IntKind.i64.wrap ((x : Int) / 2) = ((x / 2 : Nat) : Int) := by rw [IntKind.wrap_i64]; omega
  rw [e1]
  unfold unz
  by_cases h0 : x % 2 = 0
  · rw [if_pos h0, h0]
    have e2 : IntKind.i64.wrap (-(IntKind.i64.wrap ((0 : Nat) : Int))) = ((0 : Nat) : Int) := by decide
    rw [e2]
    show IntKind.i64.wrap ((BitVec.ofInt 64 ((x / 2 : Nat) : Int) ^^^ BitVec.ofInt 64 ((0 : Nat) : Int)).toNat : Int) = _
    rw [BitVec.toNat_xor, bvn 64 _ (by omega), bvn 64 _ (by omega), Nat.xor_zero, IntKind.wrap_i64]; omega
  · have h1 : x % 2 = 1 := by omega
    rw [if_neg h0, h1]
    have e2 : IntKind.i64.wrap (-(IntKind.i64.wrap ((1 : Nat) : Int))) = -1 := by decide
    rw [e2]
    show IntKind.i64.wrap ((BitVec.ofInt 64 ((x / 2 : Nat) : Int) ^^^ BitVec.ofInt 64 (-1)).toNat : Int) = _
    have e3 : BitVec.ofInt 64 (-1) = BitVec.allOnes 64 := by decide
    rw [e3, BitVec.xor_allOnes, BitVec.toNat_not, bvn 64 _ (by omega), IntKind.wrap_i64]; omega
end Go.Proofs.YtkgkpggfoieioaaDoor
