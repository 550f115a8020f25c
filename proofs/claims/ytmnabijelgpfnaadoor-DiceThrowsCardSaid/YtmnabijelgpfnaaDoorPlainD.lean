import Derived.WalkKit
import Derived.Laws.Bits64
import Derived.Laws.BitsAllLaws
namespace Go.Proofs.YtmnabijelgpfnaaDoor
set_option linter.unusedVariables false
open Go.RowKit
/-- The state behind a state; what is drawn out of a state. -/
def nxS (s : Int) : Int := IntKind.u64.wrap (s + 11400714819323198485)
def mx1 (x : Int) : Int := IntKind.u64.wrap (bits BinOp.xor IntKind.u64 x (x / 1073741824) * 13787848793156543929)
def mx2 (x : Int) : Int := IntKind.u64.wrap (bits BinOp.xor IntKind.u64 x (x / 134217728) * 10723151780598845931)
def mx3 (x : Int) : Int := bits BinOp.xor IntKind.u64 x (x / 2147483648)
def nxV (x : Int) : Int := wrap64 (mx3 (mx2 (mx1 x)) / 4)
def fkS (s k : Int) : Int := bits BinOp.xor IntKind.u64 s (IntKind.u64.wrap (IntKind.u64.wrap k * 15074714826142052245))
def U64 (s : Int) : Prop := 0 ≤ s ∧ s < 18446744073709551616
theorem u64w (n : Int) : U64 (IntKind.u64.wrap n) := by unfold U64; rw [IntKind.wrap_u64]; omega
theorem xor_bd (a b : Int) (ha : U64 a) (hb : U64 b) : U64 (bits BinOp.xor IntKind.u64 a b) := by
  obtain ⟨h1, h2⟩ := ha
  obtain ⟨h3, h4⟩ := hb
  rw [u64_xor a b h1 h2 h3 h4]
  have := Nat.xor_lt_two_pow (n := 64) (x := a.toNat) (y := b.toNat) (by omega) (by omega)
  unfold U64; omega
theorem div_bd (a : Int) (d : Int) (hd : 0 < d) (ha : U64 a) : U64 (a / d) := by
  obtain ⟨h1, h2⟩ := ha
  refine ⟨Int.ediv_nonneg h1 (by omega), Int.lt_of_le_of_lt (Int.ediv_le_self _ h1) h2⟩
theorem nxS_bd (s : Int) : U64 (nxS s) := u64w _
theorem fkS_bd (s k : Int) (h : U64 s) : U64 (fkS s k) := xor_bd _ _ h (u64w _)
theorem mx3_bd (x : Int) (h : U64 x) : U64 (mx3 x) := xor_bd _ _ h (div_bd _ _ (by decide) h)
theorem nxV_bd (x : Int) : 0 ≤ nxV x ∧ nxV x ≤ 4611686018427387903 := by
  have h := mx3_bd (mx2 (mx1 x)) (u64w _)
  unfold nxV
  obtain ⟨h1, h2⟩ := h
  generalize mx3 (mx2 (mx1 x)) = y at *
  rw [IntWalk.wrap64_in _ ⟨by omega, by omega⟩]; omega
/-- The state comes to 0 once. -/
def inv : Int := 17428512612931826493
theorem inv_ok : (11400714819323198485 * inv) % 18446744073709551616 = 1 := by decide
def left (s : Int) : Nat := ((-(s * inv) - 1) % 18446744073709551616).toNat
theorem inv_ok' (s : Int) : s * inv * 11400714819323198485 = s + 18446744073709551616 * (s * 10771413168148108919) := by
  rw [Int.mul_assoc, show inv * 11400714819323198485 = 1 + 18446744073709551616 * 10771413168148108919 from by decide, Int.mul_add, Int.mul_one, ← Int.mul_assoc, Int.mul_comm s 18446744073709551616, Int.mul_assoc]
theorem emod_step (A : Int) (m : Int) (hm : 0 < m) (h : (A % m).toNat ≠ 0) : ((A - 1) % m).toNat + 1 = (A % m).toNat := by
  have h0 := Int.emod_nonneg A (by omega : m ≠ 0)
  have h1 := Int.emod_lt_of_pos A hm
  have e : A - 1 = (A % m - 1) + m * (A / m) := by have := Int.emod_add_mul_ediv A m; omega
  rw [e, Int.add_mul_emod_self_left, Int.emod_eq_of_lt (by omega) (by omega)]
  omega
theorem lz_end (s u v : Int) (h2 : -1 * 11400714819323198485 - 18446744073709551616 * v = s + 18446744073709551616 * u) : s + 11400714819323198485 = 18446744073709551616 * (-u - v) := by
  omega
theorem toNat_zero (a m : Int) (hm : m ≠ 0) (h : (a % m).toNat = 0) : a % m = 0 :=
  Int.le_antisymm (Int.toNat_eq_zero.1 h) (Int.emod_nonneg a hm)
theorem lz_mul (z k g r : Int) (h : -z - 1 = 18446744073709551616 * k) (h2 : z * g = r) : -1 * g - 18446744073709551616 * (k * g) = r := by
  have h3 : z = -1 - 18446744073709551616 * k := by omega
  rw [← h2, h3, Int.sub_mul, Int.mul_assoc]
theorem lz_mod (a b : Int) (h : a = 18446744073709551616 * b) : IntKind.u64.wrap a = 0 := by
  rw [IntKind.wrap_u64, h, Int.mul_emod_right]
theorem left_zero (s : Int) (h : left s = 0) : nxS s = 0 := by
  unfold left at h
  obtain ⟨k, hk⟩ := Int.dvd_of_emod_eq_zero (toNat_zero _ _ (by decide) h)
  exact lz_mod _ _ (lz_end _ _ _ (lz_mul _ _ _ _ hk (inv_ok' s)))
theorem left_step (s : Int) (h : left s ≠ 0) : left (nxS s) + 1 = left s := by
  have e : nxS s = s + 11400714819323198485 - 18446744073709551616 * ((s + 11400714819323198485) / 18446744073709551616) := by
    unfold nxS; rw [IntKind.wrap_u64]
    have := Int.emod_add_mul_ediv (s + 11400714819323198485) 18446744073709551616
    generalize (s + 11400714819323198485) / 18446744073709551616 = t at *
    generalize (s + 11400714819323198485) % 18446744073709551616 = t' at *
    omega
  generalize (s + 11400714819323198485) / 18446744073709551616 = t at e
  have e2 : -(nxS s * inv) - 1 = (-(s * inv) - 1 - 1) + 18446744073709551616 * (t * inv - 10771413168148108919) := by
    rw [e, Int.sub_mul, Int.add_mul, Int.mul_sub, Int.mul_assoc, show 11400714819323198485 * inv = 1 + 18446744073709551616 * 10771413168148108919 from by decide]
    generalize s * inv = z
    generalize t * inv = y
    omega
  unfold left at *
  rw [e2, Int.add_mul_emod_self_left]
  exact emod_step _ _ (by decide) h
theorem nxV_zero : nxV 0 = 0 := by
  have a1 : mx1 0 = 0 := by
    unfold mx1
    rw [show (0 : Int) / 1073741824 = 0 from rfl, u64_xor 0 0 (by decide) (by decide) (by decide) (by decide)]
    rfl
  have a2 : mx2 0 = 0 := by
    unfold mx2
    rw [show (0 : Int) / 134217728 = 0 from rfl, u64_xor 0 0 (by decide) (by decide) (by decide) (by decide)]
    rfl
  have a3 : mx3 0 = 0 := by
    unfold mx3
    rw [show (0 : Int) / 2147483648 = 0 from rfl, u64_xor 0 0 (by decide) (by decide) (by decide) (by decide)]
    rfl
  unfold nxV
  rw [a1, a2, a3, show (0 : Int) / 4 = 0 from rfl, IntWalk.wrap64_in 0 ⟨by decide, by decide⟩]
/-- What is drawn below n: the state then, and the number. -/
def blw : Nat → Int → Int → Int × Int
  | 0, s, n => (nxS s, (nxV (nxS s)) % n)
  | f + 1, s, n => if nxV (nxS s) < 4611686018427387904 - 4611686018427387904 % n then (nxS s, nxV (nxS s) % n) else blw f (nxS s) n
theorem lim_pos (n : Int) (h1 : 1 ≤ n) (h2 : n ≤ 1000000) : 0 < 4611686018427387904 - 4611686018427387904 % n := by
  have h3 := Int.emod_lt_of_pos 4611686018427387904 (show 0 < n by omega)
  generalize (4611686018427387904 : Int) % n = r at *
  omega
theorem blw_hit (f : Nat) (s n : Int) (h : nxV (nxS s) < 4611686018427387904 - 4611686018427387904 % n) : blw f s n = (nxS s, nxV (nxS s) % n) := by
  cases f with
  | zero => rfl
  | succ f => rw [blw, if_pos h]
theorem blw_miss (f : Nat) (s n : Int) (h : ¬ nxV (nxS s) < 4611686018427387904 - 4611686018427387904 % n) : blw (f + 1) s n = blw f (nxS s) n := by
  rw [blw, if_neg h]
theorem miss_left (s n : Int) (h1 : 1 ≤ n) (h2 : n ≤ 1000000) (h : ¬ nxV (nxS s) < 4611686018427387904 - 4611686018427387904 % n) : left s ≠ 0 := by
  intro h0
  rw [left_zero s h0, nxV_zero] at h
  exact h (lim_pos n h1 h2)
theorem blw_next (s n : Int) (h1 : 1 ≤ n) (h2 : n ≤ 1000000) (h : ¬ nxV (nxS s) < 4611686018427387904 - 4611686018427387904 % n) :
    left (nxS s) < left s ∧ blw (left (nxS s)) (nxS s) n = blw (left s) s n := by
  have h0 := left_step s (miss_left s n h1 h2 h)
  refine ⟨by omega, ?_⟩
  rw [← h0, blw_miss _ s n h]
theorem blw_bd (f : Nat) : ∀ (s n : Int), 1 ≤ n → 0 ≤ (blw f s n).2 ∧ (blw f s n).2 < n := by
  induction f with
  | zero => intro s n h; exact ⟨Int.emod_nonneg _ (by omega), Int.emod_lt_of_pos _ (by omega)⟩
  | succ f ih =>
    intro s n h
    rw [blw]
    split
    · exact ⟨Int.emod_nonneg _ (by omega), Int.emod_lt_of_pos _ (by omega)⟩
    · exact ih _ _ h
theorem blw_u (f : Nat) : ∀ (s n : Int), U64 (blw f s n).1 := by
  induction f with
  | zero => intro s n; exact nxS_bd s
  | succ f ih =>
    intro s n
    rw [blw]
    split
    · exact nxS_bd s
    · exact ih _ _
/-- Two places of a list change theirs. -/
def swapL (l : List Int) (i k : Nat) : List Int := (l.set i (l.getD k 0)).set k (l.getD i 0)
def mixF : Nat → Int → List Int → Int × List Int
  | 0, s, l => (s, l)
  | i + 1, s, l => mixF i (blw (left s) s (i + 2)).1 (swapL l (i + 1) (blw (left s) s (i + 2)).2.toNat)
theorem mixF_pos (k : Nat) (z : Int) (l : List Int) (h : 0 < k) (z' : Int) (j : Nat) (hz : (z', (j : Int)) = blw (left z) z ((k : Int) + 1)) : mixF k z l = mixF (k - 1) z' (swapL l k j) := by
  obtain ⟨i, rfl⟩ : ∃ i, k = i + 1 := ⟨k - 1, by omega⟩
  rw [mixF]
  rw [show ((i + 1 : Nat) : Int) + 1 = (i : Int) + 2 by omega] at hz
  rw [← hz]
  rfl
theorem swapL_map (f : Int → Value) (l : List Int) (k j : Nat) (hk : k < l.length) (hj : j < l.length) : ((l.map f).set k (f l[j])).set j (f l[k]) = (swapL l k j).map f := by
  unfold swapL
  rw [List.getD_eq_getElem?_getD, List.getD_eq_getElem?_getD, List.getElem?_eq_getElem hk, List.getElem?_eq_getElem hj]
  simp
theorem swapL_len (l : List Int) (i k : Nat) : (swapL l i k).length = l.length := by unfold swapL; simp
theorem swapL_perm (l : List Int) (i k : Nat) (hi : i < l.length) (hk : k < l.length) : (swapL l i k).Perm l := by
  unfold swapL
  rw [List.getD_eq_getElem?_getD, List.getD_eq_getElem?_getD, List.getElem?_eq_getElem hi, List.getElem?_eq_getElem hk]
  exact List.set_set_perm hi hk
theorem mixF_perm : ∀ (i : Nat) (s : Int) (l : List Int), i < l.length ∨ i = 0 → (mixF i s l).2.Perm l
  | 0, _, l, _ => List.Perm.refl l
  | i + 1, s, l, h => by
    have hb := blw_bd (left s) s ((i : Int) + 2) (by omega)
    rw [mixF]
    refine (mixF_perm i _ _ (by rw [swapL_len]; omega)).trans (swapL_perm l _ _ (by omega) (by omega))
theorem mixF_u : ∀ (i : Nat) (s : Int) (l : List Int), U64 s → U64 (mixF i s l).1
  | 0, _, _, h => h
  | i + 1, s, l, _ => mixF_u i _ _ (blw_u _ _ _)
end Go.Proofs.YtmnabijelgpfnaaDoor
