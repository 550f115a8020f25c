import Derived.Test.YtkgkpggfoieioaaDoorPlainF
import Derived.Test.YtkgkpggfoieioaaDoorMrga
import Derived.Test.YtkgkpggfoieioaaDoorRows
import Derived.Laws.BytesString
import Derived.Laws.IdiomStrings
import Derived.Lib.BufferRead
namespace Go.Proofs.YtkgkpggfoieioaaDoor
set_option linter.unusedVariables false
open Go.RowKit
/-- Bytes as a string. -/
def toU (xs : List Int) : List UInt8 := xs.map fun x => UInt8.ofNat x.toNat
def toS (xs : List Int) : ByteArray := ⟨(toU xs).toArray⟩
theorem toU_back (xs : List Int) (h : ∀ x ∈ xs, Byte x) : (toU xs).map (fun b => (b.toNat : Int)) = xs := by
  unfold toU
  rw [List.map_map]
  conv => rhs; rw [← List.map_id xs]
  refine List.map_congr_left fun x hx => ?_
  have := h x hx
  unfold Byte at this
  simp only [Function.comp, id, UInt8.toNat_ofNat']
  omega
theorem toS_inj (xs ys : List Int) (hx : ∀ x ∈ xs, Byte x) (hy : ∀ x ∈ ys, Byte x) (h : toS xs = toS ys) : xs = ys := by
  have h1 : toU xs = toU ys := by
    have := congrArg (fun b : ByteArray => b.data.toList) h
    simpa [toS] using this
  rw [← toU_back xs hx, ← toU_back ys hy, h1]
theorem str_run (w : World) (B : Nat) (A : Option Addr) (n c : Nat) (xs : List Int) (hn : xs.length = n) (h : RD w B 1 A n (xs.map (.int .u8))) (hx : ∀ x ∈ xs, Byte x) :
    (convert 65 9 (.slice A n c)).run Tryd.prog w = .ok (.string (toS xs)) w := by
  rcases A with _ | a
  · have hn0 : n = 0 := by
      rcases Nat.eq_zero_or_pos n with h0 | h0
      · exact h0
      · obtain ⟨b, off, e, _⟩ := h.2 h0
        cases e
    subst hn0
    obtain rfl : xs = [] := List.eq_nil_of_length_eq_zero hn
    exact Lib.run_convert_nil_bytes w _ _ _ c Tryd.underlying65 Tryd.underlying5 Tryd.underlying9
  · have hl : (toU xs).length = n := by simp [toU, hn]
    have := run_convert_bytes_back (P := Tryd.prog) w 65 9 5 a c (toU xs) Tryd.underlying65 Tryd.underlying5 Tryd.underlying9 (fun j hj => by
      obtain ⟨b, off, e, _, hc⟩ := h.2 (by omega)
      injection e with e
      subst e
      rw [addr_add, hc j (by omega)]
      have hb := toU_back xs hx
      rw [List.getElem?_map]
      have hj2 : j < xs.length := by omega
      rw [List.getElem?_eq_getElem hj2]
      have e2 : ((toU xs)[j].toNat : Int) = xs[j] := by
        have := congrArg (fun l : List Int => l[j]?) hb
        simp only [List.getElem?_map, List.getElem?_eq_getElem hj, List.getElem?_eq_getElem hj2, Option.map_some, Option.some.injEq] at this
        exact this
      rw [e2]; rfl)
    rw [hl] at this
    exact this
end Go.Proofs.YtkgkpggfoieioaaDoor
