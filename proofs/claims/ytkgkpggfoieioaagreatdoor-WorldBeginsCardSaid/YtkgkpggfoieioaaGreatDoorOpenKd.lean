import Derived.Test.YtkgkpggfoieioaaGreatDoorSl
import Derived.Test.YtkgkpggfoieioaaGreatDoorPlainKd
namespace Go.Proofs.YtkgkpggfoieioaaGreatDoor
set_option linter.unusedVariables false
open Go.ChangeShapes Go.WideShapes Go.RowKit Go.Deep
/-- A slice that holds kinds. -/
def SLK (w : World) (s : SL) (xs : List GK) : Prop := RD w w.heap.size 11 s.A xs.length (xs.flatMap kC) ∧ (s.A = none → s.c = 0) ∧ xs.length ≤ s.c ∧ s.c ≤ maxLen ∧ ∀ x ∈ xs, x.ok
def vs : Value → ByteArray
  | .string s => s
  | _ => ⟨#[]⟩
def vb : Value → Bool
  | .bool b => b
  | _ => false
section
variable {H : Type} {enc : TypeId × Value → H} {w : World} {held : Bool} {m : Nat} {v : Value} {y : DataW H × List MemPlace}
set_option maxRecDepth 100000 in
theorem str_all {t : TypeId} (ht : Tryz.prog.underlying t = some .string) (h : DataW.trod enc Tryz.prog w 0 (fun _ => true) held m t [v] = some y) : v = .string (vs v) ∧ (vs v).size ≤ 9223372036854775807 := by
  obtain ⟨s, h1, _, h3⟩ := DataW.trod_string ht h
  injection h1 with h1
  subst h1
  have e : vs (Value.string s) = s := rfl
  rw [e]
  refine ⟨rfl, ?_⟩
  unfold maxLen at h3
  omega
set_option maxRecDepth 100000 in
theorem bool_all {t : TypeId} (ht : Tryz.prog.underlying t = some .bool) (h : DataW.trod enc Tryz.prog w 0 (fun _ => true) held m t [v] = some y) : v = .bool (vb v) := by
  obtain ⟨b, h1, _⟩ := DataW.trod_bool ht h
  injection h1 with h1
  subst h1
  rfl
end
def kOf (val : Nat → Value) : GK := ⟨vs (val 0), vi (val 1), vi (val 2), vi (val 3), vi (val 4), vi (val 5), vi (val 6), vi (val 7), vi (val 8), vb (val 9), vb (val 10)⟩
set_option maxRecDepth 100000 in
theorem slk_of {H : Type} {enc : TypeId × Value → H} {w : World} {held : Bool} {fuel : Nat} {v : Value} {x : DataW H × List MemPlace} (h : DataW.trod enc Tryz.prog w 0 (fun _ => true) held fuel 22 [v] = some x) :
    ∃ (s : SL) (xs : List GK), v = .slice s.A xs.length s.c ∧ SLK w s xs := by
  obtain ⟨A, n, c, val, hcs, hnil, hc, hm, hf, hr⟩ := opV Tryz.underlying22 Tryz.underlying41 (by kernel_rfl) (by kernel_rfl) (by decide) h
  injection hcs with hcs
  subst hcs
  have g1 : ∀ i, i < n → val i 1 = .int .i64 (vi (val i 1)) ∧ I64 (vi (val i 1)) := fun i hi => by
    obtain ⟨m, y, hy⟩ := hf i hi 1 _ rfl
    exact unit_all Tryz.underlying3 hy
  have g2 : ∀ i, i < n → val i 2 = .int .i64 (vi (val i 2)) ∧ I64 (vi (val i 2)) := fun i hi => by
    obtain ⟨m, y, hy⟩ := hf i hi 2 _ rfl
    exact unit_all Tryz.underlying3 hy
  have g3 : ∀ i, i < n → val i 3 = .int .i64 (vi (val i 3)) ∧ I64 (vi (val i 3)) := fun i hi => by
    obtain ⟨m, y, hy⟩ := hf i hi 3 _ rfl
    exact unit_all Tryz.underlying3 hy
  have g4 : ∀ i, i < n → val i 4 = .int .i64 (vi (val i 4)) ∧ I64 (vi (val i 4)) := fun i hi => by
    obtain ⟨m, y, hy⟩ := hf i hi 4 _ rfl
    exact unit_all Tryz.underlying3 hy
  have g5 : ∀ i, i < n → val i 5 = .int .i64 (vi (val i 5)) ∧ I64 (vi (val i 5)) := fun i hi => by
    obtain ⟨m, y, hy⟩ := hf i hi 5 _ rfl
    exact unit_all Tryz.underlying3 hy
  have g6 : ∀ i, i < n → val i 6 = .int .i64 (vi (val i 6)) ∧ I64 (vi (val i 6)) := fun i hi => by
    obtain ⟨m, y, hy⟩ := hf i hi 6 _ rfl
    exact unit_all Tryz.underlying3 hy
  have g7 : ∀ i, i < n → val i 7 = .int .i64 (vi (val i 7)) ∧ I64 (vi (val i 7)) := fun i hi => by
    obtain ⟨m, y, hy⟩ := hf i hi 7 _ rfl
    exact unit_all Tryz.underlying3 hy
  have g8 : ∀ i, i < n → val i 8 = .int .i64 (vi (val i 8)) ∧ I64 (vi (val i 8)) := fun i hi => by
    obtain ⟨m, y, hy⟩ := hf i hi 8 _ rfl
    exact unit_all Tryz.underlying3 hy
  have g0 : ∀ i, i < n → val i 0 = .string (vs (val i 0)) ∧ (vs (val i 0)).size ≤ 9223372036854775807 := fun i hi => by
    obtain ⟨m, y, hy⟩ := hf i hi 0 _ rfl
    exact str_all Tryz.underlying9 hy
  have g9 : ∀ i, i < n → val i 9 = .bool (vb (val i 9)) := fun i hi => by
    obtain ⟨m, y, hy⟩ := hf i hi 9 _ rfl
    exact bool_all Tryz.underlying4 hy
  have g10 : ∀ i, i < n → val i 10 = .bool (vb (val i 10)) := fun i hi => by
    obtain ⟨m, y, hy⟩ := hf i hi 10 _ rfl
    exact bool_all Tryz.underlying4 hy
  have e : ((List.range n).flatMap fun i => (List.range 11).map (val i)) = ((List.range n).map fun i => kOf (val i)).flatMap kC := by
    rw [List.flatMap_map]
    refine fm_congr fun i hi => ?_
    have hi := List.mem_range.1 hi
    show [val i 0, val i 1, val i 2, val i 3, val i 4, val i 5, val i 6, val i 7, val i 8, val i 9, val i 10] = _
    rw [(g0 i hi).1, (g1 i hi).1, (g2 i hi).1, (g3 i hi).1, (g4 i hi).1, (g5 i hi).1, (g6 i hi).1, (g7 i hi).1, (g8 i hi).1, g9 i hi, g10 i hi]
    rfl
  refine ⟨⟨A, c⟩, (List.range n).map fun i => kOf (val i), by simp, ?_, hnil, by simpa using hc, hm, ?_⟩
  · rw [← e]; simpa using hr
  · intro x hx
    obtain ⟨i, hi, rfl⟩ := List.mem_map.1 hx
    have hi := List.mem_range.1 hi
    exact ⟨(g0 i hi).2, (g1 i hi).2, (g2 i hi).2, (g3 i hi).2, (g4 i hi).2, (g5 i hi).2, (g6 i hi).2, (g7 i hi).2, (g8 i hi).2⟩
set_option maxRecDepth 100000 in
theorem openKinds {H : Type} {enc : TypeId × Value → H} {w : World} {r : Reach} {b0 : Nat} {held : Bool} {v : Value} {d : DataW H} {p : List MemPlace} (hv : Value.okWide Tryz.prog w r b0 22 v)
    (h : DataW.Trod enc Tryz.prog w 0 (fun _ => true) held 22 v d p) : ∃ (x : SL × List GK), v = .slice x.1.A x.2.length x.1.c ∧ SLK w x.1 x.2 := by
  obtain ⟨a, len, cap, rfl⟩ := okWide_slice Tryz.underlying22 hv
  obtain ⟨fuel, hf⟩ := h
  have hf : DataW.trod enc Tryz.prog w 0 (fun _ => true) held fuel 22 [.slice a len cap] = some (d, p) := hf
  obtain ⟨s, xs, e, ok⟩ := slk_of hf
  exact ⟨(s, xs), e, ok⟩
end Go.Proofs.YtkgkpggfoieioaaGreatDoor
