/- PROVED: the law marchlaw3.LockAlike returns true for every input, and its arguments read afterwards as they did. Condition: the arguments together hold at most 1048576 values and letters. -/
import Derived.Test.YtkgdflecepockaaRows
import Derived.WalkKit
import Derived.ProofKit
import Derived.OpenShut
import Derived.ShutString
import Derived.ChangeOld
import Derived.Below
import Derived.JoinedCond
import Derived.Test.YtkgdflecepockaaLockAlikeW
namespace Go.Proofs.Ytkgdflecepockaa.lockAlike
open Go.ChangeShapes Go.WideShapes Go.ChangeAt Go.RowKit
open Go.ChangeMaps (open_string shut_string)
set_option linter.unusedVariables false

theorem own : ownKnob Try.prog.godebug = none := by kernel_rfl
theorem laidOut : laidOutB Try.prog = true := by kernel_rfl

theorem one_le {H : Type} (d : DataW H) : 1 ≤ Rows.uptoBulk d := by
  cases d with
  | lit l => cases l <;> simp [Rows.uptoBulk]
  | nil => simp [Rows.uptoBulk]
  | ptr d => simp [Rows.uptoBulk]
  | slice elems rest => simp [Rows.uptoBulk]
  | agg parts => simp [Rows.uptoBulk]
  | iface t d => simp [Rows.uptoBulk]
  | map entries => simp [Rows.uptoBulk]
  | held h => simp [Rows.uptoBulk]
theorem blk_le {H : Type} (l : List (DataW H)) : l.length ≤ Rows.uptoBulkAll l := by
  induction l with
  | nil => simp
  | cons x r ih => have := one_le x; simp only [Rows.uptoBulkAll, List.length_cons]; omega
theorem part_le {H : Type} {d : DataW H} {l : List (DataW H)} (h : d ∈ l) : Rows.uptoBulk d ≤ Rows.uptoBulkAll l := by
  induction l with
  | nil => cases h
  | cons x r ih =>
    simp only [Rows.uptoBulkAll]
    cases List.mem_cons.1 h with
    | inl e => subst e; omega
    | inr e => have := ih e; omega
theorem part_small {H : Type} {d : DataW H} {l : List (DataW H)} (hk : Rows.uptoSmall H l = true) (h : d ∈ l) : Rows.uptoBulk d ≤ 1048576 :=
  Nat.le_trans (part_le h) (of_decide_eq_true hk)
theorem len_bulk {H : Type} {enc : TypeId × Value → H} {P : Program} {w : World} {held : Bool} {t e : TypeId} {fuel : Nat} {a : Option Addr} {len cap : Nat} {x : DataW H × List MemPlace} (ht : P.underlying t = some (.slice e))
    (h : DataW.trod enc P w 0 (fun _ => true) held fuel t [.slice a len cap] = some x) : len ≤ Rows.uptoBulk x.1 := by
  rcases Go.Deep.open_slice ht h with ⟨hcs, _⟩ | ⟨a', len', cap', m, n, D, Pl, hcs, hb, hl, hm, hmm, rfl, hi⟩
  · injection hcs with hcs; injection hcs with _ e2; subst e2; exact Nat.zero_le _
  · injection hcs with hcs; injection hcs with _ e2; subst e2
    have h1 := blk_le ((List.range len).map D)
    rw [List.length_map, List.length_range] at h1
    simp only [Rows.uptoBulk]; omega
theorem turnsBulk {H : Type} {enc : TypeId × Value → H} {w : World} {held : Bool} {x : (Option Addr × Nat) × List RW} {v : Value} {d : DataW H} {p : List MemPlace} (hx : v = .slice x.1.1 x.2.length x.1.2 ∧ TOks w x.1.1 x.1.2 x.2) (h : DataW.Trod enc Try.prog w 0 (fun _ => true) held 41 v d p) :
    x.2.length ≤ Rows.uptoBulk d ∧ ∀ r ∈ x.2, r.L.length ≤ Rows.uptoBulk d := by
  obtain ⟨rfl, ⟨_, hrd⟩, _⟩ := hx
  obtain ⟨fuel, hf⟩ := h
  have hf : DataW.trod enc Try.prog w 0 (fun _ => true) held fuel 41 [.slice x.1.1 x.2.length x.1.2] = some (d, p) := hf
  refine ⟨len_bulk Try.underlying41 hf, fun r hr => ?_⟩
  obtain ⟨i, hi⟩ := List.mem_iff_getElem?.1 hr
  have hil : i < x.2.length := (List.getElem?_eq_some_iff.1 hi).1
  rcases Go.Deep.open_slice Try.underlying41 hf with ⟨hcs, _⟩ | ⟨a', len', cap', m, n, D, Pl, hcs, hb, hl, hm, hmm, hxx, hii⟩
  · injection hcs with hcs; injection hcs with _ e2; omega
  · injection hcs with hcs; injection hcs with e1 e2 e3
    obtain ⟨b, off, hA, _, hcell⟩ := hrd (by omega)
    have hmi : i < m := by rw [hmm]; simp only [if_true]; omega
    obtain ⟨cs', hc, ht'⟩ := hii i hmi
    have c1 : Try.prog.cellsOf 22 = 1 := by kernel_rfl
    rw [c1] at hc
    obtain ⟨_, hcl, hat⟩ := World.cells?_some hc
    have hcell' := hat 0 (by omega)
    match cs', hcl with
    | [y], _ =>
      have ha : a' = ⟨b, off, none⟩ := by rw [hA] at e1; injection e1 with e1; exact e1.symm
      subst ha
      rw [Go.Deep.add_add, addr_add, Nat.mul_one, Nat.add_zero] at hcell'
      have h2 : w.cell? ⟨b, off + i, none⟩ = some y := hcell'
      have h3 := hcell i (by omega)
      rw [List.getElem?_map, hi, h2] at h3
      obtain rfl : y = r.v := by simpa using h3
      have h4 := len_bulk Try.underlying22 ht'
      have h5 : D i ∈ (List.range len').map D := List.mem_map.2 ⟨i, List.mem_range.2 (by omega), rfl⟩
      have h6 := part_le h5
      have hd := congrArg Prod.fst hxx
      dsimp only at hd h4
      rw [hd]
      simp only [Rows.uptoBulk]
      omega
set_option maxRecDepth 100000 in
theorem lifted (os : Os) (started : os.Started) (H : Type) (enc : TypeId × Value → H) (F : Stop.Interp) :
    ReturnsInHanded {} Try.checked os 5 .any ((Rows.OpenSpec.upto Rows.lockAlikeSpec).pre6 enc Try.prog Try.f5 Rows.lockAlikeUptoRow.domain false) (((Rows.OpenSpec.upto Rows.lockAlikeSpec).at F).post enc Try.prog Try.f5 false true false false) := by
  refine returnsInHanded_of_cond (C := Try.checked) (s := Rows.OpenSpec.upto Rows.lockAlikeSpec) (k := Rows.uptoSmall) rfl own started (by kernel_rfl) Try.func5
    (OpenSpec.witness (enc := enc) (C := Try.checked) (s := Rows.OpenSpec.upto Rows.lockAlikeSpec) (k := Rows.uptoSmall) rfl false ⟨#[], #[.slice none 0 0, .int .i64 0], []⟩ 8 (by kernel_rfl) (by kernel_rfl) (by kernel_rfl)
      (x := ([.nil, .lit (.int .i64 0)], [], [])) (by kernel_rfl) rfl (by kernel_rfl)) ?_
  intro W base args ds gs before hval0 hW _ hk _
  have hval : ∀ (j : Nat) t v, Try.f5.params[j]? = some t → args[j]? = some v → Value.okWide Try.prog W .any base t v := hval0
  have hW' := hW
  obtain ⟨p, q, hA0, hV, rfl, hfz, hnd⟩ := hW
  have hA : DataW.TrodAll enc Try.prog W 0 (fun _ => true) true Try.f5.params.toList args.toList ds p := hA0
  rw [Try.params5] at hA hval
  obtain ⟨v0, vs0, d0, ds0, p0, q0, hargs, rfl, rfl, h0, r0⟩ := trodAll_cons hA
  obtain ⟨v1, vs1, d1, ds1, p1, q1, rfl, rfl, rfl, h1, r1⟩ := trodAll_cons r0
  obtain ⟨rfl, rfl, rfl⟩ := trodAll_nil r1
  obtain rfl : args = #[v0, v1] := by cases args; simp_all
  obtain ⟨rfl, rfl⟩ := trodVars_none hV
  have k0 := h0
  have lt0 : ∀ x ∈ p0, x.block < W.heap.size := by obtain ⟨m, hm⟩ := k0; exact DataW.trod_lt m _ _ _ hm
  obtain ⟨x0, w0⟩ := openTurns (hval 0 41 v0 rfl rfl) h0
  have bk0 := turnsBulk w0 h0
  obtain ⟨a1, rfl, rfl, rfl, w1⟩ := open_int Try.underlying3 (hval 1 3 v1 rfl rfl) h1
  clear hA0 hval0
  refine (lockAlike_in v0 x0 a1 W w0 w1 ⟨Nat.le_trans bk0.1 (part_small hk (by simp)), fun r hr => Nat.le_trans (bk0.2 r hr) (part_small hk (by simp))⟩).mono fun e W' ⟨he, bel⟩ => ?_
  subst he
  exact ⟨_, rfl, _, _, _, [], _, [], hW', trodAll_mk1 (shut_bool Try.underlying4 _), (trodAll_cons_mk (Below.trod laidOut (by kernel_rfl) (of_decide_eq_true (by kernel_rfl)) k0 bel lt0) (trodAll_cons_mk (shut_int Try.underlying3 w1) trodAll_mk0)), rfl, bel.frame _, fun h => by cases h⟩

theorem over : Rows.lockAlikeUptoRow.holds Try.pinned (Rows.OpenSpec.upto Rows.lockAlikeSpec) :=
  OpenClaim.holds_of_cond 5 Try.f5 rfl rfl rfl rfl rfl rfl rfl ⟨rfl, rfl, rfl, rfl, rfl⟩ rfl rfl rfl rfl rfl (by kernel_rfl) Try.func5 (by kernel_rfl)
    (of_decide_eq_true (by kernel_rfl)) (by unfold Func.isWrapper; first | (rw [if_pos (by decide +kernel)]; kernel_rfl) | (rw [if_neg (by decide +kernel)]; exact ⟨rfl, rfl⟩))
    (fun os started H enc _ F => lifted os started H enc F)

/-- The statement. -/
theorem proved : Rows.LockAlikeUptoSaid := over
#print axioms proved
end Go.Proofs.Ytkgdflecepockaa.lockAlike
