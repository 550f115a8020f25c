import Derived.Test.YtkgkpggfoieioaaDoorMrga
import Derived.Test.YtkgkpggfoieioaaDoorCards
import Derived.Test.YtkgkpggfoieioaaDoorTie
import Derived.SevenTiedAt
import Derived.Deep.DeepHandedRow
import Derived.WalkKit
import Derived.ProofKit
import Derived.OpenShut
import Derived.ShutString
import Derived.ChangeOld
import Derived.Below
import Derived.Test.YtkgkpggfoieioaaDoorWorldPutsW
import Derived.Test.YtkgkpggfoieioaaDoorMrgb
/- PROVED: the law marchlaw4.WorldPuts returns true for every input, and its arguments read afterwards as they did. Condition: the arguments together hold at most 1048576 values and letters. -/
namespace Go.Proofs.YtkgkpggfoieioaaDoor.worldPuts
open Go.ChangeShapes Go.WideShapes Go.ChangeAt Go.RowKit
open Go.ChangeMaps (open_string shut_string)
set_option linter.unusedVariables false

theorem own : ownKnob Tryd.prog.godebug = none := by kernel_rfl
theorem laidOut : laidOutB Tryd.prog = true := by kernel_rfl

theorem one_le {H : Type} (d : DataW H) : 1 ≤ Rows.uptoBulk d := by
  cases d with
  | lit l => cases l <;> simp [Rows.uptoBulk]
  | nil => simp [Rows.uptoBulk]
  | ptr d => simp [Rows.uptoBulk]
  | slice elems rest => simp [Rows.uptoBulk]
  | agg parts => simp [Rows.uptoBulk]
  | iface t d => simp [Rows.uptoBulk]
  | map entries => simp [Rows.uptoBulk]
  | held h => simp [Rows.uptoBulk]
theorem blk_le {H : Type} (l : List (DataW H)) : l.length ≤ Rows.uptoBulkAll l := by
  induction l with
  | nil => simp
  | cons x r ih => have := one_le x; simp only [Rows.uptoBulkAll, List.length_cons]; omega
theorem part_le {H : Type} {d : DataW H} {l : List (DataW H)} (h : d ∈ l) : Rows.uptoBulk d ≤ Rows.uptoBulkAll l := by
  induction l with
  | nil => cases h
  | cons x r ih =>
    simp only [Rows.uptoBulkAll]
    cases List.mem_cons.1 h with
    | inl e => subst e; omega
    | inr e => have := ih e; omega
theorem part_small {H : Type} {d : DataW H} {l : List (DataW H)} (hk : Rows.uptoSmall H l = true) (h : d ∈ l) : Rows.uptoBulk d ≤ 1048576 :=
  Nat.le_trans (part_le h) (of_decide_eq_true hk)
theorem len_bulk {H : Type} {enc : TypeId × Value → H} {P : Program} {w : World} {held : Bool} {t e : TypeId} {fuel : Nat} {a : Option Addr} {len cap : Nat} {x : DataW H × List MemPlace} (ht : P.underlying t = some (.slice e))
    (h : DataW.trod enc P w 0 (fun _ => true) held fuel t [.slice a len cap] = some x) : len ≤ Rows.uptoBulk x.1 := by
  rcases Go.Deep.open_slice ht h with ⟨hcs, _⟩ | ⟨a', len', cap', m, n, D, Pl, hcs, hb, hl, hm, hmm, rfl, hi⟩
  · injection hcs with hcs; injection hcs with _ e2; subst e2; exact Nat.zero_le _
  · injection hcs with hcs; injection hcs with _ e2; subst e2
    have h1 := blk_le ((List.range len).map D)
    rw [List.length_map, List.length_range] at h1
    simp only [Rows.uptoBulk]; omega
theorem fld_bulk {H : Type} {enc : TypeId × Value → H} {P : Program} {w : World} {held : Bool} {t : TypeId} {fs : Array Field} {fuel : Nat} {cs : List Value} {x : DataW H × List MemPlace} (ht : P.underlying t = some (.struct fs)) (h : DataW.trod enc P w 0 (fun _ => true) held fuel t cs = some x)
    (i off T k : Nat) (hi : (fs[i]?).map (fun f => (f.offset, f.type)) = some (off, T)) (hk : P.cellsOf T = k) : ∃ (m : Nat) (y : DataW H × List MemPlace), DataW.trod enc P w 0 (fun _ => true) held m T ((cs.drop off).take k) = some y ∧ Rows.uptoBulk y.1 ≤ Rows.uptoBulk x.1 := by
  obtain ⟨xs, n, _, hx, _, hxl, hf⟩ := DataW.trod_struct ht h
  cases hfi : fs[i]? with
  | none => rw [hfi] at hi; cases hi
  | some f =>
    rw [hfi] at hi
    simp only [Option.map_some, Option.some.injEq, Prod.mk.injEq] at hi
    obtain ⟨rfl, rfl⟩ := hi
    have hlt : i < fs.size := (Array.getElem?_eq_some_iff.1 hfi).1
    have h1 := hf i f hfi
    rw [hk, List.getElem?_eq_getElem (by omega)] at h1
    refine ⟨n, _, h1, ?_⟩
    have hm : (xs[i]'(by omega)).1 ∈ xs.map (·.1) := List.mem_map.2 ⟨_, List.getElem_mem _, rfl⟩
    have := part_le hm
    rw [hx]
    simp only [Rows.uptoBulk]
    omega
theorem worldBulk {H : Type} {enc : TypeId × Value → H} {w : World} {held : Bool} {x : SW × GW} {v : Value} {d : DataW H} {p : List MemPlace} (hx : v = .agg (wV x.1 x.2).toArray ∧ WOk w x.1 x.2) (h : DataW.Trod enc Tryd.prog w 0 (fun _ => true) held 55 v d p) :
    x.2.field.ground.length ≤ Rows.uptoBulk d ∧ x.2.field.ore.length ≤ Rows.uptoBulk d ∧ x.2.gold.length ≤ Rows.uptoBulk d ∧ x.2.units.length ≤ Rows.uptoBulk d ∧ x.2.queue.length ≤ Rows.uptoBulk d := by
  obtain ⟨rfl, _⟩ := hx
  obtain ⟨fuel, hf⟩ := h
  have hf : DataW.trod enc Tryd.prog w 0 (fun _ => true) held fuel 55 (wV x.1 x.2) = some (d, p) := hf
  have c2 : Tryd.prog.cellsOf 34 = 1 := by kernel_rfl
  have c3 : Tryd.prog.cellsOf 52 = 4 := by kernel_rfl
  have c4 : Tryd.prog.cellsOf 29 = 1 := by kernel_rfl
  have c5 : Tryd.prog.cellsOf 53 = 1 := by kernel_rfl
  obtain ⟨_, y2, f2, b2⟩ := fld_bulk Tryd.underlying55 hf 2 2 52 4 rfl c3
  obtain ⟨_, y3, f3, b3⟩ := fld_bulk Tryd.underlying55 hf 3 6 34 1 rfl c2
  obtain ⟨_, y4, f4, b4⟩ := fld_bulk Tryd.underlying55 hf 4 7 29 1 rfl c4
  obtain ⟨_, y5, f5, b5⟩ := fld_bulk Tryd.underlying55 hf 5 8 53 1 rfl c5
  obtain ⟨_, z2, g2, a2⟩ := fld_bulk Tryd.underlying52 f2 2 2 34 1 rfl c2
  obtain ⟨_, z3, g3, a3⟩ := fld_bulk Tryd.underlying52 f2 3 3 34 1 rfl c2
  have l1 := len_bulk (a := x.1.field.ground.A) (len := x.2.field.ground.length) (cap := x.1.field.ground.c) Tryd.underlying34 g2
  have l2 := len_bulk (a := x.1.field.ore.A) (len := x.2.field.ore.length) (cap := x.1.field.ore.c) Tryd.underlying34 g3
  have l3 := len_bulk (a := x.1.gold.A) (len := x.2.gold.length) (cap := x.1.gold.c) Tryd.underlying34 f3
  have l4 := len_bulk (a := x.1.units.A) (len := x.2.units.length) (cap := x.1.units.c) Tryd.underlying29 f4
  have l5 := len_bulk (a := x.1.queue.A) (len := x.2.queue.length) (cap := x.1.queue.c) Tryd.underlying53 f5
  dsimp only at b2 b3 b4 b5
  omega
set_option maxRecDepth 100000 in
theorem lifted (os : Os) (started : os.Started) (H : Type) (enc : TypeId × Value → H) (F : Stop.Interp) :
    ReturnsInHanded {} Tryd.checked os 5 .any ((Rows.OpenSpec.upto Rows.worldPutsSpec).preRow enc Tryd.prog Tryd.f5 Rows.worldPutsUptoRow.domain false Rows.worldPutsUptoRow.laid) (((Rows.OpenSpec.upto Rows.worldPutsSpec).at F).post enc Tryd.prog Tryd.f5 false true false false) := by
  obtain ⟨places, hx⟩ : ∃ places, DataW.whole enc Tryd.prog ((laidWorld2 os).forCall (fun _ _ => 0) ⟨#[], #[.slice none 0 0, .agg #[.int .i64 0, .int .i64 0, .int .i64 0, .int .i64 0, .slice none 0 0, .slice none 0 0, .slice none 0 0, .slice none 0 0, .slice none 0 0], .int .i64 0, .int .i64 0, .int .i64 0], []⟩).memory Tryd.f5.params.toList Rows.worldPutsSpec.vars false #[.slice none 0 0, .agg #[.int .i64 0, .int .i64 0, .int .i64 0, .int .i64 0, .slice none 0 0, .slice none 0 0, .slice none 0 0, .slice none 0 0, .slice none 0 0], .int .i64 0, .int .i64 0, .int .i64 0].toList 8 = some ([.nil, .agg [.lit (.int .i64 0), .lit (.int .i64 0), .agg [.lit (.int .i64 0), .lit (.int .i64 0), .nil, .nil], .nil, .nil, .nil], .lit (.int .i64 0), .lit (.int .i64 0), .lit (.int .i64 0)], [], places) := ⟨[], by kernel_rfl⟩
  refine returnsInHanded_of_row (C := Tryd.checked) (s := Rows.OpenSpec.upto Rows.worldPutsSpec) own started (by kernel_rfl) Tryd.func5
    (witness_row_at (enc := enc) (C := Tryd.checked) false (laidWorld2 os) #[.slice none 0 0, .agg #[.int .i64 0, .int .i64 0, .int .i64 0, .int .i64 0, .slice none 0 0, .slice none 0 0, .slice none 0 0, .slice none 0 0, .slice none 0 0], .int .i64 0, .int .i64 0, .int .i64 0] rfl (by kernel_rfl) (by kernel_rfl) (by kernel_rfl)
      (OpenSpec.preRow_of_cond 8 hx (by kernel_rfl) (fun k hk => by cases hk; kernel_rfl) (by kernel_rfl) (laidWorld2_met os _))) ?_
  intro W base args ds gs before hval0 hW _ hcond _ hL0 _ _
  have hk := hcond _ rfl
  have hL : laidMetH Tryd.prog [("unicode/utf8.acceptRanges", Rows.laid_unicode_utf8_acceptRanges), ("unicode/utf8.first", Rows.laid_unicode_utf8_first)] W := hL0
  have hval : ∀ (j : Nat) t v, Tryd.f5.params[j]? = some t → args[j]? = some v → Value.okWide Tryd.prog W .any base t v := hval0
  have hW' := hW
  obtain ⟨p, q, hA0, hV0, rfl, hfz, hnd⟩ := hW
  have hA : DataW.TrodAll enc Tryd.prog W 0 (fun _ => true) true Tryd.f5.params.toList args.toList ds p := hA0
  have hV : DataW.TrodVars enc Tryd.prog W (fun _ => true) [] gs q := hV0
  rw [Tryd.params5] at hA hval
  obtain ⟨v0, vs0, d0, ds0, p0, q0, hargs, rfl, rfl, h0, r0⟩ := trodAll_cons hA
  obtain ⟨v1, vs1, d1, ds1, p1, q1, rfl, rfl, rfl, h1, r1⟩ := trodAll_cons r0
  obtain ⟨v2, vs2, d2, ds2, p2, q2, rfl, rfl, rfl, h2, r2⟩ := trodAll_cons r1
  obtain ⟨v3, vs3, d3, ds3, p3, q3, rfl, rfl, rfl, h3, r3⟩ := trodAll_cons r2
  obtain ⟨v4, vs4, d4, ds4, p4, q4, rfl, rfl, rfl, h4, r4⟩ := trodAll_cons r3
  obtain ⟨rfl, rfl, rfl⟩ := trodAll_nil r4
  obtain rfl : args = #[v0, v1, v2, v3, v4] := by cases args; simp_all
  obtain ⟨rfl, rfl⟩ : gs = [] ∧ q = [] := by
    cases gs with
    | nil => exact ⟨rfl, hV⟩
    | cons g r => exact absurd hV (by intro h; cases h)
  have k0 := h0
  have lt0 : ∀ x ∈ p0, x.block < W.heap.size := by obtain ⟨m, hm⟩ := k0; exact DataW.trod_lt m _ _ _ hm
  obtain ⟨x0, w0⟩ := openKinds (hval 0 22 v0 rfl rfl) h0
  have bk0 : x0.2.length ≤ Rows.uptoBulk d0 := by
    obtain ⟨e0, _⟩ := w0
    obtain ⟨fuel, hf⟩ := h0
    rw [e0] at hf
    have hf : DataW.trod enc Tryd.prog W 0 (fun _ => true) true fuel 22 [.slice x0.1.A x0.2.length x0.1.c] = some (d0, p0) := hf
    exact len_bulk Tryd.underlying22 hf
  have k1 := h1
  have lt1 : ∀ x ∈ p1, x.block < W.heap.size := by obtain ⟨m, hm⟩ := k1; exact DataW.trod_lt m _ _ _ hm
  obtain ⟨x1, w1⟩ := openWorld (hval 1 55 v1 rfl rfl) h1
  have bk1 := worldBulk w1 h1
  obtain ⟨a2, rfl, rfl, rfl, w2⟩ := open_int Tryd.underlying3 (hval 2 3 v2 rfl rfl) h2
  obtain ⟨a3, rfl, rfl, rfl, w3⟩ := open_int Tryd.underlying3 (hval 3 3 v3 rfl rfl) h3
  obtain ⟨a4, rfl, rfl, rfl, w4⟩ := open_int Tryd.underlying3 (hval 4 3 v4 rfl rfl) h4
  clear hA0 hval0
  refine (worldPuts_any v0 x0 v1 x1 a2 a3 a4 W w0 w1 w2 w3 w4 (Nat.le_trans bk0 (part_small hk (by simp))) ⟨Nat.le_trans bk1.1 (part_small hk (by simp)), Nat.le_trans bk1.2.1 (part_small hk (by simp)), Nat.le_trans bk1.2.2.1 (part_small hk (by simp)), Nat.le_trans bk1.2.2.2.1 (part_small hk (by simp)), Nat.le_trans bk1.2.2.2.2 (part_small hk (by simp))⟩).mono fun e W' ⟨he, bel⟩ => ?_
  subst he
  exact ⟨_, rfl, _, _, _, [], _, [], hW', trodAll_mk1 (shut_bool Tryd.underlying4 _), (trodAll_cons_mk (Below.trod laidOut (by kernel_rfl) (of_decide_eq_true (by kernel_rfl)) k0 bel lt0) (trodAll_cons_mk (Below.trod laidOut (by kernel_rfl) (of_decide_eq_true (by kernel_rfl)) k1 bel lt1) (trodAll_cons_mk (shut_int Tryd.underlying3 w2) (trodAll_cons_mk (shut_int Tryd.underlying3 w3) (trodAll_cons_mk (shut_int Tryd.underlying3 w4) trodAll_mk0))))), rfl, bel.frame _, fun h => by cases h⟩

theorem over : Rows.worldPutsUptoRow.holds Tryd.pinned (Rows.OpenSpec.upto Rows.worldPutsSpec) :=
  OpenClaim.holds_of_cond 5 Tryd.f5 rfl rfl rfl rfl rfl rfl rfl ⟨rfl, rfl, rfl, rfl, rfl⟩ rfl rfl rfl rfl rfl (by kernel_rfl) Tryd.func5 (by kernel_rfl)
    (of_decide_eq_true (by kernel_rfl)) (by unfold Func.isWrapper; first | (rw [if_pos (by decide +kernel)]; kernel_rfl) | (rw [if_neg (by decide +kernel)]; exact ⟨rfl, rfl⟩))
    (fun os started H enc _ F => by rw [OpenClaim.pre_eq_preRow]; exact lifted os started H enc F)

/-- The statement. -/
theorem proved : Rows.WorldPutsUptoCardSaid :=
  Claim7.holds_tied_plain_at .later [] [.data, .pinned] true (true, "1b1df52d781b421ba377cec6d525f3018d53c158718d5cbd735ad6a0b5c7741b") true
    over (fun _ h => by cases h) (by kernel_rfl) (fun _ h => by cases h) worldPutsUpto_row_tie rfl ⟨rfl, rfl⟩ (by kernel_rfl) rfl
    (fun f fn hf hfn => by
      obtain rfl : f = 5 := Option.some.inj ((show Tryd.prog.funcNamed "marchland/marchlaw4.WorldPuts" = some 5 by kernel_rfl).symm.trans hf) |>.symm
      obtain rfl : fn = Tryd.f5 := (Option.some.inj (Tryd.func5.symm.trans hfn)).symm
      exact ⟨by kernel_rfl, fun j t ht => by
        rw [Tryd.params5] at ht
        have hm : t ∈ [22, 55, 3, 3, 3] := by have := Array.mem_of_getElem? ht; simpa using this
        have hall : [22, 55, 3, 3, 3].all (fun t => Tryd.prog.wantsStandIn t == false) = true := by kernel_rfl
        have h2 : Tryd.prog.wantsStandIn t = false := eq_of_beq (List.all_eq_true.1 hall t hm)
        exact h2⟩)
    (by kernel_rfl)
#print axioms proved
end Go.Proofs.YtkgkpggfoieioaaDoor.worldPuts
