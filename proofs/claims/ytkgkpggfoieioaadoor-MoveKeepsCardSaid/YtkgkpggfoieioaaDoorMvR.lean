import Derived.Test.YtkgkpggfoieioaaDoorWish
import Derived.Test.YtkgkpggfoieioaaDoorPlaceO
import Derived.Test.YtkgkpggfoieioaaDoorEvRow
import Derived.Test.YtkgkpggfoieioaaDoorPlainMk
import Derived.OneCell
namespace Go.Proofs.YtkgkpggfoieioaaDoor
set_option linter.unusedVariables false
open Go.RowKit
/-! While units move: the world in its box, its own rows, what has happened. -/
theorem uC_oneV (u : GU) : ∀ v ∈ uC u, v.oneCell' = true := by
  intro v hv
  simp only [uC, List.mem_cons, List.not_mem_nil, or_false] at hv
  rcases hv with rfl | rfl | rfl | rfl | rfl | rfl | rfl | rfl <;> rfl
theorem flat_set {us : List GU} {i j : Nat} {u : GU} {v : Value} (hi : i < us.length) (hj : j < 8) (h : uC u = (uC (gu us i)).set j v) : (us.set i u).flatMap uC = (us.flatMap uC).set (i * 8 + j) v := by
  refine List.ext_getElem? fun q => ?_
  have hl : (us.flatMap uC).length = us.length * 8 := flat_len uC 8 uC_len us
  have e : q = q / 8 * 8 + q % 8 := by omega
  rw [List.getElem?_set]
  have h1 := flat_get uC 8 uC_len (us.set i u) (q / 8) (q % 8) (by omega)
  have h2 := flat_get uC 8 uC_len us (q / 8) (q % 8) (by omega)
  rw [← e] at h1 h2
  rw [h1, List.getElem?_set]
  by_cases c : i = q / 8
  · rw [if_pos c, if_pos hi]
    show (uC u)[q % 8]? = _
    rw [h, List.getElem?_set]
    by_cases d : j = q % 8
    · rw [if_pos d, if_pos (by rw [uC_len]; exact hj), if_pos (by omega), if_pos (by omega)]
    · rw [if_neg d, if_neg (by omega), h2, ← c, gu_get hi]; rfl
  · rw [if_neg c, if_neg (by omega), h2]
structure MvR (w0 w : World) (sK : SL) (L : List GK) (s : SW) (x : GW) (wb Bu : Nat) (ev : List EV) (A : Option Addr) (c : Nat) : Prop where
  b : Below Bu w0 w
  sz : Bu ≤ w.heap.size
  lt : wb < Bu
  kw : Blk w wb 55 (wC s x)
  ks : KS w Bu sK L
  wo : WOwn w Bu s x
  int : WInt x
  ev_ : w.ownsRow Bu 85 3 (.slice A ev.length c) ev.length (ev.flatMap eC)
section
variable {w0 w w' : World} {sK : SL} {L : List GK} {s : SW} {x : GW} {wb Bu c : Nat} {ev : List EV} {A : Option Addr}
theorem MvR.below (h : MvR w0 w sK L s x wb Bu ev A c) (hb : Below w.heap.size w w') : MvR w0 w' sK L s x wb Bu ev A c :=
  ⟨h.b.trans (hb.mono h.sz), Nat.le_trans h.sz hb.size, h.lt, h.kw.below hb h.kw.lt, h.ks.below (hb.mono h.sz), h.wo.below hb, h.int, own_below h.ev_ hb⟩
theorem MvR.drewN (h : MvR w0 w sK L s x wb Bu ev A c) (n : Nat) : MvR w0 (w.drewN n) sK L s x wb Bu ev A c := h.below ⟨rfl, rfl, rfl, Nat.le_refl _, fun _ _ => rfl⟩
theorem MvR.alloc (h : MvR w0 w sK L s x wb Bu ev A c) (o : Obj) : MvR w0 (w.alloc o) sK L s x wb Bu ev A c := h.below ((Below.refl _ _).alloc (Nat.le_refl _) o)
theorem MvR.ks_ (h : MvR w0 w sK L s x wb Bu ev A c) : KS w w.heap.size sK L := h.ks.more h.sz
theorem MvR.wo_ (h : MvR w0 w sK L s x wb Bu ev A c) : WOk w s x := h.wo.wok h.int
theorem MvR.cells (h : MvR w0 w sK L s x wb Bu ev A c) : w.cell? ⟨wb, 0, none⟩ = some (.int .i64 x.turn) ∧ w.cell? ⟨wb, 1, none⟩ = some (.int .i64 x.next) ∧ w.cell? ⟨wb, 2, none⟩ = some (.int .i64 x.field.wide) ∧ w.cell? ⟨wb, 3, none⟩ = some (.int .i64 x.field.high) ∧ w.cell? ⟨wb, 4, none⟩ = some (.slice s.field.ground.A x.field.ground.length s.field.ground.c) ∧ w.cell? ⟨wb, 5, none⟩ = some (.slice s.field.ore.A x.field.ore.length s.field.ore.c) ∧ w.cell? ⟨wb, 6, none⟩ = some (.slice s.gold.A x.gold.length s.gold.c) ∧ w.cell? ⟨wb, 7, none⟩ = some (.slice s.units.A x.units.length s.units.c) ∧ w.cell? ⟨wb, 8, none⟩ = some (.slice s.queue.A x.queue.length s.queue.c) ∧ wb < w.heap.size :=
  ⟨h.kw.cell 0, h.kw.cell 1, h.kw.cell 2, h.kw.cell 3, h.kw.cell 4, h.kw.cell 5, h.kw.cell 6, h.kw.cell 7, h.kw.cell 8, h.kw.lt⟩
theorem MvR.flies {bk okk sc : Nat} (h : MvR w0 w ⟨some ⟨bk, okk, none⟩, sc⟩ L s x wb Bu ev A c) (kd : Nat) (hkd : kd < L.length) : w.cell? ⟨bk, okk + kd * 11 + 9, none⟩ = some (.bool (gk L kd).flies) := by
  obtain ⟨b', o', hA', _, _, _, _, _, _, _, _, _, _, k9, _⟩ := rk_at h.ks.rd kd hkd
  dsimp only at hA'
  injection hA' with hA'
  injection hA' with e3 e4
  subst e3; subst e4
  exact k9
theorem MvR.speed {bk okk sc : Nat} (h : MvR w0 w ⟨some ⟨bk, okk, none⟩, sc⟩ L s x wb Bu ev A c) (kd : Nat) (hkd : kd < L.length) : w.cell? ⟨bk, okk + kd * 11 + 5, none⟩ = some (.int .i64 (gk L kd).speed) := by
  obtain ⟨b', o', hA', _, _, _, _, _, _, k5, _⟩ := rk_at h.ks.rd kd hkd
  dsimp only at hA'
  injection hA' with hA'
  injection hA' with e3 e4
  subst e3; subst e4
  exact k5
/-- Where the units lie. -/
theorem MvR.row (h : MvR w0 w sK L s x wb Bu ev A c) (h0 : 0 < x.units.length) : ∃ g, s.units.A = some ⟨g, 0, none⟩ ∧ Bu ≤ g ∧ g < w.heap.size := by
  obtain ⟨g, cap, hv, h1, h2⟩ := h.wo.u.form h0
  injection hv with e1 e2 e3
  exact ⟨g, e1, h1, h2⟩
theorem MvR.rowg {g : Nat} (h : MvR w0 w sK L s x wb Bu ev A c) (hA : s.units.A = some ⟨g, 0, none⟩) : w.ownsRow Bu 33 8 (.slice (some ⟨g, 0, none⟩) x.units.length s.units.c) x.units.length (x.units.flatMap uC) := by
  have := h.wo.u; rw [hA] at this; exact this
theorem MvR.ucells {g i : Nat} (h : MvR w0 w sK L s x wb Bu ev A c) (hA : s.units.A = some ⟨g, 0, none⟩) (hi : i < x.units.length) :
    w.cell? ⟨g, i * 8, none⟩ = some (.int .i64 (gu x.units i).id) ∧ w.cell? ⟨g, i * 8 + 1, none⟩ = some (.int .i64 (gu x.units i).player) ∧ w.cell? ⟨g, i * 8 + 2, none⟩ = some (.int .i64 (gu x.units i).kind) ∧ w.cell? ⟨g, i * 8 + 3, none⟩ = some (.int .i64 (gu x.units i).spot) ∧ w.cell? ⟨g, i * 8 + 4, none⟩ = some (.int .i64 (gu x.units i).life) ∧ w.cell? ⟨g, i * 8 + 5, none⟩ = some (.int .i64 (gu x.units i).load) ∧ w.cell? ⟨g, i * 8 + 6, none⟩ = some (.int .i64 (gu x.units i).task) ∧ w.cell? ⟨g, i * 8 + 7, none⟩ = some (.int .i64 (gu x.units i).goal) := by
  have ho := h.rowg hA
  have key : ∀ j, j < 8 → w.cell? ⟨g, i * 8 + j, none⟩ = (uC (gu x.units i))[j]? := fun j hj => by
    rw [ho.cellAt (i * 8 + j) (by omega), flat_get uC 8 uC_len x.units i j hj, gu_get hi]; rfl
  exact ⟨key 0 (by omega), key 1 (by omega), key 2 (by omega), key 3 (by omega), key 4 (by omega), key 5 (by omega), key 6 (by omega), key 7 (by omega)⟩
theorem MvR.ufree {g : Nat} (h : MvR w0 w sK L s x wb Bu ev A c) (hA : s.units.A = some ⟨g, 0, none⟩) (j : Nat) : w.frozen? ⟨g, j, none⟩ = false := (h.rowg hA).frozenAt j
theorem ok_of_uC {u : GU} {v : GU} {j : Nat} {n : Int} (hv : v.ok) (h : uC u = (uC v).set j (.int .i64 n)) (hn : I64 n) (hj : j < 8) : u.ok := by
  obtain ⟨a0, a1, a2, a3, a4, a5, a6, a7⟩ := u
  obtain ⟨b0, b1, b2, b3, b4, b5, b6, b7⟩ := v
  obtain ⟨h0, h1, h2, h3, h4, h5, h6, h7⟩ := hv
  have : j = 0 ∨ j = 1 ∨ j = 2 ∨ j = 3 ∨ j = 4 ∨ j = 5 ∨ j = 6 ∨ j = 7 := by omega
  rcases this with rfl | rfl | rfl | rfl | rfl | rfl | rfl | rfl
  all_goals
    simp only [uC, List.set_cons_zero, List.set_cons_succ, List.cons.injEq, Value.int.injEq, true_and, and_true] at h
    obtain ⟨rfl, rfl, rfl, rfl, rfl, rfl, rfl, rfl⟩ := h
    unfold GU.ok
    simp only at *
    simp only [*, and_self]
/-- A cell of a unit is written. -/
theorem MvR.setJ {g i j : Nat} {u : GU} {n : Int} (h : MvR w0 w sK L s x wb Bu ev A c) (hA : s.units.A = some ⟨g, 0, none⟩) (hi : i < x.units.length) (hj : j < 8) (hn : I64 n) (hu : uC u = (uC (gu x.units i)).set j (.int .i64 n)) :
    MvR w0 (w.setCell ⟨g, i * 8 + j, none⟩ (.int .i64 n)) sK L s (setU x i u) wb Bu ev A c := by
  have ho := h.rowg hA
  have hgl := ho.lt g rfl
  have hst := ho.stored (i * 8 + j) (.int .i64 n)
  have hlen : (setU x i u).units.length = x.units.length := setU_len x i u
  have hbl : Below Bu w (w.setCell ⟨g, i * 8 + j, none⟩ (.int .i64 n)) := (Below.refl _ _).setCell (p := ⟨g, i * 8 + j, none⟩) hgl.1 _
  have far : ∀ {sz m : Nat} {e : TypeId} {v : Value} {ys : List Value}, w.ownsRow Bu e sz v m ys → e ≠ 33 → (w.setCell ⟨g, i * 8 + j, none⟩ (.int .i64 n)).ownsRow Bu e sz v m ys := fun hr hne =>
    hr.kept hst.2 (own_ne (fun e => hne e.symm) ho hr)
  refine ⟨h.b.trans hbl, by simpa using h.sz, h.lt, ?_, h.ks.below hbl, ⟨far h.wo.g (by decide), far h.wo.o (by decide), far h.wo.d (by decide), ?_, far h.wo.q (by decide)⟩, ?_, far h.ev_ (by decide)⟩
  · have hk := h.kw.far (p := ⟨g, i * 8 + j, none⟩) (by have := h.lt; show wb ≠ g; omega) (.int .i64 n)
    unfold wC at hk ⊢
    rw [hlen]; exact hk
  · rw [hlen, hA]
    show (w.setCell ⟨g, i * 8 + j, none⟩ (.int .i64 n)).ownsRow Bu 33 8 (.slice (some ⟨g, 0, none⟩) x.units.length s.units.c) x.units.length ((x.units.set i u).flatMap uC)
    rw [flat_set hi hj hu]
    exact hst.1
  · have hx := h.int
    refine ⟨hx.turn, hx.next, hx.wide, hx.high, hx.g, hx.o, hx.d, fun v hv => ?_, hx.q⟩
    rcases List.mem_or_eq_of_mem_set hv with hv | rfl
    · exact hx.u v hv
    · exact ok_of_uC (hx.u _ (gu_mem hi)) hu hn hj
theorem MvR.spotU {g i : Nat} (h : MvR w0 w sK L s x wb Bu ev A c) (hA : s.units.A = some ⟨g, 0, none⟩) (hi : i < x.units.length) (R : Nat) (hR : R ≤ 1000000) : MvR w0 (w.setCell ⟨g, i * 8 + 3, none⟩ (.int .i64 (R : Int))) sK L s (setU x i { gu x.units i with spot := (R : Int) }) wb Bu ev A c :=
  h.setJ hA hi (by omega) (by unfold I64; omega) rfl
theorem MvR.restU {g i : Nat} (h : MvR w0 w sK L s x wb Bu ev A c) (hA : s.units.A = some ⟨g, 0, none⟩) (hi : i < x.units.length) : MvR w0 ((w.setCell ⟨g, i * 8 + 6, none⟩ (.int .i64 0)).setCell ⟨g, i * 8 + 7, none⟩ (.int .i64 0)) sK L s (setU x i { gu x.units i with task := 0, goal := 0 }) wb Bu ev A c := by
  have h1 := h.setJ (j := 6) (n := 0) (u := { gu x.units i with task := 0 }) hA hi (by omega) (by unfold I64; omega) rfl
  have h2 := h1.setJ (j := 7) (n := 0) (i := i) (u := { gu x.units i with task := 0, goal := 0 }) hA (by rw [setU_len]; exact hi) (by omega) (by unfold I64; omega) (by rw [gu_setU hi, if_pos rfl]; rfl)
  have e : setU (setU x i { gu x.units i with task := 0 }) i { gu x.units i with task := 0, goal := 0 } = setU x i { gu x.units i with task := 0, goal := 0 } := by
    unfold setU; simp
  rw [e] at h2
  exact h2
/-- One more has happened. -/
theorem MvR.more {A' : Option Addr} {c' : Nat} {e : EV} (h : MvR w0 w sK L s x wb Bu ev A c) (ho : w'.ownsRow Bu 85 3 (.slice A' (ev.length + 1) c') (ev.length + 1) (ev.flatMap eC ++ eC e)) (hg : w.grownBy w' (Value.slice A ev.length c).ownBlock) :
    MvR w0 w' sK L s x wb Bu (ev ++ [e]) A' c' := by
  have hbl : Below Bu w w' := by
    refine ⟨hg.os, hg.tape, hg.output, hg.size, fun k hk => hg.block k (by have := h.sz; omega) (fun e => ?_)⟩
    have := h.ev_.lt k e.symm
    omega
  have far : ∀ {sz m : Nat} {e : TypeId} {v : Value} {ys : List Value}, w.ownsRow Bu e sz v m ys → e ≠ 85 → w'.ownsRow Bu e sz v m ys := fun hr hne =>
    hr.kept hg (own_ne (fun e => hne e.symm) h.ev_ hr)
  refine ⟨h.b.trans hbl, Nat.le_trans h.sz hg.size, h.lt, h.kw.below hbl h.lt, h.ks.below hbl, ⟨far h.wo.g (by decide), far h.wo.o (by decide), far h.wo.d (by decide), far h.wo.u (by decide), far h.wo.q (by decide)⟩, h.int, ?_⟩
  rw [List.length_append, List.length_singleton, List.flatMap_append, List.flatMap_singleton]
  exact ho
end
/-- append of one event at a step of a region that draws its order. -/
theorem eventV_inf : (Tryd.prog.info? 85).map (fun i => (i.zero, i.size, i.bytes)) = some (some (.agg #[.int .i64 0, .int .i64 0, .int .i64 0]), 3, 24) := by kernel_rfl
theorem step_eA {ops : Array Oper} {o : Oper} {a : Act} {K : Act → World → Prop} {Q : Exit → Act → World → Prop} {E : Prop} {w : World} (hgd : o.guard = none) (s x : Operand)
    (ho : o.op = .call { callee := .builtin .append, args := #[s, x], argTypes := #[81, 81] })
    (bu : Nat) (v : Value) (n : Nat) (xs : List Value) (y0 y1 y2 : Value) (hs : a.eval s = v) (hown : w.ownsRow bu 85 3 v n xs)
    (ad c : Nat) (hx : a.eval x = .slice (some ⟨ad, 0, none⟩) 1 c) (hb : Blk w ad 85 #[y0, y1, y2]) (h1 : ∀ u ∈ [y0, y1, y2], u.oneCell' = true) (hn : n ≤ 100000) (hbu : bu ≤ w.heap.size)
    (h : ∀ gn cap w', w'.ownsRow bu 85 3 (.slice (some ⟨gn, 0, none⟩) (n + 1) cap) (n + 1) (xs ++ [y0, y1, y2]) → w.grownBy w' v.ownBlock → K (a.put o.dst (.slice (some ⟨gn, 0, none⟩) (n + 1) cap)) w') :
    if Region.wanted o (yielded ops a.tmps) = true then Oper.wp Tryd.prog o a w K Q else E := by
  obtain ⟨i0, hi0, hz0, hz1, hz2⟩ := info_parts eventV_inf
  refine step_append_lies w hgd s x 81 ho bu 85 i0 _ 3 24 Tryd.underlying81 hi0 hz0 hz1 hz2 rfl (by decide) v n xs hs hown ⟨ad, 0, none⟩ 1 c [y0, y1, y2] hx rfl (World.news_of_block (cs := #[y0, y1, y2]) hb) h1 (by decide) (by unfold maxLen; omega) (by omega) hbu w.heap.size rfl ?_
  intro g cap w' hown' hgrow hat hlt'
  exact h g cap w' hown' hgrow
end Go.Proofs.YtkgkpggfoieioaaDoor
