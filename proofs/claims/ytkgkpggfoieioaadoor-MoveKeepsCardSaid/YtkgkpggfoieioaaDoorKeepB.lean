import Derived.Test.YtkgkpggfoieioaaDoorKeepH
namespace Go.Proofs.YtkgkpggfoieioaaDoor
set_option linter.unusedVariables false
open Go.RowKit
/-! MoveKeeps: what stands in memory while what has happened is told once more. -/
def fillL (f : Nat → Int) (n k : Nat) : List Int := (List.range n).map (fun j => if j < k then f j else 0)
theorem fill_len (f : Nat → Int) (n k : Nat) : (fillL f n k).length = n := by unfold fillL; simp
theorem fill_get (f : Nat → Int) {n k j : Nat} (hj : j < n) : (fillL f n k)[j]? = some (if j < k then f j else 0) := by
  unfold fillL
  rw [List.getElem?_map, List.getElem?_range hj]; rfl
theorem fill_0 (f : Nat → Int) (n : Nat) : fillL f n 0 = List.replicate n 0 := by
  refine List.ext_getElem? fun j => ?_
  by_cases hj : j < n
  · rw [fill_get f hj, if_neg (Nat.not_lt_zero j), List.getElem?_replicate, if_pos hj]
  · rw [List.getElem?_eq_none (by rw [fill_len]; omega), List.getElem?_eq_none (by rw [List.length_replicate]; omega)]
theorem fill_set (f : Nat → Int) {n k : Nat} (hk : k < n) : (fillL f n k).set k (f k) = fillL f n (k + 1) := by
  refine List.ext_getElem? fun j => ?_
  by_cases hj : j < n
  · rw [List.getElem?_set, fill_get f hj]
    by_cases e : k = j
    · subst e
      rw [if_pos rfl, if_pos (by rw [fill_len]; exact hk), fill_get f hj, if_pos (by omega)]
    · rw [if_neg e, fill_get f hj]
      by_cases h : j < k
      · rw [if_pos h, if_pos (by omega)]
      · rw [if_neg h, if_neg (by omega)]
  · rw [List.getElem?_eq_none (by rw [List.length_set, fill_len]; omega), List.getElem?_eq_none (by rw [fill_len]; omega)]
theorem fill_all (g : GU → Int) (us : List GU) : fillL (fun j => g (gu us j)) us.length us.length = us.map g := by
  refine List.ext_getElem? fun j => ?_
  by_cases hj : j < us.length
  · rw [fill_get _ hj, if_pos hj, List.getElem?_map, gu_get hj]; rfl
  · rw [List.getElem?_eq_none (by rw [fill_len]; omega), List.getElem?_eq_none (by rw [List.length_map]; omega)]
theorem rp_le {L : List GK} {x : GW} (hx : WorldOk L x) (l : List EV) (j : Nat) : (rpRun L x l).1.getD j 0 ≤ 4 := by
  have key : ∀ (l : List EV) (r : List Int × List Int), (∀ j, r.1.getD j 0 ≤ 4) → ∀ j, (l.foldl (rpStep L x) r).1.getD j 0 ≤ 4 := by
    intro l
    induction l with
    | nil => intro r h j; exact h j
    | cons e l ih =>
      intro r h j
      refine ih _ (fun j => ?_) j
      unfold rpStep
      dsimp only
      rw [List.getD_eq_getElem?_getD, List.getElem?_set]
      have h0 : 0 ≤ ontoL x.field e.arg.toNat (gk L (gu x.units (findId x.units e.unit).toNat).kind.toNat).flies := by
        unfold ontoL ontoG
        repeat' split
        all_goals omega
      split
      · split
        · have := h (findId x.units e.unit).toNat
          show _ - _ ≤ (4 : Int)
          omega
        · show (0 : Int) ≤ 4; omega
      · have := h j
        rw [List.getD_eq_getElem?_getD] at this
        exact this
  refine key l _ (fun j => ?_) j
  show (x.units.map (fun u => (gk L u.kind.toNat).speed)).getD j 0 ≤ 4
  rw [List.getD_eq_getElem?_getD, List.getElem?_map]
  by_cases hj : j < x.units.length
  · rw [gu_get hj]
    have hk := (unitE_ok (hx.units j hj)).kind
    exact (kindsE_at hx.kinds (k := (gu x.units j).kind.toNat) (by omega)).speed.2
  · rw [List.getElem?_eq_none (by omega)]
    show (0 : Int) ≤ 4; omega
theorem find_lt {x : GW} {c : Int} (h : 0 ≤ findId x.units c) : (findId x.units c).toNat < x.units.length := by
  have := first_lt (fun v => v.id == c) x.units
  unfold findId at h ⊢
  omega
theorem at0_getD (l : List Int) (k : Nat) : at0 l k = l.getD k 0 := rfl
def sndC : Code → Code
  | .seq _ b => b
  | c => c
/-- The code behind so many steps of a function's body. -/
def tailC : Nat → Code → Code
  | 0, c => c
  | k + 1, c => tailC k (sndC c)
def bodyC (f : Func) : Code := match f.body with
  | some c => c
  | none => .ret
structure KpB (w0 w : World) (sK : SL) (L : List GK) (s : SW) (x : GW) (wb xb : Nat) (s2 : SW) (Y : GW) (A : Option Addr) (EV : List EV) (B lb ab : Nat) (ls as_ : List Int) : Prop where
  sb : SBx w0 w sK L s x wb
  kx : Blk w xb 55 (wC s2 Y)
  ry : WRd w B s2 Y
  re : RE w B A EV
  kl : Blk w lb 3 (arrI ls)
  ka : Blk w ab 3 (arrI as_)
  p1 : w0.heap.size ≤ wb
  p2 : wb < xb
  p3 : xb < B
  p4 : B ≤ lb
  p5 : lb < ab
section
variable {w0 w w' : World} {sK : SL} {L : List GK} {s s2 : SW} {x Y : GW} {wb xb B lb ab : Nat} {A : Option Addr} {EV : List EV} {ls as_ : List Int}
theorem KpB.below (h : KpB w0 w sK L s x wb xb s2 Y A EV B lb ab ls as_) (hb : Below w.heap.size w w') : KpB w0 w' sK L s x wb xb s2 Y A EV B lb ab ls as_ := by
  have hl := h.kl.lt
  have hB : B ≤ w.heap.size := by have := h.p4; omega
  exact ⟨h.sb.below hb, h.kx.below hb h.kx.lt, h.ry.below (hb.mono hB), RD.below h.re (hb.mono hB), h.kl.below hb hl, h.ka.below hb h.ka.lt, h.p1, h.p2, h.p3, h.p4, h.p5⟩
theorem KpB.drewN (h : KpB w0 w sK L s x wb xb s2 Y A EV B lb ab ls as_) (n : Nat) : KpB w0 (w.drewN n) sK L s x wb xb s2 Y A EV B lb ab ls as_ := h.below ⟨rfl, rfl, rfl, Nat.le_refl _, fun _ _ => rfl⟩
theorem KpB.alloc (h : KpB w0 w sK L s x wb xb s2 Y A EV B lb ab ls as_) (o : Obj) : KpB w0 (w.alloc o) sK L s x wb xb s2 Y A EV B lb ab ls as_ := h.below ((Below.refl _ _).alloc (Nat.le_refl _) o)
theorem WRd.cellK {i b : Nat} {u : Value} (h : WRd w B s2 Y) (hb : B ≤ b) : WRd (w.setCell ⟨b, i, none⟩ u) B s2 Y := h.below ((Below.refl _ _).setCell (p := ⟨b, i, none⟩) hb u)
theorem KpB.setL (h : KpB w0 w sK L s x wb xb s2 Y A EV B lb ab ls as_) (k : Nat) (v : Int) : KpB w0 (w.setCell ⟨lb, k, none⟩ (.int .i64 v)) sK L s x wb xb s2 Y A EV B lb ab (ls.set k v) as_ := by
  have p1 := h.p1; have p2 := h.p2; have p3 := h.p3; have p4 := h.p4; have p5 := h.p5
  exact ⟨h.sb.farK (by omega) (by omega), h.kx.far (p := ⟨lb, k, none⟩) (by show xb ≠ lb; omega) _, h.ry.cellK p4, RD.setCell h.re (p := ⟨lb, k, none⟩) p4 _, h.kl.setI k v, h.ka.far (p := ⟨lb, k, none⟩) (by show ab ≠ lb; omega) _, p1, p2, p3, p4, p5⟩
theorem KpB.setA (h : KpB w0 w sK L s x wb xb s2 Y A EV B lb ab ls as_) (k : Nat) (v : Int) : KpB w0 (w.setCell ⟨ab, k, none⟩ (.int .i64 v)) sK L s x wb xb s2 Y A EV B lb ab ls (as_.set k v) := by
  have p1 := h.p1; have p2 := h.p2; have p3 := h.p3; have p4 := h.p4; have p5 := h.p5
  exact ⟨h.sb.farK (by omega) (by omega), h.kx.far (p := ⟨ab, k, none⟩) (by show xb ≠ ab; omega) _, h.ry.cellK (by omega), RD.setCell h.re (p := ⟨ab, k, none⟩) (by show B ≤ ab; omega) _, h.kl.far (p := ⟨ab, k, none⟩) (by show lb ≠ ab; omega) _, h.ka.setI k v, p1, p2, p3, p4, p5⟩
theorem KpB.cells (h : KpB w0 w sK L s x wb xb s2 Y A EV B lb ab ls as_) : w.cell? ⟨wb, 0, none⟩ = some (.int .i64 x.turn) ∧ w.cell? ⟨wb, 1, none⟩ = some (.int .i64 x.next) ∧ w.cell? ⟨wb, 2, none⟩ = some (.int .i64 x.field.wide) ∧ w.cell? ⟨wb, 3, none⟩ = some (.int .i64 x.field.high) ∧ w.cell? ⟨wb, 4, none⟩ = some (.slice s.field.ground.A x.field.ground.length s.field.ground.c) ∧ w.cell? ⟨wb, 5, none⟩ = some (.slice s.field.ore.A x.field.ore.length s.field.ore.c) ∧ w.cell? ⟨wb, 6, none⟩ = some (.slice s.gold.A x.gold.length s.gold.c) ∧ w.cell? ⟨wb, 7, none⟩ = some (.slice s.units.A x.units.length s.units.c) ∧ w.cell? ⟨wb, 8, none⟩ = some (.slice s.queue.A x.queue.length s.queue.c) ∧ wb < w.heap.size := h.sb.cells
theorem KpB.ucell (h : KpB w0 w sK L s x wb xb s2 Y A EV B lb ab ls as_) {i : Nat} (hi : i < x.units.length) {ub uo : Nat} (hA : s.units.A = some ⟨ub, uo, none⟩) :
    w.cell? ⟨ub, uo + i * 8, none⟩ = some (.int .i64 (gu x.units i).id) ∧ w.cell? ⟨ub, uo + i * 8 + 1, none⟩ = some (.int .i64 (gu x.units i).player) ∧ w.cell? ⟨ub, uo + i * 8 + 2, none⟩ = some (.int .i64 (gu x.units i).kind) ∧ w.cell? ⟨ub, uo + i * 8 + 3, none⟩ = some (.int .i64 (gu x.units i).spot) ∧ w.cell? ⟨ub, uo + i * 8 + 4, none⟩ = some (.int .i64 (gu x.units i).life) ∧ w.cell? ⟨ub, uo + i * 8 + 5, none⟩ = some (.int .i64 (gu x.units i).load) ∧ w.cell? ⟨ub, uo + i * 8 + 6, none⟩ = some (.int .i64 (gu x.units i).task) ∧ w.cell? ⟨ub, uo + i * 8 + 7, none⟩ = some (.int .i64 (gu x.units i).goal) := by
  obtain ⟨b, o, hA', _, h0⟩ := ru_at h.sb.wo_.2.2.2.2.1.1 i hi
  rw [hA] at hA'
  injection hA' with hA'
  injection hA' with e3 e4
  subst e3; subst e4
  exact h0
theorem KpB.ycell (h : KpB w0 w sK L s x wb xb s2 Y A EV B lb ab ls as_) {i : Nat} (hi : i < Y.units.length) {ub uo : Nat} (hA : s2.units.A = some ⟨ub, uo, none⟩) :
    w.cell? ⟨ub, uo + i * 8, none⟩ = some (.int .i64 (gu Y.units i).id) ∧ w.cell? ⟨ub, uo + i * 8 + 1, none⟩ = some (.int .i64 (gu Y.units i).player) ∧ w.cell? ⟨ub, uo + i * 8 + 2, none⟩ = some (.int .i64 (gu Y.units i).kind) ∧ w.cell? ⟨ub, uo + i * 8 + 3, none⟩ = some (.int .i64 (gu Y.units i).spot) ∧ w.cell? ⟨ub, uo + i * 8 + 4, none⟩ = some (.int .i64 (gu Y.units i).life) ∧ w.cell? ⟨ub, uo + i * 8 + 5, none⟩ = some (.int .i64 (gu Y.units i).load) ∧ w.cell? ⟨ub, uo + i * 8 + 6, none⟩ = some (.int .i64 (gu Y.units i).task) ∧ w.cell? ⟨ub, uo + i * 8 + 7, none⟩ = some (.int .i64 (gu Y.units i).goal) := by
  obtain ⟨b, o, hA', _, h0⟩ := ru_at h.ry.u i hi
  rw [hA] at hA'
  injection hA' with hA'
  injection hA' with e3 e4
  subst e3; subst e4
  exact h0
theorem SBx.speedK {bk okk sc : Nat} (h : SBx w0 w ⟨some ⟨bk, okk, none⟩, sc⟩ L s x wb) (kd : Nat) (hkd : kd < L.length) : w.cell? ⟨bk, okk + kd * 11 + 5, none⟩ = some (.int .i64 (gk L kd).speed) := by
  obtain ⟨b', o', hA', _, _, _, _, _, _, k5, _⟩ := rk_at h.ks_.rd kd hkd
  dsimp only at hA'
  injection hA' with hA'
  injection hA' with e3 e4
  subst e3; subst e4
  exact k5
end
end Go.Proofs.YtkgkpggfoieioaaDoor
