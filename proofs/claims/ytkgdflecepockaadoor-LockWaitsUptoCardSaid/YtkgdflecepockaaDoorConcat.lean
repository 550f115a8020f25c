import Derived.Test.YtkgdflecepockaaDoorLastA
import Derived.Test.YtkgdflecepockaaDoorLock
import Derived.Lib.AppendZerosOnto
import Derived.Lib.SliceRun
namespace Go.Proofs.YtkgdflecepockaaDoor
set_option linter.unusedVariables false
open Go.RowKit
/-- A row of a slice of slices. -/
structure RW where
  A : Option Addr
  c : Nat
  L : List Od
def RW.v (r : RW) : Value := .slice r.A r.L.length r.c
def RW.ok (w : World) (B : Nat) (r : RW) : Prop := RO w B r.A r.L ∧ (r.A = none → r.c = 0)
def sizeR (rs : List RW) : Nat := (rs.map fun r => r.L.length).sum
def catR (rs : List RW) : List Od := rs.flatMap (·.L)
theorem catR_len (rs : List RW) : (catR rs).length = sizeR rs := by
  induction rs with
  | nil => rfl
  | cons r rs ih =>
    have e1 : catR (r :: rs) = r.L ++ catR rs := by simp [catR]
    have e2 : sizeR (r :: rs) = r.L.length + sizeR rs := by simp [sizeR]
    rw [e1, e2, List.length_append, ih]
theorem sizeR_s (rs : List RW) (k : Nat) (h : k < rs.length) : sizeR (rs.take (k + 1)) = sizeR (rs.take k) + rs[k].L.length := by
  rw [List.take_succ_eq_append_getElem h]; unfold sizeR; rw [List.map_append, List.sum_append]; simp
theorem catR_s (rs : List RW) (k : Nat) (h : k < rs.length) : catR (rs.take (k + 1)) = catR (rs.take k) ++ rs[k].L := by
  rw [List.take_succ_eq_append_getElem h]; unfold catR; rw [List.flatMap_append]; simp
theorem sizeR_le (rs : List RW) (k : Nat) : sizeR (rs.take k) ≤ sizeR rs := by
  have : sizeR rs = sizeR (rs.take k) + sizeR (rs.drop k) := by
    unfold sizeR
    rw [← List.sum_append, ← List.map_append, List.take_append_drop]
  omega
theorem RW.ok.below {w w' : World} {B : Nat} {r : RW} (h : r.ok w B) (hb : Below B w w') : r.ok w' B := ⟨h.1.below hb, h.2⟩
/-- append of so many zeros: by its run's equation. -/
theorem wpList_append_cnt {P : Program} {ops : Array Oper} {rest : List Oper} {o : Oper} {a : Act} {Q : Exit → Act → World → Prop} (hgd : o.guard = none) (s x : Operand) (t tn : TypeId)
    (ho : o.op = .call { callee := .builtin .append, args := #[s, x], argTypes := #[t, tn] }) (w w' : World) (v y r : Value) (hs : a.eval s = v) (hx : a.eval x = y)
    (hrun : (Builtin.append_ #[t, tn] o.type #[v, y]).run P w = .ok r w') (h : wpList P ops Q rest (a.put o.dst r) w') : wpList P ops Q (o :: rest) a w :=
  wpList_plain hgd fun K hK => by
    unfold Oper.wp execOp
    simp only [ho, resolve, invoke, builtin, Sem.run_bind, Sem.run_pure, Result.andThen_ok, List.map_toArray, List.map_cons, List.map_nil, hs, hx, hrun]
    exact hK _ _ h
set_option maxRecDepth 100000 in
theorem grow_any (n : Nat) (w : World) (hn : n ≤ 1000000000) :
    Calls Tryd.prog 78 #[.slice none 0 0, .int .i64 (n : Int)] w fun e w' => ∃ v, e = .returned v ∧ w'.ownsRow w.heap.size 66 4 v 0 [] ∧ Below w.heap.size w w' := by
  obtain ⟨i0, hi0, hz0, hz1, hz2⟩ := info_parts ord_info
  have b1 : ¬ ((n : Int) < 0) := by omega
  rcases Nat.eq_zero_or_pos n with rfl | hp
  · go_enter Tryd.func78, Tryd.ntmps78
    go_wp2_with fail
    go_ret
    exact ⟨_, rfl, World.ownsRow_nil _ _ _ _, Below.refl _ _⟩
  · have b2 : (0 : Int) < (n : Int) := by omega
    have hap := fun ty => Lib.run_append_grow_zeros (P := Tryd.prog) w 55 3 ty 66 i0 _ .i64 .i64 Tryd.underlying55 Tryd.underlying3 hi0 hz0 none 0 0 [] (by rw [hz1]; exact run_firstCells_none w.drew 4 0 0 0) n hp (by omega) (by omega) (by omega) (by rw [hz2]; omega) (by
      rw [hz2]
      exact growslice_fits (by omega) (by omega))
    have hGn := grownCap_ge w (0 + n) 0 66
    have hG63 := grownCap_le_maxLen w (0 + n) 0 66 (by unfold maxLen; omega)
    rw [Nat.zero_add] at hGn hG63
    simp only [Nat.zero_add] at hap
    generalize grownCap w n 0 66 = cap at *
    unfold maxLen at hG63
    obtain ⟨cs, hcs⟩ : ∃ cs, (([] : List Value).toArray ++ Builtin.zeroCells (Value.agg #[Value.int IntKind.i64 0, Value.int IntKind.i64 0, Value.int IntKind.i64 0, Value.int IntKind.i64 0]).cells n ++ Builtin.zeroCells (Value.agg #[Value.int IntKind.i64 0, Value.int IntKind.i64 0, Value.int IntKind.i64 0, Value.int IntKind.i64 0]).cells (cap - n)) = cs := ⟨_, rfl⟩
    rw [hcs] at hap
    have hsz : cs.size = cap * 4 := by
      rw [← hcs]
      simp [Builtin.zeroCells, Value.cells]
      omega
    replace hcs := Lib.hid hcs
    replace hsz := Lib.hid hsz
    go_enter Tryd.func78, Tryd.ntmps78
    replace hap := Lib.hid hap
    go_wp2_with (at_builtin; refine wpList_append_cnt rfl (.tmp 20) (.tmp 21) 55 3 rfl w _ (.slice none 0 0) (.int .i64 (n : Int)) _ rfl rfl (hap.out _) ?_)
    go_ret
    refine ⟨_, rfl, ⟨rfl, .inr ⟨w.heap.size, cap, cs, rfl, Nat.le_refl _, (heap_alloc_new w.drew _), Nat.zero_le _, hG63, ?_, rfl⟩⟩, ?_⟩
    · exact hsz.out
    · exact ((Below.refl _ _).drew).alloc (Nat.le_refl _) _
/-- What the second loop of Concat has so far. -/
def CRel (w : World) (rows : List RW) (k : Nat) (v : Value) (wr : World) : Prop :=
  Below w.heap.size w wr ∧ wr.ownsRow w.heap.size 66 4 v (catR (rows.take k)).length ((catR (rows.take k)).flatMap oC)
theorem flat_one (L : List Od) : (L.flatMap oC).all (·.oneCell') = true := List.all_eq_true.2 (fun v hv => by
  obtain ⟨o, _, ho⟩ := List.mem_flatMap.1 hv
  exact oC_one o v ho)
set_option maxHeartbeats 1600000 in
set_option maxRecDepth 100000 in
theorem concat_any (A : Option Addr) (m c B : Nat) (rows : List RW) (w : World) (hm : rows.length = m) (hB : B ≤ w.heap.size) (h : RD w B 1 A m (rows.map RW.v)) (hr : ∀ r ∈ rows, r.ok w B) (hl : sizeR rows ≤ 1000000) (hml : m ≤ 1000000) :
    Calls Tryd.prog 61 #[.slice A m c] w fun e w' => ∃ v, e = .returned v ∧ w'.ownsRow w.heap.size 66 4 v (catR rows).length ((catR rows).flatMap oC) ∧ Below w.heap.size w w' := by
  obtain ⟨i0, hi0, hz0, hz1, hz2⟩ := info_parts ord_info
  replace h := Lib.hid h
  replace hr := Lib.hid hr
  replace hm := Lib.hid hm
  go_enter Tryd.func61, Tryd.ntmps61
  go_wp2_with fail
  go_loop [3, 5, 11] (fun vs _ vi => ∃ k : Nat, vi = .int .i64 k ∧ k ≤ m ∧ vs = .int .i64 (sizeR (rows.take k) : Nat)) (fun _ _ vi => m - (intOf vi).toNat)
  case atStart => exact ⟨0, rfl, Nat.zero_le _, rfl⟩
  case round =>
    obtain ⟨k, rfl, hk, rfl⟩ := hrel
    have hsl := sizeR_le rows k
    by_cases hlt : k < m
    · have i1 : (k : Int) < (m : Int) := by omega
      have hkr : k < rows.length := by rw [hm.out]; exact hlt
      obtain ⟨b, o, hA, hbl⟩ := h.out.addr (by omega)
      have hc := h.out.at_ hA (j := k) (by omega)
      rw [List.getElem?_map, List.getElem?_eq_getElem hkr] at hc
      simp only [Option.map_some] at hc
      have hss := sizeR_s rows k hkr
      have hsl2 := sizeR_le rows (k + 1)
      rw [hss] at hsl2
      generalize rows[k] = r at *
      obtain ⟨rA, rc, rL⟩ := r
      dsimp only [RW.v] at hc hss hsl2
      subst hA
      have i2 : ¬ ((sizeR (rows.take k) : Int) + (rL.length : Int) < 0) := by omega
      replace hss := Lib.hid hss
      go_wp2_with fail
      go_round
      case rel => exact ⟨k + 1, by go_num, by omega, by rw [hss.out]; go_num⟩
      case measure => simp [intOf]; omega
    · have i1 : ¬ (k : Int) < (m : Int) := by omega
      have hkm : k = m := by omega
      have hsz : sizeR (rows.take k) = sizeR rows := by rw [hkm, ← hm.out, List.take_length]
      rw [hsz]
      replace hsz := Lib.hid hsz
      replace hkm := Lib.hid hkm
      go_wp2_with fail
      refine (grow_any (sizeR rows) w (by omega)).mono ?_
      rintro e w1 ⟨v1, rfl, ho1, hb1⟩
      have hC0 : CRel w rows 0 v1 w1 := ⟨hb1, ho1⟩
      replace hC0 := Lib.hid hC0
      clear ho1 hb1
      go_wp2_with fail
      go_loopw [6, 8, 27] (fun v _ vi wr => ∃ k : Nat, vi = .int .i64 k ∧ k ≤ m ∧ Hid (CRel w rows k v wr)) (fun _ _ vi _ => m - (intOf vi).toNat)
      case atStart => exact ⟨0, rfl, Nat.zero_le _, hC0⟩
      case round =>
        clear hC0 hsl
        obtain ⟨k, rfl, hk, hC⟩ := hrel
        obtain ⟨hb, hown⟩ := hC.out
        clear hC
        by_cases hlt : k < m
        · have i1 : (k : Int) < (m : Int) := by omega
          have hkr : k < rows.length := by rw [hm.out]; exact hlt
          have hh := h.out.below (hb.mono hB)
          obtain ⟨b, o, hA, hbl⟩ := hh.addr (by omega)
          have hc := hh.at_ hA (j := k) (by omega)
          rw [List.getElem?_map, List.getElem?_eq_getElem hkr] at hc
          simp only [Option.map_some] at hc
          have hro := (hr.out rows[k] (List.getElem_mem hkr)).below (hb.mono hB)
          have hcs := catR_s rows k hkr
          have hl1 : (catR (rows.take k)).length ≤ 1000000 := by rw [catR_len]; have := sizeR_le rows k; omega
          have hl2 : (catR (rows.take (k + 1))).length ≤ 1000000 := by rw [catR_len]; have := sizeR_le rows (k + 1); omega
          rw [hcs, List.length_append] at hl2
          generalize rows[k] = r at *
          obtain ⟨rA, rc, rL⟩ := r
          obtain ⟨hro1, hro2⟩ := hro
          dsimp only [RW.v] at hc hcs hl2 hro1 hro2
          subst hA
          have hsz := hb.size
          replace hb := Lib.hid hb
          replace hown := Lib.hid hown
          replace hro1 := Lib.hid hro1
          replace hro2 := Lib.hid hro2
          replace hcs := Lib.hid hcs
          replace hh := Lib.hid hh
          generalize hq : (catR (rows.take k)) = q at *
          replace hq := Lib.hid hq
          go_wp2_with (at_builtin; refine wpList_append_rd rfl (.tmp 31) (.tmp 32) 55 rfl w.heap.size 66 i0 _ 4 32 Tryd.underlying55 hi0 hz0 hz1 hz2 rfl (by decide) wr u6 q.length _ rfl hown.out B rA rL.length rc (rL.flatMap oC) rfl hro2.out hro1.out (flat_one rL) (by unfold maxLen; omega) (by omega) hsz ?_; intro v' w9 hown' hgrow)
          have hC9 : CRel w rows (k + 1) v' w9 := ⟨hb.out.grown hgrow hsz (fun b e => (hown.out.lt b e).1), by rw [hcs.out, List.length_append, List.flatMap_append]; exact hown'⟩
          replace hC9 := Lib.hid hC9
          clear hown' hgrow
          go_wp2_with fail
          go_roundw
          case rel => exact ⟨k + 1, by go_num, by omega, hC9⟩
          case measure => simp [intOf]; omega
        · have i1 : ¬ (k : Int) < (m : Int) := by omega
          have hkm2 : k = m := by omega
          rw [hkm2, ← hm.out, List.take_length] at hown
          replace hb := Lib.hid hb
          replace hown := Lib.hid hown
          replace hkm2 := Lib.hid hkm2
          go_wp2_with fail
          go_ret
          exact ⟨_, rfl, hown.out, hb.out⟩
theorem own_roomC {w : World} {base : Nat} {e : TypeId} {sz n c : Nat} {A : Option Addr} {xs : List Value} (h : w.ownsRow base e sz (.slice A n c) n xs) : n ≤ c ∧ (A = none → c = 0) := by
  rcases h.2 with ⟨hv, h0⟩ | ⟨g, cap, cur, hv, h1, h2, h3, h4, h5, h6⟩
  · injection hv with h1 h2 h3
    exact ⟨by omega, fun _ => h3⟩
  · injection hv with e1 e2 e3
    subst e1; subst e3
    exact ⟨h3, fun h => by cases h⟩
set_option maxRecDepth 100000 in
theorem merge_ok (A : Option Addr) (m c B : Nat) (rows : List RW) (w : World) (hm : rows.length = m) (hB : B ≤ w.heap.size) (h : RD w B 1 A m (rows.map RW.v)) (hr : ∀ r ∈ rows, r.ok w B) (hl : sizeR rows ≤ 1000000) (hml : m ≤ 1000000) (hE : ordsE (catR rows) = 0) :
    Calls Tryd.prog 48 #[.slice A m c] w (LastPost w (catR rows)) := by
  have hc := concat_any A m c B rows w hm hB h hr hl hml
  clear h hr
  replace hc := Lib.hid hc
  replace hE := Lib.hid hE
  replace hm := Lib.hid hm
  go_enter Tryd.func48, Tryd.ntmps48
  go_wp2_with fail
  refine hc.out.mono ?_
  rintro e w1 ⟨v, rfl, hown, hb⟩
  obtain ⟨A1, c1, rfl, _⟩ := own_slice hown
  have hroom := own_roomC hown
  have hs := hb.size
  replace hb := Lib.hid hb
  replace hown := Lib.hid hown
  go_wp2_with fail
  refine (last_ok A1 c1 w1.heap.size (catR rows) w1 (RD.of_own hown.out) (Nat.le_refl _) hroom.2 hE.out).mono ?_
  rintro e w2 ⟨hb2, A2, c2, R, rfl, hI, ho2⟩
  have hb3 := hb.out.trans (hb2.mono hs)
  have ho3 := own_base (base' := w.heap.size) ho2 hs
  replace hb3 := Lib.hid hb3
  replace ho3 := Lib.hid ho3
  replace hI := Lib.hid hI
  clear hb2 ho2
  go_wp2_with fail
  go_ret2
  exact ⟨hb3.out, A2, c2, R, rfl, hI.out, ho3.out⟩
set_option maxRecDepth 100000 in
theorem merge_bad (A : Option Addr) (m c B : Nat) (rows : List RW) (w : World) (hm : rows.length = m) (hB : B ≤ w.heap.size) (h : RD w B 1 A m (rows.map RW.v)) (hr : ∀ r ∈ rows, r.ok w B) (hl : sizeR rows ≤ 1000000) (hml : m ≤ 1000000) (hE : ordsE (catR rows) ≠ 0) :
    Calls Tryd.prog 48 #[.slice A m c] w fun e w' => e = .returned (.tuple #[.slice none 0 0, oErr (ordsE (catR rows))]) ∧ Below w.heap.size w w' := by
  have hc := concat_any A m c B rows w hm hB h hr hl hml
  have hlen : (catR rows).length ≤ 1000000 := by rw [catR_len]; exact hl
  have he : oErr (ordsE (catR rows)) = .iface 80 (.int .i64 (ordsE (catR rows))) := by unfold oErr; rw [if_neg hE]
  rw [he]
  replace he := Lib.hid he
  clear h hr
  replace hc := Lib.hid hc
  replace hE := Lib.hid hE
  replace hm := Lib.hid hm
  go_enter Tryd.func48, Tryd.ntmps48
  go_wp2_with fail
  refine hc.out.mono ?_
  rintro e w1 ⟨v, rfl, hown, hb⟩
  obtain ⟨A1, c1, rfl, _⟩ := own_slice hown
  have hs := hb.size
  replace hb := Lib.hid hb
  replace hown := Lib.hid hown
  have hlb := last_bad A1 c1 w1.heap.size (catR rows) w1 (RD.of_own hown.out) (Nat.le_refl _) (by omega) hE.out
  rw [he.out] at hlb
  replace hlb := Lib.hid hlb
  go_wp2_with fail
  refine hlb.out.mono ?_
  rintro e w2 ⟨rfl, hb2⟩
  have hb3 := hb.out.trans (hb2.mono hs)
  replace hb3 := Lib.hid hb3
  clear hb2
  go_wp2_with fail
  go_ret2
  exact ⟨rfl, hb3.out⟩
end Go.Proofs.YtkgdflecepockaaDoor
