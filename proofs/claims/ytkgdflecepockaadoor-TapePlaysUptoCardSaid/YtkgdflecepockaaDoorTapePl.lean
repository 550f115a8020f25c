import Derived.Test.YtkgdflecepockaaDoorTapeOps
import Derived.Test.YtkgdflecepockaaDoorStr
import Derived.Test.YtkgdflecepockaaDoorTold
import Derived.Maps.AppendAt
namespace Go.Proofs.YtkgdflecepockaaDoor
set_option linter.unusedVariables false
open Go.RowKit
/-- append of what reads as a list, and where the new row lies. -/
theorem wpList_append_rdL {P : Program} {ops : Array Oper} {rest : List Oper} {o : Oper} {a : Act} {Q : Exit → Act → World → Prop} (hgd : o.guard = none) (s x : Operand) (t : TypeId)
    (ho : o.op = .call { callee := .builtin .append, args := #[s, x], argTypes := #[t, t] })
    (base : Nat) (e : TypeId) (i : TypeInfo) (z : Value) (size bytes : Nat) (ht : P.underlying t = some (.slice e)) (hi : P.info? e = some i) (hz : i.zero = some z)
    (hsize : i.size = size) (hby : i.bytes = bytes) (hzs : z.cells.size = size) (hsz : 0 < size)
    (w : World) (v : Value) (n : Nat) (xs : List Value) (hs : a.eval s = v) (hown : w.ownsRow base e size v n xs)
    (B : Nat) (A : Option Addr) (m c : Nat) (news : List Value) (hx : a.eval x = .slice A m c) (hnil : A = none → c = 0) (hr : RD w B size A m news) (h1 : news.all (·.oneCell') = true)
    (h63 : n + m ≤ maxLen) (hbytes : (n + m) * bytes ≤ 140737488355328) (hbase : base ≤ w.heap.size)
    (h : ∀ v' w', w'.ownsRow base e size v' (n + m) (xs ++ news) → w.grownBy w' v.ownBlock → (v'.ownBlock = v.ownBlock ∨ v'.ownBlock = some w.heap.size) → wpList P ops Q rest (a.put o.dst v') w') : wpList P ops Q (o :: rest) a w := by
  rcases A with _ | ad
  · have hm : m = 0 := by
      rcases Nat.eq_zero_or_pos m with h0 | h0
      · exact h0
      · obtain ⟨b, off, e, _⟩ := hr.2 h0
        cases e
    subst hm
    have hc := hnil rfl
    subst hc
    have hn : news = [] := List.eq_nil_of_length_eq_zero (by simpa using hr.1)
    subst hn
    refine wpList_append_own_none hgd s x t ho base e i size ht hi v n xs hs hown hx (h v w ?_ (World.grownBy.refl w _) (.inl rfl))
    simpa using hown
  · refine wpList_append_own_at _ hgd s x t ho base e i z size bytes ht hi hz hsize hby hzs hsz v n xs hs hown ad m c news hx hr.1 ?_ (List.all_eq_true.1 h1) h63 hbytes hbase (fun v' w' h2 h3 _ h5 => h v' w' h2 h3 h5)
    intro j u hu
    have hj : j < m * size := by
      rw [← hr.1]
      rcases Nat.lt_or_ge j news.length with h | h
      · exact h
      · rw [List.getElem?_eq_none h] at hu; cases hu
    have hm : 0 < m := by
      rcases Nat.eq_zero_or_pos m with h0 | h0
      · subst h0; omega
      · exact h0
    obtain ⟨b, off, e, _, hc⟩ := hr.2 hm
    injection e with e
    subst e
    rw [addr_add, hc j hj, hu]
/-- The block of a slice. -/
def ob (A : Option Addr) : Option Nat := (Value.slice A 0 0).ownBlock
theorem ob_eq (A : Option Addr) (n c : Nat) : (Value.slice A n c).ownBlock = ob A := by cases A <;> rfl
section
variable {w : World} {g B c : Nat} {A : Option Addr} {xs : List Int} {safe steps stop : Int}
set_option maxHeartbeats 800000 in
set_option maxRecDepth 100000 in
theorem tappend_okL (Y : Option Addr) (n d D : Nat) (ys : List Int) (h : TOk w B g A c xs safe steps stop) (hn : stop < 0 ∨ steps < stop) (h0 : 0 ≤ steps ∧ steps ≤ 1000000) (hD : D ≤ B) (hy : RD w D 1 Y n (ys.map (.int .u8))) (hyl : ys.length = n) (hnil : Y = none → d = 0) (hl : xs.length + n ≤ 6000) :
    Calls Tryd.prog 7 #[.pointer (some ⟨g, 0, none⟩), .slice Y n d] w fun e w' => ∃ A' c', e = .returned (.tuple #[.int .i64 ((xs.length + n : Nat) : Int), .nilIface]) ∧ TOk w' B g A' c' (xs ++ ys) safe (steps + 1) stop ∧ TEff w w' g (ob A) ∧ (ob A' = ob A ∨ ∃ b, ob A' = some b ∧ w.heap.size ≤ b) := by
  obtain ⟨i0, hi0, hz0, hz1, hz2⟩ := info_parts u8_info
  obtain ⟨c0, c1, c2, c3⟩ := h.cell
  have H := Lib.hid h
  replace hn := Lib.hid hn
  replace hy := Lib.hid hy
  replace hnil := Lib.hid hnil
  have hyl2 : (ys.map (Value.int .u8)).length = n := by simpa using hyl
  replace hyl := Lib.hid hyl
  clear h c1 c2 c3
  go_enter Tryd.func7, Tryd.ntmps7
  go_wp2_with fail
  refine (tstep_ok H.out hn.out h0).mono ?_
  rintro e w1 ⟨rfl, h1, he⟩
  clear c0
  obtain ⟨c0, c1, c2, c3⟩ := h1.cell
  have hsz := he.size
  have hlow := H.out.low
  have hszB := H.out.size
  have hy1 : RD w1 D 1 Y n (ys.map (.int .u8)) := hy.out.keep fun b o hb => World.cell?_of_block (he.block b (by omega) (by omega) (by simp))
  replace hy1 := Lib.hid hy1
  replace h1 := Lib.hid h1
  replace he := Lib.hid he
  replace hyl2 := Lib.hid hyl2
  clear c1 c2 c3
  go_wp2_with (at_builtin; refine wpList_append_rdL rfl (.tmp 27) (.tmp 28) 23 rfl B 5 i0 _ 1 1 Tryd.underlying23 hi0 hz0 hz1 hz2 rfl (by decide) w1 (.slice A xs.length c) xs.length _ rfl h1.out.own D Y n d (ys.map (.int .u8)) rfl hnil.out hy1.out (by simp [Value.oneCell']) ?_ ?_ ?_ ?_)
  · unfold maxLen; omega
  · omega
  · exact h1.out.size
  · intro v' w2 hown hgrow hloc
    obtain ⟨A', c', rfl, _⟩ := own_slice hown
    rw [ob_eq, ob_eq] at hloc
    have hloc2 : ob A' = ob A ∨ ∃ b, ob A' = some b ∧ w.heap.size ≤ b := by
      rcases hloc with h | h
      · exact .inl h
      · exact .inr ⟨_, h, hsz⟩
    have hb2 := h1.out.blk.grown hgrow (by have := h1.out.far; exact fun h => this h.symm)
    have c0 := hb2.cell 0
    have f0 := hb2.frozen 0
    have hlt := hb2.lt
    have hT : TOk (w2.setCell ⟨g, 0, none⟩ (.slice A' (xs.length + n) c')) B g A' c' (xs ++ ys) safe (steps + 1) stop := by
      have hll : (xs ++ ys).length = xs.length + n := by rw [List.length_append, hyl.out]
      have ho2 : w2.ownsRow B 5 1 (.slice A' (xs.length + n) c') (xs ++ ys).length ((xs ++ ys).map (.int .u8)) := by rw [hll, List.map_append]; exact hown
      refine ⟨by rw [hll]; exact hb2.set_ 0 _, ?_, h1.out.low⟩
      rw [hll] at ho2 ⊢
      refine ho2.kept (grownBy_set w2 g 0 _) (.inr ?_)
      intro e
      rcases ho2.2 with ⟨hv, _⟩ | ⟨g', cap, cur, hv, _, hg, _⟩
      · rw [hv] at e; simp [Value.ownBlock] at e
      · rw [hv] at e
        simp only [Value.ownBlock, Option.some.injEq] at e
        subst e
        have hb := hb2
        unfold Blk at hb
        rw [hb] at hg
        injection hg with hg
        injection hg with _ ht
        exact absurd ht (by decide)
    rw [ob_eq] at hgrow
    have hE : TEff w (w2.setCell ⟨g, 0, none⟩ (.slice A' (xs.length + n) c')) g (ob A) := ((he.out.widen _).grown hgrow).set _ _
    replace hT := Lib.hid hT
    replace hE := Lib.hid hE
    replace hloc2 := Lib.hid hloc2
    clear hown hgrow hb2 hloc
    go_wp2_with fail
    go_ret2
    exact ⟨_, _, rfl, hT.out, hE.out, hloc2.out⟩
set_option maxRecDepth 100000 in
theorem tappend_no (Y : Option Addr) (n d : Nat) (r : Int) (h : TOk w B g A c xs safe steps stop) (hx : xs.length ≤ 6000) (hn : n ≤ 1000000000) (hr : (0 ≤ stop ∧ stop ≤ steps ∧ r = 7) ∨ ((stop < 0 ∨ steps < stop) ∧ 6000 < xs.length + n ∧ r = 4)) :
    Calls Tryd.prog 7 #[.pointer (some ⟨g, 0, none⟩), .slice Y n d] w fun e w' => e = .returned (.tuple #[.int .i64 0, erI r]) ∧ ∃ q, w' = w.drewN q := by
  obtain ⟨c0, c1, c2, c3⟩ := h.cell
  have H := Lib.hid h
  clear h c1 c2 c3
  by_cases hf : xs.length + n ≤ 6000
  · have hr1 : 0 ≤ stop ∧ stop ≤ steps ∧ r = 7 := by omega
    obtain ⟨r1, r2, rfl⟩ := hr1
    have i1 : ¬ (6000 : Int) - (xs.length : Int) < (n : Int) := by omega
    have hs := tstep_no .nilIface 7 H.out (.inl ⟨r1, r2, .inl rfl, rfl⟩)
    unfold erI at hs ⊢
    replace hs := Lib.hid hs
    clear hr
    go_enter Tryd.func7, Tryd.ntmps7
    go_wp2_with fail
    refine hs.out.mono ?_
    rintro e w1 ⟨rfl, q, rfl⟩
    go_wp2_with fail
    go_ret2
    exact ⟨rfl, q, rfl⟩
  · have i1 : (6000 : Int) - (xs.length : Int) < (n : Int) := by omega
    have hs := tstep_no (erI 4) r H.out (by
      rcases hr with ⟨r1, r2, r3⟩ | ⟨r1, r2, r3⟩
      · exact .inl ⟨r1, r2, .inr (.inl rfl), r3⟩
      · exact .inr ⟨r1, by rw [r3]⟩)
    unfold erI at hs ⊢
    replace hs := Lib.hid hs
    clear hr
    go_enter Tryd.func7, Tryd.ntmps7
    go_wp2_with fail
    refine hs.out.mono ?_
    rintro e w1 ⟨rfl, q, rfl⟩
    go_wp2_with fail
    go_ret2
    exact ⟨rfl, q, rfl⟩
theorem tsync_no (h : TOk w B g A c xs safe steps stop) (hn : 0 ≤ stop ∧ stop ≤ steps) :
    Calls Tryd.prog 8 #[.pointer (some ⟨g, 0, none⟩)] w fun e w' => e = .returned (erI 7) ∧ ∃ q, w' = w.drewN q := by
  have hs := tstep_no .nilIface 7 h (.inl ⟨hn.1, hn.2, .inl rfl, rfl⟩)
  unfold erI at hs ⊢
  replace hs := Lib.hid hs
  clear h hn
  go_enter Tryd.func8, Tryd.ntmps8
  go_wp2_with fail
  refine hs.out.mono ?_
  rintro e w1 ⟨rfl, q, rfl⟩
  go_wp2_with fail
  go_ret
  exact ⟨rfl, q, rfl⟩
theorem tsteps_any (h : TOk w B g A c xs safe steps stop) :
    Calls Tryd.prog 15 #[.pointer (some ⟨g, 0, none⟩)] w fun e w' => e = .returned (.int .i64 steps) ∧ w = w' := by
  obtain ⟨c0, c1, c2, c3⟩ := h.cell
  clear h c0 c1 c3
  go_enter Tryd.func15, Tryd.ntmps15
  go_wp2_with fail
  go_ret
  exact ⟨rfl, rfl⟩
theorem tfail_any (at_ s : Int) (h : TOk w B g A c xs safe steps stop) (hs : s = if at_ < 0 then -1 else at_) (hb : -9223372036854775808 ≤ at_ ∧ at_ ≤ 9223372036854775807) :
    Calls Tryd.prog 11 #[.pointer (some ⟨g, 0, none⟩), .int .i64 at_] w fun e w' => e = .returned (.tuple #[]) ∧ TOk w' B g A c xs safe steps s ∧ TEff w w' g none := by
  obtain ⟨c0, c1, c2, c3⟩ := h.cell
  have f3 := h.blk.frozen 3
  have hlt := h.blk.lt
  have H := Lib.hid h
  clear h c0 c1 c2
  rcases Int.lt_or_le at_ 0 with h1 | h1
  · rw [if_pos h1] at hs
    subst hs
    have i1 : ¬ (-1 : Int) < at_ := by omega
    go_enter Tryd.func11, Tryd.ntmps11
    go_wp2_with fail
    go_end0
    exact ⟨rfl, H.out.set3 _, (TEff.refl _ _ _).set _ _⟩
  · rw [if_neg (by omega)] at hs
    subst hs
    have i1 : (-1 : Int) < s := by omega
    go_enter Tryd.func11, Tryd.ntmps11
    go_wp2_with fail
    go_end0
    exact ⟨rfl, H.out.set3 _, (TEff.refl _ _ _).set _ _⟩
set_option maxRecDepth 100000 in
theorem tcut_ok (m k : Nat) (s : Int) (h : TOk w B g A c xs safe steps stop) (hn : stop < 0 ∨ steps < stop) (h0 : 0 ≤ steps ∧ steps ≤ 1000000) (hm : m ≤ xs.length) (hx : xs.length ≤ 6000) (hk : safe = (k : Int)) (hs : s = if (m : Int) < safe then (m : Int) else safe) :
    Calls Tryd.prog 9 #[.pointer (some ⟨g, 0, none⟩), .int .i64 (m : Int)] w fun e w' => e = .returned .nilIface ∧ TOk w' B g A c (xs.take m) s (steps + 1) stop ∧ TEff w w' g none := by
  subst hk
  obtain ⟨c0, c1, c2, c3⟩ := h.cell
  have hroom := (own_room h.own).1
  have H := Lib.hid h
  replace hn := Lib.hid hn
  clear h c1 c2 c3
  have i1 : ¬ (xs.length : Int) < (m : Int) := by omega
  have i2 : decide ((m : Int) < 0) = false := by simp
  go_enter Tryd.func9, Tryd.ntmps9
  go_wp2_with fail
  refine (tstep_ok H.out hn.out h0).mono ?_
  rintro e w1 ⟨rfl, h1, he⟩
  clear c0
  obtain ⟨c0, c1, c2, c3⟩ := h1.cell
  have f0 := h1.blk.frozen 0
  have hlt := h1.blk.lt
  have f1 := h1.blk.frozen 1
  have h2 := h1.cut m hm
  have he2 := he.set 0 (.slice A m c)
  have hmc : m ≤ c := by omega
  replace h2 := Lib.hid h2
  replace he2 := Lib.hid he2
  clear h1 he c2 c3
  rcases Nat.lt_or_ge m k with hmk | hmk
  · have j1 : (m : Int) < (k : Int) := by omega
    rw [if_pos j1] at hs
    subst hs
    go_wp2_with fail
    go_ret
    exact ⟨rfl, h2.out.set1 _, he2.out.set _ _⟩
  · have j1 : ¬ (m : Int) < (k : Int) := by omega
    rw [if_neg j1] at hs
    subst hs
    go_wp2_with fail
    go_ret
    exact ⟨rfl, h2.out.set1 _, he2.out.set _ _⟩
theorem tcut_no (n r : Int) (h : TOk w B g A c xs safe steps stop) (hx : xs.length ≤ 6000) (hr : (0 ≤ stop ∧ stop ≤ steps ∧ r = 7) ∨ ((stop < 0 ∨ steps < stop) ∧ (n < 0 ∨ (xs.length : Int) < n) ∧ r = 1)) :
    Calls Tryd.prog 9 #[.pointer (some ⟨g, 0, none⟩), .int .i64 n] w fun e w' => e = .returned (erI r) ∧ ∃ q, w' = w.drewN q := by
  obtain ⟨c0, c1, c2, c3⟩ := h.cell
  have H := Lib.hid h
  clear h c1 c2 c3
  rcases (by omega : (0 ≤ n ∧ n ≤ (xs.length : Int)) ∨ n < 0 ∨ (0 ≤ n ∧ (xs.length : Int) < n)) with ⟨g1, g2⟩ | g1 | ⟨g1, g2⟩
  · have hr1 : 0 ≤ stop ∧ stop ≤ steps ∧ r = 7 := by omega
    obtain ⟨r1, r2, rfl⟩ := hr1
    have i1 : ¬ (xs.length : Int) < n := by omega
    have i2 : decide (n < 0) = false := by simp; omega
    have hs := tstep_no .nilIface 7 H.out (.inl ⟨r1, r2, .inl rfl, rfl⟩)
    unfold erI at hs ⊢
    replace hs := Lib.hid hs
    clear hr
    go_enter Tryd.func9, Tryd.ntmps9
    go_wp2_with fail
    refine hs.out.mono ?_
    rintro e w1 ⟨rfl, q, rfl⟩
    go_wp2_with fail
    go_ret
    exact ⟨rfl, q, rfl⟩
  all_goals
    have hs := tstep_no (erI 1) r H.out (by
      rcases hr with ⟨r1, r2, r3⟩ | ⟨r1, r2, r3⟩
      · exact .inl ⟨r1, r2, .inr (.inr rfl), r3⟩
      · exact .inr ⟨r1, by rw [r3]⟩)
    have i2 : decide (n < 0) = decide (n < 0) := rfl
    unfold erI at hs ⊢
    replace hs := Lib.hid hs
    clear hr i2
    first
      | (have i2 : decide (n < 0) = true := decide_eq_true g1
         go_enter Tryd.func9, Tryd.ntmps9
         go_wp2_with fail
         refine hs.out.mono ?_
         rintro e w1 ⟨rfl, q, rfl⟩
         go_wp2_with fail
         go_ret
         exact ⟨rfl, q, rfl⟩)
      | (have i2 : decide (n < 0) = false := by simp; omega
         go_enter Tryd.func9, Tryd.ntmps9
         go_wp2_with fail
         refine hs.out.mono ?_
         rintro e w1 ⟨rfl, q, rfl⟩
         go_wp2_with fail
         go_ret
         exact ⟨rfl, q, rfl⟩)
end
end Go.Proofs.YtkgdflecepockaaDoor
