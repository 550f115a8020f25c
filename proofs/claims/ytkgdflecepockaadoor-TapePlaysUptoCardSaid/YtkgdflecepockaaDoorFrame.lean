import Derived.Test.YtkgdflecepockaaDoorCloneB
import Derived.Test.YtkgdflecepockaaDoorPlainF
import Derived.BigQuiet
import Derived.IntWalk
import Derived.Deep.QuietTactic
import Derived.Laws.BitsAllLaws
namespace Go.Proofs.YtkgdflecepockaaDoor
set_option linter.unusedVariables false
open Go.RowKit
/-- The two bytes ahead of a frame. -/
def hiB (n : Nat) : Int := IntKind.u8.wrap ((n : Int) / 256)
def loB (n : Nat) : Int := IntKind.u8.wrap (n : Int)
set_option maxRecDepth 100000 in
theorem frame_any (A : Option Addr) (n c B : Nat) (xs : List Int) (w : World) (hnil : A = none → c = 0) (hB : B ≤ w.heap.size) (h : RD w B 1 A n (xs.map (.int .u8))) (hn : n + 2 ≤ 140737488355328) :
    Calls Tryd.prog 17 #[.slice A n c] w fun e w' => ∃ v, e = .returned v ∧ w'.ownsRow w.heap.size 5 1 v (2 + n) ((hiB n :: loB n :: xs).map (.int .u8)) ∧ Below w.heap.size w w' := by
  obtain ⟨i0, hi0, hz0, hz1, hz2⟩ := info_parts cloneB_info
  have H := Lib.hid h
  have HN := Lib.hid hnil
  clear h hnil
  have ho : (w.alloc (.cells #[.int .u8 (hiB n), .int .u8 (loB n)] 5)).ownsRow w.heap.size 5 1 (.slice (some ⟨w.heap.size, 0, none⟩) 2 2) 2 [.int .u8 (hiB n), .int .u8 (loB n)] :=
    World.ownsRow_lit w #[.int .u8 (hiB n), .int .u8 (loB n)] 2 (Nat.le_refl _) (by unfold maxLen; omega) rfl
  replace ho := Lib.hid ho
  go_enter Tryd.func17, Tryd.ntmps17
  go_wp2_with (at_builtin; refine wpList_append_rd rfl (.tmp 10) (.tmp 11) 23 rfl w.heap.size 5 i0 _ 1 1 Tryd.underlying23 hi0 hz0 hz1 hz2 rfl (by decide) _ (.slice (some ⟨w.heap.size, 0, none⟩) 2 2) 2 _ rfl ho.out B A n c (xs.map (.int .u8)) rfl HN.out (H.out.alloc hB _) (by simp [Value.oneCell']) ?_ ?_ ?_ ?_)
  · unfold maxLen; omega
  · omega
  · simp
  · intro v' w1 hown hgrow
    go_wp2
    go_ret
    exact ⟨_, rfl, by simpa using hown, ((Below.refl _ _).alloc (Nat.le_refl _) _).grown hgrow (by simp) (by simp [Value.ownBlock])⟩
theorem ofInt_i64 (a : Nat) (ha : a < 9223372036854775808) : (BitVec.ofInt 64 (a : Int)).toNat = a := by
  rw [BitVec.ofInt_natCast, BitVec.toNat_ofNat]; exact Nat.mod_eq_of_lt (by omega)
theorem i64_or_nat (a b : Nat) (ha : a < 9223372036854775808) (hb : b < 9223372036854775808) : bits .or .i64 (a : Int) (b : Int) = ((a ||| b : Nat) : Int) := by
  have hx : a ||| b < 2 ^ 63 := Nat.or_lt_two_pow (by omega) (by omega)
  show IntKind.i64.wrap ((BitVec.ofInt 64 (a : Int) ||| BitVec.ofInt 64 (b : Int)).toNat : Int) = _
  rw [BitVec.toNat_or, ofInt_i64 a ha, ofInt_i64 b hb, IntKind.wrap_i64]
  omega
/-- Two bytes, put together. -/
theorem or_bytes (x y : Int) (hx : 0 ≤ x ∧ x ≤ 255) (hy : 0 ≤ y ∧ y ≤ 255) : bits .or .i64 (x * 256) y = x * 256 + y := by
  obtain ⟨a, rfl⟩ := Int.eq_ofNat_of_zero_le hx.1
  obtain ⟨b, rfl⟩ := Int.eq_ofNat_of_zero_le hy.1
  have h := i64_or_nat (a * 256) b (by omega) (by omega)
  rw [Int.natCast_mul] at h
  have e : a * 256 ||| b = a * 256 + b := by
    have := Nat.two_pow_add_eq_or_of_lt (i := 8) (b := b) (by omega) a
    rw [show (2 : Nat) ^ 8 = 256 from rfl, Nat.mul_comm] at this
    exact this.symm
  rw [e] at h
  exact h
theorem row_info : (Tryd.prog.info? 23).map (fun i => (i.zero, i.size, i.bytes)) = some (some (.slice none 0 0), 1, 24) := by kernel_rfl
theorem bel_drewN {a b : World} {q B : Nat} (h : Below B (a.drewN q) b) : Below B a b := ⟨h.os, h.tape, h.output, h.size, h.block⟩
def FrRel (w : World) (xs : List Int) (v i : Value) (wr : World) : Prop := ∃ (p f : Nat) (rows : List (Value × List Int)), i = .int .i64 p ∧ p ≤ xs.length ∧ xs.length ≤ p + f ∧ rows.length ≤ p ∧ Hid (rows.map (·.2) ++ (frF f xs p).1 = (framesL xs).1 ∧ (frF f xs p).2 = (framesL xs).2) ∧
    wr.ownsRow w.heap.size 23 1 v rows.length (rows.map (·.1)) ∧ Hid (∀ r ∈ rows, wr.ownsRow w.heap.size 5 1 r.1 r.2.length (r.2.map (.int .u8))) ∧ Below w.heap.size w wr
set_option maxHeartbeats 1600000 in
set_option maxRecDepth 100000 in
theorem frames_any (A : Option Addr) (c B : Nat) (xs : List Int) (w : World) (hnil : A = none → c = 0) (hB : B ≤ w.heap.size) (h : RD w B 1 A xs.length (xs.map (.int .u8))) (hx : ∀ x ∈ xs, Byte x) (hc : xs.length ≤ c) (hn : xs.length ≤ 1000000000) :
    Calls Tryd.prog 16 #[.slice A xs.length c] w fun e w' => ∃ (v : Value) (rows : List (Value × List Int)), e = .returned (.tuple #[v, .int .i64 (framesL xs).2]) ∧ rows.map (·.2) = (framesL xs).1 ∧
      w'.ownsRow w.heap.size 23 1 v rows.length (rows.map (·.1)) ∧ (∀ r ∈ rows, w'.ownsRow w.heap.size 5 1 r.1 r.2.length (r.2.map (.int .u8))) ∧ Below w.heap.size w w' := by
  obtain ⟨iT, hj0, hy0, hy1, hy2⟩ := info_parts row_info
  have H := Lib.hid h
  have HN := Lib.hid hnil
  have HX := Lib.hid hx
  clear h hnil hx
  go_enter Tryd.func16, Tryd.ntmps16
  go_wp2_with fail
  go_loopw [2, 3, 4] (fun v i _ wr => FrRel w xs v i wr) (fun _ i _ _ => xs.length - (intOf i).toNat)
  case atStart => exact ⟨0, xs.length, [], rfl, by omega, by omega, by simp, Lib.hid ⟨by simp [framesL], rfl⟩, World.ownsRow_nil _ _ _ _, Lib.hid (by simp), Below.refl _ _⟩
  case round =>
  obtain ⟨p, f, rows, rfl, hp, hf, hrl, hfr, hown, hrows, hb⟩ := hrel
  replace hown := Lib.hid hown
  by_cases h2 : p + 2 ≤ xs.length
  · obtain ⟨b, o, hA⟩ : ∃ b o, A = some ⟨b, o, none⟩ := by
      obtain ⟨b, o, e, _⟩ := H.out.2 (by omega)
      exact ⟨b, o, e⟩
    subst hA
    have Hr := (H.out.more hB).below hb
    have hcell : ∀ j, j < xs.length → wr.cell? ⟨b, o + j, none⟩ = some (.int .u8 (xs.getD j 0)) := fun j hj => by
      obtain ⟨b', o', e, _, hc⟩ := Hr.2 (by omega)
      injection e with e
      injection e with e1 e2
      subst e1; subst e2
      rw [hc j (by omega), List.getElem?_map, List.getD_eq_getElem?_getD, List.getElem?_eq_getElem hj]; rfl
    have c0 := hcell p (by omega)
    have c1 := hcell (p + 1) (by omega)
    have b0 : Byte (xs.getD p 0) := by
      rw [List.getD_eq_getElem?_getD, List.getElem?_eq_getElem (by omega)]
      exact HX.out _ (List.getElem_mem _)
    have b1 : Byte (xs.getD (p + 1) 0) := by
      rw [List.getD_eq_getElem?_getD, List.getElem?_eq_getElem (by omega)]
      exact HX.out _ (List.getElem_mem _)
    unfold Byte at b0 b1
    have hK : frK xs p = if p + 2 + ((xs.getD p 0).toNat * 256 + (xs.getD (p + 1) 0).toNat) ≤ xs.length then some ((xs.getD p 0).toNat * 256 + (xs.getD (p + 1) 0).toNat) else none := by unfold frK; rw [if_pos h2]
    replace hK := Lib.hid hK
    replace Hr := Lib.hid Hr
    replace hcell := Lib.hid hcell
    generalize xs.getD p 0 = x at *
    generalize xs.getD (p + 1) 0 = y at *
    go_wp2_with fail
    have i0 : (p : Int) < (xs.length : Int) := by omega
    have i1 : (p : Int) + 1 < (xs.length : Int) := by omega
    have i2 : 0 ≤ (p : Int) + 1 := by omega
    have i3 : p < xs.length := by omega
    have i4 : p + 1 < xs.length := by omega
    have i5 : ((p : Int) + 1).toNat = p + 1 := by omega
    have i6 : IntKind.i64.wrap ((p : Int) + 1) = (p : Int) + 1 := IntWalk.i64_in _ (by omega)
    have w1 : IntKind.i64.wrap x = x := IntWalk.i64_in _ (by omega)
    have w2 : IntKind.i64.wrap (x * 256) = x * 256 := IntWalk.i64_in _ (by omega)
    have w3 : IntKind.i64.wrap y = y := IntWalk.i64_in _ (by omega)
    have w4 := or_bytes x y b0 b1
    go_quiet (fail)
    clear w1 w2 w3 w4 i5 i6
    obtain ⟨K, hKe⟩ : ∃ K : Nat, x * 256 + y = (K : Int) := ⟨(x * 256 + y).toNat, by omega⟩
    have hKn : x.toNat * 256 + y.toNat = K := by omega
    rw [hKe]
    rw [hKn] at hK
    clear b0 b1 c0 c1 hKe hKn
    have hs := hb.size
    by_cases hk : p + 2 + K ≤ xs.length
    · have hS : frK xs p = some K := by rw [hK.out, if_pos hk]
      obtain ⟨f', hf'⟩ : ∃ f', f = f' + 1 := ⟨f - 1, by omega⟩
      have e := frF_some f' xs p K hS
      rw [← hf'] at e
      have h1 := hfr.out
      rw [e] at h1
      replace h1 := Lib.hid h1
      replace hf' := Lib.hid hf'
      clear e hS hK hfr
      have hlen : ((xs.drop (p + 2)).take K).length = K := by rw [List.length_take, List.length_drop]; omega
      have hRd : ∀ (q : Nat) (a : Addr), (0 < K → a = ⟨b, o + (p + 2), none⟩) → RD (wr.drewN q) wr.heap.size 1 (some a) K (((xs.drop (p + 2)).take K).map (.int .u8)) := fun q a ha => by
        refine ⟨by rw [List.length_map, hlen]; omega, fun hK0 => ?_⟩
        refine ⟨b, o + (p + 2), by rw [ha hK0], ?_, fun j hj => ?_⟩
        · obtain ⟨b', o', e, hbl, _⟩ := Hr.out.2 (by omega)
          injection e with e
          injection e with e1 _
          omega
        · show wr.cell? _ = _
          rw [show o + (p + 2) + j = o + (p + 2 + j) by omega, hcell.out (p + 2 + j) (by omega), List.getElem?_map, List.getElem?_take_of_lt (by omega), List.getElem?_drop, List.getD_eq_getElem?_getD, List.getElem?_eq_getElem (by omega)]; rfl
      generalize (xs.drop (p + 2)).take K = ys at *
      replace hlen := Lib.hid hlen
      have hcl : ∀ (q : Nat) (a : Addr) (d : Nat), (0 < K → a = ⟨b, o + (p + 2), none⟩) → Calls Tryd.prog 36 #[.slice (some a) K d] (wr.drewN q) fun e w' => ∃ U d', e = .returned (.slice U K d') ∧ w'.ownsRow wr.heap.size 5 1 (.slice U K d') K (ys.map (.int .u8)) ∧ Below wr.heap.size (wr.drewN q) w' :=
        fun q a d ha => (cloneB_any (some a) K d wr.heap.size ys (wr.drewN q) (fun h => by cases h) (show wr.heap.size ≤ (wr.drewN q).heap.size from Nat.le_refl _) (hRd q a ha) (by omega)).mono fun e w' ⟨v, h1, h2, h3⟩ => by
          obtain ⟨U, d', rfl, _⟩ := own_slice h2
          exact ⟨U, d', h1, h2, h3⟩
      replace hcl := Lib.hid hcl
      clear hRd
      by_cases hcp : c = p + 2
      all_goals
        go_wp2_with fail
        refine (hcl.out _ _ _ ?_).mono ?_
        · intro hK0
          first | rfl | (exfalso; omega)
        rintro e w1 ⟨U, d', rfl, hu, hb1⟩
        have hs1 : wr.heap.size ≤ w1.heap.size := hb1.size
        have ho1 : w1.ownsRow w.heap.size 23 1 u2 rows.length (rows.map (·.1)) := own_below (a := wr) hown.out (bel_drewN hb1)
        have hr1 : ∀ r ∈ rows, w1.ownsRow w.heap.size 5 1 r.1 r.2.length (r.2.map (.int .u8)) := fun r hr => own_below (a := wr) (hrows.out r hr) (bel_drewN hb1)
        have hbw1 : Below w.heap.size w w1 := hb.trans ((bel_drewN hb1).mono hs)
        have hl2 : rows.length < 10000000000 := by omega
        replace ho1 := Lib.hid ho1
        replace hr1 := Lib.hid hr1
        replace hu := Lib.hid hu
        go_wp2_with (at_builtin; refine wpList_app1 rfl (.tmp 30) (.tmp 40) 38 rfl w.heap.size 23 iT _ 1 24 Tryd.underlying38 hj0 hy0 hy1 hy2 rfl (by decide) (by decide) w1 #[.slice U K d'] u2 rows.length _ rfl ho1.out rfl rfl rfl hl2 (by omega) ?_; intro v' w2 hown' hgrow)
        have hKl : ys.length = K := hlen.out
        have hr2 : ∀ r ∈ rows ++ [(Value.slice U K d', ys)], w2.ownsRow w.heap.size 5 1 r.1 r.2.length (r.2.map (.int .u8)) := fun r hr => by
          rcases List.mem_append.1 hr with h | h
          · exact (hr1.out r h).kept hgrow (own_ne (by decide) ho1.out (hr1.out r h))
          · obtain rfl : r = (.slice U K d', ys) := by simpa using h
            have hk2 := hu.out.kept hgrow (own_ne (by decide) ho1.out hu.out)
            show w2.ownsRow w.heap.size 5 1 (.slice U K d') ys.length (ys.map (.int .u8))
            rw [hKl]
            exact own_base hk2 hs
        replace hr2 := Lib.hid hr2
        replace hKl := Lib.hid hKl
        have hb2 : Below w.heap.size w w2 := hbw1.grown hgrow hbw1.size (fun g hg => (ho1.out.lt g hg).1)
        have hff := hf'.out
        go_roundw
        case rel => exact ⟨p + 2 + K, f', rows ++ [(.slice U K d', ys)], by go_num, by omega, by omega, by simp; omega, Lib.hid ⟨by rw [← h1.out.1]; simp, h1.out.2⟩, by simpa using hown', hr2, hb2⟩
        case measure => simp [intOf]; omega
    · have hN : frK xs p = none := by rw [hK.out, if_neg hk]
      have e := frF_none f xs p hN
      have h1 := hfr.out
      rw [e] at h1
      simp only [List.append_nil] at h1
      replace h1 := Lib.hid h1
      replace e := Lib.hid e
      clear hN hfr hK
      go_wp2_with fail
      go_ret2
      exact ⟨_, rows, by rw [h1.out.2]; rfl, h1.out.1, hown.out, hrows.out, bdrewN hb _⟩
  · have hN : frK xs p = none := by unfold frK; rw [if_neg h2]
    have e := frF_none f xs p hN
    have h1 := hfr.out
    rw [e] at h1
    simp only [List.append_nil] at h1
    replace h1 := Lib.hid h1
    replace e := Lib.hid e
    clear hN hfr
    go_wp2_with fail
    go_ret2
    exact ⟨_, rows, by rw [h1.out.2]; rfl, h1.out.1, hown.out, hrows.out, hb⟩
theorem frames_at (A : Option Addr) (n c B : Nat) (xs : List Int) (w : World) (hn0 : xs.length = n) (hnil : A = none → c = 0) (hB : B ≤ w.heap.size) (h : RD w B 1 A n (xs.map (.int .u8))) (hx : ∀ x ∈ xs, Byte x) (hc : n ≤ c) (hn : n ≤ 1000000000) :
    Calls Tryd.prog 16 #[.slice A n c] w fun e w' => ∃ (X : Option Addr) (d : Nat) (rows : List (Value × List Int)), e = .returned (.tuple #[.slice X rows.length d, .int .i64 (framesL xs).2]) ∧ rows.map (·.2) = (framesL xs).1 ∧
      w'.ownsRow w.heap.size 23 1 (.slice X rows.length d) rows.length (rows.map (·.1)) ∧ (∀ r ∈ rows, w'.ownsRow w.heap.size 5 1 r.1 r.2.length (r.2.map (.int .u8))) ∧ Below w.heap.size w w' := by
  subst hn0
  refine (frames_any A c B xs w hnil hB h hx hc hn).mono ?_
  rintro e w' ⟨v, rows, he, h1, h2, h3, h4⟩
  obtain ⟨X, d, rfl, _⟩ := own_slice h2
  exact ⟨X, d, rows, he, h1, h2, h3, h4⟩
end Go.Proofs.YtkgdflecepockaaDoor
