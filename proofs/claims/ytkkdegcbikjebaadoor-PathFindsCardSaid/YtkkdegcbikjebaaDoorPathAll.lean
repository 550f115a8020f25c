import Derived.Test.YtkkdegcbikjebaaDoorRefNext
import Derived.Test.YtkkdegcbikjebaaDoorRefCell
import Derived.Test.YtkkdegcbikjebaaDoorInts
import Derived.Test.YtkkdegcbikjebaaDoorTold
namespace Go.Proofs.YtkkdegcbikjebaaDoor
set_option linter.unusedVariables false
open Go.RowKit
theorem err2_errV (k : Int) (w : World) (hv : HV w) : Calls Tryd.prog 11 #[errV k, .int .i64 k] w fun e w' => e = .returned (.bool true) ∧ Below w.heap.size w w' := error_same k w hv
theorem err2_erE (k : Int) (hk : k ≠ 0) (w : World) (hv : HV w) : Calls Tryd.prog 11 #[erE k, .int .i64 k] w fun e w' => e = .returned (.bool true) ∧ Below w.heap.size w w' := by
  have := error_same k w hv
  unfold errT at this
  rw [if_neg hk] at this
  exact this
theorem err2_nil (w : World) (hv : HV w) : Calls Tryd.prog 11 #[.nilIface, .int .i64 0] w fun e w' => e = .returned (.bool true) ∧ Below w.heap.size w w' := error_same 0 w hv
theorem ints_same (A A' : Option Addr) (c c' n : Nat) (xs : List Int) (w : World) (hn : xs.length = n) (h : RD w w.heap.size 1 A xs.length (xs.map (.int .i64))) (h' : RD w w.heap.size 1 A' xs.length (xs.map (.int .i64))) (hm : n ≤ 100000) :
    Calls Tryd.prog 25 #[.slice A n c, .slice A' n c'] w fun e w' => e = .returned (.bool true) ∧ Below w.heap.size w w' := by
  subst hn
  refine (ints_any A A' c c' w.heap.size xs xs w h h' (by omega)).mono ?_
  rintro e w' ⟨q, rfl, rfl⟩
  exact ⟨by rw [eqL_yes rfl], bdrewN (Below.refl _ _) q⟩
theorem ints_nil (w : World) : Calls Tryd.prog 25 #[.slice none 0 0, .slice none 0 0] w fun e w' => e = .returned (.bool true) ∧ Below w.heap.size w w' :=
  ints_same none none 0 0 0 [] w rfl RD.nil_ RD.nil_ (by omega)
theorem anyC2 (n a b : Int) : ([a, b].any (badC n)) = true ↔ ((a < 0 ∨ n ≤ a) ∨ (b < 0 ∨ n ≤ b)) := by simp [badC]
theorem faultL_a (f : GF) (a b : Int) (h : cellE f b ≠ 0) : faultL f [a, b] = cellE f b := by
  have hc := anyC2 f.ground.length a b
  unfold faultL
  generalize [a, b].any (badC f.ground.length) = t at *
  unfold cellE at *
  by_cases h1 : fieldE f = 0
  · have e1 : ¬ (fieldE f ≠ 0) := fun h => h h1
    rw [if_neg e1] at h ⊢
    rw [if_neg e1]
    by_cases h2 : b < 0 ∨ (f.ground.length : Int) ≤ b
    · rw [if_pos h2, if_pos (hc.2 (.inr h2))]
    · rw [if_neg h2] at h; exact absurd rfl h
  · rw [if_pos h1, if_pos h1]
theorem faultL_b (f : GF) (a b : Int) (h : cellE f b = 0) : faultL f [a, b] = cellE f a := by
  obtain ⟨hg, h0, h1⟩ := cellE_in f b h
  have hE := good_to f hg
  have hc := anyC2 f.ground.length a b
  unfold faultL
  generalize [a, b].any (badC f.ground.length) = t at *
  unfold cellE
  have e1 : ¬ (fieldE f ≠ 0) := fun h => h hE
  rw [if_neg e1, if_neg e1]
  by_cases h2 : a < 0 ∨ (f.ground.length : Int) ≤ a
  · rw [if_pos h2, if_pos (hc.2 (.inl h2))]
  · rw [if_neg h2, if_neg]
    intro ht
    rcases hc.1 ht with h | h
    · exact h2 h
    · omega
/-! What comes of a way that is, or is not. -/
def e7 (far : List Int) (a : Nat) : Int := if at0 far a < 0 then 7 else 0
def nxN (f : GF) (fl : Bool) (far : List Int) (a : Nat) : Int := if at0 far a < 0 then 0 else nextL f fl far a
def wyL (f : GF) (fl : Bool) (far : List Int) (a b : Nat) : List Int := if at0 far a < 0 then [] else pathI f fl far a b
theorem pathF_len (f : GF) (fl : Bool) (far : List Int) (b : Nat) : ∀ k a, (pathF f fl far b k a).length ≤ k
  | 0, a => by simp [pathF]
  | k + 1, a => by
    rw [pathF]
    split
    · simp
    · have := pathF_len f fl far b k (nextL f fl far a)
      rw [List.length_cons]; omega
theorem wyL_len (f : GF) (fl : Bool) (far : List Int) (a b : Nat) : (wyL f fl far a b).length ≤ (at0 far a).toNat + 1 := by
  unfold wyL
  split
  · simp
  · unfold pathI pathL
    have := pathF_len f fl far b (at0 far a).toNat a
    rw [List.length_map, List.length_cons]; omega
theorem nxt_far (s : SF) (f : GF) (a b : Nat) (fl : Bool) (far : List Int) (w : World) (h : FOk w s f) (hE : faultL f [a, b] = 0) (hd : DTo f fl b far) :
    Calls Tryd.prog 29 #[fA s f, .int .i64 a, .int .i64 b, .bool fl] w fun e w' => e = .returned (.tuple #[.int .i64 (nxN f fl far a), errV (e7 far a)]) ∧ Below w.heap.size w w' := by
  refine (nxt_ok s f a b fl w h hE).mono ?_
  rintro e w' ⟨hb, far', hd', hr⟩
  obtain rfl := Dist.uniq hd' hd
  refine ⟨?_, hb⟩
  unfold nxN e7
  rcases hr with ⟨h1, rfl⟩ | ⟨h1, rfl⟩
  · rw [if_pos h1, if_pos h1]; rfl
  · rw [if_neg (by omega), if_neg (by omega)]; rfl
theorem path_far (s : SF) (f : GF) (a b : Nat) (fl : Bool) (far : List Int) (w : World) (h : FOk w s f) (hE : faultL f [a, b] = 0) (hd : DTo f fl b far) :
    Calls Tryd.prog 30 #[fA s f, .int .i64 a, .int .i64 b, .bool fl] w fun e w' => ∃ A c, e = .returned (.tuple #[.slice A (wyL f fl far a b).length c, errV (e7 far a)]) ∧ RD w' w'.heap.size 1 A (wyL f fl far a b).length ((wyL f fl far a b).map (.int .i64)) ∧ Below w.heap.size w w' := by
  refine (path_ok s f a b fl w h hE).mono ?_
  rintro e w' ⟨far', hd', hb, hr⟩
  obtain rfl := Dist.uniq hd' hd
  unfold wyL e7
  rcases hr with ⟨h1, rfl⟩ | ⟨h1, A, c, rfl, ho⟩
  · rw [if_pos h1, if_pos h1]
    exact ⟨none, 0, rfl, RD.nil_, hb⟩
  · rw [if_neg (by omega), if_neg (by omega)]
    exact ⟨A, c, rfl, RD.of_own ho, hb⟩
/-! How far it is from one cell to each, told by how far it is to each. -/
open Classical in
noncomputable def tD (f : GF) (fl : Bool) (a c : Nat) : Int := if h : ∃ far, DTo f fl c far then at0 (Classical.choose h) a else -1
theorem tD_eq (f : GF) (fl : Bool) (a c : Nat) (far : List Int) (h : DTo f fl c far) : tD f fl a c = at0 far a := by
  have he : ∃ far, DTo f fl c far := ⟨far, h⟩
  unfold tD
  rw [dif_pos he, Dist.uniq (Classical.choose_spec he) h]
noncomputable def frT (f : GF) (fl : Bool) (a : Nat) : List Int := (List.range f.ground.length).map (tD f fl a)
theorem frT_at (f : GF) (fl : Bool) (a c : Nat) (h : c < f.ground.length) : at0 (frT f fl a) c = tD f fl a c := by
  unfold frT at0
  rw [List.getD_eq_getElem?_getD, List.getElem?_map, List.getElem?_range h]; rfl
theorem rch_frT (f : GF) (hg : Good f) (fl : Bool) (a : Nat) (fr : List Int) (m : Int) (hfr : DFrom f fl a fr) (hall : ∀ c, c < f.ground.length → ∃ far, DTo f fl c far) : ∀ k, k ≤ f.ground.length → rchN fr m k = rchN (frT f fl a) m k
  | 0, _ => rfl
  | k + 1, hk => by
    rw [rchN, rchN, rch_frT f hg fl a fr m hfr hall k (by omega)]
    obtain ⟨far, hd⟩ := hall k (by omega)
    have h1 := to_from f hg fl a k fr far hfr hd
    have h2 := frT_at f fl a k (by omega)
    rw [tD_eq f fl a k far hd] at h2
    unfold rchO
    rw [h2]
    rcases h1 with h1 | h1
    · rw [h1]
    · rw [if_neg (by omega), if_neg (by omega)]
def RgRel (f : GF) (fl : Bool) (a : Nat) (m : Int) (w4 : World) (vl vi : Value) (wr : World) : Prop :=
  ∃ k : Nat, vi = .int .i64 k ∧ k ≤ f.ground.length ∧ Hid (wr.ownsRow w4.heap.size 3 1 vl (rchN (frT f fl a) m k).length ((rchN (frT f fl a) m k).map (.int .i64))) ∧ Hid (Below w4.heap.size w4 wr) ∧ Hid (∀ c, c < k → ∃ far, DTo f fl c far)
theorem reach_fr (s : SF) (f : GF) (a : Nat) (m : Int) (fl : Bool) (w : World) (h : FOk w s f) (hE : cellE f a = 0) (hm : numB m = true) (hall : ∀ c, c < f.ground.length → ∃ far, DTo f fl c far) :
    Calls Tryd.prog 31 #[fA s f, .int .i64 a, .int .i64 m, .bool fl] w fun e w' => ∃ A c, e = .returned (.tuple #[.slice A (rchN (frT f fl a) m f.ground.length).length c, .nilIface]) ∧ RD w' w'.heap.size 1 A (rchN (frT f fl a) m f.ground.length).length ((rchN (frT f fl a) m f.ground.length).map (.int .i64)) ∧ Below w.heap.size w w' := by
  obtain ⟨hg, _, _⟩ := cellE_in f a hE
  refine (reach_ok s f a m fl w h hE hm).mono ?_
  rintro e w' ⟨fr, A, c, hd, rfl, ho, hb⟩
  rw [rch_frT f hg fl a fr m hd hall f.ground.length (Nat.le_refl _)] at ho ⊢
  exact ⟨A, c, rfl, RD.of_own ho, hb⟩
end Go.Proofs.YtkkdegcbikjebaaDoor
