import Derived.Test.YtkgkpggfoieioaaDoorMrgc
import Derived.BigQuiet
import Derived.Deep.QuietTactic
import Derived.StillTailTactics
import Derived.Test.YtkgkpggfoieioaaDoorNewW
import Derived.Test.YtkgkpggfoieioaaDoorPlainPl
import Derived.Test.YtkgkpggfoieioaaDoorMrgb
import Derived.Laws.StandIn
import Derived.Lib.Bytealg
import Derived.Test.YtkgkpggfoieioaaDoorRows
import Derived.Deep.RegionHeld3
import Derived.Deep.DrawnRows
import Derived.Deep.AppendLies
import Derived.WalkKit
import Derived.Test.YtkgkpggfoieioaaDoorMrga
import Derived.Laws.BytesString
import Derived.Laws.IdiomStrings
import Derived.Lib.BufferRead
namespace Go.Proofs.YtkgkpggfoieioaaDoor
set_option linter.unusedVariables false
open Go.RowKit
/-! The kinds of the facts. -/
def sortsL : List GK := [⟨⟨#[98, 97, 115, 101]⟩, 50, 0, 0, 4, 0, 50, 5, 0, false, true⟩, ⟨⟨#[100, 105, 103, 103, 101, 114]⟩, 10, 0, 0, 3, 2, 10, 2, 20, false, false⟩, ⟨⟨#[102, 105, 103, 104, 116, 101, 114]⟩, 20, 4, 1, 4, 2, 20, 3, 0, false, false⟩]
theorem clash_data (l : List GK) (i : Nat) : clashB l i = (l.take i).any fun x => x.name.data.toList == (gk l i).name.data.toList := by
  unfold clashB; simp only [Lib.toList_data]
theorem sorts_0 : kindsE sortsL = 0 := by
  have h0 : kindE sortsL 0 = 0 := by unfold kindE; rw [clash_data]; rfl
  have h1 : kindE sortsL 1 = 0 := by unfold kindE; rw [clash_data]; rfl
  have h2 : kindE sortsL 2 = 0 := by unfold kindE; rw [clash_data]; rfl
  have e : kindsE sortsL = kindsN sortsL 3 := by unfold kindsE; rw [if_neg (by decide)]; rfl
  rw [e]
  simp only [kindsN, h0, h1, h2, ne_eq, not_true_eq_false, if_false]
set_option maxHeartbeats 1600000 in
set_option maxRecDepth 100000 in
theorem sorts_any (w : World) :
    Calls Tryd.prog 13 #[] w fun e w' => e = .returned (.slice (some ⟨w.heap.size, 0, none⟩) 3 3) ∧ KS w' (w.heap.size + 1) ⟨some ⟨w.heap.size, 0, none⟩, 3⟩ sortsL ∧ Below w.heap.size w w' ∧ w.heap.size + 1 ≤ w'.heap.size := by
  go_enter Tryd.func13, Tryd.ntmps13
  go_wp2_with fail
  go_ret
  have hb := RD.new w 11 3 (sortsL.flatMap kC).toArray 31 (0, 0) rfl
  refine ⟨rfl, ⟨?_, (fun e => by cases e), Nat.le_refl _, (by show 3 ≤ 9223372036854775807; decide), ?_⟩, (Below.refl _ _).alloc (Nat.le_refl _) _, by simp⟩
  · exact hb
  · intro x hx
    simp only [sortsL, List.mem_cons, List.not_mem_nil, or_false] at hx
    rcases hx with rfl | rfl | rfl
    · show 4 ≤ 9223372036854775807; decide
    · show 6 ≤ 9223372036854775807; decide
    · show 7 ≤ 9223372036854775807; decide
end Go.Proofs.YtkgkpggfoieioaaDoor
namespace Go.Proofs.YtkgkpggfoieioaaDoor
set_option linter.unusedVariables false
/-! The small world of the facts: its field, its units, in plain data. -/
def fS : GF := ⟨4, 2, [0, 0, 0, 0, 0, 0, 0, 0], [0, 0, 0, 0, 0, 0, 30, 0]⟩
def xS1 : GW := newX fS 2 100
def xS2 : GW := addX sortsL xS1 0 0 0
def xS3 : GW := addX sortsL xS2 0 1 1
def xS4 : GW := addX sortsL xS3 1 2 3
theorem fS_ok : fieldE fS = 0 := by decide
theorem newS_0 : newE sortsL fS 2 100 = 0 := by
  unfold newE
  rw [if_neg (fun c => c sorts_0), if_neg (fun c => c fS_ok), if_neg (fun c => c (by decide))]
theorem okS1 : WorldOk sortsL xS1 := ⟨sorts_0, fS_ok, by decide, fun i hi => absurd hi (Nat.not_lt_zero _), by decide, fun i hi => absurd hi (Nat.not_lt_zero _)⟩
theorem putS1 : PutOk sortsL xS1 0 ((0 : Nat) : Int) ((0 : Nat) : Int) := ⟨okS1, by decide, by decide, by decide, by decide, by decide, by decide⟩
theorem putS2 : PutOk sortsL xS2 0 ((1 : Nat) : Int) ((1 : Nat) : Int) := ⟨put_ok putS1, by decide, by decide, by decide, by decide, by decide, by decide⟩
theorem putS3 : PutOk sortsL xS3 1 ((2 : Nat) : Int) ((3 : Nat) : Int) := ⟨put_ok putS2, by decide, by decide, by decide, by decide, by decide, by decide⟩
theorem okS4 : WorldOk sortsL xS4 := put_ok putS3
theorem xS4_len : xS4.units.length = 3 ∧ xS4.gold.length = 2 ∧ xS4.next = 4 := by decide
theorem xS4_ids : (gu xS4.units 0).id = 1 ∧ (gu xS4.units 1).id = 2 ∧ (gu xS4.units 2).id = 3 := by decide
end Go.Proofs.YtkgkpggfoieioaaDoor
namespace Go.Proofs.YtkgkpggfoieioaaDoor
set_option linter.unusedVariables false
theorem besL_eq (f : GF) (a : Int) : besL f a = (if a / f.wide - 1 < 0 then [] else [a - f.wide]) ++ (if a % f.wide - 1 < 0 then [] else [a - 1]) ++ (if a % f.wide + 1 < f.wide then [a + 1] else []) ++ (if a / f.wide + 1 < f.high then [a + f.wide] else []) := by
  show ([] ++ besS f a 0 ++ besS f a 1 ++ besS f a 2 ++ besS f a 3) = _
  rw [List.nil_append]; rfl
theorem besL_len (f : GF) (a : Int) : (besL f a).length ≤ 4 := besN_len f a 4
theorem mem_one {c : Prop} [Decidable c] {x y : Int} : x ∈ (if c then [] else [y]) ↔ ¬c ∧ x = y := by
  by_cases h : c
  · rw [if_pos h]; simp [h]
  · rw [if_neg h]; simp [h]
theorem mem_one' {c : Prop} [Decidable c] {x y : Int} : x ∈ (if c then [y] else []) ↔ c ∧ x = y := by
  by_cases h : c
  · rw [if_pos h]; simp [h]
  · rw [if_neg h]; simp [h]
theorem mem_bes (f : GF) (a b : Int) : b ∈ besL f a ↔ (1 ≤ a / f.wide ∧ b = a - f.wide) ∨ (1 ≤ a % f.wide ∧ b = a - 1) ∨ (a % f.wide + 1 < f.wide ∧ b = a + 1) ∨ (a / f.wide + 1 < f.high ∧ b = a + f.wide) := by
  rw [besL_eq]
  simp only [List.mem_append, mem_one, mem_one']
  omega
theorem dm {a w : Int} (hw : 0 < w) (q r : Int) (h : r + w * q = a) (h0 : 0 ≤ r) (h1 : r < w) : a / w = q ∧ a % w = r := (Int.ediv_emod_unique hw).2 ⟨h, h0, h1⟩
/-- What is beside a cell: where it lies. -/
theorem bes_dm (f : GF) (a b : Int) (hw : 1 ≤ f.wide) (hb : b ∈ besL f a) :
    (1 ≤ a / f.wide ∧ b = a - f.wide ∧ b / f.wide = a / f.wide - 1 ∧ b % f.wide = a % f.wide) ∨ (1 ≤ a % f.wide ∧ b = a - 1 ∧ b / f.wide = a / f.wide ∧ b % f.wide = a % f.wide - 1) ∨
    (a % f.wide + 1 < f.wide ∧ b = a + 1 ∧ b / f.wide = a / f.wide ∧ b % f.wide = a % f.wide + 1) ∨ (a / f.wide + 1 < f.high ∧ b = a + f.wide ∧ b / f.wide = a / f.wide + 1 ∧ b % f.wide = a % f.wide) := by
  have hd : f.wide * (a / f.wide) + a % f.wide = a := Int.mul_ediv_add_emod a f.wide
  have h0 : 0 ≤ a % f.wide := Int.emod_nonneg _ (by omega)
  have h1 : a % f.wide < f.wide := Int.emod_lt_of_pos _ (by omega)
  rcases (mem_bes f a b).1 hb with ⟨h, rfl⟩ | ⟨h, rfl⟩ | ⟨h, rfl⟩ | ⟨h, rfl⟩
  · exact .inl ⟨h, rfl, dm (by omega) _ _ (by rw [Int.mul_sub]; omega) h0 h1⟩
  · exact .inr (.inl ⟨h, rfl, dm (by omega) _ _ (by omega) (by omega) (by omega)⟩)
  · exact .inr (.inr (.inl ⟨h, rfl, dm (by omega) _ _ (by omega) (by omega) (by omega)⟩))
  · exact .inr (.inr (.inr ⟨h, rfl, dm (by omega) _ _ (by rw [Int.mul_add]; omega) h0 h1⟩))
/-- Beside is either way. -/
theorem bes_sym (f : GF) (a b : Int) (hw : 1 ≤ f.wide) (hr0 : 0 ≤ a / f.wide) (hr : a / f.wide < f.high) (hb : b ∈ besL f a) : a ∈ besL f b := by
  have h0 : 0 ≤ a % f.wide := Int.emod_nonneg _ (by omega)
  have h1 : a % f.wide < f.wide := Int.emod_lt_of_pos _ (by omega)
  rw [mem_bes]
  rcases bes_dm f a b hw hb with ⟨h, h2, h3, h4⟩ | ⟨h, h2, h3, h4⟩ | ⟨h, h2, h3, h4⟩ | ⟨h, h2, h3, h4⟩ <;> rw [h3, h4] <;> omega
theorem row_bd {a w h : Int} (hw : 1 ≤ w) (ha : 0 ≤ a) (hl : a < w * h) : 0 ≤ a / w ∧ a / w < h :=
  ⟨Int.ediv_nonneg ha (by omega), Int.ediv_lt_of_lt_mul (by omega) (by rw [Int.mul_comm]; exact hl)⟩
theorem cell_bd {b w h : Int} (hw : 1 ≤ w) (h0 : 0 ≤ b / w) (h1 : b / w < h) : 0 ≤ b ∧ b < w * h := by
  have hd : w * (b / w) + b % w = b := Int.mul_ediv_add_emod b w
  have h2 : 0 ≤ b % w := Int.emod_nonneg _ (by omega)
  have h3 : b % w < w := Int.emod_lt_of_pos _ (by omega)
  have h4 : 0 ≤ w * (b / w) := Int.mul_nonneg (by omega) h0
  have h5 : w * (b / w + 1) ≤ w * h := Int.mul_le_mul_of_nonneg_left (by omega) (by omega)
  rw [Int.mul_add] at h5
  omega
theorem bes_in (f : GF) (a b : Int) (hw : 1 ≤ f.wide) (ha : 0 ≤ a) (hl : a < f.wide * f.high) (hb : b ∈ besL f a) : 0 ≤ b ∧ b < f.wide * f.high := by
  obtain ⟨r0, r1⟩ := row_bd hw ha hl
  have key : 0 ≤ b / f.wide ∧ b / f.wide < f.high := by
    rcases bes_dm f a b hw hb with ⟨h, _, h3, _⟩ | ⟨h, _, h3, _⟩ | ⟨h, _, h3, _⟩ | ⟨h, _, h3, _⟩
    all_goals
      rw [h3]
      generalize a / f.wide = r at *
      clear h3
      omega
  exact cell_bd hw key.1 key.2
theorem bes_sorted (f : GF) (a : Int) (hw : 1 ≤ f.wide) : (besL f a).Pairwise (· < ·) := by
  have h0 : 0 ≤ a % f.wide := Int.emod_nonneg _ (by omega)
  have h1 : a % f.wide < f.wide := Int.emod_lt_of_pos _ (by omega)
  rw [besL_eq]
  generalize a / f.wide = r
  generalize a % f.wide = c at *
  split <;> split <;> split <;> split <;> simp <;> omega
theorem bes_nodup (f : GF) (a : Int) (hw : 1 ≤ f.wide) (i k : Nat) (hik : k < i) (hi : i < (besL f a).length) : (besL f a).getD k 0 ≠ (besL f a).getD i 0 := by
  have h := List.pairwise_iff_getElem.1 (bes_sorted f a hw) k i (by omega) hi hik
  rw [List.getD_eq_getElem?_getD, List.getD_eq_getElem?_getD, List.getElem?_eq_getElem (by omega), List.getElem?_eq_getElem hi]
  simp only [Option.getD_some]
  omega
end Go.Proofs.YtkgkpggfoieioaaDoor
namespace Go.Proofs.YtkgkpggfoieioaaDoor
set_option linter.unusedVariables false
/-! The text of a field. -/
def sgn (g : Int) : Int := if g = 0 then 46 else if g = 1 then 35 else if g = 2 then 126 else 94
def signB (g o : Int) : Int := if 0 < o then (if o < 100 ∧ o % 10 = 0 then 48 + o / 10 else 43) else sgn g
/-- The sign of ore, those below k tried. -/
def tkB (o : Int) (k : Nat) : Int := if o % 10 = 0 ∧ o / 10 < k then 48 + o / 10 else 43
theorem tkB_yes (o : Int) (k : Nat) (h : o = 10 * k) : tkB o (k + 1) = 48 + k := by unfold tkB; rw [if_pos (by omega)]; omega
theorem tkB_no (o : Int) (k : Nat) (h : o ≠ 10 * k) : tkB o (k + 1) = tkB o k := by
  unfold tkB
  by_cases h1 : o % 10 = 0 ∧ o / 10 < k
  · rw [if_pos h1, if_pos (by omega)]
  · rw [if_neg h1, if_neg (by omega)]
theorem tkB_1 (o : Int) (h : 0 < o) : tkB o 1 = 43 := by unfold tkB; rw [if_neg (by omega)]
theorem tkB_10 (g o : Int) (h : 0 < o) : tkB o 10 = signB g o := by
  unfold tkB signB
  rw [if_pos h]
  by_cases h1 : o < 100 ∧ o % 10 = 0
  · rw [if_pos h1, if_pos (by omega)]
  · rw [if_neg h1, if_neg (by omega)]
theorem signB_bd (g o : Int) (h : 0 ≤ o) : 0 ≤ signB g o ∧ signB g o ≤ 255 := by
  unfold signB sgn
  repeat' split
  all_goals omega
def sgAt (f : GF) (k : Nat) : Int := signB (f.ground.getD k 0) (f.ore.getD k 0)
def rowP (f : GF) (W r : Nat) : Nat → List Int
  | 0 => []
  | c + 1 => rowP f W r c ++ [sgAt f (r * W + c)]
def txtP (f : GF) (W : Nat) : Nat → List Int
  | 0 => []
  | r + 1 => txtP f W r ++ rowP f W r W ++ [10]
theorem rowP_len (f : GF) (W r c : Nat) : (rowP f W r c).length = c := by
  induction c with
  | zero => rfl
  | succ c ih => rw [rowP, List.length_append, ih]; rfl
theorem txtP_len (f : GF) (W r : Nat) : (txtP f W r).length = r * (W + 1) := by
  induction r with
  | zero => simp [txtP]
  | succ r ih => rw [txtP, List.length_append, List.length_append, ih, rowP_len, Nat.add_mul]; simp; omega
theorem rowP_byte (f : GF) (h : ∀ k, 0 ≤ f.ore.getD k 0) (W r c : Nat) : ∀ x ∈ rowP f W r c, 0 ≤ x ∧ x ≤ 255 := by
  induction c with
  | zero => simp [rowP]
  | succ c ih =>
    intro x hx
    rw [rowP] at hx
    rcases List.mem_append.1 hx with h1 | h1
    · exact ih x h1
    · obtain rfl := List.mem_singleton.1 h1
      exact signB_bd _ _ (h _)
theorem txtP_byte (f : GF) (h : ∀ k, 0 ≤ f.ore.getD k 0) (W r : Nat) : ∀ x ∈ txtP f W r, 0 ≤ x ∧ x ≤ 255 := by
  induction r with
  | zero => simp [txtP]
  | succ r ih =>
    intro x hx
    rw [txtP] at hx
    rcases List.mem_append.1 hx with h1 | h1
    · rcases List.mem_append.1 h1 with h2 | h2
      · exact ih x h2
      · exact rowP_byte f h W r W x h2
    · obtain rfl := List.mem_singleton.1 h1
      omega
def fieldT (f : GF) : List Int := txtP f f.wide.toNat f.high.toNat
theorem Good.ores {f : GF} (h : Good f) (k : Nat) : 0 ≤ f.ore.getD k 0 ∧ f.ore.getD k 0 ≤ 1000000 ∧ (0 < f.ore.getD k 0 → f.ground.getD k 0 = 0) ∧ 0 ≤ f.ground.getD k 0 ∧ f.ground.getD k 0 ≤ 3 := by
  have hl := h.len
  rcases Nat.lt_or_ge k f.ground.length with hk | hk
  · have := cellsE_good f.ground f.ore h.cells (by omega) k (f.ground[k]'hk) (f.ore[k]'(by omega)) (List.getElem?_eq_getElem hk) (List.getElem?_eq_getElem (by omega))
    rw [List.getD_eq_getElem?_getD, List.getD_eq_getElem?_getD, List.getElem?_eq_getElem hk, List.getElem?_eq_getElem (by omega)]
    simp only [Option.getD_some]
    exact ⟨this.2.2.1, this.2.2.2.1, this.2.2.2.2, this.1, this.2.1⟩
  · rw [List.getD_eq_getElem?_getD, List.getD_eq_getElem?_getD, List.getElem?_eq_none hk, List.getElem?_eq_none (by omega)]
    simp
end Go.Proofs.YtkgkpggfoieioaaDoor
namespace Go.Proofs.YtkgkpggfoieioaaDoor
set_option linter.unusedVariables false
/-! A field read out of a text. -/
structure PS where
  c : Nat
  W : Nat
  H : Nat
  G : List Int
  O : List Int
def gOf (b : Int) : Int := if 49 ≤ b ∧ b ≤ 57 then 0 else if b = 46 then 0 else if b = 35 then 1 else if b = 126 then 2 else if b = 94 then 3 else -1
def oOf (b : Int) : Int := if 49 ≤ b ∧ b ≤ 57 then 10 * (b - 48) else 0
def badP (i : Nat) (e : Int) : GF × Int × Int := (⟨0, 0, [], []⟩, (i : Int), e)
def prun : List Int → Nat → PS → GF × Int × Int
  | [], i, s => if 0 < s.c ∨ s.H = 0 then badP i 2 else (⟨s.W, s.H, s.G, s.O⟩, 0, 0)
  | b :: bs, i, s =>
    if b = 10 then (if s.c = 0 ∨ (0 < s.H ∧ s.c ≠ s.W) then badP i 2 else prun bs (i + 1) ⟨0, s.c, s.H + 1, s.G, s.O⟩)
    else if gOf b < 0 ∨ (0 < s.H ∧ s.c = s.W) then badP i 2
    else if s.c = 12 ∨ s.H = 12 then badP i 4
    else prun bs (i + 1) ⟨s.c + 1, s.W, s.H, s.G ++ [gOf b], s.O ++ [oOf b]⟩
def s0 : PS := ⟨0, 0, 0, [], []⟩
def parseL (bs : List Int) : GF × Int × Int := prun bs 0 s0
/-- What is read so far. -/
structure PInv (s : PS) : Prop where
  c12 : s.c ≤ 12
  h12 : s.H ≤ 12
  ch : 0 < s.c → s.H < 12
  w12 : s.W ≤ 12
  hw : 0 < s.H → 1 ≤ s.W ∧ s.c ≤ s.W
  h0 : s.H = 0 → s.W = 0
  lg : s.G.length = s.H * s.W + s.c
  lo : s.O.length = s.H * s.W + s.c
  cells : ∀ k : Nat, k < s.G.length → 0 ≤ s.G.getD k 0 ∧ s.G.getD k 0 ≤ 3 ∧ 0 ≤ s.O.getD k 0 ∧ s.O.getD k 0 ≤ 90 ∧ (0 < s.O.getD k 0 → s.G.getD k 0 = 0)
theorem cellsE_ok : ∀ (gs os : List Int), gs.length = os.length → (∀ k : Nat, k < gs.length → 0 ≤ gs.getD k 0 ∧ gs.getD k 0 ≤ 3 ∧ 0 ≤ os.getD k 0 ∧ os.getD k 0 ≤ 1000000 ∧ (0 < os.getD k 0 → gs.getD k 0 = 0)) → cellsE gs os = 0
  | [], _, _, _ => by unfold cellsE; rfl
  | a :: gs, [], h, _ => by simp at h
  | a :: gs, b :: os, h, hc => by
    have h0 := hc 0 (by simp)
    simp only [List.getD_cons_zero] at h0
    rw [cellsE, if_neg (by
      have : numB b = true := by unfold numB; simp; omega
      simp [this]; omega), if_neg (by omega)]
    refine cellsE_ok gs os (by simpa using h) fun k hk => ?_
    have := hc (k + 1) (by simp; omega)
    simpa using this
theorem rowP_congr (f f' : GF) (W W' r c : Nat) (hW : r * W = r * W') (h : ∀ k, k < r * W + c → sgAt f k = sgAt f' k) : rowP f W r c = rowP f' W' r c := by
  induction c with
  | zero => rfl
  | succ c ih => rw [rowP, rowP, ih (fun k hk => h k (by omega)), h _ (by omega), hW]
theorem txtP_congr (f f' : GF) (W r : Nat) (h : ∀ k, k < r * W → sgAt f k = sgAt f' k) : txtP f W r = txtP f' W r := by
  induction r with
  | zero => rfl
  | succ r ih =>
    have e : (r + 1) * W = r * W + W := Nat.succ_mul r W
    rw [txtP, txtP, ih (fun k hk => h k (by omega)), rowP_congr f f' W W r W rfl (fun k hk => h k (by omega))]
def PS.fld (s : PS) : GF := ⟨s.W, s.H, s.G, s.O⟩
def PS.pre (s : PS) : List Int := txtP s.fld s.W s.H ++ rowP s.fld s.W s.H s.c
theorem getD_app_lt (l : List Int) (x : Int) (k : Nat) (h : k < l.length) : (l ++ [x]).getD k 0 = l.getD k 0 := by
  rw [List.getD_eq_getElem?_getD, List.getD_eq_getElem?_getD, List.getElem?_append_left h]
theorem getD_app_eq (l : List Int) (x : Int) (k : Nat) (h : k = l.length) : (l ++ [x]).getD k 0 = x := by
  rw [List.getD_eq_getElem?_getD, List.getElem?_append_right (by omega), h, Nat.sub_self]; rfl
theorem gOf_b (b : Int) (h : 0 ≤ gOf b) : signB (gOf b) (oOf b) = b ∧ gOf b ≤ 3 ∧ 0 ≤ oOf b ∧ oOf b ≤ 90 ∧ (0 < oOf b → gOf b = 0) ∧ oOf b % 10 = 0 := by
  by_cases h1 : 49 ≤ b ∧ b ≤ 57
  · have e1 : gOf b = 0 := by unfold gOf; rw [if_pos h1]
    have e2 : oOf b = 10 * (b - 48) := by unfold oOf; rw [if_pos h1]
    rw [e1, e2]
    unfold signB
    rw [if_pos (by omega), if_pos (by omega)]
    omega
  · have e2 : oOf b = 0 := by unfold oOf; rw [if_neg h1]
    rw [e2]
    unfold gOf at h ⊢
    rw [if_neg h1] at h ⊢
    unfold signB
    rw [if_neg (by omega)]
    by_cases h2 : b = 46
    · subst h2; decide
    · rw [if_neg h2] at h ⊢
      by_cases h3 : b = 35
      · subst h3; decide
      · rw [if_neg h3] at h ⊢
        by_cases h4 : b = 126
        · subst h4; decide
        · rw [if_neg h4] at h ⊢
          by_cases h5 : b = 94
          · subst h5; decide
          · rw [if_neg h5] at h; omega
theorem PInv.line {s : PS} (h : PInv s) (hc : ¬(s.c = 0 ∨ (0 < s.H ∧ s.c ≠ s.W))) : PInv ⟨0, s.c, s.H + 1, s.G, s.O⟩ ∧ PS.pre ⟨0, s.c, s.H + 1, s.G, s.O⟩ = s.pre ++ [10] := by
  obtain ⟨h1, h2, h3, h4, h5, h6, h7, h8, h9⟩ := h
  obtain ⟨c, W, H, G, O⟩ := s
  dsimp only at *
  have hHW : H * W = H * c := by
    rcases Nat.eq_zero_or_pos H with h0 | h0
    · subst h0; simp
    · rw [show c = W by omega]
  have e : (H + 1) * c = H * c + c := Nat.succ_mul H c
  refine ⟨⟨by simp, by simp; omega, by simp, by simp; omega, by simp; omega, by simp, by simp; omega, by simp; omega, h9⟩, ?_⟩
  unfold PS.pre PS.fld
  simp only [txtP, rowP, List.append_nil]
  congr 1
  have hs : ∀ k, sgAt ⟨c, ((H + 1 : Nat) : Int), G, O⟩ k = sgAt ⟨W, H, G, O⟩ k := fun k => rfl
  congr 1
  · rcases Nat.eq_zero_or_pos H with h0 | h0
    · subst h0; rfl
    · obtain rfl : c = W := by omega
      exact txtP_congr _ _ _ _ fun k _ => rfl
  · exact rowP_congr _ _ _ _ _ _ hHW.symm fun k _ => rfl
theorem PInv.sign {s : PS} (h : PInv s) (b : Int) (hb : ¬(gOf b < 0 ∨ (0 < s.H ∧ s.c = s.W))) (h12 : ¬(s.c = 12 ∨ s.H = 12)) : PInv ⟨s.c + 1, s.W, s.H, s.G ++ [gOf b], s.O ++ [oOf b]⟩ ∧ PS.pre ⟨s.c + 1, s.W, s.H, s.G ++ [gOf b], s.O ++ [oOf b]⟩ = s.pre ++ [b] := by
  obtain ⟨h1, h2, h3, h4, h5, h6, h7, h8, h9⟩ := h
  obtain ⟨c, W, H, G, O⟩ := s
  dsimp only at *
  obtain ⟨g1, g2, g3, g4, g5, _⟩ := gOf_b b (by omega)
  refine ⟨⟨by simp; omega, by simp; omega, by simp; omega, h4, by simp; omega, h6, by simp; omega, by simp; omega, ?_⟩, ?_⟩
  · intro k hk
    simp only [List.length_append, List.length_singleton] at hk
    dsimp only
    by_cases hk2 : k < G.length
    · rw [getD_app_lt _ _ _ hk2, getD_app_lt _ _ _ (by omega)]
      exact h9 k hk2
    · rw [getD_app_eq _ _ _ (by omega), getD_app_eq _ _ _ (by omega)]
      exact ⟨by omega, g2, g3, g4, g5⟩
  · unfold PS.pre PS.fld
    dsimp only
    have hs : ∀ k, k < H * W + c → sgAt ⟨W, H, G ++ [gOf b], O ++ [oOf b]⟩ k = sgAt ⟨W, H, G, O⟩ k := fun k hk => by
      unfold sgAt
      dsimp only
      rw [getD_app_lt _ _ _ (by omega), getD_app_lt _ _ _ (by omega)]
    rw [rowP, txtP_congr _ ⟨W, H, G, O⟩ W H (fun k hk => hs k (by omega)), rowP_congr _ ⟨W, H, G, O⟩ W W H c rfl hs, ← List.append_assoc]
    congr 2
    unfold sgAt
    dsimp only
    rw [getD_app_eq _ _ _ (by omega), getD_app_eq _ _ _ (by omega), g1]
/-- What is read is printed as that text. -/
theorem prun_back : ∀ (bs : List Int) (i : Nat) (s : PS) (g : GF) (p : Int), PInv s → prun bs i s = (g, p, 0) → fieldE g = 0 ∧ fieldT g = s.pre ++ bs ∧ p = 0 ∧ (∀ k : Nat, g.ore.getD k 0 ≤ 90)
  | [], i, s, g, p, hI, h => by
    rw [prun] at h
    by_cases h1 : 0 < s.c ∨ s.H = 0
    · rw [if_pos h1] at h
      unfold badP at h
      simp at h
    · rw [if_neg h1] at h
      simp only [Prod.mk.injEq] at h
      obtain ⟨rfl, rfl, _⟩ := h
      obtain ⟨g1, g2, g3, g4, g5, g6, g7, g8, g9⟩ := hI
      obtain ⟨c, W, H, G, O⟩ := s
      dsimp only at *
      obtain rfl : c = 0 := by omega
      refine ⟨good_to _ ⟨by dsimp only; omega, by dsimp only; omega, ?_, ?_, cellsE_ok _ _ (by dsimp only; omega) fun k hk => ?_⟩, ?_, rfl, ?_⟩
      · show (G.length : Int) = (W : Int) * H
        rw [g7, Nat.mul_comm]; simp
      · show (O.length : Int) = (W : Int) * H
        rw [g8, Nat.mul_comm]; simp
      · have := g9 k hk
        exact ⟨this.1, this.2.1, this.2.2.1, Int.le_trans this.2.2.2.1 (by decide), this.2.2.2.2⟩
      · unfold PS.pre PS.fld fieldT
        simp [rowP]
      · intro k
        show O.getD k 0 ≤ 90
        by_cases hk : k < G.length
        · exact (g9 k hk).2.2.2.1
        · rw [List.getD_eq_getElem?_getD, List.getElem?_eq_none (by omega)]; simp
  | b :: bs, i, s, g, p, hI, h => by
    rw [prun] at h
    by_cases h1 : b = 10
    · rw [if_pos h1] at h
      by_cases h2 : s.c = 0 ∨ (0 < s.H ∧ s.c ≠ s.W)
      · rw [if_pos h2] at h
        unfold badP at h
        simp at h
      · rw [if_neg h2] at h
        obtain ⟨k1, k2⟩ := hI.line h2
        have := prun_back bs (i + 1) _ g p k1 h
        rw [k2, List.append_assoc] at this
        subst h1
        exact this
    · rw [if_neg h1] at h
      by_cases h2 : gOf b < 0 ∨ (0 < s.H ∧ s.c = s.W)
      · rw [if_pos h2] at h
        unfold badP at h
        simp at h
      · rw [if_neg h2] at h
        by_cases h3 : s.c = 12 ∨ s.H = 12
        · rw [if_pos h3] at h
          unfold badP at h
          simp at h
        · rw [if_neg h3] at h
          obtain ⟨k1, k2⟩ := hI.sign b h2 h3
          have := prun_back bs (i + 1) _ g p k1 h
          rw [k2, List.append_assoc] at this
          exact this
theorem s0_inv : PInv s0 := ⟨by decide, by decide, by decide, by decide, by decide, by decide, rfl, rfl, fun k hk => by simp [s0] at hk⟩
theorem parse_back (bs : List Int) (g : GF) (p : Int) (h : parseL bs = (g, p, 0)) : fieldE g = 0 ∧ fieldT g = bs ∧ p = 0 := by
  obtain ⟨h1, h2, h3, _⟩ := prun_back bs 0 s0 g p s0_inv h
  exact ⟨h1, h2, h3⟩
/-- What has no other ore than tens is read as it was. -/
def stP (f : GF) (W r c : Nat) : PS := ⟨c, if r = 0 then 0 else W, r, f.ground.take (r * W + c), f.ore.take (r * W + c)⟩
theorem sign_b (g o : Int) (h : 0 ≤ g ∧ g ≤ 3 ∧ 0 ≤ o ∧ o ≤ 90 ∧ o % 10 = 0 ∧ (0 < o → g = 0)) : signB g o ≠ 10 ∧ gOf (signB g o) = g ∧ oOf (signB g o) = o := by
  by_cases h0 : 0 < o
  · have e : signB g o = 48 + o / 10 := by unfold signB; rw [if_pos h0, if_pos (by omega)]
    rw [e]
    unfold gOf oOf
    rw [if_pos (by omega), if_pos (by omega)]
    omega
  · obtain rfl : o = 0 := by omega
    have : g = 0 ∨ g = 1 ∨ g = 2 ∨ g = 3 := by omega
    rcases this with rfl | rfl | rfl | rfl <;> decide
theorem run_row (f : GF) (W r : Nat) (hr : r < 12) (hW : 1 ≤ W ∧ W ≤ 12) (hg : f.ground.length = f.ore.length) (hc : ∀ k : Nat, 0 ≤ f.ground.getD k 0 ∧ f.ground.getD k 0 ≤ 3 ∧ 0 ≤ f.ore.getD k 0 ∧ f.ore.getD k 0 ≤ 90 ∧ f.ore.getD k 0 % 10 = 0 ∧ (0 < f.ore.getD k 0 → f.ground.getD k 0 = 0)) :
    ∀ (c : Nat), c ≤ W → r * W + c ≤ f.ground.length → ∀ (i : Nat) (rest : List Int), prun (rowP f W r c ++ rest) i (stP f W r 0) = prun rest (i + c) (stP f W r c)
  | 0, _, _, i, rest => by simp [rowP]
  | c + 1, hcW, hl, i, rest => by
    rw [rowP, List.append_assoc, run_row f W r hr hW hg hc c (by omega) (by omega), List.singleton_append, prun]
    obtain ⟨e1, e2, e3⟩ := sign_b _ _ (hc (r * W + c))
    have e0 : sgAt f (r * W + c) = signB (f.ground.getD (r * W + c) 0) (f.ore.getD (r * W + c) 0) := rfl
    have hcc := hc (r * W + c)
    rw [e0, if_neg e1, e2, e3, if_neg (by
      unfold stP
      dsimp only
      rcases Nat.eq_zero_or_pos r with h0 | h0
      · omega
      · rw [if_neg (by omega)]; omega), if_neg (by unfold stP; dsimp only; omega)]
    have t1 : f.ground.take (r * W + c) ++ [f.ground.getD (r * W + c) 0] = f.ground.take (r * W + (c + 1)) := by
      rw [show r * W + (c + 1) = r * W + c + 1 by omega, List.take_succ_eq_append_getElem (by omega), List.getD_eq_getElem?_getD, List.getElem?_eq_getElem (by omega)]; rfl
    have t2 : f.ore.take (r * W + c) ++ [f.ore.getD (r * W + c) 0] = f.ore.take (r * W + (c + 1)) := by
      rw [show r * W + (c + 1) = r * W + c + 1 by omega, List.take_succ_eq_append_getElem (by omega), List.getD_eq_getElem?_getD, List.getElem?_eq_getElem (by omega)]; rfl
    unfold stP
    dsimp only
    rw [t1, t2, Nat.add_assoc]
theorem run_txt (f : GF) (W : Nat) (hW : 1 ≤ W ∧ W ≤ 12) (hg : f.ground.length = f.ore.length) (hc : ∀ k : Nat, 0 ≤ f.ground.getD k 0 ∧ f.ground.getD k 0 ≤ 3 ∧ 0 ≤ f.ore.getD k 0 ∧ f.ore.getD k 0 ≤ 90 ∧ f.ore.getD k 0 % 10 = 0 ∧ (0 < f.ore.getD k 0 → f.ground.getD k 0 = 0)) :
    ∀ (r : Nat), r ≤ 12 → r * W ≤ f.ground.length → ∀ (i : Nat) (rest : List Int), ∃ j, prun (txtP f W r ++ rest) i (stP f W 0 0) = prun rest j (stP f W r 0)
  | 0, _, _, i, rest => ⟨i, by simp [txtP]⟩
  | r + 1, hr, hl, i, rest => by
    have e : (r + 1) * W = r * W + W := Nat.succ_mul r W
    obtain ⟨j, hj⟩ := run_txt f W hW hg hc r (by omega) (by omega) i (rowP f W r W ++ ([10] ++ rest))
    refine ⟨j + W + 1, ?_⟩
    rw [txtP, List.append_assoc, List.append_assoc, hj, run_row f W r (by omega) hW hg hc W (Nat.le_refl _) (by omega), List.singleton_append, prun, if_pos rfl, if_neg (by
      unfold stP
      dsimp only
      rcases Nat.eq_zero_or_pos r with h0 | h0
      · omega
      · rw [if_neg (by omega)]; omega)]
    unfold stP
    dsimp only
    rw [if_neg (by omega), e, Nat.add_zero]
    rfl
theorem parse_there (f : GF) (h : fieldE f = 0) (ho : ∀ k : Nat, k < f.ore.length → f.ore.getD k 0 ≤ 90 ∧ f.ore.getD k 0 % 10 = 0) : parseL (fieldT f) = (f, 0, 0) := by
  have hg := good_of f h
  have hos := hg.ores
  have hn := hg.len
  have hW := hg.wide
  have hH := hg.high
  have hlg := hg.lg
  obtain ⟨W, eW⟩ : ∃ W : Nat, f.wide = (W : Int) := ⟨f.wide.toNat, by omega⟩
  obtain ⟨H, eH⟩ : ∃ H : Nat, f.high = (H : Int) := ⟨f.high.toNat, by omega⟩
  have hl : f.ground.length = H * W := by rw [eW, eH, Int.mul_comm] at hlg; exact_mod_cast hlg
  have eT : fieldT f = txtP f W H ++ [] := by unfold fieldT; rw [eW, eH, List.append_nil]; rfl
  obtain ⟨j, hj⟩ := run_txt f W (by omega) hn.2.2.symm (fun k => by
    have := hos k
    rcases Nat.lt_or_ge k f.ore.length with hk | hk
    · have := ho k hk
      omega
    · have e : f.ore.getD k 0 = 0 := by rw [List.getD_eq_getElem?_getD, List.getElem?_eq_none hk]; rfl
      rw [e] at this ⊢
      omega) H (by omega) (by omega) 0 []
  have e0 : stP f W 0 0 = s0 := by unfold stP s0; simp
  unfold parseL
  rw [eT, ← e0, hj, prun, if_neg (by unfold stP; dsimp only; omega)]
  unfold stP
  dsimp only
  rw [if_neg (by omega), Nat.add_zero, ← hl, List.take_length, List.take_of_length_le (by omega), ← eW, ← eH]
end Go.Proofs.YtkgkpggfoieioaaDoor
namespace Go.Proofs.YtkgkpggfoieioaaDoor
set_option linter.unusedVariables false
open Go.RowKit
theorem ib_run (s : ByteArray) (c : Int) (w : World) : (callFunc 174 #[.string s, .int .u8 c]).run Tryd.prog w = .ok (.value (.int .i64 (Lib.indexByte s.data.toList c.toNat.toUInt8))) w := by
  rw [run_callFunc_indexByte Tryd.func174 (by kernel_rfl) (by kernel_rfl) (by kernel_rfl) (by kernel_rfl), Lib.run_indexByteString]
  rfl
theorem ib2_any (s : ByteArray) (c : Int) (w : World) :
    Calls Tryd.prog 153 #[.string s, .int .u8 c] w fun e w' => e = .returned (.int .i64 (Lib.indexByte s.data.toList c.toNat.toUInt8)) ∧ w = w' := by
  have hd := fun w => ib_run s c w
  go_enter Tryd.func153, Tryd.ntmps153
  go_wp2_with fail
  go_ret
  exact ⟨rfl, rfl⟩
theorem ib3_any (s : ByteArray) (c : Int) (w : World) :
    Calls Tryd.prog 119 #[.string s, .int .u8 c] w fun e w' => e = .returned (.int .i64 (Lib.indexByte s.data.toList c.toNat.toUInt8)) ∧ w = w' := by
  go_enter Tryd.func119, Tryd.ntmps119
  go_wp2_with fail
  refine (ib2_any s c w).mono ?_
  rintro e w' ⟨rfl, rfl⟩
  go_wp2_with fail
  go_ret
  exact ⟨rfl, rfl⟩
def sigS : ByteArray := ⟨#[46, 35, 126, 94]⟩
/-- The sign's ground, but for digits. -/
def gSg (b : Int) : Int := if b = 46 then 0 else if b = 35 then 1 else if b = 126 then 2 else if b = 94 then 3 else -1
theorem sig_nat : ∀ b : Fin 256, Lib.indexByte [46, 35, 126, 94] ((b.val : Nat).toUInt8) = gSg ((b.val : Nat) : Int) := by decide +kernel
theorem sig_any (b : Nat) (hb : b < 256) (w : World) :
    Calls Tryd.prog 119 #[.string ⟨#[46, 35, 126, 94]⟩, .int .u8 (b : Int)] w fun e w' => e = .returned (.int .i64 (gSg b)) ∧ w = w' := by
  refine (ib3_any ⟨#[46, 35, 126, 94]⟩ b w).mono ?_
  rintro e w' ⟨rfl, rfl⟩
  have := sig_nat ⟨b, hb⟩
  exact ⟨congrArg (fun z => Ending.returned (Value.int .i64 z)) this, rfl⟩
theorem gSg_bd (b : Int) : -1 ≤ gSg b ∧ gSg b ≤ 3 := by
  unfold gSg
  repeat' split
  all_goals omega
theorem gOf_lo (b : Int) (h : ¬(49 ≤ b ∧ b ≤ 57)) : gOf b = gSg b ∧ oOf b = 0 := by unfold gOf gSg oOf; rw [if_neg h, if_neg h]; exact ⟨rfl, rfl⟩
theorem gOf_hi (b : Int) (h : 49 ≤ b ∧ b ≤ 57) : gOf b = 0 ∧ oOf b = 10 * (b - 48) := by unfold gOf oOf; rw [if_pos h, if_pos h]; exact ⟨rfl, rfl⟩
end Go.Proofs.YtkgkpggfoieioaaDoor
namespace Go.Proofs.YtkgkpggfoieioaaDoor
set_option linter.unusedVariables false
open Go.RowKit
/-! Two rows of integers, one beside the other, and what is appended to either in a region that draws its order. -/
structure St2 (w : World) (base : Nat) (v1 : Value) (n1 : Nat) (x1 : List Value) (v2 : Value) (n2 : Nat) (x2 : List Value) : Prop where
  o1 : w.ownsRow base 3 1 v1 n1 x1
  o2 : w.ownsRow base 3 1 v2 n2 x2
  ne : ∀ g, v1.ownBlock = some g → v2.ownBlock ≠ some g
theorem own_block_lt {w : World} {base : Nat} {e : TypeId} {sz n : Nat} {v : Value} {xs : List Value} (h : w.ownsRow base e sz v n xs) : ∀ g, v.ownBlock = some g → base ≤ g ∧ g < w.heap.size := fun g hg => by
  rcases h.2 with ⟨rfl, _⟩ | ⟨g', cap, cur, rfl, hb, hh, _⟩
  · simp [Value.ownBlock] at hg
  · simp only [Value.ownBlock, Option.some.injEq] at hg
    subst hg
    refine ⟨hb, ?_⟩
    rcases Nat.lt_or_ge g' w.heap.size with hlt | hge
    · exact hlt
    · rw [Array.getElem?_eq_none hge] at hh; cases hh
section
variable {w w' : World} {base n1 n2 : Nat} {v1 v2 : Value} {x1 x2 : List Value}
theorem St2.swap (h : St2 w base v1 n1 x1 v2 n2 x2) : St2 w base v2 n2 x2 v1 n1 x1 := ⟨h.o2, h.o1, fun g h1 h2 => h.ne g h2 h1⟩
theorem St2.alloc (h : St2 w base v1 n1 x1 v2 n2 x2) (o : Obj) : St2 (w.alloc o) base v1 n1 x1 v2 n2 x2 := ⟨h.o1.alloc _, h.o2.alloc _, h.ne⟩
theorem St2.drew (h : St2 w base v1 n1 x1 v2 n2 x2) : St2 w.drew base v1 n1 x1 v2 n2 x2 := ⟨h.o1, h.o2, h.ne⟩
theorem own_far {e : TypeId} {sz n : Nat} {v : Value} {xs : List Value} (h : w.ownsRow base e sz v n xs) {g : Nat} (hg : g < base) : v.ownBlock = none ∨ v.ownBlock ≠ some g := .inr fun e => by have := (own_block_lt h g e).1; omega
theorem St2.set_ (h : St2 w base v1 n1 x1 v2 n2 x2) (g i : Nat) (u : Value) (hg : g < base) : St2 (w.setCell ⟨g, i, none⟩ u) base v1 n1 x1 v2 n2 x2 :=
  ⟨h.o1.kept (grownBy_set w g i u) (own_far h.o1 hg), h.o2.kept (grownBy_set w g i u) (own_far h.o2 hg), h.ne⟩
theorem St2.put1 (h : St2 w base v1 n1 x1 v2 n2 x2) {g cap : Nat} {m : Nat} {ys : List Value} (hown : w'.ownsRow base 3 1 (.slice (some ⟨g, 0, none⟩) m cap) m ys) (hgrow : w.grownBy w' v1.ownBlock) (hat : v1.ownBlock = some g ∨ g = w.heap.size) :
    St2 w' base (.slice (some ⟨g, 0, none⟩) m cap) m ys v2 n2 x2 :=
  ⟨hown, h.o2.kept hgrow (by
    cases hv : v2.ownBlock with
    | none => exact .inl rfl
    | some b => exact .inr fun e => h.ne b e.symm hv), fun b hb => by
    simp only [Value.ownBlock, Option.some.injEq] at hb
    subst hb
    rcases hat with hat | hat
    · exact h.ne g hat
    · intro e
      have := (own_block_lt h.o2 g e).2
      omega⟩
end
theorem int_infT : (Tryd.prog.info? 3).map (fun i => (i.zero, i.size, i.bytes)) = some (some (.int .i64 0), 1, 8) := by kernel_rfl
/-- What an append to the first row leaves, since a world w0. -/
structure Put1 (w0 w w' : World) (base : Nat) (v1 : Value) (n1 : Nat) (x1 : List Value) (y : Int) (v2 : Value) (n2 : Nat) (x2 : List Value) (g cap : Nat) : Prop where
  st : St2 w' base (.slice (some ⟨g, 0, none⟩) (n1 + 1) cap) (n1 + 1) (x1 ++ [.int .i64 y]) v2 n2 x2
  bel : Below base w0 w'
  blk : ∀ b t cs, w0.heap.size ≤ b → Blk w b t cs → Blk w' b t cs
  size : w.heap.size ≤ w'.heap.size
theorem Blk.new' (w : World) (t : TypeId) (cs : Array Value) (g : Nat) (h : g = w.heap.size) : Blk (w.alloc (.cells cs t)) g t cs := by subst h; exact Blk.new w t cs
theorem Below.draw1 {B : Nat} {a w : World} (h : Below B a w) : Below B a w.drew := bdrewN h 1
theorem step_put1 {ops : Array Oper} {o : Oper} {a : Act} {K : Act → World → Prop} {Q : Exit → Act → World → Prop} {E : Prop} {w : World} (hgd : o.guard = none) (s x : Operand)
    (ho : o.op = .call { callee := .builtin .append, args := #[s, x], argTypes := #[34, 34] })
    (w0 : World) (base : Nat) (v1 : Value) (n1 : Nat) (x1 : List Value) (v2 : Value) (n2 : Nat) (x2 : List Value) (y : Int) (hs : a.eval s = v1) (h2 : St2 w base v1 n1 x1 v2 n2 x2) (h0 : Below base w0 w) (hlt : ∀ g, v1.ownBlock = some g → g < w0.heap.size)
    (ad c : Nat) (hx : a.eval x = .slice (some ⟨ad, 0, none⟩) 1 c) (hb : Blk w ad 3 #[.int .i64 y]) (hn : n1 ≤ 100000) (hbase : base ≤ w0.heap.size)
    (h : ∀ g cap w', Put1 w0 w w' base v1 n1 x1 y v2 n2 x2 g cap → K (a.put o.dst (.slice (some ⟨g, 0, none⟩) (n1 + 1) cap)) w') :
    if Region.wanted o (yielded ops a.tmps) = true then Oper.wp Tryd.prog o a w K Q else E := by
  obtain ⟨i0, hi0, hz0, hz1, hz2⟩ := info_parts int_infT
  have hsz := h0.size
  refine step_append_lies w hgd s x 34 ho base 3 i0 _ 1 8 Tryd.underlying34 hi0 hz0 hz1 hz2 rfl (by decide) v1 n1 x1 hs h2.o1 ⟨ad, 0, none⟩ 1 c [.int .i64 y] hx rfl (World.news_of_block (cs := #[.int .i64 y]) hb) (by simp [Value.oneCell']) (by decide) (by unfold maxLen; omega) (by omega) (by omega) w.heap.size rfl ?_
  intro g cap w' hown hgrow hat hlt'
  refine h g cap w' ⟨h2.put1 hown hgrow hat, ?_, ?_, hgrow.size⟩
  · exact h0.grown hgrow (by omega) (fun g hg => (own_block_lt h2.o1 g hg).1)
  · intro b t cs hbb hbk
    refine hbk.grown hgrow fun e => ?_
    have := hlt b e.symm
    omega
end Go.Proofs.YtkgkpggfoieioaaDoor
namespace Go.Proofs.YtkgkpggfoieioaaDoor
set_option linter.unusedVariables false
/-- A change of a place; its three cells. -/
structure Ch where
  a : Int
  o : Int
  n : Int
deriving DecidableEq
def chC (c : Ch) : List Value := [.int .i64 c.a, .int .i64 c.o, .int .i64 c.n]
theorem chC_len (c : Ch) : (chC c).length = 3 := rfl
/-- What is at a place; -1 behind the end. -/
def atV (xs : List Int) (i : Nat) : Int := (xs[i]?).getD (-1)
def diffO (xs ys : List Int) (i : Nat) : List Ch := if atV xs i = atV ys i then [] else [⟨i, atV xs i, atV ys i⟩]
def diffN (xs ys : List Int) : Nat → List Ch
  | 0 => []
  | k + 1 => diffN xs ys k ++ diffO xs ys k
def diffL (xs ys : List Int) : List Ch := diffN xs ys (max xs.length ys.length)
theorem diffO_len (xs ys : List Int) (k : Nat) : (diffO xs ys k).length ≤ 1 := by unfold diffO; split <;> simp
theorem diffN_len (xs ys : List Int) (k : Nat) : (diffN xs ys k).length ≤ k := by
  induction k with
  | zero => simp [diffN]
  | succ k ih => rw [diffN, List.length_append]; have := diffO_len xs ys k; omega
theorem diffN_yes (xs ys : List Int) (k : Nat) (h : atV xs k = atV ys k) : diffN xs ys (k + 1) = diffN xs ys k := by
  rw [diffN, diffO, if_pos h, List.append_nil]
theorem diffN_no (xs ys : List Int) (k : Nat) (h : ¬ atV xs k = atV ys k) : diffN xs ys (k + 1) = diffN xs ys k ++ [⟨k, atV xs k, atV ys k⟩] := by
  rw [diffN, diffO, if_neg h]
theorem diffN_end (xs ys : List Int) (k : Nat) (h1 : xs.length ≤ k) (h2 : ys.length ≤ k) : diffN xs ys k = diffL xs ys := by
  obtain ⟨d, hd⟩ : ∃ d, k = max xs.length ys.length + d := ⟨k - max xs.length ys.length, by omega⟩
  subst hd
  clear h1 h2
  induction d with
  | zero => rfl
  | succ d ih =>
    rw [← ih, ← Nat.add_assoc]
    apply diffN_yes
    unfold atV
    rw [List.getElem?_eq_none (by omega), List.getElem?_eq_none (by omega)]
theorem diffN_pre (xs ys : List Int) (i d : Nat) : ∃ t, diffN xs ys (i + d) = diffN xs ys i ++ t := by
  induction d with
  | zero => exact ⟨[], by simp⟩
  | succ d ih =>
    obtain ⟨t, ht⟩ := ih
    exact ⟨t ++ diffO xs ys (i + d), by rw [← Nat.add_assoc, diffN, ht, List.append_assoc]⟩
theorem diffL_get (xs ys : List Int) (i : Nat) (hi : i < max xs.length ys.length) (h : ¬ atV xs i = atV ys i) :
    (diffL xs ys)[(diffN xs ys i).length]? = some ⟨i, atV xs i, atV ys i⟩ ∧ (diffN xs ys i).length < (diffL xs ys).length := by
  obtain ⟨t, ht⟩ := diffN_pre xs ys (i + 1) (max xs.length ys.length - (i + 1))
  rw [show i + 1 + (max xs.length ys.length - (i + 1)) = max xs.length ys.length by omega] at ht
  unfold diffL
  rw [ht, diffN_no xs ys i h, List.append_assoc]
  exact ⟨by rw [List.getElem?_append_right (by omega)]; simp, by simp⟩
theorem diffL_len (xs ys : List Int) (h1 : xs.length ≤ 6000) (h2 : ys.length ≤ 6000) : (diffL xs ys).length ≤ 6000 := by
  have := diffN_len xs ys (max xs.length ys.length)
  unfold diffL; omega
theorem atV_in (xs : List Int) (i : Nat) (h : i < xs.length) : xs[i]? = some (atV xs i) := by
  unfold atV; rw [List.getElem?_eq_getElem h]; rfl
theorem atV_out (xs : List Int) (i : Nat) (h : xs.length ≤ i) : atV xs i = -1 := by
  unfold atV; rw [List.getElem?_eq_none h]; rfl
def Byte (x : Int) : Prop := 0 ≤ x ∧ x ≤ 255
theorem atV_bd (xs : List Int) (h : ∀ x ∈ xs, Byte x) (i : Nat) : -1 ≤ atV xs i ∧ atV xs i ≤ 255 := by
  unfold atV
  cases hx : xs[i]? with
  | none => decide
  | some x =>
    have := h x (List.mem_of_getElem? hx)
    unfold Byte at this
    simp only [Option.getD_some]
    omega
/-- Is there a frame at a place, and how long is it? The frames from a place on. -/
def frK (xs : List Int) (p : Nat) : Option Nat :=
  if p + 2 ≤ xs.length then (if p + 2 + ((xs.getD p 0).toNat * 256 + (xs.getD (p + 1) 0).toNat) ≤ xs.length then some ((xs.getD p 0).toNat * 256 + (xs.getD (p + 1) 0).toNat) else none) else none
def frF : Nat → List Int → Nat → List (List Int) × Nat
  | 0, _, p => ([], p)
  | f + 1, xs, p => match frK xs p with
    | none => ([], p)
    | some k => ((xs.drop (p + 2)).take k :: (frF f xs (p + 2 + k)).1, (frF f xs (p + 2 + k)).2)
def framesL (xs : List Int) : List (List Int) × Nat := frF xs.length xs 0
theorem frF_none (f : Nat) (xs : List Int) (p : Nat) (h : frK xs p = none) : frF f xs p = ([], p) := by
  cases f with
  | zero => rfl
  | succ f => rw [frF, h]
theorem frF_some (f : Nat) (xs : List Int) (p k : Nat) (h : frK xs p = some k) : frF (f + 1) xs p = ((xs.drop (p + 2)).take k :: (frF f xs (p + 2 + k)).1, (frF f xs (p + 2 + k)).2) := by
  rw [frF, h]
end Go.Proofs.YtkgkpggfoieioaaDoor
namespace Go.Proofs.YtkgkpggfoieioaaDoor
set_option linter.unusedVariables false
open Go.RowKit
/-- Bytes as a string. -/
def toU (xs : List Int) : List UInt8 := xs.map fun x => UInt8.ofNat x.toNat
def toS (xs : List Int) : ByteArray := ⟨(toU xs).toArray⟩
theorem toU_back (xs : List Int) (h : ∀ x ∈ xs, Byte x) : (toU xs).map (fun b => (b.toNat : Int)) = xs := by
  unfold toU
  rw [List.map_map]
  conv => rhs; rw [← List.map_id xs]
  refine List.map_congr_left fun x hx => ?_
  have := h x hx
  unfold Byte at this
  simp only [Function.comp, id, UInt8.toNat_ofNat']
  omega
theorem toS_inj (xs ys : List Int) (hx : ∀ x ∈ xs, Byte x) (hy : ∀ x ∈ ys, Byte x) (h : toS xs = toS ys) : xs = ys := by
  have h1 : toU xs = toU ys := by
    have := congrArg (fun b : ByteArray => b.data.toList) h
    simpa [toS] using this
  rw [← toU_back xs hx, ← toU_back ys hy, h1]
theorem str_run (w : World) (B : Nat) (A : Option Addr) (n c : Nat) (xs : List Int) (hn : xs.length = n) (h : RD w B 1 A n (xs.map (.int .u8))) (hx : ∀ x ∈ xs, Byte x) :
    (convert 65 9 (.slice A n c)).run Tryd.prog w = .ok (.string (toS xs)) w := by
  rcases A with _ | a
  · have hn0 : n = 0 := by
      rcases Nat.eq_zero_or_pos n with h0 | h0
      · exact h0
      · obtain ⟨b, off, e, _⟩ := h.2 h0
        cases e
    subst hn0
    obtain rfl : xs = [] := List.eq_nil_of_length_eq_zero hn
    exact Lib.run_convert_nil_bytes w _ _ _ c Tryd.underlying65 Tryd.underlying5 Tryd.underlying9
  · have hl : (toU xs).length = n := by simp [toU, hn]
    have := run_convert_bytes_back (P := Tryd.prog) w 65 9 5 a c (toU xs) Tryd.underlying65 Tryd.underlying5 Tryd.underlying9 (fun j hj => by
      obtain ⟨b, off, e, _, hc⟩ := h.2 (by omega)
      injection e with e
      subst e
      rw [addr_add, hc j (by omega)]
      have hb := toU_back xs hx
      rw [List.getElem?_map]
      have hj2 : j < xs.length := by omega
      rw [List.getElem?_eq_getElem hj2]
      have e2 : ((toU xs)[j].toNat : Int) = xs[j] := by
        have := congrArg (fun l : List Int => l[j]?) hb
        simp only [List.getElem?_map, List.getElem?_eq_getElem hj, List.getElem?_eq_getElem hj2, Option.map_some, Option.some.injEq] at this
        exact this
      rw [e2]; rfl)
    rw [hl] at this
    exact this
end Go.Proofs.YtkgkpggfoieioaaDoor
namespace Go.Proofs.YtkgkpggfoieioaaDoor
set_option linter.unusedVariables false
/-! A region that draws its order, in two phases: S is kept through the first alone. -/
theorem owp_q {P : Program} {o : Oper} {a : Act} {w : World} {K : Act → World → Prop} {Q Q' : Exit → Act → World → Prop} (hp : ∀ c a w, Q' (.panic c) a w → Q (.panic c) a w) (hl : LetsOut Q' → LetsOut Q) (h : o.wp P a w K Q') : o.wp P a w K Q := by
  unfold Oper.wp at *
  generalize (execOp a.eval o).run P w = r at *
  cases r with
  | ok n w' =>
    cases n <;> simp only [Oper.upon] at h ⊢ <;>
      first
        | exact h
        | exact Calls.mono h (fun e w'' he => by cases e <;> first | exact he | exact hp _ _ _ he | exact hl he)
  | halt x w' => cases x <;> simp only [Oper.upon] at h ⊢ <;> first | exact h | exact hp _ _ _ h
theorem owpOp_q {P : Program} {ops : Array Oper} {i : Nat} {a : Act} {w : World} {K : Act → World → Prop} {Q Q' : Exit → Act → World → Prop} (hp : ∀ c a w, Q' (.panic c) a w → Q (.panic c) a w) (hl : LetsOut Q' → LetsOut Q) (h : wpOp P ops Q' i K a w) : wpOp P ops Q i K a w := by
  unfold wpOp at *
  split
  · simpa [*] using h
  · rename_i o ho
    simp only [ho] at h
    split
    · rename_i hw
      simp only [hw, if_true] at h
      exact h.imp (owp_q hp hl) (fun h => ⟨h.1, hl h.2⟩)
    · rename_i hw
      simp only [hw] at h
      exact h
def mk2 (m : List Bool) (n2 : Nat) (b : Bool) : Array Bool := (m ++ List.replicate n2 b).toArray
theorem set_mk2 (m : List Bool) (n2 : Nat) (b : Bool) (i : Nat) (h : i < m.length) : (mk2 m n2 b).setIfInBounds i true = mk2 (m.set i true) n2 b := by
  unfold mk2
  rw [List.setIfInBounds_toArray, List.set_append, if_pos h]
theorem count_set_false : ∀ (l : List Bool) (i : Nat), i < l.length → l.getD i true = false → (l.set i true).count false + 1 = l.count false
  | [], i, h, _ => by simp at h
  | a :: l, 0, _, h => by
    have : a = false := by simpa using h
    subst this; simp
  | a :: l, i + 1, h, h2 => by
    have := count_set_false l i (by simpa using h) (by simpa using h2)
    rw [List.set_cons_succ, List.count_cons, List.count_cons]; omega
/-- Which sets may have come up: those are listed, each with what may come up next. -/
def chk2 (md : Region.Mode) (ops : Array Oper) (n1 n2 : Nat) (Ms : List (List Bool)) : Bool :=
  Ms.contains (List.replicate n1 false) && Ms.all fun m => m.length == n1 && (m.all id ||
    ((Region.ready md ops (mk2 m n2 false)) == (Region.ready md ops (mk2 m n2 true)) && !(Region.ready md ops (mk2 m n2 false)).isEmpty &&
      (Region.ready md ops (mk2 m n2 false)).all fun i => decide (i < n1) && !(m.getD i true) && Ms.contains (m.set i true)))
theorem all_true : ∀ (m : List Bool), m.all id = true → m = List.replicate m.length true
  | [], _ => rfl
  | a :: l, h => by
    simp only [List.all_cons, Bool.and_eq_true] at h
    rw [List.length_cons, List.replicate_succ, ← all_true l h.2]
    have : a = true := h.1
    rw [this]
section
variable {P : Program} {md : Region.Mode} {ops : Array Oper} {Q : Exit → Act → World → Prop} {S : World → Prop} {n1 n2 : Nat}
/-- What follows the first phase. -/
def Nx2 (P : Program) (md : Region.Mode) (ops : Array Oper) (Q : Exit → Act → World → Prop) (n1 n2 : Nat) : Exit → Act → World → Prop
  | .normal, a, w => wpAny P md ops Q n2 (mk2 (List.replicate n1 true) n2 false) a w
  | .panic c, a, w => Q (.panic c) a w
  | e, a, w => Q e a w
theorem two_phase (Ms : List (List Bool)) (hk : chk2 md ops n1 n2 Ms = true) : ∀ (fuel : Nat) (m : List Bool) (a : Act) (w : World), m ∈ Ms → m.count false = fuel →
    wpAnyH P md ops (Nx2 P md ops Q n1 n2) S fuel (mk2 m n2 true) a w → wpAny P md ops Q (fuel + n2) (mk2 m n2 false) a w := by
  unfold chk2 at hk
  simp only [Bool.and_eq_true] at hk
  have hall := fun m hm => List.all_eq_true.1 hk.2 m hm
  intro fuel
  induction fuel with
  | zero =>
    intro m a w hm hc h
    have h1 := hall m hm
    simp only [Bool.and_eq_true, beq_iff_eq] at h1
    have hm1 : m.all id = true := by
      rw [List.all_eq_true]
      intro x hx
      cases x with
      | true => rfl
      | false => have := List.count_pos_iff.2 hx; omega
    rw [all_true m hm1, h1.1]
    rw [Nat.zero_add]
    exact h.2
  | succ fuel ih =>
    intro m a w hm hc h
    have h1 := hall m hm
    simp only [Bool.and_eq_true, Bool.or_eq_true, beq_iff_eq] at h1
    obtain ⟨hl, h2⟩ := h1
    rcases h2 with h2 | ⟨⟨h2, h3⟩, h4⟩
    · rw [all_true m h2] at hc
      rw [List.count_replicate] at hc
      simp at hc
    · have hne : Region.ready md ops (mk2 m n2 false) ≠ [] := by
        intro e; rw [e] at h3; simp at h3
      rw [show fuel + 1 + n2 = (fuel + n2) + 1 by omega]
      refine ⟨fun e => absurd e hne, fun i hi => ?_⟩
      have h5 := List.all_eq_true.1 h4 i hi
      simp only [Bool.and_eq_true, decide_eq_true_eq, Bool.not_eq_true', List.contains_iff_mem] at h5
      obtain ⟨⟨hi1, hi2⟩, hi3⟩ := h5
      have h6 := h.2 i (by rw [← h2]; exact hi)
      have h7 := owpOp_q (Q := Q) (Q' := Nx2 P md ops Q n1 n2) (fun c a w h => h) (fun ⟨a, w, h⟩ => ⟨a, w, h⟩) h6
      refine wpOp_mono (fun a' w' hh => ?_) h7
      rw [set_mk2 m n2 false i (by omega)]
      have hh2 := hh.2
      rw [set_mk2 m n2 true i (by omega)] at hh2
      exact ih (m.set i true) a' w' hi3 (by have := count_set_false m i (by omega) hi2; omega) hh2
theorem wp_region_two {id : Nat} {a : Act} {w : World} (S : World → Prop) (n1 n2 : Nat) (Ms : List (List Bool)) (hm : P.follows .mixedOrders = true) (hsz : ops.size = n1 + n2) (hk : chk2 .any ops n1 n2 Ms = true)
    (h : wpAnyH P .any ops (Nx2 P .any ops Q n1 n2) S n1 (mk2 (List.replicate n1 false) n2 true) a w.drew) : (Code.region id ops true).wp P Q a w := by
  refine wp_region_any hm ?_
  have hc : (List.replicate n1 false).count false = n1 := by rw [List.count_replicate]; simp
  have hmem : List.replicate n1 false ∈ Ms := by
    unfold chk2 at hk
    simp only [Bool.and_eq_true, List.contains_iff_mem] at hk
    exact hk.1
  have := two_phase (Q := Q) (S := S) Ms hk n1 (List.replicate n1 false) a w.drew hmem hc h
  have e : mk2 (List.replicate n1 false) n2 false = Array.replicate ops.size false := by
    unfold mk2
    rw [hsz, List.replicate_append_replicate, List.toArray_replicate]
  rw [e, ← hsz] at this
  exact this
end
end Go.Proofs.YtkgkpggfoieioaaDoor
