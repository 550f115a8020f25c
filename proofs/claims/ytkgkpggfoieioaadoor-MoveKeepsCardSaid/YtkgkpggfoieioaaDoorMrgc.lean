import Derived.Test.YtkgkpggfoieioaaDoorMrgb
import Derived.WalkKit
import Derived.WalkLawsBesides
import Derived.WalkSpells
import Derived.Outline
import Derived.IntWalk
import Derived.Lib.Hide
import Derived.OpenShut
import Derived.Lib.BufferRead
import Derived.Deep.QuietTactic
import Derived.BigQuiet
import Derived.StillTailTactics
import Derived.Shelf.Strings.SlTrimAscii
import Derived.Ground.NamesProg
import Derived.Test.YtkgkpggfoieioaaDoorProg
import Derived.Test.YtkgkpggfoieioaaDoorMrga
import Derived.Maps.AppendAt
import Derived.OwnWalk
import Derived.Deep.DeepCutAuto
import Derived.Deep.DeepFit
import Derived.Deep.DeepMust
import Derived.Deep.CutBlock
namespace Go.Proofs.YtkgkpggfoieioaaDoor
set_option linter.unusedVariables false
open Go.RowKit
/-! Functions over slices of kinds. -/
abbrev RK (w : World) (B : Nat) (A : Option Addr) (L : List GK) : Prop := RD w B 11 A L.length (L.flatMap kC)
abbrev kV (k : GK) : Value := .agg #[.string k.name, .int .i64 k.life, .int .i64 k.hit, .int .i64 k.range, .int .i64 k.sight, .int .i64 k.speed, .int .i64 k.price, .int .i64 k.turns, .int .i64 k.carry, .bool k.flies, .bool k.trains]
theorem rk_at {w : World} {B : Nat} {A : Option Addr} {L : List GK} (h : RK w B A L) (k : Nat) (hk : k < L.length) :
    ∃ b o, A = some ⟨b, o, none⟩ ∧ b < B ∧ w.cell? ⟨b, o + k * 11, none⟩ = some (.string (gk L k).name) ∧ w.cell? ⟨b, o + k * 11 + 1, none⟩ = some (.int .i64 (gk L k).life) ∧ w.cell? ⟨b, o + k * 11 + 2, none⟩ = some (.int .i64 (gk L k).hit) ∧ w.cell? ⟨b, o + k * 11 + 3, none⟩ = some (.int .i64 (gk L k).range) ∧
      w.cell? ⟨b, o + k * 11 + 4, none⟩ = some (.int .i64 (gk L k).sight) ∧ w.cell? ⟨b, o + k * 11 + 5, none⟩ = some (.int .i64 (gk L k).speed) ∧ w.cell? ⟨b, o + k * 11 + 6, none⟩ = some (.int .i64 (gk L k).price) ∧ w.cell? ⟨b, o + k * 11 + 7, none⟩ = some (.int .i64 (gk L k).turns) ∧
      w.cell? ⟨b, o + k * 11 + 8, none⟩ = some (.int .i64 (gk L k).carry) ∧ w.cell? ⟨b, o + k * 11 + 9, none⟩ = some (.bool (gk L k).flies) ∧ w.cell? ⟨b, o + k * 11 + 10, none⟩ = some (.bool (gk L k).trains) := by
  obtain ⟨b, o, hA, hb⟩ := h.addr (by omega)
  have key : ∀ j, j < 11 → w.cell? ⟨b, o + (k * 11 + j), none⟩ = (kC (gk L k))[j]? := fun j hj => by
    rw [h.at_ hA (by omega), flat_get kC 11 kC_len L k j hj, gk_get hk]; rfl
  exact ⟨b, o, hA, hb, key 0 (by omega), key 1 (by omega), key 2 (by omega), key 3 (by omega), key 4 (by omega), key 5 (by omega), key 6 (by omega), key 7 (by omega), key 8 (by omega), key 9 (by omega), key 10 (by omega)⟩
theorem flat_takeK : ∀ (L : List GK) (p : Nat), (L.flatMap kC).take (p * 11) = (L.take p).flatMap kC
  | [], p => by simp
  | x :: L, 0 => by simp
  | x :: L, p + 1 => by
    rw [List.flatMap_cons, List.take_succ_cons, List.flatMap_cons, List.take_append, kC_len, List.take_of_length_le (by rw [kC_len]; omega), show (p + 1) * 11 - 11 = p * 11 by omega, flat_takeK L p]
set_option maxHeartbeats 1600000 in
set_option maxRecDepth 100000 in
theorem idxK_any (f : Nat) (cap : Value) (p : GK → Bool) (A : Option Addr) (c B : Nat) (L : List GK) (w : World) (h : RK w B A L) (hB : B ≤ w.heap.size) (hl : L.length ≤ 1000000000)
    (he : ∀ args w, (callFunc f args).run Tryd.prog w = .ok (.enter f args) w)
    (law : ∀ x, x ∈ L → ∀ wz, Below w.heap.size w wz → Calls Tryd.prog f #[kV x, cap] wz fun e w' => e = .returned (.bool (p x)) ∧ Below wz.heap.size wz w') :
    Calls Tryd.prog 54 #[.slice A L.length c, .func (.func f) #[] #[cap]] w fun e w' => e = .returned (.int .i64 (firstI p L)) ∧ Below w.heap.size w w' := by
  replace h := Lib.hid h
  replace law := Lib.hid law
  go_enter Tryd.func54, Tryd.ntmps54
  go_wp2_with fail
  go_loopw [5, 8] (fun _ i wr => ∃ k : Nat, k ≤ L.length ∧ i = .int .i64 k ∧ Hid (∀ y ∈ L.take k, p y = false) ∧ Hid (Below w.heap.size w wr)) (fun _ i _ => L.length - (intOf i).toNat)
  case atStart => exact ⟨0, Nat.zero_le _, rfl, Lib.hid (by simp), Lib.hid (Below.refl _ _)⟩
  case round =>
    obtain ⟨k, hk, rfl, hK, hbw⟩ := hrel
    by_cases hlt : k < L.length
    · have i1 : (k : Int) < (L.length : Int) := by omega
      obtain ⟨b, o, hA, hbl, c0, c1, c2, c3, c4, c5, c6, c7, c8, c9, c10⟩ := rk_at (h.out.below (hbw.out.mono hB)) k hlt
      have hs := hbw.out.size
      have hlw := law.out _ (gk_mem hlt) wr hbw.out
      have hget := gk_get hlt
      have hfa := first_at p L k _ hget
      have htn := take_no p L k _ hget hK.out
      subst hA
      generalize gk L k = x at *
      replace hlw := Lib.hid hlw
      replace hget := Lib.hid hget
      replace hfa := Lib.hid hfa
      replace htn := Lib.hid htn
      go_wp2_with fail
      refine hlw.out.mono ?_
      rintro e w' ⟨rfl, hb2⟩
      have hb3 := hbw.out.trans (hb2.mono hs)
      replace hb3 := Lib.hid hb3
      clear hb2 c0 c1 c2 c3 c4 c5 c6 c7 c8 c9 c10
      cases hpx : p x with
      | true =>
        have hf := hfa.out hpx hK.out
        replace hf := Lib.hid hf
        replace hpx := Lib.hid hpx
        go_wp2_with fail
        go_ret
        exact ⟨by rw [hf.out]; rfl, hb3.out⟩
      | false =>
        have hn := Lib.hid (htn.out hpx)
        replace hpx := Lib.hid hpx
        go_wp2_with fail
        go_roundw
        case rel => exact ⟨k + 1, by omega, by go_num, hn, hb3⟩
        case measure => simp [intOf]; omega
    · have i1 : ¬ (k : Int) < (L.length : Int) := by omega
      have hf := first_no p L (by have := hK.out; rwa [List.take_of_length_le (by omega)] at this)
      replace hf := Lib.hid hf
      go_wp2_with fail
      go_ret
      exact ⟨by rw [hf.out]; rfl, hbw.out⟩
end Go.Proofs.YtkgkpggfoieioaaDoor
namespace Go.Proofs.YtkgkpggfoieioaaDoor
set_option linter.unusedVariables false
open Go.RowKit
set_option maxRecDepth 100000 in
theorem ctnK_any (f : Nat) (cap : Value) (p : GK → Bool) (A : Option Addr) (c B : Nat) (L : List GK) (w : World) (h : RK w B A L) (hB : B ≤ w.heap.size) (hl : L.length ≤ 1000000000)
    (he : ∀ args w, (callFunc f args).run Tryd.prog w = .ok (.enter f args) w)
    (law : ∀ x, x ∈ L → ∀ wz, Below w.heap.size w wz → Calls Tryd.prog f #[kV x, cap] wz fun e w' => e = .returned (.bool (p x)) ∧ Below wz.heap.size wz w') :
    Calls Tryd.prog 105 #[.slice A L.length c, .func (.func f) #[] #[cap]] w fun e w' => e = .returned (.bool (L.any p)) ∧ Below w.heap.size w w' := by
  have hi := idxK_any f cap p A c B L w h hB hl he law
  have h1 := first_ge p L
  have h2 := first_any p L
  clear h law
  generalize firstI p L = r at *
  replace hi := Lib.hid hi
  replace h2 := Lib.hid h2
  go_enter Tryd.func105, Tryd.ntmps105
  go_wp2_with fail
  refine hi.out.mono ?_
  rintro e w' ⟨rfl, hbw⟩
  replace hbw := Lib.hid hbw
  go_wp2_with fail
  go_ret
  exact ⟨by rw [← h2.out]; rfl, hbw.out⟩
/-- The closure of the names. -/
theorem kname_any (x : GK) (nm : ByteArray) (kb : Nat) (w : World) (hc : w.cell? ⟨kb, 0, none⟩ = some (.string nm)) (hb : kb < w.heap.size) :
    Calls Tryd.prog 106 #[kV x, .pointer (some ⟨kb, 0, none⟩)] w fun e w' => e = .returned (.bool (x.name.toList == nm.toList)) ∧ Below w.heap.size w w' := by
  go_enter Tryd.func106, Tryd.ntmps106
  go_wp2_with fail
  go_ret
  exact ⟨rfl, (Below.refl _ _).alloc (Nat.le_refl _) _⟩
theorem knum_any (n : Int) (b o : Nat) (w : World) (hc : w.cell? ⟨b, o, none⟩ = some (.int .i64 n)) :
    Calls Tryd.prog 109 #[.pointer (some ⟨b, o, none⟩)] w fun e w' => e = .returned (.bool (badN n)) ∧ w = w' := by
  unfold badN
  by_cases h1 : n < 0
  · rw [decide_eq_true h1]
    go_enter Tryd.func109, Tryd.ntmps109
    go_wp2_with fail
    go_ret
    exact ⟨by simp, rfl⟩
  · have d1 : decide (n < 0) = false := decide_eq_false h1
    rw [d1]
    go_enter Tryd.func109, Tryd.ntmps109
    go_wp2_with fail
    go_ret
    exact ⟨by simp, rfl⟩
set_option maxRecDepth 100000 in
theorem numbers_any (kb : Nat) (w : World) :
    Calls Tryd.prog 108 #[.pointer (some ⟨kb, 0, none⟩)] w fun e w' => e = .returned (.slice (some ⟨w.heap.size, 0, none⟩) 8 8) ∧ Blk w' w.heap.size 146 #[.pointer (some ⟨kb, 1, none⟩), .pointer (some ⟨kb, 2, none⟩), .pointer (some ⟨kb, 3, none⟩), .pointer (some ⟨kb, 4, none⟩), .pointer (some ⟨kb, 5, none⟩), .pointer (some ⟨kb, 6, none⟩), .pointer (some ⟨kb, 7, none⟩), .pointer (some ⟨kb, 8, none⟩)] ∧ Below w.heap.size w w' := by
  go_enter Tryd.func108, Tryd.ntmps108
  go_wp2_with fail
  go_still_tail 24, (by kernel_rfl)
  go_wp2_with fail
  go_ret
  exact ⟨rfl, Blk.new _ _ _, bdrewN ((Below.refl _ _).alloc (Nat.le_refl _) _) 1⟩
/-- The pointers, and the numbers behind them. -/
theorem ptr_cells {w : World} {sb kb : Nat} {k : GK} (hs : Blk w sb 146 #[.pointer (some ⟨kb, 1, none⟩), .pointer (some ⟨kb, 2, none⟩), .pointer (some ⟨kb, 3, none⟩), .pointer (some ⟨kb, 4, none⟩), .pointer (some ⟨kb, 5, none⟩), .pointer (some ⟨kb, 6, none⟩), .pointer (some ⟨kb, 7, none⟩), .pointer (some ⟨kb, 8, none⟩)]) (hk : Blk w kb 31 (kC k).toArray) (j : Nat) (hj : j < 8) :
    w.cell? ⟨sb, j, none⟩ = some (.pointer (some ⟨kb, j + 1, none⟩)) ∧ ∃ n, (numK k)[j]? = some n ∧ w.cell? ⟨kb, j + 1, none⟩ = some (.int .i64 n) := by
  rcases (by omega : j = 0 ∨ j = 1 ∨ j = 2 ∨ j = 3 ∨ j = 4 ∨ j = 5 ∨ j = 6 ∨ j = 7) with rfl | rfl | rfl | rfl | rfl | rfl | rfl | rfl
  · exact ⟨hs.cell 0, _, rfl, hk.cell 1⟩
  · exact ⟨hs.cell 1, _, rfl, hk.cell 2⟩
  · exact ⟨hs.cell 2, _, rfl, hk.cell 3⟩
  · exact ⟨hs.cell 3, _, rfl, hk.cell 4⟩
  · exact ⟨hs.cell 4, _, rfl, hk.cell 5⟩
  · exact ⟨hs.cell 5, _, rfl, hk.cell 6⟩
  · exact ⟨hs.cell 6, _, rfl, hk.cell 7⟩
  · exact ⟨hs.cell 7, _, rfl, hk.cell 8⟩
set_option maxRecDepth 100000 in
theorem idxN_any (sb kb : Nat) (k : GK) (w : World) (hs : Blk w sb 146 #[.pointer (some ⟨kb, 1, none⟩), .pointer (some ⟨kb, 2, none⟩), .pointer (some ⟨kb, 3, none⟩), .pointer (some ⟨kb, 4, none⟩), .pointer (some ⟨kb, 5, none⟩), .pointer (some ⟨kb, 6, none⟩), .pointer (some ⟨kb, 7, none⟩), .pointer (some ⟨kb, 8, none⟩)]) (hk : Blk w kb 31 (kC k).toArray) :
    Calls Tryd.prog 141 #[.slice (some ⟨sb, 0, none⟩) 8 8, .func (.func 109) #[] #[]] w fun e w' => e = .returned (.int .i64 (firstI badN (numK k))) ∧ w = w' := by
  have hsl := hs.lt
  replace hs := Lib.hid hs
  replace hk := Lib.hid hk
  go_enter Tryd.func141, Tryd.ntmps141
  go_wp2_with fail
  go_loop [5, 8] (fun _ i => ∃ j : Nat, j ≤ 8 ∧ i = .int .i64 j ∧ Hid (∀ y ∈ (numK k).take j, badN y = false)) (fun _ i => 8 - (intOf i).toNat)
  case atStart => exact ⟨0, by omega, rfl, Lib.hid (by simp)⟩
  case round =>
    obtain ⟨j, hj, rfl, hK⟩ := hrel
    by_cases hlt : j < 8
    · have i1 : (j : Int) < 8 := by omega
      obtain ⟨c0, n, hn, c1⟩ := ptr_cells hs.out hk.out j hlt
      have hlw := knum_any n kb (j + 1) w c1
      have hfa := first_at badN (numK k) j n hn
      have htn := take_no badN (numK k) j n hn hK.out
      replace hlw := Lib.hid hlw
      replace hn := Lib.hid hn
      replace hfa := Lib.hid hfa
      replace htn := Lib.hid htn
      replace c1 := Lib.hid c1
      go_wp2_with fail
      refine hlw.out.mono ?_
      rintro e w' ⟨rfl, rfl⟩
      cases hpx : badN n with
      | true =>
        have hf := hfa.out hpx hK.out
        replace hf := Lib.hid hf
        replace hpx := Lib.hid hpx
        go_wp2_with fail
        go_ret
        exact ⟨by rw [hf.out]; rfl, rfl⟩
      | false =>
        have hq := Lib.hid (htn.out hpx)
        replace hpx := Lib.hid hpx
        go_wp2_with fail
        go_round
        case rel => exact ⟨j + 1, by omega, by go_num, hq⟩
        case measure => simp [intOf]; omega
    · have i1 : ¬ (j : Int) < 8 := by omega
      have hf := first_no badN (numK k) (by have := hK.out; rwa [List.take_of_length_le (by simp [numK]; omega)] at this)
      replace hf := Lib.hid hf
      go_wp2_with fail
      go_ret
      exact ⟨by rw [hf.out]; rfl, rfl⟩
set_option maxRecDepth 100000 in
theorem ctnN_any (sb kb : Nat) (k : GK) (w : World) (hs : Blk w sb 146 #[.pointer (some ⟨kb, 1, none⟩), .pointer (some ⟨kb, 2, none⟩), .pointer (some ⟨kb, 3, none⟩), .pointer (some ⟨kb, 4, none⟩), .pointer (some ⟨kb, 5, none⟩), .pointer (some ⟨kb, 6, none⟩), .pointer (some ⟨kb, 7, none⟩), .pointer (some ⟨kb, 8, none⟩)]) (hk : Blk w kb 31 (kC k).toArray) :
    Calls Tryd.prog 107 #[.slice (some ⟨sb, 0, none⟩) 8 8, .func (.func 109) #[] #[]] w fun e w' => e = .returned (.bool (numsB k)) ∧ w = w' := by
  have hi := idxN_any sb kb k w hs hk
  have h1 := first_ge badN (numK k)
  have h2 := first_any badN (numK k)
  have h3 : numsB k = (numK k).any badN := rfl
  rw [← h3] at h2
  clear hs hk h3
  generalize firstI badN (numK k) = r at *
  replace hi := Lib.hid hi
  replace h2 := Lib.hid h2
  go_enter Tryd.func107, Tryd.ntmps107
  go_wp2_with fail
  refine hi.out.mono ?_
  rintro e w' ⟨rfl, rfl⟩
  go_wp2_with fail
  go_ret
  exact ⟨by rw [← h2.out]; rfl, rfl⟩
end Go.Proofs.YtkgkpggfoieioaaDoor
/-
  DERIVED: THE SHELF's CONTRACTS AT THIS DUMP, IN PLAIN WORDS (tools/lay-plain.mjs out of 'YtkgkpggfoieioaaDoorTrim0.lean', which tools/lay-shelf.mjs wrote): THE SAME DECLARATIONS UNDER THE SAME NAMES: 'import', 'namespace', 'open', 'def', 'theorem' AND NOTHING ELSE: no command of the shelf's: FOR A HAND-IN. Each laying: the table of numbers ('.._ren') and one theorem, a field a fact of the dump's own or the kernel's comparison; each contract: ONE APPLICATION.
-/
namespace Go.Proofs
open Go.Shelf
def Tryd.lays160_ren : Go.Shelf.Ren := ⟨fun | 160 => 104 | 232 => 135 | 231 => 134 | 227 => 136 | 234 => 138 | 233 => 137 | 236 => 140 | 235 => 139 | 228 => 159 | 271 => 162 | 151 => 161 | 197 => 160 | 120 => 180 | 152 => 179 | 260 => 178 | 137 => 119 | 119 => 190 | 224 => 191 | 225 => 192 | 217 => 153 | 266 => 174 | n => n, fun | 9 => 9 | 4 => 4 | 3 => 3 | 5 => 5 | 117 => 178 | 116 => 177 | 0 => 0 | 124 => 181 | 21 => 21 | 105 => 207 | 46 => 167 | 119 => 249 | 139 => 252 | 138 => 251 | n => n, fun | 3 => 3 | 4 => 4 | n => n⟩
theorem Tryd.lays160 : Go.Proofs.Lays.n160 Tryd.prog Tryd.lays160_ren := {
  mixed := by kernel_rfl
  f119 := Tryd.func190.trans (congrArg some (by kernel_rfl))
  f120 := Tryd.func180.trans (congrArg some (by kernel_rfl))
  f137 := Tryd.func119.trans (congrArg some (by kernel_rfl))
  f151 := Tryd.func161.trans (congrArg some (by kernel_rfl))
  f152 := Tryd.func179.trans (congrArg some (by kernel_rfl))
  f160 := Tryd.func104.trans (congrArg some (by kernel_rfl))
  f197 := Tryd.func160.trans (congrArg some (by kernel_rfl))
  f217 := Tryd.func153.trans (congrArg some (by kernel_rfl))
  f224 := Tryd.func191.trans (congrArg some (by kernel_rfl))
  f225 := Tryd.func192.trans (congrArg some (by kernel_rfl))
  f227 := Tryd.func136.trans (congrArg some (by kernel_rfl))
  f228 := Tryd.func159.trans (congrArg some (by kernel_rfl))
  f231 := Tryd.func134.trans (congrArg some (by kernel_rfl))
  f232 := Tryd.func135.trans (congrArg some (by kernel_rfl))
  f233 := Tryd.func137.trans (congrArg some (by kernel_rfl))
  f234 := Tryd.func138.trans (congrArg some (by kernel_rfl))
  f235 := Tryd.func139.trans (congrArg some (by kernel_rfl))
  f236 := Tryd.func140.trans (congrArg some (by kernel_rfl))
  f260 := Tryd.func178.trans (congrArg some (by kernel_rfl))
  f266 := Tryd.func174.trans (congrArg some (by kernel_rfl))
  f271 := Tryd.func162.trans (congrArg some (by kernel_rfl))
  t0 := Tryd.underlying0
  a0 := Tryd.isAgg0
  z0 := Tryd.sizeOf0
  v0 := Tryd.zeroValue0
  t3 := Tryd.underlying3
  a3 := Tryd.isAgg3
  z3 := Tryd.sizeOf3
  v3 := Tryd.zeroValue3
  t4 := Tryd.underlying4
  a4 := Tryd.isAgg4
  z4 := Tryd.sizeOf4
  v4 := Tryd.zeroValue4
  t5 := Tryd.underlying5
  a5 := Tryd.isAgg5
  z5 := Tryd.sizeOf5
  v5 := Tryd.zeroValue5
  t9 := Tryd.underlying9
  a9 := Tryd.isAgg9
  z9 := Tryd.sizeOf9
  v9 := Tryd.zeroValue9
  t21 := Tryd.underlying21
  a21 := Tryd.isAgg21
  z21 := Tryd.sizeOf21
  v21 := Tryd.zeroValue21
  t46 := Tryd.underlying167
  a46 := Tryd.isAgg167
  z46 := Tryd.sizeOf167
  v46 := Tryd.zeroValue167
  t105 := Tryd.underlying207
  a105 := Tryd.isAgg207
  z105 := Tryd.sizeOf207
  v105 := Tryd.zeroValue207
  t116 := Tryd.underlying177
  a116 := Tryd.isAgg177
  z116 := Tryd.sizeOf177
  t117 := Tryd.underlying178
  a117 := Tryd.isAgg178
  z117 := Tryd.sizeOf178
  v117 := Tryd.zeroValue178
  t119 := Tryd.underlying249
  a119 := Tryd.isAgg249
  z119 := Tryd.sizeOf249
  t124 := Tryd.underlying181
  a124 := Tryd.isAgg181
  z124 := Tryd.sizeOf181
  v124 := Tryd.zeroValue181
  t138 := Tryd.underlying251
  a138 := Tryd.isAgg251
  z138 := Tryd.sizeOf251
  v138 := Tryd.zeroValue251
  t139 := Tryd.underlying252
  a139 := Tryd.isAgg252
  z139 := Tryd.sizeOf252
  v139 := Tryd.zeroValue252
  g3 := by kernel_rfl
  g4 := by kernel_rfl }
open Go.RowKit in
/-- strings.Trim at an ASCII cutset. -/
theorem Tryd.trim_any (s c : ByteArray) (w : World) (hs : s.size ≤ 9223372036854775807) (hc : c.size < 4294967281) (ha : ∀ (j : Nat) b, c.data.toList[j]? = some b → b.toNat < 128) :
    Calls Tryd.prog 104 #[.string s, .string c] w fun e w' => e = .returned (.string ⟨(Lib.trimS s.data.toList c.data.toList).toArray⟩) ∧ Below w.heap.size w w' := Any.strings_Trim_laid Tryd.lays160 (by kernel_rfl) s c w hs hc ha
end Go.Proofs
namespace Go.Proofs.YtkgkpggfoieioaaDoor
set_option linter.unusedVariables false
open Go.RowKit
/-- Where a row lies behind a step: where it lay, or in a new block. -/
def At (w : World) (r r' : Option Nat) : Prop := r' = r ∨ ∃ g, r' = some g ∧ w.heap.size ≤ g
theorem At.refl (w : World) (r : Option Nat) : At w r r := .inl rfl
theorem At.trans {a b : World} {r r' r'' : Option Nat} (h : At a r r') (k : At b r' r'') (hs : a.heap.size ≤ b.heap.size) : At a r r'' := by
  rcases k with rfl | ⟨g, rfl, hg⟩
  · exact h
  · exact .inr ⟨g, rfl, by omega⟩
theorem grown_at {a b c : World} {r r' : Option Nat} (h : a.grownBy b r) (k : b.grownBy c r') (hr : At a r r') : a.grownBy c r :=
  ⟨k.os.trans h.os, k.tape.trans h.tape, k.output.trans h.output, Nat.le_trans h.size k.size, fun x hx hne => (k.block x (Nat.lt_of_lt_of_le hx h.size) (by
    rcases hr with rfl | ⟨g, rfl, hg⟩
    · exact hne
    · intro e; injection e with e; omega)).trans (h.block x hx hne)⟩
theorem grown_below {a b : World} {B : Nat} {r : Option Nat} (h : a.grownBy b r) (hB : B ≤ a.heap.size) (hr : ∀ g, r = some g → B ≤ g) : Below B a b :=
  ⟨h.os, h.tape, h.output, h.size, fun k hk => h.block k (by omega) (fun e => by have := hr k e.symm; omega)⟩
theorem grown_drewN {a b : World} {r : Option Nat} (h : a.grownBy b r) (n : Nat) : a.grownBy (b.drewN n) r := ⟨h.os, h.tape, h.output, h.size, h.block⟩
/-- append of one element that was just boxed, and where the row lies then. -/
theorem wpList_app1a {P : Program} {ops : Array Oper} {rest : List Oper} {o : Oper} {a : Act} {Q : Exit → Act → World → Prop} (hgd : o.guard = none) (s x : Operand) (t : TypeId)
    (ho : o.op = .call { callee := .builtin .append, args := #[s, x], argTypes := #[t, t] })
    (base : Nat) (e : TypeId) (i : TypeInfo) (z : Value) (size bytes : Nat) (ht : P.underlying t = some (.slice e)) (hi : P.info? e = some i) (hz : i.zero = some z)
    (hsize : i.size = size) (hby : i.bytes = bytes) (hzs : z.cells.size = size) (hsz : 0 < size) (hb24 : bytes ≤ 1000)
    (w0 : World) (cs : Array Value) (v : Value) (n : Nat) (xs : List Value) (hs : a.eval s = v) (hown : w0.ownsRow base e size v n xs)
    (hx : a.eval x = .slice (some ⟨w0.heap.size, 0, none⟩) 1 1) (hcs : cs.size = size) (h1 : cs.toList.all (·.oneCell') = true) (hn : n < 10000000000) (hbase : base ≤ w0.heap.size)
    (h : ∀ v' w', w'.ownsRow base e size v' (n + 1) (xs ++ cs.toList) → w0.grownBy w' v.ownBlock → At w0 v.ownBlock v'.ownBlock → wpList P ops Q rest (a.put o.dst v') w') : wpList P ops Q (o :: rest) a (w0.alloc (.cells cs e)) := by
  have hmul : (n + 1) * bytes ≤ 10000000000 * 1000 := Nat.mul_le_mul (by omega) hb24
  refine wpList_append_own_at _ hgd s x t ho base e i z size bytes ht hi hz hsize hby hzs hsz v n xs hs (hown.alloc _) ⟨w0.heap.size, 0, none⟩ 1 1 cs.toList hx (by simp [hcs]) ?_ (List.all_eq_true.1 h1) (by unfold maxLen; omega) (by omega) (by simp; omega) ?_
  · intro j u hu
    have hc := (Blk.new w0 e cs).cell j
    rw [show ((⟨w0.heap.size, 0, none⟩ : Addr).add j) = ⟨w0.heap.size, j, none⟩ from by unfold Addr.add; split <;> simp_all]
    rw [hc, ← hu]; simp
  · intro v' w' h2 h3 _ h5
    refine h v' w' h2 (grownBy_trans (World.grownBy_alloc w0 _ _) h3) ?_
    rcases h5 with h5 | h5
    · exact .inl h5
    · exact .inr ⟨_, h5, by simp⟩
/-- append of what reads as a list, and where the row lies then. -/
theorem wpList_append_rda {P : Program} {ops : Array Oper} {rest : List Oper} {o : Oper} {a : Act} {Q : Exit → Act → World → Prop} (hgd : o.guard = none) (s x : Operand) (t : TypeId)
    (ho : o.op = .call { callee := .builtin .append, args := #[s, x], argTypes := #[t, t] })
    (base : Nat) (e : TypeId) (i : TypeInfo) (z : Value) (size bytes : Nat) (ht : P.underlying t = some (.slice e)) (hi : P.info? e = some i) (hz : i.zero = some z)
    (hsize : i.size = size) (hby : i.bytes = bytes) (hzs : z.cells.size = size) (hsz : 0 < size)
    (w : World) (v : Value) (n : Nat) (xs : List Value) (hs : a.eval s = v) (hown : w.ownsRow base e size v n xs)
    (B : Nat) (A : Option Addr) (m c : Nat) (news : List Value) (hx : a.eval x = .slice A m c) (hnil : A = none → c = 0) (hr : RD w B size A m news) (h1 : news.all (·.oneCell') = true)
    (h63 : n + m ≤ maxLen) (hbytes : (n + m) * bytes ≤ 140737488355328) (hbase : base ≤ w.heap.size)
    (h : ∀ v' w', w'.ownsRow base e size v' (n + m) (xs ++ news) → w.grownBy w' v.ownBlock → At w v.ownBlock v'.ownBlock → wpList P ops Q rest (a.put o.dst v') w') : wpList P ops Q (o :: rest) a w := by
  rcases A with _ | ad
  · have hm : m = 0 := by
      rcases Nat.eq_zero_or_pos m with h0 | h0
      · exact h0
      · obtain ⟨b, off, e, _⟩ := hr.2 h0
        cases e
    subst hm
    have hc := hnil rfl
    subst hc
    have hn : news = [] := List.eq_nil_of_length_eq_zero (by simpa using hr.1)
    subst hn
    refine wpList_append_own_none hgd s x t ho base e i size ht hi v n xs hs hown hx (h v w ?_ (World.grownBy.refl w _) (.inl rfl))
    simpa using hown
  · refine wpList_append_own_at _ hgd s x t ho base e i z size bytes ht hi hz hsize hby hzs hsz v n xs hs hown ad m c news hx hr.1 ?_ (List.all_eq_true.1 h1) h63 hbytes hbase (fun v' w' h2 h3 _ h5 => h v' w' h2 h3 ?_)
    · intro j u hu
      have hj : j < m * size := by
        rw [← hr.1]
        rcases Nat.lt_or_ge j news.length with h | h
        · exact h
        · rw [List.getElem?_eq_none h] at hu; cases hu
      have hm : 0 < m := by
        rcases Nat.eq_zero_or_pos m with h0 | h0
        · subst h0; omega
        · exact h0
      obtain ⟨b, off, e, _, hc⟩ := hr.2 hm
      injection e with e
      subst e
      rw [addr_add, hc j hj, hu]
    · rcases h5 with h5 | h5
      · exact .inl h5
      · exact .inr ⟨_, h5, Nat.le_refl _⟩
end Go.Proofs.YtkgkpggfoieioaaDoor
namespace Go.Proofs.YtkgkpggfoieioaaDoor
set_option linter.unusedVariables false
open Go.RowKit
def erE (n : Int) : Value := .iface 93 (.int .i64 n)
def errV (n : Int) : Value := if n = 0 then .nilIface else erE n
def fA (s : SF) (f : GF) : Value := .agg #[.int .i64 f.wide, .int .i64 f.high, .slice s.ground.A f.ground.length s.ground.c, .slice s.ore.A f.ore.length s.ore.c]
theorem SLI.below {w w' : World} {s : SL} {xs : List Int} (h : SLI w s xs) (hb : Below w.heap.size w w') : SLI w' s xs := ⟨(h.1.below hb).more hb.size, h.2⟩
theorem SLI.drewN {w : World} {s : SL} {xs : List Int} (h : SLI w s xs) (n : Nat) : SLI (w.drewN n) s xs := h
theorem FOk.below {w w' : World} {s : SF} {f : GF} (h : FOk w s f) (hb : Below w.heap.size w w') : FOk w' s f := ⟨h.1, h.2.1, h.2.2.1.below hb, h.2.2.2.below hb⟩
theorem FOk.drewN {w : World} {s : SF} {f : GF} (h : FOk w s f) (n : Nat) : FOk (w.drewN n) s f := h
theorem SLI.at_ {w : World} {s : SL} {xs : List Int} (h : SLI w s xs) {k : Nat} (hk : k < xs.length) : ∃ b o, s.A = some ⟨b, o, none⟩ ∧ w.cell? ⟨b, o + k, none⟩ = some (.int .i64 (xs.getD k 0)) ∧ b < w.heap.size := by
  obtain ⟨b, o, hA, hb⟩ := h.1.addr (by omega)
  refine ⟨b, o, hA, ?_, hb⟩
  rw [h.1.at_ hA (by omega), List.getElem?_map, List.getD_eq_getElem?_getD, List.getElem?_eq_getElem hk]; rfl
theorem side_any (n : Int) (w : World) :
    Calls Tryd.prog 125 #[.int .i64 n] w fun e w' => e = .returned (.bool (sideB n)) ∧ w = w' := by
  have hs : sideB n = (decide (1 ≤ n) && decide (n ≤ 12)) := by unfold sideB; rw [Bool.eq_iff_iff]; simp
  rw [hs]
  clear hs
  go_enter Tryd.func125, Tryd.ntmps125
  by_cases h1 : 1 ≤ n
  · go_wp2
    go_ret
    exact ⟨by simp; omega, rfl⟩
  · go_wp2
    go_ret
    exact ⟨by simp; omega, rfl⟩
theorem numb_any (n : Int) (w : World) :
    Calls Tryd.prog 80 #[.int .i64 n] w fun e w' => e = .returned (.bool (numB n)) ∧ w = w' := by
  have hs : numB n = (decide (0 ≤ n) && decide (n ≤ 1000000)) := by unfold numB; rw [Bool.eq_iff_iff]; simp
  rw [hs]
  clear hs
  go_enter Tryd.func80, Tryd.ntmps80
  by_cases h1 : 0 ≤ n
  · go_wp2
    go_ret
    exact ⟨by simp; omega, rfl⟩
  · go_wp2
    go_ret
    exact ⟨by simp; omega, rfl⟩
set_option maxHeartbeats 1600000 in
set_option maxRecDepth 100000 in
theorem fcheck_loop (s : SF) (f : GF) (w : World) (h : FOk w s f) (hw : sideB f.wide = true) (hh : sideB f.high = true) (hg : (f.ground.length : Int) = f.wide * f.high) (ho : (f.ore.length : Int) = f.wide * f.high) :
    Calls Tryd.prog 79 #[fA s f] w fun e w' => e = .returned (errV (fieldE f)) ∧ Below w.heap.size w w' := by
  have hE : fieldE f = cellsE f.ground f.ore := by unfold fieldE; rw [if_neg (by rw [hw, hh]; simp), if_neg (by omega)]
  rw [hE]
  have hq : ((f.ground.length : Int) != f.wide * f.high) = false := by simp [hg]
  have hq2 : ((f.ore.length : Int) != f.wide * f.high) = false := by simp [ho]
  have hll : f.ore.length = f.ground.length := by omega
  have hwb := sideB_t hw
  have hhb := sideB_t hh
  have hm1 : f.wide * f.high ≤ 144 := mul_le_of (c := 12) (d := 12) (by omega) hwb.2 (by omega) hhb.2
  have hm0 : 0 ≤ f.wide * f.high := Int.mul_nonneg (by omega) (by omega)
  have hlen : f.ground.length ≤ 144 := by omega
  have H := Lib.hid h
  replace hg := Lib.hid hg
  replace ho := Lib.hid ho
  clear h hE
  unfold fA
  obtain ⟨wd, hi, gr, ore⟩ := f
  obtain ⟨⟨Ag, cg⟩, ⟨Ao, co⟩⟩ := s
  dsimp only at *
  have hsum : ∀ k : Nat, k ≤ gr.length → True := fun _ _ => trivial
  clear hsum
  have e1 : IntKind.i64.wrap (wd * hi) = wd * hi := IntWalk.i64_in _ (by omega)
  have e2 := e1
  rw [IntWalk.i64_left] at e2
  have hE0 : ∀ E, E = cellsE gr ore → Hid (cellsE (gr.drop 0) (ore.drop 0) = E) := fun E h => Lib.hid (by simp [h])
  generalize hEE : cellsE gr ore = E at *
  have hE1 := hE0 _ rfl
  clear hE0
  replace hEE := Lib.hid hEE
  go_enter Tryd.func79, Tryd.ntmps79
  go_wp2_with (first | (go_at_call 125; refine (side_any _ _).mono ?_; rintro e w' ⟨rfl, rfl⟩))
  have hb1 : Below w.heap.size w (w.alloc (.cells #[.int .i64 wd, .int .i64 hi, .slice Ag gr.length cg, .slice Ao gr.length co] 52)) := (Below.refl _ _).alloc (Nat.le_refl _) _
  have hk1 := Blk.new w 52 #[.int .i64 wd, .int .i64 hi, .slice Ag gr.length cg, .slice Ao gr.length co]
  generalize (w.alloc (.cells #[.int .i64 wd, .int .i64 hi, .slice Ag gr.length cg, .slice Ao gr.length co] 52)) = W at *
  have c2 : W.cell? ⟨w.heap.size, 2, none⟩ = some (.slice Ag gr.length cg) := hk1.cell 2
  have c3 : W.cell? ⟨w.heap.size, 3, none⟩ = some (.slice Ao gr.length co) := hk1.cell 3
  have HF := Lib.hid (H.out.below hb1)
  have hb2 := Lib.hid hb1
  clear hk1 hb1 H
  go_loop [42] (fun i => ∃ k : Nat, k ≤ gr.length ∧ i = .int .i64 k ∧ Hid (cellsE (gr.drop k) (ore.drop k) = E)) (fun i => gr.length - (intOf i).toNat)
  case atStart => exact ⟨0, Nat.zero_le _, rfl, hE1⟩
  case round =>
    obtain ⟨k, hk, rfl, hKE⟩ := hrel
    by_cases hlt : k < gr.length
    · obtain ⟨bg, og, hAg, cg1, hbg⟩ := HF.out.2.2.1.at_ (k := k) hlt
      obtain ⟨bo, oo, hAo, co1, hbo⟩ := HF.out.2.2.2.at_ (k := k) (show k < ore.length by omega)
      dsimp only at hAg hAo cg1 co1
      subst hAg; subst hAo
      have hst := cellsE_drop gr ore k (gr.getD k 0) (ore.getD k 0) (by rw [List.getD_eq_getElem?_getD, List.getElem?_eq_getElem hlt]; rfl) (by rw [List.getD_eq_getElem?_getD, List.getElem?_eq_getElem (by omega)]; rfl)
      rw [hKE.out] at hst
      generalize gr.getD k 0 = x at *
      generalize ore.getD k 0 = y at *
      have i1 : (k : Int) < (gr.length : Int) := by omega
      by_cases hx : x < 0 ∨ 3 < x ∨ numB y = false
      · rw [if_pos hx] at hst
        replace hst := Lib.hid hst
        rcases (by omega : x < 0 ∨ (0 ≤ x ∧ 3 < x) ∨ (0 ≤ x ∧ x ≤ 3)) with h1 | ⟨h1, h2⟩ | ⟨h1, h2⟩
        · clear hx
          go_wp2_with fail
          go_ret
          exact ⟨by rw [hst.out]; rfl, hb2.out⟩
        · clear hx
          go_wp2_with fail
          go_ret
          exact ⟨by rw [hst.out]; rfl, hb2.out⟩
        · have hy : numB y = false := by rcases hx with h | h | h; · omega
                                         · omega
                                         · exact h
          clear hx
          go_wp2_with (go_at_call 80; refine (numb_any _ _).mono ?_; rintro e w' ⟨rfl, rfl⟩)
          go_ret
          exact ⟨by rw [hst.out]; rfl, hb2.out⟩
      · rw [if_neg hx] at hst
        have hy : numB y = true := by cases hb : numB y with
          | true => rfl
          | false => exact absurd (.inr (.inr hb)) hx
        have hyb := numB_t hy
        have hx1 : 0 ≤ x ∧ x ≤ 3 := by omega
        clear hx
        obtain ⟨hx1, hx2⟩ := hx1
        by_cases h7 : 0 < y ∧ x ≠ 0
        · rw [if_pos h7] at hst
          replace hst := Lib.hid hst
          obtain ⟨h7, h8⟩ := h7
          have h9 : (x != 0) = true := by simp; omega
          go_wp2_with (go_at_call 80; refine (numb_any _ _).mono ?_; rintro e w' ⟨rfl, rfl⟩)
          go_ret
          exact ⟨by rw [hst.out]; rfl, hb2.out⟩
        · rw [if_neg h7] at hst
          replace hst := Lib.hid hst.symm
          rcases (by omega : y ≤ 0 ∨ (0 < y ∧ x = 0)) with h8 | ⟨h8, h9⟩
          · clear h7
            go_wp2_with (go_at_call 80; refine (numb_any _ _).mono ?_; rintro e w' ⟨rfl, rfl⟩)
            go_round
            case rel => exact ⟨k + 1, by omega, by go_num, hst⟩
            case measure => simp [intOf]; omega
          · clear h7
            have h10 : (x != 0) = false := by simp; omega
            replace h9 := Lib.hid h9
            go_wp2_with (go_at_call 80; refine (numb_any _ _).mono ?_; rintro e w' ⟨rfl, rfl⟩)
            go_round
            case rel => exact ⟨k + 1, by omega, by go_num, hst⟩
            case measure => simp [intOf]; omega
    · have hend := cellsE_end gr ore k (by omega)
      have hE2 := hKE.out
      rw [hend] at hE2
      replace hE2 := Lib.hid hE2
      clear hend
      go_wp2_with fail
      go_ret
      exact ⟨by rw [← hE2.out]; rfl, hb2.out⟩
set_option maxHeartbeats 1600000 in
set_option maxRecDepth 100000 in
theorem fcheck_any (s : SF) (f : GF) (w : World) (h : FOk w s f) :
    Calls Tryd.prog 79 #[fA s f] w fun e w' => e = .returned (errV (fieldE f)) ∧ Below w.heap.size w w' := by
  by_cases h1 : sideB f.wide = false ∨ sideB f.high = false
  · have hE : fieldE f = 1 := by unfold fieldE; rw [if_pos h1]
    rw [hE]
    unfold fA
    obtain ⟨wd, hi, gr, ore⟩ := f
    dsimp only at *
    clear hE h
    rcases (by cases hb : sideB wd with
      | true => exact .inr ⟨rfl, by rcases h1 with h | h; · rw [hb] at h; cases h
                                    · exact h⟩
      | false => exact .inl rfl : sideB wd = false ∨ (sideB wd = true ∧ sideB hi = false)) with h2 | ⟨h2, h3⟩
    all_goals
      clear h1
      go_enter Tryd.func79, Tryd.ntmps79
      go_wp2_with (go_at_call 125; refine (side_any _ _).mono ?_; rintro e w' ⟨rfl, rfl⟩)
      go_ret
      exact ⟨rfl, (Below.refl _ _).alloc (Nat.le_refl _) _⟩
  · have hw : sideB f.wide = true := by cases hb : sideB f.wide with
      | true => rfl
      | false => exact absurd (.inl hb) h1
    have hh : sideB f.high = true := by cases hb : sideB f.high with
      | true => rfl
      | false => exact absurd (.inr hb) h1
    by_cases h2 : (f.ground.length : Int) ≠ f.wide * f.high ∨ (f.ore.length : Int) ≠ f.wide * f.high
    · have hE : fieldE f = 3 := by unfold fieldE; rw [if_neg h1, if_pos h2]
      rw [hE]
      unfold fA
      have hwb := sideB_t hw
      have hhb := sideB_t hh
      have hm1 : f.wide * f.high ≤ 144 := mul_le_of (c := 12) (d := 12) (by omega) hwb.2 (by omega) hhb.2
      have hm0 : 0 ≤ f.wide * f.high := Int.mul_nonneg (by omega) (by omega)
      have hl1 : (f.ground.length : Int) ≤ 9223372036854775807 := by have a := h.2.2.1.2.2.1; have b := h.2.2.1.2.2.2.1; unfold maxLen at b; omega
      have hl2 : (f.ore.length : Int) ≤ 9223372036854775807 := by have a := h.2.2.2.2.2.1; have b := h.2.2.2.2.2.2.1; unfold maxLen at b; omega
      obtain ⟨wd, hi, gr, ore⟩ := f
      dsimp only at *
      clear hE h h1
      generalize gr.length = n at *
      generalize ore.length = m at *
      rcases (by
        by_cases e : (n : Int) = wd * hi
        · exact .inr ⟨by simp [e], by
            have : (m : Int) ≠ wd * hi := by rcases h2 with h | h; · exact absurd e h
                                             · exact h
            simpa using this⟩
        · exact .inl (by simpa using e) : ((n : Int) != wd * hi) = true ∨ (((n : Int) != wd * hi) = false ∧ ((m : Int) != wd * hi) = true)) with h3 | ⟨h3, h4⟩
      all_goals
        clear h2
        go_enter Tryd.func79, Tryd.ntmps79
        go_wp2_with (go_at_call 125; refine (side_any _ _).mono ?_; rintro e w' ⟨rfl, rfl⟩)
        go_ret
        exact ⟨rfl, (Below.refl _ _).alloc (Nat.le_refl _) _⟩
    · exact fcheck_loop s f w h hw hh (by omega) (by omega)
end Go.Proofs.YtkgkpggfoieioaaDoor
namespace Go.Proofs.YtkgkpggfoieioaaDoor
set_option linter.unusedVariables false
open Go.RowKit
/-- strings.Trim at the letters. -/
theorem trimK_any (s : ByteArray) (w : World) (hs : s.size ≤ 9223372036854775807) :
    Calls Tryd.prog 104 #[.string s, .string ⟨#[97, 98, 99, 100, 101, 102, 103, 104, 105, 106, 107, 108, 109, 110, 111, 112, 113, 114, 115, 116, 117, 118, 119, 120, 121, 122]⟩] w fun e w' => ∃ r : ByteArray, e = .returned (.string r) ∧ r.toList.isEmpty = lowB s ∧ Below w.heap.size w w' := by
  refine (Tryd.trim_any s ⟨#[97, 98, 99, 100, 101, 102, 103, 104, 105, 106, 107, 108, 109, 110, 111, 112, 113, 114, 115, 116, 117, 118, 119, 120, 121, 122]⟩ w hs (by decide) ?_).mono ?_
  · intro j b hj
    have hm : b ∈ letters := List.mem_of_getElem? hj
    have : ∀ b ∈ letters, b.toNat < 128 := by decide
    exact this b hm
  · rintro e w' ⟨rfl, hb⟩
    refine ⟨_, rfl, ?_, hb⟩
    rw [Lib.toList_data]
    show (Lib.trimS s.data.toList letters).isEmpty = lowB s
    rw [Bool.eq_iff_iff, List.isEmpty_iff, trim_low]; rfl
set_option maxHeartbeats 3200000 in
set_option maxRecDepth 100000 in
theorem kind_any (A : Option Addr) (c B i : Nat) (L : List GK) (w : World) (h : RK w B A L) (hB : B ≤ w.heap.size) (hl : L.length ≤ 1000000000) (hi : i < L.length) (hs : (gk L i).name.size ≤ 9223372036854775807) (hc : L.length ≤ c) (hcm : c ≤ 9223372036854775807) :
    Calls Tryd.prog 56 #[.slice A L.length c, .int .i64 (i : Int)] w fun e w' => e = .returned (errV (kindE L i)) ∧ Below w.heap.size w w' := by
  obtain ⟨b, o, hA, hbl, c0, c1, c2, c3, c4, c5, c6, c7, c8, c9, c10⟩ := rk_at h i hi
  have i1 : (i : Int) < (L.length : Int) := by omega
  subst hA
  have hpre := h.pre (m := i) (by omega)
  rw [show (L.flatMap kC).take (i * 11) = (L.take i).flatMap kC from flat_takeK L i] at hpre
  replace h := Lib.hid h
  replace hpre := Lib.hid hpre
  obtain ⟨x, hx⟩ : ∃ x, gk L i = x := ⟨_, rfl⟩
  rw [hx] at c0 c1 c2 c3 c4 c5 c6 c7 c8 c9 c10 hs
  replace hx := Lib.hid hx
  go_enter Tryd.func56, Tryd.ntmps56
  go_upto_region 2 with fail
  have hb1 : Below w.heap.size w (w.alloc (.cells (kC x).toArray 31)) := (Below.refl _ _).alloc (Nat.le_refl _) _
  have hk1 := Blk.new w 31 (kC x).toArray
  obtain ⟨kb, hkb⟩ : ∃ kb, w.heap.size = kb := ⟨_, rfl⟩
  have hWe : (w.alloc (.cells (kC x).toArray 31)) = w.alloc (.cells #[.string x.name, .int .i64 x.life, .int .i64 x.hit, .int .i64 x.range, .int .i64 x.sight, .int .i64 x.speed, .int .i64 x.price, .int .i64 x.turns, .int .i64 x.carry, .bool x.flies, .bool x.trains] 31) := rfl
  rw [← hWe, hkb]
  rw [hkb] at hk1
  generalize (w.alloc (.cells (kC x).toArray 31)) = wA at *
  replace hkb := Lib.hid hkb
  clear hWe c0 c1 c2 c3 c4 c5 c6 c7 c8 c9 c10
  have d0 : wA.cell? ⟨kb, 0, none⟩ = some (.string x.name) := hk1.cell 0
  have hkl := hk1.lt
  replace hk1 := Lib.hid hk1
  replace hb1 := Lib.hid hb1
  have hQ : ∀ w' E, kindE L i = E → Below w.heap.size w w' → Ending.returned (errV E) = Ending.returned (errV (kindE L i)) ∧ Below w.heap.size w w' := fun w' E h1 h2 => by rw [h1]; exact ⟨rfl, h2⟩
  have hE : kindE L i = if x.name.size = 0 ∨ 8 < x.name.size ∨ lowB x.name = false then 2 else if clashB L i = true then 8 else if x.life < 1 ∨ numsB x = true then 1 else if 4 < x.speed ∨ 12 < x.range ∨ 12 < x.sight then 1 else 0 := by
    unfold kindE; rw [hx.out]
  replace hQ := Lib.hid hQ
  have hsz : x.name.toList.length = x.name.size := by rw [Lib.toList_data, Lib.size_eq]
  by_cases hz : x.name.size = 0
  · have ht : x.name.toList = [] := List.eq_nil_of_length_eq_zero (by rw [hsz]; exact hz)
    rw [if_pos (.inl hz)] at hE
    replace hE := Lib.hid hE
    replace hz := Lib.hid hz
    replace hsz := Lib.hid hsz
    go_wp2_with fail
    go_ret
    exact hQ.out _ 2 hE.out hb1.out
  have ht : ¬ x.name.toList = [] := fun e => by rw [e] at hsz; exact hz hsz.symm
  have ht2 : (!x.name.toList.isEmpty) = true := by
    cases h : x.name.toList with
    | nil => exact absurd h ht
    | cons a r => rfl
  have ht3 : x.name.toList.isEmpty = false := by
    cases h : x.name.toList with
    | nil => exact absurd h ht
    | cons a r => rfl
  by_cases h8 : 8 < x.name.size
  · rw [if_pos (.inr (.inl h8))] at hE
    have h9 : (8 : Int) < (x.name.size : Int) := by omega
    replace hE := Lib.hid hE
    replace hz := Lib.hid hz
    replace hsz := Lib.hid hsz
    go_wp2_with fail
    go_ret
    exact hQ.out _ 2 hE.out hb1.out
  have h9 : ¬ (8 : Int) < (x.name.size : Int) := by omega
  have htr := trimK_any x.name wA hs
  replace hsz := Lib.hid hsz
  replace htr := Lib.hid htr
  cases hlow : lowB x.name with
  | false =>
    rw [if_pos (.inr (.inr hlow))] at hE
    replace hE := Lib.hid hE
    replace hz := Lib.hid hz
    go_wp2_with fail
    refine htr.out.mono ?_
    rintro e w2 ⟨r, rfl, hr, hb2⟩
    rw [hlow] at hr
    have hr1 : ¬ r.toList = [] := fun e => by rw [e] at hr; cases hr
    have hr2 : (!r.toList.isEmpty) = true := by rw [hr]; rfl
    have hb3 := hb1.out.trans (hb2.mono hb1.out.size)
    replace hlow := Lib.hid hlow
    replace hb3 := Lib.hid hb3
    clear hb2
    go_wp2_with fail
    go_ret
    exact hQ.out _ 2 hE.out hb3.out
  | true =>
    rw [if_neg (by rintro (h | h | h); exact hz h; exact h8 h; rw [hlow] at h; cases h)] at hE
    replace hz := Lib.hid hz
    replace hE := Lib.hid hE
    go_wp2_with fail
    refine htr.out.mono ?_
    rintro e w2 ⟨r, rfl, hr, hb2⟩
    rw [hlow] at hr
    have hr1 : r.toList = [] := List.isEmpty_iff.1 hr
    have hr2 : (!r.toList.isEmpty) = false := by rw [hr]; rfl
    have hb3 := hb1.out.trans (hb2.mono hb1.out.size)
    have hk2 := hk1.out.below hb2 hk1.out.lt
    have d0 : w2.cell? ⟨kb, 0, none⟩ = some (.string x.name) := hk2.cell 0
    have d1 : w2.cell? ⟨kb, 1, none⟩ = some (.int .i64 x.life) := hk2.cell 1
    have hkl2 := hk2.lt
    have hn1 := x.name
    have hct := ctnK_any 106 (.pointer (some ⟨kb, 0, none⟩)) (fun y => y.name.toList == x.name.toList) (some ⟨b, o, none⟩) c B (L.take i) w2 (by
      show RD w2 B 11 (some ⟨b, o, none⟩) (L.take i).length ((L.take i).flatMap kC)
      rw [List.length_take, Nat.min_eq_left (by omega)]
      exact hpre.out.below (hb3.mono hB)) (Nat.le_trans hB hb3.size) (by rw [List.length_take]; omega) (fun args w => by kernel_rfl) (fun y hy wz hz => kname_any y x.name kb wz ((hk2.below hz hk2.lt).cell 0) (by have := hz.size; omega))
    rw [show (L.take i).any (fun y => y.name.toList == x.name.toList) = clashB L i by unfold clashB; rw [hx.out], List.length_take, Nat.min_eq_left (by omega)] at hct
    replace hct := Lib.hid hct
    replace hk2 := Lib.hid hk2
    replace hlow := Lib.hid hlow
    replace hb3 := Lib.hid hb3
    replace hk1 := Lib.hid hk1
    clear hb2 hn1
    have hic : (i : Int) ≤ (c : Int) := by omega
    go_wp2_with fail
    refine hct.out.mono ?_
    clear hct
    rintro e w3 ⟨rfl, hb4⟩
    have hb5 := hb3.out.trans (hb4.mono hb3.out.size)
    have hk3 := hk2.out.below hb4 hk2.out.lt
    clear d0 d1 hkl2
    have d1 : w3.cell? ⟨kb, 1, none⟩ = some (.int .i64 x.life) := hk3.cell 1
    have d3 : w3.cell? ⟨kb, 3, none⟩ = some (.int .i64 x.range) := hk3.cell 3
    have d4 : w3.cell? ⟨kb, 4, none⟩ = some (.int .i64 x.sight) := hk3.cell 4
    have d5 : w3.cell? ⟨kb, 5, none⟩ = some (.int .i64 x.speed) := hk3.cell 5
    have hkl3 := hk3.lt
    replace hb5 := Lib.hid hb5
    replace hk3 := Lib.hid hk3
    clear hb4 hb3 hk2
    have hE2 := hE.out
    cases hcl : clashB L i with
    | true =>
      rw [if_pos hcl] at hE2
      replace hE2 := Lib.hid hE2
      replace hcl := Lib.hid hcl
      go_wp2_with fail
      go_ret
      exact hQ.out _ 8 hE2.out hb5.out
    | false =>
      rw [if_neg (by rw [hcl]; simp)] at hE2
      replace hcl := Lib.hid hcl
      by_cases hlf : x.life < 1
      · rw [if_pos (.inl hlf)] at hE2
        have e1 : decide (x.life < 1) = true := decide_eq_true hlf
        replace hE2 := Lib.hid hE2
        go_wp2_with fail
        go_ret
        exact hQ.out _ 1 hE2.out hb5.out
      · have e1 : decide (x.life < 1) = false := decide_eq_false hlf
        have hnb := numbers_any kb w3
        replace hnb := Lib.hid hnb
        go_wp2_with fail
        refine hnb.out.mono ?_
        clear hnb
        rintro e w4 ⟨rfl, hsb, hb6⟩
        have hb7 := hb5.out.trans (hb6.mono hb5.out.size)
        have hk4 := hk3.out.below hb6 hk3.out.lt
        have hcn := ctnN_any w3.heap.size kb x w4 hsb hk4
        clear d1 d3 d4 d5 hkl3
        have d3 : w4.cell? ⟨kb, 3, none⟩ = some (.int .i64 x.range) := hk4.cell 3
        have d4 : w4.cell? ⟨kb, 4, none⟩ = some (.int .i64 x.sight) := hk4.cell 4
        have d5 : w4.cell? ⟨kb, 5, none⟩ = some (.int .i64 x.speed) := hk4.cell 5
        have hkl4 := hk4.lt
        replace hcn := Lib.hid hcn
        replace hb7 := Lib.hid hb7
        replace hk4 := Lib.hid hk4
        clear hsb hb6 hb5 hk3
        go_wp2_with fail
        refine hcn.out.mono ?_
        clear hcn
        rintro e w5 ⟨rfl, rfl⟩
        cases hnm : numsB x with
        | true =>
          rw [if_pos (.inr hnm)] at hE2
          replace hE2 := Lib.hid hE2
          replace hnm := Lib.hid hnm
          go_wp2_with fail
          go_ret
          exact hQ.out _ 1 hE2.out hb7.out
        | false =>
          rw [if_neg (by rintro (h | h); omega; rw [hnm] at h; cases h)] at hE2
          replace hnm := Lib.hid hnm
          by_cases h5 : 4 < x.speed
          · rw [if_pos (.inl h5)] at hE2
            have e5 : decide (4 < x.speed) = true := decide_eq_true h5
            replace hE2 := Lib.hid hE2
            go_wp2_with fail
            go_ret
            exact hQ.out _ 1 hE2.out hb7.out
          have e5 : decide (4 < x.speed) = false := decide_eq_false h5
          by_cases h6 : 12 < x.range
          · rw [if_pos (.inr (.inl h6))] at hE2
            have e6 : decide (12 < x.range) = true := decide_eq_true h6
            replace hE2 := Lib.hid hE2
            go_wp2_with fail
            go_ret
            exact hQ.out _ 1 hE2.out hb7.out
          have e6 : decide (12 < x.range) = false := decide_eq_false h6
          by_cases h7 : 12 < x.sight
          · rw [if_pos (.inr (.inr h7))] at hE2
            have e7 : decide (12 < x.sight) = true := decide_eq_true h7
            replace hE2 := Lib.hid hE2
            go_wp2_with fail
            go_ret
            exact hQ.out _ 1 hE2.out hb7.out
          have e7 : decide (12 < x.sight) = false := decide_eq_false h7
          rw [if_neg (by omega)] at hE2
          replace hE2 := Lib.hid hE2
          go_wp2_with fail
          go_ret
          exact hQ.out _ 0 hE2.out hb7.out
end Go.Proofs.YtkgkpggfoieioaaDoor
namespace Go.Proofs.YtkgkpggfoieioaaDoor
set_option linter.unusedVariables false
open Go.RowKit
/-- A slice of kinds, as it may be anywhere. -/
structure KS (w : World) (B : Nat) (s : SL) (L : List GK) : Prop where
  rd : RK w B s.A L
  nil : s.A = none → s.c = 0
  cap : L.length ≤ s.c
  max : s.c ≤ 9223372036854775807
  str : ∀ x ∈ L, x.name.size ≤ 9223372036854775807
theorem KS.below {w w' : World} {B : Nat} {s : SL} {L : List GK} (h : KS w B s L) (hb : Below B w w') : KS w' B s L := ⟨h.rd.below hb, h.nil, h.cap, h.max, h.str⟩
theorem KS.more {w : World} {B B' : Nat} {s : SL} {L : List GK} (h : KS w B s L) (hb : B ≤ B') : KS w B' s L := ⟨h.rd.more hb, h.nil, h.cap, h.max, h.str⟩
theorem KS.drewN {w : World} {B : Nat} {s : SL} {L : List GK} (h : KS w B s L) (q : Nat) : KS (w.drewN q) B s L := ⟨h.rd.drewN q, h.nil, h.cap, h.max, h.str⟩
theorem SLK.ks {w : World} {s : SL} {L : List GK} (h : SLK w s L) : KS w w.heap.size s L := by
  obtain ⟨h1, h2, h3, h4, h5⟩ := h
  unfold maxLen at h4
  exact ⟨h1, h2, h3, by omega, fun x hx => (h5 x hx).1⟩
set_option maxHeartbeats 1600000 in
set_option maxRecDepth 100000 in
theorem kcheck_any (s : SL) (L : List GK) (B : Nat) (w : World) (h : KS w B s L) (hB : B ≤ w.heap.size) :
    Calls Tryd.prog 14 #[.slice s.A L.length s.c] w fun e w' => e = .returned (errV (kindsE L)) ∧ Below w.heap.size w w' := by
  have hc := h.cap
  have hm := h.max
  obtain ⟨A, c⟩ := s
  dsimp only at hc hm ⊢
  replace h := Lib.hid h
  by_cases hn : 8 < L.length
  · have hv : kindsE L = 4 := by unfold kindsE; rw [if_pos hn]
    have z1 : (8 : Int) < (L.length : Int) := by omega
    rw [hv]
    clear hv
    go_enter Tryd.func14, Tryd.ntmps14
    go_wp2_with fail
    go_ret
    exact ⟨rfl, Below.refl _ _⟩
  · have z1 : ¬ (8 : Int) < (L.length : Int) := by omega
    have hv : kindsE L = kindsN L L.length := by unfold kindsE; rw [if_neg hn]
    replace hv := Lib.hid hv
    go_enter Tryd.func14, Tryd.ntmps14
    go_wp2_with fail
    go_loopw [11] (fun vi wr => ∃ k : Nat, vi = .int .i64 k ∧ k ≤ L.length ∧ Hid (kindsN L k = 0) ∧ Hid (Below w.heap.size w wr)) (fun vi _ => L.length - (intOf vi).toNat)
    case atStart => exact ⟨0, rfl, Nat.zero_le _, Lib.hid rfl, Lib.hid (Below.refl _ _)⟩
    case round =>
      obtain ⟨k, rfl, hk, hz, hb⟩ := hrel
      by_cases hlt : k < L.length
      · have z2 : (k : Int) < (L.length : Int) := by omega
        have hs := hb.out.size
        have hk1 := kind_any A c B k L wr (h.out.rd.below (hb.out.mono hB)) (Nat.le_trans hB hs) (by omega) hlt (h.out.str _ (gk_mem hlt)) hc hm
        have hst : kindsN L (k + 1) = kindE L k := by rw [kindsN, if_neg (fun e => e hz.out)]
        have hmo := kindsN_mono L (k + 1) L.length (by omega)
        by_cases he : kindE L k = 0
        · rw [he] at hk1 hst
          replace hk1 := Lib.hid hk1
          replace hst := Lib.hid hst
          replace he := Lib.hid he
          replace hmo := Lib.hid hmo
          go_wp2_with fail
          refine hk1.out.mono ?_
          rintro e w1 ⟨rfl, hb1⟩
          have hb2 := hb.out.trans (hb1.mono hs)
          replace hb2 := Lib.hid hb2
          clear hb1
          unfold errV
          go_wp2_with fail
          go_roundw
          case rel => exact ⟨k + 1, by go_num, by omega, hst, hb2⟩
          case measure => simp [intOf]; omega
        · have hfin : errV (kindsE L) = errV (kindE L k) := by rw [hv.out, hmo (by rw [hst]; exact he), hst]
          have hev : errV (kindE L k) = erE (kindE L k) := by unfold errV; rw [if_neg he]
          rw [hev] at hk1 hfin
          unfold erE at hk1 hfin
          replace hk1 := Lib.hid hk1
          replace hst := Lib.hid hst
          replace he := Lib.hid he
          replace hmo := Lib.hid hmo
          replace hfin := Lib.hid hfin
          replace hev := Lib.hid hev
          go_wp2_with fail
          refine hk1.out.mono ?_
          rintro e w1 ⟨rfl, hb1⟩
          have hb2 := hb.out.trans (hb1.mono hs)
          replace hb2 := Lib.hid hb2
          clear hb1
          go_wp2_with fail
          go_ret
          exact ⟨by rw [hfin.out]; rfl, hb2.out⟩
      · have z2 : ¬ (k : Int) < (L.length : Int) := by omega
        obtain rfl : k = L.length := by omega
        have hfin : errV (kindsE L) = .nilIface := by rw [hv.out, hz.out]; rfl
        replace hfin := Lib.hid hfin
        go_wp2_with fail
        go_ret
        exact ⟨by rw [hfin.out]; rfl, hb.out⟩
end Go.Proofs.YtkgkpggfoieioaaDoor
