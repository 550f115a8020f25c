import Derived.Test.YtkgkpggfoieioaaDoorMrgb
import Derived.WalkKit
import Derived.WalkLawsBesides
import Derived.WalkSpells
import Derived.Outline
import Derived.IntWalk
import Derived.Lib.Hide
import Derived.OpenShut
import Derived.Lib.BufferRead
import Derived.Deep.QuietTactic
import Derived.BigQuiet
import Derived.StillTailTactics
import Derived.Shelf.Strings.SlTrimAscii
import Derived.Ground.NamesProg
import Derived.Test.YtkgkpggfoieioaaDoorProg
namespace Go.Proofs.YtkgkpggfoieioaaDoor
set_option linter.unusedVariables false
open Go.RowKit
/-! Functions over slices of kinds. -/
abbrev RK (w : World) (B : Nat) (A : Option Addr) (L : List GK) : Prop := RD w B 11 A L.length (L.flatMap kC)
abbrev kV (k : GK) : Value := .agg #[.string k.name, .int .i64 k.life, .int .i64 k.hit, .int .i64 k.range, .int .i64 k.sight, .int .i64 k.speed, .int .i64 k.price, .int .i64 k.turns, .int .i64 k.carry, .bool k.flies, .bool k.trains]
theorem rk_at {w : World} {B : Nat} {A : Option Addr} {L : List GK} (h : RK w B A L) (k : Nat) (hk : k < L.length) :
    ∃ b o, A = some ⟨b, o, none⟩ ∧ b < B ∧ w.cell? ⟨b, o + k * 11, none⟩ = some (.string (gk L k).name) ∧ w.cell? ⟨b, o + k * 11 + 1, none⟩ = some (.int .i64 (gk L k).life) ∧ w.cell? ⟨b, o + k * 11 + 2, none⟩ = some (.int .i64 (gk L k).hit) ∧ w.cell? ⟨b, o + k * 11 + 3, none⟩ = some (.int .i64 (gk L k).range) ∧
      w.cell? ⟨b, o + k * 11 + 4, none⟩ = some (.int .i64 (gk L k).sight) ∧ w.cell? ⟨b, o + k * 11 + 5, none⟩ = some (.int .i64 (gk L k).speed) ∧ w.cell? ⟨b, o + k * 11 + 6, none⟩ = some (.int .i64 (gk L k).price) ∧ w.cell? ⟨b, o + k * 11 + 7, none⟩ = some (.int .i64 (gk L k).turns) ∧
      w.cell? ⟨b, o + k * 11 + 8, none⟩ = some (.int .i64 (gk L k).carry) ∧ w.cell? ⟨b, o + k * 11 + 9, none⟩ = some (.bool (gk L k).flies) ∧ w.cell? ⟨b, o + k * 11 + 10, none⟩ = some (.bool (gk L k).trains) := by
  obtain ⟨b, o, hA, hb⟩ := h.addr (by omega)
  have key : ∀ j, j < 11 → w.cell? ⟨b, o + (k * 11 + j), none⟩ = (kC (gk L k))[j]? := fun j hj => by
    rw [h.at_ hA (by omega), flat_get kC 11 kC_len L k j hj, gk_get hk]; rfl
  exact ⟨b, o, hA, hb, key 0 (by omega), key 1 (by omega), key 2 (by omega), key 3 (by omega), key 4 (by omega), key 5 (by omega), key 6 (by omega), key 7 (by omega), key 8 (by omega), key 9 (by omega), key 10 (by omega)⟩
theorem flat_takeK : ∀ (L : List GK) (p : Nat), (L.flatMap kC).take (p * 11) = (L.take p).flatMap kC
  | [], p => by simp
  | x :: L, 0 => by simp
  | x :: L, p + 1 => by
    rw [List.flatMap_cons, List.take_succ_cons, List.flatMap_cons, List.take_append, kC_len, List.take_of_length_le (by rw [kC_len]; omega), show (p + 1) * 11 - 11 = p * 11 by omega, flat_takeK L p]
set_option maxHeartbeats 1600000 in
set_option maxRecDepth 100000 in
theorem idxK_any (f : Nat) (cap : Value) (p : GK → Bool) (A : Option Addr) (c B : Nat) (L : List GK) (w : World) (h : RK w B A L) (hB : B ≤ w.heap.size) (hl : L.length ≤ 1000000000)
    (he : ∀ args w, (callFunc f args).run Tryd.prog w = .ok (.enter f args) w)
    (law : ∀ x, x ∈ L → ∀ wz, Below w.heap.size w wz → Calls Tryd.prog f #[kV x, cap] wz fun e w' => e = .returned (.bool (p x)) ∧ Below wz.heap.size wz w') :
    Calls Tryd.prog 54 #[.slice A L.length c, .func (.func f) #[] #[cap]] w fun e w' => e = .returned (.int .i64 (firstI p L)) ∧ Below w.heap.size w w' := by
  replace h := Lib.hid h
  replace law := Lib.hid law
  go_enter Tryd.func54, Tryd.ntmps54
  go_wp2_with fail
  go_loopw [5, 8] (fun _ i wr => ∃ k : Nat, k ≤ L.length ∧ i = .int .i64 k ∧ Hid (∀ y ∈ L.take k, p y = false) ∧ Hid (Below w.heap.size w wr)) (fun _ i _ => L.length - (intOf i).toNat)
  case atStart => exact ⟨0, Nat.zero_le _, rfl, Lib.hid (by simp), Lib.hid (Below.refl _ _)⟩
  case round =>
    obtain ⟨k, hk, rfl, hK, hbw⟩ := hrel
    by_cases hlt : k < L.length
    · have i1 : (k : Int) < (L.length : Int) := by omega
      obtain ⟨b, o, hA, hbl, c0, c1, c2, c3, c4, c5, c6, c7, c8, c9, c10⟩ := rk_at (h.out.below (hbw.out.mono hB)) k hlt
      have hs := hbw.out.size
      have hlw := law.out _ (gk_mem hlt) wr hbw.out
      have hget := gk_get hlt
      have hfa := first_at p L k _ hget
      have htn := take_no p L k _ hget hK.out
      subst hA
      generalize gk L k = x at *
      replace hlw := Lib.hid hlw
      replace hget := Lib.hid hget
      replace hfa := Lib.hid hfa
      replace htn := Lib.hid htn
      go_wp2_with fail
      refine hlw.out.mono ?_
      rintro e w' ⟨rfl, hb2⟩
      have hb3 := hbw.out.trans (hb2.mono hs)
      replace hb3 := Lib.hid hb3
      clear hb2 c0 c1 c2 c3 c4 c5 c6 c7 c8 c9 c10
      cases hpx : p x with
      | true =>
        have hf := hfa.out hpx hK.out
        replace hf := Lib.hid hf
        replace hpx := Lib.hid hpx
        go_wp2_with fail
        go_ret
        exact ⟨by rw [hf.out]; rfl, hb3.out⟩
      | false =>
        have hn := Lib.hid (htn.out hpx)
        replace hpx := Lib.hid hpx
        go_wp2_with fail
        go_roundw
        case rel => exact ⟨k + 1, by omega, by go_num, hn, hb3⟩
        case measure => simp [intOf]; omega
    · have i1 : ¬ (k : Int) < (L.length : Int) := by omega
      have hf := first_no p L (by have := hK.out; rwa [List.take_of_length_le (by omega)] at this)
      replace hf := Lib.hid hf
      go_wp2_with fail
      go_ret
      exact ⟨by rw [hf.out]; rfl, hbw.out⟩
end Go.Proofs.YtkgkpggfoieioaaDoor
namespace Go.Proofs.YtkgkpggfoieioaaDoor
set_option linter.unusedVariables false
open Go.RowKit
set_option maxRecDepth 100000 in
theorem ctnK_any (f : Nat) (cap : Value) (p : GK → Bool) (A : Option Addr) (c B : Nat) (L : List GK) (w : World) (h : RK w B A L) (hB : B ≤ w.heap.size) (hl : L.length ≤ 1000000000)
    (he : ∀ args w, (callFunc f args).run Tryd.prog w = .ok (.enter f args) w)
    (law : ∀ x, x ∈ L → ∀ wz, Below w.heap.size w wz → Calls Tryd.prog f #[kV x, cap] wz fun e w' => e = .returned (.bool (p x)) ∧ Below wz.heap.size wz w') :
    Calls Tryd.prog 105 #[.slice A L.length c, .func (.func f) #[] #[cap]] w fun e w' => e = .returned (.bool (L.any p)) ∧ Below w.heap.size w w' := by
  have hi := idxK_any f cap p A c B L w h hB hl he law
  have h1 := first_ge p L
  have h2 := first_any p L
  clear h law
  generalize firstI p L = r at *
  replace hi := Lib.hid hi
  replace h2 := Lib.hid h2
  go_enter Tryd.func105, Tryd.ntmps105
  go_wp2_with fail
  refine hi.out.mono ?_
  rintro e w' ⟨rfl, hbw⟩
  replace hbw := Lib.hid hbw
  go_wp2_with fail
  go_ret
  exact ⟨by rw [← h2.out]; rfl, hbw.out⟩
/-- The closure of the names. -/
theorem kname_any (x : GK) (nm : ByteArray) (kb : Nat) (w : World) (hc : w.cell? ⟨kb, 0, none⟩ = some (.string nm)) (hb : kb < w.heap.size) :
    Calls Tryd.prog 106 #[kV x, .pointer (some ⟨kb, 0, none⟩)] w fun e w' => e = .returned (.bool (x.name.toList == nm.toList)) ∧ Below w.heap.size w w' := by
  go_enter Tryd.func106, Tryd.ntmps106
  go_wp2_with fail
  go_ret
  exact ⟨rfl, (Below.refl _ _).alloc (Nat.le_refl _) _⟩
theorem knum_any (n : Int) (b o : Nat) (w : World) (hc : w.cell? ⟨b, o, none⟩ = some (.int .i64 n)) :
    Calls Tryd.prog 109 #[.pointer (some ⟨b, o, none⟩)] w fun e w' => e = .returned (.bool (badN n)) ∧ w = w' := by
  unfold badN
  by_cases h1 : n < 0
  · rw [decide_eq_true h1]
    go_enter Tryd.func109, Tryd.ntmps109
    go_wp2_with fail
    go_ret
    exact ⟨by simp, rfl⟩
  · have d1 : decide (n < 0) = false := decide_eq_false h1
    rw [d1]
    go_enter Tryd.func109, Tryd.ntmps109
    go_wp2_with fail
    go_ret
    exact ⟨by simp, rfl⟩
set_option maxRecDepth 100000 in
theorem numbers_any (kb : Nat) (w : World) :
    Calls Tryd.prog 108 #[.pointer (some ⟨kb, 0, none⟩)] w fun e w' => e = .returned (.slice (some ⟨w.heap.size, 0, none⟩) 8 8) ∧ Blk w' w.heap.size 146 #[.pointer (some ⟨kb, 1, none⟩), .pointer (some ⟨kb, 2, none⟩), .pointer (some ⟨kb, 3, none⟩), .pointer (some ⟨kb, 4, none⟩), .pointer (some ⟨kb, 5, none⟩), .pointer (some ⟨kb, 6, none⟩), .pointer (some ⟨kb, 7, none⟩), .pointer (some ⟨kb, 8, none⟩)] ∧ Below w.heap.size w w' := by
  go_enter Tryd.func108, Tryd.ntmps108
  go_wp2_with fail
  go_still_tail 24, (by kernel_rfl)
  go_wp2_with fail
  go_ret
  exact ⟨rfl, Blk.new _ _ _, bdrewN ((Below.refl _ _).alloc (Nat.le_refl _) _) 1⟩
/-- The pointers, and the numbers behind them. -/
theorem ptr_cells {w : World} {sb kb : Nat} {k : GK} (hs : Blk w sb 146 #[.pointer (some ⟨kb, 1, none⟩), .pointer (some ⟨kb, 2, none⟩), .pointer (some ⟨kb, 3, none⟩), .pointer (some ⟨kb, 4, none⟩), .pointer (some ⟨kb, 5, none⟩), .pointer (some ⟨kb, 6, none⟩), .pointer (some ⟨kb, 7, none⟩), .pointer (some ⟨kb, 8, none⟩)]) (hk : Blk w kb 31 (kC k).toArray) (j : Nat) (hj : j < 8) :
    w.cell? ⟨sb, j, none⟩ = some (.pointer (some ⟨kb, j + 1, none⟩)) ∧ ∃ n, (numK k)[j]? = some n ∧ w.cell? ⟨kb, j + 1, none⟩ = some (.int .i64 n) := by
  rcases (by omega : j = 0 ∨ j = 1 ∨ j = 2 ∨ j = 3 ∨ j = 4 ∨ j = 5 ∨ j = 6 ∨ j = 7) with rfl | rfl | rfl | rfl | rfl | rfl | rfl | rfl
  · exact ⟨hs.cell 0, _, rfl, hk.cell 1⟩
  · exact ⟨hs.cell 1, _, rfl, hk.cell 2⟩
  · exact ⟨hs.cell 2, _, rfl, hk.cell 3⟩
  · exact ⟨hs.cell 3, _, rfl, hk.cell 4⟩
  · exact ⟨hs.cell 4, _, rfl, hk.cell 5⟩
  · exact ⟨hs.cell 5, _, rfl, hk.cell 6⟩
  · exact ⟨hs.cell 6, _, rfl, hk.cell 7⟩
  · exact ⟨hs.cell 7, _, rfl, hk.cell 8⟩
set_option maxRecDepth 100000 in
theorem idxN_any (sb kb : Nat) (k : GK) (w : World) (hs : Blk w sb 146 #[.pointer (some ⟨kb, 1, none⟩), .pointer (some ⟨kb, 2, none⟩), .pointer (some ⟨kb, 3, none⟩), .pointer (some ⟨kb, 4, none⟩), .pointer (some ⟨kb, 5, none⟩), .pointer (some ⟨kb, 6, none⟩), .pointer (some ⟨kb, 7, none⟩), .pointer (some ⟨kb, 8, none⟩)]) (hk : Blk w kb 31 (kC k).toArray) :
    Calls Tryd.prog 141 #[.slice (some ⟨sb, 0, none⟩) 8 8, .func (.func 109) #[] #[]] w fun e w' => e = .returned (.int .i64 (firstI badN (numK k))) ∧ w = w' := by
  have hsl := hs.lt
  replace hs := Lib.hid hs
  replace hk := Lib.hid hk
  go_enter Tryd.func141, Tryd.ntmps141
  go_wp2_with fail
  go_loop [5, 8] (fun _ i => ∃ j : Nat, j ≤ 8 ∧ i = .int .i64 j ∧ Hid (∀ y ∈ (numK k).take j, badN y = false)) (fun _ i => 8 - (intOf i).toNat)
  case atStart => exact ⟨0, by omega, rfl, Lib.hid (by simp)⟩
  case round =>
    obtain ⟨j, hj, rfl, hK⟩ := hrel
    by_cases hlt : j < 8
    · have i1 : (j : Int) < 8 := by omega
      obtain ⟨c0, n, hn, c1⟩ := ptr_cells hs.out hk.out j hlt
      have hlw := knum_any n kb (j + 1) w c1
      have hfa := first_at badN (numK k) j n hn
      have htn := take_no badN (numK k) j n hn hK.out
      replace hlw := Lib.hid hlw
      replace hn := Lib.hid hn
      replace hfa := Lib.hid hfa
      replace htn := Lib.hid htn
      replace c1 := Lib.hid c1
      go_wp2_with fail
      refine hlw.out.mono ?_
      rintro e w' ⟨rfl, rfl⟩
      cases hpx : badN n with
      | true =>
        have hf := hfa.out hpx hK.out
        replace hf := Lib.hid hf
        replace hpx := Lib.hid hpx
        go_wp2_with fail
        go_ret
        exact ⟨by rw [hf.out]; rfl, rfl⟩
      | false =>
        have hq := Lib.hid (htn.out hpx)
        replace hpx := Lib.hid hpx
        go_wp2_with fail
        go_round
        case rel => exact ⟨j + 1, by omega, by go_num, hq⟩
        case measure => simp [intOf]; omega
    · have i1 : ¬ (j : Int) < 8 := by omega
      have hf := first_no badN (numK k) (by have := hK.out; rwa [List.take_of_length_le (by simp [numK]; omega)] at this)
      replace hf := Lib.hid hf
      go_wp2_with fail
      go_ret
      exact ⟨by rw [hf.out]; rfl, rfl⟩
set_option maxRecDepth 100000 in
theorem ctnN_any (sb kb : Nat) (k : GK) (w : World) (hs : Blk w sb 146 #[.pointer (some ⟨kb, 1, none⟩), .pointer (some ⟨kb, 2, none⟩), .pointer (some ⟨kb, 3, none⟩), .pointer (some ⟨kb, 4, none⟩), .pointer (some ⟨kb, 5, none⟩), .pointer (some ⟨kb, 6, none⟩), .pointer (some ⟨kb, 7, none⟩), .pointer (some ⟨kb, 8, none⟩)]) (hk : Blk w kb 31 (kC k).toArray) :
    Calls Tryd.prog 107 #[.slice (some ⟨sb, 0, none⟩) 8 8, .func (.func 109) #[] #[]] w fun e w' => e = .returned (.bool (numsB k)) ∧ w = w' := by
  have hi := idxN_any sb kb k w hs hk
  have h1 := first_ge badN (numK k)
  have h2 := first_any badN (numK k)
  have h3 : numsB k = (numK k).any badN := rfl
  rw [← h3] at h2
  clear hs hk h3
  generalize firstI badN (numK k) = r at *
  replace hi := Lib.hid hi
  replace h2 := Lib.hid h2
  go_enter Tryd.func107, Tryd.ntmps107
  go_wp2_with fail
  refine hi.out.mono ?_
  rintro e w' ⟨rfl, rfl⟩
  go_wp2_with fail
  go_ret
  exact ⟨by rw [← h2.out]; rfl, rfl⟩
end Go.Proofs.YtkgkpggfoieioaaDoor
/-
  DERIVED: THE SHELF's CONTRACTS AT THIS DUMP, IN PLAIN WORDS (tools/lay-plain.mjs out of 'YtkgkpggfoieioaaDoorTrim0.lean', which tools/lay-shelf.mjs wrote): THE SAME DECLARATIONS UNDER THE SAME NAMES: 'import', 'namespace', 'open', 'def', 'theorem' AND NOTHING ELSE: no command of the shelf's: FOR A HAND-IN. Each laying: the table of numbers ('.._ren') and one theorem, a field a fact of the dump's own or the kernel's comparison; each contract: ONE APPLICATION.
-/
namespace Go.Proofs
open Go.Shelf
def Tryd.lays160_ren : Go.Shelf.Ren := ⟨fun | 160 => 104 | 232 => 135 | 231 => 134 | 227 => 136 | 234 => 138 | 233 => 137 | 236 => 140 | 235 => 139 | 228 => 159 | 271 => 162 | 151 => 161 | 197 => 160 | 120 => 180 | 152 => 179 | 260 => 178 | 137 => 119 | 119 => 190 | 224 => 191 | 225 => 192 | 217 => 153 | 266 => 174 | n => n, fun | 9 => 9 | 4 => 4 | 3 => 3 | 5 => 5 | 117 => 178 | 116 => 177 | 0 => 0 | 124 => 181 | 21 => 21 | 105 => 207 | 46 => 167 | 119 => 249 | 139 => 252 | 138 => 251 | n => n, fun | 3 => 3 | 4 => 4 | n => n⟩
theorem Tryd.lays160 : Go.Proofs.Lays.n160 Tryd.prog Tryd.lays160_ren := {
  mixed := by kernel_rfl
  f119 := Tryd.func190.trans (congrArg some (by kernel_rfl))
  f120 := Tryd.func180.trans (congrArg some (by kernel_rfl))
  f137 := Tryd.func119.trans (congrArg some (by kernel_rfl))
  f151 := Tryd.func161.trans (congrArg some (by kernel_rfl))
  f152 := Tryd.func179.trans (congrArg some (by kernel_rfl))
  f160 := Tryd.func104.trans (congrArg some (by kernel_rfl))
  f197 := Tryd.func160.trans (congrArg some (by kernel_rfl))
  f217 := Tryd.func153.trans (congrArg some (by kernel_rfl))
  f224 := Tryd.func191.trans (congrArg some (by kernel_rfl))
  f225 := Tryd.func192.trans (congrArg some (by kernel_rfl))
  f227 := Tryd.func136.trans (congrArg some (by kernel_rfl))
  f228 := Tryd.func159.trans (congrArg some (by kernel_rfl))
  f231 := Tryd.func134.trans (congrArg some (by kernel_rfl))
  f232 := Tryd.func135.trans (congrArg some (by kernel_rfl))
  f233 := Tryd.func137.trans (congrArg some (by kernel_rfl))
  f234 := Tryd.func138.trans (congrArg some (by kernel_rfl))
  f235 := Tryd.func139.trans (congrArg some (by kernel_rfl))
  f236 := Tryd.func140.trans (congrArg some (by kernel_rfl))
  f260 := Tryd.func178.trans (congrArg some (by kernel_rfl))
  f266 := Tryd.func174.trans (congrArg some (by kernel_rfl))
  f271 := Tryd.func162.trans (congrArg some (by kernel_rfl))
  t0 := Tryd.underlying0
  a0 := Tryd.isAgg0
  z0 := Tryd.sizeOf0
  v0 := Tryd.zeroValue0
  t3 := Tryd.underlying3
  a3 := Tryd.isAgg3
  z3 := Tryd.sizeOf3
  v3 := Tryd.zeroValue3
  t4 := Tryd.underlying4
  a4 := Tryd.isAgg4
  z4 := Tryd.sizeOf4
  v4 := Tryd.zeroValue4
  t5 := Tryd.underlying5
  a5 := Tryd.isAgg5
  z5 := Tryd.sizeOf5
  v5 := Tryd.zeroValue5
  t9 := Tryd.underlying9
  a9 := Tryd.isAgg9
  z9 := Tryd.sizeOf9
  v9 := Tryd.zeroValue9
  t21 := Tryd.underlying21
  a21 := Tryd.isAgg21
  z21 := Tryd.sizeOf21
  v21 := Tryd.zeroValue21
  t46 := Tryd.underlying167
  a46 := Tryd.isAgg167
  z46 := Tryd.sizeOf167
  v46 := Tryd.zeroValue167
  t105 := Tryd.underlying207
  a105 := Tryd.isAgg207
  z105 := Tryd.sizeOf207
  v105 := Tryd.zeroValue207
  t116 := Tryd.underlying177
  a116 := Tryd.isAgg177
  z116 := Tryd.sizeOf177
  t117 := Tryd.underlying178
  a117 := Tryd.isAgg178
  z117 := Tryd.sizeOf178
  v117 := Tryd.zeroValue178
  t119 := Tryd.underlying249
  a119 := Tryd.isAgg249
  z119 := Tryd.sizeOf249
  t124 := Tryd.underlying181
  a124 := Tryd.isAgg181
  z124 := Tryd.sizeOf181
  v124 := Tryd.zeroValue181
  t138 := Tryd.underlying251
  a138 := Tryd.isAgg251
  z138 := Tryd.sizeOf251
  v138 := Tryd.zeroValue251
  t139 := Tryd.underlying252
  a139 := Tryd.isAgg252
  z139 := Tryd.sizeOf252
  v139 := Tryd.zeroValue252
  g3 := by kernel_rfl
  g4 := by kernel_rfl }
open Go.RowKit in
/-- strings.Trim at an ASCII cutset. -/
theorem Tryd.trim_any (s c : ByteArray) (w : World) (hs : s.size ≤ 9223372036854775807) (hc : c.size < 4294967281) (ha : ∀ (j : Nat) b, c.data.toList[j]? = some b → b.toNat < 128) :
    Calls Tryd.prog 104 #[.string s, .string c] w fun e w' => e = .returned (.string ⟨(Lib.trimS s.data.toList c.data.toList).toArray⟩) ∧ Below w.heap.size w w' := Any.strings_Trim_laid Tryd.lays160 (by kernel_rfl) s c w hs hc ha
end Go.Proofs
