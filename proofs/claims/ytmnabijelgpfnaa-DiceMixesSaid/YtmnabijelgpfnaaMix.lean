import Derived.Test.YtmnabijelgpfnaaDice
import Derived.Test.YtmnabijelgpfnaaCloneI
import Derived.RegionTactic
import Derived.ChangeAlike
namespace Go.Proofs.Ytmnabijelgpfnaa
set_option linter.unusedVariables false
open Go.RowKit
theorem mix_full (g : Nat) (A : Option Addr) (n c : Nat) (w : World) (h : 200 < n) :
    Calls Try.prog 24 #[.pointer (some ⟨g, 0, none⟩), .slice A n c] w fun e w' => e = .returned (.tuple #[.slice none 0 0, .iface 46 (.int .i64 4)]) ∧ w = w' := by
  go_enter Try.func24, Try.ntmps24
  go_wp2_with fail
  go_ret2
  exact ⟨rfl, rfl⟩
theorem mix_zero (g : Nat) (A : Option Addr) (c : Nat) (w : World) (hnil : A = none → c = 0) :
    Calls Try.prog 24 #[.pointer (some ⟨g, 0, none⟩), .slice A 0 c] w fun e w' => ∃ E d, e = .returned (.tuple #[.slice E 0 d, .nilIface]) ∧ (E = none → d = 0) ∧ Below w.heap.size w w' := by
  have HN := Lib.hid hnil
  clear hnil
  go_enter Try.func24, Try.ntmps24
  go_wp2_with fail
  refine (cloneI_zero A c w.heap.size w HN.out (Nat.le_refl _)).mono ?_
  rintro e w1 ⟨E, d, rfl, hE, hb⟩
  have HE := Lib.hid hE
  clear hE
  go_wp2_with fail
  go_loopw [6] (fun i wr => i = .int .i64 (-1) ∧ Below w.heap.size w wr) (fun _ _ => 0)
  case atStart => exact ⟨rfl, hb⟩
  case round =>
    obtain ⟨rfl, hb⟩ := hrel
    go_wp2_with fail
    go_ret2
    exact ⟨_, _, rfl, HE.out, hb⟩
set_option maxHeartbeats 1600000 in
set_option maxRecDepth 100000 in
theorem mix_pos (g : Nat) (s : Int) (A : Option Addr) (n c B : Nat) (xs : List Int) (w : World) (hnil : A = none → c = 0) (hB : B ≤ w.heap.size) (hd : Blk w g 83 #[.int .u64 s]) (h : RD w B 1 A n (xs.map (.int .i64))) (hp : 0 < n) (hn : n ≤ 200) :
    Calls Try.prog 24 #[.pointer (some ⟨g, 0, none⟩), .slice A n c] w fun e w' => ∃ E d, e = .returned (.tuple #[.slice (some ⟨E, 0, none⟩) n d, .nilIface]) ∧
      w'.ownsRow w.heap.size 3 1 (.slice (some ⟨E, 0, none⟩) n d) n ((mixF (n - 1) s xs).2.map (.int .i64)) ∧ w.grownBy w' (some g) ∧ Blk w' g 83 #[.int .u64 (mixF (n - 1) s xs).1] := by
  have HN := Lib.hid hnil
  have H := Lib.hid h
  have hxn : xs.length = n := by simpa using h.1
  have hxn := Lib.hid hxn
  clear hnil h
  go_enter Try.func24, Try.ntmps24
  go_wp2_with fail
  refine (cloneI_pos A n c B xs w HN.out hB H.out (by omega) hp).mono ?_
  rintro e w1 ⟨E, d, rfl, hown, hE, hb⟩
  have hlt := hd.lt
  have hd1 := hd.below hb hlt
  have hg1 : w.grownBy w1 (some g) := ⟨hb.os, hb.tape, hb.output, hb.size, fun k hk _ => hb.block k hk⟩
  clear hb hd
  go_wp2_with fail
  go_loopw [6] (fun i wr => ∃ (k : Nat) (z : Int) (ys : List Int), i = .int .i64 k ∧ k < n ∧ Blk wr g 83 #[.int .u64 z] ∧ wr.ownsRow w.heap.size 3 1 (.slice (some ⟨E, 0, none⟩) n d) n (ys.map (.int .i64)) ∧
    Hid (mixF k z ys = mixF (n - 1) s xs) ∧ w.grownBy wr (some g)) (fun i _ => (intOf i).toNat)
  case atStart => exact ⟨n - 1, s, xs, by go_num, by omega, hd1, hown, rfl, hg1⟩
  case round =>
    obtain ⟨k, z, ys, rfl, hk, hdz, hownz, hmix, hgz⟩ := hrel
    clear hown hd1 hg1
    by_cases hk0 : 0 < k
    · go_wp2_with fail
      refine (below_op g z _ wr hdz (by omega) (by omega)).mono ?_
      rintro e w2 ⟨x, z', hz, hx, hzu, rfl, hg2, hd2⟩
      have hEg : E ≠ g := by omega
      have hown2 := hownz.kept hg2 (.inr (by simp [Value.ownBlock]; exact hEg))
      obtain ⟨j, rfl⟩ := Int.eq_ofNat_of_zero_le hx.1
      have hj : j < k + 1 := by omega
      have hlen : ys.length = n := by simpa using hown2.1
      have cj := hown2.cellAt j (by omega)
      have ck := hown2.cellAt k (by omega)
      rw [List.getElem?_map, List.getElem?_eq_getElem (by omega)] at cj ck
      simp only [Option.map_some] at cj ck
      have fj := hown2.frozenAt j
      have fk := hown2.frozenAt k
      have hsw := Lib.hid (swapL_map (.int .i64) ys k j (by omega) (by omega))
      have hmx := Lib.hid (hmix.out.symm.trans (mixF_pos k z ys hk0 z' j hz.out))
      clear hmix
      have hlen := Lib.hid hlen
      have hown2 := Lib.hid hown2
      have hd2 := Lib.hid hd2
      clear hownz hdz
      have hjn : j < n := by omega
      have hne : ∀ (v : Value), k ≠ j → w2.cell? ⟨E, j, none⟩ = some v → (w2.setCell ⟨E, k, none⟩ v).cell? ⟨E, j, none⟩ = some v := fun v h1 h2 => by
        rw [World.cell?_setCell_other _ _ _ _ (by intro h; injection h with _ h; exact h1 h)]; exact h2
      have cj2 : (w2.setCell ⟨E, k, none⟩ (.int .i64 ys[j])).cell? ⟨E, j, none⟩ = some (.int .i64 ys[j]) := by
        by_cases h : k = j
        · subst h
          have hb := hown2.out.stored k (.int .i64 ys[k])
          have hc := hb.1.cellAt k (by omega)
          rw [hc, List.getElem?_set_self (by rw [List.length_map]; omega)]
        · exact hne _ h cj
      clear hne
      generalize ys[j] = yj at *
      generalize ys[k] = yk at *
      go_wp2_with fail
      go_region
      go_wp2
      go_roundw
      case rel =>
        have o1 := (hown2.out.stored k (.int .i64 yj)).1
        have o2 := (o1.stored j (.int .i64 yk)).1
        rw [hsw.out] at o2
        refine ⟨k - 1, z', swapL ys k j, by go_num, by omega, ((hd2.out.far (p := ⟨E, k, none⟩) (Ne.symm hEg) _).far (p := ⟨E, j, none⟩) (Ne.symm hEg) _).drew, o2, Lib.hid hmx.out.symm, ?_⟩
        exact grownBy_drew (grownBy_far (grownBy_far (grownBy_trans hgz hg2) hE _) hE _)
      case measure => simp [intOf]; omega
    · obtain rfl : k = 0 := by omega
      have e : (z, ys) = mixF (n - 1) s xs := hmix.out
      have e1 := Lib.hid (congrArg Prod.fst e)
      have e2 := Lib.hid (congrArg Prod.snd e)
      clear hmix e
      go_wp2_with fail
      go_ret2
      exact ⟨_, _, rfl, by rw [← e2.out]; exact hownz, hgz, by rw [← e1.out]; exact hdz⟩
end Go.Proofs.Ytmnabijelgpfnaa
