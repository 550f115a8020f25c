import Derived.Test.YtkgkpggfoieioaaDoorRI
import Derived.Test.YtkgkpggfoieioaaDoorRows
import Derived.WalkKit
import Derived.WalkLawsBesides
import Derived.Outline
import Derived.OwnWalk
import Derived.Lib.Hide
namespace Go.Proofs.YtkgkpggfoieioaaDoor
set_option linter.unusedVariables false
open Go.RowKit
/-- How many of the first k are more than p; the place of p; all places. -/
def gtN (p : Int) (xs : List Int) (k : Nat) : Nat := ((xs.take k).filter fun q => decide (p < q)).length
def rk (xs : List Int) (p : Int) : Int := 1 + gtN p xs xs.length
def rankL (xs : List Int) : List Int := xs.map (rk xs)
theorem gtN_zero (p : Int) (xs : List Int) : gtN p xs 0 = 0 := by simp [gtN]
theorem gtN_yes (p : Int) (xs : List Int) (k : Nat) (hk : k < xs.length) (h : p < xs.getD k 0) : gtN p xs (k + 1) = gtN p xs k + 1 := by
  unfold gtN
  rw [List.take_succ_eq_append_getElem hk, List.filter_append]
  rw [List.getD_eq_getElem?_getD, List.getElem?_eq_getElem hk, Option.getD_some] at h
  simp [h]
theorem gtN_no (p : Int) (xs : List Int) (k : Nat) (hk : k < xs.length) (h : ¬ p < xs.getD k 0) : gtN p xs (k + 1) = gtN p xs k := by
  unfold gtN
  rw [List.take_succ_eq_append_getElem hk, List.filter_append]
  rw [List.getD_eq_getElem?_getD, List.getElem?_eq_getElem hk, Option.getD_some] at h
  simp [h]
theorem gtN_le (p : Int) (xs : List Int) (k : Nat) : gtN p xs k ≤ k := by
  unfold gtN
  have := List.length_filter_le (fun q => decide (p < q)) (xs.take k)
  have := List.length_take_le k xs
  omega
theorem rank_take (xs : List Int) (k : Nat) (hk : k < xs.length) : ((rankL xs).take (k + 1)) = (rankL xs).take k ++ [rk xs (xs.getD k 0)] := by
  have hl : (rankL xs).length = xs.length := by simp [rankL]
  rw [List.take_succ_eq_append_getElem (by omega)]
  simp [rankL, List.getD_eq_getElem?_getD, List.getElem?_eq_getElem hk]
theorem int_infR : (Tryd.prog.info? 3).map (fun i => (i.zero, i.size, i.bytes)) = some (some (.int .i64 0), 1, 8) := by kernel_rfl
theorem rank_full (A : Option Addr) (n c : Nat) (w : World) (h : 200 < n) :
    Calls Tryd.prog 39 #[.slice A n c] w fun e w' => e = .returned (.tuple #[.slice none 0 0, .iface 93 (.int .i64 4)]) ∧ w = w' := by
  go_enter Tryd.func39, Tryd.ntmps39
  go_wp2_with fail
  go_ret2
  exact ⟨rfl, rfl⟩
set_option maxHeartbeats 1600000 in
set_option maxRecDepth 100000 in
theorem rank_any (A : Option Addr) (n c B : Nat) (xs : List Int) (w : World) (hxn : n = xs.length) (hB : B ≤ w.heap.size) (h : RI w B A xs) (hn : n ≤ 200) :
    Calls Tryd.prog 39 #[.slice A n c] w fun e w' => ∃ v, e = .returned (.tuple #[v, .nilIface]) ∧ w'.ownsRow w.heap.size 3 1 v n ((rankL xs).map (.int .i64)) ∧ Below w.heap.size w w' := by
  obtain ⟨i0, hi0, hz0, hz1, hz2⟩ := info_parts int_infR
  have H := Lib.hid h
  have HX := Lib.hid hxn
  clear h hxn
  go_enter Tryd.func39, Tryd.ntmps39
  go_wp2_with fail
  go_loopw [4, 6, 7, 9, 16] (fun v _ _ _ i wr => ∃ k : Nat, i = .int .i64 k ∧ k ≤ n ∧ wr.ownsRow w.heap.size 3 1 v k (((rankL xs).take k).map (.int .i64)) ∧ Below w.heap.size w wr) (fun _ _ _ _ i _ => n - (intOf i).toNat)
  case atStart => exact ⟨0, rfl, Nat.zero_le _, by simpa using World.ownsRow_nil _ _ _ _, Below.refl _ _⟩
  case round =>
  obtain ⟨k, rfl, hk, hown, hb⟩ := hrel
  by_cases hlt : k < n
  · have Hr : RI wr w.heap.size A xs := RD.below (RD.more H.out hB) hb
    obtain ⟨b, o, hA⟩ := RI.addr Hr (by rw [← HX.out]; omega)
    subst hA
    have ck := RI.cell Hr rfl (show k < xs.length by rw [← HX.out]; exact hlt)
    have hrk := Lib.hid (rank_take xs k (by rw [← HX.out]; exact hlt))
    have HR := Lib.hid Hr
    have hown := Lib.hid hown
    have hs := hb.size
    clear Hr
    generalize hp : xs.getD k 0 = p at *
    replace hp := Lib.hid hp
    go_wp2_with fail
    go_loop [7, 9, 22] (fun m _ j => ∃ t : Nat, j = .int .i64 t ∧ t ≤ n ∧ m = .int .i64 (1 + (gtN p xs t : Nat))) (fun _ _ j => n - (intOf j).toNat)
    case atStart => exact ⟨0, rfl, Nat.zero_le _, by rw [gtN_zero]; rfl⟩
    case round =>
    obtain ⟨t, rfl, ht, rfl⟩ := hrel
    by_cases htl : t < n
    · have ct := RI.cell HR.out rfl (show t < xs.length by rw [← HX.out]; exact htl)
      have gl := gtN_le p xs t
      have gy := gtN_yes p xs t (by rw [← HX.out]; exact htl)
      have gn := gtN_no p xs t (by rw [← HX.out]; exact htl)
      generalize xs.getD t 0 = q at *
      by_cases hq : p < q
      · have f1 := Lib.hid (gy hq)
        clear gy gn
        generalize gtN p xs t = C at *
        go_wp2_with fail
        go_round
        case rel => exact ⟨t + 1, by go_num, by omega, by rw [f1.out]; go_num⟩
        case measure => simp [intOf]; omega
      · have f1 := Lib.hid (gn hq)
        clear gy gn
        generalize gtN p xs t = C at *
        go_wp2_with fail
        go_round
        case rel => exact ⟨t + 1, by go_num, by omega, by rw [f1.out]⟩
        case measure => simp [intOf]; omega
    · have e : rk xs p = 1 + (gtN p xs t : Nat) := by unfold rk; rw [← HX.out, show t = n by omega]
      rw [← e]
      replace e := Lib.hid e
      have er : ((rankL xs).take (k + 1)).map (Value.int .i64) = ((rankL xs).take k).map (.int .i64) ++ [.int .i64 (rk xs p)] := by rw [hrk.out]; simp
      replace er := Lib.hid er
      generalize rk xs p = R at *
      generalize ((rankL xs).take k).map (Value.int .i64) = cs at *
      go_wp2_with (at_builtin; refine wpList_app1 rfl (.tmp 32) (.tmp 34) 34 rfl w.heap.size 3 i0 _ 1 8 Tryd.underlying34 hi0 hz0 hz1 hz2 rfl (by decide) (by decide) wr #[.int .i64 R] u4 k cs rfl hown.out rfl rfl rfl (by omega) hs ?_; intro v' w1 hown' hgrow)
      go_roundw
      case rel => exact ⟨k + 1, by go_num, by omega, by rw [er.out]; exact hown', hb.grown hgrow hs (fun g hg => (hown.out.lt g hg).1)⟩
      case measure => simp [intOf]; omega
  · obtain rfl : k = n := by omega
    rw [List.take_of_length_le (by rw [HX.out]; simp [rankL])] at hown
    replace hown := Lib.hid hown
    go_wp2_with fail
    go_ret2
    exact ⟨_, rfl, hown.out, hb⟩
end Go.Proofs.YtkgkpggfoieioaaDoor
