import Derived.Test.YtmnabijelgpfnaaDoorRate
namespace Go.Proofs.YtmnabijelgpfnaaDoor
set_option linter.unusedVariables false
open Go.ChangeShapes Go.WideShapes Go.RowKit
theorem refrate_bad (a b h : Int) (w : World) (ha : a < 0 ∨ 4000 < a ∨ b < 0 ∨ 4000 < b ∨ h < 0 ∨ 2 < h) :
    Calls Tryd.prog 6 #[.int .i64 a, .int .i64 b, .int .i64 h] w fun e w' => e = .returned (.tuple #[.int .i64 0, .int .i64 0, .int .i64 1]) ∧ w = w' := by
  rcases (by omega : (a < 0) ∨ (0 ≤ a ∧ 4000 < a) ∨ ((0 ≤ a ∧ a ≤ 4000) ∧ b < 0) ∨ ((0 ≤ a ∧ a ≤ 4000) ∧ 0 ≤ b ∧ 4000 < b) ∨ ((0 ≤ a ∧ a ≤ 4000) ∧ (0 ≤ b ∧ b ≤ 4000) ∧ h < 0) ∨ ((0 ≤ a ∧ a ≤ 4000) ∧ (0 ≤ b ∧ b ≤ 4000) ∧ 0 ≤ h ∧ 2 < h)) with h | h | h | h | h | h <;> clear ha
  all_goals
    go_enter Tryd.func6, Tryd.ntmps6
    go_wp2
    go_ret3
    exact ⟨rfl, rfl⟩
set_option maxHeartbeats 800000 in
set_option maxRecDepth 100000 in
theorem refrate_lo (a b h : Int) (w : World) (ha : 0 ≤ a) (ha' : a ≤ 4000) (hb : 0 ≤ b) (hb' : b ≤ 4000) (hh : 0 ≤ h) (hh' : h ≤ 2) (hq : 500 + (a - b).tdiv 2 < 50) :
    Calls Tryd.prog 6 #[.int .i64 a, .int .i64 b, .int .i64 h] w fun e w' => e = .returned (.tuple #[.int .i64 (a + rateD a b h), .int .i64 (b - rateD a b h), .int .i64 0]) ∧ w = w' := by
  have t1 := tdiv2_bd (a - b) 2000 (by omega) (by omega)
  have He : rateE a b = 50 := by unfold rateE; omega
  replace He := Lib.hid He
  have t2 : -50 ≤ ((500 * h - 50) * 32).tdiv 1000 ∧ ((500 * h - 50) * 32).tdiv 1000 ≤ 50 := rateQ_bd 50 h (by omega) (by omega) hh hh'
  obtain ⟨D, hD⟩ : ∃ D, D = ((500 * h - 50) * 32).tdiv 1000 := ⟨_, rfl⟩
  have hDb : -50 ≤ D ∧ D ≤ 50 := by rw [hD]; exact t2
  replace hD := Lib.hid hD
  go_enter Tryd.func6, Tryd.ntmps6
  go_wp2_with fail
  go_loop [10] (fun s => ∃ v, s = .int .i64 v ∧ v ≤ D ∧ (D ≤ 0 → v = D) ∧ (0 < D → 0 ≤ v ∧ min (min D (4000 - a)) b ≤ v)) (fun s => (intOf s).toNat)
  case atStart => exact ⟨_, rfl, by rw [hD.out]; omega, fun _ => hD.out.symm, fun h => ⟨by rw [hD.out] at h; omega, by rw [hD.out]; omega⟩⟩
  case round =>
  obtain ⟨v, rfl, hv1, hv2, hv3⟩ := hrel
  have hvb : -50 ≤ v ∧ v ≤ 50 := by omega
  by_cases hc : 0 < v ∧ 4000 < a + v
  · go_wp2_with fail
    go_round
    case rel => exact ⟨v - 1, by go_num, by omega, by omega, by omega⟩
    case measure => simp [intOf]; omega
  · by_cases hc2 : 0 < v ∧ b - v < 0
    · have hc3 : a + v ≤ 4000 := by omega
      clear hc
      go_wp2_with fail
      go_round
      case rel => exact ⟨v - 1, by go_num, by omega, by omega, by omega⟩
      case measure => simp [intOf]; omega
    · have hU : (0 < D → v = min (min D (4000 - a)) b) ∧ (D ≤ 0 → v = D) := by omega
      replace hU := Lib.hid hU
      have hcc : v ≤ 0 ∨ (0 < v ∧ a + v ≤ 4000 ∧ 0 ≤ b - v) := by omega
      clear hc hc2 hv1 hv2 hv3
      rcases hcc with hcc | hcc
      all_goals
        go_wp2_with fail
        go_loop [10] (fun s => ∃ u, s = .int .i64 u ∧ v ≤ u ∧ (0 ≤ v → u = v) ∧ (v < 0 → u ≤ 0 ∧ u ≤ max (max v (-a)) (b - 4000))) (fun s => (-(intOf s)).toNat)
        case atStart => exact ⟨v, rfl, by omega, fun _ => rfl, by omega⟩
        case round =>
        obtain ⟨u, rfl, hu1, hu2, hu3⟩ := hrel
        have hub : -50 ≤ u ∧ u ≤ 50 := by omega
        by_cases hk : u < 0 ∧ a + u < 0
        · go_wp2_with fail
          go_round
          case rel => exact ⟨u + 1, by go_num, by omega, by omega, by omega⟩
          case measure => simp [intOf]; omega
        · by_cases hk2 : u < 0 ∧ 4000 < b - u
          · have hk3 : 0 ≤ a + u := by omega
            clear hk
            go_wp2_with fail
            go_round
            case rel => exact ⟨u + 1, by go_num, by omega, by omega, by omega⟩
            case measure => simp [intOf]; omega
          · have hfin : rateD a b h = u := by
              unfold rateD rateQ rateC
              rw [He.out, ← hD.out]
              have := hU.out
              omega
            replace hfin := Lib.hid hfin
            have hkk : 0 ≤ u ∨ (u < 0 ∧ 0 ≤ a + u ∧ b - u ≤ 4000) := by omega
            clear hk hk2 hu1 hu2 hu3
            rcases hkk with hkk | hkk
            all_goals
              go_wp2_with fail
              go_ret3
              rw [hfin.out]
              exact ⟨rfl, rfl⟩
set_option maxHeartbeats 800000 in
set_option maxRecDepth 100000 in
theorem refrate_hi (a b h : Int) (w : World) (ha : 0 ≤ a) (ha' : a ≤ 4000) (hb : 0 ≤ b) (hb' : b ≤ 4000) (hh : 0 ≤ h) (hh' : h ≤ 2) (hq : 950 < 500 + (a - b).tdiv 2) :
    Calls Tryd.prog 6 #[.int .i64 a, .int .i64 b, .int .i64 h] w fun e w' => e = .returned (.tuple #[.int .i64 (a + rateD a b h), .int .i64 (b - rateD a b h), .int .i64 0]) ∧ w = w' := by
  have t1 := tdiv2_bd (a - b) 2000 (by omega) (by omega)
  have He : rateE a b = 950 := by unfold rateE; omega
  replace He := Lib.hid He
  have t2 : -50 ≤ ((500 * h - 950) * 32).tdiv 1000 ∧ ((500 * h - 950) * 32).tdiv 1000 ≤ 50 := rateQ_bd 950 h (by omega) (by omega) hh hh'
  obtain ⟨D, hD⟩ : ∃ D, D = ((500 * h - 950) * 32).tdiv 1000 := ⟨_, rfl⟩
  have hDb : -50 ≤ D ∧ D ≤ 50 := by rw [hD]; exact t2
  replace hD := Lib.hid hD
  go_enter Tryd.func6, Tryd.ntmps6
  go_wp2_with fail
  go_loop [10] (fun s => ∃ v, s = .int .i64 v ∧ v ≤ D ∧ (D ≤ 0 → v = D) ∧ (0 < D → 0 ≤ v ∧ min (min D (4000 - a)) b ≤ v)) (fun s => (intOf s).toNat)
  case atStart => exact ⟨_, rfl, by rw [hD.out]; omega, fun _ => hD.out.symm, fun h => ⟨by rw [hD.out] at h; omega, by rw [hD.out]; omega⟩⟩
  case round =>
  obtain ⟨v, rfl, hv1, hv2, hv3⟩ := hrel
  have hvb : -50 ≤ v ∧ v ≤ 50 := by omega
  by_cases hc : 0 < v ∧ 4000 < a + v
  · go_wp2_with fail
    go_round
    case rel => exact ⟨v - 1, by go_num, by omega, by omega, by omega⟩
    case measure => simp [intOf]; omega
  · by_cases hc2 : 0 < v ∧ b - v < 0
    · have hc3 : a + v ≤ 4000 := by omega
      clear hc
      go_wp2_with fail
      go_round
      case rel => exact ⟨v - 1, by go_num, by omega, by omega, by omega⟩
      case measure => simp [intOf]; omega
    · have hU : (0 < D → v = min (min D (4000 - a)) b) ∧ (D ≤ 0 → v = D) := by omega
      replace hU := Lib.hid hU
      have hcc : v ≤ 0 ∨ (0 < v ∧ a + v ≤ 4000 ∧ 0 ≤ b - v) := by omega
      clear hc hc2 hv1 hv2 hv3
      rcases hcc with hcc | hcc
      all_goals
        go_wp2_with fail
        go_loop [10] (fun s => ∃ u, s = .int .i64 u ∧ v ≤ u ∧ (0 ≤ v → u = v) ∧ (v < 0 → u ≤ 0 ∧ u ≤ max (max v (-a)) (b - 4000))) (fun s => (-(intOf s)).toNat)
        case atStart => exact ⟨v, rfl, by omega, fun _ => rfl, by omega⟩
        case round =>
        obtain ⟨u, rfl, hu1, hu2, hu3⟩ := hrel
        have hub : -50 ≤ u ∧ u ≤ 50 := by omega
        by_cases hk : u < 0 ∧ a + u < 0
        · go_wp2_with fail
          go_round
          case rel => exact ⟨u + 1, by go_num, by omega, by omega, by omega⟩
          case measure => simp [intOf]; omega
        · by_cases hk2 : u < 0 ∧ 4000 < b - u
          · have hk3 : 0 ≤ a + u := by omega
            clear hk
            go_wp2_with fail
            go_round
            case rel => exact ⟨u + 1, by go_num, by omega, by omega, by omega⟩
            case measure => simp [intOf]; omega
          · have hfin : rateD a b h = u := by
              unfold rateD rateQ rateC
              rw [He.out, ← hD.out]
              have := hU.out
              omega
            replace hfin := Lib.hid hfin
            have hkk : 0 ≤ u ∨ (u < 0 ∧ 0 ≤ a + u ∧ b - u ≤ 4000) := by omega
            clear hk hk2 hu1 hu2 hu3
            rcases hkk with hkk | hkk
            all_goals
              go_wp2_with fail
              go_ret3
              rw [hfin.out]
              exact ⟨rfl, rfl⟩
set_option maxHeartbeats 800000 in
set_option maxRecDepth 100000 in
theorem refrate_mid (a b h : Int) (w : World) (ha : 0 ≤ a) (ha' : a ≤ 4000) (hb : 0 ≤ b) (hb' : b ≤ 4000) (hh : 0 ≤ h) (hh' : h ≤ 2) (hq : 50 ≤ 500 + (a - b).tdiv 2) (hq' : 500 + (a - b).tdiv 2 ≤ 950) :
    Calls Tryd.prog 6 #[.int .i64 a, .int .i64 b, .int .i64 h] w fun e w' => e = .returned (.tuple #[.int .i64 (a + rateD a b h), .int .i64 (b - rateD a b h), .int .i64 0]) ∧ w = w' := by
  have t1 := tdiv2_bd (a - b) 2000 (by omega) (by omega)
  have He : rateE a b = (500 + (a - b).tdiv 2) := by unfold rateE; omega
  replace He := Lib.hid He
  have t2 : -50 ≤ ((500 * h - (500 + (a - b).tdiv 2)) * 32).tdiv 1000 ∧ ((500 * h - (500 + (a - b).tdiv 2)) * 32).tdiv 1000 ≤ 50 := rateQ_bd (500 + (a - b).tdiv 2) h (by omega) (by omega) hh hh'
  obtain ⟨D, hD⟩ : ∃ D, D = ((500 * h - (500 + (a - b).tdiv 2)) * 32).tdiv 1000 := ⟨_, rfl⟩
  have hDb : -50 ≤ D ∧ D ≤ 50 := by rw [hD]; exact t2
  replace hD := Lib.hid hD
  go_enter Tryd.func6, Tryd.ntmps6
  go_wp2_with fail
  go_loop [10] (fun s => ∃ v, s = .int .i64 v ∧ v ≤ D ∧ (D ≤ 0 → v = D) ∧ (0 < D → 0 ≤ v ∧ min (min D (4000 - a)) b ≤ v)) (fun s => (intOf s).toNat)
  case atStart => exact ⟨_, rfl, by rw [hD.out]; omega, fun _ => hD.out.symm, fun h => ⟨by rw [hD.out] at h; omega, by rw [hD.out]; omega⟩⟩
  case round =>
  obtain ⟨v, rfl, hv1, hv2, hv3⟩ := hrel
  have hvb : -50 ≤ v ∧ v ≤ 50 := by omega
  by_cases hc : 0 < v ∧ 4000 < a + v
  · go_wp2_with fail
    go_round
    case rel => exact ⟨v - 1, by go_num, by omega, by omega, by omega⟩
    case measure => simp [intOf]; omega
  · by_cases hc2 : 0 < v ∧ b - v < 0
    · have hc3 : a + v ≤ 4000 := by omega
      clear hc
      go_wp2_with fail
      go_round
      case rel => exact ⟨v - 1, by go_num, by omega, by omega, by omega⟩
      case measure => simp [intOf]; omega
    · have hU : (0 < D → v = min (min D (4000 - a)) b) ∧ (D ≤ 0 → v = D) := by omega
      replace hU := Lib.hid hU
      have hcc : v ≤ 0 ∨ (0 < v ∧ a + v ≤ 4000 ∧ 0 ≤ b - v) := by omega
      clear hc hc2 hv1 hv2 hv3
      rcases hcc with hcc | hcc
      all_goals
        go_wp2_with fail
        go_loop [10] (fun s => ∃ u, s = .int .i64 u ∧ v ≤ u ∧ (0 ≤ v → u = v) ∧ (v < 0 → u ≤ 0 ∧ u ≤ max (max v (-a)) (b - 4000))) (fun s => (-(intOf s)).toNat)
        case atStart => exact ⟨v, rfl, by omega, fun _ => rfl, by omega⟩
        case round =>
        obtain ⟨u, rfl, hu1, hu2, hu3⟩ := hrel
        have hub : -50 ≤ u ∧ u ≤ 50 := by omega
        by_cases hk : u < 0 ∧ a + u < 0
        · go_wp2_with fail
          go_round
          case rel => exact ⟨u + 1, by go_num, by omega, by omega, by omega⟩
          case measure => simp [intOf]; omega
        · by_cases hk2 : u < 0 ∧ 4000 < b - u
          · have hk3 : 0 ≤ a + u := by omega
            clear hk
            go_wp2_with fail
            go_round
            case rel => exact ⟨u + 1, by go_num, by omega, by omega, by omega⟩
            case measure => simp [intOf]; omega
          · have hfin : rateD a b h = u := by
              unfold rateD rateQ rateC
              rw [He.out, ← hD.out]
              have := hU.out
              omega
            replace hfin := Lib.hid hfin
            have hkk : 0 ≤ u ∨ (u < 0 ∧ 0 ≤ a + u ∧ b - u ≤ 4000) := by omega
            clear hk hk2 hu1 hu2 hu3
            rcases hkk with hkk | hkk
            all_goals
              go_wp2_with fail
              go_ret3
              rw [hfin.out]
              exact ⟨rfl, rfl⟩
theorem refrate_ok (a b h : Int) (w : World) (ha : 0 ≤ a) (ha' : a ≤ 4000) (hb : 0 ≤ b) (hb' : b ≤ 4000) (hh : 0 ≤ h) (hh' : h ≤ 2) :
    Calls Tryd.prog 6 #[.int .i64 a, .int .i64 b, .int .i64 h] w fun e w' => e = .returned (.tuple #[.int .i64 (a + rateD a b h), .int .i64 (b - rateD a b h), .int .i64 0]) ∧ w = w' := by
  by_cases h1 : 500 + (a - b).tdiv 2 < 50
  · exact refrate_lo a b h w ha ha' hb hb' hh hh' h1
  · by_cases h2 : 950 < 500 + (a - b).tdiv 2
    · exact refrate_hi a b h w ha ha' hb hb' hh hh' h2
    · exact refrate_mid a b h w ha ha' hb hb' hh hh' (by omega) (by omega)
end Go.Proofs.YtmnabijelgpfnaaDoor
