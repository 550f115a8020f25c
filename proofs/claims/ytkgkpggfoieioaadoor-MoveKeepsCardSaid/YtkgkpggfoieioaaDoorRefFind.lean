import Derived.Test.YtkgkpggfoieioaaDoorMrgf
namespace Go.Proofs.YtkgkpggfoieioaaDoor
set_option linter.unusedVariables false
open Go.RowKit
/-! marchref2.Find. -/
set_option maxRecDepth 100000 in
theorem rwfind_any (s : SW) (x : GW) (c : Int) (w : World) (h : WOk w s x) :
    Calls Tryd.prog 34 #[wA s x, .int .i64 c] w fun e w' => e = .returned (.int .i64 (findId x.units c)) ∧ Below w.heap.size w w' := by
  have hb1 : Below w.heap.size w (w.alloc (.cells #[.int .i64 x.turn, .int .i64 x.next, .int .i64 x.field.wide, .int .i64 x.field.high, .slice s.field.ground.A x.field.ground.length s.field.ground.c, .slice s.field.ore.A x.field.ore.length s.field.ore.c, .slice s.gold.A x.gold.length s.gold.c, .slice s.units.A x.units.length s.units.c, .slice s.queue.A x.queue.length s.queue.c] 55)) := (Below.refl _ _).alloc (Nat.le_refl _) _
  have hk1 := Blk.new w 55 #[.int .i64 x.turn, .int .i64 x.next, .int .i64 x.field.wide, .int .i64 x.field.high, .slice s.field.ground.A x.field.ground.length s.field.ground.c, .slice s.field.ore.A x.field.ore.length s.field.ore.c, .slice s.gold.A x.gold.length s.gold.c, .slice s.units.A x.units.length s.units.c, .slice s.queue.A x.queue.length s.queue.c]
  have hul := h.ulen
  have hru := h.ru.below hb1
  obtain ⟨sf, sg, ⟨uA, uc⟩, sq⟩ := s
  dsimp only at hb1 hk1 hru ⊢
  unfold findId
  go_enter Tryd.func34, Tryd.ntmps34
  go_upto_region 1 with fail
  generalize (w.alloc (.cells #[.int .i64 x.turn, .int .i64 x.next, .int .i64 x.field.wide, .int .i64 x.field.high, .slice sf.ground.A x.field.ground.length sf.ground.c, .slice sf.ore.A x.field.ore.length sf.ore.c, .slice sg.A x.gold.length sg.c, .slice uA x.units.length uc, .slice sq.A x.queue.length sq.c] 55)) = W at *
  have c4 : W.cell? ⟨w.heap.size, 7, none⟩ = some (.slice uA x.units.length uc) := hk1.cell 7
  have l4 := hk1.lt
  clear h hk1
  replace hb1 := Lib.hid hb1
  replace hru := Lib.hid hru
  go_wp2_with fail
  go_loop [5] (fun vi => ∃ k : Nat, vi = .int .i64 k ∧ k ≤ x.units.length ∧ Hid (∀ y ∈ x.units.take k, (y.id == c) = false)) (fun vi => x.units.length - (intOf vi).toNat)
  case atStart => exact ⟨0, rfl, Nat.zero_le _, Lib.hid (by simp)⟩
  case round =>
    obtain ⟨k, rfl, hk, hK⟩ := hrel
    by_cases hlt : k < x.units.length
    · have i1 : (k : Int) < (x.units.length : Int) := by omega
      obtain ⟨b, o, hA, hbl, y0, y1, y2, y3, y4, y5, y6, y7⟩ := ru_at hru.out k hlt
      subst hA
      have hfa := first_at (fun v : GU => v.id == c) x.units k _ (gu_get hlt)
      have htn := take_no (fun v : GU => v.id == c) x.units k _ (gu_get hlt) hK.out
      generalize (gu x.units k).id = z at *
      replace hfa := Lib.hid hfa
      replace htn := Lib.hid htn
      by_cases hq : z = c
      · have hf := hfa.out (by simp [hq]) hK.out
        have e1 : (z == c) = true := by simp [hq]
        replace hf := Lib.hid hf
        replace hq := Lib.hid hq
        go_wp2_with fail
        go_ret
        exact ⟨by rw [hf.out]; rfl, hb1.out⟩
      · have hn := Lib.hid (htn.out (by simp [hq]))
        have e1 : (z == c) = false := by simp [hq]
        replace hq := Lib.hid hq
        go_wp2_with fail
        go_round
        case rel => exact ⟨k + 1, by go_num, by omega, hn⟩
        case measure => simp [intOf]; omega
    · have i1 : ¬ (k : Int) < (x.units.length : Int) := by omega
      have hf := first_no (fun v : GU => v.id == c) x.units (by have := hK.out; rwa [List.take_of_length_le (by omega)] at this)
      replace hf := Lib.hid hf
      go_wp2_with fail
      go_ret
      exact ⟨by rw [hf.out]; rfl, hb1.out⟩
end Go.Proofs.YtkgkpggfoieioaaDoor
