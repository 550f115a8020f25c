import Derived.Test.YtkgkpggfoieioaaGreatDoorMrgg
import Derived.Test.YtkgkpggfoieioaaGreatDoorKindC
import Derived.Test.YtkgkpggfoieioaaGreatDoorMrgd
import Derived.BigQuiet
import Derived.Deep.QuietTactic
import Derived.StillTailTactics
import Derived.Deep.RegionHeld3
import Derived.Deep.CutBlock
import Derived.Deep.DeepCutAuto
namespace Go.Proofs.YtkgkpggfoieioaaGreatDoor
set_option linter.unusedVariables false
open Go.RowKit
/-! world.On, world.Find. -/
theorem SLU.below {w w' : World} {s : SL} {xs : List GU} (h : SLU w s xs) (hb : Below w.heap.size w w') : SLU w' s xs := ⟨(h.1.below hb).more hb.size, h.2⟩
theorem SLJ.below {w w' : World} {s : SL} {xs : List GJ} (h : SLJ w s xs) (hb : Below w.heap.size w w') : SLJ w' s xs := ⟨(h.1.below hb).more hb.size, h.2⟩
theorem WOk.below {w w' : World} {s : SW} {x : GW} (h : WOk w s x) (hb : Below w.heap.size w w') : WOk w' s x := ⟨h.1, h.2.1, h.2.2.1.below hb, h.2.2.2.1.below hb, h.2.2.2.2.1.below hb, h.2.2.2.2.2.below hb⟩
theorem KS.up {w w' : World} {s : SL} {L : List GK} (h : KS w w.heap.size s L) (hb : Below w.heap.size w w') : KS w' w'.heap.size s L := (h.below hb).more hb.size
abbrev wA (s : SW) (x : GW) : Value := .agg #[.int .i64 x.turn, .int .i64 x.next, .int .i64 x.field.wide, .int .i64 x.field.high, .slice s.field.ground.A x.field.ground.length s.field.ground.c, .slice s.field.ore.A x.field.ore.length s.field.ore.c, .slice s.gold.A x.gold.length s.gold.c, .slice s.units.A x.units.length s.units.c, .slice s.queue.A x.queue.length s.queue.c]
abbrev wC (s : SW) (x : GW) : Array Value := #[.int .i64 x.turn, .int .i64 x.next, .int .i64 x.field.wide, .int .i64 x.field.high, .slice s.field.ground.A x.field.ground.length s.field.ground.c, .slice s.field.ore.A x.field.ore.length s.field.ore.c, .slice s.gold.A x.gold.length s.gold.c, .slice s.units.A x.units.length s.units.c, .slice s.queue.A x.queue.length s.queue.c]
theorem two_boxes (w : World) (t t' : TypeId) (cs cs' : Array Value) : Below w.heap.size w ((w.alloc (.cells cs t)).alloc (.cells cs' t')) ∧ Blk ((w.alloc (.cells cs t)).alloc (.cells cs' t')) w.heap.size t cs ∧ Blk ((w.alloc (.cells cs t)).alloc (.cells cs' t')) (w.heap.size + 1) t' cs' :=
  ⟨((Below.refl _ _).alloc (Nat.le_refl _) _).alloc (by simp) _, (Blk.new _ _ _).alloc _, by have := Blk.new (w.alloc (.cells cs t)) t' cs'; simpa using this⟩
theorem WOk.ulen {w : World} {s : SW} {x : GW} (h : WOk w s x) : x.units.length ≤ 9223372036854775807 := by
  have h1 := h.2.2.2.2.1.2.2.1
  have h2 := h.2.2.2.2.1.2.2.2.1
  unfold maxLen at h2; omega
theorem onfn_any (u : GU) (c : Int) (kb : Nat) (w : World) (hc : w.cell? ⟨kb, 0, none⟩ = some (.int .i64 c)) (hb : kb < w.heap.size) :
    Calls Tryz.prog 66 #[uV u, .pointer (some ⟨kb, 0, none⟩)] w fun e w' => e = .returned (.bool (u.spot == c)) ∧ Below w.heap.size w w' := by
  go_enter Tryz.func66, Tryz.ntmps66
  go_wp2_with fail
  go_ret
  exact ⟨rfl, (Below.refl _ _).alloc (Nat.le_refl _) _⟩
set_option maxRecDepth 100000 in
theorem on_any (s : SW) (x : GW) (c : Int) (w : World) (h : WOk w s x) :
    Calls Tryz.prog 42 #[wA s x, .int .i64 c] w fun e w' => e = .returned (.int .i64 (onI x.units c)) ∧ Below w.heap.size w w' := by
  obtain ⟨hb1, hk1, hk2⟩ := two_boxes w 29 3 (wC s x) #[.int .i64 c]
  have hul := h.ulen
  have hi := idxU_any 66 (.pointer (some ⟨w.heap.size + 1, 0, none⟩)) (fun v => v.spot == c) s.units.A s.units.c w.heap.size x.units ((w.alloc (.cells (wC s x) 29)).alloc (.cells #[.int .i64 c] 3)) (h.2.2.2.2.1.1.below hb1) hb1.size hul (fun args w => by kernel_rfl) (fun y hy wz hz => onfn_any y c _ wz ((hk2.below hz hk2.lt).cell 0) (by have := hz.size; have := hk2.lt; omega))
  have c4 : ((w.alloc (.cells (wC s x) 29)).alloc (.cells #[.int .i64 c] 3)).cell? ⟨w.heap.size, 7, none⟩ = some (.slice s.units.A x.units.length s.units.c) := hk1.cell 7
  have l4 := hk1.lt
  replace hi := Lib.hid hi
  replace hb1 := Lib.hid hb1
  clear h hk1 hk2
  unfold wC at c4 l4 hi hb1
  unfold onI
  generalize firstI (fun v : GU => v.spot == c) x.units = r at *
  go_enter Tryz.func42, Tryz.ntmps42
  go_upto_region 1 with fail
  generalize ((w.alloc (.cells #[.int .i64 x.turn, .int .i64 x.next, .int .i64 x.field.wide, .int .i64 x.field.high, .slice s.field.ground.A x.field.ground.length s.field.ground.c, .slice s.field.ore.A x.field.ore.length s.field.ore.c, .slice s.gold.A x.gold.length s.gold.c, .slice s.units.A x.units.length s.units.c, .slice s.queue.A x.queue.length s.queue.c] 29)).alloc (.cells #[.int .i64 c] 3)) = W at *
  go_wp2_with fail
  refine hi.out.mono ?_
  rintro e w2 ⟨rfl, hb2⟩
  have hb3 := hb1.out.trans (hb2.mono hb1.out.size)
  replace hb3 := Lib.hid hb3
  clear hb2
  go_wp2_with fail
  go_ret
  exact ⟨rfl, hb3.out⟩
theorem wfindfn_any (u : GU) (c : Int) (kb : Nat) (w : World) (hc : w.cell? ⟨kb, 0, none⟩ = some (.int .i64 c)) (hb : kb < w.heap.size) :
    Calls Tryz.prog 71 #[uV u, .pointer (some ⟨kb, 0, none⟩)] w fun e w' => e = .returned (.bool (u.id == c)) ∧ Below w.heap.size w w' := by
  go_enter Tryz.func71, Tryz.ntmps71
  go_wp2_with fail
  go_ret
  exact ⟨rfl, (Below.refl _ _).alloc (Nat.le_refl _) _⟩
set_option maxRecDepth 100000 in
theorem wfind_any (s : SW) (x : GW) (c : Int) (w : World) (h : WOk w s x) :
    Calls Tryz.prog 51 #[wA s x, .int .i64 c] w fun e w' => e = .returned (.int .i64 (findId x.units c)) ∧ Below w.heap.size w w' := by
  obtain ⟨hb1, hk1, hk2⟩ := two_boxes w 29 3 (wC s x) #[.int .i64 c]
  have hul := h.ulen
  have hi := idxU_any 71 (.pointer (some ⟨w.heap.size + 1, 0, none⟩)) (fun v => v.id == c) s.units.A s.units.c w.heap.size x.units ((w.alloc (.cells (wC s x) 29)).alloc (.cells #[.int .i64 c] 3)) (h.2.2.2.2.1.1.below hb1) hb1.size hul (fun args w => by kernel_rfl) (fun y hy wz hz => wfindfn_any y c _ wz ((hk2.below hz hk2.lt).cell 0) (by have := hz.size; have := hk2.lt; omega))
  have c4 : ((w.alloc (.cells (wC s x) 29)).alloc (.cells #[.int .i64 c] 3)).cell? ⟨w.heap.size, 7, none⟩ = some (.slice s.units.A x.units.length s.units.c) := hk1.cell 7
  have l4 := hk1.lt
  replace hi := Lib.hid hi
  replace hb1 := Lib.hid hb1
  clear h hk1 hk2
  unfold wC at c4 l4 hi hb1
  unfold findId
  generalize firstI (fun v : GU => v.id == c) x.units = r at *
  go_enter Tryz.func51, Tryz.ntmps51
  go_upto_region 1 with fail
  generalize ((w.alloc (.cells #[.int .i64 x.turn, .int .i64 x.next, .int .i64 x.field.wide, .int .i64 x.field.high, .slice s.field.ground.A x.field.ground.length s.field.ground.c, .slice s.field.ore.A x.field.ore.length s.field.ore.c, .slice s.gold.A x.gold.length s.gold.c, .slice s.units.A x.units.length s.units.c, .slice s.queue.A x.queue.length s.queue.c] 29)).alloc (.cells #[.int .i64 c] 3)) = W at *
  go_wp2_with fail
  refine hi.out.mono ?_
  rintro e w2 ⟨rfl, hb2⟩
  have hb3 := hb1.out.trans (hb2.mono hb1.out.size)
  replace hb3 := Lib.hid hb3
  clear hb2
  go_wp2_with fail
  go_ret
  exact ⟨rfl, hb3.out⟩
end Go.Proofs.YtkgkpggfoieioaaGreatDoor
