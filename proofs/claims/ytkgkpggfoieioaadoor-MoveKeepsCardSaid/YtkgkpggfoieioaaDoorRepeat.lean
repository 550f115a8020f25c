import Derived.Test.YtkgkpggfoieioaaDoorMrga
import Derived.Test.YtkgkpggfoieioaaDoorMrgd
import Derived.Laws.CopyOwn
import Derived.Deep.RegionLaw
import Derived.Deep.CutBlock
import Derived.Deep.DeepCutAuto
namespace Go.Proofs.YtkgkpggfoieioaaDoor
set_option linter.unusedVariables false
open Go.RowKit
/-! slices.Repeat: a row of one int, once to four times. -/
theorem mul64_1 (w : World) : Calls Tryd.prog 176 #[.int .u64 1, .int .u64 1] w fun e w' => e = .returned (.tuple #[.int .u64 0, .int .u64 1]) ∧ w = w' := by
  go_enter Tryd.func176, Tryd.ntmps176
  go_wp2
  go_ret2
  exact ⟨rfl, rfl⟩
theorem mul_1 (w : World) : Calls Tryd.prog 154 #[.int .u64 1, .int .u64 1] w fun e w' => e = .returned (.tuple #[.int .u64 0, .int .u64 1]) ∧ w = w' := by
  go_enter Tryd.func154, Tryd.ntmps154
  go_wp2_with (go_at_call 176; refine (mul64_1 _).mono ?_; rintro e w' ⟨rfl, rfl⟩)
  go_ret2
  exact ⟨rfl, rfl⟩
theorem mul64_2 (w : World) : Calls Tryd.prog 176 #[.int .u64 1, .int .u64 2] w fun e w' => e = .returned (.tuple #[.int .u64 0, .int .u64 2]) ∧ w = w' := by
  go_enter Tryd.func176, Tryd.ntmps176
  go_wp2
  go_ret2
  exact ⟨rfl, rfl⟩
theorem mul_2 (w : World) : Calls Tryd.prog 154 #[.int .u64 1, .int .u64 2] w fun e w' => e = .returned (.tuple #[.int .u64 0, .int .u64 2]) ∧ w = w' := by
  go_enter Tryd.func154, Tryd.ntmps154
  go_wp2_with (go_at_call 176; refine (mul64_2 _).mono ?_; rintro e w' ⟨rfl, rfl⟩)
  go_ret2
  exact ⟨rfl, rfl⟩
theorem mul64_3 (w : World) : Calls Tryd.prog 176 #[.int .u64 1, .int .u64 3] w fun e w' => e = .returned (.tuple #[.int .u64 0, .int .u64 3]) ∧ w = w' := by
  go_enter Tryd.func176, Tryd.ntmps176
  go_wp2
  go_ret2
  exact ⟨rfl, rfl⟩
theorem mul_3 (w : World) : Calls Tryd.prog 154 #[.int .u64 1, .int .u64 3] w fun e w' => e = .returned (.tuple #[.int .u64 0, .int .u64 3]) ∧ w = w' := by
  go_enter Tryd.func154, Tryd.ntmps154
  go_wp2_with (go_at_call 176; refine (mul64_3 _).mono ?_; rintro e w' ⟨rfl, rfl⟩)
  go_ret2
  exact ⟨rfl, rfl⟩
theorem mul64_4 (w : World) : Calls Tryd.prog 176 #[.int .u64 1, .int .u64 4] w fun e w' => e = .returned (.tuple #[.int .u64 0, .int .u64 4]) ∧ w = w' := by
  go_enter Tryd.func176, Tryd.ntmps176
  go_wp2
  go_ret2
  exact ⟨rfl, rfl⟩
theorem mul_4 (w : World) : Calls Tryd.prog 154 #[.int .u64 1, .int .u64 4] w fun e w' => e = .returned (.tuple #[.int .u64 0, .int .u64 4]) ∧ w = w' := by
  go_enter Tryd.func154, Tryd.ntmps154
  go_wp2_with (go_at_call 176; refine (mul64_4 _).mono ?_; rintro e w' ⟨rfl, rfl⟩)
  go_ret2
  exact ⟨rfl, rfl⟩
set_option maxHeartbeats 1600000 in
set_option maxRecDepth 100000 in
theorem repeat_1 (b : Nat) (g : Int) (w : World) (hb : Blk w b 3 #[.int .i64 g]) :
    Calls Tryd.prog 120 #[.slice (some ⟨b, 0, none⟩) 1 1, .int .i64 1] w fun e w' => ∃ v, e = .returned v ∧ w'.ownsRow w.heap.size 3 1 v 1 [.int .i64 g] ∧ Below w.heap.size w w' := by
  have hsz : (Tryd.prog.info? 3).map (·.size) = some 1 := by kernel_rfl
  have hmk : ∀ w, (Instr.makeSlice 34 (.int .i64 1) (.int .i64 1)).run Tryd.prog w = .ok (.slice (some ⟨w.heap.size, 0, none⟩) 1 1) (w.alloc (.cells #[.int .i64 0] 3)) := fun w => by kernel_rfl
  have hlt := hb.lt
  have H := Lib.hid hb
  clear hb
  go_enter Tryd.func120, Tryd.ntmps120
  go_upto_region 7 with (go_at_call 154; refine (mul_1 _).mono ?_; rintro e w' ⟨rfl, rfl⟩)
  have hb1 : Below w.heap.size w (w.alloc (.cells #[.int .i64 0] 3)) := (Below.refl _ _).alloc (Nat.le_refl _) _
  have hk1 : (w.alloc (.cells #[.int .i64 0] 3)).heap[w.heap.size]? = some (.cells [.int .i64 0].toArray 3 (0, 0)) := Blk.new w _ _
  have hs1 := H.out.alloc (.cells #[.int .i64 0] 3)
  generalize (w.alloc (.cells #[.int .i64 0] 3)) = W1 at *
  obtain ⟨nb, hnb⟩ : ∃ nb, w.heap.size = nb := ⟨_, rfl⟩
  rw [hnb] at hk1 hlt
  rw [hnb]
  replace hk1 := Lib.hid hk1
  replace hb1 := Lib.hid hb1
  replace hs1 := Lib.hid hs1
  have hnb2 : w.heap.size ≤ nb := by omega
  replace hnb := Lib.hid hnb
  have hsrc : ∀ (j : Nat) v, ([.int .i64 g] : List Value)[j]? = some v → W1.cell? (Addr.add ⟨b, 0, none⟩ j) = some v := fun j v hj => by
    rcases j with _ | j
    · simp at hj; subst hj; exact hs1.out.cell 0
    · simp at hj
  replace hsrc := Lib.hid hsrc
  go_wp2_with (refine wpList_copy_splice rfl (.tmp 31) (.tmp 32) 34 34 rfl 3 Tryd.underlying34 hsz (some ⟨nb, 0, none⟩) (some ⟨b, 0, none⟩) 1 1 1 1 rfl rfl nb 0 [.int .i64 0] 3 hk1.out [.int .i64 g] rfl (fun _ => ⟨rfl, ⟨b, 0, none⟩, rfl, hsrc.out⟩) (by simp) (by simp [Value.oneCell']) w.heap.size w hb1.out hnb2 ?_; intro w2 hg2 hb2)
  clear hsrc
  have hg3 : w2.heap[nb]? = some (.cells [.int .i64 g].toArray 3 (0, 0)) := by
    have := hg2.out
    simpa [splice] using this
  clear hg2
  replace hg3 := Lib.hid hg3
  replace hb2 := Lib.hid hb2
  go_loopw [8] (fun v wr => ((v = .int .i64 1 ∧ Hid (wr.heap[nb]? = some (.cells [.int .i64 g].toArray 3 (0, 0))))) ∧ Hid (Below w.heap.size w wr)) (fun v _ => 1 - (intOf v).toNat)
  case atStart => exact ⟨⟨rfl, hg3⟩, hb2⟩
  case round =>
    obtain ⟨hv, hbr⟩ := hrel
    rcases hv with ⟨rfl, hg⟩
    · have hown : wr.ownsRow nb 3 1 (.slice (some ⟨nb, 0, none⟩) 1 1) 1 [.int .i64 g] := by
        exact ⟨rfl, .inr ⟨nb, 1, [.int .i64 g].toArray, rfl, Nat.le_refl _, hg.out, Nat.le_refl _, (by unfold maxLen; omega), rfl, rfl⟩⟩
      replace hown := Lib.hid hown
      go_wp2_with fail
      go_ret
      exact ⟨_, rfl, by rw [hnb.out]; exact hown.out, hbr.out⟩
set_option maxHeartbeats 1600000 in
set_option maxRecDepth 100000 in
theorem repeat_2 (b : Nat) (g : Int) (w : World) (hb : Blk w b 3 #[.int .i64 g]) :
    Calls Tryd.prog 120 #[.slice (some ⟨b, 0, none⟩) 1 1, .int .i64 2] w fun e w' => ∃ v, e = .returned v ∧ w'.ownsRow w.heap.size 3 1 v 2 [.int .i64 g, .int .i64 g] ∧ Below w.heap.size w w' := by
  have hsz : (Tryd.prog.info? 3).map (·.size) = some 1 := by kernel_rfl
  have hmk : ∀ w, (Instr.makeSlice 34 (.int .i64 2) (.int .i64 2)).run Tryd.prog w = .ok (.slice (some ⟨w.heap.size, 0, none⟩) 2 2) (w.alloc (.cells #[.int .i64 0, .int .i64 0] 3)) := fun w => by kernel_rfl
  have hlt := hb.lt
  have H := Lib.hid hb
  clear hb
  go_enter Tryd.func120, Tryd.ntmps120
  go_upto_region 7 with (go_at_call 154; refine (mul_2 _).mono ?_; rintro e w' ⟨rfl, rfl⟩)
  have hb1 : Below w.heap.size w (w.alloc (.cells #[.int .i64 0, .int .i64 0] 3)) := (Below.refl _ _).alloc (Nat.le_refl _) _
  have hk1 : (w.alloc (.cells #[.int .i64 0, .int .i64 0] 3)).heap[w.heap.size]? = some (.cells [.int .i64 0, .int .i64 0].toArray 3 (0, 0)) := Blk.new w _ _
  have hs1 := H.out.alloc (.cells #[.int .i64 0, .int .i64 0] 3)
  generalize (w.alloc (.cells #[.int .i64 0, .int .i64 0] 3)) = W1 at *
  obtain ⟨nb, hnb⟩ : ∃ nb, w.heap.size = nb := ⟨_, rfl⟩
  rw [hnb] at hk1 hlt
  rw [hnb]
  replace hk1 := Lib.hid hk1
  replace hb1 := Lib.hid hb1
  replace hs1 := Lib.hid hs1
  have hnb2 : w.heap.size ≤ nb := by omega
  replace hnb := Lib.hid hnb
  have hsrc : ∀ (j : Nat) v, ([.int .i64 g] : List Value)[j]? = some v → W1.cell? (Addr.add ⟨b, 0, none⟩ j) = some v := fun j v hj => by
    rcases j with _ | j
    · simp at hj; subst hj; exact hs1.out.cell 0
    · simp at hj
  replace hsrc := Lib.hid hsrc
  go_wp2_with (refine wpList_copy_splice rfl (.tmp 31) (.tmp 32) 34 34 rfl 3 Tryd.underlying34 hsz (some ⟨nb, 0, none⟩) (some ⟨b, 0, none⟩) 2 2 1 1 rfl rfl nb 0 [.int .i64 0, .int .i64 0] 3 hk1.out [.int .i64 g] rfl (fun _ => ⟨rfl, ⟨b, 0, none⟩, rfl, hsrc.out⟩) (by simp) (by simp [Value.oneCell']) w.heap.size w hb1.out hnb2 ?_; intro w2 hg2 hb2)
  clear hsrc
  have hg3 : w2.heap[nb]? = some (.cells [.int .i64 g, .int .i64 0].toArray 3 (0, 0)) := by
    have := hg2.out
    simpa [splice] using this
  clear hg2
  replace hg3 := Lib.hid hg3
  replace hb2 := Lib.hid hb2
  go_loopw [8] (fun v wr => ((v = .int .i64 1 ∧ Hid (wr.heap[nb]? = some (.cells [.int .i64 g, .int .i64 0].toArray 3 (0, 0)))) ∨ (v = .int .i64 2 ∧ Hid (wr.heap[nb]? = some (.cells [.int .i64 g, .int .i64 g].toArray 3 (0, 0))))) ∧ Hid (Below w.heap.size w wr)) (fun v _ => 2 - (intOf v).toNat)
  case atStart => exact ⟨.inl ⟨rfl, hg3⟩, hb2⟩
  case round =>
    obtain ⟨hv, hbr⟩ := hrel
    rcases hv with ⟨rfl, hg⟩ | ⟨rfl, hg⟩
    · have hbk : Blk wr nb 3 [.int .i64 g, .int .i64 0].toArray := hg.out
      have hsrc : ∀ (j : Nat) v, ([.int .i64 g] : List Value)[j]? = some v → wr.cell? (Addr.add ⟨nb, 0, none⟩ j) = some v := fun j v hj => by
        rcases j with _ | _ | j
        · (simp at hj; subst hj; exact hbk.cell 0)
        · first | (simp at hj; done) | (simp at hj; subst hj; exact hbk.cell 1)
        · (simp at hj; done)
      replace hsrc := Lib.hid hsrc
      replace hbk := Lib.hid hbk
      go_upto_region 9 with fail
      go_region_law (refine step_copy_splice rfl (.tmp 41) (.tmp 44) 34 34 rfl 3 Tryd.underlying34 hsz (some ⟨nb, 1, none⟩) (some ⟨nb, 0, none⟩) 1 1 1 2 (by simp [Act.eval, Act.put]) (by simp [Act.eval, Act.put]) nb 1 [.int .i64 g, .int .i64 0] 3 hg.out [.int .i64 g] rfl (fun _ => ⟨rfl, ⟨nb, 0, none⟩, rfl, hsrc.out⟩) (by simp) (by simp [Value.oneCell']) w.heap.size w (bdrewN hbr.out 1) hnb2 ?_; intro w4 hg4 hb4)
      have hg5 : w4.heap[nb]? = some (.cells [.int .i64 g, .int .i64 g].toArray 3 (0, 0)) := by
        have := hg4.out
        simpa [splice] using this
      replace hg5 := Lib.hid hg5
      replace hb4 := Lib.hid hb4
      (try simp only [List.getElem_toArray, List.getElem_cons_succ, List.getElem_cons_zero])
      (try simp only [Act.put])
      (try simp only [List.setIfInBounds_toArray])
      (try simp only [List.set_cons_succ, List.set_cons_zero])
      rw [show IntKind.i64.wrap 2 = 2 from rfl]
      go_roundw
      case rel =>
        first
          | exact ⟨.inr (⟨rfl, hg5⟩), hb4⟩
          | exact ⟨_, _, _, _, _, _, _, _, _, _, _, _, _, _, ⟨.inr (⟨rfl, hg5⟩), hb4⟩, rfl⟩
      case measure => simp [intOf]
    · have hown : wr.ownsRow nb 3 1 (.slice (some ⟨nb, 0, none⟩) 2 2) 2 [.int .i64 g, .int .i64 g] := by
        exact ⟨rfl, .inr ⟨nb, 2, [.int .i64 g, .int .i64 g].toArray, rfl, Nat.le_refl _, hg.out, Nat.le_refl _, (by unfold maxLen; omega), rfl, rfl⟩⟩
      replace hown := Lib.hid hown
      go_wp2_with fail
      go_ret
      exact ⟨_, rfl, by rw [hnb.out]; exact hown.out, hbr.out⟩
set_option maxHeartbeats 1600000 in
set_option maxRecDepth 100000 in
theorem repeat_3 (b : Nat) (g : Int) (w : World) (hb : Blk w b 3 #[.int .i64 g]) :
    Calls Tryd.prog 120 #[.slice (some ⟨b, 0, none⟩) 1 1, .int .i64 3] w fun e w' => ∃ v, e = .returned v ∧ w'.ownsRow w.heap.size 3 1 v 3 [.int .i64 g, .int .i64 g, .int .i64 g] ∧ Below w.heap.size w w' := by
  have hsz : (Tryd.prog.info? 3).map (·.size) = some 1 := by kernel_rfl
  have hmk : ∀ w, (Instr.makeSlice 34 (.int .i64 3) (.int .i64 3)).run Tryd.prog w = .ok (.slice (some ⟨w.heap.size, 0, none⟩) 3 3) (w.alloc (.cells #[.int .i64 0, .int .i64 0, .int .i64 0] 3)) := fun w => by kernel_rfl
  have hlt := hb.lt
  have H := Lib.hid hb
  clear hb
  go_enter Tryd.func120, Tryd.ntmps120
  go_upto_region 7 with (go_at_call 154; refine (mul_3 _).mono ?_; rintro e w' ⟨rfl, rfl⟩)
  have hb1 : Below w.heap.size w (w.alloc (.cells #[.int .i64 0, .int .i64 0, .int .i64 0] 3)) := (Below.refl _ _).alloc (Nat.le_refl _) _
  have hk1 : (w.alloc (.cells #[.int .i64 0, .int .i64 0, .int .i64 0] 3)).heap[w.heap.size]? = some (.cells [.int .i64 0, .int .i64 0, .int .i64 0].toArray 3 (0, 0)) := Blk.new w _ _
  have hs1 := H.out.alloc (.cells #[.int .i64 0, .int .i64 0, .int .i64 0] 3)
  generalize (w.alloc (.cells #[.int .i64 0, .int .i64 0, .int .i64 0] 3)) = W1 at *
  obtain ⟨nb, hnb⟩ : ∃ nb, w.heap.size = nb := ⟨_, rfl⟩
  rw [hnb] at hk1 hlt
  rw [hnb]
  replace hk1 := Lib.hid hk1
  replace hb1 := Lib.hid hb1
  replace hs1 := Lib.hid hs1
  have hnb2 : w.heap.size ≤ nb := by omega
  replace hnb := Lib.hid hnb
  have hsrc : ∀ (j : Nat) v, ([.int .i64 g] : List Value)[j]? = some v → W1.cell? (Addr.add ⟨b, 0, none⟩ j) = some v := fun j v hj => by
    rcases j with _ | j
    · simp at hj; subst hj; exact hs1.out.cell 0
    · simp at hj
  replace hsrc := Lib.hid hsrc
  go_wp2_with (refine wpList_copy_splice rfl (.tmp 31) (.tmp 32) 34 34 rfl 3 Tryd.underlying34 hsz (some ⟨nb, 0, none⟩) (some ⟨b, 0, none⟩) 3 3 1 1 rfl rfl nb 0 [.int .i64 0, .int .i64 0, .int .i64 0] 3 hk1.out [.int .i64 g] rfl (fun _ => ⟨rfl, ⟨b, 0, none⟩, rfl, hsrc.out⟩) (by simp) (by simp [Value.oneCell']) w.heap.size w hb1.out hnb2 ?_; intro w2 hg2 hb2)
  clear hsrc
  have hg3 : w2.heap[nb]? = some (.cells [.int .i64 g, .int .i64 0, .int .i64 0].toArray 3 (0, 0)) := by
    have := hg2.out
    simpa [splice] using this
  clear hg2
  replace hg3 := Lib.hid hg3
  replace hb2 := Lib.hid hb2
  go_loopw [8] (fun v wr => ((v = .int .i64 1 ∧ Hid (wr.heap[nb]? = some (.cells [.int .i64 g, .int .i64 0, .int .i64 0].toArray 3 (0, 0)))) ∨ (v = .int .i64 2 ∧ Hid (wr.heap[nb]? = some (.cells [.int .i64 g, .int .i64 g, .int .i64 0].toArray 3 (0, 0)))) ∨ (v = .int .i64 3 ∧ Hid (wr.heap[nb]? = some (.cells [.int .i64 g, .int .i64 g, .int .i64 g].toArray 3 (0, 0))))) ∧ Hid (Below w.heap.size w wr)) (fun v _ => 3 - (intOf v).toNat)
  case atStart => exact ⟨.inl ⟨rfl, hg3⟩, hb2⟩
  case round =>
    obtain ⟨hv, hbr⟩ := hrel
    rcases hv with ⟨rfl, hg⟩ | ⟨rfl, hg⟩ | ⟨rfl, hg⟩
    · have hbk : Blk wr nb 3 [.int .i64 g, .int .i64 0, .int .i64 0].toArray := hg.out
      have hsrc : ∀ (j : Nat) v, ([.int .i64 g] : List Value)[j]? = some v → wr.cell? (Addr.add ⟨nb, 0, none⟩ j) = some v := fun j v hj => by
        rcases j with _ | _ | j
        · (simp at hj; subst hj; exact hbk.cell 0)
        · first | (simp at hj; done) | (simp at hj; subst hj; exact hbk.cell 1)
        · (simp at hj; done)
      replace hsrc := Lib.hid hsrc
      replace hbk := Lib.hid hbk
      go_upto_region 9 with fail
      go_region_law (refine step_copy_splice rfl (.tmp 41) (.tmp 44) 34 34 rfl 3 Tryd.underlying34 hsz (some ⟨nb, 1, none⟩) (some ⟨nb, 0, none⟩) 2 2 1 3 (by simp [Act.eval, Act.put]) (by simp [Act.eval, Act.put]) nb 1 [.int .i64 g, .int .i64 0, .int .i64 0] 3 hg.out [.int .i64 g] rfl (fun _ => ⟨rfl, ⟨nb, 0, none⟩, rfl, hsrc.out⟩) (by simp) (by simp [Value.oneCell']) w.heap.size w (bdrewN hbr.out 1) hnb2 ?_; intro w4 hg4 hb4)
      have hg5 : w4.heap[nb]? = some (.cells [.int .i64 g, .int .i64 g, .int .i64 0].toArray 3 (0, 0)) := by
        have := hg4.out
        simpa [splice] using this
      replace hg5 := Lib.hid hg5
      replace hb4 := Lib.hid hb4
      (try simp only [List.getElem_toArray, List.getElem_cons_succ, List.getElem_cons_zero])
      (try simp only [Act.put])
      (try simp only [List.setIfInBounds_toArray])
      (try simp only [List.set_cons_succ, List.set_cons_zero])
      rw [show IntKind.i64.wrap 2 = 2 from rfl]
      go_roundw
      case rel =>
        first
          | exact ⟨.inr (.inl ⟨rfl, hg5⟩), hb4⟩
          | exact ⟨_, _, _, _, _, _, _, _, _, _, _, _, _, _, ⟨.inr (.inl ⟨rfl, hg5⟩), hb4⟩, rfl⟩
      case measure => simp [intOf]
    · have hbk : Blk wr nb 3 [.int .i64 g, .int .i64 g, .int .i64 0].toArray := hg.out
      have hsrc : ∀ (j : Nat) v, ([.int .i64 g] : List Value)[j]? = some v → wr.cell? (Addr.add ⟨nb, 0, none⟩ j) = some v := fun j v hj => by
        rcases j with _ | _ | j
        · (simp at hj; subst hj; exact hbk.cell 0)
        · first | (simp at hj; done) | (simp at hj; subst hj; exact hbk.cell 1)
        · (simp at hj; done)
      replace hsrc := Lib.hid hsrc
      replace hbk := Lib.hid hbk
      go_upto_region 9 with fail
      go_region_law (refine step_copy_splice rfl (.tmp 41) (.tmp 44) 34 34 rfl 3 Tryd.underlying34 hsz (some ⟨nb, 2, none⟩) (some ⟨nb, 0, none⟩) 1 1 2 3 (by simp [Act.eval, Act.put]) (by simp [Act.eval, Act.put]) nb 2 [.int .i64 g, .int .i64 g, .int .i64 0] 3 hg.out [.int .i64 g] rfl (fun _ => ⟨rfl, ⟨nb, 0, none⟩, rfl, hsrc.out⟩) (by simp) (by simp [Value.oneCell']) w.heap.size w (bdrewN hbr.out 1) hnb2 ?_; intro w4 hg4 hb4)
      have hg5 : w4.heap[nb]? = some (.cells [.int .i64 g, .int .i64 g, .int .i64 g].toArray 3 (0, 0)) := by
        have := hg4.out
        simpa [splice] using this
      replace hg5 := Lib.hid hg5
      replace hb4 := Lib.hid hb4
      (try simp only [List.getElem_toArray, List.getElem_cons_succ, List.getElem_cons_zero])
      (try simp only [Act.put])
      (try simp only [List.setIfInBounds_toArray])
      (try simp only [List.set_cons_succ, List.set_cons_zero])
      rw [show IntKind.i64.wrap 3 = 3 from rfl]
      go_roundw
      case rel =>
        first
          | exact ⟨.inr (.inr (⟨rfl, hg5⟩)), hb4⟩
          | exact ⟨_, _, _, _, _, _, _, _, _, _, _, _, _, _, ⟨.inr (.inr (⟨rfl, hg5⟩)), hb4⟩, rfl⟩
      case measure => simp [intOf]
    · have hown : wr.ownsRow nb 3 1 (.slice (some ⟨nb, 0, none⟩) 3 3) 3 [.int .i64 g, .int .i64 g, .int .i64 g] := by
        exact ⟨rfl, .inr ⟨nb, 3, [.int .i64 g, .int .i64 g, .int .i64 g].toArray, rfl, Nat.le_refl _, hg.out, Nat.le_refl _, (by unfold maxLen; omega), rfl, rfl⟩⟩
      replace hown := Lib.hid hown
      go_wp2_with fail
      go_ret
      exact ⟨_, rfl, by rw [hnb.out]; exact hown.out, hbr.out⟩
set_option maxHeartbeats 1600000 in
set_option maxRecDepth 100000 in
theorem repeat_4 (b : Nat) (g : Int) (w : World) (hb : Blk w b 3 #[.int .i64 g]) :
    Calls Tryd.prog 120 #[.slice (some ⟨b, 0, none⟩) 1 1, .int .i64 4] w fun e w' => ∃ v, e = .returned v ∧ w'.ownsRow w.heap.size 3 1 v 4 [.int .i64 g, .int .i64 g, .int .i64 g, .int .i64 g] ∧ Below w.heap.size w w' := by
  have hsz : (Tryd.prog.info? 3).map (·.size) = some 1 := by kernel_rfl
  have hmk : ∀ w, (Instr.makeSlice 34 (.int .i64 4) (.int .i64 4)).run Tryd.prog w = .ok (.slice (some ⟨w.heap.size, 0, none⟩) 4 4) (w.alloc (.cells #[.int .i64 0, .int .i64 0, .int .i64 0, .int .i64 0] 3)) := fun w => by kernel_rfl
  have hlt := hb.lt
  have H := Lib.hid hb
  clear hb
  go_enter Tryd.func120, Tryd.ntmps120
  go_upto_region 7 with (go_at_call 154; refine (mul_4 _).mono ?_; rintro e w' ⟨rfl, rfl⟩)
  have hb1 : Below w.heap.size w (w.alloc (.cells #[.int .i64 0, .int .i64 0, .int .i64 0, .int .i64 0] 3)) := (Below.refl _ _).alloc (Nat.le_refl _) _
  have hk1 : (w.alloc (.cells #[.int .i64 0, .int .i64 0, .int .i64 0, .int .i64 0] 3)).heap[w.heap.size]? = some (.cells [.int .i64 0, .int .i64 0, .int .i64 0, .int .i64 0].toArray 3 (0, 0)) := Blk.new w _ _
  have hs1 := H.out.alloc (.cells #[.int .i64 0, .int .i64 0, .int .i64 0, .int .i64 0] 3)
  generalize (w.alloc (.cells #[.int .i64 0, .int .i64 0, .int .i64 0, .int .i64 0] 3)) = W1 at *
  obtain ⟨nb, hnb⟩ : ∃ nb, w.heap.size = nb := ⟨_, rfl⟩
  rw [hnb] at hk1 hlt
  rw [hnb]
  replace hk1 := Lib.hid hk1
  replace hb1 := Lib.hid hb1
  replace hs1 := Lib.hid hs1
  have hnb2 : w.heap.size ≤ nb := by omega
  replace hnb := Lib.hid hnb
  have hsrc : ∀ (j : Nat) v, ([.int .i64 g] : List Value)[j]? = some v → W1.cell? (Addr.add ⟨b, 0, none⟩ j) = some v := fun j v hj => by
    rcases j with _ | j
    · simp at hj; subst hj; exact hs1.out.cell 0
    · simp at hj
  replace hsrc := Lib.hid hsrc
  go_wp2_with (refine wpList_copy_splice rfl (.tmp 31) (.tmp 32) 34 34 rfl 3 Tryd.underlying34 hsz (some ⟨nb, 0, none⟩) (some ⟨b, 0, none⟩) 4 4 1 1 rfl rfl nb 0 [.int .i64 0, .int .i64 0, .int .i64 0, .int .i64 0] 3 hk1.out [.int .i64 g] rfl (fun _ => ⟨rfl, ⟨b, 0, none⟩, rfl, hsrc.out⟩) (by simp) (by simp [Value.oneCell']) w.heap.size w hb1.out hnb2 ?_; intro w2 hg2 hb2)
  clear hsrc
  have hg3 : w2.heap[nb]? = some (.cells [.int .i64 g, .int .i64 0, .int .i64 0, .int .i64 0].toArray 3 (0, 0)) := by
    have := hg2.out
    simpa [splice] using this
  clear hg2
  replace hg3 := Lib.hid hg3
  replace hb2 := Lib.hid hb2
  go_loopw [8] (fun v wr => ((v = .int .i64 1 ∧ Hid (wr.heap[nb]? = some (.cells [.int .i64 g, .int .i64 0, .int .i64 0, .int .i64 0].toArray 3 (0, 0)))) ∨ (v = .int .i64 2 ∧ Hid (wr.heap[nb]? = some (.cells [.int .i64 g, .int .i64 g, .int .i64 0, .int .i64 0].toArray 3 (0, 0)))) ∨ (v = .int .i64 4 ∧ Hid (wr.heap[nb]? = some (.cells [.int .i64 g, .int .i64 g, .int .i64 g, .int .i64 g].toArray 3 (0, 0))))) ∧ Hid (Below w.heap.size w wr)) (fun v _ => 4 - (intOf v).toNat)
  case atStart => exact ⟨.inl ⟨rfl, hg3⟩, hb2⟩
  case round =>
    obtain ⟨hv, hbr⟩ := hrel
    rcases hv with ⟨rfl, hg⟩ | ⟨rfl, hg⟩ | ⟨rfl, hg⟩
    · have hbk : Blk wr nb 3 [.int .i64 g, .int .i64 0, .int .i64 0, .int .i64 0].toArray := hg.out
      have hsrc : ∀ (j : Nat) v, ([.int .i64 g] : List Value)[j]? = some v → wr.cell? (Addr.add ⟨nb, 0, none⟩ j) = some v := fun j v hj => by
        rcases j with _ | _ | j
        · (simp at hj; subst hj; exact hbk.cell 0)
        · first | (simp at hj; done) | (simp at hj; subst hj; exact hbk.cell 1)
        · (simp at hj; done)
      replace hsrc := Lib.hid hsrc
      replace hbk := Lib.hid hbk
      go_upto_region 9 with fail
      go_region_law (refine step_copy_splice rfl (.tmp 41) (.tmp 44) 34 34 rfl 3 Tryd.underlying34 hsz (some ⟨nb, 1, none⟩) (some ⟨nb, 0, none⟩) 3 3 1 4 (by simp [Act.eval, Act.put]) (by simp [Act.eval, Act.put]) nb 1 [.int .i64 g, .int .i64 0, .int .i64 0, .int .i64 0] 3 hg.out [.int .i64 g] rfl (fun _ => ⟨rfl, ⟨nb, 0, none⟩, rfl, hsrc.out⟩) (by simp) (by simp [Value.oneCell']) w.heap.size w (bdrewN hbr.out 1) hnb2 ?_; intro w4 hg4 hb4)
      have hg5 : w4.heap[nb]? = some (.cells [.int .i64 g, .int .i64 g, .int .i64 0, .int .i64 0].toArray 3 (0, 0)) := by
        have := hg4.out
        simpa [splice] using this
      replace hg5 := Lib.hid hg5
      replace hb4 := Lib.hid hb4
      (try simp only [List.getElem_toArray, List.getElem_cons_succ, List.getElem_cons_zero])
      (try simp only [Act.put])
      (try simp only [List.setIfInBounds_toArray])
      (try simp only [List.set_cons_succ, List.set_cons_zero])
      rw [show IntKind.i64.wrap 2 = 2 from rfl]
      go_roundw
      case rel =>
        first
          | exact ⟨.inr (.inl ⟨rfl, hg5⟩), hb4⟩
          | exact ⟨_, _, _, _, _, _, _, _, _, _, _, _, _, _, ⟨.inr (.inl ⟨rfl, hg5⟩), hb4⟩, rfl⟩
      case measure => simp [intOf]
    · have hbk : Blk wr nb 3 [.int .i64 g, .int .i64 g, .int .i64 0, .int .i64 0].toArray := hg.out
      have hsrc : ∀ (j : Nat) v, ([.int .i64 g, .int .i64 g] : List Value)[j]? = some v → wr.cell? (Addr.add ⟨nb, 0, none⟩ j) = some v := fun j v hj => by
        rcases j with _ | _ | j
        · (simp at hj; subst hj; exact hbk.cell 0)
        · first | (simp at hj; done) | (simp at hj; subst hj; exact hbk.cell 1)
        · (simp at hj; done)
      replace hsrc := Lib.hid hsrc
      replace hbk := Lib.hid hbk
      go_upto_region 9 with fail
      go_region_law (refine step_copy_splice rfl (.tmp 41) (.tmp 44) 34 34 rfl 3 Tryd.underlying34 hsz (some ⟨nb, 2, none⟩) (some ⟨nb, 0, none⟩) 2 2 2 4 (by simp [Act.eval, Act.put]) (by simp [Act.eval, Act.put]) nb 2 [.int .i64 g, .int .i64 g, .int .i64 0, .int .i64 0] 3 hg.out [.int .i64 g, .int .i64 g] rfl (fun _ => ⟨rfl, ⟨nb, 0, none⟩, rfl, hsrc.out⟩) (by simp) (by simp [Value.oneCell']) w.heap.size w (bdrewN hbr.out 1) hnb2 ?_; intro w4 hg4 hb4)
      have hg5 : w4.heap[nb]? = some (.cells [.int .i64 g, .int .i64 g, .int .i64 g, .int .i64 g].toArray 3 (0, 0)) := by
        have := hg4.out
        simpa [splice] using this
      replace hg5 := Lib.hid hg5
      replace hb4 := Lib.hid hb4
      (try simp only [List.getElem_toArray, List.getElem_cons_succ, List.getElem_cons_zero])
      (try simp only [Act.put])
      (try simp only [List.setIfInBounds_toArray])
      (try simp only [List.set_cons_succ, List.set_cons_zero])
      rw [show IntKind.i64.wrap 4 = 4 from rfl]
      go_roundw
      case rel =>
        first
          | exact ⟨.inr (.inr (⟨rfl, hg5⟩)), hb4⟩
          | exact ⟨_, _, _, _, _, _, _, _, _, _, _, _, _, _, ⟨.inr (.inr (⟨rfl, hg5⟩)), hb4⟩, rfl⟩
      case measure => simp [intOf]
    · have hown : wr.ownsRow nb 3 1 (.slice (some ⟨nb, 0, none⟩) 4 4) 4 [.int .i64 g, .int .i64 g, .int .i64 g, .int .i64 g] := by
        exact ⟨rfl, .inr ⟨nb, 4, [.int .i64 g, .int .i64 g, .int .i64 g, .int .i64 g].toArray, rfl, Nat.le_refl _, hg.out, Nat.le_refl _, (by unfold maxLen; omega), rfl, rfl⟩⟩
      replace hown := Lib.hid hown
      go_wp2_with fail
      go_ret
      exact ⟨_, rfl, by rw [hnb.out]; exact hown.out, hbr.out⟩
end Go.Proofs.YtkgkpggfoieioaaDoor
