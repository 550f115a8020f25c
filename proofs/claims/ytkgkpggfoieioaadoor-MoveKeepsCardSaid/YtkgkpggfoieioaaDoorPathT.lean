import Derived.Test.YtkgkpggfoieioaaDoorSpread
import Derived.Shelf.Abstract
namespace Go.Proofs.YtkgkpggfoieioaaDoor
set_option linter.unusedVariables false
open Go.RowKit
theorem ontoL_bd (f : GF) (k : Nat) (fl : Bool) : 0 ≤ ontoL f k fl ∧ ontoL f k fl ≤ 2 := by
  unfold ontoL ontoG
  repeat' split
  all_goals omega
theorem tofn_any (s : SF) (f : GF) (fl : Bool) (g1 g2 a b : Nat) (wx : World) (h1 : Blk wx g1 52 #[.int .i64 f.wide, .int .i64 f.high, .slice s.ground.A f.ground.length s.ground.c, .slice s.ore.A f.ore.length s.ore.c]) (h2 : Blk wx g2 4 #[.bool fl]) (hF : FOk wx s f) (ha : a < f.ground.length) :
    Calls Tryd.prog 131 #[.int .i64 a, .int .i64 b, .pointer (some ⟨g1, 0, none⟩), .pointer (some ⟨g2, 0, none⟩)] wx fun e w' => e = .returned (.int .i64 (ontoL f a fl)) ∧ Below wx.heap.size wx w' := by
  have c0 := h1.cell 0
  have c1 := h1.cell 1
  have c2 := h1.cell 2
  have c3 := h1.cell 3
  have e0 := h2.cell 0
  have H := Lib.hid hF
  clear hF h1 h2
  go_enter Tryd.func131, Tryd.ntmps131
  go_wp2_with fail
  refine (onto_any s f a fl wx H.out ha).mono ?_
  rintro e w' ⟨rfl, hb⟩
  replace hb := Lib.hid hb
  go_wp2_with fail
  go_ret
  exact ⟨rfl, hb.out⟩
theorem fromfn_any (s : SF) (f : GF) (fl : Bool) (g1 g2 a b : Nat) (wx : World) (h1 : Blk wx g1 52 #[.int .i64 f.wide, .int .i64 f.high, .slice s.ground.A f.ground.length s.ground.c, .slice s.ore.A f.ore.length s.ore.c]) (h2 : Blk wx g2 4 #[.bool fl]) (hF : FOk wx s f) (ha : b < f.ground.length) :
    Calls Tryd.prog 156 #[.int .i64 a, .int .i64 b, .pointer (some ⟨g1, 0, none⟩), .pointer (some ⟨g2, 0, none⟩)] wx fun e w' => e = .returned (.int .i64 (ontoL f b fl)) ∧ Below wx.heap.size wx w' := by
  have c0 := h1.cell 0
  have c1 := h1.cell 1
  have c2 := h1.cell 2
  have c3 := h1.cell 3
  have e0 := h2.cell 0
  have H := Lib.hid hF
  clear hF h1 h2
  go_enter Tryd.func156, Tryd.ntmps156
  go_wp2_with fail
  refine (onto_any s f b fl wx H.out ha).mono ?_
  rintro e w' ⟨rfl, hb⟩
  replace hb := Lib.hid hb
  go_wp2_with fail
  go_ret
  exact ⟨rfl, hb.out⟩
theorem SprPost.mono_ {w w1 : World} {f : GF} {src : Nat} {cost : Nat → Nat → Int} {e : Ending} {w' : World} (h : SprPost w1 f src cost e w') (hb : Below w.heap.size w w1) : SprPost w f src cost e w' := by
  obtain ⟨g, out, h1, h2, h3, h4, h5⟩ := h
  exact ⟨g, out, h1, h2, Nat.le_trans hb.size h3, h4, hb.trans (h5.mono hb.size)⟩
set_option maxRecDepth 100000 in
theorem to_any (s : SF) (f : GF) (src : Nat) (fl : Bool) (w : World) (h : FOk w s f) (hg : Good f) (hsrc : src < f.ground.length) :
    Calls Tryd.prog 98 #[fA s f, .int .i64 src, .bool fl] w (SprPost w f src (costTo f fl)) := by
  have hent : ∀ args w', (callFunc 131 args).run Tryd.prog w' = .ok (.enter 131 args) w' := enters_of Tryd.func131 (by kernel_rfl) rfl
  have H := Lib.hid h
  replace hent := Lib.hid hent
  clear h
  unfold fA
  go_enter Tryd.func98, Tryd.ntmps98
  go_wp2_with fail
  have hb1 : Below w.heap.size w ((w.alloc (.cells #[.int .i64 f.wide, .int .i64 f.high, .slice s.ground.A f.ground.length s.ground.c, .slice s.ore.A f.ore.length s.ore.c] 52)).alloc (.cells #[.bool fl] 4)) := ((Below.refl _ _).alloc (Nat.le_refl _) _).alloc (by simp) _
  have hk1 : Blk ((w.alloc (.cells #[.int .i64 f.wide, .int .i64 f.high, .slice s.ground.A f.ground.length s.ground.c, .slice s.ore.A f.ore.length s.ore.c] 52)).alloc (.cells #[.bool fl] 4)) w.heap.size 52 #[.int .i64 f.wide, .int .i64 f.high, .slice s.ground.A f.ground.length s.ground.c, .slice s.ore.A f.ore.length s.ore.c] := (Blk.new w _ _).alloc _
  have hk2 : Blk ((w.alloc (.cells #[.int .i64 f.wide, .int .i64 f.high, .slice s.ground.A f.ground.length s.ground.c, .slice s.ore.A f.ore.length s.ore.c] 52)).alloc (.cells #[.bool fl] 4)) (w.heap.size + 1) 4 #[.bool fl] := by
    have := Blk.new (w.alloc (.cells #[.int .i64 f.wide, .int .i64 f.high, .slice s.ground.A f.ground.length s.ground.c, .slice s.ore.A f.ore.length s.ore.c] 52)) 4 #[.bool fl]
    rwa [show (w.alloc (.cells #[.int .i64 f.wide, .int .i64 f.high, .slice s.ground.A f.ground.length s.ground.c, .slice s.ore.A f.ore.length s.ore.c] 52)).heap.size = w.heap.size + 1 by simp] at this
  generalize (w.alloc (.cells #[.int .i64 f.wide, .int .i64 f.high, .slice s.ground.A f.ground.length s.ground.c, .slice s.ore.A f.ore.length s.ore.c] 52)).alloc (.cells #[.bool fl] 4) = W at *
  have HF := H.out.below hb1
  refine (spread_any s f src 131 (.pointer (some ⟨w.heap.size, 0, none⟩)) (.pointer (some ⟨w.heap.size + 1, 0, none⟩)) (costTo f fl) W HF hg hsrc hent.out (fun a b => ontoL_bd f a fl) (fun a b wx ha hb hbel => tofn_any s f fl w.heap.size (w.heap.size + 1) a b wx (hk1.below hbel hk1.lt) (hk2.below hbel hk2.lt) (HF.below hbel) ha)).mono ?_
  intro e w' hp
  have hq := hp.mono_ hb1
  obtain ⟨g, out, rfl, h2, h3, h4, h5⟩ := hq
  replace h2 := Lib.hid h2
  replace h4 := Lib.hid h4
  replace h5 := Lib.hid h5
  clear hp hk1 hk2 hb1 HF
  go_wp2_with fail
  go_ret
  exact ⟨g, out, rfl, h2.out, h3, h4.out, h5.out⟩
set_option maxRecDepth 100000 in
theorem from_any (s : SF) (f : GF) (src : Nat) (fl : Bool) (w : World) (h : FOk w s f) (hg : Good f) (hsrc : src < f.ground.length) :
    Calls Tryd.prog 128 #[fA s f, .int .i64 src, .bool fl] w (SprPost w f src (costFrom f fl)) := by
  have hent : ∀ args w', (callFunc 156 args).run Tryd.prog w' = .ok (.enter 156 args) w' := enters_of Tryd.func156 (by kernel_rfl) rfl
  have H := Lib.hid h
  replace hent := Lib.hid hent
  clear h
  unfold fA
  go_enter Tryd.func128, Tryd.ntmps128
  go_wp2_with fail
  have hb1 : Below w.heap.size w ((w.alloc (.cells #[.int .i64 f.wide, .int .i64 f.high, .slice s.ground.A f.ground.length s.ground.c, .slice s.ore.A f.ore.length s.ore.c] 52)).alloc (.cells #[.bool fl] 4)) := ((Below.refl _ _).alloc (Nat.le_refl _) _).alloc (by simp) _
  have hk1 : Blk ((w.alloc (.cells #[.int .i64 f.wide, .int .i64 f.high, .slice s.ground.A f.ground.length s.ground.c, .slice s.ore.A f.ore.length s.ore.c] 52)).alloc (.cells #[.bool fl] 4)) w.heap.size 52 #[.int .i64 f.wide, .int .i64 f.high, .slice s.ground.A f.ground.length s.ground.c, .slice s.ore.A f.ore.length s.ore.c] := (Blk.new w _ _).alloc _
  have hk2 : Blk ((w.alloc (.cells #[.int .i64 f.wide, .int .i64 f.high, .slice s.ground.A f.ground.length s.ground.c, .slice s.ore.A f.ore.length s.ore.c] 52)).alloc (.cells #[.bool fl] 4)) (w.heap.size + 1) 4 #[.bool fl] := by
    have := Blk.new (w.alloc (.cells #[.int .i64 f.wide, .int .i64 f.high, .slice s.ground.A f.ground.length s.ground.c, .slice s.ore.A f.ore.length s.ore.c] 52)) 4 #[.bool fl]
    rwa [show (w.alloc (.cells #[.int .i64 f.wide, .int .i64 f.high, .slice s.ground.A f.ground.length s.ground.c, .slice s.ore.A f.ore.length s.ore.c] 52)).heap.size = w.heap.size + 1 by simp] at this
  generalize (w.alloc (.cells #[.int .i64 f.wide, .int .i64 f.high, .slice s.ground.A f.ground.length s.ground.c, .slice s.ore.A f.ore.length s.ore.c] 52)).alloc (.cells #[.bool fl] 4) = W at *
  have HF := H.out.below hb1
  refine (spread_any s f src 156 (.pointer (some ⟨w.heap.size, 0, none⟩)) (.pointer (some ⟨w.heap.size + 1, 0, none⟩)) (costFrom f fl) W HF hg hsrc hent.out (fun a b => ontoL_bd f b fl) (fun a b wx ha hb hbel => fromfn_any s f fl w.heap.size (w.heap.size + 1) a b wx (hk1.below hbel hk1.lt) (hk2.below hbel hk2.lt) (HF.below hbel) hb)).mono ?_
  intro e w' hp
  have hq := hp.mono_ hb1
  obtain ⟨g, out, rfl, h2, h3, h4, h5⟩ := hq
  replace h2 := Lib.hid h2
  replace h4 := Lib.hid h4
  replace h5 := Lib.hid h5
  clear hp hk1 hk2 hb1 HF
  go_wp2_with fail
  go_ret
  exact ⟨g, out, rfl, h2.out, h3, h4.out, h5.out⟩
end Go.Proofs.YtkgkpggfoieioaaDoor
