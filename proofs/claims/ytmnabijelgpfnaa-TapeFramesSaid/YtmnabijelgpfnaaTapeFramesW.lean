import Derived.Test.YtmnabijelgpfnaaCatFrames
import Derived.Test.YtmnabijelgpfnaaStr
import Derived.Test.YtmnabijelgpfnaaRows8
import Derived.Lib.SlBytesConst
import Derived.OpenShut
namespace Go.Proofs.Ytmnabijelgpfnaa
set_option linter.unusedVariables false
open Go.RowKit
theorem frame_rd (A : Option Addr) (n c B : Nat) (xs : List Int) (w : World) (hn0 : xs.length = n) (hnil : A = none → c = 0) (hB : B ≤ w.heap.size) (h : RD w B 1 A n (xs.map (.int .u8))) (hn : n + 2 ≤ 140737488355328) :
    Calls Try.prog 20 #[.slice A n c] w fun e w' => ∃ g d, e = .returned (.slice (some ⟨g, 0, none⟩) (2 + n) d) ∧ RD w' w'.heap.size 1 (some ⟨g, 0, none⟩) (2 + n) ((frameL xs).map (.int .u8)) ∧ 2 + n ≤ d ∧ Below w.heap.size w w' := by
  refine (frame_any A n c B xs w hnil hB h hn).mono ?_
  rintro e w' ⟨v, he, hown, hb⟩
  have hcap := hown.2
  obtain ⟨g, d, rfl, _⟩ := hown.form (by omega)
  subst hn0
  refine ⟨g, d, he, RD.of_own hown, ?_, hb⟩
  rcases hcap with ⟨h, _⟩ | ⟨g', cap, cur, hv, _, _, hle, _⟩
  · cases h
  · injection hv with _ _ hc
    omega
theorem frames_fact (g d : Nat) (w : World) (h : RD w w.heap.size 1 (some ⟨g, 0, none⟩) 4 ([0, 2, 97, 98].map (.int .u8))) (hd : 4 ≤ d) :
    Calls Try.prog 19 #[.slice (some ⟨g, 0, none⟩) 4 d] w fun e w' => ∃ E d' G d2, e = .returned (.tuple #[.slice (some ⟨E, 0, none⟩) 1 d', .int .i64 4]) ∧
      w'.cell? ⟨E, 0, none⟩ = some (.slice G 2 d2) ∧ RD w' w'.heap.size 1 G 2 ([97, 98].map (.int .u8)) ∧ Below w.heap.size w w' := by
  refine (frames_any (some ⟨g, 0, none⟩) d w.heap.size [0, 2, 97, 98] w (fun h => by cases h) (Nat.le_refl _) h (by simp [Byte]) hd (by decide)).mono ?_
  rintro e w' ⟨v, rows, he, hr, hown, hrows, hb⟩
  have e1 : framesL [0, 2, 97, 98] = ([[97, 98]], 4) := by decide
  rw [e1] at he hr
  obtain ⟨r, rfl⟩ : ∃ r, rows = [r] := List.length_eq_one_iff.1 (by simpa using congrArg List.length hr)
  have hr2 : r.2 = [97, 98] := by simpa using hr
  obtain ⟨E, d', rfl, _⟩ := hown.form (by simp)
  have h0 := hrows r (by simp)
  rw [hr2] at h0
  obtain ⟨G, d2, hv, _⟩ := own_slice h0
  have hc := hown.cellAt 0 (by simp)
  refine ⟨E, d', G, d2, he, ?_, ?_, hb⟩
  · rw [hc]; simp [hv]
  · rw [hv] at h0; exact RD.of_own h0
theorem ab_str : toS [97, 98] = ⟨#[97, 98]⟩ := by rfl
/-- The slices that are put behind each other: what the loop has so far. -/
theorem take_snd (rows : List (SV × List Int)) (i : Nat) (r : SV × List Int) (h : rows[i]? = some r) : (rows.map (·.2)).take (i + 1) = (rows.map (·.2)).take i ++ [r.2] := by
  have hl : i < (rows.map (·.2)).length := by
    rcases Nat.lt_or_ge i rows.length with h' | h'
    · simpa using h'
    · rw [List.getElem?_eq_none h'] at h; cases h
  rw [List.take_succ_eq_append_getElem hl]
  congr 2
  have : (rows.map (·.2))[i]? = some r.2 := by rw [List.getElem?_map, h]; rfl
  rw [List.getElem?_eq_getElem hl] at this
  injection this
theorem catF_app (a b : List (List Int)) : catF (a ++ b) = catF a ++ catF b := by simp [catF]
theorem sizeF_app (a b : List (List Int)) : sizeF (a ++ b) = sizeF a + sizeF b := by simp [sizeF]
theorem sizeF_mono (L : List (List Int)) (a b : Nat) (h : a ≤ b) : sizeF (L.take a) ≤ sizeF (L.take b) := by
  have e : L.take b = L.take a ++ (L.drop a).take (b - a) := by
    rw [show b = a + (b - a) by omega, List.take_add]
    congr 2; omega
  rw [e, sizeF_app]; omega
theorem sizeF_le (rows : List (SV × List Int)) (i : Nat) (h : ∀ r ∈ rows.take i, r.2.length ≤ 1000) : sizeF ((rows.map (·.2)).take i) ≤ 1002 * i := by
  induction i with
  | zero => simp [sizeF]
  | succ i ih =>
    rcases Nat.lt_or_ge i rows.length with hl | hl
    · have hg : rows[i]? = some rows[i] := List.getElem?_eq_getElem hl
      rw [take_snd rows i _ hg, sizeF_app]
      have h1 := ih (fun r hr => h r (by rw [List.take_succ_eq_append_getElem hl]; exact List.mem_append_left _ hr))
      have h2 := h rows[i] (by rw [List.take_succ_eq_append_getElem hl]; exact List.mem_append_right _ (List.mem_singleton.2 rfl))
      have e : sizeF [rows[i].2] = 2 + rows[i].2.length := by simp [sizeF]
      rw [e]; omega
    · rw [List.take_of_length_le (by simp; omega)]
      have h1 := ih (fun r hr => h r (by rw [List.take_of_length_le (by omega)] at hr ⊢; exact hr))
      rw [List.take_of_length_le (by simp; omega)] at h1
      omega
def TfRel (w : World) (rows : List (SV × List Int)) (k : Nat) (vb vi : Value) (wr : World) : Prop :=
  ∃ i : Nat, vi = .int .i64 i ∧ i ≤ k ∧ (∀ r ∈ (rows.take i), r.2.length ≤ 1000) ∧ wr.ownsRow w.heap.size 5 1 vb (sizeF ((rows.map (·.2)).take i)) ((catF ((rows.map (·.2)).take i)).map (.int .u8)) ∧ Below w.heap.size w wr
set_option maxHeartbeats 3200000 in
set_option maxRecDepth 100000 in
theorem tframes_walk1 (s : SV) (rows : List (SV × List Int)) (cut : Int) (w : World) (hok : R8Ok w s rows) (hcut : -9223372036854775808 ≤ cut ∧ cut ≤ 9223372036854775807) (k : Nat) (hK : (k = s.n ∧ s.n ≤ 10) ∨ (k = 10 ∧ 10 < s.n)) :
    Calls Try.prog 6 #[s.v, .int .i64 cut] w fun e w' => e = .returned (.bool true) ∧ Below w.heap.size w w' := by
  obtain ⟨i0, hi0, hz0, hz1, hz2⟩ := info_parts cloneB_info
  obtain ⟨A, n, c⟩ := s
  have HOK := Lib.hid hok
  have hnn : n ≤ 9223372036854775807 := by have h1 := hok.2.2.2.1; have h2 := hok.2.2.2.2.1; unfold maxLen at h2; exact Nat.le_trans h1 h2
  clear hok
  unfold SV.v
  have kc := fun (w : World) (C : Array Value) (n c : Nat) => Lib.run_convert_bytes_const (P := Try.prog) w 27 5 C n c Try.underlying27 Try.underlying5
  go_enter Try.func6, Try.ntmps6
  go_wp2_with fail
  have r1 : RD (w.alloc (.cells #[.int .u8 97, .int .u8 98] 5 (2, 3))) (w.alloc (.cells #[.int .u8 97, .int .u8 98] 5 (2, 3))).heap.size 1 (some ⟨w.heap.size, 0, none⟩) 2 ([97, 98].map (.int .u8)) := (RD.new w 1 2 #[.int .u8 97, .int .u8 98] 5 (2, 3) rfl).more (by simp)
  have hb1 : Below w.heap.size w (w.alloc (.cells #[.int .u8 97, .int .u8 98] 5 (2, 3))) := (Below.refl _ _).alloc (Nat.le_refl _) _
  generalize (w.alloc (.cells #[.int .u8 97, .int .u8 98] 5 (2, 3))) = W at *
  have hs1 := hb1.size
  refine (frame_rd _ 2 2 W.heap.size [97, 98] W rfl (fun h => by cases h) (Nat.le_refl _) r1 (by omega)).mono ?_
  rintro e W1 ⟨g, d, rfl, hr1, hd, hb2⟩
  clear r1
  have hb3 := hb1.trans (hb2.mono hs1)
  have hs3 := hb3.size
  replace hd := Lib.hid hd
  go_wp2_with fail
  refine (frames_fact g d W1 hr1 hd.out).mono ?_
  rintro e W2 ⟨E, d', G, d2, rfl, hc2, hr2, hb4⟩
  have hb5 := hb3.trans (hb4.mono hs3)
  have cv := str_run W2 W2.heap.size G 2 d2 [97, 98] rfl hr2 (by simp [Byte])
  rw [ab_str] at cv
  clear hr1 hr2 hb1 hb2 hb3 hb4 hs1 hs3 kc
  replace hb5 := Lib.hid hb5
  have hkn : k ≤ n := by rcases hK with ⟨h1, h2⟩ | ⟨h1, h2⟩ <;> omega
  have hk10 : k ≤ 10 := by rcases hK with ⟨h1, h2⟩ | ⟨h1, h2⟩ <;> omega
  have hK' : (n ≤ k ∧ n ≤ 10) ∨ (10 ≤ k ∧ 10 < n) := by rcases hK with ⟨h1, h2⟩ | ⟨h1, h2⟩ <;> omega
  clear hK
  have hdd : ((n ≤ k ∧ n ≤ 10) ∧ decide ((10 : Int) < (n : Int)) = false) ∨ ((10 ≤ k ∧ 10 < n) ∧ decide ((10 : Int) < (n : Int)) = true) := by
    rcases hK' with h | h
    · exact .inl ⟨h, by simp; omega⟩
    · exact .inr ⟨h, by simp; omega⟩
  clear hK'
  rcases hdd with ⟨⟨hK1, hK2⟩, hdec⟩ | ⟨⟨hK1, hK2⟩, hdec⟩
  all_goals
    go_wp2_with fail
    clear cv hc2
    go_loopw [7, 9] (fun vb vi wr => TfRel w rows k vb vi wr) (fun _ vi _ => k - (intOf vi).toNat)
    case atStart => exact ⟨0, rfl, Nat.zero_le _, by simp, by simpa [sizeF, catF] using World.ownsRow_nil _ _ _ _, hb5.out⟩
    case round =>
    obtain ⟨i, rfl, hi, hsm, hown, hb⟩ := hrel
    replace hsm := Lib.hid hsm
    replace hown := Lib.hid hown
    replace hb := Lib.hid hb
    by_cases hlt : i < k
    · have hrl := HOK.out.1
      have hil : i < rows.length := by rw [hrl]; show i < n; omega
      have hg : rows[i]? = some rows[i] := List.getElem?_eq_getElem hil
      generalize rows[i] = r at *
      obtain ⟨⟨A', n', c'⟩, ys⟩ := r
      have hrd := (HOK.out.2.1).below hb.out
      obtain ⟨b0, o0, hA, _⟩ := RD.addr hrd (show 0 < n by omega)
      have hcell := RD.at_ hrd hA (j := i) (show i < n * 1 by omega)
      rw [List.getElem?_map, hg] at hcell
      simp only [Option.map_some] at hcell
      replace hcell : wr.cell? ⟨b0, o0 + i, none⟩ = some (.slice A' n' c') := hcell
      subst hA
      have hrow := HOK.out.2.2.2.2.2 _ (List.mem_of_getElem? hg)
      obtain ⟨hyl, hyr, hyn, hyc, _, hyw⟩ := hrow
      simp only at hyl hyr hyn hyc
      by_cases hbig : 1000 < n'
      · go_wp2_with fail
        go_ret
        exact ⟨rfl, hb.out⟩
      · have hsz := hb.out.size
        replace hyr := Lib.hid (hyr.below hb.out)
        replace hyl := Lib.hid hyl
        replace hyn := Lib.hid hyn
        replace hg := Lib.hid hg
        clear hrd
        go_wp2_with fail
        refine (frame_rd A' n' c' w.heap.size ys wr hyl.out hyn.out hsz hyr.out (by omega)).mono ?_
        rintro e w1 ⟨g1, d1, rfl, hf1, _, hb1⟩
        have ho1 := own_below hown.out hb1
        have hb2 := hb.out.trans (hb1.mono hsz)
        have hs2 := hb2.size
        have hle := sizeF_le rows i hsm.out
        have hts := take_snd rows i _ hg.out
        have eS : sizeF ((rows.map (·.2)).take (i + 1)) = sizeF ((rows.map (·.2)).take i) + (2 + n') := by rw [hts, sizeF_app, ← hyl.out]; simp [sizeF]
        have eC : (catF ((rows.map (·.2)).take (i + 1))).map (Value.int .u8) = (catF ((rows.map (·.2)).take i)).map (.int .u8) ++ (frameL ys).map (.int .u8) := by rw [hts, catF_app, List.map_append]; simp [catF]
        have hsm2 : ∀ r ∈ rows.take (i + 1), r.2.length ≤ 1000 := fun r hr => by
          rw [List.take_succ_eq_append_getElem hil] at hr
          rcases List.mem_append.1 hr with h | h
          · exact hsm.out r h
          · have e : rows[i] = (⟨A', n', c'⟩, ys) := by have := hg.out; rw [List.getElem?_eq_getElem hil] at this; injection this
            rw [e] at h
            obtain rfl : r = (⟨A', n', c'⟩, ys) := by simpa using h
            show ys.length ≤ 1000
            rw [hyl.out]; omega
        replace eS := Lib.hid eS
        replace eC := Lib.hid eC
        replace hsm2 := Lib.hid hsm2
        replace ho1 := Lib.hid ho1
        replace hf1 := Lib.hid hf1
        replace hb2 := Lib.hid hb2
        clear hts hcell hyw hyc hb1
        generalize sizeF ((rows.map (·.2)).take i) = S at *
        generalize (catF ((rows.map (·.2)).take i)).map (Value.int .u8) = CS at *
        go_wp2_with (at_builtin; refine wpList_append_rd rfl (.tmp 49) (.tmp 54) 27 rfl w.heap.size 5 i0 _ 1 1 Try.underlying27 hi0 hz0 hz1 hz2 rfl (by decide) w1 u7 S CS rfl ho1.out w1.heap.size (some ⟨g1, 0, none⟩) (2 + n') d1 ((frameL ys).map (.int .u8)) rfl (fun h => by cases h) hf1.out (by simp [Value.oneCell']) ?_ ?_ hs2 ?_)
        · unfold maxLen; omega
        · omega
        · intro v' w2 hown' hgrow
          have hb3 := hb2.out.grown hgrow hs2 (fun g hg => (ho1.out.lt g hg).1)
          replace hb3 := Lib.hid hb3
          replace hown' := Lib.hid hown'
          have hT : TfRel w rows k v' (.int .i64 ((i : Int) + 1)) w2 := ⟨i + 1, by go_num, by omega, hsm2.out, by rw [eS.out, eC.out]; exact hown'.out, hb3.out⟩
          replace hT := Lib.hid hT
          go_wp2_with fail
          go_roundw
          case rel => first | exact hT.out | ((repeat apply Exists.intro); exact ⟨hT.out, rfl⟩)
          case measure => simp [intOf]; omega
    · have hik : i = k := by omega
      have hls : ∀ a ∈ (rows.map (·.2)).take i, a.length ≤ 1000 := fun a ha => by
        obtain ⟨r, hr, rfl⟩ := List.mem_map.1 (by rw [← List.map_take] at ha; exact ha)
        exact hsm.out r hr
      have hle := sizeF_le rows i hsm.out
      have hLn : ((rows.map (·.2)).take i).length = k := by
        have := HOK.out.1
        simp only at this
        rw [List.length_take, List.length_map]; omega
      replace hls := Lib.hid hls
      replace hLn := Lib.hid hLn
      replace hik := Lib.hid hik
      obtain ⟨D, d3, hv, hor⟩ := own_slice hown.out
      subst hv
      have hcap : sizeF ((rows.map (·.2)).take i) ≤ d3 := by
        rcases hown.out.2 with ⟨h, h0⟩ | ⟨g', cap, cur, h, _, _, hle, _⟩
        · omega
        · injection h with _ _ hc
          omega
      have hR := Lib.hid (RD.of_own hown.out)
      have hFl := catF_len ((rows.map (·.2)).take i)
      replace hFl := Lib.hid hFl
      have hS0 := hb.out.size
      clear hown
      generalize hLs : (rows.map (·.2)).take i = ls at *
      replace hLs := Lib.hid hLs
      generalize hSz : sizeF ls = S at *
      replace hSz := Lib.hid hSz
      obtain ⟨C, hC, hcc⟩ : ∃ C : Nat, C ≤ S ∧ ((cut < 0 ∧ C = S) ∨ (0 ≤ cut ∧ (S : Int) < cut ∧ C = S) ∨ (0 ≤ cut ∧ cut ≤ S ∧ cut = C)) := by
        rcases (by omega : cut < 0 ∨ (0 ≤ cut ∧ (S : Int) < cut) ∨ (0 ≤ cut ∧ cut ≤ S)) with h | h | h
        · exact ⟨S, Nat.le_refl _, .inl ⟨h, rfl⟩⟩
        · exact ⟨S, Nat.le_refl _, .inr (.inl ⟨h.1, h.2, rfl⟩)⟩
        · exact ⟨cut.toNat, by omega, .inr (.inr ⟨h.1, h.2, by omega⟩)⟩
      have hby : ∀ a ∈ ls, ∀ x ∈ a, Byte x := fun a ha x hx => by
        rw [← hLs.out] at ha
        obtain ⟨r, hr, rfl⟩ := List.mem_map.1 (List.mem_of_mem_take ha)
        have h := (HOK.out.2.2.2.2.2 r hr).2.2.2.2.2 x hx
        have := bounds_u8 h
        unfold Byte; omega
      have hnilD : D = none → d3 = 0 := by
        rename_i hor
        rcases hor with h | h | ⟨g, h⟩
        · obtain ⟨b, o, e, _⟩ := hR.out.2 (by first | exact h | omega)
          exact fun h => by rw [e] at h; cases h
        · injection h with _ _ h
          exact fun _ => h
        · exact fun h2 => by rw [h] at h2; cases h2
      obtain ⟨m, hm1, hm2, hm3, hF⟩ := frames_cat D C d3 wr.heap.size ls wr hnilD (Nat.le_refl _) (by rw [hSz.out]; exact hR.out) hby (fun a ha => Nat.le_trans (hls.out a ha) (by omega)) (by rw [hSz.out]; exact hC) (by rw [hSz.out]; exact hcap) (by rw [hSz.out]; omega)
      have hmk : m ≤ k := by have := hLn.out; omega
      have hmi : m ≤ i := by have := hik.out; omega
      replace hF := Lib.hid hF
      replace hm3 := Lib.hid hm3
      clear hby hnilD
      rcases hcc with ⟨h1, h2⟩ | ⟨h1, h2, h3⟩ | ⟨h1, h2, h3⟩
      · have h3 := Lib.hid h2
        clear h2
        go_wp2_with fail
        rw [← h3.out]
        refine hF.out.mono ?_
        rintro e w4 ⟨X, d4, xr, rfl, hx1, hx2, hx3, hb4⟩
        have hb6 := hb.out.trans (hb4.mono hS0)
        replace hx1 := Lib.hid hx1
        replace hx2 := Lib.hid hx2
        replace hx3 := Lib.hid hx3
        replace hb6 := Lib.hid hb6
        clear hb4
        go_wp2_with fail
        go_loopw [11, 12] (fun z j wr => ∃ t q : Nat, j = .int .i64 t ∧ t ≤ m ∧ z = .int .i64 (sizeF (ls.take t)) ∧ wr = w4.drewN q) (fun _ j _ => m - (intOf j).toNat)
        case atStart => exact ⟨0, 0, rfl, Nat.zero_le _, rfl, rfl⟩
        case round =>
        obtain ⟨t, q, rfl, ht, rfl, rfl⟩ := hrel
        by_cases htm : t < m
        · obtain ⟨r2, hr2⟩ : ∃ r2, xr[t]? = some r2 := by
            have hxl : xr.length = m := by
              have := congrArg List.length hx1.out
              rw [List.length_map, List.length_take] at this; omega
            exact ⟨xr[t], List.getElem?_eq_getElem (by omega)⟩
          have hrow2 := hx3.out r2 (List.mem_of_getElem? hr2)
          obtain ⟨u2, a2⟩ := r2
          obtain ⟨U, dU, hU, _⟩ := own_slice hrow2
          replace hU : u2 = .slice U a2.length dU := hU
          subst hU
          dsimp only at hrow2
          have hla : ls[t]? = some a2 := by
            have := congrArg (fun l : List (List Int) => l[t]?) hx1.out
            simp only [List.getElem?_map, hr2, Option.map_some] at this
            rw [List.getElem?_take_of_lt htm] at this
            exact this.symm
          obtain ⟨r3, hr3, hr3a⟩ : ∃ r3, rows[t]? = some r3 ∧ r3.2 = a2 := by
            have h := hla
            rw [← hLs.out, List.getElem?_take_of_lt (by omega), List.getElem?_map] at h
            cases hq : rows[t]? with
            | none => rw [hq] at h; cases h
            | some r3 => rw [hq] at h; exact ⟨r3, rfl, by injection h⟩
          obtain ⟨⟨A3, n3, c3⟩, a3⟩ := r3
          have hr3a : a3 = a2 := hr3a
          subst hr3a
          have hok3 := HOK.out.2.2.2.2.2 _ (List.mem_of_getElem? hr3)
          obtain ⟨hl3, hrd3, _, _, _, hw3⟩ := hok3
          dsimp only at hl3 hrd3
          have hB3 : ∀ x ∈ a3, Byte x := fun x hx => by have := bounds_u8 (hw3 x hx); unfold Byte; omega
          have cv1 := fun q => str_run (w4.drewN q) _ U a3.length dU a3 rfl ((RD.of_own hrow2).drewN q) hB3
          have cv2 := fun q => str_run (w4.drewN q) _ A3 n3 c3 a3 hl3 ((hrd3.below hb6.out).drewN q) hB3
          have hxd := RD.of_own hx2.out
          obtain ⟨bX, oX, hX, _⟩ := RD.addr hxd (by omega)
          have cx := RD.at_ hxd hX (j := t) (by omega)
          rw [List.getElem?_map, hr2] at cx
          simp only [Option.map_some] at cx
          have hld := (HOK.out.2.1).below hb6.out
          obtain ⟨bL, oL, hLL, _⟩ := RD.addr hld (show 0 < n by omega)
          have cl := RD.at_ hld hLL (j := t) (show t < n * 1 by omega)
          rw [List.getElem?_map, hr3] at cl
          simp only [Option.map_some] at cl
          replace cl : w4.cell? ⟨bL, oL + t, none⟩ = some (.slice A3 n3 c3) := cl
          subst hX; subst hLL
          have hne : ((toS a3).toList == (toS a3).toList) = true := by simp
          have hd1 : decide ((n : Int) ≤ (t : Int)) = false := by simp; omega
          have hd2 : decide (n ≤ t) = false := by simp; omega
          have hd3 : decide ((10 : Int) ≤ (t : Int)) = false := by simp; omega
          have hts : sizeF (ls.take (t + 1)) = sizeF (ls.take t) + (2 + a3.length) := by
            have hl : t < ls.length := by omega
            rw [List.take_succ_eq_append_getElem hl, sizeF_app]
            have : ls[t] = a3 := by rw [List.getElem?_eq_getElem hl] at hla; injection hla
            rw [this]; simp [sizeF]
          have hbd : sizeF (ls.take t) + (2 + a3.length) ≤ 20000 := by
            have hmo := sizeF_mono ls (t + 1) m (by omega)
            rw [hts] at hmo; omega
          replace hts := Lib.hid hts
          replace hr2 := Lib.hid hr2
          replace hla := Lib.hid hla
          replace hr3 := Lib.hid hr3
          replace hl3 := Lib.hid hl3
          clear hrow2 hrd3 hw3 hB3 hxd hld
          have i0 : (t : Int) < (m : Int) := by omega
          go_wp2_with fail
          go_quiet (fail)
          go_wp2_with fail
          go_roundw
          case rel => exact ⟨t + 1, _, by go_num, by omega, by rw [hts.out]; go_num, rfl⟩
          case measure => simp [intOf]; omega
        · have htm2 : t = m := by omega
          subst htm2
          by_cases hmk2 : t < k
          · obtain ⟨r3, hr3⟩ : ∃ r3, rows[t]? = some r3 := by
              have := HOK.out.1
              exact ⟨rows[t]'(by rw [this]; show t < n; omega), List.getElem?_eq_getElem _⟩
            have hla : ls[t]? = some r3.2 := by
              rw [← hLs.out, List.getElem?_take_of_lt (by omega), List.getElem?_map, hr3]; rfl
            have hend := hm3.out r3.2 hla
            obtain ⟨⟨A3, n3, c3⟩, a3⟩ := r3
            have hl3 := (HOK.out.2.2.2.2.2 _ (List.mem_of_getElem? hr3)).1
            dsimp only at hl3 hend
            have hn3 : n3 ≤ 1000 := by rw [← hl3]; exact hls.out a3 (List.mem_of_getElem? hla)
            rw [hl3] at hend
            have hld := (HOK.out.2.1).below hb6.out
            obtain ⟨bL, oL, hLL, _⟩ := RD.addr hld (show 0 < n by omega)
            have cl := RD.at_ hld hLL (j := t) (show t < n * 1 by omega)
            rw [List.getElem?_map, hr3] at cl
            simp only [Option.map_some] at cl
            replace cl : w4.cell? ⟨bL, oL + t, none⟩ = some (.slice A3 n3 c3) := cl
            subst hLL
            have he1 : ((t : Int) == (n : Int)) = false := by simp; omega
            have he2 : ((t : Int) == 10) = false := by simp; omega
            replace hl3 := Lib.hid hl3
            replace hr3 := Lib.hid hr3
            replace hla := Lib.hid hla
            clear hld
            generalize sizeF (ls.take t) = Z at *
            go_wp2_with fail
            go_ret
            first | (rw [show decide ((C : Int) - (Z : Int) < 2 + (n3 : Int)) = true from decide_eq_true (by omega)]; exact ⟨rfl, bdrewN hb6.out _⟩) | (rw [decide_eq_true (by omega)]; exact ⟨rfl, bdrewN hb6.out _⟩) | exact ⟨congrArg (fun b => Ending.returned (.bool b)) (decide_eq_true (by omega)), bdrewN hb6.out _⟩
          · first
              | (have he : ((t : Int) == (n : Int)) = true := by simp; omega
                 generalize sizeF (ls.take t) = Z at *
                 go_wp2_with fail
                 go_ret
                 exact ⟨rfl, bdrewN hb6.out _⟩)
              | (have he : ((t : Int) == 10) = true := by simp; omega
                 generalize sizeF (ls.take t) = Z at *
                 go_wp2_with fail
                 go_ret
                 exact ⟨rfl, bdrewN hb6.out _⟩)
      · replace h3 := Lib.hid h3
        go_wp2_with fail
        rw [← h3.out]
        refine hF.out.mono ?_
        rintro e w4 ⟨X, d4, xr, rfl, hx1, hx2, hx3, hb4⟩
        have hb6 := hb.out.trans (hb4.mono hS0)
        replace hx1 := Lib.hid hx1
        replace hx2 := Lib.hid hx2
        replace hx3 := Lib.hid hx3
        replace hb6 := Lib.hid hb6
        clear hb4
        go_wp2_with fail
        go_loopw [11, 12] (fun z j wr => ∃ t q : Nat, j = .int .i64 t ∧ t ≤ m ∧ z = .int .i64 (sizeF (ls.take t)) ∧ wr = w4.drewN q) (fun _ j _ => m - (intOf j).toNat)
        case atStart => exact ⟨0, 0, rfl, Nat.zero_le _, rfl, rfl⟩
        case round =>
        obtain ⟨t, q, rfl, ht, rfl, rfl⟩ := hrel
        by_cases htm : t < m
        · obtain ⟨r2, hr2⟩ : ∃ r2, xr[t]? = some r2 := by
            have hxl : xr.length = m := by
              have := congrArg List.length hx1.out
              rw [List.length_map, List.length_take] at this; omega
            exact ⟨xr[t], List.getElem?_eq_getElem (by omega)⟩
          have hrow2 := hx3.out r2 (List.mem_of_getElem? hr2)
          obtain ⟨u2, a2⟩ := r2
          obtain ⟨U, dU, hU, _⟩ := own_slice hrow2
          replace hU : u2 = .slice U a2.length dU := hU
          subst hU
          dsimp only at hrow2
          have hla : ls[t]? = some a2 := by
            have := congrArg (fun l : List (List Int) => l[t]?) hx1.out
            simp only [List.getElem?_map, hr2, Option.map_some] at this
            rw [List.getElem?_take_of_lt htm] at this
            exact this.symm
          obtain ⟨r3, hr3, hr3a⟩ : ∃ r3, rows[t]? = some r3 ∧ r3.2 = a2 := by
            have h := hla
            rw [← hLs.out, List.getElem?_take_of_lt (by omega), List.getElem?_map] at h
            cases hq : rows[t]? with
            | none => rw [hq] at h; cases h
            | some r3 => rw [hq] at h; exact ⟨r3, rfl, by injection h⟩
          obtain ⟨⟨A3, n3, c3⟩, a3⟩ := r3
          have hr3a : a3 = a2 := hr3a
          subst hr3a
          have hok3 := HOK.out.2.2.2.2.2 _ (List.mem_of_getElem? hr3)
          obtain ⟨hl3, hrd3, _, _, _, hw3⟩ := hok3
          dsimp only at hl3 hrd3
          have hB3 : ∀ x ∈ a3, Byte x := fun x hx => by have := bounds_u8 (hw3 x hx); unfold Byte; omega
          have cv1 := fun q => str_run (w4.drewN q) _ U a3.length dU a3 rfl ((RD.of_own hrow2).drewN q) hB3
          have cv2 := fun q => str_run (w4.drewN q) _ A3 n3 c3 a3 hl3 ((hrd3.below hb6.out).drewN q) hB3
          have hxd := RD.of_own hx2.out
          obtain ⟨bX, oX, hX, _⟩ := RD.addr hxd (by omega)
          have cx := RD.at_ hxd hX (j := t) (by omega)
          rw [List.getElem?_map, hr2] at cx
          simp only [Option.map_some] at cx
          have hld := (HOK.out.2.1).below hb6.out
          obtain ⟨bL, oL, hLL, _⟩ := RD.addr hld (show 0 < n by omega)
          have cl := RD.at_ hld hLL (j := t) (show t < n * 1 by omega)
          rw [List.getElem?_map, hr3] at cl
          simp only [Option.map_some] at cl
          replace cl : w4.cell? ⟨bL, oL + t, none⟩ = some (.slice A3 n3 c3) := cl
          subst hX; subst hLL
          have hne : ((toS a3).toList == (toS a3).toList) = true := by simp
          have hd1 : decide ((n : Int) ≤ (t : Int)) = false := by simp; omega
          have hd2 : decide (n ≤ t) = false := by simp; omega
          have hd3 : decide ((10 : Int) ≤ (t : Int)) = false := by simp; omega
          have hts : sizeF (ls.take (t + 1)) = sizeF (ls.take t) + (2 + a3.length) := by
            have hl : t < ls.length := by omega
            rw [List.take_succ_eq_append_getElem hl, sizeF_app]
            have : ls[t] = a3 := by rw [List.getElem?_eq_getElem hl] at hla; injection hla
            rw [this]; simp [sizeF]
          have hbd : sizeF (ls.take t) + (2 + a3.length) ≤ 20000 := by
            have hmo := sizeF_mono ls (t + 1) m (by omega)
            rw [hts] at hmo; omega
          replace hts := Lib.hid hts
          replace hr2 := Lib.hid hr2
          replace hla := Lib.hid hla
          replace hr3 := Lib.hid hr3
          replace hl3 := Lib.hid hl3
          clear hrow2 hrd3 hw3 hB3 hxd hld
          have i0 : (t : Int) < (m : Int) := by omega
          go_wp2_with fail
          go_quiet (fail)
          go_wp2_with fail
          go_roundw
          case rel => exact ⟨t + 1, _, by go_num, by omega, by rw [hts.out]; go_num, rfl⟩
          case measure => simp [intOf]; omega
        · have htm2 : t = m := by omega
          subst htm2
          by_cases hmk2 : t < k
          · obtain ⟨r3, hr3⟩ : ∃ r3, rows[t]? = some r3 := by
              have := HOK.out.1
              exact ⟨rows[t]'(by rw [this]; show t < n; omega), List.getElem?_eq_getElem _⟩
            have hla : ls[t]? = some r3.2 := by
              rw [← hLs.out, List.getElem?_take_of_lt (by omega), List.getElem?_map, hr3]; rfl
            have hend := hm3.out r3.2 hla
            obtain ⟨⟨A3, n3, c3⟩, a3⟩ := r3
            have hl3 := (HOK.out.2.2.2.2.2 _ (List.mem_of_getElem? hr3)).1
            dsimp only at hl3 hend
            have hn3 : n3 ≤ 1000 := by rw [← hl3]; exact hls.out a3 (List.mem_of_getElem? hla)
            rw [hl3] at hend
            have hld := (HOK.out.2.1).below hb6.out
            obtain ⟨bL, oL, hLL, _⟩ := RD.addr hld (show 0 < n by omega)
            have cl := RD.at_ hld hLL (j := t) (show t < n * 1 by omega)
            rw [List.getElem?_map, hr3] at cl
            simp only [Option.map_some] at cl
            replace cl : w4.cell? ⟨bL, oL + t, none⟩ = some (.slice A3 n3 c3) := cl
            subst hLL
            have he1 : ((t : Int) == (n : Int)) = false := by simp; omega
            have he2 : ((t : Int) == 10) = false := by simp; omega
            replace hl3 := Lib.hid hl3
            replace hr3 := Lib.hid hr3
            replace hla := Lib.hid hla
            clear hld
            generalize sizeF (ls.take t) = Z at *
            go_wp2_with fail
            go_ret
            first | (rw [show decide ((C : Int) - (Z : Int) < 2 + (n3 : Int)) = true from decide_eq_true (by omega)]; exact ⟨rfl, bdrewN hb6.out _⟩) | (rw [decide_eq_true (by omega)]; exact ⟨rfl, bdrewN hb6.out _⟩) | exact ⟨congrArg (fun b => Ending.returned (.bool b)) (decide_eq_true (by omega)), bdrewN hb6.out _⟩
          · first
              | (have he : ((t : Int) == (n : Int)) = true := by simp; omega
                 generalize sizeF (ls.take t) = Z at *
                 go_wp2_with fail
                 go_ret
                 exact ⟨rfl, bdrewN hb6.out _⟩)
              | (have he : ((t : Int) == 10) = true := by simp; omega
                 generalize sizeF (ls.take t) = Z at *
                 go_wp2_with fail
                 go_ret
                 exact ⟨rfl, bdrewN hb6.out _⟩)
      · subst h3
        go_wp2_with fail
        refine hF.out.mono ?_
        rintro e w4 ⟨X, d4, xr, rfl, hx1, hx2, hx3, hb4⟩
        have hb6 := hb.out.trans (hb4.mono hS0)
        replace hx1 := Lib.hid hx1
        replace hx2 := Lib.hid hx2
        replace hx3 := Lib.hid hx3
        replace hb6 := Lib.hid hb6
        clear hb4
        go_wp2_with fail
        go_loopw [11, 12] (fun z j wr => ∃ t q : Nat, j = .int .i64 t ∧ t ≤ m ∧ z = .int .i64 (sizeF (ls.take t)) ∧ wr = w4.drewN q) (fun _ j _ => m - (intOf j).toNat)
        case atStart => exact ⟨0, 0, rfl, Nat.zero_le _, rfl, rfl⟩
        case round =>
        obtain ⟨t, q, rfl, ht, rfl, rfl⟩ := hrel
        by_cases htm : t < m
        · obtain ⟨r2, hr2⟩ : ∃ r2, xr[t]? = some r2 := by
            have hxl : xr.length = m := by
              have := congrArg List.length hx1.out
              rw [List.length_map, List.length_take] at this; omega
            exact ⟨xr[t], List.getElem?_eq_getElem (by omega)⟩
          have hrow2 := hx3.out r2 (List.mem_of_getElem? hr2)
          obtain ⟨u2, a2⟩ := r2
          obtain ⟨U, dU, hU, _⟩ := own_slice hrow2
          replace hU : u2 = .slice U a2.length dU := hU
          subst hU
          dsimp only at hrow2
          have hla : ls[t]? = some a2 := by
            have := congrArg (fun l : List (List Int) => l[t]?) hx1.out
            simp only [List.getElem?_map, hr2, Option.map_some] at this
            rw [List.getElem?_take_of_lt htm] at this
            exact this.symm
          obtain ⟨r3, hr3, hr3a⟩ : ∃ r3, rows[t]? = some r3 ∧ r3.2 = a2 := by
            have h := hla
            rw [← hLs.out, List.getElem?_take_of_lt (by omega), List.getElem?_map] at h
            cases hq : rows[t]? with
            | none => rw [hq] at h; cases h
            | some r3 => rw [hq] at h; exact ⟨r3, rfl, by injection h⟩
          obtain ⟨⟨A3, n3, c3⟩, a3⟩ := r3
          have hr3a : a3 = a2 := hr3a
          subst hr3a
          have hok3 := HOK.out.2.2.2.2.2 _ (List.mem_of_getElem? hr3)
          obtain ⟨hl3, hrd3, _, _, _, hw3⟩ := hok3
          dsimp only at hl3 hrd3
          have hB3 : ∀ x ∈ a3, Byte x := fun x hx => by have := bounds_u8 (hw3 x hx); unfold Byte; omega
          have cv1 := fun q => str_run (w4.drewN q) _ U a3.length dU a3 rfl ((RD.of_own hrow2).drewN q) hB3
          have cv2 := fun q => str_run (w4.drewN q) _ A3 n3 c3 a3 hl3 ((hrd3.below hb6.out).drewN q) hB3
          have hxd := RD.of_own hx2.out
          obtain ⟨bX, oX, hX, _⟩ := RD.addr hxd (by omega)
          have cx := RD.at_ hxd hX (j := t) (by omega)
          rw [List.getElem?_map, hr2] at cx
          simp only [Option.map_some] at cx
          have hld := (HOK.out.2.1).below hb6.out
          obtain ⟨bL, oL, hLL, _⟩ := RD.addr hld (show 0 < n by omega)
          have cl := RD.at_ hld hLL (j := t) (show t < n * 1 by omega)
          rw [List.getElem?_map, hr3] at cl
          simp only [Option.map_some] at cl
          replace cl : w4.cell? ⟨bL, oL + t, none⟩ = some (.slice A3 n3 c3) := cl
          subst hX; subst hLL
          have hne : ((toS a3).toList == (toS a3).toList) = true := by simp
          have hd1 : decide ((n : Int) ≤ (t : Int)) = false := by simp; omega
          have hd2 : decide (n ≤ t) = false := by simp; omega
          have hd3 : decide ((10 : Int) ≤ (t : Int)) = false := by simp; omega
          have hts : sizeF (ls.take (t + 1)) = sizeF (ls.take t) + (2 + a3.length) := by
            have hl : t < ls.length := by omega
            rw [List.take_succ_eq_append_getElem hl, sizeF_app]
            have : ls[t] = a3 := by rw [List.getElem?_eq_getElem hl] at hla; injection hla
            rw [this]; simp [sizeF]
          have hbd : sizeF (ls.take t) + (2 + a3.length) ≤ 20000 := by
            have hmo := sizeF_mono ls (t + 1) m (by omega)
            rw [hts] at hmo; omega
          replace hts := Lib.hid hts
          replace hr2 := Lib.hid hr2
          replace hla := Lib.hid hla
          replace hr3 := Lib.hid hr3
          replace hl3 := Lib.hid hl3
          clear hrow2 hrd3 hw3 hB3 hxd hld
          have i0 : (t : Int) < (m : Int) := by omega
          go_wp2_with fail
          go_quiet (fail)
          go_wp2_with fail
          go_roundw
          case rel => exact ⟨t + 1, _, by go_num, by omega, by rw [hts.out]; go_num, rfl⟩
          case measure => simp [intOf]; omega
        · have htm2 : t = m := by omega
          subst htm2
          by_cases hmk2 : t < k
          · obtain ⟨r3, hr3⟩ : ∃ r3, rows[t]? = some r3 := by
              have := HOK.out.1
              exact ⟨rows[t]'(by rw [this]; show t < n; omega), List.getElem?_eq_getElem _⟩
            have hla : ls[t]? = some r3.2 := by
              rw [← hLs.out, List.getElem?_take_of_lt (by omega), List.getElem?_map, hr3]; rfl
            have hend := hm3.out r3.2 hla
            obtain ⟨⟨A3, n3, c3⟩, a3⟩ := r3
            have hl3 := (HOK.out.2.2.2.2.2 _ (List.mem_of_getElem? hr3)).1
            dsimp only at hl3 hend
            have hn3 : n3 ≤ 1000 := by rw [← hl3]; exact hls.out a3 (List.mem_of_getElem? hla)
            rw [hl3] at hend
            have hld := (HOK.out.2.1).below hb6.out
            obtain ⟨bL, oL, hLL, _⟩ := RD.addr hld (show 0 < n by omega)
            have cl := RD.at_ hld hLL (j := t) (show t < n * 1 by omega)
            rw [List.getElem?_map, hr3] at cl
            simp only [Option.map_some] at cl
            replace cl : w4.cell? ⟨bL, oL + t, none⟩ = some (.slice A3 n3 c3) := cl
            subst hLL
            have he1 : ((t : Int) == (n : Int)) = false := by simp; omega
            have he2 : ((t : Int) == 10) = false := by simp; omega
            replace hl3 := Lib.hid hl3
            replace hr3 := Lib.hid hr3
            replace hla := Lib.hid hla
            clear hld
            generalize sizeF (ls.take t) = Z at *
            go_wp2_with fail
            go_ret
            first | (rw [show decide ((C : Int) - (Z : Int) < 2 + (n3 : Int)) = true from decide_eq_true (by omega)]; exact ⟨rfl, bdrewN hb6.out _⟩) | (rw [decide_eq_true (by omega)]; exact ⟨rfl, bdrewN hb6.out _⟩) | exact ⟨congrArg (fun b => Ending.returned (.bool b)) (decide_eq_true (by omega)), bdrewN hb6.out _⟩
          · first
              | (have he : ((t : Int) == (n : Int)) = true := by simp; omega
                 generalize sizeF (ls.take t) = Z at *
                 go_wp2_with fail
                 go_ret
                 exact ⟨rfl, bdrewN hb6.out _⟩)
              | (have he : ((t : Int) == 10) = true := by simp; omega
                 generalize sizeF (ls.take t) = Z at *
                 go_wp2_with fail
                 go_ret
                 exact ⟨rfl, bdrewN hb6.out _⟩)
theorem tframes_walk (v : Value) (x : SV × List (SV × List Int)) (cut : Int) (w : World) (w0 : v = x.1.v ∧ R8Ok w x.1 x.2) (w1 : (Lit.int .i64 cut).wf = true) :
    Calls Try.prog 6 #[v, .int .i64 cut] w fun e w' => e = .returned (.bool true) ∧ Below w.heap.size w w' := by
  obtain ⟨rfl, hok⟩ := w0
  by_cases h : x.1.n ≤ 10
  · exact tframes_walk1 x.1 x.2 cut w hok (bounds_i64 w1) x.1.n (.inl ⟨rfl, h⟩)
  · exact tframes_walk1 x.1 x.2 cut w hok (bounds_i64 w1) 10 (.inr ⟨rfl, by omega⟩)
end Go.Proofs.Ytmnabijelgpfnaa
