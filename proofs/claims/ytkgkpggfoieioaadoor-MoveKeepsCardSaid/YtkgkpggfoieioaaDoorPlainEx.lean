import Derived.Test.YtkgkpggfoieioaaDoorPlainWish
namespace Go.Proofs.YtkgkpggfoieioaaDoor
set_option linter.unusedVariables false
/-! How far it is can always be told: the search ends. -/
section
variable {n src : Nat} {nb : Nat → Nat → Prop} {cost : Nat → Nat → Int}
theorem relax_all {done : List Bool} {m : Nat} {M : Int} {a : Nat} (ha : a < n) (hd : atB done a = true) (hc2 : ∀ b, 0 ≤ cost a b ∧ cost a b ≤ 2) (hM2 : M + 2 ≤ 2 * m) :
    ∀ (bs : List Nat) (out : List Int) (R : Nat → Nat → Prop), (∀ b ∈ bs, b < n ∧ nb a b) → at0 out a = M → SInv n src nb cost out done m M R → ∃ out', at0 out' a = M ∧ SInv n src nb cost out' done m M (fun x y => R x y ∨ (x = a ∧ y ∈ bs))
  | [], out, R, _, hM, h => ⟨out, hM, h.fewer _ (fun x y hxy => hxy.elim id (fun c => absurd c.2 List.not_mem_nil))⟩
  | b :: bs, out, R, hbs, hM, h => by
    obtain ⟨hb, hn⟩ := hbs b (List.mem_cons_self ..)
    have hbs' : ∀ c ∈ bs, c < n ∧ nb a c := fun c hc => hbs c (List.mem_cons_of_mem _ hc)
    have fin : ∀ out1, at0 out1 a = M → SInv n src nb cost out1 done m M (fun x y => R x y ∨ (x = a ∧ y = b)) → ∃ out', at0 out' a = M ∧ SInv n src nb cost out' done m M (fun x y => R x y ∨ (x = a ∧ y ∈ b :: bs)) := fun out1 hM1 h1 => by
      obtain ⟨out', hM', h'⟩ := relax_all ha hd hc2 hM2 bs out1 _ hbs' hM1 h1
      refine ⟨out', hM', h'.fewer _ (fun x y hxy => ?_)⟩
      rcases hxy with hxy | ⟨rfl, hy⟩
      · exact .inl (.inl hxy)
      · rcases List.mem_cons.1 hy with rfl | hy
        · exact .inl (.inr ⟨rfl, rfl⟩)
        · exact .inr ⟨rfl, hy⟩
    have hcb := hc2 b
    by_cases hlt : 0 < cost a b ∧ (at0 out b < 0 ∨ at0 out a + cost a b < at0 out b)
    · have h1 := h.tell a b ha hb hd hM hn hlt.1 (by omega) hlt.2
      have h0a := (h.dn a ha hd).1
      have hne : b ≠ a := fun e => by subst e; rcases hlt.2 with c | c <;> omega
      refine fin _ ?_ h1
      rw [at0_set _ _ _ _ (by rw [h.lo_]; exact hb), if_neg hne]
      exact hM
    · refine fin out hM (h.skip a b hd (fun hc => ?_))
      by_cases h0 : at0 out b < 0
      · exact absurd ⟨hc, .inl h0⟩ hlt
      · by_cases h1 : at0 out a + cost a b < at0 out b
        · exact absurd ⟨hc, .inr h1⟩ hlt
        · exact ⟨by omega, by omega⟩
theorem least_of (n : Nat) (P : Nat → Prop) (v : Nat → Int) (h0 : ∀ k, P k → 0 ≤ v k) (hex : ∃ k, P k) : ∃ a, P a ∧ ∀ k, P k → v a ≤ v k := by
  have key : ∀ (d : Nat) (k : Nat), P k → v k ≤ (d : Int) → ∃ a, P a ∧ ∀ j, P j → v a ≤ v j := by
    intro d
    induction d with
    | zero => intro k hk hv; exact ⟨k, hk, fun j hj => by have := h0 j hj; omega⟩
    | succ d ih =>
      intro k hk hv
      by_cases c : ∃ j, P j ∧ v j < v k
      · obtain ⟨j, hj, hlt⟩ := c
        exact ih j hj (by omega)
      · refine ⟨k, hk, fun j hj => ?_⟩
        by_cases e : v j < v k
        · exact absurd ⟨j, hj, e⟩ c
        · omega
  obtain ⟨k, hk⟩ := hex
  exact key (v k).toNat k hk (by have := h0 k hk; omega)
theorem search_ends (bs : Nat → List Nat) (hbs : ∀ a, a < n → ∀ b, b ∈ bs a ↔ nb a b) (hin : ∀ a, a < n → ∀ b, nb a b → b < n) (hc2 : ∀ a b, 0 ≤ cost a b ∧ cost a b ≤ 2) :
    ∀ (q : Nat) (out : List Int) (done : List Bool) (m : Nat) (M : Int), n - m ≤ q → SInv n src nb cost out done m M (fun x y => atB done x = true ∧ nb x y) → ∃ out', Dist n src nb cost out' := by
  intro q
  induction q with
  | zero =>
    intro out done m M hq h
    by_cases hend : ∀ k, k < n → at0 out k < 0 ∨ atB done k = true
    · exact ⟨out, h.dist hend⟩
    · exfalso
      have hm := h.le
      have : ∃ k, k < n ∧ ¬ (at0 out k < 0 ∨ atB done k = true) := by
        by_cases c : ∃ k, k < n ∧ ¬ (at0 out k < 0 ∨ atB done k = true)
        · exact c
        · exact absurd (fun k hk => by by_cases d : at0 out k < 0 ∨ atB done k = true; exact d; exact absurd ⟨k, hk, d⟩ c) hend
      obtain ⟨k, hk, hc⟩ := this
      have hcs := count_set done k (by rw [h.ld]; exact hk) (by cases hb : atB done k with
        | false => rfl
        | true => exact absurd (.inr hb) hc)
      have hle : (done.set k true).count true ≤ (done.set k true).length := List.count_le_length
      rw [List.length_set, h.ld, hcs, h.cnt] at hle
      omega
  | succ q ih =>
    intro out done m M hq h
    by_cases hend : ∀ k, k < n → at0 out k < 0 ∨ atB done k = true
    · exact ⟨out, h.dist hend⟩
    · have : ∃ k, k < n ∧ ¬ (at0 out k < 0 ∨ atB done k = true) := by
        by_cases c : ∃ k, k < n ∧ ¬ (at0 out k < 0 ∨ atB done k = true)
        · exact c
        · exact absurd (fun k hk => by by_cases d : at0 out k < 0 ∨ atB done k = true; exact d; exact absurd ⟨k, hk, d⟩ c) hend
      obtain ⟨k0, hk0, hc0⟩ := this
      have hf : ∀ k, ¬ (at0 out k < 0 ∨ atB done k = true) → 0 ≤ at0 out k ∧ atB done k = false := fun k hc => by
        refine ⟨by by_cases c : at0 out k < 0; exact absurd (.inl c) hc; omega, ?_⟩
        cases hb : atB done k with
        | false => rfl
        | true => exact absurd (.inr hb) hc
      obtain ⟨a, ⟨ha, h0, hda⟩, hmin⟩ := least_of n (fun k => k < n ∧ 0 ≤ at0 out k ∧ atB done k = false) (at0 out) (fun k hk => hk.2.1) ⟨k0, hk0, hf k0 hc0⟩
      have hup := h.up a ha
      have h1 := h.pick a ha hda h0 (fun k hk hd hk0 => hmin k ⟨hk, hk0, hd⟩)
      have hda1 : atB (done.set a true) a = true := by rw [atB_set _ _ _ _ (by rw [h.ld]; exact ha), if_pos rfl]
      obtain ⟨out', _, h2⟩ := relax_all ha hda1 (hc2 a) (by omega) (bs a) out _ (fun b hb => ⟨hin a ha b ((hbs a ha b).1 hb), (hbs a ha b).1 hb⟩) rfl h1
      refine ih out' (done.set a true) (m + 1) (at0 out a) (by omega) (h2.fewer _ (fun x y hxy => ?_))
      obtain ⟨hx, hn⟩ := hxy
      rw [atB_set _ _ _ _ (by rw [h.ld]; exact ha)] at hx
      by_cases e : a = x
      · subst e
        exact .inr ⟨rfl, (hbs a ha y).2 hn⟩
      · rw [if_neg e] at hx
        exact .inl ⟨hx, hn⟩
end
theorem dto_ex {f : GF} (hg : Good f) (fl : Bool) {src : Nat} (h : src < f.ground.length) : ∃ far, DTo f fl src far := by
  refine search_ends (fun a => (besL f (a : Int)).map Int.toNat) (fun a ha b => ?_) (fun a ha b hb => nb_in f hg a b ha hb) (fun a b => ?_) f.ground.length _ _ 0 0 (by omega) ((sinv_start f.ground.length src (NB f) (costTo f fl) h).fewer _ (fun x y hxy => by rw [atB_rep] at hxy; cases hxy.1))
  · rw [List.mem_map]
    constructor
    · rintro ⟨y, hy, rfl⟩
      have hb := bes_in f a _ hg.wide.1 (by omega) (by rw [← hg.lg]; omega) hy
      unfold NB
      rw [Int.toNat_of_nonneg hb.1]
      exact hy
    · intro hb
      exact ⟨(b : Int), hb, by simp⟩
  · unfold costTo ontoL ontoG
    repeat' split
    all_goals omega
theorem toF_dto {f : GF} (hg : Good f) (fl : Bool) {b : Nat} (h : b < f.ground.length) : DTo f fl b (toF f fl b) := Classical.epsilon_spec (p := fun far => DTo f fl b far) (dto_ex hg fl h)
/-- A step leads beside, onto what can be stepped on. -/
theorem toward_in {f : GF} (hg : Good f) (fl : Bool) {a b : Nat} (ha : a < f.ground.length) (hb : b < f.ground.length) : towardL f fl a b < f.ground.length ∧ (towardL f fl a b ≠ a → NB f a (towardL f fl a b) ∧ 0 < ontoL f (towardL f fl a b) fl) := by
  have hd := toF_dto hg fl hb
  unfold towardL
  by_cases h0 : at0 (toF f fl b) a < 0
  · rw [if_pos h0]; exact ⟨ha, fun c => absurd rfl c⟩
  · rw [if_neg h0]
    by_cases e : a = b
    · subst e
      have hn : nextL f fl (toF f fl a) a = a := by
        unfold nextL
        rcases findD_or (okN f fl (toF f fl a) a) a (besL f a) with ⟨h1, h2⟩ | ⟨h1, _⟩
        · exfalso
          unfold okN at h2
          simp only [Bool.and_eq_true, decide_eq_true_eq] at h2
          rw [hd.hsrc.2] at h2
          omega
        · rw [h1]; simp
      rw [hn]
      exact ⟨ha, fun c => absurd rfl c⟩
    · have hs := next_spec f hg fl _ b a hd ha (by omega) e
      exact ⟨hs.1, fun _ => ⟨hs.2.1, hs.2.2.1⟩⟩
end Go.Proofs.YtkgkpggfoieioaaDoor
