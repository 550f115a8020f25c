import Derived.Test.YtkgdflecepockaaDoorPlainT
namespace Go.Proofs.YtkgdflecepockaaDoor
set_option linter.unusedVariables false
open Go.RowKit
theorem u8_byte (n : Int) : Byte (IntKind.u8.wrap n) := by unfold Byte; rw [IntKind.wrap_u8]; omega
theorem catF_byte (ls : List (List Int)) (h : ∀ a ∈ ls, ∀ x ∈ a, Byte x) : ∀ x ∈ catF ls, Byte x := by
  intro x hx
  obtain ⟨a, ha, hxa⟩ := List.mem_flatMap.1 hx
  rcases List.mem_cons.1 hxa with rfl | hxa
  · exact u8_byte _
  · rcases List.mem_cons.1 hxa with rfl | hxa
    · exact u8_byte _
    · exact h a ha x hxa
theorem framesL_cat (ls : List (List Int)) (C : Nat) (h : ∀ a ∈ ls, a.length ≤ 65535) (hC : C ≤ sizeF ls) :
    ∃ m, m ≤ ls.length ∧ framesL ((catF ls).take C) = (ls.take m, sizeF (ls.take m)) ∧ sizeF (ls.take m) ≤ C ∧ ∀ a, ls[m]? = some a → C - sizeF (ls.take m) < 2 + a.length := by
  have hl := catF_len ls
  have hPl : ((catF ls).take C).length = C := by rw [List.length_take]; omega
  obtain ⟨m, h1, h2, h3, h4⟩ := fr_spec ls C 0 ((catF ls).take C) h (Nat.zero_le _) (by omega) (by omega) (by rw [List.drop_zero, hPl, Nat.sub_zero])
  refine ⟨m, h1, ?_, by omega, fun a ha => ?_⟩
  · unfold framesL
    rw [hPl, h2, Nat.zero_add]
  · have := h4 a ha
    rw [hPl, Nat.zero_add] at this
    exact this
/-- The frames of what was put behind each other, cut off at C. -/
theorem frames_cat (D : Option Addr) (C d B : Nat) (ls : List (List Int)) (w : World) (hnil : D = none → d = 0) (hB : B ≤ w.heap.size) (hr : RD w B 1 D (sizeF ls) ((catF ls).map (.int .u8))) (hb : ∀ a ∈ ls, ∀ x ∈ a, Byte x) (hl : ∀ a ∈ ls, a.length ≤ 65535) (hC : C ≤ sizeF ls) (hd : sizeF ls ≤ d) (hn : sizeF ls ≤ 1000000000) :
    ∃ m, m ≤ ls.length ∧ sizeF (ls.take m) ≤ C ∧ (∀ a, ls[m]? = some a → C - sizeF (ls.take m) < 2 + a.length) ∧
      Calls Tryd.prog 16 #[.slice D C d] w fun e w' => ∃ (X : Option Addr) (d' : Nat) (rows : List (Value × List Int)), e = .returned (.tuple #[.slice X m d', .int .i64 (sizeF (ls.take m))]) ∧ rows.map (·.2) = ls.take m ∧
        w'.ownsRow w.heap.size 23 1 (.slice X m d') m (rows.map (·.1)) ∧ (∀ r ∈ rows, w'.ownsRow w.heap.size 5 1 r.1 r.2.length (r.2.map (.int .u8))) ∧ Below w.heap.size w w' := by
  obtain ⟨m, h1, h2, h3, h4⟩ := framesL_cat ls C hl hC
  refine ⟨m, h1, h3, h4, ?_⟩
  have hPl : ((catF ls).take C).length = C := by rw [List.length_take, catF_len]; omega
  have hRP := hr.pre hC
  rw [Nat.mul_one, ← List.map_take] at hRP
  refine (frames_at D C d B ((catF ls).take C) w hPl hnil hB hRP (fun x hx => catF_byte ls hb x (List.mem_of_mem_take hx)) (by omega) (by omega)).mono ?_
  rintro e w' ⟨X, d', rows, he, hm, ho, hrow, hbw⟩
  rw [h2] at he hm
  have hlen : rows.length = m := by
    have := congrArg List.length hm
    rw [List.length_map, List.length_take] at this
    omega
  rw [hlen] at he ho
  exact ⟨X, d', rows, he, hm, ho, hrow, hbw⟩
end Go.Proofs.YtkgdflecepockaaDoor
