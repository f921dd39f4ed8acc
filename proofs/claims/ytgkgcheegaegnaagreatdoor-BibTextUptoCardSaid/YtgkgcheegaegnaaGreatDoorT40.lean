/- The laws PersonTexts and PersonReturns answer true of every person and text. No condition. -/
import Derived.Test.YtgkgcheegaegnaaGreatDoorT35
import Derived.Test.YtgkgcheegaegnaaGreatDoorT39

set_option linter.all false
namespace Go.Proofs.YtgkgcheegaegnaaGreatDoor
open Go.RowKit

/-- Is a person's name short? -/
def fewB (q : P4) : Bool := decide (q.1.length ≤ 100) && (decide (q.2.1.length ≤ 100) && (decide (q.2.2.1.length ≤ 100) && decide (q.2.2.2.length ≤ 100)))
theorem few_lens (q : P4) (h : fewB q = true) : q.1.length ≤ 100 ∧ q.2.1.length ≤ 100 ∧ q.2.2.1.length ≤ 100 ∧ q.2.2.2.length ≤ 100 := by
  unfold fewB at h; simpa using h
theorem Fit4.lens {q : P4} (h : Fit4 q) : q.1.length ≤ 9223372036854775807 ∧ q.2.1.length ≤ 9223372036854775807 ∧ q.2.2.1.length ≤ 9223372036854775807 ∧ q.2.2.2.length ≤ 9223372036854775807 := h

end Go.Proofs.YtgkgcheegaegnaaGreatDoor

/- The law PersonReturns answers true of every person and text. No condition. -/
set_option linter.all false
namespace Go.Proofs.YtgkgcheegaegnaaGreatDoor
open Go.RowKit

theorem three_len (m : Nat) (xs : List Bs) (h : ∀ x ∈ xs, x.length ≤ m) : (threeF xs).1.length ≤ m ∧ (threeF xs).2.1.length ≤ m ∧ (threeF xs).2.2.length ≤ m := by
  match xs, h with
  | [], _ => simp [threeF]
  | [a], h => exact ⟨h a (by simp), by simp [threeF], by simp [threeF]⟩
  | [a, b], h => exact ⟨h a (by simp), h b (by simp), by simp [threeF]⟩
  | [a, b, c], h => exact ⟨h a (by simp), h c (by simp), h b (by simp)⟩
  | a :: b :: c :: d :: r, _ => simp [threeF]
theorem fields_len (t : Bs) : (fieldsP t).1.length ≤ t.length + 1 ∧ (fieldsP t).2.1.length ≤ t.length + 1 ∧ (fieldsP t).2.2.length ≤ t.length + 1 := by
  rw [fields_of]
  refine three_len _ _ fun x hx => ?_
  obtain ⟨y, hy, rfl⟩ := List.mem_map.1 hx
  have h1 := split_mem_le 44 t y hy
  have h2 := cleanL_le y
  omega
theorem restR_len (p t : Bs) : size4 (restR p t).2 ≤ p.length + 3 * (t.length + 1) := by
  unfold restR
  by_cases hb : badP p t
  · rw [if_pos hb]; simp [size4, zero4]
  rw [if_neg hb]
  by_cases hf : (fieldsP t).1 = []
  · rw [if_pos hf]; simp [size4, zero4]
  rw [if_neg hf]
  have := fields_len t
  simp only [size4]; omega
theorem parse_len (l : Bs) : size4 (parseR l).2 ≤ 4 * (l.length + 3) := by
  rw [parseR_body]
  cases hl : lineB l
  · simp [size4, zero4]
  rw [if_pos rfl]
  have hc := cleanL_le l
  unfold bodyR restP
  match hq : cleanL l with
  | [] => have := restR_len [] []; simp only; simp at this; omega
  | x :: r =>
    rw [hq] at hc
    simp only [List.length_cons] at hc
    simp only
    by_cases hx : x = 123
    · rw [if_pos hx]
      by_cases hb : before 125 r < r.length
      · rw [if_pos hb]
        have h1 := restR_len (cleanL (r.take (before 125 r))) (r.drop (before 125 r + 1))
        have h2 := cleanL_le (r.take (before 125 r))
        simp only [List.length_take, List.length_drop] at h1 h2
        simp only; omega
      · rw [if_neg hb]; simp [size4, zero4]
    · rw [if_neg hx]
      have h1 := restR_len [] (x :: r)
      simp only [List.length_cons, List.length_nil] at h1
      simp only; omega
theorem textS_len (f g p s : Bs) : (textS f g p s).length ≤ f.length + g.length + p.length + s.length + 9 := by
  unfold textS
  by_cases h1 : p = [] <;> by_cases h2 : s = [] <;> by_cases h3 : g = [] <;> simp [h1, h2, h3] <;> omega
/-- What Text hands to Parse is read back. -/
theorem pt_ok (q : P4) (h : textE q.1 q.2.1 q.2.2.1 q.2.2.2 = 0) (hs : size4 q ≤ 100000) (w : World) (hg : Gnd w) :
    Calls Tryz.prog 85 #[.string (bs (textR q.1 q.2.1 q.2.2.1 q.2.2.2))] w fun e w' => e = .returned (.tuple #[p4V q, .int .i64 0]) ∧ Kept w w' := by
  have e1 : textR q.1 q.2.1 q.2.2.1 q.2.2.2 = textS q.1 q.2.1 q.2.2.1 q.2.2.2 := by unfold textR; rw [if_pos h]
  have hl := textS_len q.1 q.2.1 q.2.2.1 q.2.2.2
  have h1 := parse_any (textS q.1 q.2.1 q.2.2.1 q.2.2.2) w hg (by unfold size4 at hs; omega)
  unfold ParsePost at h1
  rw [parse_text _ _ _ _ h] at h1
  rw [e1]; exact h1
theorem text_ok4 (q : P4) (h : textE q.1 q.2.1 q.2.2.1 q.2.2.2 = 0) (hs : size4 q ≤ 100000) (w : World) (hg : Gnd w) :
    Calls Tryz.prog 32 #[p4V q] w fun e w' => e = .returned (.tuple #[.string (bs (textR q.1 q.2.1 q.2.2.1 q.2.2.2)), .int .i64 0]) ∧ Kept w w' := by
  have h1 := text_any q.1 q.2.1 q.2.2.1 q.2.2.2 w hg (by unfold size4 at hs; omega)
  rw [h] at h1; exact h1
theorem text_no4 (q : P4) (h : textE q.1 q.2.1 q.2.2.1 q.2.2.2 ≠ 0) (hs : size4 q ≤ 100000) (w : World) (hg : Gnd w) :
    Calls Tryz.prog 32 #[p4V q] w fun e w' => e = .returned (.tuple #[.string (bs []), .int .i64 (textE q.1 q.2.1 q.2.2.1 q.2.2.2)]) ∧ Kept w w' := by
  have h1 := text_any q.1 q.2.1 q.2.2.1 q.2.2.2 w hg (by unfold size4 at hs; omega)
  have e1 : textR q.1 q.2.1 q.2.2.1 q.2.2.2 = [] := by unfold textR; rw [if_neg h]
  rw [e1] at h1; exact h1

end Go.Proofs.YtgkgcheegaegnaaGreatDoor
