/- joined, Full, Short of package person and of its reference. Conditions: lengths. -/
import Derived.Test.YteflhlbgbgamnaaGreatDoorT11

set_option linter.all false
namespace Go.Proofs.YteflhlbgbgamnaaGreatDoor
open Go.RowKit

def joinedL (xs : List Bs) : Bs := Lib.join (xs.filter nonE) [32]
def bulk (xs : List Bs) : Nat := (xs.map (fun x => x.length + 1)).sum
theorem joinedL_le (xs : List Bs) : (joinedL xs).length ≤ bulk xs := Nat.le_trans (join_len_le _) (sum_filter_le _ _)
theorem bulk_len (xs : List Bs) : xs.length ≤ bulk xs := by
  unfold bulk
  induction xs with
  | nil => simp
  | cons a r ih => simp only [List.map_cons, List.sum_cons, List.length_cons]; omega
theorem bulk_take (xs : List Bs) (k : Nat) : bulk (xs.take k) ≤ bulk xs := by
  unfold bulk
  conv => rhs; rw [← List.take_append_drop k xs]
  rw [List.map_append, List.sum_append]; omega
theorem joinedL_snoc (xs : List Bs) (x : Bs) : joinedL (xs ++ [x]) = (if joinedL xs ≠ [] ∧ x ≠ [] then joinedL xs ++ [32] else joinedL xs) ++ x := by
  unfold joinedL
  rw [List.filter_append]
  by_cases hx : x = []
  · subst hx
    simp [nonE]
  · have e : [x].filter nonE = [x] := by simp [nonE, hx]
    rw [e, join_snoc]
    by_cases hf : xs.filter nonE = []
    · rw [hf]; simp [Lib.join_nil]
    · have hne : Lib.join (xs.filter nonE) [32] ≠ [] := by
        cases hq : xs.filter nonE with
        | nil => exact absurd hq hf
        | cons a r =>
          have ha : a ∈ xs.filter nonE := by rw [hq]; simp
          have ha' : a ≠ [] := by have := (List.mem_filter.1 ha).2; simpa [nonE] using this
          rw [Lib.join_cons]; simp [ha']
      rw [if_neg hf, if_pos ⟨hne, hx⟩]

end Go.Proofs.YteflhlbgbgamnaaGreatDoor

/- Full, Short of package person and of its reference. Conditions: lengths. -/
set_option linter.all false
namespace Go.Proofs.YteflhlbgbgamnaaGreatDoor
open Go.RowKit

/-- A person's value. -/
abbrev persV (f g p s : Bs) : Value := .agg #[.string (bs f), .string (bs g), .string (bs p), .string (bs s)]
theorem strs_lit (w : World) (arr : Array Value) (xs : List Bs) (n : Nat) (hn : n = xs.length) (h : arr.toList = strCells xs) (e : TypeId) (g : Nat) (hg : g = w.heap.size) : Strs (w.alloc (.cells arr e)) (.slice (some ⟨g, 0, none⟩) n n) xs := by
  subst hn hg
  refine ⟨_, _, rfl, Nat.le_refl _, fun _ => ⟨w.heap.size, 0, rfl, by simp, fun j x hx => ?_⟩⟩
  have := new_cells w arr e w.heap.size rfl j (.string (bs x)) (by rw [h]; exact strCells_at xs j x hx)
  have e1 : ((⟨w.heap.size, 0, none⟩ : Addr).add j) = ⟨w.heap.size, j, none⟩ := by unfold Addr.add; split <;> simp_all
  rw [e1] at this
  rw [Nat.zero_add]; exact this

end Go.Proofs.YteflhlbgbgamnaaGreatDoor
