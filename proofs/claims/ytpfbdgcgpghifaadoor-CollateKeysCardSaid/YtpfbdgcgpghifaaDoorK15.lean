/- Plain words on the text of a collation, as the reference builds it; what the reference says of rules and letters. No condition. -/
import Derived.Test.YtpfbdgcgpghifaaDoorK14
import Derived.Test.YtpfbdgcgpghifaaDoorK05

set_option linter.all false
namespace Go.Proofs.YtpfbdgcgpghifaaDoor
open Go.RowKit

/-- The first line, as far as it is written. -/
def ordT (xs : List Bs) (k : Nat) : Bs := if k = 0 then [] else kOrder ++ (xs.take k).flatMap fun x => 32 :: x
theorem ordT_next (xs : List Bs) (k : Nat) (x : Bs) (h : xs[k]? = some x) : ordT xs (k + 1) = (if k = 0 then kOrder else ordT xs k) ++ ([32] ++ x) := by
  obtain ⟨hk, rfl⟩ := List.getElem?_eq_some_iff.1 h
  unfold ordT
  rw [if_neg (by omega), List.take_succ_eq_append_getElem hk, List.flatMap_append]
  by_cases q : k = 0
  · subst q; simp
  · rw [if_neg q, if_neg q]; simp
theorem ordT_join (xs : List Bs) (h : xs ≠ []) : ordT xs xs.length = [111, 114, 100, 101, 114, 32] ++ Lib.join xs [32] := by
  have e : ∀ ys : List Bs, ys ≠ [] → (ys.flatMap fun x => 32 :: x) = 32 :: Lib.join ys [32] := by
    intro ys
    induction ys with
    | nil => intro q; exact absurd rfl q
    | cons y r ih =>
      intro _
      cases r with
      | nil => simp [Lib.join_one]
      | cons z r => rw [List.flatMap_cons, ih (by simp), join_2]; simp
  unfold ordT
  have hl : ¬ xs.length = 0 := fun q => h (List.length_eq_zero_iff.1 q)
  rw [if_neg hl, List.take_of_length_le (Nat.le_refl _), e xs h]
  simp [kOrder]
theorem ordT_nil (xs : List Bs) : ordT xs xs.length = [] ↔ xs = [] := by
  constructor
  · intro h
    apply Classical.byContradiction
    intro q
    rw [ordT_join xs q] at h
    simp at h
  · rintro rfl; rfl
/-- The lines of the ranks. -/
def rnkT (ps : List Pr) : Bs := ps.flatMap fun p => [97, 115, 32] ++ p.1 ++ [32] ++ p.2 ++ [10]
theorem rnkT_next (ps : List Pr) (k : Nat) (p : Pr) (h : ps[k]? = some p) : rnkT (ps.take (k + 1)) = rnkT (ps.take k) ++ ([97, 115, 32] ++ p.1 ++ [32] ++ p.2 ++ [10]) := by
  obtain ⟨hk, rfl⟩ := List.getElem?_eq_some_iff.1 h
  unfold rnkT
  rw [List.take_succ_eq_append_getElem hk, List.flatMap_append]
  simp
theorem colS_at (c : ColT) (h : colE c = 0) : colS c = (if c.order = [] then [] else ordT c.order c.order.length ++ [10]) ++ rnkT c.ranks ++ (if c.ignore = [] then [] else [105, 103, 110, 111, 114, 101, 32] ++ c.ignore ++ [10]) := by
  unfold colS colL joinLn rnkT
  rw [if_pos h]
  have e1 : (if c.order = [] then ([] : List Bs) else [[111, 114, 100, 101, 114, 32] ++ Lib.join c.order [32]]).flatMap (fun x => x ++ [10]) = (if c.order = [] then [] else ordT c.order c.order.length ++ [10]) := by
    by_cases q : c.order = []
    · rw [if_pos q, if_pos q]; rfl
    · rw [if_neg q, if_neg q, ordT_join _ q]; simp
  have e2 : (if c.ignore = [] then ([] : List Bs) else [[105, 103, 110, 111, 114, 101, 32] ++ c.ignore]).flatMap (fun x => x ++ [10]) = (if c.ignore = [] then [] else [105, 103, 110, 111, 114, 101, 32] ++ c.ignore ++ [10]) := by
    by_cases q : c.ignore = []
    · rw [if_pos q, if_pos q]; rfl
    · rw [if_neg q, if_neg q]; simp
  rw [List.flatMap_append, List.flatMap_append, e1, e2]
  congr 2
  simp [rankLine, List.flatMap_map]
/-- Letters put to others, one more of them. -/
theorem addA_app : ∀ (xs ys l : List Int), addA l (xs ++ ys) = match addA l xs with
    | none => none
    | some l' => addA l' ys
  | [], ys, l => rfl
  | x :: xs, ys, l => by
    rw [List.cons_append, show addA l (x :: (xs ++ ys)) = (if l.contains x = true then none else addA (l ++ [x]) (xs ++ ys)) from rfl, show addA l (x :: xs) = (if l.contains x = true then none else addA (l ++ [x]) xs) from rfl]
    split
    · rfl
    · exact addA_app xs ys _
theorem addA_one (l : List Int) (x : Int) : addA l [x] = if l.contains x = true then none else some (l ++ [x]) := by
  show (if l.contains x = true then none else addA (l ++ [x]) []) = _
  split <;> rfl
/-- The letters k on of a list are put to what the first k left. -/
theorem addA_take (xs l : List Int) (k : Nat) (h : k < xs.length) : addA l (xs.take (k + 1)) = match addA l (xs.take k) with
    | none => none
    | some l' => if l'.contains xs[k] = true then none else some (l' ++ [xs[k]]) := by
  rw [List.take_succ_eq_append_getElem h, addA_app]
  cases addA l (xs.take k) with
  | none => rfl
  | some l' => exact addA_one l' _
theorem addA_none (xs l : List Int) (k : Nat) (hk : k ≤ xs.length) (h : addA l (xs.take k) = none) : addA l xs = none := by
  rw [← List.take_append_drop k xs, addA_app, h]
end Go.Proofs.YtpfbdgcgpghifaaDoor

/- The reference's Valid of layer 1. No condition but the length. -/
set_option linter.all false
namespace Go.Proofs.YtpfbdgcgpghifaaDoor
open Go.RowKit

theorem all_from {α : Type} (f : α → Bool) (l : List α) (k : Nat) (p : α) (h : l[k]? = some p) : (l.drop k).all f = (f p && (l.drop (k + 1)).all f) := by
  obtain ⟨hk, rfl⟩ := List.getElem?_eq_some_iff.1 h
  rw [List.drop_eq_getElem_cons hk, List.all_cons]
theorem all_start {α : Type} (f : α → Bool) (l : List α) (b : Bool) (h : b = l.all f) : Hid (b = (l.drop 0).all f) := by unfold Hid; simpa using h

end Go.Proofs.YtpfbdgcgpghifaaDoor
