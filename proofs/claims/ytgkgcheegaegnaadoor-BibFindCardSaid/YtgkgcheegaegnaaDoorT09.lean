/- The reference's Valid of layer 1. No condition but the length. -/
import Derived.Test.YtgkgcheegaegnaaDoorT05
import Derived.Test.YtgkgcheegaegnaaDoorT02
import Derived.Test.YtgkgcheegaegnaaDoorShelf

set_option linter.all false
namespace Go.Proofs.YtgkgcheegaegnaaDoor
open Go.RowKit

theorem all_from {α : Type} (f : α → Bool) (l : List α) (k : Nat) (p : α) (h : l[k]? = some p) : (l.drop k).all f = (f p && (l.drop (k + 1)).all f) := by
  obtain ⟨hk, rfl⟩ := List.getElem?_eq_some_iff.1 h
  rw [List.drop_eq_getElem_cons hk, List.all_cons]
theorem all_start {α : Type} (f : α → Bool) (l : List α) (b : Bool) (h : b = l.all f) : Hid (b = (l.drop 0).all f) := by unfold Hid; simpa using h

end Go.Proofs.YtgkgcheegaegnaaDoor

/- A text cleaned of spaces: the program's way and the reference's. No condition but the length. -/
set_option linter.all false
namespace Go.Proofs.YtgkgcheegaegnaaDoor
open Go.RowKit


theorem keepStep_sp (o : Bs) (b : UInt8) (hb : b = 32) (h : o = [] ∨ o.getLast? = some 32) : keepStep o b = o := by unfold keepStep; rw [if_pos ⟨hb, h⟩]
theorem keepStep_ad (o : Bs) (b : UInt8) (h : b ≠ 32 ∨ (o ≠ [] ∧ o.getLast? ≠ some 32)) : keepStep o b = o ++ [b] := by
  unfold keepStep; rw [if_neg]; rintro ⟨q, r⟩; rcases h with h | ⟨h1, h2⟩
  · exact h q
  · rcases r with r | r
    · exact h1 r
    · exact h2 r
theorem last_at8 (o : Bs) (h : o ≠ []) : o.getLast? = some 32 ↔ at8 o (o.length - 1) = 32 := by
  have hl : o.length - 1 < o.length := by have := List.length_pos_iff.2 h; omega
  rw [at8_get o _ hl, List.getLast?_eq_getElem?, List.getElem?_eq_getElem hl, Option.some.injEq]
  exact (u8_int _ 32 (by decide)).symm

end Go.Proofs.YtgkgcheegaegnaaDoor
