/- The reference's enumeration, and its list of persons. Conditions: lengths. -/
import Derived.Test.YtafcngdnngpdnaaGreatDoorK32
import Derived.Test.YtafcngdnngpdnaaGreatDoorK22
import Derived.Test.YtafcngdnngpdnaaGreatDoorK28

set_option linter.all false
namespace Go.Proofs.YtafcngdnngpdnaaGreatDoor
open Go.RowKit

/-- What the enumeration has gathered behind k texts. -/
def accR (l : Bs) (xs : List Bs) (k : Nat) : Bs := if k = xs.length then listL l xs else Lib.join (xs.take k) sepL
theorem accR_zero (l : Bs) (xs : List Bs) : accR l xs 0 = [] := by
  unfold accR
  by_cases h : 0 = xs.length
  · rw [if_pos h]
    obtain rfl : xs = [] := List.length_eq_zero_iff.1 h.symm
    unfold listL; rw [if_pos (.inr (by simp)), Lib.join_nil]
  · rw [if_neg h]; simp [Lib.join_nil]
theorem join_step (xs : List Bs) (k : Nat) (x : Bs) (h : xs[k]? = some x) : Lib.join (xs.take (k + 1)) sepL = (if k = 0 then [] else Lib.join (xs.take k) sepL ++ sepL) ++ x := by
  obtain ⟨hk, rfl⟩ := List.getElem?_eq_some_iff.1 h
  rw [List.take_succ_eq_append_getElem hk, join_snoc2]
  by_cases q : k = 0
  · subst q; simp
  · rw [if_neg q, if_neg]
    intro e
    have := congrArg List.length e
    rw [List.length_take, List.length_nil] at this; omega
theorem accR_before (l : Bs) (xs : List Bs) (k : Nat) (h : k < xs.length) : accR l xs k = Lib.join (xs.take k) sepL := by unfold accR; rw [if_neg (by omega)]
/-- A text that is not the last of several in a known language. -/
theorem accR_plain (l : Bs) (xs : List Bs) (k : Nat) (x : Bs) (h : xs[k]? = some x) (hp : ¬ (0 < k ∧ k = xs.length - 1 ∧ (andOf l).isSome = true)) : accR l xs (k + 1) = (if k = 0 then [] else accR l xs k ++ sepL) ++ x := by
  have hk := (List.getElem?_eq_some_iff.1 h).1
  rw [accR_before l xs k hk, ← join_step xs k x h]
  by_cases q : k + 1 = xs.length
  · have e : accR l xs (k + 1) = listL l xs := by unfold accR; rw [if_pos q]
    rw [e, List.take_of_length_le (by omega)]
    unfold listL
    rw [if_pos]
    by_cases q0 : 0 < k
    · left
      cases hs : (andOf l).isSome
      · rfl
      · exact absurd ⟨q0, by omega, hs⟩ hp
    · right; omega
  · unfold accR; rw [if_neg q]
theorem accR_last (l : Bs) (xs : List Bs) (k : Nat) (x : Bs) (h : xs[k]? = some x) (h0 : 0 < k) (h1 : k = xs.length - 1) (hs : (andOf l).isSome = true) : accR l xs (k + 1) = accR l xs k ++ [32] ++ (andOf l).getD [] ++ [32] ++ x := by
  have hk := (List.getElem?_eq_some_iff.1 h).1
  rw [accR_before l xs k hk]
  have e : accR l xs (k + 1) = listL l xs := by unfold accR; rw [if_pos (by omega)]
  rw [e]
  unfold listL
  rw [if_neg (by rw [hs]; simp; omega)]
  have e1 : xs.dropLast = xs.take k := by rw [List.dropLast_eq_take, h1]
  have e2 : xs.getLastD [] = x := by
    rw [List.getLastD_eq_getLast?, List.getLast?_eq_getElem?, ← h1, h]; rfl
  rw [e1, e2]
theorem accR_len (l : Bs) (xs : List Bs) (m : Nat) (h : ∀ x ∈ xs, x.length ≤ m) (k : Nat) (hk : k < xs.length) : (accR l xs k).length ≤ xs.length * (m + 2) := by
  rw [accR_before l xs k hk]
  have h1 := join_max sepL m (xs.take k) (fun x hx => h x (List.mem_of_mem_take hx))
  have h2 : (xs.take k).length ≤ xs.length := by simp; omega
  have := Nat.mul_le_mul_right (m + 2) h2
  have e : sepL.length = 2 := rfl
  rw [e] at h1
  omega

end Go.Proofs.YtafcngdnngpdnaaGreatDoor

/- The reference's list of persons. Conditions: lengths. -/
set_option linter.all false
namespace Go.Proofs.YtafcngdnngpdnaaGreatDoor
open Go.RowKit

def knownK (l : Bs) (k : Nat) : Bool := (langsL.take k).any fun x => x == l
theorem knownK_all (l : Bs) : knownK l 4 = (andOf l).isSome := by
  unfold knownK langsL andOf
  by_cases h1 : l = lEn
  · subst h1; rfl
  by_cases h2 : l = lDe
  · subst h2; rfl
  by_cases h3 : l = lFr
  · subst h3; rfl
  by_cases h4 : l = lEs
  · subst h4; rfl
  rw [if_neg h1, if_neg h2, if_neg h3, if_neg h4]
  have e : ∀ x : Bs, ¬ l = x → (x == l) = false := fun x h => by simpa using fun q => h q.symm
  simp [e _ h1, e _ h2, e _ h3, e _ h4]
theorem knownK_step (l : Bs) (k : Nat) (x : Bs) (h : langsL[k]? = some x) : knownK l (k + 1) = (knownK l k || x == l) := by
  unfold knownK
  obtain ⟨hk, rfl⟩ := List.getElem?_eq_some_iff.1 h
  rw [List.take_succ_eq_append_getElem hk, List.any_append]; simp only [List.any_cons, List.any_nil, Bool.or_false]
theorem lang_cell {w : World} {g : Nat} (h : Blk w g 9 langCells) (k : Nat) (hk : k < 4) : ∃ x, langsL[k]? = some x ∧ w.cell? ⟨g, k, none⟩ = some (.string (bs x)) := by
  rcases lang_cases k hk with rfl | rfl | rfl | rfl
  · exact ⟨_, rfl, h.cell 0 _ rfl⟩
  · exact ⟨_, rfl, h.cell 1 _ rfl⟩
  · exact ⟨_, rfl, h.cell 2 _ rfl⟩
  · exact ⟨_, rfl, h.cell 3 _ rfl⟩

end Go.Proofs.YtafcngdnngpdnaaGreatDoor

/- value of publisherref31. Conditions: lengths. -/
set_option linter.all false
namespace Go.Proofs.YtafcngdnngpdnaaGreatDoor
open Go.RowKit

theorem valS_in {c : FilT} {k x : Bs} (h : lookB (specL c) k = some x) : valS c k = x := by
  rw [valS_look, h]; rfl
theorem valS_out {c : FilT} {k : Bs} (h : (specL c).all (fun e => !(e.1 == k)) = true) : valS c k = (fieldL c.fields k).getD [] := by
  rw [valS_look]
  have : lookB (specL c) k = none := by
    unfold lookB
    rw [Option.map_eq_none_iff, List.find?_eq_none]
    intro e he
    have := List.all_eq_true.1 h e he
    simpa using this
  rw [this]; rfl
def ValP (r : Bs) (w : World) (e : Ending) (w' : World) : Prop := e = .returned (.string (bs r)) ∧ Kept w w'
end Go.Proofs.YtafcngdnngpdnaaGreatDoor
