/- line, barred, part of package person and of its reference. Conditions: lengths. -/
import Derived.Test.YtafcngdnngpdnaaGreatDoorK11
import Derived.Test.YtafcngdnngpdnaaGreatDoorK07
import Derived.Test.YtafcngdnngpdnaaGreatDoorK20
import Derived.Test.YtafcngdnngpdnaaGreatDoorK12
import Derived.Test.YtafcngdnngpdnaaGreatDoorK02

set_option linter.all false
namespace Go.Proofs.YtafcngdnngpdnaaGreatDoor
open Go.RowKit

def setC : Bs := [44, 59, 123, 125]
def setN : Bs := [59, 123, 125]
def partB (l : Bs) : Bool := lineB l && !(l.any (inSet setC)) && (l == cleanL l)
theorem contains_any (c : UInt8) (l : Bs) : l.contains c = l.any (fun b => b == c) := by
  induction l with
  | nil => rfl
  | cons a l ih => rw [List.contains_cons, List.any_cons, ih]; congr 1; rw [Bool.eq_iff_iff, beq_iff_eq, beq_iff_eq]; exact eq_comm

theorem contains10 (l : Bs) (w : World) : Calls Tryz.prog 61 #[.string (bs l), .string (bs [10])] w fun e w' => e = .returned (.bool (l.contains 10)) ∧ w = w' := by
  refine (Tryz.strings_Contains_one (bs l) 10 w).mono ?_
  rintro e w' ⟨rfl, rfl⟩
  exact ⟨ret_bool (indexByte_contains 10 l), rfl⟩

theorem any_hid (f : UInt8 → Bool) (l : Bs) : Hid (l.any f = (l.drop 0).any f) := by unfold Hid; simp

def setOf (c : Bool) : Bs := if c then setC else setN
theorem u8_lit (x : UInt8) (b : Int) (h : b = (x.toNat : Int)) (n : Nat) (hn : n < 256) : (x == UInt8.ofNat n) = (b == (n : Int)) := by
  rw [Bool.eq_iff_iff, beq_iff_eq, beq_iff_eq, h]; exact (u8_int x n hn).symm
theorem set_test (c : Bool) (x : UInt8) (b : Int) (h : b = (x.toNat : Int)) : inSet (setOf c) x = ((b == 59) || (b == 123) || (b == 125) || (c && (b == 44))) := by
  have h1 := u8_lit x b h 59 (by decide)
  have h2 := u8_lit x b h 123 (by decide)
  have h3 := u8_lit x b h 125 (by decide)
  have h4 := u8_lit x b h 44 (by decide)
  have e : inSet (setOf c) x = ((x == 59) || (x == 123) || (x == 125) || (c && (x == 44))) := by
    unfold inSet setOf setC setN
    cases c
    · simp only [Bool.false_eq_true, if_false, List.contains_cons, List.contains_nil, Bool.or_false, Bool.false_and]
      cases (x == 59) <;> cases (x == 123) <;> cases (x == 125) <;> rfl
    · simp only [if_true, List.contains_cons, List.contains_nil, Bool.or_false, Bool.true_and]
      cases (x == 59) <;> cases (x == 123) <;> cases (x == 125) <;> cases (x == 44) <;> rfl
  rw [e]
  exact congr (congrArg or (congr (congrArg or (congr (congrArg or h1) h2)) h3)) (congrArg (and c) h4)

theorem asciiC : Ascii setC := by intro b hb; unfold setC at hb; simp at hb; rcases hb with rfl | rfl | rfl | rfl <;> decide
theorem asciiN : Ascii setN := by intro b hb; unfold setN at hb; simp at hb; rcases hb with rfl | rfl | rfl <;> decide

end Go.Proofs.YtafcngdnngpdnaaGreatDoor

/- Text of package person and of its reference. Conditions: lengths. -/
set_option linter.all false
namespace Go.Proofs.YtafcngdnngpdnaaGreatDoor
open Go.RowKit

/-- The text of a person. -/
def textS (f g p s : Bs) : Bs :=
  (if p = [] then f else [123] ++ p ++ [125, 32] ++ f) ++
  (if s = [] then (if g = [] then [] else [44, 32] ++ g) else [44, 32] ++ s ++ [44] ++ (if g = [] then [] else [32] ++ g))
/-- The error of a person's text. -/
def textE (f g p s : Bs) : Int := if f = [] then 8 else if partB f && partB g && partB p && partB s then 0 else 17
def textR (f g p s : Bs) : Bs := if textE f g p s = 0 then textS f g p s else []

end Go.Proofs.YtafcngdnngpdnaaGreatDoor

/- person.Parse: the walks. Conditions: lengths. -/
set_option linter.all false
namespace Go.Proofs.YtafcngdnngpdnaaGreatDoor
open Go.RowKit

end Go.Proofs.YtafcngdnngpdnaaGreatDoor
