/- person.Parse: the walks. Conditions: lengths. -/
import Derived.Test.YtofeonnmoakbaaaGreatDoorK02
import Derived.Test.YtofeonnmoakbaaaGreatDoorK20
import Derived.Deep.RegionWith

set_option linter.all false
namespace Go.Proofs.YtofeonnmoakbaaaGreatDoor
open Go.RowKit

end Go.Proofs.YtofeonnmoakbaaaGreatDoor

/- person.Parse at three fields: the walks. Conditions: lengths. -/
set_option linter.all false
namespace Go.Proofs.YtofeonnmoakbaaaGreatDoor
open Go.RowKit

end Go.Proofs.YtofeonnmoakbaaaGreatDoor

/- What person.Parse answers, and that it does. Conditions: the length of the text. -/
set_option linter.all false
namespace Go.Proofs.YtofeonnmoakbaaaGreatDoor
open Go.RowKit

abbrev P4 := Bs × Bs × Bs × Bs
abbrev p4V (q : P4) : Value := persV q.1 q.2.1 q.2.2.1 q.2.2.2
def zero4 : P4 := ([], [], [], [])
/-- The fields of the rest: family, given, suffix. -/
def fieldsP (rest : Bs) : Bs × Bs × Bs :=
  match splitC 44 rest with
  | [a] => (cleanL a, [], [])
  | [a, b] => (cleanL a, cleanL b, [])
  | [a, b, c] => (cleanL a, cleanL c, cleanL b)
  | _ => ([], [], [])
/-- The particle and the rest; none: a brace is not closed. -/
def restP (t : Bs) : Option (Bs × Bs) :=
  match t with
  | [] => some ([], [])
  | x :: r => if x = 123 then (if before 125 r < r.length then some (cleanL (r.take (before 125 r)), r.drop (before 125 r + 1)) else none) else some ([], x :: r)
def badP (p t : Bs) : Prop := 2 < t.count 44 ∨ p.any (inSet setC) = true ∨ t.any (inSet setN) = true
instance (p t : Bs) : Decidable (badP p t) := by unfold badP; infer_instance
def restR (p t : Bs) : Int × P4 := if badP p t then (5, zero4) else if (fieldsP t).1 = [] then (8, zero4) else (0, ((fieldsP t).1, (fieldsP t).2.1, p, (fieldsP t).2.2))
/-- The error and the person that a text denotes. -/
def parseR (l : Bs) : Int × P4 :=
  if lineB l = true then (match restP (cleanL l) with | none => (5, zero4) | some (p, t) => restR p t) else (17, zero4)

theorem sum_mem_le (xs : List Bs) (x : Bs) (h : x ∈ xs) : x.length + 1 ≤ (xs.map (fun x => x.length + 1)).sum := by
  induction xs with
  | nil => cases h
  | cons a r ih =>
    simp only [List.map_cons, List.sum_cons]
    rcases List.mem_cons.1 h with rfl | h
    · omega
    · have := ih h; omega
theorem split_mem_le (c : UInt8) (l x : Bs) (h : x ∈ splitC c l) : x.length ≤ l.length := by
  have := sum_mem_le _ x h; rw [splitC_sum] at this; omega
theorem split_three (t : Bs) (h : t.count 44 ≤ 2) : (∃ a, splitC 44 t = [a]) ∨ (∃ a b, splitC 44 t = [a, b]) ∨ ∃ a b c, splitC 44 t = [a, b, c] := by
  have hl := splitC_length 44 t
  match hs : splitC 44 t with
  | [] => rw [hs] at hl; simp at hl
  | [a] => exact .inl ⟨a, rfl⟩
  | [a, b] => exact .inr (.inl ⟨a, b, rfl⟩)
  | [a, b, c] => exact .inr (.inr ⟨a, b, c, rfl⟩)
  | a :: b :: c :: d :: r => rw [hs] at hl; simp at hl; omega
def ParsePost (l : Bs) (w : World) (e : Ending) (w' : World) : Prop := e = .returned (.tuple #[p4V (parseR l).2, .int .i64 (parseR l).1]) ∧ Kept w w'
theorem ParsePost.mk {l : Bs} {w : World} {e : Ending} {w' : World} {n : Int} {q : P4} (h : parseR l = (n, q)) (he : e = .returned (.tuple #[p4V q, .int .i64 n])) (hk : Kept w w') : ParsePost l w e w' := by
  unfold ParsePost; rw [h]; exact ⟨he, hk⟩

theorem fields1 (t a : Bs) (h : splitC 44 t = [a]) : fieldsP t = (cleanL a, [], []) := by unfold fieldsP; rw [h]
theorem fields2 (t a b : Bs) (h : splitC 44 t = [a, b]) : fieldsP t = (cleanL a, cleanL b, []) := by unfold fieldsP; rw [h]
theorem fields3 (t a b c : Bs) (h : splitC 44 t = [a, b, c]) : fieldsP t = (cleanL a, cleanL c, cleanL b) := by unfold fieldsP; rw [h]

end Go.Proofs.YtofeonnmoakbaaaGreatDoor
