/- A map of words that a literal builds: insertion and look-up. No condition. -/
import Derived.Test.YteflhlbgbgamnaaGreatDoorT03

set_option linter.all false
namespace Go.Proofs.YteflhlbgbgamnaaGreatDoor
open Go.RowKit

/-- A word: its key, its singular, its plural. -/
abbrev Word := Bs × Bs × Bs
def entOf (x : Word) (i : Nat) : MapEntry := { key := .string (bs x.1), val := .agg #[.string (bs x.2.1), .string (bs x.2.2)], born := i }
def entsOf (l : List Word) : Array MapEntry := (l.mapIdx fun i x => entOf x i).toArray
/-- The world with a new map of words. -/
def mapW (w : World) (l : List Word) : World := w.alloc (.map (entsOf l) l.length)
theorem mapW_heap (w : World) (l : List Word) : (mapW w l).heap[w.heap.size]? = some (.map (entsOf l) l.length) := by
  unfold mapW; exact heap_alloc_new w _
theorem entsOf_snoc (l : List Word) (x : Word) : entsOf (l ++ [x]) = (entsOf l).push (entOf x l.length) := by
  unfold entsOf; rw [List.mapIdx_append]; simp
theorem bs_beq (a b : Bs) : (bs a == bs b) = (a == b) := by
  show ((bs a).data == (bs b).data) = _
  rw [Bool.eq_iff_iff, beq_iff_eq, beq_iff_eq]
  exact ⟨fun h => by have := congrArg Array.toList h; exact this, fun h => by rw [h]⟩
theorem findNow_none (k : Bs) : ∀ (l : List Word) (i j : Nat), (∀ x ∈ l, x.1 ≠ k) → Instr.findNow .string (.string (bs k)) (l.mapIdx fun i' x => entOf x (i' + i)) j = some none
  | [], _, _, _ => rfl
  | x :: l, i, j, h => by
    have hx : (bs k == bs x.1) = false := by rw [bs_beq, beq_eq_false_iff_ne]; exact fun e => h x (by simp) e.symm
    rw [List.mapIdx_cons]
    unfold Instr.findNow
    simp only [entOf, Instr.sameNow, hx]
    have := findNow_none k l (i + 1) (j + 1) (fun y hy => h y (by simp [hy]))
    simp only [entOf] at this
    rw [← this]
    congr 1
    apply List.ext_getElem?
    intro m
    simp [List.getElem?_mapIdx]
    cases l[m]? <;> simp; omega
theorem findNow_some (k a b : Bs) : ∀ (l : List Word) (i j : Nat), l.find? (fun x => x.1 == k) = some (k, a, b) → ∃ m, Instr.findNow .string (.string (bs k)) (l.mapIdx fun i' x => entOf x (i' + i)) j = some (some (m, .agg #[.string (bs a), .string (bs b)]))
  | [], _, _, h => by cases h
  | x :: l, i, j, h => by
    rw [List.mapIdx_cons]
    unfold Instr.findNow
    by_cases q : x.1 = k
    · have hx : (bs k == bs x.1) = true := by rw [bs_beq, beq_iff_eq]; exact q.symm
      rw [List.find?_cons_of_pos (by simpa using q)] at h
      cases h
      simp only [entOf, Instr.sameNow, hx]
      exact ⟨_, rfl⟩
    · have hx : (bs k == bs x.1) = false := by rw [bs_beq, beq_eq_false_iff_ne]; exact fun e => q e.symm
      rw [List.find?_cons_of_neg (by simpa using q)] at h
      simp only [entOf, Instr.sameNow, hx]
      obtain ⟨m, hm⟩ := findNow_some k a b l (i + 1) (j + 1) h
      refine ⟨m, ?_⟩
      simp only [entOf] at hm
      rw [← hm]
      congr 1
      apply List.ext_getElem?
      intro m
      simp [List.getElem?_mapIdx]
      cases l[m]? <;> simp; omega
theorem entsOf_list (l : List Word) : (entsOf l).toList = l.mapIdx fun i' x => entOf x (i' + 0) := by simp [entsOf]
theorem run_check (e : Bool) (s : ByteArray) (w : World) : (Instr.checkKey e 10000 9 (.string s)).run Tryz.prog w = .ok () w := by
  show (Instr.checkKey e (9999 + 1) 9 (.string s)).run Tryz.prog w = .ok () w
  rw [Instr.checkKey]
  simp only [Sem.run_bind, run_underlying Tryz.underlying9, Result.andThen]
  simp [Sem.run_pure]
theorem run_find_none (w : World) (l : List Word) (k : Bs) (hk : ∀ x ∈ l, x.1 ≠ k) : (Instr.findKey 9 (.string (bs k)) (entsOf l).toList).run Tryz.prog w = .ok none w := by
  unfold Instr.findKey
  simp only [Sem.run_bind, run_underlying Tryz.underlying9, Result.andThen, entsOf_list, findNow_none k l 0 0 hk]
  simp [Sem.run_pure]
theorem run_find_some (w : World) (l : List Word) (k a b : Bs) (hk : l.find? (fun x => x.1 == k) = some (k, a, b)) : ∃ m, (Instr.findKey 9 (.string (bs k)) (entsOf l).toList).run Tryz.prog w = .ok (some (m, .agg #[.string (bs a), .string (bs b)])) w := by
  obtain ⟨m, hm⟩ := findNow_some k a b l 0 0 hk
  refine ⟨m, ?_⟩
  unfold Instr.findKey
  simp only [Sem.run_bind, run_underlying Tryz.underlying9, Result.andThen, entsOf_list, hm]
  simp [Sem.run_pure]
theorem mapW_set (w : World) (l : List Word) (x : Word) : { mapW w l with heap := (mapW w l).heap.setIfInBounds w.heap.size (.map ((entsOf l).push (entOf x l.length)) (l.length + 1)) } = mapW w (l ++ [x]) := by
  unfold mapW
  rw [entsOf_snoc]
  simp only [World.alloc, List.length_append, List.length_cons, List.length_nil]
  congr 1
  apply Array.ext'
  simp [Array.setIfInBounds, Array.toList_push]
end Go.Proofs.YteflhlbgbgamnaaGreatDoor

/- The words of each language, and that package locale lays them. No condition. -/
set_option linter.all false
namespace Go.Proofs.YteflhlbgbgamnaaGreatDoor
open Go.RowKit

def words_en : List Word := [([115, 101, 99, 116, 105, 111, 110], [83, 101, 99, 116, 105, 111, 110], [83, 101, 99, 116, 105, 111, 110, 115]), ([102, 105, 103, 117, 114, 101], [70, 105, 103, 117, 114, 101], [70, 105, 103, 117, 114, 101, 115]), ([116, 97, 98, 108, 101], [84, 97, 98, 108, 101], [84, 97, 98, 108, 101, 115]), ([101, 113, 117, 97, 116, 105, 111, 110], [69, 113, 117, 97, 116, 105, 111, 110], [69, 113, 117, 97, 116, 105, 111, 110, 115]), ([112, 97, 103, 101], [80, 97, 103, 101], [80, 97, 103, 101, 115]), ([97, 110, 100], [97, 110, 100], [97, 110, 100]), ([111, 116, 104, 101, 114, 115], [111, 116, 104, 101, 114, 115], [111, 116, 104, 101, 114, 115]), ([101, 100, 105, 116, 101, 100], [101, 100, 105, 116, 101, 100, 32, 98, 121], [101, 100, 105, 116, 101, 100, 32, 98, 121]), ([99, 111, 110, 116, 101, 110, 116, 115], [67, 111, 110, 116, 101, 110, 116, 115], [67, 111, 110, 116, 101, 110, 116, 115]), ([105, 110, 100, 101, 120], [73, 110, 100, 101, 120], [73, 110, 100, 101, 120, 101, 115]), ([114, 101, 102, 101, 114, 101, 110, 99, 101, 115], [82, 101, 102, 101, 114, 101, 110, 99, 101, 115], [82, 101, 102, 101, 114, 101, 110, 99, 101, 115]), ([103, 108, 111, 115, 115, 97, 114, 121], [71, 108, 111, 115, 115, 97, 114, 121], [71, 108, 111, 115, 115, 97, 114, 105, 101, 115]), ([110, 111, 116, 101], [78, 111, 116, 101], [78, 111, 116, 101, 115]), ([99, 104, 97, 112, 116, 101, 114], [67, 104, 97, 112, 116, 101, 114], [67, 104, 97, 112, 116, 101, 114, 115])]
def words_de : List Word := [([115, 101, 99, 116, 105, 111, 110], [65, 98, 115, 99, 104, 110, 105, 116, 116], [65, 98, 115, 99, 104, 110, 105, 116, 116, 101]), ([102, 105, 103, 117, 114, 101], [65, 98, 98, 105, 108, 100, 117, 110, 103], [65, 98, 98, 105, 108, 100, 117, 110, 103, 101, 110]), ([116, 97, 98, 108, 101], [84, 97, 98, 101, 108, 108, 101], [84, 97, 98, 101, 108, 108, 101, 110]), ([101, 113, 117, 97, 116, 105, 111, 110], [71, 108, 101, 105, 99, 104, 117, 110, 103], [71, 108, 101, 105, 99, 104, 117, 110, 103, 101, 110]), ([112, 97, 103, 101], [83, 101, 105, 116, 101], [83, 101, 105, 116, 101, 110]), ([97, 110, 100], [117, 110, 100], [117, 110, 100]), ([111, 116, 104, 101, 114, 115], [97, 110, 100, 101, 114, 101], [97, 110, 100, 101, 114, 101]), ([101, 100, 105, 116, 101, 100], [104, 101, 114, 97, 117, 115, 103, 101, 103, 101, 98, 101, 110, 32, 118, 111, 110], [104, 101, 114, 97, 117, 115, 103, 101, 103, 101, 98, 101, 110, 32, 118, 111, 110]), ([99, 111, 110, 116, 101, 110, 116, 115], [73, 110, 104, 97, 108, 116], [73, 110, 104, 97, 108, 116]), ([105, 110, 100, 101, 120], [82, 101, 103, 105, 115, 116, 101, 114], [82, 101, 103, 105, 115, 116, 101, 114]), ([114, 101, 102, 101, 114, 101, 110, 99, 101, 115], [76, 105, 116, 101, 114, 97, 116, 117, 114], [76, 105, 116, 101, 114, 97, 116, 117, 114]), ([103, 108, 111, 115, 115, 97, 114, 121], [71, 108, 111, 115, 115, 97, 114], [71, 108, 111, 115, 115, 97, 114, 101]), ([110, 111, 116, 101], [65, 110, 109, 101, 114, 107, 117, 110, 103], [65, 110, 109, 101, 114, 107, 117, 110, 103, 101, 110]), ([99, 104, 97, 112, 116, 101, 114], [75, 97, 112, 105, 116, 101, 108], [75, 97, 112, 105, 116, 101, 108])]
def words_fr : List Word := [([115, 101, 99, 116, 105, 111, 110], [83, 101, 99, 116, 105, 111, 110], [83, 101, 99, 116, 105, 111, 110, 115]), ([102, 105, 103, 117, 114, 101], [70, 105, 103, 117, 114, 101], [70, 105, 103, 117, 114, 101, 115]), ([116, 97, 98, 108, 101], [84, 97, 98, 108, 101, 97, 117], [84, 97, 98, 108, 101, 97, 117, 120]), ([101, 113, 117, 97, 116, 105, 111, 110], [195, 137, 113, 117, 97, 116, 105, 111, 110], [195, 137, 113, 117, 97, 116, 105, 111, 110, 115]), ([112, 97, 103, 101], [80, 97, 103, 101], [80, 97, 103, 101, 115]), ([97, 110, 100], [101, 116], [101, 116]), ([111, 116, 104, 101, 114, 115], [97, 117, 116, 114, 101, 115], [97, 117, 116, 114, 101, 115]), ([101, 100, 105, 116, 101, 100], [195, 169, 100, 105, 116, 195, 169, 32, 112, 97, 114], [195, 169, 100, 105, 116, 195, 169, 32, 112, 97, 114]), ([99, 111, 110, 116, 101, 110, 116, 115], [84, 97, 98, 108, 101, 32, 100, 101, 115, 32, 109, 97, 116, 105, 195, 168, 114, 101, 115], [84, 97, 98, 108, 101, 32, 100, 101, 115, 32, 109, 97, 116, 105, 195, 168, 114, 101, 115]), ([105, 110, 100, 101, 120], [73, 110, 100, 101, 120], [73, 110, 100, 101, 120]), ([114, 101, 102, 101, 114, 101, 110, 99, 101, 115], [82, 195, 169, 102, 195, 169, 114, 101, 110, 99, 101, 115], [82, 195, 169, 102, 195, 169, 114, 101, 110, 99, 101, 115]), ([103, 108, 111, 115, 115, 97, 114, 121], [71, 108, 111, 115, 115, 97, 105, 114, 101], [71, 108, 111, 115, 115, 97, 105, 114, 101, 115]), ([110, 111, 116, 101], [78, 111, 116, 101], [78, 111, 116, 101, 115]), ([99, 104, 97, 112, 116, 101, 114], [67, 104, 97, 112, 105, 116, 114, 101], [67, 104, 97, 112, 105, 116, 114, 101, 115])]
def words_es : List Word := [([115, 101, 99, 116, 105, 111, 110], [83, 101, 99, 99, 105, 195, 179, 110], [83, 101, 99, 99, 105, 111, 110, 101, 115]), ([102, 105, 103, 117, 114, 101], [70, 105, 103, 117, 114, 97], [70, 105, 103, 117, 114, 97, 115]), ([116, 97, 98, 108, 101], [84, 97, 98, 108, 97], [84, 97, 98, 108, 97, 115]), ([101, 113, 117, 97, 116, 105, 111, 110], [69, 99, 117, 97, 99, 105, 195, 179, 110], [69, 99, 117, 97, 99, 105, 111, 110, 101, 115]), ([112, 97, 103, 101], [80, 195, 161, 103, 105, 110, 97], [80, 195, 161, 103, 105, 110, 97, 115]), ([97, 110, 100], [121], [121]), ([111, 116, 104, 101, 114, 115], [111, 116, 114, 111, 115], [111, 116, 114, 111, 115]), ([101, 100, 105, 116, 101, 100], [101, 100, 105, 116, 97, 100, 111, 32, 112, 111, 114], [101, 100, 105, 116, 97, 100, 111, 32, 112, 111, 114]), ([99, 111, 110, 116, 101, 110, 116, 115], [67, 111, 110, 116, 101, 110, 105, 100, 111], [67, 111, 110, 116, 101, 110, 105, 100, 111]), ([105, 110, 100, 101, 120], [195, 141, 110, 100, 105, 99, 101], [195, 141, 110, 100, 105, 99, 101, 115]), ([114, 101, 102, 101, 114, 101, 110, 99, 101, 115], [82, 101, 102, 101, 114, 101, 110, 99, 105, 97, 115], [82, 101, 102, 101, 114, 101, 110, 99, 105, 97, 115]), ([103, 108, 111, 115, 115, 97, 114, 121], [71, 108, 111, 115, 97, 114, 105, 111], [71, 108, 111, 115, 97, 114, 105, 111, 115]), ([110, 111, 116, 101], [78, 111, 116, 97], [78, 111, 116, 97, 115]), ([99, 104, 97, 112, 116, 101, 114], [67, 97, 112, 195, 173, 116, 117, 108, 111], [67, 97, 112, 195, 173, 116, 117, 108, 111, 115])]
def kAnd : Bs := [97, 110, 100]
def kOthers : Bs := [111, 116, 104, 101, 114, 115]
/-- The languages' codes. -/
def lEn : Bs := [101, 110]
def lDe : Bs := [100, 101]
def lFr : Bs := [102, 114]
def lEs : Bs := [101, 115]
/-- The words of a language, none if there is no such language. -/
def wordsL (l : Bs) : Option (List Word) := if l = lEn then some words_en else if l = lDe then some words_de else if l = lFr then some words_fr else if l = lEs then some words_es else none

end Go.Proofs.YteflhlbgbgamnaaGreatDoor
