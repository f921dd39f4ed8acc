/- A map of words that a literal builds: insertion and look-up. No condition. -/
import Derived.Test.YtflpkadknljpbaaDoorStrs
set_option linter.all false
namespace Go.Proofs.YtflpkadknljpbaaDoor
open Go.RowKit

/-- A word: its key, its singular, its plural. -/
abbrev Word := Bs × Bs × Bs
def entOf (x : Word) (i : Nat) : MapEntry := { key := .string (bs x.1), val := .agg #[.string (bs x.2.1), .string (bs x.2.2)], born := i }
def entsOf (l : List Word) : Array MapEntry := (l.mapIdx fun i x => entOf x i).toArray
/-- The world with a new map of words. -/
def mapW (w : World) (l : List Word) : World := w.alloc (.map (entsOf l) l.length)
theorem mapW_heap (w : World) (l : List Word) : (mapW w l).heap[w.heap.size]? = some (.map (entsOf l) l.length) := by
  unfold mapW; exact heap_alloc_new w _
theorem entsOf_snoc (l : List Word) (x : Word) : entsOf (l ++ [x]) = (entsOf l).push (entOf x l.length) := by
  unfold entsOf; rw [List.mapIdx_append]; simp
theorem bs_beq (a b : Bs) : (bs a == bs b) = (a == b) := by
  show ((bs a).data == (bs b).data) = _
  rw [Bool.eq_iff_iff, beq_iff_eq, beq_iff_eq]
  exact ⟨fun h => by have := congrArg Array.toList h; exact this, fun h => by rw [h]⟩
theorem findNow_none (k : Bs) : ∀ (l : List Word) (i j : Nat), (∀ x ∈ l, x.1 ≠ k) → Instr.findNow .string (.string (bs k)) (l.mapIdx fun i' x => entOf x (i' + i)) j = some none
  | [], _, _, _ => rfl
  | x :: l, i, j, h => by
    have hx : (bs k == bs x.1) = false := by rw [bs_beq, beq_eq_false_iff_ne]; exact fun e => h x (by simp) e.symm
    rw [List.mapIdx_cons]
    unfold Instr.findNow
    simp only [entOf, Instr.sameNow, hx]
    have := findNow_none k l (i + 1) (j + 1) (fun y hy => h y (by simp [hy]))
    simp only [entOf] at this
    rw [← this]
    congr 1
    apply List.ext_getElem?
    intro m
    simp [List.getElem?_mapIdx]
    cases l[m]? <;> simp; omega
theorem findNow_some (k a b : Bs) : ∀ (l : List Word) (i j : Nat), l.find? (fun x => x.1 == k) = some (k, a, b) → ∃ m, Instr.findNow .string (.string (bs k)) (l.mapIdx fun i' x => entOf x (i' + i)) j = some (some (m, .agg #[.string (bs a), .string (bs b)]))
  | [], _, _, h => by cases h
  | x :: l, i, j, h => by
    rw [List.mapIdx_cons]
    unfold Instr.findNow
    by_cases q : x.1 = k
    · have hx : (bs k == bs x.1) = true := by rw [bs_beq, beq_iff_eq]; exact q.symm
      rw [List.find?_cons_of_pos (by simpa using q)] at h
      cases h
      simp only [entOf, Instr.sameNow, hx]
      exact ⟨_, rfl⟩
    · have hx : (bs k == bs x.1) = false := by rw [bs_beq, beq_eq_false_iff_ne]; exact fun e => q e.symm
      rw [List.find?_cons_of_neg (by simpa using q)] at h
      simp only [entOf, Instr.sameNow, hx]
      obtain ⟨m, hm⟩ := findNow_some k a b l (i + 1) (j + 1) h
      refine ⟨m, ?_⟩
      simp only [entOf] at hm
      rw [← hm]
      congr 1
      apply List.ext_getElem?
      intro m
      simp [List.getElem?_mapIdx]
      cases l[m]? <;> simp; omega
theorem entsOf_list (l : List Word) : (entsOf l).toList = l.mapIdx fun i' x => entOf x (i' + 0) := by simp [entsOf]
theorem run_make (w : World) : (Instr.makeMap 100 none).run Tryd.prog w = .ok (.map (some w.heap.size)) (mapW w []) := by
  rw [run_makeMap]; rfl
theorem run_check (e : Bool) (s : ByteArray) (w : World) : (Instr.checkKey e 10000 9 (.string s)).run Tryd.prog w = .ok () w := by
  show (Instr.checkKey e (9999 + 1) 9 (.string s)).run Tryd.prog w = .ok () w
  rw [Instr.checkKey]
  simp only [Sem.run_bind, run_underlying Tryd.underlying9, Result.andThen]
  simp [Sem.run_pure]
theorem run_find_none (w : World) (l : List Word) (k : Bs) (hk : ∀ x ∈ l, x.1 ≠ k) : (Instr.findKey 9 (.string (bs k)) (entsOf l).toList).run Tryd.prog w = .ok none w := by
  unfold Instr.findKey
  simp only [Sem.run_bind, run_underlying Tryd.underlying9, Result.andThen, entsOf_list, findNow_none k l 0 0 hk]
  simp [Sem.run_pure]
theorem run_find_some (w : World) (l : List Word) (k a b : Bs) (hk : l.find? (fun x => x.1 == k) = some (k, a, b)) : ∃ m, (Instr.findKey 9 (.string (bs k)) (entsOf l).toList).run Tryd.prog w = .ok (some (m, .agg #[.string (bs a), .string (bs b)])) w := by
  obtain ⟨m, hm⟩ := findNow_some k a b l 0 0 hk
  refine ⟨m, ?_⟩
  unfold Instr.findKey
  simp only [Sem.run_bind, run_underlying Tryd.underlying9, Result.andThen, entsOf_list, hm]
  simp [Sem.run_pure]
theorem mapW_set (w : World) (l : List Word) (x : Word) : { mapW w l with heap := (mapW w l).heap.setIfInBounds w.heap.size (.map ((entsOf l).push (entOf x l.length)) (l.length + 1)) } = mapW w (l ++ [x]) := by
  unfold mapW
  rw [entsOf_snoc]
  simp only [World.alloc, List.length_append, List.length_cons, List.length_nil]
  congr 1
  apply Array.ext'
  simp [Array.setIfInBounds, Array.toList_push]
theorem run_ins (w : World) (l : List Word) (k a b : Bs) (hk : ∀ x ∈ l, x.1 ≠ k) :
    (Instr.mapUpdate 100 (.map (some w.heap.size)) (.string (bs k)) (.agg #[.string (bs a), .string (bs b)])).run Tryd.prog (mapW w l) = .ok () (mapW w (l ++ [(k, a, b)])) := by
  have hu : Tryd.prog.underlying 100 = some (.map 9 98) := Tryd.underlying100
  unfold Instr.mapUpdate
  simp only [Sem.run_bind, run_underlying hu, Result.andThen]
  simp only [getObj, Sem.run_bind, Sem.run, mapW_heap, Result.andThen, Sem.run_pure, run_check, run_find_none _ l k hk, setObj]
  exact congrArg (Result.ok ()) (mapW_set w l (k, a, b))
/-- The look-up of a word in a map that some later world still holds. -/
theorem run_look (w : World) (r : Nat) (l : List Word) (k a b : Bs) (hm : w.heap[r]? = some (.map (entsOf l) l.length)) (hk : l.find? (fun x => x.1 == k) = some (k, a, b)) :
    (Instr.lookup 100 (.map (some r)) (.string (bs k)) true).run Tryd.prog w = .ok (.tuple #[.agg #[.string (bs a), .string (bs b)], .bool true]) w := by
  have hu : Tryd.prog.underlying 100 = some (.map 9 98) := Tryd.underlying100
  obtain ⟨m, hf⟩ := run_find_some w l k a b hk
  unfold Instr.lookup
  simp only [Sem.run_bind, run_underlying hu, Result.andThen]
  simp only [getObj, Sem.run_bind, Sem.run, hm, Result.andThen, Sem.run_pure, run_check, hf]
  simp [Sem.run_pure]
end Go.Proofs.YtflpkadknljpbaaDoor
