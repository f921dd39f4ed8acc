/- read of collate. Conditions: lengths. -/
import Derived.Test.YtofeonnmoakbaaaGreatDoorK25
import Derived.Test.YtofeonnmoakbaaaGreatDoorK12
import Derived.Test.YtofeonnmoakbaaaGreatDoorK09
import Derived.Test.YtofeonnmoakbaaaGreatDoorK14
import Derived.Deep.RegionLaw

set_option linter.all false
namespace Go.Proofs.YtofeonnmoakbaaaGreatDoor
open Go.RowKit

theorem below_drewN (B : Nat) (w : World) (n : Nat) : Below B w (w.drewN n) := ⟨rfl, rfl, rfl, Nat.le_refl _, fun _ _ => rfl⟩
/-- The four forms of a line, or none. -/
theorem addW_cases (c : ColT) (x : Bs) (ws : List Bs) :
    (x = kOrder ∧ 0 < ws.length ∧ addW c (x :: ws) = some { c with order := c.order ++ ws }) ∨
    (∃ y z, x = kAs ∧ ws = [y, z] ∧ addW c (x :: ws) = some { c with ranks := c.ranks ++ [(y, z)] }) ∨
    (∃ y, x = kIgnore ∧ ws = [y] ∧ addW c (x :: ws) = some { c with ignore := c.ignore ++ y }) ∨
    (addW c (x :: ws) = none ∧ ((x = kOrder ∧ ws = []) ∨ (x = kAs ∧ ws.length ≠ 2) ∨ (x = kIgnore ∧ ws.length ≠ 1) ∨ (x ≠ kOrder ∧ x ≠ kAs ∧ x ≠ kIgnore))) := by
  by_cases h1 : x = kOrder
  · subst h1
    cases ws with
    | nil => exact .inr (.inr (.inr ⟨rfl, .inl ⟨rfl, rfl⟩⟩))
    | cons y ws => exact .inl ⟨rfl, by simp, by simp [addW]⟩
  by_cases h2 : x = kAs
  · subst h2
    match ws with
    | [] => exact .inr (.inr (.inr ⟨rfl, .inr (.inl ⟨rfl, by simp⟩)⟩))
    | [y] => exact .inr (.inr (.inr ⟨rfl, .inr (.inl ⟨rfl, by simp⟩)⟩))
    | [y, z] => exact .inr (.inl ⟨y, z, rfl, rfl, rfl⟩)
    | y :: z :: u :: ws => exact .inr (.inr (.inr ⟨by simp [addW, kAs, kOrder], .inr (.inl ⟨rfl, by simp⟩)⟩))
  by_cases h3 : x = kIgnore
  · subst h3
    match ws with
    | [] => exact .inr (.inr (.inr ⟨rfl, .inr (.inr (.inl ⟨rfl, by simp⟩))⟩))
    | [y] => exact .inr (.inr (.inl ⟨y, rfl, rfl, rfl⟩))
    | [y, z] => exact .inr (.inr (.inr ⟨rfl, .inr (.inr (.inl ⟨rfl, by simp⟩))⟩))
    | y :: z :: u :: ws => exact .inr (.inr (.inr ⟨by simp [addW, kIgnore, kOrder], .inr (.inr (.inl ⟨rfl, by simp⟩))⟩))
  · refine .inr (.inr (.inr ⟨?_, .inr (.inr (.inr ⟨h1, h2, h3⟩))⟩))
    match ws with
    | [] => simp [addW, h1]
    | [y] => simp [addW, h1, h3]
    | [y, z] => simp [addW, h1, h2]
    | y :: z :: u :: ws => simp [addW, h1]
end Go.Proofs.YtofeonnmoakbaaaGreatDoor

/- Plain words: how long words, lines and rules are. No condition. -/
set_option linter.all false
namespace Go.Proofs.YtofeonnmoakbaaaGreatDoor
open Go.RowKit

theorem runC_len (c : UInt8) (l : Bs) : (∀ x ∈ (runC c l).1, x.length ≤ l.length) ∧ (runC c l).2.length ≤ l.length := by
  refine snoc_ind (P := fun l => (∀ x ∈ (runC c l).1, x.length ≤ l.length) ∧ (runC c l).2.length ≤ l.length) ?_ ?_ l
  · exact ⟨fun x hx => by simp [runC] at hx, by simp [runC]⟩
  · intro l b ih
    obtain ⟨h1, h2⟩ := ih
    rw [runC_snoc]
    unfold stepC
    split
    · refine ⟨fun x hx => ?_, by simp⟩
      rcases List.mem_append.1 hx with h | h
      · have := h1 x h; simp; omega
      · simp only [List.mem_singleton] at h; subst h; simp; omega
    · refine ⟨fun x hx => ?_, by simp; omega⟩
      have := h1 x hx; simp; omega
theorem words_le (l : Bs) : (∀ x ∈ wordsB l, x.length ≤ l.length) ∧ (wordsB l).length ≤ l.length + 1 := by
  obtain ⟨h1, h2⟩ := runC_len 32 l
  refine ⟨fun x hx => ?_, ?_⟩
  · unfold wordsB splitC at hx
    rw [List.mem_filter] at hx
    rcases List.mem_append.1 hx.1 with h | h
    · exact h1 x h
    · simp only [List.mem_singleton] at h; subst h; exact h2
  · have := splitC_count 32 l
    have h3 := List.length_filter_le (fun x : Bs => !x.isEmpty) (splitC 32 l)
    unfold wordsB; omega
theorem lines_le (t : Bs) : (∀ x ∈ linesL t, x.length ≤ t.length) ∧ (linesL t).length ≤ t.length + 1 := by
  obtain ⟨h1, h2⟩ := runC_len 10 t
  refine ⟨fun x hx => ?_, ?_⟩
  · unfold linesL at hx
    rcases List.mem_append.1 hx with h | h
    · exact h1 x h
    · split at h
      · cases h
      · simp only [List.mem_singleton] at h; subst h; exact h2
  · have := splitC_count 10 t
    unfold splitC at this
    unfold linesL
    rw [List.length_append] at this ⊢
    split <;> simp at this ⊢ <;> omega
/-- What a collation without errors is as long as. -/
theorem colE_small {c : ColT} (h : colE c = 0) : c.order.length ≤ 128 ∧ c.ranks.length ≤ 128 ∧ c.ignore.length ≤ 200 ∧ (∀ s ∈ c.order, s.length ≤ 200) ∧ ∀ p ∈ c.ranks, p.1.length ≤ 200 ∧ p.2.length ≤ 200 := by
  obtain ⟨h1, h2, h3, h4, h5⟩ := colE_parts h
  refine ⟨h1, h2, ?_, fun s hs => (rule_parts (ordC_all _ _ h3 s hs)).2.1, fun p hp => ?_⟩
  · rcases ign_rule h5 with q | q
    · rw [q]; simp
    · exact (rule_parts q).2.1
  · have hr := rnkC_all c.ranks _ h4 p hp
    exact ⟨(rule_parts hr.1).2.1, (rule_parts hr.2).2.1⟩
theorem SmallC.ok {c : ColT} (h : colE c = 0) : SmallC c := by
  obtain ⟨h1, h2, h3, h4, h5⟩ := colE_small h
  exact ⟨by omega, by omega, by omega, fun s hs => by have := h4 s hs; omega, fun p hp => by have := h5 p hp; omega⟩
/-- A line of short words leaves a collation small. -/
theorem addW_small {c c' : ColT} {x : Bs} {ws : List Bs} (h : colE c = 0) (hw : ∀ y ∈ x :: ws, y.length ≤ 600) (hn : ws.length ≤ 600) (ha : addW c (x :: ws) = some c') : SmallC c' := by
  obtain ⟨h1, h2, h3, h4, h5⟩ := colE_small h
  rcases addW_cases c x ws with ⟨_, _, e⟩ | ⟨y, z, _, rfl, e⟩ | ⟨y, _, rfl, e⟩ | ⟨e, _⟩
  · rw [e] at ha
    cases ha
    refine ⟨by simp; omega, by simp; omega, by simp; omega, fun s hs => ?_, fun p hp => ?_⟩
    · rcases List.mem_append.1 hs with q | q
      · have := h4 s q; omega
      · have := hw s (by simp [q]); omega
    · have := h5 p hp; omega
  · rw [e] at ha
    cases ha
    refine ⟨by simp; omega, by simp; omega, by simp; omega, fun s hs => ?_, fun p hp => ?_⟩
    · have := h4 s hs; omega
    · rcases List.mem_append.1 hp with q | q
      · have := h5 p q; omega
      · simp only [List.mem_singleton] at q
        subst q
        have := hw y (by simp)
        have := hw z (by simp)
        exact ⟨by simp; omega, by simp; omega⟩
  · rw [e] at ha
    cases ha
    have := hw y (by simp)
    refine ⟨by simp; omega, by simp; omega, by simp; omega, fun s hs => ?_, fun p hp => ?_⟩
    · have := h4 s hs; omega
    · have := h5 p hp; omega
  · rw [e] at ha; cases ha
theorem colE_zero : colE zeroC = 0 := by simp [colE, zeroC, ordC, rnkC, ignC]
theorem colR_at (ls : List Bs) (k : Nat) (l : Bs) (c : ColT) (h : ls[k]? = some l) : colR (ls.drop k) k c = if wordsB l = [] then colR (ls.drop (k + 1)) (k + 1) c else match addW c (wordsB l) with
    | none => (zeroC, (k : Int) + 1, 5)
    | some c' => if colE c' ≠ 0 then (zeroC, (k : Int) + 1, colE c') else colR (ls.drop (k + 1)) (k + 1) c' := by
  obtain ⟨hk, rfl⟩ := List.getElem?_eq_some_iff.1 h
  rw [List.drop_eq_getElem_cons hk, colR]; rfl
end Go.Proofs.YtofeonnmoakbaaaGreatDoor

/- Text of collate. Conditions: lengths. -/
set_option linter.all false
namespace Go.Proofs.YtofeonnmoakbaaaGreatDoor
open Go.RowKit

theorem run_add {P : Program} (a b : Bs) (ha : a.length ≤ 4000000000) (hb : b.length ≤ 4000000000) (w : World) : (Op.stringOp .add (bs a) (bs b)).run P w = .ok (.string (bs (a ++ b))) w := by
  rw [run_string_add_sum w (bs a) (bs b) (by simp only [bs_size]; omega), bs_append]
theorem join_le (xs : List Bs) (n : Nat) (h : ∀ x ∈ xs, x.length ≤ n) : (Lib.join xs [32]).length ≤ xs.length * (n + 1) := by
  induction xs with
  | nil => simp [Lib.join_nil]
  | cons x xs ih =>
    have h1 := h x (by simp)
    have h2 := ih (fun y hy => h y (by simp [hy]))
    cases xs with
    | nil => rw [Lib.join_one]; simp; omega
    | cons y r =>
      rw [join_2]
      simp only [List.length_append, List.length_cons, List.length_nil] at h2 ⊢
      rw [Nat.add_mul] at h2 ⊢
      rw [Nat.add_mul]
      omega
theorem joinLn_len (xs : List Bs) (n : Nat) (h : ∀ x ∈ xs, x.length ≤ n) : (joinLn xs).length ≤ xs.length * (n + 1) := by
  induction xs with
  | nil => simp [joinLn]
  | cons x xs ih =>
    have h1 := h x (by simp)
    have h2 := ih (fun y hy => h y (by simp [hy]))
    have e : joinLn (x :: xs) = x ++ [10] ++ joinLn xs := by simp [joinLn]
    rw [e]
    simp only [List.length_append, List.length_cons, List.length_nil]
    rw [Nat.add_mul]; omega
def ordLine (c : ColT) : List Bs := if c.order = [] then [] else [[111, 114, 100, 101, 114, 32] ++ Lib.join c.order [32]]
def ignLine (c : ColT) : List Bs := if c.ignore = [] then [] else [[105, 103, 110, 111, 114, 101, 32] ++ c.ignore]
theorem colL_is (c : ColT) : colL c = ordLine c ++ c.ranks.map rankLine ++ ignLine c := rfl
theorem colL_le {c : ColT} (h : colE c = 0) : (colL c).length ≤ 130 ∧ ∀ x ∈ colL c, x.length ≤ 30000 := by
  obtain ⟨h1, h2, h3, h4, h5⟩ := colE_small h
  rw [colL_is]
  refine ⟨?_, fun x hx => ?_⟩
  · unfold ordLine ignLine
    simp only [List.length_append, List.length_map]
    split <;> split <;> simp <;> omega
  · rcases List.mem_append.1 hx with hx | hx
    · rcases List.mem_append.1 hx with hx | hx
      · unfold ordLine at hx
        split at hx
        · cases hx
        · simp only [List.mem_singleton] at hx
          subst hx
          have := join_le c.order 200 h4
          simp only [List.length_append, List.length_cons, List.length_nil]
          have h6 : c.order.length * 201 ≤ 128 * 201 := Nat.mul_le_mul_right _ h1
          omega
      · obtain ⟨p, hp, rfl⟩ := List.mem_map.1 hx
        have := h5 p hp
        unfold rankLine
        simp only [List.length_append, List.length_cons, List.length_nil]; omega
    · unfold ignLine at hx
      split at hx
      · cases hx
      · simp only [List.mem_singleton] at hx
        subst hx
        simp only [List.length_append, List.length_cons, List.length_nil]; omega
end Go.Proofs.YtofeonnmoakbaaaGreatDoor
