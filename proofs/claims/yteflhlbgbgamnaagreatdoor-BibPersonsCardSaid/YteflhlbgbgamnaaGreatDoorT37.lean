/- Plain words on a bibliography without errors. No condition. -/
import Derived.Test.YteflhlbgbgamnaaGreatDoorT25
import Derived.Test.YteflhlbgbgamnaaGreatDoorT33

set_option linter.all false
namespace Go.Proofs.YteflhlbgbgamnaaGreatDoor
open Go.RowKit

theorem persE_all (ps : List P4) (h : persE ps = 0) : ∀ p ∈ ps, textE p.1 p.2.1 p.2.2.1 p.2.2.2 = 0 := by
  induction ps with
  | nil => intro p hp; cases hp
  | cons q ps ih =>
    unfold persE at h
    split at h
    · rename_i hq; exact absurd h hq
    · rename_i hq
      intro p hp
      rcases List.mem_cons.1 hp with rfl | hp
      · simpa using hq
      · exact ih h p hp
theorem fldE_all (fs : List Pr) : ∀ ds, fldE ds fs = 0 → ∀ k f, fs[k]? = some f → fldE1 (ds ++ fs.take k) f = 0 := by
  induction fs with
  | nil => intro ds _ k f hf; cases hf
  | cons g fs ih =>
    intro ds h k f hf
    unfold fldE at h
    split at h
    · rename_i hq; exact absurd h hq
    · rename_i hq
      cases k with
      | zero => cases hf; simpa using hq
      | succ k =>
        have := ih _ h k f (by simpa using hf)
        simpa using this
theorem fldE1_parts (ds : List Pr) (f : Pr) (h : fldE1 ds f = 0) : nameB f.1 = true ∧ f.1 ≠ kAuthor ∧ f.1 ≠ kEditor ∧ f.2 ≠ [] ∧ lineB f.2 = true ∧ trimL f.2 = f.2 ∧ hasB ds f.1 = false := by
  unfold fldE1 at h
  split at h
  · cases h
  rename_i h1
  split at h
  · cases h
  rename_i h2
  split at h
  · cases h
  rename_i h3
  refine ⟨?_, fun q => h1 (.inl (.inr q)), fun q => h1 (.inr q), fun q => h2 (.inl (.inl (.inl q))), ?_, ?_, by simpa using h3⟩
  · cases hn : nameB f.1
    · exact absurd (.inl (.inl hn)) h1
    · rfl
  · unfold lineB
    cases hv : validB (bs f.2)
    · exact absurd (.inl (.inl (.inr hv))) h2
    · cases hc : f.2.contains 10
      · rfl
      · exact absurd (.inl (.inr hc)) h2
  · exact Classical.byContradiction fun q => h2 (.inr q)
theorem chkE_all (ss : List SrcT) : ∀ ks, chkE ks ss = 0 → ∀ k s, ss[k]? = some s → nameB s.type = true ∧ nameB s.key = true ∧ (ks ++ (ss.take k).map (·.key)).contains s.key = false ∧ srcE s = 0 := by
  induction ss with
  | nil => intro ks _ k s hs; cases hs
  | cons t ss ih =>
    intro ks h k s hs
    unfold chkE at h
    split at h
    · cases h
    rename_i h1
    split at h
    · cases h
    rename_i h2
    split at h
    · rename_i h3; exact absurd h h3
    rename_i h3
    cases k with
    | zero =>
      cases hs
      refine ⟨?_, ?_, by simpa using h2, by simpa using h3⟩
      · cases hn : nameB t.type
        · exact absurd (.inl hn) h1
        · rfl
      · cases hn : nameB t.key
        · exact absurd (.inr hn) h1
        · rfl
    | succ k =>
      have := ih _ h k s (by simpa using hs)
      simpa using this
theorem srcE_parts (s : SrcT) (h : srcE s = 0) : s.author.length ≤ 32 ∧ s.editor.length ≤ 32 ∧ s.fields.length ≤ 24 ∧ persE s.author = 0 ∧ persE s.editor = 0 ∧ fldE [] s.fields = 0 ∧ hasB s.fields kTitle = true := by
  unfold srcE at h
  split at h
  · cases h
  rename_i h1
  split at h
  · rename_i h2; exact absurd h h2
  rename_i h2
  split at h
  · rename_i h3; exact absurd h h3
  rename_i h3
  split at h
  · rename_i h4; exact absurd h h4
  rename_i h4
  split at h
  · rename_i h5
    exact ⟨by omega, by omega, by omega, by simpa using h2, by simpa using h3, by simpa using h4, h5⟩
  · cases h
end Go.Proofs.YteflhlbgbgamnaaGreatDoor

/- Plain words on the text of a bibliography. No condition. -/
set_option linter.all false
namespace Go.Proofs.YteflhlbgbgamnaaGreatDoor
open Go.RowKit

def persLine (h : Bs) (p : P4) : Bs := h ++ textR p.1 p.2.1 p.2.2.1 p.2.2.2
def hAuthor : Bs := [97, 117, 116, 104, 111, 114, 32, 61, 32]
def hEditor : Bs := [101, 100, 105, 116, 111, 114, 32, 61, 32]
def fldLine (f : Pr) : Bs := f.1 ++ [32, 61, 32] ++ f.2
def headLine (s : SrcT) : Bs := [64] ++ s.type ++ [123] ++ s.key ++ [44]
/-- The lines of one source. -/
def srcLines (s : SrcT) : List Bs := [headLine s] ++ s.author.map (persLine hAuthor) ++ s.editor.map (persLine hEditor) ++ s.fields.map fldLine ++ [[125]]
/-- The lines of a bibliography. -/
def outL (ss : List SrcT) : List Bs := (ss.mapIdx fun i s => (if i = 0 then [] else [[]]) ++ srcLines s).flatten
def textL (ss : List SrcT) : Bs := if checkE ss = 0 then joinLn (outL ss) else []
theorem outL_snoc (ss : List SrcT) (k : Nat) (s : SrcT) (h : ss[k]? = some s) : outL (ss.take (k + 1)) = outL (ss.take k) ++ (if k = 0 then [] else [[]]) ++ srcLines s := by
  obtain ⟨hk, rfl⟩ := List.getElem?_eq_some_iff.1 h
  rw [List.take_succ_eq_append_getElem hk]
  unfold outL
  rw [List.mapIdx_append]
  simp [Nat.min_eq_left (Nat.le_of_lt hk)]
theorem srcLines_len (s : SrcT) (h : srcE s = 0) : (srcLines s).length ≤ 90 := by
  obtain ⟨h1, h2, h3, _⟩ := srcE_parts s h
  simp [srcLines]; omega
theorem chk_src (ss : List SrcT) (h : checkE ss = 0) : ss.length ≤ 256 ∧ ∀ (k : Nat) (s : SrcT), ss[k]? = some s → srcE s = 0 := by
  unfold checkE at h
  split at h
  · cases h
  · exact ⟨by omega, fun k s hs => (chkE_all ss [] h k s hs).2.2.2⟩
theorem outL_len (ss : List SrcT) (h : ∀ (k : Nat) (s : SrcT), ss[k]? = some s → srcE s = 0) : ∀ k, k ≤ ss.length → (outL (ss.take k)).length ≤ 91 * k := by
  intro k
  induction k with
  | zero => intro _; simp [outL]
  | succ k ih =>
    intro hk
    obtain ⟨s, hs⟩ : ∃ x, ss[k]? = some x := ⟨_, List.getElem?_eq_getElem (by omega)⟩
    rw [outL_snoc ss k s hs]
    have h1 := ih (by omega)
    have h2 := srcLines_len s (h k s hs)
    have h3 : (if k = 0 then ([] : List Bs) else [[]]).length ≤ 1 := by split <;> simp
    simp only [List.length_append]; omega
end Go.Proofs.YteflhlbgbgamnaaGreatDoor
