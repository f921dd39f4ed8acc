/- The reference's Append, Next, pieces, Initials, Inverted. Conditions: lengths. -/
import Derived.Test.YtafcngdnngpdnaaGreatDoorK30
import Derived.Test.YtafcngdnngpdnaaGreatDoorK31
import Derived.Test.YtafcngdnngpdnaaGreatDoorK02
import Derived.Test.YtafcngdnngpdnaaGreatDoorK19

set_option linter.all false
namespace Go.Proofs.YtafcngdnngpdnaaGreatDoor
open Go.RowKit

/-- The state of the reference's division into pieces. -/
def PieceSt (c : UInt8) (t : Bs) (k fr : Nat) (xs : List Bs) : Prop :=
  (k ≤ t.length ∧ fr ≤ k ∧ xs = (runC c (t.take k)).1.filter nonE ∧ (t.take k).drop fr = (runC c (t.take k)).2) ∨ (k = t.length + 1 ∧ xs = piecesOf c t)
theorem PieceSt.start (c : UInt8) (t : Bs) : PieceSt c t 0 0 [] := .inl ⟨Nat.zero_le _, Nat.le_refl _, by simp [runC], by simp [runC]⟩
def addP (xs : List Bs) (y : Bs) : List Bs := xs ++ (if nonE y then [y] else [])
theorem filter_addP (xs : List Bs) (y : Bs) : (xs ++ [y]).filter nonE = addP (xs.filter nonE) y := by
  unfold addP; rw [List.filter_append]
  cases q : nonE y <;> simp [q]
theorem PieceSt.last {c : UInt8} {t : Bs} {fr : Nat} {xs : List Bs} (h : PieceSt c t t.length fr xs) : PieceSt c t (t.length + 1) (t.length + 1) (addP xs ((t.drop fr).take (t.length - fr))) ∧ fr ≤ t.length := by
  rcases h with ⟨_, h2, h3, h4⟩ | ⟨h, _⟩
  · rw [List.take_of_length_le (Nat.le_refl _)] at h3 h4
    refine ⟨.inr ⟨rfl, ?_⟩, h2⟩
    rw [List.take_of_length_le (by simp)]
    unfold piecesOf splitC
    rw [filter_addP, h3, h4]
  · omega
theorem PieceSt.comma {c : UInt8} {t : Bs} {k fr : Nat} {xs : List Bs} (h : PieceSt c t k fr xs) (hk : k < t.length) (hb : t[k] = c) : PieceSt c t (k + 1) (k + 1) (addP xs ((t.drop fr).take (k - fr))) ∧ fr ≤ k := by
  rcases h with ⟨h1, h2, h3, h4⟩ | ⟨h, _⟩
  · refine ⟨.inl ⟨by omega, Nat.le_refl _, ?_, ?_⟩, h2⟩
    · rw [take_next t k hk, runC_snoc, hb]
      rw [show (t.drop fr).take (k - fr) = (t.take k).drop fr from by rw [List.drop_take], h4, h3]
      simp only [stepC, if_true, filter_addP]
    · rw [take_next t k hk, runC_snoc, hb]
      rw [List.drop_of_length_le (by simp; omega)]
      simp [stepC]
  · omega
theorem PieceSt.other {c : UInt8} {t : Bs} {k fr : Nat} {xs : List Bs} (h : PieceSt c t k fr xs) (hk : k < t.length) (hb : t[k] ≠ c) : PieceSt c t (k + 1) fr xs ∧ fr ≤ k := by
  rcases h with ⟨h1, h2, h3, h4⟩ | ⟨h, _⟩
  · refine ⟨.inl ⟨by omega, by omega, ?_, ?_⟩, h2⟩
    · rw [take_next t k hk, runC_snoc]
      simp [stepC, hb, h3]
    · rw [take_next t k hk, runC_snoc, List.drop_append_of_le_length (by simp; omega), h4]
      simp [stepC, hb]
  · omega
theorem PieceSt.done {c : UInt8} {t : Bs} {k fr : Nat} {xs : List Bs} (h : PieceSt c t k fr xs) (hk : ¬ k ≤ t.length) : xs = piecesOf c t := by
  rcases h with ⟨h1, _⟩ | ⟨_, h⟩
  · omega
  · exact h
def StrsPost (xs : List Bs) (w : World) (e : Ending) (w' : World) : Prop := ∃ v, e = .returned v ∧ Strs w' v xs ∧ Kept w w'
theorem addP_nil (xs : List Bs) : addP xs [] = xs := by simp [addP, nonE]
theorem addP_one (xs : List Bs) (y : Bs) (h : y ≠ []) : addP xs y = xs ++ [y] := by simp [addP, nonE, h]

end Go.Proofs.YtafcngdnngpdnaaGreatDoor

/- The reference's languages, words and lists. Conditions: lengths. -/
set_option linter.all false
namespace Go.Proofs.YtafcngdnngpdnaaGreatDoor
open Go.RowKit

def langsL : List Bs := [lEn, lDe, lFr, lEs]
def idxL (l : Bs) : Int := if l = lEn then 0 else if l = lDe then 1 else if l = lFr then 2 else if l = lEs then 3 else -1
def langCells : Array Value := #[.string (bs [101, 110]), .string (bs [100, 101]), .string (bs [102, 114]), .string (bs [101, 115])]
theorem lang_cases (k : Nat) (h : k < 4) : k = 0 ∨ k = 1 ∨ k = 2 ∨ k = 3 := by omega
def andCells : Array Value := #[.string (bs [97, 110, 100]), .string (bs [97, 110, 100]), .string (bs [117, 110, 100]), .string (bs [117, 110, 100]), .string (bs [101, 116]), .string (bs [101, 116]), .string (bs [121]), .string (bs [121])]
def othersCells : Array Value := #[.string (bs [111, 116, 104, 101, 114, 115]), .string (bs [111, 116, 104, 101, 114, 115]), .string (bs [97, 110, 100, 101, 114, 101]), .string (bs [97, 110, 100, 101, 114, 101]), .string (bs [97, 117, 116, 114, 101, 115]), .string (bs [97, 117, 116, 114, 101, 115]), .string (bs [111, 116, 114, 111, 115]), .string (bs [111, 116, 114, 111, 115])]
theorem and_blk {w : World} {g : Nat} (h : Blk w g 141 andCells) (k : Nat) (x : Bs) (hx : [[97, 110, 100], [117, 110, 100], [101, 116], [121]][k]? = some x) : w.cell? ⟨g, k * 2, none⟩ = some (.string (bs x)) ∧ w.cell? ⟨g, k * 2 + 1, none⟩ = some (.string (bs x)) := by
  match k with
  | 0 => cases hx; exact ⟨h.cell 0 _ rfl, h.cell 1 _ rfl⟩
  | 1 => cases hx; exact ⟨h.cell 2 _ rfl, h.cell 3 _ rfl⟩
  | 2 => cases hx; exact ⟨h.cell 4 _ rfl, h.cell 5 _ rfl⟩
  | 3 => cases hx; exact ⟨h.cell 6 _ rfl, h.cell 7 _ rfl⟩
  | k + 4 => cases hx
theorem others_blk {w : World} {g : Nat} (h : Blk w g 141 othersCells) (k : Nat) (x : Bs) (hx : [[111, 116, 104, 101, 114, 115], [97, 110, 100, 101, 114, 101], [97, 117, 116, 114, 101, 115], [111, 116, 114, 111, 115]][k]? = some x) : w.cell? ⟨g, k * 2, none⟩ = some (.string (bs x)) ∧ w.cell? ⟨g, k * 2 + 1, none⟩ = some (.string (bs x)) := by
  match k with
  | 0 => cases hx; exact ⟨h.cell 0 _ rfl, h.cell 1 _ rfl⟩
  | 1 => cases hx; exact ⟨h.cell 2 _ rfl, h.cell 3 _ rfl⟩
  | 2 => cases hx; exact ⟨h.cell 4 _ rfl, h.cell 5 _ rfl⟩
  | 3 => cases hx; exact ⟨h.cell 6 _ rfl, h.cell 7 _ rfl⟩
  | k + 4 => cases hx
end Go.Proofs.YtafcngdnngpdnaaGreatDoor

/- The reference's Initials and Inverted. Conditions: lengths. -/
set_option linter.all false
namespace Go.Proofs.YtafcngdnngpdnaaGreatDoor
open Go.RowKit

theorem pieces_mem (c : UInt8) (l x : Bs) (h : x ∈ piecesOf c l) : x ≠ [] ∧ x.length ≤ l.length := by
  unfold piecesOf at h
  obtain ⟨h1, h2⟩ := List.mem_filter.1 h
  refine ⟨by simpa [nonE] using h2, ?_⟩
  have hs : ∀ (xs : List Bs) (x : Bs), x ∈ xs → x.length + 1 ≤ (xs.map (fun x => x.length + 1)).sum := by
    intro xs
    induction xs with
    | nil => intro x h; cases h
    | cons a r ih =>
      intro x h
      simp only [List.map_cons, List.sum_cons]
      rcases List.mem_cons.1 h with rfl | h
      · omega
      · have := ih x h; omega
  have := hs _ x h1
  rw [splitC_sum] at this; omega
theorem pieces_count (c : UInt8) (l : Bs) : (piecesOf c l).length ≤ l.length + 1 := by
  unfold piecesOf
  have h1 := List.length_filter_le nonE (splitC c l)
  rw [splitC_length] at h1
  have h2 := List.count_le_length (l := l) (a := c)
  omega
theorem join_snoc2 (sep : Bs) (xs : List Bs) (x : Bs) : Lib.join (xs ++ [x]) sep = (if xs = [] then [] else Lib.join xs sep ++ sep) ++ x := by
  cases xs with
  | nil => simp [Lib.join_one]
  | cons a r =>
    rw [List.cons_append, Lib.join_cons, Lib.join_cons]
    simp [Lib.joinTail]
theorem join_max (sep : Bs) (m : Nat) (xs : List Bs) (h : ∀ x ∈ xs, x.length ≤ m) : (Lib.join xs sep).length ≤ xs.length * (m + sep.length) := by
  refine snoc_ind (P := fun xs => (∀ x ∈ xs, x.length ≤ m) → (Lib.join xs sep).length ≤ xs.length * (m + sep.length)) ?_ ?_ xs h
  · intro _; rw [Lib.join_nil]; simp
  · intro xs x ih hx
    have h1 := ih (fun y hy => hx y (by simp [hy]))
    have h2 := hx x (by simp)
    rw [join_snoc2, List.length_append, List.length_append, Nat.add_mul]
    simp only [List.length_cons, List.length_nil, Nat.zero_add, Nat.one_mul]
    split
    · simp; omega
    · rw [List.length_append]; omega
theorem pieceI_len (x : Bs) : (pieceI x).length ≤ 5 := by unfold pieceI; have := encL_len (dec (bs x) 0).1; simp; omega
theorem iniJ_len (ys : List Bs) : (Lib.join (ys.map pieceI) [45]).length ≤ 6 * ys.length := by
  have := join_max [45] 5 (ys.map pieceI) (fun x hx => by obtain ⟨y, _, rfl⟩ := List.mem_map.1 hx; exact pieceI_len y)
  simp at this; omega
theorem bulk_max (m : Nat) (xs : List Bs) (h : ∀ x ∈ xs, x.length ≤ m) : bulk xs ≤ xs.length * (m + 1) := by
  unfold bulk
  induction xs with
  | nil => simp
  | cons a r ih =>
    have h1 := ih (fun x hx => h x (by simp [hx]))
    have h2 := h a (by simp)
    simp only [List.map_cons, List.sum_cons, List.length_cons, Nat.add_mul, Nat.one_mul]; omega
theorem map_take2 (f : Bs → Bs) (ps : List Bs) (k : Nat) (q : Bs) (h : ps[k]? = some q) : (ps.take (k + 1)).map f = (ps.take k).map f ++ [f q] := by
  obtain ⟨hk, rfl⟩ := List.getElem?_eq_some_iff.1 h
  rw [List.take_succ_eq_append_getElem hk, List.map_append]; rfl

end Go.Proofs.YtafcngdnngpdnaaGreatDoor
