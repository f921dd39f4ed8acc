/- Plain words on lines: clean texts, lines joined and parted again. No condition. -/
import Derived.Test.YthbnahagfojfbaaG07
import Derived.Test.YthbnahagfojfbaaG15
import Derived.Test.YthbnahagfojfbaaG09
import Derived.Test.YthbnahagfojfbaaG10

set_option linter.all false
namespace Go.Proofs.Ythbnahagfojfbaa
open Go.RowKit

theorem valid_feed (b : Bs) : ∀ (n : Nat) (a : Bs), a.length ≤ n → validB (bs (a ++ 10 :: b)) = (validB (bs a) && validB (bs b)) := by
  intro n
  induction n with
  | zero =>
    intro a ha
    obtain rfl : a = [] := List.length_eq_zero_iff.1 (by omega)
    rw [List.nil_append, valid_cons (10 :: b) (by simp), valid_nil]
    have e0 : byteAt (bs (10 :: b)) 0 = 10 := rfl
    have e : dec (bs (10 :: b)) 0 = (10, 1) := by unfold dec; rw [e0, if_pos (by omega)]
    rw [e]
    rfl
  | succ n ih =>
    intro a ha
    by_cases h0 : a = []
    · exact (show a.length ≤ n → _ from ih a) (by simp [h0])
    · have hl := List.length_pos_iff.2 h0
      have hb := dec_bounds (bs a) 0 (by simpa using hl)
      rw [valid_cons (a ++ 10 :: b) (by simp; omega), valid_cons a hl, dec_cut a (10 :: b) hl (.inr (by show (10 : Int) < 128; omega))]
      simp only [bs_size] at hb
      have e : (a ++ 10 :: b).drop (dec (bs a) 0).2.toNat = a.drop (dec (bs a) 0).2.toNat ++ 10 :: b := List.drop_append_of_le_length (by omega)
      rw [e, ih _ (by simp; omega), Bool.and_assoc]
theorem lines_line : ∀ (n : Nat) (s : Bs), s.length ≤ n → validB (bs s) = true → ∀ x ∈ splitC 10 s, lineB x = true := by
  intro n
  induction n with
  | zero =>
    intro s hs _ x hx
    obtain rfl : s = [] := List.length_eq_zero_iff.1 (by omega)
    rw [splitC_none 10 [] (by simp)] at hx
    simp at hx; subst hx; exact line_nil
  | succ n ih =>
    intro s hs hv x hx
    rcases index_one s 10 with ⟨_, h⟩ | ⟨i, _, hi, hni, he⟩
    · rw [splitC_none 10 s h] at hx
      simp at hx; subst hx
      unfold lineB; rw [hv]; simp [h]
    · rw [he, splitC_at 10 _ _ hni] at hx
      rw [he, valid_feed _ _ _ (Nat.le_refl _), Bool.and_eq_true] at hv
      rcases List.mem_cons.1 hx with rfl | hx
      · unfold lineB; rw [hv.1]; simpa using hni
      · exact ih _ (by simp; omega) hv.2 x hx
theorem lines_sub (s x : Bs) (h : x ∈ linesL s) : x ∈ splitC 10 s := by
  unfold linesL at h
  unfold splitC
  rcases List.mem_append.1 h with h | h
  · exact List.mem_append.2 (.inl h)
  · split at h
    · cases h
    · exact List.mem_append.2 (.inr h)
theorem lines_valid (s : Bs) (hv : validB (bs s) = true) (x : Bs) (h : x ∈ linesL s) : lineB x = true := lines_line _ s (Nat.le_refl _) hv x (lines_sub s x h)
theorem join_fold (xs : List Bs) : ∀ (j : List Bs), (∀ x ∈ xs, (10 : UInt8) ∉ x) → (joinLn xs).foldl (stepC 10) (j, []) = (j ++ xs, []) := by
  induction xs with
  | nil => intro j _; simp [joinLn]
  | cons x xs ih =>
    intro j h
    have e : joinLn (x :: xs) = x ++ 10 :: joinLn xs := by simp [joinLn]
    rw [e, List.foldl_append, fold_none 10 x j [] (h x (by simp)), List.foldl_cons, show stepC 10 (j, [] ++ x) 10 = (j ++ [x], []) from by simp [stepC], ih _ (fun y hy => h y (by simp [hy]))]
    simp
theorem lines_join (xs : List Bs) (h : ∀ x ∈ xs, (10 : UInt8) ∉ x) : linesL (joinLn xs) = xs := by
  unfold linesL runC
  rw [join_fold xs [] h]; simp
theorem join_valid (xs : List Bs) (h : ∀ x ∈ xs, lineB x = true) : validB (bs (joinLn xs)) = true := by
  induction xs with
  | nil => exact valid_nil
  | cons x xs ih =>
    have e : joinLn (x :: xs) = x ++ 10 :: joinLn xs := by simp [joinLn]
    rw [e, valid_feed _ _ _ (Nat.le_refl _), ih (fun y hy => h y (by simp [hy]))]
    have := h x (by simp)
    unfold lineB at this
    rw [Bool.and_eq_true] at this
    rw [this.1]; rfl
theorem line_no10 (x : Bs) (h : lineB x = true) : (10 : UInt8) ∉ x := by
  unfold lineB at h
  rw [Bool.and_eq_true] at h
  simpa using h.2
theorem line_vis (x : Bs) (h : lineB x = true) : validB (bs x) = true := by
  unfold lineB at h
  rw [Bool.and_eq_true] at h; exact h.1
/-- Visible ASCII bytes ahead of a text. -/
theorem line_pre (a x : Bs) (h : ∀ b ∈ a, 32 ≤ (b.toNat : Int) ∧ (b.toNat : Int) < 127) : lineB (a ++ x) = lineB x := by
  induction a with
  | nil => rfl
  | cons b a ih =>
    have := line_at b (h b (by simp)) [] (a ++ x)
    rw [List.nil_append, line_nil, Bool.true_and] at this
    rw [List.cons_append, this]
    exact ih (fun c hc => h c (by simp [hc]))
theorem line_asc (a : Bs) (h : ∀ b ∈ a, 32 ≤ (b.toNat : Int) ∧ (b.toNat : Int) < 127) : lineB a = true := by
  have := line_pre a [] h
  rw [List.append_nil, line_nil] at this; exact this
end Go.Proofs.Ythbnahagfojfbaa

/- Plain law: the text of a collation without errors is read as that collation. No condition. -/
set_option linter.all false
namespace Go.Proofs.Ythbnahagfojfbaa
open Go.RowKit

theorem rule_parts {l : Bs} (h : ruleB l = true) : 1 ≤ l.length ∧ l.length ≤ 200 ∧ validB (bs l) = true ∧ (32 : UInt8) ∉ l ∧ (10 : UInt8) ∉ l := by
  unfold ruleB at h
  simp only [Bool.and_eq_true, decide_eq_true_eq, Bool.not_eq_true', List.any_eq_false] at h
  obtain ⟨h1, h2, h3, h4⟩ := h
  refine ⟨h1, h2, h3, fun q => ?_, fun q => ?_⟩
  · have := h4 32 q; simp at this
  · have := h4 10 q; simp at this
theorem rule_ne {l : Bs} (h : ruleB l = true) : l ≠ [] := by
  intro q; subst q; have := (rule_parts h).1; simp at this
theorem join_2 (x y : Bs) (r : List Bs) : Lib.join (x :: y :: r) [32] = x ++ 32 :: Lib.join (y :: r) [32] := by
  rw [Lib.join_cons, Lib.join_cons]; simp [Lib.joinTail]
theorem split_join : ∀ xs : List Bs, xs ≠ [] → (∀ x ∈ xs, (32 : UInt8) ∉ x) → splitC 32 (Lib.join xs [32]) = xs
  | [], h, _ => absurd rfl h
  | [x], _, h => by rw [Lib.join_one]; exact splitC_none 32 x (h x (by simp))
  | x :: y :: r, _, h => by
    rw [join_2, splitC_at 32 x _ (h x (by simp)), split_join (y :: r) (by simp) (fun z hz => h z (by simp at hz ⊢; exact .inr hz))]
theorem words_join (xs : List Bs) (h0 : xs ≠ []) (h : ∀ x ∈ xs, (32 : UInt8) ∉ x ∧ x ≠ []) : wordsB (Lib.join xs [32]) = xs := by
  unfold wordsB
  rw [split_join xs h0 (fun x hx => (h x hx).1)]
  refine List.filter_eq_self.2 fun x hx => ?_
  have := (h x hx).2
  cases x with
  | nil => exact absurd rfl this
  | cons b l => rfl
theorem ordC_all : ∀ (ss : List Bs) (l : List Int), (ordC l ss).1 = 0 → ∀ s ∈ ss, ruleB s = true
  | [], _, _, s, hs => by cases hs
  | t :: ss, l, h, s, hs => by
    unfold ordC at h
    split at h
    · cases h
    · rename_i hr
      have hr' : ruleB t = true := by simpa using hr
      split at h
      · cases h
      · rcases List.mem_cons.1 hs with rfl | hs
        · exact hr'
        · exact ordC_all ss _ h s hs
theorem rnkC_all : ∀ (ps : List Pr) (l : List Int), (rnkC l ps).1 = 0 → ∀ p ∈ ps, ruleB p.1 = true ∧ ruleB p.2 = true
  | [], _, _, p, hp => by cases hp
  | q :: ps, l, h, p, hp => by
    unfold rnkC at h
    split at h
    · cases h
    · rename_i hr
      have hr' : ruleB q.1 = true ∧ ruleB q.2 = true := by
        cases h1 : ruleB q.1 <;> cases h2 : ruleB q.2 <;> simp [h1, h2] at hr ⊢
      split at h
      · cases h
      split at h
      · cases h
      · rcases List.mem_cons.1 hp with rfl | hp
        · exact hr'
        · exact rnkC_all ps _ h p hp
theorem rnkC_take : ∀ (ps : List Pr) (l : List Int) (j : Nat), (rnkC l ps).1 = 0 → (rnkC l (ps.take j)).1 = 0
  | [], _, j, h => by simpa using h
  | q :: ps, l, 0, h => rfl
  | q :: ps, l, j + 1, h => by
    rw [List.take_succ_cons]
    unfold rnkC at h ⊢
    split
    · rename_i h1; rw [if_pos h1] at h; exact h
    rename_i h1
    rw [if_neg h1] at h
    split
    · rename_i h2; rw [if_pos h2] at h; exact h
    rename_i h2
    rw [if_neg h2] at h
    cases ha : addA l (ptsL q.1) with
    | none => rw [ha] at h; exact h
    | some l' => rw [ha] at h; exact rnkC_take ps l' j h
theorem colE_parts {c : ColT} (h : colE c = 0) : c.order.length ≤ 128 ∧ c.ranks.length ≤ 128 ∧ (ordC [] c.order).1 = 0 ∧ (rnkC (ordC [] c.order).2 c.ranks).1 = 0 ∧ ignC (rnkC (ordC [] c.order).2 c.ranks).2 c.ignore = 0 := by
  unfold colE at h
  split at h
  · cases h
  rename_i h1
  split at h
  · rename_i h2; exact absurd h h2
  rename_i h2
  split at h
  · rename_i h3; exact absurd h h3
  rename_i h3
  exact ⟨by omega, by omega, by simpa using h2, by simpa using h3, h⟩
theorem colE_front {c : ColT} (h : colE c = 0) (j : Nat) : colE ⟨c.ranks.take j, c.order, []⟩ = 0 := by
  obtain ⟨h1, h2, h3, h4, _⟩ := colE_parts h
  have h5 := rnkC_take c.ranks (ordC [] c.order).2 j h4
  unfold colE
  simp only
  rw [if_neg (by rw [List.length_take]; omega), if_neg (by rw [h3]; simp), if_neg (by rw [h5]; simp)]
  rfl
theorem ign_rule {l : List Int} {s : Bs} (h : ignC l s = 0) : s = [] ∨ ruleB s = true := by
  unfold ignC at h
  split at h
  · left; assumption
  · right
    split at h
    · cases h
    · rename_i h2; simpa using h2
theorem rank_words (p : Pr) (h1 : ruleB p.1 = true) (h2 : ruleB p.2 = true) : wordsB (rankLine p) = [kAs, p.1, p.2] := by
  have e : rankLine p = Lib.join [kAs, p.1, p.2] [32] := by
    rw [join_2, join_2, Lib.join_one]; simp [rankLine, kAs]
  rw [e]
  refine words_join _ (by simp) fun x hx => ?_
  simp only [List.mem_cons, List.mem_nil_iff, or_false] at hx
  rcases hx with rfl | rfl | rfl
  · exact ⟨by decide, by decide⟩
  · exact ⟨(rule_parts h1).2.2.2.1, rule_ne h1⟩
  · exact ⟨(rule_parts h2).2.2.2.1, rule_ne h2⟩
theorem order_words (xs : List Bs) (h0 : xs ≠ []) (h : ∀ x ∈ xs, ruleB x = true) : wordsB ([111, 114, 100, 101, 114, 32] ++ Lib.join xs [32]) = kOrder :: xs := by
  have e : [111, 114, 100, 101, 114, 32] ++ Lib.join xs [32] = Lib.join (kOrder :: xs) [32] := by
    cases xs with
    | nil => exact absurd rfl h0
    | cons y r => rw [join_2]; simp [kOrder]
  rw [e]
  refine words_join _ (by simp) fun x hx => ?_
  rcases List.mem_cons.1 hx with rfl | hx
  · exact ⟨by decide, by decide⟩
  · exact ⟨(rule_parts (h x hx)).2.2.2.1, rule_ne (h x hx)⟩
theorem ignore_words (s : Bs) (h : ruleB s = true) : wordsB ([105, 103, 110, 111, 114, 101, 32] ++ s) = [kIgnore, s] := by
  have e : [105, 103, 110, 111, 114, 101, 32] ++ s = Lib.join [kIgnore, s] [32] := by
    rw [join_2, Lib.join_one]; simp [kIgnore]
  rw [e]
  refine words_join _ (by simp) fun x hx => ?_
  simp only [List.mem_cons, List.mem_nil_iff, or_false] at hx
  rcases hx with rfl | rfl
  · exact ⟨by decide, by decide⟩
  · exact ⟨(rule_parts h).2.2.2.1, rule_ne h⟩
theorem addW_as (c : ColT) (a b : Bs) : addW c [kAs, a, b] = some { c with ranks := c.ranks ++ [(a, b)] } := by
  simp [addW, kAs, kOrder]
theorem addW_ignore (c : ColT) (a : Bs) : addW c [kIgnore, a] = some { c with ignore := c.ignore ++ a } := by
  simp [addW, kIgnore, kOrder]
theorem addW_order (c : ColT) (xs : List Bs) (h : xs ≠ []) : addW c (kOrder :: xs) = some { c with order := c.order ++ xs } := by
  simp [addW, h]
theorem colR_step (l : Bs) (ls : List Bs) (i : Nat) (c c' : ColT) (ws : List Bs) (hw : wordsB l = ws) (h0 : ws ≠ []) (ha : addW c ws = some c') (he : colE c' = 0) : colR (l :: ls) i c = colR ls (i + 1) c' := by
  rw [colR, hw, if_neg h0]
  simp only [ha]
  rw [if_neg (by rw [he]; simp)]
theorem colR_ranks {c : ColT} (h : colE c = 0) (rest : List Bs) : ∀ (d j i : Nat), j + d = c.ranks.length → colR ((c.ranks.drop j).map rankLine ++ rest) i ⟨c.ranks.take j, c.order, []⟩ = colR rest (i + d) ⟨c.ranks, c.order, []⟩
  | 0, j, i, hj => by
    rw [List.drop_of_length_le (by omega), List.take_of_length_le (by omega)]; rfl
  | d + 1, j, i, hj => by
    obtain ⟨p, hp⟩ : ∃ p, c.ranks[j]? = some p := ⟨_, List.getElem?_eq_getElem (by omega)⟩
    obtain ⟨hk, rfl⟩ := List.getElem?_eq_some_iff.1 hp
    have hr := rnkC_all c.ranks _ (colE_parts h).2.2.2.1 c.ranks[j] (List.getElem_mem hk)
    rw [List.drop_eq_getElem_cons hk, List.map_cons, List.cons_append]
    rw [colR_step (rankLine c.ranks[j]) _ i _ ⟨c.ranks.take (j + 1), c.order, []⟩ _ (rank_words _ hr.1 hr.2) (by simp) ?_ (colE_front h (j + 1))]
    · rw [colR_ranks h rest d (j + 1) (i + 1) (by omega)]
      congr 1; omega
    · rw [addW_as, List.take_succ_eq_append_getElem hk]
theorem col_run {c : ColT} (h : colE c = 0) : colR (colL c) 0 zeroC = (c, 0, 0) := by
  obtain ⟨_, _, h3, h4, h5⟩ := colE_parts h
  have hT : ∀ i, colR (c.ranks.map rankLine ++ (if c.ignore = [] then [] else [[105, 103, 110, 111, 114, 101, 32] ++ c.ignore])) i ⟨[], c.order, []⟩ = (c, 0, 0) := by
    intro i
    have e := colR_ranks h (if c.ignore = [] then [] else [[105, 103, 110, 111, 114, 101, 32] ++ c.ignore]) c.ranks.length 0 i (by omega)
    rw [List.drop_zero, List.take_zero] at e
    rw [e]
    by_cases hi : c.ignore = []
    · rw [if_pos hi]
      show ((⟨c.ranks, c.order, []⟩ : ColT), (0 : Int), (0 : Int)) = _
      rw [← hi]
    · rw [if_neg hi]
      have hr : ruleB c.ignore = true := (ign_rule h5).elim (fun q => absurd q hi) id
      rw [colR_step _ [] _ _ c _ (ignore_words _ hr) (by simp) ?_ h]
      · rfl
      · rw [addW_ignore, List.nil_append]
  unfold colL
  by_cases ho : c.order = []
  · rw [if_pos ho, List.nil_append]
    have := hT 0
    rw [ho] at this
    exact this
  · rw [if_neg ho, List.append_assoc, List.singleton_append]
    rw [colR_step _ _ 0 zeroC ⟨[], c.order, []⟩ _ (order_words _ ho (ordC_all _ _ h3)) (by simp) ?_ (by have := colE_front h 0; rwa [List.take_zero] at this)]
    · exact hT 1
    · rw [addW_order _ _ ho]; rfl
theorem colL_no10 {c : ColT} (h : colE c = 0) : ∀ x ∈ colL c, (10 : UInt8) ∉ x := by
  obtain ⟨_, _, h3, h4, h5⟩ := colE_parts h
  have hj : ∀ xs : List Bs, (∀ x ∈ xs, (10 : UInt8) ∉ x) → (10 : UInt8) ∉ Lib.join xs [32] := by
    intro xs
    induction xs with
    | nil => intro _; rw [Lib.join_nil]; simp
    | cons x r ih =>
      intro hx
      cases r with
      | nil => rw [Lib.join_one]; exact hx x (by simp)
      | cons y r =>
        rw [join_2]
        intro q
        rcases List.mem_append.1 q with q | q
        · exact hx x (by simp) q
        · rcases List.mem_cons.1 q with q | q
          · cases q
          · exact ih (fun z hz => hx z (by simp at hz ⊢; exact .inr hz)) q
  intro x hx
  unfold colL at hx
  rcases List.mem_append.1 hx with hx | hx
  · rcases List.mem_append.1 hx with hx | hx
    · split at hx
      · cases hx
      · simp only [List.mem_singleton] at hx
        subst hx
        intro q
        rcases List.mem_append.1 q with q | q
        · exact absurd q (by decide)
        · exact hj _ (fun y hy => (rule_parts (ordC_all _ _ h3 y hy)).2.2.2.2) q
    · obtain ⟨p, hp, rfl⟩ := List.mem_map.1 hx
      have hr := rnkC_all c.ranks _ h4 p hp
      intro q
      unfold rankLine at q
      simp only [List.mem_append] at q
      rcases q with ((q | q) | q) | q
      · exact absurd q (by decide)
      · exact (rule_parts hr.1).2.2.2.2 q
      · exact absurd q (by decide)
      · exact (rule_parts hr.2).2.2.2.2 q
  · split at hx
    · cases hx
    · rename_i hi
      simp only [List.mem_singleton] at hx
      subst hx
      intro q
      rcases List.mem_append.1 q with q | q
      · exact absurd q (by decide)
      · exact (rule_parts ((ign_rule h5).elim (fun z => absurd z hi) id)).2.2.2.2 q
/-- The text of a collation without errors is read as that collation. -/
theorem col_back {c : ColT} (h : colE c = 0) : colR (linesL (colS c)) 0 zeroC = (c, 0, 0) := by
  unfold colS
  rw [if_pos h, lines_join _ (colL_no10 h), col_run h]
end Go.Proofs.Ythbnahagfojfbaa

/- Plain words on the text of a collation, as the reference builds it; what the reference says of rules and letters. No condition. -/
set_option linter.all false
namespace Go.Proofs.Ythbnahagfojfbaa
open Go.RowKit

/-- The first line, as far as it is written. -/
def ordT (xs : List Bs) (k : Nat) : Bs := if k = 0 then [] else kOrder ++ (xs.take k).flatMap fun x => 32 :: x
theorem ordT_next (xs : List Bs) (k : Nat) (x : Bs) (h : xs[k]? = some x) : ordT xs (k + 1) = (if k = 0 then kOrder else ordT xs k) ++ ([32] ++ x) := by
  obtain ⟨hk, rfl⟩ := List.getElem?_eq_some_iff.1 h
  unfold ordT
  rw [if_neg (by omega), List.take_succ_eq_append_getElem hk, List.flatMap_append]
  by_cases q : k = 0
  · subst q; simp
  · rw [if_neg q, if_neg q]; simp
theorem ordT_join (xs : List Bs) (h : xs ≠ []) : ordT xs xs.length = [111, 114, 100, 101, 114, 32] ++ Lib.join xs [32] := by
  have e : ∀ ys : List Bs, ys ≠ [] → (ys.flatMap fun x => 32 :: x) = 32 :: Lib.join ys [32] := by
    intro ys
    induction ys with
    | nil => intro q; exact absurd rfl q
    | cons y r ih =>
      intro _
      cases r with
      | nil => simp [Lib.join_one]
      | cons z r => rw [List.flatMap_cons, ih (by simp), join_2]; simp
  unfold ordT
  have hl : ¬ xs.length = 0 := fun q => h (List.length_eq_zero_iff.1 q)
  rw [if_neg hl, List.take_of_length_le (Nat.le_refl _), e xs h]
  simp [kOrder]
theorem ordT_nil (xs : List Bs) : ordT xs xs.length = [] ↔ xs = [] := by
  constructor
  · intro h
    apply Classical.byContradiction
    intro q
    rw [ordT_join xs q] at h
    simp at h
  · rintro rfl; rfl
/-- The lines of the ranks. -/
def rnkT (ps : List Pr) : Bs := ps.flatMap fun p => [97, 115, 32] ++ p.1 ++ [32] ++ p.2 ++ [10]
theorem rnkT_next (ps : List Pr) (k : Nat) (p : Pr) (h : ps[k]? = some p) : rnkT (ps.take (k + 1)) = rnkT (ps.take k) ++ ([97, 115, 32] ++ p.1 ++ [32] ++ p.2 ++ [10]) := by
  obtain ⟨hk, rfl⟩ := List.getElem?_eq_some_iff.1 h
  unfold rnkT
  rw [List.take_succ_eq_append_getElem hk, List.flatMap_append]
  simp
theorem colS_at (c : ColT) (h : colE c = 0) : colS c = (if c.order = [] then [] else ordT c.order c.order.length ++ [10]) ++ rnkT c.ranks ++ (if c.ignore = [] then [] else [105, 103, 110, 111, 114, 101, 32] ++ c.ignore ++ [10]) := by
  unfold colS colL joinLn rnkT
  rw [if_pos h]
  have e1 : (if c.order = [] then ([] : List Bs) else [[111, 114, 100, 101, 114, 32] ++ Lib.join c.order [32]]).flatMap (fun x => x ++ [10]) = (if c.order = [] then [] else ordT c.order c.order.length ++ [10]) := by
    by_cases q : c.order = []
    · rw [if_pos q, if_pos q]; rfl
    · rw [if_neg q, if_neg q, ordT_join _ q]; simp
  have e2 : (if c.ignore = [] then ([] : List Bs) else [[105, 103, 110, 111, 114, 101, 32] ++ c.ignore]).flatMap (fun x => x ++ [10]) = (if c.ignore = [] then [] else [105, 103, 110, 111, 114, 101, 32] ++ c.ignore ++ [10]) := by
    by_cases q : c.ignore = []
    · rw [if_pos q, if_pos q]; rfl
    · rw [if_neg q, if_neg q]; simp
  rw [List.flatMap_append, List.flatMap_append, e1, e2]
  congr 2
  simp [rankLine, List.flatMap_map]
/-- Letters put to others, one more of them. -/
theorem addA_app : ∀ (xs ys l : List Int), addA l (xs ++ ys) = match addA l xs with
    | none => none
    | some l' => addA l' ys
  | [], ys, l => rfl
  | x :: xs, ys, l => by
    rw [List.cons_append, show addA l (x :: (xs ++ ys)) = (if l.contains x = true then none else addA (l ++ [x]) (xs ++ ys)) from rfl, show addA l (x :: xs) = (if l.contains x = true then none else addA (l ++ [x]) xs) from rfl]
    split
    · rfl
    · exact addA_app xs ys _
theorem addA_one (l : List Int) (x : Int) : addA l [x] = if l.contains x = true then none else some (l ++ [x]) := by
  show (if l.contains x = true then none else addA (l ++ [x]) []) = _
  split <;> rfl
/-- The letters k on of a list are put to what the first k left. -/
theorem addA_take (xs l : List Int) (k : Nat) (h : k < xs.length) : addA l (xs.take (k + 1)) = match addA l (xs.take k) with
    | none => none
    | some l' => if l'.contains xs[k] = true then none else some (l' ++ [xs[k]]) := by
  rw [List.take_succ_eq_append_getElem h, addA_app]
  cases addA l (xs.take k) with
  | none => rfl
  | some l' => exact addA_one l' _
theorem addA_none (xs l : List Int) (k : Nat) (hk : k ≤ xs.length) (h : addA l (xs.take k) = none) : addA l xs = none := by
  rw [← List.take_append_drop k xs, addA_app, h]
end Go.Proofs.Ythbnahagfojfbaa
