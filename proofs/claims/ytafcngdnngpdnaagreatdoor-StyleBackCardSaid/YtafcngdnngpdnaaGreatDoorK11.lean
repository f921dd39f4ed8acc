/- Clean text of one line. No condition. -/
import Derived.Test.YtafcngdnngpdnaaGreatDoorK02
import Derived.Test.YtafcngdnngpdnaaGreatDoorK05
import Derived.Test.YtafcngdnngpdnaaGreatDoorK06
import Derived.Test.YtafcngdnngpdnaaGreatDoorK03

set_option linter.all false
namespace Go.Proofs.YtafcngdnngpdnaaGreatDoor
open Go.RowKit

def lineB (l : Bs) : Bool := validB (bs l) && !(l.contains 10)
end Go.Proofs.YtafcngdnngpdnaaGreatDoor

/- Plain words on code points and clean text: a part of a text read alone. No condition. -/
set_option linter.all false
namespace Go.Proofs.YtafcngdnngpdnaaGreatDoor
open Go.RowKit

theorem moreOf_shift (l : Bs) (i k : Nat) (a b : Int) : moreOf (bs (l.drop i)) k a b = moreOf (bs l) (i + k) a b := by
  unfold moreOf
  have e : byteAt (bs (l.drop i)) k = byteAt (bs l) (i + k) := by
    rw [byteAt_bs, byteAt_bs]; unfold at8; simp
  rw [e]
  have : ((bs (l.drop i)).size ≤ k) ↔ ((bs l).size ≤ i + k) := by simp; omega
  simp only [this]
theorem dec_shift (l : Bs) (i : Nat) : dec (bs (l.drop i)) 0 = dec (bs l) i := by
  have e : byteAt (bs (l.drop i)) 0 = byteAt (bs l) i := by rw [byteAt_bs, byteAt_bs]; unfold at8; simp
  unfold dec three four
  rw [e]
  simp only [moreOf_shift, Nat.zero_add]
theorem at8_left (x t : Bs) (k : Nat) (h : k < x.length) : at8 (x ++ t) k = at8 x k := by
  unfold at8; rw [List.getD_eq_getElem?_getD, List.getD_eq_getElem?_getD, List.getElem?_append_left h]
theorem at8_right (x t : Bs) : at8 (x ++ t) x.length = at8 t 0 := by
  unfold at8; rw [List.getD_eq_getElem?_getD, List.getD_eq_getElem?_getD, List.getElem?_append_right (Nat.le_refl _)]; simp
/-- A piece that ends before an ASCII letter, or at the end, is read as in the whole text. -/
theorem dec_cut (x t : Bs) (hx : 0 < x.length) (ht : t = [] ∨ at8 t 0 < 128) : dec (bs (x ++ t)) 0 = dec (bs x) 0 := by
  have e0 : byteAt (bs (x ++ t)) 0 = byteAt (bs x) 0 := by rw [byteAt_bs, byteAt_bs]; exact at8_left x t 0 hx
  have A : ∀ k a b, k < x.length → moreOf (bs (x ++ t)) k a b = moreOf (bs x) k a b := by
    intro k a b h
    unfold moreOf
    rw [byteAt_bs, byteAt_bs, at8_left x t k h]
    have : ((bs (x ++ t)).size ≤ k) ↔ ((bs x).size ≤ k) := by simp; omega
    simp only [this]
  have B : ∀ k a b, k = x.length → 128 ≤ a → moreOf (bs (x ++ t)) k a b = -1 := by
    intro k a b h ha
    subst h
    unfold moreOf
    rw [if_pos]
    rcases ht with rfl | ht
    · left; simp
    · right; left; rw [byteAt_bs, at8_right]; omega
  have C : ∀ k a b, x.length ≤ k → moreOf (bs x) k a b = -1 := by
    intro k a b h
    unfold moreOf
    rw [if_pos (.inl (by simpa using h))]
  have hl3 : 128 ≤ low3 (byteAt (bs x) 0) := by unfold low3; split <;> omega
  have hl4 : 128 ≤ low4 (byteAt (bs x) 0) := by unfold low4; split <;> omega
  unfold dec three four
  rw [e0]
  simp only [Nat.zero_add]
  rcases (show x.length = 1 ∨ x.length = 2 ∨ x.length = 3 ∨ 4 ≤ x.length by omega) with h | h | h | h
  · simp only [B 1 _ _ h.symm (Int.le_refl _), B 1 _ _ h.symm hl3, B 1 _ _ h.symm hl4, C 1 _ _ (by omega)]
    simp
  · simp only [A 1 _ _ (by omega), B 2 _ _ h.symm (Int.le_refl _), C 2 _ _ (by omega)]
    simp
  · simp only [A 1 _ _ (by omega), A 2 _ _ (by omega), B 3 _ _ h.symm (Int.le_refl _), C 3 _ _ (by omega)]
  · simp only [A 1 _ _ (by omega), A 2 _ _ (by omega), A 3 _ _ (by omega)]

theorem valid_drop (x : Bs) (m k : Nat) (hk : x.length - k ≤ m) : validFrom (bs x) k = validB (bs (x.drop k)) := by
  induction m generalizing x k with
  | zero =>
    rw [validFrom_out _ _ (by simp; omega)]
    unfold validB
    rw [validFrom_out _ _ (by simp; omega)]
  | succ m ihm =>
    by_cases hkx : k < x.length
    · have hbx := dec_bounds (bs x) k (by simpa using hkx)
      unfold validB
      rw [validFrom_in _ _ (by simpa using hkx), validFrom_in (bs (x.drop k)) 0 (by simp; omega), dec_shift, Nat.zero_add]
      congr 1
      rw [ihm x _ (by omega), ihm (x.drop k) _ (by simp; omega), List.drop_drop]
    · rw [validFrom_out _ _ (by simpa using hkx)]
      unfold validB
      rw [validFrom_out _ _ (by simp; omega)]
theorem valid_cons (l : Bs) (h : 0 < l.length) : validB (bs l) = (goodPt (dec (bs l) 0) && validB (bs (l.drop (dec (bs l) 0).2.toNat))) := by
  rw [← valid_drop l _ _ (Nat.le_refl _)]
  conv => lhs; unfold validB
  rw [validFrom_in _ _ (by simpa using h), Nat.zero_add]
theorem valid_nil : validB (bs []) = true := validFrom_out _ _ (by simp)
/-- An ASCII byte that is no control byte parts a text. -/
theorem valid_at (c : UInt8) (hc : 32 ≤ (c.toNat : Int) ∧ (c.toNat : Int) < 127) (b : Bs) : ∀ (n : Nat) (a : Bs), a.length ≤ n → validB (bs (a ++ c :: b)) = (validB (bs a) && validB (bs b)) := by
  intro n
  induction n with
  | zero =>
    intro a ha
    obtain rfl : a = [] := List.length_eq_zero_iff.1 (by omega)
    rw [List.nil_append, valid_cons (c :: b) (by simp), valid_nil]
    have e0 : byteAt (bs (c :: b)) 0 = (c.toNat : Int) := rfl
    have e : dec (bs (c :: b)) 0 = ((c.toNat : Int), 1) := by unfold dec; rw [e0, if_pos (by omega)]
    rw [e]
    have g : goodPt ((c.toNat : Int), 1) = true := by
      have h1 : cleanOf (c.toNat : Int) = true := by unfold cleanOf; simp; omega
      have h2 : ((c.toNat : Int) == 65533) = false := by rw [beq_eq_false_iff_ne]; omega
      simp only [goodPt, h1, h2]; rfl
    rw [g]; rfl
  | succ n ih =>
    intro a ha
    by_cases h0 : a = []
    · exact (show a.length ≤ n → _ from ih a) (by simp [h0])
    · have hl := List.length_pos_iff.2 h0
      have hb := dec_bounds (bs a) 0 (by simpa using hl)
      rw [valid_cons (a ++ c :: b) (by simp; omega), valid_cons a hl, dec_cut a (c :: b) hl (.inr (by show ((c.toNat : Int)) < 128; omega))]
      simp only [bs_size] at hb
      have e : (a ++ c :: b).drop (dec (bs a) 0).2.toNat = a.drop (dec (bs a) 0).2.toNat ++ c :: b := List.drop_append_of_le_length (by omega)
      rw [e, ih _ (by simp; omega), Bool.and_assoc]

theorem line_nil : lineB [] = true := by unfold lineB; rw [valid_nil]; rfl
theorem line_at (c : UInt8) (hc : 32 ≤ (c.toNat : Int) ∧ (c.toNat : Int) < 127) (a b : Bs) : lineB (a ++ c :: b) = (lineB a && lineB b) := by
  unfold lineB
  rw [valid_at c hc b _ a (Nat.le_refl _)]
  have hne : (10 == c) = false := by
    rw [beq_eq_false_iff_ne]; rintro rfl; simp at hc
  have e : (a ++ c :: b).contains 10 = (a.contains 10 || b.contains 10) := by
    rw [List.contains_append, List.contains_cons, hne]; simp
  rw [e]
  cases validB (bs a) <;> cases validB (bs b) <;> cases a.contains 10 <;> cases b.contains 10 <;> rfl
end Go.Proofs.YtafcngdnngpdnaaGreatDoor

/- Plain words on lines: clean texts, lines joined and parted again. No condition. -/
set_option linter.all false
namespace Go.Proofs.YtafcngdnngpdnaaGreatDoor
open Go.RowKit

theorem valid_feed (b : Bs) : ∀ (n : Nat) (a : Bs), a.length ≤ n → validB (bs (a ++ 10 :: b)) = (validB (bs a) && validB (bs b)) := by
  intro n
  induction n with
  | zero =>
    intro a ha
    obtain rfl : a = [] := List.length_eq_zero_iff.1 (by omega)
    rw [List.nil_append, valid_cons (10 :: b) (by simp), valid_nil]
    have e0 : byteAt (bs (10 :: b)) 0 = 10 := rfl
    have e : dec (bs (10 :: b)) 0 = (10, 1) := by unfold dec; rw [e0, if_pos (by omega)]
    rw [e]
    rfl
  | succ n ih =>
    intro a ha
    by_cases h0 : a = []
    · exact (show a.length ≤ n → _ from ih a) (by simp [h0])
    · have hl := List.length_pos_iff.2 h0
      have hb := dec_bounds (bs a) 0 (by simpa using hl)
      rw [valid_cons (a ++ 10 :: b) (by simp; omega), valid_cons a hl, dec_cut a (10 :: b) hl (.inr (by show (10 : Int) < 128; omega))]
      simp only [bs_size] at hb
      have e : (a ++ 10 :: b).drop (dec (bs a) 0).2.toNat = a.drop (dec (bs a) 0).2.toNat ++ 10 :: b := List.drop_append_of_le_length (by omega)
      rw [e, ih _ (by simp; omega), Bool.and_assoc]
theorem lines_line : ∀ (n : Nat) (s : Bs), s.length ≤ n → validB (bs s) = true → ∀ x ∈ splitC 10 s, lineB x = true := by
  intro n
  induction n with
  | zero =>
    intro s hs _ x hx
    obtain rfl : s = [] := List.length_eq_zero_iff.1 (by omega)
    rw [splitC_none 10 [] (by simp)] at hx
    simp at hx; subst hx; exact line_nil
  | succ n ih =>
    intro s hs hv x hx
    rcases index_one s 10 with ⟨_, h⟩ | ⟨i, _, hi, hni, he⟩
    · rw [splitC_none 10 s h] at hx
      simp at hx; subst hx
      unfold lineB; rw [hv]; simp [h]
    · rw [he, splitC_at 10 _ _ hni] at hx
      rw [he, valid_feed _ _ _ (Nat.le_refl _), Bool.and_eq_true] at hv
      rcases List.mem_cons.1 hx with rfl | hx
      · unfold lineB; rw [hv.1]; simpa using hni
      · exact ih _ (by simp; omega) hv.2 x hx
theorem lines_sub (s x : Bs) (h : x ∈ linesL s) : x ∈ splitC 10 s := by
  unfold linesL at h
  unfold splitC
  rcases List.mem_append.1 h with h | h
  · exact List.mem_append.2 (.inl h)
  · split at h
    · cases h
    · exact List.mem_append.2 (.inr h)
theorem lines_valid (s : Bs) (hv : validB (bs s) = true) (x : Bs) (h : x ∈ linesL s) : lineB x = true := lines_line _ s (Nat.le_refl _) hv x (lines_sub s x h)
theorem join_fold (xs : List Bs) : ∀ (j : List Bs), (∀ x ∈ xs, (10 : UInt8) ∉ x) → (joinLn xs).foldl (stepC 10) (j, []) = (j ++ xs, []) := by
  induction xs with
  | nil => intro j _; simp [joinLn]
  | cons x xs ih =>
    intro j h
    have e : joinLn (x :: xs) = x ++ 10 :: joinLn xs := by simp [joinLn]
    rw [e, List.foldl_append, fold_none 10 x j [] (h x (by simp)), List.foldl_cons, show stepC 10 (j, [] ++ x) 10 = (j ++ [x], []) from by simp [stepC], ih _ (fun y hy => h y (by simp [hy]))]
    simp
theorem lines_join (xs : List Bs) (h : ∀ x ∈ xs, (10 : UInt8) ∉ x) : linesL (joinLn xs) = xs := by
  unfold linesL runC
  rw [join_fold xs [] h]; simp
theorem join_valid (xs : List Bs) (h : ∀ x ∈ xs, lineB x = true) : validB (bs (joinLn xs)) = true := by
  induction xs with
  | nil => exact valid_nil
  | cons x xs ih =>
    have e : joinLn (x :: xs) = x ++ 10 :: joinLn xs := by simp [joinLn]
    rw [e, valid_feed _ _ _ (Nat.le_refl _), ih (fun y hy => h y (by simp [hy]))]
    have := h x (by simp)
    unfold lineB at this
    rw [Bool.and_eq_true] at this
    rw [this.1]; rfl
theorem line_no10 (x : Bs) (h : lineB x = true) : (10 : UInt8) ∉ x := by
  unfold lineB at h
  rw [Bool.and_eq_true] at h
  simpa using h.2
theorem line_vis (x : Bs) (h : lineB x = true) : validB (bs x) = true := by
  unfold lineB at h
  rw [Bool.and_eq_true] at h; exact h.1
/-- Visible ASCII bytes ahead of a text. -/
theorem line_pre (a x : Bs) (h : ∀ b ∈ a, 32 ≤ (b.toNat : Int) ∧ (b.toNat : Int) < 127) : lineB (a ++ x) = lineB x := by
  induction a with
  | nil => rfl
  | cons b a ih =>
    have := line_at b (h b (by simp)) [] (a ++ x)
    rw [List.nil_append, line_nil, Bool.true_and] at this
    rw [List.cons_append, this]
    exact ih (fun c hc => h c (by simp [hc]))
theorem line_asc (a : Bs) (h : ∀ b ∈ a, 32 ≤ (b.toNat : Int) ∧ (b.toNat : Int) < 127) : lineB a = true := by
  have := line_pre a [] h
  rw [List.append_nil, line_nil] at this; exact this
end Go.Proofs.YtafcngdnngpdnaaGreatDoor
