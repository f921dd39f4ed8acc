/- Plain words on lines: trimming, lines that are joined and parted, valid texts line by line. No condition. -/
import Derived.Test.YtgkgcheegaegnaaGreatDoorT30
import Derived.Test.YtgkgcheegaegnaaGreatDoorT14
import Derived.Test.YtgkgcheegaegnaaGreatDoorT32

set_option linter.all false
namespace Go.Proofs.YtgkgcheegaegnaaGreatDoor
open Go.RowKit

def noEnd (l : Bs) : Prop := l.head? ≠ some 32 ∧ l.getLast? ≠ some 32
theorem drop_ind (l : Bs) : l.drop (indentL l) = l.dropWhile (· == 32) := by
  induction l with
  | nil => rfl
  | cons b l ih =>
    unfold indentL at ih ⊢
    rw [List.takeWhile_cons, List.dropWhile_cons]
    split
    · simpa using ih
    · rfl
theorem dw_parts : ∀ l : Bs, ∃ n, l = spaces n ++ l.dropWhile (· == 32) ∧ (l.dropWhile (· == 32)).head? ≠ some 32
  | [] => ⟨0, by simp [spaces]⟩
  | b :: l => by
    obtain ⟨n, h1, h2⟩ := dw_parts l
    rw [List.dropWhile_cons]
    by_cases hb : b = 32
    · subst hb
      rw [if_pos (by decide)]
      refine ⟨n + 1, ?_, h2⟩
      conv => lhs; rw [h1]
      simp [spaces, List.replicate_succ]
    · rw [if_neg (by simpa using hb)]
      exact ⟨0, by simp [spaces], by simpa using hb⟩
theorem trim_parts (l : Bs) : ∃ n m, l = spaces n ++ trimL l ++ spaces m ∧ noEnd (trimL l) := by
  obtain ⟨n, h1, h2⟩ := dw_parts l
  unfold trimL
  rw [drop_ind]
  generalize l.dropWhile (· == 32) = t at *
  obtain ⟨m, h3, h4⟩ := dw_parts t.reverse
  have e : t = trimR t ++ spaces m := by
    have := congrArg List.reverse h3
    rw [List.reverse_reverse, List.reverse_append] at this
    have q : (spaces m).reverse = spaces m := by simp [spaces]
    rw [q] at this
    exact this
  refine ⟨n, m, ?_, ?_, ?_⟩
  · rw [List.append_assoc, ← e]; exact h1
  · intro q
    apply h2
    rw [e]
    cases hq : trimR t with
    | nil => rw [hq] at q; cases q
    | cons b r => rw [hq] at q; simpa using q
  · unfold trimR
    rw [List.getLast?_reverse]; exact h4
theorem trim_fix (l : Bs) (h : noEnd l) : trimL l = l := by
  unfold trimL
  rw [drop_ind]
  have e : l.dropWhile (· == 32) = l := by
    cases l with
    | nil => rfl
    | cons b l =>
      rw [List.dropWhile_cons, if_neg]
      have := h.1
      simpa using this
  rw [e]
  unfold trimR
  have e2 : l.reverse.dropWhile (· == 32) = l.reverse := by
    have h2 := h.2
    rw [← List.head?_reverse] at h2
    cases hr : l.reverse with
    | nil => rfl
    | cons b r =>
      rw [hr] at h2
      rw [List.dropWhile_cons, if_neg]
      simpa using h2
  rw [e2, List.reverse_reverse]
theorem trim_no (l : Bs) : noEnd (trimL l) := by obtain ⟨_, _, _, h⟩ := trim_parts l; exact h
theorem trim_idem (l : Bs) : trimL (trimL l) = trimL l := trim_fix _ (trim_no l)
theorem trim_mem (l : Bs) (b : UInt8) (h : b ∈ trimL l) : b ∈ l := by
  obtain ⟨n, m, e, _⟩ := trim_parts l
  rw [e]; simp [h]
theorem trim_line (l : Bs) : lineB (trimL l) = lineB l := by
  obtain ⟨n, m, e, _⟩ := trim_parts l
  conv => rhs; rw [e]
  rw [line_end, line_spaces]
theorem trim_sp (l : Bs) : trimL (32 :: l) = trimL l := by
  unfold trimL
  rw [drop_ind, drop_ind]; rfl
theorem trim_nil : trimL [] = [] := rfl
theorem trim_fix_sp (l : Bs) (h : noEnd l) : trimL (l ++ [32]) = l := by
  by_cases h0 : l = []
  · subst h0; rfl
  · unfold trimL
    rw [drop_ind]
    have e : (l ++ [32]).dropWhile (· == 32) = l ++ [32] := by
      cases l with
      | nil => exact absurd rfl h0
      | cons b l =>
        rw [List.cons_append, List.dropWhile_cons, if_neg]
        have := h.1
        simpa using this
    rw [e]
    unfold trimR
    rw [List.reverse_append]
    have e2 : ([32].reverse ++ l.reverse).dropWhile (· == (32 : UInt8)) = l.reverse := by
      show (32 :: l.reverse).dropWhile _ = _
      rw [List.dropWhile_cons, if_pos (by decide)]
      have h2 := h.2
      rw [← List.head?_reverse] at h2
      cases hr : l.reverse with
      | nil => rfl
      | cons b r =>
        rw [hr] at h2
        rw [List.dropWhile_cons, if_neg]
        simpa using h2
    rw [e2, List.reverse_reverse]
theorem cz_head (l : Bs) : (cz 0 l).head? ≠ some 32 := by
  induction l with
  | nil => simp [cz_nil]
  | cons b l ih =>
    by_cases hb : b = 32
    · subst hb; rw [cz_sp]; exact ih
    · rw [cz_ch _ _ _ hb]; simpa using hb
theorem cz_last (l : Bs) : ∀ k, (cz k l).getLast? ≠ some 32 := by
  induction l with
  | nil => intro k; simp [cz_nil]
  | cons b l ih =>
    intro k
    by_cases hb : b = 32
    · subst hb; rw [cz_sp]; exact ih _
    · rw [cz_ch _ _ _ hb, List.getLast?_append]
      cases hl : cz 1 l with
      | nil => simpa using hb
      | cons c r =>
        have := ih 1
        rw [hl] at this
        rw [List.getLast?_cons_cons]
        rw [List.getLast?_eq_some_getLast (by simp)] at this ⊢
        simpa using this
theorem clean_noEnd (x : Bs) (h : cleanL x = x) : noEnd x := by
  rw [clean_cz] at h
  rw [← h]
  exact ⟨cz_head x, cz_last x 0⟩
/-- A line feed parts a text. -/
theorem valid_feed (b : Bs) : ∀ (n : Nat) (a : Bs), a.length ≤ n → validB (bs (a ++ 10 :: b)) = (validB (bs a) && validB (bs b)) := by
  intro n
  induction n with
  | zero =>
    intro a ha
    obtain rfl : a = [] := List.length_eq_zero_iff.1 (by omega)
    rw [List.nil_append, valid_cons (10 :: b) (by simp), valid_nil]
    have e0 : byteAt (bs (10 :: b)) 0 = 10 := rfl
    have e : dec (bs (10 :: b)) 0 = (10, 1) := by unfold dec; rw [e0, if_pos (by omega)]
    rw [e]
    rfl
  | succ n ih =>
    intro a ha
    by_cases h0 : a = []
    · exact (show a.length ≤ n → _ from ih a) (by simp [h0])
    · have hl := List.length_pos_iff.2 h0
      have hb := dec_bounds (bs a) 0 (by simpa using hl)
      rw [valid_cons (a ++ 10 :: b) (by simp; omega), valid_cons a hl, dec_cut a (10 :: b) hl (.inr (by show (10 : Int) < 128; omega))]
      simp only [bs_size] at hb
      have e : (a ++ 10 :: b).drop (dec (bs a) 0).2.toNat = a.drop (dec (bs a) 0).2.toNat ++ 10 :: b := List.drop_append_of_le_length (by omega)
      rw [e, ih _ (by simp; omega), Bool.and_assoc]
theorem lines_line : ∀ (n : Nat) (s : Bs), s.length ≤ n → validB (bs s) = true → ∀ x ∈ splitC 10 s, lineB x = true := by
  intro n
  induction n with
  | zero =>
    intro s hs _ x hx
    obtain rfl : s = [] := List.length_eq_zero_iff.1 (by omega)
    rw [splitC_none 10 [] (by simp)] at hx
    simp at hx; subst hx; exact line_nil
  | succ n ih =>
    intro s hs hv x hx
    rcases index_one s 10 with ⟨_, h⟩ | ⟨i, _, hi, hni, he⟩
    · rw [splitC_none 10 s h] at hx
      simp at hx; subst hx
      unfold lineB; rw [hv]; simp [h]
    · rw [he, splitC_at 10 _ _ hni] at hx
      rw [he, valid_feed _ _ _ (Nat.le_refl _), Bool.and_eq_true] at hv
      rcases List.mem_cons.1 hx with rfl | hx
      · unfold lineB; rw [hv.1]; simpa using hni
      · exact ih _ (by simp; omega) hv.2 x hx
theorem lines_sub (s x : Bs) (h : x ∈ linesL s) : x ∈ splitC 10 s := by
  unfold linesL at h
  unfold splitC
  rcases List.mem_append.1 h with h | h
  · exact List.mem_append.2 (.inl h)
  · split at h
    · cases h
    · exact List.mem_append.2 (.inr h)
theorem lines_valid (s : Bs) (hv : validB (bs s) = true) (x : Bs) (h : x ∈ linesL s) : lineB x = true := lines_line _ s (Nat.le_refl _) hv x (lines_sub s x h)
theorem join_fold (xs : List Bs) : ∀ (j : List Bs), (∀ x ∈ xs, (10 : UInt8) ∉ x) → (joinLn xs).foldl (stepC 10) (j, []) = (j ++ xs, []) := by
  induction xs with
  | nil => intro j _; simp [joinLn]
  | cons x xs ih =>
    intro j h
    have e : joinLn (x :: xs) = x ++ 10 :: joinLn xs := by simp [joinLn]
    rw [e, List.foldl_append, fold_none 10 x j [] (h x (by simp)), List.foldl_cons, show stepC 10 (j, [] ++ x) 10 = (j ++ [x], []) from by simp [stepC], ih _ (fun y hy => h y (by simp [hy]))]
    simp
theorem lines_join (xs : List Bs) (h : ∀ x ∈ xs, (10 : UInt8) ∉ x) : linesL (joinLn xs) = xs := by
  unfold linesL runC
  rw [join_fold xs [] h]; simp
theorem join_valid (xs : List Bs) (h : ∀ x ∈ xs, lineB x = true) : validB (bs (joinLn xs)) = true := by
  induction xs with
  | nil => exact valid_nil
  | cons x xs ih =>
    have e : joinLn (x :: xs) = x ++ 10 :: joinLn xs := by simp [joinLn]
    rw [e, valid_feed _ _ _ (Nat.le_refl _), ih (fun y hy => h y (by simp [hy]))]
    have := h x (by simp)
    unfold lineB at this
    rw [Bool.and_eq_true] at this
    rw [this.1]; rfl
theorem line_no10 (x : Bs) (h : lineB x = true) : (10 : UInt8) ∉ x := by
  unfold lineB at h
  rw [Bool.and_eq_true] at h
  simpa using h.2
theorem line_vis (x : Bs) (h : lineB x = true) : validB (bs x) = true := by
  unfold lineB at h
  rw [Bool.and_eq_true] at h; exact h.1
/-- Visible ASCII bytes ahead of a text. -/
theorem line_pre (a x : Bs) (h : ∀ b ∈ a, 32 ≤ (b.toNat : Int) ∧ (b.toNat : Int) < 127) : lineB (a ++ x) = lineB x := by
  induction a with
  | nil => rfl
  | cons b a ih =>
    have := line_at b (h b (by simp)) [] (a ++ x)
    rw [List.nil_append, line_nil, Bool.true_and] at this
    rw [List.cons_append, this]
    exact ih (fun c hc => h c (by simp [hc]))
theorem line_asc (a : Bs) (h : ∀ b ∈ a, 32 ≤ (b.toNat : Int) ∧ (b.toNat : Int) < 127) : lineB a = true := by
  have := line_pre a [] h
  rw [List.append_nil, line_nil] at this; exact this
theorem nm_cases (b : UInt8) (h : nmB b = true) : 45 ≤ b.toNat ∧ b.toNat ≤ 122 ∧ b.toNat ≠ 61 ∧ b.toNat ≠ 64 := by
  unfold nmB letB digB at h
  simp only [Bool.or_eq_true, Bool.and_eq_true, decide_eq_true_eq, beq_iff_eq] at h
  rcases h with ((((h | h) | rfl) | rfl) | rfl) | rfl
  · omega
  · omega
  all_goals decide
theorem name_all (l : Bs) (h : nameB l = true) : ∀ b ∈ l, 45 ≤ b.toNat ∧ b.toNat ≤ 122 ∧ b.toNat ≠ 61 ∧ b.toNat ≠ 64 := by
  unfold nameB at h
  rw [Bool.and_eq_true] at h
  intro b hb
  exact nm_cases b (List.all_eq_true.1 h.2 b hb)
theorem name_ne (l : Bs) (h : nameB l = true) : l ≠ [] := by
  rintro rfl
  unfold nameB at h
  simp at h
theorem name_len (l : Bs) (h : nameB l = true) : l.length ≤ 60 := by
  unfold nameB at h
  rw [Bool.and_eq_true, Bool.and_eq_true] at h
  simpa using h.1.1
theorem name_vis (l : Bs) (h : nameB l = true) : ∀ b ∈ l, 32 ≤ (b.toNat : Int) ∧ (b.toNat : Int) < 127 := fun b hb => by have := name_all l h b hb; omega
theorem name_line (l : Bs) (h : nameB l = true) : lineB l = true := line_asc l (name_vis l h)
theorem name_not (l : Bs) (h : nameB l = true) (c : UInt8) (hc : c.toNat < 45 ∨ 122 < c.toNat ∨ c.toNat = 61 ∨ c.toNat = 64) : c ∉ l := fun q => by have := name_all l h c q; omega
theorem name_noEnd (l : Bs) (h : nameB l = true) : noEnd l := by
  have := name_not l h 32 (by decide)
  exact ⟨fun q => this (List.mem_of_mem_head? q), fun q => this (List.mem_of_mem_getLast? q)⟩
end Go.Proofs.YtgkgcheegaegnaaGreatDoor

/- Plain law: the text of a bibliography without errors is read as that bibliography. Condition: its length. -/
set_option linter.all false
namespace Go.Proofs.YtgkgcheegaegnaaGreatDoor
open Go.RowKit

theorem runB_cons (l : Bs) (ls : List Bs) (i : Nat) (st : ASt) : runB (l :: ls) i st = if trimL l = [] then runB ls (i + 1) st else if (lineS st (trimL l)).1 ≠ 0 then (some (i + 1, (lineS st (trimL l)).1), st) else runB ls (i + 1) (lineS st (trimL l)).2 := rfl
/-- Lines one behind the other. -/
theorem runB_app (a : List Bs) : ∀ (b : List Bs) (i : Nat) (st st' : ASt), runB a i st = (none, st') → runB (a ++ b) i st = runB b (i + a.length) st' := by
  induction a with
  | nil => intro b i st st' h; simp [runB] at h; subst h; rfl
  | cons l a ih =>
    intro b i st st' h
    rw [List.cons_append, runB_cons]
    rw [runB_cons] at h
    split at h
    · rename_i h1
      rw [if_pos h1, ih b _ _ _ h]
      rw [List.length_cons, show i + 1 + a.length = i + (a.length + 1) from by omega]
    · rename_i h1
      rw [if_neg h1]
      split at h
      · cases h
      · rename_i h2
        rw [if_neg h2, ih b _ _ _ h]
        rw [List.length_cons, show i + 1 + a.length = i + (a.length + 1) from by omega]
/-- A line that is read without error. -/
theorem runB_one (l : Bs) (i : Nat) (st st' : ASt) (h0 : l ≠ []) (h1 : noEnd l) (h2 : lineS st l = (0, st')) : runB [l] i st = (none, st') := by
  unfold runB
  rw [trim_fix l h1, if_neg h0, h2, if_neg (by simp)]
  rfl
theorem runB_two (a b : List Bs) (i : Nat) (st st' st'' : ASt) (h1 : runB a i st = (none, st')) (h2 : ∀ j, runB b j st' = (none, st'')) : runB (a ++ b) i st = (none, st'') := by
  rw [runB_app a b i st st' h1]; exact h2 _
theorem hasPrefix_one (c : UInt8) (l : Bs) : Lib.hasPrefix (c :: l) [c] = true := by simp [Lib.hasPrefix, List.isPrefixOf]
theorem head_parts (s : SrcT) (h1 : nameB s.type = true) (h2 : nameB s.key = true) : formB (headLine s) = true ∧ typeL (headLine s) = s.type ∧ keyL (headLine s) = s.key := by
  have e1 : headLine s = 64 :: (s.type ++ 123 :: s.key ++ [44]) := by simp [headLine]
  have ep : pfxS (headLine s) = s.type ++ 123 :: s.key ++ [44] := by
    rw [e1]; unfold pfxS Lib.trimPrefix; rw [hasPrefix_one]; simp
  have eb : pfxB (headLine s) = true := by rw [e1]; exact hasPrefix_one _ _
  have es : sfxB (pfxS (headLine s)) = true := by
    rw [ep]; unfold sfxB Lib.hasSuffix; simp
    exact ⟨s.type ++ 123 :: s.key, by simp⟩
  have ei : innerL (headLine s) = s.type ++ 123 :: s.key := by
    unfold innerL sfxS Lib.trimSuffix
    have := es
    unfold sfxB at this
    rw [this, if_pos rfl, ep]
    exact List.take_left' (by simp)
  have hb : before 123 (s.type ++ 123 :: s.key) = s.type.length := before_at 123 _ _ (name_not _ h1 123 (by decide))
  refine ⟨?_, ?_, ?_⟩
  · unfold formB
    rw [eb, es, ei, hb]; simp
  · unfold typeL; rw [ei, hb]; simp
  · unfold keyL; rw [ei, hb]; simp
theorem head_noEnd (s : SrcT) : noEnd (headLine s) := by
  have e1 : headLine s = 64 :: (s.type ++ 123 :: s.key ++ [44]) := by simp [headLine]
  have e2 : headLine s = (64 :: (s.type ++ 123 :: s.key)) ++ [44] := by simp [headLine]
  refine ⟨by rw [e1]; simp, by rw [e2, List.getLast?_append]; simp⟩
theorem run_head (s : SrcT) (h1 : nameB s.type = true) (h2 : nameB s.key = true) (done : List SrcT) (keys : List Bs) (hk : keys.contains s.key = false) (hd : done.length < 256) (i : Nat) :
    runB [headLine s] i ⟨done, keys, zeroS, false⟩ = (none, ⟨done, keys ++ [s.key], ⟨s.key, s.type, [], [], []⟩, true⟩) := by
  obtain ⟨hf, ht, hky⟩ := head_parts s h1 h2
  refine runB_one _ _ _ _ (by simp [headLine]) (head_noEnd s) ?_
  rw [lineS_beg _ _ rfl]
  · rw [ht, hky]
  · unfold beginE
    rw [hf, ht, hky, h1, h2, if_neg (by simp), if_neg (by simp), if_neg (by rw [hk]; simp), if_neg (by simpa using hd)]
theorem text_noEnd (p : P4) (h : textE p.1 p.2.1 p.2.2.1 p.2.2.2 = 0) : noEnd (textS p.1 p.2.1 p.2.2.1 p.2.2.2) ∧ lineB (textS p.1 p.2.1 p.2.2.1 p.2.2.2) = true ∧ textS p.1 p.2.1 p.2.2.1 p.2.2.2 ≠ [] := by
  unfold textE at h
  split at h
  · cases h
  rename_i hf
  split at h
  case isFalse => cases h
  rename_i hp
  simp only [Bool.and_eq_true] at hp
  obtain ⟨⟨⟨p1, p2⟩, p3⟩, p4⟩ := hp
  obtain ⟨l1, _, c1⟩ := part_parts _ p1
  obtain ⟨l2, _, c2⟩ := part_parts _ p2
  obtain ⟨l3, _, c3⟩ := part_parts _ p3
  obtain ⟨l4, _, c4⟩ := part_parts _ p4
  refine ⟨clean_noEnd _ (clean_text _ _ _ _ hf c1 c2 c3 c4), line_text _ _ _ _ l1 l2 l3 l4, ?_⟩
  unfold textS
  intro q
  have := congrArg List.length q
  simp only [List.length_append, List.length_nil] at this
  have hfl := List.length_pos_iff.2 hf
  split at this
  · omega
  · simp at this
theorem textR_ok (p : P4) (h : textE p.1 p.2.1 p.2.2.1 p.2.2.2 = 0) : textR p.1 p.2.1 p.2.2.1 p.2.2.2 = textS p.1 p.2.1 p.2.2.1 p.2.2.2 := by unfold textR; rw [if_pos h]
/-- A line made of a head, a sign and a value. -/
theorem noEnd_join (a x : Bs) (ha : a ≠ []) (h1 : a.head? ≠ some 32) (hx : x ≠ []) (h2 : x.getLast? ≠ some 32) : noEnd (a ++ x) := by
  refine ⟨?_, ?_⟩
  · cases a with
    | nil => exact absurd rfl ha
    | cons b a => simpa using h1
  · rw [List.getLast?_append, List.getLast?_eq_some_getLast hx]
    rw [List.getLast?_eq_some_getLast hx] at h2
    simpa using h2
/-- The division of a line at its sign. -/
theorem eq_parts (k v : Bs) (hk : (61 : UInt8) ∉ k) (hk2 : noEnd k) (hv : noEnd v) : before 61 (k ++ [32, 61, 32] ++ v) < (k ++ [32, 61, 32] ++ v).length ∧ trimL ((k ++ [32, 61, 32] ++ v).take (before 61 (k ++ [32, 61, 32] ++ v))) = k ∧ trimL ((k ++ [32, 61, 32] ++ v).drop (before 61 (k ++ [32, 61, 32] ++ v) + 1)) = v := by
  have e : k ++ [32, 61, 32] ++ v = (k ++ [32]) ++ 61 :: (32 :: v) := by simp
  have hb : before 61 (k ++ [32, 61, 32] ++ v) = (k ++ [32]).length := by
    rw [e]; exact before_at 61 _ _ (by simpa using hk)
  refine ⟨by rw [hb]; simp, ?_, ?_⟩
  · rw [hb, e, List.take_left]; exact trim_fix_sp k hk2
  · rw [hb, e, ← List.drop_drop, List.drop_left]
    simp only [List.drop_succ_cons, List.drop_zero]
    rw [trim_sp]; exact trim_fix v hv
theorem run_author (s : SrcT) (p : P4) (h : textE p.1 p.2.1 p.2.2.1 p.2.2.2 = 0) (hl : s.author.length < 32) (done : List SrcT) (keys : List Bs) (i : Nat) :
    runB [persLine hAuthor p] i ⟨done, keys, s, true⟩ = (none, ⟨done, keys, { s with author := s.author ++ [p] }, true⟩) := by
  obtain ⟨n1, n2, n3⟩ := text_noEnd p h
  have e : persLine hAuthor p = kAuthor ++ [32, 61, 32] ++ textS p.1 p.2.1 p.2.2.1 p.2.2.2 := by unfold persLine; rw [textR_ok p h]; rfl
  obtain ⟨e1, e2, e3⟩ := eq_parts kAuthor _ (by decide) (by unfold noEnd; decide) n1
  rw [e]
  refine runB_one _ _ _ _ (by simp [kAuthor]) (noEnd_join _ _ (by simp) (by simp [kAuthor]) n3 n1.2) ?_
  rw [lineS_add _ _ rfl (by simp [kAuthor])]
  unfold addS
  rw [if_pos e1, e2, e3, if_pos rfl, parse_text _ _ _ _ h, if_neg (by simp), if_neg (by show ¬ 32 ≤ s.author.length; omega)]
theorem run_editor (s : SrcT) (p : P4) (h : textE p.1 p.2.1 p.2.2.1 p.2.2.2 = 0) (hl : s.editor.length < 32) (done : List SrcT) (keys : List Bs) (i : Nat) :
    runB [persLine hEditor p] i ⟨done, keys, s, true⟩ = (none, ⟨done, keys, { s with editor := s.editor ++ [p] }, true⟩) := by
  obtain ⟨n1, n2, n3⟩ := text_noEnd p h
  have e : persLine hEditor p = kEditor ++ [32, 61, 32] ++ textS p.1 p.2.1 p.2.2.1 p.2.2.2 := by unfold persLine; rw [textR_ok p h]; rfl
  obtain ⟨e1, e2, e3⟩ := eq_parts kEditor _ (by decide) (by unfold noEnd; decide) n1
  rw [e]
  refine runB_one _ _ _ _ (by simp [kEditor]) (noEnd_join _ _ (by simp) (by simp [kEditor]) n3 n1.2) ?_
  rw [lineS_add _ _ rfl (by simp [kEditor])]
  unfold addS
  rw [if_pos e1, e2, e3, if_neg (by decide), if_pos rfl, parse_text _ _ _ _ h, if_neg (by simp), if_neg (by show ¬ 32 ≤ s.editor.length; omega)]
theorem trim_noEnd (v : Bs) (h : trimL v = v) : noEnd v := by rw [← h]; exact trim_no v
theorem run_field (s : SrcT) (f : Pr) (h : fldE1 s.fields f = 0) (hl : s.fields.length < 24) (done : List SrcT) (keys : List Bs) (i : Nat) :
    runB [fldLine f] i ⟨done, keys, s, true⟩ = (none, ⟨done, keys, { s with fields := s.fields ++ [f] }, true⟩) := by
  obtain ⟨h1, h2, h3, h4, h5, h6, h7⟩ := fldE1_parts _ _ h
  have n1 := trim_noEnd _ h6
  have n0 := name_noEnd _ h1
  obtain ⟨e1, e2, e3⟩ := eq_parts f.1 f.2 (name_not _ h1 61 (by decide)) n0 n1
  have hn := name_ne _ h1
  have hhead : (f.1 ++ [32, 61, 32]).head? ≠ some 32 := by
    cases hf : f.1 with
    | nil => exact absurd hf hn
    | cons b r => have := n0.1; rw [hf] at this; simpa using this
  unfold fldLine
  refine runB_one _ _ _ _ (by simp [hn]) (noEnd_join _ _ (by simp) hhead h4 n1.2) ?_
  rw [lineS_add _ _ rfl (by
    intro q
    have := congrArg List.length q
    have hp := List.length_pos_iff.2 hn
    simp at this; omega)]
  unfold addS
  rw [if_pos e1, e2, e3, if_neg h2, if_neg h3, h1, if_neg (by simp), if_neg h4, h7, if_neg (by simp), if_neg (by show ¬ 24 ≤ s.fields.length; omega)]
theorem run_authors (done : List SrcT) (keys : List Bs) (k t : Bs) (ed : List P4) (fs : List Pr) : ∀ (ps qs : List P4), (∀ p ∈ ps, textE p.1 p.2.1 p.2.2.1 p.2.2.2 = 0) → qs.length + ps.length ≤ 32 → ∀ i,
    runB (ps.map (persLine hAuthor)) i ⟨done, keys, ⟨k, t, qs, ed, fs⟩, true⟩ = (none, ⟨done, keys, ⟨k, t, qs ++ ps, ed, fs⟩, true⟩) := by
  intro ps
  induction ps with
  | nil => intro qs _ _ i; simp [runB]
  | cons p ps ih =>
    intro qs h hl i
    rw [List.length_cons] at hl
    have h1 := run_author ⟨k, t, qs, ed, fs⟩ p (h p (by simp)) (by show qs.length < 32; omega) done keys i
    have h2 := ih (qs ++ [p]) (fun q hq => h q (by simp [hq])) (by simp; omega)
    have := runB_two [persLine hAuthor p] (ps.map (persLine hAuthor)) i _ _ _ h1 h2
    simpa using this
theorem run_editors (done : List SrcT) (keys : List Bs) (k t : Bs) (au : List P4) (fs : List Pr) : ∀ (ps qs : List P4), (∀ p ∈ ps, textE p.1 p.2.1 p.2.2.1 p.2.2.2 = 0) → qs.length + ps.length ≤ 32 → ∀ i,
    runB (ps.map (persLine hEditor)) i ⟨done, keys, ⟨k, t, au, qs, fs⟩, true⟩ = (none, ⟨done, keys, ⟨k, t, au, qs ++ ps, fs⟩, true⟩) := by
  intro ps
  induction ps with
  | nil => intro qs _ _ i; simp [runB]
  | cons p ps ih =>
    intro qs h hl i
    rw [List.length_cons] at hl
    have h1 := run_editor ⟨k, t, au, qs, fs⟩ p (h p (by simp)) (by show qs.length < 32; omega) done keys i
    have h2 := ih (qs ++ [p]) (fun q hq => h q (by simp [hq])) (by simp; omega)
    have := runB_two [persLine hEditor p] (ps.map (persLine hEditor)) i _ _ _ h1 h2
    simpa using this
theorem run_fields (done : List SrcT) (keys : List Bs) (k t : Bs) (au ed : List P4) : ∀ (fs ds : List Pr), fldE ds fs = 0 → ds.length + fs.length ≤ 24 → ∀ i,
    runB (fs.map fldLine) i ⟨done, keys, ⟨k, t, au, ed, ds⟩, true⟩ = (none, ⟨done, keys, ⟨k, t, au, ed, ds ++ fs⟩, true⟩) := by
  intro fs
  induction fs with
  | nil => intro ds _ _ i; simp [runB]
  | cons f fs ih =>
    intro ds h hl i
    rw [List.length_cons] at hl
    unfold fldE at h
    split at h
    · rename_i hq; exact absurd h hq
    rename_i hq
    have h1 := run_field ⟨k, t, au, ed, ds⟩ f (by simpa using hq) (by show ds.length < 24; omega) done keys i
    have h2 := ih (ds ++ [f]) h (by simp; omega)
    have := runB_two [fldLine f] (fs.map fldLine) i _ _ _ h1 h2
    simpa using this
theorem run_src (s : SrcT) (h1 : nameB s.type = true) (h2 : nameB s.key = true) (hE : srcE s = 0) (done : List SrcT) (keys : List Bs) (hk : keys.contains s.key = false) (hd : done.length < 256) (i : Nat) :
    runB (srcLines s) i ⟨done, keys, zeroS, false⟩ = (none, ⟨done ++ [s], keys ++ [s.key], zeroS, false⟩) := by
  obtain ⟨l1, l2, l3, pA, pE, pF, hT⟩ := srcE_parts s hE
  unfold srcLines
  refine runB_two _ _ _ _ ⟨done, keys ++ [s.key], s, true⟩ _ ?_ ?_
  · refine runB_two _ _ _ _ ⟨done, keys ++ [s.key], ⟨s.key, s.type, s.author, s.editor, []⟩, true⟩ _ ?_ ?_
    · refine runB_two _ _ _ _ ⟨done, keys ++ [s.key], ⟨s.key, s.type, s.author, [], []⟩, true⟩ _ ?_ ?_
      · refine runB_two _ _ _ _ ⟨done, keys ++ [s.key], ⟨s.key, s.type, [], [], []⟩, true⟩ _ (run_head s h1 h2 done keys hk hd i) ?_
        have := run_authors done (keys ++ [s.key]) s.key s.type [] [] s.author [] (persE_all _ pA) (by simpa using l1)
        simpa using this
      · have := run_editors done (keys ++ [s.key]) s.key s.type s.author [] s.editor [] (persE_all _ pE) (by simpa using l2)
        simpa using this
    · have := run_fields done (keys ++ [s.key]) s.key s.type s.author s.editor s.fields [] pF (by simpa using l3)
      simpa using this
  · intro j
    refine runB_one _ _ _ _ (by simp) (by unfold noEnd; decide) ?_
    rw [lineS_done _ rfl hT]
theorem run_out (ss : List SrcT) (h : checkE ss = 0) : ∀ k, k ≤ ss.length → runB (outL (ss.take k)) 0 st0 = (none, ⟨ss.take k, (ss.take k).map (·.key), zeroS, false⟩) := by
  have hlen : ss.length ≤ 256 := by
    unfold checkE at h
    split at h
    · cases h
    · omega
  have hc : chkE [] ss = 0 := by
    unfold checkE at h
    split at h
    · cases h
    · exact h
  intro k
  induction k with
  | zero => intro _; simp [outL, runB, st0]
  | succ k ih =>
    intro hk
    obtain ⟨s, hs⟩ : ∃ x, ss[k]? = some x := ⟨_, List.getElem?_eq_getElem (by omega)⟩
    obtain ⟨n1, n2, n3, n4⟩ := chkE_all ss [] hc k s hs
    have hi := ih (by omega)
    rw [outL_snoc ss k s hs]
    have et : ss.take (k + 1) = ss.take k ++ [s] := by
      obtain ⟨hk', rfl⟩ := List.getElem?_eq_some_iff.1 hs
      exact List.take_succ_eq_append_getElem hk'
    rw [et]
    refine runB_two _ _ _ _ ⟨ss.take k, (ss.take k).map (·.key), zeroS, false⟩ _ ?_ ?_
    · refine runB_two _ _ _ _ _ _ hi ?_
      intro j
      split
      · rfl
      · unfold runB
        rw [trim_nil, if_pos rfl]; rfl
    · intro j
      have := run_src s n1 n2 n4 (ss.take k) ((ss.take k).map (·.key)) (by simpa using n3) (by simp; omega) j
      simpa using this
theorem srcLines_line (s : SrcT) (h1 : nameB s.type = true) (h2 : nameB s.key = true) (hE : srcE s = 0) : ∀ x ∈ srcLines s, lineB x = true := by
  obtain ⟨l1, l2, l3, pA, pE, pF, hT⟩ := srcE_parts s hE
  have vA := persE_all _ pA
  have vE := persE_all _ pE
  have vF := fldE_all _ _ pF
  intro x hx
  unfold srcLines at hx
  simp only [List.mem_append, List.mem_singleton, List.mem_map] at hx
  rcases hx with (((rfl | ⟨p, hp, rfl⟩) | ⟨p, hp, rfl⟩) | ⟨f, hf, rfl⟩) | rfl
  · refine line_asc _ ?_
    intro b hb
    unfold headLine at hb
    simp only [List.mem_append, List.mem_singleton] at hb
    rcases hb with (((rfl | hb) | rfl) | hb) | rfl
    · decide
    · exact name_vis _ h1 b hb
    · decide
    · exact name_vis _ h2 b hb
    · decide
  · unfold persLine
    rw [textR_ok p (vA p hp), line_pre _ _ (by unfold hAuthor; intro b hb; simp at hb; rcases hb with rfl | rfl | rfl | rfl | rfl | rfl | rfl | rfl | rfl <;> decide)]
    exact (text_noEnd p (vA p hp)).2.1
  · unfold persLine
    rw [textR_ok p (vE p hp), line_pre _ _ (by unfold hEditor; intro b hb; simp at hb; rcases hb with rfl | rfl | rfl | rfl | rfl | rfl | rfl | rfl | rfl <;> decide)]
    exact (text_noEnd p (vE p hp)).2.1
  · obtain ⟨k, hk⟩ := List.getElem?_of_mem hf
    obtain ⟨q1, _, _, _, q5, _⟩ := fldE1_parts _ _ (vF k f hk)
    unfold fldLine
    rw [line_pre]
    · exact q5
    · intro b hb
      rcases List.mem_append.1 hb with hb | hb
      · exact name_vis _ q1 b hb
      · simp at hb
        rcases hb with rfl | rfl | rfl <;> decide
  · exact line_asc _ (by intro b hb; simp at hb; subst hb; decide)
theorem outL_line (ss : List SrcT) (h : checkE ss = 0) : ∀ x ∈ outL ss, lineB x = true := by
  have hc : chkE [] ss = 0 := by
    unfold checkE at h
    split at h
    · cases h
    · exact h
  intro x hx
  unfold outL at hx
  rw [List.mem_flatten] at hx
  obtain ⟨l, hl, hx⟩ := hx
  rw [List.mem_mapIdx] at hl
  obtain ⟨i, hi, rfl⟩ := hl
  obtain ⟨n1, n2, n3, n4⟩ := chkE_all ss [] hc i ss[i] (List.getElem?_eq_getElem hi)
  rcases List.mem_append.1 hx with hx | hx
  · split at hx
    · cases hx
    · simp at hx; subst hx; exact line_nil
  · exact srcLines_line _ n1 n2 n4 x hx
/-- What is written is read back. -/
theorem bib_back (ss : List SrcT) (h : checkE ss = 0) (hl : (textL ss).length ≤ 262144) : bibR (textL ss) = (ss, 0, 0) := by
  have hline := outL_line ss h
  have hr := run_out ss h ss.length (Nat.le_refl _)
  rw [List.take_of_length_le (Nat.le_refl _)] at hr
  have et : textL ss = joinLn (outL ss) := by unfold textL; rw [if_pos h]
  unfold bibR
  rw [if_neg (by omega), et, join_valid _ hline, if_neg (by simp), lines_join _ (fun x hx => line_no10 x (hline x hx)), hr]
  rfl
end Go.Proofs.YtgkgcheegaegnaaGreatDoor
