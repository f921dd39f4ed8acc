/- Plain words on lines: trimming, lines that are joined and parted, valid texts line by line. No condition. -/
import Derived.Test.YtgkgcheegaegnaaDoorT27
import Derived.Test.YtgkgcheegaegnaaDoorT14
import Derived.Test.YtgkgcheegaegnaaDoorT28
import Derived.Test.YtgkgcheegaegnaaDoorT25

set_option linter.all false
namespace Go.Proofs.YtgkgcheegaegnaaDoor
open Go.RowKit

def noEnd (l : Bs) : Prop := l.head? ≠ some 32 ∧ l.getLast? ≠ some 32
theorem drop_ind (l : Bs) : l.drop (indentL l) = l.dropWhile (· == 32) := by
  induction l with
  | nil => rfl
  | cons b l ih =>
    unfold indentL at ih ⊢
    rw [List.takeWhile_cons, List.dropWhile_cons]
    split
    · simpa using ih
    · rfl
theorem dw_parts : ∀ l : Bs, ∃ n, l = spaces n ++ l.dropWhile (· == 32) ∧ (l.dropWhile (· == 32)).head? ≠ some 32
  | [] => ⟨0, by simp [spaces]⟩
  | b :: l => by
    obtain ⟨n, h1, h2⟩ := dw_parts l
    rw [List.dropWhile_cons]
    by_cases hb : b = 32
    · subst hb
      rw [if_pos (by decide)]
      refine ⟨n + 1, ?_, h2⟩
      conv => lhs; rw [h1]
      simp [spaces, List.replicate_succ]
    · rw [if_neg (by simpa using hb)]
      exact ⟨0, by simp [spaces], by simpa using hb⟩
theorem trim_parts (l : Bs) : ∃ n m, l = spaces n ++ trimL l ++ spaces m ∧ noEnd (trimL l) := by
  obtain ⟨n, h1, h2⟩ := dw_parts l
  unfold trimL
  rw [drop_ind]
  generalize l.dropWhile (· == 32) = t at *
  obtain ⟨m, h3, h4⟩ := dw_parts t.reverse
  have e : t = trimR t ++ spaces m := by
    have := congrArg List.reverse h3
    rw [List.reverse_reverse, List.reverse_append] at this
    have q : (spaces m).reverse = spaces m := by simp [spaces]
    rw [q] at this
    exact this
  refine ⟨n, m, ?_, ?_, ?_⟩
  · rw [List.append_assoc, ← e]; exact h1
  · intro q
    apply h2
    rw [e]
    cases hq : trimR t with
    | nil => rw [hq] at q; cases q
    | cons b r => rw [hq] at q; simpa using q
  · unfold trimR
    rw [List.getLast?_reverse]; exact h4
theorem trim_fix (l : Bs) (h : noEnd l) : trimL l = l := by
  unfold trimL
  rw [drop_ind]
  have e : l.dropWhile (· == 32) = l := by
    cases l with
    | nil => rfl
    | cons b l =>
      rw [List.dropWhile_cons, if_neg]
      have := h.1
      simpa using this
  rw [e]
  unfold trimR
  have e2 : l.reverse.dropWhile (· == 32) = l.reverse := by
    have h2 := h.2
    rw [← List.head?_reverse] at h2
    cases hr : l.reverse with
    | nil => rfl
    | cons b r =>
      rw [hr] at h2
      rw [List.dropWhile_cons, if_neg]
      simpa using h2
  rw [e2, List.reverse_reverse]
theorem trim_no (l : Bs) : noEnd (trimL l) := by obtain ⟨_, _, _, h⟩ := trim_parts l; exact h
theorem trim_idem (l : Bs) : trimL (trimL l) = trimL l := trim_fix _ (trim_no l)
theorem trim_mem (l : Bs) (b : UInt8) (h : b ∈ trimL l) : b ∈ l := by
  obtain ⟨n, m, e, _⟩ := trim_parts l
  rw [e]; simp [h]
theorem trim_line (l : Bs) : lineB (trimL l) = lineB l := by
  obtain ⟨n, m, e, _⟩ := trim_parts l
  conv => rhs; rw [e]
  rw [line_end, line_spaces]
theorem trim_sp (l : Bs) : trimL (32 :: l) = trimL l := by
  unfold trimL
  rw [drop_ind, drop_ind]; rfl
theorem trim_nil : trimL [] = [] := rfl
theorem trim_fix_sp (l : Bs) (h : noEnd l) : trimL (l ++ [32]) = l := by
  by_cases h0 : l = []
  · subst h0; rfl
  · unfold trimL
    rw [drop_ind]
    have e : (l ++ [32]).dropWhile (· == 32) = l ++ [32] := by
      cases l with
      | nil => exact absurd rfl h0
      | cons b l =>
        rw [List.cons_append, List.dropWhile_cons, if_neg]
        have := h.1
        simpa using this
    rw [e]
    unfold trimR
    rw [List.reverse_append]
    have e2 : ([32].reverse ++ l.reverse).dropWhile (· == (32 : UInt8)) = l.reverse := by
      show (32 :: l.reverse).dropWhile _ = _
      rw [List.dropWhile_cons, if_pos (by decide)]
      have h2 := h.2
      rw [← List.head?_reverse] at h2
      cases hr : l.reverse with
      | nil => rfl
      | cons b r =>
        rw [hr] at h2
        rw [List.dropWhile_cons, if_neg]
        simpa using h2
    rw [e2, List.reverse_reverse]
theorem cz_head (l : Bs) : (cz 0 l).head? ≠ some 32 := by
  induction l with
  | nil => simp [cz_nil]
  | cons b l ih =>
    by_cases hb : b = 32
    · subst hb; rw [cz_sp]; exact ih
    · rw [cz_ch _ _ _ hb]; simpa using hb
theorem cz_last (l : Bs) : ∀ k, (cz k l).getLast? ≠ some 32 := by
  induction l with
  | nil => intro k; simp [cz_nil]
  | cons b l ih =>
    intro k
    by_cases hb : b = 32
    · subst hb; rw [cz_sp]; exact ih _
    · rw [cz_ch _ _ _ hb, List.getLast?_append]
      cases hl : cz 1 l with
      | nil => simpa using hb
      | cons c r =>
        have := ih 1
        rw [hl] at this
        rw [List.getLast?_cons_cons]
        rw [List.getLast?_eq_some_getLast (by simp)] at this ⊢
        simpa using this
theorem clean_noEnd (x : Bs) (h : cleanL x = x) : noEnd x := by
  rw [clean_cz] at h
  rw [← h]
  exact ⟨cz_head x, cz_last x 0⟩
/-- A line feed parts a text. -/
theorem valid_feed (b : Bs) : ∀ (n : Nat) (a : Bs), a.length ≤ n → validB (bs (a ++ 10 :: b)) = (validB (bs a) && validB (bs b)) := by
  intro n
  induction n with
  | zero =>
    intro a ha
    obtain rfl : a = [] := List.length_eq_zero_iff.1 (by omega)
    rw [List.nil_append, valid_cons (10 :: b) (by simp), valid_nil]
    have e0 : byteAt (bs (10 :: b)) 0 = 10 := rfl
    have e : dec (bs (10 :: b)) 0 = (10, 1) := by unfold dec; rw [e0, if_pos (by omega)]
    rw [e]
    rfl
  | succ n ih =>
    intro a ha
    by_cases h0 : a = []
    · exact (show a.length ≤ n → _ from ih a) (by simp [h0])
    · have hl := List.length_pos_iff.2 h0
      have hb := dec_bounds (bs a) 0 (by simpa using hl)
      rw [valid_cons (a ++ 10 :: b) (by simp; omega), valid_cons a hl, dec_cut a (10 :: b) hl (.inr (by show (10 : Int) < 128; omega))]
      simp only [bs_size] at hb
      have e : (a ++ 10 :: b).drop (dec (bs a) 0).2.toNat = a.drop (dec (bs a) 0).2.toNat ++ 10 :: b := List.drop_append_of_le_length (by omega)
      rw [e, ih _ (by simp; omega), Bool.and_assoc]
theorem lines_line : ∀ (n : Nat) (s : Bs), s.length ≤ n → validB (bs s) = true → ∀ x ∈ splitC 10 s, lineB x = true := by
  intro n
  induction n with
  | zero =>
    intro s hs _ x hx
    obtain rfl : s = [] := List.length_eq_zero_iff.1 (by omega)
    rw [splitC_none 10 [] (by simp)] at hx
    simp at hx; subst hx; exact line_nil
  | succ n ih =>
    intro s hs hv x hx
    rcases index_one s 10 with ⟨_, h⟩ | ⟨i, _, hi, hni, he⟩
    · rw [splitC_none 10 s h] at hx
      simp at hx; subst hx
      unfold lineB; rw [hv]; simp [h]
    · rw [he, splitC_at 10 _ _ hni] at hx
      rw [he, valid_feed _ _ _ (Nat.le_refl _), Bool.and_eq_true] at hv
      rcases List.mem_cons.1 hx with rfl | hx
      · unfold lineB; rw [hv.1]; simpa using hni
      · exact ih _ (by simp; omega) hv.2 x hx
theorem lines_sub (s x : Bs) (h : x ∈ linesL s) : x ∈ splitC 10 s := by
  unfold linesL at h
  unfold splitC
  rcases List.mem_append.1 h with h | h
  · exact List.mem_append.2 (.inl h)
  · split at h
    · cases h
    · exact List.mem_append.2 (.inr h)
theorem lines_valid (s : Bs) (hv : validB (bs s) = true) (x : Bs) (h : x ∈ linesL s) : lineB x = true := lines_line _ s (Nat.le_refl _) hv x (lines_sub s x h)
theorem join_fold (xs : List Bs) : ∀ (j : List Bs), (∀ x ∈ xs, (10 : UInt8) ∉ x) → (joinLn xs).foldl (stepC 10) (j, []) = (j ++ xs, []) := by
  induction xs with
  | nil => intro j _; simp [joinLn]
  | cons x xs ih =>
    intro j h
    have e : joinLn (x :: xs) = x ++ 10 :: joinLn xs := by simp [joinLn]
    rw [e, List.foldl_append, fold_none 10 x j [] (h x (by simp)), List.foldl_cons, show stepC 10 (j, [] ++ x) 10 = (j ++ [x], []) from by simp [stepC], ih _ (fun y hy => h y (by simp [hy]))]
    simp
theorem lines_join (xs : List Bs) (h : ∀ x ∈ xs, (10 : UInt8) ∉ x) : linesL (joinLn xs) = xs := by
  unfold linesL runC
  rw [join_fold xs [] h]; simp
theorem join_valid (xs : List Bs) (h : ∀ x ∈ xs, lineB x = true) : validB (bs (joinLn xs)) = true := by
  induction xs with
  | nil => exact valid_nil
  | cons x xs ih =>
    have e : joinLn (x :: xs) = x ++ 10 :: joinLn xs := by simp [joinLn]
    rw [e, valid_feed _ _ _ (Nat.le_refl _), ih (fun y hy => h y (by simp [hy]))]
    have := h x (by simp)
    unfold lineB at this
    rw [Bool.and_eq_true] at this
    rw [this.1]; rfl
theorem line_no10 (x : Bs) (h : lineB x = true) : (10 : UInt8) ∉ x := by
  unfold lineB at h
  rw [Bool.and_eq_true] at h
  simpa using h.2
theorem line_vis (x : Bs) (h : lineB x = true) : validB (bs x) = true := by
  unfold lineB at h
  rw [Bool.and_eq_true] at h; exact h.1
/-- Visible ASCII bytes ahead of a text. -/
theorem line_pre (a x : Bs) (h : ∀ b ∈ a, 32 ≤ (b.toNat : Int) ∧ (b.toNat : Int) < 127) : lineB (a ++ x) = lineB x := by
  induction a with
  | nil => rfl
  | cons b a ih =>
    have := line_at b (h b (by simp)) [] (a ++ x)
    rw [List.nil_append, line_nil, Bool.true_and] at this
    rw [List.cons_append, this]
    exact ih (fun c hc => h c (by simp [hc]))
theorem line_asc (a : Bs) (h : ∀ b ∈ a, 32 ≤ (b.toNat : Int) ∧ (b.toNat : Int) < 127) : lineB a = true := by
  have := line_pre a [] h
  rw [List.append_nil, line_nil] at this; exact this
theorem nm_cases (b : UInt8) (h : nmB b = true) : 45 ≤ b.toNat ∧ b.toNat ≤ 122 ∧ b.toNat ≠ 61 ∧ b.toNat ≠ 64 := by
  unfold nmB letB digB at h
  simp only [Bool.or_eq_true, Bool.and_eq_true, decide_eq_true_eq, beq_iff_eq] at h
  rcases h with ((((h | h) | rfl) | rfl) | rfl) | rfl
  · omega
  · omega
  all_goals decide
theorem name_all (l : Bs) (h : nameB l = true) : ∀ b ∈ l, 45 ≤ b.toNat ∧ b.toNat ≤ 122 ∧ b.toNat ≠ 61 ∧ b.toNat ≠ 64 := by
  unfold nameB at h
  rw [Bool.and_eq_true] at h
  intro b hb
  exact nm_cases b (List.all_eq_true.1 h.2 b hb)
theorem name_ne (l : Bs) (h : nameB l = true) : l ≠ [] := by
  rintro rfl
  unfold nameB at h
  simp at h
theorem name_len (l : Bs) (h : nameB l = true) : l.length ≤ 60 := by
  unfold nameB at h
  rw [Bool.and_eq_true, Bool.and_eq_true] at h
  simpa using h.1.1
theorem name_vis (l : Bs) (h : nameB l = true) : ∀ b ∈ l, 32 ≤ (b.toNat : Int) ∧ (b.toNat : Int) < 127 := fun b hb => by have := name_all l h b hb; omega
theorem name_line (l : Bs) (h : nameB l = true) : lineB l = true := line_asc l (name_vis l h)
theorem name_not (l : Bs) (h : nameB l = true) (c : UInt8) (hc : c.toNat < 45 ∨ 122 < c.toNat ∨ c.toNat = 61 ∨ c.toNat = 64) : c ∉ l := fun q => by have := name_all l h c q; omega
theorem name_noEnd (l : Bs) (h : nameB l = true) : noEnd l := by
  have := name_not l h 32 (by decide)
  exact ⟨fun q => this (List.mem_of_mem_head? q), fun q => this (List.mem_of_mem_getLast? q)⟩
end Go.Proofs.YtgkgcheegaegnaaDoor

/- Plain words on a bibliography without errors. No condition. -/
set_option linter.all false
namespace Go.Proofs.YtgkgcheegaegnaaDoor
open Go.RowKit

theorem persE_all (ps : List P4) (h : persE ps = 0) : ∀ p ∈ ps, textE p.1 p.2.1 p.2.2.1 p.2.2.2 = 0 := by
  induction ps with
  | nil => intro p hp; cases hp
  | cons q ps ih =>
    unfold persE at h
    split at h
    · rename_i hq; exact absurd h hq
    · rename_i hq
      intro p hp
      rcases List.mem_cons.1 hp with rfl | hp
      · simpa using hq
      · exact ih h p hp
theorem fldE_all (fs : List Pr) : ∀ ds, fldE ds fs = 0 → ∀ k f, fs[k]? = some f → fldE1 (ds ++ fs.take k) f = 0 := by
  induction fs with
  | nil => intro ds _ k f hf; cases hf
  | cons g fs ih =>
    intro ds h k f hf
    unfold fldE at h
    split at h
    · rename_i hq; exact absurd h hq
    · rename_i hq
      cases k with
      | zero => cases hf; simpa using hq
      | succ k =>
        have := ih _ h k f (by simpa using hf)
        simpa using this
theorem fldE1_parts (ds : List Pr) (f : Pr) (h : fldE1 ds f = 0) : nameB f.1 = true ∧ f.1 ≠ kAuthor ∧ f.1 ≠ kEditor ∧ f.2 ≠ [] ∧ lineB f.2 = true ∧ trimL f.2 = f.2 ∧ hasB ds f.1 = false := by
  unfold fldE1 at h
  split at h
  · cases h
  rename_i h1
  split at h
  · cases h
  rename_i h2
  split at h
  · cases h
  rename_i h3
  refine ⟨?_, fun q => h1 (.inl (.inr q)), fun q => h1 (.inr q), fun q => h2 (.inl (.inl (.inl q))), ?_, ?_, by simpa using h3⟩
  · cases hn : nameB f.1
    · exact absurd (.inl (.inl hn)) h1
    · rfl
  · unfold lineB
    cases hv : validB (bs f.2)
    · exact absurd (.inl (.inl (.inr hv))) h2
    · cases hc : f.2.contains 10
      · rfl
      · exact absurd (.inl (.inr hc)) h2
  · exact Classical.byContradiction fun q => h2 (.inr q)
theorem chkE_all (ss : List SrcT) : ∀ ks, chkE ks ss = 0 → ∀ k s, ss[k]? = some s → nameB s.type = true ∧ nameB s.key = true ∧ (ks ++ (ss.take k).map (·.key)).contains s.key = false ∧ srcE s = 0 := by
  induction ss with
  | nil => intro ks _ k s hs; cases hs
  | cons t ss ih =>
    intro ks h k s hs
    unfold chkE at h
    split at h
    · cases h
    rename_i h1
    split at h
    · cases h
    rename_i h2
    split at h
    · rename_i h3; exact absurd h h3
    rename_i h3
    cases k with
    | zero =>
      cases hs
      refine ⟨?_, ?_, by simpa using h2, by simpa using h3⟩
      · cases hn : nameB t.type
        · exact absurd (.inl hn) h1
        · rfl
      · cases hn : nameB t.key
        · exact absurd (.inr hn) h1
        · rfl
    | succ k =>
      have := ih _ h k s (by simpa using hs)
      simpa using this
theorem srcE_parts (s : SrcT) (h : srcE s = 0) : s.author.length ≤ 32 ∧ s.editor.length ≤ 32 ∧ s.fields.length ≤ 24 ∧ persE s.author = 0 ∧ persE s.editor = 0 ∧ fldE [] s.fields = 0 ∧ hasB s.fields kTitle = true := by
  unfold srcE at h
  split at h
  · cases h
  rename_i h1
  split at h
  · rename_i h2; exact absurd h h2
  rename_i h2
  split at h
  · rename_i h3; exact absurd h h3
  rename_i h3
  split at h
  · rename_i h4; exact absurd h h4
  rename_i h4
  split at h
  · rename_i h5
    exact ⟨by omega, by omega, by omega, by simpa using h2, by simpa using h3, by simpa using h4, h5⟩
  · cases h
end Go.Proofs.YtgkgcheegaegnaaDoor
