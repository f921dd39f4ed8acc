/- Plain law: the text of a bibliography without errors is read as that bibliography. Condition: its length. -/
import Derived.Test.YteflhlbgbgamnaaGreatDoorT36
import Derived.Test.YteflhlbgbgamnaaGreatDoorT37
import Derived.Test.YteflhlbgbgamnaaGreatDoorT35
import Derived.Laws.Cover4

set_option linter.all false
namespace Go.Proofs.YteflhlbgbgamnaaGreatDoor
open Go.RowKit

theorem runB_cons (l : Bs) (ls : List Bs) (i : Nat) (st : ASt) : runB (l :: ls) i st = if trimL l = [] then runB ls (i + 1) st else if (lineS st (trimL l)).1 ≠ 0 then (some (i + 1, (lineS st (trimL l)).1), st) else runB ls (i + 1) (lineS st (trimL l)).2 := rfl
/-- Lines one behind the other. -/
theorem runB_app (a : List Bs) : ∀ (b : List Bs) (i : Nat) (st st' : ASt), runB a i st = (none, st') → runB (a ++ b) i st = runB b (i + a.length) st' := by
  induction a with
  | nil => intro b i st st' h; simp [runB] at h; subst h; rfl
  | cons l a ih =>
    intro b i st st' h
    rw [List.cons_append, runB_cons]
    rw [runB_cons] at h
    split at h
    · rename_i h1
      rw [if_pos h1, ih b _ _ _ h]
      rw [List.length_cons, show i + 1 + a.length = i + (a.length + 1) from by omega]
    · rename_i h1
      rw [if_neg h1]
      split at h
      · cases h
      · rename_i h2
        rw [if_neg h2, ih b _ _ _ h]
        rw [List.length_cons, show i + 1 + a.length = i + (a.length + 1) from by omega]
/-- A line that is read without error. -/
theorem runB_one (l : Bs) (i : Nat) (st st' : ASt) (h0 : l ≠ []) (h1 : noEnd l) (h2 : lineS st l = (0, st')) : runB [l] i st = (none, st') := by
  unfold runB
  rw [trim_fix l h1, if_neg h0, h2, if_neg (by simp)]
  rfl
theorem runB_two (a b : List Bs) (i : Nat) (st st' st'' : ASt) (h1 : runB a i st = (none, st')) (h2 : ∀ j, runB b j st' = (none, st'')) : runB (a ++ b) i st = (none, st'') := by
  rw [runB_app a b i st st' h1]; exact h2 _
theorem hasPrefix_one (c : UInt8) (l : Bs) : Lib.hasPrefix (c :: l) [c] = true := by simp [Lib.hasPrefix, List.isPrefixOf]
theorem head_parts (s : SrcT) (h1 : nameB s.type = true) (h2 : nameB s.key = true) : formB (headLine s) = true ∧ typeL (headLine s) = s.type ∧ keyL (headLine s) = s.key := by
  have e1 : headLine s = 64 :: (s.type ++ 123 :: s.key ++ [44]) := by simp [headLine]
  have ep : pfxS (headLine s) = s.type ++ 123 :: s.key ++ [44] := by
    rw [e1]; unfold pfxS Lib.trimPrefix; rw [hasPrefix_one]; simp
  have eb : pfxB (headLine s) = true := by rw [e1]; exact hasPrefix_one _ _
  have es : sfxB (pfxS (headLine s)) = true := by
    rw [ep]; unfold sfxB Lib.hasSuffix; simp
    exact ⟨s.type ++ 123 :: s.key, by simp⟩
  have ei : innerL (headLine s) = s.type ++ 123 :: s.key := by
    unfold innerL sfxS Lib.trimSuffix
    have := es
    unfold sfxB at this
    rw [this, if_pos rfl, ep]
    exact List.take_left' (by simp)
  have hb : before 123 (s.type ++ 123 :: s.key) = s.type.length := before_at 123 _ _ (name_not _ h1 123 (by decide))
  refine ⟨?_, ?_, ?_⟩
  · unfold formB
    rw [eb, es, ei, hb]; simp
  · unfold typeL; rw [ei, hb]; simp
  · unfold keyL; rw [ei, hb]; simp
theorem head_noEnd (s : SrcT) : noEnd (headLine s) := by
  have e1 : headLine s = 64 :: (s.type ++ 123 :: s.key ++ [44]) := by simp [headLine]
  have e2 : headLine s = (64 :: (s.type ++ 123 :: s.key)) ++ [44] := by simp [headLine]
  refine ⟨by rw [e1]; simp, by rw [e2, List.getLast?_append]; simp⟩
theorem run_head (s : SrcT) (h1 : nameB s.type = true) (h2 : nameB s.key = true) (done : List SrcT) (keys : List Bs) (hk : keys.contains s.key = false) (hd : done.length < 256) (i : Nat) :
    runB [headLine s] i ⟨done, keys, zeroS, false⟩ = (none, ⟨done, keys ++ [s.key], ⟨s.key, s.type, [], [], []⟩, true⟩) := by
  obtain ⟨hf, ht, hky⟩ := head_parts s h1 h2
  refine runB_one _ _ _ _ (by simp [headLine]) (head_noEnd s) ?_
  rw [lineS_beg _ _ rfl]
  · rw [ht, hky]
  · unfold beginE
    rw [hf, ht, hky, h1, h2, if_neg (by simp), if_neg (by simp), if_neg (by rw [hk]; simp), if_neg (by simpa using hd)]
theorem text_noEnd (p : P4) (h : textE p.1 p.2.1 p.2.2.1 p.2.2.2 = 0) : noEnd (textS p.1 p.2.1 p.2.2.1 p.2.2.2) ∧ lineB (textS p.1 p.2.1 p.2.2.1 p.2.2.2) = true ∧ textS p.1 p.2.1 p.2.2.1 p.2.2.2 ≠ [] := by
  unfold textE at h
  split at h
  · cases h
  rename_i hf
  split at h
  case isFalse => cases h
  rename_i hp
  simp only [Bool.and_eq_true] at hp
  obtain ⟨⟨⟨p1, p2⟩, p3⟩, p4⟩ := hp
  obtain ⟨l1, _, c1⟩ := part_parts _ p1
  obtain ⟨l2, _, c2⟩ := part_parts _ p2
  obtain ⟨l3, _, c3⟩ := part_parts _ p3
  obtain ⟨l4, _, c4⟩ := part_parts _ p4
  refine ⟨clean_noEnd _ (clean_text _ _ _ _ hf c1 c2 c3 c4), line_text _ _ _ _ l1 l2 l3 l4, ?_⟩
  unfold textS
  intro q
  have := congrArg List.length q
  simp only [List.length_append, List.length_nil] at this
  have hfl := List.length_pos_iff.2 hf
  split at this
  · omega
  · simp at this
theorem textR_ok (p : P4) (h : textE p.1 p.2.1 p.2.2.1 p.2.2.2 = 0) : textR p.1 p.2.1 p.2.2.1 p.2.2.2 = textS p.1 p.2.1 p.2.2.1 p.2.2.2 := by unfold textR; rw [if_pos h]
/-- A line made of a head, a sign and a value. -/
theorem noEnd_join (a x : Bs) (ha : a ≠ []) (h1 : a.head? ≠ some 32) (hx : x ≠ []) (h2 : x.getLast? ≠ some 32) : noEnd (a ++ x) := by
  refine ⟨?_, ?_⟩
  · cases a with
    | nil => exact absurd rfl ha
    | cons b a => simpa using h1
  · rw [List.getLast?_append, List.getLast?_eq_some_getLast hx]
    rw [List.getLast?_eq_some_getLast hx] at h2
    simpa using h2
/-- The division of a line at its sign. -/
theorem eq_parts (k v : Bs) (hk : (61 : UInt8) ∉ k) (hk2 : noEnd k) (hv : noEnd v) : before 61 (k ++ [32, 61, 32] ++ v) < (k ++ [32, 61, 32] ++ v).length ∧ trimL ((k ++ [32, 61, 32] ++ v).take (before 61 (k ++ [32, 61, 32] ++ v))) = k ∧ trimL ((k ++ [32, 61, 32] ++ v).drop (before 61 (k ++ [32, 61, 32] ++ v) + 1)) = v := by
  have e : k ++ [32, 61, 32] ++ v = (k ++ [32]) ++ 61 :: (32 :: v) := by simp
  have hb : before 61 (k ++ [32, 61, 32] ++ v) = (k ++ [32]).length := by
    rw [e]; exact before_at 61 _ _ (by simpa using hk)
  refine ⟨by rw [hb]; simp, ?_, ?_⟩
  · rw [hb, e, List.take_left]; exact trim_fix_sp k hk2
  · rw [hb, e, ← List.drop_drop, List.drop_left]
    simp only [List.drop_succ_cons, List.drop_zero]
    rw [trim_sp]; exact trim_fix v hv
theorem run_author (s : SrcT) (p : P4) (h : textE p.1 p.2.1 p.2.2.1 p.2.2.2 = 0) (hl : s.author.length < 32) (done : List SrcT) (keys : List Bs) (i : Nat) :
    runB [persLine hAuthor p] i ⟨done, keys, s, true⟩ = (none, ⟨done, keys, { s with author := s.author ++ [p] }, true⟩) := by
  obtain ⟨n1, n2, n3⟩ := text_noEnd p h
  have e : persLine hAuthor p = kAuthor ++ [32, 61, 32] ++ textS p.1 p.2.1 p.2.2.1 p.2.2.2 := by unfold persLine; rw [textR_ok p h]; rfl
  obtain ⟨e1, e2, e3⟩ := eq_parts kAuthor _ (by decide) (by unfold noEnd; decide) n1
  rw [e]
  refine runB_one _ _ _ _ (by simp [kAuthor]) (noEnd_join _ _ (by simp) (by simp [kAuthor]) n3 n1.2) ?_
  rw [lineS_add _ _ rfl (by simp [kAuthor])]
  unfold addS
  rw [if_pos e1, e2, e3, if_pos rfl, parse_text _ _ _ _ h, if_neg (by simp), if_neg (by show ¬ 32 ≤ s.author.length; omega)]
theorem run_editor (s : SrcT) (p : P4) (h : textE p.1 p.2.1 p.2.2.1 p.2.2.2 = 0) (hl : s.editor.length < 32) (done : List SrcT) (keys : List Bs) (i : Nat) :
    runB [persLine hEditor p] i ⟨done, keys, s, true⟩ = (none, ⟨done, keys, { s with editor := s.editor ++ [p] }, true⟩) := by
  obtain ⟨n1, n2, n3⟩ := text_noEnd p h
  have e : persLine hEditor p = kEditor ++ [32, 61, 32] ++ textS p.1 p.2.1 p.2.2.1 p.2.2.2 := by unfold persLine; rw [textR_ok p h]; rfl
  obtain ⟨e1, e2, e3⟩ := eq_parts kEditor _ (by decide) (by unfold noEnd; decide) n1
  rw [e]
  refine runB_one _ _ _ _ (by simp [kEditor]) (noEnd_join _ _ (by simp) (by simp [kEditor]) n3 n1.2) ?_
  rw [lineS_add _ _ rfl (by simp [kEditor])]
  unfold addS
  rw [if_pos e1, e2, e3, if_neg (by decide), if_pos rfl, parse_text _ _ _ _ h, if_neg (by simp), if_neg (by show ¬ 32 ≤ s.editor.length; omega)]
theorem trim_noEnd (v : Bs) (h : trimL v = v) : noEnd v := by rw [← h]; exact trim_no v
theorem run_field (s : SrcT) (f : Pr) (h : fldE1 s.fields f = 0) (hl : s.fields.length < 24) (done : List SrcT) (keys : List Bs) (i : Nat) :
    runB [fldLine f] i ⟨done, keys, s, true⟩ = (none, ⟨done, keys, { s with fields := s.fields ++ [f] }, true⟩) := by
  obtain ⟨h1, h2, h3, h4, h5, h6, h7⟩ := fldE1_parts _ _ h
  have n1 := trim_noEnd _ h6
  have n0 := name_noEnd _ h1
  obtain ⟨e1, e2, e3⟩ := eq_parts f.1 f.2 (name_not _ h1 61 (by decide)) n0 n1
  have hn := name_ne _ h1
  have hhead : (f.1 ++ [32, 61, 32]).head? ≠ some 32 := by
    cases hf : f.1 with
    | nil => exact absurd hf hn
    | cons b r => have := n0.1; rw [hf] at this; simpa using this
  unfold fldLine
  refine runB_one _ _ _ _ (by simp [hn]) (noEnd_join _ _ (by simp) hhead h4 n1.2) ?_
  rw [lineS_add _ _ rfl (by
    intro q
    have := congrArg List.length q
    have hp := List.length_pos_iff.2 hn
    simp at this; omega)]
  unfold addS
  rw [if_pos e1, e2, e3, if_neg h2, if_neg h3, h1, if_neg (by simp), if_neg h4, h7, if_neg (by simp), if_neg (by show ¬ 24 ≤ s.fields.length; omega)]
theorem run_authors (done : List SrcT) (keys : List Bs) (k t : Bs) (ed : List P4) (fs : List Pr) : ∀ (ps qs : List P4), (∀ p ∈ ps, textE p.1 p.2.1 p.2.2.1 p.2.2.2 = 0) → qs.length + ps.length ≤ 32 → ∀ i,
    runB (ps.map (persLine hAuthor)) i ⟨done, keys, ⟨k, t, qs, ed, fs⟩, true⟩ = (none, ⟨done, keys, ⟨k, t, qs ++ ps, ed, fs⟩, true⟩) := by
  intro ps
  induction ps with
  | nil => intro qs _ _ i; simp [runB]
  | cons p ps ih =>
    intro qs h hl i
    rw [List.length_cons] at hl
    have h1 := run_author ⟨k, t, qs, ed, fs⟩ p (h p (by simp)) (by show qs.length < 32; omega) done keys i
    have h2 := ih (qs ++ [p]) (fun q hq => h q (by simp [hq])) (by simp; omega)
    have := runB_two [persLine hAuthor p] (ps.map (persLine hAuthor)) i _ _ _ h1 h2
    simpa using this
theorem run_editors (done : List SrcT) (keys : List Bs) (k t : Bs) (au : List P4) (fs : List Pr) : ∀ (ps qs : List P4), (∀ p ∈ ps, textE p.1 p.2.1 p.2.2.1 p.2.2.2 = 0) → qs.length + ps.length ≤ 32 → ∀ i,
    runB (ps.map (persLine hEditor)) i ⟨done, keys, ⟨k, t, au, qs, fs⟩, true⟩ = (none, ⟨done, keys, ⟨k, t, au, qs ++ ps, fs⟩, true⟩) := by
  intro ps
  induction ps with
  | nil => intro qs _ _ i; simp [runB]
  | cons p ps ih =>
    intro qs h hl i
    rw [List.length_cons] at hl
    have h1 := run_editor ⟨k, t, au, qs, fs⟩ p (h p (by simp)) (by show qs.length < 32; omega) done keys i
    have h2 := ih (qs ++ [p]) (fun q hq => h q (by simp [hq])) (by simp; omega)
    have := runB_two [persLine hEditor p] (ps.map (persLine hEditor)) i _ _ _ h1 h2
    simpa using this
theorem run_fields (done : List SrcT) (keys : List Bs) (k t : Bs) (au ed : List P4) : ∀ (fs ds : List Pr), fldE ds fs = 0 → ds.length + fs.length ≤ 24 → ∀ i,
    runB (fs.map fldLine) i ⟨done, keys, ⟨k, t, au, ed, ds⟩, true⟩ = (none, ⟨done, keys, ⟨k, t, au, ed, ds ++ fs⟩, true⟩) := by
  intro fs
  induction fs with
  | nil => intro ds _ _ i; simp [runB]
  | cons f fs ih =>
    intro ds h hl i
    rw [List.length_cons] at hl
    unfold fldE at h
    split at h
    · rename_i hq; exact absurd h hq
    rename_i hq
    have h1 := run_field ⟨k, t, au, ed, ds⟩ f (by simpa using hq) (by show ds.length < 24; omega) done keys i
    have h2 := ih (ds ++ [f]) h (by simp; omega)
    have := runB_two [fldLine f] (fs.map fldLine) i _ _ _ h1 h2
    simpa using this
theorem run_src (s : SrcT) (h1 : nameB s.type = true) (h2 : nameB s.key = true) (hE : srcE s = 0) (done : List SrcT) (keys : List Bs) (hk : keys.contains s.key = false) (hd : done.length < 256) (i : Nat) :
    runB (srcLines s) i ⟨done, keys, zeroS, false⟩ = (none, ⟨done ++ [s], keys ++ [s.key], zeroS, false⟩) := by
  obtain ⟨l1, l2, l3, pA, pE, pF, hT⟩ := srcE_parts s hE
  unfold srcLines
  refine runB_two _ _ _ _ ⟨done, keys ++ [s.key], s, true⟩ _ ?_ ?_
  · refine runB_two _ _ _ _ ⟨done, keys ++ [s.key], ⟨s.key, s.type, s.author, s.editor, []⟩, true⟩ _ ?_ ?_
    · refine runB_two _ _ _ _ ⟨done, keys ++ [s.key], ⟨s.key, s.type, s.author, [], []⟩, true⟩ _ ?_ ?_
      · refine runB_two _ _ _ _ ⟨done, keys ++ [s.key], ⟨s.key, s.type, [], [], []⟩, true⟩ _ (run_head s h1 h2 done keys hk hd i) ?_
        have := run_authors done (keys ++ [s.key]) s.key s.type [] [] s.author [] (persE_all _ pA) (by simpa using l1)
        simpa using this
      · have := run_editors done (keys ++ [s.key]) s.key s.type s.author [] s.editor [] (persE_all _ pE) (by simpa using l2)
        simpa using this
    · have := run_fields done (keys ++ [s.key]) s.key s.type s.author s.editor s.fields [] pF (by simpa using l3)
      simpa using this
  · intro j
    refine runB_one _ _ _ _ (by simp) (by unfold noEnd; decide) ?_
    rw [lineS_done _ rfl hT]
theorem run_out (ss : List SrcT) (h : checkE ss = 0) : ∀ k, k ≤ ss.length → runB (outL (ss.take k)) 0 st0 = (none, ⟨ss.take k, (ss.take k).map (·.key), zeroS, false⟩) := by
  have hlen : ss.length ≤ 256 := by
    unfold checkE at h
    split at h
    · cases h
    · omega
  have hc : chkE [] ss = 0 := by
    unfold checkE at h
    split at h
    · cases h
    · exact h
  intro k
  induction k with
  | zero => intro _; simp [outL, runB, st0]
  | succ k ih =>
    intro hk
    obtain ⟨s, hs⟩ : ∃ x, ss[k]? = some x := ⟨_, List.getElem?_eq_getElem (by omega)⟩
    obtain ⟨n1, n2, n3, n4⟩ := chkE_all ss [] hc k s hs
    have hi := ih (by omega)
    rw [outL_snoc ss k s hs]
    have et : ss.take (k + 1) = ss.take k ++ [s] := by
      obtain ⟨hk', rfl⟩ := List.getElem?_eq_some_iff.1 hs
      exact List.take_succ_eq_append_getElem hk'
    rw [et]
    refine runB_two _ _ _ _ ⟨ss.take k, (ss.take k).map (·.key), zeroS, false⟩ _ ?_ ?_
    · refine runB_two _ _ _ _ _ _ hi ?_
      intro j
      split
      · rfl
      · unfold runB
        rw [trim_nil, if_pos rfl]; rfl
    · intro j
      have := run_src s n1 n2 n4 (ss.take k) ((ss.take k).map (·.key)) (by simpa using n3) (by simp; omega) j
      simpa using this
theorem srcLines_line (s : SrcT) (h1 : nameB s.type = true) (h2 : nameB s.key = true) (hE : srcE s = 0) : ∀ x ∈ srcLines s, lineB x = true := by
  obtain ⟨l1, l2, l3, pA, pE, pF, hT⟩ := srcE_parts s hE
  have vA := persE_all _ pA
  have vE := persE_all _ pE
  have vF := fldE_all _ _ pF
  intro x hx
  unfold srcLines at hx
  simp only [List.mem_append, List.mem_singleton, List.mem_map] at hx
  rcases hx with (((rfl | ⟨p, hp, rfl⟩) | ⟨p, hp, rfl⟩) | ⟨f, hf, rfl⟩) | rfl
  · refine line_asc _ ?_
    intro b hb
    unfold headLine at hb
    simp only [List.mem_append, List.mem_singleton] at hb
    rcases hb with (((rfl | hb) | rfl) | hb) | rfl
    · decide
    · exact name_vis _ h1 b hb
    · decide
    · exact name_vis _ h2 b hb
    · decide
  · unfold persLine
    rw [textR_ok p (vA p hp), line_pre _ _ (by unfold hAuthor; intro b hb; simp at hb; rcases hb with rfl | rfl | rfl | rfl | rfl | rfl | rfl | rfl | rfl <;> decide)]
    exact (text_noEnd p (vA p hp)).2.1
  · unfold persLine
    rw [textR_ok p (vE p hp), line_pre _ _ (by unfold hEditor; intro b hb; simp at hb; rcases hb with rfl | rfl | rfl | rfl | rfl | rfl | rfl | rfl | rfl <;> decide)]
    exact (text_noEnd p (vE p hp)).2.1
  · obtain ⟨k, hk⟩ := List.getElem?_of_mem hf
    obtain ⟨q1, _, _, _, q5, _⟩ := fldE1_parts _ _ (vF k f hk)
    unfold fldLine
    rw [line_pre]
    · exact q5
    · intro b hb
      rcases List.mem_append.1 hb with hb | hb
      · exact name_vis _ q1 b hb
      · simp at hb
        rcases hb with rfl | rfl | rfl <;> decide
  · exact line_asc _ (by intro b hb; simp at hb; subst hb; decide)
theorem outL_line (ss : List SrcT) (h : checkE ss = 0) : ∀ x ∈ outL ss, lineB x = true := by
  have hc : chkE [] ss = 0 := by
    unfold checkE at h
    split at h
    · cases h
    · exact h
  intro x hx
  unfold outL at hx
  rw [List.mem_flatten] at hx
  obtain ⟨l, hl, hx⟩ := hx
  rw [List.mem_mapIdx] at hl
  obtain ⟨i, hi, rfl⟩ := hl
  obtain ⟨n1, n2, n3, n4⟩ := chkE_all ss [] hc i ss[i] (List.getElem?_eq_getElem hi)
  rcases List.mem_append.1 hx with hx | hx
  · split at hx
    · cases hx
    · simp at hx; subst hx; exact line_nil
  · exact srcLines_line _ n1 n2 n4 x hx
/-- What is written is read back. -/
theorem bib_back (ss : List SrcT) (h : checkE ss = 0) (hl : (textL ss).length ≤ 262144) : bibR (textL ss) = (ss, 0, 0) := by
  have hline := outL_line ss h
  have hr := run_out ss h ss.length (Nat.le_refl _)
  rw [List.take_of_length_le (Nat.le_refl _)] at hr
  have et : textL ss = joinLn (outL ss) := by unfold textL; rw [if_pos h]
  unfold bibR
  rw [if_neg (by omega), et, join_valid _ hline, if_neg (by simp), lines_join _ (fun x hx => line_no10 x (hline x hx)), hr]
  rfl
end Go.Proofs.YteflhlbgbgamnaaGreatDoor

/- person.Initials. Conditions: the length of the given name. -/
set_option linter.all false
namespace Go.Proofs.YteflhlbgbgamnaaGreatDoor
open Go.RowKit

def runesL (ns : List Int) : Bs := ns.flatMap encL
theorem runesL_snoc (ns : List Int) (c : Int) : runesL (ns ++ [c]) = runesL ns ++ encL c := by simp [runesL]
theorem runesL_two (ns : List Int) (c d : Int) : runesL (ns ++ [c, d]) = runesL ns ++ encL c ++ encL d := by simp [runesL]
theorem foldl_runes : ∀ (ns : List Int) (x : Bs), ns.foldl (fun r n => r ++ Utf8.encode n) (bs x) = bs (x ++ runesL ns)
  | [], x => by simp [runesL]
  | n :: ns, x => by
    rw [List.foldl_cons, encode_bs, bs_append, foldl_runes ns]
    simp [runesL]
theorem runesBytes_bs (ns : List Int) : runesBytes ns = bs (runesL ns) := by
  unfold runesBytes; rw [empty_bs, foldl_runes]; simp
def runeCells (ns : List Int) : List Value := ns.map (Value.int .i32)
theorem ini_step (g : Bs) (pos : Nat) (h : pos < g.length) (c n : Int) (hd : dec (bs g) pos = (c, n)) (bg iw sm : Bool) :
    (c = 32 ∧ n = 1 ∧ ini (g.drop pos) bg iw sm = ini (g.drop (pos + 1)) true false sm) ∨
    (c = 45 ∧ n = 1 ∧ ini (g.drop pos) bg iw sm = ini (g.drop (pos + 1)) true iw sm) ∨
    (c ≠ 32 ∧ c ≠ 45 ∧ ini (g.drop pos) bg iw sm = if bg then lead iw sm ++ (encL c ++ [46]) ++ ini (g.drop (pos + n.toNat)) false true true else ini (g.drop (pos + n.toNat)) false iw sm) := by
  have hp : pieceI (g.drop pos) = encL c ++ [46] := by unfold pieceI; rw [dec_shift, hd]
  have hcons : g.drop pos = g[pos] :: g.drop (pos + 1) := List.drop_eq_getElem_cons h
  have ha := at8_get g pos h
  by_cases hlo : at8 g pos < 128
  · have hdd := dec_ascii g pos hlo
    rw [hd] at hdd
    obtain ⟨rfl, rfl⟩ := Prod.mk.injEq _ _ _ _ ▸ hdd
    rw [hcons] at hp ⊢
    rw [ini_cons]
    have k32 := u8_int g[pos] 32 (by decide)
    have k45 := u8_int g[pos] 45 (by decide)
    rw [← ha] at k32 k45
    by_cases q : g[pos] = 32
    · left; exact ⟨k32.2 q, rfl, by rw [if_pos q]⟩
    by_cases q2 : g[pos] = 45
    · right; left; exact ⟨k45.2 q2, rfl, by rw [if_neg q, if_pos q2]⟩
    · right; right
      refine ⟨fun e => q (k32.1 e), fun e => q2 (k45.1 e), ?_⟩
      rw [if_neg q, if_neg q2, hp]; rfl
  · right; right
    obtain ⟨hc, hbytes⟩ := dec_high (bs g) pos (by rw [byteAt_bs]; omega)
    rw [hd] at hc hbytes
    simp only at hc hbytes
    have hb := dec_bounds (bs g) pos h
    rw [hd] at hb
    simp only [bs_size] at hb
    refine ⟨by omega, by omega, ?_⟩
    have hq : g[pos] ≠ 32 := fun e => by rw [e] at ha; have : ((32 : UInt8).toNat : Int) = 32 := by decide
                                         omega
    have hq2 : g[pos] ≠ 45 := fun e => by rw [e] at ha; have : ((45 : UInt8).toNat : Int) = 45 := by decide
                                          omega
    have hsplit : g.drop (pos + 1) = (g.drop (pos + 1)).take (n.toNat - 1) ++ g.drop (pos + n.toNat) := by
      conv => lhs; rw [← List.take_append_drop (n.toNat - 1) (g.drop (pos + 1))]
      rw [List.drop_drop, show pos + 1 + (n.toNat - 1) = pos + n.toNat from by omega]
    have hnot : ∀ x ∈ (g.drop (pos + 1)).take (n.toNat - 1), 128 ≤ (x.toNat : Int) := by
      intro x hx
      obtain ⟨j, hj, rfl⟩ := List.getElem_of_mem hx
      simp only [List.length_take, List.length_drop] at hj
      have hbj := hbytes (1 + j) (by omega)
      rw [byteAt_bs, ← Nat.add_assoc, at8_get g (pos + 1 + j) (by omega)] at hbj
      simp only [List.getElem_take, List.getElem_drop]
      exact hbj
    have hsk : ∀ iw sm, ini (g.drop (pos + 1)) false iw sm = ini (g.drop (pos + n.toNat)) false iw sm := by
      intro iw sm
      rw [hsplit]
      exact ini_skip _ _ iw sm (fun q => by have := hnot _ q; revert this; decide) (fun q => by have := hnot _ q; revert this; decide)
    rw [hcons] at hp ⊢
    rw [ini_cons, if_neg hq, if_neg hq2, hp, hsk, hsk]; rfl

theorem Tryz.infoRune : (Tryz.prog.info? 21).map (fun i => (i.zero, i.size, i.bytes)) = some (some (.int .i32 0), 1, 4) := by kernel_rfl

/-- What an append on the call's own row leaves of the rest. -/
theorem grown_rest {w w' : World} {base k : Nat} {e : TypeId} {size : Nat} {v : Value} {n : Nat} {xs : List Value} {o : Obj} (h : w.ownsRow base e size v n xs) (hg : (w.alloc o).grownBy w' v.ownBlock) (hk : k < base) (hb : base ≤ w.heap.size) :
    w'.heap[k]? = w.heap[k]? ∧ base ≤ w'.heap.size ∧ Below base w w' := by
  have hB : Below base w w' := ((Below.refl base w).alloc hb o).trans (grown_below (h.alloc o) hg (by simp; omega))
  exact ⟨hB.block k hk, by have := hB.size; omega, hB⟩
theorem own_iterAt {w : World} {base : Nat} {e : TypeId} {size : Nat} {v : Value} {n : Nat} {xs : List Value} (h : w.ownsRow base e size v n xs) (k : Nat) (hk : k < base) (s : ByteArray) (pos : Nat) : (w.iterAt k s pos).ownsRow base e size v n xs := by
  obtain ⟨h1, h2⟩ := h
  refine ⟨h1, ?_⟩
  rcases h2 with h2 | ⟨g, cap, cur, hv, hg, hh, r⟩
  · exact Or.inl h2
  · exact Or.inr ⟨g, cap, cur, hv, hg, by rw [Lib.iterAt_other _ _ _ _ _ (by omega)]; exact hh, r⟩

end Go.Proofs.YteflhlbgbgamnaaGreatDoor
