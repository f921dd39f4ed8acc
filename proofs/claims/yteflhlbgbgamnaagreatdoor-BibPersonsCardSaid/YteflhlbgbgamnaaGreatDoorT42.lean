/- The law PersonReturns answers true of every person and text. No condition. -/
import Derived.Test.YteflhlbgbgamnaaGreatDoorT41
import Derived.Test.YteflhlbgbgamnaaGreatDoorT38

set_option linter.all false
namespace Go.Proofs.YteflhlbgbgamnaaGreatDoor
open Go.RowKit

theorem three_len (m : Nat) (xs : List Bs) (h : ∀ x ∈ xs, x.length ≤ m) : (threeF xs).1.length ≤ m ∧ (threeF xs).2.1.length ≤ m ∧ (threeF xs).2.2.length ≤ m := by
  match xs, h with
  | [], _ => simp [threeF]
  | [a], h => exact ⟨h a (by simp), by simp [threeF], by simp [threeF]⟩
  | [a, b], h => exact ⟨h a (by simp), h b (by simp), by simp [threeF]⟩
  | [a, b, c], h => exact ⟨h a (by simp), h c (by simp), h b (by simp)⟩
  | a :: b :: c :: d :: r, _ => simp [threeF]
theorem fields_len (t : Bs) : (fieldsP t).1.length ≤ t.length + 1 ∧ (fieldsP t).2.1.length ≤ t.length + 1 ∧ (fieldsP t).2.2.length ≤ t.length + 1 := by
  rw [fields_of]
  refine three_len _ _ fun x hx => ?_
  obtain ⟨y, hy, rfl⟩ := List.mem_map.1 hx
  have h1 := split_mem_le 44 t y hy
  have h2 := cleanL_le y
  omega
theorem restR_len (p t : Bs) : size4 (restR p t).2 ≤ p.length + 3 * (t.length + 1) := by
  unfold restR
  by_cases hb : badP p t
  · rw [if_pos hb]; simp [size4, zero4]
  rw [if_neg hb]
  by_cases hf : (fieldsP t).1 = []
  · rw [if_pos hf]; simp [size4, zero4]
  rw [if_neg hf]
  have := fields_len t
  simp only [size4]; omega
theorem parse_len (l : Bs) : size4 (parseR l).2 ≤ 4 * (l.length + 3) := by
  rw [parseR_body]
  cases hl : lineB l
  · simp [size4, zero4]
  rw [if_pos rfl]
  have hc := cleanL_le l
  unfold bodyR restP
  match hq : cleanL l with
  | [] => have := restR_len [] []; simp only; simp at this; omega
  | x :: r =>
    rw [hq] at hc
    simp only [List.length_cons] at hc
    simp only
    by_cases hx : x = 123
    · rw [if_pos hx]
      by_cases hb : before 125 r < r.length
      · rw [if_pos hb]
        have h1 := restR_len (cleanL (r.take (before 125 r))) (r.drop (before 125 r + 1))
        have h2 := cleanL_le (r.take (before 125 r))
        simp only [List.length_take, List.length_drop] at h1 h2
        simp only; omega
      · rw [if_neg hb]; simp [size4, zero4]
    · rw [if_neg hx]
      have h1 := restR_len [] (x :: r)
      simp only [List.length_cons, List.length_nil] at h1
      simp only; omega
theorem textS_len (f g p s : Bs) : (textS f g p s).length ≤ f.length + g.length + p.length + s.length + 9 := by
  unfold textS
  by_cases h1 : p = [] <;> by_cases h2 : s = [] <;> by_cases h3 : g = [] <;> simp [h1, h2, h3] <;> omega
/-- What Text hands to Parse is read back. -/
theorem pt_ok (q : P4) (h : textE q.1 q.2.1 q.2.2.1 q.2.2.2 = 0) (hs : size4 q ≤ 100000) (w : World) (hg : Gnd w) :
    Calls Tryz.prog 144 #[.string (bs (textR q.1 q.2.1 q.2.2.1 q.2.2.2))] w fun e w' => e = .returned (.tuple #[p4V q, .int .i64 0]) ∧ Kept w w' := by
  have e1 : textR q.1 q.2.1 q.2.2.1 q.2.2.2 = textS q.1 q.2.1 q.2.2.1 q.2.2.2 := by unfold textR; rw [if_pos h]
  have hl := textS_len q.1 q.2.1 q.2.2.1 q.2.2.2
  have h1 := parse_any (textS q.1 q.2.1 q.2.2.1 q.2.2.2) w hg (by unfold size4 at hs; omega)
  unfold ParsePost at h1
  rw [parse_text _ _ _ _ h] at h1
  rw [e1]; exact h1
theorem text_ok4 (q : P4) (h : textE q.1 q.2.1 q.2.2.1 q.2.2.2 = 0) (hs : size4 q ≤ 100000) (w : World) (hg : Gnd w) :
    Calls Tryz.prog 79 #[p4V q] w fun e w' => e = .returned (.tuple #[.string (bs (textR q.1 q.2.1 q.2.2.1 q.2.2.2)), .int .i64 0]) ∧ Kept w w' := by
  have h1 := text_any q.1 q.2.1 q.2.2.1 q.2.2.2 w hg (by unfold size4 at hs; omega)
  rw [h] at h1; exact h1
theorem text_no4 (q : P4) (h : textE q.1 q.2.1 q.2.2.1 q.2.2.2 ≠ 0) (hs : size4 q ≤ 100000) (w : World) (hg : Gnd w) :
    Calls Tryz.prog 79 #[p4V q] w fun e w' => e = .returned (.tuple #[.string (bs []), .int .i64 (textE q.1 q.2.1 q.2.2.1 q.2.2.2)]) ∧ Kept w w' := by
  have h1 := text_any q.1 q.2.1 q.2.2.1 q.2.2.2 w hg (by unfold size4 at hs; omega)
  have e1 : textR q.1 q.2.1 q.2.2.1 q.2.2.2 = [] := by unfold textR; rw [if_neg h]
  rw [e1] at h1; exact h1

end Go.Proofs.YteflhlbgbgamnaaGreatDoor

/- Plain law: what is read has no error, and is not longer than a few times the text. No condition but the text's length. -/
set_option linter.all false
namespace Go.Proofs.YteflhlbgbgamnaaGreatDoor
open Go.RowKit

theorem persE_snoc (ps : List P4) (p : P4) (h : persE ps = 0) (hp : textE p.1 p.2.1 p.2.2.1 p.2.2.2 = 0) : persE (ps ++ [p]) = 0 := by
  induction ps with
  | nil => simp [persE, hp]
  | cons q ps ih =>
    rw [List.cons_append]
    unfold persE at h ⊢
    split at h
    · rename_i hq; exact absurd h hq
    · rename_i hq; rw [if_neg hq]; exact ih h
theorem fldE_snoc (fs : List Pr) (f : Pr) : ∀ ds, fldE ds fs = 0 → fldE1 (ds ++ fs) f = 0 → fldE ds (fs ++ [f]) = 0 := by
  induction fs with
  | nil => intro ds _ h; simp at h; simp [fldE, h]
  | cons g fs ih =>
    intro ds h hf
    rw [List.cons_append]
    unfold fldE at h ⊢
    split at h
    · rename_i hq; exact absurd h hq
    · rename_i hq; rw [if_neg hq]; exact ih _ h (by simpa using hf)
theorem chkE_snoc (ss : List SrcT) (s : SrcT) : ∀ ks, chkE ks ss = 0 → nameB s.type = true → nameB s.key = true → (ks ++ ss.map (·.key)).contains s.key = false → srcE s = 0 → chkE ks (ss ++ [s]) = 0 := by
  induction ss with
  | nil =>
    intro ks _ h1 h2 h3 h4
    simp only [List.map_nil, List.append_nil] at h3
    simp [chkE, h1, h2, h4]
    simpa using h3
  | cons t ss ih =>
    intro ks h h1 h2 h3 h4
    rw [List.cons_append]
    unfold chkE at h ⊢
    split at h
    · cases h
    rename_i q1
    split at h
    · cases h
    rename_i q2
    split at h
    · rename_i q3; exact absurd h q3
    rename_i q3
    rw [if_neg q1, if_neg q2, if_neg q3]
    exact ih _ h h1 h2 (by simpa using h3) h4
/-- About how long the text of a source is. -/
def persW (ps : List P4) : Nat := (ps.map fun p => size4 p + 20).sum
def fldW (fs : List Pr) : Nat := (fs.map fun f => f.1.length + f.2.length + 5).sum
def srcW (s : SrcT) : Nat := s.key.length + s.type.length + 10 + persW s.author + persW s.editor + fldW s.fields
def listW (ss : List SrcT) : Nat := (ss.map srcW).sum
/-- What a reader holds behind lines without error. -/
structure Good1 (st : ASt) : Prop where
  chk : chkE [] st.done = 0
  lim : st.done.length ≤ 256
  keys : st.keys = st.done.map (·.key) ++ (if st.ins = true then [st.src.key] else [])
  ins : st.ins = true → st.done.length < 256 ∧ nameB st.src.type = true ∧ nameB st.src.key = true ∧ (st.done.map (·.key)).contains st.src.key = false ∧ Small4 st.src ∧ persE st.src.author = 0 ∧ persE st.src.editor = 0 ∧ fldE [] st.src.fields = 0
def stW (st : ASt) : Nat := listW st.done + (if st.ins = true then srcW st.src else 0)
theorem good0 : Good1 st0 := ⟨rfl, by simp [st0], rfl, fun h => by cases h⟩
theorem size_pers (p : P4) : size4 p = p.1.length + p.2.1.length + p.2.2.1.length + p.2.2.2.length := rfl
theorem take_line (l : Bs) (k : Nat) (c : UInt8) (hc : 32 ≤ (c.toNat : Int) ∧ (c.toNat : Int) < 127) (hk : k < l.length) (he : l[k] = c) (h : lineB l = true) : lineB (l.take k) = true ∧ lineB (l.drop (k + 1)) = true := by
  have e : l = l.take k ++ c :: l.drop (k + 1) := by
    rw [← he, ← List.drop_eq_getElem_cons hk, List.take_append_drop]
  rw [e, line_at c hc, Bool.and_eq_true] at h
  exact h
theorem addS_good (s : SrcT) (l : Bs) (hl : lineB l = true) (h0 : (addS s l).1 = 0) (hs : Small4 s) (hA : persE s.author = 0) (hE : persE s.editor = 0) (hF : fldE [] s.fields = 0) :
    (addS s l).2.key = s.key ∧ (addS s l).2.type = s.type ∧ Small4 (addS s l).2 ∧ persE (addS s l).2.author = 0 ∧ persE (addS s l).2.editor = 0 ∧ fldE [] (addS s l).2.fields = 0 ∧ srcW (addS s l).2 ≤ srcW s + 4 * l.length + 32 := by
  have hsm := addS_small s l hs
  refine ⟨?_, ?_, hsm, ?_⟩
  · unfold addS; repeat' split
    all_goals rfl
  · unfold addS; repeat' split
    all_goals rfl
  · unfold addS at h0 ⊢
    split at h0
    case isFalse => simp at h0
    rename_i hb
    rw [if_pos hb]
    have hat := before_here 61 l hb
    obtain ⟨v1, v2⟩ := take_line l _ 61 (by decide) hb hat hl
    have ht1 : (trimL (l.take (before 61 l))).length ≤ before 61 l := by have := trimL_le (l.take (before 61 l)); simp at this; omega
    have ht2 : (trimL (l.drop (before 61 l + 1))).length + before 61 l + 1 ≤ l.length := by have := trimL_le (l.drop (before 61 l + 1)); simp at this; omega
    have tl2 : lineB (trimL (l.drop (before 61 l + 1))) = true := by rw [trim_line]; exact v2
    have ti2 := trim_idem (l.drop (before 61 l + 1))
    generalize trimL (l.take (before 61 l)) = k at *
    generalize trimL (l.drop (before 61 l + 1)) = v at *
    generalize before 61 l = nb at *
    split at h0
    · rename_i hk
      split at h0
      · rename_i hp; exact absurd h0 hp
      rename_i hp
      split at h0
      · simp at h0
      rename_i h32
      rw [if_pos hk, if_neg hp, if_neg h32]
      have hp0 : (parseR v).1 = 0 := by simpa using hp
      have htx := text_parse v (parseR v).2 (by rw [← hp0])
      have hsz := parse_len v
      refine ⟨persE_snoc _ _ hA htx, hE, hF, ?_⟩
      simp only [srcW, persW, List.map_append, List.map_cons, List.map_nil, List.sum_append, List.sum_cons, List.sum_nil]
      omega
    · rename_i hk
      split at h0
      · rename_i hk2
        split at h0
        · rename_i hp; exact absurd h0 hp
        rename_i hp
        split at h0
        · simp at h0
        rename_i h32
        rw [if_neg hk, if_pos hk2, if_neg hp, if_neg h32]
        have hp0 : (parseR v).1 = 0 := by simpa using hp
        have htx := text_parse v (parseR v).2 (by rw [← hp0])
        have hsz := parse_len v
        refine ⟨hA, persE_snoc _ _ hE htx, hF, ?_⟩
        simp only [srcW, persW, List.map_append, List.map_cons, List.map_nil, List.sum_append, List.sum_cons, List.sum_nil]
        omega
      · rename_i hk2
        split at h0
        · simp at h0
        rename_i q1
        split at h0
        · simp at h0
        rename_i q2
        split at h0
        · simp at h0
        rename_i q3
        split at h0
        · simp at h0
        rename_i q4
        rw [if_neg hk, if_neg hk2, if_neg q1, if_neg q2, if_neg q3, if_neg q4]
        have hv := line_vis _ tl2
        have h10 : v.contains 10 = false := by simpa using line_no10 _ tl2
        refine ⟨hA, hE, fldE_snoc _ _ _ hF ?_, ?_⟩
        · unfold fldE1
          rw [List.nil_append, if_neg, if_neg, if_neg q3]
          · rintro (((q | q) | q) | q)
            · exact q2 q
            · rw [hv] at q; cases q
            · simp only [] at q; rw [h10] at q; cases q
            · exact q ti2
          · rintro ((q | q) | q)
            · exact q1 q
            · exact hk q
            · exact hk2 q
        · simp only [srcW, fldW, List.map_append, List.map_cons, List.map_nil, List.sum_append, List.sum_cons, List.sum_nil]
          omega
theorem key_len (l : Bs) : (keyL l).length + (typeL l).length ≤ l.length := by
  have := innerL_le l
  unfold keyL typeL
  simp only [List.length_drop, List.length_take]
  omega
theorem lineS_good (st : ASt) (l : Bs) (hl : lineB l = true) (h0 : (lineS st l).1 = 0) (h : Good1 st) : Good1 (lineS st l).2 ∧ stW (lineS st l).2 ≤ stW st + 4 * l.length + 32 := by
  obtain ⟨done, keys, src, ins⟩ := st
  obtain ⟨hc, hlm, hk, hi⟩ := h
  simp only at hc hlm hk hi
  cases ins
  · by_cases he : beginE keys done.length l = 0
    · rw [lineS_beg ⟨done, keys, src, false⟩ l rfl he]
      unfold beginE at he
      split at he
      · cases he
      rename_i q1
      split at he
      · cases he
      rename_i q2
      split at he
      · cases he
      rename_i q3
      split at he
      · cases he
      rename_i q4
      have n1 : nameB (typeL l) = true := by
        cases hn : nameB (typeL l)
        · exact absurd (.inl hn) q2
        · rfl
      have n2 : nameB (keyL l) = true := by
        cases hn : nameB (keyL l)
        · exact absurd (.inr hn) q2
        · rfl
      simp only [Bool.false_eq_true, if_false, List.append_nil] at hk
      have hkl := key_len l
      refine ⟨⟨hc, hlm, by simp [hk], fun _ => ⟨by simp only; omega, n1, n2, ?_, ⟨by simp, by simp, by simp⟩, rfl, rfl, rfl⟩⟩, ?_⟩
      · rw [← hk]; simpa using q3
      · simp only [stW, srcW, persW, fldW, if_true, List.map_nil, List.sum_nil, Bool.false_eq_true, if_false]
        omega
    · rw [lineS_err ⟨done, keys, src, false⟩ l rfl he] at h0
      exact absurd h0 he
  · obtain ⟨g1, g2, g3, g4, g5, g6, g7, g8⟩ := hi rfl
    by_cases hq : l = [125]
    · subst hq
      cases ht : hasB src.fields [116, 105, 116, 108, 101]
      · rw [lineS_none ⟨done, keys, src, true⟩ rfl ht] at h0
        cases h0
      · rw [lineS_done ⟨done, keys, src, true⟩ rfl ht]
        have hE : srcE src = 0 := by
          unfold srcE
          obtain ⟨s1, s2, s3⟩ := g5
          rw [if_neg (by omega), g6, g7, g8]
          simp only [ne_eq, not_true_eq_false, if_false]
          unfold kTitle
          rw [ht]; rfl
        refine ⟨⟨chkE_snoc _ _ _ hc g2 g3 (by simpa using g4) hE, by simp; omega, ?_, fun q => by cases q⟩, ?_⟩
        · simp only [if_true] at hk
          simp [hk]
        · simp [stW, listW]; omega
    · rw [lineS_add ⟨done, keys, src, true⟩ l rfl hq] at h0 ⊢
      obtain ⟨a1, a2, a3, a4, a5, a6, a7⟩ := addS_good src l hl h0 g5 g6 g7 g8
      refine ⟨⟨hc, hlm, ?_, fun _ => ⟨g1, ?_, ?_, ?_, a3, a4, a5, a6⟩⟩, ?_⟩
      · simp only [if_true] at hk ⊢; rw [a1]; exact hk
      · show nameB (addS src l).2.type = true; rw [a2]; exact g2
      · show nameB (addS src l).2.key = true; rw [a1]; exact g3
      · show (done.map (·.key)).contains (addS src l).2.key = false; rw [a1]; exact g4
      · simp only [stW, if_true]; omega
theorem runB_good (ls : List Bs) : ∀ (i : Nat) (st st' : ASt), (∀ x ∈ ls, lineB x = true) → Good1 st → runB ls i st = (none, st') → Good1 st' ∧ stW st' ≤ stW st + (ls.map fun x => 4 * x.length + 32).sum := by
  induction ls with
  | nil => intro i st st' _ h hr; simp [runB] at hr; subst hr; exact ⟨h, by simp⟩
  | cons l ls ih =>
    intro i st st' hl h hr
    unfold runB at hr
    have hl' : ∀ x ∈ ls, lineB x = true := fun x hx => hl x (by simp [hx])
    rw [List.map_cons, List.sum_cons]
    split at hr
    · obtain ⟨r1, r2⟩ := ih _ _ _ hl' h hr
      exact ⟨r1, by omega⟩
    · split at hr
      · cases hr
      rename_i h0
      have ht := trimL_le l
      obtain ⟨g1, g2⟩ := lineS_good st (trimL l) (by rw [trim_line]; exact hl l (by simp)) (by simpa using h0) h
      obtain ⟨r1, r2⟩ := ih _ _ _ hl' g1 hr
      exact ⟨r1, by omega⟩
theorem lines_weight (s : Bs) : ((linesL s).map fun x => 4 * x.length + 32).sum ≤ 36 * s.length + 36 := by
  have e : ∀ xs : List Bs, (xs.map fun x => 4 * x.length + 32).sum ≤ 32 * xs.length + 4 * (xs.map (fun x => x.length)).sum := by
    intro xs
    induction xs with
    | nil => simp
    | cons x xs ih => simp only [List.map_cons, List.sum_cons, List.length_cons]; omega
  have e2 : ∀ xs : List Bs, (xs.map (fun x => x.length + 1)).sum = xs.length + (xs.map (fun x => x.length)).sum := by
    intro xs
    induction xs with
    | nil => simp
    | cons x xs ih => simp only [List.map_cons, List.sum_cons, List.length_cons, ih]; omega
  have h := runC_sum 10 s
  rw [e2] at h
  have h1 := e (linesL s)
  unfold linesL at h1 ⊢
  have h2 : ((runC 10 s).1 ++ (if (runC 10 s).2 = [] then [] else [(runC 10 s).2])).length ≤ (runC 10 s).1.length + 1 := by
    rw [List.length_append]; split <;> simp
  have h3 : (((runC 10 s).1 ++ (if (runC 10 s).2 = [] then [] else [(runC 10 s).2])).map (fun x => x.length)).sum ≤ ((runC 10 s).1.map (fun x => x.length)).sum + (runC 10 s).2.length := by
    rw [List.map_append, List.sum_append]; split <;> simp
  omega
theorem runB_err (ls : List Bs) : ∀ (i : Nat) (st st' : ASt) (j : Nat) (e : Int), runB ls i st = (some (j, e), st') → e ≠ 0 := by
  induction ls with
  | nil => intro i st st' j e h; simp [runB] at h
  | cons l ls ih =>
    intro i st st' j e h
    unfold runB at h
    split at h
    · exact ih _ _ _ _ _ h
    · split at h
      · rename_i h0
        simp only [Prod.mk.injEq, Option.some.injEq] at h
        rw [← h.1.2]; exact h0
      · exact ih _ _ _ _ _ h
/-- What is read: its check, and its weight. -/
theorem bib_read (s : Bs) (h : (bibR s).2.2 = 0) : (bibR s).2.1 = 0 ∧ checkE (bibR s).1 = 0 ∧ listW (bibR s).1 ≤ 36 * s.length + 36 := by
  unfold bibR at h ⊢
  split at h
  · cases h
  rename_i h1
  split at h
  · cases h
  rename_i h2
  rw [if_neg h1, if_neg h2]
  have hw := lines_weight s
  have hv : validB (bs s) = true := by simpa using h2
  have hg := runB_good (linesL s) 0 st0
  generalize hr : runB (linesL s) 0 st0 = r at *
  obtain ⟨o, st⟩ := r
  cases o with
  | some p =>
    exfalso
    obtain ⟨i, e⟩ := p
    simp only at h
    exact runB_err _ _ _ _ _ _ hr h
  | none =>
    obtain ⟨g1, g2⟩ := hg st (lines_valid s hv) good0 rfl
    simp only at h ⊢
    split at h
    · cases h
    rename_i hi
    rw [if_neg hi]
    have z : stW st0 = 0 := rfl
    have z2 : stW st = listW st.done := by unfold stW; rw [if_neg hi]; rfl
    refine ⟨rfl, ?_, by show listW st.done ≤ _; omega⟩
    show checkE st.done = 0
    unfold checkE
    rw [if_neg (by have := g1.lim; omega)]; exact g1.chk
theorem bib_nil (s : Bs) (h : (bibR s).2.2 ≠ 0) : (bibR s).1 = [] := by
  unfold bibR at h ⊢
  split at h
  · rename_i h1; rw [if_pos h1]
  rename_i h1
  rw [if_neg h1]
  split at h
  · rename_i h2; rw [if_pos h2]
  rename_i h2
  rw [if_neg h2]
  split at h
  · rfl
  · rename_i st hr
    split at h
    · rename_i h3; simp only [h3, if_true]
    · exact absurd rfl h
end Go.Proofs.YteflhlbgbgamnaaGreatDoor
