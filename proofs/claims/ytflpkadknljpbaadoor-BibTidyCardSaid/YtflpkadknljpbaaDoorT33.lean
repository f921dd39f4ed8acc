/- Plain law: what is read has no error, and is not longer than a few times the text. No condition but the text's length. -/
import Derived.Test.YtflpkadknljpbaaDoorT28
import Derived.Test.YtflpkadknljpbaaDoorT32
import Derived.Test.YtflpkadknljpbaaDoorT27

set_option linter.all false
namespace Go.Proofs.YtflpkadknljpbaaDoor
open Go.RowKit

theorem persE_snoc (ps : List P4) (p : P4) (h : persE ps = 0) (hp : textE p.1 p.2.1 p.2.2.1 p.2.2.2 = 0) : persE (ps ++ [p]) = 0 := by
  induction ps with
  | nil => simp [persE, hp]
  | cons q ps ih =>
    rw [List.cons_append]
    unfold persE at h ⊢
    split at h
    · rename_i hq; exact absurd h hq
    · rename_i hq; rw [if_neg hq]; exact ih h
theorem fldE_snoc (fs : List Pr) (f : Pr) : ∀ ds, fldE ds fs = 0 → fldE1 (ds ++ fs) f = 0 → fldE ds (fs ++ [f]) = 0 := by
  induction fs with
  | nil => intro ds _ h; simp at h; simp [fldE, h]
  | cons g fs ih =>
    intro ds h hf
    rw [List.cons_append]
    unfold fldE at h ⊢
    split at h
    · rename_i hq; exact absurd h hq
    · rename_i hq; rw [if_neg hq]; exact ih _ h (by simpa using hf)
theorem chkE_snoc (ss : List SrcT) (s : SrcT) : ∀ ks, chkE ks ss = 0 → nameB s.type = true → nameB s.key = true → (ks ++ ss.map (·.key)).contains s.key = false → srcE s = 0 → chkE ks (ss ++ [s]) = 0 := by
  induction ss with
  | nil =>
    intro ks _ h1 h2 h3 h4
    simp only [List.map_nil, List.append_nil] at h3
    simp [chkE, h1, h2, h4]
    simpa using h3
  | cons t ss ih =>
    intro ks h h1 h2 h3 h4
    rw [List.cons_append]
    unfold chkE at h ⊢
    split at h
    · cases h
    rename_i q1
    split at h
    · cases h
    rename_i q2
    split at h
    · rename_i q3; exact absurd h q3
    rename_i q3
    rw [if_neg q1, if_neg q2, if_neg q3]
    exact ih _ h h1 h2 (by simpa using h3) h4
/-- About how long the text of a source is. -/
def persW (ps : List P4) : Nat := (ps.map fun p => size4 p + 20).sum
def fldW (fs : List Pr) : Nat := (fs.map fun f => f.1.length + f.2.length + 5).sum
def srcW (s : SrcT) : Nat := s.key.length + s.type.length + 10 + persW s.author + persW s.editor + fldW s.fields
def listW (ss : List SrcT) : Nat := (ss.map srcW).sum
/-- What a reader holds behind lines without error. -/
structure Good1 (st : ASt) : Prop where
  chk : chkE [] st.done = 0
  lim : st.done.length ≤ 256
  keys : st.keys = st.done.map (·.key) ++ (if st.ins = true then [st.src.key] else [])
  ins : st.ins = true → st.done.length < 256 ∧ nameB st.src.type = true ∧ nameB st.src.key = true ∧ (st.done.map (·.key)).contains st.src.key = false ∧ Small4 st.src ∧ persE st.src.author = 0 ∧ persE st.src.editor = 0 ∧ fldE [] st.src.fields = 0
def stW (st : ASt) : Nat := listW st.done + (if st.ins = true then srcW st.src else 0)
theorem good0 : Good1 st0 := ⟨rfl, by simp [st0], rfl, fun h => by cases h⟩
theorem size_pers (p : P4) : size4 p = p.1.length + p.2.1.length + p.2.2.1.length + p.2.2.2.length := rfl
theorem take_line (l : Bs) (k : Nat) (c : UInt8) (hc : 32 ≤ (c.toNat : Int) ∧ (c.toNat : Int) < 127) (hk : k < l.length) (he : l[k] = c) (h : lineB l = true) : lineB (l.take k) = true ∧ lineB (l.drop (k + 1)) = true := by
  have e : l = l.take k ++ c :: l.drop (k + 1) := by
    rw [← he, ← List.drop_eq_getElem_cons hk, List.take_append_drop]
  rw [e, line_at c hc, Bool.and_eq_true] at h
  exact h
theorem addS_good (s : SrcT) (l : Bs) (hl : lineB l = true) (h0 : (addS s l).1 = 0) (hs : Small4 s) (hA : persE s.author = 0) (hE : persE s.editor = 0) (hF : fldE [] s.fields = 0) :
    (addS s l).2.key = s.key ∧ (addS s l).2.type = s.type ∧ Small4 (addS s l).2 ∧ persE (addS s l).2.author = 0 ∧ persE (addS s l).2.editor = 0 ∧ fldE [] (addS s l).2.fields = 0 ∧ srcW (addS s l).2 ≤ srcW s + 4 * l.length + 32 := by
  have hsm := addS_small s l hs
  refine ⟨?_, ?_, hsm, ?_⟩
  · unfold addS; repeat' split
    all_goals rfl
  · unfold addS; repeat' split
    all_goals rfl
  · unfold addS at h0 ⊢
    split at h0
    case isFalse => simp at h0
    rename_i hb
    rw [if_pos hb]
    have hat := before_here 61 l hb
    obtain ⟨v1, v2⟩ := take_line l _ 61 (by decide) hb hat hl
    have ht1 : (trimL (l.take (before 61 l))).length ≤ before 61 l := by have := trimL_le (l.take (before 61 l)); simp at this; omega
    have ht2 : (trimL (l.drop (before 61 l + 1))).length + before 61 l + 1 ≤ l.length := by have := trimL_le (l.drop (before 61 l + 1)); simp at this; omega
    have tl2 : lineB (trimL (l.drop (before 61 l + 1))) = true := by rw [trim_line]; exact v2
    have ti2 := trim_idem (l.drop (before 61 l + 1))
    generalize trimL (l.take (before 61 l)) = k at *
    generalize trimL (l.drop (before 61 l + 1)) = v at *
    generalize before 61 l = nb at *
    split at h0
    · rename_i hk
      split at h0
      · rename_i hp; exact absurd h0 hp
      rename_i hp
      split at h0
      · simp at h0
      rename_i h32
      rw [if_pos hk, if_neg hp, if_neg h32]
      have hp0 : (parseR v).1 = 0 := by simpa using hp
      have htx := text_parse v (parseR v).2 (by rw [← hp0])
      have hsz := parse_len v
      refine ⟨persE_snoc _ _ hA htx, hE, hF, ?_⟩
      simp only [srcW, persW, List.map_append, List.map_cons, List.map_nil, List.sum_append, List.sum_cons, List.sum_nil]
      omega
    · rename_i hk
      split at h0
      · rename_i hk2
        split at h0
        · rename_i hp; exact absurd h0 hp
        rename_i hp
        split at h0
        · simp at h0
        rename_i h32
        rw [if_neg hk, if_pos hk2, if_neg hp, if_neg h32]
        have hp0 : (parseR v).1 = 0 := by simpa using hp
        have htx := text_parse v (parseR v).2 (by rw [← hp0])
        have hsz := parse_len v
        refine ⟨hA, persE_snoc _ _ hE htx, hF, ?_⟩
        simp only [srcW, persW, List.map_append, List.map_cons, List.map_nil, List.sum_append, List.sum_cons, List.sum_nil]
        omega
      · rename_i hk2
        split at h0
        · simp at h0
        rename_i q1
        split at h0
        · simp at h0
        rename_i q2
        split at h0
        · simp at h0
        rename_i q3
        split at h0
        · simp at h0
        rename_i q4
        rw [if_neg hk, if_neg hk2, if_neg q1, if_neg q2, if_neg q3, if_neg q4]
        have hv := line_vis _ tl2
        have h10 : v.contains 10 = false := by simpa using line_no10 _ tl2
        refine ⟨hA, hE, fldE_snoc _ _ _ hF ?_, ?_⟩
        · unfold fldE1
          rw [List.nil_append, if_neg, if_neg, if_neg q3]
          · rintro (((q | q) | q) | q)
            · exact q2 q
            · rw [hv] at q; cases q
            · simp only [] at q; rw [h10] at q; cases q
            · exact q ti2
          · rintro ((q | q) | q)
            · exact q1 q
            · exact hk q
            · exact hk2 q
        · simp only [srcW, fldW, List.map_append, List.map_cons, List.map_nil, List.sum_append, List.sum_cons, List.sum_nil]
          omega
theorem key_len (l : Bs) : (keyL l).length + (typeL l).length ≤ l.length := by
  have := innerL_le l
  unfold keyL typeL
  simp only [List.length_drop, List.length_take]
  omega
theorem lineS_good (st : ASt) (l : Bs) (hl : lineB l = true) (h0 : (lineS st l).1 = 0) (h : Good1 st) : Good1 (lineS st l).2 ∧ stW (lineS st l).2 ≤ stW st + 4 * l.length + 32 := by
  obtain ⟨done, keys, src, ins⟩ := st
  obtain ⟨hc, hlm, hk, hi⟩ := h
  simp only at hc hlm hk hi
  cases ins
  · by_cases he : beginE keys done.length l = 0
    · rw [lineS_beg ⟨done, keys, src, false⟩ l rfl he]
      unfold beginE at he
      split at he
      · cases he
      rename_i q1
      split at he
      · cases he
      rename_i q2
      split at he
      · cases he
      rename_i q3
      split at he
      · cases he
      rename_i q4
      have n1 : nameB (typeL l) = true := by
        cases hn : nameB (typeL l)
        · exact absurd (.inl hn) q2
        · rfl
      have n2 : nameB (keyL l) = true := by
        cases hn : nameB (keyL l)
        · exact absurd (.inr hn) q2
        · rfl
      simp only [Bool.false_eq_true, if_false, List.append_nil] at hk
      have hkl := key_len l
      refine ⟨⟨hc, hlm, by simp [hk], fun _ => ⟨by simp only; omega, n1, n2, ?_, ⟨by simp, by simp, by simp⟩, rfl, rfl, rfl⟩⟩, ?_⟩
      · rw [← hk]; simpa using q3
      · simp only [stW, srcW, persW, fldW, if_true, List.map_nil, List.sum_nil, Bool.false_eq_true, if_false]
        omega
    · rw [lineS_err ⟨done, keys, src, false⟩ l rfl he] at h0
      exact absurd h0 he
  · obtain ⟨g1, g2, g3, g4, g5, g6, g7, g8⟩ := hi rfl
    by_cases hq : l = [125]
    · subst hq
      cases ht : hasB src.fields [116, 105, 116, 108, 101]
      · rw [lineS_none ⟨done, keys, src, true⟩ rfl ht] at h0
        cases h0
      · rw [lineS_done ⟨done, keys, src, true⟩ rfl ht]
        have hE : srcE src = 0 := by
          unfold srcE
          obtain ⟨s1, s2, s3⟩ := g5
          rw [if_neg (by omega), g6, g7, g8]
          simp only [ne_eq, not_true_eq_false, if_false]
          unfold kTitle
          rw [ht]; rfl
        refine ⟨⟨chkE_snoc _ _ _ hc g2 g3 (by simpa using g4) hE, by simp; omega, ?_, fun q => by cases q⟩, ?_⟩
        · simp only [if_true] at hk
          simp [hk]
        · simp [stW, listW]; omega
    · rw [lineS_add ⟨done, keys, src, true⟩ l rfl hq] at h0 ⊢
      obtain ⟨a1, a2, a3, a4, a5, a6, a7⟩ := addS_good src l hl h0 g5 g6 g7 g8
      refine ⟨⟨hc, hlm, ?_, fun _ => ⟨g1, ?_, ?_, ?_, a3, a4, a5, a6⟩⟩, ?_⟩
      · simp only [if_true] at hk ⊢; rw [a1]; exact hk
      · show nameB (addS src l).2.type = true; rw [a2]; exact g2
      · show nameB (addS src l).2.key = true; rw [a1]; exact g3
      · show (done.map (·.key)).contains (addS src l).2.key = false; rw [a1]; exact g4
      · simp only [stW, if_true]; omega
theorem runB_good (ls : List Bs) : ∀ (i : Nat) (st st' : ASt), (∀ x ∈ ls, lineB x = true) → Good1 st → runB ls i st = (none, st') → Good1 st' ∧ stW st' ≤ stW st + (ls.map fun x => 4 * x.length + 32).sum := by
  induction ls with
  | nil => intro i st st' _ h hr; simp [runB] at hr; subst hr; exact ⟨h, by simp⟩
  | cons l ls ih =>
    intro i st st' hl h hr
    unfold runB at hr
    have hl' : ∀ x ∈ ls, lineB x = true := fun x hx => hl x (by simp [hx])
    rw [List.map_cons, List.sum_cons]
    split at hr
    · obtain ⟨r1, r2⟩ := ih _ _ _ hl' h hr
      exact ⟨r1, by omega⟩
    · split at hr
      · cases hr
      rename_i h0
      have ht := trimL_le l
      obtain ⟨g1, g2⟩ := lineS_good st (trimL l) (by rw [trim_line]; exact hl l (by simp)) (by simpa using h0) h
      obtain ⟨r1, r2⟩ := ih _ _ _ hl' g1 hr
      exact ⟨r1, by omega⟩
theorem lines_weight (s : Bs) : ((linesL s).map fun x => 4 * x.length + 32).sum ≤ 36 * s.length + 36 := by
  have e : ∀ xs : List Bs, (xs.map fun x => 4 * x.length + 32).sum ≤ 32 * xs.length + 4 * (xs.map (fun x => x.length)).sum := by
    intro xs
    induction xs with
    | nil => simp
    | cons x xs ih => simp only [List.map_cons, List.sum_cons, List.length_cons]; omega
  have e2 : ∀ xs : List Bs, (xs.map (fun x => x.length + 1)).sum = xs.length + (xs.map (fun x => x.length)).sum := by
    intro xs
    induction xs with
    | nil => simp
    | cons x xs ih => simp only [List.map_cons, List.sum_cons, List.length_cons, ih]; omega
  have h := runC_sum 10 s
  rw [e2] at h
  have h1 := e (linesL s)
  unfold linesL at h1 ⊢
  have h2 : ((runC 10 s).1 ++ (if (runC 10 s).2 = [] then [] else [(runC 10 s).2])).length ≤ (runC 10 s).1.length + 1 := by
    rw [List.length_append]; split <;> simp
  have h3 : (((runC 10 s).1 ++ (if (runC 10 s).2 = [] then [] else [(runC 10 s).2])).map (fun x => x.length)).sum ≤ ((runC 10 s).1.map (fun x => x.length)).sum + (runC 10 s).2.length := by
    rw [List.map_append, List.sum_append]; split <;> simp
  omega
theorem runB_err (ls : List Bs) : ∀ (i : Nat) (st st' : ASt) (j : Nat) (e : Int), runB ls i st = (some (j, e), st') → e ≠ 0 := by
  induction ls with
  | nil => intro i st st' j e h; simp [runB] at h
  | cons l ls ih =>
    intro i st st' j e h
    unfold runB at h
    split at h
    · exact ih _ _ _ _ _ h
    · split at h
      · rename_i h0
        simp only [Prod.mk.injEq, Option.some.injEq] at h
        rw [← h.1.2]; exact h0
      · exact ih _ _ _ _ _ h
/-- What is read: its check, and its weight. -/
theorem bib_read (s : Bs) (h : (bibR s).2.2 = 0) : (bibR s).2.1 = 0 ∧ checkE (bibR s).1 = 0 ∧ listW (bibR s).1 ≤ 36 * s.length + 36 := by
  unfold bibR at h ⊢
  split at h
  · cases h
  rename_i h1
  split at h
  · cases h
  rename_i h2
  rw [if_neg h1, if_neg h2]
  have hw := lines_weight s
  have hv : validB (bs s) = true := by simpa using h2
  have hg := runB_good (linesL s) 0 st0
  generalize hr : runB (linesL s) 0 st0 = r at *
  obtain ⟨o, st⟩ := r
  cases o with
  | some p =>
    exfalso
    obtain ⟨i, e⟩ := p
    simp only at h
    exact runB_err _ _ _ _ _ _ hr h
  | none =>
    obtain ⟨g1, g2⟩ := hg st (lines_valid s hv) good0 rfl
    simp only at h ⊢
    split at h
    · cases h
    rename_i hi
    rw [if_neg hi]
    have z : stW st0 = 0 := rfl
    have z2 : stW st = listW st.done := by unfold stW; rw [if_neg hi]; rfl
    refine ⟨rfl, ?_, by show listW st.done ≤ _; omega⟩
    show checkE st.done = 0
    unfold checkE
    rw [if_neg (by have := g1.lim; omega)]; exact g1.chk
theorem bib_nil (s : Bs) (h : (bibR s).2.2 ≠ 0) : (bibR s).1 = [] := by
  unfold bibR at h ⊢
  split at h
  · rename_i h1; rw [if_pos h1]
  rename_i h1
  rw [if_neg h1]
  split at h
  · rename_i h2; rw [if_pos h2]
  rename_i h2
  rw [if_neg h2]
  split at h
  · rfl
  · rename_i st hr
    split at h
    · rename_i h3; simp only [h3, if_true]
    · exact absurd rfl h
end Go.Proofs.YtflpkadknljpbaaDoor

/- bib.Text. Conditions: lengths. -/
set_option linter.all false
namespace Go.Proofs.YtflpkadknljpbaaDoor
open Go.RowKit

/-- The lines written so far. -/
structure OutB (w0 : World) (v : Value) (xs : List Bs) (wr : World) : Prop where
  own : wr.ownsRow w0.heap.size 9 1 v xs.length (strCells xs)
  kept : Kept w0 wr
/-- The lines written so far, beside the block of the source in hand. -/
structure OutI (w0 : World) (sb : Nat) (cs : Array Value) (v : Value) (xs : List Bs) (wr : World) : Prop where
  own : wr.ownsRow w0.heap.size 9 1 v xs.length (strCells xs)
  blk : Blk wr sb 48 cs
  ne : v.ownBlock ≠ some sb
  kept : Kept w0 wr
theorem OutB.hold {w0 : World} {v : Value} {xs : List Bs} {wr : World} (h : OutB w0 v xs wr) (cs : Array Value) : OutI w0 wr.heap.size cs v xs (wr.alloc (.cells cs 48)) :=
  ⟨own_kept h.own (kept_alloc _ _), Blk.new wr _ cs, fun q => own_ne h.own wr.heap.size (Nat.le_refl _) q.symm, h.kept.trans (kept_alloc _ _)⟩
theorem OutI.drop {w0 : World} {sb : Nat} {cs : Array Value} {v : Value} {xs : List Bs} {wr : World} (h : OutI w0 sb cs v xs wr) : OutB w0 v xs wr := ⟨h.own, h.kept⟩
theorem OutI.next {w0 : World} {sb : Nat} {cs : Array Value} {v : Value} {xs : List Bs} {wr w' : World} (h : OutI w0 sb cs v xs wr) (k : Kept wr w') : OutI w0 sb cs v xs w' :=
  ⟨own_kept h.own k, h.blk.kept k, h.ne, h.kept.trans k⟩
theorem OutI.push {w0 : World} {sb : Nat} {cs : Array Value} {v : Value} {xs : List Bs} {wr w' : World} {y : Bs} {g cap H : Nat} (h : OutI w0 sb cs v xs wr)
    (ho : w'.ownsRow w0.heap.size 9 1 (.slice (some ⟨g, 0, none⟩) (xs.length + 1) cap) (xs.length + 1) (strCells xs ++ [.string (bs y)])) (hg : wr.grownBy w' v.ownBlock) (hat : v.ownBlock = some g ∨ g = H) (hH : wr.heap.size = H) :
    OutI w0 sb cs (.slice (some ⟨g, 0, none⟩) (xs.length + 1) cap) (xs ++ [y]) w' := by
  refine ⟨?_, ?_, ?_, ?_⟩
  · rw [← strCells_snoc] at ho
    simpa using ho
  · exact (hg.block sb h.blk.lt (fun q => h.ne q.symm)).trans h.blk
  · intro q
    simp [Value.ownBlock] at q
    subst q
    rcases hat with e | e
    · exact h.ne e
    · have := h.blk.lt; omega
  · exact h.kept.trans' (grown_below h.own hg h.kept.size)
theorem textR_len (f g p s : Bs) : (textR f g p s).length ≤ f.length + g.length + p.length + s.length + 9 := by
  unfold textR textS
  split
  · simp only [List.length_append]
    split <;> split <;> (try split) <;> simp <;> omega
  · simp
theorem pers_next (ps : List P4) (h : Bs) (k : Nat) (p : P4) (hx : ps[k]? = some p) : (ps.take (k + 1)).map (persLine h) = (ps.take k).map (persLine h) ++ [persLine h p] := by
  obtain ⟨hk, rfl⟩ := List.getElem?_eq_some_iff.1 hx
  rw [List.take_succ_eq_append_getElem hk, List.map_append]; rfl
theorem pers_len (ps : List P4) (h : Bs) (k : Nat) : ((ps.take k).map (persLine h)).length ≤ ps.length := by simp; omega
theorem fld_next (ps : List Pr) (k : Nat) (p : Pr) (hx : ps[k]? = some p) : (ps.take (k + 1)).map fldLine = (ps.take k).map fldLine ++ [fldLine p] := by
  obtain ⟨hk, rfl⟩ := List.getElem?_eq_some_iff.1 hx
  rw [List.take_succ_eq_append_getElem hk, List.map_append]; rfl
theorem fld_len (ps : List Pr) (k : Nat) : ((ps.take k).map fldLine).length ≤ ps.length := by simp; omega
set_option maxRecDepth 100000 in
set_option maxHeartbeats 12800000 in
theorem btext_any (v : Value) (ss : List SrcT) (w : World) (hg : Gnd w) (hv : Srcs w v ss) (hs : ∀ s ∈ ss, SmallS s) (hl : ss.length ≤ 1000000) (hj : (joinLn (outL ss)).length ≤ 100000000) :
    Calls Tryd.prog 41 #[v] w fun e w' => e = .returned (.tuple #[.string (bs (textL ss)), .int .i64 (checkE ss)]) ∧ Kept w w' := by
  obtain ⟨i0', hi', hz0, hz1, hz2⟩ := info_parts Tryd.infoStr
  have HV := Lib.hid hv
  have HCK := Lib.hid (check_any v ss w hg hv hs hl)
  have HTX : Hid (textL ss = if checkE ss = 0 then joinLn (outL ss) else []) := rfl
  have HCS := Lib.hid (chk_src ss)
  generalize checkE ss = E at *
  generalize textL ss = X at *
  obtain ⟨a, c, rfl, hc, hh⟩ := hv
  clear hh
  by_cases hE : E = 0
  case neg =>
    rw [if_neg hE] at HTX
    go_enter Tryd.func41, Tryd.ntmps41
    go_wp2_with fail
    refine (HCK.out).mono ?_
    rintro e w1 ⟨rfl, hk1⟩
    have HK1 := Lib.hid hk1
    clear hk1
    go_wp2_with fail
    go_ret2
    exact ⟨by rw [HTX.out]; rfl, HK1.out⟩
  subst hE
  rw [if_pos rfl] at HTX
  obtain ⟨hl256, hsrc⟩ := HCS.out rfl
  have HSRC := Lib.hid hsrc
  have HLEN := Lib.hid (outL_len ss hsrc)
  have HNEXT := Lib.hid (outL_snoc ss)
  clear hsrc HCS
  go_enter Tryd.func41, Tryd.ntmps41
  go_wp2_with fail
  refine (HCK.out).mono ?_
  rintro e w1 ⟨rfl, hk1⟩
  have HK1 := Lib.hid hk1
  have HG1 := Lib.hid (hg.kept hk1)
  have HV1 := Lib.hid (HV.out.kept hk1)
  clear hk1 HV HCK
  go_wp2_with fail
  go_loopw [5, 25] (fun v i wr => ∃ k : Nat, k ≤ ss.length ∧ i = .int .i64 k ∧ Hid (OutB w1 v (outL (ss.take k)) wr)) (fun _ i _ => ss.length - (intOf i).toNat)
  case atStart => exact ⟨0, Nat.zero_le _, rfl, ⟨by simpa [outL, strCells] using World.ownsRow_nil w1 w1.heap.size 9 1, Kept.refl _⟩⟩
  case round =>
    obtain ⟨k, hk, rfl, HB⟩ := hrel
    by_cases hlt : k < ss.length
    case neg =>
      obtain rfl : k = ss.length := by omega
      rw [List.take_of_length_le (Nat.le_refl _)] at HB
      have HLN := Lib.hid (HLEN.out ss.length (Nat.le_refl _))
      rw [List.take_of_length_le (Nat.le_refl _)] at HLN
      have HJ := Lib.hid (ljoin_any _ (outL ss) wr (Strs.own HB.out.own) (by have := HLN.out; omega) hj)
      rw [← HTX.out] at HJ
      clear HLEN HNEXT HSRC
      go_wp2_with fail
      refine (HJ.out).mono ?_
      rintro e w2 ⟨rfl, hk2⟩
      have HK2 := Lib.hid ((HK1.out.trans HB.out.kept).trans hk2)
      clear hk2
      go_wp2_with fail
      go_ret2
      exact ⟨rfl, HK2.out⟩
    obtain ⟨s, hx⟩ : ∃ x, ss[k]? = some x := ⟨_, List.getElem?_eq_getElem hlt⟩
    have HSM := Lib.hid (hs s (List.mem_of_getElem? hx))
    obtain ⟨hA32, hE32, hF24, _⟩ := srcE_parts s (HSRC.out k s hx)
    have HNX := Lib.hid (HNEXT.out k s hx)
    have hlen := HLEN.out k hk
    obtain ⟨a', c', hv', hc', h3⟩ := HV1.out
    obtain ⟨rfl, hdead, rfl⟩ := Value.slice.inj hv'
    clear hdead hc'
    obtain ⟨g, o, rfl, hg1, hcc⟩ := h3 (by omega)
    obtain ⟨vA, vE, vF, s0, s1, s2, s3, s4, pA, pE, pF⟩ := hcc k s hx
    have t0 := (HB.out.kept.cell (p := ⟨g, _, none⟩) hg1).trans s0
    have t1 := (HB.out.kept.cell (p := ⟨g, _, none⟩) hg1).trans s1
    have t2 := (HB.out.kept.cell (p := ⟨g, _, none⟩) hg1).trans s2
    have t3 := (HB.out.kept.cell (p := ⟨g, _, none⟩) hg1).trans s3
    have t4 := (HB.out.kept.cell (p := ⟨g, _, none⟩) hg1).trans s4
    have hg' : g < wr.heap.size := Nat.lt_of_lt_of_le hg1 HB.out.kept.size
    clear s0 s1 s2 s3 s4
    have hsz1 := HB.out.kept.size
    have HP1 := Lib.hid pA
    have HP2 := Lib.hid pE
    have HP3 := Lib.hid pF
    obtain ⟨aA, cA, rfl, zA, zA'⟩ := pA
    obtain ⟨aE, cE, rfl, zE, zE'⟩ := pE
    obtain ⟨aF, cF, rfl, zF, zF'⟩ := pF
    clear zA' zE' zF'
    have HSM1 := Lib.hid HSM.out.1
    have HSM2 := Lib.hid HSM.out.2.1
    have HSM3 := Lib.hid HSM.out.2.2.1
    have HSRCL : Hid (srcLines s = [headLine s] ++ s.author.map (persLine hAuthor) ++ s.editor.map (persLine hEditor) ++ s.fields.map fldLine ++ [[125]]) := rfl
    have HHL : Hid (headLine s = 64 :: (s.type ++ 123 :: (s.key ++ [44]))) := by show _ = _; simp [headLine]
    have hkl : s.key.length ≤ 1000000 := HSM.out.2.2.2.2.2.2.1
    have htl : s.type.length ≤ 1000000 := HSM.out.2.2.2.2.2.2.2
    have HIN := Lib.hid (HB.out.hold #[.string (bs s.key), .string (bs s.type), .slice aA s.author.length cA, .slice aE s.editor.length cE, .slice aF s.fields.length cF])
    have HKW := Lib.hid HB.out.kept
    clear hcc h3 hv' hx HB HSM
    obtain ⟨key, type, au, ed, fs⟩ := s
    simp only at *
    generalize headLine ⟨key, type, au, ed, fs⟩ = hdl at *
    generalize srcLines ⟨key, type, au, ed, fs⟩ = sls at *
    generalize outL (ss.take k) = xs0 at *
    generalize wr = wo at *
    have hxl0 : xs0.length ≤ 24000 := by omega
    by_cases hk0 : k = 0
    · rw [if_pos hk0, List.append_nil] at HNX
      have hkd : decide (0 < k) = false := by simp; omega
      clear hk0
      obtain ⟨ys5, HY5⟩ : ∃ ys : List Bs, Hid ((xs0 : List Bs) = ys) := ⟨_, Lib.hid rfl⟩
      rw [HY5.out] at HIN
      have hyl5 : ys5.length ≤ 30000 := by rw [← HY5.out]; first | omega | (simp only [List.length_append, List.length_map, List.length_cons, List.length_nil]; omega)
      go_wp2_with (at_builtin; refine wpList_append_lies _ rfl _ _ 40 rfl w1.heap.size 9 i0' (.string ⟨#[]⟩) 1 16 Tryd.underlying40 hi' hz0 hz1 hz2 rfl (by decide) _ _ _ rfl (HIN.out.next (kept_alloc _ _)).own ⟨wo.heap.size + 1, 0, none⟩ 1 1 [.string (bs (64 :: (type ++ 123 :: (key ++ [44]))))] rfl rfl ?_ ?_ ?_ ?_ ?_ ?_ _ rfl ?_)
      · exact new_cells _ #[.string (bs (64 :: (type ++ 123 :: (key ++ [44]))))] _ _ (by simp)
      · intro u hu; simp at hu; subst hu; rfl
      · decide
      · unfold maxLen; omega
      · omega
      · have := HIN.out.kept.size; first | omega | (simp only [World.size_alloc] at this; omega) | (simp only [World.size_alloc]; omega) | (simp only [World.size_alloc] at this ⊢; omega)
      intro g5 cap5 w5 hown5 hgrow5 hat5 hlt5
      have HO5 := Lib.hid ((HIN.out.next (kept_alloc _ _)).push hown5 hgrow5 hat5 (by first | rfl | simp))
      obtain ⟨vv5, hvv⟩ : ∃ v, Value.slice (some ⟨g5, 0, none⟩) (ys5.length + 1) cap5 = v := ⟨_, rfl⟩
      rw [hvv] at HO5 ⊢
      clear hvv
      rw [← HY5.out] at HO5 HIN
      clear hyl5
      clear hown5 hgrow5 hat5 hlt5
      rw [← HHL.out] at HO5
      have HSZ : Hid (∀ {v xs w}, OutI w1 wo.heap.size #[.string (bs key), .string (bs type), .slice aA au.length cA, .slice aE ed.length cE, .slice aF fs.length cF] v xs w → Kept w1 w) := fun h => h.kept
      have e2 : w5.cell? ⟨wo.heap.size, 2, none⟩ = some (.slice aA au.length cA) := HO5.out.blk.cell 2 _ rfl
      have zb := HO5.out.blk.lt
      go_wp2_with fail
      clear e2 zb
      go_loopw [5, 49] (fun v i wr => ∃ k : Nat, k ≤ au.length ∧ i = .int .i64 k ∧ Hid (OutI w1 wo.heap.size #[.string (bs key), .string (bs type), .slice aA au.length cA, .slice aE ed.length cE, .slice aF fs.length cF] v ((xs0 ++ [hdl]) ++ (au.take k).map (persLine hAuthor)) wr)) (fun _ i _ => au.length - (intOf i).toNat)
      case atStart => exact ⟨0, Nat.zero_le _, rfl, Lib.hid (by simpa using HO5.out)⟩
      case round =>
        obtain ⟨k1, hk1, rfl, HI1⟩ := hrel
        by_cases hlt1 : k1 < au.length
        case pos =>
          obtain ⟨p, hx⟩ : ∃ x, au[k1]? = some x := ⟨_, List.getElem?_eq_getElem hlt1⟩
          have HN1 := Lib.hid (pers_next au hAuthor k1 p hx)
          have HSM := Lib.hid (HSM1.out p (List.mem_of_getElem? hx))
          have hln := pers_len au hAuthor k1
          obtain ⟨a', c', hv', hc', h3'⟩ := HP1.out.kept (HSZ.out HI1.out)
          obtain ⟨rfl, hdead, rfl⟩ := Value.slice.inj hv'
          clear hdead hc'
          obtain ⟨gp, op, rfl, hg', hcc⟩ := h3' (by omega)
          obtain ⟨d0, d1, d2, d3⟩ := hcc k1 p hx
          have HLL : Hid (persLine hAuthor p = [97, 117, 116, 104, 111, 114, 32, 61, 32] ++ textR p.1 p.2.1 p.2.2.1 p.2.2.2) := rfl
          obtain ⟨pf, pg, pp, ps⟩ := p
          simp only at d0 d1 d2 d3 HSM HLL
          have HT := Lib.hid (fun w hg => text_any pf pg pp ps w hg (by have := HSM.out; omega))
          have HGR := Lib.hid (HG1.out.kept HI1.out.kept)
          have hXl := textR_len pf pg pp ps
          have hXs := HSM.out
          clear hcc h3' hv' hx
          generalize textE pf pg pp ps = E at *
          generalize textR pf pg pp ps = X at *
          generalize (au.take k1).map (persLine hAuthor) = pre at *
          go_wp2_with fail
          refine (HT.out _ (HGR.out.kept (kept_alloc _ _))).mono ?_
          rintro e w3 ⟨rfl, hk3⟩
          have HO3 := Lib.hid (HI1.out.next ((kept_alloc _ _).trans hk3))
          clear hk3 d0 d1 d2 d3 hg'
          obtain ⟨ys4, HY4⟩ : ∃ ys : List Bs, Hid (((xs0 ++ [hdl]) ++ pre : List Bs) = ys) := ⟨_, Lib.hid rfl⟩
          rw [HY4.out] at HO3
          have hyl4 : ys4.length ≤ 30000 := by rw [← HY4.out]; first | omega | (simp only [List.length_append, List.length_map, List.length_cons, List.length_nil]; omega)
          go_wp2_with (at_builtin; refine wpList_append_lies _ rfl _ _ 40 rfl w1.heap.size 9 i0' (.string ⟨#[]⟩) 1 16 Tryd.underlying40 hi' hz0 hz1 hz2 rfl (by decide) _ _ _ rfl (HO3.out.next (kept_alloc _ _)).own ⟨w3.heap.size, 0, none⟩ 1 1 [.string (bs ([97, 117, 116, 104, 111, 114, 32, 61, 32] ++ X))] rfl rfl ?_ ?_ ?_ ?_ ?_ ?_ _ rfl ?_)
          · exact new_cells _ #[.string (bs ([97, 117, 116, 104, 111, 114, 32, 61, 32] ++ X))] _ _ (by simp)
          · intro u hu; simp at hu; subst hu; rfl
          · decide
          · unfold maxLen; omega
          · omega
          · have := HO3.out.kept.size; first | omega | (simp only [World.size_alloc] at this; omega) | (simp only [World.size_alloc]; omega) | (simp only [World.size_alloc] at this ⊢; omega)
          intro g4 cap4 w4 hown4 hgrow4 hat4 hlt4
          have HO4 := Lib.hid ((HO3.out.next (kept_alloc _ _)).push hown4 hgrow4 hat4 (by first | rfl | simp))
          obtain ⟨vv4, hvv⟩ : ∃ v, Value.slice (some ⟨g4, 0, none⟩) (ys4.length + 1) cap4 = v := ⟨_, rfl⟩
          rw [hvv] at HO4 ⊢
          clear hvv
          rw [← HY4.out] at HO4 HO3
          clear hyl4
          clear hown4 hgrow4 hat4 hlt4
          go_wp2_with fail
          go_roundw
          case rel => exact ⟨k1 + 1, by omega, by go_num, by rw [HN1.out, HLL.out, ← List.append_assoc]; exact HO4.out⟩
          case measure => simp [intOf]; omega
        obtain rfl : k1 = au.length := by omega
        rw [List.take_of_length_le (Nat.le_refl _)] at HI1
        clear hlt1 hk1
        have e3 : wr.cell? ⟨wo.heap.size, 3, none⟩ = some (.slice aE ed.length cE) := HI1.out.blk.cell 3 _ rfl
        have zb := HI1.out.blk.lt
        go_wp2_with fail
        clear e3 zb
        go_loopw [5, 67] (fun v i wr => ∃ k : Nat, k ≤ ed.length ∧ i = .int .i64 k ∧ Hid (OutI w1 wo.heap.size #[.string (bs key), .string (bs type), .slice aA au.length cA, .slice aE ed.length cE, .slice aF fs.length cF] v ((xs0 ++ [hdl] ++ au.map (persLine hAuthor)) ++ (ed.take k).map (persLine hEditor)) wr)) (fun _ i _ => ed.length - (intOf i).toNat)
        case atStart => exact ⟨0, Nat.zero_le _, rfl, Lib.hid (by simpa using HI1.out)⟩
        case round =>
          obtain ⟨k2, hk2, rfl, HI2⟩ := hrel
          by_cases hlt2 : k2 < ed.length
          case pos =>
            obtain ⟨p, hx⟩ : ∃ x, ed[k2]? = some x := ⟨_, List.getElem?_eq_getElem hlt2⟩
            have HN2 := Lib.hid (pers_next ed hEditor k2 p hx)
            have HSM := Lib.hid (HSM2.out p (List.mem_of_getElem? hx))
            have hln := pers_len ed hEditor k2
            obtain ⟨a', c', hv', hc', h3'⟩ := HP2.out.kept (HSZ.out HI2.out)
            obtain ⟨rfl, hdead, rfl⟩ := Value.slice.inj hv'
            clear hdead hc'
            obtain ⟨gp, op, rfl, hg', hcc⟩ := h3' (by omega)
            obtain ⟨d0, d1, d2, d3⟩ := hcc k2 p hx
            have HLL : Hid (persLine hEditor p = [101, 100, 105, 116, 111, 114, 32, 61, 32] ++ textR p.1 p.2.1 p.2.2.1 p.2.2.2) := rfl
            obtain ⟨pf, pg, pp, ps⟩ := p
            simp only at d0 d1 d2 d3 HSM HLL
            have HT := Lib.hid (fun w hg => text_any pf pg pp ps w hg (by have := HSM.out; omega))
            have HGR := Lib.hid (HG1.out.kept HI2.out.kept)
            have hXl := textR_len pf pg pp ps
            have hXs := HSM.out
            clear hcc h3' hv' hx
            generalize textE pf pg pp ps = E at *
            generalize textR pf pg pp ps = X at *
            generalize (ed.take k2).map (persLine hEditor) = pre at *
            go_wp2_with fail
            refine (HT.out _ (HGR.out.kept (kept_alloc _ _))).mono ?_
            rintro e w3 ⟨rfl, hk3⟩
            have HO3 := Lib.hid (HI2.out.next ((kept_alloc _ _).trans hk3))
            clear hk3 d0 d1 d2 d3 hg'
            obtain ⟨ys4, HY4⟩ : ∃ ys : List Bs, Hid (((xs0 ++ [hdl] ++ au.map (persLine hAuthor)) ++ pre : List Bs) = ys) := ⟨_, Lib.hid rfl⟩
            rw [HY4.out] at HO3
            have hyl4 : ys4.length ≤ 30000 := by rw [← HY4.out]; first | omega | (simp only [List.length_append, List.length_map, List.length_cons, List.length_nil]; omega)
            go_wp2_with (at_builtin; refine wpList_append_lies _ rfl _ _ 40 rfl w1.heap.size 9 i0' (.string ⟨#[]⟩) 1 16 Tryd.underlying40 hi' hz0 hz1 hz2 rfl (by decide) _ _ _ rfl (HO3.out.next (kept_alloc _ _)).own ⟨w3.heap.size, 0, none⟩ 1 1 [.string (bs ([101, 100, 105, 116, 111, 114, 32, 61, 32] ++ X))] rfl rfl ?_ ?_ ?_ ?_ ?_ ?_ _ rfl ?_)
            · exact new_cells _ #[.string (bs ([101, 100, 105, 116, 111, 114, 32, 61, 32] ++ X))] _ _ (by simp)
            · intro u hu; simp at hu; subst hu; rfl
            · decide
            · unfold maxLen; omega
            · omega
            · have := HO3.out.kept.size; first | omega | (simp only [World.size_alloc] at this; omega) | (simp only [World.size_alloc]; omega) | (simp only [World.size_alloc] at this ⊢; omega)
            intro g4 cap4 w4 hown4 hgrow4 hat4 hlt4
            have HO4 := Lib.hid ((HO3.out.next (kept_alloc _ _)).push hown4 hgrow4 hat4 (by first | rfl | simp))
            obtain ⟨vv4, hvv⟩ : ∃ v, Value.slice (some ⟨g4, 0, none⟩) (ys4.length + 1) cap4 = v := ⟨_, rfl⟩
            rw [hvv] at HO4 ⊢
            clear hvv
            rw [← HY4.out] at HO4 HO3
            clear hyl4
            clear hown4 hgrow4 hat4 hlt4
            go_wp2_with fail
            go_roundw
            case rel => exact ⟨k2 + 1, by omega, by go_num, by rw [HN2.out, HLL.out, ← List.append_assoc]; exact HO4.out⟩
            case measure => simp [intOf]; omega
          obtain rfl : k2 = ed.length := by omega
          rw [List.take_of_length_le (Nat.le_refl _)] at HI2
          clear hlt2 hk2
          have e4 : wr.cell? ⟨wo.heap.size, 4, none⟩ = some (.slice aF fs.length cF) := HI2.out.blk.cell 4 _ rfl
          have zb := HI2.out.blk.lt
          go_wp2_with fail
          clear e4 zb
          go_loopw [5, 85] (fun v i wr => ∃ k : Nat, k ≤ fs.length ∧ i = .int .i64 k ∧ Hid (OutI w1 wo.heap.size #[.string (bs key), .string (bs type), .slice aA au.length cA, .slice aE ed.length cE, .slice aF fs.length cF] v ((xs0 ++ [hdl] ++ au.map (persLine hAuthor) ++ ed.map (persLine hEditor)) ++ (fs.take k).map fldLine) wr)) (fun _ i _ => fs.length - (intOf i).toNat)
          case atStart => exact ⟨0, Nat.zero_le _, rfl, Lib.hid (by simpa using HI2.out)⟩
          case round =>
            obtain ⟨k3, hk3, rfl, HI3⟩ := hrel
            by_cases hlt3 : k3 < fs.length
            case pos =>
              obtain ⟨p, hx⟩ : ∃ x, fs[k3]? = some x := ⟨_, List.getElem?_eq_getElem hlt3⟩
              have HN3 := Lib.hid (fld_next fs k3 p hx)
              have hln := fld_len fs k3
              obtain ⟨a', c', hv', hc', h3'⟩ := HP3.out.kept (HSZ.out HI3.out)
              obtain ⟨rfl, hdead, rfl⟩ := Value.slice.inj hv'
              clear hdead hc'
              obtain ⟨gp, op, rfl, hg', hcc⟩ := h3' (by omega)
              obtain ⟨d0, d1⟩ := hcc k3 p hx
              have HLL : Hid (fldLine p = p.1 ++ 32 :: 61 :: 32 :: p.2) := by show _ = _; simp [fldLine]
              obtain ⟨hx1, hx2⟩ := HSM3.out p (List.mem_of_getElem? hx)
              obtain ⟨x, y⟩ := p
              simp only at d0 d1 HLL hx1 hx2
              clear hcc h3' hv' hx
              generalize (fs.take k3).map fldLine = pre at *
              have HO3 := Lib.hid (HI3.out.next (kept_alloc _ (.cells #[.string (bs x), .string (bs y)] 78)))
              obtain ⟨ys4, HY4⟩ : ∃ ys : List Bs, Hid (((xs0 ++ [hdl] ++ au.map (persLine hAuthor) ++ ed.map (persLine hEditor)) ++ pre : List Bs) = ys) := ⟨_, Lib.hid rfl⟩
              rw [HY4.out] at HO3
              have hyl4 : ys4.length ≤ 30000 := by rw [← HY4.out]; first | omega | (simp only [List.length_append, List.length_map, List.length_cons, List.length_nil]; omega)
              go_wp2_with (at_builtin; refine wpList_append_lies _ rfl _ _ 40 rfl w1.heap.size 9 i0' (.string ⟨#[]⟩) 1 16 Tryd.underlying40 hi' hz0 hz1 hz2 rfl (by decide) _ _ _ rfl (HO3.out.next (kept_alloc _ _)).own ⟨wr.heap.size + 1, 0, none⟩ 1 1 [.string (bs (x ++ 32 :: 61 :: 32 :: y))] rfl rfl ?_ ?_ ?_ ?_ ?_ ?_ _ rfl ?_)
              · exact new_cells _ #[.string (bs (x ++ 32 :: 61 :: 32 :: y))] _ _ (by simp)
              · intro u hu; simp at hu; subst hu; rfl
              · decide
              · unfold maxLen; omega
              · omega
              · have := HO3.out.kept.size; first | omega | (simp only [World.size_alloc] at this; omega) | (simp only [World.size_alloc]; omega) | (simp only [World.size_alloc] at this ⊢; omega)
              intro g4 cap4 w4 hown4 hgrow4 hat4 hlt4
              have HO4 := Lib.hid ((HO3.out.next (kept_alloc _ _)).push hown4 hgrow4 hat4 (by first | rfl | simp))
              obtain ⟨vv4, hvv⟩ : ∃ v, Value.slice (some ⟨g4, 0, none⟩) (ys4.length + 1) cap4 = v := ⟨_, rfl⟩
              rw [hvv] at HO4 ⊢
              clear hvv
              rw [← HY4.out] at HO4 HO3
              clear hyl4
              clear hown4 hgrow4 hat4 hlt4
              go_wp2_with fail
              go_roundw
              case rel => exact ⟨k3 + 1, by omega, by go_num, by rw [HN3.out, HLL.out, ← List.append_assoc]; exact HO4.out⟩
              case measure => simp [intOf]; omega
            obtain rfl : k3 = fs.length := by omega
            rw [List.take_of_length_le (Nat.le_refl _)] at HI3
            clear hlt3 hk3
            obtain ⟨ys6, HY6⟩ : ∃ ys : List Bs, Hid (((xs0 ++ [hdl] ++ au.map (persLine hAuthor) ++ ed.map (persLine hEditor)) ++ fs.map fldLine : List Bs) = ys) := ⟨_, Lib.hid rfl⟩
            rw [HY6.out] at HI3
            have hyl6 : ys6.length ≤ 30000 := by rw [← HY6.out]; first | omega | (simp only [List.length_append, List.length_map, List.length_cons, List.length_nil]; omega)
            go_wp2_with (at_builtin; refine wpList_append_lies _ rfl _ _ 40 rfl w1.heap.size 9 i0' (.string ⟨#[]⟩) 1 16 Tryd.underlying40 hi' hz0 hz1 hz2 rfl (by decide) _ _ _ rfl (HI3.out.next (kept_alloc _ _)).own ⟨wr.heap.size, 0, none⟩ 1 1 [.string (bs ([125]))] rfl rfl ?_ ?_ ?_ ?_ ?_ ?_ _ rfl ?_)
            · exact new_cells _ #[.string (bs ([125]))] _ _ (by simp)
            · intro u hu; simp at hu; subst hu; rfl
            · decide
            · unfold maxLen; omega
            · omega
            · have := HI3.out.kept.size; first | omega | (simp only [World.size_alloc] at this; omega) | (simp only [World.size_alloc]; omega) | (simp only [World.size_alloc] at this ⊢; omega)
            intro g6 cap6 w6 hown6 hgrow6 hat6 hlt6
            have HO6 := Lib.hid ((HI3.out.next (kept_alloc _ _)).push hown6 hgrow6 hat6 (by first | rfl | simp))
            obtain ⟨vv6, hvv⟩ : ∃ v, Value.slice (some ⟨g6, 0, none⟩) (ys6.length + 1) cap6 = v := ⟨_, rfl⟩
            rw [hvv] at HO6 ⊢
            clear hvv
            rw [← HY6.out] at HO6 HI3
            clear hyl6
            clear hown6 hgrow6 hat6 hlt6
            go_wp2_with fail
            go_roundw
            case rel => exact ⟨k + 1, by omega, by go_num, ⟨by rw [HNX.out, HSRCL.out]; simpa [List.append_assoc] using HO6.out.own, HO6.out.kept⟩⟩
            case measure => simp [intOf]; omega
    · rw [if_neg hk0] at HNX
      have hkd : decide (0 < k) = true := by simp; omega
      clear hk0
      obtain ⟨ys2, HY2⟩ : ∃ ys : List Bs, Hid ((xs0 : List Bs) = ys) := ⟨_, Lib.hid rfl⟩
      rw [HY2.out] at HIN
      have hyl2 : ys2.length ≤ 30000 := by rw [← HY2.out]; first | omega | (simp only [List.length_append, List.length_map, List.length_cons, List.length_nil]; omega)
      go_wp2_with (at_builtin; refine wpList_append_lies _ rfl _ _ 40 rfl w1.heap.size 9 i0' (.string ⟨#[]⟩) 1 16 Tryd.underlying40 hi' hz0 hz1 hz2 rfl (by decide) _ _ _ rfl (HIN.out.next (kept_alloc _ _)).own ⟨wo.heap.size + 1, 0, none⟩ 1 1 [.string (bs ([]))] rfl rfl ?_ ?_ ?_ ?_ ?_ ?_ _ rfl ?_)
      · exact new_cells _ #[.string (bs ([]))] _ _ (by simp)
      · intro u hu; simp at hu; subst hu; rfl
      · decide
      · unfold maxLen; omega
      · omega
      · have := HIN.out.kept.size; first | omega | (simp only [World.size_alloc] at this; omega) | (simp only [World.size_alloc]; omega) | (simp only [World.size_alloc] at this ⊢; omega)
      intro g2 cap2 w2 hown2 hgrow2 hat2 hlt2
      have HO2 := Lib.hid ((HIN.out.next (kept_alloc _ _)).push hown2 hgrow2 hat2 (by first | rfl | simp))
      obtain ⟨vv2, hvv⟩ : ∃ v, Value.slice (some ⟨g2, 0, none⟩) (ys2.length + 1) cap2 = v := ⟨_, rfl⟩
      rw [hvv] at HO2 ⊢
      clear hvv
      rw [← HY2.out] at HO2 HIN
      clear hyl2
      clear hown2 hgrow2 hat2 hlt2
      have e0 : w2.cell? ⟨wo.heap.size, 0, none⟩ = some (.string (bs key)) := HO2.out.blk.cell 0 _ rfl
      have e1 : w2.cell? ⟨wo.heap.size, 1, none⟩ = some (.string (bs type)) := HO2.out.blk.cell 1 _ rfl
      have zb := HO2.out.blk.lt
      obtain ⟨ys5, HY5⟩ : ∃ ys : List Bs, Hid (((xs0 ++ [[]]) : List Bs) = ys) := ⟨_, Lib.hid rfl⟩
      rw [HY5.out] at HO2
      have hyl5 : ys5.length ≤ 30000 := by rw [← HY5.out]; first | omega | (simp only [List.length_append, List.length_map, List.length_cons, List.length_nil]; omega)
      go_wp2_with (at_builtin; refine wpList_append_lies _ rfl _ _ 40 rfl w1.heap.size 9 i0' (.string ⟨#[]⟩) 1 16 Tryd.underlying40 hi' hz0 hz1 hz2 rfl (by decide) _ _ _ rfl (HO2.out.next (kept_alloc _ _)).own ⟨w2.heap.size, 0, none⟩ 1 1 [.string (bs (64 :: (type ++ 123 :: (key ++ [44]))))] rfl rfl ?_ ?_ ?_ ?_ ?_ ?_ _ rfl ?_)
      · exact new_cells _ #[.string (bs (64 :: (type ++ 123 :: (key ++ [44]))))] _ _ (by simp)
      · intro u hu; simp at hu; subst hu; rfl
      · decide
      · unfold maxLen; omega
      · omega
      · have := HO2.out.kept.size; first | omega | (simp only [World.size_alloc] at this; omega) | (simp only [World.size_alloc]; omega) | (simp only [World.size_alloc] at this ⊢; omega)
      intro g5 cap5 w5 hown5 hgrow5 hat5 hlt5
      have HO5 := Lib.hid ((HO2.out.next (kept_alloc _ _)).push hown5 hgrow5 hat5 (by first | rfl | simp))
      obtain ⟨vv5, hvv⟩ : ∃ v, Value.slice (some ⟨g5, 0, none⟩) (ys5.length + 1) cap5 = v := ⟨_, rfl⟩
      rw [hvv] at HO5 ⊢
      clear hvv
      rw [← HY5.out] at HO5 HO2
      clear hyl5
      clear hown5 hgrow5 hat5 hlt5
      rw [← HHL.out] at HO5
      have HSZ : Hid (∀ {v xs w}, OutI w1 wo.heap.size #[.string (bs key), .string (bs type), .slice aA au.length cA, .slice aE ed.length cE, .slice aF fs.length cF] v xs w → Kept w1 w) := fun h => h.kept
      have e2 : w5.cell? ⟨wo.heap.size, 2, none⟩ = some (.slice aA au.length cA) := HO5.out.blk.cell 2 _ rfl
      have zb := HO5.out.blk.lt
      go_wp2_with fail
      clear e2 zb
      go_loopw [5, 49] (fun v i wr => ∃ k : Nat, k ≤ au.length ∧ i = .int .i64 k ∧ Hid (OutI w1 wo.heap.size #[.string (bs key), .string (bs type), .slice aA au.length cA, .slice aE ed.length cE, .slice aF fs.length cF] v (((xs0 ++ [[]]) ++ [hdl]) ++ (au.take k).map (persLine hAuthor)) wr)) (fun _ i _ => au.length - (intOf i).toNat)
      case atStart => exact ⟨0, Nat.zero_le _, rfl, Lib.hid (by simpa using HO5.out)⟩
      case round =>
        obtain ⟨k1, hk1, rfl, HI1⟩ := hrel
        by_cases hlt1 : k1 < au.length
        case pos =>
          obtain ⟨p, hx⟩ : ∃ x, au[k1]? = some x := ⟨_, List.getElem?_eq_getElem hlt1⟩
          have HN1 := Lib.hid (pers_next au hAuthor k1 p hx)
          have HSM := Lib.hid (HSM1.out p (List.mem_of_getElem? hx))
          have hln := pers_len au hAuthor k1
          obtain ⟨a', c', hv', hc', h3'⟩ := HP1.out.kept (HSZ.out HI1.out)
          obtain ⟨rfl, hdead, rfl⟩ := Value.slice.inj hv'
          clear hdead hc'
          obtain ⟨gp, op, rfl, hg', hcc⟩ := h3' (by omega)
          obtain ⟨d0, d1, d2, d3⟩ := hcc k1 p hx
          have HLL : Hid (persLine hAuthor p = [97, 117, 116, 104, 111, 114, 32, 61, 32] ++ textR p.1 p.2.1 p.2.2.1 p.2.2.2) := rfl
          obtain ⟨pf, pg, pp, ps⟩ := p
          simp only at d0 d1 d2 d3 HSM HLL
          have HT := Lib.hid (fun w hg => text_any pf pg pp ps w hg (by have := HSM.out; omega))
          have HGR := Lib.hid (HG1.out.kept HI1.out.kept)
          have hXl := textR_len pf pg pp ps
          have hXs := HSM.out
          clear hcc h3' hv' hx
          generalize textE pf pg pp ps = E at *
          generalize textR pf pg pp ps = X at *
          generalize (au.take k1).map (persLine hAuthor) = pre at *
          go_wp2_with fail
          refine (HT.out _ (HGR.out.kept (kept_alloc _ _))).mono ?_
          rintro e w3 ⟨rfl, hk3⟩
          have HO3 := Lib.hid (HI1.out.next ((kept_alloc _ _).trans hk3))
          clear hk3 d0 d1 d2 d3 hg'
          obtain ⟨ys4, HY4⟩ : ∃ ys : List Bs, Hid ((((xs0 ++ [[]]) ++ [hdl]) ++ pre : List Bs) = ys) := ⟨_, Lib.hid rfl⟩
          rw [HY4.out] at HO3
          have hyl4 : ys4.length ≤ 30000 := by rw [← HY4.out]; first | omega | (simp only [List.length_append, List.length_map, List.length_cons, List.length_nil]; omega)
          go_wp2_with (at_builtin; refine wpList_append_lies _ rfl _ _ 40 rfl w1.heap.size 9 i0' (.string ⟨#[]⟩) 1 16 Tryd.underlying40 hi' hz0 hz1 hz2 rfl (by decide) _ _ _ rfl (HO3.out.next (kept_alloc _ _)).own ⟨w3.heap.size, 0, none⟩ 1 1 [.string (bs ([97, 117, 116, 104, 111, 114, 32, 61, 32] ++ X))] rfl rfl ?_ ?_ ?_ ?_ ?_ ?_ _ rfl ?_)
          · exact new_cells _ #[.string (bs ([97, 117, 116, 104, 111, 114, 32, 61, 32] ++ X))] _ _ (by simp)
          · intro u hu; simp at hu; subst hu; rfl
          · decide
          · unfold maxLen; omega
          · omega
          · have := HO3.out.kept.size; first | omega | (simp only [World.size_alloc] at this; omega) | (simp only [World.size_alloc]; omega) | (simp only [World.size_alloc] at this ⊢; omega)
          intro g4 cap4 w4 hown4 hgrow4 hat4 hlt4
          have HO4 := Lib.hid ((HO3.out.next (kept_alloc _ _)).push hown4 hgrow4 hat4 (by first | rfl | simp))
          obtain ⟨vv4, hvv⟩ : ∃ v, Value.slice (some ⟨g4, 0, none⟩) (ys4.length + 1) cap4 = v := ⟨_, rfl⟩
          rw [hvv] at HO4 ⊢
          clear hvv
          rw [← HY4.out] at HO4 HO3
          clear hyl4
          clear hown4 hgrow4 hat4 hlt4
          go_wp2_with fail
          go_roundw
          case rel => exact ⟨k1 + 1, by omega, by go_num, by rw [HN1.out, HLL.out, ← List.append_assoc]; exact HO4.out⟩
          case measure => simp [intOf]; omega
        obtain rfl : k1 = au.length := by omega
        rw [List.take_of_length_le (Nat.le_refl _)] at HI1
        clear hlt1 hk1
        have e3 : wr.cell? ⟨wo.heap.size, 3, none⟩ = some (.slice aE ed.length cE) := HI1.out.blk.cell 3 _ rfl
        have zb := HI1.out.blk.lt
        go_wp2_with fail
        clear e3 zb
        go_loopw [5, 67] (fun v i wr => ∃ k : Nat, k ≤ ed.length ∧ i = .int .i64 k ∧ Hid (OutI w1 wo.heap.size #[.string (bs key), .string (bs type), .slice aA au.length cA, .slice aE ed.length cE, .slice aF fs.length cF] v (((xs0 ++ [[]]) ++ [hdl] ++ au.map (persLine hAuthor)) ++ (ed.take k).map (persLine hEditor)) wr)) (fun _ i _ => ed.length - (intOf i).toNat)
        case atStart => exact ⟨0, Nat.zero_le _, rfl, Lib.hid (by simpa using HI1.out)⟩
        case round =>
          obtain ⟨k2, hk2, rfl, HI2⟩ := hrel
          by_cases hlt2 : k2 < ed.length
          case pos =>
            obtain ⟨p, hx⟩ : ∃ x, ed[k2]? = some x := ⟨_, List.getElem?_eq_getElem hlt2⟩
            have HN2 := Lib.hid (pers_next ed hEditor k2 p hx)
            have HSM := Lib.hid (HSM2.out p (List.mem_of_getElem? hx))
            have hln := pers_len ed hEditor k2
            obtain ⟨a', c', hv', hc', h3'⟩ := HP2.out.kept (HSZ.out HI2.out)
            obtain ⟨rfl, hdead, rfl⟩ := Value.slice.inj hv'
            clear hdead hc'
            obtain ⟨gp, op, rfl, hg', hcc⟩ := h3' (by omega)
            obtain ⟨d0, d1, d2, d3⟩ := hcc k2 p hx
            have HLL : Hid (persLine hEditor p = [101, 100, 105, 116, 111, 114, 32, 61, 32] ++ textR p.1 p.2.1 p.2.2.1 p.2.2.2) := rfl
            obtain ⟨pf, pg, pp, ps⟩ := p
            simp only at d0 d1 d2 d3 HSM HLL
            have HT := Lib.hid (fun w hg => text_any pf pg pp ps w hg (by have := HSM.out; omega))
            have HGR := Lib.hid (HG1.out.kept HI2.out.kept)
            have hXl := textR_len pf pg pp ps
            have hXs := HSM.out
            clear hcc h3' hv' hx
            generalize textE pf pg pp ps = E at *
            generalize textR pf pg pp ps = X at *
            generalize (ed.take k2).map (persLine hEditor) = pre at *
            go_wp2_with fail
            refine (HT.out _ (HGR.out.kept (kept_alloc _ _))).mono ?_
            rintro e w3 ⟨rfl, hk3⟩
            have HO3 := Lib.hid (HI2.out.next ((kept_alloc _ _).trans hk3))
            clear hk3 d0 d1 d2 d3 hg'
            obtain ⟨ys4, HY4⟩ : ∃ ys : List Bs, Hid ((((xs0 ++ [[]]) ++ [hdl] ++ au.map (persLine hAuthor)) ++ pre : List Bs) = ys) := ⟨_, Lib.hid rfl⟩
            rw [HY4.out] at HO3
            have hyl4 : ys4.length ≤ 30000 := by rw [← HY4.out]; first | omega | (simp only [List.length_append, List.length_map, List.length_cons, List.length_nil]; omega)
            go_wp2_with (at_builtin; refine wpList_append_lies _ rfl _ _ 40 rfl w1.heap.size 9 i0' (.string ⟨#[]⟩) 1 16 Tryd.underlying40 hi' hz0 hz1 hz2 rfl (by decide) _ _ _ rfl (HO3.out.next (kept_alloc _ _)).own ⟨w3.heap.size, 0, none⟩ 1 1 [.string (bs ([101, 100, 105, 116, 111, 114, 32, 61, 32] ++ X))] rfl rfl ?_ ?_ ?_ ?_ ?_ ?_ _ rfl ?_)
            · exact new_cells _ #[.string (bs ([101, 100, 105, 116, 111, 114, 32, 61, 32] ++ X))] _ _ (by simp)
            · intro u hu; simp at hu; subst hu; rfl
            · decide
            · unfold maxLen; omega
            · omega
            · have := HO3.out.kept.size; first | omega | (simp only [World.size_alloc] at this; omega) | (simp only [World.size_alloc]; omega) | (simp only [World.size_alloc] at this ⊢; omega)
            intro g4 cap4 w4 hown4 hgrow4 hat4 hlt4
            have HO4 := Lib.hid ((HO3.out.next (kept_alloc _ _)).push hown4 hgrow4 hat4 (by first | rfl | simp))
            obtain ⟨vv4, hvv⟩ : ∃ v, Value.slice (some ⟨g4, 0, none⟩) (ys4.length + 1) cap4 = v := ⟨_, rfl⟩
            rw [hvv] at HO4 ⊢
            clear hvv
            rw [← HY4.out] at HO4 HO3
            clear hyl4
            clear hown4 hgrow4 hat4 hlt4
            go_wp2_with fail
            go_roundw
            case rel => exact ⟨k2 + 1, by omega, by go_num, by rw [HN2.out, HLL.out, ← List.append_assoc]; exact HO4.out⟩
            case measure => simp [intOf]; omega
          obtain rfl : k2 = ed.length := by omega
          rw [List.take_of_length_le (Nat.le_refl _)] at HI2
          clear hlt2 hk2
          have e4 : wr.cell? ⟨wo.heap.size, 4, none⟩ = some (.slice aF fs.length cF) := HI2.out.blk.cell 4 _ rfl
          have zb := HI2.out.blk.lt
          go_wp2_with fail
          clear e4 zb
          go_loopw [5, 85] (fun v i wr => ∃ k : Nat, k ≤ fs.length ∧ i = .int .i64 k ∧ Hid (OutI w1 wo.heap.size #[.string (bs key), .string (bs type), .slice aA au.length cA, .slice aE ed.length cE, .slice aF fs.length cF] v (((xs0 ++ [[]]) ++ [hdl] ++ au.map (persLine hAuthor) ++ ed.map (persLine hEditor)) ++ (fs.take k).map fldLine) wr)) (fun _ i _ => fs.length - (intOf i).toNat)
          case atStart => exact ⟨0, Nat.zero_le _, rfl, Lib.hid (by simpa using HI2.out)⟩
          case round =>
            obtain ⟨k3, hk3, rfl, HI3⟩ := hrel
            by_cases hlt3 : k3 < fs.length
            case pos =>
              obtain ⟨p, hx⟩ : ∃ x, fs[k3]? = some x := ⟨_, List.getElem?_eq_getElem hlt3⟩
              have HN3 := Lib.hid (fld_next fs k3 p hx)
              have hln := fld_len fs k3
              obtain ⟨a', c', hv', hc', h3'⟩ := HP3.out.kept (HSZ.out HI3.out)
              obtain ⟨rfl, hdead, rfl⟩ := Value.slice.inj hv'
              clear hdead hc'
              obtain ⟨gp, op, rfl, hg', hcc⟩ := h3' (by omega)
              obtain ⟨d0, d1⟩ := hcc k3 p hx
              have HLL : Hid (fldLine p = p.1 ++ 32 :: 61 :: 32 :: p.2) := by show _ = _; simp [fldLine]
              obtain ⟨hx1, hx2⟩ := HSM3.out p (List.mem_of_getElem? hx)
              obtain ⟨x, y⟩ := p
              simp only at d0 d1 HLL hx1 hx2
              clear hcc h3' hv' hx
              generalize (fs.take k3).map fldLine = pre at *
              have HO3 := Lib.hid (HI3.out.next (kept_alloc _ (.cells #[.string (bs x), .string (bs y)] 78)))
              obtain ⟨ys4, HY4⟩ : ∃ ys : List Bs, Hid ((((xs0 ++ [[]]) ++ [hdl] ++ au.map (persLine hAuthor) ++ ed.map (persLine hEditor)) ++ pre : List Bs) = ys) := ⟨_, Lib.hid rfl⟩
              rw [HY4.out] at HO3
              have hyl4 : ys4.length ≤ 30000 := by rw [← HY4.out]; first | omega | (simp only [List.length_append, List.length_map, List.length_cons, List.length_nil]; omega)
              go_wp2_with (at_builtin; refine wpList_append_lies _ rfl _ _ 40 rfl w1.heap.size 9 i0' (.string ⟨#[]⟩) 1 16 Tryd.underlying40 hi' hz0 hz1 hz2 rfl (by decide) _ _ _ rfl (HO3.out.next (kept_alloc _ _)).own ⟨wr.heap.size + 1, 0, none⟩ 1 1 [.string (bs (x ++ 32 :: 61 :: 32 :: y))] rfl rfl ?_ ?_ ?_ ?_ ?_ ?_ _ rfl ?_)
              · exact new_cells _ #[.string (bs (x ++ 32 :: 61 :: 32 :: y))] _ _ (by simp)
              · intro u hu; simp at hu; subst hu; rfl
              · decide
              · unfold maxLen; omega
              · omega
              · have := HO3.out.kept.size; first | omega | (simp only [World.size_alloc] at this; omega) | (simp only [World.size_alloc]; omega) | (simp only [World.size_alloc] at this ⊢; omega)
              intro g4 cap4 w4 hown4 hgrow4 hat4 hlt4
              have HO4 := Lib.hid ((HO3.out.next (kept_alloc _ _)).push hown4 hgrow4 hat4 (by first | rfl | simp))
              obtain ⟨vv4, hvv⟩ : ∃ v, Value.slice (some ⟨g4, 0, none⟩) (ys4.length + 1) cap4 = v := ⟨_, rfl⟩
              rw [hvv] at HO4 ⊢
              clear hvv
              rw [← HY4.out] at HO4 HO3
              clear hyl4
              clear hown4 hgrow4 hat4 hlt4
              go_wp2_with fail
              go_roundw
              case rel => exact ⟨k3 + 1, by omega, by go_num, by rw [HN3.out, HLL.out, ← List.append_assoc]; exact HO4.out⟩
              case measure => simp [intOf]; omega
            obtain rfl : k3 = fs.length := by omega
            rw [List.take_of_length_le (Nat.le_refl _)] at HI3
            clear hlt3 hk3
            obtain ⟨ys6, HY6⟩ : ∃ ys : List Bs, Hid ((((xs0 ++ [[]]) ++ [hdl] ++ au.map (persLine hAuthor) ++ ed.map (persLine hEditor)) ++ fs.map fldLine : List Bs) = ys) := ⟨_, Lib.hid rfl⟩
            rw [HY6.out] at HI3
            have hyl6 : ys6.length ≤ 30000 := by rw [← HY6.out]; first | omega | (simp only [List.length_append, List.length_map, List.length_cons, List.length_nil]; omega)
            go_wp2_with (at_builtin; refine wpList_append_lies _ rfl _ _ 40 rfl w1.heap.size 9 i0' (.string ⟨#[]⟩) 1 16 Tryd.underlying40 hi' hz0 hz1 hz2 rfl (by decide) _ _ _ rfl (HI3.out.next (kept_alloc _ _)).own ⟨wr.heap.size, 0, none⟩ 1 1 [.string (bs ([125]))] rfl rfl ?_ ?_ ?_ ?_ ?_ ?_ _ rfl ?_)
            · exact new_cells _ #[.string (bs ([125]))] _ _ (by simp)
            · intro u hu; simp at hu; subst hu; rfl
            · decide
            · unfold maxLen; omega
            · omega
            · have := HI3.out.kept.size; first | omega | (simp only [World.size_alloc] at this; omega) | (simp only [World.size_alloc]; omega) | (simp only [World.size_alloc] at this ⊢; omega)
            intro g6 cap6 w6 hown6 hgrow6 hat6 hlt6
            have HO6 := Lib.hid ((HI3.out.next (kept_alloc _ _)).push hown6 hgrow6 hat6 (by first | rfl | simp))
            obtain ⟨vv6, hvv⟩ : ∃ v, Value.slice (some ⟨g6, 0, none⟩) (ys6.length + 1) cap6 = v := ⟨_, rfl⟩
            rw [hvv] at HO6 ⊢
            clear hvv
            rw [← HY6.out] at HO6 HI3
            clear hyl6
            clear hown6 hgrow6 hat6 hlt6
            go_wp2_with fail
            go_roundw
            case rel => exact ⟨k + 1, by omega, by go_num, ⟨by rw [HNX.out, HSRCL.out]; simpa [List.append_assoc] using HO6.out.own, HO6.out.kept⟩⟩
            case measure => simp [intOf]; omega
end Go.Proofs.YtflpkadknljpbaaDoor
