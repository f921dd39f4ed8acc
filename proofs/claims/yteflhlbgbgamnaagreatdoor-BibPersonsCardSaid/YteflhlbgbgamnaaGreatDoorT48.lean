/- Plain law: what a bibliography with a person in its third line reads as. No condition. -/
import Derived.Test.YteflhlbgbgamnaaGreatDoorT38
import Derived.Test.YteflhlbgbgamnaaGreatDoorT33
import Derived.Test.YteflhlbgbgamnaaGreatDoorT44
import Derived.Test.YteflhlbgbgamnaaGreatDoorT45

set_option linter.all false
namespace Go.Proofs.YteflhlbgbgamnaaGreatDoor
open Go.RowKit

def tPre : Bs := [64, 97, 123, 107, 44, 10, 116, 105, 116, 108, 101, 32, 61, 32, 84, 10, 97, 117, 116, 104, 111, 114, 32, 61, 32]
def lHead : Bs := [64, 97, 123, 107, 44]
def lTitle : Bs := [116, 105, 116, 108, 101, 32, 61, 32, 84]
/-- The text that the law reads. -/
def oneText (s : Bs) : Bs := tPre ++ s ++ [10, 125, 10]
def oneSrc (p : List P4) : SrcT := ⟨[107], [97], p, [], [([116, 105, 116, 108, 101], [84])]⟩
theorem one_len (s : Bs) : (oneText s).length = s.length + 28 := by simp [oneText, tPre]
theorem one_join (s : Bs) : oneText s = joinLn [lHead, lTitle, hAuthor ++ s, [125]] := by simp [oneText, joinLn, tPre, lHead, lTitle, hAuthor]
theorem asc_valid (l : Bs) (h : ∀ b ∈ l, 32 ≤ (b.toNat : Int) ∧ (b.toNat : Int) < 127) : validB (bs l) = true := line_vis l (line_asc l h)
theorem author_valid (s : Bs) : validB (bs (hAuthor ++ s)) = validB (bs s) := by
  have e : hAuthor ++ s = [97, 117, 116, 104, 111, 114, 32, 61] ++ 32 :: s := by simp [hAuthor]
  rw [e, valid_at 32 (by decide) s _ _ (Nat.le_refl _), asc_valid _ (by decide)]; rfl
theorem one_valid (s : Bs) : validB (bs (oneText s)) = validB (bs s) := by
  have e : oneText s = lHead ++ 10 :: (lTitle ++ 10 :: ((hAuthor ++ s) ++ 10 :: ([125] ++ 10 :: []))) := by simp [oneText, tPre, lHead, lTitle, hAuthor]
  rw [e, valid_feed _ _ _ (Nat.le_refl _), valid_feed _ _ _ (Nat.le_refl _), valid_feed _ _ _ (Nat.le_refl _), valid_feed _ _ _ (Nat.le_refl _), author_valid, valid_nil, asc_valid lHead (by decide), asc_valid lTitle (by decide), asc_valid [125] (by decide)]
  simp
theorem feed_valid (s : Bs) : validB (bs (s ++ [10])) = validB (bs s) := by
  rw [valid_feed [] _ _ (Nat.le_refl _), valid_nil]; simp
theorem one_lines (s : Bs) (h : (10 : UInt8) ∉ s) : linesL (oneText s) = [lHead, lTitle, hAuthor ++ s, [125]] := by
  rw [one_join]
  refine lines_join _ fun x hx => ?_
  simp only [List.mem_cons, List.mem_nil_iff, or_false] at hx
  rcases hx with rfl | rfl | rfl | rfl
  · decide
  · decide
  · intro q
    rcases List.mem_append.1 q with q | q
    · exact absurd q (by decide)
    · exact h q
  · decide
theorem dw_sp (n : Nat) (l : Bs) : (spaces n ++ l).dropWhile (· == 32) = l.dropWhile (· == 32) := by
  induction n with
  | zero => rfl
  | succ n ih =>
    have e : spaces (n + 1) ++ l = 32 :: (spaces n ++ l) := by simp [spaces, List.replicate_succ]
    rw [e, List.dropWhile_cons, if_pos (by decide), ih]
theorem trimR_sp (m : Nat) (l : Bs) : trimR (l ++ spaces m) = trimR l := by
  unfold trimR
  rw [List.reverse_append]
  have e : (spaces m).reverse = spaces m := by simp [spaces]
  rw [e, dw_sp]
theorem trim_head (n : Nat) (l : Bs) : trimL (spaces n ++ l) = trimL l := by
  unfold trimL
  rw [drop_ind, drop_ind, dw_sp]
theorem trim_tail (m : Nat) (l : Bs) (h : l.head? ≠ some 32) (h0 : l ≠ []) : trimL (l ++ spaces m) = trimR l := by
  unfold trimL
  rw [drop_ind]
  cases l with
  | nil => exact absurd rfl h0
  | cons b l =>
    have hb : ¬ (b == 32) = true := by simpa using h
    rw [List.cons_append, List.dropWhile_cons, if_neg hb, ← List.cons_append, trimR_sp]
theorem trimR_fix (l : Bs) (h : l.getLast? ≠ some 32) : trimR l = l := by
  have := trimR_at l l.length (Nat.le_refl _) (by simp) (fun h0 q => by
    apply h
    rw [List.getLast?_eq_getElem?, List.getElem?_eq_getElem (by omega), q])
  rw [this, List.take_length]
/-- The third line, trimmed: what stands behind its sign reads as the person's text. -/
theorem author_line (s : Bs) : ∃ z, trimL (hAuthor ++ s) = [97, 117, 116, 104, 111, 114, 32] ++ 61 :: z ∧ parseR (trimL z) = parseR (trimL s) := by
  obtain ⟨n, m, h1, h2⟩ := trim_parts s
  by_cases ht : trimL s = []
  · refine ⟨[], ?_, by rw [ht]; rfl⟩
    have e : hAuthor ++ s = [97, 117, 116, 104, 111, 114, 32, 61] ++ spaces (1 + n + m) := by
      conv => lhs; rw [h1, ht]
      simp [hAuthor, spaces, List.replicate_append_replicate, ← List.replicate_succ']
      rw [show 1 + n + m = (n + m) + 1 from by omega, List.replicate_succ]
    rw [e, trim_tail _ _ (by decide) (by decide)]; decide
  · refine ⟨32 :: (spaces n ++ trimL s), ?_, ?_⟩
    · have e : hAuthor ++ s = (([97, 117, 116, 104, 111, 114, 32] ++ 61 :: 32 :: spaces n) ++ trimL s) ++ spaces m := by
        conv => lhs; rw [h1]
        simp [hAuthor]
      rw [e, trim_tail _ _ (by simp) (by simp), trimR_fix _ ?_]
      · simp
      · rw [List.getLast?_append]
        cases hq : (trimL s).getLast? with
        | none => exact absurd (List.getLast?_eq_none_iff.1 hq) ht
        | some b => have := h2.2; rw [hq] at this; simpa using this
    · have e2 : (32 :: (spaces n ++ trimL s)) = spaces (n + 1) ++ trimL s := by simp [spaces, List.replicate_succ]
      rw [e2, trim_head, trim_idem]
theorem author_add (p : List P4) (hp : p.length < 32) (s : Bs) : addS (oneSrc p) (trimL (hAuthor ++ s)) = (if (parseR (trimL s)).1 ≠ 0 then ((parseR (trimL s)).1, oneSrc p) else (0, oneSrc (p ++ [(parseR (trimL s)).2]))) := by
  obtain ⟨z, h1, h2⟩ := author_line s
  rw [h1]
  have hb : before 61 ([97, 117, 116, 104, 111, 114, 32] ++ 61 :: z) = 7 := before_at 61 _ z (by decide)
  unfold addS
  rw [hb, if_pos (by simp)]
  have e1 : ([97, 117, 116, 104, 111, 114, 32] ++ 61 :: z).take 7 = [97, 117, 116, 104, 111, 114, 32] := by simp
  have e2 : ([97, 117, 116, 104, 111, 114, 32] ++ 61 :: z).drop (7 + 1) = z := by simp
  rw [e1, e2, if_pos (by decide), h2]
  have e3 : ¬ 32 ≤ (oneSrc p).author.length := by simp [oneSrc]; omega
  rw [if_neg e3]
  rfl
theorem one_front : runB [lHead, lTitle] 0 st0 = (none, ⟨[], [[107]], oneSrc [], true⟩) := by kernel_rfl
theorem one_trim_ne (s : Bs) : trimL (hAuthor ++ s) ≠ [] ∧ trimL (hAuthor ++ s) ≠ [125] := by
  obtain ⟨z, h1, _⟩ := author_line s
  rw [h1]; simp
theorem one_bad (s : Bs) (hl : s.length ≤ 300) (hv : validB (bs s) = false) : bibR (oneText s) = ([], 0, 17) := by
  unfold bibR
  rw [if_neg (by rw [one_len]; omega), one_valid, if_pos hv]
theorem one_err (s : Bs) (h10 : (10 : UInt8) ∉ s) (hl : s.length ≤ 300) (hv : validB (bs s) = true) (hf : (parseR (trimL s)).1 ≠ 0) : bibR (oneText s) = ([], 3, (parseR (trimL s)).1) := by
  unfold bibR
  rw [if_neg (by rw [one_len]; omega), one_valid, if_neg (by rw [hv]; simp), one_lines s h10]
  have e : runB [lHead, lTitle, hAuthor ++ s, [125]] 0 st0 = (some (3, (parseR (trimL s)).1), ⟨[], [[107]], oneSrc [], true⟩) := by
    have h := runB_app [lHead, lTitle] [hAuthor ++ s, [125]] 0 st0 _ one_front
    rw [show [lHead, lTitle] ++ [hAuthor ++ s, [125]] = [lHead, lTitle, hAuthor ++ s, [125]] from rfl] at h
    obtain ⟨n1, n2⟩ := one_trim_ne s
    rw [h, runB_cons, if_neg n1, lineS_add _ _ rfl n2, author_add [] (by simp) s, if_pos hf, if_pos hf]
    rfl
  rw [e]; rfl
theorem one_ok (s : Bs) (h10 : (10 : UInt8) ∉ s) (hl : s.length ≤ 300) (hv : validB (bs s) = true) (hf : (parseR (trimL s)).1 = 0) : bibR (oneText s) = ([oneSrc [(parseR (trimL s)).2]], 0, 0) := by
  unfold bibR
  rw [if_neg (by rw [one_len]; omega), one_valid, if_neg (by rw [hv]; simp), one_lines s h10]
  have e : runB [lHead, lTitle, hAuthor ++ s, [125]] 0 st0 = (none, ⟨[oneSrc [(parseR (trimL s)).2]], [[107]], zeroS, false⟩) := by
    have h := runB_app [lHead, lTitle] [hAuthor ++ s, [125]] 0 st0 _ one_front
    rw [show [lHead, lTitle] ++ [hAuthor ++ s, [125]] = [lHead, lTitle, hAuthor ++ s, [125]] from rfl] at h
    obtain ⟨n1, n2⟩ := one_trim_ne s
    have ha := author_add [] (by simp) s
    rw [if_neg (by simpa using hf)] at ha
    rw [h, runB_cons, if_neg n1, lineS_add _ _ rfl n2, ha, if_neg (by simp)]
    generalize (parseR (trimL s)).2 = q
    rw [runB_cons, if_neg (by decide), show trimL [125] = [125] from by decide, lineS_done _ rfl rfl, if_neg (by simp)]
    rfl
  rw [e]; rfl
theorem runB_line (ls : List Bs) : ∀ (i : Nat) (st st' : ASt) (j : Nat) (e : Int), runB ls i st = (some (j, e), st') → 0 < j := by
  induction ls with
  | nil => intro i st st' j e h; cases h
  | cons l ls ih =>
    intro i st st' j e h
    rw [runB_cons] at h
    split at h
    · exact ih _ _ _ _ _ h
    · split at h
      · cases h; omega
      · exact ih _ _ _ _ _ h
/-- A text is told to be no text just where it is none. -/
theorem clean_told (s : Bs) (hl : s.length ≤ 300) : ((bibR (s ++ [10])).2.1 = 0 ∧ (bibR (s ++ [10])).2.2 = 17) ↔ validB (bs s) = false := by
  unfold bibR
  rw [if_neg (by simp; omega), feed_valid]
  cases hv : validB (bs s)
  · simp
  · rw [if_neg (by simp)]
    rcases hr : runB (linesL (s ++ [10])) 0 st0 with ⟨o, st⟩
    cases o with
    | none =>
      simp only
      split
      · simp
      · simp
    | some q =>
      obtain ⟨i, e⟩ := q
      have := runB_line _ _ _ _ _ _ hr
      simp only
      simp; omega
theorem lines_one (s : Bs) (h : linesL s = [s]) : (10 : UInt8) ∉ s := by
  have h1 := lines_sub s s (by rw [h]; simp)
  intro q
  exact (split_mem 10 _ s (Nat.le_refl _) s h1 10 q).2 rfl
end Go.Proofs.YteflhlbgbgamnaaGreatDoor

/- The law BibPersons answers true of every text. No condition. -/
set_option linter.all false
namespace Go.Proofs.YteflhlbgbgamnaaGreatDoor
open Go.RowKit

theorem len_one (xs : List Bs) (h : xs.length = 1) : ∃ x, xs = [x] := by
  match xs, h with
  | [x], _ => exact ⟨x, rfl⟩
set_option maxRecDepth 100000 in
set_option maxHeartbeats 12800000 in
theorem lbpers_any (l : Bs) (w : World) (hg : Gnd w) (hfit : l.length ≤ maxLen) : Calls Tryz.prog 4 #[.string (bs l)] w fun e w' => e = .returned (.bool true) ∧ Kept w w' := by
  unfold maxLen at hfit
  have HG := Lib.hid hg
  clear hg
  have HAW : Hid (∀ w', Kept w w' → Calls Tryz.prog 11 #[] w' fun e w2 => e = .returned (.bool true) ∧ Kept w' w2) := fun w' h => bawake_any w' (HG.out.kept h)
  by_cases hlen : 300 < l.length
  · go_enter Tryz.func4, Tryz.ntmps4
    go_wp2_with fail
    refine (HAW.out _ (Kept.refl _)).mono ?_
    rintro e w2 ⟨rfl, hk⟩
    go_wp2_with fail
    go_ret
    exact ⟨rfl, hk⟩
  have HSP := Lib.hid (fun w => rsplit_own l w (by omega))
  unfold SliQ at HSP
  by_cases h1 : (linesL l).length = 1
  case neg =>
    have hb1 : (((linesL l).length : Int) == 1) = false := by rw [beq_eq_false_iff_ne]; omega
    have hb2 : (((linesL l).length : Int) != 1) = true := by rw [bne_iff_ne]; omega
    have hlc := lines_count l
    clear h1
    generalize linesL l = ls at *
    go_enter Tryz.func4, Tryz.ntmps4
    go_wp2_with fail
    refine (HSP.out _).mono ?_
    rintro e w1 ⟨v1, rfl, hs1, hb, hk1⟩
    have HK1 := Lib.hid hk1
    obtain ⟨a1, c1, rfl, y1, y2⟩ := hs1
    clear hk1 hb y1 y2
    go_wp2_with fail
    refine (HAW.out _ HK1.out).mono ?_
    rintro e w2 ⟨rfl, hk⟩
    go_wp2_with fail
    go_ret
    exact ⟨rfl, HK1.out.trans hk⟩
  obtain ⟨x, hx⟩ := len_one _ h1
  rw [hx] at HSP
  by_cases hxl : x = l
  case neg =>
    have hb1 : (x == l) = false := by simpa using hxl
    have hb2 : (x != l) = true := by simpa using hxl
    clear hxl hx h1
    go_enter Tryz.func4, Tryz.ntmps4
    go_wp2_with fail
    refine (HSP.out _).mono ?_
    rintro e w1 ⟨v1, rfl, hs1, hb, hk1⟩
    have HK1 := Lib.hid hk1
    obtain ⟨a1, c1, rfl, y1, y2⟩ := hs1
    clear hk1 hb y1 y2
    go_wp2_with fail
    refine (HSP.out _).mono ?_
    rintro e w2 ⟨v2, rfl, hs2, hb, hk2⟩
    have HK2 := Lib.hid (HK1.out.trans hk2)
    obtain ⟨a2, c2, rfl, y1, y2⟩ := hs2
    obtain ⟨g, o, rfl, y3, y4⟩ := y2 (by simp)
    have d0 : w2.cell? ⟨g, o, none⟩ = some (.string (bs x)) := y4 0 x rfl
    clear hk2 hb y2 y4
    go_wp2_with fail
    refine (HAW.out _ HK2.out).mono ?_
    rintro e w3 ⟨rfl, hk⟩
    go_wp2_with fail
    go_ret
    exact ⟨rfl, HK2.out.trans hk⟩
  subst hxl
  have h10 := lines_one x hx
  have HP := Lib.hid (fun w' (h : Kept w w') => bparse_any (oneText x) w' (HG.out.kept h) (by rw [one_len]; omega))
  have HRB := Lib.hid (fun w' => rbparse_any (x ++ [10]) w' (by simp; omega))
  unfold BibPost at HP HRB
  have HT := Lib.hid (fun w => rtrim_any x w (by omega))
  have HPP := Lib.hid (fun w => rparse_any (trimL x) w (by have := trimL_le x; omega))
  unfold ParsePost at HPP
  have HCT := Lib.hid (clean_told x (by omega))
  have HB1 := Lib.hid (one_bad x (by omega))
  have HB2 := Lib.hid (one_err x h10 (by omega))
  have HB3 := Lib.hid (one_ok x h10 (by omega))
  obtain ⟨R, HR⟩ : ∃ R, Hid (bibR (oneText x) = R) := ⟨_, Lib.hid rfl⟩
  obtain ⟨R2, HR2⟩ : ∃ R2, Hid (bibR (x ++ [10]) = R2) := ⟨_, Lib.hid rfl⟩
  simp only [HR.out] at HP
  rw [HR.out] at HB1 HB2 HB3
  simp only [HR2.out] at HRB
  rw [HR2.out] at HCT
  obtain ⟨ss, n, e0⟩ := R
  obtain ⟨ss2, k2, cl⟩ := R2
  simp only at HP HRB HCT
  clear HR HR2 hx h1 h10 hfit
  generalize parseR (trimL x) = PR at *
  obtain ⟨f, q1, q2, q3, q4⟩ := PR
  simp only at HPP HB2 HB3
  generalize trimL x = tx at *
  unfold oneText tPre at HP
  generalize validB (bs x) = vb at *
  go_enter Tryz.func4, Tryz.ntmps4
  go_wp2_with fail
  refine (HSP.out _).mono ?_
  rintro e w1 ⟨v1, rfl, hs1, hb, hk1⟩
  have HK1 := Lib.hid hk1
  obtain ⟨a1, c1, rfl, y1, y2⟩ := hs1
  clear hk1 hb y1 y2
  go_wp2_with fail
  refine (HSP.out _).mono ?_
  rintro e w2 ⟨v2, rfl, hs2, hb, hk2⟩
  have HK2 := Lib.hid (HK1.out.trans hk2)
  obtain ⟨a2, c2, rfl, y1, y2⟩ := hs2
  obtain ⟨g, o, rfl, y3, y4⟩ := y2 (by simp)
  have d0 : w2.cell? ⟨g, o, none⟩ = some (.string (bs x)) := y4 0 x rfl
  clear hk2 hb y2 y4
  go_wp2_with fail
  refine (HP.out _ HK2.out).mono ?_
  rintro e w3 ⟨vl, rfl, hl3, hk3⟩
  have HK3 := Lib.hid (HK2.out.trans hk3)
  have HL3 := Lib.hid hl3
  clear hk3 hl3 d0 y1 y3
  go_wp2_with fail
  refine (HT.out _).mono ?_
  rintro e w4 ⟨rfl, rfl⟩
  go_wp2_with fail
  refine (HPP.out _).mono ?_
  rintro e w4 ⟨rfl, hk4⟩
  have HK4 := Lib.hid (HK3.out.trans hk4)
  have HL4 := Lib.hid (HL3.out.kept hk4)
  clear hk4
  go_wp2_with fail
  have HPB := Lib.hid (Blk.new w4 32 #[.string (bs q1), .string (bs q2), .string (bs q3), .string (bs q4)])
  have HK5 := Lib.hid (HK4.out.trans (kept_alloc w4 (.cells #[.string (bs q1), .string (bs q2), .string (bs q3), .string (bs q4)] 32)))
  have HL5 := Lib.hid (HL4.out.kept (kept_alloc w4 (.cells #[.string (bs q1), .string (bs q2), .string (bs q3), .string (bs q4)] 32)))
  generalize w4.alloc (.cells #[.string (bs q1), .string (bs q2), .string (bs q3), .string (bs q4)] 32) = w5 at *
  generalize w4.heap.size = P at *
  refine (HRB.out _).mono ?_
  rintro e w6 ⟨vm, rfl, hm6, hk6⟩
  have HK6 := Lib.hid (HK5.out.trans hk6)
  have HL6 := Lib.hid (HL5.out.kept hk6)
  have HPB6 := Lib.hid (HPB.out.kept hk6)
  clear hk6 hm6
  cases vb
  · obtain ⟨rfl, rfl⟩ := HCT.out.2 rfl
    obtain ⟨rfl, h2⟩ := Prod.mk.inj (HB1.out rfl)
    obtain ⟨rfl, rfl⟩ := Prod.mk.inj h2
    clear h2
    go_wp2_with fail
    refine (HAW.out _ HK6.out).mono ?_
    rintro e w7 ⟨rfl, hk⟩
    go_wp2_with fail
    go_ret
    exact ⟨rfl, HK6.out.trans hk⟩
  have hd : (k2 == 0) = false ∨ (k2 == 0) = true ∧ (cl == 17) = false := by
    by_cases q : k2 = 0
    · right
      refine ⟨by simpa using q, ?_⟩
      rw [beq_eq_false_iff_ne]
      intro q2
      have := HCT.out.1 ⟨q, q2⟩
      cases this
    · left; simpa using q
  have HDD := Lib.hid hd
  clear hd
  by_cases hf : f = 0
  case neg =>
    obtain ⟨rfl, h2⟩ := Prod.mk.inj (HB2.out rfl hf)
    obtain ⟨rfl, rfl⟩ := Prod.mk.inj h2
    have hf1 : (e0 == 0) = false := by simpa using hf
    have hf2 : (e0 != 0) = true := by simpa using hf
    clear h2 hf
    rcases HDD.out with t1 | ⟨t1, t2⟩
    all_goals
      go_wp2_with fail
      refine (HAW.out _ HK6.out).mono ?_
      rintro e w7 ⟨rfl, hk⟩
      go_wp2_with fail
      go_ret
      exact ⟨rfl, HK6.out.trans hk⟩
  subst hf
  obtain ⟨rfl, h2⟩ := Prod.mk.inj (HB3.out rfl rfl)
  obtain ⟨rfl, rfl⟩ := Prod.mk.inj h2
  clear h2
  obtain ⟨al, cl2, rfl, z1, z2⟩ := HL6.out
  obtain ⟨g3, o3, rfl, z3, z4⟩ := z2 (by simp)
  obtain ⟨vA, vE, vF, t0, t1, t2, t3, t4, pA, pE, pF⟩ := z4 0 _ rfl
  simp only [oneSrc, Nat.zero_mul, Nat.add_zero] at t2 pA
  have HPA := Lib.hid pA
  have HT2 := Lib.hid t2
  have hzP := HPB6.out.lt
  obtain ⟨aA, cA, rfl, y5, y6⟩ := pA
  clear y5 y6 z2 z4 t0 t1 t2 t3 t4 pE pF
  have hKd : Kept w6 w6.drew := kept_drewN w6 1
  have hKQ : Kept w6 (w6.drew.alloc (.cells #[.string (bs q1), .string (bs q2), .string (bs q3), .string (bs q4)] 32)) := hKd.trans (kept_alloc _ _)
  have HC : Hid (∀ w', Kept w6 w' → w'.cell? ⟨g3, o3 + 2, none⟩ = some (.slice aA 1 cA) ∧ (w'.cell? ⟨P, 0, none⟩ = some (.string (bs q1)) ∧ w'.cell? ⟨P, 1, none⟩ = some (.string (bs q2)) ∧ w'.cell? ⟨P, 2, none⟩ = some (.string (bs q3)) ∧ w'.cell? ⟨P, 3, none⟩ = some (.string (bs q4))) ∧ g3 < w'.heap.size ∧ P < w'.heap.size ∧ Kept w6 w') := fun w' h =>
    ⟨(h.cell (p := ⟨g3, _, none⟩) z3).trans HT2.out, ⟨(HPB6.out.kept h).cell 0 _ rfl, (HPB6.out.kept h).cell 1 _ rfl, (HPB6.out.kept h).cell 2 _ rfl, (HPB6.out.kept h).cell 3 _ rfl⟩, Nat.lt_of_lt_of_le z3 h.size, Nat.lt_of_lt_of_le hzP h.size, h⟩
  have HPE := Lib.hid (persons_eq (.slice aA 1 cA) (.slice (some ⟨w6.drew.heap.size, 0, none⟩) 1 1) [(q1, q2, q3, q4)] (w6.drew.alloc (.cells #[.string (bs q1), .string (bs q2), .string (bs q3), .string (bs q4)] 32)) (HPA.out.kept hKQ) (new_pers w6.drew q1 q2 q3 q4) (by simp))
  rcases HDD.out with t1 | ⟨t1, t2⟩
  all_goals
    go_wp2_with fail
    go_region_held3 (fun w' => w'.cell? ⟨g3, o3 + 2, none⟩ = some (.slice aA 1 cA) ∧ (w'.cell? ⟨P, 0, none⟩ = some (.string (bs q1)) ∧ w'.cell? ⟨P, 1, none⟩ = some (.string (bs q2)) ∧ w'.cell? ⟨P, 2, none⟩ = some (.string (bs q3)) ∧ w'.cell? ⟨P, 3, none⟩ = some (.string (bs q4))) ∧ g3 < w'.heap.size ∧ P < w'.heap.size ∧ Kept w6 w')
      ((refine HC.out _ ?_; first | assumption | (refine Kept.trans ?_ (kept_alloc _ _); assumption)))
      (first
        | (go_at_call 18; refine (HPE.out).mono ?_; rintro e w8 ⟨rfl, hk⟩; have k8 := Kept.trans hKQ hk; have HK8 := Lib.hid (HK6.out.trans k8); clear hk)
        | (go_at_call 11; refine (HAW.out _ HK8.out).mono ?_; rintro e w9 ⟨rfl, hk⟩; have k9 := Kept.trans k8 hk; have HK9 := Lib.hid (HK8.out.trans hk); clear hk))
    all_goals
      go_wp2_with fail
      go_ret
      exact ⟨rfl, HK9.out⟩
end Go.Proofs.YteflhlbgbgamnaaGreatDoor
