/- (*reader).begin of package bib. Conditions: lengths. -/
import Derived.Test.YteflhlbgbgamnaaGreatDoorT21

set_option linter.all false
namespace Go.Proofs.YteflhlbgbgamnaaGreatDoor
open Go.RowKit

def pfxS (l : Bs) : Bs := Lib.trimPrefix l [64]
def pfxB (l : Bs) : Bool := Lib.hasPrefix l [64]
def sfxS (l : Bs) : Bs := Lib.trimSuffix l [44]
def sfxB (l : Bs) : Bool := Lib.hasSuffix l [44]
theorem pfxS_le (l : Bs) : (pfxS l).length ≤ l.length := by unfold pfxS Lib.trimPrefix; split <;> simp
theorem sfxS_le (l : Bs) : (sfxS l).length ≤ l.length := by unfold sfxS Lib.trimSuffix; split <;> simp
/-- What stands between the first and the last sign of a source's first line. -/
def innerL (l : Bs) : Bs := sfxS (pfxS l)
def formB (l : Bs) : Bool := pfxB l && (sfxB (pfxS l) && decide (before 123 (innerL l) < (innerL l).length))
def typeL (l : Bs) : Bs := (innerL l).take (before 123 (innerL l))
def keyL (l : Bs) : Bs := (innerL l).drop (before 123 (innerL l) + 1)
theorem innerL_le (l : Bs) : (innerL l).length ≤ l.length := Nat.le_trans (sfxS_le _) (pfxS_le _)
theorem cutp_at (l : Bs) (w : World) : Calls Tryz.prog 114 #[.string (bs l), .string (bs [64])] w fun e w' => e = .returned (.tuple #[.string (bs (pfxS l)), .bool (pfxB l)]) ∧ w = w' := by
  refine (Tryz.strings_CutPrefix (bs l) (bs [64]) w).mono ?_
  rintro e w' ⟨rfl, rfl⟩
  exact ⟨rfl, rfl⟩
theorem cuts_at (l : Bs) (w : World) (hl : l.length ≤ 1100000) : Calls Tryz.prog 115 #[.string (bs l), .string (bs [44])] w fun e w' => e = .returned (.tuple #[.string (bs (sfxS l)), .bool (sfxB l)]) ∧ w = w' := by
  refine (Tryz.strings_CutSuffix (bs l) (bs [44]) w (by simp; omega)).mono ?_
  rintro e w' ⟨rfl, rfl⟩
  exact ⟨rfl, rfl⟩
def zeroS : SrcT := ⟨[], [], [], [], []⟩
abbrev nilV : Value := .slice none 0 0
def BegunPost (r m : Nat) (vD : Value) (ks : List Bs) (l : Bs) (w : World) (e : Ending) (w' : World) : Prop :=
  e = .returned (.int .i64 0) ∧ Blk w' r 71 (rdC vD m ⟨keyL l, typeL l, [], [], []⟩ nilV nilV nilV true) ∧ MapK w' m (ks ++ [keyL l]) ∧ Only (fun i => i = r ∨ i = m) w w'
/-- The stores of a source's beginning. -/
def set6 (w : World) (r : Nat) (ky ty : Bs) : World := (((((w.setCell ⟨r, 2, none⟩ (.string (bs ky))).setCell ⟨r, 3, none⟩ (.string (bs ty))).setCell ⟨r, 4, none⟩ nilV).setCell ⟨r, 5, none⟩ nilV).setCell ⟨r, 6, none⟩ nilV).setCell ⟨r, 7, none⟩ (.bool true)
theorem set6_only (w : World) (r : Nat) (ky ty : Bs) : Only (fun i => i = r) w (set6 w r ky ty) :=
  (((((Only.setCell r 2 _).trans (Only.setCell r 3 _)).trans (Only.setCell r 4 _)).trans (Only.setCell r 5 _)).trans (Only.setCell r 6 _)).trans (Only.setCell r 7 _)
theorem begun_of {r m : Nat} {vD : Value} {ks : List Bs} {ky ty : Bs} {w w3 w4 : World} (hB : Blk w4 r 71 (rdC vD m zeroS nilV nilV nilV false)) (hM : MapK w4 m ks) (hO : Only (fun i => i = m) w3 w4) (hk : Kept w w3) (hrm : r ≠ m) :
    Blk (set6 w4 r ky ty) r 71 (rdC vD m ⟨ky, ty, [], [], []⟩ nilV nilV nilV true) ∧ MapK (set6 w4 r ky ty) m ks ∧ Only (fun i => i = r ∨ i = m) w (set6 w4 r ky ty) := by
  refine ⟨?_, ?_, ?_⟩
  · have h := set_blk (o := 7) (set_blk (o := 6) (set_blk (o := 5) (set_blk (o := 4) (set_blk (o := 3) (set_blk (o := 2) hB (.string (bs ky))) (.string (bs ty))) nilV) nilV) nilV) (.bool true)
    exact h
  · exact hM.only (set6_only w4 r ky ty) (fun q => hrm q.symm)
  · exact (Only.of_kept hk).trans ((hO.mono (fun i _ h => .inr h)).trans ((set6_only w4 r ky ty).mono (fun i _ h => .inl h)))
/-- The error of a source's first line. -/
def beginE (ks : List Bs) (nd : Nat) (l : Bs) : Int :=
  if formB l = false then 5 else if nameB (typeL l) = false ∨ nameB (keyL l) = false then 6 else if ks.contains (keyL l) = true then 7 else if 256 ≤ nd then 3 else 0

set_option maxRecDepth 100000 in
set_option maxHeartbeats 3200000 in
theorem begin_form (r m nd : Nat) (a : Option Addr) (c : Nat) (ks : List Bs) (l : Bs) (w : World) (hg : Gnd w) (hl : l.length ≤ 100000) (hb : Blk w r 71 (rdC (.slice a nd c) m zeroS nilV nilV nilV false)) (hm : MapK w m ks) (hrm : r ≠ m) (hnd : nd ≤ 1100000) (hf : formB l = false) :
    Calls Tryz.prog 86 #[.pointer (some ⟨r, 0, none⟩), .string (bs l)] w (fun e w' => e = .returned (.int .i64 5) ∧ Kept w w') := by
  have HG := Lib.hid hg
  have HB := Lib.hid hb
  have HM := Lib.hid hm
  have h1 := pfxS_le l
  have h2 := innerL_le l
  have HP := Lib.hid (fun w => cutp_at l w)
  have HS := Lib.hid (fun w => cuts_at (pfxS l) w (by omega))
  have HC := Lib.hid (fun w hg => cut_any (innerL l) 123 w hg (by omega))
  have htl : (typeL l).length ≤ 100000 := by unfold typeL; simp; omega
  have hkl : (keyL l).length ≤ 100000 := by unfold keyL; simp; omega
  have HT : Hid ((innerL l).take (before 123 (innerL l)) = typeL l) := rfl
  have HK : Hid ((innerL l).drop (before 123 (innerL l) + 1) = keyL l) := rfl
  rw [show sfxS (pfxS l) = innerL l from rfl] at HS
  rw [HT.out, HK.out] at HC
  unfold formB at hf
  generalize pfxB l = b1 at *
  generalize sfxB (pfxS l) = b2 at *
  generalize pfxS l = l1 at *
  generalize typeL l = ty at *
  generalize keyL l = ky at *
  clear hg hb hm HT HK

  by_cases hcut : before 123 (innerL l) < (innerL l).length
  · have hd : decide (before 123 (innerL l) < (innerL l).length) = true := by simpa using hcut
    rw [hd] at hf
    rw [if_pos hcut] at HC
    clear hd hcut
    generalize innerL l = l2 at *
    have hbb : b1 = false ∨ b1 = true ∧ b2 = false := by cases b1 <;> cases b2 <;> simp_all
    clear hf
    rcases hbb with rfl | ⟨rfl, rfl⟩
    all_goals
      go_enter Tryz.func86, Tryz.ntmps86
      go_wp2_with fail
      refine (HP.out _).mono ?_
      rintro e w' ⟨rfl, rfl⟩
      go_wp2_with fail
      refine (HS.out _).mono ?_
      rintro e w' ⟨rfl, rfl⟩
      go_wp2_with fail
      refine (HC.out _ HG.out).mono ?_
      rintro e w1 ⟨rfl, n1, rfl⟩
      have HK1 := Lib.hid (kept_drewN w n1)
      generalize w.drewN n1 = w1 at *
      go_wp2_with fail
      go_ret
      exact ⟨rfl, HK1.out⟩
  · rw [if_neg hcut] at HC
    clear hcut hf
    generalize innerL l = l2 at *
    cases b1 <;> cases b2
    all_goals
      go_enter Tryz.func86, Tryz.ntmps86
      go_wp2_with fail
      refine (HP.out _).mono ?_
      rintro e w' ⟨rfl, rfl⟩
      go_wp2_with fail
      refine (HS.out _).mono ?_
      rintro e w' ⟨rfl, rfl⟩
      go_wp2_with fail
      refine (HC.out _ HG.out).mono ?_
      rintro e w1 ⟨rfl, n1, rfl⟩
      have HK1 := Lib.hid (kept_drewN w n1)
      generalize w.drewN n1 = w1 at *
      go_wp2_with fail
      go_ret
      exact ⟨rfl, HK1.out⟩

set_option maxRecDepth 100000 in
set_option maxHeartbeats 3200000 in
theorem begin_name1 (r m nd : Nat) (a : Option Addr) (c : Nat) (ks : List Bs) (l : Bs) (w : World) (hg : Gnd w) (hl : l.length ≤ 100000) (hb : Blk w r 71 (rdC (.slice a nd c) m zeroS nilV nilV nilV false)) (hm : MapK w m ks) (hrm : r ≠ m) (hnd : nd ≤ 1100000) (hf : formB l = true) (hn1 : nameB (typeL l) = false) :
    Calls Tryz.prog 86 #[.pointer (some ⟨r, 0, none⟩), .string (bs l)] w (fun e w' => e = .returned (.int .i64 6) ∧ Kept w w') := by
  have HG := Lib.hid hg
  have HB := Lib.hid hb
  have HM := Lib.hid hm
  have h1 := pfxS_le l
  have h2 := innerL_le l
  have HP := Lib.hid (fun w => cutp_at l w)
  have HS := Lib.hid (fun w => cuts_at (pfxS l) w (by omega))
  have HC := Lib.hid (fun w hg => cut_any (innerL l) 123 w hg (by omega))
  have htl : (typeL l).length ≤ 100000 := by unfold typeL; simp; omega
  have hkl : (keyL l).length ≤ 100000 := by unfold keyL; simp; omega
  have HT : Hid ((innerL l).take (before 123 (innerL l)) = typeL l) := rfl
  have HK : Hid ((innerL l).drop (before 123 (innerL l) + 1) = keyL l) := rfl
  rw [show sfxS (pfxS l) = innerL l from rfl] at HS
  rw [HT.out, HK.out] at HC
  unfold formB at hf
  simp only [Bool.and_eq_true, decide_eq_true_eq] at hf
  obtain ⟨hf1, hf2, hcut⟩ := hf
  rw [hf1] at HP
  rw [hf2] at HS
  rw [if_pos hcut] at HC
  clear hf1 hf2 hcut
  generalize pfxS l = l1 at *
  generalize innerL l = l2 at *
  generalize typeL l = ty at *
  generalize keyL l = ky at *
  clear hg hb hm HT HK
  go_enter Tryz.func86, Tryz.ntmps86
  go_wp2_with fail
  refine (HP.out _).mono ?_
  rintro e w' ⟨rfl, rfl⟩
  go_wp2_with fail
  refine (HS.out _).mono ?_
  rintro e w' ⟨rfl, rfl⟩
  go_wp2_with fail
  refine (HC.out _ HG.out).mono ?_
  rintro e w1 ⟨rfl, n1, rfl⟩
  have HK1 := Lib.hid (kept_drewN w n1)
  generalize w.drewN n1 = w1 at *
  go_wp2_with fail
  refine (isName_any ty _ (by omega)).mono ?_
  rw [hn1]
  rintro e w2 ⟨rfl, hk2⟩
  have HK2 := Lib.hid (HK1.out.trans hk2)
  clear hk2
  go_wp2_with fail
  go_ret
  exact ⟨rfl, HK2.out⟩

set_option maxRecDepth 100000 in
set_option maxHeartbeats 3200000 in
theorem begin_name2 (r m nd : Nat) (a : Option Addr) (c : Nat) (ks : List Bs) (l : Bs) (w : World) (hg : Gnd w) (hl : l.length ≤ 100000) (hb : Blk w r 71 (rdC (.slice a nd c) m zeroS nilV nilV nilV false)) (hm : MapK w m ks) (hrm : r ≠ m) (hnd : nd ≤ 1100000) (hf : formB l = true) (hn1 : nameB (typeL l) = true) (hn2 : nameB (keyL l) = false) :
    Calls Tryz.prog 86 #[.pointer (some ⟨r, 0, none⟩), .string (bs l)] w (fun e w' => e = .returned (.int .i64 6) ∧ Kept w w') := by
  have HG := Lib.hid hg
  have HB := Lib.hid hb
  have HM := Lib.hid hm
  have h1 := pfxS_le l
  have h2 := innerL_le l
  have HP := Lib.hid (fun w => cutp_at l w)
  have HS := Lib.hid (fun w => cuts_at (pfxS l) w (by omega))
  have HC := Lib.hid (fun w hg => cut_any (innerL l) 123 w hg (by omega))
  have htl : (typeL l).length ≤ 100000 := by unfold typeL; simp; omega
  have hkl : (keyL l).length ≤ 100000 := by unfold keyL; simp; omega
  have HT : Hid ((innerL l).take (before 123 (innerL l)) = typeL l) := rfl
  have HK : Hid ((innerL l).drop (before 123 (innerL l) + 1) = keyL l) := rfl
  rw [show sfxS (pfxS l) = innerL l from rfl] at HS
  rw [HT.out, HK.out] at HC
  unfold formB at hf
  simp only [Bool.and_eq_true, decide_eq_true_eq] at hf
  obtain ⟨hf1, hf2, hcut⟩ := hf
  rw [hf1] at HP
  rw [hf2] at HS
  rw [if_pos hcut] at HC
  clear hf1 hf2 hcut
  generalize pfxS l = l1 at *
  generalize innerL l = l2 at *
  generalize typeL l = ty at *
  generalize keyL l = ky at *
  clear hg hb hm HT HK
  go_enter Tryz.func86, Tryz.ntmps86
  go_wp2_with fail
  refine (HP.out _).mono ?_
  rintro e w' ⟨rfl, rfl⟩
  go_wp2_with fail
  refine (HS.out _).mono ?_
  rintro e w' ⟨rfl, rfl⟩
  go_wp2_with fail
  refine (HC.out _ HG.out).mono ?_
  rintro e w1 ⟨rfl, n1, rfl⟩
  have HK1 := Lib.hid (kept_drewN w n1)
  generalize w.drewN n1 = w1 at *
  go_wp2_with fail
  refine (isName_any ty _ (by omega)).mono ?_
  rw [hn1]
  rintro e w2 ⟨rfl, hk2⟩
  have HK2 := Lib.hid (HK1.out.trans hk2)
  clear hk2
  go_wp2_with fail
  refine (isName_any ky _ (by omega)).mono ?_
  rw [hn2]
  rintro e w3 ⟨rfl, hk3⟩
  have HK3 := Lib.hid (HK2.out.trans hk3)
  clear hk3
  go_wp2_with fail
  go_ret
  exact ⟨rfl, HK3.out⟩

set_option maxRecDepth 100000 in
set_option maxHeartbeats 3200000 in
theorem begin_twice (r m nd : Nat) (a : Option Addr) (c : Nat) (ks : List Bs) (l : Bs) (w : World) (hg : Gnd w) (hl : l.length ≤ 100000) (hb : Blk w r 71 (rdC (.slice a nd c) m zeroS nilV nilV nilV false)) (hm : MapK w m ks) (hrm : r ≠ m) (hnd : nd ≤ 1100000) (hf : formB l = true) (hn1 : nameB (typeL l) = true) (hn2 : nameB (keyL l) = true) (hct : ks.contains (keyL l) = true) :
    Calls Tryz.prog 86 #[.pointer (some ⟨r, 0, none⟩), .string (bs l)] w (fun e w' => e = .returned (.int .i64 7) ∧ Kept w w') := by
  have HG := Lib.hid hg
  have HB := Lib.hid hb
  have HM := Lib.hid hm
  have h1 := pfxS_le l
  have h2 := innerL_le l
  have HP := Lib.hid (fun w => cutp_at l w)
  have HS := Lib.hid (fun w => cuts_at (pfxS l) w (by omega))
  have HC := Lib.hid (fun w hg => cut_any (innerL l) 123 w hg (by omega))
  have htl : (typeL l).length ≤ 100000 := by unfold typeL; simp; omega
  have hkl : (keyL l).length ≤ 100000 := by unfold keyL; simp; omega
  have HT : Hid ((innerL l).take (before 123 (innerL l)) = typeL l) := rfl
  have HK : Hid ((innerL l).drop (before 123 (innerL l) + 1) = keyL l) := rfl
  rw [show sfxS (pfxS l) = innerL l from rfl] at HS
  rw [HT.out, HK.out] at HC
  have HCT : Hid (∀ w', Kept w w' → (Instr.lookup 69 (.map (some m)) (.string (bs (keyL l))) false).run Tryz.prog w' = .ok (.bool (ks.contains (keyL l))) w') := fun w' hk => lookK w' m ks (keyL l) (HM.out.only (Only.of_kept (S := fun _ => False) hk) (fun q => q))
  rw [hct] at HCT
  clear hct
  unfold formB at hf
  simp only [Bool.and_eq_true, decide_eq_true_eq] at hf
  obtain ⟨hf1, hf2, hcut⟩ := hf
  rw [hf1] at HP
  rw [hf2] at HS
  rw [if_pos hcut] at HC
  clear hf1 hf2 hcut
  generalize pfxS l = l1 at *
  generalize innerL l = l2 at *
  generalize typeL l = ty at *
  generalize keyL l = ky at *
  clear hg hb hm HT HK
  go_enter Tryz.func86, Tryz.ntmps86
  go_wp2_with fail
  refine (HP.out _).mono ?_
  rintro e w' ⟨rfl, rfl⟩
  go_wp2_with fail
  refine (HS.out _).mono ?_
  rintro e w' ⟨rfl, rfl⟩
  go_wp2_with fail
  refine (HC.out _ HG.out).mono ?_
  rintro e w1 ⟨rfl, n1, rfl⟩
  have HK1 := Lib.hid (kept_drewN w n1)
  generalize w.drewN n1 = w1 at *
  go_wp2_with fail
  refine (isName_any ty _ (by omega)).mono ?_
  rw [hn1]
  rintro e w2 ⟨rfl, hk2⟩
  have HK2 := Lib.hid (HK1.out.trans hk2)
  clear hk2
  go_wp2_with fail
  refine (isName_any ky _ (by omega)).mono ?_
  rw [hn2]
  rintro e w3 ⟨rfl, hk3⟩
  have HK3 := Lib.hid (HK2.out.trans hk3)
  clear hk3
  have lk := HCT.out w3 HK3.out
  have HB3 := Lib.hid (HB.out.kept HK3.out)
  have c0 : w3.cell? ⟨r, 0, none⟩ = some (.slice a nd c) := HB3.out.cell 0 _ rfl
  have c1 : w3.cell? ⟨r, 1, none⟩ = some (.map (some m)) := HB3.out.cell 1 _ rfl
  have z3 := HB3.out.lt
  go_wp2_with fail
  go_ret
  exact ⟨rfl, HK3.out⟩

set_option maxRecDepth 100000 in
set_option maxHeartbeats 3200000 in
theorem begin_limit (r m nd : Nat) (a : Option Addr) (c : Nat) (ks : List Bs) (l : Bs) (w : World) (hg : Gnd w) (hl : l.length ≤ 100000) (hb : Blk w r 71 (rdC (.slice a nd c) m zeroS nilV nilV nilV false)) (hm : MapK w m ks) (hrm : r ≠ m) (hnd : nd ≤ 1100000) (hf : formB l = true) (hn1 : nameB (typeL l) = true) (hn2 : nameB (keyL l) = true) (hct : ks.contains (keyL l) = false) (h256 : 256 ≤ nd) :
    Calls Tryz.prog 86 #[.pointer (some ⟨r, 0, none⟩), .string (bs l)] w (fun e w' => e = .returned (.int .i64 3) ∧ Kept w w') := by
  have HG := Lib.hid hg
  have HB := Lib.hid hb
  have HM := Lib.hid hm
  have h1 := pfxS_le l
  have h2 := innerL_le l
  have HP := Lib.hid (fun w => cutp_at l w)
  have HS := Lib.hid (fun w => cuts_at (pfxS l) w (by omega))
  have HC := Lib.hid (fun w hg => cut_any (innerL l) 123 w hg (by omega))
  have htl : (typeL l).length ≤ 100000 := by unfold typeL; simp; omega
  have hkl : (keyL l).length ≤ 100000 := by unfold keyL; simp; omega
  have HT : Hid ((innerL l).take (before 123 (innerL l)) = typeL l) := rfl
  have HK : Hid ((innerL l).drop (before 123 (innerL l) + 1) = keyL l) := rfl
  rw [show sfxS (pfxS l) = innerL l from rfl] at HS
  rw [HT.out, HK.out] at HC
  have HCT : Hid (∀ w', Kept w w' → (Instr.lookup 69 (.map (some m)) (.string (bs (keyL l))) false).run Tryz.prog w' = .ok (.bool (ks.contains (keyL l))) w') := fun w' hk => lookK w' m ks (keyL l) (HM.out.only (Only.of_kept (S := fun _ => False) hk) (fun q => q))
  rw [hct] at HCT
  clear hct
  unfold formB at hf
  simp only [Bool.and_eq_true, decide_eq_true_eq] at hf
  obtain ⟨hf1, hf2, hcut⟩ := hf
  rw [hf1] at HP
  rw [hf2] at HS
  rw [if_pos hcut] at HC
  clear hf1 hf2 hcut
  generalize pfxS l = l1 at *
  generalize innerL l = l2 at *
  generalize typeL l = ty at *
  generalize keyL l = ky at *
  clear hg hb hm HT HK
  go_enter Tryz.func86, Tryz.ntmps86
  go_wp2_with fail
  refine (HP.out _).mono ?_
  rintro e w' ⟨rfl, rfl⟩
  go_wp2_with fail
  refine (HS.out _).mono ?_
  rintro e w' ⟨rfl, rfl⟩
  go_wp2_with fail
  refine (HC.out _ HG.out).mono ?_
  rintro e w1 ⟨rfl, n1, rfl⟩
  have HK1 := Lib.hid (kept_drewN w n1)
  generalize w.drewN n1 = w1 at *
  go_wp2_with fail
  refine (isName_any ty _ (by omega)).mono ?_
  rw [hn1]
  rintro e w2 ⟨rfl, hk2⟩
  have HK2 := Lib.hid (HK1.out.trans hk2)
  clear hk2
  go_wp2_with fail
  refine (isName_any ky _ (by omega)).mono ?_
  rw [hn2]
  rintro e w3 ⟨rfl, hk3⟩
  have HK3 := Lib.hid (HK2.out.trans hk3)
  clear hk3
  have lk := HCT.out w3 HK3.out
  have HB3 := Lib.hid (HB.out.kept HK3.out)
  have c0 : w3.cell? ⟨r, 0, none⟩ = some (.slice a nd c) := HB3.out.cell 0 _ rfl
  have c1 : w3.cell? ⟨r, 1, none⟩ = some (.map (some m)) := HB3.out.cell 1 _ rfl
  have z3 := HB3.out.lt
  go_wp2_with fail
  go_ret
  exact ⟨rfl, HK3.out⟩

set_option maxRecDepth 100000 in
set_option maxHeartbeats 3200000 in
theorem begin_ok (r m nd : Nat) (a : Option Addr) (c : Nat) (ks : List Bs) (l : Bs) (w : World) (hg : Gnd w) (hl : l.length ≤ 100000) (hb : Blk w r 71 (rdC (.slice a nd c) m zeroS nilV nilV nilV false)) (hm : MapK w m ks) (hrm : r ≠ m) (hnd : nd ≤ 1100000) (hf : formB l = true) (hn1 : nameB (typeL l) = true) (hn2 : nameB (keyL l) = true) (hct : ks.contains (keyL l) = false) (h256 : nd < 256) :
    Calls Tryz.prog 86 #[.pointer (some ⟨r, 0, none⟩), .string (bs l)] w (BegunPost r m (.slice a nd c) ks l w) := by
  have HG := Lib.hid hg
  have HB := Lib.hid hb
  have HM := Lib.hid hm
  have h1 := pfxS_le l
  have h2 := innerL_le l
  have HP := Lib.hid (fun w => cutp_at l w)
  have HS := Lib.hid (fun w => cuts_at (pfxS l) w (by omega))
  have HC := Lib.hid (fun w hg => cut_any (innerL l) 123 w hg (by omega))
  have htl : (typeL l).length ≤ 100000 := by unfold typeL; simp; omega
  have hkl : (keyL l).length ≤ 100000 := by unfold keyL; simp; omega
  have HT : Hid ((innerL l).take (before 123 (innerL l)) = typeL l) := rfl
  have HK : Hid ((innerL l).drop (before 123 (innerL l) + 1) = keyL l) := rfl
  rw [show sfxS (pfxS l) = innerL l from rfl] at HS
  rw [HT.out, HK.out] at HC
  have HCT : Hid (∀ w', Kept w w' → (Instr.lookup 69 (.map (some m)) (.string (bs (keyL l))) false).run Tryz.prog w' = .ok (.bool (ks.contains (keyL l))) w') := fun w' hk => lookK w' m ks (keyL l) (HM.out.only (Only.of_kept (S := fun _ => False) hk) (fun q => q))
  rw [hct] at HCT
  have HIN : Hid (keyL l ∉ ks) := by intro q; have : ks.contains (keyL l) = true := by simpa using q
                                     rw [this] at hct; cases hct
  clear hct
  unfold BegunPost
  unfold formB at hf
  simp only [Bool.and_eq_true, decide_eq_true_eq] at hf
  obtain ⟨hf1, hf2, hcut⟩ := hf
  rw [hf1] at HP
  rw [hf2] at HS
  rw [if_pos hcut] at HC
  clear hf1 hf2 hcut
  generalize pfxS l = l1 at *
  generalize innerL l = l2 at *
  generalize typeL l = ty at *
  generalize keyL l = ky at *
  clear hg hb hm HT HK
  go_enter Tryz.func86, Tryz.ntmps86
  go_wp2_with fail
  refine (HP.out _).mono ?_
  rintro e w' ⟨rfl, rfl⟩
  go_wp2_with fail
  refine (HS.out _).mono ?_
  rintro e w' ⟨rfl, rfl⟩
  go_wp2_with fail
  refine (HC.out _ HG.out).mono ?_
  rintro e w1 ⟨rfl, n1, rfl⟩
  have HK1 := Lib.hid (kept_drewN w n1)
  generalize w.drewN n1 = w1 at *
  go_wp2_with fail
  refine (isName_any ty _ (by omega)).mono ?_
  rw [hn1]
  rintro e w2 ⟨rfl, hk2⟩
  have HK2 := Lib.hid (HK1.out.trans hk2)
  clear hk2
  go_wp2_with fail
  refine (isName_any ky _ (by omega)).mono ?_
  rw [hn2]
  rintro e w3 ⟨rfl, hk3⟩
  have HK3 := Lib.hid (HK2.out.trans hk3)
  clear hk3
  have lk := HCT.out w3 HK3.out
  have HB3 := Lib.hid (HB.out.kept HK3.out)
  have c0 : w3.cell? ⟨r, 0, none⟩ = some (.slice a nd c) := HB3.out.cell 0 _ rfl
  have c1 : w3.cell? ⟨r, 1, none⟩ = some (.map (some m)) := HB3.out.cell 1 _ rfl
  have z3 := HB3.out.lt
  have HM3 := Lib.hid (HM.out.only (Only.of_kept (S := fun _ => False) HK3.out) (fun q => q))
  have ins := insK w3 m ks ky HM3.out HIN.out
  have HO4 := Lib.hid (putK_only w3 m (ks ++ [ky]))
  have HM4 := Lib.hid (putK_map w3 m (ks ++ [ky]) HM3.out.lt)
  have HB4 : Hid (Blk (putK w3 m (ks ++ [ky])) r 71 (rdC (.slice a nd c) m zeroS nilV nilV nilV false)) := by
    show Blk _ _ _ _
    unfold Blk
    rw [HO4.out.block r z3 hrm]; exact HB3.out
  generalize putK w3 m (ks ++ [ky]) = w4 at *
  have d0 : w4.cell? ⟨r, 2, none⟩ = some (.string (bs [])) := HB4.out.cell 2 _ rfl
  have d1 : w4.cell? ⟨r, 3, none⟩ = some (.string (bs [])) := HB4.out.cell 3 _ rfl
  have d2 : w4.cell? ⟨r, 4, none⟩ = some nilV := HB4.out.cell 4 _ rfl
  have d3 : w4.cell? ⟨r, 5, none⟩ = some nilV := HB4.out.cell 5 _ rfl
  have d4 : w4.cell? ⟨r, 6, none⟩ = some nilV := HB4.out.cell 6 _ rfl
  have d5 : w4.cell? ⟨r, 7, none⟩ = some (.bool false) := HB4.out.cell 7 _ rfl
  have e0 := HB4.out.free 2
  have e1 := HB4.out.free 3
  have e2 := HB4.out.free 4
  have e3 := HB4.out.free 5
  have e4 := HB4.out.free 6
  have e5 := HB4.out.free 7
  have z4 := HB4.out.lt
  go_wp2_with fail
  go_ret
  exact ⟨rfl, begun_of HB4.out HM4.out HO4.out HK3.out hrm⟩

theorem begin_err (r m nd : Nat) (a : Option Addr) (c : Nat) (ks : List Bs) (l : Bs) (w : World) (hg : Gnd w) (hl : l.length ≤ 100000) (hb : Blk w r 71 (rdC (.slice a nd c) m zeroS nilV nilV nilV false)) (hm : MapK w m ks) (hrm : r ≠ m) (hnd : nd ≤ 1100000) (he : beginE ks nd l ≠ 0) :
    Calls Tryz.prog 86 #[.pointer (some ⟨r, 0, none⟩), .string (bs l)] w (fun e w' => e = .returned (.int .i64 (beginE ks nd l)) ∧ Kept w w') := by
  unfold beginE at he ⊢
  cases hf : formB l
  · exact begin_form r m nd a c ks l w hg hl hb hm hrm hnd hf
  rw [hf, if_neg (by simp)] at he
  rw [if_neg (by simp)]
  by_cases hn : nameB (typeL l) = false ∨ nameB (keyL l) = false
  · rw [if_pos hn]
    cases hn1 : nameB (typeL l)
    · exact begin_name1 r m nd a c ks l w hg hl hb hm hrm hnd hf hn1
    · exact begin_name2 r m nd a c ks l w hg hl hb hm hrm hnd hf hn1 (by rcases hn with h | h; rw [hn1] at h; cases h; exact h)
  rw [if_neg hn] at he ⊢
  simp only [not_or, Bool.not_eq_false] at hn
  cases hct : ks.contains (keyL l)
  · rw [hct, if_neg (by simp)] at he
    rw [if_neg (by simp)]
    by_cases h256 : 256 ≤ nd
    · rw [if_pos h256]; exact begin_limit r m nd a c ks l w hg hl hb hm hrm hnd hf hn.1 hn.2 hct h256
    · rw [if_neg h256] at he; exact absurd rfl he
  · rw [if_pos rfl]; exact begin_twice r m nd a c ks l w hg hl hb hm hrm hnd hf hn.1 hn.2 hct
theorem begin_yes (r m nd : Nat) (a : Option Addr) (c : Nat) (ks : List Bs) (l : Bs) (w : World) (hg : Gnd w) (hl : l.length ≤ 100000) (hb : Blk w r 71 (rdC (.slice a nd c) m zeroS nilV nilV nilV false)) (hm : MapK w m ks) (hrm : r ≠ m) (hnd : nd ≤ 1100000) (he : beginE ks nd l = 0) :
    Calls Tryz.prog 86 #[.pointer (some ⟨r, 0, none⟩), .string (bs l)] w (BegunPost r m (.slice a nd c) ks l w) := by
  unfold beginE at he
  cases hf : formB l
  · rw [hf, if_pos rfl] at he; cases he
  rw [hf, if_neg (by simp)] at he
  by_cases hn : nameB (typeL l) = false ∨ nameB (keyL l) = false
  · rw [if_pos hn] at he; cases he
  rw [if_neg hn] at he
  simp only [not_or, Bool.not_eq_false] at hn
  cases hct : ks.contains (keyL l)
  · rw [hct, if_neg (by simp)] at he
    by_cases h256 : 256 ≤ nd
    · rw [if_pos h256] at he; cases he
    · exact begin_ok r m nd a c ks l w hg hl hb hm hrm hnd hf hn.1 hn.2 hct (by omega)
  · rw [hct, if_pos rfl] at he; cases he
end Go.Proofs.YteflhlbgbgamnaaGreatDoor

/- (*reader).line of package bib: the end of a source. Conditions: lengths. -/
set_option linter.all false
namespace Go.Proofs.YteflhlbgbgamnaaGreatDoor
open Go.RowKit

theorem Tryz.infoSrc : (Tryz.prog.info? 40).map (fun i => (i.zero, i.size, i.bytes)) = some (some (.agg #[.string ⟨#[]⟩, .string ⟨#[]⟩, .slice none 0 0, .slice none 0 0, .slice none 0 0]), 5, 104) := by kernel_rfl
def srcC (s : SrcT) (vA vE vF : Value) : List Value := [.string (bs s.key), .string (bs s.type), vA, vE, vF]
def kTitle : Bs := [116, 105, 116, 108, 101]
/-- The stores of a source's end. -/
def setEnd (w : World) (r : Nat) (vD : Value) : World := ((((((w.setCell ⟨r, 0, none⟩ vD).setCell ⟨r, 2, none⟩ (.string (bs []))).setCell ⟨r, 3, none⟩ (.string (bs []))).setCell ⟨r, 4, none⟩ nilV).setCell ⟨r, 5, none⟩ nilV).setCell ⟨r, 6, none⟩ nilV).setCell ⟨r, 7, none⟩ (.bool false)
theorem setEnd_only (w : World) (r : Nat) (vD : Value) : Only (fun i => i = r) w (setEnd w r vD) :=
  ((((((Only.setCell r 0 _).trans (Only.setCell r 2 _)).trans (Only.setCell r 3 _)).trans (Only.setCell r 4 _)).trans (Only.setCell r 5 _)).trans (Only.setCell r 6 _)).trans (Only.setCell r 7 _)
theorem setEnd_blk {w : World} {r m : Nat} {vD : Value} {s : SrcT} {vA vE vF : Value} (vD' : Value) (h2 : Blk w r 71 (rdC vD m s vA vE vF true)) : Blk (setEnd w r vD') r 71 (rdC vD' m zeroS nilV nilV nilV false) := by
  have h := set_blk (o := 7) (set_blk (o := 6) (set_blk (o := 5) (set_blk (o := 4) (set_blk (o := 3) (set_blk (o := 2) (set_blk (o := 0) h2 vD') (.string (bs []))) (.string (bs []))) nilV) nilV) nilV) (.bool false)
  have e : (((((((rdC vD m s vA vE vF true).setIfInBounds 0 vD').setIfInBounds 2 (.string (bs []))).setIfInBounds 3 (.string (bs []))).setIfInBounds 4 nilV).setIfInBounds 5 nilV).setIfInBounds 6 nilV).setIfInBounds 7 (.bool false) = rdC vD' m zeroS nilV nilV nilV false := by
    simp [rdC, zeroS]
  rw [e] at h
  unfold setEnd
  exact h
/-- What the end of a source leaves. -/
def DonePost (B r m n : Nat) (xs : List Value) (vD : Value) (w : World) (e : Ending) (w' : World) : Prop :=
  e = .returned (.int .i64 0) ∧ ∃ g cap, w'.ownsRow B 40 5 (.slice (some ⟨g, 0, none⟩) n cap) n xs ∧ (vD.ownBlock = some g ∨ w.heap.size ≤ g) ∧ g < w'.heap.size ∧
    Blk w' r 71 (rdC (.slice (some ⟨g, 0, none⟩) n cap) m zeroS nilV nilV nilV false) ∧ Only (fun i => some i = vD.ownBlock ∨ i = r) w w'
theorem done_of {B r m n : Nat} {xs : List Value} {vD : Value} {s : SrcT} {vA vE vF : Value} {w wa w3 : World} {g cap : Nat} (hk : Kept w wa) (hg : wa.grownBy w3 vD.ownBlock) (hO : w3.ownsRow B 40 5 (.slice (some ⟨g, 0, none⟩) n cap) n xs)
    (hat : vD.ownBlock = some g ∨ w.heap.size ≤ g) (hlt : g < w3.heap.size) (hne : some r ≠ vD.ownBlock) (hB : Blk w r 71 (rdC vD m s vA vE vF true)) :
    DonePost B r m n xs vD w (.returned (.int .i64 0)) (setEnd w3 r (.slice (some ⟨g, 0, none⟩) n cap)) := by
  have hrl := hB.lt
  have hgr : g ≠ r := by
    rintro rfl
    rcases hat with h | h
    · exact hne h.symm
    · omega
  refine ⟨rfl, g, cap, ?_, hat, ?_, ?_, ?_⟩
  · exact (setEnd_only w3 r _).own hO (fun g' h q => by simp [Value.ownBlock] at h; omega)
  · have := (setEnd_only w3 r (.slice (some ⟨g, 0, none⟩) n cap)).size; omega
  · have h1 := hB.kept hk
    have h2 : Blk w3 r 71 (rdC vD m s vA vE vF true) := (hg.block r (by have := hk.size; omega) hne).trans h1
    exact setEnd_blk _ h2
  · exact (Only.of_kept hk).trans (((Only.grown hg).mono (fun i _ h => .inl h)).trans ((setEnd_only w3 r _).mono (fun i _ h => .inr h)))

set_option maxRecDepth 100000 in
set_option maxHeartbeats 6400000 in
theorem line_done (B r m n : Nat) (xs : List Value) (vD : Value) (s : SrcT) (vA vE vF : Value) (w : World) (hb : Blk w r 71 (rdC vD m s vA vE vF true)) (hD : w.ownsRow B 40 5 vD n xs) (hne : some r ≠ vD.ownBlock) (hBs : B ≤ w.heap.size)
    (hF : Prs w vF s.fields) (hA1 : ∃ a k c, vA = .slice a k c) (hE1 : ∃ a k c, vE = .slice a k c) (hfl : s.fields.length ≤ 1100000) (hn : n ≤ 1100000) (ht : hasB s.fields [116, 105, 116, 108, 101] = true) :
    Calls Tryz.prog 43 #[.pointer (some ⟨r, 0, none⟩), .string (bs [125])] w (DonePost B r m (n + 1) (xs ++ srcC s vA vE vF) vD w) := by
  obtain ⟨i0, hi, hz0, hz1, hz2⟩ := info_parts Tryz.infoSrc
  have HH := Lib.hid (hasField_any vF s.fields [116, 105, 116, 108, 101] w hF hfl)
  rw [ht] at HH
  obtain ⟨aD, cD, hvD, hcD, _, _⟩ := own_cap hD
  have HD := Lib.hid hD
  have HB := Lib.hid hb
  have HNE := Lib.hid hne
  have HSC : Hid (srcC s vA vE vF = [.string (bs s.key), .string (bs s.type), vA, vE, vF]) := rfl
  obtain ⟨aF, cF, hvF, _, _⟩ := hF
  obtain ⟨aA, kA, cA, rfl⟩ := hA1
  obtain ⟨aE, kE, cE, rfl⟩ := hE1
  subst hvF hvD
  clear hb hD hne ht
  have c7 : w.cell? ⟨r, 7, none⟩ = some (.bool true) := HB.out.cell 7 _ rfl
  have c6 : w.cell? ⟨r, 6, none⟩ = some (.slice aF s.fields.length cF) := HB.out.cell 6 _ rfl
  have z := HB.out.lt
  go_enter Tryz.func43, Tryz.ntmps43
  go_wp2_with fail
  refine HH.out.mono ?_
  rintro e w1 ⟨rfl, hk1⟩
  have HK1 := Lib.hid hk1
  have HB1 := Lib.hid (HB.out.kept hk1)
  have HD1 := Lib.hid (own_kept HD.out hk1)
  clear hk1 c7 c6
  have d0 : w1.cell? ⟨r, 0, none⟩ = some (.slice aD n cD) := HB1.out.cell 0 _ rfl
  have d2 : w1.cell? ⟨r, 2, none⟩ = some (.string (bs s.key)) := HB1.out.cell 2 _ rfl
  have d3 : w1.cell? ⟨r, 3, none⟩ = some (.string (bs s.type)) := HB1.out.cell 3 _ rfl
  have d4 : w1.cell? ⟨r, 4, none⟩ = some (.slice aA kA cA) := HB1.out.cell 4 _ rfl
  have d5 : w1.cell? ⟨r, 5, none⟩ = some (.slice aE kE cE) := HB1.out.cell 5 _ rfl
  have d6 : w1.cell? ⟨r, 6, none⟩ = some (.slice aF s.fields.length cF) := HB1.out.cell 6 _ rfl
  have z1 := HB1.out.lt
  have hB1 : B ≤ w1.heap.size := by have := HK1.out.size; omega
  have HNEWS := Lib.hid (World.news_of_block (w := (w1.alloc (.cells #[.string (bs s.key), .string (bs s.type), .slice aA kA cA, .slice aE kE cE, .slice aF s.fields.length cF] 40)).drew) (B := w1.heap.size) (cs := #[.string (bs s.key), .string (bs s.type), .slice aA kA cA, .slice aE kE cE, .slice aF s.fields.length cF]) (t := 40) (fr := (0, 0)) (heap_alloc_new w1 _))
  have HRB := Lib.hid (((HB1.out.alloc (.cells #[.string (bs s.key), .string (bs s.type), .slice aA kA cA, .slice aE kE cE, .slice aF s.fields.length cF] 40)).kept (kept_drewN _ 1)))
  go_wp2_with fail
  go_region_law ((refine step_append_lies _ rfl (.tmp 32) (.tmp 37) 23 rfl B 40 i0 _ 5 104 Tryz.underlying23 hi hz0 hz1 hz2 rfl (by omega) (.slice aD n cD) n xs (by simp [Act.eval, Act.put]) ((HD1.out.alloc _).drew) ⟨w1.heap.size, 0, none⟩ 1 1 [.string (bs s.key), .string (bs s.type), .slice aA kA cA, .slice aE kE cE, .slice aF s.fields.length cF] (by simp [Act.eval, Act.put]) rfl HNEWS.out (by simp [Value.oneCell']) (by omega) (by unfold maxLen; omega) (by omega) (by simp; omega) (w1.heap.size + 1) (by simp) ?_; intro g cap w3 hown3 hgrow hat hlt; have hrb := hgrow.block r (by simp; omega) HNE.out; have HRW := Lib.hid (show Blk w3 r 71 (rdC (.slice aD n cD) m s (.slice aA kA cA) (.slice aE kE cE) (.slice aF s.fields.length cF) true) from hrb.trans HRB.out); have f3 : w3.cell? ⟨r, 0, none⟩ = some (.slice aD n cD) := HRW.out.cell 0 _ rfl; have f4 : w3.frozen? ⟨r, 0, none⟩ = false := HRW.out.free 0; have z3 := HRW.out.lt; have HG3 := Lib.hid hgrow; have HO3 := Lib.hid hown3; have HAT := Lib.hid hat; have HLT := Lib.hid hlt; clear hgrow hown3 hat hrb hlt))
  all_goals
    have k2 : w3.cell? ⟨r, 2, none⟩ = some (.string (bs s.key)) := HRW.out.cell 2 _ rfl
    have k3 : w3.cell? ⟨r, 3, none⟩ = some (.string (bs s.type)) := HRW.out.cell 3 _ rfl
    have k4 : w3.cell? ⟨r, 4, none⟩ = some (.slice aA kA cA) := HRW.out.cell 4 _ rfl
    have k5 : w3.cell? ⟨r, 5, none⟩ = some (.slice aE kE cE) := HRW.out.cell 5 _ rfl
    have k6 : w3.cell? ⟨r, 6, none⟩ = some (.slice aF s.fields.length cF) := HRW.out.cell 6 _ rfl
    have k7 : w3.cell? ⟨r, 7, none⟩ = some (.bool true) := HRW.out.cell 7 _ rfl
    have g2 := HRW.out.free 2
    have g3 := HRW.out.free 3
    have g4 := HRW.out.free 4
    have g5 := HRW.out.free 5
    have g6 := HRW.out.free 6
    have g7 := HRW.out.free 7
    go_wp2_with fail
    go_ret
    refine done_of ((HK1.out.trans (kept_alloc w1 _)).trans (kept_drewN _ 1)) HG3.out (by rw [HSC.out]; exact HO3.out) ?_ HLT.out HNE.out HB.out
    rcases HAT.out with h | h
    · exact .inl h
    · have := HK1.out.size; exact .inr (by omega)
end Go.Proofs.YteflhlbgbgamnaaGreatDoor
