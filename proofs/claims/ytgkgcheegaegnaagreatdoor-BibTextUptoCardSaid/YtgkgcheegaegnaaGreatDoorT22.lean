/- A map of keys that a call makes: insertion and look-up; (*reader).add whole. No condition but lengths. -/
import Derived.Test.YtgkgcheegaegnaaGreatDoorT21
import Derived.Test.YtgkgcheegaegnaaGreatDoorT16

set_option linter.all false
namespace Go.Proofs.YtgkgcheegaegnaaGreatDoor
open Go.RowKit

theorem add_any (r T m : Nat) (vD : Value) (s : SrcT) (vA vE vF : Value) (l : Bs) (w : World) (hg : Gnd w) (hl : l.length ≤ 100000) (hb : Blk w r 55 (rdC vD m s vA vE vF true)) (hs : SrcRow w T s vA vE vF) (hT : r < T) (hTs : T ≤ w.heap.size)
    (hA : s.author.length ≤ 100) (hE : s.editor.length ≤ 100) (hF : s.fields.length ≤ 100) :
    Calls Tryz.prog 48 #[.pointer (some ⟨r, 0, none⟩), .string (bs l)] w (AddPost r T m vD (addS s l).1 (addS s l).2 w) := by
  unfold addS
  by_cases hcut : before 61 l < l.length
  · rw [if_pos hcut]
    by_cases hk : trimL (l.take (before 61 l)) = kAuthor
    · rw [if_pos hk]
      by_cases hn : (parseR (trimL (l.drop (before 61 l + 1)))).1 = 0
      · rw [if_neg (by simpa using hn)]
        by_cases h32 : 32 ≤ s.author.length
        · rw [if_pos h32]; exact add_author_full r T m vD s vA vE vF l w hg hl hb hs hT hTs hcut hk hn h32 (by omega)
        · rw [if_neg h32]; exact add_author_ok r T m vD s vA vE vF l w hg hl hb hs hT hTs hcut hk hn (by omega)
      · rw [if_pos hn]; exact add_author_no r T m vD s vA vE vF l w hg hl hb hs hT hTs hcut hk hn
    rw [if_neg hk]
    by_cases hk2 : trimL (l.take (before 61 l)) = kEditor
    · rw [if_pos hk2]
      by_cases hn : (parseR (trimL (l.drop (before 61 l + 1)))).1 = 0
      · rw [if_neg (by simpa using hn)]
        by_cases h32 : 32 ≤ s.editor.length
        · rw [if_pos h32]; exact add_editor_full r T m vD s vA vE vF l w hg hl hb hs hT hTs hcut hk2 hn h32 (by omega)
        · rw [if_neg h32]; exact add_editor_ok r T m vD s vA vE vF l w hg hl hb hs hT hTs hcut hk2 hn (by omega)
      · rw [if_pos hn]; exact add_editor_no r T m vD s vA vE vF l w hg hl hb hs hT hTs hcut hk2 hn
    rw [if_neg hk2]
    have ha : (trimL (l.take (before 61 l)) == [97, 117, 116, 104, 111, 114]) = false := by rw [beq_eq_false_iff_ne]; exact hk
    have he : (trimL (l.take (before 61 l)) == [101, 100, 105, 116, 111, 114]) = false := by rw [beq_eq_false_iff_ne]; exact hk2
    cases hnm : nameB (trimL (l.take (before 61 l)))
    · rw [if_pos rfl]; exact add_name r T m vD s vA vE vF l w hg hl hb hs hT hTs hcut ha he hnm
    rw [if_neg (by simp)]
    by_cases hv0 : trimL (l.drop (before 61 l + 1)) = []
    · rw [if_pos hv0]; exact add_text r T m vD s vA vE vF l w hg hl hb hs hT hTs hcut ha he hnm hv0
    rw [if_neg hv0]
    cases hhas : hasB s.fields (trimL (l.take (before 61 l)))
    · rw [if_neg (by simp)]
      by_cases h24 : 24 ≤ s.fields.length
      · rw [if_pos h24]; exact add_limit r T m vD s vA vE vF l w hg hl hb hs hT hTs hcut ha he hnm hv0 (by simpa using hv0) (by omega) hhas h24
      · rw [if_neg h24]; exact add_field r T m vD s vA vE vF l w hg hl hb hs hT hTs hcut ha he hnm hv0 (by simpa using hv0) (by omega) hhas (by omega)
    · rw [if_pos rfl]; exact add_twice r T m vD s vA vE vF l w hg hl hb hs hT hTs hcut ha he hnm hv0 (by simpa using hv0) (by omega) hhas
  · rw [if_neg hcut]; exact add_form r T m vD s vA vE vF l w hg hl hb hs hT hTs hcut

def entK (k : Bs) (i : Nat) : MapEntry := { key := .string (bs k), val := .bool true, born := i }
def entsK (ks : List Bs) : Array MapEntry := (ks.mapIdx fun i k => entK k i).toArray
/-- Block m is the map of the keys ks. -/
def MapK (w : World) (m : Nat) (ks : List Bs) : Prop := w.heap[m]? = some (.map (entsK ks) ks.length)
/-- The world with another map of keys in block m. -/
def putK (w : World) (m : Nat) (ks : List Bs) : World := { w with heap := w.heap.setIfInBounds m (.map (entsK ks) ks.length) }
theorem MapK.lt {w : World} {m : Nat} {ks : List Bs} (h : MapK w m ks) : m < w.heap.size := by
  rcases Nat.lt_or_ge m w.heap.size with q | q
  · exact q
  · unfold MapK at h; rw [Array.getElem?_eq_none q] at h; cases h
theorem MapK.only {S : Nat → Prop} {w w' : World} {m : Nat} {ks : List Bs} (h : MapK w m ks) (k : Only S w w') (hs : ¬ S m) : MapK w' m ks := by
  unfold MapK at h ⊢; rw [k.block m (MapK.lt h) hs]; exact h
theorem putK_map (w : World) (m : Nat) (ks : List Bs) (hm : m < w.heap.size) : MapK (putK w m ks) m ks := by
  unfold MapK putK; simp [hm]
theorem putK_only (w : World) (m : Nat) (ks : List Bs) : Only (fun i => i = m) w (putK w m ks) :=
  ⟨rfl, rfl, rfl, by simp [putK], fun k hk hs => by simp [putK, Array.getElem?_setIfInBounds, Ne.symm hs]⟩
theorem putK_size (w : World) (m : Nat) (ks : List Bs) : (putK w m ks).heap.size = w.heap.size := by simp [putK]
theorem entsK_snoc (ks : List Bs) (k : Bs) : entsK (ks ++ [k]) = (entsK ks).push (entK k ks.length) := by
  unfold entsK; rw [List.mapIdx_append]; simp
theorem findK_none (k : Bs) : ∀ (l : List Bs) (i j : Nat), k ∉ l → Instr.findNow .string (.string (bs k)) (l.mapIdx fun i' x => entK x (i' + i)) j = some none
  | [], _, _, _ => rfl
  | x :: l, i, j, h => by
    have hx : (bs k == bs x) = false := by rw [bs_beq, beq_eq_false_iff_ne]; exact fun e => h (by simp [e])
    rw [List.mapIdx_cons]
    unfold Instr.findNow
    simp only [entK, Instr.sameNow, hx]
    have := findK_none k l (i + 1) (j + 1) (fun e => h (by simp [e]))
    simp only [entK] at this
    rw [← this]
    congr 1
    apply List.ext_getElem?
    intro m
    simp [List.getElem?_mapIdx]
    cases l[m]? <;> simp; omega
theorem findK_some (k : Bs) : ∀ (l : List Bs) (i j : Nat), k ∈ l → ∃ m, Instr.findNow .string (.string (bs k)) (l.mapIdx fun i' x => entK x (i' + i)) j = some (some (m, .bool true))
  | [], _, _, h => by cases h
  | x :: l, i, j, h => by
    rw [List.mapIdx_cons]
    unfold Instr.findNow
    by_cases q : x = k
    · have hx : (bs k == bs x) = true := by rw [bs_beq, beq_iff_eq]; exact q.symm
      simp only [entK, Instr.sameNow, hx]
      exact ⟨_, rfl⟩
    · have hx : (bs k == bs x) = false := by rw [bs_beq, beq_eq_false_iff_ne]; exact fun e => q e.symm
      have hl : k ∈ l := by rcases List.mem_cons.1 h with e | e; exact absurd e.symm q; exact e
      simp only [entK, Instr.sameNow, hx]
      obtain ⟨m, hm⟩ := findK_some k l (i + 1) (j + 1) hl
      refine ⟨m, ?_⟩
      simp only [entK] at hm
      rw [← hm]
      congr 1
      apply List.ext_getElem?
      intro m
      simp [List.getElem?_mapIdx]
      cases l[m]? <;> simp; omega
theorem entsK_list (l : List Bs) : (entsK l).toList = l.mapIdx fun i' x => entK x (i' + 0) := by simp [entsK]
theorem runK_none (w : World) (l : List Bs) (k : Bs) (hk : k ∉ l) : (Instr.findKey 9 (.string (bs k)) (entsK l).toList).run Tryz.prog w = .ok none w := by
  unfold Instr.findKey
  simp only [Sem.run_bind, run_underlying Tryz.underlying9, Result.andThen, entsK_list, findK_none k l 0 0 hk]
  simp [Sem.run_pure]
theorem runK_some (w : World) (l : List Bs) (k : Bs) (hk : k ∈ l) : ∃ m, (Instr.findKey 9 (.string (bs k)) (entsK l).toList).run Tryz.prog w = .ok (some (m, .bool true)) w := by
  obtain ⟨m, hm⟩ := findK_some k l 0 0 hk
  refine ⟨m, ?_⟩
  unfold Instr.findKey
  simp only [Sem.run_bind, run_underlying Tryz.underlying9, Result.andThen, entsK_list, hm]
  simp [Sem.run_pure]
theorem zero_bool (w : World) : (zeroValue 4).run Tryz.prog w = .ok (.bool false) w := by kernel_rfl
theorem lookK (w : World) (m : Nat) (ks : List Bs) (k : Bs) (h : MapK w m ks) : (Instr.lookup 53 (.map (some m)) (.string (bs k)) false).run Tryz.prog w = .ok (.bool (ks.contains k)) w := by
  have hu : Tryz.prog.underlying 53 = some (.map 9 4) := Tryz.underlying53
  unfold MapK at h
  unfold Instr.lookup
  simp only [Sem.run_bind, run_underlying hu, Result.andThen]
  by_cases hk : k ∈ ks
  · obtain ⟨j, hf⟩ := runK_some w ks k hk
    have hc : ks.contains k = true := by simpa using hk
    simp only [getObj, Sem.run_bind, Sem.run, h, Result.andThen, Sem.run_pure, run_check, hf, hc]
    simp [Sem.run_pure]
  · have hf := runK_none w ks k hk
    have hc : ks.contains k = false := by simpa using hk
    simp only [getObj, Sem.run_bind, Sem.run, h, Result.andThen, Sem.run_pure, run_check, hf, hc, zero_bool]
    simp [Sem.run_pure]
theorem insK (w : World) (m : Nat) (ks : List Bs) (k : Bs) (h : MapK w m ks) (hk : k ∉ ks) : (Instr.mapUpdate 53 (.map (some m)) (.string (bs k)) (.bool true)).run Tryz.prog w = .ok () (putK w m (ks ++ [k])) := by
  have hu : Tryz.prog.underlying 53 = some (.map 9 4) := Tryz.underlying53
  unfold MapK at h
  unfold Instr.mapUpdate
  simp only [Sem.run_bind, run_underlying hu, Result.andThen]
  simp only [getObj, Sem.run_bind, Sem.run, h, Result.andThen, Sem.run_pure, run_check, runK_none _ ks k hk, setObj]
  refine congrArg (Result.ok ()) ?_
  unfold putK
  rw [entsK_snoc]
  simp [entK]
end Go.Proofs.YtgkgcheegaegnaaGreatDoor

/- (*reader).begin of package bib. Conditions: lengths. -/
set_option linter.all false
namespace Go.Proofs.YtgkgcheegaegnaaGreatDoor
open Go.RowKit

def pfxS (l : Bs) : Bs := Lib.trimPrefix l [64]
def pfxB (l : Bs) : Bool := Lib.hasPrefix l [64]
def sfxS (l : Bs) : Bs := Lib.trimSuffix l [44]
def sfxB (l : Bs) : Bool := Lib.hasSuffix l [44]
theorem pfxS_le (l : Bs) : (pfxS l).length ≤ l.length := by unfold pfxS Lib.trimPrefix; split <;> simp
theorem sfxS_le (l : Bs) : (sfxS l).length ≤ l.length := by unfold sfxS Lib.trimSuffix; split <;> simp
/-- What stands between the first and the last sign of a source's first line. -/
def innerL (l : Bs) : Bs := sfxS (pfxS l)
def formB (l : Bs) : Bool := pfxB l && (sfxB (pfxS l) && decide (before 123 (innerL l) < (innerL l).length))
def typeL (l : Bs) : Bs := (innerL l).take (before 123 (innerL l))
def keyL (l : Bs) : Bs := (innerL l).drop (before 123 (innerL l) + 1)
theorem innerL_le (l : Bs) : (innerL l).length ≤ l.length := Nat.le_trans (sfxS_le _) (pfxS_le _)
theorem cutp_at (l : Bs) (w : World) : Calls Tryz.prog 66 #[.string (bs l), .string (bs [64])] w fun e w' => e = .returned (.tuple #[.string (bs (pfxS l)), .bool (pfxB l)]) ∧ w = w' := by
  refine (Tryz.strings_CutPrefix (bs l) (bs [64]) w).mono ?_
  rintro e w' ⟨rfl, rfl⟩
  exact ⟨rfl, rfl⟩
theorem cuts_at (l : Bs) (w : World) (hl : l.length ≤ 1100000) : Calls Tryz.prog 67 #[.string (bs l), .string (bs [44])] w fun e w' => e = .returned (.tuple #[.string (bs (sfxS l)), .bool (sfxB l)]) ∧ w = w' := by
  refine (Tryz.strings_CutSuffix (bs l) (bs [44]) w (by simp; omega)).mono ?_
  rintro e w' ⟨rfl, rfl⟩
  exact ⟨rfl, rfl⟩
def zeroS : SrcT := ⟨[], [], [], [], []⟩
abbrev nilV : Value := .slice none 0 0
def BegunPost (r m : Nat) (vD : Value) (ks : List Bs) (l : Bs) (w : World) (e : Ending) (w' : World) : Prop :=
  e = .returned (.int .i64 0) ∧ Blk w' r 55 (rdC vD m ⟨keyL l, typeL l, [], [], []⟩ nilV nilV nilV true) ∧ MapK w' m (ks ++ [keyL l]) ∧ Only (fun i => i = r ∨ i = m) w w'
/-- The stores of a source's beginning. -/
def set6 (w : World) (r : Nat) (ky ty : Bs) : World := (((((w.setCell ⟨r, 2, none⟩ (.string (bs ky))).setCell ⟨r, 3, none⟩ (.string (bs ty))).setCell ⟨r, 4, none⟩ nilV).setCell ⟨r, 5, none⟩ nilV).setCell ⟨r, 6, none⟩ nilV).setCell ⟨r, 7, none⟩ (.bool true)
theorem set6_only (w : World) (r : Nat) (ky ty : Bs) : Only (fun i => i = r) w (set6 w r ky ty) :=
  (((((Only.setCell r 2 _).trans (Only.setCell r 3 _)).trans (Only.setCell r 4 _)).trans (Only.setCell r 5 _)).trans (Only.setCell r 6 _)).trans (Only.setCell r 7 _)
theorem begun_of {r m : Nat} {vD : Value} {ks : List Bs} {ky ty : Bs} {w w3 w4 : World} (hB : Blk w4 r 55 (rdC vD m zeroS nilV nilV nilV false)) (hM : MapK w4 m ks) (hO : Only (fun i => i = m) w3 w4) (hk : Kept w w3) (hrm : r ≠ m) :
    Blk (set6 w4 r ky ty) r 55 (rdC vD m ⟨ky, ty, [], [], []⟩ nilV nilV nilV true) ∧ MapK (set6 w4 r ky ty) m ks ∧ Only (fun i => i = r ∨ i = m) w (set6 w4 r ky ty) := by
  refine ⟨?_, ?_, ?_⟩
  · have h := set_blk (o := 7) (set_blk (o := 6) (set_blk (o := 5) (set_blk (o := 4) (set_blk (o := 3) (set_blk (o := 2) hB (.string (bs ky))) (.string (bs ty))) nilV) nilV) nilV) (.bool true)
    exact h
  · exact hM.only (set6_only w4 r ky ty) (fun q => hrm q.symm)
  · exact (Only.of_kept hk).trans ((hO.mono (fun i _ h => .inr h)).trans ((set6_only w4 r ky ty).mono (fun i _ h => .inl h)))
/-- The error of a source's first line. -/
def beginE (ks : List Bs) (nd : Nat) (l : Bs) : Int :=
  if formB l = false then 5 else if nameB (typeL l) = false ∨ nameB (keyL l) = false then 6 else if ks.contains (keyL l) = true then 7 else if 256 ≤ nd then 3 else 0

set_option maxRecDepth 100000 in
set_option maxHeartbeats 3200000 in
theorem begin_form (r m nd : Nat) (a : Option Addr) (c : Nat) (ks : List Bs) (l : Bs) (w : World) (hg : Gnd w) (hl : l.length ≤ 100000) (hb : Blk w r 55 (rdC (.slice a nd c) m zeroS nilV nilV nilV false)) (hm : MapK w m ks) (hrm : r ≠ m) (hnd : nd ≤ 1100000) (hf : formB l = false) :
    Calls Tryz.prog 47 #[.pointer (some ⟨r, 0, none⟩), .string (bs l)] w (fun e w' => e = .returned (.int .i64 5) ∧ Kept w w') := by
  have HG := Lib.hid hg
  have HB := Lib.hid hb
  have HM := Lib.hid hm
  have h1 := pfxS_le l
  have h2 := innerL_le l
  have HP := Lib.hid (fun w => cutp_at l w)
  have HS := Lib.hid (fun w => cuts_at (pfxS l) w (by omega))
  have HC := Lib.hid (fun w hg => cut_any (innerL l) 123 w hg (by omega))
  have htl : (typeL l).length ≤ 100000 := by unfold typeL; simp; omega
  have hkl : (keyL l).length ≤ 100000 := by unfold keyL; simp; omega
  have HT : Hid ((innerL l).take (before 123 (innerL l)) = typeL l) := rfl
  have HK : Hid ((innerL l).drop (before 123 (innerL l) + 1) = keyL l) := rfl
  rw [show sfxS (pfxS l) = innerL l from rfl] at HS
  rw [HT.out, HK.out] at HC
  unfold formB at hf
  generalize pfxB l = b1 at *
  generalize sfxB (pfxS l) = b2 at *
  generalize pfxS l = l1 at *
  generalize typeL l = ty at *
  generalize keyL l = ky at *
  clear hg hb hm HT HK

  by_cases hcut : before 123 (innerL l) < (innerL l).length
  · have hd : decide (before 123 (innerL l) < (innerL l).length) = true := by simpa using hcut
    rw [hd] at hf
    rw [if_pos hcut] at HC
    clear hd hcut
    generalize innerL l = l2 at *
    have hbb : b1 = false ∨ b1 = true ∧ b2 = false := by cases b1 <;> cases b2 <;> simp_all
    clear hf
    rcases hbb with rfl | ⟨rfl, rfl⟩
    all_goals
      go_enter Tryz.func47, Tryz.ntmps47
      go_wp2_with fail
      refine (HP.out _).mono ?_
      rintro e w' ⟨rfl, rfl⟩
      go_wp2_with fail
      refine (HS.out _).mono ?_
      rintro e w' ⟨rfl, rfl⟩
      go_wp2_with fail
      refine (HC.out _ HG.out).mono ?_
      rintro e w1 ⟨rfl, n1, rfl⟩
      have HK1 := Lib.hid (kept_drewN w n1)
      generalize w.drewN n1 = w1 at *
      go_wp2_with fail
      go_ret
      exact ⟨rfl, HK1.out⟩
  · rw [if_neg hcut] at HC
    clear hcut hf
    generalize innerL l = l2 at *
    cases b1 <;> cases b2
    all_goals
      go_enter Tryz.func47, Tryz.ntmps47
      go_wp2_with fail
      refine (HP.out _).mono ?_
      rintro e w' ⟨rfl, rfl⟩
      go_wp2_with fail
      refine (HS.out _).mono ?_
      rintro e w' ⟨rfl, rfl⟩
      go_wp2_with fail
      refine (HC.out _ HG.out).mono ?_
      rintro e w1 ⟨rfl, n1, rfl⟩
      have HK1 := Lib.hid (kept_drewN w n1)
      generalize w.drewN n1 = w1 at *
      go_wp2_with fail
      go_ret
      exact ⟨rfl, HK1.out⟩

set_option maxRecDepth 100000 in
set_option maxHeartbeats 3200000 in
theorem begin_name1 (r m nd : Nat) (a : Option Addr) (c : Nat) (ks : List Bs) (l : Bs) (w : World) (hg : Gnd w) (hl : l.length ≤ 100000) (hb : Blk w r 55 (rdC (.slice a nd c) m zeroS nilV nilV nilV false)) (hm : MapK w m ks) (hrm : r ≠ m) (hnd : nd ≤ 1100000) (hf : formB l = true) (hn1 : nameB (typeL l) = false) :
    Calls Tryz.prog 47 #[.pointer (some ⟨r, 0, none⟩), .string (bs l)] w (fun e w' => e = .returned (.int .i64 6) ∧ Kept w w') := by
  have HG := Lib.hid hg
  have HB := Lib.hid hb
  have HM := Lib.hid hm
  have h1 := pfxS_le l
  have h2 := innerL_le l
  have HP := Lib.hid (fun w => cutp_at l w)
  have HS := Lib.hid (fun w => cuts_at (pfxS l) w (by omega))
  have HC := Lib.hid (fun w hg => cut_any (innerL l) 123 w hg (by omega))
  have htl : (typeL l).length ≤ 100000 := by unfold typeL; simp; omega
  have hkl : (keyL l).length ≤ 100000 := by unfold keyL; simp; omega
  have HT : Hid ((innerL l).take (before 123 (innerL l)) = typeL l) := rfl
  have HK : Hid ((innerL l).drop (before 123 (innerL l) + 1) = keyL l) := rfl
  rw [show sfxS (pfxS l) = innerL l from rfl] at HS
  rw [HT.out, HK.out] at HC
  unfold formB at hf
  simp only [Bool.and_eq_true, decide_eq_true_eq] at hf
  obtain ⟨hf1, hf2, hcut⟩ := hf
  rw [hf1] at HP
  rw [hf2] at HS
  rw [if_pos hcut] at HC
  clear hf1 hf2 hcut
  generalize pfxS l = l1 at *
  generalize innerL l = l2 at *
  generalize typeL l = ty at *
  generalize keyL l = ky at *
  clear hg hb hm HT HK
  go_enter Tryz.func47, Tryz.ntmps47
  go_wp2_with fail
  refine (HP.out _).mono ?_
  rintro e w' ⟨rfl, rfl⟩
  go_wp2_with fail
  refine (HS.out _).mono ?_
  rintro e w' ⟨rfl, rfl⟩
  go_wp2_with fail
  refine (HC.out _ HG.out).mono ?_
  rintro e w1 ⟨rfl, n1, rfl⟩
  have HK1 := Lib.hid (kept_drewN w n1)
  generalize w.drewN n1 = w1 at *
  go_wp2_with fail
  refine (isName_any ty _ (by omega)).mono ?_
  rw [hn1]
  rintro e w2 ⟨rfl, hk2⟩
  have HK2 := Lib.hid (HK1.out.trans hk2)
  clear hk2
  go_wp2_with fail
  go_ret
  exact ⟨rfl, HK2.out⟩

set_option maxRecDepth 100000 in
set_option maxHeartbeats 3200000 in
theorem begin_name2 (r m nd : Nat) (a : Option Addr) (c : Nat) (ks : List Bs) (l : Bs) (w : World) (hg : Gnd w) (hl : l.length ≤ 100000) (hb : Blk w r 55 (rdC (.slice a nd c) m zeroS nilV nilV nilV false)) (hm : MapK w m ks) (hrm : r ≠ m) (hnd : nd ≤ 1100000) (hf : formB l = true) (hn1 : nameB (typeL l) = true) (hn2 : nameB (keyL l) = false) :
    Calls Tryz.prog 47 #[.pointer (some ⟨r, 0, none⟩), .string (bs l)] w (fun e w' => e = .returned (.int .i64 6) ∧ Kept w w') := by
  have HG := Lib.hid hg
  have HB := Lib.hid hb
  have HM := Lib.hid hm
  have h1 := pfxS_le l
  have h2 := innerL_le l
  have HP := Lib.hid (fun w => cutp_at l w)
  have HS := Lib.hid (fun w => cuts_at (pfxS l) w (by omega))
  have HC := Lib.hid (fun w hg => cut_any (innerL l) 123 w hg (by omega))
  have htl : (typeL l).length ≤ 100000 := by unfold typeL; simp; omega
  have hkl : (keyL l).length ≤ 100000 := by unfold keyL; simp; omega
  have HT : Hid ((innerL l).take (before 123 (innerL l)) = typeL l) := rfl
  have HK : Hid ((innerL l).drop (before 123 (innerL l) + 1) = keyL l) := rfl
  rw [show sfxS (pfxS l) = innerL l from rfl] at HS
  rw [HT.out, HK.out] at HC
  unfold formB at hf
  simp only [Bool.and_eq_true, decide_eq_true_eq] at hf
  obtain ⟨hf1, hf2, hcut⟩ := hf
  rw [hf1] at HP
  rw [hf2] at HS
  rw [if_pos hcut] at HC
  clear hf1 hf2 hcut
  generalize pfxS l = l1 at *
  generalize innerL l = l2 at *
  generalize typeL l = ty at *
  generalize keyL l = ky at *
  clear hg hb hm HT HK
  go_enter Tryz.func47, Tryz.ntmps47
  go_wp2_with fail
  refine (HP.out _).mono ?_
  rintro e w' ⟨rfl, rfl⟩
  go_wp2_with fail
  refine (HS.out _).mono ?_
  rintro e w' ⟨rfl, rfl⟩
  go_wp2_with fail
  refine (HC.out _ HG.out).mono ?_
  rintro e w1 ⟨rfl, n1, rfl⟩
  have HK1 := Lib.hid (kept_drewN w n1)
  generalize w.drewN n1 = w1 at *
  go_wp2_with fail
  refine (isName_any ty _ (by omega)).mono ?_
  rw [hn1]
  rintro e w2 ⟨rfl, hk2⟩
  have HK2 := Lib.hid (HK1.out.trans hk2)
  clear hk2
  go_wp2_with fail
  refine (isName_any ky _ (by omega)).mono ?_
  rw [hn2]
  rintro e w3 ⟨rfl, hk3⟩
  have HK3 := Lib.hid (HK2.out.trans hk3)
  clear hk3
  go_wp2_with fail
  go_ret
  exact ⟨rfl, HK3.out⟩

set_option maxRecDepth 100000 in
set_option maxHeartbeats 3200000 in
theorem begin_twice (r m nd : Nat) (a : Option Addr) (c : Nat) (ks : List Bs) (l : Bs) (w : World) (hg : Gnd w) (hl : l.length ≤ 100000) (hb : Blk w r 55 (rdC (.slice a nd c) m zeroS nilV nilV nilV false)) (hm : MapK w m ks) (hrm : r ≠ m) (hnd : nd ≤ 1100000) (hf : formB l = true) (hn1 : nameB (typeL l) = true) (hn2 : nameB (keyL l) = true) (hct : ks.contains (keyL l) = true) :
    Calls Tryz.prog 47 #[.pointer (some ⟨r, 0, none⟩), .string (bs l)] w (fun e w' => e = .returned (.int .i64 7) ∧ Kept w w') := by
  have HG := Lib.hid hg
  have HB := Lib.hid hb
  have HM := Lib.hid hm
  have h1 := pfxS_le l
  have h2 := innerL_le l
  have HP := Lib.hid (fun w => cutp_at l w)
  have HS := Lib.hid (fun w => cuts_at (pfxS l) w (by omega))
  have HC := Lib.hid (fun w hg => cut_any (innerL l) 123 w hg (by omega))
  have htl : (typeL l).length ≤ 100000 := by unfold typeL; simp; omega
  have hkl : (keyL l).length ≤ 100000 := by unfold keyL; simp; omega
  have HT : Hid ((innerL l).take (before 123 (innerL l)) = typeL l) := rfl
  have HK : Hid ((innerL l).drop (before 123 (innerL l) + 1) = keyL l) := rfl
  rw [show sfxS (pfxS l) = innerL l from rfl] at HS
  rw [HT.out, HK.out] at HC
  have HCT : Hid (∀ w', Kept w w' → (Instr.lookup 53 (.map (some m)) (.string (bs (keyL l))) false).run Tryz.prog w' = .ok (.bool (ks.contains (keyL l))) w') := fun w' hk => lookK w' m ks (keyL l) (HM.out.only (Only.of_kept (S := fun _ => False) hk) (fun q => q))
  rw [hct] at HCT
  clear hct
  unfold formB at hf
  simp only [Bool.and_eq_true, decide_eq_true_eq] at hf
  obtain ⟨hf1, hf2, hcut⟩ := hf
  rw [hf1] at HP
  rw [hf2] at HS
  rw [if_pos hcut] at HC
  clear hf1 hf2 hcut
  generalize pfxS l = l1 at *
  generalize innerL l = l2 at *
  generalize typeL l = ty at *
  generalize keyL l = ky at *
  clear hg hb hm HT HK
  go_enter Tryz.func47, Tryz.ntmps47
  go_wp2_with fail
  refine (HP.out _).mono ?_
  rintro e w' ⟨rfl, rfl⟩
  go_wp2_with fail
  refine (HS.out _).mono ?_
  rintro e w' ⟨rfl, rfl⟩
  go_wp2_with fail
  refine (HC.out _ HG.out).mono ?_
  rintro e w1 ⟨rfl, n1, rfl⟩
  have HK1 := Lib.hid (kept_drewN w n1)
  generalize w.drewN n1 = w1 at *
  go_wp2_with fail
  refine (isName_any ty _ (by omega)).mono ?_
  rw [hn1]
  rintro e w2 ⟨rfl, hk2⟩
  have HK2 := Lib.hid (HK1.out.trans hk2)
  clear hk2
  go_wp2_with fail
  refine (isName_any ky _ (by omega)).mono ?_
  rw [hn2]
  rintro e w3 ⟨rfl, hk3⟩
  have HK3 := Lib.hid (HK2.out.trans hk3)
  clear hk3
  have lk := HCT.out w3 HK3.out
  have HB3 := Lib.hid (HB.out.kept HK3.out)
  have c0 : w3.cell? ⟨r, 0, none⟩ = some (.slice a nd c) := HB3.out.cell 0 _ rfl
  have c1 : w3.cell? ⟨r, 1, none⟩ = some (.map (some m)) := HB3.out.cell 1 _ rfl
  have z3 := HB3.out.lt
  go_wp2_with fail
  go_ret
  exact ⟨rfl, HK3.out⟩

set_option maxRecDepth 100000 in
set_option maxHeartbeats 3200000 in
theorem begin_limit (r m nd : Nat) (a : Option Addr) (c : Nat) (ks : List Bs) (l : Bs) (w : World) (hg : Gnd w) (hl : l.length ≤ 100000) (hb : Blk w r 55 (rdC (.slice a nd c) m zeroS nilV nilV nilV false)) (hm : MapK w m ks) (hrm : r ≠ m) (hnd : nd ≤ 1100000) (hf : formB l = true) (hn1 : nameB (typeL l) = true) (hn2 : nameB (keyL l) = true) (hct : ks.contains (keyL l) = false) (h256 : 256 ≤ nd) :
    Calls Tryz.prog 47 #[.pointer (some ⟨r, 0, none⟩), .string (bs l)] w (fun e w' => e = .returned (.int .i64 3) ∧ Kept w w') := by
  have HG := Lib.hid hg
  have HB := Lib.hid hb
  have HM := Lib.hid hm
  have h1 := pfxS_le l
  have h2 := innerL_le l
  have HP := Lib.hid (fun w => cutp_at l w)
  have HS := Lib.hid (fun w => cuts_at (pfxS l) w (by omega))
  have HC := Lib.hid (fun w hg => cut_any (innerL l) 123 w hg (by omega))
  have htl : (typeL l).length ≤ 100000 := by unfold typeL; simp; omega
  have hkl : (keyL l).length ≤ 100000 := by unfold keyL; simp; omega
  have HT : Hid ((innerL l).take (before 123 (innerL l)) = typeL l) := rfl
  have HK : Hid ((innerL l).drop (before 123 (innerL l) + 1) = keyL l) := rfl
  rw [show sfxS (pfxS l) = innerL l from rfl] at HS
  rw [HT.out, HK.out] at HC
  have HCT : Hid (∀ w', Kept w w' → (Instr.lookup 53 (.map (some m)) (.string (bs (keyL l))) false).run Tryz.prog w' = .ok (.bool (ks.contains (keyL l))) w') := fun w' hk => lookK w' m ks (keyL l) (HM.out.only (Only.of_kept (S := fun _ => False) hk) (fun q => q))
  rw [hct] at HCT
  clear hct
  unfold formB at hf
  simp only [Bool.and_eq_true, decide_eq_true_eq] at hf
  obtain ⟨hf1, hf2, hcut⟩ := hf
  rw [hf1] at HP
  rw [hf2] at HS
  rw [if_pos hcut] at HC
  clear hf1 hf2 hcut
  generalize pfxS l = l1 at *
  generalize innerL l = l2 at *
  generalize typeL l = ty at *
  generalize keyL l = ky at *
  clear hg hb hm HT HK
  go_enter Tryz.func47, Tryz.ntmps47
  go_wp2_with fail
  refine (HP.out _).mono ?_
  rintro e w' ⟨rfl, rfl⟩
  go_wp2_with fail
  refine (HS.out _).mono ?_
  rintro e w' ⟨rfl, rfl⟩
  go_wp2_with fail
  refine (HC.out _ HG.out).mono ?_
  rintro e w1 ⟨rfl, n1, rfl⟩
  have HK1 := Lib.hid (kept_drewN w n1)
  generalize w.drewN n1 = w1 at *
  go_wp2_with fail
  refine (isName_any ty _ (by omega)).mono ?_
  rw [hn1]
  rintro e w2 ⟨rfl, hk2⟩
  have HK2 := Lib.hid (HK1.out.trans hk2)
  clear hk2
  go_wp2_with fail
  refine (isName_any ky _ (by omega)).mono ?_
  rw [hn2]
  rintro e w3 ⟨rfl, hk3⟩
  have HK3 := Lib.hid (HK2.out.trans hk3)
  clear hk3
  have lk := HCT.out w3 HK3.out
  have HB3 := Lib.hid (HB.out.kept HK3.out)
  have c0 : w3.cell? ⟨r, 0, none⟩ = some (.slice a nd c) := HB3.out.cell 0 _ rfl
  have c1 : w3.cell? ⟨r, 1, none⟩ = some (.map (some m)) := HB3.out.cell 1 _ rfl
  have z3 := HB3.out.lt
  go_wp2_with fail
  go_ret
  exact ⟨rfl, HK3.out⟩

set_option maxRecDepth 100000 in
set_option maxHeartbeats 3200000 in
theorem begin_ok (r m nd : Nat) (a : Option Addr) (c : Nat) (ks : List Bs) (l : Bs) (w : World) (hg : Gnd w) (hl : l.length ≤ 100000) (hb : Blk w r 55 (rdC (.slice a nd c) m zeroS nilV nilV nilV false)) (hm : MapK w m ks) (hrm : r ≠ m) (hnd : nd ≤ 1100000) (hf : formB l = true) (hn1 : nameB (typeL l) = true) (hn2 : nameB (keyL l) = true) (hct : ks.contains (keyL l) = false) (h256 : nd < 256) :
    Calls Tryz.prog 47 #[.pointer (some ⟨r, 0, none⟩), .string (bs l)] w (BegunPost r m (.slice a nd c) ks l w) := by
  have HG := Lib.hid hg
  have HB := Lib.hid hb
  have HM := Lib.hid hm
  have h1 := pfxS_le l
  have h2 := innerL_le l
  have HP := Lib.hid (fun w => cutp_at l w)
  have HS := Lib.hid (fun w => cuts_at (pfxS l) w (by omega))
  have HC := Lib.hid (fun w hg => cut_any (innerL l) 123 w hg (by omega))
  have htl : (typeL l).length ≤ 100000 := by unfold typeL; simp; omega
  have hkl : (keyL l).length ≤ 100000 := by unfold keyL; simp; omega
  have HT : Hid ((innerL l).take (before 123 (innerL l)) = typeL l) := rfl
  have HK : Hid ((innerL l).drop (before 123 (innerL l) + 1) = keyL l) := rfl
  rw [show sfxS (pfxS l) = innerL l from rfl] at HS
  rw [HT.out, HK.out] at HC
  have HCT : Hid (∀ w', Kept w w' → (Instr.lookup 53 (.map (some m)) (.string (bs (keyL l))) false).run Tryz.prog w' = .ok (.bool (ks.contains (keyL l))) w') := fun w' hk => lookK w' m ks (keyL l) (HM.out.only (Only.of_kept (S := fun _ => False) hk) (fun q => q))
  rw [hct] at HCT
  have HIN : Hid (keyL l ∉ ks) := by intro q; have : ks.contains (keyL l) = true := by simpa using q
                                     rw [this] at hct; cases hct
  clear hct
  unfold BegunPost
  unfold formB at hf
  simp only [Bool.and_eq_true, decide_eq_true_eq] at hf
  obtain ⟨hf1, hf2, hcut⟩ := hf
  rw [hf1] at HP
  rw [hf2] at HS
  rw [if_pos hcut] at HC
  clear hf1 hf2 hcut
  generalize pfxS l = l1 at *
  generalize innerL l = l2 at *
  generalize typeL l = ty at *
  generalize keyL l = ky at *
  clear hg hb hm HT HK
  go_enter Tryz.func47, Tryz.ntmps47
  go_wp2_with fail
  refine (HP.out _).mono ?_
  rintro e w' ⟨rfl, rfl⟩
  go_wp2_with fail
  refine (HS.out _).mono ?_
  rintro e w' ⟨rfl, rfl⟩
  go_wp2_with fail
  refine (HC.out _ HG.out).mono ?_
  rintro e w1 ⟨rfl, n1, rfl⟩
  have HK1 := Lib.hid (kept_drewN w n1)
  generalize w.drewN n1 = w1 at *
  go_wp2_with fail
  refine (isName_any ty _ (by omega)).mono ?_
  rw [hn1]
  rintro e w2 ⟨rfl, hk2⟩
  have HK2 := Lib.hid (HK1.out.trans hk2)
  clear hk2
  go_wp2_with fail
  refine (isName_any ky _ (by omega)).mono ?_
  rw [hn2]
  rintro e w3 ⟨rfl, hk3⟩
  have HK3 := Lib.hid (HK2.out.trans hk3)
  clear hk3
  have lk := HCT.out w3 HK3.out
  have HB3 := Lib.hid (HB.out.kept HK3.out)
  have c0 : w3.cell? ⟨r, 0, none⟩ = some (.slice a nd c) := HB3.out.cell 0 _ rfl
  have c1 : w3.cell? ⟨r, 1, none⟩ = some (.map (some m)) := HB3.out.cell 1 _ rfl
  have z3 := HB3.out.lt
  have HM3 := Lib.hid (HM.out.only (Only.of_kept (S := fun _ => False) HK3.out) (fun q => q))
  have ins := insK w3 m ks ky HM3.out HIN.out
  have HO4 := Lib.hid (putK_only w3 m (ks ++ [ky]))
  have HM4 := Lib.hid (putK_map w3 m (ks ++ [ky]) HM3.out.lt)
  have HB4 : Hid (Blk (putK w3 m (ks ++ [ky])) r 55 (rdC (.slice a nd c) m zeroS nilV nilV nilV false)) := by
    show Blk _ _ _ _
    unfold Blk
    rw [HO4.out.block r z3 hrm]; exact HB3.out
  generalize putK w3 m (ks ++ [ky]) = w4 at *
  have d0 : w4.cell? ⟨r, 2, none⟩ = some (.string (bs [])) := HB4.out.cell 2 _ rfl
  have d1 : w4.cell? ⟨r, 3, none⟩ = some (.string (bs [])) := HB4.out.cell 3 _ rfl
  have d2 : w4.cell? ⟨r, 4, none⟩ = some nilV := HB4.out.cell 4 _ rfl
  have d3 : w4.cell? ⟨r, 5, none⟩ = some nilV := HB4.out.cell 5 _ rfl
  have d4 : w4.cell? ⟨r, 6, none⟩ = some nilV := HB4.out.cell 6 _ rfl
  have d5 : w4.cell? ⟨r, 7, none⟩ = some (.bool false) := HB4.out.cell 7 _ rfl
  have e0 := HB4.out.free 2
  have e1 := HB4.out.free 3
  have e2 := HB4.out.free 4
  have e3 := HB4.out.free 5
  have e4 := HB4.out.free 6
  have e5 := HB4.out.free 7
  have z4 := HB4.out.lt
  go_wp2_with fail
  go_ret
  exact ⟨rfl, begun_of HB4.out HM4.out HO4.out HK3.out hrm⟩

theorem begin_err (r m nd : Nat) (a : Option Addr) (c : Nat) (ks : List Bs) (l : Bs) (w : World) (hg : Gnd w) (hl : l.length ≤ 100000) (hb : Blk w r 55 (rdC (.slice a nd c) m zeroS nilV nilV nilV false)) (hm : MapK w m ks) (hrm : r ≠ m) (hnd : nd ≤ 1100000) (he : beginE ks nd l ≠ 0) :
    Calls Tryz.prog 47 #[.pointer (some ⟨r, 0, none⟩), .string (bs l)] w (fun e w' => e = .returned (.int .i64 (beginE ks nd l)) ∧ Kept w w') := by
  unfold beginE at he ⊢
  cases hf : formB l
  · exact begin_form r m nd a c ks l w hg hl hb hm hrm hnd hf
  rw [hf, if_neg (by simp)] at he
  rw [if_neg (by simp)]
  by_cases hn : nameB (typeL l) = false ∨ nameB (keyL l) = false
  · rw [if_pos hn]
    cases hn1 : nameB (typeL l)
    · exact begin_name1 r m nd a c ks l w hg hl hb hm hrm hnd hf hn1
    · exact begin_name2 r m nd a c ks l w hg hl hb hm hrm hnd hf hn1 (by rcases hn with h | h; rw [hn1] at h; cases h; exact h)
  rw [if_neg hn] at he ⊢
  simp only [not_or, Bool.not_eq_false] at hn
  cases hct : ks.contains (keyL l)
  · rw [hct, if_neg (by simp)] at he
    rw [if_neg (by simp)]
    by_cases h256 : 256 ≤ nd
    · rw [if_pos h256]; exact begin_limit r m nd a c ks l w hg hl hb hm hrm hnd hf hn.1 hn.2 hct h256
    · rw [if_neg h256] at he; exact absurd rfl he
  · rw [if_pos rfl]; exact begin_twice r m nd a c ks l w hg hl hb hm hrm hnd hf hn.1 hn.2 hct
theorem begin_yes (r m nd : Nat) (a : Option Addr) (c : Nat) (ks : List Bs) (l : Bs) (w : World) (hg : Gnd w) (hl : l.length ≤ 100000) (hb : Blk w r 55 (rdC (.slice a nd c) m zeroS nilV nilV nilV false)) (hm : MapK w m ks) (hrm : r ≠ m) (hnd : nd ≤ 1100000) (he : beginE ks nd l = 0) :
    Calls Tryz.prog 47 #[.pointer (some ⟨r, 0, none⟩), .string (bs l)] w (BegunPost r m (.slice a nd c) ks l w) := by
  unfold beginE at he
  cases hf : formB l
  · rw [hf, if_pos rfl] at he; cases he
  rw [hf, if_neg (by simp)] at he
  by_cases hn : nameB (typeL l) = false ∨ nameB (keyL l) = false
  · rw [if_pos hn] at he; cases he
  rw [if_neg hn] at he
  simp only [not_or, Bool.not_eq_false] at hn
  cases hct : ks.contains (keyL l)
  · rw [hct, if_neg (by simp)] at he
    by_cases h256 : 256 ≤ nd
    · rw [if_pos h256] at he; cases he
    · exact begin_ok r m nd a c ks l w hg hl hb hm hrm hnd hf hn.1 hn.2 hct (by omega)
  · rw [hct, if_pos rfl] at he; cases he
end Go.Proofs.YtgkgcheegaegnaaGreatDoor
