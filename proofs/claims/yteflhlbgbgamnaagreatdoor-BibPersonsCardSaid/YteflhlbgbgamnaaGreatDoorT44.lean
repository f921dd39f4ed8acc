/- The page's examples of bibliographies, in plain Lean. No condition. -/
import Derived.Test.YteflhlbgbgamnaaGreatDoorT38
import Derived.Test.YteflhlbgbgamnaaGreatDoorT40
import Derived.Test.YteflhlbgbgamnaaGreatDoorT09
import Derived.Test.YteflhlbgbgamnaaGreatDoorT29
import Derived.Test.YteflhlbgbgamnaaGreatDoorT43
import Derived.Deep.RegionHeld3

set_option linter.all false
namespace Go.Proofs.YteflhlbgbgamnaaGreatDoor
open Go.RowKit

def sNg : SrcT := ⟨[110, 103, 48, 49], [97, 114, 116, 105, 99, 108, 101], [([78, 103], [65, 110, 110], [], [])], [], [([116, 105, 116, 108, 101], [79, 110, 32, 98, 111, 120, 101, 115]), ([121, 101, 97, 114], [50, 48, 48, 49])]⟩
def sBk : SrcT := ⟨[107], [98, 111, 111, 107], [], [], [([116, 105, 116, 108, 101], [84])]⟩
def sNo : SrcT := ⟨[107], [98, 111, 111, 107], [], [], []⟩
def tNg : Bs := [64, 97, 114, 116, 105, 99, 108, 101, 123, 110, 103, 48, 49, 44, 10, 97, 117, 116, 104, 111, 114, 32, 61, 32, 78, 103, 44, 32, 65, 110, 110, 10, 116, 105, 116, 108, 101, 32, 61, 32, 79, 110, 32, 98, 111, 120, 101, 115, 10, 121, 101, 97, 114, 32, 61, 32, 50, 48, 48, 49, 10, 125, 10]
def tBk : Bs := [64, 98, 111, 111, 107, 123, 107, 44, 10, 116, 105, 116, 108, 101, 32, 61, 32, 84, 10, 125, 10]
def tNo : Bs := [64, 98, 111, 111, 107, 123, 107, 44, 10, 125, 10]
theorem ng_textE : textE [78, 103] [65, 110, 110] [] [] = 0 := by
  unfold textE
  rw [if_neg (by decide), part_ascii [78, 103] (by decide) (by decide) (by decide +kernel), part_ascii [65, 110, 110] (by decide) (by decide) (by decide +kernel), part_ascii [] (by decide) (by decide) (by decide +kernel)]; rfl
theorem vis_ascii (l : Bs) (h : ∀ b ∈ l, 32 ≤ b.toNat ∧ b.toNat < 127) : validB (bs l) = true := line_vis l (line_ascii l h)
theorem fld_ok (ds : List Pr) (f : Pr) (h1 : nameB f.1 = true) (h2 : f.1 ≠ [97, 117, 116, 104, 111, 114]) (h3 : f.1 ≠ [101, 100, 105, 116, 111, 114]) (h4 : f.2 ≠ []) (h5 : ∀ b ∈ f.2, 32 ≤ b.toNat ∧ b.toNat < 127) (h6 : f.2.contains 10 = false) (h7 : trimL f.2 = f.2) (h8 : hasB ds f.1 = false) : fldE1 ds f = 0 := by
  unfold fldE1
  rw [if_neg (by rw [h1]; simp [h2, h3]), if_neg (by rw [vis_ascii _ h5, h6, h7]; simp [h4]), if_neg (by rw [h8]; simp)]
theorem ng_check : checkE [sNg] = 0 := by
  have e1 : persE sNg.author = 0 := by
    show persE [([78, 103], [65, 110, 110], [], [])] = 0
    simp only [persE]; rw [ng_textE]; rfl
  have f1 : fldE1 [] ([116, 105, 116, 108, 101], [79, 110, 32, 98, 111, 120, 101, 115]) = 0 := fld_ok _ _ (by decide +kernel) (by decide) (by decide) (by decide) (by decide) (by decide) (by decide +kernel) (by decide)
  have f2 : fldE1 [([116, 105, 116, 108, 101], [79, 110, 32, 98, 111, 120, 101, 115])] ([121, 101, 97, 114], [50, 48, 48, 49]) = 0 := fld_ok _ _ (by decide +kernel) (by decide) (by decide) (by decide) (by decide) (by decide) (by decide +kernel) (by decide)
  have e2 : fldE [] sNg.fields = 0 := by
    show fldE [] [([116, 105, 116, 108, 101], [79, 110, 32, 98, 111, 120, 101, 115]), ([121, 101, 97, 114], [50, 48, 48, 49])] = 0
    simp [fldE, f1, f2]
  have e3 : srcE sNg = 0 := by
    unfold srcE
    rw [e1, e2, if_neg (by decide), if_neg (by decide), if_neg (by decide), if_neg (by decide), if_pos (by decide)]
  have n1 : nameB sNg.type = true := by decide +kernel
  have n2 : nameB sNg.key = true := by decide +kernel
  unfold checkE
  rw [if_neg (by decide)]
  simp only [chkE]
  rw [n1, n2, e3]; rfl
theorem bk_check : checkE [sBk] = 0 := by
  have f1 : fldE1 [] ([116, 105, 116, 108, 101], [84]) = 0 := fld_ok _ _ (by decide +kernel) (by decide) (by decide) (by decide) (by decide) (by decide) (by decide +kernel) (by decide)
  have e2 : fldE [] sBk.fields = 0 := by
    show fldE [] [([116, 105, 116, 108, 101], [84])] = 0
    simp only [fldE, List.nil_append]; rw [f1]; rfl
  have e3 : srcE sBk = 0 := by
    unfold srcE
    rw [e2, if_neg (by decide), if_neg (by decide), if_neg (by decide), if_neg (by decide), if_pos (by decide)]
  have n1 : nameB sBk.type = true := by decide +kernel
  have n2 : nameB sBk.key = true := by decide +kernel
  unfold checkE
  rw [if_neg (by decide)]
  simp only [chkE]
  rw [n1, n2, e3]; rfl
theorem no_check : checkE [sNo] = 8 := by decide +kernel
theorem ng_text : textL [sNg] = tNg := by
  unfold textL; rw [ng_check, if_pos rfl]
  have e : textR [78, 103] [65, 110, 110] [] [] = [78, 103, 44, 32, 65, 110, 110] := by unfold textR; rw [ng_textE, if_pos rfl]; decide
  have e2 : srcLines sNg = [[64, 97, 114, 116, 105, 99, 108, 101, 123, 110, 103, 48, 49, 44], [97, 117, 116, 104, 111, 114, 32, 61, 32, 78, 103, 44, 32, 65, 110, 110], [116, 105, 116, 108, 101, 32, 61, 32, 79, 110, 32, 98, 111, 120, 101, 115], [121, 101, 97, 114, 32, 61, 32, 50, 48, 48, 49], [125]] := by
    unfold srcLines
    have e3 : sNg.author.map (persLine hAuthor) = [[97, 117, 116, 104, 111, 114, 32, 61, 32, 78, 103, 44, 32, 65, 110, 110]] := by
      show [persLine hAuthor ([78, 103], [65, 110, 110], [], [])] = _
      unfold persLine; rw [e]; rfl
    rw [e3]; rfl
  have e4 : outL [sNg] = srcLines sNg := by simp [outL]
  rw [e4, e2]; rfl
theorem bk_text : textL [sBk] = tBk := by
  unfold textL; rw [bk_check, if_pos rfl]; rfl
theorem ng_read : bibR tNg = ([sNg], 0, 0) := by
  have h := bib_back [sNg] ng_check (by rw [ng_text]; decide)
  rw [ng_text] at h; exact h
theorem no_valid : validB (bs tNo) = true := by
  have h := join_valid [[64, 98, 111, 111, 107, 123, 107, 44], [125]] (by
    intro x hx
    simp only [List.mem_cons, List.mem_nil_iff, or_false] at hx
    rcases hx with rfl | rfl
    · exact line_ascii _ (by decide)
    · exact line_ascii _ (by decide))
  exact h
theorem no_read : bibR tNo = ([], 2, 8) := by
  unfold bibR
  rw [if_neg (by decide), no_valid, if_neg (by decide)]
  have h : runB (linesL tNo) 0 st0 = (some (2, 8), ⟨[], [[107]], sNo, true⟩) := by kernel_rfl
  rw [h]; rfl
theorem ng_year : yearL ((fieldL sNg.fields [121, 101, 97, 114]).getD []) = 2001 := by decide +kernel
theorem ng_title : fieldL sNg.fields [116, 105, 116, 108, 101] = some [79, 110, 32, 98, 111, 120, 101, 115] := by decide +kernel
end Go.Proofs.YteflhlbgbgamnaaGreatDoor

/- The page's examples of bibliographies: law30's awake answers true. No condition. -/
set_option linter.all false
namespace Go.Proofs.YteflhlbgbgamnaaGreatDoor
open Go.RowKit

abbrev kNg : Bs := [110, 103, 48, 49]
abbrev yNg : Bs := [97, 114, 116, 105, 99, 108, 101]
theorem awk_bparse (w : World) (hg : Gnd w) : Calls Tryz.prog 12 #[.string (bs tNg)] w fun e w' => ∃ g o c aA cA aE cE aF cF, e = .returned (.tuple #[.slice (some ⟨g, o, none⟩) 1 c, .int .i64 0, .int .i64 0]) ∧ 1 ≤ c ∧ g < w'.heap.size ∧
    w'.cell? ⟨g, o, none⟩ = some (.string (bs [110, 103, 48, 49])) ∧ w'.cell? ⟨g, o + 1, none⟩ = some (.string (bs [97, 114, 116, 105, 99, 108, 101])) ∧ w'.cell? ⟨g, o + 2, none⟩ = some (.slice aA 1 cA) ∧ w'.cell? ⟨g, o + 3, none⟩ = some (.slice aE 0 cE) ∧ w'.cell? ⟨g, o + 4, none⟩ = some (.slice aF 2 cF) ∧
    Prs w' (.slice aF 2 cF) sNg.fields ∧ Srcs w' (.slice (some ⟨g, o, none⟩) 1 c) [sNg] ∧ Kept w w' := by
  refine (bparse_any tNg w hg (by decide)).mono ?_
  rintro e w' ⟨v, rfl, hs, hk⟩
  rw [ng_read] at hs ⊢
  have hs' := hs
  obtain ⟨a, c, rfl, hc, h3⟩ := hs
  obtain ⟨g, o, rfl, hg', hcc⟩ := h3 (by decide)
  obtain ⟨vA, vE, vF, h⟩ := hcc 0 sNg rfl
  simp only [Nat.zero_mul, Nat.add_zero] at h
  obtain ⟨c0, c1, c2, c3, c4, pA, pE, pF⟩ := h
  have pF' := pF
  obtain ⟨aA, cA, rfl, _, _⟩ := pA
  obtain ⟨aE, cE, rfl, _, _⟩ := pE
  obtain ⟨aF, cF, rfl, _, _⟩ := pF
  exact ⟨g, o, c, aA, cA, aE, cE, aF, cF, rfl, hc, hg', c0, c1, c2, c3, c4, pF', hs', hk⟩
theorem awk_bno (w : World) (hg : Gnd w) : Calls Tryz.prog 12 #[.string (bs tNo)] w fun e w' => ∃ v, e = .returned (.tuple #[v, .int .i64 2, .int .i64 8]) ∧ Kept w w' := by
  refine (bparse_any tNo w hg (by decide)).mono ?_
  rintro e w' ⟨v, rfl, hs, hk⟩
  rw [no_read]
  exact ⟨v, rfl, hk⟩
theorem small_bk : SmallS sBk := by
  refine ⟨(fun p h => by cases h), (fun p h => by cases h), ?_, by decide, by decide, by decide, by decide, by decide⟩
  intro p h
  simp only [sBk, List.mem_cons, List.mem_nil_iff, or_false] at h
  subst h; decide
theorem small_no : SmallS sNo := by
  refine ⟨(fun p h => by cases h), (fun p h => by cases h), (fun p h => by cases h), by decide, by decide, by decide, by decide, by decide⟩
theorem one_srcs {w : World} {g : Nat} {s : SrcT} {vA vE vF : Value} {t : TypeId} (h : Blk w g t #[.string (bs s.key), .string (bs s.type), vA, vE, vF]) (pA : Perss w vA s.author) (pE : Perss w vE s.editor) (pF : Prs w vF s.fields) : Srcs w (.slice (some ⟨g, 0, none⟩) 1 1) [s] := by
  refine ⟨_, _, rfl, Nat.le_refl _, fun _ => ⟨g, 0, rfl, h.lt, fun j x hx => ?_⟩⟩
  cases j with
  | zero =>
    cases hx
    exact ⟨vA, vE, vF, h.cell 0 _ rfl, h.cell 1 _ rfl, h.cell 2 _ rfl, h.cell 3 _ rfl, h.cell 4 _ rfl, pA, pE, pF⟩
  | succ j => cases hx
theorem awk_btext (w : World) (hg : Gnd w) (v : Value) (hv : Srcs w v [sBk]) : Calls Tryz.prog 36 #[v] w fun e w' => e = .returned (.tuple #[.string (bs [64, 98, 111, 111, 107, 123, 107, 44, 10, 116, 105, 116, 108, 101, 32, 61, 32, 84, 10, 125, 10]), .int .i64 0]) ∧ Kept w w' := by
  have h := btext_any v [sBk] w hg hv (fun s h => by simp only [List.mem_cons, List.mem_nil_iff, or_false] at h; subst h; exact small_bk) (by decide) (by decide +kernel)
  rw [bk_text, bk_check] at h; exact h
theorem awk_bcheck (w : World) (hg : Gnd w) (v : Value) (hv : Srcs w v [sNo]) : Calls Tryz.prog 39 #[v] w fun e w' => e = .returned (.int .i64 8) ∧ Kept w w' := by
  have h := check_any v [sNo] w hg hv (fun s h => by simp only [List.mem_cons, List.mem_nil_iff, or_false] at h; subst h; exact small_no) (by decide)
  rw [no_check] at h; exact h
theorem ng_find : findS [sNg] [110, 103, 48, 49] = some sNg := by
  unfold findS
  rw [List.find?_cons_of_pos (by decide)]
theorem awk_bfind (w : World) (v : Value) (hv : Srcs w v [sNg]) : Calls Tryz.prog 37 #[v, .string (bs [110, 103, 48, 49])] w fun e w' => ∃ aA cA aE cE aF cF, e = .returned (.tuple #[srcV [110, 103, 48, 49] [97, 114, 116, 105, 99, 108, 101] (.slice aA 1 cA) (.slice aE 0 cE) (.slice aF 2 cF), .bool true]) ∧ Prs w' (.slice aF 2 cF) sNg.fields ∧ Kept w w' := by
  refine (find_any v [sNg] _ w hv (by decide) (fun s h => by simp only [List.mem_cons, List.mem_nil_iff, or_false] at h; subst h; decide)).mono ?_
  rintro e w' ⟨vA, vE, vF, rfl, h1, h2, h3, hk⟩
  rw [ng_find] at h1 h2 h3 ⊢
  have h4 := h3
  obtain ⟨aA, cA, rfl, _, _⟩ := h1
  obtain ⟨aE, cE, rfl, _, _⟩ := h2
  obtain ⟨aF, cF, rfl, _, _⟩ := h3
  exact ⟨aA, cA, aE, cE, aF, cF, rfl, h4, hk⟩
theorem awk_bfield (w : World) (vA vE vF : Value) (hv : Prs w vF sNg.fields) : Calls Tryz.prog 38 #[srcV [110, 103, 48, 49] [97, 114, 116, 105, 99, 108, 101] vA vE vF, .string (bs [116, 105, 116, 108, 101])] w fun e w' => e = .returned (.tuple #[.string (bs [79, 110, 32, 98, 111, 120, 101, 115]), .bool true]) ∧ Kept w w' := by
  refine (field_any sNg.key sNg.type vA vE vF sNg.fields _ w hv (by decide)).mono ?_
  rintro e w' ⟨rfl, hk⟩
  rw [ng_title]
  exact ⟨rfl, hk⟩
theorem awk_byear (w : World) (vA vE vF : Value) (hv : Prs w vF sNg.fields) : Calls Tryz.prog 35 #[srcV [110, 103, 48, 49] [97, 114, 116, 105, 99, 108, 101] vA vE vF] w fun e w' => e = .returned (.int .i64 2001) ∧ Kept w w' := by
  have h := year_any sNg.key sNg.type vA vE vF sNg.fields w hv (by decide) (by decide +kernel)
  rw [ng_year] at h; exact h
def cBk (g : Nat) : Array Value := #[.string (bs [107]), .string (bs [98, 111, 111, 107]), .slice none 0 0, .slice none 0 0, .slice (some ⟨g, 0, none⟩) 1 1]
theorem bk_new (w : World) (t t' : TypeId) : Srcs ((w.alloc (.cells #[.string (bs [116, 105, 116, 108, 101]), .string (bs [84])] t)).alloc (.cells (cBk w.heap.size) t')) (.slice (some ⟨w.heap.size + 1, 0, none⟩) 1 1) [sBk] := by
  refine one_srcs (t := t') (Blk.new1 w _ t' (cBk w.heap.size)) (Perss.none_ _) (Perss.none_ _) ?_
  have hb := (Blk.new w t #[.string (bs [116, 105, 116, 108, 101]), .string (bs [84])]).alloc (.cells (cBk w.heap.size) t')
  refine ⟨_, _, rfl, Nat.le_refl _, fun _ => ⟨w.heap.size, 0, rfl, hb.lt, fun j q hj => ?_⟩⟩
  cases j with
  | zero => cases hj; exact ⟨hb.cell 0 _ rfl, hb.cell 1 _ rfl⟩
  | succ j => cases hj
set_option maxRecDepth 100000 in
set_option maxHeartbeats 6400000 in
theorem bawake_any (w : World) (hg : Gnd w) : Calls Tryz.prog 11 #[] w fun e w' => e = .returned (.bool true) ∧ Kept w w' := by
  have HG := Lib.hid hg
  clear hg
  go_enter Tryz.func11, Tryz.ntmps11
  go_wp2_with fail
  refine (awk_bparse _ HG.out).mono ?_
  rintro e w1 ⟨g, o, c, aA, cA, aE, cE, aF, cF, rfl, hc, hg1, c0, c1, c2, c3, c4, pF, hS, hk1⟩
  have HS1 := Lib.hid hS
  have HK1 := Lib.hid hk1
  have HPF := Lib.hid pF
  clear hk1 hS pF
  go_wp2_with fail
  refine (awk_byear _ _ _ _ HPF.out).mono ?_
  rintro e w2 ⟨rfl, hk2⟩
  have HS2 := Lib.hid (HS1.out.kept hk2)
  have HK2 := Lib.hid (HK1.out.trans hk2)
  clear hk2 c0 c1 c2 c3 c4 hg1
  go_wp2_with fail
  refine (awk_bno _ (HG.out.kept HK2.out)).mono ?_
  rintro e w3 ⟨v3, rfl, hk3⟩
  have HS3 := Lib.hid (HS2.out.kept hk3)
  have HK3 := Lib.hid (HK2.out.trans hk3)
  clear hk3
  go_wp2_with fail
  have HKT := Lib.hid ((HK3.out.trans (kept_alloc w3 (.cells #[.string (bs [116, 105, 116, 108, 101]), .string (bs [84])] 62))).trans (kept_alloc _ (.cells (cBk w3.heap.size) 40)))
  have HST := Lib.hid ((HS3.out.kept (kept_alloc w3 (.cells #[.string (bs [116, 105, 116, 108, 101]), .string (bs [84])] 62))).kept (kept_alloc _ (.cells (cBk w3.heap.size) 40)))
  refine (awk_btext _ (HG.out.kept HKT.out) _ (bk_new w3 _ _)).mono ?_
  rintro e w4 ⟨rfl, hk4⟩
  have HS4 := Lib.hid (HST.out.kept hk4)
  have HK4 := Lib.hid (HKT.out.trans hk4)
  clear hk4 HKT HST
  go_wp2_with fail
  refine (awk_bfind _ _ HS4.out).mono ?_
  rintro e w5 ⟨bA, dA, bE, dE, bF, dF, rfl, hp5, hk5⟩
  have HP5 := Lib.hid hp5
  have HK5 := Lib.hid (HK4.out.trans hk5)
  clear hk5 hp5
  go_wp2_with fail
  have HK6 := Lib.hid (HK5.out.trans (kept_alloc w5 (.cells #[.string (bs [110, 103, 48, 49]), .string (bs [97, 114, 116, 105, 99, 108, 101]), .slice bA 1 dA, .slice bE 0 dE, .slice bF 2 dF] 40)))
  refine (awk_bfield _ _ _ _ (HP5.out.kept (kept_alloc w5 _))).mono ?_
  rintro e w7 ⟨rfl, hk7⟩
  have HK7 := Lib.hid (HK6.out.trans hk7)
  clear hk7
  go_wp2_with fail
  have HK8 := Lib.hid (HK7.out.trans (kept_alloc w7 (.cells #[.string (bs [107]), .string (bs [98, 111, 111, 107]), .slice none 0 0, .slice none 0 0, .slice none 0 0] 40)))
  refine (awk_bcheck _ (HG.out.kept HK8.out) _ (one_srcs (s := sNo) (Blk.new w7 40 #[.string (bs [107]), .string (bs [98, 111, 111, 107]), .slice none 0 0, .slice none 0 0, .slice none 0 0]) (Perss.none_ _) (Perss.none_ _) (Prs.none_ _))).mono ?_
  rintro e w9 ⟨rfl, hk9⟩
  have HK9 := Lib.hid (HK8.out.trans hk9)
  clear hk9
  go_wp2_with fail
  go_ret
  exact ⟨rfl, HK9.out⟩
end Go.Proofs.YteflhlbgbgamnaaGreatDoor
