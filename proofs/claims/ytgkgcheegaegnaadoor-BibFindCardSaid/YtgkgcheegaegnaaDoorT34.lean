/- The page's examples of bibliographies: law30's awake answers true. No condition. -/
import Derived.Test.YtgkgcheegaegnaaDoorT32
import Derived.Test.YtgkgcheegaegnaaDoorT33
import Derived.Test.YtgkgcheegaegnaaDoorT25
import Derived.Deep.RegionHeld3

set_option linter.all false
namespace Go.Proofs.YtgkgcheegaegnaaDoor
open Go.RowKit

abbrev kNg : Bs := [110, 103, 48, 49]
abbrev yNg : Bs := [97, 114, 116, 105, 99, 108, 101]
theorem awk_bparse (w : World) (hg : Gnd w) : Calls Tryd.prog 14 #[.string (bs tNg)] w fun e w' => ∃ g o c aA cA aE cE aF cF, e = .returned (.tuple #[.slice (some ⟨g, o, none⟩) 1 c, .int .i64 0, .int .i64 0]) ∧ 1 ≤ c ∧ g < w'.heap.size ∧
    w'.cell? ⟨g, o, none⟩ = some (.string (bs [110, 103, 48, 49])) ∧ w'.cell? ⟨g, o + 1, none⟩ = some (.string (bs [97, 114, 116, 105, 99, 108, 101])) ∧ w'.cell? ⟨g, o + 2, none⟩ = some (.slice aA 1 cA) ∧ w'.cell? ⟨g, o + 3, none⟩ = some (.slice aE 0 cE) ∧ w'.cell? ⟨g, o + 4, none⟩ = some (.slice aF 2 cF) ∧
    Prs w' (.slice aF 2 cF) sNg.fields ∧ Srcs w' (.slice (some ⟨g, o, none⟩) 1 c) [sNg] ∧ Kept w w' := by
  refine (bparse_any tNg w hg (by decide)).mono ?_
  rintro e w' ⟨v, rfl, hs, hk⟩
  rw [ng_read] at hs ⊢
  have hs' := hs
  obtain ⟨a, c, rfl, hc, h3⟩ := hs
  obtain ⟨g, o, rfl, hg', hcc⟩ := h3 (by decide)
  obtain ⟨vA, vE, vF, h⟩ := hcc 0 sNg rfl
  simp only [Nat.zero_mul, Nat.add_zero] at h
  obtain ⟨c0, c1, c2, c3, c4, pA, pE, pF⟩ := h
  have pF' := pF
  obtain ⟨aA, cA, rfl, _, _⟩ := pA
  obtain ⟨aE, cE, rfl, _, _⟩ := pE
  obtain ⟨aF, cF, rfl, _, _⟩ := pF
  exact ⟨g, o, c, aA, cA, aE, cE, aF, cF, rfl, hc, hg', c0, c1, c2, c3, c4, pF', hs', hk⟩
theorem awk_bno (w : World) (hg : Gnd w) : Calls Tryd.prog 14 #[.string (bs tNo)] w fun e w' => ∃ v, e = .returned (.tuple #[v, .int .i64 2, .int .i64 8]) ∧ Kept w w' := by
  refine (bparse_any tNo w hg (by decide)).mono ?_
  rintro e w' ⟨v, rfl, hs, hk⟩
  rw [no_read]
  exact ⟨v, rfl, hk⟩
theorem small_bk : SmallS sBk := by
  refine ⟨(fun p h => by cases h), (fun p h => by cases h), ?_, by decide, by decide, by decide, by decide, by decide⟩
  intro p h
  simp only [sBk, List.mem_cons, List.mem_nil_iff, or_false] at h
  subst h; decide
theorem small_no : SmallS sNo := by
  refine ⟨(fun p h => by cases h), (fun p h => by cases h), (fun p h => by cases h), by decide, by decide, by decide, by decide, by decide⟩
theorem one_srcs {w : World} {g : Nat} {s : SrcT} {vA vE vF : Value} {t : TypeId} (h : Blk w g t #[.string (bs s.key), .string (bs s.type), vA, vE, vF]) (pA : Perss w vA s.author) (pE : Perss w vE s.editor) (pF : Prs w vF s.fields) : Srcs w (.slice (some ⟨g, 0, none⟩) 1 1) [s] := by
  refine ⟨_, _, rfl, Nat.le_refl _, fun _ => ⟨g, 0, rfl, h.lt, fun j x hx => ?_⟩⟩
  cases j with
  | zero =>
    cases hx
    exact ⟨vA, vE, vF, h.cell 0 _ rfl, h.cell 1 _ rfl, h.cell 2 _ rfl, h.cell 3 _ rfl, h.cell 4 _ rfl, pA, pE, pF⟩
  | succ j => cases hx
theorem awk_btext (w : World) (hg : Gnd w) (v : Value) (hv : Srcs w v [sBk]) : Calls Tryd.prog 15 #[v] w fun e w' => e = .returned (.tuple #[.string (bs [64, 98, 111, 111, 107, 123, 107, 44, 10, 116, 105, 116, 108, 101, 32, 61, 32, 84, 10, 125, 10]), .int .i64 0]) ∧ Kept w w' := by
  have h := btext_any v [sBk] w hg hv (fun s h => by simp only [List.mem_cons, List.mem_nil_iff, or_false] at h; subst h; exact small_bk) (by decide) (by decide +kernel)
  rw [bk_text, bk_check] at h; exact h
theorem awk_bcheck (w : World) (hg : Gnd w) (v : Value) (hv : Srcs w v [sNo]) : Calls Tryd.prog 16 #[v] w fun e w' => e = .returned (.int .i64 8) ∧ Kept w w' := by
  have h := check_any v [sNo] w hg hv (fun s h => by simp only [List.mem_cons, List.mem_nil_iff, or_false] at h; subst h; exact small_no) (by decide)
  rw [no_check] at h; exact h
theorem ng_find : findS [sNg] [110, 103, 48, 49] = some sNg := by
  unfold findS
  rw [List.find?_cons_of_pos (by decide)]
theorem awk_bfind (w : World) (v : Value) (hv : Srcs w v [sNg]) : Calls Tryd.prog 6 #[v, .string (bs [110, 103, 48, 49])] w fun e w' => ∃ aA cA aE cE aF cF, e = .returned (.tuple #[srcV [110, 103, 48, 49] [97, 114, 116, 105, 99, 108, 101] (.slice aA 1 cA) (.slice aE 0 cE) (.slice aF 2 cF), .bool true]) ∧ Prs w' (.slice aF 2 cF) sNg.fields ∧ Kept w w' := by
  refine (find_any v [sNg] _ w hv (by decide) (fun s h => by simp only [List.mem_cons, List.mem_nil_iff, or_false] at h; subst h; decide)).mono ?_
  rintro e w' ⟨vA, vE, vF, rfl, h1, h2, h3, hk⟩
  rw [ng_find] at h1 h2 h3 ⊢
  have h4 := h3
  obtain ⟨aA, cA, rfl, _, _⟩ := h1
  obtain ⟨aE, cE, rfl, _, _⟩ := h2
  obtain ⟨aF, cF, rfl, _, _⟩ := h3
  exact ⟨aA, cA, aE, cE, aF, cF, rfl, h4, hk⟩
theorem awk_bfield (w : World) (vA vE vF : Value) (hv : Prs w vF sNg.fields) : Calls Tryd.prog 9 #[srcV [110, 103, 48, 49] [97, 114, 116, 105, 99, 108, 101] vA vE vF, .string (bs [116, 105, 116, 108, 101])] w fun e w' => e = .returned (.tuple #[.string (bs [79, 110, 32, 98, 111, 120, 101, 115]), .bool true]) ∧ Kept w w' := by
  refine (field_any sNg.key sNg.type vA vE vF sNg.fields _ w hv (by decide)).mono ?_
  rintro e w' ⟨rfl, hk⟩
  rw [ng_title]
  exact ⟨rfl, hk⟩
theorem awk_byear (w : World) (vA vE vF : Value) (hv : Prs w vF sNg.fields) : Calls Tryd.prog 11 #[srcV [110, 103, 48, 49] [97, 114, 116, 105, 99, 108, 101] vA vE vF] w fun e w' => e = .returned (.int .i64 2001) ∧ Kept w w' := by
  have h := year_any sNg.key sNg.type vA vE vF sNg.fields w hv (by decide) (by decide +kernel)
  rw [ng_year] at h; exact h
def cBk (g : Nat) : Array Value := #[.string (bs [107]), .string (bs [98, 111, 111, 107]), .slice none 0 0, .slice none 0 0, .slice (some ⟨g, 0, none⟩) 1 1]
theorem bk_new (w : World) (t t' : TypeId) : Srcs ((w.alloc (.cells #[.string (bs [116, 105, 116, 108, 101]), .string (bs [84])] t)).alloc (.cells (cBk w.heap.size) t')) (.slice (some ⟨w.heap.size + 1, 0, none⟩) 1 1) [sBk] := by
  refine one_srcs (t := t') (Blk.new1 w _ t' (cBk w.heap.size)) (Perss.none_ _) (Perss.none_ _) ?_
  have hb := (Blk.new w t #[.string (bs [116, 105, 116, 108, 101]), .string (bs [84])]).alloc (.cells (cBk w.heap.size) t')
  refine ⟨_, _, rfl, Nat.le_refl _, fun _ => ⟨w.heap.size, 0, rfl, hb.lt, fun j q hj => ?_⟩⟩
  cases j with
  | zero => cases hj; exact ⟨hb.cell 0 _ rfl, hb.cell 1 _ rfl⟩
  | succ j => cases hj
set_option maxRecDepth 100000 in
set_option maxHeartbeats 6400000 in
theorem bawake_any (w : World) (hg : Gnd w) : Calls Tryd.prog 5 #[] w fun e w' => e = .returned (.bool true) ∧ Kept w w' := by
  have HG := Lib.hid hg
  clear hg
  go_enter Tryd.func5, Tryd.ntmps5
  go_wp2_with fail
  refine (awk_bparse _ HG.out).mono ?_
  rintro e w1 ⟨g, o, c, aA, cA, aE, cE, aF, cF, rfl, hc, hg1, c0, c1, c2, c3, c4, pF, hS, hk1⟩
  have HS1 := Lib.hid hS
  have HK1 := Lib.hid hk1
  have HPF := Lib.hid pF
  clear hk1 hS pF
  go_wp2_with fail
  refine (awk_byear _ _ _ _ HPF.out).mono ?_
  rintro e w2 ⟨rfl, hk2⟩
  have HS2 := Lib.hid (HS1.out.kept hk2)
  have HK2 := Lib.hid (HK1.out.trans hk2)
  clear hk2 c0 c1 c2 c3 c4 hg1
  go_wp2_with fail
  refine (awk_bno _ (HG.out.kept HK2.out)).mono ?_
  rintro e w3 ⟨v3, rfl, hk3⟩
  have HS3 := Lib.hid (HS2.out.kept hk3)
  have HK3 := Lib.hid (HK2.out.trans hk3)
  clear hk3
  go_wp2_with fail
  have HKT := Lib.hid ((HK3.out.trans (kept_alloc w3 (.cells #[.string (bs [116, 105, 116, 108, 101]), .string (bs [84])] 42))).trans (kept_alloc _ (.cells (cBk w3.heap.size) 28)))
  have HST := Lib.hid ((HS3.out.kept (kept_alloc w3 (.cells #[.string (bs [116, 105, 116, 108, 101]), .string (bs [84])] 42))).kept (kept_alloc _ (.cells (cBk w3.heap.size) 28)))
  refine (awk_btext _ (HG.out.kept HKT.out) _ (bk_new w3 _ _)).mono ?_
  rintro e w4 ⟨rfl, hk4⟩
  have HS4 := Lib.hid (HST.out.kept hk4)
  have HK4 := Lib.hid (HKT.out.trans hk4)
  clear hk4 HKT HST
  go_wp2_with fail
  refine (awk_bfind _ _ HS4.out).mono ?_
  rintro e w5 ⟨bA, dA, bE, dE, bF, dF, rfl, hp5, hk5⟩
  have HP5 := Lib.hid hp5
  have HK5 := Lib.hid (HK4.out.trans hk5)
  clear hk5 hp5
  go_wp2_with fail
  have HK6 := Lib.hid (HK5.out.trans (kept_alloc w5 (.cells #[.string (bs [110, 103, 48, 49]), .string (bs [97, 114, 116, 105, 99, 108, 101]), .slice bA 1 dA, .slice bE 0 dE, .slice bF 2 dF] 28)))
  refine (awk_bfield _ _ _ _ (HP5.out.kept (kept_alloc w5 _))).mono ?_
  rintro e w7 ⟨rfl, hk7⟩
  have HK7 := Lib.hid (HK6.out.trans hk7)
  clear hk7
  go_wp2_with fail
  have HK8 := Lib.hid (HK7.out.trans (kept_alloc w7 (.cells #[.string (bs [107]), .string (bs [98, 111, 111, 107]), .slice none 0 0, .slice none 0 0, .slice none 0 0] 28)))
  refine (awk_bcheck _ (HG.out.kept HK8.out) _ (one_srcs (s := sNo) (Blk.new w7 28 #[.string (bs [107]), .string (bs [98, 111, 111, 107]), .slice none 0 0, .slice none 0 0, .slice none 0 0]) (Perss.none_ _) (Perss.none_ _) (Prs.none_ _))).mono ?_
  rintro e w9 ⟨rfl, hk9⟩
  have HK9 := Lib.hid (HK8.out.trans hk9)
  clear hk9
  go_wp2_with fail
  go_ret
  exact ⟨rfl, HK9.out⟩
end Go.Proofs.YtgkgcheegaegnaaDoor

/- persons and same of law30, Pairs of ref04, at equal lists. Conditions: lengths. -/
set_option linter.all false
namespace Go.Proofs.YtgkgcheegaegnaaDoor
open Go.RowKit

set_option maxRecDepth 100000 in
set_option maxHeartbeats 1600000 in
theorem persons_eq (v v' : Value) (ps : List P4) (w : World) (hv : Perss w v ps) (hv' : Perss w v' ps) (hN : ps.length ≤ 1000000) :
    Calls Tryd.prog 19 #[v, v'] w fun e w' => e = .returned (.bool true) ∧ Kept w w' := by
  have HV := Lib.hid hv
  have HV2 := Lib.hid hv'
  obtain ⟨a, c, rfl, hc, h3⟩ := hv
  obtain ⟨b, d, rfl, hd, h4⟩ := hv'
  clear h3 h4
  go_enter Tryd.func19, Tryd.ntmps19
  go_wp2_with fail
  go_loopw [5] (fun i wr => ∃ k : Nat, k ≤ ps.length ∧ i = .int .i64 k ∧ Kept w wr) (fun i _ => ps.length - (intOf i).toNat)
  case atStart => exact ⟨0, Nat.zero_le _, rfl, Kept.refl _⟩
  case round =>
    obtain ⟨k, hk, rfl, hkr⟩ := hrel
    have HR := Lib.hid hkr
    by_cases hlt : k < ps.length
    · obtain ⟨q, hx⟩ : ∃ x, ps[k]? = some x := ⟨_, List.getElem?_eq_getElem hlt⟩
      obtain ⟨a', c', hva, _, h3⟩ := HV.out.kept hkr
      obtain ⟨rfl, hdead, rfl⟩ := Value.slice.inj hva
      clear hdead
      obtain ⟨b', d', hvb, _, h4⟩ := HV2.out.kept hkr
      obtain ⟨rfl, hdead, rfl⟩ := Value.slice.inj hvb
      clear hdead
      obtain ⟨g, o, rfl, hg, hcc⟩ := h3 (by omega)
      obtain ⟨g2, o2, rfl, hg2, hcc2⟩ := h4 (by omega)
      obtain ⟨c0, c1, c2, c3⟩ := hcc k q hx
      obtain ⟨d0, d1, d2, d3⟩ := hcc2 k q hx
      clear hkr hcc hcc2 h3 h4 hva hvb hx
      obtain ⟨q1, q2, q3, q4⟩ := q
      simp only at c0 c1 c2 c3 d0 d1 d2 d3
      go_wp2_with fail
      go_region
      all_goals
        go_wp2_with fail
        go_roundw
        case rel => exact ⟨k + 1, by omega, by go_num, HR.out.trans (kept_drewN _ _)⟩
        case measure => simp [intOf]; omega
    · clear hkr
      go_wp2_with fail
      go_ret
      exact ⟨rfl, HR.out⟩
set_option maxRecDepth 100000 in
set_option maxHeartbeats 1600000 in
theorem pairs_eq (v v' : Value) (ps : List Pr) (w : World) (hv : Prs w v ps) (hv' : Prs w v' ps) (hN : ps.length ≤ 1000000) :
    Calls Tryd.prog 20 #[v, v'] w fun e w' => e = .returned (.bool true) ∧ Kept w w' := by
  have HV := Lib.hid hv
  have HV2 := Lib.hid hv'
  obtain ⟨a, c, rfl, hc, h3⟩ := hv
  obtain ⟨b, d, rfl, hd, h4⟩ := hv'
  clear h3 h4
  go_enter Tryd.func20, Tryd.ntmps20
  go_wp2_with fail
  go_loopw [5] (fun i wr => ∃ k : Nat, k ≤ ps.length ∧ i = .int .i64 k ∧ Kept w wr) (fun i _ => ps.length - (intOf i).toNat)
  case atStart => exact ⟨0, Nat.zero_le _, rfl, Kept.refl _⟩
  case round =>
    obtain ⟨k, hk, rfl, hkr⟩ := hrel
    have HR := Lib.hid hkr
    by_cases hlt : k < ps.length
    · obtain ⟨q, hx⟩ : ∃ x, ps[k]? = some x := ⟨_, List.getElem?_eq_getElem hlt⟩
      obtain ⟨a', c', hva, _, h3⟩ := HV.out.kept hkr
      obtain ⟨rfl, hdead, rfl⟩ := Value.slice.inj hva
      clear hdead
      obtain ⟨b', d', hvb, _, h4⟩ := HV2.out.kept hkr
      obtain ⟨rfl, hdead, rfl⟩ := Value.slice.inj hvb
      clear hdead
      obtain ⟨g, o, rfl, hg, hcc⟩ := h3 (by omega)
      obtain ⟨g2, o2, rfl, hg2, hcc2⟩ := h4 (by omega)
      obtain ⟨c0, c1⟩ := hcc k q hx
      obtain ⟨d0, d1⟩ := hcc2 k q hx
      clear hkr hcc hcc2 h3 h4 hva hvb hx
      obtain ⟨q1, q2⟩ := q
      simp only at c0 c1 d0 d1
      go_wp2_with fail
      go_region
      all_goals
        go_wp2_with fail
        go_roundw
        case rel => exact ⟨k + 1, by omega, by go_num, HR.out.trans (kept_drewN _ _)⟩
        case measure => simp [intOf]; omega
    · clear hkr
      go_wp2_with fail
      go_ret
      exact ⟨rfl, HR.out⟩
theorem two_cells {w w' : World} {g g2 a0 a1 a2 a3 a4 b0 b1 b2 b3 b4 : Nat} {u0 u1 u2 u3 u4 v0 v1 v2 v3 v4 : Option Value} (hg : g < w.heap.size) (hg2 : g2 < w.heap.size) (k : Kept w w')
    (h : w.cell? ⟨g, a0, none⟩ = u0 ∧ w.cell? ⟨g, a1, none⟩ = u1 ∧ w.cell? ⟨g, a2, none⟩ = u2 ∧ w.cell? ⟨g, a3, none⟩ = u3 ∧ w.cell? ⟨g, a4, none⟩ = u4)
    (h2 : w.cell? ⟨g2, b0, none⟩ = v0 ∧ w.cell? ⟨g2, b1, none⟩ = v1 ∧ w.cell? ⟨g2, b2, none⟩ = v2 ∧ w.cell? ⟨g2, b3, none⟩ = v3 ∧ w.cell? ⟨g2, b4, none⟩ = v4) :
    w'.cell? ⟨g, a0, none⟩ = u0 ∧ w'.cell? ⟨g, a1, none⟩ = u1 ∧ w'.cell? ⟨g, a2, none⟩ = u2 ∧ w'.cell? ⟨g, a3, none⟩ = u3 ∧ w'.cell? ⟨g, a4, none⟩ = u4 ∧
    w'.cell? ⟨g2, b0, none⟩ = v0 ∧ w'.cell? ⟨g2, b1, none⟩ = v1 ∧ w'.cell? ⟨g2, b2, none⟩ = v2 ∧ w'.cell? ⟨g2, b3, none⟩ = v3 ∧ w'.cell? ⟨g2, b4, none⟩ = v4 := by
  obtain ⟨h0, h1, h3, h4, h5⟩ := h
  obtain ⟨q0, q1, q3, q4, q5⟩ := h2
  exact ⟨(k.cell (p := ⟨g, a0, none⟩) hg).trans h0, (k.cell (p := ⟨g, a1, none⟩) hg).trans h1, (k.cell (p := ⟨g, a2, none⟩) hg).trans h3, (k.cell (p := ⟨g, a3, none⟩) hg).trans h4, (k.cell (p := ⟨g, a4, none⟩) hg).trans h5, (k.cell (p := ⟨g2, b0, none⟩) hg2).trans q0, (k.cell (p := ⟨g2, b1, none⟩) hg2).trans q1, (k.cell (p := ⟨g2, b2, none⟩) hg2).trans q3, (k.cell (p := ⟨g2, b3, none⟩) hg2).trans q4, (k.cell (p := ⟨g2, b4, none⟩) hg2).trans q5⟩
set_option maxRecDepth 100000 in
set_option maxHeartbeats 6400000 in
theorem same_eq (v v' : Value) (ss : List SrcT) (w : World) (hv : Srcs w v ss) (hv' : Srcs w v' ss) (hN : ss.length ≤ 1000000) (hS : ∀ s ∈ ss, s.author.length ≤ 1000000 ∧ s.editor.length ≤ 1000000 ∧ s.fields.length ≤ 1000000) :
    Calls Tryd.prog 8 #[v, v'] w fun e w' => e = .returned (.bool true) ∧ Kept w w' := by
  have HV := Lib.hid hv
  have HV2 := Lib.hid hv'
  obtain ⟨a, c, rfl, hc, h3⟩ := hv
  obtain ⟨b, d, rfl, hd, h4⟩ := hv'
  clear h3 h4
  go_enter Tryd.func8, Tryd.ntmps8
  go_wp2_with fail
  go_loopw [5] (fun i wr => ∃ k : Nat, k ≤ ss.length ∧ i = .int .i64 k ∧ Kept w wr) (fun i _ => ss.length - (intOf i).toNat)
  case atStart => exact ⟨0, Nat.zero_le _, rfl, Kept.refl _⟩
  case round =>
    obtain ⟨k, hk, rfl, hkr⟩ := hrel
    have HR := Lib.hid hkr
    by_cases hlt : k < ss.length
    · obtain ⟨s, hx⟩ : ∃ x, ss[k]? = some x := ⟨_, List.getElem?_eq_getElem hlt⟩
      obtain ⟨l1, l2, l3⟩ := hS s (List.mem_of_getElem? hx)
      obtain ⟨a', c', hva, _, h3⟩ := HV.out.kept hkr
      obtain ⟨rfl, hdead, rfl⟩ := Value.slice.inj hva
      clear hdead
      obtain ⟨b', d', hvb, _, h4⟩ := HV2.out.kept hkr
      obtain ⟨rfl, hdead, rfl⟩ := Value.slice.inj hvb
      clear hdead
      obtain ⟨g, o, rfl, hg, hcc⟩ := h3 (by omega)
      obtain ⟨g2, o2, rfl, hg2, hcc2⟩ := h4 (by omega)
      obtain ⟨vA, vE, vF, c0, c1, c2, c3, c4, pA, pE, pF⟩ := hcc k s hx
      obtain ⟨uA, uE, uF, d0, d1, d2, d3, d4, qA, qE, qF⟩ := hcc2 k s hx
      have HPA : Hid (∀ w', Kept wr w' → Calls Tryd.prog 19 #[vA, uA] w' fun e w2 => e = .returned (.bool true) ∧ Kept w' w2) := fun w' h => persons_eq vA uA s.author w' (pA.kept h) (qA.kept h) l1
      have HPE : Hid (∀ w', Kept wr w' → Calls Tryd.prog 19 #[vE, uE] w' fun e w2 => e = .returned (.bool true) ∧ Kept w' w2) := fun w' h => persons_eq vE uE s.editor w' (pE.kept h) (qE.kept h) l2
      have HPF : Hid (∀ w', Kept wr w' → Calls Tryd.prog 20 #[vF, uF] w' fun e w2 => e = .returned (.bool true) ∧ Kept w' w2) := fun w' h => pairs_eq vF uF s.fields w' (pF.kept h) (qF.kept h) l3
      have HC := Lib.hid (fun w' (h : Kept wr w') => two_cells hg hg2 h ⟨c0, c1, c2, c3, c4⟩ ⟨d0, d1, d2, d3, d4⟩)
      have e0 : Kept wr wr.drew := kept_drewN wr 1
      clear hkr hcc hcc2 h3 h4 hva hvb hx pA pE pF qA qE qF l1 l2 l3
      obtain ⟨key, type, au, ed, fs⟩ := s
      simp only at c0 c1 d0 d1 HC
      go_wp2_with fail
      simp only [List.append]
      go_region_held3 (fun w' => (w'.cell? ⟨g, o + k * 5, none⟩ = some (.string (bs key)) ∧ w'.cell? ⟨g, o + k * 5 + 1, none⟩ = some (.string (bs type)) ∧ w'.cell? ⟨g, o + k * 5 + 2, none⟩ = some vA ∧ w'.cell? ⟨g, o + k * 5 + 3, none⟩ = some vE ∧ w'.cell? ⟨g, o + k * 5 + 4, none⟩ = some vF ∧
          w'.cell? ⟨g2, o2 + k * 5, none⟩ = some (.string (bs key)) ∧ w'.cell? ⟨g2, o2 + k * 5 + 1, none⟩ = some (.string (bs type)) ∧ w'.cell? ⟨g2, o2 + k * 5 + 2, none⟩ = some uA ∧ w'.cell? ⟨g2, o2 + k * 5 + 3, none⟩ = some uE ∧ w'.cell? ⟨g2, o2 + k * 5 + 4, none⟩ = some uF) ∧ Kept wr w')
        ((refine ⟨HC.out _ ?_, ?_⟩ <;> assumption))
        (first
          | (go_at_call 19; refine (HPE.out _ e1).mono ?_; rintro e w3 ⟨rfl, hk⟩; have e2 := e1.trans hk; clear hk)
          | (go_at_call 19; refine (HPA.out _ e0).mono ?_; rintro e w2 ⟨rfl, hk⟩; have e1 := e0.trans hk; clear hk)
          | (go_at_call 20; refine (HPF.out _ e2).mono ?_; rintro e w4 ⟨rfl, hk⟩; have e3 := e2.trans hk; clear hk))
      all_goals
        go_wp2_with fail
        go_roundw
        case rel => exact ⟨k + 1, by omega, by go_num, HR.out.trans e3⟩
        case measure => simp [intOf]; omega
    · clear hkr
      go_wp2_with fail
      go_ret
      exact ⟨rfl, HR.out⟩
end Go.Proofs.YtgkgcheegaegnaaDoor
