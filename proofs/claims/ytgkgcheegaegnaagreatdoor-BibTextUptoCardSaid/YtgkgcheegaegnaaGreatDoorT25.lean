/- bib.Parse. Conditions: lengths. -/
import Derived.Test.YtgkgcheegaegnaaGreatDoorT24

set_option linter.all false
namespace Go.Proofs.YtgkgcheegaegnaaGreatDoor
open Go.RowKit

/-- The lines from a place on: the first error with its line, and what the reader holds. -/
def runB : List Bs → Nat → ASt → Option (Nat × Int) × ASt
  | [], _, st => (none, st)
  | l :: ls, i, st => if trimL l = [] then runB ls (i + 1) st else if (lineS st (trimL l)).1 ≠ 0 then (some (i + 1, (lineS st (trimL l)).1), st) else runB ls (i + 1) (lineS st (trimL l)).2
def st0 : ASt := ⟨[], [], zeroS, false⟩
/-- The bibliography of a text: sources, line, error. -/
def bibR (s : Bs) : List SrcT × Int × Int :=
  if 262144 < s.length then ([], 0, 3) else if validB (bs s) = false then ([], 0, 17)
  else match runB (linesL s) 0 st0 with
    | (some (i, e), _) => ([], i, e)
    | (none, st) => if st.ins = true then ([], (linesL s).length + 1, 4) else (st.done, 0, 0)
/-- The slice value v reads in w as the sources ss. -/
def Srcs (w : World) (v : Value) (ss : List SrcT) : Prop :=
  ∃ a c, v = .slice a ss.length c ∧ ss.length ≤ c ∧ (0 < ss.length → ∃ g o, a = some ⟨g, o, none⟩ ∧ g < w.heap.size ∧ ∀ j s, ss[j]? = some s → ∃ vA vE vF,
    w.cell? ⟨g, o + j * 5, none⟩ = some (.string (bs s.key)) ∧ w.cell? ⟨g, o + j * 5 + 1, none⟩ = some (.string (bs s.type)) ∧ w.cell? ⟨g, o + j * 5 + 2, none⟩ = some vA ∧ w.cell? ⟨g, o + j * 5 + 3, none⟩ = some vE ∧ w.cell? ⟨g, o + j * 5 + 4, none⟩ = some vF ∧
    Perss w vA s.author ∧ Perss w vE s.editor ∧ Prs w vF s.fields)
theorem Srcs.none_ (w : World) : Srcs w (.slice none 0 0) [] := ⟨none, 0, rfl, Nat.le_refl _, fun q => absurd q (by simp)⟩
theorem doneC_at (ds : List DoneT) (j : Nat) (d : DoneT) (h : ds[j]? = some d) : (doneC ds)[j * 5]? = some (.string (bs d.s.key)) ∧ (doneC ds)[j * 5 + 1]? = some (.string (bs d.s.type)) ∧ (doneC ds)[j * 5 + 2]? = some d.a ∧ (doneC ds)[j * 5 + 3]? = some d.e ∧ (doneC ds)[j * 5 + 4]? = some d.f := by
  induction ds generalizing j with
  | nil => cases h
  | cons p ds ih =>
    have e : doneC (p :: ds) = srcC p.s p.a p.e p.f ++ doneC ds := by simp [doneC]
    have el : (srcC p.s p.a p.e p.f).length = 5 := rfl
    rw [e]
    cases j with
    | zero => cases h; exact ⟨rfl, rfl, rfl, rfl, rfl⟩
    | succ j =>
      have := ih j (by simpa using h)
      rw [List.getElem?_append_right (by rw [el]; omega), List.getElem?_append_right (by rw [el]; omega), List.getElem?_append_right (by rw [el]; omega), List.getElem?_append_right (by rw [el]; omega), List.getElem?_append_right (by rw [el]; omega), el]
      rw [show (j + 1) * 5 - 5 = j * 5 from by omega, show (j + 1) * 5 + 1 - 5 = j * 5 + 1 from by omega, show (j + 1) * 5 + 2 - 5 = j * 5 + 2 from by omega, show (j + 1) * 5 + 3 - 5 = j * 5 + 3 from by omega, show (j + 1) * 5 + 4 - 5 = j * 5 + 4 from by omega]
      exact this
theorem Srcs.own {w : World} {B T r m : Nat} {vD : Value} {ds : List DoneT} (h : w.ownsRow B 44 5 vD ds.length (doneC ds)) (hR : ∀ d ∈ ds, RetOK w B T r m vD d) : Srcs w vD (ds.map (·.s)) := by
  obtain ⟨a, c, hv, hc, _, h3⟩ := own_cap h
  refine ⟨a, c, by simpa using hv, by simpa using hc, fun q => ?_⟩
  obtain ⟨g, ha, _, hg, hcell⟩ := h3 (by simpa using q)
  refine ⟨g, 0, ha, hg, fun j s hs => ?_⟩
  rw [List.getElem?_map, Option.map_eq_some_iff] at hs
  obtain ⟨d, hd, rfl⟩ := hs
  obtain ⟨c0, c1, c2, c3, c4⟩ := doneC_at ds j d hd
  have hr := hR d (List.mem_of_getElem? hd)
  simp only [Nat.zero_add]
  exact ⟨d.a, d.e, d.f, hcell _ _ c0, hcell _ _ c1, hcell _ _ c2, hcell _ _ c3, hcell _ _ c4, Perss.own hr.a, Perss.own hr.e, Prs.own hr.f⟩
theorem lines_mem (s x : Bs) (h : x ∈ linesL s) : x.length ≤ s.length := by
  refine split_mem_le 10 s x ?_
  unfold linesL at h
  unfold splitC
  rcases List.mem_append.1 h with h | h
  · exact List.mem_append.2 (.inl h)
  · split at h
    · cases h
    · exact List.mem_append.2 (.inr h)
theorem lines_count (s : Bs) : (linesL s).length ≤ s.length + 1 := by
  have h := splitC_length 10 s
  have h2 := List.count_le_length (l := s) (a := (10 : UInt8))
  unfold splitC at h
  rw [List.length_append] at h
  unfold linesL
  rw [List.length_append]
  simp only [List.length_cons, List.length_nil] at h
  split <;> simp <;> omega
def BibPost (s : Bs) (w : World) (e : Ending) (w' : World) : Prop := ∃ v, e = .returned (.tuple #[v, .int .i64 (bibR s).2.1, .int .i64 (bibR s).2.2]) ∧ Srcs w' v (bibR s).1 ∧ Kept w w'
theorem lineS_small (st : ASt) (l : Bs) (h : Small4 st.src) : Small4 (lineS st l).2.src := by
  unfold lineS
  have z : Small4 zeroS := ⟨by simp [zeroS], by simp [zeroS], by simp [zeroS]⟩
  split
  · split
    · exact h
    · exact ⟨by simp, by simp, by simp⟩
  split
  · exact addS_small _ _ h
  split
  · exact h
  · exact z
theorem lineS_count (st : ASt) (l : Bs) : (lineS st l).2.done.length ≤ st.done.length + 1 := by
  unfold lineS
  split
  · split <;> simp
  split
  · simp
  split <;> simp
theorem runB_at (ls : List Bs) (k : Nat) (x : Bs) (h : ls[k]? = some x) (st : ASt) : runB (ls.drop k) k st = if trimL x = [] then runB (ls.drop (k + 1)) (k + 1) st else if (lineS st (trimL x)).1 ≠ 0 then (some (k + 1, (lineS st (trimL x)).1), st) else runB (ls.drop (k + 1)) (k + 1) (lineS st (trimL x)).2 := by
  obtain ⟨hk, rfl⟩ := List.getElem?_eq_some_iff.1 h
  rw [List.drop_eq_getElem_cons hk]; rfl

theorem new_reader (w1 w2 : World) (hk : Kept ((w1.alloc (.map #[] 0)).alloc (.cells (rdC nilV w1.heap.size zeroS nilV nilV nilV false) 55)) w2) : RInv w2.heap.size (w1.heap.size + 1) w1.heap.size ⟨[], [], zeroS, false⟩ w2 := by
  have hsz := hk.size
  simp only [show ((w1.alloc (.map #[] 0)).alloc (.cells (rdC nilV w1.heap.size zeroS nilV nilV nilV false) 55)).heap.size = w1.heap.size + 2 from by simp] at hsz
  have e1 : (w1.alloc (.map #[] 0)).heap.size = w1.heap.size + 1 := by simp
  have hb := Blk.new (w1.alloc (.map #[] 0)) 55 (rdC nilV w1.heap.size zeroS nilV nilV nilV false)
  rw [e1] at hb
  have hm0 : MapK (w1.alloc (.map #[] 0)) w1.heap.size [] := heap_alloc_new w1 _
  have hm := hm0.only (Only.of_kept (S := fun _ => False) (kept_alloc _ (.cells (rdC nilV w1.heap.size zeroS nilV nilV nilV false) 55))) (fun q => q)
  have hm2 := hm.only (Only.of_kept (S := fun _ => False) hk) (fun q => q)
  exact ⟨w2.heap.size, nilV, nilV, nilV, nilV, by omega, by omega, by omega, Nat.le_refl _, by omega, by omega, Nat.le_refl _, hb.kept hk, hm2, World.ownsRow_nil _ _ _ _, (fun g h => by cases h), (fun d h => by cases h), srcRow_nil _ _ _ _, fun _ => ⟨rfl, rfl, rfl, rfl⟩⟩
theorem Strs.only {B : Nat} {S : Nat → Prop} {w w' : World} {v : Value} {xs : List Bs} (h : Strs w v xs) (hB : BaseB B v xs) (k : Only S w w') (hS : ∀ g, B ≤ g → g < w.heap.size → ¬ S g) : Strs w' v xs := by
  obtain ⟨a, c, hv, hc, h3⟩ := h
  refine ⟨a, c, hv, hc, fun q => ?_⟩
  obtain ⟨g, o, ha, hg, hcell⟩ := h3 q
  obtain ⟨g', hg', hB'⟩ := hB q
  rw [hv, ha] at hg'
  cases hg'
  refine ⟨g, o, ha, Nat.lt_of_lt_of_le hg k.size, fun j x hx => ?_⟩
  rw [k.cell g _ hg (hS g hB' hg)]
  exact hcell j x hx
set_option maxRecDepth 100000 in
set_option maxHeartbeats 6400000 in
theorem bparse_any (s : Bs) (w : World) (hg : Gnd w) (hs : s.length ≤ 100000) : Calls Tryz.prog 7 #[.string (bs s)] w (BibPost s w) := by
  have HG := Lib.hid hg
  have HV := Lib.hid (fun w => valid_any (bs s) w (by simp; omega))
  have HSP := Lib.hid (fun w => lsplit_own s w (by omega))
  have hlc := lines_count s
  have HLM := Lib.hid (lines_mem s)
  have HR : Hid (bibR s = if validB (bs s) = false then ([], 0, 17) else match runB (linesL s) 0 st0 with | (some (i, e), _) => ([], (i : Int), e) | (none, st) => if st.ins = true then ([], ((linesL s).length : Int) + 1, 4) else (st.done, 0, 0)) := by
    show _ = _
    unfold bibR; rw [if_neg (by omega)]
  obtain ⟨R, HRR⟩ : ∃ R, Hid (bibR s = R) := ⟨_, rfl⟩
  unfold BibPost
  rw [HRR.out] at HR ⊢
  cases hv : validB (bs s)
  · rw [hv] at HV HR
    rw [if_pos rfl] at HR
    go_enter Tryz.func7, Tryz.ntmps7
    go_wp2_with fail
    refine (HV.out _).mono ?_
    rintro e w1 ⟨rfl, n1, rfl⟩
    have HK1 := Lib.hid (kept_drewN w n1)
    generalize w.drewN n1 = w1 at *
    go_wp2_with fail
    go_ret3
    exact ⟨.slice none 0 0, by rw [HR.out]; rfl, by rw [HR.out]; exact Srcs.none_ _, HK1.out⟩
  · rw [hv] at HV HR
    rw [if_neg (by simp)] at HR
    generalize linesL s = ls at *
    have mk := fun w => run_makeMap (P := Tryz.prog) 53 w
    go_enter Tryz.func7, Tryz.ntmps7
    go_wp2_with fail
    refine (HV.out _).mono ?_
    rintro e w1 ⟨rfl, n1, rfl⟩
    have HK1 := Lib.hid (kept_drewN w n1)
    generalize w.drewN n1 = w1 at *
    go_wp2_with fail
    refine (HSP.out _).mono ?_
    rintro e w2 ⟨vl, rfl, hsl, hbl, hk2⟩
    have HI2 := Lib.hid (new_reader w1 w2 hk2)
    have HSL := Lib.hid hsl
    have HBL : Hid (BaseB (w1.heap.size + 2) vl ls) := by
      show BaseB _ _ _
      have := hbl; simpa using this
    have hsz2 : w1.heap.size + 2 ≤ w2.heap.size := by have := hk2.size; simp at this; omega
    have HK2 := Lib.hid (((HK1.out.trans (kept_alloc w1 _)).trans (kept_alloc _ _)).trans hk2)
    have hw1 : w.heap.size ≤ w1.heap.size := HK1.out.size
    have HG2 := Lib.hid (hg.kept HK2.out)
    obtain ⟨al, cl, rfl, hcl, _⟩ := hsl
    clear hk2 hbl
    go_wp2_with fail
    go_loopw [23, 7, 8, 9] (fun i _ _ _ wr => ∃ (k : Nat) (st : RSt), k ≤ ls.length ∧ i = .int .i64 k ∧ st.done.length ≤ k ∧ Hid (RInv w2.heap.size (w1.heap.size + 1) w1.heap.size st wr) ∧ Hid (Small4 st.src) ∧ Hid (runB ls 0 st0 = runB (ls.drop k) k st.abs) ∧ Hid (Only (fun i => w2.heap.size ≤ i ∨ i = w1.heap.size + 1 ∨ i = w1.heap.size) w2 wr) ∧ Hid (Kept w wr)) (fun i _ _ _ _ => ls.length - (intOf i).toNat)
    case atStart => exact ⟨0, ⟨[], [], zeroS, false⟩, Nat.zero_le _, rfl, Nat.le_refl _, HI2.out, ⟨by simp [zeroS], by simp [zeroS], by simp [zeroS]⟩, rfl, Only.of_kept (Kept.refl _), HK2.out⟩
    case round =>
      obtain ⟨k, st, hk, rfl, hdl, HI, HSM, HRUN, HO, HKR⟩ := hrel
      by_cases hlt : k < ls.length
      · obtain ⟨x, hx⟩ : ∃ x, ls[k]? = some x := ⟨_, List.getElem?_eq_getElem hlt⟩
        have hxl := HLM.out x (List.mem_of_getElem? hx)
        have htl := trimL_le x
        have HAT := Lib.hid (runB_at ls k x hx st.abs)
        have HLS := Lib.hid (lineS_small st.abs (trimL x) HSM.out)
        have HLC := Lib.hid (lineS_count st.abs (trimL x))
        have hst := HSL.out.only HBL.out HO.out (fun g h1 h2 h3 => by omega)
        obtain ⟨a', c', hv', hc', h3⟩ := hst
        obtain ⟨rfl, hdead, rfl⟩ := Value.slice.inj hv'
        clear hdead hc'
        obtain ⟨g, o, rfl, hg', hcc⟩ := h3 (by omega)
        have c0 := hcc k x hx
        have HT := Lib.hid (fun w => trim_any x w (by omega))
        have HBL2 := Lib.hid (bline_any _ _ _ st (trimL x) wr (hg.kept HKR.out) (by omega) HI.out HSM.out (by omega))
        have HB := Lib.hid hsz2
        clear hcc h3 hv' hx
        generalize trimL x = y at *
        go_wp2_with fail
        refine (HT.out _).mono ?_
        rintro e w3 ⟨rfl, rfl⟩
        by_cases hy : y = []
        · rw [if_pos hy] at HAT
          subst hy
          go_wp2_with fail
          go_roundw
          case rel => exact ⟨k + 1, st, by omega, by go_num, by omega, HI, HSM, Lib.hid (HRUN.out.trans HAT.out), HO, HKR⟩
          case measure => simp [intOf]; omega
        · rw [if_neg hy] at HAT
          have hyl : 0 < y.length := List.length_pos_iff.2 hy
          have hy' : (y == []) = false := by simpa using hy
          have hy2 : (List.length y == 0) = false := by simpa using hy
          go_wp2_with fail
          refine (HBL2.out).mono ?_
          rintro e w4 ⟨st', rfl, hab, hI4, hO4⟩
          have HAB := Lib.hid hab
          have HI4 := Lib.hid hI4
          have HO4 := Lib.hid hO4
          have HKR4 : Hid (Kept w w4) := HKR.out.trans' (hO4.below HKR.out.size (fun i h => by omega))
          have hdl' : st'.done.length ≤ k + 1 := by
            have h1 := HLC.out
            have h2 : st'.abs.done.length = st'.done.length := by simp [RSt.abs]
            have h3 : st.abs.done.length = st.done.length := by simp [RSt.abs]
            rw [← hab] at h1; omega
          have HSM4 : Hid (Small4 st'.src) := by
            have h1 := HLS.out
            rw [← hab] at h1; exact h1
          clear hab hI4 hO4 c0 hg'
          obtain ⟨E, HE⟩ : ∃ E, Hid ((lineS st.abs y).1 = E) := ⟨_, rfl⟩
          rw [HE.out] at HAT ⊢
          by_cases hE : E = 0
          · subst hE
            rw [if_neg (by simp), ← HAB.out] at HAT
            go_wp2_with fail
            go_roundw
            case rel => exact ⟨k + 1, st', by omega, by go_num, hdl', HI4, HSM4, Lib.hid (HRUN.out.trans HAT.out), Lib.hid (HO.out.trans HO4.out), HKR4⟩
            case measure => simp [intOf]; omega
          · rw [if_pos hE] at HAT
            rw [HRUN.out, HAT.out] at HR
            go_wp2_with fail
            go_ret3
            exact ⟨_, by rw [HR.out]; go_num, by rw [HR.out]; exact Srcs.none_ _, HKR4.out⟩
      · obtain rfl : k = ls.length := by omega
        rw [HRUN.out, List.drop_length] at HR
        have HI0 := HI
        obtain ⟨T, vD, vA, vE, vF, h1, h2, h3, h4, h5, h6, h7, hb, hm, hD, hD2, hRt, hS, hz⟩ := HI.out
        have HSR := Lib.hid (Srcs.own hD hRt)
        have c7 : wr.cell? ⟨w1.heap.size + 1, 7, none⟩ = some (.bool st.ins) := hb.cell 7 _ rfl
        have cD : wr.cell? ⟨w1.heap.size + 1, 0, none⟩ = some vD := hb.cell 0 _ rfl
        have hins : st.abs.ins = st.ins := rfl
        have hdn : st.abs.done = st.done.map (·.s) := rfl
        simp only [runB, hins, hdn] at HR
        have hbl := hb.lt
        clear h1 h2 h3 h4 h5 h6 h7 hb hm hD hD2 hRt hS hz hins hdn
        generalize st.done.map (·.s) = D at *
        cases hi : st.ins
        · rw [hi] at HR c7
          rw [if_neg (by simp)] at HR
          go_wp2_with fail
          go_ret3
          exact ⟨vD, by rw [HR.out]; rfl, by rw [HR.out]; exact HSR.out, HKR.out⟩
        · rw [hi] at HR c7
          rw [if_pos rfl] at HR
          go_wp2_with fail
          go_ret3
          exact ⟨_, by rw [HR.out]; go_num, by rw [HR.out]; exact Srcs.none_ _, HKR.out⟩
end Go.Proofs.YtgkgcheegaegnaaGreatDoor

/- bib.checkSource. Conditions: lengths. -/
set_option linter.all false
namespace Go.Proofs.YtgkgcheegaegnaaGreatDoor
open Go.RowKit

/-- The first error of a list of persons. -/
def persE : List P4 → Int
  | [] => 0
  | p :: ps => if textE p.1 p.2.1 p.2.2.1 p.2.2.2 ≠ 0 then textE p.1 p.2.1 p.2.2.1 p.2.2.2 else persE ps
/-- The error of one field behind those of ds. -/
def fldE1 (ds : List Pr) (f : Pr) : Int :=
  if (nameB f.1 = false ∨ f.1 = [97, 117, 116, 104, 111, 114]) ∨ f.1 = [101, 100, 105, 116, 111, 114] then 6
  else if ((f.2 = [] ∨ validB (bs f.2) = false) ∨ f.2.contains 10 = true) ∨ trimL f.2 ≠ f.2 then 17
  else if hasB ds f.1 = true then 7 else 0
def fldE : List Pr → List Pr → Int
  | _, [] => 0
  | ds, f :: fs => if fldE1 ds f ≠ 0 then fldE1 ds f else fldE (ds ++ [f]) fs
def srcE (s : SrcT) : Int :=
  if (32 < s.author.length ∨ 32 < s.editor.length) ∨ 24 < s.fields.length then 3
  else if persE s.author ≠ 0 then persE s.author else if persE s.editor ≠ 0 then persE s.editor
  else if fldE [] s.fields ≠ 0 then fldE [] s.fields else if hasB s.fields kTitle = true then 0 else 8
theorem persE_at (ps : List P4) (k : Nat) (p : P4) (h : ps[k]? = some p) : persE (ps.drop k) = if textE p.1 p.2.1 p.2.2.1 p.2.2.2 ≠ 0 then textE p.1 p.2.1 p.2.2.1 p.2.2.2 else persE (ps.drop (k + 1)) := by
  obtain ⟨hk, rfl⟩ := List.getElem?_eq_some_iff.1 h
  rw [List.drop_eq_getElem_cons hk]; rfl
theorem fldE_at (ps : List Pr) (k : Nat) (p : Pr) (h : ps[k]? = some p) : fldE (ps.take k) (ps.drop k) = if fldE1 (ps.take k) p ≠ 0 then fldE1 (ps.take k) p else fldE (ps.take (k + 1)) (ps.drop (k + 1)) := by
  obtain ⟨hk, rfl⟩ := List.getElem?_eq_some_iff.1 h
  rw [List.drop_eq_getElem_cons hk, List.take_succ_eq_append_getElem hk]; rfl
/-- A front part of a list of pairs. -/
theorem Prs.front {w : World} {a : Option Addr} {n c : Nat} {ps : List Pr} (h : Prs w (.slice a n c) ps) (k : Nat) (hk : k ≤ ps.length) (c' : Nat) (hc : k ≤ c') : Prs w (.slice a k c') (ps.take k) := by
  obtain ⟨a', c2, hv, _, h3⟩ := h
  obtain ⟨rfl, _, _⟩ := Value.slice.inj hv
  refine ⟨a, c', by rw [List.length_take, Nat.min_eq_left hk], by rw [List.length_take]; omega, fun q => ?_⟩
  rw [List.length_take] at q
  obtain ⟨g, o, ha, hg, hc⟩ := h3 (by omega)
  refine ⟨g, o, ha, hg, fun j x hx => hc j x ?_⟩
  rw [List.getElem?_take] at hx
  split at hx
  · exact hx
  · cases hx
def SmallP (ps : List P4) : Prop := ∀ p ∈ ps, p.1.length + p.2.1.length + p.2.2.1.length + p.2.2.2.length ≤ 4400000
def SmallF (ps : List Pr) : Prop := ∀ p ∈ ps, p.1.length ≤ 1100000 ∧ p.2.length ≤ 1100000
set_option maxRecDepth 100000 in
set_option maxHeartbeats 6400000 in
theorem cksrc_any (s : SrcT) (vA vE vF : Value) (w : World) (hg : Gnd w) (hA : Perss w vA s.author) (hE : Perss w vE s.editor) (hF : Prs w vF s.fields) (h1 : SmallP s.author) (h2 : SmallP s.editor) (h3 : SmallF s.fields) (hl1 : s.author.length ≤ 1100000) (hl2 : s.editor.length ≤ 1100000) (hl3 : s.fields.length ≤ 1100000) :
    Calls Tryz.prog 36 #[srcV s.key s.type vA vE vF] w fun e w' => e = .returned (.int .i64 (srcE s)) ∧ Kept w w' := by
  obtain ⟨key, type, au, ed, fs⟩ := s
  simp only at hA hE hF h1 h2 h3 hl1 hl2 hl3 ⊢
  have HR : Hid (srcE ⟨key, type, au, ed, fs⟩ = if (32 < au.length ∨ 32 < ed.length) ∨ 24 < fs.length then 3
  else if persE au ≠ 0 then persE au else if persE ed ≠ 0 then persE ed
  else if fldE [] fs ≠ 0 then fldE [] fs else if hasB fs kTitle = true then 0 else 8) := rfl
  obtain ⟨R, HRR⟩ : ∃ R, Hid (srcE ⟨key, type, au, ed, fs⟩ = R) := ⟨_, rfl⟩
  rw [HRR.out] at HR ⊢
  clear HRR
  have HA := Lib.hid hA
  have HE := Lib.hid hE
  have HF := Lib.hid hF
  obtain ⟨a1, c1, rfl, hc1, hh1⟩ := hA
  clear hh1
  obtain ⟨a2, c2, rfl, hc2, hh2⟩ := hE
  clear hh2
  obtain ⟨a3, c3, rfl, hc3, hh3⟩ := hF
  clear hh3
  by_cases hlim : (32 < au.length ∨ 32 < ed.length) ∨ 24 < fs.length
  · rw [if_pos hlim] at HR
    by_cases q1 : 32 < au.length
    · go_enter Tryz.func36, Tryz.ntmps36
      go_wp2_with fail
      go_ret
      exact ⟨by rw [HR.out]; rfl, kept_alloc _ _⟩
    · by_cases q2 : 32 < ed.length
      · go_enter Tryz.func36, Tryz.ntmps36
        go_wp2_with fail
        go_ret
        exact ⟨by rw [HR.out]; rfl, kept_alloc _ _⟩
      · have q3 : 24 < fs.length := by omega
        go_enter Tryz.func36, Tryz.ntmps36
        go_wp2_with fail
        go_ret
        exact ⟨by rw [HR.out]; rfl, kept_alloc _ _⟩
  · rw [if_neg hlim] at HR
    have q1 : au.length ≤ 32 := by omega
    have q2 : ed.length ≤ 32 := by omega
    have q3 : fs.length ≤ 24 := by omega
    have HB3 : Hid (∀ w', Kept (w.alloc (.cells #[.string (bs key), .string (bs type), .slice a1 au.length c1, .slice a2 ed.length c2, .slice a3 fs.length c3] 44)) w' → w'.cell? ⟨w.heap.size, 3, none⟩ = some (.slice a2 ed.length c2)) := fun w' hk => ((Blk.new w 44 #[.string (bs key), .string (bs type), .slice a1 au.length c1, .slice a2 ed.length c2, .slice a3 fs.length c3]).kept hk).cell 3 _ rfl
    have HB4 : Hid (∀ w', Kept (w.alloc (.cells #[.string (bs key), .string (bs type), .slice a1 au.length c1, .slice a2 ed.length c2, .slice a3 fs.length c3] 44)) w' → w'.cell? ⟨w.heap.size, 4, none⟩ = some (.slice a3 fs.length c3)) := fun w' hk => ((Blk.new w 44 #[.string (bs key), .string (bs type), .slice a1 au.length c1, .slice a2 ed.length c2, .slice a3 fs.length c3]).kept hk).cell 4 _ rfl
    have HK0 := Lib.hid (kept_alloc w (.cells #[.string (bs key), .string (bs type), .slice a1 au.length c1, .slice a2 ed.length c2, .slice a3 fs.length c3] 44))
    go_enter Tryz.func36, Tryz.ntmps36
    go_wp2_with fail
    generalize w.alloc (.cells #[.string (bs key), .string (bs type), .slice a1 au.length c1, .slice a2 ed.length c2, .slice a3 fs.length c3] 44) = w0 at *
    go_loopw [33] (fun i wr => ∃ k : Nat, k ≤ au.length ∧ i = .int .i64 k ∧ Hid (persE au = persE (au.drop k)) ∧ Hid (Kept w0 wr)) (fun i _ => au.length - (intOf i).toNat)
    case atStart => exact ⟨0, Nat.zero_le _, rfl, rfl, Kept.refl _⟩
    case round =>
      obtain ⟨k, hk, rfl, HP, HKR⟩ := hrel
      by_cases hlt : k < au.length
      · obtain ⟨p, hx⟩ : ∃ x, au[k]? = some x := ⟨_, List.getElem?_eq_getElem hlt⟩
        have HSM := Lib.hid (h1 p (List.mem_of_getElem? hx))
        have HAT := Lib.hid (persE_at au k p hx)
        obtain ⟨a', c', hv', hc', h3'⟩ := HA.out.kept (HK0.out.trans HKR.out)
        obtain ⟨rfl, hdead, rfl⟩ := Value.slice.inj hv'
        clear hdead hc'
        obtain ⟨g, o, rfl, hg', hcc⟩ := h3' (by omega)
        obtain ⟨d0, d1, d2, d3⟩ := hcc k p hx
        obtain ⟨pf, pg, pp, ps⟩ := p
        simp only at d0 d1 d2 d3 HSM HAT
        have HT := Lib.hid (fun w hg => text_any pf pg pp ps w hg (by have := HSM.out; omega))
        have HGR := Lib.hid (hg.kept (HK0.out.trans HKR.out))
        clear hcc h3' hv' hx
        generalize textE pf pg pp ps = E at *
        generalize textR pf pg pp ps = X at *
        go_wp2_with fail
        refine (HT.out _ (HGR.out.kept (kept_alloc _ _))).mono ?_
        rintro e w3 ⟨rfl, hk3⟩
        have HK3 := Lib.hid ((HKR.out.trans (kept_alloc _ _)).trans hk3)
        clear hk3 d0 d1 d2 d3 hg'
        by_cases hE : E = 0
        · subst hE
          rw [if_neg (by simp)] at HAT
          go_wp2_with fail
          go_roundw
          case rel => exact ⟨k + 1, by omega, by go_num, Lib.hid (HP.out.trans HAT.out), HK3⟩
          case measure => simp [intOf]; omega
        · rw [if_pos hE] at HAT
          rw [HP.out, HAT.out, if_pos hE] at HR
          go_wp2_with fail
          go_ret
          exact ⟨by rw [HR.out]; rfl, HK0.out.trans HK3.out⟩
      · obtain rfl : k = au.length := by omega
        rw [List.drop_length] at HP
        have hz : persE au = 0 := HP.out
        rw [if_neg (by rw [hz]; simp)] at HR
        have e3 := HB3.out _ HKR.out
        have e4 := HB4.out _ HKR.out
        clear HP hz
        go_wp2_with fail
        clear e3 e4
        generalize wr = w5 at *
        go_loopw [49] (fun i wr => ∃ k : Nat, k ≤ ed.length ∧ i = .int .i64 k ∧ Hid (persE ed = persE (ed.drop k)) ∧ Hid (Kept w0 wr)) (fun i _ => ed.length - (intOf i).toNat)
        case atStart => exact ⟨0, Nat.zero_le _, rfl, rfl, HKR.out⟩
        case round =>
          obtain ⟨k, hk, rfl, HP, HKR⟩ := hrel
          by_cases hlt : k < ed.length
          · obtain ⟨p, hx⟩ : ∃ x, ed[k]? = some x := ⟨_, List.getElem?_eq_getElem hlt⟩
            have HSM := Lib.hid (h2 p (List.mem_of_getElem? hx))
            have HAT := Lib.hid (persE_at ed k p hx)
            obtain ⟨a', c', hv', hc', h3'⟩ := HE.out.kept (HK0.out.trans HKR.out)
            obtain ⟨rfl, hdead, rfl⟩ := Value.slice.inj hv'
            clear hdead hc'
            obtain ⟨g, o, rfl, hg', hcc⟩ := h3' (by omega)
            obtain ⟨d0, d1, d2, d3⟩ := hcc k p hx
            obtain ⟨pf, pg, pp, ps⟩ := p
            simp only at d0 d1 d2 d3 HSM HAT
            have HT := Lib.hid (fun w hg => text_any pf pg pp ps w hg (by have := HSM.out; omega))
            have HGR := Lib.hid (hg.kept (HK0.out.trans HKR.out))
            clear hcc h3' hv' hx
            generalize textE pf pg pp ps = E at *
            generalize textR pf pg pp ps = X at *
            go_wp2_with fail
            refine (HT.out _ (HGR.out.kept (kept_alloc _ _))).mono ?_
            rintro e w3 ⟨rfl, hk3⟩
            have HK3 := Lib.hid ((HKR.out.trans (kept_alloc _ _)).trans hk3)
            clear hk3 d0 d1 d2 d3 hg'
            by_cases hE : E = 0
            · subst hE
              rw [if_neg (by simp)] at HAT
              go_wp2_with fail
              go_roundw
              case rel => exact ⟨k + 1, by omega, by go_num, Lib.hid (HP.out.trans HAT.out), HK3⟩
              case measure => simp [intOf]; omega
            · rw [if_pos hE] at HAT
              rw [HP.out, HAT.out, if_pos hE] at HR
              go_wp2_with fail
              go_ret
              exact ⟨by rw [HR.out]; rfl, HK0.out.trans HK3.out⟩
          · obtain rfl : k = ed.length := by omega
            rw [List.drop_length] at HP
            have hz : persE ed = 0 := HP.out
            rw [if_neg (by rw [hz]; simp)] at HR
            have e4 := HB4.out _ HKR.out
            clear HP hz
            go_wp2_with fail
            clear e4
            generalize wr = w6 at *
            go_loopw [65] (fun i wr => ∃ k : Nat, k ≤ fs.length ∧ i = .int .i64 k ∧ Hid (fldE [] fs = fldE (fs.take k) (fs.drop k)) ∧ Hid (Kept w0 wr)) (fun i _ => fs.length - (intOf i).toNat)
            case atStart => exact ⟨0, Nat.zero_le _, rfl, rfl, HKR.out⟩
            case round =>
              clear HKR
              obtain ⟨k, hk, rfl, HP, HKR⟩ := hrel
              by_cases hlt : k < fs.length
              · obtain ⟨p, hx⟩ : ∃ x, fs[k]? = some x := ⟨_, List.getElem?_eq_getElem hlt⟩
                obtain ⟨hsm1, hsm2⟩ := h3 p (List.mem_of_getElem? hx)
                have HAT := Lib.hid (fldE_at fs k p hx)
                have HPR := Lib.hid (HF.out.kept (HK0.out.trans HKR.out))
                obtain ⟨a', c', hv', hc', h3'⟩ := HPR.out
                obtain ⟨rfl, hdead, rfl⟩ := Value.slice.inj hv'
                clear hdead hc'
                obtain ⟨g, o, rfl, hg', hcc⟩ := h3' (by omega)
                obtain ⟨d0, d1⟩ := hcc k p hx
                obtain ⟨x, y⟩ := p
                simp only at d0 d1 hsm1 hsm2 HAT
                have HERR : Hid (∀ c : Int, c ≠ 0 → fldE1 (fs.take k) (x, y) = c → R = c) := by
                  intro c hc he
                  have hz : fldE [] fs = c := by rw [HP.out, HAT.out, he, if_pos hc]
                  rw [HR.out, hz, if_pos hc]
                have HNX : Hid (fldE1 (fs.take k) (x, y) = 0 → fldE [] fs = fldE (fs.take (k + 1)) (fs.drop (k + 1))) := by
                  intro he
                  rw [HP.out, HAT.out, he, if_neg (by simp)]
                have HHF : Hid (∀ w', Kept wr w' → Calls Tryz.prog 49 #[.slice (some ⟨g, o, none⟩) k c3, .string (bs x)] w' fun e w'' => e = .returned (.bool (hasB (fs.take k) x)) ∧ Kept w' w'') := fun w' hk' => hasField_any _ _ _ _ ((HPR.out.kept hk').front k hk c3 (by omega)) (by rw [List.length_take]; omega)
                have HN := Lib.hid (fun w => isName_any x w hsm1)
                have HV := Lib.hid (fun w => valid_any (bs y) w (by simp; omega))
                have HC : Hid (∀ w, Calls Tryz.prog 61 #[.string (bs y), .string (bs [10])] w fun e w' => e = .returned (.bool (y.contains 10)) ∧ w' = w) := by
                  intro w
                  refine (Tryz.strings_Contains_one (bs y) 10 w).mono ?_
                  rintro e w' ⟨rfl, rfl⟩
                  refine ⟨?_, rfl⟩
                  rw [bs_data, ← indexByte_contains]
                have HT := Lib.hid (fun w => trim_any y w hsm2)
                have HBX : Hid (∀ w', Kept (wr.alloc (.cells #[.string (bs x), .string (bs y)] 47)) w' → w'.cell? ⟨wr.heap.size, 0, none⟩ = some (.string (bs x))) := fun w' hk => ((Blk.new wr 47 #[.string (bs x), .string (bs y)]).kept hk).cell 0 _ rfl
                have HBY : Hid (∀ w', Kept (wr.alloc (.cells #[.string (bs x), .string (bs y)] 47)) w' → w'.cell? ⟨wr.heap.size, 1, none⟩ = some (.string (bs y))) := fun w' hk => ((Blk.new wr 47 #[.string (bs x), .string (bs y)]).kept hk).cell 1 _ rfl
                clear hcc h3' hv' hx HAT HP
                have HE1 : Hid (fldE1 (fs.take k) (x, y) = if (nameB x = false ∨ x = [97, 117, 116, 104, 111, 114]) ∨ x = [101, 100, 105, 116, 111, 114] then 6 else if ((y = [] ∨ validB (bs y) = false) ∨ y.contains 10 = true) ∨ trimL y ≠ y then 17 else if hasB (fs.take k) x = true then 7 else 0) := rfl
                generalize fldE1 (fs.take k) (x, y) = E at *
                generalize hasB (fs.take k) x = hb at *
                generalize validB (bs y) = vb at *
                generalize trimL y = ty at *
                generalize y.contains 10 = cb at *
                go_wp2_with fail
                refine (HN.out _).mono ?_
                rintro e w7 ⟨rfl, hk7⟩
                have e0 := HBX.out _ hk7
                have e1 := HBY.out _ hk7
                have HK7a := Lib.hid hk7
                have HK7 := Lib.hid ((kept_alloc wr _).trans hk7)
                have HK8 := Lib.hid (HKR.out.trans HK7.out)
                have e4 := HB4.out _ HK8.out
                clear hk7 d0 d1 hg'
                generalize nameB x = nb at *
                cases nb
                · rw [if_pos (.inl (.inl rfl))] at HE1
                  have HRR := Lib.hid (HERR.out 6 (by decide) HE1.out)
                  go_wp2_with fail
                  go_ret
                  exact ⟨by rw [HRR.out]; rfl, HK0.out.trans HK8.out⟩
                by_cases hxa : x = [97, 117, 116, 104, 111, 114]
                · rw [if_pos (.inl (.inr hxa))] at HE1
                  have HRR := Lib.hid (HERR.out 6 (by decide) HE1.out)
                  subst hxa
                  go_wp2_with fail
                  go_ret
                  exact ⟨by rw [HRR.out]; rfl, HK0.out.trans HK8.out⟩
                by_cases hxe : x = [101, 100, 105, 116, 111, 114]
                · rw [if_pos (.inr hxe)] at HE1
                  have HRR := Lib.hid (HERR.out 6 (by decide) HE1.out)
                  subst hxe
                  go_wp2_with fail
                  go_ret
                  exact ⟨by rw [HRR.out]; rfl, HK0.out.trans HK8.out⟩
                rw [if_neg (by simp [hxa, hxe])] at HE1
                have hxa' : (x == [97, 117, 116, 104, 111, 114]) = false := by simpa using hxa
                have hxe' : (x == [101, 100, 105, 116, 111, 114]) = false := by simpa using hxe
                by_cases hy : y = []
                · rw [if_pos (.inl (.inl (.inl hy)))] at HE1
                  have HRR := Lib.hid (HERR.out 17 (by decide) HE1.out)
                  subst hy
                  go_wp2_with fail
                  go_ret
                  exact ⟨by rw [HRR.out]; rfl, HK0.out.trans HK8.out⟩
                have hy' : (y == []) = false := by simpa using hy
                go_wp2_with fail
                refine (HV.out _).mono ?_
                rintro e w8 ⟨rfl, n8, rfl⟩
                have HK9 := Lib.hid (HK8.out.trans (kept_drewN w7 n8))
                have HK10 := Lib.hid (HK7.out.trans (kept_drewN w7 n8))
                have f0 := HBX.out _ (HK7a.out.trans (kept_drewN w7 n8))
                have f4 := HB4.out _ HK9.out
                clear e0 e1 e4
                generalize w7.drewN n8 = w8 at *
                cases vb
                · rw [if_pos (.inl (.inl (.inr rfl)))] at HE1
                  have HRR := Lib.hid (HERR.out 17 (by decide) HE1.out)
                  go_wp2_with fail
                  go_ret
                  exact ⟨by rw [HRR.out]; rfl, HK0.out.trans HK9.out⟩
                go_wp2_with fail
                refine (HC.out _).mono ?_
                rintro e w9 ⟨rfl, rfl⟩
                cases cb
                case true =>
                  rw [if_pos (.inl (.inr rfl))] at HE1
                  have HRR := Lib.hid (HERR.out 17 (by decide) HE1.out)
                  go_wp2_with fail
                  go_ret
                  exact ⟨by rw [HRR.out]; rfl, HK0.out.trans HK9.out⟩
                go_wp2_with fail
                refine (HT.out _).mono ?_
                rintro e w10 ⟨rfl, rfl⟩
                by_cases hty : ty = y
                case neg =>
                  rw [if_pos (.inr hty)] at HE1
                  have HRR := Lib.hid (HERR.out 17 (by decide) HE1.out)
                  have hty' : (ty == y) = false := by simpa using hty
                  go_wp2_with fail
                  go_ret
                  exact ⟨by rw [HRR.out]; rfl, HK0.out.trans HK9.out⟩
                subst hty
                rw [if_neg (by simp [hy])] at HE1
                go_wp2_with fail
                have hkc : k ≤ c3 := by omega
                go_region_with (go_at_call 49; refine (HHF.out _ (HK10.out.trans (kept_drewN _ 1))).mono ?_; rintro e w11 ⟨rfl, hk11⟩; have HK11 := Lib.hid ((HK9.out.trans (kept_drewN _ 1)).trans hk11); clear hk11)
                all_goals
                  cases hb
                  · rw [if_neg (by simp)] at HE1
                    have HN2 := Lib.hid (HNX.out HE1.out)
                    go_wp2_with fail
                    go_roundw
                    case rel => exact ⟨k + 1, by omega, by go_num, HN2, HK11⟩
                    case measure => simp [intOf]; omega
                  · rw [if_pos rfl] at HE1
                    have HRR := Lib.hid (HERR.out 7 (by decide) HE1.out)
                    go_wp2_with fail
                    go_ret
                    exact ⟨by rw [HRR.out]; rfl, HK0.out.trans HK11.out⟩
              · obtain rfl : k = fs.length := by omega
                rw [List.drop_length] at HP
                have hz : fldE [] fs = 0 := HP.out
                rw [if_neg (by rw [hz]; simp)] at HR
                have e4 := HB4.out _ HKR.out
                have HHF := Lib.hid (hasField_any _ fs kTitle wr (HF.out.kept (HK0.out.trans HKR.out)) hl3)
                unfold kTitle at HHF HR
                clear HP hz
                generalize hasB fs [116, 105, 116, 108, 101] = hb at *
                go_wp2_with fail
                refine (HHF.out).mono ?_
                rintro e w11 ⟨rfl, hk11⟩
                have HK11 := Lib.hid (HKR.out.trans hk11)
                clear hk11
                cases hb
                · rw [if_neg (by simp)] at HR
                  go_wp2_with fail
                  go_ret
                  exact ⟨by rw [HR.out]; rfl, HK0.out.trans HK11.out⟩
                · rw [if_pos rfl] at HR
                  go_wp2_with fail
                  go_ret
                  exact ⟨by rw [HR.out]; rfl, HK0.out.trans HK11.out⟩
end Go.Proofs.YtgkgcheegaegnaaGreatDoor
