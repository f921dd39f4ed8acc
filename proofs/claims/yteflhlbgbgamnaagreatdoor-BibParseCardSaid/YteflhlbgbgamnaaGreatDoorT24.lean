/- lines.Split once more, with the place of the slice. (Lines' lsplit_any says less and may be dropped.) -/
import Derived.Test.YteflhlbgbgamnaaGreatDoorT04
import Derived.Test.YteflhlbgbgamnaaGreatDoorT23

set_option linter.all false
namespace Go.Proofs.YteflhlbgbgamnaaGreatDoor
open Go.RowKit

def BaseB (B : Nat) (v : Value) (xs : List Bs) : Prop := 0 < xs.length → ∃ g, v.ownBlock = some g ∧ B ≤ g
theorem BaseB.own {w : World} {base : Nat} {e : TypeId} {v : Value} {xs : List Bs} (h : w.ownsRow base e 1 v xs.length (strCells xs)) : BaseB base v xs := by
  obtain ⟨a, c, hv, _, _, h3⟩ := own_cap h
  intro q
  obtain ⟨g, ha, hb, _⟩ := h3 q
  exact ⟨g, by rw [hv, ha]; rfl, hb⟩
def SliQ (xs : List Bs) (w : World) (e : Ending) (w' : World) : Prop := ∃ v, e = .returned v ∧ Strs w' v xs ∧ BaseB w.heap.size v xs ∧ Kept w w'
set_option maxRecDepth 100000 in
set_option maxHeartbeats 3200000 in
theorem lsplit_own (t : Bs) (w : World) (ht : t.length ≤ 1100000) : Calls Tryz.prog 41 #[.string (bs t)] w (SliQ (linesL t) w) := by
  obtain ⟨i0', hi', hz0, hz1, hz2⟩ := info_parts Tryz.infoStr
  go_enter Tryz.func41, Tryz.ntmps41
  go_wp2_with fail
  go_loopw [3, 4, 8] (fun v fv i wr => ∃ (k fr : Nat) (xs : List Bs), k ≤ t.length ∧ i = .int .i64 k ∧ fv = .int .i64 fr ∧ fr ≤ k ∧ xs.length ≤ k ∧ wr.ownsRow w.heap.size 9 1 v xs.length (strCells xs) ∧ Hid (LineSt t k fr xs) ∧ Kept w wr) (fun _ _ i _ => t.length - (intOf i).toNat)
  case atStart => exact ⟨0, 0, [], Nat.zero_le _, rfl, rfl, Nat.zero_le _, Nat.le_refl _, World.ownsRow_nil _ _ _ _, LineSt.start t, Kept.refl _⟩
  case round =>
    obtain ⟨k, fr, xs, hk, rfl, rfl, hfr, hxl, hown, HS, hkr⟩ := hrel
    have hsz : w.heap.size ≤ wr.heap.size := hkr.size
    have HKR := Lib.hid hkr
    have HOWN := Lib.hid hown
    clear hkr hown
    by_cases hlt : k < t.length
    · have i0 := run_ix (P := Tryz.prog) (t := 9) Tryz.underlying9 t k hlt k rfl
      have HC : Hid (at8 t k = 10 ↔ t[k] = 10) := by show _ ↔ _; rw [at8_get t k hlt]; exact u8_int _ 10 (by decide)
      by_cases hb : at8 t k = 10
      · obtain ⟨hst, hfk⟩ := HS.out.feed hlt (HC.out.1 hb)
        have sl := run_sub (P := Tryz.prog) (t := 9) Tryz.underlying9 t fr k hfk (by omega) fr k rfl rfl _ rfl
        have HST := Lib.hid hst
        have hown := HOWN.out
        have hb' : (at8 t k == 10) = true := by simpa using hb
        generalize (t.drop fr).take (k - fr) = y at *
        generalize at8 t k = b at *
        clear hst HC hb
        go_wp2_with (at_builtin; refine wpList_append_own _ rfl _ _ 29 rfl w.heap.size 9 i0' (.string ⟨#[]⟩) 1 16 Tryz.underlying29 hi' hz0 hz1 hz2 rfl (by decide) _ _ _ rfl (hown.alloc _) ⟨wr.heap.size, 0, none⟩ 1 1 [.string (bs y)] rfl rfl ?_ ?_ ?_ ?_ ?_ ?_)
        · exact new_cells _ #[.string (bs y)] _ _ (by simp)
        · intro u hu; simp at hu; subst hu; rfl
        · unfold maxLen; omega
        · omega
        · simp; omega
        intro v' w2 hown2 hgrow _
        have HB2 := Lib.hid ((HKR.out.trans (kept_alloc wr _)).trans' (grown_below (hown.alloc _) hgrow (by simp; omega)))
        rw [← strCells_snoc] at hown2
        have HO := Lib.hid hown2
        clear hown2 hgrow hown
        go_wp2_with fail
        go_roundw
        case rel => exact ⟨k + 1, k + 1, xs ++ [y], by omega, by go_num, by go_num, by omega, by simp; omega, by simpa using HO.out, HST.out, HB2.out⟩
        case measure => simp [intOf]; omega
      · obtain ⟨hst, hfk⟩ := HS.out.other hlt (fun q => hb (HC.out.2 q))
        have HST := Lib.hid hst
        have hb' : (at8 t k == 10) = false := by simpa using hb
        generalize at8 t k = b at *
        clear hst HC hb
        go_wp2_with fail
        go_roundw
        case rel => exact ⟨k + 1, fr, xs, by omega, by go_num, rfl, by omega, by omega, HOWN.out, HST.out, HKR.out⟩
        case measure => simp [intOf]; omega
    · obtain rfl : k = t.length := by omega
      obtain ⟨hfl, hfin⟩ := HS.out.done
      have HFIN := Lib.hid hfin
      clear hfin
      by_cases hq : fr < t.length
      · rw [if_pos hq] at HFIN
        have sl := run_from (P := Tryz.prog) (t := 9) Tryz.underlying9 t fr hfl fr rfl _ rfl
        have hown := HOWN.out
        generalize t.drop fr = y at *
        go_wp2_with (at_builtin; refine wpList_append_own _ rfl _ _ 29 rfl w.heap.size 9 i0' (.string ⟨#[]⟩) 1 16 Tryz.underlying29 hi' hz0 hz1 hz2 rfl (by decide) _ _ _ rfl (hown.alloc _) ⟨wr.heap.size, 0, none⟩ 1 1 [.string (bs y)] rfl rfl ?_ ?_ ?_ ?_ ?_ ?_)
        · exact new_cells _ #[.string (bs y)] _ _ (by simp)
        · intro u hu; simp at hu; subst hu; rfl
        · unfold maxLen; omega
        · omega
        · simp; omega
        intro v' w2 hown2 hgrow _
        have HB2 := Lib.hid ((HKR.out.trans (kept_alloc wr _)).trans' (grown_below (hown.alloc _) hgrow (by simp; omega)))
        rw [← strCells_snoc] at hown2
        have hown3 : w2.ownsRow w.heap.size 9 1 v' (xs ++ [y]).length (strCells (xs ++ [y])) := by simpa using hown2
        have HO : Hid (Strs w2 v' (xs ++ [y]) ∧ BaseB w.heap.size v' (xs ++ [y])) := ⟨Strs.own hown3, BaseB.own hown3⟩
        clear hown3
        clear hown2 hgrow hown
        go_wp2_with fail
        go_ret
        exact ⟨_, rfl, by rw [HFIN.out]; exact HO.out.1, by rw [HFIN.out]; exact HO.out.2, HB2.out⟩
      · rw [if_neg hq, List.append_nil] at HFIN
        have HO := Lib.hid (And.intro (Strs.own HOWN.out) (BaseB.own HOWN.out))
        go_wp2_with fail
        go_ret
        exact ⟨_, rfl, by rw [HFIN.out]; exact HO.out.1, by rw [HFIN.out]; exact HO.out.2, HKR.out⟩

end Go.Proofs.YteflhlbgbgamnaaGreatDoor

/- bib.Parse. Conditions: lengths. -/
set_option linter.all false
namespace Go.Proofs.YteflhlbgbgamnaaGreatDoor
open Go.RowKit

/-- The lines from a place on: the first error with its line, and what the reader holds. -/
def runB : List Bs → Nat → ASt → Option (Nat × Int) × ASt
  | [], _, st => (none, st)
  | l :: ls, i, st => if trimL l = [] then runB ls (i + 1) st else if (lineS st (trimL l)).1 ≠ 0 then (some (i + 1, (lineS st (trimL l)).1), st) else runB ls (i + 1) (lineS st (trimL l)).2
def st0 : ASt := ⟨[], [], zeroS, false⟩
/-- The bibliography of a text: sources, line, error. -/
def bibR (s : Bs) : List SrcT × Int × Int :=
  if 262144 < s.length then ([], 0, 3) else if validB (bs s) = false then ([], 0, 17)
  else match runB (linesL s) 0 st0 with
    | (some (i, e), _) => ([], i, e)
    | (none, st) => if st.ins = true then ([], (linesL s).length + 1, 4) else (st.done, 0, 0)
/-- The slice value v reads in w as the sources ss. -/
def Srcs (w : World) (v : Value) (ss : List SrcT) : Prop :=
  ∃ a c, v = .slice a ss.length c ∧ ss.length ≤ c ∧ (0 < ss.length → ∃ g o, a = some ⟨g, o, none⟩ ∧ g < w.heap.size ∧ ∀ j s, ss[j]? = some s → ∃ vA vE vF,
    w.cell? ⟨g, o + j * 5, none⟩ = some (.string (bs s.key)) ∧ w.cell? ⟨g, o + j * 5 + 1, none⟩ = some (.string (bs s.type)) ∧ w.cell? ⟨g, o + j * 5 + 2, none⟩ = some vA ∧ w.cell? ⟨g, o + j * 5 + 3, none⟩ = some vE ∧ w.cell? ⟨g, o + j * 5 + 4, none⟩ = some vF ∧
    Perss w vA s.author ∧ Perss w vE s.editor ∧ Prs w vF s.fields)
theorem Srcs.none_ (w : World) : Srcs w (.slice none 0 0) [] := ⟨none, 0, rfl, Nat.le_refl _, fun q => absurd q (by simp)⟩
theorem doneC_at (ds : List DoneT) (j : Nat) (d : DoneT) (h : ds[j]? = some d) : (doneC ds)[j * 5]? = some (.string (bs d.s.key)) ∧ (doneC ds)[j * 5 + 1]? = some (.string (bs d.s.type)) ∧ (doneC ds)[j * 5 + 2]? = some d.a ∧ (doneC ds)[j * 5 + 3]? = some d.e ∧ (doneC ds)[j * 5 + 4]? = some d.f := by
  induction ds generalizing j with
  | nil => cases h
  | cons p ds ih =>
    have e : doneC (p :: ds) = srcC p.s p.a p.e p.f ++ doneC ds := by simp [doneC]
    have el : (srcC p.s p.a p.e p.f).length = 5 := rfl
    rw [e]
    cases j with
    | zero => cases h; exact ⟨rfl, rfl, rfl, rfl, rfl⟩
    | succ j =>
      have := ih j (by simpa using h)
      rw [List.getElem?_append_right (by rw [el]; omega), List.getElem?_append_right (by rw [el]; omega), List.getElem?_append_right (by rw [el]; omega), List.getElem?_append_right (by rw [el]; omega), List.getElem?_append_right (by rw [el]; omega), el]
      rw [show (j + 1) * 5 - 5 = j * 5 from by omega, show (j + 1) * 5 + 1 - 5 = j * 5 + 1 from by omega, show (j + 1) * 5 + 2 - 5 = j * 5 + 2 from by omega, show (j + 1) * 5 + 3 - 5 = j * 5 + 3 from by omega, show (j + 1) * 5 + 4 - 5 = j * 5 + 4 from by omega]
      exact this
theorem Srcs.own {w : World} {B T r m : Nat} {vD : Value} {ds : List DoneT} (h : w.ownsRow B 40 5 vD ds.length (doneC ds)) (hR : ∀ d ∈ ds, RetOK w B T r m vD d) : Srcs w vD (ds.map (·.s)) := by
  obtain ⟨a, c, hv, hc, _, h3⟩ := own_cap h
  refine ⟨a, c, by simpa using hv, by simpa using hc, fun q => ?_⟩
  obtain ⟨g, ha, _, hg, hcell⟩ := h3 (by simpa using q)
  refine ⟨g, 0, ha, hg, fun j s hs => ?_⟩
  rw [List.getElem?_map, Option.map_eq_some_iff] at hs
  obtain ⟨d, hd, rfl⟩ := hs
  obtain ⟨c0, c1, c2, c3, c4⟩ := doneC_at ds j d hd
  have hr := hR d (List.mem_of_getElem? hd)
  simp only [Nat.zero_add]
  exact ⟨d.a, d.e, d.f, hcell _ _ c0, hcell _ _ c1, hcell _ _ c2, hcell _ _ c3, hcell _ _ c4, Perss.own hr.a, Perss.own hr.e, Prs.own hr.f⟩
theorem lines_mem (s x : Bs) (h : x ∈ linesL s) : x.length ≤ s.length := by
  refine split_mem_le 10 s x ?_
  unfold linesL at h
  unfold splitC
  rcases List.mem_append.1 h with h | h
  · exact List.mem_append.2 (.inl h)
  · split at h
    · cases h
    · exact List.mem_append.2 (.inr h)
theorem lines_count (s : Bs) : (linesL s).length ≤ s.length + 1 := by
  have h := splitC_length 10 s
  have h2 := List.count_le_length (l := s) (a := (10 : UInt8))
  unfold splitC at h
  rw [List.length_append] at h
  unfold linesL
  rw [List.length_append]
  simp only [List.length_cons, List.length_nil] at h
  split <;> simp <;> omega
def BibPost (s : Bs) (w : World) (e : Ending) (w' : World) : Prop := ∃ v, e = .returned (.tuple #[v, .int .i64 (bibR s).2.1, .int .i64 (bibR s).2.2]) ∧ Srcs w' v (bibR s).1 ∧ Kept w w'
theorem lineS_small (st : ASt) (l : Bs) (h : Small4 st.src) : Small4 (lineS st l).2.src := by
  unfold lineS
  have z : Small4 zeroS := ⟨by simp [zeroS], by simp [zeroS], by simp [zeroS]⟩
  split
  · split
    · exact h
    · exact ⟨by simp, by simp, by simp⟩
  split
  · exact addS_small _ _ h
  split
  · exact h
  · exact z
theorem lineS_count (st : ASt) (l : Bs) : (lineS st l).2.done.length ≤ st.done.length + 1 := by
  unfold lineS
  split
  · split <;> simp
  split
  · simp
  split <;> simp
theorem runB_at (ls : List Bs) (k : Nat) (x : Bs) (h : ls[k]? = some x) (st : ASt) : runB (ls.drop k) k st = if trimL x = [] then runB (ls.drop (k + 1)) (k + 1) st else if (lineS st (trimL x)).1 ≠ 0 then (some (k + 1, (lineS st (trimL x)).1), st) else runB (ls.drop (k + 1)) (k + 1) (lineS st (trimL x)).2 := by
  obtain ⟨hk, rfl⟩ := List.getElem?_eq_some_iff.1 h
  rw [List.drop_eq_getElem_cons hk]; rfl

theorem new_reader (w1 w2 : World) (hk : Kept ((w1.alloc (.map #[] 0)).alloc (.cells (rdC nilV w1.heap.size zeroS nilV nilV nilV false) 71)) w2) : RInv w2.heap.size (w1.heap.size + 1) w1.heap.size ⟨[], [], zeroS, false⟩ w2 := by
  have hsz := hk.size
  simp only [show ((w1.alloc (.map #[] 0)).alloc (.cells (rdC nilV w1.heap.size zeroS nilV nilV nilV false) 71)).heap.size = w1.heap.size + 2 from by simp] at hsz
  have e1 : (w1.alloc (.map #[] 0)).heap.size = w1.heap.size + 1 := by simp
  have hb := Blk.new (w1.alloc (.map #[] 0)) 71 (rdC nilV w1.heap.size zeroS nilV nilV nilV false)
  rw [e1] at hb
  have hm0 : MapK (w1.alloc (.map #[] 0)) w1.heap.size [] := heap_alloc_new w1 _
  have hm := hm0.only (Only.of_kept (S := fun _ => False) (kept_alloc _ (.cells (rdC nilV w1.heap.size zeroS nilV nilV nilV false) 71))) (fun q => q)
  have hm2 := hm.only (Only.of_kept (S := fun _ => False) hk) (fun q => q)
  exact ⟨w2.heap.size, nilV, nilV, nilV, nilV, by omega, by omega, by omega, Nat.le_refl _, by omega, by omega, Nat.le_refl _, hb.kept hk, hm2, World.ownsRow_nil _ _ _ _, (fun g h => by cases h), (fun d h => by cases h), srcRow_nil _ _ _ _, fun _ => ⟨rfl, rfl, rfl, rfl⟩⟩
theorem Strs.only {B : Nat} {S : Nat → Prop} {w w' : World} {v : Value} {xs : List Bs} (h : Strs w v xs) (hB : BaseB B v xs) (k : Only S w w') (hS : ∀ g, B ≤ g → g < w.heap.size → ¬ S g) : Strs w' v xs := by
  obtain ⟨a, c, hv, hc, h3⟩ := h
  refine ⟨a, c, hv, hc, fun q => ?_⟩
  obtain ⟨g, o, ha, hg, hcell⟩ := h3 q
  obtain ⟨g', hg', hB'⟩ := hB q
  rw [hv, ha] at hg'
  cases hg'
  refine ⟨g, o, ha, Nat.lt_of_lt_of_le hg k.size, fun j x hx => ?_⟩
  rw [k.cell g _ hg (hS g hB' hg)]
  exact hcell j x hx
set_option maxRecDepth 100000 in
set_option maxHeartbeats 6400000 in
theorem bparse_any (s : Bs) (w : World) (hg : Gnd w) (hs : s.length ≤ 100000) : Calls Tryz.prog 12 #[.string (bs s)] w (BibPost s w) := by
  have HG := Lib.hid hg
  have HV := Lib.hid (fun w => valid_any (bs s) w (by simp; omega))
  have HSP := Lib.hid (fun w => lsplit_own s w (by omega))
  have hlc := lines_count s
  have HLM := Lib.hid (lines_mem s)
  have HR : Hid (bibR s = if validB (bs s) = false then ([], 0, 17) else match runB (linesL s) 0 st0 with | (some (i, e), _) => ([], (i : Int), e) | (none, st) => if st.ins = true then ([], ((linesL s).length : Int) + 1, 4) else (st.done, 0, 0)) := by
    show _ = _
    unfold bibR; rw [if_neg (by omega)]
  obtain ⟨R, HRR⟩ : ∃ R, Hid (bibR s = R) := ⟨_, rfl⟩
  unfold BibPost
  rw [HRR.out] at HR ⊢
  cases hv : validB (bs s)
  · rw [hv] at HV HR
    rw [if_pos rfl] at HR
    go_enter Tryz.func12, Tryz.ntmps12
    go_wp2_with fail
    refine (HV.out _).mono ?_
    rintro e w1 ⟨rfl, n1, rfl⟩
    have HK1 := Lib.hid (kept_drewN w n1)
    generalize w.drewN n1 = w1 at *
    go_wp2_with fail
    go_ret3
    exact ⟨.slice none 0 0, by rw [HR.out]; rfl, by rw [HR.out]; exact Srcs.none_ _, HK1.out⟩
  · rw [hv] at HV HR
    rw [if_neg (by simp)] at HR
    generalize linesL s = ls at *
    have mk := fun w => run_makeMap (P := Tryz.prog) 69 w
    go_enter Tryz.func12, Tryz.ntmps12
    go_wp2_with fail
    refine (HV.out _).mono ?_
    rintro e w1 ⟨rfl, n1, rfl⟩
    have HK1 := Lib.hid (kept_drewN w n1)
    generalize w.drewN n1 = w1 at *
    go_wp2_with fail
    refine (HSP.out _).mono ?_
    rintro e w2 ⟨vl, rfl, hsl, hbl, hk2⟩
    have HI2 := Lib.hid (new_reader w1 w2 hk2)
    have HSL := Lib.hid hsl
    have HBL : Hid (BaseB (w1.heap.size + 2) vl ls) := by
      show BaseB _ _ _
      have := hbl; simpa using this
    have hsz2 : w1.heap.size + 2 ≤ w2.heap.size := by have := hk2.size; simp at this; omega
    have HK2 := Lib.hid (((HK1.out.trans (kept_alloc w1 _)).trans (kept_alloc _ _)).trans hk2)
    have hw1 : w.heap.size ≤ w1.heap.size := HK1.out.size
    have HG2 := Lib.hid (hg.kept HK2.out)
    obtain ⟨al, cl, rfl, hcl, _⟩ := hsl
    clear hk2 hbl
    go_wp2_with fail
    go_loopw [23, 7, 8, 9] (fun i _ _ _ wr => ∃ (k : Nat) (st : RSt), k ≤ ls.length ∧ i = .int .i64 k ∧ st.done.length ≤ k ∧ Hid (RInv w2.heap.size (w1.heap.size + 1) w1.heap.size st wr) ∧ Hid (Small4 st.src) ∧ Hid (runB ls 0 st0 = runB (ls.drop k) k st.abs) ∧ Hid (Only (fun i => w2.heap.size ≤ i ∨ i = w1.heap.size + 1 ∨ i = w1.heap.size) w2 wr) ∧ Hid (Kept w wr)) (fun i _ _ _ _ => ls.length - (intOf i).toNat)
    case atStart => exact ⟨0, ⟨[], [], zeroS, false⟩, Nat.zero_le _, rfl, Nat.le_refl _, HI2.out, ⟨by simp [zeroS], by simp [zeroS], by simp [zeroS]⟩, rfl, Only.of_kept (Kept.refl _), HK2.out⟩
    case round =>
      obtain ⟨k, st, hk, rfl, hdl, HI, HSM, HRUN, HO, HKR⟩ := hrel
      by_cases hlt : k < ls.length
      · obtain ⟨x, hx⟩ : ∃ x, ls[k]? = some x := ⟨_, List.getElem?_eq_getElem hlt⟩
        have hxl := HLM.out x (List.mem_of_getElem? hx)
        have htl := trimL_le x
        have HAT := Lib.hid (runB_at ls k x hx st.abs)
        have HLS := Lib.hid (lineS_small st.abs (trimL x) HSM.out)
        have HLC := Lib.hid (lineS_count st.abs (trimL x))
        have hst := HSL.out.only HBL.out HO.out (fun g h1 h2 h3 => by omega)
        obtain ⟨a', c', hv', hc', h3⟩ := hst
        obtain ⟨rfl, hdead, rfl⟩ := Value.slice.inj hv'
        clear hdead hc'
        obtain ⟨g, o, rfl, hg', hcc⟩ := h3 (by omega)
        have c0 := hcc k x hx
        have HT := Lib.hid (fun w => trim_any x w (by omega))
        have HBL2 := Lib.hid (bline_any _ _ _ st (trimL x) wr (hg.kept HKR.out) (by omega) HI.out HSM.out (by omega))
        have HB := Lib.hid hsz2
        clear hcc h3 hv' hx
        generalize trimL x = y at *
        go_wp2_with fail
        refine (HT.out _).mono ?_
        rintro e w3 ⟨rfl, rfl⟩
        by_cases hy : y = []
        · rw [if_pos hy] at HAT
          subst hy
          go_wp2_with fail
          go_roundw
          case rel => exact ⟨k + 1, st, by omega, by go_num, by omega, HI, HSM, Lib.hid (HRUN.out.trans HAT.out), HO, HKR⟩
          case measure => simp [intOf]; omega
        · rw [if_neg hy] at HAT
          have hyl : 0 < y.length := List.length_pos_iff.2 hy
          have hy' : (y == []) = false := by simpa using hy
          have hy2 : (List.length y == 0) = false := by simpa using hy
          go_wp2_with fail
          refine (HBL2.out).mono ?_
          rintro e w4 ⟨st', rfl, hab, hI4, hO4⟩
          have HAB := Lib.hid hab
          have HI4 := Lib.hid hI4
          have HO4 := Lib.hid hO4
          have HKR4 : Hid (Kept w w4) := HKR.out.trans' (hO4.below HKR.out.size (fun i h => by omega))
          have hdl' : st'.done.length ≤ k + 1 := by
            have h1 := HLC.out
            have h2 : st'.abs.done.length = st'.done.length := by simp [RSt.abs]
            have h3 : st.abs.done.length = st.done.length := by simp [RSt.abs]
            rw [← hab] at h1; omega
          have HSM4 : Hid (Small4 st'.src) := by
            have h1 := HLS.out
            rw [← hab] at h1; exact h1
          clear hab hI4 hO4 c0 hg'
          obtain ⟨E, HE⟩ : ∃ E, Hid ((lineS st.abs y).1 = E) := ⟨_, rfl⟩
          rw [HE.out] at HAT ⊢
          by_cases hE : E = 0
          · subst hE
            rw [if_neg (by simp), ← HAB.out] at HAT
            go_wp2_with fail
            go_roundw
            case rel => exact ⟨k + 1, st', by omega, by go_num, hdl', HI4, HSM4, Lib.hid (HRUN.out.trans HAT.out), Lib.hid (HO.out.trans HO4.out), HKR4⟩
            case measure => simp [intOf]; omega
          · rw [if_pos hE] at HAT
            rw [HRUN.out, HAT.out] at HR
            go_wp2_with fail
            go_ret3
            exact ⟨_, by rw [HR.out]; go_num, by rw [HR.out]; exact Srcs.none_ _, HKR4.out⟩
      · obtain rfl : k = ls.length := by omega
        rw [HRUN.out, List.drop_length] at HR
        have HI0 := HI
        obtain ⟨T, vD, vA, vE, vF, h1, h2, h3, h4, h5, h6, h7, hb, hm, hD, hD2, hRt, hS, hz⟩ := HI.out
        have HSR := Lib.hid (Srcs.own hD hRt)
        have c7 : wr.cell? ⟨w1.heap.size + 1, 7, none⟩ = some (.bool st.ins) := hb.cell 7 _ rfl
        have cD : wr.cell? ⟨w1.heap.size + 1, 0, none⟩ = some vD := hb.cell 0 _ rfl
        have hins : st.abs.ins = st.ins := rfl
        have hdn : st.abs.done = st.done.map (·.s) := rfl
        simp only [runB, hins, hdn] at HR
        have hbl := hb.lt
        clear h1 h2 h3 h4 h5 h6 h7 hb hm hD hD2 hRt hS hz hins hdn
        generalize st.done.map (·.s) = D at *
        cases hi : st.ins
        · rw [hi] at HR c7
          rw [if_neg (by simp)] at HR
          go_wp2_with fail
          go_ret3
          exact ⟨vD, by rw [HR.out]; rfl, by rw [HR.out]; exact HSR.out, HKR.out⟩
        · rw [hi] at HR c7
          rw [if_pos rfl] at HR
          go_wp2_with fail
          go_ret3
          exact ⟨_, by rw [HR.out]; go_num, by rw [HR.out]; exact Srcs.none_ _, HKR.out⟩
end Go.Proofs.YteflhlbgbgamnaaGreatDoor
