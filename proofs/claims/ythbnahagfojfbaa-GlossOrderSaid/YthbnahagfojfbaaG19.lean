/- Check of collate. Conditions: lengths. -/
import Derived.Test.YthbnahagfojfbaaG18
import Derived.Test.YthbnahagfojfbaaG14
import Derived.Test.YthbnahagfojfbaaG13

set_option linter.all false
namespace Go.Proofs.Ythbnahagfojfbaa
open Go.RowKit

theorem colE_o {c : ColT} {e : Int} {l : List Int} (h3 : ¬ (128 < c.order.length ∨ 128 < c.ranks.length)) (h : ordC [] c.order = (e, l)) (he : e ≠ 0) : colE c = e := by
  unfold colE; rw [if_neg h3, h, if_pos he]
theorem colE_r {c : ColT} {e : Int} {l l' : List Int} (h3 : ¬ (128 < c.order.length ∨ 128 < c.ranks.length)) (h : ordC [] c.order = (0, l)) (h2 : rnkC l c.ranks = (e, l')) (he : e ≠ 0) : colE c = e := by
  unfold colE; rw [if_neg h3, h, if_neg (by simp)]
  simp only [h2]; rw [if_pos he]
theorem colE_i {c : ColT} {l l' : List Int} (h3 : ¬ (128 < c.order.length ∨ 128 < c.ranks.length)) (h : ordC [] c.order = (0, l)) (h2 : rnkC l c.ranks = (0, l')) : colE c = ignC l' c.ignore := by
  unfold colE; rw [if_neg h3, h, if_neg (by simp)]
  simp only [h2]; rw [if_neg (by simp)]
theorem ordC_at (l : List Int) (ss : List Bs) (k : Nat) (s : Bs) (h : ss[k]? = some s) : ordC l (ss.drop k) = if ruleB s = false then (17, l) else match addA l (ptsL s) with
    | none => (7, l)
    | some l' => ordC l' (ss.drop (k + 1)) := by
  obtain ⟨hk, rfl⟩ := List.getElem?_eq_some_iff.1 h
  rw [List.drop_eq_getElem_cons hk]; rfl
theorem rnkC_at (l : List Int) (ss : List Pr) (k : Nat) (p : Pr) (h : ss[k]? = some p) : rnkC l (ss.drop k) = if ruleB p.1 = false ∨ ruleB p.2 = false then (17, l) else if 1 < (ptsL p.1).length ∨ 4 < (ptsL p.2).length then (5, l) else match addA l (ptsL p.1) with
    | none => (7, l)
    | some l' => rnkC l' (ss.drop (k + 1)) := by
  obtain ⟨hk, rfl⟩ := List.getElem?_eq_some_iff.1 h
  rw [List.drop_eq_getElem_cons hk]; rfl
theorem Strs.cell_of {w : World} {a : Option Addr} {n c : Nat} {xs : List Bs} (h : Strs w (.slice a n c) xs) (k : Nat) (x : Bs) (hx : xs[k]? = some x) : ∃ g o, a = some ⟨g, o, none⟩ ∧ g < w.heap.size ∧ w.cell? ⟨g, o + k, none⟩ = some (.string (bs x)) ∧ n = xs.length ∧ xs.length ≤ c := by
  obtain ⟨a', c', hv, hc, h3⟩ := h
  obtain ⟨rfl, rfl, rfl⟩ := Value.slice.inj hv
  obtain ⟨hk, _⟩ := List.getElem?_eq_some_iff.1 hx
  obtain ⟨g, o, ha, hg, hcell⟩ := h3 (by omega)
  exact ⟨g, o, ha, hg, hcell k x hx, rfl, hc⟩
theorem Prs.cell_of {w : World} {a : Option Addr} {n c : Nat} {ps : List Pr} (h : Prs w (.slice a n c) ps) (k : Nat) (p : Pr) (hx : ps[k]? = some p) : ∃ g o, a = some ⟨g, o, none⟩ ∧ g < w.heap.size ∧ w.cell? ⟨g, o + k * 2, none⟩ = some (.string (bs p.1)) ∧ w.cell? ⟨g, o + k * 2 + 1, none⟩ = some (.string (bs p.2)) ∧ n = ps.length ∧ ps.length ≤ c := by
  obtain ⟨a', c', hv, hc, h3⟩ := h
  obtain ⟨rfl, rfl, rfl⟩ := Value.slice.inj hv
  obtain ⟨hk, _⟩ := List.getElem?_eq_some_iff.1 hx
  obtain ⟨g, o, ha, hg, hcell⟩ := h3 (by omega)
  obtain ⟨h0, h1⟩ := hcell k p hx
  exact ⟨g, o, ha, hg, h0, h1, rfl, hc⟩
theorem Strs.form {w : World} {v : Value} {xs : List Bs} (h : Strs w v xs) : ∃ a c, v = .slice a xs.length c ∧ xs.length ≤ c := by
  obtain ⟨a, c, hv, hc, _⟩ := h; exact ⟨a, c, hv, hc⟩
theorem Prs.form {w : World} {v : Value} {ps : List Pr} (h : Prs w v ps) : ∃ a c, v = .slice a ps.length c ∧ ps.length ≤ c := by
  obtain ⟨a, c, hv, hc, _⟩ := h; exact ⟨a, c, hv, hc⟩
theorem Ints.form {w : World} {v : Value} {ps : List Int} (h : Ints w v ps) : ∃ a c, v = .slice a ps.length c ∧ ps.length ≤ c := by
  obtain ⟨a, c, hv, hc, _⟩ := h; exact ⟨a, c, hv, hc⟩
theorem Ints.cell_of {w : World} {a : Option Addr} {n c : Nat} {xs : List Int} (h : Ints w (.slice a n c) xs) (k : Nat) (x : Int) (hx : xs[k]? = some x) : ∃ g o, a = some ⟨g, o, none⟩ ∧ g < w.heap.size ∧ w.cell? ⟨g, o + k, none⟩ = some (.int .i64 x) := by
  obtain ⟨a', c', hv, hc, h3⟩ := h
  obtain ⟨rfl, rfl, rfl⟩ := Value.slice.inj hv
  obtain ⟨hk, _⟩ := List.getElem?_eq_some_iff.1 hx
  obtain ⟨g, o, ha, hg, hcell⟩ := h3 (by omega)
  exact ⟨g, o, ha, hg, hcell k x hx⟩
theorem only_kept {m : Nat} {a b c : World} (h : Kept a b) (k : Only (fun i => i = m) b c) (hm : a.heap.size ≤ m) : Kept a c := h.trans' (k.below h.size (fun i e => e ▸ hm))

theorem chk_start (w : World) (vR vO vI : Value) : (Blk (((w.alloc (.cells #[vR, vO, vI] 26)).alloc (.map #[] 0)).alloc (.cells #[.map (some (w.heap.size + 1))] 96)) w.heap.size 26 #[vR, vO, vI] ∧ Blk (((w.alloc (.cells #[vR, vO, vI] 26)).alloc (.map #[] 0)).alloc (.cells #[.map (some (w.heap.size + 1))] 96)) (w.heap.size + 1 + 1) 96 #[.map (some (w.heap.size + 1))] ∧ MapV (((w.alloc (.cells #[vR, vO, vI] 26)).alloc (.map #[] 0)).alloc (.cells #[.map (some (w.heap.size + 1))] 96)) (w.heap.size + 1) (oneV [])) ∧ Kept w (((w.alloc (.cells #[vR, vO, vI] 26)).alloc (.map #[] 0)).alloc (.cells #[.map (some (w.heap.size + 1))] 96)) := by
  refine ⟨⟨((Blk.new w _ _).alloc _).alloc _, ?_, ?_⟩, ((kept_alloc _ _).trans (kept_alloc _ _)).trans (kept_alloc _ _)⟩
  · have h := Blk.new ((w.alloc (.cells #[vR, vO, vI] 26)).alloc (.map #[] 0)) 96 #[.map (some (w.heap.size + 1))]
    simpa using h
  · have h := MapV.made (w.alloc (.cells #[vR, vO, vI] 26))
    have h2 : MapV ((w.alloc (.cells #[vR, vO, vI] 26)).alloc (.map #[] 0)) (w.heap.size + 1) [] := by simpa using h
    exact h2.kept (kept_alloc _ _)
end Go.Proofs.Ythbnahagfojfbaa

/- gloss.Terms, where no definition is wrong. Conditions: lengths. -/
set_option linter.all false
namespace Go.Proofs.Ythbnahagfojfbaa
open Go.RowKit

theorem Try.infoEn : (Try.prog.info? 55).map (fun i => (i.zero, i.size, i.bytes)) = some (some (.agg #[.int .i64 0, .string ⟨#[]⟩, .string ⟨#[]⟩, .slice none 0 0, .slice none 0 0]), 5, 88) := by kernel_rfl
/-- An entry that has a name and an identifier. -/
def EntW (_ : Nat → Prop) (_ : World) (cs : List Value) (x : Bs × Bs) : Prop := cs = [.int .i64 1, .string (bs x.2), .string (bs x.1), .slice none 0 0, .slice none 0 0]
theorem entK' : ReadK EntW := ⟨fun h _ _ => h, fun h u hu => by rw [h] at hu; simp at hu; rcases hu with rfl | rfl | rfl | rfl | rfl <;> rfl⟩
def entD (d : Blo) : Bs × Bs := (defName d, d.id)
/-- Definitions without errors. -/
def goodD (ds : List Blo) : Prop := (∀ d ∈ ds, getP d.prs kName = some (defName d) ∧ defName d ≠ [] ∧ d.id ≠ []) ∧ (ds.map defName).Nodup
theorem good_at {ds : List Blo} (h : goodD ds) (k : Nat) (x : Blo) (hx : ds[k]? = some x) : getP x.prs kName = some (defName x) ∧ defName x ≠ [] ∧ x.id ≠ [] ∧ defName x ∉ (ds.take k).map defName := by
  obtain ⟨a, b, c⟩ := h.1 x (List.mem_of_getElem? hx)
  refine ⟨a, b, c, fun q => ?_⟩
  obtain ⟨y, hy, e⟩ := List.mem_map.1 q
  obtain ⟨j, hj, rfl⟩ := List.getElem_of_mem hy
  rw [List.length_take] at hj
  obtain ⟨hk, rfl⟩ := List.getElem?_eq_some_iff.1 hx
  have hn := List.pairwise_iff_getElem.1 h.2 j k (by simp; omega) (by simpa using hk) (by omega)
  rw [List.getElem_map, List.getElem_map] at hn
  rw [List.getElem_take] at e
  exact hn e
/-- A document as a value. -/
abbrev docV (vM vB : Value) : Value := .agg #[vM, vB]
def TerP (es : List (Bs × Bs)) (w : World) (e : Ending) (w' : World) : Prop := ∃ v, e = .returned (.tuple #[v, .int .i64 0]) ∧ RowR (fun g => g < w'.heap.size) 5 (EntW (fun _ => True) w') w' v es ∧ Kept w w'
set_option maxRecDepth 100000 in
set_option maxHeartbeats 12800000 in
theorem terms_any (N M : Nat) (aM : Option Addr) (nM cM : Nat) (v : Value) (xs : List Blo) (w : World) (hv : Bls (fun g => g < w.heap.size) N (M + 1) w v xs) (hl : xs.length ≤ 1000000) (hok : okBL xs) (hn : (defsL false xs).length ≤ 1000000) (hnp : ∀ d ∈ defsL false xs, d.prs.length ≤ 1000000) (hg : goodD (defsL false xs)) :
    Calls Try.prog 15 #[docV (.slice aM nM cM) v] w (TerP ((defsL false xs).map entD) w) := by
  have HG := Lib.hid (good_at hg)
  have HNP := Lib.hid hnp
  obtain ⟨a, c, rfl, hc⟩ := hv.form
  obtain ⟨i0, hi, hz0, hz1, hz2⟩ := info_parts Try.infoEn
  obtain ⟨B, HB⟩ : ∃ B, Hid (w.heap.size = B) := ⟨_, rfl⟩
  rw [HB.out] at hv
  have HK0 := Lib.hid ((kept_alloc w (.cells #[.slice aM nM cM, .slice a xs.length c] 45)).trans (kept_alloc _ (.map #[] 0)))
  have hb := Lib.hid (MapK_made (w.alloc (.cells #[.slice aM nM cM, .slice a xs.length c] 45)))
  have e1 : (w.alloc (.cells #[.slice aM nM cM, .slice a xs.length c] 45)).heap.size = B + 1 := by rw [← HB.out]; simp
  rw [e1] at hb
  have e2 : ((w.alloc (.cells #[.slice aM nM cM, .slice a xs.length c] 45)).alloc (.map #[] 0)).heap.size = B + 2 := by simp; rw [← HB.out]
  have HDF := Lib.hid (fun w' h1 h2 => defs_any N M B (B + 2) (by omega) (M + 1) xs (.slice a xs.length c) false [] _ w' (Nat.le_refl _) h1 hl hok h2 (OutG.nil _ _ _ _ _ _) (by simpa using hn))
  have HV := Lib.hid (hv.kept HK0.out)
  clear hv
  unfold TerP
  unfold DefP at HDF
  obtain ⟨ds, HDS⟩ : ∃ ds, Hid (defsL false xs = ds) := ⟨_, rfl⟩
  rw [HDS.out] at HG HNP HDF hn ⊢
  clear hok hg hnp
  have mk := run_makeMap (P := Try.prog) 66 (w.alloc (.cells #[.slice aM nM cM, .slice a xs.length c] 45))
  go_enter Try.func15, Try.ntmps15
  go_wp2_with fail
  rw [HB.out]
  refine (HDF.out _ HV.out (Nat.le_of_eq e2.symm)).mono ?_
  rintro e w1 ⟨v1, rfl, hout, hon⟩
  have HK1 : Hid (Kept w w1) := HK0.out.trans' (hon.below HK0.out.size (fun i h => by have := HB.out; omega))
  have hM1 : MapK w1 (B + 1) [] := hb.out.only hon (by omega)
  have HM1 := Lib.hid hM1
  have hR : Bls (fun g => g < w1.heap.size ∧ g ≠ B + 1) N (M + 1) w1 v1 ds := Bls.sam (show Bls (fun g => g ≠ B + 1) N (M + 1) w1 v1 ds from OutG.row (S := fun g => g ≠ B + 1) (bloK N M) hout (fun g _ h => by omega) (fun g h => by omega)) (fun _ _ _ => rfl) (fun g h q => ⟨h, q⟩)
  have HR := Lib.hid hR
  obtain ⟨a1, c1, rfl, hc1⟩ := hR.form
  have hz1' : w.heap.size ≤ w1.heap.size := HK1.out.size
  clear hR hM1 hon hout mk e1 e2 hb HDF HV HK0
  go_wp2_with fail
  go_loopw [5, 15] (fun o i wr => ∃ (k : Nat), k ≤ ds.length ∧ i = .int .i64 k ∧ Hid (OutG EntW 5 (fun _ => False) w1.heap.size 55 wr o ((ds.take k).map entD)) ∧ Hid (MapK wr (B + 1) ((ds.take k).map defName)) ∧ Hid (Only (fun g => g = B + 1 ∨ w1.heap.size ≤ g) w1 wr)) (fun _ i _ => ds.length - (intOf i).toNat)
  case atStart => exact ⟨0, Nat.zero_le _, rfl, OutG.nil _ _ _ _ _ _, HM1.out, Only.of_kept (Kept.refl w1)⟩
  case round =>
    obtain ⟨k, hk, rfl, HGR, HMR, HKR⟩ := hrel
    by_cases hlt : k < ds.length
    · obtain ⟨x, hx⟩ : ∃ x, ds[k]? = some x := ⟨_, List.getElem?_eq_getElem hlt⟩
      have HVR := Lib.hid (HR.out.sam (Sam.only HKR.out (fun g _ h q => by omega)) (fun g _ h => h))
      have hnp := HNP.out x (List.mem_of_getElem? hx)
      obtain ⟨hgp, hne, hid, hnot⟩ := HG.out k x hx
      have HT := Lib.hid (take_snoc hx)
      have HTD : Hid (entD x = (defName x, x.id)) := rfl
      obtain ⟨nm, HNM⟩ : ∃ nm, Hid (defName x = nm) := ⟨_, rfl⟩
      rw [HNM.out] at hgp hne hnot HTD
      obtain ⟨g, o, vC, vP, vL, vK, rfl, hgg, hgS, -, -, ⟨d0, d1, d2, d3, d4, d5, d6, d7, d8, d9, d10⟩, -, ⟨hC, iC⟩, ⟨hPP, iP⟩, hL, hK⟩ := Bls.at_ HVR.out k x hx
      have hTN : (ds.take (k + 1)).map defName = (ds.take k).map defName ++ [nm] := by rw [HT.out, List.map_append, List.map_singleton, HNM.out]
      have hTE : (ds.take (k + 1)).map entD = (ds.take k).map entD ++ [(nm, x.id)] := by rw [HT.out, List.map_append, List.map_singleton, HTD.out]
      have HTN := Lib.hid hTN
      have HTE := Lib.hid hTE
      clear hTN hTE HT HTD HNM HVR hx
      obtain ⟨kind, level, info, text, dest, title, id, cls, prs, line, kids⟩ := x
      simp only [Blo.kind, Blo.level, Blo.info, Blo.text, Blo.dest, Blo.title, Blo.id, Blo.cls, Blo.prs, Blo.line, Blo.kids] at d0 d1 d2 d3 d4 d5 d6 hC hPP hL hK hgp hid hnp HTE
      obtain ⟨aC, cC, rfl, lC⟩ := hC.shape
      obtain ⟨aP, cP, rfl, lP⟩ := hPP.shape
      obtain ⟨aL, cL, rfl, lL⟩ := hL.form
      obtain ⟨aK, cK, rfl, lK⟩ := hK.form
      have HB0 := Lib.hid (Blk.new wr 37 #[.int .i64 kind, .int .i64 level, .string (bs info), .string (bs text), .string (bs dest), .string (bs title), .string (bs id), .slice aC cls.length cC, .slice aP prs.length cP, .slice aL line.length cL, .slice aK kids.length cK])
      have HKI := Lib.hid (kept_alloc wr (.cells #[.int .i64 kind, .int .i64 level, .string (bs info), .string (bs text), .string (bs dest), .string (bs title), .string (bs id), .slice aC cls.length cC, .slice aP prs.length cP, .slice aL line.length cL, .slice aK kids.length cK] 37))
      have HGET := Lib.hid (aget_any id (.slice aC cls.length cC) (.slice aP prs.length cP) prs kName (wr.alloc (.cells #[.int .i64 kind, .int .i64 level, .string (bs info), .string (bs text), .string (bs dest), .string (bs title), .string (bs id), .slice aC cls.length cC, .slice aP prs.length cP, .slice aL line.length cL, .slice aK kids.length cK] 37)) rfl (hPP.kept HKI.out) (by omega))
      rw [hgp] at HGET
      unfold GetP kName at HGET
      simp only [Option.getD_some, Option.isSome_some] at HGET
      obtain ⟨ks, HKS⟩ : ∃ ks, Hid ((ds.take k).map defName = ks) := ⟨_, rfl⟩
      obtain ⟨es, HES⟩ : ∃ es, Hid ((ds.take k).map entD = es) := ⟨_, rfl⟩
      rw [HKS.out] at HMR HTN hnot
      rw [HES.out] at HGR HTE
      have hel : es.length ≤ 1000000 := by rw [← HES.out, List.length_map, List.length_take]; omega
      have q1 : (nm == []) = false := by simpa using hne
      have q2 : (id == []) = false := by simpa using hid
      have hct : ks.contains nm = false := by simpa using hnot
      clear hC iC hPP iP hL hK hgp hne hid
      go_wp2_with fail
      generalize wr.alloc _ = w2 at *
      refine HGET.out.mono ?_
      rintro e w3 ⟨rfl, hk3⟩
      have HK3 := Lib.hid (HKI.out.trans hk3)
      have HB3 := Lib.hid (HB0.out.kept hk3)
      obtain ⟨I, HI⟩ : ∃ I, Hid (wr.heap.size = I) := ⟨_, rfl⟩
      rw [HI.out] at HB3 ⊢
      have t6 : w3.cell? ⟨I, 6, none⟩ = some (.string (bs id)) := HB3.out.cell 6 _ rfl
      have HM3 := Lib.hid (MapK_kept HMR.out HK3.out)
      have lk := lookK w3 (B + 1) ks nm HM3.out
      rw [hct] at lk
      have up := insK w3 (B + 1) ks nm HM3.out hnot
      have HM4 := Lib.hid (putK_map w3 (B + 1) (ks ++ [nm]) HM3.out.lt)
      have HO4 := Lib.hid (putK_only w3 (B + 1) (ks ++ [nm]))
      have HG4 := Lib.hid ((HGR.out.kept entK' HK3.out).only entK' HO4.out (fun g _ h => h.elim) (fun g q r => by have := (HGR.out.blk g q).1; have := HM1.out.lt; omega))
      have hIM : I ≠ B + 1 := by have := HM1.out.lt; have := HKR.out.size; have := HI.out; omega
      have HB4 := Lib.hid (HB3.out.onl HO4.out hIM)
      have t6' : (putK w3 (B + 1) (ks ++ [nm])).cell? ⟨I, 6, none⟩ = some (.string (bs id)) := HB4.out.cell 6 _ rfl
      have HROW := Lib.hid (Blk.new (putK w3 (B + 1) (ks ++ [nm])) 55 #[.int .i64 1, .string (bs id), .string (bs nm), .slice none 0 0, .slice none 0 0])
      have HK5 := Lib.hid (kept_alloc (putK w3 (B + 1) (ks ++ [nm])) (.cells #[.int .i64 1, .string (bs id), .string (bs nm), .slice none 0 0, .slice none 0 0] 55))
      have HG5 := Lib.hid (HG4.out.kept entK' HK5.out)
      have HM5 := Lib.hid (MapK_kept HM4.out HK5.out)
      obtain ⟨ar, cr, rfl, hcr, hmr⟩ := HGR.out.form
      have hb5 : w1.heap.size ≤ ((putK w3 (B + 1) (ks ++ [nm])).alloc (.cells #[.int .i64 1, .string (bs id), .string (bs nm), .slice none 0 0, .slice none 0 0] 55)).heap.size := by
        have := HKR.out.size; have := HK3.out.size; have := HO4.out.size; have := HK5.out.size; omega
      clear hk3 HGET HMR HB0 d0 d1 d2 d3 d4 d5 d6 d7 d8 d9 d10 hct HB3 HB4 HG4
      go_wp2_with (refine wpList_append_out entK' rfl (.tmp 42) (.tmp 48) 51 rfl i0 _ 88 Try.underlying51 hi hz0 hz1 hz2 rfl (by omega) (by rfl) HG5.out _ [.int .i64 1, .string (bs id), .string (bs nm), .slice none 0 0, .slice none 0 0] (nm, id) (by rfl) (fun j u hu => HROW.out.cell j u (by rw [← Array.getElem?_toList]; exact hu)) rfl rfl (by unfold maxLen; omega) (by omega) hb5 _ rfl ?_; intro g7 c7' w7 hout7 hgrow7 hat7 hlt7; have HGROW := Lib.hid hgrow7; have HAT := Lib.hid hat7; have HOUT7 := Lib.hid hout7; clear hgrow7 hat7 hout7)
      have hong := Only.grown HGROW.out
      have HOUT8 : Hid (OutG EntW 5 (fun _ => False) w1.heap.size 55 w7 (.slice (some ⟨g7, 0, none⟩) (es.length + 1) c7') ((ds.take (k + 1)).map entD)) := by rw [HTE.out]; exact HOUT7.out
      have HM7 : Hid (MapK w7 (B + 1) ((ds.take (k + 1)).map defName)) := by
        rw [HTN.out]
        exact HM5.out.only hong (fun q => by have := (HGR.out.blk (B + 1) q.symm).1; have := HM1.out.lt; omega)
      have HON7 : Hid (Only (fun g => g = B + 1 ∨ w1.heap.size ≤ g) w1 w7) := (HKR.out.trans (Only.of_kept HK3.out)).trans ((HO4.out.mono (fun g _ q => .inl q)).trans ((Only.of_kept HK5.out).trans (hong.mono (fun g _ q => .inr (HGR.out.blk g q.symm).1))))
      clear hong HGROW HAT HOUT7 HM5 HG5 HK5 HROW HK3 HO4 HM3 HM4 HTE HTN HKS HES HKI t6 t6' lk up HGR
      go_wp2_with fail
      go_roundw
      case rel => exact ⟨k + 1, by omega, by go_num, HOUT8.out, HM7.out, HON7.out⟩
      case measure => simp [intOf]; omega
    · obtain rfl : k = ds.length := by omega
      have hE : (ds.take ds.length).map entD = ds.map entD := by rw [List.take_length]
      rw [hE] at HGR
      obtain ⟨ar, cr, rfl, hcr, hmr⟩ := HGR.out.form
      have HF : Hid (RowR (fun g => g < wr.heap.size) 5 (EntW (fun _ => True) wr) wr (.slice ar (ds.map entD).length cr) (ds.map entD)) := by
        have h := OutG.row (S := fun _ => True) entK' HGR.out (fun _ _ _ => trivial) (fun _ _ => trivial)
        exact RowR.step h (fun _ _ _ => rfl) (fun g h _ => h) (fun _ _ _ h => h)
      have HKZ : Hid (Kept w wr) := HK1.out.trans' (HKR.out.below (by omega) (fun i h => by have := HB.out; omega))
      clear hE HGR HMR HKR HR HM1
      go_wp2_with fail
      go_ret2
      exact ⟨_, rfl, HF.out, HKZ.out⟩
end Go.Proofs.Ythbnahagfojfbaa

/- gloss.Uses: the names that are used, each once. Conditions: lengths. -/
set_option linter.all false
namespace Go.Proofs.Ythbnahagfojfbaa
open Go.RowKit

/-- The names of uses, each once. -/
def useStep (acc : List Bs) (x : Inl) : List Bs := if isUse x = true then (if acc.contains (useName x) = true then acc else acc ++ [useName x]) else acc
def usesN (l : List Inl) : List Bs := l.foldl useStep []
theorem usesN_take {l : List Inl} {k : Nat} {x : Inl} (h : l[k]? = some x) : usesN (l.take (k + 1)) = useStep (usesN (l.take k)) x := by
  unfold usesN
  rw [take_snoc h, List.foldl_append]; rfl
theorem isUse_mk (kind : Int) (text dest title id : Bs) (cls : List Bs) (prs : List Pr) (args : List Bs) (cits : List Cit) (kids : List Inl) : isUse (.mk kind text dest title id cls prs args cits kids) = (decide (kind = 11) && cls.contains kTerm) := rfl
theorem useName_mk (kind : Int) (text dest title id : Bs) (cls : List Bs) (prs : List Pr) (args : List Bs) (cits : List Cit) (kids : List Inl) : useName (.mk kind text dest title id cls prs args cits kids) = (getP prs kName).getD (plainL kids) := rfl
theorem usesN_len (l : List Inl) : (usesN l).length ≤ l.length := by
  have : ∀ (l : List Inl) (acc : List Bs), (l.foldl useStep acc).length ≤ acc.length + l.length := by
    intro l
    induction l with
    | nil => intro acc; simp
    | cons x l ih =>
      intro acc
      have h := ih (useStep acc x)
      have h2 : (useStep acc x).length ≤ acc.length + 1 := by
        unfold useStep
        split
        · split
          · omega
          · simp
        · omega
      rw [List.foldl_cons, List.length_cons]; omega
  have h0 : (usesN l).length ≤ 0 + l.length := this l []
  omega
/-- What the walks ask of an inline. -/
def okU (x : Inl) : Prop := okI1 x ∧ (plainL x.kids).length ≤ 1000000
theorem Strs.outG {base : Nat} {A : Nat → Prop} {w : World} {v : Value} {xs : List Bs} (h : OutG StrK 1 A base 9 w v xs) : Strs w v xs := by
  obtain ⟨css, h1, h2, ho, h4⟩ := h
  have e : css.flatten = strCells xs := by
    clear ho
    induction css generalizing xs with
    | nil => cases xs with
      | nil => rfl
      | cons _ _ => simp at h1
    | cons c css ih =>
      cases xs with
      | nil => simp at h1
      | cons x xs =>
        have hc := h4 0 c x rfl rfl
        unfold StrK at hc
        subst hc
        have := ih (xs := xs) (by simpa using h1) (fun cs h => h2 cs (List.mem_cons_of_mem _ h)) (fun j cs x hc hx => h4 (j + 1) cs x (by simpa using hc) (by simpa using hx))
        rw [List.flatten_cons, this]; rfl
  rw [e] at ho
  exact Strs.own ho
def UseP (ns : List Bs) (w : World) (e : Ending) (w' : World) : Prop := ∃ v, e = .returned v ∧ Strs w' v ns ∧ Kept w w'
set_option maxRecDepth 100000 in
set_option maxHeartbeats 12800000 in
theorem uses_any (N M : Nat) (aM : Option Addr) (nM cM : Nat) (v : Value) (xs : List Blo) (w : World) (hv : Bls (fun g => g < w.heap.size) N M w v xs) (hl : xs.length ≤ 1000000) (hok : okBL xs) (hn : (inlsL xs).length ≤ 1000000) (hx : ∀ x ∈ inlsL xs, okU x) :
    Calls Try.prog 17 #[docV (.slice aM nM cM) v] w (UseP (usesN (inlsL xs)) w) := by
  have HX := Lib.hid hx
  obtain ⟨a, c, rfl, hc⟩ := hv.form
  obtain ⟨i0, hi, hz0, hz1, hz2⟩ := info_parts Try.infoStr
  obtain ⟨B, HB⟩ : ∃ B, Hid (w.heap.size = B) := ⟨_, rfl⟩
  have HK0 := Lib.hid ((kept_alloc w (.cells #[.slice aM nM cM, .slice a xs.length c] 45)).trans (kept_alloc _ (.map #[] 0)))
  have hb := Lib.hid (MapK_made (w.alloc (.cells #[.slice aM nM cM, .slice a xs.length c] 45)))
  have e1 : (w.alloc (.cells #[.slice aM nM cM, .slice a xs.length c] 45)).heap.size = B + 1 := by rw [← HB.out]; simp
  rw [e1] at hb
  have e2 : ((w.alloc (.cells #[.slice aM nM cM, .slice a xs.length c] 45)).alloc (.map #[] 0)).heap.size = B + 2 := by simp; rw [← HB.out]
  have hsz := HB.out
  have HDF := Lib.hid (inlines_any M N w.heap.size (.slice a xs.length c) xs _ HK0.out.size (hv.kept HK0.out) hl hok hn)
  have mk := run_makeMap (P := Try.prog) 66 (w.alloc (.cells #[.slice aM nM cM, .slice a xs.length c] 45))
  unfold UseP
  unfold InlsP at HDF
  obtain ⟨ds, HDS⟩ : ∃ ds, Hid (inlsL xs = ds) := ⟨_, rfl⟩
  rw [HDS.out] at HX HDF hn ⊢
  clear hok hx hv
  go_enter Try.func17, Try.ntmps17
  go_wp2_with fail
  refine HDF.out.mono ?_
  rintro e w1 ⟨v1, rfl, hR, hk1⟩
  have HK1 := Lib.hid (HK0.out.trans hk1)
  have HM1 := Lib.hid (MapK_kept hb.out hk1)
  have hR1 : Lns (fun g => g < w1.heap.size ∧ g ≠ B + 1) (N + 1) w1 v1 ds := hR.sam (fun _ _ _ => rfl) (fun g h q => ⟨h, by omega⟩)
  have HR := Lib.hid hR1
  obtain ⟨a1, c1, rfl, hc1⟩ := hR1.form
  clear hR hR1 hk1 mk e1 e2 hb HDF HK0
  go_wp2_with fail
  go_loopw [4, 13] (fun o i wr => ∃ (k : Nat), k ≤ ds.length ∧ i = .int .i64 k ∧ Hid (OutG StrK 1 (fun _ => False) w1.heap.size 9 wr o (usesN (ds.take k))) ∧ Hid (MapK wr (B + 1) (usesN (ds.take k))) ∧ Hid (Only (fun g => g = B + 1 ∨ w1.heap.size ≤ g) w1 wr)) (fun _ i _ => ds.length - (intOf i).toNat)
  case atStart => exact ⟨0, Nat.zero_le _, rfl, OutG.nil _ _ _ _ _ _, HM1.out, Only.of_kept (Kept.refl w1)⟩
  case round =>
    obtain ⟨k, hk, rfl, HGR, HMR, HKR⟩ := hrel
    by_cases hlt : k < ds.length
    · obtain ⟨x, hx⟩ : ∃ x, ds[k]? = some x := ⟨_, List.getElem?_eq_getElem hlt⟩
      have HVR := Lib.hid (HR.out.sam (Sam.only HKR.out (fun g _ h q => by omega)) (fun g _ h => h))
      obtain ⟨hox, hpl⟩ := HX.out x (List.mem_of_getElem? hx)
      have HT := Lib.hid (usesN_take hx)
      unfold useStep at HT
      have hul : (usesN (ds.take k)).length ≤ 1000000 := by
        have := usesN_len (ds.take k); rw [List.length_take] at this; omega
      obtain ⟨us, HUS⟩ : ∃ us, Hid (usesN (ds.take k) = us) := ⟨_, rfl⟩
      rw [HUS.out] at HGR HMR HT hul
      obtain ⟨g, o, vC, vP, vA, vT, vK, rfl, hgg, hgS, -, -, ⟨d0, d1, d2, d3, d4, d5, d6, d7, d8, d9⟩, -, ⟨hC, -⟩, ⟨hPP, -⟩, ⟨hA, -⟩, hTT, hK⟩ := Lns.at_ HVR.out k x hx
      obtain ⟨⟨f1, f2, f3, f4, f5, f6, f7, f8, f9⟩, f10⟩ := hox.fit
      obtain ⟨kind, text, dest, title, id, cls, prs, args, cits, kids⟩ := x
      simp only [Inl.kind, Inl.text, Inl.dest, Inl.title, Inl.id, Inl.cls, Inl.prs, Inl.args, Inl.cits, Inl.kids] at d0 d1 d2 d3 d4 hC hPP hA hTT hK hpl f1 f2 f3 f4 f5 f6 f7 f8 f9 f10
      rw [useName_mk] at HT
      obtain ⟨aC, cC, rfl, lC⟩ := hC.shape
      obtain ⟨aP, cP, rfl, lP⟩ := hPP.shape
      obtain ⟨aA, cA, rfl, lA⟩ := hA.shape
      obtain ⟨aT, cT, rfl, lT⟩ := hTT.form
      obtain ⟨aK, cK, rfl, lK⟩ := hK.form
      have HB0 := Lib.hid (Blk.new wr 41 #[.int .i64 kind, .string (bs text), .string (bs dest), .string (bs title), .string (bs id), .slice aC cls.length cC, .slice aP prs.length cP, .slice aA args.length cA, .slice aT cits.length cT, .slice aK kids.length cK])
      have HKI := Lib.hid (kept_alloc wr (.cells #[.int .i64 kind, .string (bs text), .string (bs dest), .string (bs title), .string (bs id), .slice aC cls.length cC, .slice aP prs.length cP, .slice aA args.length cA, .slice aT cits.length cT, .slice aK kids.length cK] 41))
      have HISU := Lib.hid (isuse_any kind text dest title id (.slice aC cls.length cC) (.slice aP prs.length cP) (.slice aA args.length cA) (.slice aT cits.length cT) (.slice aK kids.length cK) cls (wr.alloc (.cells #[.int .i64 kind, .string (bs text), .string (bs dest), .string (bs title), .string (bs id), .slice aC cls.length cC, .slice aP prs.length cP, .slice aA args.length cA, .slice aT cits.length cT, .slice aK kids.length cK] 41)) (hC.kept HKI.out) (by omega) rfl rfl rfl rfl)
      have HUSE := Lib.hid (fun w h1 h2 => usename_any (S := fun g => g < w1.heap.size ∧ g ≠ B + 1) N kind text dest title id (.slice aC cls.length cC) (.slice aP prs.length cP) (.slice aA args.length cA) (.slice aT cits.length cT) (.slice aK kids.length cK) prs kids w rfl h1 rfl rfl h2 (by omega) (by omega) f10 (by omega))
      have HPP := Lib.hid hPP
      have HKK := Lib.hid hK
      rw [← isUse_mk kind text dest title id cls prs args cits kids] at HISU
      clear hC hPP hA hTT hK f10 HVR hx hox
      obtain ⟨U, HU⟩ : ∃ U, Hid (isUse (.mk kind text dest title id cls prs args cits kids) = U) := ⟨_, rfl⟩
      obtain ⟨nm, HNM⟩ : ∃ nm, Hid ((getP prs kName).getD (plainL kids) = nm) := ⟨_, rfl⟩
      rw [HU.out] at HISU HT
      rw [HNM.out] at HUSE HT
      clear HU HNM
      obtain ⟨I, HI⟩ : ∃ I, Hid (wr.heap.size = I) := ⟨_, rfl⟩
      have hIM : I ≠ B + 1 := by have := HM1.out.lt; have := HKR.out.size; have := HI.out; omega
      go_wp2_with fail
      generalize wr.alloc _ = w2 at *
      refine HISU.out.mono ?_
      rintro e w3 ⟨rfl, hk3⟩
      have HK3 := Lib.hid (HKI.out.trans hk3)
      have HB3 := Lib.hid (HB0.out.kept hk3)
      have HM3 := Lib.hid (MapK_kept HMR.out HK3.out)
      have HG3 := Lib.hid (HGR.out.kept strK HK3.out)
      rw [HI.out] at HB3 ⊢
      clear hk3 HISU HB0 HKI d0 d1 d2 d3 d4 d5 d6 d7 d8 d9
      cases U with
      | false =>
        have HT2 : usesN (ds.take (k + 1)) = us := HT.out
        rw [← HT2] at HM3 HG3
        have HON3 : Hid (Only (fun g => g = B + 1 ∨ w1.heap.size ≤ g) w1 w3) := HKR.out.trans (Only.of_kept HK3.out)
        clear HT2 HT HUSE HPP HKK HB3 HGR HMR HKR HUS
        go_wp2_with fail
        go_roundw
        case rel => exact ⟨k + 1, by omega, by go_num, HG3.out, HM3.out, HON3.out⟩
        case measure => simp [intOf]; omega
      | true =>
        have HT2 := HT.out
        rw [if_pos rfl] at HT2
        have HU3 := Lib.hid (HUSE.out w3 (HPP.out.kept HK3.out) (HKK.out.kept HK3.out))
        have c0 : w3.cell? ⟨I, 0, none⟩ = some (.int .i64 kind) := HB3.out.cell 0 _ rfl
        have c1_ : w3.cell? ⟨I, 1, none⟩ = some (.string (bs text)) := HB3.out.cell 1 _ rfl
        have c2 : w3.cell? ⟨I, 2, none⟩ = some (.string (bs dest)) := HB3.out.cell 2 _ rfl
        have c3 : w3.cell? ⟨I, 3, none⟩ = some (.string (bs title)) := HB3.out.cell 3 _ rfl
        have c4 : w3.cell? ⟨I, 4, none⟩ = some (.string (bs id)) := HB3.out.cell 4 _ rfl
        have c5 : w3.cell? ⟨I, 5, none⟩ = some (.slice aC cls.length cC) := HB3.out.cell 5 _ rfl
        have c6 : w3.cell? ⟨I, 6, none⟩ = some (.slice aP prs.length cP) := HB3.out.cell 6 _ rfl
        have c7 : w3.cell? ⟨I, 7, none⟩ = some (.slice aA args.length cA) := HB3.out.cell 7 _ rfl
        have c8 : w3.cell? ⟨I, 8, none⟩ = some (.slice aT cits.length cT) := HB3.out.cell 8 _ rfl
        have c9 : w3.cell? ⟨I, 9, none⟩ = some (.slice aK kids.length cK) := HB3.out.cell 9 _ rfl
        clear HUSE HPP HKK HT
        go_wp2_with fail
        refine HU3.out.mono ?_
        rintro e w4 ⟨rfl, hk4⟩
        have HK4 := Lib.hid (HK3.out.trans hk4)
        have HM4 := Lib.hid (MapK_kept HM3.out hk4)
        have HG4 := Lib.hid (HG3.out.kept strK hk4)
        clear hk4 HU3 HK3 HM3 HG3 HB3 c0 c1_ c2 c3 c4 c5 c6 c7 c8 c9
        have lk := lookK w4 (B + 1) us nm HM4.out
        cases hct : us.contains nm with
        | true =>
          rw [hct, if_pos rfl] at HT2
          rw [hct] at lk
          rw [← HT2] at HM4 HG4
          have HON4 : Hid (Only (fun g => g = B + 1 ∨ w1.heap.size ≤ g) w1 w4) := HKR.out.trans (Only.of_kept HK4.out)
          clear HGR HMR HKR HUS HT2 hct
          go_wp2_with fail
          go_roundw
          case rel => exact ⟨k + 1, by omega, by go_num, HG4.out, HM4.out, HON4.out⟩
          case measure => simp [intOf]; omega
        | false =>
          rw [hct, if_neg (by simp)] at HT2
          rw [hct] at lk
          have hnot : nm ∉ us := by simpa using hct
          have up := insK w4 (B + 1) us nm HM4.out hnot
          have HM5 := Lib.hid (putK_map w4 (B + 1) (us ++ [nm]) HM4.out.lt)
          have HO5 := Lib.hid (putK_only w4 (B + 1) (us ++ [nm]))
          have HG5 := Lib.hid (HG4.out.only strK HO5.out (fun g _ h => h.elim) (fun g q r => by have := (HGR.out.blk g q).1; have := HM1.out.lt; omega))
          have HROW := Lib.hid (Blk.new (putK w4 (B + 1) (us ++ [nm])) 9 #[.string (bs nm)])
          have HK6 := Lib.hid (kept_alloc (putK w4 (B + 1) (us ++ [nm])) (.cells #[.string (bs nm)] 9))
          have HG6 := Lib.hid (HG5.out.kept strK HK6.out)
          have HM6 := Lib.hid (MapK_kept HM5.out HK6.out)
          obtain ⟨ar, cr, rfl, hcr, hmr⟩ := HGR.out.form
          have hb6 : w1.heap.size ≤ ((putK w4 (B + 1) (us ++ [nm])).alloc (.cells #[.string (bs nm)] 9)).heap.size := by
            have := HKR.out.size; have := HK4.out.size; have := HO5.out.size; have := HK6.out.size; omega
          clear hct hnot HG5 HM5
          go_wp2_with (refine wpList_append_out strK rfl (.tmp 28) (.tmp 30) 24 rfl i0 _ 16 Try.underlying24 hi hz0 hz1 hz2 rfl (by omega) (by rfl) HG6.out _ [.string (bs nm)] nm (by rfl) (fun j u hu => HROW.out.cell j u (by rw [← Array.getElem?_toList]; exact hu)) rfl rfl (by unfold maxLen; omega) (by omega) hb6 _ rfl ?_; intro g7 c7' w7 hout7 hgrow7 hat7 hlt7; have HGROW := Lib.hid hgrow7; have HAT := Lib.hid hat7; have HOUT7 := Lib.hid hout7; clear hgrow7 hat7 hout7)
          have hong := Only.grown HGROW.out
          have HOUT8 : Hid (OutG StrK 1 (fun _ => False) w1.heap.size 9 w7 (.slice (some ⟨g7, 0, none⟩) (us.length + 1) c7') (usesN (ds.take (k + 1)))) := by rw [HT2]; exact HOUT7.out
          have HM7 : Hid (MapK w7 (B + 1) (usesN (ds.take (k + 1)))) := by
            rw [HT2]
            exact HM6.out.only hong (fun q => by have := (HGR.out.blk (B + 1) q.symm).1; have := HM1.out.lt; omega)
          have HON7 : Hid (Only (fun g => g = B + 1 ∨ w1.heap.size ≤ g) w1 w7) := (HKR.out.trans (Only.of_kept HK4.out)).trans ((HO5.out.mono (fun g _ q => .inl q)).trans ((Only.of_kept HK6.out).trans (hong.mono (fun g _ q => .inr (HGR.out.blk g q.symm).1))))
          clear hong HGROW HAT HOUT7 HM6 HG6 HK6 HROW HK4 HO5 HM4 HT2 HUS lk up HGR HKR HMR
          go_wp2_with fail
          go_roundw
          case rel => exact ⟨k + 1, by omega, by go_num, HOUT8.out, HM7.out, HON7.out⟩
          case measure => simp [intOf]; omega
    · obtain rfl : k = ds.length := by omega
      have hE : usesN (ds.take ds.length) = usesN ds := by rw [List.take_length]
      rw [hE] at HGR
      obtain ⟨ar, cr, rfl, hcr, hmr⟩ := HGR.out.form
      have HF := Lib.hid (Strs.outG HGR.out)
      have HKZ : Hid (Kept w wr) := HK1.out.trans' (HKR.out.below (by have := HK1.out.size; omega) (fun i h => by have := HB.out; have := HK1.out.size; omega))
      clear hE HGR HMR HKR HR HM1
      go_wp2_with fail
      (try go_ret)
      exact ⟨_, rfl, HF.out, HKZ.out⟩
end Go.Proofs.Ythbnahagfojfbaa
