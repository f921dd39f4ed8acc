/- The closure of collate.Check that puts the letters of a text to a set. Conditions: lengths. -/
import Derived.Test.YtpfbdgcgpghifaaGreatDoorK17

set_option linter.all false
namespace Go.Proofs.YtpfbdgcgpghifaaGreatDoor
open Go.RowKit

/-- A set of letters, in the order in which they came. -/
def oneV (l : List Int) : List (Int × Value) := l.map fun x => (x, .bool true)
theorem getV_one (l : List Int) (k : Int) : getV (oneV l) k = if l.contains k = true then some (.bool true) else none := by
  unfold getV oneV
  induction l with
  | nil => rfl
  | cons x l ih =>
    rw [List.map_cons, List.find?_cons]
    by_cases h : x = k
    · subst h; simp
    · have : (x == k) = false := by simpa using h
      have h2 : (k == x) = false := by simpa using fun q => h q.symm
      simp only [this]
      rw [ih, List.contains_cons, h2, Bool.false_or]
theorem one_has (l : List Int) (k : Int) : (getV (oneV l) k).getD (.bool false) = .bool (l.contains k) := by
  rw [getV_one]; cases l.contains k <;> rfl
theorem oneV_snoc (l : List Int) (x : Int) : oneV (l ++ [x]) = oneV l ++ [(x, .bool true)] := by simp [oneV]
theorem MapV.no_cell {w : World} {m : Nat} {es : List (Int × Value)} (h : MapV w m es) (o : Nat) : w.cell? ⟨m, o, none⟩ = none := by unfold MapV at h; simp [World.cell?, h]
/-- Numbers in memory do not lie in a map's block. -/
theorem Ints.map {w w' : World} {v : Value} {xs : List Int} {m : Nat} {es : List (Int × Value)} (h : Ints w v xs) (hm : MapV w m es) (k : Only (fun i => i = m) w w') : Ints w' v xs := by
  obtain ⟨a, c, hv, hc, h3⟩ := h
  refine ⟨a, c, hv, hc, fun q => ?_⟩
  obtain ⟨g, o, ha, hg, hcell⟩ := h3 q
  have hne : g ≠ m := by
    rintro rfl
    have h0 := hcell 0 _ (List.getElem?_eq_getElem q)
    rw [hm.no_cell] at h0
    cases h0
  exact ⟨g, o, ha, Nat.lt_of_lt_of_le hg k.size, fun j x hx => (k.cell g _ hg hne).trans (hcell j x hx)⟩
theorem Blk.onl {S : Nat → Prop} {w w' : World} {g : Nat} {t : TypeId} {cs : Array Value} (h : Blk w g t cs) (k : Only S w w') (hs : ¬ S g) : Blk w' g t cs := (k.block g h.lt hs).trans h
theorem Blk.no_map {w : World} {g m : Nat} {t : TypeId} {cs : Array Value} {es : List (Int × Value)} (h : Blk w g t cs) (hm : MapV w m es) : g ≠ m := by
  rintro rfl
  unfold Blk at h
  unfold MapV at hm
  rw [h] at hm
  cases hm
theorem Tryz.zeroBool (w : World) : (zeroValue 4).run Tryz.prog w = .ok (.bool false) w := by kernel_rfl
def FreshP (o : Option (List Int)) (m : Nat) (w : World) (e : Ending) (w' : World) : Prop :=
  Only (fun i => i = m) w w' ∧ match o with
    | some l' => e = .returned (.bool true) ∧ MapV w' m (oneV l')
    | none => e = .returned (.bool false)
set_option maxRecDepth 100000 in
set_option maxHeartbeats 1600000 in
theorem fresh_any (s : Bs) (l : List Int) (bm m : Nat) (w : World) (hs : s.length ≤ 1100000) (hb : Blk w bm 68 #[.map (some m)]) (hm : MapV w m (oneV l)) :
    Calls Tryz.prog 89 #[.string (bs s), .pointer (some ⟨bm, 0, none⟩)] w (FreshP (addA l (ptsL s)) m w) := by
  have HL := Lib.hid (letters_any s w hs)
  have hxl := ptsL_len s
  have hne := Lib.hid (hb.no_map hm)
  have HB := Lib.hid hb
  have HM0 := Lib.hid hm
  clear hb hm
  generalize ptsL s = xs at *
  have HAT := Lib.hid (addA_take xs l)
  have HAN := Lib.hid (addA_none xs l)
  obtain ⟨R, HR⟩ : ∃ R, Hid (addA l xs = R) := ⟨_, rfl⟩
  rw [HR.out] at HAN
  unfold IntsP at HL
  rw [HR.out]
  go_enter Tryz.func89, Tryz.ntmps89
  go_wp2_with fail
  refine HL.out.mono ?_
  rintro e w1 ⟨v1, rfl, hv1, hk1⟩
  have HV1 := Lib.hid hv1
  have HK1 := Lib.hid hk1
  have HB1 := Lib.hid (HB.out.kept hk1)
  have HM1 := Lib.hid (HM0.out.kept hk1)
  obtain ⟨a1, c1, rfl, hc1, h3⟩ := hv1
  clear hk1 h3
  go_wp2_with fail
  go_loopw [9] (fun i wr => ∃ (k : Nat) (lk : List Int), k ≤ xs.length ∧ i = .int .i64 k ∧ Hid (addA l (xs.take k) = some lk) ∧ Hid (MapV wr m (oneV lk)) ∧ Hid (Only (fun i => i = m) w1 wr)) (fun i _ => xs.length - (intOf i).toNat)
  case atStart => exact ⟨0, l, Nat.zero_le _, rfl, rfl, HM1.out, Only.of_kept (Kept.refl _)⟩
  case round =>
    obtain ⟨k, lk, hk, rfl, HA, HM, HO⟩ := hrel
    have HOW : Hid (Only (fun i => i = m) w wr) := (Only.of_kept HK1.out).trans HO.out
    have HBR := Lib.hid (HB1.out.onl HO.out hne.out)
    have c0 : wr.cell? ⟨bm, 0, none⟩ = some (.map (some m)) := HBR.out.cell 0 _ rfl
    have z0 := HBR.out.lt
    by_cases hlt : k < xs.length
    · obtain ⟨y, hx⟩ : ∃ y, xs[k]? = some y := ⟨_, List.getElem?_eq_getElem hlt⟩
      obtain ⟨a', c', hv', hc', h3⟩ := HV1.out.map HM1.out HO.out
      obtain ⟨rfl, hdead, rfl⟩ := Value.slice.inj hv'
      clear hdead hc'
      obtain ⟨g, o, rfl, hg, hcell⟩ := h3 (by omega)
      have d0 := hcell k y hx
      have HST : Hid (addA l (xs.take (k + 1)) = if lk.contains y = true then none else some (lk ++ [y])) := by
        have e := HAT.out k hlt
        rw [HA.out] at e
        obtain ⟨_, rfl⟩ := List.getElem?_eq_some_iff.1 hx
        exact e
      have lk1 := lookV (P := Tryz.prog) Tryz.underlying68 Tryz.underlying3 wr m (oneV lk) y (.bool false) (Tryz.zeroBool wr) HM.out
      rw [one_has] at lk1
      have HIN : Hid (lk.contains y = false → getV (oneV lk) y = none) := by
        intro h
        rw [getV_one, h]; rfl
      clear hcell h3 hv' hx
      cases hct : lk.contains y
      · rw [hct] at lk1 HST
        have ins := insV (P := Tryz.prog) Tryz.underlying68 Tryz.underlying3 wr m (oneV lk) y (.bool true) HM.out (HIN.out hct)
        rw [← oneV_snoc] at ins
        have HO5 := Lib.hid (putV_only wr m (oneV (lk ++ [y])))
        have HM5 := Lib.hid (putV_map wr m (oneV (lk ++ [y])) HM.out.lt)
        have HOZ := Lib.hid (HO.out.trans HO5.out)
        generalize putV wr m (oneV (lk ++ [y])) = w5 at *
        go_wp2_with fail
        go_roundw
        case rel => exact ⟨k + 1, lk ++ [y], by omega, by go_num, HST.out, HM5.out, HOZ.out⟩
        case measure => simp [intOf]; omega
      · rw [hct] at lk1 HST
        have HN := Lib.hid (HAN.out (k + 1) (by omega) HST.out)
        go_wp2_with fail
        go_ret
        refine ⟨HOW.out, ?_⟩
        have e : R = none := HN.out
        rw [e]; rfl
    · obtain rfl : k = xs.length := by omega
      rw [List.take_of_length_le (Nat.le_refl _), HR.out] at HA
      go_wp2_with fail
      go_ret
      refine ⟨HOW.out, ?_⟩
      have e : R = some lk := HA.out
      rw [e]; exact ⟨rfl, HM.out⟩
end Go.Proofs.YtpfbdgcgpghifaaGreatDoor

/- Check of collate. Conditions: lengths. -/
set_option linter.all false
namespace Go.Proofs.YtpfbdgcgpghifaaGreatDoor
open Go.RowKit

theorem colE_o {c : ColT} {e : Int} {l : List Int} (h3 : ¬ (128 < c.order.length ∨ 128 < c.ranks.length)) (h : ordC [] c.order = (e, l)) (he : e ≠ 0) : colE c = e := by
  unfold colE; rw [if_neg h3, h, if_pos he]
theorem colE_r {c : ColT} {e : Int} {l l' : List Int} (h3 : ¬ (128 < c.order.length ∨ 128 < c.ranks.length)) (h : ordC [] c.order = (0, l)) (h2 : rnkC l c.ranks = (e, l')) (he : e ≠ 0) : colE c = e := by
  unfold colE; rw [if_neg h3, h, if_neg (by simp)]
  simp only [h2]; rw [if_pos he]
theorem colE_i {c : ColT} {l l' : List Int} (h3 : ¬ (128 < c.order.length ∨ 128 < c.ranks.length)) (h : ordC [] c.order = (0, l)) (h2 : rnkC l c.ranks = (0, l')) : colE c = ignC l' c.ignore := by
  unfold colE; rw [if_neg h3, h, if_neg (by simp)]
  simp only [h2]; rw [if_neg (by simp)]
theorem ordC_at (l : List Int) (ss : List Bs) (k : Nat) (s : Bs) (h : ss[k]? = some s) : ordC l (ss.drop k) = if ruleB s = false then (17, l) else match addA l (ptsL s) with
    | none => (7, l)
    | some l' => ordC l' (ss.drop (k + 1)) := by
  obtain ⟨hk, rfl⟩ := List.getElem?_eq_some_iff.1 h
  rw [List.drop_eq_getElem_cons hk]; rfl
theorem rnkC_at (l : List Int) (ss : List Pr) (k : Nat) (p : Pr) (h : ss[k]? = some p) : rnkC l (ss.drop k) = if ruleB p.1 = false ∨ ruleB p.2 = false then (17, l) else if 1 < (ptsL p.1).length ∨ 4 < (ptsL p.2).length then (5, l) else match addA l (ptsL p.1) with
    | none => (7, l)
    | some l' => rnkC l' (ss.drop (k + 1)) := by
  obtain ⟨hk, rfl⟩ := List.getElem?_eq_some_iff.1 h
  rw [List.drop_eq_getElem_cons hk]; rfl
theorem Strs.cell_of {w : World} {a : Option Addr} {n c : Nat} {xs : List Bs} (h : Strs w (.slice a n c) xs) (k : Nat) (x : Bs) (hx : xs[k]? = some x) : ∃ g o, a = some ⟨g, o, none⟩ ∧ g < w.heap.size ∧ w.cell? ⟨g, o + k, none⟩ = some (.string (bs x)) ∧ n = xs.length ∧ xs.length ≤ c := by
  obtain ⟨a', c', hv, hc, h3⟩ := h
  obtain ⟨rfl, rfl, rfl⟩ := Value.slice.inj hv
  obtain ⟨hk, _⟩ := List.getElem?_eq_some_iff.1 hx
  obtain ⟨g, o, ha, hg, hcell⟩ := h3 (by omega)
  exact ⟨g, o, ha, hg, hcell k x hx, rfl, hc⟩
theorem Prs.cell_of {w : World} {a : Option Addr} {n c : Nat} {ps : List Pr} (h : Prs w (.slice a n c) ps) (k : Nat) (p : Pr) (hx : ps[k]? = some p) : ∃ g o, a = some ⟨g, o, none⟩ ∧ g < w.heap.size ∧ w.cell? ⟨g, o + k * 2, none⟩ = some (.string (bs p.1)) ∧ w.cell? ⟨g, o + k * 2 + 1, none⟩ = some (.string (bs p.2)) ∧ n = ps.length ∧ ps.length ≤ c := by
  obtain ⟨a', c', hv, hc, h3⟩ := h
  obtain ⟨rfl, rfl, rfl⟩ := Value.slice.inj hv
  obtain ⟨hk, _⟩ := List.getElem?_eq_some_iff.1 hx
  obtain ⟨g, o, ha, hg, hcell⟩ := h3 (by omega)
  obtain ⟨h0, h1⟩ := hcell k p hx
  exact ⟨g, o, ha, hg, h0, h1, rfl, hc⟩
theorem Strs.form {w : World} {v : Value} {xs : List Bs} (h : Strs w v xs) : ∃ a c, v = .slice a xs.length c ∧ xs.length ≤ c := by
  obtain ⟨a, c, hv, hc, _⟩ := h; exact ⟨a, c, hv, hc⟩
theorem Prs.form {w : World} {v : Value} {ps : List Pr} (h : Prs w v ps) : ∃ a c, v = .slice a ps.length c ∧ ps.length ≤ c := by
  obtain ⟨a, c, hv, hc, _⟩ := h; exact ⟨a, c, hv, hc⟩
theorem Ints.form {w : World} {v : Value} {ps : List Int} (h : Ints w v ps) : ∃ a c, v = .slice a ps.length c ∧ ps.length ≤ c := by
  obtain ⟨a, c, hv, hc, _⟩ := h; exact ⟨a, c, hv, hc⟩
theorem Ints.cell_of {w : World} {a : Option Addr} {n c : Nat} {xs : List Int} (h : Ints w (.slice a n c) xs) (k : Nat) (x : Int) (hx : xs[k]? = some x) : ∃ g o, a = some ⟨g, o, none⟩ ∧ g < w.heap.size ∧ w.cell? ⟨g, o + k, none⟩ = some (.int .i64 x) := by
  obtain ⟨a', c', hv, hc, h3⟩ := h
  obtain ⟨rfl, rfl, rfl⟩ := Value.slice.inj hv
  obtain ⟨hk, _⟩ := List.getElem?_eq_some_iff.1 hx
  obtain ⟨g, o, ha, hg, hcell⟩ := h3 (by omega)
  exact ⟨g, o, ha, hg, hcell k x hx⟩
theorem only_kept {m : Nat} {a b c : World} (h : Kept a b) (k : Only (fun i => i = m) b c) (hm : a.heap.size ≤ m) : Kept a c := h.trans' (k.below h.size (fun i e => e ▸ hm))

theorem chk_start (w : World) (vR vO vI : Value) : (Blk (((w.alloc (.cells #[vR, vO, vI] 25)).alloc (.map #[] 0)).alloc (.cells #[.map (some (w.heap.size + 1))] 68)) w.heap.size 25 #[vR, vO, vI] ∧ Blk (((w.alloc (.cells #[vR, vO, vI] 25)).alloc (.map #[] 0)).alloc (.cells #[.map (some (w.heap.size + 1))] 68)) (w.heap.size + 1 + 1) 68 #[.map (some (w.heap.size + 1))] ∧ MapV (((w.alloc (.cells #[vR, vO, vI] 25)).alloc (.map #[] 0)).alloc (.cells #[.map (some (w.heap.size + 1))] 68)) (w.heap.size + 1) (oneV [])) ∧ Kept w (((w.alloc (.cells #[vR, vO, vI] 25)).alloc (.map #[] 0)).alloc (.cells #[.map (some (w.heap.size + 1))] 68)) := by
  refine ⟨⟨((Blk.new w _ _).alloc _).alloc _, ?_, ?_⟩, ((kept_alloc _ _).trans (kept_alloc _ _)).trans (kept_alloc _ _)⟩
  · have h := Blk.new ((w.alloc (.cells #[vR, vO, vI] 25)).alloc (.map #[] 0)) 68 #[.map (some (w.heap.size + 1))]
    simpa using h
  · have h := MapV.made (w.alloc (.cells #[vR, vO, vI] 25))
    have h2 : MapV ((w.alloc (.cells #[vR, vO, vI] 25)).alloc (.map #[] 0)) (w.heap.size + 1) [] := by simpa using h
    exact h2.kept (kept_alloc _ _)
set_option maxRecDepth 100000 in
set_option maxHeartbeats 6400000 in
theorem colcheck_any (vR vO : Value) (c : ColT) (w : World) (hv : Col w vR vO c) (hs : SmallC c) :
    Calls Tryz.prog 40 #[colV vR vO c.ignore] w fun e w' => e = .returned (.int .i64 (colE c)) ∧ Kept w w' := by
  obtain ⟨hR, hO⟩ := hv
  obtain ⟨s1, s2, s3, s4, s5⟩ := hs
  have HR := Lib.hid hR
  have HOO := Lib.hid hO
  obtain ⟨aR, cR, rfl, lR⟩ := hR.form
  obtain ⟨aO, cO, rfl, lO⟩ := hO.form
  clear hR hO
  have S4 := Lib.hid s4
  have S5 := Lib.hid s5
  clear s4 s5
  have mk := fun w => run_makeMap (P := Tryz.prog) 68 w
  by_cases h3 : 128 < c.order.length ∨ 128 < c.ranks.length
  · have HE : Hid (colE c = 3) := by show _ = _; unfold colE; rw [if_pos h3]
    generalize colE c = E at *
    by_cases h4 : 128 < c.order.length
    · go_enter Tryz.func40, Tryz.ntmps40
      go_wp2_with fail
      go_ret
      exact ⟨by rw [HE.out]; rfl, kept_alloc _ _⟩
    · have h5 : 128 < c.ranks.length := by omega
      go_enter Tryz.func40, Tryz.ntmps40
      go_wp2_with fail
      go_ret
      exact ⟨by rw [HE.out]; rfl, kept_alloc _ _⟩
  have HCO : Hid (∀ e l, ordC [] c.order = (e, l) → e ≠ 0 → colE c = e) := fun e l h he => colE_o h3 h he
  have HCR : Hid (∀ l e l', ordC [] c.order = (0, l) → rnkC l c.ranks = (e, l') → e ≠ 0 → colE c = e) := fun l e l' h h2 he => colE_r h3 h h2 he
  have HCI : Hid (∀ l l', ordC [] c.order = (0, l) → rnkC l c.ranks = (0, l') → colE c = ignC l' c.ignore) := fun l l' h h2 => colE_i h3 h h2
  generalize colE c = E at *
  have h4 : c.order.length ≤ 128 := by omega
  have h5 : c.ranks.length ≤ 128 := by omega
  clear h3
  go_enter Tryz.func40, Tryz.ntmps40
  go_wp2_with fail
  go_loopw [24] (fun i wr => ∃ (k : Nat) (lk : List Int), k ≤ c.order.length ∧ i = .int .i64 k ∧ Hid (ordC [] c.order = ordC lk (c.order.drop k)) ∧ Hid (Blk wr w.heap.size 25 #[.slice aR c.ranks.length cR, .slice aO c.order.length cO, .string (bs c.ignore)] ∧ Blk wr (w.heap.size + 1 + 1) 68 #[.map (some (w.heap.size + 1))] ∧ MapV wr (w.heap.size + 1) (oneV lk)) ∧ Hid (Kept w wr)) (fun i _ => c.order.length - (intOf i).toNat)
  case atStart => exact ⟨0, [], Nat.zero_le _, rfl, rfl, (chk_start w _ _ _).1, (chk_start w _ _ _).2⟩
  case round =>
    obtain ⟨k, lk, hk, rfl, HP, HBS, HK⟩ := hrel
    have hm1 : w.heap.size ≤ w.heap.size + 1 := by omega
    by_cases hlt : k < c.order.length
    · obtain ⟨s, hx⟩ : ∃ x, c.order[k]? = some x := ⟨_, List.getElem?_eq_getElem hlt⟩
      have HSL := Lib.hid (S4.out s (List.mem_of_getElem? hx))
      obtain ⟨g, o, rfl, hg, d0, _, _⟩ := (HOO.out.kept HK.out).cell_of k s hx
      have HAT := Lib.hid (ordC_at lk c.order k s hx)
      rw [HAT.out] at HP
      have HRU := Lib.hid (fun w => rule_any s w (by have := HSL.out; omega))
      have HFR := Lib.hid (fun w' => fresh_any s lk (w.heap.size + 1 + 1) (w.heap.size + 1) w' (by have := HSL.out; omega))
      clear hx HAT
      generalize ruleB s = rb at *
      generalize addA lk (ptsL s) = A at *
      go_wp2_with fail
      refine (HRU.out _).mono ?_
      rintro e w1 ⟨rfl, hk1⟩
      have HK1 := Lib.hid (HK.out.trans hk1)
      have HB1 := Lib.hid (And.intro (HBS.out.1.kept hk1) (And.intro (HBS.out.2.1.kept hk1) (HBS.out.2.2.kept hk1)))
      clear hk1 d0
      cases rb
      · rw [if_pos rfl] at HP
        have HE := Lib.hid (HCO.out _ _ HP.out (by decide))
        go_wp2_with fail
        go_ret
        exact ⟨by rw [HE.out]; rfl, HK1.out⟩
      rw [if_neg (by simp)] at HP
      go_wp2_with fail
      refine (HFR.out _ HB1.out.2.1 HB1.out.2.2).mono ?_
      rintro e w2 ⟨ho, hm⟩
      have HK2 := Lib.hid (only_kept HK1.out ho hm1)
      cases A with
      | none =>
        obtain rfl : e = .returned (.bool false) := hm
        have HE := Lib.hid (HCO.out 7 lk HP.out (by decide))
        clear ho
        go_wp2_with fail
        go_ret
        exact ⟨by rw [HE.out]; rfl, HK2.out⟩
      | some l' =>
        obtain ⟨rfl, hm2⟩ : e = .returned (.bool true) ∧ MapV w2 (w.heap.size + 1) (oneV l') := hm
        have HP2 : Hid (ordC [] c.order = ordC l' (c.order.drop (k + 1))) := HP
        have HB2 := Lib.hid (And.intro (HB1.out.1.onl ho (by omega)) (And.intro (HB1.out.2.1.onl ho (by omega)) hm2))
        clear ho hm2
        go_wp2_with fail
        go_roundw
        case rel => exact ⟨k + 1, l', by omega, by go_num, HP2.out, HB2.out, HK2.out⟩
        case measure => simp [intOf]; omega
    · have HP0 : Hid (ordC [] c.order = (0, lk)) := by
        have h := HP.out
        rw [List.drop_of_length_le (by omega)] at h
        exact h
      have HCR2 := Lib.hid (fun e l' h he => HCR.out lk e l' HP0.out h he)
      have HCI2 := Lib.hid (fun l' h => HCI.out lk l' HP0.out h)
      have b0 : wr.cell? ⟨w.heap.size, 0, none⟩ = some (.slice aR c.ranks.length cR) := HBS.out.1.cell 0 _ rfl
      have z0 := HBS.out.1.lt
      clear HP HCO HCR HCI HP0
      go_wp2_with fail
      clear b0 z0
      go_loopw [39] (fun i wr => ∃ (k : Nat) (l2 : List Int), k ≤ c.ranks.length ∧ i = .int .i64 k ∧ Hid (rnkC lk c.ranks = rnkC l2 (c.ranks.drop k)) ∧ Hid (Blk wr w.heap.size 25 #[.slice aR c.ranks.length cR, .slice aO c.order.length cO, .string (bs c.ignore)] ∧ Blk wr (w.heap.size + 1 + 1) 68 #[.map (some (w.heap.size + 1))] ∧ MapV wr (w.heap.size + 1) (oneV l2)) ∧ Hid (Kept w wr)) (fun i _ => c.ranks.length - (intOf i).toNat)
      case atStart => exact ⟨0, lk, Nat.zero_le _, rfl, rfl, HBS.out, HK.out⟩
      case round =>
        clear HBS HK
        obtain ⟨j, l2, hj, rfl, HP, HBS, HK⟩ := hrel
        by_cases hlt2 : j < c.ranks.length
        · obtain ⟨p, hx⟩ : ∃ x, c.ranks[j]? = some x := ⟨_, List.getElem?_eq_getElem hlt2⟩
          have HSL := Lib.hid (S5.out p (List.mem_of_getElem? hx))
          obtain ⟨g, o, rfl, hg, d0, d1, _, _⟩ := (HR.out.kept HK.out).cell_of j p hx
          have HAT := Lib.hid (rnkC_at l2 c.ranks j p hx)
          rw [HAT.out] at HP
          obtain ⟨x, y⟩ := p
          simp only at HSL d0 d1 HP
          have HR1 := Lib.hid (fun w => rule_any x w (by have := HSL.out; omega))
          have HR2 := Lib.hid (fun w => rule_any y w (by have := HSL.out; omega))
          have HN1 := Lib.hid (fun w => ccount_any x w (by have := HSL.out; omega))
          have HN2 := Lib.hid (fun w => ccount_any y w (by have := HSL.out; omega))
          have hx1 := ptsL_len x
          have hy1 := ptsL_len y
          have hx2 : x.length ≤ 1000 := HSL.out.1
          have hy2 : y.length ≤ 1000 := HSL.out.2
          have HFR := Lib.hid (fun w' => fresh_any x l2 (w.heap.size + 1 + 1) (w.heap.size + 1) w' (by omega))
          have HBX : Hid (∀ w', Kept (wr.alloc (.cells #[.string (bs x), .string (bs y)] 62)) w' → Blk w' wr.heap.size 62 #[.string (bs x), .string (bs y)]) := fun w' hk => (Blk.new wr 62 #[.string (bs x), .string (bs y)]).kept hk
          have HKX := Lib.hid (kept_alloc wr (.cells #[.string (bs x), .string (bs y)] 62))
          clear hx HAT
          generalize ruleB x = rx at *
          generalize ruleB y = ry at *
          generalize addA l2 (ptsL x) = A at *
          generalize (ptsL x).length = nx at *
          generalize (ptsL y).length = ny at *
          go_wp2_with fail
          refine (HR1.out _).mono ?_
          rintro e w1 ⟨rfl, hk1⟩
          have HBX1 := Lib.hid (HBX.out _ hk1)
          have HKX1 := Lib.hid (HKX.out.trans hk1)
          have e1 : w1.cell? ⟨wr.heap.size, 1, none⟩ = some (.string (bs y)) := HBX1.out.cell 1 _ rfl
          have z1 := HBX1.out.lt
          clear hk1 d0 d1 hg
          cases rx
          · rw [if_pos (.inl rfl)] at HP
            have HE := Lib.hid (HCR2.out _ _ HP.out (by decide))
            go_wp2_with fail
            go_ret
            exact ⟨by rw [HE.out]; rfl, HK.out.trans HKX1.out⟩
          go_wp2_with fail
          refine (HR2.out _).mono ?_
          rintro e w2 ⟨rfl, hk2⟩
          have HBX2 := Lib.hid (HBX1.out.kept hk2)
          have HKX2 := Lib.hid (HKX1.out.trans hk2)
          have f0 : w2.cell? ⟨wr.heap.size, 0, none⟩ = some (.string (bs x)) := HBX2.out.cell 0 _ rfl
          have z2 := HBX2.out.lt
          clear hk2 e1 z1
          cases ry
          · rw [if_pos (.inr rfl)] at HP
            have HE := Lib.hid (HCR2.out _ _ HP.out (by decide))
            go_wp2_with fail
            go_ret
            exact ⟨by rw [HE.out]; rfl, HK.out.trans HKX2.out⟩
          rw [if_neg (by simp)] at HP
          go_wp2_with fail
          refine (HN1.out _).mono ?_
          rintro e w3 ⟨rfl, hk3⟩
          have HBX3 := Lib.hid (HBX2.out.kept hk3)
          have HKX3 := Lib.hid (HKX2.out.trans hk3)
          have g1 : w3.cell? ⟨wr.heap.size, 1, none⟩ = some (.string (bs y)) := HBX3.out.cell 1 _ rfl
          have z3 := HBX3.out.lt
          clear hk3 f0 z2
          by_cases hn1 : 1 < nx
          · rw [if_pos (.inl hn1)] at HP
            have HE := Lib.hid (HCR2.out _ _ HP.out (by decide))
            go_wp2_with fail
            go_ret
            exact ⟨by rw [HE.out]; rfl, HK.out.trans HKX3.out⟩
          go_wp2_with fail
          refine (HN2.out _).mono ?_
          rintro e w4 ⟨rfl, hk4⟩
          have HBX4 := Lib.hid (HBX3.out.kept hk4)
          have HKX4 := Lib.hid (HKX3.out.trans hk4)
          have h0 : w4.cell? ⟨wr.heap.size, 0, none⟩ = some (.string (bs x)) := HBX4.out.cell 0 _ rfl
          have z4 := HBX4.out.lt
          clear hk4 g1 z3
          by_cases hn2 : 4 < ny
          · rw [if_pos (.inr hn2)] at HP
            have HE := Lib.hid (HCR2.out _ _ HP.out (by decide))
            go_wp2_with fail
            go_ret
            exact ⟨by rw [HE.out]; rfl, HK.out.trans HKX4.out⟩
          rw [if_neg (by omega)] at HP
          have HB4 := Lib.hid (And.intro (HBS.out.1.kept HKX4.out) (And.intro (HBS.out.2.1.kept HKX4.out) (HBS.out.2.2.kept HKX4.out)))
          have HK4 := Lib.hid (HK.out.trans HKX4.out)
          go_wp2_with fail
          refine (HFR.out _ HB4.out.2.1 HB4.out.2.2).mono ?_
          rintro e w5 ⟨ho, hm⟩
          have HK5 := Lib.hid (only_kept HK4.out ho hm1)
          clear h0 z4
          cases A with
          | none =>
            obtain rfl : e = .returned (.bool false) := hm
            have HE := Lib.hid (HCR2.out 7 l2 HP.out (by decide))
            clear ho
            go_wp2_with fail
            go_ret
            exact ⟨by rw [HE.out]; rfl, HK5.out⟩
          | some l' =>
            obtain ⟨rfl, hm2⟩ : e = .returned (.bool true) ∧ MapV w5 (w.heap.size + 1) (oneV l') := hm
            have HP2 : Hid (rnkC lk c.ranks = rnkC l' (c.ranks.drop (j + 1))) := HP
            have HB5 := Lib.hid (And.intro (HB4.out.1.onl ho (by omega)) (And.intro (HB4.out.2.1.onl ho (by omega)) hm2))
            clear ho hm2
            go_wp2_with fail
            go_roundw
            case rel => exact ⟨j + 1, l', by omega, by go_num, HP2.out, HB5.out, HK5.out⟩
            case measure => simp [intOf]; omega
        · have HP0 : Hid (rnkC lk c.ranks = (0, l2)) := by
            have h := HP.out
            rw [List.drop_of_length_le (by omega)] at h
            exact h
          have HE := Lib.hid (HCI2.out l2 HP0.out)
          have b2 : wr.cell? ⟨w.heap.size, 2, none⟩ = some (.string (bs c.ignore)) := HBS.out.1.cell 2 _ rfl
          have z0 := HBS.out.1.lt
          have HRU := Lib.hid (fun w => rule_any c.ignore w (by omega))
          have HFR := Lib.hid (fun w' => fresh_any c.ignore l2 (w.heap.size + 1 + 1) (w.heap.size + 1) w' (by omega))
          clear HP HP0 HCR2 HCI2
          generalize c.ignore = ig at *
          unfold ignC at HE
          by_cases hi : ig = []
          · rw [if_pos hi] at HE
            subst hi
            go_wp2_with fail
            go_ret
            exact ⟨by rw [HE.out]; rfl, HK.out⟩
          rw [if_neg hi] at HE
          have hi' : (ig == []) = false := by simpa using hi
          generalize ruleB ig = rb at *
          generalize addA l2 (ptsL ig) = A at *
          go_wp2_with fail
          refine (HRU.out _).mono ?_
          rintro e w1 ⟨rfl, hk1⟩
          have HK1 := Lib.hid (HK.out.trans hk1)
          have HB1 := Lib.hid (And.intro (HBS.out.1.kept hk1) (And.intro (HBS.out.2.1.kept hk1) (HBS.out.2.2.kept hk1)))
          have e2 : w1.cell? ⟨w.heap.size, 2, none⟩ = some (.string (bs ig)) := HB1.out.1.cell 2 _ rfl
          have z1 := HB1.out.1.lt
          clear hk1 b2 z0
          cases rb
          · rw [if_pos rfl] at HE
            go_wp2_with fail
            go_ret
            exact ⟨by rw [HE.out]; rfl, HK1.out⟩
          rw [if_neg (by simp)] at HE
          go_wp2_with fail
          refine (HFR.out _ HB1.out.2.1 HB1.out.2.2).mono ?_
          rintro e w2 ⟨ho, hm⟩
          have HK2 := Lib.hid (only_kept HK1.out ho hm1)
          clear ho e2 z1
          cases A with
          | none =>
            obtain rfl : e = .returned (.bool false) := hm
            have HE2 : Hid (E = 7) := HE
            go_wp2_with fail
            go_ret
            exact ⟨by rw [HE2.out]; rfl, HK2.out⟩
          | some l' =>
            obtain ⟨rfl, _⟩ : e = .returned (.bool true) ∧ MapV w2 (w.heap.size + 1) (oneV l') := hm
            have HE2 : Hid (E = 0) := HE
            go_wp2_with fail
            go_ret
            exact ⟨by rw [HE2.out]; rfl, HK2.out⟩
end Go.Proofs.YtpfbdgcgpghifaaGreatDoor
