/- Split, Indent and Trim of publisherref02. Conditions: lengths. -/
import Derived.Test.YtafcngdnngpdnaaGreatDoorK26
import Derived.Test.YtafcngdnngpdnaaGreatDoorK30
import Derived.Test.YtafcngdnngpdnaaGreatDoorK35
import Derived.Test.YtafcngdnngpdnaaGreatDoorK28
import Derived.Test.YtafcngdnngpdnaaGreatDoorK18
import Derived.BigQuiet

set_option linter.all false
namespace Go.Proofs.YtafcngdnngpdnaaGreatDoor
open Go.RowKit

set_option maxRecDepth 100000 in
set_option maxHeartbeats 3200000 in
theorem rsplit_own (t : Bs) (w : World) (ht : t.length ≤ 1100000) : Calls Tryz.prog 26 #[.string (bs t)] w (SliQ (linesL t) w) := by
  obtain ⟨i0', hi', hz0, hz1, hz2⟩ := info_parts Tryz.infoStr
  go_enter Tryz.func26, Tryz.ntmps26
  go_wp2_with fail
  go_loopw [3, 4, 5] (fun v fv i wr => ∃ (k fr : Nat) (xs : List Bs), k ≤ t.length ∧ i = .int .i64 k ∧ fv = .int .i64 fr ∧ fr ≤ k ∧ xs.length ≤ k ∧ wr.ownsRow w.heap.size 9 1 v xs.length (strCells xs) ∧ Hid (LineSt t k fr xs) ∧ Kept w wr) (fun _ _ i _ => t.length - (intOf i).toNat)
  case atStart => exact ⟨0, 0, [], Nat.zero_le _, rfl, rfl, Nat.zero_le _, Nat.le_refl _, World.ownsRow_nil _ _ _ _, LineSt.start t, Kept.refl _⟩
  case round =>
    obtain ⟨k, fr, xs, hk, rfl, rfl, hfr, hxl, hown, HS, hkr⟩ := hrel
    have hsz : w.heap.size ≤ wr.heap.size := hkr.size
    have HKR := Lib.hid hkr
    have HOWN := Lib.hid hown
    clear hkr hown
    by_cases hlt : k < t.length
    · have i0 := run_ix (P := Tryz.prog) (t := 9) Tryz.underlying9 t k hlt k rfl
      have HC : Hid (at8 t k = 10 ↔ t[k] = 10) := by show _ ↔ _; rw [at8_get t k hlt]; exact u8_int _ 10 (by decide)
      by_cases hb : at8 t k = 10
      · obtain ⟨hst, hfk⟩ := HS.out.feed hlt (HC.out.1 hb)
        have sl := run_sub (P := Tryz.prog) (t := 9) Tryz.underlying9 t fr k hfk (by omega) fr k rfl rfl _ rfl
        have HST := Lib.hid hst
        have hown := HOWN.out
        have hb' : (at8 t k == 10) = true := by simpa using hb
        generalize (t.drop fr).take (k - fr) = y at *
        generalize at8 t k = b at *
        clear hst HC hb
        go_wp2_with (at_builtin; refine wpList_append_own _ rfl _ _ 45 rfl w.heap.size 9 i0' (.string ⟨#[]⟩) 1 16 Tryz.underlying45 hi' hz0 hz1 hz2 rfl (by decide) _ _ _ rfl (hown.alloc _) ⟨wr.heap.size, 0, none⟩ 1 1 [.string (bs y)] rfl rfl ?_ ?_ ?_ ?_ ?_ ?_)
        · exact new_cells _ #[.string (bs y)] _ _ (by simp)
        · intro u hu; simp at hu; subst hu; rfl
        · unfold maxLen; omega
        · omega
        · simp; omega
        intro v' w2 hown2 hgrow _
        have HB2 := Lib.hid ((HKR.out.trans (kept_alloc wr _)).trans' (grown_below (hown.alloc _) hgrow (by simp; omega)))
        rw [← strCells_snoc] at hown2
        have HO := Lib.hid hown2
        clear hown2 hgrow hown
        go_wp2_with fail
        go_roundw
        case rel => exact ⟨k + 1, k + 1, xs ++ [y], by omega, by go_num, by go_num, by omega, by simp; omega, by simpa using HO.out, HST.out, HB2.out⟩
        case measure => simp [intOf]; omega
      · obtain ⟨hst, hfk⟩ := HS.out.other hlt (fun q => hb (HC.out.2 q))
        have HST := Lib.hid hst
        have hb' : (at8 t k == 10) = false := by simpa using hb
        generalize at8 t k = b at *
        clear hst HC hb
        go_wp2_with fail
        go_roundw
        case rel => exact ⟨k + 1, fr, xs, by omega, by go_num, rfl, by omega, by omega, HOWN.out, HST.out, HKR.out⟩
        case measure => simp [intOf]; omega
    · obtain rfl : k = t.length := by omega
      obtain ⟨hfl, hfin⟩ := HS.out.done
      have HFIN := Lib.hid hfin
      clear hfin
      by_cases hq : fr < t.length
      · rw [if_pos hq] at HFIN
        have sl := run_from (P := Tryz.prog) (t := 9) Tryz.underlying9 t fr hfl fr rfl _ rfl
        have hown := HOWN.out
        generalize t.drop fr = y at *
        go_wp2_with (at_builtin; refine wpList_append_own _ rfl _ _ 45 rfl w.heap.size 9 i0' (.string ⟨#[]⟩) 1 16 Tryz.underlying45 hi' hz0 hz1 hz2 rfl (by decide) _ _ _ rfl (hown.alloc _) ⟨wr.heap.size, 0, none⟩ 1 1 [.string (bs y)] rfl rfl ?_ ?_ ?_ ?_ ?_ ?_)
        · exact new_cells _ #[.string (bs y)] _ _ (by simp)
        · intro u hu; simp at hu; subst hu; rfl
        · unfold maxLen; omega
        · omega
        · simp; omega
        intro v' w2 hown2 hgrow _
        have HB2 := Lib.hid ((HKR.out.trans (kept_alloc wr _)).trans' (grown_below (hown.alloc _) hgrow (by simp; omega)))
        rw [← strCells_snoc] at hown2
        have hown3 : w2.ownsRow w.heap.size 9 1 v' (xs ++ [y]).length (strCells (xs ++ [y])) := by simpa using hown2
        have HO : Hid (Strs w2 v' (xs ++ [y]) ∧ BaseB w.heap.size v' (xs ++ [y])) := ⟨Strs.own hown3, BaseB.own hown3⟩
        clear hown3
        clear hown2 hgrow hown
        go_wp2_with fail
        go_ret
        exact ⟨_, rfl, by rw [HFIN.out]; exact HO.out.1, by rw [HFIN.out]; exact HO.out.2, HB2.out⟩
      · rw [if_neg hq, List.append_nil] at HFIN
        have HO := Lib.hid (And.intro (Strs.own HOWN.out) (BaseB.own HOWN.out))
        go_wp2_with fail
        go_ret
        exact ⟨_, rfl, by rw [HFIN.out]; exact HO.out.1, by rw [HFIN.out]; exact HO.out.2, HKR.out⟩

end Go.Proofs.YtafcngdnngpdnaaGreatDoor

/- Parse of publisherref31 . Conditions: lengths. -/
set_option linter.all false
namespace Go.Proofs.YtafcngdnngpdnaaGreatDoor
open Go.RowKit

set_option maxRecDepth 100000 in
set_option maxHeartbeats 12800000 in
theorem rparse31_any (t : Bs) (w : World) (ht : t.length ≤ 9000) : Calls Tryz.prog 11 #[.string (bs t)] w (ParP (parL (linesL t)) w) := by
  have HLS := Lib.hid (fun w => rsplit_own t w (by omega))
  unfold SliQ at HLS
  have HSM := Lib.hid (par_small t ht)
  have hln := lines_len t
  have HLM : Hid (∀ x ∈ linesL t, x.length ≤ 9000) := fun x hx => by have := split_mem 10 _ t (Nat.le_refl _) x (lines_sub t x hx); omega
  obtain ⟨ls, HLE⟩ : ∃ ls, Hid (linesL t = ls) := ⟨_, rfl⟩
  rw [HLE.out] at HLS HSM hln HLM ⊢
  have HERR : Hid (∀ (n e : Int), parL ls = (zeroY, n, e) → ∀ w', Kept w w' → ParP (parL ls) w (.returned (.tuple #[styV (.slice none 0 0) zeroY, .int .i64 n, .int .i64 e])) w') := fun n e h w' k => by
    rw [h]
    exact ⟨_, rfl, ⟨none, 0, rfl, Nat.le_refl _, fun q => absurd q (by simp [zeroY])⟩, k⟩
  have HOKK : Hid (∀ y, parL ls = (y, 0, 0) → ∀ vE w', Prs w' vE y.entries → Kept w w' → ParP (parL ls) w (.returned (.tuple #[styV vE y, .int .i64 0, .int .i64 0])) w') := fun y h vE w' hp k => by
    rw [h]
    exact ⟨_, rfl, hp, k⟩
  generalize hP : ParP (parL ls) w = P at *
  clear hP HLE
  have HR0 := Lib.hid (Blk.new w 24 #[.string (bs []), .bool false, .string (bs []), .string (bs []), .string (bs []), .string (bs []), .string (bs []), .string (bs []), .int .i64 0, .slice none 0 0])
  have HK0 := Lib.hid (kept_alloc w (.cells #[.string (bs []), .bool false, .string (bs []), .string (bs []), .string (bs []), .string (bs []), .string (bs []), .string (bs []), .int .i64 0, .slice none 0 0] 24))
  go_enter Tryz.func11, Tryz.ntmps11
  go_wp2_with fail
  generalize w.alloc _ = w0 at *
  obtain ⟨R, HRR⟩ : ∃ R, Hid (w.heap.size = R) := ⟨_, rfl⟩
  have hRz : w.heap.size ≤ R := by rw [HRR.out]; exact Nat.le_refl _
  rw [HRR.out] at HR0 ⊢
  refine (HLS.out _).mono ?_
  rintro e w1 ⟨v, rfl, hst, -, hk1⟩
  have HST1 := Lib.hid hst
  have HK1 := Lib.hid (HK0.out.trans hk1)
  have HR1 := Lib.hid (HR0.out.kept hk1)
  obtain ⟨a, c, rfl, hc⟩ := hst.form
  clear hst hk1 HK0 HR0 HLS HRR
  go_wp2_with fail
  refine (rheads_any _).mono ?_
  rintro e w2 ⟨v, rfl, hst, hk2⟩
  have HHD2 := Lib.hid hst
  have HK2 := Lib.hid (HK1.out.trans hk2)
  have HR2 := Lib.hid (HR1.out.kept hk2)
  have HST2 := Lib.hid (HST1.out.kept hk2)
  obtain ⟨a2, c2, rfl, hc2⟩ := hst.form
  clear hst hk2 HK1 HR1 HST1
  have HY0 := Lib.hid (Blk.new w2 24 #[.string (bs []), .bool false, .string (bs []), .string (bs []), .string (bs []), .string (bs []), .string (bs []), .string (bs []), .int .i64 0, .slice none 0 0])
  have HKY := Lib.hid (kept_alloc w2 (.cells #[.string (bs []), .bool false, .string (bs []), .string (bs []), .string (bs []), .string (bs []), .string (bs []), .string (bs []), .int .i64 0, .slice none 0 0] 24))
  go_wp2_with fail
  have HKW := Lib.hid (HK2.out.trans HKY.out)
  have HR3 := Lib.hid (HR2.out.kept HKY.out)
  have HST2 := Lib.hid (HST2.out.kept HKY.out)
  have HHD3 := Lib.hid (HHD2.out.kept HKY.out)
  generalize w2.alloc _ = w3 at *
  obtain ⟨Y, HYY⟩ : ∃ Y, Hid (w2.heap.size = Y) := ⟨_, rfl⟩
  have hYz : w.heap.size ≤ Y := by rw [← HYY.out]; exact HK2.out.size
  have hYz2 : w2.heap.size ≤ Y := by rw [← HYY.out]; exact Nat.le_refl _
  have hRY : R < Y := by rw [← HYY.out]; exact HR2.out.lt
  rw [HYY.out] at HY0 ⊢
  clear HR3 HST2 HHD3 HKW HYY
  go_loopw [8] (fun i wr => ∃ (k : Nat) (vE : Value) (es : List Pr), i = .int .i64 k ∧ Hid (k ≤ 9 ∨ k ≤ ls.length) ∧ Hid (∀ j, j < 9 → j < k → hdGood ls j = true) ∧ Hid (∀ j, j < k - 9 → (entR ((ls.drop 9).getD j [])).isNone = false) ∧ Hid (es = ((ls.drop 9).take (k - 9)).filterMap entR) ∧ Hid (wr.ownsRow (Y + 1) 35 2 vE es.length (pairC es)) ∧ Hid (Blk wr Y 24 (styCells vE { foldY ls (min k 9) with entries := es })) ∧ Hid (Kept w2 wr)) (fun i _ => ls.length + 10 - (intOf i).toNat)
  case atStart => exact ⟨0, .slice none 0 0, [], rfl, .inl (by omega), (fun j h1 h2 => by omega), (fun j h => by omega), (by show _ = _; simp), World.ownsRow_nil _ _ _ _, HY0.out, HKY.out⟩
  case round =>
    obtain ⟨k, vE, es, rfl, HKL, HGD, HEN, HES, HOW, HY, HKR⟩ := hrel
    have HR := Lib.hid (HR2.out.kept HKR.out)
    have HK := Lib.hid (HK2.out.trans HKR.out)
    have HOB := Lib.hid (fun g hg => HOW.out.lt g hg)
    obtain ⟨aE, cE, rfl, -, -, -⟩ := own_cap HOW.out
    by_cases hk9 : k < 9
    · by_cases hl : k < ls.length
      · have hx := List.getElem?_eq_getElem hl
        have hh : headsL[k]? = some (headsL.getD k []) := by
          rw [List.getD_eq_getElem?_getD, List.getElem?_eq_getElem (show k < headsL.length from hk9)]; rfl
        obtain ⟨g, o, rfl, hg, d0, -, -⟩ := (HST2.out.kept HKR.out).cell_of k _ hx
        obtain ⟨g2, o2, rfl, hg2, e0, -, -⟩ := (HHD2.out.kept HKR.out).cell_of k _ hh
        have hxl := HLM.out _ (List.getElem_mem hl)
        have hhl := heads_len k
        obtain rfl : es = [] := by rw [HES.out, show k - 9 = 0 by omega]; simp
        have hfy : { foldY ls (min k 9) with entries := [] } = foldY ls k := by
          rw [show min k 9 = k by omega]
          have := foldY_entries ls k
          generalize foldY ls k = y at *
          cases y
          simp only at this
          rw [this]
        have hfy2 : { foldY ls (min (k + 1) 9) with entries := [] } = foldY ls (k + 1) := by
          rw [show min (k + 1) 9 = k + 1 by omega]
          have := foldY_entries ls (k + 1)
          generalize foldY ls (k + 1) = y at *
          cases y
          simp only at this
          rw [this]
        rw [hfy] at HY
        have HBG := Lib.hid (fun w => rbegins_any ls[k] (headsL.getD k []) w (by omega) (by omega))
        have HSET := Lib.hid (fun v w hv => rset_any (foldY ls k) aE 0 cE k hk9 v w hv)
        unfold SetP at HSET
        obtain ⟨v, HV⟩ : ∃ v, Hid ((cutP (headsL.getD k []) ls[k]).getD [] = v) := ⟨_, Lib.hid rfl⟩
        obtain ⟨ok, HOK⟩ : ∃ b, Hid ((cutP (headsL.getD k []) ls[k]).isSome = b) := ⟨_, Lib.hid rfl⟩
        obtain ⟨fb, HFB⟩ : ∃ b, Hid (vOk k v = b) := ⟨_, Lib.hid rfl⟩
        have HVL : Hid (v.length ≤ 9223372036854775807) := by
          show _ ≤ _
          rw [← HV.out]
          cases hc : cutP (headsL.getD k []) ls[k] with
          | none => simp
          | some u =>
            have := (cutP_len hc).1
            simp only [Option.getD_some]
            rw [this, List.length_drop]; omega
        have HFALL : Hid (ok = false ∨ fb = false → hdGood ls k = false) := fun h => by
          cases hc : cutP (headsL.getD k []) ls[k] with
          | none => exact hdGood_bad hx hc
          | some u =>
            have hok := HOK.out
            have hv := HV.out
            rw [hc] at hok hv
            simp only [Option.isSome_some, Option.getD_some] at hok hv
            rw [(hdGood_some hx hc).1, hv, HFB.out]
            rcases h with h | h
            · rw [← hok] at h; cases h
            · exact h
        have HGO : Hid (ok = true → fb = true → hdGood ls k = true ∧ setY (foldY ls k) k v = foldY ls (k + 1)) := fun h1 h2 => by
          cases hc : cutP (headsL.getD k []) ls[k] with
          | none =>
            have hok := HOK.out
            rw [hc, h1] at hok
            cases hok
          | some u =>
            have hv := HV.out
            rw [hc] at hv
            simp only [Option.getD_some] at hv
            obtain ⟨q1, q2⟩ := hdGood_some hx hc
            rw [hv] at q1 q2
            exact ⟨by rw [q1, HFB.out, h2], by rw [foldY, q2]⟩
        rw [HV.out, HOK.out] at HBG
        have HSV := Lib.hid (fun w => HSET.out v w HVL.out)
        rw [HFB.out] at HSV
        obtain ⟨y2, HY2⟩ : ∃ y, Hid (setY (foldY ls k) k v = y) := ⟨_, rfl⟩
        rw [HY2.out] at HSV HGO
        have HGD1 := Lib.hid (HGD.out)
        obtain ⟨y1, HY1⟩ : ∃ y, Hid (foldY ls k = y) := ⟨_, rfl⟩
        rw [HY1.out] at HSV HY
        have HBGQ : Hid (∀ w, Calls Tryz.prog 27 #[.string (bs ls[k]), .string (bs (headsL.getD k []))] w fun e w' => e = .returned (.tuple #[.string (bs v), .bool ok]) ∧ w' = w) := fun w => (HBG.out w).mono fun e w' h => ⟨h.1, h.2.symm⟩
        clear hx hh hfy HBG HSET HV HOK HFB HVL hhl hxl HY1 HY2
        generalize ls[k] = x at *
        generalize headsL.getD k [] = hd at *
        have i1 : (k : Int) < (headsL.length : Int) := by show (k : Int) < 9; omega
        go_wp2_with fail
        go_quiet ((go_at_call 27; exact Calls.quiet_of_same (HBGQ.out _)))
        have HY5 := Lib.hid (HY.out.kept (kept_drewN wr nq))
        have HK5 := Lib.hid (HK.out.trans (kept_drewN wr nq))
        have HKR5 := Lib.hid (HKR.out.trans (kept_drewN wr nq))
        have HO5 := Lib.hid (own_kept HOW.out (kept_drewN wr nq))
        clear HBGQ HY HK HKR HOW HR d0 e0 hg hg2 i1
        generalize wr.drewN nq = w5 at *
        go_wp2_with (refine wpList_load_blk (by rfl) 24 (.tmp 7) (by rfl) Y _ (by rfl) HY5.out _ Tryz.underlying24 rfl Tryz.sizeSty ?_)
        refine (HSV.out _).mono ?_
        rintro e w6 ⟨rfl, hk6⟩
        have HY6 := Lib.hid (HY5.out.kept hk6)
        have HK6 := Lib.hid (HK5.out.trans hk6)
        have HKR6 := Lib.hid (HKR5.out.trans hk6)
        have HO6 := Lib.hid (own_kept HO5.out hk6)
        clear hk6 HSV HY5 HK5 HKR5 HO5
        cases ok with
        | false =>
          have HRES : Hid (parL ls = (zeroY, (k : Int) + 1, 5)) := parL_head hk9 (fun j h => HGD1.out j (by omega) h) (HFALL.out (.inl rfl))
          clear HFALL HGO
          go_wp2_with (first
            | (refine wpList_store_blk rfl 24 (.tmp 2) (.tmp 62) (by rfl) R _ (styCells (.slice none 0 0) zeroY) (by rfl) (by rfl) HR7.out rfl Tryz.sizeSty (sty_one _ rfl zeroY) ?_; intro w9 hb9 ho9; have HF := Lib.hid (HERR.out _ _ HRES.out w9 (only_kept HK7.out ho9 hRz)); obtain ⟨⟨r0, r1, r2, r3, r4, r5, r6, r7, r8, r9⟩, rz⟩ := sty_cells hb9; simp only [zeroY] at r0 r1 r2 r3 r4 r5 r6 r7 r8 r9; clear hb9 ho9)
            | (refine wpList_store_blk rfl 24 (.tmp 7) (.tmp 54) (by rfl) Y _ (styCells (.slice aE 0 cE) y2) (by rfl) (by rfl) HY6.out rfl Tryz.sizeSty (sty_one _ rfl y2) ?_; intro w7 hb7 ho7; have HY7 := Lib.hid hb7; have HO7 := Lib.hid (ho7.own HO6.out (fun g hg q => by have := HOB.out g hg; omega)); have HKR7 := Lib.hid (only_kept HKR6.out ho7 hYz2); have HK7 := Lib.hid (only_kept HK6.out ho7 hYz); have HR7 := Lib.hid (HR2.out.kept HKR7.out); clear hb7 ho7))
          refine bodyPost_ret (v := .tuple #[styV (.slice none 0 0) zeroY, .int .i64 (k + 1), .int .i64 5]) ?_ rfl HF.out
          simp [results, Tryz.results11, go_sem, r0, r1, r2, r3, r4, r5, r6, r7, r8, r9, rz, styV, styCells, zeroY]
        | true =>
          cases fb with
          | false =>
            have HRES : Hid (parL ls = (zeroY, (k : Int) + 1, 5)) := parL_head hk9 (fun j h => HGD1.out j (by omega) h) (HFALL.out (.inr rfl))
            clear HFALL HGO
            go_wp2_with (first
              | (refine wpList_store_blk rfl 24 (.tmp 2) (.tmp 62) (by rfl) R _ (styCells (.slice none 0 0) zeroY) (by rfl) (by rfl) HR7.out rfl Tryz.sizeSty (sty_one _ rfl zeroY) ?_; intro w9 hb9 ho9; have HF := Lib.hid (HERR.out _ _ HRES.out w9 (only_kept HK7.out ho9 hRz)); obtain ⟨⟨r0, r1, r2, r3, r4, r5, r6, r7, r8, r9⟩, rz⟩ := sty_cells hb9; simp only [zeroY] at r0 r1 r2 r3 r4 r5 r6 r7 r8 r9; clear hb9 ho9)
              | (refine wpList_store_blk rfl 24 (.tmp 7) (.tmp 54) (by rfl) Y _ (styCells (.slice aE 0 cE) y2) (by rfl) (by rfl) HY6.out rfl Tryz.sizeSty (sty_one _ rfl y2) ?_; intro w7 hb7 ho7; have HY7 := Lib.hid hb7; have HO7 := Lib.hid (ho7.own HO6.out (fun g hg q => by have := HOB.out g hg; omega)); have HKR7 := Lib.hid (only_kept HKR6.out ho7 hYz2); have HK7 := Lib.hid (only_kept HK6.out ho7 hYz); have HR7 := Lib.hid (HR2.out.kept HKR7.out); clear hb7 ho7))
            refine bodyPost_ret (v := .tuple #[styV (.slice none 0 0) zeroY, .int .i64 (k + 1), .int .i64 5]) ?_ rfl HF.out
            simp [results, Tryz.results11, go_sem, r0, r1, r2, r3, r4, r5, r6, r7, r8, r9, rz, styV, styCells, zeroY]
          | true =>
            obtain ⟨hgd, hyy⟩ := HGO.out rfl rfl
            have HNG : Hid (∀ j, j < 9 → j < k + 1 → hdGood ls j = true) := fun j h1 h2 => by
              rcases Nat.lt_or_ge j k with q | q
              · exact HGD1.out j h1 q
              · obtain rfl : j = k := by omega
                exact hgd
            have HYS : Hid (y2 = { foldY ls (min (k + 1) 9) with entries := [] }) := by show _ = _; rw [hfy2]; exact hyy
            clear hgd hyy HFALL HGO
            go_wp2_with (refine wpList_store_blk rfl 24 (.tmp 7) (.tmp 54) (by rfl) Y _ (styCells (.slice aE 0 cE) y2) (by rfl) (by rfl) HY6.out rfl Tryz.sizeSty (sty_one _ rfl y2) ?_; intro w7 hb7 ho7; have HY7 := Lib.hid hb7; have HO7 := Lib.hid (ho7.own HO6.out (fun g hg q => by have := HOB.out g hg; omega)); have HKR7 := Lib.hid (only_kept HKR6.out ho7 hYz2); have HK7 := Lib.hid (only_kept HK6.out ho7 hYz); have HR7 := Lib.hid (HR2.out.kept HKR7.out); clear hb7 ho7)
            go_roundw
            case rel => exact ⟨k + 1, .slice aE 0 cE, [], by go_num, .inl (by omega), HNG.out, (fun j h => by omega), (by show _ = _; rw [show k + 1 - 9 = 0 by omega]; simp), HO7.out, (by show Blk _ _ _ _; rw [← HYS.out]; exact HY7.out), HKR7.out⟩
            case measure => simp [intOf]; omega
      · have HRES : Hid (parL ls = (zeroY, (k : Int) + 1, 5)) := parL_head hk9 (fun j h => HGD.out j (by omega) h) (hdGood_none (List.getElem?_eq_none (by omega)))
        go_wp2_with (refine wpList_store_blk rfl 24 (.tmp 2) (.tmp 32) (by rfl) R _ (styCells (.slice none 0 0) zeroY) (by rfl) (by rfl) HR.out rfl Tryz.sizeSty (sty_one _ rfl zeroY) ?_; intro w9 hb9 ho9; have HF := Lib.hid (HERR.out _ _ HRES.out w9 (only_kept HK.out ho9 hRz)); obtain ⟨⟨r0, r1, r2, r3, r4, r5, r6, r7, r8, r9⟩, rz⟩ := sty_cells hb9; simp only [zeroY] at r0 r1 r2 r3 r4 r5 r6 r7 r8 r9; clear hb9 ho9)
        refine bodyPost_ret (v := .tuple #[styV (.slice none 0 0) zeroY, .int .i64 (k + 1), .int .i64 5]) ?_ rfl HF.out
        simp [results, Tryz.results11, go_sem, r0, r1, r2, r3, r4, r5, r6, r7, r8, r9, rz, styV, styCells, zeroY]
    · by_cases hl : k < ls.length
      · have hx := List.getElem?_eq_getElem hl
        obtain ⟨g, o, rfl, hg, d0, -, -⟩ := (HST2.out.kept HKR.out).cell_of k _ hx
        have hxl := HLM.out _ (List.getElem_mem hl)
        have HEC := Lib.hid (fun w => rentry_any ls[k] w (by omega))
        unfold EntP at HEC
        have HGE : Hid ((ls.drop 9).getD (k - 9) [] = ls[k]) := by
          show _ = _
          rw [List.getD_eq_getElem?_getD, List.getElem?_drop, show 9 + (k - 9) = k by omega, hx]; rfl
        have HG9 : Hid (∀ j, j < 9 → hdGood ls j = true) := fun j h => HGD.out j h (by omega)
        have HBAD : Hid (entR ls[k] = none → parL ls = (zeroY, (k : Int) + 1, 5)) := fun h => by
          have := parL_ent (i := k - 9) HG9.out (by rw [List.length_drop]; omega) HEN.out (by rw [HGE.out, h]; rfl)
          rw [this]
          congr 2
          omega
        have HGX : Hid ((ls.drop 9)[k - 9]? = some ls[k]) := by
          show _ = _
          rw [List.getElem?_drop, show 9 + (k - 9) = k by omega, hx]
        clear hx
        generalize ls[k] = x at *
        go_wp2_with fail
        refine (HEC.out _).mono ?_
        rintro e w5 ⟨rfl, hk5⟩
        have HK5 := Lib.hid (HK.out.trans hk5)
        have HY5 := Lib.hid (HY.out.kept hk5)
        have HR5 := Lib.hid (HR.out.kept hk5)
        have HKW5 := Lib.hid (HKR.out.trans hk5)
        have HO5 := Lib.hid (own_kept HOW.out hk5)
        clear hk5 HEC HR HY HK HKR HOW
        cases hent : entR x with
        | none =>
          have HRES := Lib.hid (HBAD.out hent)
          have HR6 := Lib.hid (HR5.out.kept (kept_alloc w5 (.cells #[.string (bs []), .string (bs [])] 35)))
          have HK6 := Lib.hid (HK5.out.trans (kept_alloc w5 (.cells #[.string (bs []), .string (bs [])] 35)))
          clear hent
          go_wp2_with (refine wpList_store_blk rfl 24 (.tmp 2) (.tmp 75) (by rfl) R _ (styCells (.slice none 0 0) zeroY) (by rfl) (by rfl) HR6.out rfl Tryz.sizeSty (sty_one _ rfl zeroY) ?_; intro w9 hb9 ho9; have HF := Lib.hid (HERR.out _ _ HRES.out w9 (only_kept HK6.out ho9 hRz)); obtain ⟨⟨r0, r1, r2, r3, r4, r5, r6, r7, r8, r9⟩, rz⟩ := sty_cells hb9; simp only [zeroY] at r0 r1 r2 r3 r4 r5 r6 r7 r8 r9; clear hb9 ho9)
          refine bodyPost_ret (v := .tuple #[styV (.slice none 0 0) zeroY, .int .i64 (k + 1), .int .i64 5]) ?_ rfl HF.out
          simp [results, Tryz.results11, go_sem, r0, r1, r2, r3, r4, r5, r6, r7, r8, r9, rz, styV, styCells, zeroY]
        | some p =>
          have HFM : Hid (((ls.drop 9).take (k + 1 - 9)).filterMap entR = es ++ [p]) := by
            show _ = _
            rw [show k + 1 - 9 = (k - 9) + 1 by omega, fmap_next (ls.drop 9) (k - 9) x p HGX.out hent, HES.out]
          have HNN : Hid (∀ j, j < k + 1 - 9 → (entR ((ls.drop 9).getD j [])).isNone = false) := fun j hj => by
            rcases Nat.lt_or_ge j (k - 9) with q | q
            · exact HEN.out j q
            · obtain rfl : j = k - 9 := by omega
              rw [HGE.out, hent]; rfl
          have hes : es.length ≤ 9001 := by
            rw [HES.out]
            have := List.length_filterMap_le entR ((ls.drop 9).take (k - 9))
            rw [List.length_take, List.length_drop] at this
            omega
          have hm1 : min k 9 = 9 := by omega
          have hm2 : min (k + 1) 9 = 9 := by omega
          rw [hm1] at HY5
          obtain ⟨X, Z⟩ := p
          clear hent HBAD HES HEN HGE HGX HR5 hm1
          have HB1 := Lib.hid ((HY5.out.alloc (.cells #[.string (bs X), .string (bs Z)] 35)).alloc (.cells #[.string (bs X), .string (bs Z)] 35))
          have HO1 := Lib.hid ((HO5.out.alloc (.cells #[.string (bs X), .string (bs Z)] 35)).alloc (.cells #[.string (bs X), .string (bs Z)] 35))
          have HK1 := Lib.hid ((HKW5.out.trans (kept_alloc w5 (.cells #[.string (bs X), .string (bs Z)] 35))).trans (kept_alloc (w5.alloc (.cells #[.string (bs X), .string (bs Z)] 35)) (.cells #[.string (bs X), .string (bs Z)] 35)))
          have HBQ := Lib.hid (Blk.new (w5.alloc (.cells #[.string (bs X), .string (bs Z)] 35)) 35 #[.string (bs X), .string (bs Z)])
          have e1 : (w5.alloc (.cells #[.string (bs X), .string (bs Z)] 35)).heap.size = w5.heap.size + 1 := by simp
          rw [e1] at HBQ
          have y9 : w5.cell? ⟨Y, 9, none⟩ = some (.slice aE es.length cE) := HY5.out.cell 9 _ rfl
          have zY := HY5.out.lt
          have hlt9 := HB1.out.lt
          clear e1
          go_wp2_with (at_builtin; refine wpList_append_pr _ (by rfl) (.tmp 79) (.tmp 81) (by rfl) (Y + 1) _ es (by rfl) HO1.out (X, Z) (w5.heap.size + 1) (by rfl) HBQ.out (by omega) hlt9 ?_; intro v9 w9 hown9 hgrow9; have HB9 : Hid (Blk w9 Y 24 _) := (hgrow9.block Y hlt9 (own_far HO1.out Y (Nat.lt_succ_self _))).trans HB1.out; have HK9 := Lib.hid (HK1.out.trans' (grown_below (own_mono HO1.out (show w2.heap.size ≤ Y + 1 by omega)) hgrow9 HK1.out.size)); have y9' : w9.cell? ⟨Y, 9, none⟩ = some (.slice aE es.length cE) := HB9.out.cell 9 _ rfl; have f9 := HB9.out.free 9; have z9 := HB9.out.lt; rw [List.length_append, List.length_singleton] at hown9; have HO9 := Lib.hid hown9; obtain ⟨a5, c5, rfl, -, -, -⟩ := own_cap hown9; clear hown9 hgrow9)
          have HBN : Hid (Blk (w9.setCell ⟨Y, 9, none⟩ (.slice a5 (es.length + 1) c5)) Y 24 (styCells (.slice a5 (es.length + 1) c5) { foldY ls 9 with entries := es ++ [(X, Z)] })) := HB9.out.set 9 _
          have HON : Hid ((w9.setCell ⟨Y, 9, none⟩ (.slice a5 (es.length + 1) c5)).ownsRow (Y + 1) 35 2 (.slice a5 (es.length + 1) c5) (es.length + 1) (pairC (es ++ [(X, Z)]))) := (Only.setCell Y 9 _).own HO9.out (fun g hg q => own_far HO9.out Y (Nat.lt_succ_self _) (by rw [hg, q]))
          have HKN := Lib.hid (kept_set HK9.out Y 9 (.slice a5 (es.length + 1) c5) hYz2)
          go_roundw
          case rel => exact ⟨k + 1, _, es ++ [(X, Z)], by go_num, .inr (by omega), (fun j h1 h2 => HG9.out j h1), HNN.out, HFM.out.symm, (by show World.ownsRow _ _ _ _ _ _ _; rw [List.length_append]; exact HON.out), (by show Blk _ _ _ _; rw [hm2]; exact HBN.out), HKN.out⟩
          case measure => simp [intOf]; omega
      · have hE2 : Hid (es = (ls.drop 9).filterMap entR) := by
          show _ = _
          rw [HES.out, List.take_of_length_le (by rw [List.length_drop]; omega)]
        have HG9 : Hid (∀ j, j < 9 → hdGood ls j = true) := fun j h => HGD.out j h (by omega)
        have HEA : Hid (∀ j, j < (ls.drop 9).length → (entR ((ls.drop 9).getD j [])).isNone = false) := fun j h => HEN.out j (by rw [List.length_drop] at h; omega)
        have HRES := Lib.hid (parL_end HG9.out HEA.out)
        have HYP : Hid ({ foldY ls (min k 9) with entries := es } = parY ls) := by
          show _ = _
          rw [show min k 9 = 9 by omega, hE2.out]
          exact foldY_end ls (hd_eight (HG9.out 8 (by omega))).2
        have hel : es = (parY ls).entries := by rw [← HYP.out]
        rw [HYP.out] at HY
        have HPE := Lib.hid (Prs.own HOW.out)
        rw [hel] at HPE HY HOW
        have HCK := Lib.hid (fun w h => rcheck31_any (.slice aE (parY ls).entries.length cE) (parY ls) w HSM.out h)
        clear HYP HES HEN HGD hE2 HG9 HEA hel
        generalize parY ls = y at *
        unfold styV at HCK
        go_wp2_with (refine wpList_load_blk (by rfl) 24 (.tmp 7) (by rfl) Y _ (by rfl) HY.out _ Tryz.underlying24 rfl Tryz.sizeSty ?_)
        refine (HCK.out _ HPE.out).mono ?_
        rintro e w5 ⟨rfl, hk5⟩
        have HK5 := Lib.hid (HK.out.trans hk5)
        have HY5 := Lib.hid (HY.out.kept hk5)
        have HR5 := Lib.hid (HR.out.kept hk5)
        have HO5 := Lib.hid (own_kept HOW.out hk5)
        have HOB2 := Lib.hid (fun g hg => HOW.out.lt g hg)
        clear hk5 HCK HPE HK HY HR HOW
        by_cases hst : styE y = 0
        · rw [if_pos hst] at HRES
          rw [hst]
          go_wp2_with (first
            | (refine wpList_store_blk rfl 24 (.tmp 2) (.tmp 90) (by rfl) R _ (styCells (.slice aE y.entries.length cE) y) (by rfl) (by rfl) HR5.out rfl Tryz.sizeSty (sty_one _ rfl y) ?_; intro w9 hb9 ho9; have HP9 := Lib.hid (Prs.own (ho9.own HO5.out (fun g hg q => by have := HOB2.out g hg; omega))); have HF := Lib.hid (HOKK.out _ HRES.out _ w9 HP9.out (only_kept HK5.out ho9 hRz)); obtain ⟨⟨r0, r1, r2, r3, r4, r5, r6, r7, r8, r9⟩, rz⟩ := sty_cells hb9; clear hb9 ho9)
            | (refine wpList_load_blk (by rfl) 24 (.tmp 7) (by rfl) Y _ (by rfl) HY5.out _ Tryz.underlying24 rfl Tryz.sizeSty ?_))
          refine bodyPost_ret (v := .tuple #[styV (.slice aE y.entries.length cE) y, .int .i64 0, .int .i64 0]) ?_ rfl HF.out
          simp [results, Tryz.results11, go_sem, r0, r1, r2, r3, r4, r5, r6, r7, r8, r9, rz, styV, styCells]
        · rw [if_neg hst] at HRES
          have h' : (styE y == 0) = false := by rw [beq_eq_false_iff_ne]; exact hst
          generalize styE y = E at *
          clear hst
          go_wp2_with (refine wpList_store_blk rfl 24 (.tmp 2) (.tmp 88) (by rfl) R _ (styCells (.slice none 0 0) zeroY) (by rfl) (by rfl) HR5.out rfl Tryz.sizeSty (sty_one _ rfl zeroY) ?_; intro w9 hb9 ho9; have HF := Lib.hid (HERR.out _ _ HRES.out w9 (only_kept HK5.out ho9 hRz)); obtain ⟨⟨r0, r1, r2, r3, r4, r5, r6, r7, r8, r9⟩, rz⟩ := sty_cells hb9; simp only [zeroY] at r0 r1 r2 r3 r4 r5 r6 r7 r8 r9; clear hb9 ho9)
          refine bodyPost_ret (v := .tuple #[styV (.slice none 0 0) zeroY, .int .i64 0, .int .i64 E]) ?_ rfl HF.out
          simp [results, Tryz.results11, go_sem, r0, r1, r2, r3, r4, r5, r6, r7, r8, r9, rz, styV, styCells, zeroY]
end Go.Proofs.YtafcngdnngpdnaaGreatDoor

/- Builtin and Same of publisherref31. Conditions: lengths. -/
set_option linter.all false
namespace Go.Proofs.YtafcngdnngpdnaaGreatDoor
open Go.RowKit

theorem Prs.only31 {S : Nat → Prop} {w w' : World} {g o n c : Nat} {ps : List Pr} (h : Prs w (.slice (some ⟨g, o, none⟩) n c) ps) (k : Only S w w') (hs : ¬ S g) : Prs w' (.slice (some ⟨g, o, none⟩) n c) ps := by
  obtain ⟨a, c', hv, hc, h3⟩ := h
  obtain ⟨rfl, rfl, rfl⟩ := Value.slice.inj hv
  refine ⟨_, _, rfl, hc, fun q => ?_⟩
  obtain ⟨g', o', he, hg, hcell⟩ := h3 q
  cases he
  refine ⟨g, o, rfl, Nat.lt_of_lt_of_le hg k.size, fun j x hx => ?_⟩
  rw [k.cell g _ hg hs, k.cell g _ hg hs]
  exact hcell j x hx
set_option maxRecDepth 100000 in
set_option maxHeartbeats 3200000 in
/-- Styles that read the same are told equal. -/
theorem rsame31_eq (vA vB : Value) (y : StyT) (w : World) (hA : Prs w vA y.entries) (hB : Prs w vB y.entries) (hn : y.entries.length ≤ 1100000) : Calls Tryz.prog 10 #[styV vA y, styV vB y] w fun e w' => e = .returned (.bool true) ∧ Kept w w' := by
  have HA := Lib.hid hA
  have HB := Lib.hid hB
  obtain ⟨aA, cA, rfl, lA⟩ := hA.form
  obtain ⟨aB, cB, rfl, lB⟩ := hB.form
  clear hA hB
  have HB0 := Lib.hid (Blk.new w 24 (styCells (.slice aA y.entries.length cA) y))
  have HK0 := Lib.hid (kept_alloc w (.cells (styCells (.slice aA y.entries.length cA) y) 24))
  have HB1 := Lib.hid (Blk.new (w.alloc (.cells (styCells (.slice aA y.entries.length cA) y) 24)) 24 (styCells (.slice aB y.entries.length cB) y))
  have HK1 := Lib.hid (kept_alloc (w.alloc (.cells (styCells (.slice aA y.entries.length cA) y) 24)) (.cells (styCells (.slice aB y.entries.length cB) y) 24))
  have e1 : (w.alloc (.cells (styCells (.slice aA y.entries.length cA) y) 24)).heap.size = w.heap.size + 1 := by simp
  rw [e1] at HB1
  have n0 : (y.name != y.name) = false := by simp
  have n1 : (y.numeric != y.numeric) = false := by simp
  have n2 : (y.sort != y.sort) = false := by simp
  have n3 : (y.cite != y.cite) = false := by simp
  have n4 : (y.bare != y.bare) = false := by simp
  have n5 : (y.between != y.between) = false := by simp
  have n6 : (y.begin_ != y.begin_) = false := by simp
  have n7 : (y.end_ != y.end_) = false := by simp
  have n8 : (y.most != y.most) = false := by simp
  unfold styV
  unfold styCells at *
  go_enter Tryz.func10, Tryz.ntmps10
  go_wp2_with fail
  have HBA := Lib.hid (HB0.out.kept HK1.out)
  have HKW := Lib.hid (HK0.out.trans HK1.out)
  clear HB0 HK0 HK1 e1
  generalize World.alloc (World.alloc _ _) _ = w0 at HB1 HBA HKW ⊢
  obtain ⟨S, HSS⟩ : ∃ B, Hid (w.heap.size = B) := ⟨_, rfl⟩
  rw [HSS.out] at HB1 HBA ⊢
  go_loopw [5] (fun i wr => ∃ k : Nat, k ≤ y.entries.length ∧ i = .int .i64 k ∧ Hid (Kept w0 wr)) (fun i _ => y.entries.length - (intOf i).toNat)
  case atStart => exact ⟨0, Nat.zero_le _, rfl, Kept.refl _⟩
  case round =>
    obtain ⟨k, hk, rfl, HKR⟩ := hrel
    have b1 : wr.cell? ⟨S, 9, none⟩ = some (.slice aA y.entries.length cA) := (HBA.out.kept HKR.out).cell 9 _ rfl
    have b2 : wr.cell? ⟨S + 1, 9, none⟩ = some (.slice aB y.entries.length cB) := (HB1.out.kept HKR.out).cell 9 _ rfl
    have z1 := (HBA.out.kept HKR.out).lt
    have z2 := (HB1.out.kept HKR.out).lt
    by_cases hlt : k < y.entries.length
    · obtain ⟨p, hx⟩ : ∃ x, y.entries[k]? = some x := ⟨_, List.getElem?_eq_getElem hlt⟩
      obtain ⟨g, o, rfl, hg, d0, d1, -, -⟩ := (HA.out.kept (HKW.out.trans HKR.out)).cell_of k p hx
      obtain ⟨g2, o2, rfl, hg2, d2, d3, -, -⟩ := (HB.out.kept (HKW.out.trans HKR.out)).cell_of k p hx
      obtain ⟨q1, q2⟩ := p
      simp only at d0 d1 d2 d3
      clear hx
      go_wp2_with fail
      go_region
      all_goals
        go_wp2_with fail
        go_roundw
        case rel => exact ⟨k + 1, by omega, by go_num, HKR.out.trans (kept_drewN _ _)⟩
        case measure => simp [intOf]; omega
    · go_wp2_with fail
      go_ret
      exact ⟨rfl, HKW.out.trans HKR.out⟩
end Go.Proofs.YtafcngdnngpdnaaGreatDoor
