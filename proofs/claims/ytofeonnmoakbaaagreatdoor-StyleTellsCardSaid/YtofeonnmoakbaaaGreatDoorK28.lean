/- The page's examples of styles, in plain Lean. No condition. -/
import Derived.Test.YtofeonnmoakbaaaGreatDoorK27
import Derived.Test.YtofeonnmoakbaaaGreatDoorK11

set_option linter.all false
namespace Go.Proofs.YtofeonnmoakbaaaGreatDoor
open Go.RowKit

def ascB (l : Bs) : Bool := l.all fun b => decide (32 ≤ (b.toNat : Int)) && decide ((b.toNat : Int) < 127)
theorem lnB_asc {l : Bs} (h : ascB l = true) : lnB l = true := by
  have : lineB l = true := line_asc l (fun b hb => by
    unfold ascB at h
    rw [List.all_eq_true] at h
    have := h b hb
    simpa using this)
  exact this
theorem splE_asc {t : Bs} (h : ascB t = true) : splE t = if (splT t).isSome = true then 0 else 5 := by
  unfold splE; rw [lnB_asc h]; rfl
theorem splE_yes {t : Bs} (h : ascB t = true) (hs : (splT t).isSome = true) : splE t = 0 := by rw [splE_asc h, hs]; rfl
theorem splE_no {t : Bs} (h : ascB t = true) (hs : (splT t).isSome = false) : splE t = 5 := by rw [splE_asc h, hs]; rfl
theorem splL_yes {t : Bs} (h : splE t = 0) : splL t = (splT t).getD [] := by unfold splL; rw [if_pos h]
def awkC (suf : Bs) (n : Int) : FilT := ⟨[107], [98, 111, 111, 107], [], [], [([116, 105, 116, 108, 101], [84])], [101, 110], suf, n, 3⟩
def awkT1 : Bs := [123, 116, 105, 116, 108, 101, 125, 91, 44, 32, 123, 121, 101, 97, 114, 125, 93]
def awkT2 : Bs := [123, 97, 117, 116, 104, 111, 114]
def awkT3 : Bs := [123, 110, 117, 109, 98, 101, 114, 125, 123, 115, 117, 102, 102, 105, 120, 125]
theorem awk_e1 : splE awkT1 = 0 := splE_yes (by decide +kernel) (by decide +kernel)
theorem awk_e2 : splE awkT2 = 5 := splE_no (by decide +kernel) (by decide +kernel)
theorem awk_e3 : splE awkT3 = 0 := splE_yes (by decide +kernel) (by decide +kernel)
theorem awk_f1 : fillS (awkC [] 0) awkT1 = [84] := by
  unfold fillS
  rw [splL_yes awk_e1]
  decide +kernel
theorem awk_f2 : fillS (awkC [] 0) awkT2 = [] := by
  unfold fillS splL
  rw [awk_e2, if_neg (by decide)]; rfl
theorem awk_f3 : fillS (awkC [98] 12) awkT3 = [49, 50, 98] := by
  unfold fillS
  rw [splL_yes awk_e3]
  decide +kernel
theorem awk_p : parL (linesL []) = (zeroY, 1, 5) := parL_head (i := 0) (by decide) (fun j hj => by omega) rfl
theorem free_suffix : freeB ((splT dateY.cite).getD []) kSuffix = true := by decide +kernel
theorem num_ent : entE numYE = 0 := by
  unfold entE numYE
  rw [entA_cons, if_neg (by decide +kernel), if_neg (by decide +kernel), splE_yes (by decide +kernel) (by decide +kernel), if_neg (by decide), entA_cons, if_neg (by decide +kernel), if_neg (by decide +kernel), splE_yes (by decide +kernel) (by decide +kernel), if_neg (by decide), entA_end, if_pos (by decide +kernel)]
theorem date_ent : entE dateYE = 0 := by
  unfold entE dateYE
  rw [entA_cons, if_neg (by decide +kernel), if_neg (by decide +kernel), splE_yes (by decide +kernel) (by decide +kernel), if_neg (by decide), entA_cons, if_neg (by decide +kernel), if_neg (by decide +kernel), splE_yes (by decide +kernel) (by decide +kernel), if_neg (by decide), entA_end, if_pos (by decide +kernel)]
theorem num_cit : citE numY = 0 := by
  have h1 : splE numY.cite = 0 := splE_yes (by decide +kernel) (by decide +kernel)
  have h2 : splE numY.bare = 0 := splE_yes (by decide +kernel) (by decide +kernel)
  unfold citE
  rw [h1, if_neg (by decide), splL_yes h1, h2, if_neg (by decide +kernel)]
theorem date_cit : citE dateY = 0 := by
  have h1 : splE dateY.cite = 0 := splE_yes (by decide +kernel) (by decide +kernel)
  have h2 : splE dateY.bare = 0 := splE_yes (by decide +kernel) (by decide +kernel)
  unfold citE
  rw [h1, if_neg (by decide), splL_yes h1, h2, if_neg (by decide +kernel)]
theorem bad_cit : citE { dateY with cite := [123, 97, 117, 116, 104, 111, 114, 125] } = 8 := by
  have h1 : splE [123, 97, 117, 116, 104, 111, 114, 125] = 0 := splE_yes (by decide +kernel) (by decide +kernel)
  unfold citE
  show (if splE [123, 97, 117, 116, 104, 111, 114, 125] ≠ 0 then _ else _) = _
  rw [h1, if_neg (by decide)]
  show (if freeB (splL [123, 97, 117, 116, 104, 111, 114, 125]) _ = false then _ else _) = _
  rw [splL_yes h1, if_pos (by decide +kernel)]
theorem date_srt : srtE dateY.sort = 0 := by decide +kernel
theorem num_sty : styE numY = 0 := by
  unfold styE
  have h1 : lnB numY.between = true := lnB_asc (by decide +kernel)
  have h2 : lnB numY.begin_ = true := lnB_asc (by decide +kernel)
  have h3 : lnB numY.end_ = true := lnB_asc (by decide +kernel)
  have h4 : entE numY.entries = 0 := num_ent
  rw [if_neg (by decide), if_neg (by decide +kernel), if_neg (by decide), num_cit, if_neg (by decide), h1, h2, h3, if_neg (by decide), if_neg (by decide), h4]
theorem date_sty : styE dateY = 0 := by
  unfold styE
  have h1 : lnB dateY.between = true := lnB_asc (by decide +kernel)
  have h2 : lnB dateY.begin_ = true := lnB_asc (by decide +kernel)
  have h3 : lnB dateY.end_ = true := lnB_asc (by decide +kernel)
  have h4 : entE dateY.entries = 0 := date_ent
  rw [if_neg (by decide), if_neg (by decide +kernel), date_srt, if_neg (by decide), date_cit, if_neg (by decide), h1, h2, h3, if_neg (by decide), if_neg (by decide), h4]
theorem bad_sty : styE { dateY with cite := [123, 97, 117, 116, 104, 111, 114, 125] } = 8 := by
  unfold styE
  have h5 : srtE ({ dateY with cite := [123, 97, 117, 116, 104, 111, 114, 125] } : StyT).sort = 0 := date_srt
  rw [if_neg (by decide), if_neg (by decide +kernel), h5, if_neg (by decide), bad_cit, if_pos (by decide)]
theorem num_text : 26 < (styS numY).length ∧ (styS numY).take 26 = [110, 97, 109, 101, 58, 110, 117, 109, 101, 114, 105, 99, 10, 110, 117, 109, 101, 114, 105, 99, 58, 121, 101, 115, 10, 115] := by
  unfold styS
  rw [if_pos num_sty]
  decide +kernel
theorem blt_num : bltY [110, 117, 109, 101, 114, 105, 99] = some numY := by
  unfold bltY
  rw [if_neg (by decide), if_pos (by rfl)]
theorem blt_date : bltY [97, 117, 116, 104, 111, 114, 45, 100, 97, 116, 101] = some dateY := by
  unfold bltY
  rw [if_pos (by rfl)]
theorem blt_none : bltY [120] = none := by
  unfold bltY
  rw [if_neg (by decide), if_neg (by decide)]
end Go.Proofs.YtofeonnmoakbaaaGreatDoor

/- Parse of style. Conditions: lengths. -/
set_option linter.all false
namespace Go.Proofs.YtofeonnmoakbaaaGreatDoor
open Go.RowKit

/-- What Parse gives back. -/
def ParP (x : StyT × Int × Int) (w : World) (e : Ending) (w' : World) : Prop := ∃ vE, e = .returned (.tuple #[styV vE x.1, .int .i64 x.2.1, .int .i64 x.2.2]) ∧ Prs w' vE x.1.entries ∧ Kept w w'
theorem hdGood_none {ls : List Bs} {k : Nat} (h : ls[k]? = none) : hdGood ls k = false := by unfold hdGood; rw [h]
theorem hdGood_bad {ls : List Bs} {k : Nat} {l : Bs} (h : ls[k]? = some l) (hc : cutP (headsL.getD k []) l = none) : hdGood ls k = false := by unfold hdGood; rw [h]; simp only; rw [hc]
theorem hdGood_some {ls : List Bs} {k : Nat} {l v : Bs} (h : ls[k]? = some l) (hc : cutP (headsL.getD k []) l = some v) : hdGood ls k = vOk k v ∧ hdV ls k = v := by
  constructor
  · unfold hdGood; rw [h]; simp only; rw [hc]
  · unfold hdV
    have e : ls.getD k [] = l := by rw [List.getD_eq_getElem?_getD, h]; rfl
    rw [e]; exact (cutP_len hc).1.symm
theorem hd_eight {ls : List Bs} (h : hdGood ls 8 = true) : 9 ≤ ls.length ∧ decB (hdV ls 8) = true := by
  cases hx : ls[8]? with
  | none => rw [hdGood_none hx] at h; cases h
  | some l =>
    cases hc : cutP (headsL.getD 8 []) l with
    | none => rw [hdGood_bad hx hc] at h; cases h
    | some v =>
      obtain ⟨h1, h2⟩ := hdGood_some hx hc
      have := (List.getElem?_eq_some_iff.1 hx).1
      refine ⟨by omega, ?_⟩
      rw [h2]; rw [h1] at h; exact h
theorem entR_cut {l r : Bs} (h : cutP kEntry l = some r) : entR l = if before 58 r < r.length then some (r.take (before 58 r), r.drop (before 58 r + 1)) else none := by unfold entR; rw [h]
theorem entR_none {l : Bs} (h : cutP kEntry l = none) : entR l = none := by unfold entR; rw [h]
theorem entR_len {l : Bs} {p : Pr} (h : entR l = some p) : p.1.length ≤ l.length ∧ p.2.length ≤ l.length := by
  unfold entR at h
  cases hc : cutP kEntry l with
  | none => rw [hc] at h; cases h
  | some r =>
    rw [hc] at h
    simp only at h
    obtain ⟨e, _⟩ := cutP_len hc
    have : r.length ≤ l.length := by rw [e, List.length_drop]; omega
    split at h
    · cases h
      simp only [List.length_take, List.length_drop]; omega
    · cases h
theorem fmap_next (es : List Bs) (k : Nat) (l : Bs) (p : Pr) (h : es[k]? = some l) (hp : entR l = some p) : (es.take (k + 1)).filterMap entR = (es.take k).filterMap entR ++ [p] := by
  obtain ⟨hk, rfl⟩ := List.getElem?_eq_some_iff.1 h
  rw [List.take_succ_eq_append_getElem hk, List.filterMap_append]
  simp [hp]
theorem lines_len (t : Bs) : (linesL t).length ≤ t.length + 1 := by
  have h : (linesL t).length ≤ (splitC 10 t).length := by
    unfold linesL splitC
    rw [List.length_append, List.length_append]
    split <;> simp
  rw [splitC_length] at h
  have := List.count_le_length (a := (10 : UInt8)) (l := t)
  omega
theorem split_mem (c : UInt8) : ∀ (n : Nat) (t : Bs), t.length ≤ n → ∀ x ∈ splitC c t, x.length ≤ t.length := by
  intro n
  induction n with
  | zero =>
    intro t ht x hx
    obtain rfl : t = [] := List.length_eq_zero_iff.1 (by omega)
    rw [splitC_none c [] (by simp)] at hx
    simp at hx; subst hx; exact Nat.le_refl _
  | succ n ih =>
    intro t ht x hx
    rcases index_one t c with ⟨_, h⟩ | ⟨i, _, hi, hni, he⟩
    · rw [splitC_none c t h] at hx
      simp at hx; subst hx; exact Nat.le_refl _
    · rw [he, splitC_at c _ _ hni] at hx
      rcases List.mem_cons.1 hx with rfl | hx
      · rw [List.length_take]; omega
      · have := ih _ (by rw [List.length_drop]; omega) x hx
        rw [List.length_drop] at this; omega
theorem par_small (t : Bs) (ht : t.length ≤ 9000) : SmallY (parY (linesL t)) := by
  have hm : ∀ x ∈ linesL t, x.length ≤ 9000 := fun x hx => by have := split_mem 10 _ t (Nat.le_refl _) x (lines_sub t x hx); omega
  have hv : ∀ i, (hdV (linesL t) i).length ≤ 9000 := fun i => by
    unfold hdV
    rw [List.length_drop, List.getD_eq_getElem?_getD]
    cases hx : (linesL t)[i]? with
    | none => simp
    | some x => have := hm x (List.mem_of_getElem? hx); simp only [Option.getD_some]; omega
  have hl := lines_len t
  unfold parY SmallY
  simp only
  refine ⟨by have := hv 0; omega, by have := hv 2; omega, by have := hv 3; omega, by have := hv 4; omega, by have := hv 5; omega, by have := hv 6; omega, by have := hv 7; omega, ?_, fun p hp => ?_⟩
  · have := List.length_filterMap_le entR ((linesL t).drop 9)
    rw [List.length_drop] at this; omega
  · rw [List.mem_filterMap] at hp
    obtain ⟨l, hl2, he⟩ := hp
    have h1 := hm l (List.mem_of_mem_drop hl2)
    have := entR_len he
    omega
theorem own_far {w : World} {base : Nat} {e : TypeId} {size : Nat} {v : Value} {n : Nat} {xs : List Value} (h : w.ownsRow base e size v n xs) (Y : Nat) (hY : Y < base) : some Y ≠ v.ownBlock := fun q => by
  have := (h.lt Y q.symm).1; omega
set_option maxRecDepth 100000 in
set_option maxHeartbeats 12800000 in
theorem sparse_any (t : Bs) (w : World) (hg : Gnd w) (ht : t.length ≤ 9000) : Calls Tryz.prog 13 #[.string (bs t)] w (ParP (parL (linesL t)) w) := by
  have HG := Lib.hid hg
  have HLS := Lib.hid (fun w => lsplit_any t w (by omega))
  unfold SliP at HLS
  have HSM := Lib.hid (par_small t ht)
  have hln := lines_len t
  have HLM : Hid (∀ x ∈ linesL t, x.length ≤ 9000) := fun x hx => by have := split_mem 10 _ t (Nat.le_refl _) x (lines_sub t x hx); omega
  obtain ⟨ls, HLE⟩ : ∃ ls, Hid (linesL t = ls) := ⟨_, rfl⟩
  rw [HLE.out] at HLS HSM hln HLM ⊢
  have HERR : Hid (∀ (n e : Int), parL ls = (zeroY, n, e) → ∀ w', Kept w w' → ParP (parL ls) w (.returned (.tuple #[styV (.slice none 0 0) zeroY, .int .i64 n, .int .i64 e])) w') := fun n e h w' k => by
    rw [h]
    exact ⟨_, rfl, ⟨none, 0, rfl, Nat.le_refl _, fun q => absurd q (by simp [zeroY])⟩, k⟩
  have HOKK : Hid (∀ y, parL ls = (y, 0, 0) → ∀ vE w', Prs w' vE y.entries → Kept w w' → ParP (parL ls) w (.returned (.tuple #[styV vE y, .int .i64 0, .int .i64 0])) w') := fun y h vE w' hp k => by
    rw [h]
    exact ⟨_, rfl, hp, k⟩
  generalize hP : ParP (parL ls) w = P at *
  clear hP hg HLE
  have HB0 := Lib.hid (Blk.new w 24 #[.string (bs []), .bool false, .string (bs []), .string (bs []), .string (bs []), .string (bs []), .string (bs []), .string (bs []), .int .i64 0, .slice none 0 0])
  have HK0 := Lib.hid (kept_alloc w (.cells #[.string (bs []), .bool false, .string (bs []), .string (bs []), .string (bs []), .string (bs []), .string (bs []), .string (bs []), .int .i64 0, .slice none 0 0] 24))
  go_enter Tryz.func13, Tryz.ntmps13
  go_wp2_with fail
  generalize w.alloc _ = w0 at *
  obtain ⟨R, HRR⟩ : ∃ R, Hid (w.heap.size = R) := ⟨_, rfl⟩
  have hRz : w.heap.size ≤ R := by rw [HRR.out]; exact Nat.le_refl _
  rw [HRR.out] at HB0 ⊢
  have HR0 : Hid (Blk w0 R 24 (styCells (.slice none 0 0) zeroY)) := HB0
  clear HB0
  refine (HLS.out _).mono ?_
  rintro e w1 ⟨v, rfl, hst, hk1⟩
  have HST := Lib.hid hst
  have HK1 := Lib.hid (HK0.out.trans hk1)
  have HR1 := Lib.hid (HR0.out.kept hk1)
  obtain ⟨a, c, rfl, hc⟩ := hst.form
  clear hst hk1 HK0 HR0 HLS
  have HV0 : Hid (Blk (w1.alloc (.cells #[.string (bs []), .string (bs []), .string (bs []), .string (bs []), .string (bs []), .string (bs []), .string (bs []), .string (bs []), .string (bs [])] 50)) w1.heap.size 50 (strCells (valsK ls 0)).toArray) := Blk.new w1 50 #[.string (bs []), .string (bs []), .string (bs []), .string (bs []), .string (bs []), .string (bs []), .string (bs []), .string (bs []), .string (bs [])]
  have HKV0 := Lib.hid (kept_alloc w1 (.cells #[.string (bs []), .string (bs []), .string (bs []), .string (bs []), .string (bs []), .string (bs []), .string (bs []), .string (bs []), .string (bs [])] 50))
  go_wp2_with fail
  refine (sheads_any _).mono ?_
  rintro e w3 ⟨rfl, hk3⟩
  have HV3 := Lib.hid (HV0.out.kept hk3)
  have HK3 := Lib.hid (HKV0.out.trans hk3)
  clear HV0 HKV0 hk3
  obtain ⟨V, HVV⟩ : ∃ V, Hid (w1.heap.size = V) := ⟨_, rfl⟩
  have hVz : w1.heap.size ≤ V := by rw [HVV.out]; exact Nat.le_refl _
  rw [HVV.out] at HV3 ⊢
  have HRH := Lib.hid run_heads
  obtain ⟨HA, HHA⟩ : ∃ HA, Hid ((strCells headsL).toArray = HA) := ⟨_, rfl⟩
  rw [HHA.out] at HRH ⊢
  go_wp2_with fail
  (try simp only [mk_bs])
  go_loopw [23] (fun i wr => ∃ k : Nat, k ≤ 9 ∧ i = .int .i64 k ∧ Hid (∀ j, j < k → hdGood ls j = true) ∧ Hid (Blk wr V 50 (strCells (valsK ls k)).toArray) ∧ Hid (Kept w1 wr)) (fun i _ => 9 - (intOf i).toNat)
  case atStart => exact ⟨0, Nat.zero_le _, rfl, fun j hj => by omega, HV3.out, HK3.out⟩
  case round =>
    clear HV3 HK3
    obtain ⟨k, hk, rfl, HN, HVK, HKR⟩ := hrel
    have HKW := Lib.hid (HK1.out.trans HKR.out)
    have HRW := Lib.hid (HR1.out.kept HKR.out)
    by_cases hlt : k < 9
    · by_cases hkl : k < ls.length
      · obtain ⟨l, hx⟩ : ∃ l, ls[k]? = some l := ⟨_, List.getElem?_eq_getElem hkl⟩
        obtain ⟨g, o, rfl, hg, d0, -, -⟩ := (HST.out.kept HKR.out).cell_of k l hx
        have hix := fun w => HRH.out k hlt w
        cases hc : cutP (headsL.getD k []) l with
        | none =>
          have HCS := Lib.hid (fun w => cutp_none w hc)
          have HGOOD := Lib.hid (hdGood_bad hx hc)
          have HRES := Lib.hid (parL_head hlt HN.out HGOOD.out)
          clear hc hx
          generalize headsL.getD k [] = h at *
          by_cases k1 : k = 1
          · have h1 : ((k : Int) == 1) = true := by rw [k1]; rfl
            clear k1
            go_wp2_with fail
            refine (HCS.out _).mono ?_
            rintro e w5 ⟨rfl, rfl⟩
            go_wp2_with (refine wpList_store_blk rfl 24 (.tmp 2) (.tmp 64) (by rfl) R _ (styCells (.slice none 0 0) zeroY) (by rfl) (by rfl) HRW.out rfl Tryz.sizeSty (sty_one _ rfl zeroY) ?_; intro w9 hb9 ho9; have HF := Lib.hid (HERR.out _ _ HRES.out w9 (only_kept HKW.out ho9 hRz)); obtain ⟨⟨r0, r1, r2, r3, r4, r5, r6, r7, r8, r9⟩, rz⟩ := sty_cells hb9; simp only [zeroY] at r0 r1 r2 r3 r4 r5 r6 r7 r8 r9; clear hb9 ho9)
            refine bodyPost_ret (v := .tuple #[styV (.slice none 0 0) zeroY, .int .i64 (k + 1), .int .i64 5]) ?_ rfl HF.out
            simp [results, Tryz.results13, go_sem, r0, r1, r2, r3, r4, r5, r6, r7, r8, r9, rz, styV, styCells, zeroY]
          · have h1 : ((k : Int) == 1) = false := by rw [beq_eq_false_iff_ne]; omega
            by_cases k8 : k = 8
            · have h8 : ((k : Int) == 8) = true := by rw [k8]; rfl
              clear k1 k8
              go_wp2_with fail
              refine (HCS.out _).mono ?_
              rintro e w5 ⟨rfl, rfl⟩
              go_wp2_with (refine wpList_store_blk rfl 24 (.tmp 2) (.tmp 64) (by rfl) R _ (styCells (.slice none 0 0) zeroY) (by rfl) (by rfl) HRW.out rfl Tryz.sizeSty (sty_one _ rfl zeroY) ?_; intro w9 hb9 ho9; have HF := Lib.hid (HERR.out _ _ HRES.out w9 (only_kept HKW.out ho9 hRz)); obtain ⟨⟨r0, r1, r2, r3, r4, r5, r6, r7, r8, r9⟩, rz⟩ := sty_cells hb9; simp only [zeroY] at r0 r1 r2 r3 r4 r5 r6 r7 r8 r9; clear hb9 ho9)
              refine bodyPost_ret (v := .tuple #[styV (.slice none 0 0) zeroY, .int .i64 (k + 1), .int .i64 5]) ?_ rfl HF.out
              simp [results, Tryz.results13, go_sem, r0, r1, r2, r3, r4, r5, r6, r7, r8, r9, rz, styV, styCells, zeroY]
            · have h8 : ((k : Int) == 8) = false := by rw [beq_eq_false_iff_ne]; omega
              clear k1 k8
              go_wp2_with fail
              refine (HCS.out _).mono ?_
              rintro e w5 ⟨rfl, rfl⟩
              go_wp2_with (refine wpList_store_blk rfl 24 (.tmp 2) (.tmp 64) (by rfl) R _ (styCells (.slice none 0 0) zeroY) (by rfl) (by rfl) HRW.out rfl Tryz.sizeSty (sty_one _ rfl zeroY) ?_; intro w9 hb9 ho9; have HF := Lib.hid (HERR.out _ _ HRES.out w9 (only_kept HKW.out ho9 hRz)); obtain ⟨⟨r0, r1, r2, r3, r4, r5, r6, r7, r8, r9⟩, rz⟩ := sty_cells hb9; simp only [zeroY] at r0 r1 r2 r3 r4 r5 r6 r7 r8 r9; clear hb9 ho9)
              refine bodyPost_ret (v := .tuple #[styV (.slice none 0 0) zeroY, .int .i64 (k + 1), .int .i64 5]) ?_ rfl HF.out
              simp [results, Tryz.results13, go_sem, r0, r1, r2, r3, r4, r5, r6, r7, r8, r9, rz, styV, styCells, zeroY]
        | some v =>
          have HCS := Lib.hid (fun w => cutp_some w hc)
          obtain ⟨hgd, hv⟩ := hdGood_some hx hc
          clear hc hx
          generalize headsL.getD k [] = h at *
          have hvl : v.length ≤ 9000 := by rw [← hv]; unfold hdV; rw [List.length_drop]; have := HLM.out _ (List.getElem_mem hkl); rw [List.getD_eq_getElem?_getD, List.getElem?_eq_getElem hkl]; simp only [Option.getD_some]; omega
          unfold vOk at hgd
          by_cases k1 : k = 1
          · have h1 : ((k : Int) == 1) = true := by rw [k1]; rfl
            rw [if_pos k1] at hgd
            clear k1
            cases hy : (v == [121, 101, 115])
            · cases hn : (v == [110, 111])
              · have HGOOD : Hid (hdGood ls k = false) := by show _ = _; rw [hgd, hy, hn]; rfl
                have HRES := Lib.hid (parL_head hlt HN.out HGOOD.out)
                clear hv hgd
                go_wp2_with fail
                refine (HCS.out _).mono ?_
                rintro e w5 ⟨rfl, rfl⟩
                go_wp2_with (refine wpList_store_blk rfl 24 (.tmp 2) (.tmp 64) (by rfl) R _ (styCells (.slice none 0 0) zeroY) (by rfl) (by rfl) HRW.out rfl Tryz.sizeSty (sty_one _ rfl zeroY) ?_; intro w9 hb9 ho9; have HF := Lib.hid (HERR.out _ _ HRES.out w9 (only_kept HKW.out ho9 hRz)); obtain ⟨⟨r0, r1, r2, r3, r4, r5, r6, r7, r8, r9⟩, rz⟩ := sty_cells hb9; simp only [zeroY] at r0 r1 r2 r3 r4 r5 r6 r7 r8 r9; clear hb9 ho9)
                refine bodyPost_ret (v := .tuple #[styV (.slice none 0 0) zeroY, .int .i64 (k + 1), .int .i64 5]) ?_ rfl HF.out
                simp [results, Tryz.results13, go_sem, r0, r1, r2, r3, r4, r5, r6, r7, r8, r9, rz, styV, styCells, zeroY]
              · have HGOOD : Hid (hdGood ls k = true) := by show _ = _; rw [hgd, hy, hn]; rfl
                have cV : wr.cell? ⟨V, k, none⟩ = some (.string (bs (if k < k then hdV ls k else []))) := HVK.out.cell k _ (valsK_at ls k k hlt)
                have fV : wr.frozen? ⟨V, k, none⟩ = false := HVK.out.free k
                have zV := HVK.out.lt
                have HVN : Hid (Blk (wr.setCell ⟨V, k, none⟩ (.string (bs v))) V 50 (strCells (valsK ls (k + 1))).toArray) := by
                  have h := HVK.out.set k (.string (bs (hdV ls k)))
                  rw [valsK_set ls k hlt, hv] at h
                  exact h
                have HKN := Lib.hid (kept_set HKR.out V k (.string (bs v)) hVz)
                have HNN : Hid (∀ j, j < k + 1 → hdGood ls j = true) := fun j hj => by
                  rcases Nat.lt_or_ge j k with q | q
                  · exact HN.out j q
                  · obtain rfl : j = k := by omega
                    exact HGOOD.out
                clear hv hgd
                go_wp2_with fail
                refine (HCS.out _).mono ?_
                rintro e w5 ⟨rfl, rfl⟩
                go_wp2_with fail
                go_roundw
                case rel => exact ⟨k + 1, by omega, by go_num, HNN.out, HVN.out, HKN.out⟩
                case measure => simp [intOf]; omega
            · have HGOOD : Hid (hdGood ls k = true) := by show _ = _; rw [hgd, hy]; rfl
              have cV : wr.cell? ⟨V, k, none⟩ = some (.string (bs (if k < k then hdV ls k else []))) := HVK.out.cell k _ (valsK_at ls k k hlt)
              have fV : wr.frozen? ⟨V, k, none⟩ = false := HVK.out.free k
              have zV := HVK.out.lt
              have HVN : Hid (Blk (wr.setCell ⟨V, k, none⟩ (.string (bs v))) V 50 (strCells (valsK ls (k + 1))).toArray) := by
                have h := HVK.out.set k (.string (bs (hdV ls k)))
                rw [valsK_set ls k hlt, hv] at h
                exact h
              have HKN := Lib.hid (kept_set HKR.out V k (.string (bs v)) hVz)
              have HNN : Hid (∀ j, j < k + 1 → hdGood ls j = true) := fun j hj => by
                rcases Nat.lt_or_ge j k with q | q
                · exact HN.out j q
                · obtain rfl : j = k := by omega
                  exact HGOOD.out
              clear hv hgd
              go_wp2_with fail
              refine (HCS.out _).mono ?_
              rintro e w5 ⟨rfl, rfl⟩
              go_wp2_with fail
              go_roundw
              case rel => exact ⟨k + 1, by omega, by go_num, HNN.out, HVN.out, HKN.out⟩
              case measure => simp [intOf]; omega
          · have h1 : ((k : Int) == 1) = false := by rw [beq_eq_false_iff_ne]; omega
            rw [if_neg k1] at hgd
            clear k1
            by_cases k8 : k = 8
            · have h8 : ((k : Int) == 8) = true := by rw [k8]; rfl
              rw [if_pos k8] at hgd
              clear k8
              have HDC := Lib.hid (fun w => sdec_any v w (by omega))
              cases hd : decB v
              · rw [hd] at HDC
                have HGOOD : Hid (hdGood ls k = false) := by show _ = _; rw [hgd, hd]
                clear hd
                have HRES := Lib.hid (parL_head hlt HN.out HGOOD.out)
                clear hv hgd
                go_wp2_with fail
                refine (HCS.out _).mono ?_
                rintro e w5 ⟨rfl, rfl⟩
                go_wp2_with fail
                refine (HDC.out _).mono ?_
                rintro e w6 ⟨rfl, rfl⟩
                go_wp2_with (refine wpList_store_blk rfl 24 (.tmp 2) (.tmp 64) (by rfl) R _ (styCells (.slice none 0 0) zeroY) (by rfl) (by rfl) HRW.out rfl Tryz.sizeSty (sty_one _ rfl zeroY) ?_; intro w9 hb9 ho9; have HF := Lib.hid (HERR.out _ _ HRES.out w9 (only_kept HKW.out ho9 hRz)); obtain ⟨⟨r0, r1, r2, r3, r4, r5, r6, r7, r8, r9⟩, rz⟩ := sty_cells hb9; simp only [zeroY] at r0 r1 r2 r3 r4 r5 r6 r7 r8 r9; clear hb9 ho9)
                refine bodyPost_ret (v := .tuple #[styV (.slice none 0 0) zeroY, .int .i64 (k + 1), .int .i64 5]) ?_ rfl HF.out
                simp [results, Tryz.results13, go_sem, r0, r1, r2, r3, r4, r5, r6, r7, r8, r9, rz, styV, styCells, zeroY]
              · rw [hd] at HDC
                have HGOOD : Hid (hdGood ls k = true) := by show _ = _; rw [hgd, hd]
                clear hd
                have cV : wr.cell? ⟨V, k, none⟩ = some (.string (bs (if k < k then hdV ls k else []))) := HVK.out.cell k _ (valsK_at ls k k hlt)
                have fV : wr.frozen? ⟨V, k, none⟩ = false := HVK.out.free k
                have zV := HVK.out.lt
                have HVN : Hid (Blk (wr.setCell ⟨V, k, none⟩ (.string (bs v))) V 50 (strCells (valsK ls (k + 1))).toArray) := by
                  have h := HVK.out.set k (.string (bs (hdV ls k)))
                  rw [valsK_set ls k hlt, hv] at h
                  exact h
                have HKN := Lib.hid (kept_set HKR.out V k (.string (bs v)) hVz)
                have HNN : Hid (∀ j, j < k + 1 → hdGood ls j = true) := fun j hj => by
                  rcases Nat.lt_or_ge j k with q | q
                  · exact HN.out j q
                  · obtain rfl : j = k := by omega
                    exact HGOOD.out
                clear hv hgd
                go_wp2_with fail
                refine (HCS.out _).mono ?_
                rintro e w5 ⟨rfl, rfl⟩
                go_wp2_with fail
                refine (HDC.out _).mono ?_
                rintro e w6 ⟨rfl, rfl⟩
                go_wp2_with fail
                go_roundw
                case rel => exact ⟨k + 1, by omega, by go_num, HNN.out, HVN.out, HKN.out⟩
                case measure => simp [intOf]; omega
            · have h8 : ((k : Int) == 8) = false := by rw [beq_eq_false_iff_ne]; omega
              rw [if_neg k8] at hgd
              clear k8
              have HGOOD : Hid (hdGood ls k = true) := hgd
              have cV : wr.cell? ⟨V, k, none⟩ = some (.string (bs (if k < k then hdV ls k else []))) := HVK.out.cell k _ (valsK_at ls k k hlt)
              have fV : wr.frozen? ⟨V, k, none⟩ = false := HVK.out.free k
              have zV := HVK.out.lt
              have HVN : Hid (Blk (wr.setCell ⟨V, k, none⟩ (.string (bs v))) V 50 (strCells (valsK ls (k + 1))).toArray) := by
                have h := HVK.out.set k (.string (bs (hdV ls k)))
                rw [valsK_set ls k hlt, hv] at h
                exact h
              have HKN := Lib.hid (kept_set HKR.out V k (.string (bs v)) hVz)
              have HNN : Hid (∀ j, j < k + 1 → hdGood ls j = true) := fun j hj => by
                rcases Nat.lt_or_ge j k with q | q
                · exact HN.out j q
                · obtain rfl : j = k := by omega
                  exact HGOOD.out
              clear hv hgd
              go_wp2_with fail
              refine (HCS.out _).mono ?_
              rintro e w5 ⟨rfl, rfl⟩
              go_wp2_with fail
              go_roundw
              case rel => exact ⟨k + 1, by omega, by go_num, HNN.out, HVN.out, HKN.out⟩
              case measure => simp [intOf]; omega
      · have HGOOD := Lib.hid (hdGood_none (List.getElem?_eq_none (by omega) : ls[k]? = none))
        have HRES := Lib.hid (parL_head hlt HN.out HGOOD.out)
        have hix := fun w => HRH.out k hlt w
        have hkl' : (ls.length : Int) ≤ (k : Int) := by omega
        clear hkl
        generalize headsL.getD k [] = h at *
        go_wp2_with (refine wpList_store_blk rfl 24 (.tmp 2) (.tmp 31) (by rfl) R _ (styCells (.slice none 0 0) zeroY) (by rfl) (by rfl) HRW.out rfl Tryz.sizeSty (sty_one _ rfl zeroY) ?_; intro w9 hb9 ho9; have HF := Lib.hid (HERR.out _ _ HRES.out w9 (only_kept HKW.out ho9 hRz)); obtain ⟨⟨r0, r1, r2, r3, r4, r5, r6, r7, r8, r9⟩, rz⟩ := sty_cells hb9; simp only [zeroY] at r0 r1 r2 r3 r4 r5 r6 r7 r8 r9; clear hb9 ho9)
        refine bodyPost_ret (v := .tuple #[styV (.slice none 0 0) zeroY, .int .i64 (k + 1), .int .i64 5]) ?_ rfl HF.out
        simp [results, Tryz.results13, go_sem, r0, r1, r2, r3, r4, r5, r6, r7, r8, r9, rz, styV, styCells, zeroY]
    · have h9' : (9 : Int) ≤ (k : Int) := by omega
      have HAG : Hid (∀ j, j < 9 → hdGood ls j = true) := fun j hj => HN.out j (by omega)
      obtain ⟨hl9, hd8⟩ := hd_eight (HAG.out 8 (by omega))
      have HVC : Hid (∀ j, j < 9 → wr.cell? ⟨V, j, none⟩ = some (.string (bs (hdV ls j)))) := fun j hj => by
        have h := HVK.out.cell j _ (valsK_at ls k j hj)
        rwa [if_pos (by omega)] at h
      have HPY : Hid (parY ls = ⟨hdV ls 0, hdV ls 1 == [121, 101, 115], hdV ls 2, hdV ls 3, hdV ls 4, hdV ls 5, hdV ls 6, hdV ls 7, (dcN (hdV ls 8) : Nat), (ls.drop 9).filterMap entR⟩) := rfl
      have c0 := HVC.out 0 (by omega)
      have c1 := HVC.out 1 (by omega)
      have c2 := HVC.out 2 (by omega)
      have c3 := HVC.out 3 (by omega)
      have c4 := HVC.out 4 (by omega)
      have c5 := HVC.out 5 (by omega)
      have c6 := HVC.out 6 (by omega)
      have c7 := HVC.out 7 (by omega)
      have HC8 := Lib.hid (HVC.out 8 (by omega))
      have zV := HVK.out.lt
      have HATO := Lib.hid (fun w => atoi_any (hdV ls 8) w hd8)
      clear HVC hd8 hlt hk HN
      obtain ⟨a9, cc9, hsl, hst9⟩ := slice9 (HST.out.kept HKR.out) hl9
      have HST9 := Lib.hid hst9
      have HEND := Lib.hid (fun he => parL_end HAG.out he)
      have HENT := Lib.hid (fun i hi he hf => parL_ent (i := i) HAG.out hi he hf)
      have HLD : Hid (∀ x ∈ ls.drop 9, x.length ≤ 9000) := fun x hx => HLM.out x (List.mem_of_mem_drop hx)
      have hdl : (ls.drop 9).length ≤ 9001 := by rw [List.length_drop]; omega
      clear hst9 hl9
      generalize hdV ls 0 = x0 at *
      generalize hdV ls 1 = x1 at *
      generalize hdV ls 2 = x2 at *
      generalize hdV ls 3 = x3 at *
      generalize hdV ls 4 = x4 at *
      generalize hdV ls 5 = x5 at *
      generalize hdV ls 6 = x6 at *
      generalize hdV ls 7 = x7 at *
      generalize hdV ls 8 = x8 at *
      obtain ⟨eb, HEB⟩ : ∃ b, Hid ((x1 == [121, 101, 115]) = b) := ⟨_, rfl⟩
      have heb := HEB.out
      obtain ⟨es9, HES⟩ : ∃ x, Hid (ls.drop 9 = x) := ⟨_, rfl⟩
      rw [HES.out] at HPY HST9 HEND HENT hsl HLD hdl
      rw [HEB.out] at HPY
      obtain ⟨Y, HYY⟩ : ∃ Y, Hid (wr.heap.size = Y) := ⟨_, rfl⟩
      have hYz : wr.heap.size ≤ Y := by rw [HYY.out]; exact Nat.le_refl _
      have HNEW := Lib.hid (Blk.new wr 24 #[.string (bs []), .bool false, .string (bs []), .string (bs []), .string (bs []), .string (bs []), .string (bs []), .string (bs []), .int .i64 0, .slice none 0 0])
      have HKNEW := Lib.hid (kept_alloc wr (.cells #[.string (bs []), .bool false, .string (bs []), .string (bs []), .string (bs []), .string (bs []), .string (bs []), .string (bs []), .int .i64 0, .slice none 0 0] 24))
      have hVY : V < Y := by rw [← HYY.out]; exact zV
      go_wp2_with (refine wpList_store_blk rfl 24 (.tmp 11) (.tmp 88) (by rfl) wr.heap.size _ (styCells (.slice none 0 0) ⟨x0, eb, x2, x3, x4, x5, x6, x7, 0, []⟩) (by rfl) (by rfl) HNEW.out rfl Tryz.sizeSty (sty_one _ rfl _) ?_; intro w10 hb10 ho10; have HB10 := Lib.hid hb10; have HK10 := Lib.hid (only_kept HKNEW.out ho10 (Nat.le_refl _)); have c8 := (HK10.out.cell (p := ⟨V, 8, none⟩) zV).trans HC8.out; have zV10 := Nat.lt_of_lt_of_le zV HK10.out.size; clear hb10 ho10)
      refine (HATO.out _).mono ?_
      rintro e w11 ⟨rfl, hk11⟩
      have HB11 := Lib.hid (HB10.out.kept hk11)
      have HK11 := Lib.hid (HK10.out.trans hk11)
      have y8 : w11.cell? ⟨wr.heap.size, 8, none⟩ = some (.int .i64 0) := HB11.out.cell 8 _ rfl
      have f8 := HB11.out.free 8
      have z8 := HB11.out.lt
      have HB12 : Hid (Blk (w11.setCell ⟨wr.heap.size, 8, none⟩ (.int .i64 (dcN x8 : Nat))) wr.heap.size 24 (styCells (.slice none 0 0) ⟨x0, eb, x2, x3, x4, x5, x6, x7, (dcN x8 : Nat), []⟩)) := HB11.out.set 8 _
      have HK12 := Lib.hid (kept_set HK11.out wr.heap.size 8 (.int .i64 (dcN x8 : Nat)) (Nat.le_refl _))
      clear c0 c1 c2 c3 c4 c5 c6 c7 c8 HC8 zV zV10 hk11 HB10 HK10 HB11 HK11 HNEW HKNEW HATO HVK hVY heb HEB
      generalize (dcN x8 : Nat) = mo at *
      go_wp2_with fail
      rw [HYY.out] at HB12 HK12 ⊢
      generalize World.setCell _ _ _ = w12 at HB12 HK12 ⊢
      clear y8 f8 z8 hsl h9'
      have HOW0 : Hid (w12.ownsRow (Y + 1) 49 2 (.slice none 0 0) 0 (pairC [])) := World.ownsRow_nil _ _ _ _
      (try simp only [mk_bs])
      obtain ⟨wo, rfl⟩ : ∃ wo : World, wo = wr := ⟨_, rfl⟩
      go_loopw [99] (fun i wr => ∃ (k : Nat) (es : List Pr) (vE : Value), k ≤ es9.length ∧ i = .int .i64 k ∧ Hid (es.length = k) ∧ Hid (es = (es9.take k).filterMap entR) ∧ Hid (∀ j, j < k → (entR (es9.getD j [])).isNone = false) ∧ Hid (wr.ownsRow (Y + 1) 49 2 vE es.length (pairC es)) ∧ Hid (Blk wr Y 24 (styCells vE ⟨x0, eb, x2, x3, x4, x5, x6, x7, mo, []⟩)) ∧ Hid (Kept wo wr)) (fun i _ => es9.length - (intOf i).toNat)
      case atStart => exact ⟨0, [], _, Nat.zero_le _, rfl, rfl, rfl, fun j hj => by omega, HOW0.out, HB12.out, HK12.out⟩
      case round =>
        clear HOW0 HB12 HK12
        obtain ⟨k, es, vE, hk, rfl, HEL, HEF, HN, HOWN, HB, HK⟩ := hrel
        have hsz : wo.heap.size ≤ wr.heap.size := HK.out.size
        have hzY := HB.out.lt
        have HKT := Lib.hid (HKW.out.trans HK.out)
        have HR2 := Lib.hid (HRW.out.kept HK.out)
        by_cases hlt : k < es9.length
        · obtain ⟨l, hx⟩ : ∃ l, es9[k]? = some l := ⟨_, List.getElem?_eq_getElem hlt⟩
          obtain ⟨g, o, rfl, hg, d0, -, -⟩ := (HST9.out.kept HK.out).cell_of k l hx
          have hll := HLD.out l (List.mem_of_getElem? hx)
          have HGD : Hid (es9.getD k [] = l) := by show _ = _; rw [List.getD_eq_getElem?_getD, hx]; rfl
          have HBAD : Hid (entR l = none → parL ls = (zeroY, (k : Int) + 10, 5)) := fun h => HENT.out k hlt HN.out (by rw [HGD.out, h]; rfl)
          have HNX : Hid (∀ p, entR l = some p → (es9.take (k + 1)).filterMap entR = es ++ [p] ∧ ∀ j, j < k + 1 → (entR (es9.getD j [])).isNone = false) := fun p hp => by
            refine ⟨by rw [fmap_next es9 k l p hx hp, HEF.out], fun j hj => ?_⟩
            rcases Nat.lt_or_ge j k with q | q
            · exact HN.out j q
            · obtain rfl : j = k := by omega
              rw [HGD.out, hp]; rfl
          clear hx HN HEF
          have HGW := Lib.hid (HG.out.kept HKT.out)
          have hkE : kEntry = [101, 110, 116, 114, 121, 32] := rfl
          cases hc : cutP kEntry l with
          | none =>
            have HRES := Lib.hid (HBAD.out (entR_none hc))
            have HCS := Lib.hid (fun w => cutp_none w hc)
            rw [hkE] at HCS
            have HCU := Lib.hid (fun w h => cut_any l 58 w h (by omega))
            clear hc hkE HNX HBAD
            by_cases hbf : before 58 l < l.length
            · simp only [if_pos hbf] at HCU
              clear hbf
              go_wp2_with fail
              refine (HCS.out _).mono ?_
              rintro e w5 ⟨rfl, rfl⟩
              go_wp2_with fail
              refine (HCU.out _ HGW.out).mono ?_
              rintro e w6 ⟨rfl, n6, rfl⟩
              have HKT6 := Lib.hid (HKT.out.trans (kept_drewN wr n6))
              have HR6 := Lib.hid (HR2.out.kept (kept_drewN wr n6))
              generalize wr.drewN n6 = w6 at *
              go_wp2_with (refine wpList_store_blk rfl 24 (.tmp 2) (.tmp 121) (by rfl) R _ (styCells (.slice none 0 0) zeroY) (by rfl) (by rfl) HR6.out rfl Tryz.sizeSty (sty_one _ rfl zeroY) ?_; intro w9 hb9 ho9; have HF := Lib.hid (HERR.out _ _ HRES.out w9 (only_kept HKT6.out ho9 hRz)); obtain ⟨⟨r0, r1, r2, r3, r4, r5, r6, r7, r8, r9⟩, rz⟩ := sty_cells hb9; simp only [zeroY] at r0 r1 r2 r3 r4 r5 r6 r7 r8 r9; clear hb9 ho9)
              refine bodyPost_ret (v := .tuple #[styV (.slice none 0 0) zeroY, .int .i64 (k + 10), .int .i64 5]) ?_ rfl HF.out
              simp [results, Tryz.results13, go_sem, r0, r1, r2, r3, r4, r5, r6, r7, r8, r9, rz, styV, styCells, zeroY]
            · simp only [if_neg hbf] at HCU
              clear hbf
              go_wp2_with fail
              refine (HCS.out _).mono ?_
              rintro e w5 ⟨rfl, rfl⟩
              go_wp2_with fail
              refine (HCU.out _ HGW.out).mono ?_
              rintro e w6 ⟨rfl, n6, rfl⟩
              have HKT6 := Lib.hid (HKT.out.trans (kept_drewN wr n6))
              have HR6 := Lib.hid (HR2.out.kept (kept_drewN wr n6))
              generalize wr.drewN n6 = w6 at *
              go_wp2_with (refine wpList_store_blk rfl 24 (.tmp 2) (.tmp 121) (by rfl) R _ (styCells (.slice none 0 0) zeroY) (by rfl) (by rfl) HR6.out rfl Tryz.sizeSty (sty_one _ rfl zeroY) ?_; intro w9 hb9 ho9; have HF := Lib.hid (HERR.out _ _ HRES.out w9 (only_kept HKT6.out ho9 hRz)); obtain ⟨⟨r0, r1, r2, r3, r4, r5, r6, r7, r8, r9⟩, rz⟩ := sty_cells hb9; simp only [zeroY] at r0 r1 r2 r3 r4 r5 r6 r7 r8 r9; clear hb9 ho9)
              refine bodyPost_ret (v := .tuple #[styV (.slice none 0 0) zeroY, .int .i64 (k + 10), .int .i64 5]) ?_ rfl HF.out
              simp [results, Tryz.results13, go_sem, r0, r1, r2, r3, r4, r5, r6, r7, r8, r9, rz, styV, styCells, zeroY]
          | some r =>
            have HCS := Lib.hid (fun w => cutp_some w hc)
            rw [hkE] at HCS
            have hrl : r.length ≤ 9000 := by have := (cutP_len hc).1; rw [this, List.length_drop]; omega
            have HCU := Lib.hid (fun w h => cut_any r 58 w h (by omega))
            have HEQ := Lib.hid (entR_cut hc)
            clear hc hkE
            by_cases hbf : before 58 r < r.length
            · simp only [if_pos hbf] at HCU
              rw [if_pos hbf] at HEQ
              obtain ⟨hfm, hnn⟩ := HNX.out _ HEQ.out
              have HFM := Lib.hid hfm
              have HNN := Lib.hid hnn
              clear hbf hfm hnn HEQ HNX HBAD
              generalize r.take (before 58 r) = X at *
              generalize r.drop (before 58 r + 1) = Z at *
              have hes : es.length ≤ 9001 := by rw [HEL.out]; omega
              go_wp2_with fail
              refine (HCS.out _).mono ?_
              rintro e w5 ⟨rfl, rfl⟩
              go_wp2_with fail
              refine (HCU.out _ HGW.out).mono ?_
              rintro e w6 ⟨rfl, n6, rfl⟩
              have HK6 := Lib.hid (HK.out.trans (kept_drewN wr n6))
              have HB6 := Lib.hid (HB.out.kept (kept_drewN wr n6))
              have HO6 := Lib.hid (own_kept HOWN.out (kept_drewN wr n6))
              have hzY6 : Y < (wr.drewN n6).heap.size := HB6.out.lt
              generalize wr.drewN n6 = w6 at *
              have y9 : w6.cell? ⟨Y, 9, none⟩ = some vE := HB6.out.cell 9 _ rfl
              have HBQ := Lib.hid (Blk.new w6 49 #[.string (bs X), .string (bs Z)])
              have HBA := Lib.hid (HB6.out.alloc (.cells #[.string (bs X), .string (bs Z)] 49))
              have HOA := Lib.hid (HO6.out.alloc (.cells #[.string (bs X), .string (bs Z)] 49))
              have HKA := Lib.hid (HK6.out.trans (kept_alloc w6 (.cells #[.string (bs X), .string (bs Z)] 49)))
              have hlt9 : Y < (w6.alloc (.cells #[.string (bs X), .string (bs Z)] 49)).heap.size := HBA.out.lt
              go_wp2_with (at_builtin; refine wpList_append_pr _ (by rfl) (.tmp 125) (.tmp 129) (by rfl) (Y + 1) _ es (by rfl) HOA.out (X, Z) w6.heap.size (by rfl) HBQ.out (by omega) hlt9 ?_; intro v9 w9 hown9 hgrow9; have HB9 : Hid (Blk w9 Y 24 _) := (hgrow9.block Y hlt9 (own_far HOA.out Y (Nat.lt_succ_self _))).trans HBA.out; have HK9 := Lib.hid (HKA.out.trans' (grown_below (own_mono HOA.out (show wo.heap.size ≤ Y + 1 by omega)) hgrow9 HKA.out.size)); have y9' : w9.cell? ⟨Y, 9, none⟩ = some vE := HB9.out.cell 9 _ rfl; have f9 := HB9.out.free 9; have z9 := HB9.out.lt; rw [List.length_append, List.length_singleton] at hown9; have HO9 := Lib.hid hown9; obtain ⟨a5, c5, rfl, -, -, -⟩ := own_cap hown9; clear hown9 hgrow9)
              have HBN : Hid (Blk (w9.setCell ⟨Y, 9, none⟩ (.slice a5 (es.length + 1) c5)) Y 24 (styCells (.slice a5 (es.length + 1) c5) ⟨x0, eb, x2, x3, x4, x5, x6, x7, mo, []⟩)) := HB9.out.set 9 _
              have HON : Hid ((w9.setCell ⟨Y, 9, none⟩ (.slice a5 (es.length + 1) c5)).ownsRow (Y + 1) 49 2 (.slice a5 (es.length + 1) c5) (es.length + 1) (pairC (es ++ [(X, Z)]))) := (Only.setCell Y 9 _).own HO9.out (fun g hg q => own_far HO9.out Y (Nat.lt_succ_self _) (by rw [hg, q]))
              have HKN := Lib.hid (kept_set HK9.out Y 9 (.slice a5 (es.length + 1) c5) hYz)
              go_roundw
              case rel => exact ⟨k + 1, es ++ [(X, Z)], _, by omega, by go_num, (by show _ = _; rw [List.length_append, HEL.out]; rfl), HFM.out.symm, HNN.out, (by show World.ownsRow _ _ _ _ _ _ _; rw [List.length_append]; exact HON.out), HBN.out, HKN.out⟩
              case measure => simp [intOf]; omega
            · simp only [if_neg hbf] at HCU
              rw [if_neg hbf] at HEQ
              have HRES := Lib.hid (HBAD.out HEQ.out)
              clear hbf HEQ HNX HBAD
              go_wp2_with fail
              refine (HCS.out _).mono ?_
              rintro e w5 ⟨rfl, rfl⟩
              go_wp2_with fail
              refine (HCU.out _ HGW.out).mono ?_
              rintro e w6 ⟨rfl, n6, rfl⟩
              have HKT6 := Lib.hid (HKT.out.trans (kept_drewN wr n6))
              have HR6 := Lib.hid (HR2.out.kept (kept_drewN wr n6))
              generalize wr.drewN n6 = w6 at *
              go_wp2_with (refine wpList_store_blk rfl 24 (.tmp 2) (.tmp 121) (by rfl) R _ (styCells (.slice none 0 0) zeroY) (by rfl) (by rfl) HR6.out rfl Tryz.sizeSty (sty_one _ rfl zeroY) ?_; intro w9 hb9 ho9; have HF := Lib.hid (HERR.out _ _ HRES.out w9 (only_kept HKT6.out ho9 hRz)); obtain ⟨⟨r0, r1, r2, r3, r4, r5, r6, r7, r8, r9⟩, rz⟩ := sty_cells hb9; simp only [zeroY] at r0 r1 r2 r3 r4 r5 r6 r7 r8 r9; clear hb9 ho9)
              refine bodyPost_ret (v := .tuple #[styV (.slice none 0 0) zeroY, .int .i64 (k + 10), .int .i64 5]) ?_ rfl HF.out
              simp [results, Tryz.results13, go_sem, r0, r1, r2, r3, r4, r5, r6, r7, r8, r9, rz, styV, styCells, zeroY]
        · obtain ⟨yF, HYF⟩ : ∃ y, Hid (parY ls = y) := ⟨_, rfl⟩
          have HES : Hid (es = yF.entries) := by
            show _ = _
            rw [← HYF.out, HPY.out, HEF.out, List.take_of_length_le (by omega)]
          have HBF : Hid (Blk wr Y 24 (styCells vE yF)) := by
            rw [← HYF.out, HPY.out]; exact HB.out
          have HPR : Hid (Prs wr vE yF.entries) := by rw [← HES.out]; exact Prs.own HOWN.out
          have HOF : Hid (wr.ownsRow (Y + 1) 49 2 vE yF.entries.length (pairC yF.entries)) := by rw [← HES.out]; exact HOWN.out
          have HEND2 := Lib.hid (HEND.out (fun j hj => HN.out j (by omega)))
          rw [HYF.out] at HEND2 HSM
          have HCK := Lib.hid (fun w h h' => scheck_any vE yF w h HSM.out h')
          unfold styV at HCK
          have hone : vE.oneCell' = true := by
            obtain ⟨a5, c5, rfl, -, -, -⟩ := own_cap HOWN.out
            rfl
          have HOC := Lib.hid (sty_one vE hone yF)
          have HGW := Lib.hid (HG.out.kept HKT.out)
          clear hone HENT HEND HPY HB HOWN HN HEF HES HYF
          go_wp2_with (refine wpList_load_blk (by rfl) 24 (.tmp 11) (by rfl) Y (styCells vE yF) (by rfl) HBF.out _ Tryz.underlying24 rfl Tryz.sizeSty ?_)
          refine (HCK.out _ HGW.out HPR.out).mono ?_
          rintro e w7 ⟨rfl, hk7⟩
          have HK7 := Lib.hid (HKT.out.trans hk7)
          have HR7 := Lib.hid (HR2.out.kept hk7)
          have HB7 := Lib.hid (HBF.out.kept hk7)
          have HO7 := Lib.hid (own_kept HOF.out hk7)
          have hRY : R < Y + 1 := by have := HRW.out.lt; omega
          clear hk7 HCK
          by_cases hE : styE yF = 0
          · rw [if_pos hE] at HEND2
            rw [hE]
            clear hE
            go_wp2_with (first
              | (refine wpList_load_blk (by rfl) 24 (.tmp 11) (by rfl) Y (styCells vE yF) (by rfl) HB7.out _ Tryz.underlying24 rfl Tryz.sizeSty ?_)
              | (refine wpList_store_blk rfl 24 (.tmp 2) (.tmp 139) (by rfl) R _ (styCells vE yF) (by rfl) (by rfl) HR7.out rfl Tryz.sizeSty HOC.out ?_; intro w9 hb9 ho9; have HF := Lib.hid (HOKK.out yF HEND2.out vE w9 (Prs.own (ho9.own HO7.out (fun g hg q => own_far HO7.out R hRY (by rw [hg, q])))) (only_kept HK7.out ho9 hRz)); obtain ⟨⟨r0, r1, r2, r3, r4, r5, r6, r7, r8, r9⟩, rz⟩ := sty_cells hb9; clear hb9 ho9))
            refine bodyPost_ret (v := .tuple #[styV vE yF, .int .i64 0, .int .i64 0]) ?_ rfl HF.out
            simp [results, Tryz.results13, go_sem, r0, r1, r2, r3, r4, r5, r6, r7, r8, r9, rz, styV, styCells]
          · rw [if_neg hE] at HEND2
            have HRES := HEND2
            have hE' : (styE yF == 0) = false := by rw [beq_eq_false_iff_ne]; exact hE
            clear hE
            generalize styE yF = E at *
            go_wp2_with (refine wpList_store_blk rfl 24 (.tmp 2) (.tmp 137) (by rfl) R _ (styCells (.slice none 0 0) zeroY) (by rfl) (by rfl) HR7.out rfl Tryz.sizeSty (sty_one _ rfl zeroY) ?_; intro w9 hb9 ho9; have HF := Lib.hid (HERR.out _ _ HRES.out w9 (only_kept HK7.out ho9 hRz)); obtain ⟨⟨r0, r1, r2, r3, r4, r5, r6, r7, r8, r9⟩, rz⟩ := sty_cells hb9; simp only [zeroY] at r0 r1 r2 r3 r4 r5 r6 r7 r8 r9; clear hb9 ho9)
            refine bodyPost_ret (v := .tuple #[styV (.slice none 0 0) zeroY, .int .i64 (0), .int .i64 E]) ?_ rfl HF.out
            simp [results, Tryz.results13, go_sem, r0, r1, r2, r3, r4, r5, r6, r7, r8, r9, rz, styV, styCells, zeroY]
end Go.Proofs.YtofeonnmoakbaaaGreatDoor

/- awake of the laws of styles. No condition. -/
set_option linter.all false
namespace Go.Proofs.YtofeonnmoakbaaaGreatDoor
open Go.RowKit

def TabW (w : World) : Prop := Lib.TabIs Tryz.prog w "internal/strconv.uint64pow10" .u64 Lib.pow10Tab
theorem TabW.kept {w w' : World} (h : TabW w) (k : Kept w w') : TabW w' := tab_kept h k
/-- Builtin: the style, and that the entries' slice is one cell. -/
def BltP (y : StyT) (b : Bool) (w : World) (e : Ending) (w' : World) : Prop := ∃ vE, e = .returned (.tuple #[styV vE y, .bool b]) ∧ vE.oneCell' = true ∧ Prs w' vE y.entries ∧ Kept w w'
theorem prs_one {w : World} {v : Value} {ps : List Pr} (h : Prs w v ps) : v.oneCell' = true := by
  obtain ⟨a, c, rfl, _⟩ := h; rfl
theorem blt_awk1 (w : World) : Calls Tryz.prog 23 #[.string (bs [110, 117, 109, 101, 114, 105, 99])] w (BltP numY true w) := by
  have h := sbuiltin_any [110, 117, 109, 101, 114, 105, 99] w
  rw [blt_num] at h
  exact h.mono fun e w' ⟨vE, he, hp, hk⟩ => ⟨vE, he, prs_one hp, hp, hk⟩
theorem blt_awk2 (w : World) : Calls Tryz.prog 23 #[.string (bs [97, 117, 116, 104, 111, 114, 45, 100, 97, 116, 101])] w (BltP dateY true w) := by
  have h := sbuiltin_any [97, 117, 116, 104, 111, 114, 45, 100, 97, 116, 101] w
  rw [blt_date] at h
  exact h.mono fun e w' ⟨vE, he, hp, hk⟩ => ⟨vE, he, prs_one hp, hp, hk⟩
theorem blt_awk3 (w : World) : Calls Tryz.prog 23 #[.string (bs [120])] w (BltP zeroY false w) := by
  have h := sbuiltin_any [120] w
  rw [blt_none] at h
  exact h.mono fun e w' ⟨vE, he, hp, hk⟩ => ⟨vE, he, prs_one hp, hp, hk⟩
theorem awk_fit (suf : Bs) (n : Int) (hs : suf.length ≤ 1000) (hn : -9223372036854775808 ≤ n ∧ n ≤ 9223372036854775807) : FitV (awkC suf n) := by
  refine ⟨⟨by simp [awkC], by simp [awkC], fun q hq => by simp [awkC] at hq, fun q hq => by simp [awkC] at hq, by simp [awkC], by simp [awkC], ?_, hn⟩, by simp [awkC], by simp [awkC], by simp [awkC]; omega, fun p hp => ?_⟩
  · have := field_len (ps := (awkC suf n).fields) (n := 1) (fun p hp => by simp [awkC] at hp; subst hp; simp) [121, 101, 97, 114]
    omega
  · simp [awkC] at hp; subst hp; simp
theorem perss_none (w : World) : Perss w (.slice none 0 0) [] := ⟨none, 0, rfl, Nat.le_refl _, fun q => absurd q (by simp)⟩
theorem awk_fill (t suf : Bs) (n : Int) (vF vY : Value) (w : World) (hYo : vY.oneCell' = true) (hg : Gnd w) (hT : TabW w) (ht : t.length ≤ 100000) (hs : suf.length ≤ 1000) (hn : -9223372036854775808 ≤ n ∧ n ≤ 9223372036854775807) (hF : Prs w vF [([116, 105, 116, 108, 101], [84])]) :
    Calls Tryz.prog 17 #[.string (bs t), .agg #[.string (bs [107]), .string (bs [98, 111, 111, 107]), .slice none 0 0, .slice none 0 0, vF], .agg (styCells vY numY), .string (bs [101, 110]), .string (bs suf), .int .i64 n] w fun e w' => e = .returned (.tuple #[.string (bs (fillS (awkC suf n) t)), .int .i64 (splE t)]) ∧ Kept w w' :=
  sfill_any (awkC suf n) t (.slice none 0 0) (.slice none 0 0) vF vY numY w rfl hYo hg hT ht (awk_fit suf n hs hn) (perss_none w) (perss_none w) hF
theorem awk_par (w : World) (hg : Gnd w) : Calls Tryz.prog 13 #[.string (bs [])] w fun e w' => ∃ vE, e = .returned (.tuple #[styV vE zeroY, .int .i64 1, .int .i64 5]) ∧ vE.oneCell' = true ∧ Kept w w' := by
  have h := sparse_any [] w hg (by simp)
  rw [awk_p] at h
  exact h.mono fun e w' ⟨vE, he, hp, hk⟩ => ⟨vE, he, prs_one hp, hk⟩
theorem awk_fill1 (vF vY : Value) (w : World) (hYo : vY.oneCell' = true) (hg : Gnd w) (hT : TabW w) (hF : Prs w vF [([116, 105, 116, 108, 101], [84])]) : Calls Tryz.prog 17 #[.string (bs [123, 116, 105, 116, 108, 101, 125, 91, 44, 32, 123, 121, 101, 97, 114, 125, 93]), .agg #[.string (bs [107]), .string (bs [98, 111, 111, 107]), .slice none 0 0, .slice none 0 0, vF], .agg (styCells vY numY), .string (bs [101, 110]), .string (bs []), .int .i64 0] w fun e w' => e = .returned (.tuple #[.string (bs [84]), .int .i64 0]) ∧ Kept w w' := by
  have h := awk_fill [123, 116, 105, 116, 108, 101, 125, 91, 44, 32, 123, 121, 101, 97, 114, 125, 93] [] 0 vF vY w hYo hg hT (by decide) (by decide) (by decide) hF
  rw [show fillS (awkC [] 0) [123, 116, 105, 116, 108, 101, 125, 91, 44, 32, 123, 121, 101, 97, 114, 125, 93] = [84] from awk_f1, show splE [123, 116, 105, 116, 108, 101, 125, 91, 44, 32, 123, 121, 101, 97, 114, 125, 93] = 0 from awk_e1] at h
  exact h
theorem awk_fill2 (vF vY : Value) (w : World) (hYo : vY.oneCell' = true) (hg : Gnd w) (hT : TabW w) (hF : Prs w vF [([116, 105, 116, 108, 101], [84])]) : Calls Tryz.prog 17 #[.string (bs [123, 97, 117, 116, 104, 111, 114]), .agg #[.string (bs [107]), .string (bs [98, 111, 111, 107]), .slice none 0 0, .slice none 0 0, vF], .agg (styCells vY numY), .string (bs [101, 110]), .string (bs []), .int .i64 0] w fun e w' => e = .returned (.tuple #[.string (bs []), .int .i64 5]) ∧ Kept w w' := by
  have h := awk_fill [123, 97, 117, 116, 104, 111, 114] [] 0 vF vY w hYo hg hT (by decide) (by decide) (by decide) hF
  rw [show fillS (awkC [] 0) [123, 97, 117, 116, 104, 111, 114] = [] from awk_f2, show splE [123, 97, 117, 116, 104, 111, 114] = 5 from awk_e2] at h
  exact h
theorem awk_fill3 (vF vY : Value) (w : World) (hYo : vY.oneCell' = true) (hg : Gnd w) (hT : TabW w) (hF : Prs w vF [([116, 105, 116, 108, 101], [84])]) : Calls Tryz.prog 17 #[.string (bs [123, 110, 117, 109, 98, 101, 114, 125, 123, 115, 117, 102, 102, 105, 120, 125]), .agg #[.string (bs [107]), .string (bs [98, 111, 111, 107]), .slice none 0 0, .slice none 0 0, vF], .agg (styCells vY numY), .string (bs [101, 110]), .string (bs [98]), .int .i64 12] w fun e w' => e = .returned (.tuple #[.string (bs [49, 50, 98]), .int .i64 0]) ∧ Kept w w' := by
  have h := awk_fill [123, 110, 117, 109, 98, 101, 114, 125, 123, 115, 117, 102, 102, 105, 120, 125] [98] 12 vF vY w hYo hg hT (by decide) (by decide) (by decide) hF
  rw [show fillS (awkC [98] 12) [123, 110, 117, 109, 98, 101, 114, 125, 123, 115, 117, 102, 102, 105, 120, 125] = [49, 50, 98] from awk_f3, show splE [123, 110, 117, 109, 98, 101, 114, 125, 123, 115, 117, 102, 102, 105, 120, 125] = 0 from awk_e3] at h
  exact h
theorem num_small : SmallY numY := by
  refine ⟨by decide, by decide, by decide, by decide, by decide, by decide, by decide, by decide, fun p hp => ?_⟩
  have h : p ∈ numYE := hp
  unfold numYE at h
  simp only [List.mem_cons, List.mem_nil_iff, or_false] at h
  rcases h with rfl | rfl <;> exact ⟨by decide, by decide⟩
def badY : StyT := { dateY with cite := [123, 97, 117, 116, 104, 111, 114, 125] }
theorem bad_small : SmallY badY := by
  refine ⟨by decide, by decide, by decide, by decide, by decide, by decide, by decide, by decide, fun p hp => ?_⟩
  have h : p ∈ dateYE := hp
  unfold dateYE at h
  simp only [List.mem_cons, List.mem_nil_iff, or_false] at h
  rcases h with rfl | rfl <;> exact ⟨by decide, by decide⟩
theorem awk_pair (w : World) : Prs (w.alloc (.cells #[.string (bs [116, 105, 116, 108, 101]), .string (bs [84])] 49)) (.slice (some ⟨w.heap.size, 0, none⟩) 1 1) [([116, 105, 116, 108, 101], [84])] := by
  refine ⟨_, _, rfl, Nat.le_refl _, fun _ => ⟨w.heap.size, 0, rfl, by simp, fun j x hx => ?_⟩⟩
  have hb := Blk.new w 49 #[.string (bs [116, 105, 116, 108, 101]), .string (bs [84])]
  match j with
  | 0 => cases hx; exact ⟨hb.cell 0 _ rfl, hb.cell 1 _ rfl⟩
  | j + 1 => simp at hx
set_option maxRecDepth 100000 in
set_option maxHeartbeats 12800000 in
theorem sawake_any (w : World) (hg : Gnd w) (hT : TabW w) : Calls Tryz.prog 10 #[] w fun e w' => e = .returned (.bool true) ∧ Kept w w' := by
  have HG := Lib.hid hg
  have HT := Lib.hid hT
  clear hg hT
  go_enter Tryz.func10, Tryz.ntmps10
  go_wp2_with fail
  refine (blt_awk1 _).mono ?_
  rintro e w1 ⟨vN, rfl, ho1, hp1, hk1⟩
  have HP1 := Lib.hid hp1
  have HK1 := Lib.hid hk1
  have HO1 := Lib.hid ho1
  have HN1 := Lib.hid (Blk.new w1 24 #[.string (bs []), .bool false, .string (bs []), .string (bs []), .string (bs []), .string (bs []), .string (bs []), .string (bs []), .int .i64 0, .slice none 0 0])
  have HKN1 := Lib.hid (kept_alloc w1 (.cells #[.string (bs []), .bool false, .string (bs []), .string (bs []), .string (bs []), .string (bs []), .string (bs []), .string (bs []), .int .i64 0, .slice none 0 0] 24))
  clear hp1 hk1 ho1
  go_wp2_with (refine wpList_store_blk rfl 24 (.tmp 1) (.tmp 22) (by rfl) w1.heap.size _ (styCells vN numY) (by rfl) (by rfl) HN1.out rfl Tryz.sizeSty (sty_one _ HO1.out numY) ?_; intro w2 hb2 ho2; have HB2 := Lib.hid hb2; have HK2 := Lib.hid (HK1.out.trans (only_kept HKN1.out ho2 (Nat.le_refl _))); have HP2 := Lib.hid (HP1.out.kept (only_kept HKN1.out ho2 (Nat.le_refl _))); clear hb2 ho2)
  clear HN1 HKN1 HP1 HK1
  obtain ⟨B1, HBB1⟩ : ∃ B, Hid (w1.heap.size = B) := ⟨_, rfl⟩
  rw [HBB1.out] at HB2 ⊢
  refine (blt_awk2 _).mono ?_
  rintro e w3 ⟨vD, rfl, ho3, hp3, hk3⟩
  have HP3 := Lib.hid hp3
  have HK3 := Lib.hid (HK2.out.trans hk3)
  have HO3 := Lib.hid ho3
  have HB3 := Lib.hid (HB2.out.kept hk3)
  have HPN3 := Lib.hid (HP2.out.kept hk3)
  have HN3 := Lib.hid (Blk.new w3 24 #[.string (bs []), .bool false, .string (bs []), .string (bs []), .string (bs []), .string (bs []), .string (bs []), .string (bs []), .int .i64 0, .slice none 0 0])
  have HKN3 := Lib.hid (kept_alloc w3 (.cells #[.string (bs []), .bool false, .string (bs []), .string (bs []), .string (bs []), .string (bs []), .string (bs []), .string (bs []), .int .i64 0, .slice none 0 0] 24))
  clear hp3 hk3 ho3 HB2 HP2 HK2
  go_wp2_with (refine wpList_store_blk rfl 24 (.tmp 3) (.tmp 26) (by rfl) w3.heap.size _ (styCells vD dateY) (by rfl) (by rfl) HN3.out rfl Tryz.sizeSty (sty_one _ HO3.out dateY) ?_; intro w4 hb4 ho4; have HKA := Lib.hid (only_kept HKN3.out ho4 (Nat.le_refl _)); have HBD4 := Lib.hid hb4; have HK4 := Lib.hid (HK3.out.trans HKA.out); have HB4 := Lib.hid (HB3.out.kept HKA.out); have HPN4 := Lib.hid (HPN3.out.kept HKA.out); have HPD4 := Lib.hid (HP3.out.kept HKA.out); clear hb4 ho4 HKA)
  clear HN3 HKN3 HP3 HK3 HB3 HPN3
  obtain ⟨B2, HBB2⟩ : ∃ B, Hid (w3.heap.size = B) := ⟨_, rfl⟩
  rw [HBB2.out] at HBD4 ⊢
  refine (blt_awk3 _).mono ?_
  rintro e w5 ⟨vZ, rfl, ho5, -, hk5⟩
  have HO5 := Lib.hid ho5
  have HK5 := Lib.hid (HK4.out.trans hk5)
  have HB5 := Lib.hid (HB4.out.kept hk5)
  have HBD5 := Lib.hid (HBD4.out.kept hk5)
  have HPN5 := Lib.hid (HPN4.out.kept hk5)
  have HPD5 := Lib.hid (HPD4.out.kept hk5)
  have HN5 := Lib.hid (Blk.new w5 24 #[.string (bs []), .bool false, .string (bs []), .string (bs []), .string (bs []), .string (bs []), .string (bs []), .string (bs []), .int .i64 0, .slice none 0 0])
  have HKN5 := Lib.hid (kept_alloc w5 (.cells #[.string (bs []), .bool false, .string (bs []), .string (bs []), .string (bs []), .string (bs []), .string (bs []), .string (bs []), .int .i64 0, .slice none 0 0] 24))
  clear hk5 ho5 HK4 HB4 HBD4 HPN4 HPD4
  go_wp2_with (first
    | (refine wpList_load_blk (by rfl) 24 (.tmp 1) (by rfl) B1 _ (by rfl) HB8.out _ Tryz.underlying24 rfl Tryz.sizeSty ?_)
    | (refine wpList_store_blk rfl 24 (.tmp 5) (.tmp 30) (by rfl) w5.heap.size _ (styCells vZ zeroY) (by rfl) (by rfl) HN5.out rfl Tryz.sizeSty (sty_one _ HO5.out zeroY) ?_; intro w6 hb6 ho6; have HKA := Lib.hid (only_kept HKN5.out ho6 (Nat.le_refl _)); have HKC := Lib.hid (kept_alloc w6 (.cells #[.string (bs [116, 105, 116, 108, 101]), .string (bs [84])] 49)); have HKE := Lib.hid (kept_alloc (w6.alloc (.cells #[.string (bs [116, 105, 116, 108, 101]), .string (bs [84])] 49)) (.cells #[.string (bs [107]), .string (bs [98, 111, 111, 107]), .slice none 0 0, .slice none 0 0, .slice (some ⟨w6.heap.size, 0, none⟩) 1 1] 36)); have HPR := Lib.hid (awk_pair w6); have HSR := Lib.hid (Blk.new (w6.alloc (.cells #[.string (bs [116, 105, 116, 108, 101]), .string (bs [84])] 49)) 36 #[.string (bs [107]), .string (bs [98, 111, 111, 107]), .slice none 0 0, .slice none 0 0, .slice (some ⟨w6.heap.size, 0, none⟩) 1 1]); have HKF := Lib.hid (HKA.out.trans (HKC.out.trans HKE.out)); have HPS8 := Lib.hid (HPR.out.kept HKE.out); have HK8 := Lib.hid (HK5.out.trans HKF.out); have HB8 := Lib.hid (HB5.out.kept HKF.out); have HBD8 := Lib.hid (HBD5.out.kept HKF.out); have HPN8 := Lib.hid (HPN5.out.kept HKF.out); have HPD8 := Lib.hid (HPD5.out.kept HKF.out); clear hb6 ho6 HKA HKC HKE HKF HPR))
  have e8 : (w6.alloc (.cells #[.string (bs [116, 105, 116, 108, 101]), .string (bs [84])] 49)).heap.size = w6.heap.size + 1 := by simp
  have HS8 := HSR
  rw [e8] at HS8
  clear e8 HSR
  obtain ⟨SB, HSB⟩ : ∃ B, Hid (w6.heap.size + 1 = B) := ⟨_, rfl⟩
  rw [HSB.out] at HS8 ⊢
  generalize World.alloc (World.alloc w6 _) _ = w8 at *
  refine (awk_fill1 _ _ _ HO1.out (HG.out.kept HK8.out) (HT.out.kept HK8.out) HPS8.out).mono ?_
  rintro e w9 ⟨rfl, hk9⟩
  have HK9 := Lib.hid (HK8.out.trans hk9)
  have HB9 := Lib.hid (HB8.out.kept hk9)
  have HBD9 := Lib.hid (HBD8.out.kept hk9)
  have HPN9 := Lib.hid (HPN8.out.kept hk9)
  have HPD9 := Lib.hid (HPD8.out.kept hk9)
  have HS9 := Lib.hid (HS8.out.kept hk9)
  have HPS9 := Lib.hid (HPS8.out.kept hk9)
  clear hk9 HK8 HB8 HBD8 HPN8 HPD8 HS8 HPS8
  go_wp2_with (first
    | (refine wpList_load_blk (by rfl) 24 (.tmp 1) (by rfl) B1 _ (by rfl) HB9.out _ Tryz.underlying24 rfl Tryz.sizeSty ?_)
    | (refine wpList_load_blk (by rfl) 36 (.tmp 7) (by rfl) SB _ (by rfl) HS9.out _ Tryz.underlying36 rfl Tryz.sizeSrc ?_))
  refine (awk_fill2 _ _ _ HO1.out (HG.out.kept HK9.out) (HT.out.kept HK9.out) HPS9.out).mono ?_
  rintro e w10 ⟨rfl, hk10⟩
  have HK10 := Lib.hid (HK9.out.trans hk10)
  have HB10 := Lib.hid (HB9.out.kept hk10)
  have HBD10 := Lib.hid (HBD9.out.kept hk10)
  have HPN10 := Lib.hid (HPN9.out.kept hk10)
  have HPD10 := Lib.hid (HPD9.out.kept hk10)
  have HS10 := Lib.hid (HS9.out.kept hk10)
  have HPS10 := Lib.hid (HPS9.out.kept hk10)
  clear hk10 HK9 HB9 HBD9 HPN9 HPD9 HS9 HPS9
  go_wp2_with (first
    | (refine wpList_load_blk (by rfl) 24 (.tmp 1) (by rfl) B1 _ (by rfl) HB10.out _ Tryz.underlying24 rfl Tryz.sizeSty ?_)
    | (refine wpList_load_blk (by rfl) 36 (.tmp 7) (by rfl) SB _ (by rfl) HS10.out _ Tryz.underlying36 rfl Tryz.sizeSrc ?_))
  refine (awk_fill3 _ _ _ HO1.out (HG.out.kept HK10.out) (HT.out.kept HK10.out) HPS10.out).mono ?_
  rintro e w11 ⟨rfl, hk11⟩
  have HK11 := Lib.hid (HK10.out.trans hk11)
  have HB11 := Lib.hid (HB10.out.kept hk11)
  have HBD11 := Lib.hid (HBD10.out.kept hk11)
  have HPN11 := Lib.hid (HPN10.out.kept hk11)
  have HPD11 := Lib.hid (HPD10.out.kept hk11)
  have HS11 := Lib.hid (HS10.out.kept hk11)
  have HPS11 := Lib.hid (HPS10.out.kept hk11)
  clear hk11 HK10 HB10 HBD10 HPN10 HPD10 HS10 HPS10
  go_wp2_with fail
  refine (awk_par _ (HG.out.kept HK11.out)).mono ?_
  rintro e w12 ⟨vP, rfl, hoP, hk12⟩
  have HK12 := Lib.hid (HK11.out.trans hk12)
  have HB12 := Lib.hid (HB11.out.kept hk12)
  have HBD12 := Lib.hid (HBD11.out.kept hk12)
  have HPN12 := Lib.hid (HPN11.out.kept hk12)
  have HPD12 := Lib.hid (HPD11.out.kept hk12)
  have HS12 := Lib.hid (HS11.out.kept hk12)
  have HPS12 := Lib.hid (HPS11.out.kept hk12)
  clear hk12 HK11 HB11 HBD11 HPN11 HPD11 HS11 HPS11
  have HOP := Lib.hid hoP
  have HN12 := Lib.hid (Blk.new w12 24 #[.string (bs []), .bool false, .string (bs []), .string (bs []), .string (bs []), .string (bs []), .string (bs []), .string (bs []), .int .i64 0, .slice none 0 0])
  have HKN12 := Lib.hid (kept_alloc w12 (.cells #[.string (bs []), .bool false, .string (bs []), .string (bs []), .string (bs []), .string (bs []), .string (bs []), .string (bs []), .int .i64 0, .slice none 0 0] 24))
  clear hoP
  go_wp2_with (first
    | (refine wpList_load_blk (by rfl) 24 (.tmp 1) (by rfl) B1 _ (by rfl) HB13.out _ Tryz.underlying24 rfl Tryz.sizeSty ?_)
    | (refine wpList_store_blk rfl 24 (.tmp 14) (.tmp 55) (by rfl) w12.heap.size _ (styCells vP zeroY) (by rfl) (by rfl) HN12.out rfl Tryz.sizeSty (sty_one _ HOP.out zeroY) ?_; intro w13 hb13 ho13; have HKA := Lib.hid (only_kept HKN12.out ho13 (Nat.le_refl _)); have HK13 := Lib.hid (HK12.out.trans HKA.out); have HB13 := Lib.hid (HB12.out.kept HKA.out); have HBD13 := Lib.hid (HBD12.out.kept HKA.out); have HPN13 := Lib.hid (HPN12.out.kept HKA.out); have HPD13 := Lib.hid (HPD12.out.kept HKA.out); clear hb13 ho13 HKA))
  have HTX := Lib.hid (stext_any vN numY w13 (HG.out.kept HK13.out) num_small HPN13.out)
  rw [num_sty] at HTX
  have HNT := Lib.hid num_text
  generalize styS numY = TX at *
  unfold styV at HTX
  refine HTX.out.mono ?_
  rintro e w14 ⟨rfl, hk14⟩
  have HK14 := Lib.hid (HK13.out.trans hk14)
  have HB14 := Lib.hid (HB13.out.kept hk14)
  have HBD14 := Lib.hid (HBD13.out.kept hk14)
  have HPD14 := Lib.hid (HPD13.out.kept hk14)
  clear hk14 HTX HK13 HB13 HBD13 HPN13 HPD13 HK12 HB12 HBD12 HPN12 HPD12 HS12 HPS12 HN12 HKN12
  have HN14 := Lib.hid (Blk.new w14 24 #[.string (bs []), .bool false, .string (bs []), .string (bs []), .string (bs []), .string (bs []), .string (bs []), .string (bs []), .int .i64 0, .slice none 0 0])
  have HKN14 := Lib.hid (kept_alloc w14 (.cells #[.string (bs []), .bool false, .string (bs []), .string (bs []), .string (bs []), .string (bs []), .string (bs []), .string (bs []), .int .i64 0, .slice none 0 0] 24))
  obtain ⟨B3, HBB3⟩ : ∃ B, Hid (w14.heap.size = B) := ⟨_, rfl⟩
  have hB1 : B1 < w14.heap.size := HB14.out.lt
  have hB2 : B2 < w14.heap.size := HBD14.out.lt
  have htl := HNT.out.1
  have tk := run_upto (P := Tryz.prog) (t := 9) Tryz.underlying9 TX 26 (by omega) 26 rfl _ HNT.out.2
  have HCK := Lib.hid (fun w h h' => scheck_any vD badY w h bad_small h')
  have hbs : styE badY = 8 := bad_sty
  rw [hbs] at HCK
  clear hbs
  unfold styV at HCK
  go_wp2_with (first
    | (refine wpList_load_blk (by rfl) 24 (.tmp 3) (by rfl) B2 _ (by rfl) HBD14.out _ Tryz.underlying24 rfl Tryz.sizeSty ?_)
    | (refine wpList_store_blk rfl 24 (.tmp 19) (.tmp 63) (by rfl) w14.heap.size _ (styCells vD dateY) (by rfl) (by rfl) HN14.out rfl Tryz.sizeSty (sty_one _ HO3.out dateY) ?_; intro w15 hb15 ho15; have HKA := Lib.hid (only_kept HKN14.out ho15 (Nat.le_refl _)); have HB15 := Lib.hid (HB14.out.kept HKA.out); have HBD15 := Lib.hid (HBD14.out.kept HKA.out); have hne1 : B1 ≠ w14.heap.size := Nat.ne_of_lt hB1; have hne2 : B2 ≠ w14.heap.size := Nat.ne_of_lt hB2; have y3 : w15.cell? ⟨w14.heap.size, 3, none⟩ = some (.string (bs dateY.cite)) := hb15.cell 3 _ rfl; have f3 := hb15.free 3; have z3 := hb15.lt; have HBX : Hid (Blk (w15.setCell ⟨w14.heap.size, 3, none⟩ (.string (bs [123, 97, 117, 116, 104, 111, 114, 125]))) w14.heap.size 24 (styCells vD badY)) := hb15.set 3 _; have HKX := Lib.hid (HK14.out.trans (kept_set HKA.out w14.heap.size 3 (.string (bs [123, 97, 117, 116, 104, 111, 114, 125])) (Nat.le_refl _))); have HPX := Lib.hid (HPD14.out.kept (kept_set HKA.out w14.heap.size 3 (.string (bs [123, 97, 117, 116, 104, 111, 114, 125])) (Nat.le_refl _))); have k1 : (w15.setCell ⟨w14.heap.size, 3, none⟩ (.string (bs [123, 97, 117, 116, 104, 111, 114, 125]))).cell? ⟨B1, 1, none⟩ = some (.bool true) := (HB15.out.other w14.heap.size 3 _ hne1).cell 1 _ rfl; have k2 : (w15.setCell ⟨w14.heap.size, 3, none⟩ (.string (bs [123, 97, 117, 116, 104, 111, 114, 125]))).cell? ⟨B1, 8, none⟩ = some (.int .i64 3) := (HB15.out.other w14.heap.size 3 _ hne1).cell 8 _ rfl; have k3 : (w15.setCell ⟨w14.heap.size, 3, none⟩ (.string (bs [123, 97, 117, 116, 104, 111, 114, 125]))).cell? ⟨B2, 8, none⟩ = some (.int .i64 2) := (HBD15.out.other w14.heap.size 3 _ hne2).cell 8 _ rfl; obtain ⟨⟨q0, q1, q2, q3, q4, q5, q6, q7, q8, q9⟩, qz⟩ := sty_cells HBX.out; clear hb15 ho15 HKA))
  refine (HCK.out _ (HG.out.kept HKX.out) HPX.out).mono ?_
  rintro e w16 ⟨rfl, hk16⟩
  have HKZ := Lib.hid (HKX.out.trans hk16)
  clear hk16
  go_wp2_with fail
  go_ret
  exact ⟨rfl, HKZ.out⟩
end Go.Proofs.YtofeonnmoakbaaaGreatDoor
