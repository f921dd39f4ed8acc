/- The page's examples of styles, in plain Lean. No condition. -/
import Derived.Test.YtafcngdnngpdnaaGreatDoorK28
import Derived.Test.YtafcngdnngpdnaaGreatDoorK11
import Derived.Test.YtafcngdnngpdnaaGreatDoorK35
import Derived.Test.YtafcngdnngpdnaaGreatDoorK36

set_option linter.all false
namespace Go.Proofs.YtafcngdnngpdnaaGreatDoor
open Go.RowKit

def ascB (l : Bs) : Bool := l.all fun b => decide (32 ≤ (b.toNat : Int)) && decide ((b.toNat : Int) < 127)
theorem lnB_asc {l : Bs} (h : ascB l = true) : lnB l = true := by
  have : lineB l = true := line_asc l (fun b hb => by
    unfold ascB at h
    rw [List.all_eq_true] at h
    have := h b hb
    simpa using this)
  exact this
theorem splE_asc {t : Bs} (h : ascB t = true) : splE t = if (splT t).isSome = true then 0 else 5 := by
  unfold splE; rw [lnB_asc h]; rfl
theorem splE_yes {t : Bs} (h : ascB t = true) (hs : (splT t).isSome = true) : splE t = 0 := by rw [splE_asc h, hs]; rfl
theorem splE_no {t : Bs} (h : ascB t = true) (hs : (splT t).isSome = false) : splE t = 5 := by rw [splE_asc h, hs]; rfl
theorem splL_yes {t : Bs} (h : splE t = 0) : splL t = (splT t).getD [] := by unfold splL; rw [if_pos h]
def awkC (suf : Bs) (n : Int) : FilT := ⟨[107], [98, 111, 111, 107], [], [], [([116, 105, 116, 108, 101], [84])], [101, 110], suf, n, 3⟩
def awkT1 : Bs := [123, 116, 105, 116, 108, 101, 125, 91, 44, 32, 123, 121, 101, 97, 114, 125, 93]
def awkT2 : Bs := [123, 97, 117, 116, 104, 111, 114]
def awkT3 : Bs := [123, 110, 117, 109, 98, 101, 114, 125, 123, 115, 117, 102, 102, 105, 120, 125]
theorem awk_e1 : splE awkT1 = 0 := splE_yes (by decide +kernel) (by decide +kernel)
theorem awk_e2 : splE awkT2 = 5 := splE_no (by decide +kernel) (by decide +kernel)
theorem awk_e3 : splE awkT3 = 0 := splE_yes (by decide +kernel) (by decide +kernel)
theorem awk_f1 : fillS (awkC [] 0) awkT1 = [84] := by
  unfold fillS
  rw [splL_yes awk_e1]
  decide +kernel
theorem awk_f2 : fillS (awkC [] 0) awkT2 = [] := by
  unfold fillS splL
  rw [awk_e2, if_neg (by decide)]; rfl
theorem awk_f3 : fillS (awkC [98] 12) awkT3 = [49, 50, 98] := by
  unfold fillS
  rw [splL_yes awk_e3]
  decide +kernel
theorem awk_p : parL (linesL []) = (zeroY, 1, 5) := parL_head (i := 0) (by decide) (fun j hj => by omega) rfl
theorem free_suffix : freeB ((splT dateY.cite).getD []) kSuffix = true := by decide +kernel
theorem num_ent : entE numYE = 0 := by
  unfold entE numYE
  rw [entA_cons, if_neg (by decide +kernel), if_neg (by decide +kernel), splE_yes (by decide +kernel) (by decide +kernel), if_neg (by decide), entA_cons, if_neg (by decide +kernel), if_neg (by decide +kernel), splE_yes (by decide +kernel) (by decide +kernel), if_neg (by decide), entA_end, if_pos (by decide +kernel)]
theorem date_ent : entE dateYE = 0 := by
  unfold entE dateYE
  rw [entA_cons, if_neg (by decide +kernel), if_neg (by decide +kernel), splE_yes (by decide +kernel) (by decide +kernel), if_neg (by decide), entA_cons, if_neg (by decide +kernel), if_neg (by decide +kernel), splE_yes (by decide +kernel) (by decide +kernel), if_neg (by decide), entA_end, if_pos (by decide +kernel)]
theorem num_cit : citE numY = 0 := by
  have h1 : splE numY.cite = 0 := splE_yes (by decide +kernel) (by decide +kernel)
  have h2 : splE numY.bare = 0 := splE_yes (by decide +kernel) (by decide +kernel)
  unfold citE
  rw [h1, if_neg (by decide), splL_yes h1, h2, if_neg (by decide +kernel)]
theorem date_cit : citE dateY = 0 := by
  have h1 : splE dateY.cite = 0 := splE_yes (by decide +kernel) (by decide +kernel)
  have h2 : splE dateY.bare = 0 := splE_yes (by decide +kernel) (by decide +kernel)
  unfold citE
  rw [h1, if_neg (by decide), splL_yes h1, h2, if_neg (by decide +kernel)]
theorem bad_cit : citE { dateY with cite := [123, 97, 117, 116, 104, 111, 114, 125] } = 8 := by
  have h1 : splE [123, 97, 117, 116, 104, 111, 114, 125] = 0 := splE_yes (by decide +kernel) (by decide +kernel)
  unfold citE
  show (if splE [123, 97, 117, 116, 104, 111, 114, 125] ≠ 0 then _ else _) = _
  rw [h1, if_neg (by decide)]
  show (if freeB (splL [123, 97, 117, 116, 104, 111, 114, 125]) _ = false then _ else _) = _
  rw [splL_yes h1, if_pos (by decide +kernel)]
theorem date_srt : srtE dateY.sort = 0 := by decide +kernel
theorem num_sty : styE numY = 0 := by
  unfold styE
  have h1 : lnB numY.between = true := lnB_asc (by decide +kernel)
  have h2 : lnB numY.begin_ = true := lnB_asc (by decide +kernel)
  have h3 : lnB numY.end_ = true := lnB_asc (by decide +kernel)
  have h4 : entE numY.entries = 0 := num_ent
  rw [if_neg (by decide), if_neg (by decide +kernel), if_neg (by decide), num_cit, if_neg (by decide), h1, h2, h3, if_neg (by decide), if_neg (by decide), h4]
theorem date_sty : styE dateY = 0 := by
  unfold styE
  have h1 : lnB dateY.between = true := lnB_asc (by decide +kernel)
  have h2 : lnB dateY.begin_ = true := lnB_asc (by decide +kernel)
  have h3 : lnB dateY.end_ = true := lnB_asc (by decide +kernel)
  have h4 : entE dateY.entries = 0 := date_ent
  rw [if_neg (by decide), if_neg (by decide +kernel), date_srt, if_neg (by decide), date_cit, if_neg (by decide), h1, h2, h3, if_neg (by decide), if_neg (by decide), h4]
theorem bad_sty : styE { dateY with cite := [123, 97, 117, 116, 104, 111, 114, 125] } = 8 := by
  unfold styE
  have h5 : srtE ({ dateY with cite := [123, 97, 117, 116, 104, 111, 114, 125] } : StyT).sort = 0 := date_srt
  rw [if_neg (by decide), if_neg (by decide +kernel), h5, if_neg (by decide), bad_cit, if_pos (by decide)]
theorem num_text : 26 < (styS numY).length ∧ (styS numY).take 26 = [110, 97, 109, 101, 58, 110, 117, 109, 101, 114, 105, 99, 10, 110, 117, 109, 101, 114, 105, 99, 58, 121, 101, 115, 10, 115] := by
  unfold styS
  rw [if_pos num_sty]
  decide +kernel
theorem blt_num : bltY [110, 117, 109, 101, 114, 105, 99] = some numY := by
  unfold bltY
  rw [if_neg (by decide), if_pos (by rfl)]
theorem blt_date : bltY [97, 117, 116, 104, 111, 114, 45, 100, 97, 116, 101] = some dateY := by
  unfold bltY
  rw [if_pos (by rfl)]
theorem blt_none : bltY [120] = none := by
  unfold bltY
  rw [if_neg (by decide), if_neg (by decide)]
end Go.Proofs.YtafcngdnngpdnaaGreatDoor

/- awake of the laws of styles. No condition. -/
set_option linter.all false
namespace Go.Proofs.YtafcngdnngpdnaaGreatDoor
open Go.RowKit

def TabW (w : World) : Prop := Lib.TabIs Tryz.prog w "internal/strconv.uint64pow10" .u64 Lib.pow10Tab
theorem TabW.kept {w w' : World} (h : TabW w) (k : Kept w w') : TabW w' := tab_kept h k
/-- Builtin: the style, and that the entries' slice is one cell. -/
def BltP (y : StyT) (b : Bool) (w : World) (e : Ending) (w' : World) : Prop := ∃ vE, e = .returned (.tuple #[styV vE y, .bool b]) ∧ vE.oneCell' = true ∧ Prs w' vE y.entries ∧ Kept w w'
theorem prs_one {w : World} {v : Value} {ps : List Pr} (h : Prs w v ps) : v.oneCell' = true := by
  obtain ⟨a, c, rfl, _⟩ := h; rfl
theorem blt_awk1 (w : World) : Calls Tryz.prog 12 #[.string (bs [110, 117, 109, 101, 114, 105, 99])] w (BltP numY true w) := by
  have h := sbuiltin_any [110, 117, 109, 101, 114, 105, 99] w
  rw [blt_num] at h
  exact h.mono fun e w' ⟨vE, he, hp, hk⟩ => ⟨vE, he, prs_one hp, hp, hk⟩
theorem blt_awk2 (w : World) : Calls Tryz.prog 12 #[.string (bs [97, 117, 116, 104, 111, 114, 45, 100, 97, 116, 101])] w (BltP dateY true w) := by
  have h := sbuiltin_any [97, 117, 116, 104, 111, 114, 45, 100, 97, 116, 101] w
  rw [blt_date] at h
  exact h.mono fun e w' ⟨vE, he, hp, hk⟩ => ⟨vE, he, prs_one hp, hp, hk⟩
theorem blt_awk3 (w : World) : Calls Tryz.prog 12 #[.string (bs [120])] w (BltP zeroY false w) := by
  have h := sbuiltin_any [120] w
  rw [blt_none] at h
  exact h.mono fun e w' ⟨vE, he, hp, hk⟩ => ⟨vE, he, prs_one hp, hp, hk⟩
theorem awk_fit (suf : Bs) (n : Int) (hs : suf.length ≤ 1000) (hn : -9223372036854775808 ≤ n ∧ n ≤ 9223372036854775807) : FitV (awkC suf n) := by
  refine ⟨⟨by simp [awkC], by simp [awkC], fun q hq => by simp [awkC] at hq, fun q hq => by simp [awkC] at hq, by simp [awkC], by simp [awkC], ?_, hn⟩, by simp [awkC], by simp [awkC], by simp [awkC]; omega, fun p hp => ?_⟩
  · have := field_len (ps := (awkC suf n).fields) (n := 1) (fun p hp => by simp [awkC] at hp; subst hp; simp) [121, 101, 97, 114]
    omega
  · simp [awkC] at hp; subst hp; simp
theorem perss_none (w : World) : Perss w (.slice none 0 0) [] := ⟨none, 0, rfl, Nat.le_refl _, fun q => absurd q (by simp)⟩
theorem awk_fill (t suf : Bs) (n : Int) (vF vY : Value) (w : World) (hYo : vY.oneCell' = true) (hg : Gnd w) (hT : TabW w) (ht : t.length ≤ 100000) (hs : suf.length ≤ 1000) (hn : -9223372036854775808 ≤ n ∧ n ≤ 9223372036854775807) (hF : Prs w vF [([116, 105, 116, 108, 101], [84])]) :
    Calls Tryz.prog 13 #[.string (bs t), .agg #[.string (bs [107]), .string (bs [98, 111, 111, 107]), .slice none 0 0, .slice none 0 0, vF], .agg (styCells vY numY), .string (bs [101, 110]), .string (bs suf), .int .i64 n] w fun e w' => e = .returned (.tuple #[.string (bs (fillS (awkC suf n) t)), .int .i64 (splE t)]) ∧ Kept w w' :=
  sfill_any (awkC suf n) t (.slice none 0 0) (.slice none 0 0) vF vY numY w rfl hYo hg hT ht (awk_fit suf n hs hn) (perss_none w) (perss_none w) hF
theorem awk_par (w : World) (hg : Gnd w) : Calls Tryz.prog 9 #[.string (bs [])] w fun e w' => ∃ vE, e = .returned (.tuple #[styV vE zeroY, .int .i64 1, .int .i64 5]) ∧ vE.oneCell' = true ∧ Kept w w' := by
  have h := sparse_any [] w hg (by simp)
  rw [awk_p] at h
  exact h.mono fun e w' ⟨vE, he, hp, hk⟩ => ⟨vE, he, prs_one hp, hk⟩
theorem awk_fill1 (vF vY : Value) (w : World) (hYo : vY.oneCell' = true) (hg : Gnd w) (hT : TabW w) (hF : Prs w vF [([116, 105, 116, 108, 101], [84])]) : Calls Tryz.prog 13 #[.string (bs [123, 116, 105, 116, 108, 101, 125, 91, 44, 32, 123, 121, 101, 97, 114, 125, 93]), .agg #[.string (bs [107]), .string (bs [98, 111, 111, 107]), .slice none 0 0, .slice none 0 0, vF], .agg (styCells vY numY), .string (bs [101, 110]), .string (bs []), .int .i64 0] w fun e w' => e = .returned (.tuple #[.string (bs [84]), .int .i64 0]) ∧ Kept w w' := by
  have h := awk_fill [123, 116, 105, 116, 108, 101, 125, 91, 44, 32, 123, 121, 101, 97, 114, 125, 93] [] 0 vF vY w hYo hg hT (by decide) (by decide) (by decide) hF
  rw [show fillS (awkC [] 0) [123, 116, 105, 116, 108, 101, 125, 91, 44, 32, 123, 121, 101, 97, 114, 125, 93] = [84] from awk_f1, show splE [123, 116, 105, 116, 108, 101, 125, 91, 44, 32, 123, 121, 101, 97, 114, 125, 93] = 0 from awk_e1] at h
  exact h
theorem awk_fill2 (vF vY : Value) (w : World) (hYo : vY.oneCell' = true) (hg : Gnd w) (hT : TabW w) (hF : Prs w vF [([116, 105, 116, 108, 101], [84])]) : Calls Tryz.prog 13 #[.string (bs [123, 97, 117, 116, 104, 111, 114]), .agg #[.string (bs [107]), .string (bs [98, 111, 111, 107]), .slice none 0 0, .slice none 0 0, vF], .agg (styCells vY numY), .string (bs [101, 110]), .string (bs []), .int .i64 0] w fun e w' => e = .returned (.tuple #[.string (bs []), .int .i64 5]) ∧ Kept w w' := by
  have h := awk_fill [123, 97, 117, 116, 104, 111, 114] [] 0 vF vY w hYo hg hT (by decide) (by decide) (by decide) hF
  rw [show fillS (awkC [] 0) [123, 97, 117, 116, 104, 111, 114] = [] from awk_f2, show splE [123, 97, 117, 116, 104, 111, 114] = 5 from awk_e2] at h
  exact h
theorem awk_fill3 (vF vY : Value) (w : World) (hYo : vY.oneCell' = true) (hg : Gnd w) (hT : TabW w) (hF : Prs w vF [([116, 105, 116, 108, 101], [84])]) : Calls Tryz.prog 13 #[.string (bs [123, 110, 117, 109, 98, 101, 114, 125, 123, 115, 117, 102, 102, 105, 120, 125]), .agg #[.string (bs [107]), .string (bs [98, 111, 111, 107]), .slice none 0 0, .slice none 0 0, vF], .agg (styCells vY numY), .string (bs [101, 110]), .string (bs [98]), .int .i64 12] w fun e w' => e = .returned (.tuple #[.string (bs [49, 50, 98]), .int .i64 0]) ∧ Kept w w' := by
  have h := awk_fill [123, 110, 117, 109, 98, 101, 114, 125, 123, 115, 117, 102, 102, 105, 120, 125] [98] 12 vF vY w hYo hg hT (by decide) (by decide) (by decide) hF
  rw [show fillS (awkC [98] 12) [123, 110, 117, 109, 98, 101, 114, 125, 123, 115, 117, 102, 102, 105, 120, 125] = [49, 50, 98] from awk_f3, show splE [123, 110, 117, 109, 98, 101, 114, 125, 123, 115, 117, 102, 102, 105, 120, 125] = 0 from awk_e3] at h
  exact h
theorem num_small : SmallY numY := by
  refine ⟨by decide, by decide, by decide, by decide, by decide, by decide, by decide, by decide, fun p hp => ?_⟩
  have h : p ∈ numYE := hp
  unfold numYE at h
  simp only [List.mem_cons, List.mem_nil_iff, or_false] at h
  rcases h with rfl | rfl <;> exact ⟨by decide, by decide⟩
def badY : StyT := { dateY with cite := [123, 97, 117, 116, 104, 111, 114, 125] }
theorem bad_small : SmallY badY := by
  refine ⟨by decide, by decide, by decide, by decide, by decide, by decide, by decide, by decide, fun p hp => ?_⟩
  have h : p ∈ dateYE := hp
  unfold dateYE at h
  simp only [List.mem_cons, List.mem_nil_iff, or_false] at h
  rcases h with rfl | rfl <;> exact ⟨by decide, by decide⟩
theorem awk_pair (w : World) : Prs (w.alloc (.cells #[.string (bs [116, 105, 116, 108, 101]), .string (bs [84])] 35)) (.slice (some ⟨w.heap.size, 0, none⟩) 1 1) [([116, 105, 116, 108, 101], [84])] := by
  refine ⟨_, _, rfl, Nat.le_refl _, fun _ => ⟨w.heap.size, 0, rfl, by simp, fun j x hx => ?_⟩⟩
  have hb := Blk.new w 35 #[.string (bs [116, 105, 116, 108, 101]), .string (bs [84])]
  match j with
  | 0 => cases hx; exact ⟨hb.cell 0 _ rfl, hb.cell 1 _ rfl⟩
  | j + 1 => simp at hx
set_option maxRecDepth 100000 in
set_option maxHeartbeats 12800000 in
theorem sawake_any (w : World) (hg : Gnd w) (hT : TabW w) : Calls Tryz.prog 6 #[] w fun e w' => e = .returned (.bool true) ∧ Kept w w' := by
  have HG := Lib.hid hg
  have HT := Lib.hid hT
  clear hg hT
  go_enter Tryz.func6, Tryz.ntmps6
  go_wp2_with fail
  refine (blt_awk1 _).mono ?_
  rintro e w1 ⟨vN, rfl, ho1, hp1, hk1⟩
  have HP1 := Lib.hid hp1
  have HK1 := Lib.hid hk1
  have HO1 := Lib.hid ho1
  have HN1 := Lib.hid (Blk.new w1 24 #[.string (bs []), .bool false, .string (bs []), .string (bs []), .string (bs []), .string (bs []), .string (bs []), .string (bs []), .int .i64 0, .slice none 0 0])
  have HKN1 := Lib.hid (kept_alloc w1 (.cells #[.string (bs []), .bool false, .string (bs []), .string (bs []), .string (bs []), .string (bs []), .string (bs []), .string (bs []), .int .i64 0, .slice none 0 0] 24))
  clear hp1 hk1 ho1
  go_wp2_with (refine wpList_store_blk rfl 24 (.tmp 1) (.tmp 22) (by rfl) w1.heap.size _ (styCells vN numY) (by rfl) (by rfl) HN1.out rfl Tryz.sizeSty (sty_one _ HO1.out numY) ?_; intro w2 hb2 ho2; have HB2 := Lib.hid hb2; have HK2 := Lib.hid (HK1.out.trans (only_kept HKN1.out ho2 (Nat.le_refl _))); have HP2 := Lib.hid (HP1.out.kept (only_kept HKN1.out ho2 (Nat.le_refl _))); clear hb2 ho2)
  clear HN1 HKN1 HP1 HK1
  obtain ⟨B1, HBB1⟩ : ∃ B, Hid (w1.heap.size = B) := ⟨_, rfl⟩
  rw [HBB1.out] at HB2 ⊢
  refine (blt_awk2 _).mono ?_
  rintro e w3 ⟨vD, rfl, ho3, hp3, hk3⟩
  have HP3 := Lib.hid hp3
  have HK3 := Lib.hid (HK2.out.trans hk3)
  have HO3 := Lib.hid ho3
  have HB3 := Lib.hid (HB2.out.kept hk3)
  have HPN3 := Lib.hid (HP2.out.kept hk3)
  have HN3 := Lib.hid (Blk.new w3 24 #[.string (bs []), .bool false, .string (bs []), .string (bs []), .string (bs []), .string (bs []), .string (bs []), .string (bs []), .int .i64 0, .slice none 0 0])
  have HKN3 := Lib.hid (kept_alloc w3 (.cells #[.string (bs []), .bool false, .string (bs []), .string (bs []), .string (bs []), .string (bs []), .string (bs []), .string (bs []), .int .i64 0, .slice none 0 0] 24))
  clear hp3 hk3 ho3 HB2 HP2 HK2
  go_wp2_with (refine wpList_store_blk rfl 24 (.tmp 3) (.tmp 26) (by rfl) w3.heap.size _ (styCells vD dateY) (by rfl) (by rfl) HN3.out rfl Tryz.sizeSty (sty_one _ HO3.out dateY) ?_; intro w4 hb4 ho4; have HKA := Lib.hid (only_kept HKN3.out ho4 (Nat.le_refl _)); have HBD4 := Lib.hid hb4; have HK4 := Lib.hid (HK3.out.trans HKA.out); have HB4 := Lib.hid (HB3.out.kept HKA.out); have HPN4 := Lib.hid (HPN3.out.kept HKA.out); have HPD4 := Lib.hid (HP3.out.kept HKA.out); clear hb4 ho4 HKA)
  clear HN3 HKN3 HP3 HK3 HB3 HPN3
  obtain ⟨B2, HBB2⟩ : ∃ B, Hid (w3.heap.size = B) := ⟨_, rfl⟩
  rw [HBB2.out] at HBD4 ⊢
  refine (blt_awk3 _).mono ?_
  rintro e w5 ⟨vZ, rfl, ho5, -, hk5⟩
  have HO5 := Lib.hid ho5
  have HK5 := Lib.hid (HK4.out.trans hk5)
  have HB5 := Lib.hid (HB4.out.kept hk5)
  have HBD5 := Lib.hid (HBD4.out.kept hk5)
  have HPN5 := Lib.hid (HPN4.out.kept hk5)
  have HPD5 := Lib.hid (HPD4.out.kept hk5)
  have HN5 := Lib.hid (Blk.new w5 24 #[.string (bs []), .bool false, .string (bs []), .string (bs []), .string (bs []), .string (bs []), .string (bs []), .string (bs []), .int .i64 0, .slice none 0 0])
  have HKN5 := Lib.hid (kept_alloc w5 (.cells #[.string (bs []), .bool false, .string (bs []), .string (bs []), .string (bs []), .string (bs []), .string (bs []), .string (bs []), .int .i64 0, .slice none 0 0] 24))
  clear hk5 ho5 HK4 HB4 HBD4 HPN4 HPD4
  go_wp2_with (first
    | (refine wpList_load_blk (by rfl) 24 (.tmp 1) (by rfl) B1 _ (by rfl) HB8.out _ Tryz.underlying24 rfl Tryz.sizeSty ?_)
    | (refine wpList_store_blk rfl 24 (.tmp 5) (.tmp 30) (by rfl) w5.heap.size _ (styCells vZ zeroY) (by rfl) (by rfl) HN5.out rfl Tryz.sizeSty (sty_one _ HO5.out zeroY) ?_; intro w6 hb6 ho6; have HKA := Lib.hid (only_kept HKN5.out ho6 (Nat.le_refl _)); have HKC := Lib.hid (kept_alloc w6 (.cells #[.string (bs [116, 105, 116, 108, 101]), .string (bs [84])] 35)); have HKE := Lib.hid (kept_alloc (w6.alloc (.cells #[.string (bs [116, 105, 116, 108, 101]), .string (bs [84])] 35)) (.cells #[.string (bs [107]), .string (bs [98, 111, 111, 107]), .slice none 0 0, .slice none 0 0, .slice (some ⟨w6.heap.size, 0, none⟩) 1 1] 40)); have HPR := Lib.hid (awk_pair w6); have HSR := Lib.hid (Blk.new (w6.alloc (.cells #[.string (bs [116, 105, 116, 108, 101]), .string (bs [84])] 35)) 40 #[.string (bs [107]), .string (bs [98, 111, 111, 107]), .slice none 0 0, .slice none 0 0, .slice (some ⟨w6.heap.size, 0, none⟩) 1 1]); have HKF := Lib.hid (HKA.out.trans (HKC.out.trans HKE.out)); have HPS8 := Lib.hid (HPR.out.kept HKE.out); have HK8 := Lib.hid (HK5.out.trans HKF.out); have HB8 := Lib.hid (HB5.out.kept HKF.out); have HBD8 := Lib.hid (HBD5.out.kept HKF.out); have HPN8 := Lib.hid (HPN5.out.kept HKF.out); have HPD8 := Lib.hid (HPD5.out.kept HKF.out); clear hb6 ho6 HKA HKC HKE HKF HPR))
  have e8 : (w6.alloc (.cells #[.string (bs [116, 105, 116, 108, 101]), .string (bs [84])] 35)).heap.size = w6.heap.size + 1 := by simp
  have HS8 := HSR
  rw [e8] at HS8
  clear e8 HSR
  obtain ⟨SB, HSB⟩ : ∃ B, Hid (w6.heap.size + 1 = B) := ⟨_, rfl⟩
  rw [HSB.out] at HS8 ⊢
  generalize World.alloc (World.alloc w6 _) _ = w8 at *
  refine (awk_fill1 _ _ _ HO1.out (HG.out.kept HK8.out) (HT.out.kept HK8.out) HPS8.out).mono ?_
  rintro e w9 ⟨rfl, hk9⟩
  have HK9 := Lib.hid (HK8.out.trans hk9)
  have HB9 := Lib.hid (HB8.out.kept hk9)
  have HBD9 := Lib.hid (HBD8.out.kept hk9)
  have HPN9 := Lib.hid (HPN8.out.kept hk9)
  have HPD9 := Lib.hid (HPD8.out.kept hk9)
  have HS9 := Lib.hid (HS8.out.kept hk9)
  have HPS9 := Lib.hid (HPS8.out.kept hk9)
  clear hk9 HK8 HB8 HBD8 HPN8 HPD8 HS8 HPS8
  go_wp2_with (first
    | (refine wpList_load_blk (by rfl) 24 (.tmp 1) (by rfl) B1 _ (by rfl) HB9.out _ Tryz.underlying24 rfl Tryz.sizeSty ?_)
    | (refine wpList_load_blk (by rfl) 40 (.tmp 7) (by rfl) SB _ (by rfl) HS9.out _ Tryz.underlying40 rfl Tryz.sizeSrc ?_))
  refine (awk_fill2 _ _ _ HO1.out (HG.out.kept HK9.out) (HT.out.kept HK9.out) HPS9.out).mono ?_
  rintro e w10 ⟨rfl, hk10⟩
  have HK10 := Lib.hid (HK9.out.trans hk10)
  have HB10 := Lib.hid (HB9.out.kept hk10)
  have HBD10 := Lib.hid (HBD9.out.kept hk10)
  have HPN10 := Lib.hid (HPN9.out.kept hk10)
  have HPD10 := Lib.hid (HPD9.out.kept hk10)
  have HS10 := Lib.hid (HS9.out.kept hk10)
  have HPS10 := Lib.hid (HPS9.out.kept hk10)
  clear hk10 HK9 HB9 HBD9 HPN9 HPD9 HS9 HPS9
  go_wp2_with (first
    | (refine wpList_load_blk (by rfl) 24 (.tmp 1) (by rfl) B1 _ (by rfl) HB10.out _ Tryz.underlying24 rfl Tryz.sizeSty ?_)
    | (refine wpList_load_blk (by rfl) 40 (.tmp 7) (by rfl) SB _ (by rfl) HS10.out _ Tryz.underlying40 rfl Tryz.sizeSrc ?_))
  refine (awk_fill3 _ _ _ HO1.out (HG.out.kept HK10.out) (HT.out.kept HK10.out) HPS10.out).mono ?_
  rintro e w11 ⟨rfl, hk11⟩
  have HK11 := Lib.hid (HK10.out.trans hk11)
  have HB11 := Lib.hid (HB10.out.kept hk11)
  have HBD11 := Lib.hid (HBD10.out.kept hk11)
  have HPN11 := Lib.hid (HPN10.out.kept hk11)
  have HPD11 := Lib.hid (HPD10.out.kept hk11)
  have HS11 := Lib.hid (HS10.out.kept hk11)
  have HPS11 := Lib.hid (HPS10.out.kept hk11)
  clear hk11 HK10 HB10 HBD10 HPN10 HPD10 HS10 HPS10
  go_wp2_with fail
  refine (awk_par _ (HG.out.kept HK11.out)).mono ?_
  rintro e w12 ⟨vP, rfl, hoP, hk12⟩
  have HK12 := Lib.hid (HK11.out.trans hk12)
  have HB12 := Lib.hid (HB11.out.kept hk12)
  have HBD12 := Lib.hid (HBD11.out.kept hk12)
  have HPN12 := Lib.hid (HPN11.out.kept hk12)
  have HPD12 := Lib.hid (HPD11.out.kept hk12)
  have HS12 := Lib.hid (HS11.out.kept hk12)
  have HPS12 := Lib.hid (HPS11.out.kept hk12)
  clear hk12 HK11 HB11 HBD11 HPN11 HPD11 HS11 HPS11
  have HOP := Lib.hid hoP
  have HN12 := Lib.hid (Blk.new w12 24 #[.string (bs []), .bool false, .string (bs []), .string (bs []), .string (bs []), .string (bs []), .string (bs []), .string (bs []), .int .i64 0, .slice none 0 0])
  have HKN12 := Lib.hid (kept_alloc w12 (.cells #[.string (bs []), .bool false, .string (bs []), .string (bs []), .string (bs []), .string (bs []), .string (bs []), .string (bs []), .int .i64 0, .slice none 0 0] 24))
  clear hoP
  go_wp2_with (first
    | (refine wpList_load_blk (by rfl) 24 (.tmp 1) (by rfl) B1 _ (by rfl) HB13.out _ Tryz.underlying24 rfl Tryz.sizeSty ?_)
    | (refine wpList_store_blk rfl 24 (.tmp 14) (.tmp 55) (by rfl) w12.heap.size _ (styCells vP zeroY) (by rfl) (by rfl) HN12.out rfl Tryz.sizeSty (sty_one _ HOP.out zeroY) ?_; intro w13 hb13 ho13; have HKA := Lib.hid (only_kept HKN12.out ho13 (Nat.le_refl _)); have HK13 := Lib.hid (HK12.out.trans HKA.out); have HB13 := Lib.hid (HB12.out.kept HKA.out); have HBD13 := Lib.hid (HBD12.out.kept HKA.out); have HPN13 := Lib.hid (HPN12.out.kept HKA.out); have HPD13 := Lib.hid (HPD12.out.kept HKA.out); clear hb13 ho13 HKA))
  have HTX := Lib.hid (stext_any vN numY w13 (HG.out.kept HK13.out) num_small HPN13.out)
  rw [num_sty] at HTX
  have HNT := Lib.hid num_text
  generalize styS numY = TX at *
  unfold styV at HTX
  refine HTX.out.mono ?_
  rintro e w14 ⟨rfl, hk14⟩
  have HK14 := Lib.hid (HK13.out.trans hk14)
  have HB14 := Lib.hid (HB13.out.kept hk14)
  have HBD14 := Lib.hid (HBD13.out.kept hk14)
  have HPD14 := Lib.hid (HPD13.out.kept hk14)
  clear hk14 HTX HK13 HB13 HBD13 HPN13 HPD13 HK12 HB12 HBD12 HPN12 HPD12 HS12 HPS12 HN12 HKN12
  have HN14 := Lib.hid (Blk.new w14 24 #[.string (bs []), .bool false, .string (bs []), .string (bs []), .string (bs []), .string (bs []), .string (bs []), .string (bs []), .int .i64 0, .slice none 0 0])
  have HKN14 := Lib.hid (kept_alloc w14 (.cells #[.string (bs []), .bool false, .string (bs []), .string (bs []), .string (bs []), .string (bs []), .string (bs []), .string (bs []), .int .i64 0, .slice none 0 0] 24))
  obtain ⟨B3, HBB3⟩ : ∃ B, Hid (w14.heap.size = B) := ⟨_, rfl⟩
  have hB1 : B1 < w14.heap.size := HB14.out.lt
  have hB2 : B2 < w14.heap.size := HBD14.out.lt
  have htl := HNT.out.1
  have tk := run_upto (P := Tryz.prog) (t := 9) Tryz.underlying9 TX 26 (by omega) 26 rfl _ HNT.out.2
  have HCK := Lib.hid (fun w h h' => scheck_any vD badY w h bad_small h')
  have hbs : styE badY = 8 := bad_sty
  rw [hbs] at HCK
  clear hbs
  unfold styV at HCK
  go_wp2_with (first
    | (refine wpList_load_blk (by rfl) 24 (.tmp 3) (by rfl) B2 _ (by rfl) HBD14.out _ Tryz.underlying24 rfl Tryz.sizeSty ?_)
    | (refine wpList_store_blk rfl 24 (.tmp 19) (.tmp 63) (by rfl) w14.heap.size _ (styCells vD dateY) (by rfl) (by rfl) HN14.out rfl Tryz.sizeSty (sty_one _ HO3.out dateY) ?_; intro w15 hb15 ho15; have HKA := Lib.hid (only_kept HKN14.out ho15 (Nat.le_refl _)); have HB15 := Lib.hid (HB14.out.kept HKA.out); have HBD15 := Lib.hid (HBD14.out.kept HKA.out); have hne1 : B1 ≠ w14.heap.size := Nat.ne_of_lt hB1; have hne2 : B2 ≠ w14.heap.size := Nat.ne_of_lt hB2; have y3 : w15.cell? ⟨w14.heap.size, 3, none⟩ = some (.string (bs dateY.cite)) := hb15.cell 3 _ rfl; have f3 := hb15.free 3; have z3 := hb15.lt; have HBX : Hid (Blk (w15.setCell ⟨w14.heap.size, 3, none⟩ (.string (bs [123, 97, 117, 116, 104, 111, 114, 125]))) w14.heap.size 24 (styCells vD badY)) := hb15.set 3 _; have HKX := Lib.hid (HK14.out.trans (kept_set HKA.out w14.heap.size 3 (.string (bs [123, 97, 117, 116, 104, 111, 114, 125])) (Nat.le_refl _))); have HPX := Lib.hid (HPD14.out.kept (kept_set HKA.out w14.heap.size 3 (.string (bs [123, 97, 117, 116, 104, 111, 114, 125])) (Nat.le_refl _))); have k1 : (w15.setCell ⟨w14.heap.size, 3, none⟩ (.string (bs [123, 97, 117, 116, 104, 111, 114, 125]))).cell? ⟨B1, 1, none⟩ = some (.bool true) := (HB15.out.other w14.heap.size 3 _ hne1).cell 1 _ rfl; have k2 : (w15.setCell ⟨w14.heap.size, 3, none⟩ (.string (bs [123, 97, 117, 116, 104, 111, 114, 125]))).cell? ⟨B1, 8, none⟩ = some (.int .i64 3) := (HB15.out.other w14.heap.size 3 _ hne1).cell 8 _ rfl; have k3 : (w15.setCell ⟨w14.heap.size, 3, none⟩ (.string (bs [123, 97, 117, 116, 104, 111, 114, 125]))).cell? ⟨B2, 8, none⟩ = some (.int .i64 2) := (HBD15.out.other w14.heap.size 3 _ hne2).cell 8 _ rfl; obtain ⟨⟨q0, q1, q2, q3, q4, q5, q6, q7, q8, q9⟩, qz⟩ := sty_cells HBX.out; clear hb15 ho15 HKA))
  refine (HCK.out _ (HG.out.kept HKX.out) HPX.out).mono ?_
  rintro e w16 ⟨rfl, hk16⟩
  have HKZ := Lib.hid (HKX.out.trans hk16)
  clear hk16
  go_wp2_with fail
  go_ret
  exact ⟨rfl, HKZ.out⟩
end Go.Proofs.YtafcngdnngpdnaaGreatDoor

/- The law StyleParses: the style that any string describes, or the line that is wrong, is the chapter's. No condition. -/
set_option linter.all false
namespace Go.Proofs.YtafcngdnngpdnaaGreatDoor
open Go.RowKit

theorem parL_few (t : Bs) (ht : t.length ≤ 1200) : (parL (linesL t)).1.entries.length ≤ 1100000 := by
  have hs := par_small t (by omega)
  unfold parL
  split
  · simp [zeroY]
  · split
    · simp [zeroY]
    · split
      · have := hs.2.2.2.2.2.2.2.1
        show (parY (linesL t)).entries.length ≤ 1100000
        omega
      · simp [zeroY]
set_option maxRecDepth 100000 in
set_option maxHeartbeats 6400000 in
theorem lspars_any (t : Bs) (w : World) (hg : Gnd w) (hT : TabW w) (ht : t.length ≤ 9223372036854775807) : Calls Tryz.prog 4 #[.string (bs t)] w fun e w' => e = .returned (.bool true) ∧ Kept w w' := by
  have HG := Lib.hid hg
  have HT := Lib.hid hT
  have HAW := Lib.hid (fun w h1 h2 => sawake_any w h1 h2)
  clear hg hT
  by_cases g1 : 1200 < t.length
  · go_enter Tryz.func4, Tryz.ntmps4
    go_wp2_with fail
    refine (HAW.out _ HG.out HT.out).mono ?_
    rintro e w9 ⟨rfl, hk9⟩
    have HK9 := Lib.hid hk9
    clear hk9
    go_wp2_with fail
    go_ret
    exact ⟨rfl, HK9.out⟩
  have HSB := Lib.hid (fun w h => sparse_any t w h (by omega))
  have HRB := Lib.hid (fun w => rparse31_any t w (by omega))
  unfold ParP at HSB HRB
  have hel := parL_few t (by omega)
  generalize parL (linesL t) = r at *
  obtain ⟨y, n1, n2⟩ := r
  simp only at HSB HRB hel
  have HSA := Lib.hid (fun vA vB w h1 h2 => rsame31_eq vA vB y w h1 h2 hel)
  clear hel
  go_enter Tryz.func4, Tryz.ntmps4
  go_wp2_with fail
  refine (HSB.out _ HG.out).mono ?_
  rintro e w1 ⟨v1, rfl, hp1, hk1⟩
  have HP1 := Lib.hid hp1
  have HK1 := Lib.hid hk1
  obtain ⟨a1, c1, rfl, -⟩ := hp1.form
  have HN1 := Lib.hid (Blk.new w1 24 #[.string (bs []), .bool false, .string (bs []), .string (bs []), .string (bs []), .string (bs []), .string (bs []), .string (bs []), .int .i64 0, .slice none 0 0])
  have HKN1 := Lib.hid (kept_alloc w1 (.cells #[.string (bs []), .bool false, .string (bs []), .string (bs []), .string (bs []), .string (bs []), .string (bs []), .string (bs []), .int .i64 0, .slice none 0 0] 24))
  clear hp1 hk1 HSB
  go_wp2_with (refine wpList_store_blk rfl 24 (.tmp 3) (.tmp 16) (by rfl) w1.heap.size _ (styCells (.slice a1 y.entries.length c1) y) (by rfl) (by rfl) HN1.out rfl Tryz.sizeSty (sty_one _ rfl y) ?_; intro w2 hb2 ho2; have HKA := Lib.hid (only_kept HKN1.out ho2 (Nat.le_refl _)); have HB2 := Lib.hid hb2; have HK2 := Lib.hid (HK1.out.trans HKA.out); have HP2 := Lib.hid (HP1.out.kept HKA.out); clear hb2 ho2 HKA)
  clear HN1 HKN1 HP1 HK1
  obtain ⟨B1, HBB1⟩ : ∃ B, Hid (w1.heap.size = B) := ⟨_, rfl⟩
  rw [HBB1.out] at HB2 ⊢
  refine (HRB.out _).mono ?_
  rintro e w3 ⟨v3, rfl, hp3, hk3⟩
  have HP3 := Lib.hid hp3
  have HK3 := Lib.hid (HK2.out.trans hk3)
  have HB3 := Lib.hid (HB2.out.kept hk3)
  have HPA3 := Lib.hid (HP2.out.kept hk3)
  obtain ⟨a3, c3, rfl, -⟩ := hp3.form
  have HN3 := Lib.hid (Blk.new w3 24 #[.string (bs []), .bool false, .string (bs []), .string (bs []), .string (bs []), .string (bs []), .string (bs []), .string (bs []), .int .i64 0, .slice none 0 0])
  have HKN3 := Lib.hid (kept_alloc w3 (.cells #[.string (bs []), .bool false, .string (bs []), .string (bs []), .string (bs []), .string (bs []), .string (bs []), .string (bs []), .int .i64 0, .slice none 0 0] 24))
  clear hp3 hk3 HRB HB2 HK2 HP2 HBB1
  go_wp2_with (refine wpList_store_blk rfl 24 (.tmp 6) (.tmp 22) (by rfl) w3.heap.size _ (styCells (.slice a3 y.entries.length c3) y) (by rfl) (by rfl) HN3.out rfl Tryz.sizeSty (sty_one _ rfl y) ?_; intro w4 hb4 ho4; have HKA := Lib.hid (only_kept HKN3.out ho4 (Nat.le_refl _)); have HB4 := Lib.hid (HB3.out.kept HKA.out); have HK4 := Lib.hid (HK3.out.trans HKA.out); have HPA4 := Lib.hid (HPA3.out.kept HKA.out); have HPB4 := Lib.hid (HP3.out.kept HKA.out); obtain ⟨⟨r0, r1, r2, r3, r4, r5, r6, r7, r8, r9⟩, rz⟩ := sty_cells HB4.out; obtain ⟨⟨s0, s1, s2, s3, s4, s5, s6, s7, s8, s9⟩, sz⟩ := sty_cells hb4; clear hb4 ho4 HKA)
  clear r0 r1 r2 r3 r4 r5 r6 r7 r8 r9 s0 s1 s2 s3 s4 s5 s6 s7 s8 s9 rz sz HN3 HKN3 HB3 HK3 HPA3 HP3
  refine (HSA.out _ _ _ HPA4.out HPB4.out).mono ?_
  rintro e w5 ⟨rfl, hk5⟩
  have HK5 := Lib.hid (HK4.out.trans hk5)
  clear hk5 HB4 HK4 HPA4 HPB4
  go_wp2_with fail
  refine (HAW.out _ (HG.out.kept HK5.out) (HT.out.kept HK5.out)).mono ?_
  rintro e w7 ⟨rfl, hk7⟩
  have HK7 := Lib.hid (HK5.out.trans hk7)
  clear hk7
  go_wp2_with fail
  go_ret
  exact ⟨rfl, HK7.out⟩
end Go.Proofs.YtafcngdnngpdnaaGreatDoor
