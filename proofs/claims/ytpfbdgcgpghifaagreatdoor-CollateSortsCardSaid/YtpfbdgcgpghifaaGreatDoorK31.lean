/- law25's awake answers true. No condition. -/
import Derived.Test.YtpfbdgcgpghifaaGreatDoorK22
import Derived.Test.YtpfbdgcgpghifaaGreatDoorK23
import Derived.Test.YtpfbdgcgpghifaaGreatDoorK27
import Derived.Test.YtpfbdgcgpghifaaGreatDoorK28
import Derived.Test.YtpfbdgcgpghifaaGreatDoorK30
import Derived.Test.YtpfbdgcgpghifaaGreatDoorK16
import Derived.Test.YtpfbdgcgpghifaaGreatDoorK17

set_option linter.all false
namespace Go.Proofs.YtpfbdgcgpghifaaGreatDoor
open Go.RowKit

theorem small_ord (l : List Bs) (h1 : l.length ≤ 1000) (h2 : ∀ s ∈ l, s.length ≤ 1000) : SmallC ⟨[], l, []⟩ := ⟨by simp, h1, by simp, h2, by simp⟩
theorem small_AB : SmallC cAB := small_ord _ (by decide) (by decide)
theorem small_A1 : SmallC cA1 := small_ord _ (by decide) (by decide)
theorem small_BA : SmallC cBA := small_ord _ (by decide) (by decide)
theorem small_Tw : SmallC cTw := small_ord _ (by decide) (by decide)
/-- A collation of an order alone, written out in a new block. -/
theorem ord_made (w : World) (l : List Bs) : Col (w.alloc (.cells (strCells l).toArray 9)) (.slice none 0 0) (.slice (some ⟨w.heap.size, 0, none⟩) l.length l.length) ⟨[], l, []⟩ := ⟨Prs.none_ _, strs_made w l⟩
theorem aw_read (w : World) (hg : Gnd w) : Calls Tryz.prog 37 #[.string (bs tEx)] w fun e w' => ∃ gR oR cR gO oO cO, e = .returned (.tuple #[.agg #[.slice (some ⟨gR, oR, none⟩) 1 cR, .slice (some ⟨gO, oO, none⟩) 2 cO, .string (bs [])], .int .i64 0, .int .i64 0]) ∧ gR < w'.heap.size ∧ gO < w'.heap.size ∧
    w'.cell? ⟨gR, oR, none⟩ = some (.string (bs [120])) ∧ w'.cell? ⟨gR, oR + 1, none⟩ = some (.string (bs [97, 97])) ∧ w'.cell? ⟨gO, oO + 1, none⟩ = some (.string (bs [98, 66])) ∧
    Prs w' (.slice (some ⟨gR, oR, none⟩) 1 cR) cEx.ranks ∧ Strs w' (.slice (some ⟨gO, oO, none⟩) 2 cO) cEx.order ∧ Kept w w' := by
  refine (cparse_any tEx w hg (by decide)).mono ?_
  rintro e w' ⟨vR, vO, rfl, hc, hk⟩
  rw [ex_read] at hc ⊢
  obtain ⟨hR, hO⟩ := hc
  have hR' := hR
  have hO' := hO
  obtain ⟨aR, cR, rfl, hr1, hr2⟩ := hR
  obtain ⟨aO, cO, rfl, ho1, ho2⟩ := hO
  obtain ⟨gR, oR, rfl, hr3, hr4⟩ := hr2 (by decide)
  obtain ⟨gO, oO, rfl, ho3, ho4⟩ := ho2 (by decide)
  have r := hr4 0 ([120], [97, 97]) rfl
  have o := ho4 1 [98, 66] rfl
  simp only [Nat.zero_mul, Nat.add_zero, Nat.mul_zero] at r
  exact ⟨gR, oR, cR, gO, oO, cO, rfl, hr3, ho3, r.1, r.2, o, hR', hO', hk⟩
theorem aw_no (w : World) (hg : Gnd w) : Calls Tryz.prog 37 #[.string (bs [97, 115, 32, 120])] w fun e w' => ∃ a b c d, e = .returned (.tuple #[.agg #[.slice a 0 b, .slice c 0 d, .string (bs [])], .int .i64 1, .int .i64 5]) ∧ Kept w w' := by
  refine (cparse_any [97, 115, 32, 120] w hg (by decide)).mono ?_
  rintro e w' ⟨vR, vO, rfl, hc, hk⟩
  rw [ex_no] at hc ⊢
  obtain ⟨⟨a, b, rfl, _⟩, ⟨c, d, rfl, _⟩⟩ := hc
  exact ⟨a, b, c, d, rfl, hk⟩
theorem aw_text (w : World) (vR vO : Value) (h : Col w vR vO cA1) : Calls Tryz.prog 38 #[.agg #[vR, vO, .string (bs [])]] w fun e w' => e = .returned (.tuple #[.string (bs [111, 114, 100, 101, 114, 32, 97, 10]), .int .i64 0]) ∧ Kept w w' := by
  have h := ctext_any vR vO cA1 w h small_A1
  rw [ex_text, ex_a1] at h; exact h
theorem aw_sort (w : World) (vR vO vL : Value) (h : Col w vR vO cBA) (hl : Strs w vL [[97], [98]]) : Calls Tryz.prog 16 #[.agg #[vR, vO, .string (bs [])], vL] w (IntsP [1, 0] w) := by
  have h := sort_any vR vO vL cBA [[97], [98]] w h hl small_BA (by decide) (by decide) (by decide)
  rw [ex_sort] at h; exact h
theorem aw_key1 (w : World) (vR vO : Value) (h : Col w vR vO cAB) : Calls Tryz.prog 39 #[.agg #[vR, vO, .string (bs [])], .string (bs [65, 98])] w (IntsP [1, 2] w) := by
  have h := keyE_any vR vO cAB [65, 98] w h small_AB (by decide)
  rw [ex_keyAb] at h; exact h
theorem aw_key2 (w : World) (vR vO : Value) (h : Col w vR vO cAB) : Calls Tryz.prog 39 #[.agg #[vR, vO, .string (bs [])], .string (bs [99])] w (IntsP [102] w) := by
  have h := keyE_any vR vO cAB [99] w h small_AB (by decide)
  rw [ex_keyc] at h; exact h
theorem aw_cmp (w : World) (vR vO : Value) (h : Col w vR vO cAB) : Calls Tryz.prog 14 #[.agg #[vR, vO, .string (bs [])], .string (bs [65]), .string (bs [97])] w fun e w' => e = .returned (.int .i64 (-1)) ∧ Kept w w' := by
  have h := compare_any vR vO cAB [65] [97] w h small_AB (by decide) (by decide)
  rw [ex_cmp] at h; exact h
theorem aw_ini (w : World) (vR vO : Value) (h : Col w vR vO cAB) : Calls Tryz.prog 19 #[.agg #[vR, vO, .string (bs [])], .string (bs [65, 98])] w fun e w' => e = .returned (.string (bs [97])) ∧ Kept w w' := by
  have h := initial_any vR vO cAB [65, 98] w h small_AB (by decide)
  rw [ex_ini] at h; exact h
theorem aw_chk (w : World) (vR vO : Value) (h : Col w vR vO cTw) : Calls Tryz.prog 40 #[.agg #[vR, vO, .string (bs [])]] w fun e w' => e = .returned (.int .i64 7) ∧ Kept w w' := by
  have h := colcheck_any vR vO cTw w h small_Tw
  rw [ex_tw] at h; exact h
set_option maxRecDepth 100000 in
set_option maxHeartbeats 6400000 in
theorem cawake_any (w : World) (hg : Gnd w) : Calls Tryz.prog 13 #[] w fun e w' => e = .returned (.bool true) ∧ Kept w w' := by
  have HG := Lib.hid hg
  clear hg
  go_enter Tryz.func13, Tryz.ntmps13
  go_wp2_with fail
  have HB0 : Hid (Blk ((w.alloc (.cells #[.string (bs [97, 65]), .string (bs [98])] 9)).alloc (.cells #[.slice none 0 0, .slice (some ⟨w.heap.size, 0, none⟩) 2 2, .string (bs [])] 25)) (w.heap.size + 1) 25 #[.slice none 0 0, .slice (some ⟨w.heap.size, 0, none⟩) 2 2, .string (bs [])]) := by
    have h := Blk.new (w.alloc (.cells #[.string (bs [97, 65]), .string (bs [98])] 9)) 25 #[.slice none 0 0, .slice (some ⟨w.heap.size, 0, none⟩) 2 2, .string (bs [])]
    show Blk _ _ _ _
    simpa using h
  have HC0 : Hid (Col ((w.alloc (.cells #[.string (bs [97, 65]), .string (bs [98])] 9)).alloc (.cells #[.slice none 0 0, .slice (some ⟨w.heap.size, 0, none⟩) 2 2, .string (bs [])] 25)) (.slice none 0 0) (.slice (some ⟨w.heap.size, 0, none⟩) 2 2) cAB) := (ord_made w [[97, 65], [98]]).kept (kept_alloc _ _)
  have HK0 : Hid (Kept w ((w.alloc (.cells #[.string (bs [97, 65]), .string (bs [98])] 9)).alloc (.cells #[.slice none 0 0, .slice (some ⟨w.heap.size, 0, none⟩) 2 2, .string (bs [])] 25))) := (kept_alloc _ _).trans (kept_alloc _ _)
  generalize (w.alloc (.cells #[.string (bs [97, 65]), .string (bs [98])] 9)).alloc (.cells #[.slice none 0 0, .slice (some ⟨w.heap.size, 0, none⟩) 2 2, .string (bs [])] 25) = w0 at *
  generalize w.heap.size = B at *
  refine (aw_read _ (HG.out.kept HK0.out)).mono ?_
  rintro e w1 ⟨gR, oR, cR, gO, oO, cO, rfl, hg1, hg2, c0, c1, c2, hR, hO, hk1⟩
  have HR1 := Lib.hid hR
  have HO1 := Lib.hid hO
  have HB1 := Lib.hid (HB0.out.kept hk1)
  have HC1 := Lib.hid (HC0.out.kept hk1)
  have HK1 := Lib.hid (HK0.out.trans hk1)
  clear hk1 hR hO c0 c1 c2 hg1 hg2 HK0 HB0 HC0
  go_wp2_with fail
  have HP2 := Lib.hid (Blk.new w1 25 #[.slice (some ⟨gR, oR, none⟩) 1 cR, .slice (some ⟨gO, oO, none⟩) 2 cO, .string (bs [])])
  have HK2 := Lib.hid (kept_alloc w1 (.cells #[.slice (some ⟨gR, oR, none⟩) 1 cR, .slice (some ⟨gO, oO, none⟩) 2 cO, .string (bs [])] 25))
  generalize w1.alloc (.cells #[.slice (some ⟨gR, oR, none⟩) 1 cR, .slice (some ⟨gO, oO, none⟩) 2 cO, .string (bs [])] 25) = w2 at *
  generalize w1.heap.size = BP at *
  refine (aw_no _ (HG.out.kept (HK1.out.trans HK2.out))).mono ?_
  rintro e w3 ⟨a3, b3, c3, d3, rfl, hk3⟩
  have HK3 := Lib.hid (HK2.out.trans hk3)
  have HP3 := Lib.hid (HP2.out.kept hk3)
  clear hk3 HK2 HP2
  go_wp2_with fail
  have HA4 := Lib.hid ((kept_alloc w3 (.cells #[.slice a3 0 b3, .slice c3 0 d3, .string (bs [])] 25)).trans (kept_alloc _ (.cells #[.string (bs [97])] 9)))
  have HA5 := Lib.hid (ord_made (w3.alloc (.cells #[.slice a3 0 b3, .slice c3 0 d3, .string (bs [])] 25)) [[97]])
  refine (aw_text _ _ _ ?_).mono ?_
  · have h := HA5.out
    simp only [World.size_alloc] at h
    exact h
  rintro e w4 ⟨rfl, hk4⟩
  have HK4 := Lib.hid (HK3.out.trans (HA4.out.trans hk4))
  have HP4 := Lib.hid ((HP3.out.kept HA4.out).kept hk4)
  clear hk4 HA4 HA5 HK3 HP3
  go_wp2_with fail
  have HA6 := Lib.hid ((kept_alloc w4 (.cells #[.string (bs [98]), .string (bs [97])] 9)).trans (kept_alloc _ (.cells #[.string (bs [97]), .string (bs [98])] 9)))
  have HA7 := Lib.hid ((ord_made w4 [[98], [97]]).kept (kept_alloc _ (.cells #[.string (bs [97]), .string (bs [98])] 9)))
  have HA8 := Lib.hid (strs_made (w4.alloc (.cells #[.string (bs [98]), .string (bs [97])] 9)) [[97], [98]])
  refine (aw_sort _ _ _ _ HA7.out ?_).mono ?_
  · have h := HA8.out
    simp only [World.size_alloc] at h
    exact h
  rintro e w5 ⟨v5, rfl, hi5, hk5⟩
  have HI5 := Lib.hid hi5
  obtain ⟨a5, c5, rfl, _⟩ := hi5.form
  have HK5 := Lib.hid (HK4.out.trans (HA6.out.trans hk5))
  have HP5 := Lib.hid ((HP4.out.kept HA6.out).kept hk5)
  clear hk5 HA6 HA7 HA8 HK4 HP4 hi5
  have b1 : w5.cell? ⟨BP, 1, none⟩ = some (.slice (some ⟨gO, oO, none⟩) 2 cO) := HP5.out.cell 1 _ rfl
  have b0 : w5.cell? ⟨BP, 0, none⟩ = some (.slice (some ⟨gR, oR, none⟩) 1 cR) := HP5.out.cell 0 _ rfl
  have z0 := HP5.out.lt
  obtain ⟨_, _, ho1, ho2, o1⟩ := (HO1.out.kept HK5.out).cell_of2 1 [98, 66] rfl
  cases ho1
  obtain ⟨_, _, hr1, hr2, r0, r1, -, -⟩ := (HR1.out.kept HK5.out).cell_of 0 ([120], [97, 97]) rfl
  cases hr1
  simp only [Nat.zero_mul, Nat.add_zero] at r0 r1
  go_wp2_with fail
  have HA9 := Lib.hid (kept_alloc w5 (.cells #[.int .i64 1, .int .i64 0] 3))
  refine (ints_eq _ _ [1, 0] _ (HI5.out.kept HA9.out) (ints_made w5 [1, 0]) (by decide)).mono ?_
  rintro e w6 ⟨rfl, hk6⟩
  have HK6 := Lib.hid (HK5.out.trans (HA9.out.trans hk6))
  clear hk6 HA9 HK5 HP5 HI5 b0 b1 z0 o1 r0 r1 hr2 ho2
  have HC6 := Lib.hid (HC1.out.kept HK6.out)
  have HB6 := Lib.hid (HB1.out.kept HK6.out)
  clear HC1 HB1
  have b0 : w6.cell? ⟨B + 1, 0, none⟩ = some (.slice none 0 0) := HB6.out.cell 0 _ rfl
  have b1 : w6.cell? ⟨B + 1, 1, none⟩ = some (.slice (some ⟨B, 0, none⟩) 2 2) := HB6.out.cell 1 _ rfl
  have b2 : w6.cell? ⟨B + 1, 2, none⟩ = some (.string (bs [])) := HB6.out.cell 2 _ rfl
  have z0 := HB6.out.lt
  go_wp2_with fail
  refine (aw_key1 _ _ _ HC6.out).mono ?_
  rintro e w7 ⟨v7, rfl, hi7, hk7⟩
  have HI7 := Lib.hid hi7
  obtain ⟨a7, c7, rfl, -⟩ := hi7.form
  have HK7 := Lib.hid (HK6.out.trans hk7)
  have HC7 := Lib.hid (HC6.out.kept hk7)
  have HB7 := Lib.hid (HB6.out.kept hk7)
  clear hi7 hk7 HC6 HB6 HK6 b0 b1 b2 z0
  go_wp2_with fail
  have HA8 := Lib.hid (kept_alloc w7 (.cells #[.int .i64 1, .int .i64 2] 3))
  refine (ints_eq _ _ [1, 2] _ (HI7.out.kept HA8.out) (ints_made w7 [1, 2]) (by decide)).mono ?_
  rintro e w8 ⟨rfl, hk8⟩
  have HK8 := Lib.hid (HK7.out.trans (HA8.out.trans hk8))
  have HC8 := Lib.hid ((HC7.out.kept HA8.out).kept hk8)
  have HB8 := Lib.hid ((HB7.out.kept HA8.out).kept hk8)
  clear hk8 HA8 HK7 HC7 HB7 HI7
  have b0 : w8.cell? ⟨B + 1, 0, none⟩ = some (.slice none 0 0) := HB8.out.cell 0 _ rfl
  have b1 : w8.cell? ⟨B + 1, 1, none⟩ = some (.slice (some ⟨B, 0, none⟩) 2 2) := HB8.out.cell 1 _ rfl
  have b2 : w8.cell? ⟨B + 1, 2, none⟩ = some (.string (bs [])) := HB8.out.cell 2 _ rfl
  have z0 := HB8.out.lt
  go_wp2_with fail
  refine (aw_key2 _ _ _ HC8.out).mono ?_
  rintro e w9 ⟨v9, rfl, hi9, hk9⟩
  have HI9 := Lib.hid hi9
  obtain ⟨a9, c9, rfl, -⟩ := hi9.form
  have HK9 := Lib.hid (HK8.out.trans hk9)
  have HC9 := Lib.hid (HC8.out.kept hk9)
  have HB9 := Lib.hid (HB8.out.kept hk9)
  clear hi9 hk9 HC8 HB8 HK8 b0 b1 b2 z0
  go_wp2_with fail
  have HA8 := Lib.hid (kept_alloc w9 (.cells #[.int .i64 102] 3))
  refine (ints_eq _ _ [102] _ (HI9.out.kept HA8.out) (ints_made w9 [102]) (by decide)).mono ?_
  rintro e w10 ⟨rfl, hk8⟩
  have HKA := Lib.hid (HK9.out.trans (HA8.out.trans hk8))
  have HCA := Lib.hid ((HC9.out.kept HA8.out).kept hk8)
  have HBA := Lib.hid ((HB9.out.kept HA8.out).kept hk8)
  clear hk8 HA8 HK9 HC9 HB9 HI9
  have b0 : w10.cell? ⟨B + 1, 0, none⟩ = some (.slice none 0 0) := HBA.out.cell 0 _ rfl
  have b1 : w10.cell? ⟨B + 1, 1, none⟩ = some (.slice (some ⟨B, 0, none⟩) 2 2) := HBA.out.cell 1 _ rfl
  have b2 : w10.cell? ⟨B + 1, 2, none⟩ = some (.string (bs [])) := HBA.out.cell 2 _ rfl
  have z0 := HBA.out.lt
  go_wp2_with fail
  refine (aw_cmp _ _ _ HCA.out).mono ?_
  rintro e w11 ⟨rfl, hk⟩
  have HKB := Lib.hid (HKA.out.trans hk)
  have HCB := Lib.hid (HCA.out.kept hk)
  have HBB := Lib.hid (HBA.out.kept hk)
  clear hk HKA HCA HBA b0 b1 b2 z0
  have b0 : w11.cell? ⟨B + 1, 0, none⟩ = some (.slice none 0 0) := HBB.out.cell 0 _ rfl
  have b1 : w11.cell? ⟨B + 1, 1, none⟩ = some (.slice (some ⟨B, 0, none⟩) 2 2) := HBB.out.cell 1 _ rfl
  have b2 : w11.cell? ⟨B + 1, 2, none⟩ = some (.string (bs [])) := HBB.out.cell 2 _ rfl
  have z0 := HBB.out.lt
  go_wp2_with fail
  refine (aw_ini _ _ _ HCB.out).mono ?_
  rintro e w12 ⟨rfl, hk⟩
  have HKC := Lib.hid (HKB.out.trans hk)
  clear hk HKB HCB HBB b0 b1 b2 z0
  go_wp2_with fail
  refine (aw_chk _ _ _ (ord_made w12 [[97, 65], [65]])).mono ?_
  rintro e w13 ⟨rfl, hk⟩
  have HKD := Lib.hid (HKC.out.trans ((kept_alloc _ _).trans hk))
  clear hk HKC
  go_wp2_with fail
  go_ret
  exact ⟨rfl, HK1.out.trans HKD.out⟩
end Go.Proofs.YtpfbdgcgpghifaaGreatDoor

/- with of publisherref25. Conditions: lengths. -/
set_option linter.all false
namespace Go.Proofs.YtpfbdgcgpghifaaGreatDoor
open Go.RowKit

def WithP (o : Option (List Int)) (w : World) (e : Ending) (w' : World) : Prop :=
  ∃ v b, e = .returned (.tuple #[v, .bool b]) ∧ Kept w w' ∧ match o with
    | some l' => b = false ∧ Ints w' v l'
    | none => b = true
theorem Ints.form' {w : World} {v : Value} {ps : List Int} (h : Ints w v ps) : ∃ a c, v = .slice a ps.length c ∧ ps.length ≤ c := by
  obtain ⟨a, c, hv, hc, _⟩ := h; exact ⟨a, c, hv, hc⟩
theorem Ints.cell_of' {w : World} {a : Option Addr} {n c : Nat} {xs : List Int} (h : Ints w (.slice a n c) xs) (k : Nat) (x : Int) (hx : xs[k]? = some x) : ∃ g o, a = some ⟨g, o, none⟩ ∧ g < w.heap.size ∧ w.cell? ⟨g, o + k, none⟩ = some (.int .i64 x) := by
  obtain ⟨a', c', hv, hc, h3⟩ := h
  obtain ⟨rfl, rfl, rfl⟩ := Value.slice.inj hv
  obtain ⟨hk, _⟩ := List.getElem?_eq_some_iff.1 hx
  obtain ⟨g, o, ha, hg, hcell⟩ := h3 (by omega)
  exact ⟨g, o, ha, hg, hcell k x hx⟩
end Go.Proofs.YtpfbdgcgpghifaaGreatDoor
