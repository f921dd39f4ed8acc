/- Check of publisherref25. Conditions: lengths. -/
import Derived.Test.YteflhlbgbgamnaaGreatDoorK31
import Derived.Test.YteflhlbgbgamnaaGreatDoorK18
import Derived.Test.YteflhlbgbgamnaaGreatDoorK25

set_option linter.all false
namespace Go.Proofs.YteflhlbgbgamnaaGreatDoor
open Go.RowKit

set_option maxRecDepth 100000 in
set_option maxHeartbeats 6400000 in
theorem rcolcheck_any (vR vO : Value) (c : ColT) (w : World) (hv : Col w vR vO c) (hs : SmallC c) :
    Calls Tryz.prog 22 #[colV vR vO c.ignore] w fun e w' => e = .returned (.int .i64 (colE c)) ∧ Kept w w' := by
  obtain ⟨hR, hO⟩ := hv
  obtain ⟨s1, s2, s3, s4, s5⟩ := hs
  have HR := Lib.hid hR
  have HOO := Lib.hid hO
  obtain ⟨aR, cR, rfl, lR⟩ := hR.form
  obtain ⟨aO, cO, rfl, lO⟩ := hO.form
  clear hR hO
  have S4 := Lib.hid s4
  have S5 := Lib.hid s5
  clear s4 s5
  by_cases h3 : 128 < c.order.length ∨ 128 < c.ranks.length
  · have HE : Hid (colE c = 3) := by show _ = _; unfold colE; rw [if_pos h3]
    generalize colE c = E at *
    by_cases h4 : 128 < c.order.length
    · go_enter Tryz.func22, Tryz.ntmps22
      go_wp2_with fail
      go_ret
      exact ⟨by rw [HE.out]; rfl, kept_alloc _ _⟩
    · have h5 : 128 < c.ranks.length := by omega
      go_enter Tryz.func22, Tryz.ntmps22
      go_wp2_with fail
      go_ret
      exact ⟨by rw [HE.out]; rfl, kept_alloc _ _⟩
  have HCO : Hid (∀ e l, ordC [] c.order = (e, l) → e ≠ 0 → colE c = e) := fun e l h he => colE_o h3 h he
  have HCR : Hid (∀ l e l', ordC [] c.order = (0, l) → rnkC l c.ranks = (e, l') → e ≠ 0 → colE c = e) := fun l e l' h h2 he => colE_r h3 h h2 he
  have HCI : Hid (∀ l l', ordC [] c.order = (0, l) → rnkC l c.ranks = (0, l') → colE c = ignC l' c.ignore) := fun l l' h h2 => colE_i h3 h h2
  generalize colE c = E at *
  have h4 : c.order.length ≤ 128 := by omega
  have h5 : c.ranks.length ≤ 128 := by omega
  clear h3
  have HBW := Lib.hid (Blk.new w 42 #[.slice aR c.ranks.length cR, .slice aO c.order.length cO, .string (bs c.ignore)])
  have HKW := Lib.hid (kept_alloc w (.cells #[.slice aR c.ranks.length cR, .slice aO c.order.length cO, .string (bs c.ignore)] 42))
  go_enter Tryz.func22, Tryz.ntmps22
  go_wp2_with fail
  go_loopw [3, 5] (fun lv i wr => ∃ (k : Nat) (lk : List Int) (al : Option Addr) (cl : Nat), k ≤ c.order.length ∧ lk.length ≤ 1000 * k ∧ i = .int .i64 k ∧ lv = .slice al lk.length cl ∧ lk.length ≤ cl ∧ Hid (ordC [] c.order = ordC lk (c.order.drop k)) ∧ Hid (Blk wr w.heap.size 42 #[.slice aR c.ranks.length cR, .slice aO c.order.length cO, .string (bs c.ignore)] ∧ Ints wr (.slice al lk.length cl) lk) ∧ Hid (Kept w wr)) (fun _ i _ => c.order.length - (intOf i).toNat)
  case atStart => exact ⟨0, [], none, 0, Nat.zero_le _, Nat.le_refl _, rfl, rfl, Nat.le_refl _, rfl, ⟨HBW.out, Ints.none_ _⟩, HKW.out⟩
  case round =>
    clear HBW HKW
    obtain ⟨k, lk, al, cl, hk, hlk, rfl, rfl, hcl, HP, HBS, HK⟩ := hrel
    have b1 : wr.cell? ⟨w.heap.size, 1, none⟩ = some (.slice aO c.order.length cO) := HBS.out.1.cell 1 _ rfl
    have z0 := HBS.out.1.lt
    by_cases hlt : k < c.order.length
    · obtain ⟨s, hx⟩ : ∃ x, c.order[k]? = some x := ⟨_, List.getElem?_eq_getElem hlt⟩
      have HSL := Lib.hid (S4.out s (List.mem_of_getElem? hx))
      have HCL := Lib.hid (fun w' (h : Kept wr w') => ((HOO.out.kept HK.out).kept h).cell_of k s hx)
      obtain ⟨g, o, rfl, hg, d0, _, _⟩ := (HOO.out.kept HK.out).cell_of k s hx
      have HCE : Hid (∀ w', Kept wr w' → w'.cell? ⟨g, o + k, none⟩ = some (.string (bs s)) ∧ g < w'.heap.size) := fun w' h => ⟨(h.cell (p := ⟨g, o + k, none⟩) hg).trans d0, Nat.lt_of_lt_of_le hg h.size⟩
      have HAT := Lib.hid (ordC_at lk c.order k s hx)
      rw [HAT.out] at HP
      have HRU := Lib.hid (fun w => rrule_any s w (by have := HSL.out; omega))
      have HWI := Lib.hid (fun w' h => rwith_any (.slice al lk.length cl) lk s w' h (by omega) (by have := HSL.out; omega))
      have HLN := Lib.hid (fun l' h => addA_len (ptsL s) lk l' h)
      have hps := ptsL_len s
      have hps2 : (ptsL s).length ≤ 1000 := by have := HSL.out; omega
      clear hx HAT HCL
      generalize ruleB s = rb at *
      generalize (ptsL s).length = ns at *
      generalize addA lk (ptsL s) = A at *
      go_wp2_with fail
      refine (HRU.out _).mono ?_
      rintro e w1 ⟨rfl, hk1⟩
      have HK1 := Lib.hid (HK.out.trans hk1)
      have HB1 := Lib.hid (And.intro (HBS.out.1.kept hk1) (HBS.out.2.kept hk1))
      have c1 : w1.cell? ⟨w.heap.size, 1, none⟩ = some (.slice (some ⟨g, o, none⟩) c.order.length cO) := HB1.out.1.cell 1 _ rfl
      have z1 := HB1.out.1.lt
      obtain ⟨e0, y0⟩ := HCE.out _ hk1
      clear hk1 d0 b1 hg z0
      cases rb
      · rw [if_pos rfl] at HP
        have HE := Lib.hid (HCO.out _ _ HP.out (by decide))
        go_wp2_with fail
        go_ret
        exact ⟨by rw [HE.out]; rfl, HK1.out⟩
      rw [if_neg (by simp)] at HP
      go_wp2_with fail
      refine (HWI.out _ HB1.out.2).mono ?_
      rintro e w2 ⟨v2, b2, rfl, hk2, hm⟩
      have HK2 := Lib.hid (HK1.out.trans hk2)
      have HB2 := Lib.hid (HB1.out.1.kept hk2)
      clear c1 z1 e0 y0 hk2
      cases A with
      | none =>
        obtain rfl : b2 = true := hm
        have HE := Lib.hid (HCO.out 7 lk HP.out (by decide))
        go_wp2_with fail
        go_ret
        exact ⟨by rw [HE.out]; rfl, HK2.out⟩
      | some l' =>
        obtain ⟨rfl, hi2⟩ : b2 = false ∧ Ints w2 v2 l' := hm
        have HP2 : Hid (ordC [] c.order = ordC l' (c.order.drop (k + 1))) := HP
        have hl2 : l'.length ≤ 1000 * (k + 1) := by have := HLN.out l' rfl; omega
        have HI2 := Lib.hid hi2
        obtain ⟨a2, c2, rfl, hc2⟩ := hi2.form'
        clear hi2 HLN HWI
        go_wp2_with fail
        go_roundw
        case rel => exact ⟨k + 1, l', a2, c2, by omega, by omega, by go_num, rfl, hc2, HP2.out, ⟨HB2.out, HI2.out⟩, HK2.out⟩
        case measure => simp [intOf]; omega
    · have HP0 : Hid (ordC [] c.order = (0, lk)) := by
        have h := HP.out
        rw [List.drop_of_length_le (by omega)] at h
        exact h
      have HCR2 := Lib.hid (fun e l' h he => HCR.out lk e l' HP0.out h he)
      have HCI2 := Lib.hid (fun l' h => HCI.out lk l' HP0.out h)
      clear HP HCO HCR HCI HP0
      go_wp2_with fail
      clear b1 z0
      have hlk2 : lk.length ≤ 128000 := by omega
      go_loopw [3, 6] (fun lv i wr => ∃ (k : Nat) (l2 : List Int) (al : Option Addr) (cl : Nat), k ≤ c.ranks.length ∧ l2.length ≤ 128000 + 1000 * k ∧ i = .int .i64 k ∧ lv = .slice al l2.length cl ∧ l2.length ≤ cl ∧ Hid (rnkC lk c.ranks = rnkC l2 (c.ranks.drop k)) ∧ Hid (Blk wr w.heap.size 42 #[.slice aR c.ranks.length cR, .slice aO c.order.length cO, .string (bs c.ignore)] ∧ Ints wr (.slice al l2.length cl) l2) ∧ Hid (Kept w wr)) (fun _ i _ => c.ranks.length - (intOf i).toNat)
      case atStart => exact ⟨0, lk, al, cl, Nat.zero_le _, by omega, rfl, rfl, hcl, rfl, HBS.out, HK.out⟩
      case round =>
        clear HBS HK hcl hlk2 hlk
        obtain ⟨j, l2, al, cl, hj, hl2, rfl, rfl, hcl, HP, HBS, HK⟩ := hrel
        have b0 : wr.cell? ⟨w.heap.size, 0, none⟩ = some (.slice aR c.ranks.length cR) := HBS.out.1.cell 0 _ rfl
        have z0 := HBS.out.1.lt
        by_cases hlt2 : j < c.ranks.length
        · obtain ⟨p, hx⟩ : ∃ x, c.ranks[j]? = some x := ⟨_, List.getElem?_eq_getElem hlt2⟩
          have HSL := Lib.hid (S5.out p (List.mem_of_getElem? hx))
          obtain ⟨g, o, rfl, hg, d0, d1, _, _⟩ := (HR.out.kept HK.out).cell_of j p hx
          have HAT := Lib.hid (rnkC_at l2 c.ranks j p hx)
          rw [HAT.out] at HP
          obtain ⟨x, y⟩ := p
          simp only at HSL d0 d1 HP
          have hx2 : x.length ≤ 1000 := HSL.out.1
          have hy2 : y.length ≤ 1000 := HSL.out.2
          have HR1 := Lib.hid (fun w => rrule_any x w (by omega))
          have HR2 := Lib.hid (fun w => rrule_any y w (by omega))
          have HN1 := Lib.hid (fun w => rletters_any x w (by omega))
          have HN2 := Lib.hid (fun w => rletters_any y w (by omega))
          unfold IntsP at HN1 HN2
          have hx1 := ptsL_len x
          have hy1 := ptsL_len y
          have HWI := Lib.hid (fun w' h => rwith_any (.slice al l2.length cl) l2 x w' h (by omega) (by omega))
          have HLN := Lib.hid (fun l' h => addA_len (ptsL x) l2 l' h)
          have HBX : Hid (∀ w', Kept (wr.alloc (.cells #[.string (bs x), .string (bs y)] 62)) w' → Blk w' wr.heap.size 62 #[.string (bs x), .string (bs y)]) := fun w' hk => (Blk.new wr 62 #[.string (bs x), .string (bs y)]).kept hk
          have HKX := Lib.hid (kept_alloc wr (.cells #[.string (bs x), .string (bs y)] 62))
          clear hx HAT
          generalize ruleB x = rx at *
          generalize ruleB y = ry at *
          generalize addA l2 (ptsL x) = A at *
          generalize ptsL x = px at *
          generalize ptsL y = py at *
          go_wp2_with fail
          refine (HR1.out _).mono ?_
          rintro e w1 ⟨rfl, hk1⟩
          have HBX1 := Lib.hid (HBX.out _ hk1)
          have HKX1 := Lib.hid (HKX.out.trans hk1)
          have e1 : w1.cell? ⟨wr.heap.size, 1, none⟩ = some (.string (bs y)) := HBX1.out.cell 1 _ rfl
          have z1 := HBX1.out.lt
          clear hk1 d0 d1 hg b0
          cases rx
          · rw [if_pos (.inl rfl)] at HP
            have HE := Lib.hid (HCR2.out _ _ HP.out (by decide))
            go_wp2_with fail
            go_ret
            exact ⟨by rw [HE.out]; rfl, HK.out.trans HKX1.out⟩
          go_wp2_with fail
          refine (HR2.out _).mono ?_
          rintro e w2 ⟨rfl, hk2⟩
          have HBX2 := Lib.hid (HBX1.out.kept hk2)
          have HKX2 := Lib.hid (HKX1.out.trans hk2)
          have f0 : w2.cell? ⟨wr.heap.size, 0, none⟩ = some (.string (bs x)) := HBX2.out.cell 0 _ rfl
          have z2 := HBX2.out.lt
          clear hk2 e1 z1
          cases ry
          · rw [if_pos (.inr rfl)] at HP
            have HE := Lib.hid (HCR2.out _ _ HP.out (by decide))
            go_wp2_with fail
            go_ret
            exact ⟨by rw [HE.out]; rfl, HK.out.trans HKX2.out⟩
          rw [if_neg (by simp)] at HP
          go_wp2_with fail
          refine (HN1.out _).mono ?_
          rintro e w3 ⟨v3, rfl, hi3, hk3⟩
          have HBX3 := Lib.hid (HBX2.out.kept hk3)
          have HKX3 := Lib.hid (HKX2.out.trans hk3)
          have g1 : w3.cell? ⟨wr.heap.size, 1, none⟩ = some (.string (bs y)) := HBX3.out.cell 1 _ rfl
          have z3 := HBX3.out.lt
          obtain ⟨a3, c3, rfl, hc3⟩ := hi3.form'
          clear hk3 f0 z2 hi3
          by_cases hn1 : 1 < px.length
          · rw [if_pos (.inl hn1)] at HP
            have HE := Lib.hid (HCR2.out _ _ HP.out (by decide))
            go_wp2_with fail
            go_ret
            exact ⟨by rw [HE.out]; rfl, HK.out.trans HKX3.out⟩
          go_wp2_with fail
          refine (HN2.out _).mono ?_
          rintro e w4 ⟨v4, rfl, hi4, hk4⟩
          have HBX4 := Lib.hid (HBX3.out.kept hk4)
          have HKX4 := Lib.hid (HKX3.out.trans hk4)
          have h0 : w4.cell? ⟨wr.heap.size, 0, none⟩ = some (.string (bs x)) := HBX4.out.cell 0 _ rfl
          have z4 := HBX4.out.lt
          obtain ⟨a4, c4, rfl, hc4⟩ := hi4.form'
          clear hk4 g1 z3 hi4
          by_cases hn2 : 4 < py.length
          · rw [if_pos (.inr hn2)] at HP
            have HE := Lib.hid (HCR2.out _ _ HP.out (by decide))
            go_wp2_with fail
            go_ret
            exact ⟨by rw [HE.out]; rfl, HK.out.trans HKX4.out⟩
          rw [if_neg (by omega)] at HP
          have HB4 := Lib.hid (And.intro (HBS.out.1.kept HKX4.out) (HBS.out.2.kept HKX4.out))
          have HK4 := Lib.hid (HK.out.trans HKX4.out)
          go_wp2_with fail
          refine (HWI.out _ HB4.out.2).mono ?_
          rintro e w5 ⟨v5, b5, rfl, hk5, hm⟩
          have HK5 := Lib.hid (HK4.out.trans hk5)
          have HB5 := Lib.hid (HB4.out.1.kept hk5)
          clear h0 z4 hk5
          cases A with
          | none =>
            obtain rfl : b5 = true := hm
            have HE := Lib.hid (HCR2.out 7 l2 HP.out (by decide))
            go_wp2_with fail
            go_ret
            exact ⟨by rw [HE.out]; rfl, HK5.out⟩
          | some l' =>
            obtain ⟨rfl, hi5⟩ : b5 = false ∧ Ints w5 v5 l' := hm
            have HP2 : Hid (rnkC lk c.ranks = rnkC l' (c.ranks.drop (j + 1))) := HP
            have hl5 : l'.length ≤ 128000 + 1000 * (j + 1) := by have := HLN.out l' rfl; omega
            have HI5 := Lib.hid hi5
            obtain ⟨a5, c5, rfl, hc5⟩ := hi5.form'
            clear hi5 HLN HWI
            go_wp2_with fail
            go_roundw
            case rel => exact ⟨j + 1, l', a5, c5, by omega, by omega, by go_num, rfl, hc5, HP2.out, ⟨HB5.out, HI5.out⟩, HK5.out⟩
            case measure => simp [intOf]; omega
        · have HP0 : Hid (rnkC lk c.ranks = (0, l2)) := by
            have h := HP.out
            rw [List.drop_of_length_le (by omega)] at h
            exact h
          have HE := Lib.hid (HCI2.out l2 HP0.out)
          have b2 : wr.cell? ⟨w.heap.size, 2, none⟩ = some (.string (bs c.ignore)) := HBS.out.1.cell 2 _ rfl
          have HRU := Lib.hid (fun w => rrule_any c.ignore w (by omega))
          have HWI := Lib.hid (fun w' h => rwith_any (.slice al l2.length cl) l2 c.ignore w' h (by omega) (by omega))
          clear HP HP0 HCR2 HCI2
          generalize c.ignore = ig at *
          unfold ignC at HE
          by_cases hi : ig = []
          · rw [if_pos hi] at HE
            subst hi
            go_wp2_with fail
            go_ret
            exact ⟨by rw [HE.out]; rfl, HK.out⟩
          rw [if_neg hi] at HE
          have hi' : (ig == []) = false := by simpa using hi
          generalize ruleB ig = rb at *
          generalize addA l2 (ptsL ig) = A at *
          go_wp2_with fail
          refine (HRU.out _).mono ?_
          rintro e w1 ⟨rfl, hk1⟩
          have HK1 := Lib.hid (HK.out.trans hk1)
          have HB1 := Lib.hid (And.intro (HBS.out.1.kept hk1) (HBS.out.2.kept hk1))
          have e2 : w1.cell? ⟨w.heap.size, 2, none⟩ = some (.string (bs ig)) := HB1.out.1.cell 2 _ rfl
          have z1 := HB1.out.1.lt
          clear hk1 b2 z0 b0
          cases rb
          · rw [if_pos rfl] at HE
            go_wp2_with fail
            go_ret
            exact ⟨by rw [HE.out]; rfl, HK1.out⟩
          rw [if_neg (by simp)] at HE
          go_wp2_with fail
          refine (HWI.out _ HB1.out.2).mono ?_
          rintro e w2 ⟨v2, b2, rfl, hk2, hm⟩
          have HK2 := Lib.hid (HK1.out.trans hk2)
          clear hk2 e2 z1
          cases A with
          | none =>
            obtain rfl : b2 = true := hm
            have HE2 : Hid (E = 7) := HE
            go_wp2_with fail
            go_ret
            exact ⟨by rw [HE2.out]; rfl, HK2.out⟩
          | some l' =>
            obtain ⟨rfl, _⟩ : b2 = false ∧ Ints w2 v2 l' := hm
            have HE2 : Hid (E = 0) := HE
            go_wp2_with fail
            go_ret
            exact ⟨by rw [HE2.out]; rfl, HK2.out⟩
end Go.Proofs.YteflhlbgbgamnaaGreatDoor

/- Split, Indent and Trim of publisherref02. Conditions: lengths. -/
set_option linter.all false
namespace Go.Proofs.YteflhlbgbgamnaaGreatDoor
open Go.RowKit

set_option maxRecDepth 100000 in
set_option maxHeartbeats 3200000 in
theorem rsplit_own (t : Bs) (w : World) (ht : t.length ≤ 1100000) : Calls Tryz.prog 15 #[.string (bs t)] w (SliQ (linesL t) w) := by
  obtain ⟨i0', hi', hz0, hz1, hz2⟩ := info_parts Tryz.infoStr
  go_enter Tryz.func15, Tryz.ntmps15
  go_wp2_with fail
  go_loopw [3, 4, 5] (fun v fv i wr => ∃ (k fr : Nat) (xs : List Bs), k ≤ t.length ∧ i = .int .i64 k ∧ fv = .int .i64 fr ∧ fr ≤ k ∧ xs.length ≤ k ∧ wr.ownsRow w.heap.size 9 1 v xs.length (strCells xs) ∧ Hid (LineSt t k fr xs) ∧ Kept w wr) (fun _ _ i _ => t.length - (intOf i).toNat)
  case atStart => exact ⟨0, 0, [], Nat.zero_le _, rfl, rfl, Nat.zero_le _, Nat.le_refl _, World.ownsRow_nil _ _ _ _, LineSt.start t, Kept.refl _⟩
  case round =>
    obtain ⟨k, fr, xs, hk, rfl, rfl, hfr, hxl, hown, HS, hkr⟩ := hrel
    have hsz : w.heap.size ≤ wr.heap.size := hkr.size
    have HKR := Lib.hid hkr
    have HOWN := Lib.hid hown
    clear hkr hown
    by_cases hlt : k < t.length
    · have i0 := run_ix (P := Tryz.prog) (t := 9) Tryz.underlying9 t k hlt k rfl
      have HC : Hid (at8 t k = 10 ↔ t[k] = 10) := by show _ ↔ _; rw [at8_get t k hlt]; exact u8_int _ 10 (by decide)
      by_cases hb : at8 t k = 10
      · obtain ⟨hst, hfk⟩ := HS.out.feed hlt (HC.out.1 hb)
        have sl := run_sub (P := Tryz.prog) (t := 9) Tryz.underlying9 t fr k hfk (by omega) fr k rfl rfl _ rfl
        have HST := Lib.hid hst
        have hown := HOWN.out
        have hb' : (at8 t k == 10) = true := by simpa using hb
        generalize (t.drop fr).take (k - fr) = y at *
        generalize at8 t k = b at *
        clear hst HC hb
        go_wp2_with (at_builtin; refine wpList_append_own _ rfl _ _ 29 rfl w.heap.size 9 i0' (.string ⟨#[]⟩) 1 16 Tryz.underlying29 hi' hz0 hz1 hz2 rfl (by decide) _ _ _ rfl (hown.alloc _) ⟨wr.heap.size, 0, none⟩ 1 1 [.string (bs y)] rfl rfl ?_ ?_ ?_ ?_ ?_ ?_)
        · exact new_cells _ #[.string (bs y)] _ _ (by simp)
        · intro u hu; simp at hu; subst hu; rfl
        · unfold maxLen; omega
        · omega
        · simp; omega
        intro v' w2 hown2 hgrow _
        have HB2 := Lib.hid ((HKR.out.trans (kept_alloc wr _)).trans' (grown_below (hown.alloc _) hgrow (by simp; omega)))
        rw [← strCells_snoc] at hown2
        have HO := Lib.hid hown2
        clear hown2 hgrow hown
        go_wp2_with fail
        go_roundw
        case rel => exact ⟨k + 1, k + 1, xs ++ [y], by omega, by go_num, by go_num, by omega, by simp; omega, by simpa using HO.out, HST.out, HB2.out⟩
        case measure => simp [intOf]; omega
      · obtain ⟨hst, hfk⟩ := HS.out.other hlt (fun q => hb (HC.out.2 q))
        have HST := Lib.hid hst
        have hb' : (at8 t k == 10) = false := by simpa using hb
        generalize at8 t k = b at *
        clear hst HC hb
        go_wp2_with fail
        go_roundw
        case rel => exact ⟨k + 1, fr, xs, by omega, by go_num, rfl, by omega, by omega, HOWN.out, HST.out, HKR.out⟩
        case measure => simp [intOf]; omega
    · obtain rfl : k = t.length := by omega
      obtain ⟨hfl, hfin⟩ := HS.out.done
      have HFIN := Lib.hid hfin
      clear hfin
      by_cases hq : fr < t.length
      · rw [if_pos hq] at HFIN
        have sl := run_from (P := Tryz.prog) (t := 9) Tryz.underlying9 t fr hfl fr rfl _ rfl
        have hown := HOWN.out
        generalize t.drop fr = y at *
        go_wp2_with (at_builtin; refine wpList_append_own _ rfl _ _ 29 rfl w.heap.size 9 i0' (.string ⟨#[]⟩) 1 16 Tryz.underlying29 hi' hz0 hz1 hz2 rfl (by decide) _ _ _ rfl (hown.alloc _) ⟨wr.heap.size, 0, none⟩ 1 1 [.string (bs y)] rfl rfl ?_ ?_ ?_ ?_ ?_ ?_)
        · exact new_cells _ #[.string (bs y)] _ _ (by simp)
        · intro u hu; simp at hu; subst hu; rfl
        · unfold maxLen; omega
        · omega
        · simp; omega
        intro v' w2 hown2 hgrow _
        have HB2 := Lib.hid ((HKR.out.trans (kept_alloc wr _)).trans' (grown_below (hown.alloc _) hgrow (by simp; omega)))
        rw [← strCells_snoc] at hown2
        have hown3 : w2.ownsRow w.heap.size 9 1 v' (xs ++ [y]).length (strCells (xs ++ [y])) := by simpa using hown2
        have HO : Hid (Strs w2 v' (xs ++ [y]) ∧ BaseB w.heap.size v' (xs ++ [y])) := ⟨Strs.own hown3, BaseB.own hown3⟩
        clear hown3
        clear hown2 hgrow hown
        go_wp2_with fail
        go_ret
        exact ⟨_, rfl, by rw [HFIN.out]; exact HO.out.1, by rw [HFIN.out]; exact HO.out.2, HB2.out⟩
      · rw [if_neg hq, List.append_nil] at HFIN
        have HO := Lib.hid (And.intro (Strs.own HOWN.out) (BaseB.own HOWN.out))
        go_wp2_with fail
        go_ret
        exact ⟨_, rfl, by rw [HFIN.out]; exact HO.out.1, by rw [HFIN.out]; exact HO.out.2, HKR.out⟩

set_option maxRecDepth 100000 in
set_option maxHeartbeats 1600000 in
theorem rindent_any (l : Bs) (w : World) (hs : l.length ≤ 1100000) : Calls Tryz.prog 52 #[.string (bs l)] w fun e w' => e = .returned (.int .i64 (indentL l)) ∧ w = w' := by
  go_enter Tryz.func52, Tryz.ntmps52
  go_wp2_with fail
  go_loop [3] (fun i => ∃ k : Nat, k ≤ l.length ∧ i = .int .i64 k ∧ Hid (∀ j (hj : j < l.length), j < k → l[j] = 32)) (fun i => l.length - (intOf i).toNat)
  case atStart => exact ⟨0, Nat.zero_le _, rfl, fun j hj h => by omega⟩
  case round =>
    obtain ⟨k, hk, rfl, HA⟩ := hrel
    by_cases hlt : k < l.length
    · have i0 := run_ix (P := Tryz.prog) (t := 9) Tryz.underlying9 l k hlt k rfl
      have HC : Hid (at8 l k = 32 ↔ l[k] = 32) := by show _ ↔ _; rw [at8_get l k hlt]; exact u8_int _ 32 (by decide)
      by_cases hb : at8 l k = 32
      · have HN : Hid (∀ j (hj : j < l.length), j < k + 1 → l[j] = 32) := by
          intro j hj hjk
          by_cases q : j < k
          · exact HA.out j hj q
          · obtain rfl : j = k := by omega
            exact HC.out.1 hb
        have hb' : (at8 l k == 32) = true := by simpa using hb
        generalize at8 l k = b at *
        clear hb HC HA
        go_wp2_with fail
        go_round
        case rel => exact ⟨k + 1, by omega, by go_num, HN.out⟩
        case measure => simp [intOf]; omega
      · have HF : Hid (indentL l = k) := indent_at l k hk HA.out (fun _ q => hb (HC.out.2 q))
        have hb' : (at8 l k == 32) = false := by simpa using hb
        generalize at8 l k = b at *
        clear hb HC HA
        go_wp2_with fail
        go_ret
        exact ⟨ret_int (by rw [HF.out]), rfl⟩
    · have HF : Hid (indentL l = k) := indent_at l k hk HA.out (fun h => absurd h hlt)
      clear HA
      go_wp2_with fail
      go_ret
      exact ⟨ret_int (by rw [HF.out]), rfl⟩

set_option maxRecDepth 100000 in
set_option maxHeartbeats 1600000 in
theorem rtrim_any (l : Bs) (w : World) (hs : l.length ≤ 1100000) : Calls Tryz.prog 17 #[.string (bs l)] w fun e w' => e = .returned (.string (bs (trimL l))) ∧ w = w' := by
  have hil := indent_le l
  have HI := Lib.hid (fun w => rindent_any l w hs)
  have sl := run_from (P := Tryz.prog) (t := 9) Tryz.underlying9 l (indentL l) hil (indentL l) rfl _ rfl
  have HT : Hid (trimL l = trimR (l.drop (indentL l))) := rfl
  have htl : (l.drop (indentL l)).length ≤ 1100000 := by simp; omega
  generalize l.drop (indentL l) = t at *
  generalize indentL l = n0 at *
  go_enter Tryz.func17, Tryz.ntmps17
  go_wp2_with fail
  refine (HI.out _).mono ?_
  rintro e w' ⟨rfl, rfl⟩
  go_wp2_with fail
  clear sl
  simp only [mk_bs]
  go_loop [0] (fun s => ∃ n : Nat, n ≤ t.length ∧ s = .string (bs (t.take n)) ∧ Hid (∀ b ∈ t.drop n, b = 32)) (fun s => match s with | .string b => b.size | _ => 0)
  case atStart => exact ⟨t.length, Nat.le_refl _, by rw [List.take_of_length_le (Nat.le_refl _)], fun b hb => by rw [List.drop_of_length_le (Nat.le_refl _)] at hb; cases hb⟩
  case round =>
    obtain ⟨n, hn, rfl, HA⟩ := hrel
    have hlen : (t.take n).length = n := by simp; omega
    have HLEN := Lib.hid hlen
    by_cases h0 : n = 0
    · subst h0
      have HF : Hid (trimR t = t.take 0) := trimR_at t 0 (by omega) HA.out (fun h => by omega)
      clear HA hlen
      simp only [List.take_zero]
      go_wp2_with fail
      go_ret
      exact ⟨ret_bs (by rw [HT.out, HF.out]; rfl), rfl⟩
    · have hlt : n - 1 < (t.take n).length := by omega
      have i0 := run_ix (P := Tryz.prog) (t := 9) Tryz.underlying9 (t.take n) (n - 1) hlt ((t.take n).length - 1) (by omega)
      have su := run_upto (P := Tryz.prog) (t := 9) Tryz.underlying9 (t.take n) (n - 1) (by omega) ((t.take n).length - 1) (by omega) (t.take (n - 1)) (by rw [List.take_take]; congr 1; omega)
      have hn1 : n - 1 < t.length := by omega
      have HC : Hid (at8 (t.take n) (n - 1) = 32 ↔ t[n - 1]'hn1 = 32) := by
        show _ ↔ _
        rw [at8_get _ _ hlt, List.getElem_take]
        exact u8_int _ 32 (by decide)
      have hpos : 0 < (t.take n).length := by omega
      have hne : ¬ t.take n = [] := by intro q; rw [q] at hpos; simp at hpos
      have hle : (t.take n).length ≤ 1100000 := by omega
      generalize hx : at8 (t.take n) (n - 1) = b at *
      clear hx hlen
      by_cases hb : b = 32
      · have HN : Hid (∀ b ∈ t.drop (n - 1), b = 32) := by
          intro c hc
          have e : t.drop (n - 1) = t[n - 1]'(by omega) :: t.drop n := by
            rw [List.drop_eq_getElem_cons (by omega)]; congr 2; omega
          rw [e] at hc
          rcases List.mem_cons.1 hc with h | h
          · rw [h]; exact HC.out.1 hb
          · exact HA.out c h
        have HM : Hid ((t.take (n - 1)).length < (t.take n).length) := by show _ < _; simp; omega
        have hb' : (b == 32) = true := by simpa using hb
        clear hb HC HA
        generalize hx : t.take n = s at *
        clear hx
        have hy1 : (s == []) = false := by simpa using hne
        have hy2 : (s != []) = true := by simpa using hne
        have hy3 : (List.length s == 0) = false := by simpa using hne
        go_wp2_with fail
        go_round
        case rel => exact ⟨n - 1, by omega, rfl, HN.out⟩
        case measure => simpa using HM.out
      · have HF : Hid (trimR t = t.take n) := trimR_at t n hn HA.out (fun _ q => hb (HC.out.2 q))
        have hb' : (b == 32) = false := by simpa using hb
        clear hb HC HA
        generalize hx : t.take n = s at *
        clear hx
        have hy1 : (s == []) = false := by simpa using hne
        have hy2 : (s != []) = true := by simpa using hne
        have hy3 : (List.length s == 0) = false := by simpa using hne
        go_wp2_with fail
        go_ret
        exact ⟨ret_bs (by rw [HT.out, HF.out]), rfl⟩
end Go.Proofs.YteflhlbgbgamnaaGreatDoor
