/- The law CollateSorts answers true of every collation and every texts. Conditions: lengths that a machine can tell. -/
import Derived.Test.YtpfbdgcgpghifaaGreatDoorK31
import Derived.Test.YtpfbdgcgpghifaaGreatDoorK22
import Derived.Test.YtpfbdgcgpghifaaGreatDoorK43
import Derived.Test.YtpfbdgcgpghifaaGreatDoorK35
import Derived.Test.YtpfbdgcgpghifaaGreatDoorK38
import Derived.Deep.RegionHeld3

set_option linter.all false
namespace Go.Proofs.YtpfbdgcgpghifaaGreatDoor
open Go.RowKit

theorem srt_next {c : ColT} {l : List Bs} {b m n : Nat} {x y : Bs} (hm : (sortC c l)[b]? = some m) (hn : (sortC c l)[b + 1]? = some n) (hx : l[m]? = some x) (hy : l[n]? = some y) : cmpC c x y ≤ 0 := by
  obtain ⟨h1, rfl⟩ := List.getElem?_eq_some_iff.1 hm
  obtain ⟨h2, rfl⟩ := List.getElem?_eq_some_iff.1 hn
  have := sortC_next c l b h2
  rw [txt_at hx, txt_at hy] at this
  exact this
theorem Ints.form_n {w : World} {v : Value} {xs : List Int} {n : Nat} (h : Ints w v xs) (e : xs.length = n) : ∃ a c, v = .slice a n c ∧ n ≤ c := by
  obtain ⟨a, c, hv, hc, _⟩ := h
  subst e; exact ⟨a, c, hv, hc⟩
set_option maxRecDepth 100000 in
set_option maxHeartbeats 12800000 in
theorem lcsorts_any (vR vO vL : Value) (c : ColT) (l : List Bs) (w : World) (hg : Gnd w) (hv : Col w vR vO c) (hf : FitC c) (hL : Strs w vL l) (hn : l.length ≤ 140737488355328) (hll : ∀ x ∈ l, x.length ≤ 140737488355328) :
    Calls Tryz.prog 4 #[colV vR vO c.ignore, vL] w fun e w' => e = .returned (.bool true) ∧ Kept w w' := by
  have HG := Lib.hid hg
  have HV := Lib.hid hv
  have HLS := Lib.hid hL
  have HLB := Lib.hid hll
  have HL := Lib.hid (fun w h => light_any vR vO c w h hf)
  have HAW : Hid (∀ w', Kept w w' → Calls Tryz.prog 13 #[] w' fun e w2 => e = .returned (.bool true) ∧ Kept w' w2) := fun w' h => cawake_any w' (HG.out.kept h)
  have HC1 : Hid (∀ w', Col w' vR vO c → Strs w' vL l → SmallC c → l.length ≤ 12 → (∀ x ∈ l, x.length ≤ 1000) → Calls Tryz.prog 16 #[colV vR vO c.ignore, vL] w' (IntsP (natI (sortC c l)) w')) := fun w' h1 h2 h3 h4 h5 => sort_all vR vO vL c l w' h1 h2 h3 h4 h5
  have HC2 : Hid (∀ w', Col w' vR vO c → Strs w' vL l → SmallC c → l.length ≤ 12 → (∀ x ∈ l, x.length ≤ 1000) → Calls Tryz.prog 18 #[colV vR vO c.ignore, vL] w' (IntsP (natI (sortC c l)) w')) := fun w' h1 h2 h3 h4 h5 => rsort_any vR vO vL c l w' h1 h2 h3 h4 h5
  have HCR := Lib.hid (fun a b w h hs (ha : a.length ≤ 1000) (hb : b.length ≤ 1000) => rcompare_any vR vO c a b w h hs ha hb)
  have HSN := Lib.hid (fun b m n x y hm hn hx hy => srt_next (c := c) (l := l) (b := b) (m := m) (n := n) (x := x) (y := y) hm hn hx hy)
  have hsl : (sortC c l).length = l.length := by rw [(sortC_perm c l).length_eq, List.length_range]
  have HSM : Hid (∀ i ∈ sortC c l, i < l.length) := fun i hi => by
    have := (sortC_perm c l).mem_iff.1 hi
    simpa using this
  unfold IntsP at HC1 HC2
  obtain ⟨⟨aR, cR, rfl, -⟩, ⟨aO, cO, rfl, -⟩⟩ := hv
  obtain ⟨aL, cL, rfl, lL⟩ := hL.form
  clear hf hg hL hll
  obtain ⟨SC, HSC⟩ : ∃ o, Hid (sortC c l = o) := ⟨_, rfl⟩
  simp only [HSC.out] at HC1 HC2 HSN hsl HSM
  have HSL := Lib.hid hsl
  have HNL := Lib.hid (show (natI SC).length = l.length by rw [natI_len, hsl])
  clear hsl
  go_enter Tryz.func4, Tryz.ntmps4
  go_wp2_with fail
  have HB0 := Lib.hid (Blk.new w 25 #[.slice aR c.ranks.length cR, .slice aO c.order.length cO, .string (bs c.ignore)])
  have HK0 := Lib.hid (kept_alloc w (.cells #[.slice aR c.ranks.length cR, .slice aO c.order.length cO, .string (bs c.ignore)] 25))
  generalize w.alloc (.cells #[.slice aR c.ranks.length cR, .slice aO c.order.length cO, .string (bs c.ignore)] 25) = w0 at *
  generalize w.heap.size = B at *
  refine (HL.out _ (HV.out.kept HK0.out)).mono ?_
  rintro e w1 ⟨⟨b, rfl, hs⟩, hk1⟩
  have HS := Lib.hid hs
  have HK1 := Lib.hid (HK0.out.trans hk1)
  have HB1 := Lib.hid (HB0.out.kept hk1)
  clear hs hk1 HK0 HB0 HL
  cases b with
  | false =>
    go_wp2_with fail
    refine (HAW.out _ HK1.out).mono ?_
    rintro e w2 ⟨rfl, hk⟩
    have HK2 := Lib.hid (HK1.out.trans hk)
    clear hk
    go_wp2_with fail
    go_ret
    exact ⟨rfl, HK2.out⟩
  | true =>
    have HSMA := Lib.hid (HS.out rfl)
    by_cases h12 : 12 < l.length
    · go_wp2_with fail
      refine (HAW.out _ HK1.out).mono ?_
      rintro e w2 ⟨rfl, hk⟩
      have HK2 := Lib.hid (HK1.out.trans hk)
      clear hk
      go_wp2_with fail
      go_ret
      exact ⟨rfl, HK2.out⟩
    clear HS
    go_wp2_with fail
    go_loopw [5] (fun i wr => ∃ k : Nat, k ≤ l.length ∧ i = .int .i64 k ∧ Hid (∀ x ∈ l.take k, x.length ≤ 40) ∧ Hid (Kept w1 wr)) (fun i _ => l.length - (intOf i).toNat)
    case atStart => exact ⟨0, Nat.zero_le _, rfl, (by show ∀ x ∈ _, _; simp), Kept.refl _⟩
    case round =>
      obtain ⟨k, hk, rfl, HT, HKR⟩ := hrel
      by_cases hlt : k < l.length
      · obtain ⟨s, hx⟩ : ∃ x, l[k]? = some x := ⟨_, List.getElem?_eq_getElem hlt⟩
        obtain ⟨g, o, rfl, hg, d0, -, -⟩ := (HLS.out.kept (HK1.out.trans HKR.out)).cell_of k s hx
        have hsf := HLB.out s (List.mem_of_getElem? hx)
        by_cases hs : 40 < s.length
        · clear hx
          go_wp2_with fail
          refine (HAW.out _ (HK1.out.trans HKR.out)).mono ?_
          rintro e w2 ⟨rfl, hk⟩
          have HK2 := Lib.hid ((HK1.out.trans HKR.out).trans hk)
          clear hk
          go_wp2_with fail
          go_ret
          exact ⟨rfl, HK2.out⟩
        · have HT2 : Hid (∀ s ∈ l.take (k + 1), s.length ≤ 40) := by
            show ∀ s ∈ _, _
            intro t ht
            rw [List.take_succ, hx] at ht
            simp at ht
            rcases ht with h | rfl
            · exact HT.out t h
            · omega
          clear hx
          go_wp2_with fail
          go_roundw
          case rel => exact ⟨k + 1, by omega, by go_num, HT2, HKR.out⟩
          case measure => simp [intOf]; omega
      · have HLL : Hid (∀ x ∈ l, x.length ≤ 1000) := by
          show ∀ s ∈ _, _
          intro t ht
          have := HT.out t (by rw [List.take_of_length_le (by omega)]; exact ht)
          omega
        have HCC : Hid (∀ w', Kept w1 w' → (w'.cell? ⟨B, 0, none⟩ = some (.slice aR c.ranks.length cR) ∧ w'.cell? ⟨B, 1, none⟩ = some (.slice aO c.order.length cO) ∧ w'.cell? ⟨B, 2, none⟩ = some (.string (bs c.ignore))) ∧ B < w'.heap.size) := fun w' h =>
          ⟨⟨(HB1.out.kept h).cell 0 _ rfl, (HB1.out.kept h).cell 1 _ rfl, (HB1.out.kept h).cell 2 _ rfl⟩, (HB1.out.kept h).lt⟩
        obtain ⟨⟨t0, t1, t2⟩, z0⟩ := HCC.out wr HKR.out
        clear HT
        go_wp2_with fail
        refine (HC1.out _ (HV.out.kept (HK1.out.trans HKR.out)) (HLS.out.kept (HK1.out.trans HKR.out)) HSMA.out (by omega) HLL.out).mono ?_
        rintro e w2 ⟨v1, rfl, hi1, hk⟩
        have HK2 := Lib.hid (HKR.out.trans hk)
        have HI1 := Lib.hid hi1
        obtain ⟨a1, c1, rfl, l1⟩ := hi1.form_n HNL.out
        clear hk hi1 t0 t1 t2 z0
        obtain ⟨⟨t0, t1, t2⟩, z0⟩ := HCC.out w2 HK2.out
        go_wp2_with fail
        refine (HC2.out _ (HV.out.kept (HK1.out.trans HK2.out)) (HLS.out.kept (HK1.out.trans HK2.out)) HSMA.out (by omega) HLL.out).mono ?_
        rintro e w3 ⟨v2, rfl, hi2, hk⟩
        have HK3 := Lib.hid (HK2.out.trans hk)
        have HI1b := Lib.hid (HI1.out.kept hk)
        have HI2 := Lib.hid hi2
        obtain ⟨a2, c2, rfl, l2⟩ := hi2.form_n HNL.out
        clear hk hi2 t0 t1 t2 z0
        go_wp2_with fail
        refine (ints_eq _ _ (natI SC) _ HI1b.out HI2.out (by have := HNL.out; omega)).mono ?_
        rintro e w4 ⟨rfl, hk⟩
        have HK4 := Lib.hid (HK3.out.trans hk)
        have HI4 := Lib.hid (HI1b.out.kept hk)
        clear hk HI1b HI2 HI1
        go_wp2_with fail
        go_loopw [7] (fun i wr => ∃ k : Nat, k ≤ l.length ∧ i = .int .i64 k ∧ Hid (Kept w4 wr)) (fun i _ => l.length - (intOf i).toNat)
        case atStart => exact ⟨0, Nat.zero_le _, rfl, Kept.refl _⟩
        case round =>
          obtain ⟨k, hk, rfl, HKR⟩ := hrel
          by_cases hlt : k < l.length
          · obtain ⟨n, hn1⟩ : ∃ n, SC[k]? = some n := ⟨_, List.getElem?_eq_getElem (by have := HSL.out; omega)⟩
            have hnl := HSM.out n (List.mem_of_getElem? hn1)
            obtain ⟨gs, os, rfl, hgs, dn⟩ := (HI4.out.kept HKR.out).cell_of' k (n : Int) (natI_at hn1)
            have hn0 : decide ((n : Int) < 0) = false := by simp
            have hn4 : decide (l.length ≤ n) = false := by simpa using hnl
            have hn1' : (n : Int) < (l.length : Int) := by omega
            have hn2 : decide ((l.length : Int) ≤ (n : Int)) = false := by simpa using hn1'
            by_cases h0 : 0 < k
            · obtain ⟨b, hkb⟩ : ∃ b, k = b + 1 := ⟨k - 1, by omega⟩
              obtain ⟨m, hm1⟩ : ∃ n, SC[b]? = some n := ⟨_, List.getElem?_eq_getElem (by have := HSL.out; omega)⟩
              have hml := HSM.out m (List.mem_of_getElem? hm1)
              obtain ⟨gs', os', he, -, dm⟩ := (HI4.out.kept HKR.out).cell_of' b (m : Int) (natI_at hm1)
              cases he
              obtain ⟨x, hx⟩ : ∃ z, l[m]? = some z := ⟨_, List.getElem?_eq_getElem hml⟩
              obtain ⟨y, hy⟩ : ∃ z, l[n]? = some z := ⟨_, List.getElem?_eq_getElem hnl⟩
              obtain ⟨gl, ol, rfl, hgl, dx, -, -⟩ := (HLS.out.kept ((HK1.out.trans HK4.out).trans HKR.out)).cell_of m x hx
              obtain ⟨gl', ol', he, -, dy, -, -⟩ := (HLS.out.kept ((HK1.out.trans HK4.out).trans HKR.out)).cell_of n y hy
              cases he
              have hxl := HLL.out x (List.mem_of_getElem? hx)
              have hyl := HLL.out y (List.mem_of_getElem? hy)
              have hle := HSN.out b m n x y hm1 (by rw [← hkb]; exact hn1) hx hy
              have HCX := Lib.hid (fun w h => HCR.out x y w h HSMA.out hxl hyl)
              have HVR := Lib.hid (HV.out.kept ((HK1.out.trans HK4.out).trans HKR.out))
              have HCD : Hid (∀ w', Kept wr w' → (w'.cell? ⟨B, 0, none⟩ = some (.slice aR c.ranks.length cR) ∧ w'.cell? ⟨B, 1, none⟩ = some (.slice aO c.order.length cO) ∧ w'.cell? ⟨B, 2, none⟩ = some (.string (bs c.ignore)) ∧ w'.cell? ⟨gs, os + b, none⟩ = some (.int .i64 m) ∧ w'.cell? ⟨gs, os + k, none⟩ = some (.int .i64 n) ∧ w'.cell? ⟨gl, ol + m, none⟩ = some (.string (bs x)) ∧ w'.cell? ⟨gl, ol + n, none⟩ = some (.string (bs y))) ∧ (B < w'.heap.size ∧ gs < w'.heap.size ∧ gl < w'.heap.size) ∧ Kept wr w') := fun w' h =>
                ⟨⟨((HCC.out w' ((HK4.out.trans HKR.out).trans h)).1).1, ((HCC.out w' ((HK4.out.trans HKR.out).trans h)).1).2.1, ((HCC.out w' ((HK4.out.trans HKR.out).trans h)).1).2.2, (h.cell (p := ⟨gs, os + b, none⟩) hgs).trans dm, (h.cell (p := ⟨gs, os + k, none⟩) hgs).trans dn, (h.cell (p := ⟨gl, ol + m, none⟩) hgl).trans dx, (h.cell (p := ⟨gl, ol + n, none⟩) hgl).trans dy⟩, ⟨(HCC.out w' ((HK4.out.trans HKR.out).trans h)).2, Nat.lt_of_lt_of_le hgs h.size, Nat.lt_of_lt_of_le hgl h.size⟩, h⟩
              obtain ⟨⟨t0, t1, t2, -, -, -, -⟩, ⟨z0, -, -⟩, -⟩ := HCD.out wr (Kept.refl _)
              have hkd : Kept wr wr.drew := kept_drewN wr 1
              generalize cmpC c x y = R at *
              have hw2 : IntKind.i64.wrap ((k : Int) - 1) = (b : Int) := by rw [show (k : Int) - 1 = (b : Int) by omega]; exact IntWalk.i64_in _ (by omega)
              have hgd : decide ((0 : Int) < (k : Int)) = true := by simpa using h0
              have hk0 : (0 : Int) ≤ (k : Int) := by omega
              have hk1 : (k : Int) < (l.length : Int) := by omega
              have hb0 : (0 : Int) ≤ (b : Int) := by omega
              have hb2 : (b : Int) < (l.length : Int) := by omega
              have hm0 : (0 : Int) ≤ (m : Int) := by omega
              have hm2 : (m : Int) < (l.length : Int) := by omega
              have hn00 : (0 : Int) ≤ (n : Int) := by omega
              have hR : ¬ 0 < R := by omega
              clear hkb
              clear hx hy hm1 hn1
              go_wp2_with fail
              ((go_region_held3 (fun w' => (w'.cell? ⟨B, 0, none⟩ = some (.slice aR c.ranks.length cR) ∧ w'.cell? ⟨B, 1, none⟩ = some (.slice aO c.order.length cO) ∧ w'.cell? ⟨B, 2, none⟩ = some (.string (bs c.ignore)) ∧ w'.cell? ⟨gs, os + b, none⟩ = some (.int .i64 m) ∧ w'.cell? ⟨gs, os + k, none⟩ = some (.int .i64 n) ∧ w'.cell? ⟨gl, ol + m, none⟩ = some (.string (bs x)) ∧ w'.cell? ⟨gl, ol + n, none⟩ = some (.string (bs y))) ∧ (B < w'.heap.size ∧ gs < w'.heap.size ∧ gl < w'.heap.size) ∧ Kept wr w')
                ((refine HCD.out _ ?_; assumption))
                (first
                  | (go_at_call 15; refine (HCX.out _ (HVR.out.kept hkd)).mono ?_; rintro e w7 ⟨rfl, hk7⟩; have k7 : Kept wr w7 := hkd.trans hk7; clear hk7))))
              all_goals
                have HK7 := Lib.hid (HKR.out.trans k7)
                clear HCD t0 t1 t2 z0 hkd
                go_wp2_with fail
                go_roundw
                case rel => exact ⟨k + 1, by omega, by go_num, HK7.out⟩
                case measure => simp [intOf]; omega
            · obtain rfl : k = 0 := by omega
              rw [Nat.add_zero] at dn
              have hl0 : 0 < l.length := hlt
              clear hn1
              go_wp2_with fail
              first | (go_quiet (fail)) | fail
              all_goals
                go_wp2_with fail
                go_roundw
                case rel => exact ⟨1, by omega, by go_num, HKR.out.trans (kept_drewN _ _)⟩
                case measure => simp [intOf]; omega
          · go_wp2_with fail
            refine (HAW.out _ ((HK1.out.trans HK4.out).trans HKR.out)).mono ?_
            rintro e w2 ⟨rfl, hk⟩
            have HKZ := Lib.hid (((HK1.out.trans HK4.out).trans HKR.out).trans hk)
            clear hk
            go_wp2_with fail
            go_ret
            exact ⟨rfl, HKZ.out⟩
end Go.Proofs.YtpfbdgcgpghifaaGreatDoor

/- An argument that is a slice of texts, opened. No condition. -/
set_option linter.all false
namespace Go.Proofs.YtpfbdgcgpghifaaGreatDoor
open Go.ChangeShapes Go.WideShapes Go.ChangeAt Go.RowKit Go.Joins

section
variable {H : Type} {enc : TypeId × Value → H} {w : World} {base : Nat} {spare : Nat → Bool} {held : Bool}
set_option maxRecDepth 100000 in
theorem open_strs {r : Reach} {b0 : Nat} {v : Value} {d : DataW H} {p : List MemPlace} (hv : Value.okWide Tryz.prog w r b0 23 v) (h : DataW.Trod enc Tryz.prog w base spare held 23 v d p) (hli : Light 23 d) :
    ∃ xs : List Bs, Strs w v xs ∧ xs.length ≤ 140737488355328 ∧ ∀ x ∈ xs, x.length ≤ 140737488355328 := by
  obtain ⟨a0, l0, c0, rfl⟩ := okWide_slice Tryz.underlying23 hv
  obtain ⟨fuel, hf⟩ := h
  simp only [Value.cells] at hf
  exact cell_strs hf hli
end
end Go.Proofs.YtpfbdgcgpghifaaGreatDoor
