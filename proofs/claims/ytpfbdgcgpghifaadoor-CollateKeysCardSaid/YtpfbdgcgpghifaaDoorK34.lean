/- light of law25: where it answers true, the collation is small. Conditions: lengths that a machine can tell. -/
import Derived.Test.YtpfbdgcgpghifaaDoorK18
import Derived.Test.YtpfbdgcgpghifaaDoorK31
import Derived.Test.YtpfbdgcgpghifaaDoorK22
import Derived.Test.YtpfbdgcgpghifaaDoorK33
import Derived.Deep.RegionHeld3

set_option linter.all false
namespace Go.Proofs.YtpfbdgcgpghifaaDoor
open Go.RowKit

/-- The answer of light. -/
def LightP (c : ColT) (e : Ending) : Prop := ∃ b : Bool, e = .returned (.bool b) ∧ (b = true → SmallC c)
theorem LightP.no (c : ColT) : LightP c (.returned (.bool false)) := ⟨false, rfl, fun h => by cases h⟩
set_option maxRecDepth 100000 in
set_option maxHeartbeats 3200000 in
theorem light_any (vR vO : Value) (c : ColT) (w : World) (hv : Col w vR vO c) (hf : FitC c) :
    Calls Tryd.prog 4 #[colV vR vO c.ignore] w fun e w' => LightP c e ∧ Kept w w' := by
  obtain ⟨f1, f2, f3, f4, f5⟩ := hf
  have HF4 := Lib.hid f4
  have HF5 := Lib.hid f5
  clear f4 f5
  obtain ⟨hR, hO⟩ := hv
  have HR := Lib.hid hR
  have HO := Lib.hid hO
  obtain ⟨aR, cR, rfl, lR⟩ := hR.form
  obtain ⟨aO, cO, rfl, lO⟩ := hO.form
  clear hR hO
  have HB1 := Lib.hid (Blk.new w 25 #[.slice aR c.ranks.length cR, .slice aO c.order.length cO, .string (bs c.ignore)])
  have HK := Lib.hid (kept_alloc w (.cells #[.slice aR c.ranks.length cR, .slice aO c.order.length cO, .string (bs c.ignore)] 25))
  by_cases q1 : 140 < c.order.length
  · go_enter Tryd.func4, Tryd.ntmps4
    go_wp2_with fail
    go_ret
    exact ⟨.no c, HK.out⟩
  by_cases q2 : 140 < c.ranks.length
  · go_enter Tryd.func4, Tryd.ntmps4
    go_wp2_with fail
    go_ret
    exact ⟨.no c, HK.out⟩
  by_cases q3 : 300 < c.ignore.length
  · go_enter Tryd.func4, Tryd.ntmps4
    go_wp2_with fail
    go_ret
    exact ⟨.no c, HK.out⟩
  go_enter Tryd.func4, Tryd.ntmps4
  go_wp2_with fail
  generalize w.alloc (.cells #[.slice aR c.ranks.length cR, .slice aO c.order.length cO, .string (bs c.ignore)] 25) = w0 at *
  generalize w.heap.size = B at *
  go_loopw [3, 4] (fun n i wr => ∃ (k : Nat) (m : Int), k ≤ c.order.length ∧ i = .int .i64 k ∧ n = .int .i64 m ∧ 0 ≤ m ∧ m ≤ 300 + 300 * k ∧ Hid (∀ s ∈ c.order.take k, s.length ≤ 300) ∧ Hid (Kept w0 wr)) (fun _ i _ => c.order.length - (intOf i).toNat)
  case atStart => exact ⟨0, _, Nat.zero_le _, rfl, rfl, by omega, by omega, by show ∀ s ∈ _, _; simp, Kept.refl _⟩
  case round =>
    obtain ⟨k, m, hk, rfl, rfl, hm0, hm1, HT, HKR⟩ := hrel
    have b1 : wr.cell? ⟨B, 1, none⟩ = some (.slice aO c.order.length cO) := (HB1.out.kept HKR.out).cell 1 _ rfl
    have z1 := (HB1.out.kept HKR.out).lt
    by_cases hlt : k < c.order.length
    · obtain ⟨s, hx⟩ : ∃ x, c.order[k]? = some x := ⟨_, List.getElem?_eq_getElem hlt⟩
      obtain ⟨g, o, rfl, hg, d0, -, -⟩ := (HO.out.kept (HK.out.trans HKR.out)).cell_of k s hx
      have hsf := HF4.out s (List.mem_of_getElem? hx)
      by_cases hs : 300 < s.length
      · clear hx
        go_wp2_with fail
        go_ret
        exact ⟨.no c, HK.out.trans HKR.out⟩
      · have HT2 : Hid (∀ s ∈ c.order.take (k + 1), s.length ≤ 300) := by
          show ∀ s ∈ _, _
          intro t ht
          rw [List.take_succ, hx] at ht
          simp at ht
          rcases ht with h | rfl
          · exact HT.out t h
          · omega
        clear hx
        go_wp2_with fail
        go_roundw
        case rel => exact ⟨k + 1, m + s.length, by omega, by go_num, by go_num, by omega, by omega, HT2, HKR.out⟩
        case measure => simp [intOf]; omega
    · have HT2 : Hid (∀ s ∈ c.order, s.length ≤ 300) := by
        show ∀ s ∈ _, _
        intro t ht
        refine HT.out t ?_
        rw [List.take_of_length_le (by omega)]; exact ht
      go_wp2_with fail
      clear b1 z1 HT hlt
      have hm2 : m ≤ 42300 := by omega
      clear hm1 hk
      go_loopw [3, 5] (fun n i wr2 => ∃ (k : Nat) (m : Int), k ≤ c.ranks.length ∧ i = .int .i64 k ∧ n = .int .i64 m ∧ 0 ≤ m ∧ m ≤ 42300 + 600 * k ∧ Hid (∀ p ∈ c.ranks.take k, p.1.length ≤ 300 ∧ p.2.length ≤ 300) ∧ Hid (Kept w0 wr2)) (fun _ i _ => c.ranks.length - (intOf i).toNat)
      case atStart => exact ⟨0, _, Nat.zero_le _, rfl, rfl, by omega, by omega, by show ∀ s ∈ _, _; simp, HKR.out⟩
      case round =>
        clear HKR hm0 hm2
        obtain ⟨j, m2, hj, rfl, rfl, hm0, hm1, HT, HKR⟩ := hrel
        have b1 : wr.cell? ⟨B, 0, none⟩ = some (.slice aR c.ranks.length cR) := (HB1.out.kept HKR.out).cell 0 _ rfl
        have z1 := (HB1.out.kept HKR.out).lt
        by_cases hlt2 : j < c.ranks.length
        · obtain ⟨p, hx⟩ : ∃ x, c.ranks[j]? = some x := ⟨_, List.getElem?_eq_getElem hlt2⟩
          obtain ⟨g, o, rfl, hg, d0, d1, -, -⟩ := (HR.out.kept (HK.out.trans HKR.out)).cell_of j p hx
          obtain ⟨hp1, hp2⟩ := HF5.out p (List.mem_of_getElem? hx)
          by_cases h1 : 300 < p.1.length
          · clear hx
            go_wp2_with fail
            go_ret
            exact ⟨.no c, HK.out.trans HKR.out⟩
          by_cases h2 : 300 < p.2.length
          · clear hx
            go_wp2_with fail
            go_ret
            exact ⟨.no c, HK.out.trans HKR.out⟩
          have HT3 : Hid (∀ s ∈ c.ranks.take (j + 1), s.1.length ≤ 300 ∧ s.2.length ≤ 300) := by
            show ∀ s ∈ _, _
            intro t ht
            rw [List.take_succ, hx] at ht
            simp at ht
            rcases ht with h | rfl
            · exact HT.out t h
            · exact ⟨by omega, by omega⟩
          clear hx
          go_wp2_with fail
          go_region
          all_goals
            go_wp2_with fail
            go_roundw
            case rel => exact ⟨j + 1, m2 + (p.1.length + p.2.length), by omega, by go_num, by go_num, by omega, by omega, HT3, HKR.out.trans (kept_drewN _ _)⟩
            case measure => simp [intOf]; omega
        · have HT3 : Hid (∀ s ∈ c.ranks, s.1.length ≤ 300 ∧ s.2.length ≤ 300) := by
            show ∀ s ∈ _, _
            intro t ht
            refine HT.out t ?_
            rw [List.take_of_length_le (by omega)]; exact ht
          have HSM : Hid (SmallC c) := ⟨by omega, by omega, by omega, fun s h => by have := HT2.out s h; omega, fun p h => by have := HT3.out p h; exact ⟨by omega, by omega⟩⟩
          clear HT HT2 HT3
          go_wp2_with fail
          go_ret
          exact ⟨⟨_, rfl, fun _ => HSM.out⟩, HK.out.trans HKR.out⟩
end Go.Proofs.YtpfbdgcgpghifaaDoor

/- The law CollateKeys answers true of every collation and text. Conditions: lengths that a machine can tell. -/
set_option linter.all false
namespace Go.Proofs.YtpfbdgcgpghifaaDoor
open Go.RowKit

set_option maxRecDepth 100000 in
set_option maxHeartbeats 6400000 in
theorem lckeys_any (vR vO : Value) (c : ColT) (s : Bs) (w : World) (hg : Gnd w) (hv : Col w vR vO c) (hf : FitC c) (hsl : s.length ≤ maxLen) : Calls Tryd.prog 3 #[colV vR vO c.ignore, .string (bs s)] w fun e w' => e = .returned (.bool true) ∧ Kept w w' := by
  have HG := Lib.hid hg
  have HV := Lib.hid hv
  have HL := Lib.hid (fun w h => light_any vR vO c w h hf)
  have HAW : Hid (∀ w', Kept w w' → Calls Tryd.prog 5 #[] w' fun e w2 => e = .returned (.bool true) ∧ Kept w' w2) := fun w' h => cawake_any w' (HG.out.kept h)
  have HC1 := Lib.hid (fun w h hs (hl : s.length ≤ 1000) => keyE_any vR vO c s w h hs hl)
  have HC2 := Lib.hid (fun w h hs (hl : s.length ≤ 1000) => rkey_any vR vO c s w h hs hl)
  have HLK : Hid (SmallC c → s.length ≤ 1000 → (keyI c s).length ≤ 10000000) := fun hs hl => by have := keyI_len hs s; omega
  unfold IntsP at HC1 HC2
  obtain ⟨⟨aR, cR, rfl, -⟩, ⟨aO, cO, rfl, -⟩⟩ := hv
  clear hf hg
  unfold maxLen at hsl
  generalize keyI c s = R at *
  go_enter Tryd.func3, Tryd.ntmps3
  go_wp2_with fail
  have HB0 := Lib.hid (Blk.new w 25 #[.slice aR c.ranks.length cR, .slice aO c.order.length cO, .string (bs c.ignore)])
  have HK0 := Lib.hid (kept_alloc w (.cells #[.slice aR c.ranks.length cR, .slice aO c.order.length cO, .string (bs c.ignore)] 25))
  generalize w.alloc (.cells #[.slice aR c.ranks.length cR, .slice aO c.order.length cO, .string (bs c.ignore)] 25) = w0 at *
  generalize w.heap.size = B at *
  refine (HL.out _ (HV.out.kept HK0.out)).mono ?_
  rintro e w1 ⟨⟨b, rfl, hs⟩, hk1⟩
  have HS := Lib.hid hs
  have HK1 := Lib.hid (HK0.out.trans hk1)
  have HB1 := Lib.hid (HB0.out.kept hk1)
  clear hs hk1 HK0 HB0 HL
  cases b with
  | false =>
    go_wp2_with fail
    refine (HAW.out _ HK1.out).mono ?_
    rintro e w2 ⟨rfl, hk⟩
    have HK2 := Lib.hid (HK1.out.trans hk)
    clear hk
    go_wp2_with fail
    go_ret
    exact ⟨rfl, HK2.out⟩
  | true =>
    have HSM := Lib.hid (HS.out rfl)
    by_cases hl2 : 200 < s.length
    · go_wp2_with fail
      refine (HAW.out _ HK1.out).mono ?_
      rintro e w2 ⟨rfl, hk⟩
      have HK2 := Lib.hid (HK1.out.trans hk)
      clear hk
      go_wp2_with fail
      go_ret
      exact ⟨rfl, HK2.out⟩
    have HV1 := Lib.hid (HV.out.kept HK1.out)
    have z0 := HB1.out.lt
    have HCC : Hid (∀ w', Kept w1 w' → (w'.cell? ⟨B, 0, none⟩ = some (.slice aR c.ranks.length cR) ∧ w'.cell? ⟨B, 1, none⟩ = some (.slice aO c.order.length cO) ∧ w'.cell? ⟨B, 2, none⟩ = some (.string (bs c.ignore))) ∧ B < w'.heap.size ∧ Kept w1 w') := fun w' h =>
      ⟨⟨(HB1.out.kept h).cell 0 _ rfl, (HB1.out.kept h).cell 1 _ rfl, (HB1.out.kept h).cell 2 _ rfl⟩, Nat.lt_of_lt_of_le z0 h.size, h⟩
    obtain ⟨⟨t0, t1, t2⟩, -, -⟩ := HCC.out w1 (Kept.refl _)
    have hkd : Kept w1 w1.drew := kept_drewN w1 1
    clear HS HB1 HV
    go_wp2_with fail
    go_region_held3 (fun w' => (w'.cell? ⟨B, 0, none⟩ = some (.slice aR c.ranks.length cR) ∧ w'.cell? ⟨B, 1, none⟩ = some (.slice aO c.order.length cO) ∧ w'.cell? ⟨B, 2, none⟩ = some (.string (bs c.ignore))) ∧ B < w'.heap.size ∧ Kept w1 w')
      ((refine HCC.out _ ?_; assumption))
      (first
        | (go_at_call 5; refine (HAW.out _ (HK1.out.trans k3)).mono ?_; rintro e w6 ⟨rfl, hk⟩; have kZ := k3.trans hk; clear hk)
        | (go_at_call 6; refine (ints_eq _ _ R _ HI1.out HI2.out (HLK.out HSM.out (by omega))).mono ?_; rintro e w5 ⟨rfl, hk⟩; have k3 : Kept w1 w5 := k2.trans hk; clear hk)
        | (go_at_call 8; refine (HC2.out _ (HV1.out.kept k1) HSM.out (by omega)).mono ?_; rintro e w4 ⟨v2, rfl, hi, hk⟩; have k2 : Kept w1 w4 := k1.trans hk; have HI1 := Lib.hid (HI0.out.kept hk); have HI2 := Lib.hid hi; clear hk hi)
        | (go_at_call 7; refine (HC1.out _ (HV1.out.kept hkd) HSM.out (by omega)).mono ?_; rintro e w3 ⟨v1, rfl, hi, hk⟩; have k1 : Kept w1 w3 := hkd.trans hk; have HI0 := Lib.hid hi; clear hk hi))
    all_goals
      go_wp2_with fail
      go_ret
      exact ⟨rfl, HK1.out.trans kZ⟩
end Go.Proofs.YtpfbdgcgpghifaaDoor
