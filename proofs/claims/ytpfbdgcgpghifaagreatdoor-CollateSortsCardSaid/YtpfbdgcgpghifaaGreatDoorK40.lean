/- Compare of publisherref25. Conditions: lengths. -/
import Derived.Test.YtpfbdgcgpghifaaGreatDoorK34
import Derived.Test.YtpfbdgcgpghifaaGreatDoorK22
import Derived.Test.YtpfbdgcgpghifaaGreatDoorK31
import Derived.Test.YtpfbdgcgpghifaaGreatDoorK35
import Derived.Laws.Cover1
import Derived.Deep.RegionHeld3

set_option linter.all false
namespace Go.Proofs.YtpfbdgcgpghifaaGreatDoor
open Go.RowKit

theorem cmpC_B (c : ColT) (a b : Bs) : cmpC c a b = if cmpI (keyI c a) (keyI c b) ≠ 0 then cmpI (keyI c a) (keyI c b) else cmpB a b := rfl
theorem beq_cmp (a b : Bs) : (a == b) = decide (cmpB a b = 0) := by
  by_cases h : a = b
  · subst h; rw [cmpB_self]; simp
  · rw [beq_eq_false_iff_ne.2 h, eq_comm, decide_eq_false_iff_not]
    exact fun q => h (cmpB_zero a b q)
set_option maxRecDepth 100000 in
set_option maxHeartbeats 6400000 in
theorem rcompare_any (vR vO : Value) (c : ColT) (a b : Bs) (w : World) (hv : Col w vR vO c) (hs : SmallC c) (ha : a.length ≤ 1000) (hb : b.length ≤ 1000) :
    Calls Tryz.prog 15 #[colV vR vO c.ignore, .string (bs a), .string (bs b)] w fun e w' => e = .returned (.int .i64 (cmpC c a b)) ∧ Kept w w' := by
  have HV := Lib.hid hv
  have HKA := Lib.hid (fun w h => rkey_any vR vO c a w h hs ha)
  have HKB := Lib.hid (fun w h => rkey_any vR vO c b w h hs hb)
  have hla := keyI_len hs a
  have hlb := keyI_len hs b
  have HE := Lib.hid (cmpC_B c a b)
  have HRG := Lib.hid (cmpB_range a b)
  have HL1 : Hid (Op.bytesLess a b = decide (cmpB a b < 0)) := less_cmp a b
  have HL2 : Hid ((a == b) = decide (cmpB a b = 0)) := beq_cmp a b
  have HAT := Lib.hid (cmpI_at (keyI c a) (keyI c b))
  have HEN := Lib.hid (cmpI_end (keyI c a) (keyI c b))
  obtain ⟨aR, cR, rfl, lR⟩ := hv.1.form
  obtain ⟨aO, cO, rfl, lO⟩ := hv.2.form
  clear hv
  have HK0 := Lib.hid (kept_alloc w (.cells #[.slice aR c.ranks.length cR, .slice aO c.order.length cO, .string (bs c.ignore)] 25))
  have HB0 := Lib.hid (Blk.new w 25 #[.slice aR c.ranks.length cR, .slice aO c.order.length cO, .string (bs c.ignore)])
  generalize cmpC c a b = R at *
  generalize keyI c a = x at *
  generalize keyI c b = y at *
  generalize cmpB a b = S at *
  unfold IntsP at HKA HKB
  go_enter Tryz.func15, Tryz.ntmps15
  go_wp2_with fail
  generalize w.alloc (.cells #[.slice aR c.ranks.length cR, .slice aO c.order.length cO, .string (bs c.ignore)] 25) = w0 at *
  generalize w.heap.size = B at *
  have HCC : Hid (∀ w', Kept w0 w' → (w'.cell? ⟨B, 0, none⟩ = some (.slice aR c.ranks.length cR) ∧ w'.cell? ⟨B, 1, none⟩ = some (.slice aO c.order.length cO) ∧ w'.cell? ⟨B, 2, none⟩ = some (.string (bs c.ignore))) ∧ B < w'.heap.size ∧ Kept w0 w') := fun w' h =>
    ⟨⟨(HB0.out.kept h).cell 0 _ rfl, (HB0.out.kept h).cell 1 _ rfl, (HB0.out.kept h).cell 2 _ rfl⟩, (HB0.out.kept h).lt, h⟩
  obtain ⟨⟨t0, t1, t2⟩, z0, -⟩ := HCC.out w0 (Kept.refl _)
  have hkd : Kept w0 w0.drew := kept_drewN w0 1
  have HV0 := Lib.hid (HV.out.kept HK0.out)
  go_region_held3 (fun w' => (w'.cell? ⟨B, 0, none⟩ = some (.slice aR c.ranks.length cR) ∧ w'.cell? ⟨B, 1, none⟩ = some (.slice aO c.order.length cO) ∧ w'.cell? ⟨B, 2, none⟩ = some (.string (bs c.ignore))) ∧ B < w'.heap.size ∧ Kept w0 w')
    ((refine HCC.out _ ?_; assumption))
    (first
      | (go_at_call_of 45 (Value.string (bs b)); refine (HKB.out _ (HV0.out.kept kA)).mono ?_; rintro e w4 ⟨vB, rfl, hiB, hk4⟩; have kB : Kept w0 w4 := kA.trans hk4; have HIA2 := Lib.hid (HIA.out.kept hk4); have HIB2 := Lib.hid hiB; obtain ⟨aB, cB, rfl, lB⟩ := hiB.form; clear hk4 hiB)
      | (go_at_call_of 45 (Value.string (bs a)); refine (HKA.out _ (HV0.out.kept hkd)).mono ?_; rintro e w3 ⟨vA, rfl, hiA, hk3⟩; have kA : Kept w0 w3 := hkd.trans hk3; have HIA := Lib.hid hiA; obtain ⟨aA, cA, rfl, lA⟩ := hiA.form; clear hk3 hiA))
  all_goals
    have HKZ := Lib.hid (HK0.out.trans kB)
    clear HCC kA kB t0 t1 t2 z0 hkd HIA HB0 HV HV0 HKA HKB
    obtain ⟨D, HD⟩ : ∃ D, Hid (cmpI x y = D) := ⟨_, rfl⟩
    rw [HD.out] at HE
    go_wp2_with fail
    go_loopw [9] (fun i wr => ∃ k : Nat, k ≤ x.length ∧ k ≤ y.length ∧ i = .int .i64 k ∧ Hid (cmpI (x.drop k) (y.drop k) = D) ∧ Hid (Kept w4 wr)) (fun i _ => x.length - (intOf i).toNat)
    case atStart => exact ⟨0, Nat.zero_le _, Nat.zero_le _, rfl, HD.out, Kept.refl _⟩
    case round =>
      obtain ⟨k, hk, hk2, rfl, HA, HKR⟩ := hrel
      by_cases hlt : k < x.length
      · obtain ⟨p, hp⟩ : ∃ z, x[k]? = some z := ⟨_, List.getElem?_eq_getElem hlt⟩
        obtain ⟨g, o, rfl, hg, d0⟩ := (HIA2.out.kept HKR.out).cell_of k p hp
        by_cases hlt2 : k < y.length
        · obtain ⟨q, hq⟩ : ∃ z, y[k]? = some z := ⟨_, List.getElem?_eq_getElem hlt2⟩
          obtain ⟨g2, o2, rfl, hg2, d1⟩ := (HIB2.out.kept HKR.out).cell_of k q hq
          have HS : Hid (D = if p < q then -1 else if q < p then 1 else cmpI (x.drop (k + 1)) (y.drop (k + 1))) := by
            show _ = _
            rw [← HA.out, HAT.out k hlt hlt2]
            obtain ⟨_, rfl⟩ := List.getElem?_eq_some_iff.1 hp
            obtain ⟨_, rfl⟩ := List.getElem?_eq_some_iff.1 hq
            rfl
          clear hp hq
          by_cases h1 : p < q
          · rw [if_pos h1] at HS
            have HR : Hid (R = -1) := by show _ = _; rw [HE.out, HS.out, if_pos (by decide)]
            go_wp2_with fail
            go_region
            all_goals
              go_wp2_with fail
              go_ret
              exact ⟨ret_int HR.out.symm, HKZ.out.trans (HKR.out.trans (kept_drewN _ _))⟩
          · rw [if_neg h1] at HS
            have hd1 := fun n => (((kept_drewN wr n).cell (p := ⟨g, o + k, none⟩) hg).trans d0 : (wr.drewN n).cell? ⟨g, o + k, none⟩ = some (.int .i64 p))
            have hd2 := fun n => (((kept_drewN wr n).cell (p := ⟨g2, o2 + k, none⟩) hg2).trans d1 : (wr.drewN n).cell? ⟨g2, o2 + k, none⟩ = some (.int .i64 q))
            by_cases h2 : q < p
            · rw [if_pos h2] at HS
              have HR : Hid (R = 1) := by show _ = _; rw [HE.out, HS.out, if_pos (by decide)]
              go_wp2_with fail
              go_region
              all_goals
                go_wp2_with fail
                go_region
                all_goals
                  go_wp2_with fail
                  go_ret
                  exact ⟨ret_int HR.out.symm, HKZ.out.trans ((HKR.out.trans (kept_drewN _ _)).trans (kept_drewN _ _))⟩
            · rw [if_neg h2] at HS
              go_wp2_with fail
              go_region
              all_goals
                go_wp2_with fail
                go_region
                all_goals
                  go_wp2_with fail
                  go_roundw
                  case rel => exact ⟨k + 1, by omega, by omega, by go_num, HS.out.symm, (HKR.out.trans (kept_drewN _ _)).trans (kept_drewN _ _)⟩
                  case measure => simp [intOf]; omega
        · have HS : Hid (D = 1) := by
            show _ = _
            rw [← HA.out, HEN.out k hk hk2 (fun q => hlt2 q.2), if_neg (by omega), if_pos (by omega)]
          have HR : Hid (R = 1) := by show _ = _; rw [HE.out, HS.out, if_pos (by decide)]
          have h1 : ¬ x.length < y.length := by omega
          have h2 : ((x.length : Int) == y.length) = false := by rw [beq_eq_false_iff_ne]; omega
          have h3 : y.length < x.length := by omega
          clear hp
          go_wp2_with fail
          go_ret
          exact ⟨ret_int HR.out.symm, HKZ.out.trans HKR.out⟩
      · have HS : Hid (D = if x.length < y.length then -1 else 0) := by
          show _ = _
          rw [← HA.out, HEN.out k hk hk2 (fun q => hlt q.1)]
          by_cases q : x.length < y.length
          · rw [if_pos q, if_pos q]
          · rw [if_neg q, if_neg q, if_neg (by omega)]
        by_cases h1 : x.length < y.length
        · rw [if_pos h1] at HS
          have HR : Hid (R = -1) := by show _ = _; rw [HE.out, HS.out, if_pos (by decide)]
          go_wp2_with fail
          go_ret
          exact ⟨ret_int HR.out.symm, HKZ.out.trans HKR.out⟩
        · rw [if_neg h1] at HS
          have HR : Hid (R = S) := by show _ = _; rw [HE.out, HS.out, if_neg (by simp)]
          have h2 : ((x.length : Int) == y.length) = true := by rw [beq_iff_eq]; omega
          have h3 : ¬ y.length < x.length := by omega
          have HRG2 : Hid (S = -1 ∨ S = 0 ∨ S = 1) := HRG.out
          clear HE HS
          rcases HRG2.out with h | h | h
          all_goals
            subst h
            have hl1 := HL1.out
            have hl2 := HL2.out
            simp only [show decide ((-1 : Int) < 0) = true from rfl, show decide ((0 : Int) < 0) = false from rfl, show decide ((1 : Int) < 0) = false from rfl] at hl1
            simp only [show decide ((-1 : Int) = 0) = false from rfl, show decide ((0 : Int) = 0) = true from rfl, show decide ((1 : Int) = 0) = false from rfl] at hl2
            have hl3 := (show Op.bytesLess (bs a).toList (bs b).toList = Op.bytesLess a b by rw [bs_toList, bs_toList]).trans hl1
            have hl4 := (show ((bs a).toList == (bs b).toList) = (a == b) by rw [bs_toList, bs_toList]).trans hl2
            clear HL1 HL2
            go_wp2_with fail
            go_ret
            exact ⟨ret_int HR.out.symm, HKZ.out.trans HKR.out⟩
end Go.Proofs.YtpfbdgcgpghifaaGreatDoor

/- The law CollateCompares answers true of every collation and three texts. Conditions: lengths that a machine can tell. -/
set_option linter.all false
namespace Go.Proofs.YtpfbdgcgpghifaaGreatDoor
open Go.RowKit

set_option maxRecDepth 100000 in
set_option maxHeartbeats 12800000 in
theorem lccomp_any (vR vO : Value) (c : ColT) (x y z : Bs) (w : World) (hg : Gnd w) (hv : Col w vR vO c) (hf : FitC c) (hx : x.length ≤ maxLen) (hy : y.length ≤ maxLen) (hz : z.length ≤ maxLen) :
    Calls Tryz.prog 3 #[colV vR vO c.ignore, .agg #[.string (bs x), .string (bs y), .string (bs z)]] w fun e w' => e = .returned (.bool true) ∧ Kept w w' := by
  have HG := Lib.hid hg
  have HV := Lib.hid hv
  have HL := Lib.hid (fun w h => light_any vR vO c w h hf)
  have HAW : Hid (∀ w', Kept w w' → Calls Tryz.prog 13 #[] w' fun e w2 => e = .returned (.bool true) ∧ Kept w' w2) := fun w' h => cawake_any w' (HG.out.kept h)
  have HC1 := Lib.hid (fun a b w h hs (ha : a.length ≤ 1000) (hb : b.length ≤ 1000) => compare_any vR vO c a b w h hs ha hb)
  have HC2 := Lib.hid (fun a b w h hs (ha : a.length ≤ 1000) (hb : b.length ≤ 1000) => rcompare_any vR vO c a b w h hs ha hb)
  have HX := Lib.hid (cmpC_range c x y)
  have HXZ := Lib.hid (cmpC_zero c x y)
  have HN := Lib.hid (cmpC_neg c x y)
  have HT := Lib.hid (cmpC_trans c x y z)
  obtain ⟨⟨aR, cR, rfl, -⟩, ⟨aO, cO, rfl, -⟩⟩ := hv
  clear hf hg
  unfold maxLen at hx hy hz
  go_enter Tryz.func3, Tryz.ntmps3
  go_wp2_with fail
  have HB0 : Hid (Blk ((w.alloc (.cells #[.slice aR c.ranks.length cR, .slice aO c.order.length cO, .string (bs c.ignore)] 25)).alloc (.cells #[.string (bs x), .string (bs y), .string (bs z)] 26)) w.heap.size 25 #[.slice aR c.ranks.length cR, .slice aO c.order.length cO, .string (bs c.ignore)]) := (Blk.new w 25 #[.slice aR c.ranks.length cR, .slice aO c.order.length cO, .string (bs c.ignore)]).alloc _
  have HA0 : Hid (Blk ((w.alloc (.cells #[.slice aR c.ranks.length cR, .slice aO c.order.length cO, .string (bs c.ignore)] 25)).alloc (.cells #[.string (bs x), .string (bs y), .string (bs z)] 26)) (w.heap.size + 1) 26 #[.string (bs x), .string (bs y), .string (bs z)]) := by
    have h := Blk.new (w.alloc (.cells #[.slice aR c.ranks.length cR, .slice aO c.order.length cO, .string (bs c.ignore)] 25)) 26 #[.string (bs x), .string (bs y), .string (bs z)]
    show Blk _ _ _ _
    simpa using h
  have HK0 := Lib.hid ((kept_alloc w (.cells #[.slice aR c.ranks.length cR, .slice aO c.order.length cO, .string (bs c.ignore)] 25)).trans (kept_alloc (w.alloc (.cells #[.slice aR c.ranks.length cR, .slice aO c.order.length cO, .string (bs c.ignore)] 25)) (.cells #[.string (bs x), .string (bs y), .string (bs z)] 26)))
  generalize (w.alloc (.cells #[.slice aR c.ranks.length cR, .slice aO c.order.length cO, .string (bs c.ignore)] 25)).alloc (.cells #[.string (bs x), .string (bs y), .string (bs z)] 26) = w0 at *
  generalize w.heap.size = B at *
  refine (HL.out _ (HV.out.kept HK0.out)).mono ?_
  rintro e w1 ⟨⟨b, rfl, hs⟩, hk1⟩
  have HS := Lib.hid hs
  have HK1 := Lib.hid (HK0.out.trans hk1)
  have HB1 := Lib.hid (HB0.out.kept hk1)
  have HA1 := Lib.hid (HA0.out.kept hk1)
  clear hs hk1 HK0 HB0 HA0 HL
  have HCC : Hid (∀ w', Kept w1 w' → (w'.cell? ⟨B, 0, none⟩ = some (.slice aR c.ranks.length cR) ∧ w'.cell? ⟨B, 1, none⟩ = some (.slice aO c.order.length cO) ∧ w'.cell? ⟨B, 2, none⟩ = some (.string (bs c.ignore)) ∧ w'.cell? ⟨B + 1, 0, none⟩ = some (.string (bs x)) ∧ w'.cell? ⟨B + 1, 1, none⟩ = some (.string (bs y)) ∧ w'.cell? ⟨B + 1, 2, none⟩ = some (.string (bs z))) ∧ (B < w'.heap.size ∧ B + 1 < w'.heap.size) ∧ Kept w1 w') := fun w' h =>
    ⟨⟨(HB1.out.kept h).cell 0 _ rfl, (HB1.out.kept h).cell 1 _ rfl, (HB1.out.kept h).cell 2 _ rfl, (HA1.out.kept h).cell 0 _ rfl, (HA1.out.kept h).cell 1 _ rfl, (HA1.out.kept h).cell 2 _ rfl⟩, ⟨(HB1.out.kept h).lt, (HA1.out.kept h).lt⟩, h⟩
  obtain ⟨⟨t0, t1, t2, t3, t4, t5⟩, ⟨z0, z1⟩, -⟩ := HCC.out w1 (Kept.refl _)
  cases b with
  | false =>
    go_wp2_with fail
    refine (HAW.out _ HK1.out).mono ?_
    rintro e w2 ⟨rfl, hk⟩
    have HK2 := Lib.hid (HK1.out.trans hk)
    clear hk
    go_wp2_with fail
    go_ret
    exact ⟨rfl, HK2.out⟩
  | true =>
    have HSM := Lib.hid (HS.out rfl)
    by_cases hx2 : 100 < x.length
    · go_wp2_with fail
      refine (HAW.out _ HK1.out).mono ?_
      rintro e w2 ⟨rfl, hk⟩
      have HK2 := Lib.hid (HK1.out.trans hk)
      clear hk
      go_wp2_with fail
      go_ret
      exact ⟨rfl, HK2.out⟩
    by_cases hy2 : 100 < y.length
    · go_wp2_with fail
      refine (HAW.out _ HK1.out).mono ?_
      rintro e w2 ⟨rfl, hk⟩
      have HK2 := Lib.hid (HK1.out.trans hk)
      clear hk
      go_wp2_with fail
      go_ret
      exact ⟨rfl, HK2.out⟩
    by_cases hz2 : 100 < z.length
    · go_wp2_with fail
      refine (HAW.out _ HK1.out).mono ?_
      rintro e w2 ⟨rfl, hk⟩
      have HK2 := Lib.hid (HK1.out.trans hk)
      clear hk
      go_wp2_with fail
      go_ret
      exact ⟨rfl, HK2.out⟩
    have HV1 := Lib.hid (HV.out.kept HK1.out)
    have hkd : Kept w1 w1.drew := kept_drewN w1 1
    have HC12 := Lib.hid (fun w h => HC1.out x y w h HSM.out (by omega) (by omega))
    have HC23 := Lib.hid (fun w h => HC1.out y z w h HSM.out (by omega) (by omega))
    have HC13 := Lib.hid (fun w h => HC1.out x z w h HSM.out (by omega) (by omega))
    have HC21 := Lib.hid (fun w h => HC1.out y x w h HSM.out (by omega) (by omega))
    have HD12 := Lib.hid (fun w h => HC2.out x y w h HSM.out (by omega) (by omega))
    have HD23 := Lib.hid (fun w h => HC2.out y z w h HSM.out (by omega) (by omega))
    have HD13 := Lib.hid (fun w h => HC2.out x z w h HSM.out (by omega) (by omega))
    rw [HN.out] at HC21
    clear HS HB1 HA1 HV HC1 HC2 HN
    generalize cmpC c x y = X at *
    generalize cmpC c y z = Y at *
    generalize cmpC c x z = Z at *
    go_wp2_with fail
    go_region_held3 (fun w' => (w'.cell? ⟨B, 0, none⟩ = some (.slice aR c.ranks.length cR) ∧ w'.cell? ⟨B, 1, none⟩ = some (.slice aO c.order.length cO) ∧ w'.cell? ⟨B, 2, none⟩ = some (.string (bs c.ignore)) ∧ w'.cell? ⟨B + 1, 0, none⟩ = some (.string (bs x)) ∧ w'.cell? ⟨B + 1, 1, none⟩ = some (.string (bs y)) ∧ w'.cell? ⟨B + 1, 2, none⟩ = some (.string (bs z))) ∧ (B < w'.heap.size ∧ B + 1 < w'.heap.size) ∧ Kept w1 w')
      ((refine HCC.out _ ?_; assumption))
      (first
        | (go_at_call 14; first | (refine (HC13.out _ (HV1.out.kept k2)).mono ?_; rintro e w4 ⟨rfl, hk⟩; have k3 : Kept w1 w4 := k2.trans hk; clear hk) | (refine (HC23.out _ (HV1.out.kept k1)).mono ?_; rintro e w3 ⟨rfl, hk⟩; have k2 : Kept w1 w3 := k1.trans hk; clear hk) | (refine (HC12.out _ (HV1.out.kept hkd)).mono ?_; rintro e w2 ⟨rfl, hk⟩; have k1 : Kept w1 w2 := hkd.trans hk; clear hk)))
    all_goals
      obtain ⟨⟨t0, t1, t2, t3, t4, t5⟩, ⟨z0, z1⟩, -⟩ := HCC.out _ k3
      go_wp2_with fail
      refine (HD12.out _ (HV1.out.kept k3)).mono ?_
      rintro e w5 ⟨rfl, hk⟩
      have k4 : Kept w1 w5 := k3.trans hk
      obtain ⟨⟨t0, t1, t2, t3, t4, t5⟩, ⟨z0, z1⟩, -⟩ := HCC.out _ k4
      clear hk
      go_wp2_with fail
      refine (HD23.out _ (HV1.out.kept k4)).mono ?_
      rintro e w6 ⟨rfl, hk⟩
      have k5 : Kept w1 w6 := k4.trans hk
      obtain ⟨⟨t0, t1, t2, t3, t4, t5⟩, ⟨z0, z1⟩, -⟩ := HCC.out _ k5
      clear hk
      go_wp2_with fail
      refine (HD13.out _ (HV1.out.kept k5)).mono ?_
      rintro e w7 ⟨rfl, hk⟩
      have k6 : Kept w1 w7 := k5.trans hk
      obtain ⟨⟨t0, t1, t2, t3, t4, t5⟩, ⟨z0, z1⟩, -⟩ := HCC.out _ k6
      clear hk
      go_wp2_with fail
      refine (HC21.out _ (HV1.out.kept k6)).mono ?_
      rintro e w8 ⟨rfl, hk⟩
      have k7 : Kept w1 w8 := k6.trans hk
      obtain ⟨⟨t0, t1, t2, t3, t4, t5⟩, ⟨z0, z1⟩, -⟩ := HCC.out _ k7
      clear hk HCC HD12 HD23 HD13 HC12 HC23 HC13 HC21 hkd
      rcases HX.out with h | h | h
      · subst h
        have hne : (x == y) = false := by
          rw [beq_eq_false_iff_ne]
          intro q
          have := HXZ.out.2 q
          omega
        by_cases hY : 0 < Y
        · go_wp2_with fail
          refine (HAW.out _ (HK1.out.trans k7)).mono ?_
          rintro e w9 ⟨rfl, hk⟩
          have HK9 := Lib.hid ((HK1.out.trans k7).trans hk)
          clear hk
          go_wp2_with fail
          go_ret
          exact ⟨rfl, HK9.out⟩
        · have hZ : Z ≤ 0 := HT.out (by omega) (by omega)
          go_wp2_with fail
          refine (HAW.out _ (HK1.out.trans k7)).mono ?_
          rintro e w9 ⟨rfl, hk⟩
          have HK9 := Lib.hid ((HK1.out.trans k7).trans hk)
          clear hk
          go_wp2_with fail
          go_ret
          exact ⟨rfl, HK9.out⟩
      · have hxy : x = y := HXZ.out.1 h
        subst h
        subst hxy
        by_cases hY : 0 < Y
        · go_wp2_with fail
          refine (HAW.out _ (HK1.out.trans k7)).mono ?_
          rintro e w9 ⟨rfl, hk⟩
          have HK9 := Lib.hid ((HK1.out.trans k7).trans hk)
          clear hk
          go_wp2_with fail
          go_ret
          exact ⟨rfl, HK9.out⟩
        · have hZ : Z ≤ 0 := HT.out (by omega) (by omega)
          go_wp2_with fail
          refine (HAW.out _ (HK1.out.trans k7)).mono ?_
          rintro e w9 ⟨rfl, hk⟩
          have HK9 := Lib.hid ((HK1.out.trans k7).trans hk)
          clear hk
          go_wp2_with fail
          go_ret
          exact ⟨rfl, HK9.out⟩
      · subst h
        have hne : (x == y) = false := by
          rw [beq_eq_false_iff_ne]
          intro q
          have := HXZ.out.2 q
          omega
        go_wp2_with fail
        refine (HAW.out _ (HK1.out.trans k7)).mono ?_
        rintro e w9 ⟨rfl, hk⟩
        have HK9 := Lib.hid ((HK1.out.trans k7).trans hk)
        clear hk
        go_wp2_with fail
        go_ret
        exact ⟨rfl, HK9.out⟩
end Go.Proofs.YtpfbdgcgpghifaaGreatDoor
