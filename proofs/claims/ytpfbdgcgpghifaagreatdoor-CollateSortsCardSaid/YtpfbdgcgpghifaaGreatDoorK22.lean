/- slices.Compare at whole numbers; Compare of collate. Conditions: lengths. -/
import Derived.Test.YtpfbdgcgpghifaaGreatDoorK20
import Derived.Test.YtpfbdgcgpghifaaGreatDoorK21

set_option linter.all false
namespace Go.Proofs.YtpfbdgcgpghifaaGreatDoor
open Go.RowKit

set_option maxRecDepth 100000 in
set_option maxHeartbeats 3200000 in
theorem slcmp_any (v u : Value) (x y : List Int) (w : World) (hv : Ints w v x) (hu : Ints w u y) (hx : x.length ≤ 10000000) (hy : y.length ≤ 10000000) :
    Calls Tryz.prog 42 #[v, u] w fun e w' => e = .returned (.int .i64 (cmpI x y)) ∧ w = w' := by
  have HV := Lib.hid hv
  have HU := Lib.hid hu
  obtain ⟨a, c, rfl, hc⟩ := hv.form
  obtain ⟨b, d, rfl, hd⟩ := hu.form
  clear hv hu
  have HAT := Lib.hid (cmpI_at x y)
  have HEN := Lib.hid (cmpI_end x y)
  obtain ⟨R, HR⟩ : ∃ R, Hid (cmpI x y = R) := ⟨_, rfl⟩
  rw [HR.out]
  go_enter Tryz.func42, Tryz.ntmps42
  go_wp2_with fail
  go_loop [11] (fun i => ∃ k : Nat, k ≤ x.length ∧ k ≤ y.length ∧ i = .int .i64 k ∧ Hid (cmpI (x.drop k) (y.drop k) = R)) (fun i => x.length - (intOf i).toNat)
  case atStart => exact ⟨0, Nat.zero_le _, Nat.zero_le _, rfl, HR.out⟩
  case round =>
    obtain ⟨k, hk, hk2, rfl, HA⟩ := hrel
    by_cases hlt : k < x.length
    · obtain ⟨p, hp⟩ : ∃ z, x[k]? = some z := ⟨_, List.getElem?_eq_getElem hlt⟩
      obtain ⟨g, o, rfl, hg, d0⟩ := HV.out.cell_of k p hp
      by_cases hlt2 : k < y.length
      · obtain ⟨q, hq⟩ : ∃ z, y[k]? = some z := ⟨_, List.getElem?_eq_getElem hlt2⟩
        obtain ⟨g2, o2, rfl, hg2, d1⟩ := HU.out.cell_of k q hq
        have HS : Hid (R = if p < q then -1 else if q < p then 1 else cmpI (x.drop (k + 1)) (y.drop (k + 1))) := by
          show _ = _
          rw [← HA.out, HAT.out k hlt hlt2]
          obtain ⟨_, rfl⟩ := List.getElem?_eq_some_iff.1 hp
          obtain ⟨_, rfl⟩ := List.getElem?_eq_some_iff.1 hq
          rfl
        have HC := Lib.hid (fun w => Tryz.cmp_Compare_int p q w)
        unfold Lib.compareInt at HC
        clear hp hq
        by_cases h1 : p < q
        · rw [if_pos h1] at HS HC
          go_wp2_with fail
          refine (HC.out _).mono ?_
          rintro e w' ⟨rfl, rfl⟩
          go_wp2_with fail
          go_ret
          exact ⟨ret_int HS.out.symm, rfl⟩
        rw [if_neg h1] at HS HC
        by_cases h2 : q < p
        · rw [if_pos h2] at HS HC
          go_wp2_with fail
          refine (HC.out _).mono ?_
          rintro e w' ⟨rfl, rfl⟩
          go_wp2_with fail
          go_ret
          exact ⟨ret_int HS.out.symm, rfl⟩
        rw [if_neg h2] at HS
        rw [if_neg (show ¬ p > q from h2)] at HC
        go_wp2_with fail
        refine (HC.out _).mono ?_
        rintro e w' ⟨rfl, rfl⟩
        go_wp2_with fail
        go_round
        case rel => exact ⟨k + 1, by omega, by omega, by go_num, HS.out.symm⟩
        case measure => simp [intOf]; omega
      · have HS : Hid (R = 1) := by
          show _ = _
          rw [← HA.out, HEN.out k hk hk2 (fun q => hlt2 q.2), if_neg (by omega), if_pos (by omega)]
        clear hp
        go_wp2_with fail
        go_ret
        exact ⟨ret_int HS.out.symm, rfl⟩
    · have HS : Hid (R = if x.length < y.length then -1 else 0) := by
        show _ = _
        rw [← HA.out, HEN.out k hk hk2 (fun q => hlt q.1)]
        by_cases q : x.length < y.length
        · rw [if_pos q, if_pos q]
        · rw [if_neg q, if_neg q, if_neg (by omega)]
      by_cases h1 : x.length < y.length
      · rw [if_pos h1] at HS
        go_wp2_with fail
        go_ret
        exact ⟨ret_int HS.out.symm, rfl⟩
      · rw [if_neg h1] at HS
        go_wp2_with fail
        go_ret
        exact ⟨ret_int HS.out.symm, rfl⟩
theorem keyI_len {c : ColT} (hs : SmallC c) (s : Bs) : (keyI c s).length ≤ 1000 * s.length := by
  have h1 : ∀ x, (keyI1 c x).length ≤ 1000 := fun x => by
    unfold keyI1
    split
    · simp
    · split
      · rename_i v hv
        have := val_len hs hv
        simpa using this
      · simp
  have h2 : ∀ xs : List Int, (xs.flatMap (keyI1 c)).length ≤ 1000 * xs.length := by
    intro xs
    induction xs with
    | nil => simp
    | cons x xs ih =>
      have := h1 x
      rw [List.flatMap_cons, List.length_append, List.length_cons]; omega
  have h3 := h2 (ptsL s)
  have h4 := ptsL_len s
  unfold keyI; omega
theorem cmpC_lib (c : ColT) (a b : Bs) : cmpC c a b = if cmpI (keyI c a) (keyI c b) ≠ 0 then cmpI (keyI c a) (keyI c b) else Lib.compareBytes a b := by
  rw [cmpB_lib]; rfl
set_option maxRecDepth 100000 in
set_option maxHeartbeats 6400000 in
theorem compare_any (vR vO : Value) (c : ColT) (a b : Bs) (w : World) (hv : Col w vR vO c) (hs : SmallC c) (ha : a.length ≤ 1000) (hb : b.length ≤ 1000) :
    Calls Tryz.prog 14 #[colV vR vO c.ignore, .string (bs a), .string (bs b)] w fun e w' => e = .returned (.int .i64 (cmpC c a b)) ∧ Kept w w' := by
  have HV := Lib.hid hv
  have HT := Lib.hid (fun w h => tables_any vR vO c w h hs)
  have HKA := Lib.hid (fun v w h => key_any v c a w h hs ha)
  have HKB := Lib.hid (fun v w h => key_any v c b w h hs hb)
  have hla := keyI_len hs a
  have hlb := keyI_len hs b
  have HE := Lib.hid (cmpC_lib c a b)
  have HEQ := Lib.hid (fun h : a = b => (show cmpC c a b = 0 from (cmpC_zero c a b).2 h))
  have HSC := Lib.hid (fun w => Tryz.strings_Compare (bs a) (bs b) w)
  simp only [bs_data] at HSC
  obtain ⟨aR, cR, rfl, lR⟩ := hv.1.form
  obtain ⟨aO, cO, rfl, lO⟩ := hv.2.form
  clear hv
  have HK0 := Lib.hid (kept_alloc w (.cells #[.slice aR c.ranks.length cR, .slice aO c.order.length cO, .string (bs c.ignore)] 25))
  generalize cmpC c a b = R at *
  generalize keyI c a = ka at *
  generalize keyI c b = kb at *
  generalize Lib.compareBytes a b = S at *
  unfold IntsP at HKA HKB
  by_cases hab : a = b
  · have HR := Lib.hid (HEQ.out hab)
    subst hab
    go_enter Tryz.func14, Tryz.ntmps14
    go_wp2_with fail
    go_ret
    exact ⟨ret_int HR.out.symm, HK0.out⟩
  have hab' : (a == b) = false := by simpa using hab
  go_enter Tryz.func14, Tryz.ntmps14
  go_wp2_with fail
  refine (HT.out _ (HV.out.kept HK0.out)).mono ?_
  rintro e w1 ⟨v1, rfl, ht1, hk1⟩
  have HT1 := Lib.hid ht1
  have HK1 := Lib.hid (HK0.out.trans hk1)
  obtain ⟨m1, m2, m3, es, rfl, _, _, _, _⟩ := ht1
  clear hk1
  have HB1 := Lib.hid (Blk.new w1 72 #[.map (some m1), .map (some m2), .map (some m3), .int .i64 c.order.length])
  have HK2 := Lib.hid (HK1.out.trans (kept_alloc w1 (.cells #[.map (some m1), .map (some m2), .map (some m3), .int .i64 c.order.length] 72)))
  have HT2 := Lib.hid (HT1.out.kept (kept_alloc w1 (.cells #[.map (some m1), .map (some m2), .map (some m3), .int .i64 c.order.length] 72)))
  go_wp2_with fail
  generalize w1.alloc (.cells #[.map (some m1), .map (some m2), .map (some m3), .int .i64 c.order.length] 72) = w2 at *
  generalize w1.heap.size = B at *
  have t0 : w2.cell? ⟨B, 0, none⟩ = some (.map (some m1)) := HB1.out.cell 0 _ rfl
  have t1 : w2.cell? ⟨B, 1, none⟩ = some (.map (some m2)) := HB1.out.cell 1 _ rfl
  have t2 : w2.cell? ⟨B, 2, none⟩ = some (.map (some m3)) := HB1.out.cell 2 _ rfl
  have t3 : w2.cell? ⟨B, 3, none⟩ = some (.int .i64 c.order.length) := HB1.out.cell 3 _ rfl
  have zt := HB1.out.lt
  have HCC : Hid (∀ w', Kept w2 w' → (w'.cell? ⟨B, 0, none⟩ = some (.map (some m1)) ∧ w'.cell? ⟨B, 1, none⟩ = some (.map (some m2)) ∧ w'.cell? ⟨B, 2, none⟩ = some (.map (some m3)) ∧ w'.cell? ⟨B, 3, none⟩ = some (.int .i64 c.order.length)) ∧ B < w'.heap.size ∧ Kept w2 w') := fun w' h =>
    ⟨⟨(h.cell (p := ⟨B, 0, none⟩) zt).trans t0, (h.cell (p := ⟨B, 1, none⟩) zt).trans t1, (h.cell (p := ⟨B, 2, none⟩) zt).trans t2, (h.cell (p := ⟨B, 3, none⟩) zt).trans t3⟩, Nat.lt_of_lt_of_le zt h.size, h⟩
  have hkd : Kept w2 w2.drew := kept_drewN w2 1
  have HCMP := Lib.hid (fun v u w (h1 : Ints w v ka) (h2 : Ints w u kb) => slcmp_any v u ka kb w h1 h2 (by omega) (by omega))
  go_region_held3 (fun w' => (w'.cell? ⟨B, 0, none⟩ = some (.map (some m1)) ∧ w'.cell? ⟨B, 1, none⟩ = some (.map (some m2)) ∧ w'.cell? ⟨B, 2, none⟩ = some (.map (some m3)) ∧ w'.cell? ⟨B, 3, none⟩ = some (.int .i64 c.order.length)) ∧ B < w'.heap.size ∧ Kept w2 w')
    ((refine HCC.out _ ?_; assumption))
    (first
      | (go_at_call 42; refine (HCMP.out _ _ _ HIA2.out HIB2.out).mono ?_; rintro e w5 ⟨rfl, rfl⟩)
      | (go_at_call_of 43 (Value.string (bs b)); refine (HKB.out _ _ (HT2.out.kept kA)).mono ?_; rintro e w4 ⟨vB, rfl, hiB, hk4⟩; have kB : Kept w2 w4 := kA.trans hk4; have HIA2 := Lib.hid (HIA.out.kept hk4); have HIB2 := Lib.hid hiB; obtain ⟨aB, cB, rfl, lB⟩ := hiB.form; clear hk4 hiB)
      | (go_at_call_of 43 (Value.string (bs a)); refine (HKA.out _ _ (HT2.out.kept hkd)).mono ?_; rintro e w3 ⟨vA, rfl, hiA, hk3⟩; have kA : Kept w2 w3 := hkd.trans hk3; have HIA := Lib.hid hiA; obtain ⟨aA, cA, rfl, lA⟩ := hiA.form; clear hk3 hiA))
  all_goals
    have HKZ := Lib.hid (HK2.out.trans kB)
    clear HCC kA kB HIA2 HIB2
    generalize cmpI ka kb = D at *
    by_cases hD : D = 0
    · subst hD
      rw [if_neg (by simp)] at HE
      go_wp2_with fail
      refine (HSC.out _).mono ?_
      rintro e w6 ⟨rfl, rfl⟩
      go_wp2_with fail
      go_ret
      exact ⟨ret_int HE.out.symm, HKZ.out⟩
    · rw [if_pos hD] at HE
      have hD' : (D == 0) = false := by simpa using hD
      go_wp2_with fail
      go_ret
      exact ⟨ret_int HE.out.symm, HKZ.out⟩
end Go.Proofs.YtpfbdgcgpghifaaGreatDoor

/- law25's ints at equal lists; fresh lists of whole numbers. Conditions: lengths. -/
set_option linter.all false
namespace Go.Proofs.YtpfbdgcgpghifaaGreatDoor
open Go.RowKit

def intCells (xs : List Int) : List Value := xs.map fun x => .int .i64 x
theorem ints_made (w : World) (xs : List Int) : Ints (w.alloc (.cells (intCells xs).toArray 3)) (.slice (some ⟨w.heap.size, 0, none⟩) xs.length xs.length) xs := by
  refine ⟨_, _, rfl, Nat.le_refl _, fun _ => ⟨w.heap.size, 0, rfl, by simp, fun j x hx => ?_⟩⟩
  have hb := Blk.new w 3 (intCells xs).toArray
  refine hb.cell (0 + j) _ ?_
  rw [Nat.zero_add, List.getElem?_toArray]
  unfold intCells
  rw [List.getElem?_map, hx]; rfl
set_option maxRecDepth 100000 in
set_option maxHeartbeats 3200000 in
theorem ints_eq (v u : Value) (x : List Int) (w : World) (hv : Ints w v x) (hu : Ints w u x) (hx : x.length ≤ 10000000) :
    Calls Tryz.prog 17 #[v, u] w fun e w' => e = .returned (.bool true) ∧ Kept w w' := by
  have HV := Lib.hid hv
  have HU := Lib.hid hu
  obtain ⟨a, c, rfl, hc⟩ := hv.form
  obtain ⟨b, d, rfl, hd⟩ := hu.form
  clear hv hu
  go_enter Tryz.func17, Tryz.ntmps17
  go_wp2_with fail
  go_loopw [5] (fun i wr => ∃ k : Nat, k ≤ x.length ∧ i = .int .i64 k ∧ Hid (Kept w wr)) (fun i _ => x.length - (intOf i).toNat)
  case atStart => exact ⟨0, Nat.zero_le _, rfl, Kept.refl _⟩
  case round =>
    obtain ⟨k, hk, rfl, HKR⟩ := hrel
    by_cases hlt : k < x.length
    · obtain ⟨p, hp⟩ : ∃ z, x[k]? = some z := ⟨_, List.getElem?_eq_getElem hlt⟩
      obtain ⟨g, o, rfl, hg, d0⟩ := (HV.out.kept HKR.out).cell_of k p hp
      obtain ⟨g2, o2, rfl, hg2, d1⟩ := (HU.out.kept HKR.out).cell_of k p hp
      clear hp
      go_wp2_with fail
      go_region
      all_goals
        go_wp2_with fail
        go_roundw
        case rel => exact ⟨k + 1, by omega, by go_num, HKR.out.trans (kept_drewN _ _)⟩
        case measure => simp [intOf]; omega
    · go_wp2_with fail
      go_ret
      exact ⟨rfl, HKR.out⟩
end Go.Proofs.YtpfbdgcgpghifaaGreatDoor
