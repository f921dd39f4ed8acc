/- begins and decimal of publisherref31. Conditions: lengths. -/
import Derived.Test.YtafcngdnngpdnaaGreatDoorK28
import Derived.Test.YtafcngdnngpdnaaGreatDoorK18
import Derived.Test.YtafcngdnngpdnaaGreatDoorK17
import Derived.Deep.RegionHeld3

set_option linter.all false
namespace Go.Proofs.YtafcngdnngpdnaaGreatDoor
open Go.RowKit

theorem cutP_take (h l : Bs) : cutP h l = if h.length ≤ l.length ∧ (l.take h.length == h) = true then some (l.drop h.length) else none := by
  unfold cutP
  by_cases q : h.isPrefixOf l = true
  · rw [if_pos q]
    rw [List.isPrefixOf_iff_prefix] at q
    rw [if_pos ⟨q.length_le, by rw [beq_iff_eq, List.prefix_iff_eq_take.1 q |>.symm]⟩]
  · rw [if_neg q, if_neg]
    rintro ⟨h1, h2⟩
    refine q ?_
    rw [List.isPrefixOf_iff_prefix, List.prefix_iff_eq_take]
    exact (beq_iff_eq.1 h2).symm
set_option maxRecDepth 100000 in
set_option maxHeartbeats 1600000 in
theorem rbegins_any (l h : Bs) (w : World) (hl : l.length ≤ 9223372036854775807) (hh : h.length ≤ 9223372036854775807) : Calls Tryz.prog 27 #[.string (bs l), .string (bs h)] w fun e w' => e = .returned (.tuple #[.string (bs ((cutP h l).getD [])), .bool (cutP h l).isSome]) ∧ w = w' := by
  have HC := Lib.hid (cutP_take h l)
  generalize cutP h l = R at *
  by_cases h1 : l.length < h.length
  · have HR : Hid (R = none) := by show _ = _; rw [HC.out, if_neg (fun q => by omega)]
    rw [HR.out]
    go_enter Tryz.func27, Tryz.ntmps27
    go_wp2_with fail
    go_ret2
    exact ⟨rfl, rfl⟩
  · have h1' : ¬ (l.length : Int) < h.length := by omega
    have i0 := run_upto (P := Tryz.prog) (t := 9) Tryz.underlying9 l h.length (by omega) h.length rfl _ rfl
    have i1 := run_from (P := Tryz.prog) (t := 9) Tryz.underlying9 l h.length (by omega) h.length rfl _ rfl
    obtain ⟨b, hb⟩ : ∃ b, (l.take h.length == h) = b := ⟨_, rfl⟩
    rw [hb] at HC
    have hbn : (l.take h.length != h) = !b := by rw [bne, hb]
    cases b with
    | true =>
      have HR : Hid (R = some (l.drop h.length)) := by show _ = _; rw [HC.out, if_pos ⟨by omega, rfl⟩]
      rw [HR.out]
      clear HC
      generalize l.take h.length = X at *
      generalize l.drop h.length = Y at *
      go_enter Tryz.func27, Tryz.ntmps27
      go_wp2_with fail
      go_ret2
      exact ⟨rfl, rfl⟩
    | false =>
      have HR : Hid (R = none) := by show _ = _; rw [HC.out, if_neg (fun q => by cases q.2)]
      rw [HR.out]
      clear HC
      generalize l.take h.length = X at *
      generalize l.drop h.length = Y at *
      go_enter Tryz.func27, Tryz.ntmps27
      go_wp2_with fail
      go_ret2
      exact ⟨rfl, rfl⟩
theorem dcN_lt : ∀ (n : Nat) (v : Bs), v.length = n → v.all dgtB = true → dcN v < 10 ^ n
  | 0, v, h, _ => by
    obtain rfl : v = [] := List.length_eq_zero_iff.1 h
    decide
  | n + 1, v, h, ha => by
    have hne : v ≠ [] := by rintro rfl; simp at h
    have e := (List.dropLast_concat_getLast hne).symm
    have hl : v.dropLast.length = n := by rw [List.length_dropLast]; omega
    have ha2 := ha
    rw [e, List.all_append, Bool.and_eq_true] at ha2
    have h1 := dcN_lt n v.dropLast hl ha2.1
    have h2 : dgtB (v.getLast hne) = true := by simpa using ha2.2
    have h3 := dig_cases h2
    rw [e, dcN_snoc, Nat.pow_succ]
    omega
theorem decB_no_dig {v : Bs} {k : Nat} (hk : k < v.length) (h : dgtB v[k] = false) : decB v = false := by
  unfold decB
  have : v.all dgtB = false := List.all_eq_false.2 ⟨v[k], List.getElem_mem hk, by rw [h]; simp⟩
  rw [this]; simp
theorem decB_no_len {v : Bs} (h : ¬ v.length ≤ 4) : decB v = false := by
  unfold decB
  rw [decide_eq_false h]; simp
theorem decB_nil : decB [] = false := rfl
def decI (v : Bs) : Int := if decB v = true then (dcN v : Int) else -1
set_option maxRecDepth 100000 in
set_option maxHeartbeats 3200000 in
theorem rdecimal_any (v : Bs) (w : World) (hv : v.length ≤ 9223372036854775807) : Calls Tryz.prog 52 #[.string (bs v)] w fun e w' => e = .returned (.int .i64 (decI v)) ∧ Kept w w' := by
  have HBD : Hid (∀ k (hk : k < v.length), dgtB v[k] = false → decI v = -1) := fun k hk h => by unfold decI; rw [decB_no_dig hk h]; rfl
  have HLN : Hid (¬ v.length ≤ 4 → decI v = -1) := fun h => by unfold decI; rw [decB_no_len h]; rfl
  have HNL : Hid (v = [] → decI v = -1) := fun h => by unfold decI; rw [h, decB_nil]; rfl
  have HEN : Hid (1 ≤ v.length → v.length ≤ 4 → v.all dgtB = true → decI v = if (Lib.decDigits (dcN v) == v) = true then (dcN v : Int) else -1) := fun h1 h2 h3 => by
    unfold decI
    by_cases q : decB v = true
    · rw [if_pos q, if_pos (by rw [beq_iff_eq]; exact (decB_back q).1)]
    · rw [if_neg q, if_neg (fun z => q (decB_of h1 h2 h3 (beq_iff_eq.1 z)))]
  have HDL := Lib.hid (fun n (x : Bs) h h2 => dcN_lt n x h h2)
  have HNM := Lib.hid (fun n w h => rnum31_any n w h)
  generalize decI v = R at *
  go_enter Tryz.func52, Tryz.ntmps52
  go_wp2_with fail
  go_loop [3, 4] (fun n i => ∃ k : Nat, k ≤ v.length ∧ i = .int .i64 k ∧ n = .int .i64 (dcN (v.take k)) ∧ k ≤ 4 ∧ Hid ((v.take k).all dgtB = true)) (fun _ i => v.length - (intOf i).toNat)
  case atStart => exact ⟨0, Nat.zero_le _, rfl, rfl, by omega, rfl⟩
  case round =>
    obtain ⟨k, hk, rfl, rfl, hk4, HA⟩ := hrel
    have hnb : dcN (v.take k) < 10000 := by
      have h1 := HDL.out k (v.take k) (by rw [List.length_take]; omega) HA.out
      have h2 : (10 : Nat) ^ k ≤ 10 ^ 4 := Nat.pow_le_pow_right (by decide) hk4
      omega
    by_cases hlt : k < v.length
    · have i0 := run_ix (P := Tryz.prog) (t := 9) Tryz.underlying9 v k hlt k rfl
      have h80 := at8_lo v k
      have h81 := at8_hi v k
      have HC : Hid (dgtB v[k] = (decide (48 ≤ at8 v k) && decide (at8 v k ≤ 57))) := by
        show _ = _
        rw [at8_get v k hlt]
        unfold dgtB
        have z : ∀ (p q : Prop) [Decidable p] [Decidable q], (p ↔ q) → decide p = decide q := fun p q _ _ h => by rw [decide_eq_decide]; exact h
        congr 1 <;> exact z _ _ (by omega)
      have HBB := Lib.hid (HBD.out k hlt)
      have HNX : Hid (dgtB v[k] = true → (v.take (k + 1)).all dgtB = true ∧ (dcN (v.take (k + 1)) : Int) = 10 * dcN (v.take k) + at8 v k - 48) := fun h => by
        rw [take_next v k hlt]
        refine ⟨by rw [List.all_append, HA.out]; simpa using h, ?_⟩
        have := dig_cases h
        rw [dcN_snoc, at8_get v k hlt]; omega
      rw [HC.out] at HBB HNX
      clear HC HA
      generalize dcN (v.take k) = n at *
      generalize hB : at8 v k = b at *
      by_cases d1 : b < 48
      · have HR := Lib.hid (HBB.out (by rw [decide_eq_false (by omega : ¬ 48 ≤ b)]; rfl))
        clear HBB HNX hB
        go_wp2_with fail
        go_ret
        exact ⟨ret_int HR.out.symm, Kept.refl _⟩
      by_cases d2 : 57 < b
      · have HR := Lib.hid (HBB.out (by rw [decide_eq_false (by omega : ¬ b ≤ 57), Bool.and_false]))
        clear HBB HNX hB
        go_wp2_with fail
        go_ret
        exact ⟨ret_int HR.out.symm, Kept.refl _⟩
      obtain ⟨ha, hn⟩ := HNX.out (by rw [decide_eq_true (by omega : 48 ≤ b), decide_eq_true (by omega : b ≤ 57)]; rfl)
      have HA2 := Lib.hid ha
      have HN2 := Lib.hid hn
      by_cases d3 : 3 < k
      · have HR := Lib.hid (HLN.out (by omega))
        clear HBB HNX hB ha hn HN2 HA2
        go_wp2_with fail
        go_ret
        exact ⟨ret_int HR.out.symm, Kept.refl _⟩
      clear HBB HNX hB ha hn
      go_wp2_with fail
      go_round
      case rel => exact ⟨k + 1, by omega, by go_num, by rw [HN2.out], by omega, HA2.out⟩
      case measure => simp [intOf]; omega
    · obtain rfl : k = v.length := by omega
      rw [List.take_of_length_le (Nat.le_refl _)] at HA hnb ⊢
      by_cases h0 : v = []
      · have HR := Lib.hid (HNL.out h0)
        subst h0
        go_wp2_with fail
        go_ret
        exact ⟨ret_int HR.out.symm, Kept.refl _⟩
      · have h1 : 1 ≤ v.length := by
          cases v with
          | nil => exact absurd rfl h0
          | cons a l => simp
        have HR := Lib.hid (HEN.out h1 hk4 HA.out)
        have h0' : (v == []) = false := by rw [beq_eq_false_iff_ne]; exact h0
        have HNN := Lib.hid (fun w => HNM.out (dcN v) w (by omega))
        generalize dcN v = n at *
        generalize Lib.decDigits n = X at *
        obtain ⟨b, hb⟩ : ∃ b, (X == v) = b := ⟨_, rfl⟩
        rw [hb] at HR
        have hbn : (X != v) = !b := by rw [bne, hb]
        clear h0
        cases b with
        | true =>
          rw [if_pos rfl] at HR
          rw [Bool.not_true] at hbn
          go_wp2_with fail
          refine (HNN.out _).mono ?_
          rintro e w1 ⟨rfl, hk1⟩
          have HK1 := Lib.hid hk1
          clear hk1
          go_wp2_with fail
          go_ret
          exact ⟨ret_int HR.out.symm, HK1.out⟩
        | false =>
          rw [if_neg (by simp)] at HR
          rw [Bool.not_false] at hbn
          go_wp2_with fail
          refine (HNN.out _).mono ?_
          rintro e w1 ⟨rfl, hk1⟩
          have HK1 := Lib.hid hk1
          clear hk1
          go_wp2_with fail
          go_ret
          exact ⟨ret_int HR.out.symm, HK1.out⟩
end Go.Proofs.YtafcngdnngpdnaaGreatDoor

/- heads and entry of publisherref31. Conditions: lengths. -/
set_option linter.all false
namespace Go.Proofs.YtafcngdnngpdnaaGreatDoor
open Go.RowKit

set_option maxRecDepth 100000 in
set_option maxHeartbeats 1600000 in
theorem rheads_any (w : World) : Calls Tryz.prog 20 #[] w fun e w' => ∃ v, e = .returned v ∧ Strs w' v headsL ∧ Kept w w' := by
  have HS : Hid (Strs (w.alloc (.cells (strCells headsL).toArray 9)) (.slice (some ⟨w.heap.size, 0, none⟩) 9 9) headsL) := strs_fresh w headsL
  have HK := Lib.hid (kept_alloc w (.cells (strCells headsL).toArray 9))
  unfold strCells headsL hName hNumeric hSort hCite hBare hBetween hOpen hClose hMost at HS HK
  go_enter Tryz.func20, Tryz.ntmps20
  go_wp2_with fail
  go_ret
  exact ⟨_, rfl, HS.out, HK.out⟩
theorem Tryz.sizePr : (Tryz.prog.info? 35).map (fun x => x.size) = some 2 := by kernel_rfl
def EntP (o : Option Pr) (w : World) (e : Ending) (w' : World) : Prop := e = .returned (.tuple #[.agg #[.string (bs (o.getD ([], [])).1), .string (bs (o.getD ([], [])).2)], .bool o.isSome]) ∧ Kept w w'
set_option maxRecDepth 100000 in
set_option maxHeartbeats 3200000 in
theorem rentry_any (l : Bs) (w : World) (hl : l.length ≤ 1000000000) : Calls Tryz.prog 29 #[.string (bs l)] w (EntP (entR l) w) := by
  have HBG := Lib.hid (fun w => rbegins_any l kEntry w (by omega) (by decide))
  have HER : Hid (entR l = if before 58 ((cutP kEntry l).getD []) < ((cutP kEntry l).getD []).length then some (((cutP kEntry l).getD []).take (before 58 ((cutP kEntry l).getD [])), ((cutP kEntry l).getD []).drop (before 58 ((cutP kEntry l).getD []) + 1)) else none) := by
    show _ = _
    unfold entR
    cases cutP kEntry l with
    | none => rfl
    | some r => rfl
  have HOK : Hid (0 < ((cutP kEntry l).getD []).length → (cutP kEntry l).isSome = true) := fun h => by
    cases hq : cutP kEntry l with
    | none => rw [hq] at h; exact absurd h (by simp)
    | some r => rfl
  have hrl : ((cutP kEntry l).getD []).length ≤ 1000000000 := by
    cases hq : cutP kEntry l with
    | none => simp
    | some r =>
      have h2 := congrArg List.length (cutP_len hq).1
      rw [List.length_drop] at h2
      simp only [Option.getD_some]; omega
  unfold EntP
  generalize entR l = R at *
  generalize (cutP kEntry l).getD [] = r at *
  generalize (cutP kEntry l).isSome = ok at *
  unfold kEntry at HBG
  have HB0 := Lib.hid (Blk.new w 35 #[.string (bs []), .string (bs [])])
  have HK0 := Lib.hid (kept_alloc w (.cells #[.string (bs []), .string (bs [])] 35))
  go_enter Tryz.func29, Tryz.ntmps29
  go_wp2_with fail
  generalize w.alloc _ = w0 at *
  obtain ⟨B, HBB⟩ : ∃ B, Hid (w.heap.size = B) := ⟨_, rfl⟩
  have hBz : w.heap.size ≤ B := by rw [HBB.out]; exact Nat.le_refl _
  rw [HBB.out] at HB0 ⊢
  refine (HBG.out _).mono ?_
  rintro e w1 ⟨rfl, rfl⟩
  clear HBG HBB
  go_wp2_with fail
  go_loopw [6] (fun i wr => ∃ k : Nat, k ≤ r.length ∧ i = .int .i64 k ∧ Hid (∀ j (hj : j < r.length), j < k → r[j] ≠ 58) ∧ w0 = wr) (fun i _ => r.length - (intOf i).toNat)
  case atStart => exact ⟨0, Nat.zero_le _, rfl, fun j hj h => by omega, rfl⟩
  case round =>
    obtain ⟨k, hk, rfl, HN, rfl⟩ := hrel
    by_cases hlt : k < r.length
    · have i0 := run_ix (P := Tryz.prog) (t := 9) Tryz.underlying9 r k hlt k rfl
      obtain rfl : ok = true := HOK.out (by omega)
      have HD : Hid (at8 r k = 58 ↔ r[k] = 58) := by show _ ↔ _; rw [at8_get r k hlt]; exact u8_int _ 58 (by decide)
      by_cases h1 : at8 r k = 58
      · have hbe : before 58 r = k := before_at (fun i hi hik => HN.out i hi hik) hlt (HD.out.1 h1)
        have HR : Hid (R = some (r.take k, r.drop (k + 1))) := by show _ = _; rw [HER.out, hbe, if_pos hlt]
        have i1 := run_upto (P := Tryz.prog) (t := 9) Tryz.underlying9 r k (by omega) k rfl _ rfl
        have i2 := run_from (P := Tryz.prog) (t := 9) Tryz.underlying9 r (k + 1) (by omega) ((k : Int) + 1) (by omega) _ rfl
        have hb' : (at8 r k == 58) = true := by simpa using h1
        have b0 : w0.cell? ⟨B, 0, none⟩ = some (.string (bs [])) := HB0.out.cell 0 _ rfl
        have b1 : w0.cell? ⟨B, 1, none⟩ = some (.string (bs [])) := HB0.out.cell 1 _ rfl
        have f0 : w0.frozen? ⟨B, 0, none⟩ = false := HB0.out.free 0
        have f1 : w0.frozen? ⟨B, 1, none⟩ = false := HB0.out.free 1
        have bz := HB0.out.lt
        clear hbe HN HD h1 HER
        generalize at8 r k = b at *
        generalize r.take k = X at *
        generalize r.drop (k + 1) = Z at *
        go_wp2_with fail
        go_region
        all_goals
          have HBX : Hid (Blk ((w0.setCell ⟨B, 0, none⟩ (.string (bs X))).setCell ⟨B, 1, none⟩ (.string (bs Z))).drew B 35 #[.string (bs X), .string (bs Z)]) := ((HB0.out.set 0 (.string (bs X))).set 1 (.string (bs Z))).kept (kept_drewN _ 1)
          have HK9 : Hid (Kept w ((w0.setCell ⟨B, 0, none⟩ (.string (bs X))).setCell ⟨B, 1, none⟩ (.string (bs Z))).drew) := (only_kept (only_kept HK0.out (Only.setCell B 0 (.string (bs X))) hBz) (Only.setCell B 1 (.string (bs Z))) hBz).trans (kept_drewN _ 1)
          generalize World.drew _ = w9 at HBX HK9 ⊢
          have HFIN : Hid (Ending.returned (.tuple #[.agg #[.string (bs X), .string (bs Z)], .bool true]) = .returned (.tuple #[.agg #[.string (bs (R.getD ([], [])).1), .string (bs (R.getD ([], [])).2)], .bool R.isSome]) ∧ Kept w w9) := ⟨by rw [HR.out]; rfl, HK9.out⟩
          have r0 : w9.cell? ⟨B, 0, none⟩ = some (.string (bs X)) := HBX.out.cell 0 _ rfl
          have r1 : w9.cell? ⟨B, 1, none⟩ = some (.string (bs Z)) := HBX.out.cell 1 _ rfl
          have rz := HBX.out.lt
          clear b0 b1 f0 f1 bz
          go_wp2_with fail
          refine bodyPost_ret (v := .tuple #[.agg #[.string (bs X), .string (bs Z)], .bool true]) ?_ rfl HFIN.out
          simp [results, Tryz.results29, go_sem, r0, r1, rz]
      · have HS : Hid (∀ j (hj : j < r.length), j < k + 1 → r[j] ≠ 58) := by
          intro j hj hjk
          rcases Nat.lt_or_ge j k with q | q
          · exact HN.out j hj q
          · obtain rfl : j = k := by omega
            exact fun q => h1 (HD.out.2 q)
        have hb' : (at8 r k == 58) = false := by simpa using h1
        generalize at8 r k = b at *
        clear h1 HD HN
        go_wp2_with fail
        go_roundw
        case rel => exact ⟨k + 1, by omega, by go_num, HS.out, by first | rfl | trivial⟩
        case measure => simp [intOf]; omega
    · obtain rfl : k = r.length := by omega
      have HR : Hid (R = none) := by
        show _ = _
        rw [HER.out, if_neg]
        intro q
        exact HN.out _ q q (before_here 58 r q)
      clear HER HN
      go_wp2_with (refine wpList_store_blk rfl 35 (.tmp 2) (.tmp 33) (by rfl) B _ #[.string (bs []), .string (bs [])] (by rfl) (by rfl) HB0.out rfl Tryz.sizePr (by simp only [List.all_toArray, List.all_cons, List.all_nil]; rfl) ?_; intro w9 hb9 ho9; have HK9 := Lib.hid (only_kept HK0.out ho9 hBz); have r0 : w9.cell? ⟨B, 0, none⟩ = some (.string (bs [])) := hb9.cell 0 _ rfl; have r1 : w9.cell? ⟨B, 1, none⟩ = some (.string (bs [])) := hb9.cell 1 _ rfl; have rz := hb9.lt; have HFIN : Hid (Ending.returned (.tuple #[.agg #[.string (bs []), .string (bs [])], .bool false]) = .returned (.tuple #[.agg #[.string (bs (R.getD ([], [])).1), .string (bs (R.getD ([], [])).2)], .bool R.isSome]) ∧ Kept w w9) := ⟨by rw [HR.out]; rfl, HK9.out⟩; clear hb9 ho9)
      refine bodyPost_ret (v := .tuple #[.agg #[.string (bs []), .string (bs [])], .bool false]) ?_ rfl HFIN.out
      simp [results, Tryz.results29, go_sem, r0, r1, rz]
end Go.Proofs.YtafcngdnngpdnaaGreatDoor

/- set of publisherref31. Conditions: lengths. -/
set_option linter.all false
namespace Go.Proofs.YtafcngdnngpdnaaGreatDoor
open Go.RowKit

/-- A style with the value of the i-th line. -/
def setY (y : StyT) (i : Nat) (v : Bs) : StyT := match i with
  | 0 => { y with name := v }
  | 1 => { y with numeric := v == [121, 101, 115] }
  | 2 => { y with sort := v }
  | 3 => { y with cite := v }
  | 4 => { y with bare := v }
  | 5 => { y with between := v }
  | 6 => { y with begin_ := v }
  | 7 => { y with end_ := v }
  | _ => { y with most := decI v }
def SetP (vY : Value) (y : StyT) (b : Bool) (w : World) (e : Ending) (w' : World) : Prop := e = .returned (.tuple #[styV vY y, .bool b]) ∧ Kept w w'
theorem set_blks (w : World) (vY : Value) (y : StyT) : Blk ((w.alloc (.cells #[.string (bs y.name), .bool y.numeric, .string (bs y.sort), .string (bs y.cite), .string (bs y.bare), .string (bs y.between), .string (bs y.begin_), .string (bs y.end_), .int .i64 y.most, vY] 24)).alloc (.cells #[.string (bs []), .bool false, .string (bs []), .string (bs []), .string (bs []), .string (bs []), .string (bs []), .string (bs []), .int .i64 0, .slice none 0 0] 24)) w.heap.size 24 #[.string (bs y.name), .bool y.numeric, .string (bs y.sort), .string (bs y.cite), .string (bs y.bare), .string (bs y.between), .string (bs y.begin_), .string (bs y.end_), .int .i64 y.most, vY] ∧ Blk ((w.alloc (.cells #[.string (bs y.name), .bool y.numeric, .string (bs y.sort), .string (bs y.cite), .string (bs y.bare), .string (bs y.between), .string (bs y.begin_), .string (bs y.end_), .int .i64 y.most, vY] 24)).alloc (.cells #[.string (bs []), .bool false, .string (bs []), .string (bs []), .string (bs []), .string (bs []), .string (bs []), .string (bs []), .int .i64 0, .slice none 0 0] 24)) (w.heap.size + 1) 24 #[.string (bs []), .bool false, .string (bs []), .string (bs []), .string (bs []), .string (bs []), .string (bs []), .string (bs []), .int .i64 0, .slice none 0 0] ∧ Kept w ((w.alloc (.cells #[.string (bs y.name), .bool y.numeric, .string (bs y.sort), .string (bs y.cite), .string (bs y.bare), .string (bs y.between), .string (bs y.begin_), .string (bs y.end_), .int .i64 y.most, vY] 24)).alloc (.cells #[.string (bs []), .bool false, .string (bs []), .string (bs []), .string (bs []), .string (bs []), .string (bs []), .string (bs []), .int .i64 0, .slice none 0 0] 24)) := by
  have e1 : (w.alloc (.cells #[.string (bs y.name), .bool y.numeric, .string (bs y.sort), .string (bs y.cite), .string (bs y.bare), .string (bs y.between), .string (bs y.begin_), .string (bs y.end_), .int .i64 y.most, vY] 24)).heap.size = w.heap.size + 1 := by simp
  have h := Blk.new (w.alloc (.cells #[.string (bs y.name), .bool y.numeric, .string (bs y.sort), .string (bs y.cite), .string (bs y.bare), .string (bs y.between), .string (bs y.begin_), .string (bs y.end_), .int .i64 y.most, vY] 24)) 24 #[.string (bs []), .bool false, .string (bs []), .string (bs []), .string (bs []), .string (bs []), .string (bs []), .string (bs []), .int .i64 0, .slice none 0 0]
  rw [e1] at h
  exact ⟨(Blk.new w 24 #[.string (bs y.name), .bool y.numeric, .string (bs y.sort), .string (bs y.cite), .string (bs y.bare), .string (bs y.between), .string (bs y.begin_), .string (bs y.end_), .int .i64 y.most, vY]).kept (kept_alloc _ _), h, (kept_alloc _ _).trans (kept_alloc _ _)⟩
set_option maxRecDepth 100000 in
set_option maxHeartbeats 3200000 in
theorem rset0 (y : StyT) (a : Option Addr) (n c : Nat) (v : Bs) (w : World) : Calls Tryz.prog 28 #[styV (.slice a n c) y, .int .i64 0, .string (bs v)] w (SetP (.slice a n c) (setY y 0 v) true w) := by
  unfold SetP styV styCells
  go_enter Tryz.func28, Tryz.ntmps28
  go_wp2_with fail
  refine bodyPost_ret (v := .tuple #[styV (.slice a n c) (setY y 0 v), .bool true]) ?_ rfl ⟨rfl, (kept_alloc _ _).trans (kept_alloc _ _)⟩
  simp [results, Tryz.results28, go_sem, styV, styCells, setY]
set_option maxRecDepth 100000 in
set_option maxHeartbeats 3200000 in
theorem rset1 (y : StyT) (a : Option Addr) (n c : Nat) (v : Bs) (w : World) : Calls Tryz.prog 28 #[styV (.slice a n c) y, .int .i64 1, .string (bs v)] w (SetP (.slice a n c) (setY y 1 v) (v == [121, 101, 115] || v == [110, 111]) w) := by
  unfold SetP styV styCells
  cases h1 : (v == [121, 101, 115]) with
  | true =>
    go_enter Tryz.func28, Tryz.ntmps28
    go_wp2_with fail
    refine bodyPost_ret (v := .tuple #[styV (.slice a n c) (setY y 1 v), .bool true]) ?_ rfl ⟨rfl, (kept_alloc _ _).trans (kept_alloc _ _)⟩
    simp [results, Tryz.results28, go_sem, styV, styCells, setY, h1]
  | false =>
    cases h2 : (v == [110, 111]) with
    | true =>
      go_enter Tryz.func28, Tryz.ntmps28
      go_wp2_with fail
      refine bodyPost_ret (v := .tuple #[styV (.slice a n c) (setY y 1 v), .bool true]) ?_ rfl ⟨rfl, (kept_alloc _ _).trans (kept_alloc _ _)⟩
      simp [results, Tryz.results28, go_sem, styV, styCells, setY, h1, h2]
    | false =>
      go_enter Tryz.func28, Tryz.ntmps28
      go_wp2_with fail
      refine bodyPost_ret (v := .tuple #[styV (.slice a n c) (setY y 1 v), .bool false]) ?_ rfl ⟨rfl, (kept_alloc _ _).trans (kept_alloc _ _)⟩
      simp [results, Tryz.results28, go_sem, styV, styCells, setY, h1, h2]
set_option maxRecDepth 100000 in
set_option maxHeartbeats 3200000 in
theorem rset2 (y : StyT) (a : Option Addr) (n c : Nat) (v : Bs) (w : World) : Calls Tryz.prog 28 #[styV (.slice a n c) y, .int .i64 2, .string (bs v)] w (SetP (.slice a n c) (setY y 2 v) true w) := by
  unfold SetP styV styCells
  go_enter Tryz.func28, Tryz.ntmps28
  go_wp2_with fail
  refine bodyPost_ret (v := .tuple #[styV (.slice a n c) (setY y 2 v), .bool true]) ?_ rfl ⟨rfl, (kept_alloc _ _).trans (kept_alloc _ _)⟩
  simp [results, Tryz.results28, go_sem, styV, styCells, setY]
set_option maxRecDepth 100000 in
set_option maxHeartbeats 3200000 in
theorem rset3 (y : StyT) (a : Option Addr) (n c : Nat) (v : Bs) (w : World) : Calls Tryz.prog 28 #[styV (.slice a n c) y, .int .i64 3, .string (bs v)] w (SetP (.slice a n c) (setY y 3 v) true w) := by
  unfold SetP styV styCells
  go_enter Tryz.func28, Tryz.ntmps28
  go_wp2_with fail
  refine bodyPost_ret (v := .tuple #[styV (.slice a n c) (setY y 3 v), .bool true]) ?_ rfl ⟨rfl, (kept_alloc _ _).trans (kept_alloc _ _)⟩
  simp [results, Tryz.results28, go_sem, styV, styCells, setY]
set_option maxRecDepth 100000 in
set_option maxHeartbeats 3200000 in
theorem rset4 (y : StyT) (a : Option Addr) (n c : Nat) (v : Bs) (w : World) : Calls Tryz.prog 28 #[styV (.slice a n c) y, .int .i64 4, .string (bs v)] w (SetP (.slice a n c) (setY y 4 v) true w) := by
  unfold SetP styV styCells
  go_enter Tryz.func28, Tryz.ntmps28
  go_wp2_with fail
  refine bodyPost_ret (v := .tuple #[styV (.slice a n c) (setY y 4 v), .bool true]) ?_ rfl ⟨rfl, (kept_alloc _ _).trans (kept_alloc _ _)⟩
  simp [results, Tryz.results28, go_sem, styV, styCells, setY]
set_option maxRecDepth 100000 in
set_option maxHeartbeats 3200000 in
theorem rset5 (y : StyT) (a : Option Addr) (n c : Nat) (v : Bs) (w : World) : Calls Tryz.prog 28 #[styV (.slice a n c) y, .int .i64 5, .string (bs v)] w (SetP (.slice a n c) (setY y 5 v) true w) := by
  unfold SetP styV styCells
  go_enter Tryz.func28, Tryz.ntmps28
  go_wp2_with fail
  refine bodyPost_ret (v := .tuple #[styV (.slice a n c) (setY y 5 v), .bool true]) ?_ rfl ⟨rfl, (kept_alloc _ _).trans (kept_alloc _ _)⟩
  simp [results, Tryz.results28, go_sem, styV, styCells, setY]
set_option maxRecDepth 100000 in
set_option maxHeartbeats 3200000 in
theorem rset6 (y : StyT) (a : Option Addr) (n c : Nat) (v : Bs) (w : World) : Calls Tryz.prog 28 #[styV (.slice a n c) y, .int .i64 6, .string (bs v)] w (SetP (.slice a n c) (setY y 6 v) true w) := by
  unfold SetP styV styCells
  go_enter Tryz.func28, Tryz.ntmps28
  go_wp2_with fail
  refine bodyPost_ret (v := .tuple #[styV (.slice a n c) (setY y 6 v), .bool true]) ?_ rfl ⟨rfl, (kept_alloc _ _).trans (kept_alloc _ _)⟩
  simp [results, Tryz.results28, go_sem, styV, styCells, setY]
set_option maxRecDepth 100000 in
set_option maxHeartbeats 3200000 in
theorem rset7 (y : StyT) (a : Option Addr) (n c : Nat) (v : Bs) (w : World) : Calls Tryz.prog 28 #[styV (.slice a n c) y, .int .i64 7, .string (bs v)] w (SetP (.slice a n c) (setY y 7 v) true w) := by
  unfold SetP styV styCells
  go_enter Tryz.func28, Tryz.ntmps28
  go_wp2_with fail
  refine bodyPost_ret (v := .tuple #[styV (.slice a n c) (setY y 7 v), .bool true]) ?_ rfl ⟨rfl, (kept_alloc _ _).trans (kept_alloc _ _)⟩
  simp [results, Tryz.results28, go_sem, styV, styCells, setY]
theorem decI_ge (v : Bs) : decide (0 ≤ decI v) = decB v := by
  unfold decI
  cases decB v with
  | true => rw [if_pos rfl]; exact decide_eq_true (by omega)
  | false => rw [if_neg (by simp)]; rfl
theorem decI_range (v : Bs) : -1 ≤ decI v ∧ decI v ≤ 10000 := by
  unfold decI
  split
  · rename_i h
    obtain ⟨_, _, h4, ha⟩ := decB_back h
    have h1 := dcN_lt v.length v rfl ha
    have h2 : (10 : Nat) ^ v.length ≤ 10 ^ 4 := Nat.pow_le_pow_right (by decide) h4
    omega
  · omega
theorem chain_blk {w0 w : World} {g : Nat} {t : TypeId} {c0 c1 c2 c3 c4 c5 c6 c7 c8 c9 v0 v1 v2 v3 v4 v5 v6 v7 v8 v9 : Value} (h : Blk w g t #[c0, c1, c2, c3, c4, c5, c6, c7, c8, c9]) (hk : Kept w0 w) (hg : w0.heap.size ≤ g) : Blk ((((((((((w.setCell ⟨g, 0, none⟩ v0).setCell ⟨g, 1, none⟩ v1).setCell ⟨g, 2, none⟩ v2).setCell ⟨g, 3, none⟩ v3).setCell ⟨g, 4, none⟩ v4).setCell ⟨g, 5, none⟩ v5).setCell ⟨g, 6, none⟩ v6).setCell ⟨g, 7, none⟩ v7).setCell ⟨g, 8, none⟩ v8).setCell ⟨g, 9, none⟩ v9).drew g t #[v0, v1, v2, v3, v4, v5, v6, v7, v8, v9] ∧ Kept w0 ((((((((((w.setCell ⟨g, 0, none⟩ v0).setCell ⟨g, 1, none⟩ v1).setCell ⟨g, 2, none⟩ v2).setCell ⟨g, 3, none⟩ v3).setCell ⟨g, 4, none⟩ v4).setCell ⟨g, 5, none⟩ v5).setCell ⟨g, 6, none⟩ v6).setCell ⟨g, 7, none⟩ v7).setCell ⟨g, 8, none⟩ v8).setCell ⟨g, 9, none⟩ v9).drew := by
  have h0 : Blk (w.setCell ⟨g, 0, none⟩ v0) g t #[v0, c1, c2, c3, c4, c5, c6, c7, c8, c9] := h.set 0 v0
  have k0 : Kept w0 (w.setCell ⟨g, 0, none⟩ v0) := only_kept hk (Only.setCell g 0 v0) hg
  have h1 : Blk ((w.setCell ⟨g, 0, none⟩ v0).setCell ⟨g, 1, none⟩ v1) g t #[v0, v1, c2, c3, c4, c5, c6, c7, c8, c9] := h0.set 1 v1
  have k1 : Kept w0 ((w.setCell ⟨g, 0, none⟩ v0).setCell ⟨g, 1, none⟩ v1) := only_kept k0 (Only.setCell g 1 v1) hg
  have h2 : Blk (((w.setCell ⟨g, 0, none⟩ v0).setCell ⟨g, 1, none⟩ v1).setCell ⟨g, 2, none⟩ v2) g t #[v0, v1, v2, c3, c4, c5, c6, c7, c8, c9] := h1.set 2 v2
  have k2 : Kept w0 (((w.setCell ⟨g, 0, none⟩ v0).setCell ⟨g, 1, none⟩ v1).setCell ⟨g, 2, none⟩ v2) := only_kept k1 (Only.setCell g 2 v2) hg
  have h3 : Blk ((((w.setCell ⟨g, 0, none⟩ v0).setCell ⟨g, 1, none⟩ v1).setCell ⟨g, 2, none⟩ v2).setCell ⟨g, 3, none⟩ v3) g t #[v0, v1, v2, v3, c4, c5, c6, c7, c8, c9] := h2.set 3 v3
  have k3 : Kept w0 ((((w.setCell ⟨g, 0, none⟩ v0).setCell ⟨g, 1, none⟩ v1).setCell ⟨g, 2, none⟩ v2).setCell ⟨g, 3, none⟩ v3) := only_kept k2 (Only.setCell g 3 v3) hg
  have h4 : Blk (((((w.setCell ⟨g, 0, none⟩ v0).setCell ⟨g, 1, none⟩ v1).setCell ⟨g, 2, none⟩ v2).setCell ⟨g, 3, none⟩ v3).setCell ⟨g, 4, none⟩ v4) g t #[v0, v1, v2, v3, v4, c5, c6, c7, c8, c9] := h3.set 4 v4
  have k4 : Kept w0 (((((w.setCell ⟨g, 0, none⟩ v0).setCell ⟨g, 1, none⟩ v1).setCell ⟨g, 2, none⟩ v2).setCell ⟨g, 3, none⟩ v3).setCell ⟨g, 4, none⟩ v4) := only_kept k3 (Only.setCell g 4 v4) hg
  have h5 : Blk ((((((w.setCell ⟨g, 0, none⟩ v0).setCell ⟨g, 1, none⟩ v1).setCell ⟨g, 2, none⟩ v2).setCell ⟨g, 3, none⟩ v3).setCell ⟨g, 4, none⟩ v4).setCell ⟨g, 5, none⟩ v5) g t #[v0, v1, v2, v3, v4, v5, c6, c7, c8, c9] := h4.set 5 v5
  have k5 : Kept w0 ((((((w.setCell ⟨g, 0, none⟩ v0).setCell ⟨g, 1, none⟩ v1).setCell ⟨g, 2, none⟩ v2).setCell ⟨g, 3, none⟩ v3).setCell ⟨g, 4, none⟩ v4).setCell ⟨g, 5, none⟩ v5) := only_kept k4 (Only.setCell g 5 v5) hg
  have h6 : Blk (((((((w.setCell ⟨g, 0, none⟩ v0).setCell ⟨g, 1, none⟩ v1).setCell ⟨g, 2, none⟩ v2).setCell ⟨g, 3, none⟩ v3).setCell ⟨g, 4, none⟩ v4).setCell ⟨g, 5, none⟩ v5).setCell ⟨g, 6, none⟩ v6) g t #[v0, v1, v2, v3, v4, v5, v6, c7, c8, c9] := h5.set 6 v6
  have k6 : Kept w0 (((((((w.setCell ⟨g, 0, none⟩ v0).setCell ⟨g, 1, none⟩ v1).setCell ⟨g, 2, none⟩ v2).setCell ⟨g, 3, none⟩ v3).setCell ⟨g, 4, none⟩ v4).setCell ⟨g, 5, none⟩ v5).setCell ⟨g, 6, none⟩ v6) := only_kept k5 (Only.setCell g 6 v6) hg
  have h7 : Blk ((((((((w.setCell ⟨g, 0, none⟩ v0).setCell ⟨g, 1, none⟩ v1).setCell ⟨g, 2, none⟩ v2).setCell ⟨g, 3, none⟩ v3).setCell ⟨g, 4, none⟩ v4).setCell ⟨g, 5, none⟩ v5).setCell ⟨g, 6, none⟩ v6).setCell ⟨g, 7, none⟩ v7) g t #[v0, v1, v2, v3, v4, v5, v6, v7, c8, c9] := h6.set 7 v7
  have k7 : Kept w0 ((((((((w.setCell ⟨g, 0, none⟩ v0).setCell ⟨g, 1, none⟩ v1).setCell ⟨g, 2, none⟩ v2).setCell ⟨g, 3, none⟩ v3).setCell ⟨g, 4, none⟩ v4).setCell ⟨g, 5, none⟩ v5).setCell ⟨g, 6, none⟩ v6).setCell ⟨g, 7, none⟩ v7) := only_kept k6 (Only.setCell g 7 v7) hg
  have h8 : Blk (((((((((w.setCell ⟨g, 0, none⟩ v0).setCell ⟨g, 1, none⟩ v1).setCell ⟨g, 2, none⟩ v2).setCell ⟨g, 3, none⟩ v3).setCell ⟨g, 4, none⟩ v4).setCell ⟨g, 5, none⟩ v5).setCell ⟨g, 6, none⟩ v6).setCell ⟨g, 7, none⟩ v7).setCell ⟨g, 8, none⟩ v8) g t #[v0, v1, v2, v3, v4, v5, v6, v7, v8, c9] := h7.set 8 v8
  have k8 : Kept w0 (((((((((w.setCell ⟨g, 0, none⟩ v0).setCell ⟨g, 1, none⟩ v1).setCell ⟨g, 2, none⟩ v2).setCell ⟨g, 3, none⟩ v3).setCell ⟨g, 4, none⟩ v4).setCell ⟨g, 5, none⟩ v5).setCell ⟨g, 6, none⟩ v6).setCell ⟨g, 7, none⟩ v7).setCell ⟨g, 8, none⟩ v8) := only_kept k7 (Only.setCell g 8 v8) hg
  have h9 : Blk ((((((((((w.setCell ⟨g, 0, none⟩ v0).setCell ⟨g, 1, none⟩ v1).setCell ⟨g, 2, none⟩ v2).setCell ⟨g, 3, none⟩ v3).setCell ⟨g, 4, none⟩ v4).setCell ⟨g, 5, none⟩ v5).setCell ⟨g, 6, none⟩ v6).setCell ⟨g, 7, none⟩ v7).setCell ⟨g, 8, none⟩ v8).setCell ⟨g, 9, none⟩ v9) g t #[v0, v1, v2, v3, v4, v5, v6, v7, v8, v9] := h8.set 9 v9
  have k9 : Kept w0 ((((((((((w.setCell ⟨g, 0, none⟩ v0).setCell ⟨g, 1, none⟩ v1).setCell ⟨g, 2, none⟩ v2).setCell ⟨g, 3, none⟩ v3).setCell ⟨g, 4, none⟩ v4).setCell ⟨g, 5, none⟩ v5).setCell ⟨g, 6, none⟩ v6).setCell ⟨g, 7, none⟩ v7).setCell ⟨g, 8, none⟩ v8).setCell ⟨g, 9, none⟩ v9) := only_kept k8 (Only.setCell g 9 v9) hg
  exact ⟨h9.kept (kept_drewN _ 1), k9.trans (kept_drewN _ 1)⟩
set_option maxRecDepth 100000 in
set_option maxHeartbeats 3200000 in
theorem rset8 (y : StyT) (a : Option Addr) (n c : Nat) (v : Bs) (w : World) (hv : v.length ≤ 9223372036854775807) : Calls Tryz.prog 28 #[styV (.slice a n c) y, .int .i64 8, .string (bs v)] w (SetP (.slice a n c) (setY y 8 v) (decB v) w) := by
  have HD := Lib.hid (fun w => rdecimal_any v w hv)
  have HG := Lib.hid (decI_ge v)
  have HSY : Hid (setY y 8 v = { y with most := decI v }) := rfl
  rw [HSY.out, ← HG.out]
  generalize decI v = d at *
  obtain ⟨hs, hr, hk⟩ := set_blks w (.slice a n c) y
  unfold SetP styV styCells
  clear HG HSY
  go_enter Tryz.func28, Tryz.ntmps28
  go_wp2_with fail
  have HS := Lib.hid hs
  have HR := Lib.hid hr
  have HK := Lib.hid hk
  clear hs hr hk
  generalize World.alloc (World.alloc _ _) _ = w0 at HS HR HK ⊢
  obtain ⟨S, HSS⟩ : ∃ B, Hid (w.heap.size = B) := ⟨_, rfl⟩
  have hSz : w.heap.size ≤ S := by rw [HSS.out]; exact Nat.le_refl _
  rw [HSS.out] at HS HR ⊢
  refine (HD.out _).mono ?_
  rintro e w1 ⟨rfl, hk1⟩
  have HK1 := Lib.hid (HK.out.trans hk1)
  have HS1 := Lib.hid (HS.out.kept hk1)
  have HR1 := Lib.hid (HR.out.kept hk1)
  clear hk1 HS HR HK HD HSS
  have s8 : w1.cell? ⟨S, 8, none⟩ = some (.int .i64 y.most) := HS1.out.cell 8 _ rfl
  have f8 : w1.frozen? ⟨S, 8, none⟩ = false := HS1.out.free 8
  have z8 := HS1.out.lt
  go_wp2_with fail
  have HS2 : Hid (Blk (w1.setCell ⟨S, 8, none⟩ (.int .i64 d)) S 24 (styCells (.slice a n c) { y with most := d })) := HS1.out.set 8 (.int .i64 d)
  have HR2 : Hid (Blk (w1.setCell ⟨S, 8, none⟩ (.int .i64 d)) (S + 1) 24 (styCells (.slice none 0 0) zeroY)) := HR1.out.other S 8 (.int .i64 d) (by omega)
  have HK2 : Hid (Kept w (w1.setCell ⟨S, 8, none⟩ (.int .i64 d))) := only_kept HK1.out (Only.setCell S 8 (.int .i64 d)) hSz
  generalize World.setCell w1 _ _ = w2 at HS2 HR2 HK2 ⊢
  clear HS1 HR1 HK1 s8 f8 z8
  obtain ⟨⟨s0, s1, s2, s3, s4, s5, s6, s7, s8, s9⟩, sz⟩ := sty_cells HS2.out
  obtain ⟨⟨t0, t1, t2, t3, t4, t5, t6, t7, t8, t9⟩, tz⟩ := sty_cells HR2.out
  have f0 := HR2.out.free 0
  have f1 := HR2.out.free 1
  have f2 := HR2.out.free 2
  have f3 := HR2.out.free 3
  have f4 := HR2.out.free 4
  have f5 := HR2.out.free 5
  have f6 := HR2.out.free 6
  have f7 := HR2.out.free 7
  have f8 := HR2.out.free 8
  have f9 := HR2.out.free 9
  simp only [zeroY] at s0 s1 s2 s3 s4 s5 s6 s7 s8 t0 t1 t2 t3 t4 t5 t6 t7 t8
  go_region
  all_goals
    obtain ⟨hbx, hkx⟩ := chain_blk (v0 := .string (bs y.name)) (v1 := .bool y.numeric) (v2 := .string (bs y.sort)) (v3 := .string (bs y.cite)) (v4 := .string (bs y.bare)) (v5 := .string (bs y.between)) (v6 := .string (bs y.begin_)) (v7 := .string (bs y.end_)) (v8 := .int .i64 d) (v9 := .slice a n c) HR2.out HK2.out (by omega)
    have HBX := Lib.hid hbx
    have HKX := Lib.hid hkx
    clear hbx hkx
    generalize World.drew _ = w9 at HBX HKX ⊢
    clear s0 s1 s2 s3 s4 s5 s6 s7 s8 s9 sz t0 t1 t2 t3 t4 t5 t6 t7 t8 t9 tz f0 f1 f2 f3 f4 f5 f6 f7 f8 f9
    obtain ⟨⟨r0, r1, r2, r3, r4, r5, r6, r7, r8, r9⟩, rz⟩ := sty_cells (vE := .slice a n c) (y := { y with most := d }) HBX.out
    have HFIN : Hid ((Ending.returned (.tuple #[styV (.slice a n c) { y with most := d }, .bool (decide (0 ≤ d))]) = .returned (.tuple #[.agg #[.string (bs y.name), .bool y.numeric, .string (bs y.sort), .string (bs y.cite), .string (bs y.bare), .string (bs y.between), .string (bs y.begin_), .string (bs y.end_), .int .i64 d, .slice a n c], .bool (decide (0 ≤ d))])) ∧ Kept w w9) := ⟨rfl, HKX.out⟩
    simp only at r0 r1 r2 r3 r4 r5 r6 r7 r8
    go_wp2_with fail
    refine bodyPost_ret (v := .tuple #[styV (.slice a n c) { y with most := d }, .bool (decide (0 ≤ d))]) ?_ rfl HFIN.out
    simp [results, Tryz.results28, go_sem, r0, r1, r2, r3, r4, r5, r6, r7, r8, r9, rz, styV, styCells]
end Go.Proofs.YtafcngdnngpdnaaGreatDoor
