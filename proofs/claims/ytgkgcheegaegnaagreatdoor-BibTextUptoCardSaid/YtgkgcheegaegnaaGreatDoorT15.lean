/- letter, part, word and Name of publisherref03. Conditions: lengths. -/
import Derived.Test.YtgkgcheegaegnaaGreatDoorT14
import Derived.Test.YtgkgcheegaegnaaGreatDoorT11
import Derived.Test.YtgkgcheegaegnaaGreatDoorT12

set_option linter.all false
namespace Go.Proofs.YtgkgcheegaegnaaGreatDoor
open Go.RowKit

theorem ret_bl {a b : Bool} (h : a = b) : Ending.returned (.bool a) = .returned (.bool b) := by rw [h]
def ltB (c : Int) : Bool := decide (97 ≤ c ∧ c ≤ 122 ∨ 65 ≤ c ∧ c ≤ 90)
def ptB (c : Int) : Bool := decide ((97 ≤ c ∧ c ≤ 122 ∨ 65 ≤ c ∧ c ≤ 90) ∨ 48 ≤ c ∧ c ≤ 57 ∨ c = 45 ∨ c = 95 ∨ c = 46 ∨ c = 58)
theorem ltB_at (l : Bs) (i : Nat) (h : i < l.length) : ltB (at8 l i) = letB l[i] := by
  have := let_at l i h
  unfold lttI at this
  unfold ltB
  rw [Bool.eq_iff_iff, decide_eq_true_iff, this]
theorem ptB_at (l : Bs) (i : Nat) (h : i < l.length) : ptB (at8 l i) = nmB l[i] := by
  have := nm_at l i h
  unfold lttI restI at this
  unfold ptB
  rw [Bool.eq_iff_iff, decide_eq_true_iff, this]
set_option maxRecDepth 100000 in
set_option maxHeartbeats 1600000 in
theorem rletter_any (c : Int) (w : World) (h0 : 0 ≤ c) (h1 : c ≤ 255) : Calls Tryz.prog 73 #[.int .u8 c] w fun e w' => e = .returned (.bool (ltB c)) ∧ w = w' := by
  rcases (by omega : c < 65 ∨ (65 ≤ c ∧ c ≤ 90) ∨ (91 ≤ c ∧ c ≤ 96) ∨ (97 ≤ c ∧ c ≤ 122) ∨ 122 < c) with h | ⟨h, h'⟩ | ⟨h, h'⟩ | ⟨h, h'⟩ | h
  all_goals
    first
      | have HB : Hid (ltB c = true) := by (show _ = _; unfold ltB; rw [decide_eq_true_iff]; omega)
      | have HB : Hid (ltB c = false) := by (show _ = _; unfold ltB; rw [decide_eq_false_iff_not]; omega)
    go_enter Tryz.func73, Tryz.ntmps73
    go_wp2_with fail
    go_ret
    exact ⟨ret_bl (by first | exact HB.out.symm | (refine Eq.trans ?_ HB.out.symm; simp; omega)), rfl⟩
set_option maxRecDepth 100000 in
set_option maxHeartbeats 1600000 in
theorem rpartc_any (c : Int) (w : World) (h0 : 0 ≤ c) (h1 : c ≤ 255) : Calls Tryz.prog 90 #[.int .u8 c] w fun e w' => e = .returned (.bool (ptB c)) ∧ w = w' := by
  have HL := Lib.hid (rletter_any c w h0 h1)
  cases hl : ltB c
  · rw [hl] at HL
    have hnl : ¬ (97 ≤ c ∧ c ≤ 122 ∨ 65 ≤ c ∧ c ≤ 90) := by unfold ltB at hl; rwa [decide_eq_false_iff_not] at hl
    rcases (by omega : (c < 45) ∨ c = 45 ∨ c = 46 ∨ c = 47 ∨ (48 ≤ c ∧ c ≤ 57) ∨ c = 58 ∨ (59 ≤ c ∧ c ≤ 64) ∨ (91 ≤ c ∧ c ≤ 94) ∨ c = 95 ∨ c = 96 ∨ (122 < c)) with h | h | h | h | ⟨h, h'⟩ | h | ⟨h, h'⟩ | ⟨h, h'⟩ | h | h | h
    all_goals
      first
        | have HB : Hid (ptB c = true) := by (show _ = _; unfold ptB; rw [decide_eq_true_iff]; omega)
        | have HB : Hid (ptB c = false) := by (show _ = _; unfold ptB; rw [decide_eq_false_iff_not]; omega)
      clear hnl hl
      try subst h
      go_enter Tryz.func90, Tryz.ntmps90
      go_wp2_with fail
      refine HL.out.mono ?_
      rintro e w' ⟨rfl, rfl⟩
      go_wp2_with fail
      go_ret
      exact ⟨ret_bl (by first | exact HB.out.symm | (refine Eq.trans ?_ HB.out.symm; simp; omega)), rfl⟩
  · rw [hl] at HL
    have HB : Hid (ptB c = true) := by (show _ = _; unfold ltB at hl; rw [decide_eq_true_iff] at hl; unfold ptB; rw [decide_eq_true_iff]; exact .inl hl)
    clear hl
    go_enter Tryz.func90, Tryz.ntmps90
    go_wp2_with fail
    refine HL.out.mono ?_
    rintro e w' ⟨rfl, rfl⟩
    go_wp2_with fail
    go_ret
    exact ⟨ret_bl (by first | exact HB.out.symm | (refine Eq.trans ?_ HB.out.symm; simp; omega)), rfl⟩
theorem all_take (l : Bs) (k : Nat) (h : k < l.length) (ha : (l.take k).all nmB = true) (hb : nmB l[k] = true) : (l.take (k + 1)).all nmB = true := by
  rw [List.take_succ_eq_append_getElem h, List.all_append, ha]; simp [hb]
theorem all_not (l : Bs) (k : Nat) (h : k < l.length) (hb : nmB l[k] = false) : l.all nmB = false := by
  rw [List.all_eq_false]; exact ⟨l[k], List.getElem_mem h, by rw [hb]; simp⟩
set_option maxRecDepth 100000 in
set_option maxHeartbeats 1600000 in
theorem rword_any (l : Bs) (w : World) (hs : l.length ≤ 1100000) : Calls Tryz.prog 74 #[.string (bs l), .int .i64 0] w fun e w' => (∃ k : Nat, e = .returned (.int .i64 k) ∧ (k == l.length) = l.all nmB ∧ k ≤ l.length) ∧ w = w' := by
  have HP := Lib.hid (fun c w h0 h1 => rpartc_any c w h0 h1)
  go_enter Tryz.func74, Tryz.ntmps74
  go_wp2_with fail
  go_loop [1] (fun i => ∃ k : Nat, k ≤ l.length ∧ i = .int .i64 k ∧ Hid ((l.take k).all nmB = true)) (fun i => l.length - (intOf i).toNat)
  case atStart => exact ⟨0, Nat.zero_le _, rfl, rfl⟩
  case round =>
    obtain ⟨k, hk, rfl, HA⟩ := hrel
    by_cases hlt : k < l.length
    · have i0 := run_ix (P := Tryz.prog) (t := 9) Tryz.underlying9 l k hlt k rfl
      have h0 := at8_lo l k
      have h1 := at8_hi l k
      have HAT := Lib.hid (ptB_at l k hlt)
      have HS := Lib.hid (fun hb => all_take l k hlt HA.out hb)
      have HNO := Lib.hid (fun hb => all_not l k hlt hb)
      rw [← HAT.out] at HS HNO
      generalize at8 l k = b at *
      go_wp2_with fail
      refine (HP.out _ _ h0 (by omega)).mono ?_
      rintro e w' ⟨rfl, rfl⟩
      cases hb : ptB b
      · have HF := Lib.hid (HNO.out hb)
        go_wp2_with fail
        go_ret
        exact ⟨⟨k, rfl, by rw [HF.out]; simp; omega, by omega⟩, rfl⟩
      · have HF := Lib.hid (HS.out hb)
        go_wp2_with fail
        go_round
        case rel => exact ⟨k + 1, by omega, by go_num, HF.out⟩
        case measure => simp [intOf]; omega
    · obtain rfl : k = l.length := by omega
      have HF : Hid (l.all nmB = true) := by
        show _ = _
        have h := HA.out
        rwa [List.take_of_length_le (Nat.le_refl _)] at h
      clear HA
      go_wp2_with fail
      go_ret
      exact ⟨⟨_, rfl, by rw [HF.out]; simp, Nat.le_refl _⟩, rfl⟩
set_option maxRecDepth 100000 in
set_option maxHeartbeats 1600000 in
theorem rname_any (l : Bs) (w : World) (hs : l.length ≤ 1100000) : Calls Tryz.prog 53 #[.string (bs l)] w fun e w' => e = .returned (.bool (nameB l)) ∧ Kept w w' := by
  have HW := Lib.hid (fun w => rword_any l w hs)
  have HLT := Lib.hid (fun c w h0 h1 => rletter_any c w h0 h1)
  by_cases h1 : l.length = 0
  · have HB : Hid (nameB l = false) := by
      show _ = _
      obtain rfl := List.length_eq_zero_iff.1 h1
      rfl
    go_enter Tryz.func53, Tryz.ntmps53
    go_wp2_with fail
    go_ret
    exact ⟨ret_bl (by first | exact HB.out.symm | (refine Eq.trans ?_ HB.out.symm; simp; omega)), Kept.refl _⟩
  by_cases h60 : 60 < l.length
  · have HB : Hid (nameB l = false) := by
      show _ = _
      rw [nameB_cons l (by omega), decide_eq_false (by omega)]; rfl
    go_enter Tryz.func53, Tryz.ntmps53
    go_wp2_with fail
    go_ret
    exact ⟨ret_bl (by first | exact HB.out.symm | (refine Eq.trans ?_ HB.out.symm; simp; omega)), Kept.refl _⟩
  · have HB : Hid (nameB l = (ltB (at8 l 0) && l.all nmB)) := by
      show _ = _
      rw [nameB_cons l (by omega), decide_eq_true (by omega), ltB_at l 0 (by omega)]; rfl
    have i0 := run_ix (P := Tryz.prog) (t := 9) Tryz.underlying9 l 0 (by omega) 0 rfl
    have c0 := at8_lo l 0
    have c1 := at8_hi l 0
    generalize at8 l 0 = b at *
    generalize l.all nmB = al at *
    generalize nameB l = nb at *
    have hp : 1 ≤ l.length := by omega
    go_enter Tryz.func53, Tryz.ntmps53
    go_wp2_with fail
    refine (HLT.out _ _ c0 (by omega)).mono ?_
    rintro e w' ⟨rfl, rfl⟩
    cases hb : ltB b
    · rw [hb] at HB
      go_wp2_with fail
      go_ret
      exact ⟨ret_bl HB.out.symm, Kept.refl _⟩
    · rw [hb] at HB
      go_wp2_with fail
      refine (HW.out _).mono ?_
      rintro e w' ⟨⟨k, rfl, hk, hkl⟩, rfl⟩
      go_wp2_with fail
      go_ret
      exact ⟨ret_bl (by rw [HB.out, ← hk]; first | rfl | (simp only [Bool.true_and]; rw [Bool.eq_iff_iff, beq_iff_eq, beq_iff_eq]; omega)), Kept.refl _⟩
end Go.Proofs.YtgkgcheegaegnaaGreatDoor

/- index of publisherref30. Conditions: lengths. -/
set_option linter.all false
namespace Go.Proofs.YtgkgcheegaegnaaGreatDoor
open Go.RowKit

/-- The index of the first byte c, or -1. -/
def idxI (c : UInt8) (l : Bs) : Int := if before c l < l.length then (before c l : Int) else -1
theorem before_all (c : UInt8) (l : Bs) (k : Nat) (h : k < l.length) (ha : ∀ j (hj : j < l.length), j < k → l[j] ≠ c) (hk : l[k] = c) : before c l = k := by
  unfold before
  have e : l = l.take k ++ l[k] :: l.drop (k + 1) := by rw [← List.drop_eq_getElem_cons h, List.take_append_drop]
  have ht : ∀ a ∈ l.take k, (decide (a ≠ c)) = true := by
    intro a hm
    obtain ⟨j, hj, rfl⟩ := List.mem_iff_getElem.1 hm
    simp only [List.length_take] at hj
    rw [List.getElem_take]
    simpa using ha j (by omega) (by omega)
  conv => lhs; rw [e]
  rw [List.takeWhile_append_of_pos ht, List.takeWhile_cons_of_neg (by simp [hk])]
  simp; omega
theorem before_nil (c : UInt8) (l : Bs) (ha : ∀ j (hj : j < l.length), l[j] ≠ c) : before c l = l.length := by
  unfold before
  have ht : ∀ a ∈ l, (decide (a ≠ c)) = true := by
    intro a hm
    obtain ⟨j, hj, rfl⟩ := List.mem_iff_getElem.1 hm
    simpa using ha j hj
  have := List.takeWhile_append_of_pos (l₂ := ([] : Bs)) ht
  simp only [List.append_nil, List.takeWhile_nil] at this
  rw [this]
set_option maxRecDepth 100000 in
set_option maxHeartbeats 1600000 in
theorem rindex_any (l : Bs) (c : UInt8) (n : Int) (hn : n = (c.toNat : Int)) (w : World) (hl : l.length ≤ 1100000) : Calls Tryz.prog 52 #[.string (bs l), .int .u8 n] w fun e w' => e = .returned (.int .i64 (idxI c l)) ∧ w = w' := by
  have HAT := Lib.hid (before_all c l)
  have HNO := Lib.hid (before_nil c l)
  have HI : Hid (idxI c l = if before c l < l.length then (before c l : Int) else -1) := rfl
  have h0 : 0 ≤ n := by omega
  have h255 : n < 256 := by have := c.toNat_lt; omega
  go_enter Tryz.func52, Tryz.ntmps52
  go_wp2_with fail
  go_loop [5] (fun i => ∃ k : Nat, k ≤ l.length ∧ i = .int .i64 k ∧ Hid (∀ j (hj : j < l.length), j < k → l[j] ≠ c)) (fun i => l.length - (intOf i).toNat)
  case atStart => exact ⟨0, Nat.zero_le _, rfl, fun j hj h => by omega⟩
  case round =>
    obtain ⟨k, hk, rfl, HA⟩ := hrel
    by_cases hlt : k < l.length
    · have i0 := run_ix (P := Tryz.prog) (t := 9) Tryz.underlying9 l k hlt k rfl
      have HC : Hid (at8 l k = n ↔ l[k] = c) := by
        show _ ↔ _
        rw [at8_get l k hlt, hn]
        constructor
        · intro h; exact UInt8.toNat_inj.1 (by omega)
        · intro h; rw [h]
      by_cases hb : at8 l k = n
      · have HF := Lib.hid (HAT.out k hlt HA.out (HC.out.1 hb))
        have hb' : (at8 l k == n) = true := by simpa using hb
        generalize at8 l k = b at *
        clear hb HC HA hn
        go_wp2_with fail
        go_ret
        exact ⟨ret_int (by rw [HI.out, HF.out, if_pos hlt]), rfl⟩
      · have HN : Hid (∀ j (hj : j < l.length), j < k + 1 → l[j] ≠ c) := by
          intro j hj hjk
          by_cases q : j < k
          · exact HA.out j hj q
          · obtain rfl : j = k := by omega
            exact fun h => hb (HC.out.2 h)
        have hb' : (at8 l k == n) = false := by simpa using hb
        generalize at8 l k = b at *
        clear hb HC HA hn
        go_wp2_with fail
        go_round
        case rel => exact ⟨k + 1, by omega, by go_num, HN.out⟩
        case measure => simp [intOf]; omega
    · have HF := Lib.hid (HNO.out (fun j hj => HA.out j hj (by omega)))
      clear HA hn
      go_wp2_with fail
      go_ret
      exact ⟨ret_int (by rw [HI.out, HF.out, if_neg (by omega)]), rfl⟩
end Go.Proofs.YtgkgcheegaegnaaGreatDoor
