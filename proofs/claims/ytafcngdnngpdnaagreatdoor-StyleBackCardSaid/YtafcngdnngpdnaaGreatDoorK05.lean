/- Contracts of the reference of layer 1 that read one code point. No condition but the length of a string. -/
import Derived.Test.YtafcngdnngpdnaaGreatDoorK04
import Derived.Test.YtafcngdnngpdnaaGreatDoorK01

set_option linter.all false
namespace Go.Proofs.YtafcngdnngpdnaaGreatDoor
open Go.RowKit

def cleanOf (c : Int) : Bool := decide (c = 10 ∨ 32 ≤ c ∧ c ≠ 127)
theorem rclean_any (c : Int) (w : World) :
    Calls Tryz.prog 97 #[.int .i64 c] w fun e w' => e = .returned (.bool (cleanOf c)) ∧ w = w' := by
  go_enter Tryz.func97, Tryz.ntmps97
  go_wp2
  all_goals go_ret
  all_goals exact ⟨ret_bool (by unfold cleanOf; rw [Bool.eq_iff_iff]; simp; omega), rfl⟩

set_option maxHeartbeats 400000 in
theorem more_any (s : ByteArray) (i : Nat) (low high : Int) (w : World) (j : Int) (hj : j = i) (hs : s.size ≤ 1000000000) (hi : i ≤ 1000000010) :
    Calls Tryz.prog 129 #[.string s, .int .i64 j, .int .i64 low, .int .i64 high] w fun e w' => e = .returned (.int .i64 (moreOf s i low high)) ∧ w = w' := by
  subst hj
  by_cases h : i < s.size
  · have i0 := run_at (P := Tryz.prog) (t := 9) Tryz.underlying9 s i h i rfl
    have h0 := byteAt_lo s i
    have h1 := byteAt_hi s i
    have HM : Hid (moreOf s i low high = if byteAt s i < low ∨ high < byteAt s i then -1 else byteAt s i - 128) := by
      show _ = _
      unfold moreOf
      by_cases q : byteAt s i < low ∨ high < byteAt s i
      · rw [if_pos (.inr q), if_pos q]
      · rw [if_neg (by omega), if_neg q]
    generalize byteAt s i = b at *
    go_enter Tryz.func129, Tryz.ntmps129
    go_wp2
    all_goals go_ret
    all_goals exact ⟨ret_int (by rw [HM.out]; first | rw [if_pos (by omega)] | rw [if_neg (by omega)]), rfl⟩
  · have HM : Hid (moreOf s i low high = -1) := by
      show _ = _
      unfold moreOf
      rw [if_pos (.inl (by omega))]
    go_enter Tryz.func129, Tryz.ntmps129
    go_wp2
    all_goals go_ret
    all_goals exact ⟨ret_int HM.out.symm, rfl⟩


set_option maxHeartbeats 800000 in
theorem three_any (s : ByteArray) (i : Nat) (w : World) (hs : s.size ≤ 1000000000) (hi : i < s.size) :
    Calls Tryz.prog 130 #[.string s, .int .i64 i] w fun e w' => e = .returned (.agg #[.int .i64 (three s i).1, .int .i64 (three s i).2]) ∧ Kept w w' := by
  have i0 := run_at (P := Tryz.prog) (t := 9) Tryz.underlying9 s i hi i rfl
  have h0 := byteAt_lo s i
  have h1 := byteAt_hi s i
  have ht : three s i = if moreOf s (i + 1) (low3 (byteAt s i)) (high3 (byteAt s i)) < 0 ∨ moreOf s (i + 2) 128 191 < 0 then (65533, 1)
      else ((byteAt s i - 224) * 4096 + moreOf s (i + 1) (low3 (byteAt s i)) (high3 (byteAt s i)) * 64 + moreOf s (i + 2) 128 191, 3) := rfl
  have hb1 : moreOf s (i + 1) (low3 (byteAt s i)) (high3 (byteAt s i)) ≤ 63 := by
    have := byteAt_hi s (i + 1); unfold moreOf high3; split <;> omega
  have hb2 : moreOf s (i + 2) 128 191 ≤ 63 := by unfold moreOf; split <;> omega
  have hc : ((byteAt s i == 224) = true ∧ (byteAt s i == 237) = false ∧ low3 (byteAt s i) = 160 ∧ high3 (byteAt s i) = 191) ∨
      ((byteAt s i == 224) = false ∧ (byteAt s i == 237) = true ∧ low3 (byteAt s i) = 128 ∧ high3 (byteAt s i) = 159) ∨
      ((byteAt s i == 224) = false ∧ (byteAt s i == 237) = false ∧ low3 (byteAt s i) = 128 ∧ high3 (byteAt s i) = 191) := by
    unfold low3 high3
    simp only [beq_iff_eq, beq_eq_false_iff_ne, ne_eq]
    omega
  generalize byteAt s i = b at *
  rcases hc with ⟨e1, e2, l1, l2⟩ | ⟨e1, e2, l1, l2⟩ | ⟨e1, e2, l1, l2⟩
  all_goals
    rw [l1, l2] at ht hb1
    have HT := Lib.hid ht
    clear ht l1 l2
    go_enter Tryz.func130, Tryz.ntmps130
    go_wp2_with (first | (go_at_call 129; refine (more_any _ (i + 1) _ _ _ _ (by omega) (by omega) (by omega)).mono ?_; rintro e w' ⟨rfl, rfl⟩) | (go_at_call 129; refine (more_any _ (i + 2) _ _ _ _ (by omega) (by omega) (by omega)).mono ?_; rintro e w' ⟨rfl, rfl⟩))
    all_goals first
      | (have q := HT.out; rw [if_pos (by omega)] at q; rw [q]; exact bodyPost_ret (v := .agg #[.int .i64 65533, .int .i64 1]) (by simp [results, Tryz.results130, go_sem]) rfl ⟨rfl, kept_alloc _ _⟩)
      | (have q := HT.out; rw [if_neg (by omega)] at q; rw [q]; exact bodyPost_ret (v := .agg #[.int .i64 _, .int .i64 3]) (by simp [results, Tryz.results130, go_sem]) rfl ⟨rfl, kept_alloc _ _⟩)

set_option maxHeartbeats 1600000 in
theorem four_any (s : ByteArray) (i : Nat) (w : World) (hs : s.size ≤ 1000000000) (hi : i < s.size) :
    Calls Tryz.prog 131 #[.string s, .int .i64 i] w fun e w' => e = .returned (.agg #[.int .i64 (four s i).1, .int .i64 (four s i).2]) ∧ Kept w w' := by
  have i0 := run_at (P := Tryz.prog) (t := 9) Tryz.underlying9 s i hi i rfl
  have h0 := byteAt_lo s i
  have h1 := byteAt_hi s i
  have ht : four s i = if moreOf s (i + 1) (low4 (byteAt s i)) (high4 (byteAt s i)) < 0 ∨ moreOf s (i + 2) 128 191 < 0 ∨ moreOf s (i + 3) 128 191 < 0 then (65533, 1)
      else ((byteAt s i - 240) * 262144 + moreOf s (i + 1) (low4 (byteAt s i)) (high4 (byteAt s i)) * 4096 + moreOf s (i + 2) 128 191 * 64 + moreOf s (i + 3) 128 191, 4) := rfl
  have hb1 : moreOf s (i + 1) (low4 (byteAt s i)) (high4 (byteAt s i)) ≤ 63 := by
    have := byteAt_hi s (i + 1); unfold moreOf high4; split <;> omega
  have hb2 : moreOf s (i + 2) 128 191 ≤ 63 := by unfold moreOf; split <;> omega
  have hb3 : moreOf s (i + 3) 128 191 ≤ 63 := by unfold moreOf; split <;> omega
  have hc : ((byteAt s i == 240) = true ∧ (byteAt s i == 244) = false ∧ low4 (byteAt s i) = 144 ∧ high4 (byteAt s i) = 191) ∨
      ((byteAt s i == 240) = false ∧ (byteAt s i == 244) = true ∧ low4 (byteAt s i) = 128 ∧ high4 (byteAt s i) = 143) ∨
      ((byteAt s i == 240) = false ∧ (byteAt s i == 244) = false ∧ low4 (byteAt s i) = 128 ∧ high4 (byteAt s i) = 191) := by
    unfold low4 high4
    simp only [beq_iff_eq, beq_eq_false_iff_ne, ne_eq]
    omega
  generalize byteAt s i = b at *
  rcases hc with ⟨e1, e2, l1, l2⟩ | ⟨e1, e2, l1, l2⟩ | ⟨e1, e2, l1, l2⟩
  all_goals
    rw [l1, l2] at ht hb1
    have HT := Lib.hid ht
    clear ht l1 l2
    go_enter Tryz.func131, Tryz.ntmps131
    go_wp2_with (first | (go_at_call 129; refine (more_any _ (i + 1) _ _ _ _ (by omega) (by omega) (by omega)).mono ?_; rintro e w' ⟨rfl, rfl⟩) | (go_at_call 129; refine (more_any _ (i + 2) _ _ _ _ (by omega) (by omega) (by omega)).mono ?_; rintro e w' ⟨rfl, rfl⟩) | (go_at_call 129; refine (more_any _ (i + 3) _ _ _ _ (by omega) (by omega) (by omega)).mono ?_; rintro e w' ⟨rfl, rfl⟩))
    all_goals first
      | (have q := HT.out; rw [if_pos (by omega)] at q; rw [q]; exact bodyPost_ret (v := .agg #[.int .i64 65533, .int .i64 1]) (by simp [results, Tryz.results131, go_sem]) rfl ⟨rfl, kept_alloc _ _⟩)
      | (have q := HT.out; rw [if_neg (by omega)] at q; rw [q]; exact bodyPost_ret (v := .agg #[.int .i64 _, .int .i64 4]) (by simp [results, Tryz.results131, go_sem]) rfl ⟨rfl, kept_alloc _ _⟩)

theorem keep_cell {W w1 : World} (hb : Kept W w1) : (∀ b o, b < W.heap.size → w1.cell? ⟨b, o, none⟩ = W.cell? ⟨b, o, none⟩) ∧ (∀ b o, b < W.heap.size → w1.frozen? ⟨b, o, none⟩ = W.frozen? ⟨b, o, none⟩) :=
  ⟨fun b o h => hb.cell (p := ⟨b, o, none⟩) h, fun b o h => hb.frozen (p := ⟨b, o, none⟩) h⟩

set_option maxHeartbeats 1600000 in
theorem at_any (s : ByteArray) (i : Nat) (w : World) (hs : s.size ≤ 1000000000) (hi : i < s.size) :
    Calls Tryz.prog 118 #[.string s, .int .i64 i] w fun e w' => e = .returned (.agg #[.int .i64 (dec s i).1, .int .i64 (dec s i).2]) ∧ Kept w w' := by
  have i0 := run_at (P := Tryz.prog) (t := 9) Tryz.underlying9 s i hi i rfl
  have h0 := byteAt_lo s i
  have h1 := byteAt_hi s i
  have HD : Hid (dec s i = if byteAt s i < 128 then (byteAt s i, 1)
    else if 194 ≤ byteAt s i ∧ byteAt s i ≤ 223 then
      if 0 ≤ moreOf s (i + 1) 128 191 then ((byteAt s i - 192) * 64 + moreOf s (i + 1) 128 191, 2) else (65533, 1)
    else if 224 ≤ byteAt s i ∧ byteAt s i ≤ 239 then three s i
    else if 240 ≤ byteAt s i ∧ byteAt s i ≤ 244 then four s i
    else (65533, 1)) := rfl
  have hb1 : moreOf s (i + 1) 128 191 ≤ 63 := by unfold moreOf; split <;> omega
  generalize byteAt s i = b at *
  by_cases c1 : b < 128
  · have q := HD.out; rw [if_pos c1] at q; rw [q]; clear q HD
    go_enter Tryz.func118, Tryz.ntmps118
    go_wp2_with fail
    exact bodyPost_ret (v := .agg #[.int .i64 _, .int .i64 _]) (by simp [results, Tryz.results118, go_sem]) rfl ⟨rfl, kept_alloc _ _⟩
  by_cases c2 : 194 ≤ b ∧ b ≤ 223
  · have q := HD.out; rw [if_neg c1, if_pos c2] at q; rw [q]; clear q HD
    by_cases c3 : 0 ≤ moreOf s (i + 1) 128 191
    · rw [if_pos c3]
      go_enter Tryz.func118, Tryz.ntmps118
      go_wp2_with (go_at_call 129; refine (more_any _ (i + 1) _ _ _ _ (by omega) (by omega) (by omega)).mono ?_; rintro e w' ⟨rfl, rfl⟩)
      exact bodyPost_ret (v := .agg #[.int .i64 _, .int .i64 _]) (by simp [results, Tryz.results118, go_sem]) rfl ⟨rfl, kept_alloc _ _⟩
    · rw [if_neg c3]
      go_enter Tryz.func118, Tryz.ntmps118
      go_wp2_with (go_at_call 129; refine (more_any _ (i + 1) _ _ _ _ (by omega) (by omega) (by omega)).mono ?_; rintro e w' ⟨rfl, rfl⟩)
      exact bodyPost_ret (v := .agg #[.int .i64 _, .int .i64 _]) (by simp [results, Tryz.results118, go_sem]) rfl ⟨rfl, kept_alloc _ _⟩
  by_cases c3 : 224 ≤ b ∧ b ≤ 239
  · have q := HD.out; rw [if_neg c1, if_neg c2, if_pos c3] at q; rw [q]; clear q HD
    go_enter Tryz.func118, Tryz.ntmps118
    go_wp2_with fail
    refine (three_any _ _ _ (by omega) (by omega)).mono ?_
    rintro e w1 ⟨rfl, hk⟩
    obtain ⟨kc, kf⟩ := keep_cell hk
    have hz : w.heap.size < w1.heap.size := by have := hk.size; simp at this; omega
    have Hk := Lib.hid hk
    clear hk
    go_wp2_with fail
    refine bodyPost_ret (v := .agg #[.int .i64 (three s i).1, .int .i64 (three s i).2]) (by simp [results, Tryz.results118, go_sem, hz, kc, kf]) rfl ⟨rfl, ?_⟩
    exact Below.setCell (Below.setCell ((kept_alloc w _).trans Hk.out) (Nat.le_refl _) _) (Nat.le_refl _) _
  by_cases c4 : 240 ≤ b ∧ b ≤ 244
  · have q := HD.out; rw [if_neg c1, if_neg c2, if_neg c3, if_pos c4] at q; rw [q]; clear q HD
    go_enter Tryz.func118, Tryz.ntmps118
    go_wp2_with fail
    refine (four_any _ _ _ (by omega) (by omega)).mono ?_
    rintro e w1 ⟨rfl, hk⟩
    obtain ⟨kc, kf⟩ := keep_cell hk
    have hz : w.heap.size < w1.heap.size := by have := hk.size; simp at this; omega
    have Hk := Lib.hid hk
    clear hk
    go_wp2_with fail
    refine bodyPost_ret (v := .agg #[.int .i64 (four s i).1, .int .i64 (four s i).2]) (by simp [results, Tryz.results118, go_sem, hz, kc, kf]) rfl ⟨rfl, ?_⟩
    exact Below.setCell (Below.setCell ((kept_alloc w _).trans Hk.out) (Nat.le_refl _) _) (Nat.le_refl _) _
  · have q := HD.out; rw [if_neg c1, if_neg c2, if_neg c3, if_neg c4] at q; rw [q]; clear q HD
    go_enter Tryz.func118, Tryz.ntmps118
    go_wp2_with fail
    all_goals exact bodyPost_ret (v := .agg #[.int .i64 _, .int .i64 _]) (by simp [results, Tryz.results118, go_sem]) rfl ⟨rfl, kept_alloc _ _⟩
end Go.Proofs.YtafcngdnngpdnaaGreatDoor

/- chars.Valid and the reference's Valid answer the same of any text: plain law and walks. No condition but the length. -/
set_option linter.all false
namespace Go.Proofs.YtafcngdnngpdnaaGreatDoor
open Go.RowKit

theorem moreOf_hi (s : ByteArray) (i : Nat) (l h : Int) (hh : h ≤ 191) : moreOf s i l h ≤ 63 := by unfold moreOf; split <;> omega
theorem dec_bounds (s : ByteArray) (i : Nat) (hi : i < s.size) : 0 ≤ (dec s i).1 ∧ (dec s i).1 ≤ 2000000 ∧ 1 ≤ (dec s i).2 ∧ (dec s i).2 ≤ 4 ∧ (i : Int) + (dec s i).2 ≤ s.size := by
  have h0 := byteAt_lo s i
  have m1 : ∀ k l h, 0 ≤ moreOf s k l h → k < s.size := fun k l h q => (more_yes q).1
  have hh : ∀ k l h, h ≤ 191 → moreOf s k l h ≤ 63 := fun k l h q => moreOf_hi s k l h q
  unfold dec
  split
  · simp only; omega
  split
  · split
    · rename_i q
      have := m1 _ _ _ q
      have := hh (i + 1) 128 191 (by omega)
      simp only; omega
    · simp only; omega
  split
  · unfold three
    split
    · simp only; omega
    · rename_i q
      have a1 := m1 (i + 2) 128 191 (by omega)
      have a2 := hh (i + 1) (low3 (byteAt s i)) (high3 (byteAt s i)) (by unfold high3; split <;> omega)
      have a3 := hh (i + 2) 128 191 (by omega)
      simp only; omega
  split
  · unfold four
    split
    · simp only; omega
    · rename_i q
      have a1 := m1 (i + 3) 128 191 (by omega)
      have a2 := hh (i + 1) (low4 (byteAt s i)) (high4 (byteAt s i)) (by unfold high4; split <;> omega)
      have a3 := hh (i + 2) 128 191 (by omega)
      have a4 := hh (i + 3) 128 191 (by omega)
      simp only; omega
  · simp only; omega

def goodPt (p : Int × Int) : Bool := cleanOf p.1 && !(p.1 == 65533 && p.2 == 1)
theorem unclean_clean (c : Int) : uncleanOf c = !cleanOf c := by
  unfold uncleanOf cleanOf
  rw [Bool.eq_iff_iff]; simp; omega
def validFrom (s : ByteArray) (i : Nat) : Bool :=
  if i < s.size then goodPt (dec s i) && validFrom s (i + (dec s i).2.toNat) else true
termination_by s.size - i
decreasing_by have := (dec_bounds s i (by assumption)).2.2.1; omega
theorem validFrom_in (s : ByteArray) (i : Nat) (h : i < s.size) : validFrom s i = (goodPt (dec s i) && validFrom s (i + (dec s i).2.toNat)) := by rw [validFrom, if_pos h]
theorem validFrom_out (s : ByteArray) (i : Nat) (h : ¬ i < s.size) : validFrom s i = true := by rw [validFrom, if_neg h]
def validB (s : ByteArray) : Bool := validFrom s 0
theorem validB_start (s : ByteArray) : Hid (validB s = validFrom s 0) := by unfold Hid validB; exact Eq.refl _

theorem drewN_more {w : World} {a b : Nat} : ∃ n, (w.drewN a).drewN b = w.drewN n := ⟨a + b, by simp [World.drewN, Nat.add_assoc]⟩

set_option maxRecDepth 100000 in
set_option maxHeartbeats 1600000 in
theorem valid_any (s : ByteArray) (w : World) (hs : s.size ≤ 1000000000) :
    Calls Tryz.prog 60 #[.string s] w fun e w' => e = .returned (.bool (validB s)) ∧ ∃ n, w' = w.drewN n := by
  go_enter Tryz.func60, Tryz.ntmps60
  go_wp2
  go_loopw [3] (fun i wr => ∃ k m : Nat, k ≤ s.size ∧ i = .int .i64 k ∧ Hid (validB s = validFrom s k) ∧ wr = w.drewN m) (fun i _ => s.size - (intOf i).toNat)
  case atStart => exact ⟨0, 0, Nat.zero_le _, rfl, validB_start s, rfl⟩
  case round =>
    obtain ⟨k, m, hk, rfl, HV, rfl⟩ := hrel
    by_cases hlt : k < s.size
    · have hb := dec_bounds s k hlt
      have HI : Hid (validFrom s k = (goodPt (dec s k) && validFrom s (k + (dec s k).2.toNat))) := validFrom_in s k hlt
      have HP : ∀ w, Calls Tryz.prog 89 #[.string s, .int .i64 k] w (NextPost s k w) := fun w => next_any s k w hs hlt
      unfold NextPost at HP
      have HP := Lib.hid HP
      obtain ⟨c, n, hd⟩ : ∃ c n, dec s k = (c, n) := ⟨_, _, rfl⟩
      rw [hd] at hb HI HP
      simp only at hb HI HP
      clear hd
      obtain ⟨b1, b2, b3, b4, b5⟩ := hb
      by_cases q1 : c = 65533 ∧ n = 1
      · have t1 : (c == 65533) = true := beq_iff_eq.2 q1.1
        have t2 : (n == 1) = true := beq_iff_eq.2 q1.2
        have HG : Hid (goodPt (c, n) = false) := by show _ = _; simp only [goodPt, t1, t2, Bool.and_self, Bool.not_true, Bool.and_false]
        clear q1
        go_wp2_with fail
        refine (HP.out _).mono ?_
        rintro e w' ⟨rfl, nq, rfl⟩
        go_wp2_with fail
        go_ret
        exact ⟨ret_bool (by rw [HV.out, HI.out, HG.out]; rfl), _, rfl⟩
      · have tt : (c == 65533) = false ∨ (c == 65533) = true ∧ (n == 1) = false := by
          simp only [beq_iff_eq, beq_eq_false_iff_ne, ne_eq]; omega
        have HG : Hid (goodPt (c, n) = !uncleanOf c) := by
          show _ = _
          rw [unclean_clean, Bool.not_not]
          rcases tt with t1 | ⟨t1, t2⟩
          · simp only [goodPt, t1, Bool.false_and, Bool.not_false, Bool.and_true]
          · simp only [goodPt, t1, t2, Bool.and_false, Bool.not_false, Bool.and_true]
        clear q1
        have HN : Hid (k + n.toNat ≤ s.size) := by show _ ≤ _; omega
        obtain ⟨n, rfl⟩ : ∃ n' : Nat, n = n' := ⟨n.toNat, by omega⟩
        obtain ⟨u, hu⟩ : ∃ u, uncleanOf c = u := ⟨_, rfl⟩
        rw [hu] at HG
        cases u
        all_goals
          rcases tt with t1 | ⟨t1, t2⟩
          all_goals
            go_wp2_with fail
            refine (HP.out _).mono ?_
            rintro e w' ⟨rfl, nq, rfl⟩
            go_wp2_with (go_at_call 90; refine (unclean_any _ _).mono ?_; rintro e w' ⟨rfl, rfl⟩)
            first
            | (go_ret
               exact ⟨ret_bool (by rw [HV.out, HI.out, HG.out]; rfl), _, rfl⟩)
            | (go_roundw
               case rel => exact ⟨k + n, _, by have := HN.out; simp at this; exact this, by go_num, by show _ = _; rw [HV.out, HI.out, HG.out]; simp, rfl⟩
               case measure => simp [intOf]; omega)
    · go_wp2_with fail
      go_ret
      exact ⟨ret_bool (by rw [HV.out, validFrom_out s k hlt]), _, rfl⟩
end Go.Proofs.YtafcngdnngpdnaaGreatDoor

/- The reference's Points and Valid: the code points of any text, and whether it is clean. No condition but the length. -/
set_option linter.all false
namespace Go.Proofs.YtafcngdnngpdnaaGreatDoor
open Go.RowKit

def pointsFrom (s : ByteArray) (i : Nat) : List (Int × Int) :=
  if i < s.size then dec s i :: pointsFrom s (i + (dec s i).2.toNat) else []
termination_by s.size - i
decreasing_by have := (dec_bounds s i (by assumption)).2.2.1; omega
theorem pointsFrom_in (s : ByteArray) (i : Nat) (h : i < s.size) : pointsFrom s i = dec s i :: pointsFrom s (i + (dec s i).2.toNat) := by rw [pointsFrom, if_pos h]
theorem pointsFrom_out (s : ByteArray) (i : Nat) (h : ¬ i < s.size) : pointsFrom s i = [] := by rw [pointsFrom, if_neg h]
def points (s : ByteArray) : List (Int × Int) := pointsFrom s 0
theorem points_start (s : ByteArray) : Hid (points s = [] ++ pointsFrom s 0) := by unfold Hid points; simp
def ptCells (l : List (Int × Int)) : List Value := l.flatMap fun p => [.int .i64 p.1, .int .i64 p.2]
theorem ptCells_length (l : List (Int × Int)) : (ptCells l).length = l.length * 2 := by
  unfold ptCells; induction l with
  | nil => rfl
  | cons a l ih => rw [List.flatMap_cons, List.length_append, ih]; simp; omega
theorem ptCells_snoc (l : List (Int × Int)) (c n : Int) : ptCells (l ++ [(c, n)]) = ptCells l ++ [.int .i64 c, .int .i64 n] := by unfold ptCells; simp
theorem ptCells_at (l : List (Int × Int)) (j : Nat) (p : Int × Int) (h : l[j]? = some p) : (ptCells l)[2 * j]? = some (.int .i64 p.1) ∧ (ptCells l)[2 * j + 1]? = some (.int .i64 p.2) := by
  induction l generalizing j with
  | nil => simp at h
  | cons a l ih =>
    cases j with
    | zero => simp at h; subst h; exact ⟨rfl, rfl⟩
    | succ j =>
      have := ih j (by simpa using h)
      unfold ptCells at this ⊢
      rw [List.flatMap_cons, show 2 * (j + 1) = 2 * j + 2 from by omega, show 2 * j + 2 + 1 = 2 * j + 1 + 2 from by omega]
      exact this

theorem Tryz.infoPt : (Tryz.prog.info? 131).map (fun i => (i.zero, i.size, i.bytes)) = some (some (.agg #[.int .i64 0, .int .i64 0]), 2, 16) := by kernel_rfl

theorem pts_len (s : ByteArray) (i : Nat) : (pointsFrom s i).length ≤ s.size - i := by
  rcases Nat.lt_or_ge i s.size with h | h
  · have hb := (dec_bounds s i h)
    have ih := pts_len s (i + (dec s i).2.toNat)
    rw [pointsFrom_in s i h, List.length_cons]
    omega
  · rw [pointsFrom_out s i (by omega)]; simp
termination_by s.size - i
decreasing_by have := (dec_bounds s i (by assumption)).2.2.1; omega

set_option maxRecDepth 100000 in
set_option maxHeartbeats 1600000 in
theorem points_any (s : ByteArray) (w : World) (hs : s.size ≤ 1000000000) :
    Calls Tryz.prog 96 #[.string s] w fun e w' => ∃ v, e = .returned v ∧ w'.ownsRow w.heap.size 131 2 v (points s).length (ptCells (points s)) ∧ Kept w w' := by
  obtain ⟨i0, hi, hz0, hz1, hz2⟩ := info_parts Tryz.infoPt
  obtain ⟨B, hB⟩ : ∃ B, B = w.heap.size := ⟨_, rfl⟩
  have HB := Lib.hid hB
  rw [← hB]
  clear hB
  go_enter Tryz.func96, Tryz.ntmps96
  go_wp2
  go_loopw [3, 4] (fun v i wr => ∃ (k : Nat) (pts : List (Int × Int)), k ≤ s.size ∧ i = .int .i64 k ∧ pts.length ≤ k ∧ wr.ownsRow B 131 2 v pts.length (ptCells pts) ∧ Hid (points s = pts ++ pointsFrom s k) ∧ Below B w wr) (fun _ i _ => s.size - (intOf i).toNat)
  case atStart => exact ⟨0, [], Nat.zero_le _, rfl, Nat.le_refl _, World.ownsRow_nil _ _ _ _, points_start s, Below.refl _ _⟩
  case round =>
    obtain ⟨k, pts, hk, rfl, hpl, hown, HP, hbel⟩ := hrel
    by_cases hlt : k < s.size
    · have hb := dec_bounds s k hlt
      have HI : Hid (pointsFrom s k = dec s k :: pointsFrom s (k + (dec s k).2.toNat)) := pointsFrom_in s k hlt
      have HC := Lib.hid (fun w => at_any s k w hs hlt)
      obtain ⟨c, n, hd⟩ : ∃ c n, dec s k = (c, n) := ⟨_, _, rfl⟩
      rw [hd] at hb HI HC
      simp only at hb HI HC
      clear hd
      obtain ⟨b1, b2, b3, b4, b5⟩ := hb
      obtain ⟨n, rfl⟩ : ∃ n' : Nat, n = n' := ⟨n.toNat, by omega⟩
      simp only [Int.toNat_natCast] at HI
      have HW := Lib.hid hown
      have HX := Lib.hid hbel
      clear hown hbel
      go_wp2_with fail
      refine (HC.out _).mono ?_
      rintro e w1 ⟨rfl, hk1⟩
      have hown1 := own_kept HW.out hk1
      have hs1 : B ≤ w1.heap.size := by have := HX.out.size; have := hk1.size; rw [HB.out]; omega
      have Hbel := Lib.hid (HX.out.trans (hk1.mono (by have := HX.out.size; rw [HB.out]; exact this)))
      clear hk1
      go_wp2_with (at_builtin; refine wpList_append_own _ rfl _ _ 128 rfl B 131 i0 (.agg #[.int .i64 0, .int .i64 0]) 2 16 Tryz.underlying128 hi hz0 hz1 hz2 rfl (by decide) _ _ _ rfl ((hown1.alloc _).alloc _) ⟨w1.heap.size + 1, 0, none⟩ 1 1 [.int .i64 c, .int .i64 n] rfl rfl ?c1 ?c2 ?c3 ?c4 ?c5 ?_)
      case c1 => exact new_cells _ #[.int .i64 c, .int .i64 n] _ _ (by simp)
      case c2 => intro u hu; simp at hu; rcases hu with rfl | rfl <;> rfl
      case c3 => unfold maxLen; omega
      case c4 => omega
      case c5 => simp; omega
      intro v' w2 hown2 hgrow _
      have hc2 : w2.cell? ⟨w1.heap.size, 1, none⟩ = some (.int .i64 n) := by
        rw [grown_cell hgrow _ _ (by simp; omega) (own_ne hown1 _ (Nat.le_refl _))]; simp
      have hbel2 : Below B w w2 := ((Hbel.out.alloc hs1 _).alloc (by simp; omega) _).trans (grown_below ((hown1.alloc _).alloc _) hgrow (by simp; omega))
      rw [← ptCells_snoc] at hown2
      have HO := Lib.hid hown2
      have HB2 := Lib.hid hbel2
      clear hown2 hgrow hbel2 hown1
      go_wp2_with fail
      go_roundw
      case rel =>
        refine ⟨k + n, pts ++ [(c, (n : Int))], by omega, by go_num, by simp; omega, ?_, ?_, HB2.out⟩
        · have := HO.out; simpa using this
        · show _ = _
          rw [HP.out, HI.out]; simp
      case measure => simp [intOf]; omega
    · have hown' := own_kept hown (Kept.refl _)
      go_wp2_with fail
      go_ret
      refine ⟨_, rfl, ?_, by rw [HB.out] at hbel; exact hbel⟩
      have : points s = pts := by rw [HP.out, pointsFrom_out s k hlt]; simp
      rw [this]; exact hown'
theorem validFrom_points (s : ByteArray) (i : Nat) : validFrom s i = (pointsFrom s i).all goodPt := by
  rcases Nat.lt_or_ge i s.size with h | h
  · have hb := (dec_bounds s i h)
    have ih := validFrom_points s (i + (dec s i).2.toNat)
    rw [pointsFrom_in s i h, validFrom_in s i h, List.all_cons, ih]
  · rw [pointsFrom_out s i (by omega), validFrom_out s i (by omega)]; rfl
termination_by s.size - i
decreasing_by have := (dec_bounds s i (by assumption)).2.2.1; omega
theorem validB_points (s : ByteArray) : validB s = (points s).all goodPt := validFrom_points s 0
end Go.Proofs.YtafcngdnngpdnaaGreatDoor
