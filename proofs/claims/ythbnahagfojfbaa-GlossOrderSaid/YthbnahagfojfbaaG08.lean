/- Contracts of the functions of package chars and of the reference of layer 1 that read one code point. No condition but the length of a string. -/
import Derived.Test.YthbnahagfojfbaaG07

set_option linter.all false
namespace Go.Proofs.Ythbnahagfojfbaa
open Go.RowKit

def widthOf (b : Int) : Int := if b < 128 then 1 else if 194 ≤ b ∧ b ≤ 223 then 2 else if 224 ≤ b ∧ b ≤ 239 then 3 else if 240 ≤ b ∧ b ≤ 244 then 4 else 0
def lowOf (b : Int) : Int := if b = 224 then 160 else if b = 240 then 144 else 128
def highOf (b : Int) : Int := if b = 237 then 159 else if b = 244 then 143 else 191
def uncleanOf (c : Int) : Bool := decide (c < 32 ∧ c ≠ 10 ∨ c = 127)

theorem i64_wraps (n : Int) (h₀ : 0 ≤ n) (h₁ : n < 2 ^ 31) : IntKind.i64.wrap n = n := by rw [IntKind.wrap_i64]; omega
theorem i64_mask (i : Nat) (hi : i ≤ 31) (x : Int) (h0 : 0 ≤ x) (h1 : x < 256) : bits .and .i64 x (2 ^ i - 1) = x % 2 ^ i :=
  bits_mask .i64 31 (by decide) i64_wraps i hi x h0 (by omega)
theorem i64_join6 (x y : Int) (hx0 : 0 ≤ x) (hx : x % 64 = 0) (hx1 : x < 1000000000) (h0 : 0 ≤ y) (h1 : y < 64) : bits .or .i64 x y = x + y :=
  bits_join .i64 31 (by decide) i64_wraps 6 x y hx0 (by omega) (by omega) h0 (by omega) (by omega)

/-- What the function answers: the code point and its number of bytes, as the model's decoder has them. -/
def NextPost (s : ByteArray) (i : Nat) (w : World) (e : Ending) (w' : World) : Prop := e = .returned (.tuple #[.int .i64 (dec s i).1, .int .i64 (dec s i).2]) ∧ ∃ n, w' = w.drewN n
theorem NextPost.mk {s : ByteArray} {i : Nat} {w : World} {e : Ending} {w' : World} {c n : Int} (h : dec s i = (c, n)) (he : e = .returned (.tuple #[.int .i64 c, .int .i64 n])) (hw : ∃ n, w' = w.drewN n) : NextPost s i w e w' := by
  unfold NextPost; rw [h]; exact ⟨he, hw⟩
theorem drew_none (w : World) : ∃ n, w = w.drewN n := ⟨0, rfl⟩
theorem drew_more (w : World) (n : Nat) : ∃ m, w.drewN n = w.drewN m := ⟨n, rfl⟩

end Go.Proofs.Ythbnahagfojfbaa

/- Contracts of the reference of layer 1 that read one code point. No condition but the length of a string. -/
set_option linter.all false
namespace Go.Proofs.Ythbnahagfojfbaa
open Go.RowKit

def cleanOf (c : Int) : Bool := decide (c = 10 ∨ 32 ≤ c ∧ c ≠ 127)
set_option maxHeartbeats 400000 in
theorem more_any (s : ByteArray) (i : Nat) (low high : Int) (w : World) (j : Int) (hj : j = i) (hs : s.size ≤ 1000000000) (hi : i ≤ 1000000010) :
    Calls Try.prog 80 #[.string s, .int .i64 j, .int .i64 low, .int .i64 high] w fun e w' => e = .returned (.int .i64 (moreOf s i low high)) ∧ w = w' := by
  subst hj
  by_cases h : i < s.size
  · have i0 := run_at (P := Try.prog) (t := 9) Try.underlying9 s i h i rfl
    have h0 := byteAt_lo s i
    have h1 := byteAt_hi s i
    have HM : Hid (moreOf s i low high = if byteAt s i < low ∨ high < byteAt s i then -1 else byteAt s i - 128) := by
      show _ = _
      unfold moreOf
      by_cases q : byteAt s i < low ∨ high < byteAt s i
      · rw [if_pos (.inr q), if_pos q]
      · rw [if_neg (by omega), if_neg q]
    generalize byteAt s i = b at *
    go_enter Try.func80, Try.ntmps80
    go_wp2
    all_goals go_ret
    all_goals exact ⟨ret_int (by rw [HM.out]; first | rw [if_pos (by omega)] | rw [if_neg (by omega)]), rfl⟩
  · have HM : Hid (moreOf s i low high = -1) := by
      show _ = _
      unfold moreOf
      rw [if_pos (.inl (by omega))]
    go_enter Try.func80, Try.ntmps80
    go_wp2
    all_goals go_ret
    all_goals exact ⟨ret_int HM.out.symm, rfl⟩


set_option maxHeartbeats 800000 in
theorem three_any (s : ByteArray) (i : Nat) (w : World) (hs : s.size ≤ 1000000000) (hi : i < s.size) :
    Calls Try.prog 81 #[.string s, .int .i64 i] w fun e w' => e = .returned (.agg #[.int .i64 (three s i).1, .int .i64 (three s i).2]) ∧ Kept w w' := by
  have i0 := run_at (P := Try.prog) (t := 9) Try.underlying9 s i hi i rfl
  have h0 := byteAt_lo s i
  have h1 := byteAt_hi s i
  have ht : three s i = if moreOf s (i + 1) (low3 (byteAt s i)) (high3 (byteAt s i)) < 0 ∨ moreOf s (i + 2) 128 191 < 0 then (65533, 1)
      else ((byteAt s i - 224) * 4096 + moreOf s (i + 1) (low3 (byteAt s i)) (high3 (byteAt s i)) * 64 + moreOf s (i + 2) 128 191, 3) := rfl
  have hb1 : moreOf s (i + 1) (low3 (byteAt s i)) (high3 (byteAt s i)) ≤ 63 := by
    have := byteAt_hi s (i + 1); unfold moreOf high3; split <;> omega
  have hb2 : moreOf s (i + 2) 128 191 ≤ 63 := by unfold moreOf; split <;> omega
  have hc : ((byteAt s i == 224) = true ∧ (byteAt s i == 237) = false ∧ low3 (byteAt s i) = 160 ∧ high3 (byteAt s i) = 191) ∨
      ((byteAt s i == 224) = false ∧ (byteAt s i == 237) = true ∧ low3 (byteAt s i) = 128 ∧ high3 (byteAt s i) = 159) ∨
      ((byteAt s i == 224) = false ∧ (byteAt s i == 237) = false ∧ low3 (byteAt s i) = 128 ∧ high3 (byteAt s i) = 191) := by
    unfold low3 high3
    simp only [beq_iff_eq, beq_eq_false_iff_ne, ne_eq]
    omega
  generalize byteAt s i = b at *
  rcases hc with ⟨e1, e2, l1, l2⟩ | ⟨e1, e2, l1, l2⟩ | ⟨e1, e2, l1, l2⟩
  all_goals
    rw [l1, l2] at ht hb1
    have HT := Lib.hid ht
    clear ht l1 l2
    go_enter Try.func81, Try.ntmps81
    go_wp2_with (first | (go_at_call 80; refine (more_any _ (i + 1) _ _ _ _ (by omega) (by omega) (by omega)).mono ?_; rintro e w' ⟨rfl, rfl⟩) | (go_at_call 80; refine (more_any _ (i + 2) _ _ _ _ (by omega) (by omega) (by omega)).mono ?_; rintro e w' ⟨rfl, rfl⟩))
    all_goals first
      | (have q := HT.out; rw [if_pos (by omega)] at q; rw [q]; exact bodyPost_ret (v := .agg #[.int .i64 65533, .int .i64 1]) (by simp [results, Try.results81, go_sem]) rfl ⟨rfl, kept_alloc _ _⟩)
      | (have q := HT.out; rw [if_neg (by omega)] at q; rw [q]; exact bodyPost_ret (v := .agg #[.int .i64 _, .int .i64 3]) (by simp [results, Try.results81, go_sem]) rfl ⟨rfl, kept_alloc _ _⟩)

set_option maxHeartbeats 1600000 in
theorem four_any (s : ByteArray) (i : Nat) (w : World) (hs : s.size ≤ 1000000000) (hi : i < s.size) :
    Calls Try.prog 82 #[.string s, .int .i64 i] w fun e w' => e = .returned (.agg #[.int .i64 (four s i).1, .int .i64 (four s i).2]) ∧ Kept w w' := by
  have i0 := run_at (P := Try.prog) (t := 9) Try.underlying9 s i hi i rfl
  have h0 := byteAt_lo s i
  have h1 := byteAt_hi s i
  have ht : four s i = if moreOf s (i + 1) (low4 (byteAt s i)) (high4 (byteAt s i)) < 0 ∨ moreOf s (i + 2) 128 191 < 0 ∨ moreOf s (i + 3) 128 191 < 0 then (65533, 1)
      else ((byteAt s i - 240) * 262144 + moreOf s (i + 1) (low4 (byteAt s i)) (high4 (byteAt s i)) * 4096 + moreOf s (i + 2) 128 191 * 64 + moreOf s (i + 3) 128 191, 4) := rfl
  have hb1 : moreOf s (i + 1) (low4 (byteAt s i)) (high4 (byteAt s i)) ≤ 63 := by
    have := byteAt_hi s (i + 1); unfold moreOf high4; split <;> omega
  have hb2 : moreOf s (i + 2) 128 191 ≤ 63 := by unfold moreOf; split <;> omega
  have hb3 : moreOf s (i + 3) 128 191 ≤ 63 := by unfold moreOf; split <;> omega
  have hc : ((byteAt s i == 240) = true ∧ (byteAt s i == 244) = false ∧ low4 (byteAt s i) = 144 ∧ high4 (byteAt s i) = 191) ∨
      ((byteAt s i == 240) = false ∧ (byteAt s i == 244) = true ∧ low4 (byteAt s i) = 128 ∧ high4 (byteAt s i) = 143) ∨
      ((byteAt s i == 240) = false ∧ (byteAt s i == 244) = false ∧ low4 (byteAt s i) = 128 ∧ high4 (byteAt s i) = 191) := by
    unfold low4 high4
    simp only [beq_iff_eq, beq_eq_false_iff_ne, ne_eq]
    omega
  generalize byteAt s i = b at *
  rcases hc with ⟨e1, e2, l1, l2⟩ | ⟨e1, e2, l1, l2⟩ | ⟨e1, e2, l1, l2⟩
  all_goals
    rw [l1, l2] at ht hb1
    have HT := Lib.hid ht
    clear ht l1 l2
    go_enter Try.func82, Try.ntmps82
    go_wp2_with (first | (go_at_call 80; refine (more_any _ (i + 1) _ _ _ _ (by omega) (by omega) (by omega)).mono ?_; rintro e w' ⟨rfl, rfl⟩) | (go_at_call 80; refine (more_any _ (i + 2) _ _ _ _ (by omega) (by omega) (by omega)).mono ?_; rintro e w' ⟨rfl, rfl⟩) | (go_at_call 80; refine (more_any _ (i + 3) _ _ _ _ (by omega) (by omega) (by omega)).mono ?_; rintro e w' ⟨rfl, rfl⟩))
    all_goals first
      | (have q := HT.out; rw [if_pos (by omega)] at q; rw [q]; exact bodyPost_ret (v := .agg #[.int .i64 65533, .int .i64 1]) (by simp [results, Try.results82, go_sem]) rfl ⟨rfl, kept_alloc _ _⟩)
      | (have q := HT.out; rw [if_neg (by omega)] at q; rw [q]; exact bodyPost_ret (v := .agg #[.int .i64 _, .int .i64 4]) (by simp [results, Try.results82, go_sem]) rfl ⟨rfl, kept_alloc _ _⟩)

theorem keep_cell {W w1 : World} (hb : Kept W w1) : (∀ b o, b < W.heap.size → w1.cell? ⟨b, o, none⟩ = W.cell? ⟨b, o, none⟩) ∧ (∀ b o, b < W.heap.size → w1.frozen? ⟨b, o, none⟩ = W.frozen? ⟨b, o, none⟩) :=
  ⟨fun b o h => hb.cell (p := ⟨b, o, none⟩) h, fun b o h => hb.frozen (p := ⟨b, o, none⟩) h⟩

set_option maxHeartbeats 1600000 in
theorem at_any (s : ByteArray) (i : Nat) (w : World) (hs : s.size ≤ 1000000000) (hi : i < s.size) :
    Calls Try.prog 70 #[.string s, .int .i64 i] w fun e w' => e = .returned (.agg #[.int .i64 (dec s i).1, .int .i64 (dec s i).2]) ∧ Kept w w' := by
  have i0 := run_at (P := Try.prog) (t := 9) Try.underlying9 s i hi i rfl
  have h0 := byteAt_lo s i
  have h1 := byteAt_hi s i
  have HD : Hid (dec s i = if byteAt s i < 128 then (byteAt s i, 1)
    else if 194 ≤ byteAt s i ∧ byteAt s i ≤ 223 then
      if 0 ≤ moreOf s (i + 1) 128 191 then ((byteAt s i - 192) * 64 + moreOf s (i + 1) 128 191, 2) else (65533, 1)
    else if 224 ≤ byteAt s i ∧ byteAt s i ≤ 239 then three s i
    else if 240 ≤ byteAt s i ∧ byteAt s i ≤ 244 then four s i
    else (65533, 1)) := rfl
  have hb1 : moreOf s (i + 1) 128 191 ≤ 63 := by unfold moreOf; split <;> omega
  generalize byteAt s i = b at *
  by_cases c1 : b < 128
  · have q := HD.out; rw [if_pos c1] at q; rw [q]; clear q HD
    go_enter Try.func70, Try.ntmps70
    go_wp2_with fail
    exact bodyPost_ret (v := .agg #[.int .i64 _, .int .i64 _]) (by simp [results, Try.results70, go_sem]) rfl ⟨rfl, kept_alloc _ _⟩
  by_cases c2 : 194 ≤ b ∧ b ≤ 223
  · have q := HD.out; rw [if_neg c1, if_pos c2] at q; rw [q]; clear q HD
    by_cases c3 : 0 ≤ moreOf s (i + 1) 128 191
    · rw [if_pos c3]
      go_enter Try.func70, Try.ntmps70
      go_wp2_with (go_at_call 80; refine (more_any _ (i + 1) _ _ _ _ (by omega) (by omega) (by omega)).mono ?_; rintro e w' ⟨rfl, rfl⟩)
      exact bodyPost_ret (v := .agg #[.int .i64 _, .int .i64 _]) (by simp [results, Try.results70, go_sem]) rfl ⟨rfl, kept_alloc _ _⟩
    · rw [if_neg c3]
      go_enter Try.func70, Try.ntmps70
      go_wp2_with (go_at_call 80; refine (more_any _ (i + 1) _ _ _ _ (by omega) (by omega) (by omega)).mono ?_; rintro e w' ⟨rfl, rfl⟩)
      exact bodyPost_ret (v := .agg #[.int .i64 _, .int .i64 _]) (by simp [results, Try.results70, go_sem]) rfl ⟨rfl, kept_alloc _ _⟩
  by_cases c3 : 224 ≤ b ∧ b ≤ 239
  · have q := HD.out; rw [if_neg c1, if_neg c2, if_pos c3] at q; rw [q]; clear q HD
    go_enter Try.func70, Try.ntmps70
    go_wp2_with fail
    refine (three_any _ _ _ (by omega) (by omega)).mono ?_
    rintro e w1 ⟨rfl, hk⟩
    obtain ⟨kc, kf⟩ := keep_cell hk
    have hz : w.heap.size < w1.heap.size := by have := hk.size; simp at this; omega
    have Hk := Lib.hid hk
    clear hk
    go_wp2_with fail
    refine bodyPost_ret (v := .agg #[.int .i64 (three s i).1, .int .i64 (three s i).2]) (by simp [results, Try.results70, go_sem, hz, kc, kf]) rfl ⟨rfl, ?_⟩
    exact Below.setCell (Below.setCell ((kept_alloc w _).trans Hk.out) (Nat.le_refl _) _) (Nat.le_refl _) _
  by_cases c4 : 240 ≤ b ∧ b ≤ 244
  · have q := HD.out; rw [if_neg c1, if_neg c2, if_neg c3, if_pos c4] at q; rw [q]; clear q HD
    go_enter Try.func70, Try.ntmps70
    go_wp2_with fail
    refine (four_any _ _ _ (by omega) (by omega)).mono ?_
    rintro e w1 ⟨rfl, hk⟩
    obtain ⟨kc, kf⟩ := keep_cell hk
    have hz : w.heap.size < w1.heap.size := by have := hk.size; simp at this; omega
    have Hk := Lib.hid hk
    clear hk
    go_wp2_with fail
    refine bodyPost_ret (v := .agg #[.int .i64 (four s i).1, .int .i64 (four s i).2]) (by simp [results, Try.results70, go_sem, hz, kc, kf]) rfl ⟨rfl, ?_⟩
    exact Below.setCell (Below.setCell ((kept_alloc w _).trans Hk.out) (Nat.le_refl _) _) (Nat.le_refl _) _
  · have q := HD.out; rw [if_neg c1, if_neg c2, if_neg c3, if_neg c4] at q; rw [q]; clear q HD
    go_enter Try.func70, Try.ntmps70
    go_wp2_with fail
    all_goals exact bodyPost_ret (v := .agg #[.int .i64 _, .int .i64 _]) (by simp [results, Try.results70, go_sem]) rfl ⟨rfl, kept_alloc _ _⟩
end Go.Proofs.Ythbnahagfojfbaa

/- chars.Valid and the reference's Valid answer the same of any text: plain law and walks. No condition but the length. -/
set_option linter.all false
namespace Go.Proofs.Ythbnahagfojfbaa
open Go.RowKit

theorem moreOf_hi (s : ByteArray) (i : Nat) (l h : Int) (hh : h ≤ 191) : moreOf s i l h ≤ 63 := by unfold moreOf; split <;> omega
theorem dec_bounds (s : ByteArray) (i : Nat) (hi : i < s.size) : 0 ≤ (dec s i).1 ∧ (dec s i).1 ≤ 2000000 ∧ 1 ≤ (dec s i).2 ∧ (dec s i).2 ≤ 4 ∧ (i : Int) + (dec s i).2 ≤ s.size := by
  have h0 := byteAt_lo s i
  have m1 : ∀ k l h, 0 ≤ moreOf s k l h → k < s.size := fun k l h q => (more_yes q).1
  have hh : ∀ k l h, h ≤ 191 → moreOf s k l h ≤ 63 := fun k l h q => moreOf_hi s k l h q
  unfold dec
  split
  · simp only; omega
  split
  · split
    · rename_i q
      have := m1 _ _ _ q
      have := hh (i + 1) 128 191 (by omega)
      simp only; omega
    · simp only; omega
  split
  · unfold three
    split
    · simp only; omega
    · rename_i q
      have a1 := m1 (i + 2) 128 191 (by omega)
      have a2 := hh (i + 1) (low3 (byteAt s i)) (high3 (byteAt s i)) (by unfold high3; split <;> omega)
      have a3 := hh (i + 2) 128 191 (by omega)
      simp only; omega
  split
  · unfold four
    split
    · simp only; omega
    · rename_i q
      have a1 := m1 (i + 3) 128 191 (by omega)
      have a2 := hh (i + 1) (low4 (byteAt s i)) (high4 (byteAt s i)) (by unfold high4; split <;> omega)
      have a3 := hh (i + 2) 128 191 (by omega)
      have a4 := hh (i + 3) 128 191 (by omega)
      simp only; omega
  · simp only; omega

def goodPt (p : Int × Int) : Bool := cleanOf p.1 && !(p.1 == 65533 && p.2 == 1)
theorem unclean_clean (c : Int) : uncleanOf c = !cleanOf c := by
  unfold uncleanOf cleanOf
  rw [Bool.eq_iff_iff]; simp; omega
def validFrom (s : ByteArray) (i : Nat) : Bool :=
  if i < s.size then goodPt (dec s i) && validFrom s (i + (dec s i).2.toNat) else true
termination_by s.size - i
decreasing_by have := (dec_bounds s i (by assumption)).2.2.1; omega
theorem validFrom_in (s : ByteArray) (i : Nat) (h : i < s.size) : validFrom s i = (goodPt (dec s i) && validFrom s (i + (dec s i).2.toNat)) := by rw [validFrom, if_pos h]
theorem validFrom_out (s : ByteArray) (i : Nat) (h : ¬ i < s.size) : validFrom s i = true := by rw [validFrom, if_neg h]
def validB (s : ByteArray) : Bool := validFrom s 0
theorem validB_start (s : ByteArray) : Hid (validB s = validFrom s 0) := by unfold Hid validB; exact Eq.refl _

theorem drewN_more {w : World} {a b : Nat} : ∃ n, (w.drewN a).drewN b = w.drewN n := ⟨a + b, by simp [World.drewN, Nat.add_assoc]⟩

end Go.Proofs.Ythbnahagfojfbaa
