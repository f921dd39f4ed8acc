/- The reference's Valid of layer 1. No condition but the length. -/
import Derived.Test.YthbnahagfojfbaaG09
import Derived.Test.YthbnahagfojfbaaG11
import Derived.Test.YthbnahagfojfbaaG16
import Derived.Test.YthbnahagfojfbaaG08
import Derived.BigQuiet

set_option linter.all false
namespace Go.Proofs.Ythbnahagfojfbaa
open Go.RowKit

theorem all_from {α : Type} (f : α → Bool) (l : List α) (k : Nat) (p : α) (h : l[k]? = some p) : (l.drop k).all f = (f p && (l.drop (k + 1)).all f) := by
  obtain ⟨hk, rfl⟩ := List.getElem?_eq_some_iff.1 h
  rw [List.drop_eq_getElem_cons hk, List.all_cons]
theorem all_start {α : Type} (f : α → Bool) (l : List α) (b : Bool) (h : b = l.all f) : Hid (b = (l.drop 0).all f) := by unfold Hid; simpa using h

end Go.Proofs.Ythbnahagfojfbaa

/- letters, in, rule, with of publisherref25; Next of publisherref01 at any place. Conditions: lengths. -/
set_option linter.all false
namespace Go.Proofs.Ythbnahagfojfbaa
open Go.RowKit

def IntsP (xs : List Int) (w : World) (e : Ending) (w' : World) : Prop := ∃ v, e = .returned v ∧ Ints w' v xs ∧ Kept w w'
set_option maxRecDepth 100000 in
set_option maxHeartbeats 800000 in
theorem rnext_at (s : Bs) (i : Nat) (w : World) (hs : s.length ≤ 1100000) (h0 : i < s.length) :
    Calls Try.prog 55 #[.string (bs s), .int .i64 i] w fun e w' => e = .returned (.tuple #[.int .i64 (dec (bs s) i).1, .int .i64 (dec (bs s) i).2]) ∧ Kept w w' := by
  have HA : Hid (∀ w, Calls Try.prog 70 #[.string (bs s), .int .i64 i] w fun e w' => e = .returned (.agg #[.int .i64 (dec (bs s) i).1, .int .i64 (dec (bs s) i).2]) ∧ Kept w w') := fun w => at_any (bs s) i w (by simp; omega) (by simpa using h0)
  generalize dec (bs s) i = p at *
  obtain ⟨a, b⟩ := p
  go_enter Try.func55, Try.ntmps55
  go_wp2_with fail
  refine (HA.out _).mono ?_
  rintro e w1 ⟨rfl, hk1⟩
  have HK1 := Lib.hid hk1
  clear hk1
  go_wp2_with fail
  go_quiet (fail)
  go_wp2_with fail
  go_ret2
  exact ⟨rfl, (HK1.out.trans (kept_alloc _ _)).trans (kept_drewN _ _)⟩

/-- The same, in blocks that the call has made. -/
def IntsO (xs : List Int) (w : World) (e : Ending) (w' : World) : Prop := ∃ v, e = .returned v ∧ Ints w' v xs ∧ (∀ g, v.ownBlock = some g → w.heap.size ≤ g) ∧ Kept w w'
theorem IntsO.weak {xs : List Int} {w w' : World} {e : Ending} (h : IntsO xs w e w') : IntsP xs w e w' := by
  obtain ⟨v, h1, h2, _, h3⟩ := h; exact ⟨v, h1, h2, h3⟩
set_option maxRecDepth 100000 in
set_option maxHeartbeats 1600000 in
theorem rletters_own (l : Bs) (w : World) (hl : l.length ≤ 1100000) : Calls Try.prog 33 #[.string (bs l)] w (IntsO (ptsL l) w) := by
  obtain ⟨i0, hi, hz0, hz1, hz2⟩ := info_parts Try.infoInt
  have H0 : Hid (ptsL l = [] ++ ptsF l 0) := by show _ = _; rw [ptsF_zero]; rfl
  unfold IntsO
  go_enter Try.func33, Try.ntmps33
  go_wp2_with fail
  go_loopw [3, 4] (fun v i wr => ∃ (k : Nat) (xs : List Int), k ≤ l.length ∧ i = .int .i64 k ∧ xs.length ≤ k ∧ wr.ownsRow w.heap.size 3 1 v xs.length (intC xs) ∧ Hid (ptsL l = xs ++ ptsF l k) ∧ Hid (Kept w wr)) (fun _ i _ => l.length - (intOf i).toNat)
  case atStart => exact ⟨0, [], Nat.zero_le _, rfl, Nat.le_refl _, World.ownsRow_nil _ _ _ _, H0, Kept.refl _⟩
  case round =>
    obtain ⟨k, xs, hk, rfl, hxl, hown, HA, HK⟩ := hrel
    by_cases hlt : k < l.length
    · have hb := dec_bounds (bs l) k hlt
      have HP := Lib.hid (ptsF_in l k hlt)
      have HN := Lib.hid (fun w => rnext_at l k w hl hlt)
      obtain ⟨c, n, hd⟩ : ∃ c n, dec (bs l) k = (c, n) := ⟨(dec (bs l) k).1, (dec (bs l) k).2, rfl⟩
      simp only [hd] at hb HP HN
      obtain ⟨b1, b2, b3, b4, b5⟩ := hb
      simp only [bs_size] at b5
      have HOWN := Lib.hid hown
      clear hd hown
      go_wp2_with fail
      refine (HN.out _).mono ?_
      rintro e w1 ⟨rfl, hk1⟩
      have HK1 := Lib.hid (HK.out.trans hk1)
      have hown1 := own_kept HOWN.out hk1
      have hs1 : w.heap.size ≤ w1.heap.size := HK1.out.size
      clear hk1
      go_wp2_with (at_builtin; refine wpList_append_own _ rfl _ _ 62 rfl w.heap.size 3 i0 (.int .i64 0) 1 8 Try.underlying62 hi hz0 hz1 hz2 rfl (by decide) _ _ _ rfl (hown1.alloc _) ⟨w1.heap.size, 0, none⟩ 1 1 [.int .i64 c] rfl rfl ?_ ?_ ?_ ?_ ?_ ?_)
      · exact new_cells _ #[.int .i64 c] _ _ (by simp)
      · intro u hu; simp at hu; subst hu; rfl
      · unfold maxLen; omega
      · omega
      · simp; omega
      intro v' w2 hown2 hgrow2 _
      have HB2 := Lib.hid ((HK1.out.trans (kept_alloc w1 _)).trans' (grown_below (hown1.alloc _) hgrow2 (by simp; omega)))
      rw [← intC_snoc] at hown2
      have HO := Lib.hid hown2
      clear hown2 hgrow2 hown1
      go_wp2_with fail
      go_roundw
      case rel => exact ⟨k + n.toNat, xs ++ [c], by omega, by go_num, by simp; omega, by simpa using HO.out, by show _ = _; rw [HA.out, HP.out]; simp, HB2.out⟩
      case measure => simp [intOf]; omega
    · have HI := Lib.hid (Ints.own hown)
      have HLT := Lib.hid (fun g hg => (hown.lt g hg).1)
      have HL : Hid (ptsL l = xs) := by
        show _ = _
        rw [HA.out, ptsF_out l k hlt, List.append_nil]
      clear hown
      go_wp2_with fail
      go_ret
      exact ⟨_, rfl, by rw [HL.out]; exact HI.out, HLT.out, HK.out⟩
theorem rletters_any (l : Bs) (w : World) (hl : l.length ≤ 1100000) : Calls Try.prog 33 #[.string (bs l)] w (IntsP (ptsL l) w) := (rletters_own l w hl).mono fun _ _ h => h.weak

set_option maxRecDepth 100000 in
set_option maxHeartbeats 1600000 in
theorem rin_any (v : Value) (xs : List Int) (x : Int) (w : World) (hv : Ints w v xs) (hl : xs.length ≤ 10000000) :
    Calls Try.prog 34 #[v, .int .i64 x] w fun e w' => e = .returned (.bool (xs.contains x)) ∧ w = w' := by
  have HV := Lib.hid hv
  obtain ⟨a, c, rfl, hc, h3⟩ := hv
  clear h3
  have HF : Hid (∀ k (hk : k < xs.length), xs[k] = x → xs.contains x = true) := by
    intro k hk h
    rw [List.contains_iff_mem, ← h]
    exact List.getElem_mem hk
  have HT : Hid ((∀ k (hk : k < xs.length), k < xs.length → xs[k] ≠ x) → xs.contains x = false) := by
    intro h
    rw [Bool.eq_false_iff]
    intro q
    rw [List.contains_iff_mem] at q
    obtain ⟨k, hk, e⟩ := List.getElem_of_mem q
    exact h k hk hk e
  generalize xs.contains x = R at *
  go_enter Try.func34, Try.ntmps34
  go_wp2_with fail
  go_loop [5] (fun i => ∃ k : Nat, k ≤ xs.length ∧ i = .int .i64 k ∧ Hid (∀ j (hj : j < xs.length), j < k → xs[j] ≠ x)) (fun i => xs.length - (intOf i).toNat)
  case atStart => exact ⟨0, Nat.zero_le _, rfl, fun j hj h => by omega⟩
  case round =>
    obtain ⟨k, hk, rfl, HN⟩ := hrel
    by_cases hlt : k < xs.length
    · obtain ⟨y, hx⟩ : ∃ y, xs[k]? = some y := ⟨_, List.getElem?_eq_getElem hlt⟩
      obtain ⟨a', c', hv', hc', h3⟩ := HV.out
      obtain ⟨rfl, hdead, rfl⟩ := Value.slice.inj hv'
      clear hdead hc'
      obtain ⟨g, o, rfl, hg, hcell⟩ := h3 (by omega)
      have d0 := hcell k y hx
      have HE : Hid (xs[k] = y) := by
        obtain ⟨_, e⟩ := List.getElem?_eq_some_iff.1 hx; exact e
      clear hcell h3 hv' hx
      by_cases hy : y = x
      · have HR := Lib.hid (HF.out k hlt (HE.out.trans hy))
        subst hy
        go_wp2_with fail
        go_ret
        exact ⟨ret_bool HR.out.symm, rfl⟩
      · have HS : Hid (∀ j (hj : j < xs.length), j < k + 1 → xs[j] ≠ x) := by
          intro j hj hjk
          rcases Nat.lt_or_ge j k with q | q
          · exact HN.out j hj q
          · obtain rfl : j = k := by omega
            rw [HE.out]; exact hy
        have hy' : (y == x) = false := by simpa using hy
        go_wp2_with fail
        go_round
        case rel => exact ⟨k + 1, by omega, by go_num, HS.out⟩
        case measure => simp [intOf]; omega
    · obtain rfl : k = xs.length := by omega
      have HR := Lib.hid (HT.out (fun k hk _ => HN.out k hk hk))
      go_wp2_with fail
      go_ret
      exact ⟨ret_bool HR.out.symm, rfl⟩

end Go.Proofs.Ythbnahagfojfbaa

/- strings.ContainsAny at every text and a short set of ASCII letters: the walk. Conditions: lengths. -/
set_option linter.all false
namespace Go.Proofs.Ythbnahagfojfbaa
open Go.RowKit

theorem dec_high (s : ByteArray) (i : Nat) (h : 128 ≤ byteAt s i) : 128 ≤ (dec s i).1 ∧ ∀ j, j < (dec s i).2.toNat → 128 ≤ byteAt s (i + j) := by
  have m1 : ∀ k l h, 0 ≤ moreOf s k l h → l ≤ byteAt s k := fun k l h q => (more_yes q).2.1
  have hl3 : 128 ≤ low3 (byteAt s i) := by unfold low3; split <;> omega
  have hl4 : 128 ≤ low4 (byteAt s i) := by unfold low4; split <;> omega
  unfold dec
  rw [if_neg (by omega)]
  split
  · split
    · rename_i q
      refine ⟨by simp only; omega, fun j hj => ?_⟩
      have := m1 _ _ _ q
      rcases (show j = 0 ∨ j = 1 by simp only at hj; omega) with rfl | rfl
      · exact h
      · exact this
    · exact ⟨by simp only; omega, fun j hj => by simp only at hj; obtain rfl : j = 0 := by omega
                                                 exact h⟩
  split
  · unfold three
    split
    · exact ⟨by simp only; omega, fun j hj => by simp only at hj; obtain rfl : j = 0 := by omega
                                                 exact h⟩
    · rename_i q
      have a1 := m1 (i + 1) (low3 (byteAt s i)) (high3 (byteAt s i)) (by omega)
      have a2 := m1 (i + 2) 128 191 (by omega)
      have a3 := more_yes (s := s) (i := i + 1) (l := low3 (byteAt s i)) (h := high3 (byteAt s i)) (by omega)
      refine ⟨?_, fun j hj => ?_⟩
      · simp only
        by_cases e : byteAt s i = 224
        · have : low3 (byteAt s i) = 160 := by unfold low3; rw [if_pos e]
          omega
        · omega
      · rcases (show j = 0 ∨ j = 1 ∨ j = 2 by simp only at hj; omega) with rfl | rfl | rfl
        · exact h
        · omega
        · exact a2
  split
  · unfold four
    split
    · exact ⟨by simp only; omega, fun j hj => by simp only at hj; obtain rfl : j = 0 := by omega
                                                 exact h⟩
    · rename_i q
      have a1 := m1 (i + 1) (low4 (byteAt s i)) (high4 (byteAt s i)) (by omega)
      have a2 := m1 (i + 2) 128 191 (by omega)
      have a4 := m1 (i + 3) 128 191 (by omega)
      have a3 := more_yes (s := s) (i := i + 1) (l := low4 (byteAt s i)) (h := high4 (byteAt s i)) (by omega)
      refine ⟨?_, fun j hj => ?_⟩
      · simp only
        by_cases e : byteAt s i = 240
        · have : low4 (byteAt s i) = 144 := by unfold low4; rw [if_pos e]
          omega
        · omega
      · rcases (show j = 0 ∨ j = 1 ∨ j = 2 ∨ j = 3 by simp only at hj; omega) with rfl | rfl | rfl | rfl
        · exact h
        · omega
        · exact a2
        · exact a4
  · exact ⟨by simp only; omega, fun j hj => by simp only at hj; obtain rfl : j = 0 := by omega
                                               exact h⟩
theorem any_skip (f : UInt8 → Bool) (hf : ∀ b : UInt8, 128 ≤ (b.toNat : Int) → f b = false) (l : Bs) : ∀ (n i : Nat), (∀ j, j < n → 128 ≤ at8 l (i + j)) → (l.drop i).any f = (l.drop (i + n)).any f
  | 0, i, _ => rfl
  | n + 1, i, h => by
    rw [show i + (n + 1) = (i + 1) + n from by omega, ← any_skip f hf l n (i + 1) (fun j hj => by have := h (j + 1) (by omega); rw [show i + 1 + j = i + (j + 1) from by omega]; exact this)]
    rcases Nat.lt_or_ge i l.length with q | q
    · rw [List.drop_eq_getElem_cons q, List.any_cons, hf, Bool.false_or]
      rw [← at8_get l i q]; exact h 0 (by omega)
    · rw [List.drop_of_length_le q, List.drop_of_length_le (by omega)]
theorem any_next (f : UInt8 → Bool) (l : Bs) (i : Nat) (h : i < l.length) : (l.drop i).any f = (f l[i] || (l.drop (i + 1)).any f) := by
  rw [List.drop_eq_getElem_cons h, List.any_cons]

def inSet (cs : Bs) (b : UInt8) : Bool := cs.contains b
def AnyPost (l cs : Bs) (w : World) (e : Ending) (w' : World) : Prop := ∃ r : Int, e = .returned (.int .i64 r) ∧ (decide (0 ≤ r) = l.any (inSet cs)) ∧ Kept w w'

end Go.Proofs.Ythbnahagfojfbaa
