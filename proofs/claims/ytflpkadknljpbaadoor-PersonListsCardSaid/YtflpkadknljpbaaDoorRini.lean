/- The reference's Append, Next, pieces, Initials, Inverted. Conditions: lengths. -/
import Derived.Test.YtflpkadknljpbaaDoorRbytes
import Derived.Test.YtflpkadknljpbaaDoorInv
import Derived.Test.YtflpkadknljpbaaDoorBlk
set_option linter.all false
namespace Go.Proofs.YtflpkadknljpbaaDoor
open Go.RowKit

theorem dec_valid (s : ByteArray) (i : Nat) : 0 ≤ (dec s i).1 ∧ (dec s i).1 ≤ 1114111 ∧ ((dec s i).1 < 55296 ∨ 57343 < (dec s i).1) := by
  have h0 := byteAt_lo s i
  have m0 : ∀ k l h, ¬ moreOf s k l h < 0 → 128 ≤ l → l - 128 ≤ moreOf s k l h ∧ moreOf s k l h ≤ h - 128 := by
    intro k l h q hl
    obtain ⟨_, h1, h2, h3⟩ := more_yes (s := s) (i := k) (l := l) (h := h) (by omega)
    omega
  unfold dec
  split
  · simp only; omega
  split
  · split
    · rename_i q
      have := m0 (i + 1) 128 191 (by omega) (by omega)
      simp only; omega
    · simp only; omega
  split
  · rename_i hb
    unfold three
    split
    · simp only; omega
    · rename_i q
      simp only [not_or] at q
      have a := m0 (i + 1) (low3 (byteAt s i)) (high3 (byteAt s i)) q.1 (by unfold low3; split <;> omega)
      have b := m0 (i + 2) 128 191 q.2 (by omega)
      have c : high3 (byteAt s i) ≤ 191 ∧ (byteAt s i = 237 → high3 (byteAt s i) = 159) := by unfold high3; split <;> omega
      have d : 128 ≤ low3 (byteAt s i) := by unfold low3; split <;> omega
      simp only; omega
  split
  · rename_i hb
    unfold four
    split
    · simp only; omega
    · rename_i q
      simp only [not_or] at q
      have a := m0 (i + 1) (low4 (byteAt s i)) (high4 (byteAt s i)) q.1 (by unfold low4; split <;> omega)
      have b := m0 (i + 2) 128 191 q.2.1 (by omega)
      have b2 := m0 (i + 3) 128 191 q.2.2 (by omega)
      have c : high4 (byteAt s i) ≤ 191 ∧ (byteAt s i = 244 → high4 (byteAt s i) = 143) := by unfold high4; split <;> omega
      have d : 128 ≤ low4 (byteAt s i) ∧ (byteAt s i = 240 → low4 (byteAt s i) = 144) := by unfold low4; split <;> omega
      simp only; omega
  · simp only; omega

theorem conv_bytes (w : World) (l : Bs) (n : Nat) (hn : n = l.length) : (convert 96 9 (.slice (some ⟨w.heap.size, 0, none⟩) n n)).run Tryd.prog (w.alloc (.cells (byteC l).toArray 5)) = .ok (.string (bs l)) (w.alloc (.cells (byteC l).toArray 5)) := by
  subst hn
  refine run_convert_bytes_back (P := Tryd.prog) (w.alloc (.cells (byteC l).toArray 5)) 96 9 5 ⟨w.heap.size, 0, none⟩ l.length l Tryd.underlying96 Tryd.underlying5 Tryd.underlying9 ?_
  intro j hj
  exact new_cells w (byteC l).toArray 5 w.heap.size rfl j _ (by simp [byteC, List.getElem?_eq_getElem hj])

set_option maxRecDepth 100000 in
set_option maxHeartbeats 800000 in
theorem rappend_any (s : Bs) (c : Int) (w : World) (hs : s.length ≤ 1000000000) (h0 : 0 ≤ c) (h1 : c ≤ 1114111) (h2 : c < 55296 ∨ 57343 < c) :
    Calls Tryd.prog 60 #[.string (bs s), .int .i64 c] w fun e w' => e = .returned (.string (bs (s ++ encL c))) ∧ Kept w w' := by
  have HB := Lib.hid (fun w => rbytes_valid c w h0 h1 h2)
  unfold BytesPost at HB
  have hl := encL_len c
  have HC := Lib.hid (fun w => conv_bytes w (encL c) (encL c).length rfl)
  generalize encL c = x at *
  go_enter Tryd.func60, Tryd.ntmps60
  go_wp2_with fail
  refine (HB.out _).mono ?_
  rintro e w1 ⟨rfl, rfl⟩
  have hc := HC.out w
  generalize (byteC x).toArray = xs at *
  go_wp2_with fail
  go_ret
  exact ⟨rfl, kept_alloc _ _⟩

set_option maxRecDepth 100000 in
set_option maxHeartbeats 800000 in
theorem rnext_any (s : Bs) (w : World) (hs : s.length ≤ 1000000000) (h0 : 0 < s.length) :
    Calls Tryd.prog 59 #[.string (bs s), .int .i64 0] w fun e w' => e = .returned (.tuple #[.int .i64 (dec (bs s) 0).1, .int .i64 (dec (bs s) 0).2]) ∧ Kept w w' := by
  have HA : Hid (∀ w, Calls Tryd.prog 87 #[.string (bs s), .int .i64 0] w fun e w' => e = .returned (.agg #[.int .i64 (dec (bs s) 0).1, .int .i64 (dec (bs s) 0).2]) ∧ Kept w w') := fun w => at_any (bs s) 0 w (by simpa using hs) (by simpa using h0)
  generalize dec (bs s) 0 = p at *
  obtain ⟨a, b⟩ := p
  have hne : ¬ s = [] := by intro q; rw [q] at h0; simp at h0
  go_enter Tryd.func59, Tryd.ntmps59
  go_wp2_with fail
  refine (HA.out _).mono ?_
  rintro e w1 ⟨rfl, hk1⟩
  have HK1 := Lib.hid hk1
  clear hk1
  go_wp2_with fail
  go_quiet (fail)
  go_wp2_with fail
  go_ret2
  exact ⟨rfl, (HK1.out.trans (kept_alloc _ _)).trans (kept_drewN _ _)⟩

/-- The state of the reference's division into pieces. -/
def PieceSt (c : UInt8) (t : Bs) (k fr : Nat) (xs : List Bs) : Prop :=
  (k ≤ t.length ∧ fr ≤ k ∧ xs = (runC c (t.take k)).1.filter nonE ∧ (t.take k).drop fr = (runC c (t.take k)).2) ∨ (k = t.length + 1 ∧ xs = piecesOf c t)
theorem PieceSt.start (c : UInt8) (t : Bs) : PieceSt c t 0 0 [] := .inl ⟨Nat.zero_le _, Nat.le_refl _, by simp [runC], by simp [runC]⟩
def addP (xs : List Bs) (y : Bs) : List Bs := xs ++ (if nonE y then [y] else [])
theorem filter_addP (xs : List Bs) (y : Bs) : (xs ++ [y]).filter nonE = addP (xs.filter nonE) y := by
  unfold addP; rw [List.filter_append]
  cases q : nonE y <;> simp [q]
theorem PieceSt.last {c : UInt8} {t : Bs} {fr : Nat} {xs : List Bs} (h : PieceSt c t t.length fr xs) : PieceSt c t (t.length + 1) (t.length + 1) (addP xs ((t.drop fr).take (t.length - fr))) ∧ fr ≤ t.length := by
  rcases h with ⟨_, h2, h3, h4⟩ | ⟨h, _⟩
  · rw [List.take_of_length_le (Nat.le_refl _)] at h3 h4
    refine ⟨.inr ⟨rfl, ?_⟩, h2⟩
    rw [List.take_of_length_le (by simp)]
    unfold piecesOf splitC
    rw [filter_addP, h3, h4]
  · omega
theorem PieceSt.comma {c : UInt8} {t : Bs} {k fr : Nat} {xs : List Bs} (h : PieceSt c t k fr xs) (hk : k < t.length) (hb : t[k] = c) : PieceSt c t (k + 1) (k + 1) (addP xs ((t.drop fr).take (k - fr))) ∧ fr ≤ k := by
  rcases h with ⟨h1, h2, h3, h4⟩ | ⟨h, _⟩
  · refine ⟨.inl ⟨by omega, Nat.le_refl _, ?_, ?_⟩, h2⟩
    · rw [take_next t k hk, runC_snoc, hb]
      rw [show (t.drop fr).take (k - fr) = (t.take k).drop fr from by rw [List.drop_take], h4, h3]
      simp only [stepC, if_true, filter_addP]
    · rw [take_next t k hk, runC_snoc, hb]
      rw [List.drop_of_length_le (by simp; omega)]
      simp [stepC]
  · omega
theorem PieceSt.other {c : UInt8} {t : Bs} {k fr : Nat} {xs : List Bs} (h : PieceSt c t k fr xs) (hk : k < t.length) (hb : t[k] ≠ c) : PieceSt c t (k + 1) fr xs ∧ fr ≤ k := by
  rcases h with ⟨h1, h2, h3, h4⟩ | ⟨h, _⟩
  · refine ⟨.inl ⟨by omega, by omega, ?_, ?_⟩, h2⟩
    · rw [take_next t k hk, runC_snoc]
      simp [stepC, hb, h3]
    · rw [take_next t k hk, runC_snoc, List.drop_append_of_le_length (by simp; omega), h4]
      simp [stepC, hb]
  · omega
theorem PieceSt.done {c : UInt8} {t : Bs} {k fr : Nat} {xs : List Bs} (h : PieceSt c t k fr xs) (hk : ¬ k ≤ t.length) : xs = piecesOf c t := by
  rcases h with ⟨h1, _⟩ | ⟨_, h⟩
  · omega
  · exact h
def StrsPost (xs : List Bs) (w : World) (e : Ending) (w' : World) : Prop := ∃ v, e = .returned v ∧ Strs w' v xs ∧ Kept w w'
theorem addP_nil (xs : List Bs) : addP xs [] = xs := by simp [addP, nonE]
theorem addP_one (xs : List Bs) (y : Bs) (h : y ≠ []) : addP xs y = xs ++ [y] := by simp [addP, nonE, h]

set_option maxRecDepth 100000 in
set_option maxHeartbeats 3200000 in
theorem pieces_any (t : Bs) (c : UInt8) (w : World) (ht : t.length ≤ 1000000) : Calls Tryd.prog 58 #[.string (bs t), .int .u8 (c.toNat : Int)] w (StrsPost (piecesOf c t) w) := by
  obtain ⟨i0', hi', hz0, hz1, hz2⟩ := info_parts Tryd.infoStr
  go_enter Tryd.func58, Tryd.ntmps58
  go_wp2_with fail
  go_loopw [5, 6, 7] (fun v fv i wr => ∃ (k fr : Nat) (xs : List Bs), k ≤ t.length + 1 ∧ i = .int .i64 k ∧ fv = .int .i64 fr ∧ fr ≤ t.length + 1 ∧ xs.length ≤ k ∧ wr.ownsRow w.heap.size 9 1 v xs.length (strCells xs) ∧ Hid (PieceSt c t k fr xs) ∧ Kept w wr) (fun _ _ i _ => t.length + 1 - (intOf i).toNat)
  case atStart => exact ⟨0, 0, [], Nat.zero_le _, rfl, rfl, Nat.zero_le _, Nat.le_refl _, World.ownsRow_nil _ _ _ _, PieceSt.start c t, Kept.refl _⟩
  case round =>
    obtain ⟨k, fr, xs, hk, rfl, rfl, hfr, hxl, hown, HS, hkr⟩ := hrel
    have hsz : w.heap.size ≤ wr.heap.size := hkr.size
    have HKR := Lib.hid hkr
    have HOWN := Lib.hid hown
    clear hkr hown
    have key : Hid (k ≤ t.length → ((k < t.length → at8 t k = (c.toNat : Int)) → PieceSt c t (k + 1) (k + 1) (addP xs ((t.drop fr).take (k - fr))) ∧ fr ≤ k)) := by
      intro h1 h2
      by_cases q : k < t.length
      · refine HS.out.comma q ?_
        have := h2 q
        rw [at8_get t k q] at this
        exact UInt8.toNat_inj.1 (by omega)
      · obtain rfl : k = t.length := by omega
        exact HS.out.last
    by_cases hle : k ≤ t.length
    · by_cases hend : k < t.length ∧ at8 t k ≠ (c.toNat : Int)
      · obtain ⟨hlt, hb⟩ := hend
        have i0 := run_ix (P := Tryd.prog) (t := 9) Tryd.underlying9 t k hlt k rfl
        have hne : ((k : Int) == (t.length : Int)) = false := by rw [beq_eq_false_iff_ne]; omega
        obtain ⟨hst, hfk⟩ := HS.out.other hlt (fun q => hb (by rw [at8_get t k hlt, q]))
        have HST := Lib.hid hst
        have hb' : (at8 t k == (c.toNat : Int)) = false := by simpa using hb
        generalize at8 t k = b at *
        clear hst hb key
        go_wp2_with fail
        go_roundw
        case rel => exact ⟨k + 1, fr, xs, by omega, by go_num, rfl, by omega, by omega, HOWN.out, HST.out, HKR.out⟩
        case measure => simp [intOf]; omega
      · obtain ⟨hst, hfk⟩ := key.out hle (fun q => by
          by_cases h : at8 t k = (c.toNat : Int)
          · exact h
          · exact absurd ⟨q, h⟩ hend)
        have HST := Lib.hid hst
        have sl := run_sub (P := Tryd.prog) (t := 9) Tryd.underlying9 t fr k hfk hle fr k rfl rfl _ rfl
        have HY : Hid (fr < k → (t.drop fr).take (k - fr) ≠ []) := by
          intro q h
          have := congrArg List.length h
          simp at this; omega
        have HYN : Hid (¬ fr < k → (t.drop fr).take (k - fr) = []) := by
          intro q
          rw [show k - fr = 0 from by omega]; simp
        generalize (t.drop fr).take (k - fr) = y at *
        clear hst key
        have hcase : (((k : Int) == (t.length : Int)) = true) ∨ (((k : Int) == (t.length : Int)) = false ∧ k < t.length ∧ (at8 t k == (c.toNat : Int)) = true) := by
          by_cases q : k < t.length
          · right
            refine ⟨by rw [beq_eq_false_iff_ne]; omega, q, ?_⟩
            rw [beq_iff_eq]
            by_cases h : at8 t k = (c.toNat : Int)
            · exact h
            · exact absurd ⟨q, h⟩ hend
          · left; rw [beq_iff_eq]; omega
        clear hend
        rcases hcase with q1 | ⟨q1, q2, q3⟩
        case' inr => have i0 := run_ix (P := Tryd.prog) (t := 9) Tryd.underlying9 t k q2 k rfl; generalize at8 t k = b at *
        all_goals
          by_cases hfr2 : fr < k
          · have HYY := Lib.hid (HY.out hfr2)
            have hown := HOWN.out
            clear HY HYN
            go_wp2_with (at_builtin; refine wpList_append_own _ rfl _ _ 40 rfl w.heap.size 9 i0' (.string ⟨#[]⟩) 1 16 Tryd.underlying40 hi' hz0 hz1 hz2 rfl (by decide) _ _ _ rfl (hown.alloc _) ⟨wr.heap.size, 0, none⟩ 1 1 [.string (bs y)] rfl rfl ?_ ?_ ?_ ?_ ?_ ?_)
            · exact new_cells _ #[.string (bs y)] _ _ (by simp)
            · intro u hu; simp at hu; subst hu; rfl
            · unfold maxLen; omega
            · omega
            · simp; omega
            intro v' w2 hown2 hgrow _
            have HB2 := Lib.hid ((HKR.out.trans (kept_alloc wr _)).trans' (grown_below (hown.alloc _) hgrow (by simp; omega)))
            rw [← strCells_snoc] at hown2
            have HO := Lib.hid hown2
            clear hown2 hgrow hown
            go_wp2_with fail
            go_roundw
            case rel => exact ⟨k + 1, k + 1, xs ++ [y], by omega, by go_num, by go_num, by omega, by simp; omega, by simpa using HO.out, by have h := HST.out; rw [addP_one _ _ HYY.out] at h; exact h, HB2.out⟩
            case measure => simp [intOf]; omega
          · have HYY := Lib.hid (HYN.out hfr2)
            clear HY HYN
            go_wp2_with fail
            go_roundw
            case rel => exact ⟨k + 1, k + 1, xs, by omega, by go_num, by go_num, by omega, by omega, HOWN.out, by have h := HST.out; rw [HYY.out, addP_nil] at h; exact h, HKR.out⟩
            case measure => simp [intOf]; omega
    · have HD := Lib.hid (HS.out.done hle)
      have HSS := Lib.hid (Strs.own HOWN.out)
      clear key
      go_wp2_with fail
      go_ret
      exact ⟨_, rfl, by rw [← HD.out]; exact HSS.out, HKR.out⟩
end Go.Proofs.YtflpkadknljpbaaDoor
