/- letters, in, rule, with of publisherref25; Next of publisherref01 at any place. Conditions: lengths. -/
import Derived.Test.YtpfbdgcgpghifaaGreatDoorK12
import Derived.Test.YtpfbdgcgpghifaaGreatDoorK15
import Derived.Test.YtpfbdgcgpghifaaGreatDoorK04
import Derived.Test.YtpfbdgcgpghifaaGreatDoorK10
import Derived.BigQuiet

set_option linter.all false
namespace Go.Proofs.YtpfbdgcgpghifaaGreatDoor
open Go.RowKit

def IntsP (xs : List Int) (w : World) (e : Ending) (w' : World) : Prop := ∃ v, e = .returned v ∧ Ints w' v xs ∧ Kept w w'
set_option maxRecDepth 100000 in
set_option maxHeartbeats 800000 in
theorem rnext_at (s : Bs) (i : Nat) (w : World) (hs : s.length ≤ 1100000) (h0 : i < s.length) :
    Calls Tryz.prog 102 #[.string (bs s), .int .i64 i] w fun e w' => e = .returned (.tuple #[.int .i64 (dec (bs s) i).1, .int .i64 (dec (bs s) i).2]) ∧ Kept w w' := by
  have HA : Hid (∀ w, Calls Tryz.prog 124 #[.string (bs s), .int .i64 i] w fun e w' => e = .returned (.agg #[.int .i64 (dec (bs s) i).1, .int .i64 (dec (bs s) i).2]) ∧ Kept w w') := fun w => at_any (bs s) i w (by simp; omega) (by simpa using h0)
  generalize dec (bs s) i = p at *
  obtain ⟨a, b⟩ := p
  go_enter Tryz.func102, Tryz.ntmps102
  go_wp2_with fail
  refine (HA.out _).mono ?_
  rintro e w1 ⟨rfl, hk1⟩
  have HK1 := Lib.hid hk1
  clear hk1
  go_wp2_with fail
  go_quiet (fail)
  go_wp2_with fail
  go_ret2
  exact ⟨rfl, (HK1.out.trans (kept_alloc _ _)).trans (kept_drewN _ _)⟩

/-- The same, in blocks that the call has made. -/
def IntsO (xs : List Int) (w : World) (e : Ending) (w' : World) : Prop := ∃ v, e = .returned v ∧ Ints w' v xs ∧ (∀ g, v.ownBlock = some g → w.heap.size ≤ g) ∧ Kept w w'
theorem IntsO.weak {xs : List Int} {w w' : World} {e : Ending} (h : IntsO xs w e w') : IntsP xs w e w' := by
  obtain ⟨v, h1, h2, _, h3⟩ := h; exact ⟨v, h1, h2, h3⟩
set_option maxRecDepth 100000 in
set_option maxHeartbeats 1600000 in
theorem rletters_own (l : Bs) (w : World) (hl : l.length ≤ 1100000) : Calls Tryz.prog 51 #[.string (bs l)] w (IntsO (ptsL l) w) := by
  obtain ⟨i0, hi, hz0, hz1, hz2⟩ := info_parts Tryz.infoInt
  have H0 : Hid (ptsL l = [] ++ ptsF l 0) := by show _ = _; rw [ptsF_zero]; rfl
  unfold IntsO
  go_enter Tryz.func51, Tryz.ntmps51
  go_wp2_with fail
  go_loopw [3, 4] (fun v i wr => ∃ (k : Nat) (xs : List Int), k ≤ l.length ∧ i = .int .i64 k ∧ xs.length ≤ k ∧ wr.ownsRow w.heap.size 3 1 v xs.length (intC xs) ∧ Hid (ptsL l = xs ++ ptsF l k) ∧ Hid (Kept w wr)) (fun _ i _ => l.length - (intOf i).toNat)
  case atStart => exact ⟨0, [], Nat.zero_le _, rfl, Nat.le_refl _, World.ownsRow_nil _ _ _ _, H0, Kept.refl _⟩
  case round =>
    obtain ⟨k, xs, hk, rfl, hxl, hown, HA, HK⟩ := hrel
    by_cases hlt : k < l.length
    · have hb := dec_bounds (bs l) k hlt
      have HP := Lib.hid (ptsF_in l k hlt)
      have HN := Lib.hid (fun w => rnext_at l k w hl hlt)
      obtain ⟨c, n, hd⟩ : ∃ c n, dec (bs l) k = (c, n) := ⟨(dec (bs l) k).1, (dec (bs l) k).2, rfl⟩
      simp only [hd] at hb HP HN
      obtain ⟨b1, b2, b3, b4, b5⟩ := hb
      simp only [bs_size] at b5
      have HOWN := Lib.hid hown
      clear hd hown
      go_wp2_with fail
      refine (HN.out _).mono ?_
      rintro e w1 ⟨rfl, hk1⟩
      have HK1 := Lib.hid (HK.out.trans hk1)
      have hown1 := own_kept HOWN.out hk1
      have hs1 : w.heap.size ≤ w1.heap.size := HK1.out.size
      clear hk1
      go_wp2_with (at_builtin; refine wpList_append_own _ rfl _ _ 31 rfl w.heap.size 3 i0 (.int .i64 0) 1 8 Tryz.underlying31 hi hz0 hz1 hz2 rfl (by decide) _ _ _ rfl (hown1.alloc _) ⟨w1.heap.size, 0, none⟩ 1 1 [.int .i64 c] rfl rfl ?_ ?_ ?_ ?_ ?_ ?_)
      · exact new_cells _ #[.int .i64 c] _ _ (by simp)
      · intro u hu; simp at hu; subst hu; rfl
      · unfold maxLen; omega
      · omega
      · simp; omega
      intro v' w2 hown2 hgrow2 _
      have HB2 := Lib.hid ((HK1.out.trans (kept_alloc w1 _)).trans' (grown_below (hown1.alloc _) hgrow2 (by simp; omega)))
      rw [← intC_snoc] at hown2
      have HO := Lib.hid hown2
      clear hown2 hgrow2 hown1
      go_wp2_with fail
      go_roundw
      case rel => exact ⟨k + n.toNat, xs ++ [c], by omega, by go_num, by simp; omega, by simpa using HO.out, by show _ = _; rw [HA.out, HP.out]; simp, HB2.out⟩
      case measure => simp [intOf]; omega
    · have HI := Lib.hid (Ints.own hown)
      have HLT := Lib.hid (fun g hg => (hown.lt g hg).1)
      have HL : Hid (ptsL l = xs) := by
        show _ = _
        rw [HA.out, ptsF_out l k hlt, List.append_nil]
      clear hown
      go_wp2_with fail
      go_ret
      exact ⟨_, rfl, by rw [HL.out]; exact HI.out, HLT.out, HK.out⟩
theorem rletters_any (l : Bs) (w : World) (hl : l.length ≤ 1100000) : Calls Tryz.prog 51 #[.string (bs l)] w (IntsP (ptsL l) w) := (rletters_own l w hl).mono fun _ _ h => h.weak

set_option maxRecDepth 100000 in
set_option maxHeartbeats 1600000 in
theorem rin_any (v : Value) (xs : List Int) (x : Int) (w : World) (hv : Ints w v xs) (hl : xs.length ≤ 10000000) :
    Calls Tryz.prog 52 #[v, .int .i64 x] w fun e w' => e = .returned (.bool (xs.contains x)) ∧ w = w' := by
  have HV := Lib.hid hv
  obtain ⟨a, c, rfl, hc, h3⟩ := hv
  clear h3
  have HF : Hid (∀ k (hk : k < xs.length), xs[k] = x → xs.contains x = true) := by
    intro k hk h
    rw [List.contains_iff_mem, ← h]
    exact List.getElem_mem hk
  have HT : Hid ((∀ k (hk : k < xs.length), k < xs.length → xs[k] ≠ x) → xs.contains x = false) := by
    intro h
    rw [Bool.eq_false_iff]
    intro q
    rw [List.contains_iff_mem] at q
    obtain ⟨k, hk, e⟩ := List.getElem_of_mem q
    exact h k hk hk e
  generalize xs.contains x = R at *
  go_enter Tryz.func52, Tryz.ntmps52
  go_wp2_with fail
  go_loop [5] (fun i => ∃ k : Nat, k ≤ xs.length ∧ i = .int .i64 k ∧ Hid (∀ j (hj : j < xs.length), j < k → xs[j] ≠ x)) (fun i => xs.length - (intOf i).toNat)
  case atStart => exact ⟨0, Nat.zero_le _, rfl, fun j hj h => by omega⟩
  case round =>
    obtain ⟨k, hk, rfl, HN⟩ := hrel
    by_cases hlt : k < xs.length
    · obtain ⟨y, hx⟩ : ∃ y, xs[k]? = some y := ⟨_, List.getElem?_eq_getElem hlt⟩
      obtain ⟨a', c', hv', hc', h3⟩ := HV.out
      obtain ⟨rfl, hdead, rfl⟩ := Value.slice.inj hv'
      clear hdead hc'
      obtain ⟨g, o, rfl, hg, hcell⟩ := h3 (by omega)
      have d0 := hcell k y hx
      have HE : Hid (xs[k] = y) := by
        obtain ⟨_, e⟩ := List.getElem?_eq_some_iff.1 hx; exact e
      clear hcell h3 hv' hx
      by_cases hy : y = x
      · have HR := Lib.hid (HF.out k hlt (HE.out.trans hy))
        subst hy
        go_wp2_with fail
        go_ret
        exact ⟨ret_bool HR.out.symm, rfl⟩
      · have HS : Hid (∀ j (hj : j < xs.length), j < k + 1 → xs[j] ≠ x) := by
          intro j hj hjk
          rcases Nat.lt_or_ge j k with q | q
          · exact HN.out j hj q
          · obtain rfl : j = k := by omega
            rw [HE.out]; exact hy
        have hy' : (y == x) = false := by simpa using hy
        go_wp2_with fail
        go_round
        case rel => exact ⟨k + 1, by omega, by go_num, HS.out⟩
        case measure => simp [intOf]; omega
    · obtain rfl : k = xs.length := by omega
      have HR := Lib.hid (HT.out (fun k hk _ => HN.out k hk hk))
      go_wp2_with fail
      go_ret
      exact ⟨ret_bool HR.out.symm, rfl⟩

end Go.Proofs.YtpfbdgcgpghifaaGreatDoor

/- strings.ContainsAny at every text and a short set of ASCII letters: the walk. Conditions: lengths. -/
set_option linter.all false
namespace Go.Proofs.YtpfbdgcgpghifaaGreatDoor
open Go.RowKit

theorem dec_high (s : ByteArray) (i : Nat) (h : 128 ≤ byteAt s i) : 128 ≤ (dec s i).1 ∧ ∀ j, j < (dec s i).2.toNat → 128 ≤ byteAt s (i + j) := by
  have m1 : ∀ k l h, 0 ≤ moreOf s k l h → l ≤ byteAt s k := fun k l h q => (more_yes q).2.1
  have hl3 : 128 ≤ low3 (byteAt s i) := by unfold low3; split <;> omega
  have hl4 : 128 ≤ low4 (byteAt s i) := by unfold low4; split <;> omega
  unfold dec
  rw [if_neg (by omega)]
  split
  · split
    · rename_i q
      refine ⟨by simp only; omega, fun j hj => ?_⟩
      have := m1 _ _ _ q
      rcases (show j = 0 ∨ j = 1 by simp only at hj; omega) with rfl | rfl
      · exact h
      · exact this
    · exact ⟨by simp only; omega, fun j hj => by simp only at hj; obtain rfl : j = 0 := by omega
                                                 exact h⟩
  split
  · unfold three
    split
    · exact ⟨by simp only; omega, fun j hj => by simp only at hj; obtain rfl : j = 0 := by omega
                                                 exact h⟩
    · rename_i q
      have a1 := m1 (i + 1) (low3 (byteAt s i)) (high3 (byteAt s i)) (by omega)
      have a2 := m1 (i + 2) 128 191 (by omega)
      have a3 := more_yes (s := s) (i := i + 1) (l := low3 (byteAt s i)) (h := high3 (byteAt s i)) (by omega)
      refine ⟨?_, fun j hj => ?_⟩
      · simp only
        by_cases e : byteAt s i = 224
        · have : low3 (byteAt s i) = 160 := by unfold low3; rw [if_pos e]
          omega
        · omega
      · rcases (show j = 0 ∨ j = 1 ∨ j = 2 by simp only at hj; omega) with rfl | rfl | rfl
        · exact h
        · omega
        · exact a2
  split
  · unfold four
    split
    · exact ⟨by simp only; omega, fun j hj => by simp only at hj; obtain rfl : j = 0 := by omega
                                                 exact h⟩
    · rename_i q
      have a1 := m1 (i + 1) (low4 (byteAt s i)) (high4 (byteAt s i)) (by omega)
      have a2 := m1 (i + 2) 128 191 (by omega)
      have a4 := m1 (i + 3) 128 191 (by omega)
      have a3 := more_yes (s := s) (i := i + 1) (l := low4 (byteAt s i)) (h := high4 (byteAt s i)) (by omega)
      refine ⟨?_, fun j hj => ?_⟩
      · simp only
        by_cases e : byteAt s i = 240
        · have : low4 (byteAt s i) = 144 := by unfold low4; rw [if_pos e]
          omega
        · omega
      · rcases (show j = 0 ∨ j = 1 ∨ j = 2 ∨ j = 3 by simp only at hj; omega) with rfl | rfl | rfl | rfl
        · exact h
        · omega
        · exact a2
        · exact a4
  · exact ⟨by simp only; omega, fun j hj => by simp only at hj; obtain rfl : j = 0 := by omega
                                               exact h⟩
theorem any_skip (f : UInt8 → Bool) (hf : ∀ b : UInt8, 128 ≤ (b.toNat : Int) → f b = false) (l : Bs) : ∀ (n i : Nat), (∀ j, j < n → 128 ≤ at8 l (i + j)) → (l.drop i).any f = (l.drop (i + n)).any f
  | 0, i, _ => rfl
  | n + 1, i, h => by
    rw [show i + (n + 1) = (i + 1) + n from by omega, ← any_skip f hf l n (i + 1) (fun j hj => by have := h (j + 1) (by omega); rw [show i + 1 + j = i + (j + 1) from by omega]; exact this)]
    rcases Nat.lt_or_ge i l.length with q | q
    · rw [List.drop_eq_getElem_cons q, List.any_cons, hf, Bool.false_or]
      rw [← at8_get l i q]; exact h 0 (by omega)
    · rw [List.drop_of_length_le q, List.drop_of_length_le (by omega)]
theorem any_next (f : UInt8 → Bool) (l : Bs) (i : Nat) (h : i < l.length) : (l.drop i).any f = (f l[i] || (l.drop (i + 1)).any f) := by
  rw [List.drop_eq_getElem_cons h, List.any_cons]

def inSet (cs : Bs) (b : UInt8) : Bool := cs.contains b
def AnyPost (l cs : Bs) (w : World) (e : Ending) (w' : World) : Prop := ∃ r : Int, e = .returned (.int .i64 r) ∧ (decide (0 ≤ r) = l.any (inSet cs)) ∧ Kept w w'

set_option maxRecDepth 100000 in
set_option maxHeartbeats 1600000 in
theorem iany_short (l cs : Bs) (w : World) (hcs : Ascii cs) (hl : cs.length ≤ 1000) (h2 : 2 ≤ cs.length) (h8 : l.length ≤ 8) :
    Calls Tryz.prog 116 #[.string (bs l), .string (bs cs)] w (AnyPost l cs w) := by
  have hne1 : ((cs.length : Int) == 1) = false := by rw [beq_eq_false_iff_ne]; omega
  have hce : cs.isEmpty = false := by cases cs <;> simp at h2 ⊢
  have hce' : ¬ cs = [] := by cases cs <;> simp at h2 ⊢
  have hf : ∀ b : UInt8, 128 ≤ (b.toNat : Int) → inSet cs b = false := fun b hb => by
    unfold inSet
    rw [Bool.eq_false_iff]
    intro q
    have := hcs b (by simpa using q)
    omega
  have HF := Lib.hid hf
  clear hf
  go_enter Tryz.func116, Tryz.ntmps116
  go_wp2_with (go_at_call 155; refine (Tryz.strings_shouldUseASCIISet _ _).mono ?_; rintro e w' ⟨rfl, hw⟩; obtain rfl := hw.symm)
  go_loopw [9] (fun u wr => ∃ pos : Nat, pos ≤ l.length ∧ wr.heap[w.heap.size]? = some (.stringIter (bs l) pos) ∧ Kept w wr ∧ Hid (l.any (inSet cs) = (l.drop pos).any (inSet cs))) (fun u wr => l.length - wr.iterPos w.heap.size)
  case atStart => exact ⟨0, Nat.zero_le _, World.iter_heap _ _ _, kept_alloc _ _, rfl⟩
  case round =>
    obtain ⟨pos, hp, hit, hk, HA⟩ := hrel
    have hip : wr.iterPos w.heap.size = pos := by simp [World.iterPos, hit]
    have hsz : w.heap.size < wr.heap.size := by
      rcases Nat.lt_or_ge w.heap.size wr.heap.size with q | q
      · exact q
      · rw [Array.getElem?_eq_none q] at hit; cases hit
    by_cases hlt : pos < l.length
    · have nx := fun ty => run_next_k (P := Tryz.prog) wr w.heap.size (bs l) pos ty hit hlt
      have hb := dec_bounds (bs l) pos hlt
      have h0 := at8_lo l pos
      have hit2 : ∀ p, (wr.iterAt w.heap.size (bs l) p).heap[w.heap.size]? = some (.stringIter (bs l) p) := fun p => Lib.iterAt_heap wr w.heap.size (bs l) pos p hit
      have hk2 : ∀ p, Kept w (wr.iterAt w.heap.size (bs l) p) := fun p => Lib.below_iterAt hk (Nat.le_refl _) (bs l) p
      have HIT := Lib.hid hit2
      have HK2 := Lib.hid hk2
      have HIP := Lib.hid hip
      clear hit2 hk2 hip
      by_cases ha : at8 l pos < 128
      · have HN := Lib.hid (any_next (inSet cs) l pos hlt)
        rw [dec_ascii l pos ha] at nx
        simp only at nx
        have HB : Hid (at8 l pos = (l[pos].toNat : Int)) := at8_get l pos hlt
        generalize l[pos] = x at *
        generalize at8 l pos = c at *
        have HX : Hid (∀ w, Calls Tryz.prog 154 #[.string (bs cs), .int .i32 c] w fun e w' => e = .returned (.int .i64 (Lib.indexByte cs x)) ∧ w = w') := by
          intro w
          refine (Tryz.strings_IndexRune_ascii (bs cs) c w h0 ha).mono ?_
          rintro e w' ⟨rfl, rfl⟩
          refine ⟨?_, rfl⟩
          rw [HB.out, Int.toNat_natCast, show x.toNat.toUInt8 = x from by simp, bs_data]
        have HC : Hid (decide (0 ≤ Lib.indexByte cs x) = inSet cs x) := indexByte_contains x cs
        have hge := Lib.indexByte_ge cs x
        generalize Lib.indexByte cs x = r at *
        by_cases hr : 0 ≤ r
        · go_wp2_with fail
          refine (HX.out _).mono ?_
          rintro e w1 ⟨rfl, rfl⟩
          go_wp2_with fail
          go_ret
          exact ⟨_, rfl, by rw [HA.out, HN.out, ← HC.out, decide_eq_true hr]; simp, HK2.out _⟩
        · go_wp2_with fail
          refine (HX.out _).mono ?_
          rintro e w1 ⟨rfl, rfl⟩
          go_wp2_with fail
          go_roundw
          case rel => exact ⟨pos + 1, by omega, HIT.out _, HK2.out _, by show _ = _; rw [HA.out, HN.out, ← HC.out, decide_eq_false (by omega)]; simp⟩
          case measure => rw [HIP.out]; have := HIT.out (pos + 1); simp [World.iterPos, this]; omega
      · have HS : Hid ((l.drop pos).any (inSet cs) = (l.drop (pos + (dec (bs l) pos).2.toNat)).any (inSet cs)) := any_skip (inSet cs) HF.out l _ pos (dec_high (bs l) pos (by rw [byteAt_bs]; omega)).2
        have hc := (dec_high (bs l) pos (by rw [byteAt_bs]; omega)).1
        obtain ⟨c, n, hd⟩ : ∃ c n, dec (bs l) pos = (c, n) := ⟨(dec (bs l) pos).1, (dec (bs l) pos).2, rfl⟩
        rw [hd] at nx hb HS hc
        simp only at nx hb HS hc
        obtain ⟨b1, b2, b3, b4, b5⟩ := hb
        simp only [bs_size] at b5
        have HX : Hid (∀ w, Calls Tryz.prog 154 #[.string (bs cs), .int .i32 c] w fun e w' => e = .returned (.int .i64 (-1)) ∧ Kept w w') := by
          intro w
          by_cases q : c = 65533
          · rw [q]; exact irune_err cs w hcs hl
          · refine (irune_big cs c w hc b2 (by rw [beq_eq_false_iff_ne]; exact q) hcs hl).mono ?_
            rintro e w' ⟨rfl, n, rfl⟩
            exact ⟨rfl, kept_drewN _ _⟩
        clear hd
        go_wp2_with fail
        refine (HX.out _).mono ?_
        rintro e w1 ⟨rfl, hk1⟩
        have HK1 := Lib.hid hk1
        clear hk1
        go_wp2_with fail
        go_roundw
        case rel =>
          refine ⟨pos + n.toNat, by omega, ?_, (HK2.out _).trans HK1.out, by show _ = _; rw [HA.out, HS.out]⟩
          rw [HK1.out.block _ (by rw [Lib.iterAt_size]; exact hsz)]
          exact HIT.out _
        case measure =>
          have := HIT.out (pos + n.toNat)
          rw [← HK1.out.block _ (by rw [Lib.iterAt_size]; exact hsz)] at this
          rw [HIP.out]
          simp [World.iterPos, this]; omega
    · have nx := fun ty => run_next_k_end (P := Tryz.prog) wr w.heap.size (bs l) pos ty hit hlt
      go_wp2_with fail
      go_ret
      exact ⟨_, rfl, by rw [HA.out, List.drop_of_length_le (by omega)]; rfl, hk⟩

theorem zero_set (w : World) : (zeroValue 179).run Tryz.prog w = .ok (.agg (Array.replicate 256 (.bool false))) w := by kernel_rfl

theorem iany_any (l cs : Bs) (w : World) (hcs : Ascii cs) (hl : cs.length ≤ 1000) (h2 : 2 ≤ cs.length) (hs : l.length ≤ 1000000000) :
    Calls Tryz.prog 116 #[.string (bs l), .string (bs cs)] w (AnyPost l cs w) := by
  by_cases h8 : l.length ≤ 8
  · exact iany_short l cs w hcs hl h2 h8
  · refine (Tryz.strings_IndexAny_long zero_set (bs l) (bs cs) w (by simpa using h2) (by simp; omega) (by simp; omega) (by simp; omega) (fun j b hb => ?_)).mono ?_
    · have := hcs b (List.mem_of_getElem? (by simpa using hb)); omega
    · rintro e w' ⟨rfl, rfl⟩
      exact ⟨_, rfl, containsAny_eq cs l, (kept_alloc _ _).trans (kept_alloc _ _)⟩

set_option maxRecDepth 100000 in
theorem cany_any (l cs : Bs) (w : World) (hcs : Ascii cs) (hl : cs.length ≤ 1000) (h2 : 2 ≤ cs.length) (hs : l.length ≤ 1000000000) :
    Calls Tryz.prog 131 #[.string (bs l), .string (bs cs)] w fun e w' => e = .returned (.bool (l.any (inSet cs))) ∧ Kept w w' := by
  go_enter Tryz.func131, Tryz.ntmps131
  go_wp2_with fail
  refine (iany_any l cs _ hcs hl h2 hs).mono ?_
  rintro e w1 ⟨r, rfl, hr, hk⟩
  have HR := Lib.hid hr
  clear hr
  go_wp2_with fail
  all_goals go_ret
  all_goals exact ⟨ret_bool (by rw [← HR.out]), hk⟩
end Go.Proofs.YtpfbdgcgpghifaaGreatDoor
