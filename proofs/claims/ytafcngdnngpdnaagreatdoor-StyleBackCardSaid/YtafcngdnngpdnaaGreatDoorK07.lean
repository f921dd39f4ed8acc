/- strings.ContainsAny at every text and a short set of ASCII letters: the walk. Conditions: lengths. -/
import Derived.Test.YtafcngdnngpdnaaGreatDoorK06

set_option linter.all false
namespace Go.Proofs.YtafcngdnngpdnaaGreatDoor
open Go.RowKit

theorem dec_high (s : ByteArray) (i : Nat) (h : 128 ≤ byteAt s i) : 128 ≤ (dec s i).1 ∧ ∀ j, j < (dec s i).2.toNat → 128 ≤ byteAt s (i + j) := by
  have m1 : ∀ k l h, 0 ≤ moreOf s k l h → l ≤ byteAt s k := fun k l h q => (more_yes q).2.1
  have hl3 : 128 ≤ low3 (byteAt s i) := by unfold low3; split <;> omega
  have hl4 : 128 ≤ low4 (byteAt s i) := by unfold low4; split <;> omega
  unfold dec
  rw [if_neg (by omega)]
  split
  · split
    · rename_i q
      refine ⟨by simp only; omega, fun j hj => ?_⟩
      have := m1 _ _ _ q
      rcases (show j = 0 ∨ j = 1 by simp only at hj; omega) with rfl | rfl
      · exact h
      · exact this
    · exact ⟨by simp only; omega, fun j hj => by simp only at hj; obtain rfl : j = 0 := by omega
                                                 exact h⟩
  split
  · unfold three
    split
    · exact ⟨by simp only; omega, fun j hj => by simp only at hj; obtain rfl : j = 0 := by omega
                                                 exact h⟩
    · rename_i q
      have a1 := m1 (i + 1) (low3 (byteAt s i)) (high3 (byteAt s i)) (by omega)
      have a2 := m1 (i + 2) 128 191 (by omega)
      have a3 := more_yes (s := s) (i := i + 1) (l := low3 (byteAt s i)) (h := high3 (byteAt s i)) (by omega)
      refine ⟨?_, fun j hj => ?_⟩
      · simp only
        by_cases e : byteAt s i = 224
        · have : low3 (byteAt s i) = 160 := by unfold low3; rw [if_pos e]
          omega
        · omega
      · rcases (show j = 0 ∨ j = 1 ∨ j = 2 by simp only at hj; omega) with rfl | rfl | rfl
        · exact h
        · omega
        · exact a2
  split
  · unfold four
    split
    · exact ⟨by simp only; omega, fun j hj => by simp only at hj; obtain rfl : j = 0 := by omega
                                                 exact h⟩
    · rename_i q
      have a1 := m1 (i + 1) (low4 (byteAt s i)) (high4 (byteAt s i)) (by omega)
      have a2 := m1 (i + 2) 128 191 (by omega)
      have a4 := m1 (i + 3) 128 191 (by omega)
      have a3 := more_yes (s := s) (i := i + 1) (l := low4 (byteAt s i)) (h := high4 (byteAt s i)) (by omega)
      refine ⟨?_, fun j hj => ?_⟩
      · simp only
        by_cases e : byteAt s i = 240
        · have : low4 (byteAt s i) = 144 := by unfold low4; rw [if_pos e]
          omega
        · omega
      · rcases (show j = 0 ∨ j = 1 ∨ j = 2 ∨ j = 3 by simp only at hj; omega) with rfl | rfl | rfl | rfl
        · exact h
        · omega
        · exact a2
        · exact a4
  · exact ⟨by simp only; omega, fun j hj => by simp only at hj; obtain rfl : j = 0 := by omega
                                               exact h⟩
theorem any_skip (f : UInt8 → Bool) (hf : ∀ b : UInt8, 128 ≤ (b.toNat : Int) → f b = false) (l : Bs) : ∀ (n i : Nat), (∀ j, j < n → 128 ≤ at8 l (i + j)) → (l.drop i).any f = (l.drop (i + n)).any f
  | 0, i, _ => rfl
  | n + 1, i, h => by
    rw [show i + (n + 1) = (i + 1) + n from by omega, ← any_skip f hf l n (i + 1) (fun j hj => by have := h (j + 1) (by omega); rw [show i + 1 + j = i + (j + 1) from by omega]; exact this)]
    rcases Nat.lt_or_ge i l.length with q | q
    · rw [List.drop_eq_getElem_cons q, List.any_cons, hf, Bool.false_or]
      rw [← at8_get l i q]; exact h 0 (by omega)
    · rw [List.drop_of_length_le q, List.drop_of_length_le (by omega)]
theorem any_next (f : UInt8 → Bool) (l : Bs) (i : Nat) (h : i < l.length) : (l.drop i).any f = (f l[i] || (l.drop (i + 1)).any f) := by
  rw [List.drop_eq_getElem_cons h, List.any_cons]

def inSet (cs : Bs) (b : UInt8) : Bool := cs.contains b
def AnyPost (l cs : Bs) (w : World) (e : Ending) (w' : World) : Prop := ∃ r : Int, e = .returned (.int .i64 r) ∧ (decide (0 ≤ r) = l.any (inSet cs)) ∧ Kept w w'

set_option maxRecDepth 100000 in
set_option maxHeartbeats 1600000 in
theorem iany_short (l cs : Bs) (w : World) (hcs : Ascii cs) (hl : cs.length ≤ 1000) (h2 : 2 ≤ cs.length) (h8 : l.length ≤ 8) :
    Calls Tryz.prog 53 #[.string (bs l), .string (bs cs)] w (AnyPost l cs w) := by
  have hne1 : ((cs.length : Int) == 1) = false := by rw [beq_eq_false_iff_ne]; omega
  have hce : cs.isEmpty = false := by cases cs <;> simp at h2 ⊢
  have hce' : ¬ cs = [] := by cases cs <;> simp at h2 ⊢
  have hf : ∀ b : UInt8, 128 ≤ (b.toNat : Int) → inSet cs b = false := fun b hb => by
    unfold inSet
    rw [Bool.eq_false_iff]
    intro q
    have := hcs b (by simpa using q)
    omega
  have HF := Lib.hid hf
  clear hf
  go_enter Tryz.func53, Tryz.ntmps53
  go_wp2_with (go_at_call 78; refine (Tryz.strings_shouldUseASCIISet _ _).mono ?_; rintro e w' ⟨rfl, hw⟩; obtain rfl := hw.symm)
  go_loopw [9] (fun u wr => ∃ pos : Nat, pos ≤ l.length ∧ wr.heap[w.heap.size]? = some (.stringIter (bs l) pos) ∧ Kept w wr ∧ Hid (l.any (inSet cs) = (l.drop pos).any (inSet cs))) (fun u wr => l.length - wr.iterPos w.heap.size)
  case atStart => exact ⟨0, Nat.zero_le _, World.iter_heap _ _ _, kept_alloc _ _, rfl⟩
  case round =>
    obtain ⟨pos, hp, hit, hk, HA⟩ := hrel
    have hip : wr.iterPos w.heap.size = pos := by simp [World.iterPos, hit]
    have hsz : w.heap.size < wr.heap.size := by
      rcases Nat.lt_or_ge w.heap.size wr.heap.size with q | q
      · exact q
      · rw [Array.getElem?_eq_none q] at hit; cases hit
    by_cases hlt : pos < l.length
    · have nx := fun ty => run_next_k (P := Tryz.prog) wr w.heap.size (bs l) pos ty hit hlt
      have hb := dec_bounds (bs l) pos hlt
      have h0 := at8_lo l pos
      have hit2 : ∀ p, (wr.iterAt w.heap.size (bs l) p).heap[w.heap.size]? = some (.stringIter (bs l) p) := fun p => Lib.iterAt_heap wr w.heap.size (bs l) pos p hit
      have hk2 : ∀ p, Kept w (wr.iterAt w.heap.size (bs l) p) := fun p => Lib.below_iterAt hk (Nat.le_refl _) (bs l) p
      have HIT := Lib.hid hit2
      have HK2 := Lib.hid hk2
      have HIP := Lib.hid hip
      clear hit2 hk2 hip
      by_cases ha : at8 l pos < 128
      · have HN := Lib.hid (any_next (inSet cs) l pos hlt)
        rw [dec_ascii l pos ha] at nx
        simp only at nx
        have HB : Hid (at8 l pos = (l[pos].toNat : Int)) := at8_get l pos hlt
        generalize l[pos] = x at *
        generalize at8 l pos = c at *
        have HX : Hid (∀ w, Calls Tryz.prog 77 #[.string (bs cs), .int .i32 c] w fun e w' => e = .returned (.int .i64 (Lib.indexByte cs x)) ∧ w = w') := by
          intro w
          refine (Tryz.strings_IndexRune_ascii (bs cs) c w h0 ha).mono ?_
          rintro e w' ⟨rfl, rfl⟩
          refine ⟨?_, rfl⟩
          rw [HB.out, Int.toNat_natCast, show x.toNat.toUInt8 = x from by simp, bs_data]
        have HC : Hid (decide (0 ≤ Lib.indexByte cs x) = inSet cs x) := indexByte_contains x cs
        have hge := Lib.indexByte_ge cs x
        generalize Lib.indexByte cs x = r at *
        by_cases hr : 0 ≤ r
        · go_wp2_with fail
          refine (HX.out _).mono ?_
          rintro e w1 ⟨rfl, rfl⟩
          go_wp2_with fail
          go_ret
          exact ⟨_, rfl, by rw [HA.out, HN.out, ← HC.out, decide_eq_true hr]; simp, HK2.out _⟩
        · go_wp2_with fail
          refine (HX.out _).mono ?_
          rintro e w1 ⟨rfl, rfl⟩
          go_wp2_with fail
          go_roundw
          case rel => exact ⟨pos + 1, by omega, HIT.out _, HK2.out _, by show _ = _; rw [HA.out, HN.out, ← HC.out, decide_eq_false (by omega)]; simp⟩
          case measure => rw [HIP.out]; have := HIT.out (pos + 1); simp [World.iterPos, this]; omega
      · have HS : Hid ((l.drop pos).any (inSet cs) = (l.drop (pos + (dec (bs l) pos).2.toNat)).any (inSet cs)) := any_skip (inSet cs) HF.out l _ pos (dec_high (bs l) pos (by rw [byteAt_bs]; omega)).2
        have hc := (dec_high (bs l) pos (by rw [byteAt_bs]; omega)).1
        obtain ⟨c, n, hd⟩ : ∃ c n, dec (bs l) pos = (c, n) := ⟨(dec (bs l) pos).1, (dec (bs l) pos).2, rfl⟩
        rw [hd] at nx hb HS hc
        simp only at nx hb HS hc
        obtain ⟨b1, b2, b3, b4, b5⟩ := hb
        simp only [bs_size] at b5
        have HX : Hid (∀ w, Calls Tryz.prog 77 #[.string (bs cs), .int .i32 c] w fun e w' => e = .returned (.int .i64 (-1)) ∧ Kept w w') := by
          intro w
          by_cases q : c = 65533
          · rw [q]; exact irune_err cs w hcs hl
          · refine (irune_big cs c w hc b2 (by rw [beq_eq_false_iff_ne]; exact q) hcs hl).mono ?_
            rintro e w' ⟨rfl, n, rfl⟩
            exact ⟨rfl, kept_drewN _ _⟩
        clear hd
        go_wp2_with fail
        refine (HX.out _).mono ?_
        rintro e w1 ⟨rfl, hk1⟩
        have HK1 := Lib.hid hk1
        clear hk1
        go_wp2_with fail
        go_roundw
        case rel =>
          refine ⟨pos + n.toNat, by omega, ?_, (HK2.out _).trans HK1.out, by show _ = _; rw [HA.out, HS.out]⟩
          rw [HK1.out.block _ (by rw [Lib.iterAt_size]; exact hsz)]
          exact HIT.out _
        case measure =>
          have := HIT.out (pos + n.toNat)
          rw [← HK1.out.block _ (by rw [Lib.iterAt_size]; exact hsz)] at this
          rw [HIP.out]
          simp [World.iterPos, this]; omega
    · have nx := fun ty => run_next_k_end (P := Tryz.prog) wr w.heap.size (bs l) pos ty hit hlt
      go_wp2_with fail
      go_ret
      exact ⟨_, rfl, by rw [HA.out, List.drop_of_length_le (by omega)]; rfl, hk⟩

theorem zero_set (w : World) : (zeroValue 106).run Tryz.prog w = .ok (.agg (Array.replicate 256 (.bool false))) w := by kernel_rfl

theorem iany_any (l cs : Bs) (w : World) (hcs : Ascii cs) (hl : cs.length ≤ 1000) (h2 : 2 ≤ cs.length) (hs : l.length ≤ 1000000000) :
    Calls Tryz.prog 53 #[.string (bs l), .string (bs cs)] w (AnyPost l cs w) := by
  by_cases h8 : l.length ≤ 8
  · exact iany_short l cs w hcs hl h2 h8
  · refine (Tryz.strings_IndexAny_long zero_set (bs l) (bs cs) w (by simpa using h2) (by simp; omega) (by simp; omega) (by simp; omega) (fun j b hb => ?_)).mono ?_
    · have := hcs b (List.mem_of_getElem? (by simpa using hb)); omega
    · rintro e w' ⟨rfl, rfl⟩
      exact ⟨_, rfl, containsAny_eq cs l, (kept_alloc _ _).trans (kept_alloc _ _)⟩

end Go.Proofs.YtafcngdnngpdnaaGreatDoor

/- strings.IndexAny at ASCII sets, every text: the place. Conditions: lengths. -/
set_option linter.all false
namespace Go.Proofs.YtafcngdnngpdnaaGreatDoor
open Go.RowKit

def IdxPost (l cs : Bs) (w : World) (e : Ending) (w' : World) : Prop := e = .returned (.int .i64 (Lib.indexAny l cs)) ∧ Kept w w'
theorem indexAny_hit (cs : Bs) : ∀ (l : Bs) (pos : Nat), (∀ b ∈ l.take pos, inSet cs b = false) → (∃ x, l[pos]? = some x ∧ inSet cs x = true) → Lib.indexAny l cs = (pos : Int)
  | [], pos, _, ⟨x, hx, _⟩ => by simp at hx
  | b :: l, 0, _, ⟨x, hx, hc⟩ => by
    simp at hx
    subst hx
    unfold inSet at hc
    rw [Lib.indexAny, if_pos hc]; rfl
  | b :: l, pos + 1, h, ⟨x, hx, hc⟩ => by
    have hb : cs.contains b = false := h b (by simp)
    have ih := indexAny_hit cs l pos (fun y hy => h y (by rw [List.take_succ_cons]; exact List.mem_cons_of_mem _ hy)) ⟨x, by simpa using hx, hc⟩
    rw [Lib.indexAny, hb, ih]
    have : ((pos : Int) == -1) = false := by rw [beq_eq_false_iff_ne]; omega
    rw [this]; simp
theorem indexAny_none (cs : Bs) : ∀ l : Bs, (∀ b ∈ l, inSet cs b = false) → Lib.indexAny l cs = -1
  | [], _ => rfl
  | b :: l, h => by
    have hb : cs.contains b = false := h b (by simp)
    rw [Lib.indexAny, hb, indexAny_none cs l (fun y hy => h y (List.mem_cons_of_mem _ hy))]; rfl
theorem take_one (f : UInt8 → Bool) (l : Bs) (pos : Nat) (h : pos < l.length) (h1 : ∀ b ∈ l.take pos, f b = false) (h2 : f l[pos] = false) : ∀ b ∈ l.take (pos + 1), f b = false := by
  intro b hb
  rw [List.take_succ_eq_append_getElem h] at hb
  rcases List.mem_append.1 hb with q | q
  · exact h1 b q
  · simp at q; rw [q]; exact h2
theorem take_high (f : UInt8 → Bool) (hf : ∀ b : UInt8, 128 ≤ (b.toNat : Int) → f b = false) (l : Bs) : ∀ (n i : Nat), (∀ b ∈ l.take i, f b = false) → (∀ j, j < n → 128 ≤ byteAt (bs l) (i + j)) → ∀ b ∈ l.take (i + n), f b = false
  | 0, i, h, _ => h
  | n + 1, i, h, hh => by
    rcases Nat.lt_or_ge i l.length with q | q
    · have h1 := hh 0 (by omega)
      rw [Nat.add_zero, byteAt_bs, at8_get l i q] at h1
      have := take_high f hf l n (i + 1) (take_one f l i q h (hf _ h1)) (fun j hj => by have := hh (j + 1) (by omega); rwa [show i + 1 + j = i + (j + 1) from by omega])
      rwa [show i + (n + 1) = i + 1 + n from by omega]
    · intro b hb
      rw [List.take_of_length_le (by omega)] at hb
      exact h b (by rw [List.take_of_length_le q]; exact hb)

set_option maxRecDepth 100000 in
set_option maxHeartbeats 1600000 in
theorem iidx_short (l cs : Bs) (w : World) (hcs : Ascii cs) (hl : cs.length ≤ 1000) (h2 : 2 ≤ cs.length) (h8 : l.length ≤ 8) :
    Calls Tryz.prog 53 #[.string (bs l), .string (bs cs)] w (IdxPost l cs w) := by
  have hne1 : ((cs.length : Int) == 1) = false := by rw [beq_eq_false_iff_ne]; omega
  have hce : cs.isEmpty = false := by cases cs <;> simp at h2 ⊢
  have hce' : ¬ cs = [] := by cases cs <;> simp at h2 ⊢
  have hf : ∀ b : UInt8, 128 ≤ (b.toNat : Int) → inSet cs b = false := fun b hb => by
    unfold inSet
    rw [Bool.eq_false_iff]
    intro q
    have := hcs b (by simpa using q)
    omega
  have HF := Lib.hid hf
  clear hf
  go_enter Tryz.func53, Tryz.ntmps53
  go_wp2_with (go_at_call 78; refine (Tryz.strings_shouldUseASCIISet _ _).mono ?_; rintro e w' ⟨rfl, hw⟩; obtain rfl := hw.symm)
  go_loopw [9] (fun u wr => ∃ pos : Nat, pos ≤ l.length ∧ wr.heap[w.heap.size]? = some (.stringIter (bs l) pos) ∧ Kept w wr ∧ Hid (∀ b ∈ l.take pos, inSet cs b = false)) (fun u wr => l.length - wr.iterPos w.heap.size)
  case atStart => exact ⟨0, Nat.zero_le _, World.iter_heap _ _ _, kept_alloc _ _, (by show ∀ b ∈ _, _; simp)⟩
  case round =>
    obtain ⟨pos, hp, hit, hk, HA⟩ := hrel
    have hip : wr.iterPos w.heap.size = pos := by simp [World.iterPos, hit]
    have hsz : w.heap.size < wr.heap.size := by
      rcases Nat.lt_or_ge w.heap.size wr.heap.size with q | q
      · exact q
      · rw [Array.getElem?_eq_none q] at hit; cases hit
    by_cases hlt : pos < l.length
    · have nx := fun ty => run_next_k (P := Tryz.prog) wr w.heap.size (bs l) pos ty hit hlt
      have hb := dec_bounds (bs l) pos hlt
      have h0 := at8_lo l pos
      have hit2 : ∀ p, (wr.iterAt w.heap.size (bs l) p).heap[w.heap.size]? = some (.stringIter (bs l) p) := fun p => Lib.iterAt_heap wr w.heap.size (bs l) pos p hit
      have hk2 : ∀ p, Kept w (wr.iterAt w.heap.size (bs l) p) := fun p => Lib.below_iterAt hk (Nat.le_refl _) (bs l) p
      have HIT := Lib.hid hit2
      have HK2 := Lib.hid hk2
      have HIP := Lib.hid hip
      clear hit2 hk2 hip
      by_cases ha : at8 l pos < 128
      · have HL1 := Lib.hid (fun h : inSet cs l[pos] = true => indexAny_hit cs l pos HA.out ⟨l[pos], List.getElem?_eq_getElem hlt, h⟩)
        have HL2 := Lib.hid (fun h : inSet cs l[pos] = false => take_one (inSet cs) l pos hlt HA.out h)
        rw [dec_ascii l pos ha] at nx
        simp only at nx
        have HB : Hid (at8 l pos = (l[pos].toNat : Int)) := at8_get l pos hlt
        generalize l[pos] = x at *
        generalize at8 l pos = c at *
        have HX : Hid (∀ w, Calls Tryz.prog 77 #[.string (bs cs), .int .i32 c] w fun e w' => e = .returned (.int .i64 (Lib.indexByte cs x)) ∧ w = w') := by
          intro w
          refine (Tryz.strings_IndexRune_ascii (bs cs) c w h0 ha).mono ?_
          rintro e w' ⟨rfl, rfl⟩
          refine ⟨?_, rfl⟩
          rw [HB.out, Int.toNat_natCast, show x.toNat.toUInt8 = x from by simp, bs_data]
        have HC : Hid (decide (0 ≤ Lib.indexByte cs x) = inSet cs x) := indexByte_contains x cs
        have hge := Lib.indexByte_ge cs x
        generalize Lib.indexByte cs x = r at *
        by_cases hr : 0 ≤ r
        · go_wp2_with fail
          refine (HX.out _).mono ?_
          rintro e w1 ⟨rfl, rfl⟩
          go_wp2_with fail
          go_ret
          exact ⟨ret_int (HL1.out (by rw [← HC.out]; exact decide_eq_true hr)).symm, HK2.out _⟩
        · go_wp2_with fail
          refine (HX.out _).mono ?_
          rintro e w1 ⟨rfl, rfl⟩
          go_wp2_with fail
          go_roundw
          case rel => exact ⟨pos + 1, by omega, HIT.out _, HK2.out _, HL2.out (by rw [← HC.out]; exact decide_eq_false (by omega))⟩
          case measure => rw [HIP.out]; have := HIT.out (pos + 1); simp [World.iterPos, this]; omega
      · have HS : Hid (∀ b ∈ l.take (pos + (dec (bs l) pos).2.toNat), inSet cs b = false) := take_high (inSet cs) HF.out l _ pos HA.out (dec_high (bs l) pos (by rw [byteAt_bs]; omega)).2
        have hc := (dec_high (bs l) pos (by rw [byteAt_bs]; omega)).1
        obtain ⟨c, n, hd⟩ : ∃ c n, dec (bs l) pos = (c, n) := ⟨(dec (bs l) pos).1, (dec (bs l) pos).2, rfl⟩
        rw [hd] at nx hb HS hc
        simp only at nx hb HS hc
        obtain ⟨b1, b2, b3, b4, b5⟩ := hb
        simp only [bs_size] at b5
        have HX : Hid (∀ w, Calls Tryz.prog 77 #[.string (bs cs), .int .i32 c] w fun e w' => e = .returned (.int .i64 (-1)) ∧ Kept w w') := by
          intro w
          by_cases q : c = 65533
          · rw [q]; exact irune_err cs w hcs hl
          · refine (irune_big cs c w hc b2 (by rw [beq_eq_false_iff_ne]; exact q) hcs hl).mono ?_
            rintro e w' ⟨rfl, n, rfl⟩
            exact ⟨rfl, kept_drewN _ _⟩
        clear hd
        go_wp2_with fail
        refine (HX.out _).mono ?_
        rintro e w1 ⟨rfl, hk1⟩
        have HK1 := Lib.hid hk1
        clear hk1
        go_wp2_with fail
        go_roundw
        case rel =>
          refine ⟨pos + n.toNat, by omega, ?_, (HK2.out _).trans HK1.out, HS.out⟩
          rw [HK1.out.block _ (by rw [Lib.iterAt_size]; exact hsz)]
          exact HIT.out _
        case measure =>
          have := HIT.out (pos + n.toNat)
          rw [← HK1.out.block _ (by rw [Lib.iterAt_size]; exact hsz)] at this
          rw [HIP.out]
          simp [World.iterPos, this]; omega
    · have nx := fun ty => run_next_k_end (P := Tryz.prog) wr w.heap.size (bs l) pos ty hit hlt
      go_wp2_with fail
      go_ret
      exact ⟨ret_int (indexAny_none cs l (fun b hb => HA.out b (by rw [List.take_of_length_le (by omega)]; exact hb))).symm, hk⟩

theorem iidx_any (l cs : Bs) (w : World) (hcs : Ascii cs) (hl : cs.length ≤ 1000) (h2 : 2 ≤ cs.length) (hs : l.length ≤ 1000000000) :
    Calls Tryz.prog 53 #[.string (bs l), .string (bs cs)] w (IdxPost l cs w) := by
  by_cases h8 : l.length ≤ 8
  · exact iidx_short l cs w hcs hl h2 h8
  · refine (Tryz.strings_IndexAny_long zero_set (bs l) (bs cs) w (by simpa using h2) (by simp; omega) (by simp; omega) (by simp; omega) (fun j b hb => ?_)).mono ?_
    · have := hcs b (List.mem_of_getElem? (by simpa using hb)); omega
    · rintro e w' ⟨rfl, rfl⟩
      exact ⟨rfl, (kept_alloc _ _).trans (kept_alloc _ _)⟩
end Go.Proofs.YtafcngdnngpdnaaGreatDoor

/- Styles in plain Lean: lines, small words, pieces of templates. No condition. -/
set_option linter.all false
namespace Go.Proofs.YtafcngdnngpdnaaGreatDoor
open Go.RowKit

/-- Is a text a line of clean text? -/
def lnB (l : Bs) : Bool := validB (bs l) && !l.contains 10
def lowB (b : UInt8) : Bool := decide (97 ≤ (b.toNat : Int)) && decide ((b.toNat : Int) ≤ 122)
/-- Has a text 1 to most bytes, all of them small letters or in more? -/
def smallB (l : Bs) (most : Int) (more : Bs) : Bool := decide (1 ≤ l.length) && (decide ((l.length : Int) ≤ most) && l.all fun b => lowB b || more.contains b)
/-- A piece of a template. -/
structure Pc where
  txt : Bs
  fld : Bool
  grp : Nat
def spSet : Bs := [123, 125, 91, 93]
/-- How many bytes stand ahead of the first special one. -/
def runN (l : Bs) : Nat := if Lib.indexAny l spSet < 0 then l.length else (Lib.indexAny l spSet).toNat
/-- The pieces of what is left of a template: gs groups have begun, the place is in group g (0: in none). -/
def splP : Nat → Bs → Nat → Nat → Option (List Pc)
  | 0, _, _, _ => none
  | _ + 1, [], _, g => if g = 0 then some [] else none
  | f + 1, b :: r, gs, g =>
    if inSet spSet b = false then (splP f ((b :: r).drop (runN (b :: r))) gs g).map fun l => ⟨(b :: r).take (runN (b :: r)), false, g⟩ :: l
    else if b = 123 then
      if before 125 r < r.length ∧ smallB (r.take (before 125 r)) 20 [] = true then (splP f (r.drop (before 125 r + 1)) gs g).map fun l => ⟨r.take (before 125 r), true, g⟩ :: l else none
    else if b = 91 ∧ g = 0 then splP f r (gs + 1) (gs + 1)
    else if b = 93 ∧ g ≠ 0 then splP f r gs 0
    else none
def splT (t : Bs) : Option (List Pc) := splP (t.length + 1) t 0 0
/-- The error and the pieces of a template. -/
def splE (t : Bs) : Int := if lnB t = false then 17 else if (splT t).isSome = true then 0 else 5
def splL (t : Bs) : List Pc := if splE t = 0 then (splT t).getD [] else []
theorem splP_end (f gs g : Nat) : splP (f + 1) [] gs g = if g = 0 then some [] else none := rfl
theorem splP_run {b : UInt8} {r : Bs} (f gs g : Nat) (h : inSet spSet b = false) : splP (f + 1) (b :: r) gs g = (splP f ((b :: r).drop (runN (b :: r))) gs g).map fun l => ⟨(b :: r).take (runN (b :: r)), false, g⟩ :: l := by
  rw [splP, if_pos h]
theorem splP_fld {r : Bs} (f gs g : Nat) : splP (f + 1) (123 :: r) gs g = if before 125 r < r.length ∧ smallB (r.take (before 125 r)) 20 [] = true then (splP f (r.drop (before 125 r + 1)) gs g).map fun l => ⟨r.take (before 125 r), true, g⟩ :: l else none := by
  rw [splP, if_neg (by decide), if_pos rfl]
theorem splP_open {r : Bs} (f gs g : Nat) : splP (f + 1) (91 :: r) gs g = if g = 0 then splP f r (gs + 1) (gs + 1) else none := by
  rw [splP, if_neg (by decide), if_neg (by decide)]
  by_cases h : g = 0
  · rw [if_pos ⟨rfl, h⟩, if_pos h]
  · rw [if_neg (fun q => h q.2), if_neg (fun q => absurd q.1 (by decide)), if_neg h]
theorem splP_shut {r : Bs} (f gs g : Nat) : splP (f + 1) (93 :: r) gs g = if g = 0 then none else splP f r gs 0 := by
  rw [splP, if_neg (by decide), if_neg (by decide), if_neg (fun q => absurd q.1 (by decide))]
  by_cases h : g = 0
  · rw [if_neg (fun q => q.2 h), if_pos h]
  · rw [if_pos ⟨rfl, h⟩, if_neg h]
theorem splP_bad {r : Bs} (f gs g : Nat) : splP (f + 1) (125 :: r) gs g = none := by
  rw [splP, if_neg (by decide), if_neg (by decide), if_neg (fun q => absurd q.1 (by decide)), if_neg (fun q => absurd q.1 (by decide))]
theorem spSet_cases {b : UInt8} (h : inSet spSet b = true) : b = 123 ∨ b = 125 ∨ b = 91 ∨ b = 93 := by
  unfold inSet spSet at h
  simpa using h
theorem indexAny_lt (cs : Bs) : ∀ l : Bs, Lib.indexAny l cs < (l.length : Int)
  | [] => by rw [Lib.indexAny]; simp
  | b :: l => by
    have ih := indexAny_lt cs l
    rw [Lib.indexAny]
    split
    · simp only [List.length_cons]; omega
    · split
      · simp only [List.length_cons]; omega
      · simp only [List.length_cons]; omega
theorem runN_zero {b : UInt8} {r : Bs} (h : inSet spSet b = true) : Lib.indexAny (b :: r) spSet = 0 := by
  unfold inSet at h
  rw [Lib.indexAny, if_pos h]
theorem runN_pos {b : UInt8} {r : Bs} (h : inSet spSet b = false) : (Lib.indexAny (b :: r) spSet = -1 ∧ runN (b :: r) = r.length + 1) ∨ (∃ k : Nat, Lib.indexAny (b :: r) spSet = (k : Int) ∧ runN (b :: r) = k ∧ 0 < k ∧ k ≤ r.length) := by
  have hge := Lib.indexAny_ge spSet (b :: r)
  unfold inSet at h
  have hne : Lib.indexAny (b :: r) spSet ≠ 0 := by
    rw [Lib.indexAny, h]
    have := Lib.indexAny_ge spSet r
    simp only [Bool.false_eq_true, if_false]
    split
    · omega
    · rename_i q
      rw [Bool.not_eq_true, beq_eq_false_iff_ne] at q
      omega
  by_cases q : Lib.indexAny (b :: r) spSet = -1
  · refine .inl ⟨q, ?_⟩
    unfold runN
    rw [if_pos (by omega)]; simp
  · refine .inr ⟨(Lib.indexAny (b :: r) spSet).toNat, by omega, ?_, by omega, ?_⟩
    · unfold runN
      rw [if_neg (by omega)]
    · have := indexAny_lt spSet (b :: r)
      simp only [List.length_cons] at this
      omega
end Go.Proofs.YtafcngdnngpdnaaGreatDoor
