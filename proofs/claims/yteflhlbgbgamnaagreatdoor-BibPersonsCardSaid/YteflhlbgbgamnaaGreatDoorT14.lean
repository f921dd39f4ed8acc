/- strings.ContainsAny at every text and a short set of ASCII letters: the walk. Conditions: lengths. -/
import Derived.Test.YteflhlbgbgamnaaGreatDoorT13
import Derived.Test.YteflhlbgbgamnaaGreatDoorT07

set_option linter.all false
namespace Go.Proofs.YteflhlbgbgamnaaGreatDoor
open Go.RowKit

theorem dec_high (s : ByteArray) (i : Nat) (h : 128 ≤ byteAt s i) : 128 ≤ (dec s i).1 ∧ ∀ j, j < (dec s i).2.toNat → 128 ≤ byteAt s (i + j) := by
  have m1 : ∀ k l h, 0 ≤ moreOf s k l h → l ≤ byteAt s k := fun k l h q => (more_yes q).2.1
  have hl3 : 128 ≤ low3 (byteAt s i) := by unfold low3; split <;> omega
  have hl4 : 128 ≤ low4 (byteAt s i) := by unfold low4; split <;> omega
  unfold dec
  rw [if_neg (by omega)]
  split
  · split
    · rename_i q
      refine ⟨by simp only; omega, fun j hj => ?_⟩
      have := m1 _ _ _ q
      rcases (show j = 0 ∨ j = 1 by simp only at hj; omega) with rfl | rfl
      · exact h
      · exact this
    · exact ⟨by simp only; omega, fun j hj => by simp only at hj; obtain rfl : j = 0 := by omega
                                                 exact h⟩
  split
  · unfold three
    split
    · exact ⟨by simp only; omega, fun j hj => by simp only at hj; obtain rfl : j = 0 := by omega
                                                 exact h⟩
    · rename_i q
      have a1 := m1 (i + 1) (low3 (byteAt s i)) (high3 (byteAt s i)) (by omega)
      have a2 := m1 (i + 2) 128 191 (by omega)
      have a3 := more_yes (s := s) (i := i + 1) (l := low3 (byteAt s i)) (h := high3 (byteAt s i)) (by omega)
      refine ⟨?_, fun j hj => ?_⟩
      · simp only
        by_cases e : byteAt s i = 224
        · have : low3 (byteAt s i) = 160 := by unfold low3; rw [if_pos e]
          omega
        · omega
      · rcases (show j = 0 ∨ j = 1 ∨ j = 2 by simp only at hj; omega) with rfl | rfl | rfl
        · exact h
        · omega
        · exact a2
  split
  · unfold four
    split
    · exact ⟨by simp only; omega, fun j hj => by simp only at hj; obtain rfl : j = 0 := by omega
                                                 exact h⟩
    · rename_i q
      have a1 := m1 (i + 1) (low4 (byteAt s i)) (high4 (byteAt s i)) (by omega)
      have a2 := m1 (i + 2) 128 191 (by omega)
      have a4 := m1 (i + 3) 128 191 (by omega)
      have a3 := more_yes (s := s) (i := i + 1) (l := low4 (byteAt s i)) (h := high4 (byteAt s i)) (by omega)
      refine ⟨?_, fun j hj => ?_⟩
      · simp only
        by_cases e : byteAt s i = 240
        · have : low4 (byteAt s i) = 144 := by unfold low4; rw [if_pos e]
          omega
        · omega
      · rcases (show j = 0 ∨ j = 1 ∨ j = 2 ∨ j = 3 by simp only at hj; omega) with rfl | rfl | rfl | rfl
        · exact h
        · omega
        · exact a2
        · exact a4
  · exact ⟨by simp only; omega, fun j hj => by simp only at hj; obtain rfl : j = 0 := by omega
                                               exact h⟩
theorem any_skip (f : UInt8 → Bool) (hf : ∀ b : UInt8, 128 ≤ (b.toNat : Int) → f b = false) (l : Bs) : ∀ (n i : Nat), (∀ j, j < n → 128 ≤ at8 l (i + j)) → (l.drop i).any f = (l.drop (i + n)).any f
  | 0, i, _ => rfl
  | n + 1, i, h => by
    rw [show i + (n + 1) = (i + 1) + n from by omega, ← any_skip f hf l n (i + 1) (fun j hj => by have := h (j + 1) (by omega); rw [show i + 1 + j = i + (j + 1) from by omega]; exact this)]
    rcases Nat.lt_or_ge i l.length with q | q
    · rw [List.drop_eq_getElem_cons q, List.any_cons, hf, Bool.false_or]
      rw [← at8_get l i q]; exact h 0 (by omega)
    · rw [List.drop_of_length_le q, List.drop_of_length_le (by omega)]
theorem any_next (f : UInt8 → Bool) (l : Bs) (i : Nat) (h : i < l.length) : (l.drop i).any f = (f l[i] || (l.drop (i + 1)).any f) := by
  rw [List.drop_eq_getElem_cons h, List.any_cons]

def inSet (cs : Bs) (b : UInt8) : Bool := cs.contains b
def AnyPost (l cs : Bs) (w : World) (e : Ending) (w' : World) : Prop := ∃ r : Int, e = .returned (.int .i64 r) ∧ (decide (0 ≤ r) = l.any (inSet cs)) ∧ Kept w w'

set_option maxRecDepth 100000 in
set_option maxHeartbeats 1600000 in
theorem iany_short (l cs : Bs) (w : World) (hcs : Ascii cs) (hl : cs.length ≤ 1000) (h2 : 2 ≤ cs.length) (h8 : l.length ≤ 8) :
    Calls Tryz.prog 123 #[.string (bs l), .string (bs cs)] w (AnyPost l cs w) := by
  have hne1 : ((cs.length : Int) == 1) = false := by rw [beq_eq_false_iff_ne]; omega
  have hce : cs.isEmpty = false := by cases cs <;> simp at h2 ⊢
  have hce' : ¬ cs = [] := by cases cs <;> simp at h2 ⊢
  have hf : ∀ b : UInt8, 128 ≤ (b.toNat : Int) → inSet cs b = false := fun b hb => by
    unfold inSet
    rw [Bool.eq_false_iff]
    intro q
    have := hcs b (by simpa using q)
    omega
  have HF := Lib.hid hf
  clear hf
  go_enter Tryz.func123, Tryz.ntmps123
  go_wp2_with (go_at_call 151; refine (Tryz.strings_shouldUseASCIISet _ _).mono ?_; rintro e w' ⟨rfl, hw⟩; obtain rfl := hw.symm)
  go_loopw [9] (fun u wr => ∃ pos : Nat, pos ≤ l.length ∧ wr.heap[w.heap.size]? = some (.stringIter (bs l) pos) ∧ Kept w wr ∧ Hid (l.any (inSet cs) = (l.drop pos).any (inSet cs))) (fun u wr => l.length - wr.iterPos w.heap.size)
  case atStart => exact ⟨0, Nat.zero_le _, World.iter_heap _ _ _, kept_alloc _ _, rfl⟩
  case round =>
    obtain ⟨pos, hp, hit, hk, HA⟩ := hrel
    have hip : wr.iterPos w.heap.size = pos := by simp [World.iterPos, hit]
    have hsz : w.heap.size < wr.heap.size := by
      rcases Nat.lt_or_ge w.heap.size wr.heap.size with q | q
      · exact q
      · rw [Array.getElem?_eq_none q] at hit; cases hit
    by_cases hlt : pos < l.length
    · have nx := fun ty => run_next_k (P := Tryz.prog) wr w.heap.size (bs l) pos ty hit hlt
      have hb := dec_bounds (bs l) pos hlt
      have h0 := at8_lo l pos
      have hit2 : ∀ p, (wr.iterAt w.heap.size (bs l) p).heap[w.heap.size]? = some (.stringIter (bs l) p) := fun p => Lib.iterAt_heap wr w.heap.size (bs l) pos p hit
      have hk2 : ∀ p, Kept w (wr.iterAt w.heap.size (bs l) p) := fun p => Lib.below_iterAt hk (Nat.le_refl _) (bs l) p
      have HIT := Lib.hid hit2
      have HK2 := Lib.hid hk2
      have HIP := Lib.hid hip
      clear hit2 hk2 hip
      by_cases ha : at8 l pos < 128
      · have HN := Lib.hid (any_next (inSet cs) l pos hlt)
        rw [dec_ascii l pos ha] at nx
        simp only at nx
        have HB : Hid (at8 l pos = (l[pos].toNat : Int)) := at8_get l pos hlt
        generalize l[pos] = x at *
        generalize at8 l pos = c at *
        have HX : Hid (∀ w, Calls Tryz.prog 150 #[.string (bs cs), .int .i32 c] w fun e w' => e = .returned (.int .i64 (Lib.indexByte cs x)) ∧ w = w') := by
          intro w
          refine (Tryz.strings_IndexRune_ascii (bs cs) c w h0 ha).mono ?_
          rintro e w' ⟨rfl, rfl⟩
          refine ⟨?_, rfl⟩
          rw [HB.out, Int.toNat_natCast, show x.toNat.toUInt8 = x from by simp, bs_data]
        have HC : Hid (decide (0 ≤ Lib.indexByte cs x) = inSet cs x) := indexByte_contains x cs
        have hge := Lib.indexByte_ge cs x
        generalize Lib.indexByte cs x = r at *
        by_cases hr : 0 ≤ r
        · go_wp2_with fail
          refine (HX.out _).mono ?_
          rintro e w1 ⟨rfl, rfl⟩
          go_wp2_with fail
          go_ret
          exact ⟨_, rfl, by rw [HA.out, HN.out, ← HC.out, decide_eq_true hr]; simp, HK2.out _⟩
        · go_wp2_with fail
          refine (HX.out _).mono ?_
          rintro e w1 ⟨rfl, rfl⟩
          go_wp2_with fail
          go_roundw
          case rel => exact ⟨pos + 1, by omega, HIT.out _, HK2.out _, by show _ = _; rw [HA.out, HN.out, ← HC.out, decide_eq_false (by omega)]; simp⟩
          case measure => rw [HIP.out]; have := HIT.out (pos + 1); simp [World.iterPos, this]; omega
      · have HS : Hid ((l.drop pos).any (inSet cs) = (l.drop (pos + (dec (bs l) pos).2.toNat)).any (inSet cs)) := any_skip (inSet cs) HF.out l _ pos (dec_high (bs l) pos (by rw [byteAt_bs]; omega)).2
        have hc := (dec_high (bs l) pos (by rw [byteAt_bs]; omega)).1
        obtain ⟨c, n, hd⟩ : ∃ c n, dec (bs l) pos = (c, n) := ⟨(dec (bs l) pos).1, (dec (bs l) pos).2, rfl⟩
        rw [hd] at nx hb HS hc
        simp only at nx hb HS hc
        obtain ⟨b1, b2, b3, b4, b5⟩ := hb
        simp only [bs_size] at b5
        have HX : Hid (∀ w, Calls Tryz.prog 150 #[.string (bs cs), .int .i32 c] w fun e w' => e = .returned (.int .i64 (-1)) ∧ Kept w w') := by
          intro w
          by_cases q : c = 65533
          · rw [q]; exact irune_err cs w hcs hl
          · refine (irune_big cs c w hc b2 (by rw [beq_eq_false_iff_ne]; exact q) hcs hl).mono ?_
            rintro e w' ⟨rfl, n, rfl⟩
            exact ⟨rfl, kept_drewN _ _⟩
        clear hd
        go_wp2_with fail
        refine (HX.out _).mono ?_
        rintro e w1 ⟨rfl, hk1⟩
        have HK1 := Lib.hid hk1
        clear hk1
        go_wp2_with fail
        go_roundw
        case rel =>
          refine ⟨pos + n.toNat, by omega, ?_, (HK2.out _).trans HK1.out, by show _ = _; rw [HA.out, HS.out]⟩
          rw [HK1.out.block _ (by rw [Lib.iterAt_size]; exact hsz)]
          exact HIT.out _
        case measure =>
          have := HIT.out (pos + n.toNat)
          rw [← HK1.out.block _ (by rw [Lib.iterAt_size]; exact hsz)] at this
          rw [HIP.out]
          simp [World.iterPos, this]; omega
    · have nx := fun ty => run_next_k_end (P := Tryz.prog) wr w.heap.size (bs l) pos ty hit hlt
      go_wp2_with fail
      go_ret
      exact ⟨_, rfl, by rw [HA.out, List.drop_of_length_le (by omega)]; rfl, hk⟩

theorem zero_set (w : World) : (zeroValue 167).run Tryz.prog w = .ok (.agg (Array.replicate 256 (.bool false))) w := by kernel_rfl

theorem iany_any (l cs : Bs) (w : World) (hcs : Ascii cs) (hl : cs.length ≤ 1000) (h2 : 2 ≤ cs.length) (hs : l.length ≤ 1000000000) :
    Calls Tryz.prog 123 #[.string (bs l), .string (bs cs)] w (AnyPost l cs w) := by
  by_cases h8 : l.length ≤ 8
  · exact iany_short l cs w hcs hl h2 h8
  · refine (Tryz.strings_IndexAny_long zero_set (bs l) (bs cs) w (by simpa using h2) (by simp; omega) (by simp; omega) (by simp; omega) (fun j b hb => ?_)).mono ?_
    · have := hcs b (List.mem_of_getElem? (by simpa using hb)); omega
    · rintro e w' ⟨rfl, rfl⟩
      exact ⟨_, rfl, containsAny_eq cs l, (kept_alloc _ _).trans (kept_alloc _ _)⟩

set_option maxRecDepth 100000 in
theorem cany_any (l cs : Bs) (w : World) (hcs : Ascii cs) (hl : cs.length ≤ 1000) (h2 : 2 ≤ cs.length) (hs : l.length ≤ 1000000000) :
    Calls Tryz.prog 95 #[.string (bs l), .string (bs cs)] w fun e w' => e = .returned (.bool (l.any (inSet cs))) ∧ Kept w w' := by
  go_enter Tryz.func95, Tryz.ntmps95
  go_wp2_with fail
  refine (iany_any l cs _ hcs hl h2 hs).mono ?_
  rintro e w1 ⟨r, rfl, hr, hk⟩
  have HR := Lib.hid hr
  clear hr
  go_wp2_with fail
  all_goals go_ret
  all_goals exact ⟨ret_bool (by rw [← HR.out]), hk⟩
end Go.Proofs.YteflhlbgbgamnaaGreatDoor

/- The reference's Valid of layer 1. No condition but the length. -/
set_option linter.all false
namespace Go.Proofs.YteflhlbgbgamnaaGreatDoor
open Go.RowKit

theorem all_from {α : Type} (f : α → Bool) (l : List α) (k : Nat) (p : α) (h : l[k]? = some p) : (l.drop k).all f = (f p && (l.drop (k + 1)).all f) := by
  obtain ⟨hk, rfl⟩ := List.getElem?_eq_some_iff.1 h
  rw [List.drop_eq_getElem_cons hk, List.all_cons]
theorem all_start {α : Type} (f : α → Bool) (l : List α) (b : Bool) (h : b = l.all f) : Hid (b = (l.drop 0).all f) := by unfold Hid; simpa using h

set_option maxRecDepth 100000 in
set_option maxHeartbeats 1600000 in
theorem rvalid_any (s : ByteArray) (w : World) (hs : s.size ≤ 1000000000) :
    Calls Tryz.prog 44 #[.string s] w fun e w' => e = .returned (.bool (validB s)) ∧ Kept w w' := by
  have hlen : (points s).length ≤ s.size := by have := pts_len s 0; unfold points; omega
  have HV := validB_points s
  go_enter Tryz.func44, Tryz.ntmps44
  go_wp2_with fail
  refine (points_any s _ hs).mono ?_
  rintro e w1 ⟨v, rfl, hown, hk⟩
  generalize points s = pts at *
  obtain ⟨a, c, rfl, h1, h2, h3⟩ := own_cap hown
  have hat := ptCells_at pts
  have H3 := Lib.hid h3
  have HAT := Lib.hid hat
  have HK := Lib.hid hk
  have HVS := all_start _ _ _ HV
  clear h3 hat hk hown HV
  go_wp2_with fail
  go_loopw [8] (fun i wr => ∃ (k : Nat), k ≤ pts.length ∧ i = .int .i64 k ∧ Hid (validB s = (pts.drop k).all goodPt) ∧ Kept w1 wr) (fun i _ => pts.length - (intOf i).toNat)
  case atStart => exact ⟨0, Nat.zero_le _, rfl, HVS, Kept.refl _⟩
  case round =>
    obtain ⟨k, hkl, rfl, HP, hkr⟩ := hrel
    by_cases hlt : k < pts.length
    · obtain ⟨g, rfl, _, hg, hcell⟩ := H3.out (by omega)
      obtain ⟨p, hp⟩ : ∃ p, pts[k]? = some p := ⟨_, List.getElem?_eq_getElem hlt⟩
      have HA : Hid ((pts.drop k).all goodPt = (goodPt p && (pts.drop (k + 1)).all goodPt)) := all_from goodPt pts k p hp
      obtain ⟨c0, c1⟩ := HAT.out k p hp
      have c0' : wr.cell? ⟨g, k * 2, none⟩ = some (.int .i64 p.1) := (hkr.cell (p := ⟨g, k * 2, none⟩) hg).trans (hcell _ _ (by rw [Nat.mul_comm]; exact c0))
      have c1' : wr.cell? ⟨g, k * 2 + 1, none⟩ = some (.int .i64 p.2) := (hkr.cell (p := ⟨g, k * 2 + 1, none⟩) hg).trans (hcell _ _ (by rw [Nat.mul_comm]; exact c1))
      have HR := Lib.hid hkr
      clear hkr hcell hp c0 c1
      obtain ⟨c, n⟩ := p
      simp only at c0' c1'
      have hgr : g < wr.heap.size := by have := HR.out.size; omega
      have tt : (cleanOf c = false ∧ goodPt (c, n) = false) ∨ (cleanOf c = true ∧ (c == 65533) = false ∧ goodPt (c, n) = true) ∨ (cleanOf c = true ∧ (c == 65533) = true ∧ (n == 1) = false ∧ goodPt (c, n) = true) ∨ (cleanOf c = true ∧ (c == 65533) = true ∧ (n == 1) = true ∧ goodPt (c, n) = false) := by
        unfold goodPt
        cases cleanOf c <;> cases (c == 65533) <;> cases (n == 1) <;> simp
      rcases tt with ⟨t1, t4⟩ | ⟨t1, t2, t4⟩ | ⟨t1, t2, t3, t4⟩ | ⟨t1, t2, t3, t4⟩
      all_goals
        have HG := Lib.hid t4
        clear t4
        go_wp2_with (go_at_call 90; refine (rclean_any _ _).mono ?_; rintro e w' ⟨rfl, rfl⟩)
        first
        | (go_ret
           exact ⟨ret_bool (by rw [HP.out, HA.out, HG.out]; rfl), (HK.out.trans HR.out).trans (kept_alloc _ _)⟩)
        | (go_roundw
           case rel => exact ⟨k + 1, by omega, by go_num, by show _ = _; rw [HP.out, HA.out, HG.out]; simp, HR.out.trans (kept_alloc _ _)⟩
           case measure => simp [intOf]; omega)
    · have HR := Lib.hid hkr
      clear hkr
      go_wp2_with fail
      go_ret
      exact ⟨ret_bool (by rw [HP.out, List.drop_of_length_le (by omega)]; rfl), HK.out.trans HR.out⟩
end Go.Proofs.YteflhlbgbgamnaaGreatDoor
