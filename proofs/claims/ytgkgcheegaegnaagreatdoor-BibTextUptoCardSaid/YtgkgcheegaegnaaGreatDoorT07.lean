/- strings.ContainsAny at every text and a short set of ASCII letters: the walk. Conditions: lengths. -/
import Derived.Test.YtgkgcheegaegnaaGreatDoorT06
import Derived.Test.YtgkgcheegaegnaaGreatDoorT03

set_option linter.all false
namespace Go.Proofs.YtgkgcheegaegnaaGreatDoor
open Go.RowKit

theorem dec_high (s : ByteArray) (i : Nat) (h : 128 ≤ byteAt s i) : 128 ≤ (dec s i).1 ∧ ∀ j, j < (dec s i).2.toNat → 128 ≤ byteAt s (i + j) := by
  have m1 : ∀ k l h, 0 ≤ moreOf s k l h → l ≤ byteAt s k := fun k l h q => (more_yes q).2.1
  have hl3 : 128 ≤ low3 (byteAt s i) := by unfold low3; split <;> omega
  have hl4 : 128 ≤ low4 (byteAt s i) := by unfold low4; split <;> omega
  unfold dec
  rw [if_neg (by omega)]
  split
  · split
    · rename_i q
      refine ⟨by simp only; omega, fun j hj => ?_⟩
      have := m1 _ _ _ q
      rcases (show j = 0 ∨ j = 1 by simp only at hj; omega) with rfl | rfl
      · exact h
      · exact this
    · exact ⟨by simp only; omega, fun j hj => by simp only at hj; obtain rfl : j = 0 := by omega
                                                 exact h⟩
  split
  · unfold three
    split
    · exact ⟨by simp only; omega, fun j hj => by simp only at hj; obtain rfl : j = 0 := by omega
                                                 exact h⟩
    · rename_i q
      have a1 := m1 (i + 1) (low3 (byteAt s i)) (high3 (byteAt s i)) (by omega)
      have a2 := m1 (i + 2) 128 191 (by omega)
      have a3 := more_yes (s := s) (i := i + 1) (l := low3 (byteAt s i)) (h := high3 (byteAt s i)) (by omega)
      refine ⟨?_, fun j hj => ?_⟩
      · simp only
        by_cases e : byteAt s i = 224
        · have : low3 (byteAt s i) = 160 := by unfold low3; rw [if_pos e]
          omega
        · omega
      · rcases (show j = 0 ∨ j = 1 ∨ j = 2 by simp only at hj; omega) with rfl | rfl | rfl
        · exact h
        · omega
        · exact a2
  split
  · unfold four
    split
    · exact ⟨by simp only; omega, fun j hj => by simp only at hj; obtain rfl : j = 0 := by omega
                                                 exact h⟩
    · rename_i q
      have a1 := m1 (i + 1) (low4 (byteAt s i)) (high4 (byteAt s i)) (by omega)
      have a2 := m1 (i + 2) 128 191 (by omega)
      have a4 := m1 (i + 3) 128 191 (by omega)
      have a3 := more_yes (s := s) (i := i + 1) (l := low4 (byteAt s i)) (h := high4 (byteAt s i)) (by omega)
      refine ⟨?_, fun j hj => ?_⟩
      · simp only
        by_cases e : byteAt s i = 240
        · have : low4 (byteAt s i) = 144 := by unfold low4; rw [if_pos e]
          omega
        · omega
      · rcases (show j = 0 ∨ j = 1 ∨ j = 2 ∨ j = 3 by simp only at hj; omega) with rfl | rfl | rfl | rfl
        · exact h
        · omega
        · exact a2
        · exact a4
  · exact ⟨by simp only; omega, fun j hj => by simp only at hj; obtain rfl : j = 0 := by omega
                                               exact h⟩
theorem any_skip (f : UInt8 → Bool) (hf : ∀ b : UInt8, 128 ≤ (b.toNat : Int) → f b = false) (l : Bs) : ∀ (n i : Nat), (∀ j, j < n → 128 ≤ at8 l (i + j)) → (l.drop i).any f = (l.drop (i + n)).any f
  | 0, i, _ => rfl
  | n + 1, i, h => by
    rw [show i + (n + 1) = (i + 1) + n from by omega, ← any_skip f hf l n (i + 1) (fun j hj => by have := h (j + 1) (by omega); rw [show i + 1 + j = i + (j + 1) from by omega]; exact this)]
    rcases Nat.lt_or_ge i l.length with q | q
    · rw [List.drop_eq_getElem_cons q, List.any_cons, hf, Bool.false_or]
      rw [← at8_get l i q]; exact h 0 (by omega)
    · rw [List.drop_of_length_le q, List.drop_of_length_le (by omega)]
theorem any_next (f : UInt8 → Bool) (l : Bs) (i : Nat) (h : i < l.length) : (l.drop i).any f = (f l[i] || (l.drop (i + 1)).any f) := by
  rw [List.drop_eq_getElem_cons h, List.any_cons]

def inSet (cs : Bs) (b : UInt8) : Bool := cs.contains b
def AnyPost (l cs : Bs) (w : World) (e : Ending) (w' : World) : Prop := ∃ r : Int, e = .returned (.int .i64 r) ∧ (decide (0 ≤ r) = l.any (inSet cs)) ∧ Kept w w'

set_option maxRecDepth 100000 in
set_option maxHeartbeats 1600000 in
theorem iany_short (l cs : Bs) (w : World) (hcs : Ascii cs) (hl : cs.length ≤ 1000) (h2 : 2 ≤ cs.length) (h8 : l.length ≤ 8) :
    Calls Tryz.prog 91 #[.string (bs l), .string (bs cs)] w (AnyPost l cs w) := by
  have hne1 : ((cs.length : Int) == 1) = false := by rw [beq_eq_false_iff_ne]; omega
  have hce : cs.isEmpty = false := by cases cs <;> simp at h2 ⊢
  have hce' : ¬ cs = [] := by cases cs <;> simp at h2 ⊢
  have hf : ∀ b : UInt8, 128 ≤ (b.toNat : Int) → inSet cs b = false := fun b hb => by
    unfold inSet
    rw [Bool.eq_false_iff]
    intro q
    have := hcs b (by simpa using q)
    omega
  have HF := Lib.hid hf
  clear hf
  go_enter Tryz.func91, Tryz.ntmps91
  go_wp2_with (go_at_call 100; refine (Tryz.strings_shouldUseASCIISet _ _).mono ?_; rintro e w' ⟨rfl, hw⟩; obtain rfl := hw.symm)
  go_loopw [9] (fun u wr => ∃ pos : Nat, pos ≤ l.length ∧ wr.heap[w.heap.size]? = some (.stringIter (bs l) pos) ∧ Kept w wr ∧ Hid (l.any (inSet cs) = (l.drop pos).any (inSet cs))) (fun u wr => l.length - wr.iterPos w.heap.size)
  case atStart => exact ⟨0, Nat.zero_le _, World.iter_heap _ _ _, kept_alloc _ _, rfl⟩
  case round =>
    obtain ⟨pos, hp, hit, hk, HA⟩ := hrel
    have hip : wr.iterPos w.heap.size = pos := by simp [World.iterPos, hit]
    have hsz : w.heap.size < wr.heap.size := by
      rcases Nat.lt_or_ge w.heap.size wr.heap.size with q | q
      · exact q
      · rw [Array.getElem?_eq_none q] at hit; cases hit
    by_cases hlt : pos < l.length
    · have nx := fun ty => run_next_k (P := Tryz.prog) wr w.heap.size (bs l) pos ty hit hlt
      have hb := dec_bounds (bs l) pos hlt
      have h0 := at8_lo l pos
      have hit2 : ∀ p, (wr.iterAt w.heap.size (bs l) p).heap[w.heap.size]? = some (.stringIter (bs l) p) := fun p => Lib.iterAt_heap wr w.heap.size (bs l) pos p hit
      have hk2 : ∀ p, Kept w (wr.iterAt w.heap.size (bs l) p) := fun p => Lib.below_iterAt hk (Nat.le_refl _) (bs l) p
      have HIT := Lib.hid hit2
      have HK2 := Lib.hid hk2
      have HIP := Lib.hid hip
      clear hit2 hk2 hip
      by_cases ha : at8 l pos < 128
      · have HN := Lib.hid (any_next (inSet cs) l pos hlt)
        rw [dec_ascii l pos ha] at nx
        simp only at nx
        have HB : Hid (at8 l pos = (l[pos].toNat : Int)) := at8_get l pos hlt
        generalize l[pos] = x at *
        generalize at8 l pos = c at *
        have HX : Hid (∀ w, Calls Tryz.prog 99 #[.string (bs cs), .int .i32 c] w fun e w' => e = .returned (.int .i64 (Lib.indexByte cs x)) ∧ w = w') := by
          intro w
          refine (Tryz.strings_IndexRune_ascii (bs cs) c w h0 ha).mono ?_
          rintro e w' ⟨rfl, rfl⟩
          refine ⟨?_, rfl⟩
          rw [HB.out, Int.toNat_natCast, show x.toNat.toUInt8 = x from by simp, bs_data]
        have HC : Hid (decide (0 ≤ Lib.indexByte cs x) = inSet cs x) := indexByte_contains x cs
        have hge := Lib.indexByte_ge cs x
        generalize Lib.indexByte cs x = r at *
        by_cases hr : 0 ≤ r
        · go_wp2_with fail
          refine (HX.out _).mono ?_
          rintro e w1 ⟨rfl, rfl⟩
          go_wp2_with fail
          go_ret
          exact ⟨_, rfl, by rw [HA.out, HN.out, ← HC.out, decide_eq_true hr]; simp, HK2.out _⟩
        · go_wp2_with fail
          refine (HX.out _).mono ?_
          rintro e w1 ⟨rfl, rfl⟩
          go_wp2_with fail
          go_roundw
          case rel => exact ⟨pos + 1, by omega, HIT.out _, HK2.out _, by show _ = _; rw [HA.out, HN.out, ← HC.out, decide_eq_false (by omega)]; simp⟩
          case measure => rw [HIP.out]; have := HIT.out (pos + 1); simp [World.iterPos, this]; omega
      · have HS : Hid ((l.drop pos).any (inSet cs) = (l.drop (pos + (dec (bs l) pos).2.toNat)).any (inSet cs)) := any_skip (inSet cs) HF.out l _ pos (dec_high (bs l) pos (by rw [byteAt_bs]; omega)).2
        have hc := (dec_high (bs l) pos (by rw [byteAt_bs]; omega)).1
        obtain ⟨c, n, hd⟩ : ∃ c n, dec (bs l) pos = (c, n) := ⟨(dec (bs l) pos).1, (dec (bs l) pos).2, rfl⟩
        rw [hd] at nx hb HS hc
        simp only at nx hb HS hc
        obtain ⟨b1, b2, b3, b4, b5⟩ := hb
        simp only [bs_size] at b5
        have HX : Hid (∀ w, Calls Tryz.prog 99 #[.string (bs cs), .int .i32 c] w fun e w' => e = .returned (.int .i64 (-1)) ∧ Kept w w') := by
          intro w
          by_cases q : c = 65533
          · rw [q]; exact irune_err cs w hcs hl
          · refine (irune_big cs c w hc b2 (by rw [beq_eq_false_iff_ne]; exact q) hcs hl).mono ?_
            rintro e w' ⟨rfl, n, rfl⟩
            exact ⟨rfl, kept_drewN _ _⟩
        clear hd
        go_wp2_with fail
        refine (HX.out _).mono ?_
        rintro e w1 ⟨rfl, hk1⟩
        have HK1 := Lib.hid hk1
        clear hk1
        go_wp2_with fail
        go_roundw
        case rel =>
          refine ⟨pos + n.toNat, by omega, ?_, (HK2.out _).trans HK1.out, by show _ = _; rw [HA.out, HS.out]⟩
          rw [HK1.out.block _ (by rw [Lib.iterAt_size]; exact hsz)]
          exact HIT.out _
        case measure =>
          have := HIT.out (pos + n.toNat)
          rw [← HK1.out.block _ (by rw [Lib.iterAt_size]; exact hsz)] at this
          rw [HIP.out]
          simp [World.iterPos, this]; omega
    · have nx := fun ty => run_next_k_end (P := Tryz.prog) wr w.heap.size (bs l) pos ty hit hlt
      go_wp2_with fail
      go_ret
      exact ⟨_, rfl, by rw [HA.out, List.drop_of_length_le (by omega)]; rfl, hk⟩

theorem zero_set (w : World) : (zeroValue 118).run Tryz.prog w = .ok (.agg (Array.replicate 256 (.bool false))) w := by kernel_rfl

theorem iany_any (l cs : Bs) (w : World) (hcs : Ascii cs) (hl : cs.length ≤ 1000) (h2 : 2 ≤ cs.length) (hs : l.length ≤ 1000000000) :
    Calls Tryz.prog 91 #[.string (bs l), .string (bs cs)] w (AnyPost l cs w) := by
  by_cases h8 : l.length ≤ 8
  · exact iany_short l cs w hcs hl h2 h8
  · refine (Tryz.strings_IndexAny_long zero_set (bs l) (bs cs) w (by simpa using h2) (by simp; omega) (by simp; omega) (by simp; omega) (fun j b hb => ?_)).mono ?_
    · have := hcs b (List.mem_of_getElem? (by simpa using hb)); omega
    · rintro e w' ⟨rfl, rfl⟩
      exact ⟨_, rfl, containsAny_eq cs l, (kept_alloc _ _).trans (kept_alloc _ _)⟩

set_option maxRecDepth 100000 in
theorem cany_any (l cs : Bs) (w : World) (hcs : Ascii cs) (hl : cs.length ≤ 1000) (h2 : 2 ≤ cs.length) (hs : l.length ≤ 1000000000) :
    Calls Tryz.prog 76 #[.string (bs l), .string (bs cs)] w fun e w' => e = .returned (.bool (l.any (inSet cs))) ∧ Kept w w' := by
  go_enter Tryz.func76, Tryz.ntmps76
  go_wp2_with fail
  refine (iany_any l cs _ hcs hl h2 hs).mono ?_
  rintro e w1 ⟨r, rfl, hr, hk⟩
  have HR := Lib.hid hr
  clear hr
  go_wp2_with fail
  all_goals go_ret
  all_goals exact ⟨ret_bool (by rw [← HR.out]), hk⟩
end Go.Proofs.YtgkgcheegaegnaaGreatDoor

/- person.clean and person.joined. Conditions: lengths. -/
set_option linter.all false
namespace Go.Proofs.YtgkgcheegaegnaaGreatDoor
open Go.RowKit

def nonE (x : Bs) : Bool := !x.isEmpty
theorem filter_take (sp : List Bs) (k : Nat) (x : Bs) (h : sp[k]? = some x) : (sp.take (k + 1)).filter nonE = (sp.take k).filter nonE ++ (if nonE x then [x] else []) := by
  obtain ⟨hk, rfl⟩ := List.getElem?_eq_some_iff.1 h
  rw [List.take_succ_eq_append_getElem hk, List.filter_append]
  congr 1
  by_cases q : nonE sp[k] = true
  · rw [if_pos q]; simp [q]
  · rw [if_neg q]; simp [q]
theorem filter_le (sp : List Bs) (k : Nat) : ((sp.take k).filter nonE).length ≤ k :=
  Nat.le_trans (List.length_filter_le _ _) (List.length_take_le _ _)
theorem join_len_le (xs : List Bs) : (Lib.join xs [32]).length ≤ (xs.map (fun x => x.length + 1)).sum := by
  cases xs with
  | nil => simp [Lib.join_nil]
  | cons a r =>
    rw [Lib.join_cons]
    have : ∀ r : List Bs, (Lib.joinTail [32] r).length = (r.map (fun x => x.length + 1)).sum := by
      intro r
      induction r with
      | nil => rfl
      | cons b r ih => unfold Lib.joinTail at ih ⊢; simp only [List.map_cons, List.flatten_cons, List.length_append, ih, List.sum_cons]; simp; omega
    rw [List.length_append, this r]
    simp
theorem sum_filter_le (p : Bs → Bool) : ∀ xs : List Bs, ((xs.filter p).map (fun x => x.length + 1)).sum ≤ (xs.map (fun x => x.length + 1)).sum
  | [] => by simp
  | a :: r => by
    have ih := sum_filter_le p r
    rw [List.filter_cons]
    split <;> simp <;> omega
theorem runC_sum (c : UInt8) (l : Bs) : ((runC c l).1.map (fun x => x.length + 1)).sum + (runC c l).2.length = l.length := by
  refine snoc_ind (P := fun l => ((runC c l).1.map (fun x => x.length + 1)).sum + (runC c l).2.length = l.length) ?_ ?_ l
  · simp [runC]
  · intro l b ih
    rw [runC_snoc]
    unfold stepC
    split <;> simp [List.sum_append] <;> omega
theorem splitC_sum (c : UInt8) (l : Bs) : ((splitC c l).map (fun x => x.length + 1)).sum = l.length + 1 := by
  have := runC_sum c l
  unfold splitC
  rw [List.map_append, List.sum_append]
  simp; omega
theorem cleanL_le (l : Bs) : (cleanL l).length ≤ l.length + 1 := by
  unfold cleanL wordsOf
  have h1 := join_len_le ((splitC 32 l).filter (fun x => !x.isEmpty))
  have h2 := sum_filter_le (fun x => !x.isEmpty) (splitC 32 l)
  have h3 := splitC_sum 32 l
  omega

set_option maxRecDepth 100000 in
set_option maxHeartbeats 1600000 in
theorem clean_any (l : Bs) (w : World) (hg : Gnd w) (hs : l.length ≤ 100000000) :
    Calls Tryz.prog 77 #[.string (bs l)] w fun e w' => e = .returned (.string (bs (cleanL l))) ∧ Kept w w' := by
  obtain ⟨i0, hi, hz0, hz1, hz2⟩ := info_parts Tryz.infoStr
  have HCL : Hid (cleanL l = Lib.join ((splitC 32 l).filter nonE) [32]) := rfl
  have hlen := cleanL_le l
  have hsl : (splitC 32 l).length ≤ l.length + 1 := by rw [splitC_length]; have := List.count_le_length (a := (32 : UInt8)) (l := l); omega
  go_enter Tryz.func77, Tryz.ntmps77
  go_wp2_with fail
  refine (split_any l 32 _ hg (by omega)).mono ?_
  rintro e w1 ⟨rfl, hw1⟩
  have hz : w1.heap.size = w.heap.size + 1 := by rw [hw1]; simp
  have hk1 : Kept w w1 := by rw [hw1]; exact kept_alloc _ _
  have hc1 : ∀ j x, (splitC 32 l)[j]? = some x → w1.cell? ⟨w.heap.size, j, none⟩ = some (.string (bs x)) := by
    intro j x hx
    have := new_cells w (strCells (splitC 32 l)).toArray 9 w.heap.size rfl j (.string (bs x)) (strCells_at _ j x hx)
    rw [hw1]
    have e1 : ((⟨w.heap.size, 0, none⟩ : Addr).add j) = ⟨w.heap.size, j, none⟩ := by unfold Addr.add; split <;> simp_all
    rw [e1] at this; exact this
  generalize splitC 32 l = sp at *
  have HC1 := Lib.hid hc1
  have HK1 := Lib.hid hk1
  have HZ := Lib.hid hz
  have hzl : w.heap.size < w1.heap.size := by omega
  clear hc1 hk1 hw1 hz
  go_wp2_with fail
  go_loopw [3, 9] (fun v i wr => ∃ (k : Nat), k ≤ sp.length ∧ i = .int .i64 k ∧ wr.ownsRow w1.heap.size 9 1 v ((sp.take k).filter nonE).length (strCells ((sp.take k).filter nonE)) ∧ Kept w1 wr) (fun _ i _ => sp.length - (intOf i).toNat)
  case atStart => exact ⟨0, Nat.zero_le _, rfl, World.ownsRow_nil _ _ _ _, Kept.refl _⟩
  case round =>
    obtain ⟨k, hkl, rfl, hown, hkr⟩ := hrel
    by_cases hlt : k < sp.length
    · obtain ⟨x, hx⟩ : ∃ x, sp[k]? = some x := ⟨_, List.getElem?_eq_getElem hlt⟩
      have hcell : wr.cell? ⟨w.heap.size, k, none⟩ = some (.string (bs x)) := (hkr.cell (p := ⟨w.heap.size, k, none⟩) hzl).trans (HC1.out k x hx)
      have HF := Lib.hid (filter_take sp k x hx)
      have hfl := filter_le sp k
      generalize (sp.take k).filter nonE = ws at *
      have hsz : w1.heap.size ≤ wr.heap.size := hkr.size
      have HR := Lib.hid hkr
      have HW := Lib.hid hown
      clear hkr hx hown
      by_cases he : x = []
      · subst he
        go_wp2_with fail
        go_roundw
        case rel => exact ⟨k + 1, by omega, by go_num, by rw [HF.out]; simpa [nonE] using HW.out, HR.out⟩
        case measure => simp [intOf]; omega
      · have hown := HW.out
        have hee : x.isEmpty = false := by simpa using he
        go_wp2_with (at_builtin; refine wpList_append_own _ rfl _ _ 33 rfl w1.heap.size 9 i0 (.string ⟨#[]⟩) 1 16 Tryz.underlying33 hi hz0 hz1 hz2 rfl (by decide) _ _ _ rfl (hown.alloc _) ⟨wr.heap.size, 0, none⟩ 1 1 [.string (bs x)] rfl rfl ?c1 ?c2 ?c3 ?c4 ?c5 ?_)
        case c1 => exact new_cells _ #[.string (bs x)] _ _ (by simp)
        case c2 => intro u hu; simp at hu; subst hu; rfl
        case c3 => unfold maxLen; omega
        case c4 => omega
        case c5 => simp; omega
        intro v' w2 hown2 hgrow _
        have HB2 := Lib.hid ((HR.out.trans (kept_alloc wr _)).trans' (grown_below (hown.alloc _) hgrow (by simp; omega)))
        rw [← strCells_snoc] at hown2
        have HO := Lib.hid hown2
        clear hown2 hgrow hown
        go_wp2_with fail
        go_roundw
        case rel => exact ⟨k + 1, by omega, by go_num, by rw [HF.out]; simpa [nonE, hee] using HO.out, HB2.out⟩
        case measure => simp [intOf]; omega
    · have HW := Lib.hid (Strs.own hown)
      have HR := Lib.hid hkr
      rw [List.take_of_length_le (by omega)] at HW
      have hfl : (sp.filter nonE).length ≤ sp.length := List.length_filter_le _ _
      clear hown hkr
      go_wp2_with fail
      refine (join_any _ _ _ _ HW.out (by omega) (by rw [← HCL.out]; omega)).mono ?_
      rintro e w2 ⟨rfl, hk2⟩
      go_wp2_with fail
      go_ret
      exact ⟨ret_bs HCL.out.symm, (HK1.out.trans HR.out).trans hk2⟩
end Go.Proofs.YtgkgcheegaegnaaGreatDoor
