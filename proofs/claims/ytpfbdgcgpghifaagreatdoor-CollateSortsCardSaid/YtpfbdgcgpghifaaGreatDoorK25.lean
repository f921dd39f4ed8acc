/- lines.Split once more, with the place of the slice. (Lines' lsplit_any says less and may be dropped.) -/
import Derived.Test.YtpfbdgcgpghifaaGreatDoorK08
import Derived.Test.YtpfbdgcgpghifaaGreatDoorK11
import Derived.Test.YtpfbdgcgpghifaaGreatDoorK17

set_option linter.all false
namespace Go.Proofs.YtpfbdgcgpghifaaGreatDoor
open Go.RowKit

def BaseB (B : Nat) (v : Value) (xs : List Bs) : Prop := 0 < xs.length → ∃ g, v.ownBlock = some g ∧ B ≤ g
theorem BaseB.own {w : World} {base : Nat} {e : TypeId} {v : Value} {xs : List Bs} (h : w.ownsRow base e 1 v xs.length (strCells xs)) : BaseB base v xs := by
  obtain ⟨a, c, hv, _, _, h3⟩ := own_cap h
  intro q
  obtain ⟨g, ha, hb, _⟩ := h3 q
  exact ⟨g, by rw [hv, ha]; rfl, hb⟩
def SliQ (xs : List Bs) (w : World) (e : Ending) (w' : World) : Prop := ∃ v, e = .returned v ∧ Strs w' v xs ∧ BaseB w.heap.size v xs ∧ Kept w w'
set_option maxRecDepth 100000 in
set_option maxHeartbeats 3200000 in
theorem lsplit_own (t : Bs) (w : World) (ht : t.length ≤ 1100000) : Calls Tryz.prog 61 #[.string (bs t)] w (SliQ (linesL t) w) := by
  obtain ⟨i0', hi', hz0, hz1, hz2⟩ := info_parts Tryz.infoStr
  go_enter Tryz.func61, Tryz.ntmps61
  go_wp2_with fail
  go_loopw [3, 4, 8] (fun v fv i wr => ∃ (k fr : Nat) (xs : List Bs), k ≤ t.length ∧ i = .int .i64 k ∧ fv = .int .i64 fr ∧ fr ≤ k ∧ xs.length ≤ k ∧ wr.ownsRow w.heap.size 9 1 v xs.length (strCells xs) ∧ Hid (LineSt t k fr xs) ∧ Kept w wr) (fun _ _ i _ => t.length - (intOf i).toNat)
  case atStart => exact ⟨0, 0, [], Nat.zero_le _, rfl, rfl, Nat.zero_le _, Nat.le_refl _, World.ownsRow_nil _ _ _ _, LineSt.start t, Kept.refl _⟩
  case round =>
    obtain ⟨k, fr, xs, hk, rfl, rfl, hfr, hxl, hown, HS, hkr⟩ := hrel
    have hsz : w.heap.size ≤ wr.heap.size := hkr.size
    have HKR := Lib.hid hkr
    have HOWN := Lib.hid hown
    clear hkr hown
    by_cases hlt : k < t.length
    · have i0 := run_ix (P := Tryz.prog) (t := 9) Tryz.underlying9 t k hlt k rfl
      have HC : Hid (at8 t k = 10 ↔ t[k] = 10) := by show _ ↔ _; rw [at8_get t k hlt]; exact u8_int _ 10 (by decide)
      by_cases hb : at8 t k = 10
      · obtain ⟨hst, hfk⟩ := HS.out.feed hlt (HC.out.1 hb)
        have sl := run_sub (P := Tryz.prog) (t := 9) Tryz.underlying9 t fr k hfk (by omega) fr k rfl rfl _ rfl
        have HST := Lib.hid hst
        have hown := HOWN.out
        have hb' : (at8 t k == 10) = true := by simpa using hb
        generalize (t.drop fr).take (k - fr) = y at *
        generalize at8 t k = b at *
        clear hst HC hb
        go_wp2_with (at_builtin; refine wpList_append_own _ rfl _ _ 23 rfl w.heap.size 9 i0' (.string ⟨#[]⟩) 1 16 Tryz.underlying23 hi' hz0 hz1 hz2 rfl (by decide) _ _ _ rfl (hown.alloc _) ⟨wr.heap.size, 0, none⟩ 1 1 [.string (bs y)] rfl rfl ?_ ?_ ?_ ?_ ?_ ?_)
        · exact new_cells _ #[.string (bs y)] _ _ (by simp)
        · intro u hu; simp at hu; subst hu; rfl
        · unfold maxLen; omega
        · omega
        · simp; omega
        intro v' w2 hown2 hgrow _
        have HB2 := Lib.hid ((HKR.out.trans (kept_alloc wr _)).trans' (grown_below (hown.alloc _) hgrow (by simp; omega)))
        rw [← strCells_snoc] at hown2
        have HO := Lib.hid hown2
        clear hown2 hgrow hown
        go_wp2_with fail
        go_roundw
        case rel => exact ⟨k + 1, k + 1, xs ++ [y], by omega, by go_num, by go_num, by omega, by simp; omega, by simpa using HO.out, HST.out, HB2.out⟩
        case measure => simp [intOf]; omega
      · obtain ⟨hst, hfk⟩ := HS.out.other hlt (fun q => hb (HC.out.2 q))
        have HST := Lib.hid hst
        have hb' : (at8 t k == 10) = false := by simpa using hb
        generalize at8 t k = b at *
        clear hst HC hb
        go_wp2_with fail
        go_roundw
        case rel => exact ⟨k + 1, fr, xs, by omega, by go_num, rfl, by omega, by omega, HOWN.out, HST.out, HKR.out⟩
        case measure => simp [intOf]; omega
    · obtain rfl : k = t.length := by omega
      obtain ⟨hfl, hfin⟩ := HS.out.done
      have HFIN := Lib.hid hfin
      clear hfin
      by_cases hq : fr < t.length
      · rw [if_pos hq] at HFIN
        have sl := run_from (P := Tryz.prog) (t := 9) Tryz.underlying9 t fr hfl fr rfl _ rfl
        have hown := HOWN.out
        generalize t.drop fr = y at *
        go_wp2_with (at_builtin; refine wpList_append_own _ rfl _ _ 23 rfl w.heap.size 9 i0' (.string ⟨#[]⟩) 1 16 Tryz.underlying23 hi' hz0 hz1 hz2 rfl (by decide) _ _ _ rfl (hown.alloc _) ⟨wr.heap.size, 0, none⟩ 1 1 [.string (bs y)] rfl rfl ?_ ?_ ?_ ?_ ?_ ?_)
        · exact new_cells _ #[.string (bs y)] _ _ (by simp)
        · intro u hu; simp at hu; subst hu; rfl
        · unfold maxLen; omega
        · omega
        · simp; omega
        intro v' w2 hown2 hgrow _
        have HB2 := Lib.hid ((HKR.out.trans (kept_alloc wr _)).trans' (grown_below (hown.alloc _) hgrow (by simp; omega)))
        rw [← strCells_snoc] at hown2
        have hown3 : w2.ownsRow w.heap.size 9 1 v' (xs ++ [y]).length (strCells (xs ++ [y])) := by simpa using hown2
        have HO : Hid (Strs w2 v' (xs ++ [y]) ∧ BaseB w.heap.size v' (xs ++ [y])) := ⟨Strs.own hown3, BaseB.own hown3⟩
        clear hown3
        clear hown2 hgrow hown
        go_wp2_with fail
        go_ret
        exact ⟨_, rfl, by rw [HFIN.out]; exact HO.out.1, by rw [HFIN.out]; exact HO.out.2, HB2.out⟩
      · rw [if_neg hq, List.append_nil] at HFIN
        have HO := Lib.hid (And.intro (Strs.own HOWN.out) (BaseB.own HOWN.out))
        go_wp2_with fail
        go_ret
        exact ⟨_, rfl, by rw [HFIN.out]; exact HO.out.1, by rw [HFIN.out]; exact HO.out.2, HKR.out⟩

end Go.Proofs.YtpfbdgcgpghifaaGreatDoor

/- words of collate and of publisherref25. Conditions: lengths. -/
set_option linter.all false
namespace Go.Proofs.YtpfbdgcgpghifaaGreatDoor
open Go.RowKit

def WrdP (xs : List Bs) (w : World) (e : Ending) (w' : World) : Prop := ∃ v, e = .returned v ∧ Strs w' v xs ∧ Kept w w'
theorem wordsB_next (l : Bs) (k : Nat) (x : Bs) (h : (splitC 32 l)[k]? = some x) : ((splitC 32 l).take (k + 1)).filter (fun x => !x.isEmpty) = if x = [] then ((splitC 32 l).take k).filter (fun x => !x.isEmpty) else ((splitC 32 l).take k).filter (fun x => !x.isEmpty) ++ [x] := by
  rw [filter_next _ _ k x h]
  cases x <;> simp
theorem Strs.cell_of2 {w : World} {a : Option Addr} {n c : Nat} {xs : List Bs} (h : Strs w (.slice a n c) xs) (k : Nat) (x : Bs) (hx : xs[k]? = some x) : ∃ g o, a = some ⟨g, o, none⟩ ∧ g < w.heap.size ∧ w.cell? ⟨g, o + k, none⟩ = some (.string (bs x)) := by
  obtain ⟨a', c', hv, hc, h3⟩ := h
  obtain ⟨rfl, rfl, rfl⟩ := Value.slice.inj hv
  obtain ⟨hk, _⟩ := List.getElem?_eq_some_iff.1 hx
  obtain ⟨g, o, ha, hg, hcell⟩ := h3 (by omega)
  exact ⟨g, o, ha, hg, hcell k x hx⟩
theorem strs_made (w : World) (xs : List Bs) : Strs (w.alloc (.cells (strCells xs).toArray 9)) (.slice (some ⟨w.heap.size, 0, none⟩) xs.length xs.length) xs := by
  refine ⟨_, _, rfl, Nat.le_refl _, fun _ => ⟨w.heap.size, 0, rfl, by simp, fun j x hx => ?_⟩⟩
  have hb := Blk.new w 9 (strCells xs).toArray
  refine hb.cell (0 + j) _ ?_
  rw [Nat.zero_add, List.getElem?_toArray]
  exact strCells_at xs j x hx
set_option maxRecDepth 100000 in
set_option maxHeartbeats 3200000 in
theorem words_any (l : Bs) (w : World) (hg : Gnd w) (hl : l.length ≤ 1100000) : Calls Tryz.prog 86 #[.string (bs l)] w (WrdP (wordsB l) w) := by
  obtain ⟨i0, hi, hz0, hz1, hz2⟩ := info_parts Tryz.infoStr
  have HS := Lib.hid (split_any l 32 w hg (by omega))
  have hn := splitC_count 32 l
  have HF : Hid (wordsB l = (splitC 32 l).filter (fun x => !x.isEmpty)) := rfl
  have HNX := Lib.hid (wordsB_next l)
  have HMD := Lib.hid (strs_made w (splitC 32 l))
  have HKM := Lib.hid (kept_alloc w (.cells (strCells (splitC 32 l)).toArray 9))
  generalize wordsB l = R at *
  generalize splitC 32 l = xs at *
  go_enter Tryz.func86, Tryz.ntmps86
  go_wp2_with fail
  refine HS.out.mono ?_
  rintro e w' ⟨rfl, rfl⟩
  generalize w.alloc (.cells (strCells xs).toArray 9) = w1 at *
  obtain ⟨ad, HAD⟩ : ∃ ad, Hid ((some ⟨w.heap.size, 0, none⟩ : Option Addr) = ad) := ⟨_, rfl⟩
  rw [HAD.out] at HMD ⊢
  go_wp2_with fail
  go_loopw [3, 9] (fun v i wr => ∃ (k : Nat) (ys : List Bs), k ≤ xs.length ∧ ys.length ≤ k ∧ i = .int .i64 k ∧ wr.ownsRow w1.heap.size 9 1 v ys.length (strCells ys) ∧ Hid ((xs.take k).filter (fun x => !x.isEmpty) = ys) ∧ Hid (Kept w1 wr)) (fun _ i _ => xs.length - (intOf i).toNat)
  case atStart => exact ⟨0, [], Nat.zero_le _, Nat.le_refl _, rfl, World.ownsRow_nil _ _ _ _, rfl, Kept.refl _⟩
  case round =>
    obtain ⟨k, ys, hk, hyk, rfl, hown, HA, HK⟩ := hrel
    have hws : w1.heap.size ≤ wr.heap.size := HK.out.size
    by_cases hlt : k < xs.length
    · obtain ⟨x, hx⟩ : ∃ x, xs[k]? = some x := ⟨_, List.getElem?_eq_getElem hlt⟩
      obtain ⟨g, o, rfl, hgg, d0⟩ := (HMD.out.kept HK.out).cell_of2 k x hx
      have HN := Lib.hid (HNX.out k x hx)
      rw [HA.out] at HN
      clear hx
      by_cases hx0 : x = []
      · rw [if_pos hx0] at HN
        subst hx0
        have HOWN := Lib.hid hown
        clear hown
        go_wp2_with fail
        go_roundw
        case rel => exact ⟨k + 1, ys, by omega, by omega, by go_num, HOWN.out, HN.out, HK.out⟩
        case measure => simp [intOf]; omega
      · rw [if_neg hx0] at HN
        have hx' : (x == []) = false := by simpa using hx0
        go_wp2_with (at_builtin; refine wpList_append_own _ rfl _ _ 23 rfl w1.heap.size 9 i0 (.string ⟨#[]⟩) 1 16 Tryz.underlying23 hi hz0 hz1 hz2 rfl (by decide) _ _ _ rfl (hown.alloc _) ⟨wr.heap.size, 0, none⟩ 1 1 [.string (bs x)] rfl rfl ?_ ?_ ?_ ?_ ?_ ?_)
        · exact new_cells _ #[.string (bs x)] _ _ (by simp)
        · intro u hu; simp at hu; subst hu; rfl
        · unfold maxLen; omega
        · omega
        · simp; omega
        intro v' w2 hown2 hgrow _
        have HB2 := Lib.hid ((HK.out.trans (kept_alloc wr _)).trans' (grown_below (hown.alloc _) hgrow (by simp; omega)))
        rw [← strCells_snoc] at hown2
        have HO := Lib.hid hown2
        clear hown2 hgrow hown
        go_wp2_with fail
        go_roundw
        case rel => exact ⟨k + 1, ys ++ [x], by omega, by simp; omega, by go_num, by simpa using HO.out, HN.out, HB2.out⟩
        case measure => simp [intOf]; omega
    · obtain rfl : k = xs.length := by omega
      rw [List.take_of_length_le (Nat.le_refl _)] at HA
      have HO := Lib.hid (Strs.own hown)
      clear hown
      go_wp2_with fail
      go_ret
      exact ⟨_, rfl, by rw [HF.out, HA.out]; exact HO.out, HKM.out.trans HK.out⟩

end Go.Proofs.YtpfbdgcgpghifaaGreatDoor
