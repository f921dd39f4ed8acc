/- lines.Split once more, with the place of the slice. (Lines' lsplit_any says less and may be dropped.) -/
import Derived.Test.YtafcngdnngpdnaaGreatDoorK03
import Derived.Test.YtafcngdnngpdnaaGreatDoorK09
import Derived.Test.YtafcngdnngpdnaaGreatDoorK13
import Derived.Test.YtafcngdnngpdnaaGreatDoorK25
import Derived.Deep.RegionLaw

set_option linter.all false
namespace Go.Proofs.YtafcngdnngpdnaaGreatDoor
open Go.RowKit

def BaseB (B : Nat) (v : Value) (xs : List Bs) : Prop := 0 < xs.length → ∃ g, v.ownBlock = some g ∧ B ≤ g
theorem BaseB.own {w : World} {base : Nat} {e : TypeId} {v : Value} {xs : List Bs} (h : w.ownsRow base e 1 v xs.length (strCells xs)) : BaseB base v xs := by
  obtain ⟨a, c, hv, _, _, h3⟩ := own_cap h
  intro q
  obtain ⟨g, ha, hb, _⟩ := h3 q
  exact ⟨g, by rw [hv, ha]; rfl, hb⟩
def SliQ (xs : List Bs) (w : World) (e : Ending) (w' : World) : Prop := ∃ v, e = .returned v ∧ Strs w' v xs ∧ BaseB w.heap.size v xs ∧ Kept w w'
set_option maxRecDepth 100000 in
set_option maxHeartbeats 3200000 in
theorem lsplit_own (t : Bs) (w : World) (ht : t.length ≤ 1100000) : Calls Tryz.prog 21 #[.string (bs t)] w (SliQ (linesL t) w) := by
  obtain ⟨i0', hi', hz0, hz1, hz2⟩ := info_parts Tryz.infoStr
  go_enter Tryz.func21, Tryz.ntmps21
  go_wp2_with fail
  go_loopw [3, 4, 8] (fun v fv i wr => ∃ (k fr : Nat) (xs : List Bs), k ≤ t.length ∧ i = .int .i64 k ∧ fv = .int .i64 fr ∧ fr ≤ k ∧ xs.length ≤ k ∧ wr.ownsRow w.heap.size 9 1 v xs.length (strCells xs) ∧ Hid (LineSt t k fr xs) ∧ Kept w wr) (fun _ _ i _ => t.length - (intOf i).toNat)
  case atStart => exact ⟨0, 0, [], Nat.zero_le _, rfl, rfl, Nat.zero_le _, Nat.le_refl _, World.ownsRow_nil _ _ _ _, LineSt.start t, Kept.refl _⟩
  case round =>
    obtain ⟨k, fr, xs, hk, rfl, rfl, hfr, hxl, hown, HS, hkr⟩ := hrel
    have hsz : w.heap.size ≤ wr.heap.size := hkr.size
    have HKR := Lib.hid hkr
    have HOWN := Lib.hid hown
    clear hkr hown
    by_cases hlt : k < t.length
    · have i0 := run_ix (P := Tryz.prog) (t := 9) Tryz.underlying9 t k hlt k rfl
      have HC : Hid (at8 t k = 10 ↔ t[k] = 10) := by show _ ↔ _; rw [at8_get t k hlt]; exact u8_int _ 10 (by decide)
      by_cases hb : at8 t k = 10
      · obtain ⟨hst, hfk⟩ := HS.out.feed hlt (HC.out.1 hb)
        have sl := run_sub (P := Tryz.prog) (t := 9) Tryz.underlying9 t fr k hfk (by omega) fr k rfl rfl _ rfl
        have HST := Lib.hid hst
        have hown := HOWN.out
        have hb' : (at8 t k == 10) = true := by simpa using hb
        generalize (t.drop fr).take (k - fr) = y at *
        generalize at8 t k = b at *
        clear hst HC hb
        go_wp2_with (at_builtin; refine wpList_append_own _ rfl _ _ 45 rfl w.heap.size 9 i0' (.string ⟨#[]⟩) 1 16 Tryz.underlying45 hi' hz0 hz1 hz2 rfl (by decide) _ _ _ rfl (hown.alloc _) ⟨wr.heap.size, 0, none⟩ 1 1 [.string (bs y)] rfl rfl ?_ ?_ ?_ ?_ ?_ ?_)
        · exact new_cells _ #[.string (bs y)] _ _ (by simp)
        · intro u hu; simp at hu; subst hu; rfl
        · unfold maxLen; omega
        · omega
        · simp; omega
        intro v' w2 hown2 hgrow _
        have HB2 := Lib.hid ((HKR.out.trans (kept_alloc wr _)).trans' (grown_below (hown.alloc _) hgrow (by simp; omega)))
        rw [← strCells_snoc] at hown2
        have HO := Lib.hid hown2
        clear hown2 hgrow hown
        go_wp2_with fail
        go_roundw
        case rel => exact ⟨k + 1, k + 1, xs ++ [y], by omega, by go_num, by go_num, by omega, by simp; omega, by simpa using HO.out, HST.out, HB2.out⟩
        case measure => simp [intOf]; omega
      · obtain ⟨hst, hfk⟩ := HS.out.other hlt (fun q => hb (HC.out.2 q))
        have HST := Lib.hid hst
        have hb' : (at8 t k == 10) = false := by simpa using hb
        generalize at8 t k = b at *
        clear hst HC hb
        go_wp2_with fail
        go_roundw
        case rel => exact ⟨k + 1, fr, xs, by omega, by go_num, rfl, by omega, by omega, HOWN.out, HST.out, HKR.out⟩
        case measure => simp [intOf]; omega
    · obtain rfl : k = t.length := by omega
      obtain ⟨hfl, hfin⟩ := HS.out.done
      have HFIN := Lib.hid hfin
      clear hfin
      by_cases hq : fr < t.length
      · rw [if_pos hq] at HFIN
        have sl := run_from (P := Tryz.prog) (t := 9) Tryz.underlying9 t fr hfl fr rfl _ rfl
        have hown := HOWN.out
        generalize t.drop fr = y at *
        go_wp2_with (at_builtin; refine wpList_append_own _ rfl _ _ 45 rfl w.heap.size 9 i0' (.string ⟨#[]⟩) 1 16 Tryz.underlying45 hi' hz0 hz1 hz2 rfl (by decide) _ _ _ rfl (hown.alloc _) ⟨wr.heap.size, 0, none⟩ 1 1 [.string (bs y)] rfl rfl ?_ ?_ ?_ ?_ ?_ ?_)
        · exact new_cells _ #[.string (bs y)] _ _ (by simp)
        · intro u hu; simp at hu; subst hu; rfl
        · unfold maxLen; omega
        · omega
        · simp; omega
        intro v' w2 hown2 hgrow _
        have HB2 := Lib.hid ((HKR.out.trans (kept_alloc wr _)).trans' (grown_below (hown.alloc _) hgrow (by simp; omega)))
        rw [← strCells_snoc] at hown2
        have hown3 : w2.ownsRow w.heap.size 9 1 v' (xs ++ [y]).length (strCells (xs ++ [y])) := by simpa using hown2
        have HO : Hid (Strs w2 v' (xs ++ [y]) ∧ BaseB w.heap.size v' (xs ++ [y])) := ⟨Strs.own hown3, BaseB.own hown3⟩
        clear hown3
        clear hown2 hgrow hown
        go_wp2_with fail
        go_ret
        exact ⟨_, rfl, by rw [HFIN.out]; exact HO.out.1, by rw [HFIN.out]; exact HO.out.2, HB2.out⟩
      · rw [if_neg hq, List.append_nil] at HFIN
        have HO := Lib.hid (And.intro (Strs.own HOWN.out) (BaseB.own HOWN.out))
        go_wp2_with fail
        go_ret
        exact ⟨_, rfl, by rw [HFIN.out]; exact HO.out.1, by rw [HFIN.out]; exact HO.out.2, HKR.out⟩

end Go.Proofs.YtafcngdnngpdnaaGreatDoor

/- words of collate and of publisherref25. Conditions: lengths. -/
set_option linter.all false
namespace Go.Proofs.YtafcngdnngpdnaaGreatDoor
open Go.RowKit

def WrdP (xs : List Bs) (w : World) (e : Ending) (w' : World) : Prop := ∃ v, e = .returned v ∧ Strs w' v xs ∧ Kept w w'
theorem wordsB_next (l : Bs) (k : Nat) (x : Bs) (h : (splitC 32 l)[k]? = some x) : ((splitC 32 l).take (k + 1)).filter (fun x => !x.isEmpty) = if x = [] then ((splitC 32 l).take k).filter (fun x => !x.isEmpty) else ((splitC 32 l).take k).filter (fun x => !x.isEmpty) ++ [x] := by
  rw [filter_next _ _ k x h]
  cases x <;> simp
theorem Strs.cell_of2 {w : World} {a : Option Addr} {n c : Nat} {xs : List Bs} (h : Strs w (.slice a n c) xs) (k : Nat) (x : Bs) (hx : xs[k]? = some x) : ∃ g o, a = some ⟨g, o, none⟩ ∧ g < w.heap.size ∧ w.cell? ⟨g, o + k, none⟩ = some (.string (bs x)) := by
  obtain ⟨a', c', hv, hc, h3⟩ := h
  obtain ⟨rfl, rfl, rfl⟩ := Value.slice.inj hv
  obtain ⟨hk, _⟩ := List.getElem?_eq_some_iff.1 hx
  obtain ⟨g, o, ha, hg, hcell⟩ := h3 (by omega)
  exact ⟨g, o, ha, hg, hcell k x hx⟩
theorem strs_made (w : World) (xs : List Bs) : Strs (w.alloc (.cells (strCells xs).toArray 9)) (.slice (some ⟨w.heap.size, 0, none⟩) xs.length xs.length) xs := by
  refine ⟨_, _, rfl, Nat.le_refl _, fun _ => ⟨w.heap.size, 0, rfl, by simp, fun j x hx => ?_⟩⟩
  have hb := Blk.new w 9 (strCells xs).toArray
  refine hb.cell (0 + j) _ ?_
  rw [Nat.zero_add, List.getElem?_toArray]
  exact strCells_at xs j x hx
end Go.Proofs.YtafcngdnngpdnaaGreatDoor

/- read of collate. Conditions: lengths. -/
set_option linter.all false
namespace Go.Proofs.YtafcngdnngpdnaaGreatDoor
open Go.RowKit

theorem below_drewN (B : Nat) (w : World) (n : Nat) : Below B w (w.drewN n) := ⟨rfl, rfl, rfl, Nat.le_refl _, fun _ _ => rfl⟩
/-- The four forms of a line, or none. -/
theorem addW_cases (c : ColT) (x : Bs) (ws : List Bs) :
    (x = kOrder ∧ 0 < ws.length ∧ addW c (x :: ws) = some { c with order := c.order ++ ws }) ∨
    (∃ y z, x = kAs ∧ ws = [y, z] ∧ addW c (x :: ws) = some { c with ranks := c.ranks ++ [(y, z)] }) ∨
    (∃ y, x = kIgnore ∧ ws = [y] ∧ addW c (x :: ws) = some { c with ignore := c.ignore ++ y }) ∨
    (addW c (x :: ws) = none ∧ ((x = kOrder ∧ ws = []) ∨ (x = kAs ∧ ws.length ≠ 2) ∨ (x = kIgnore ∧ ws.length ≠ 1) ∨ (x ≠ kOrder ∧ x ≠ kAs ∧ x ≠ kIgnore))) := by
  by_cases h1 : x = kOrder
  · subst h1
    cases ws with
    | nil => exact .inr (.inr (.inr ⟨rfl, .inl ⟨rfl, rfl⟩⟩))
    | cons y ws => exact .inl ⟨rfl, by simp, by simp [addW]⟩
  by_cases h2 : x = kAs
  · subst h2
    match ws with
    | [] => exact .inr (.inr (.inr ⟨rfl, .inr (.inl ⟨rfl, by simp⟩)⟩))
    | [y] => exact .inr (.inr (.inr ⟨rfl, .inr (.inl ⟨rfl, by simp⟩)⟩))
    | [y, z] => exact .inr (.inl ⟨y, z, rfl, rfl, rfl⟩)
    | y :: z :: u :: ws => exact .inr (.inr (.inr ⟨by simp [addW, kAs, kOrder], .inr (.inl ⟨rfl, by simp⟩)⟩))
  by_cases h3 : x = kIgnore
  · subst h3
    match ws with
    | [] => exact .inr (.inr (.inr ⟨rfl, .inr (.inr (.inl ⟨rfl, by simp⟩))⟩))
    | [y] => exact .inr (.inr (.inl ⟨y, rfl, rfl, rfl⟩))
    | [y, z] => exact .inr (.inr (.inr ⟨rfl, .inr (.inr (.inl ⟨rfl, by simp⟩))⟩))
    | y :: z :: u :: ws => exact .inr (.inr (.inr ⟨by simp [addW, kIgnore, kOrder], .inr (.inr (.inl ⟨rfl, by simp⟩))⟩))
  · refine .inr (.inr (.inr ⟨?_, .inr (.inr (.inr ⟨h1, h2, h3⟩))⟩))
    match ws with
    | [] => simp [addW, h1]
    | [y] => simp [addW, h1, h3]
    | [y, z] => simp [addW, h1, h2]
    | y :: z :: u :: ws => simp [addW, h1]
end Go.Proofs.YtafcngdnngpdnaaGreatDoor
