/- letters, in, rule, with of publisherref25; Next of publisherref01 at any place. Conditions: lengths. -/
import Derived.Test.YtnbhpmleboildaaGreatDoorY06
import Derived.Test.YtnbhpmleboildaaGreatDoorY03
import Derived.Test.YtnbhpmleboildaaGreatDoorY02
import Derived.Test.YtnbhpmleboildaaGreatDoorY05
import Derived.Test.YtnbhpmleboildaaGreatDoorY04
import Derived.Test.YtnbhpmleboildaaGreatDoorY07
import Derived.BigQuiet

set_option linter.all false
namespace Go.Proofs.YtnbhpmleboildaaGreatDoor
open Go.RowKit

def IntsP (xs : List Int) (w : World) (e : Ending) (w' : World) : Prop := ∃ v, e = .returned v ∧ Ints w' v xs ∧ Kept w w'
end Go.Proofs.YtnbhpmleboildaaGreatDoor

/- letters, ruleString of collate, Count of chars: the letters of a text, rule texts. Conditions: lengths. -/
set_option linter.all false
namespace Go.Proofs.YtnbhpmleboildaaGreatDoor
open Go.RowKit


set_option maxRecDepth 100000 in
set_option maxHeartbeats 1600000 in
theorem letters_any (l : Bs) (w : World) (hl : l.length ≤ 1100000) : Calls Tryz.prog 44 #[.string (bs l)] w (IntsP (ptsL l) w) := by
  obtain ⟨i0, hi, hz0, hz1, hz2⟩ := info_parts Tryz.infoInt
  have H0 : Hid (ptsL l = [] ++ ptsF l 0) := by show _ = _; rw [ptsF_zero]; rfl
  unfold IntsP
  go_enter Tryz.func44, Tryz.ntmps44
  go_wp2_with (at_make; refine wpList_make_own _ rfl _ _ 73 rfl w.heap.size 3 i0 (.int .i64 0) 1 Tryz.underlying73 hi hz0 hz1 .i64 .i64 l.length l.length rfl rfl rfl (by rw [hz2]; omega) (by unfold maxLen; omega) (by simp) ?_; intro w1 hown hgrow)
  have HK1 : Kept w w1 := Below.grown (Below.refl _ _) hgrow (Nat.le_refl _) (fun j hj => by cases hj)
  have hs1 : w.heap.size ≤ w1.heap.size := HK1.size
  go_loopw [3] (fun v wr => ∃ (pos : Nat) (xs : List Int), pos ≤ l.length ∧ wr.heap[w1.heap.size]? = some (.stringIter (bs l) pos) ∧ wr.ownsRow w.heap.size 3 1 v xs.length (intC xs) ∧ Hid (ptsL l = xs ++ ptsF l pos) ∧ xs.length ≤ pos ∧ Kept w wr) (fun _ wr => l.length - wr.iterPos w1.heap.size)
  case atStart => exact ⟨0, [], Nat.zero_le _, World.iter_heap _ _ _, own_kept hown (kept_alloc _ _), H0, Nat.le_refl _, HK1.trans (kept_alloc _ _)⟩
  case round =>
    clear hown hgrow
    obtain ⟨pos, xs, hp, hit, hown, HA, hxl, hk⟩ := hrel
    have hip : wr.iterPos w1.heap.size = pos := by simp [World.iterPos, hit]
    have hsz : w1.heap.size < wr.heap.size := by
      rcases Nat.lt_or_ge w1.heap.size wr.heap.size with q | q
      · exact q
      · rw [Array.getElem?_eq_none q] at hit; cases hit
    by_cases hlt : pos < l.length
    · have nx := fun ty => run_next_k (P := Tryz.prog) wr w1.heap.size (bs l) pos ty hit hlt
      have hb := dec_bounds (bs l) pos hlt
      have HP := Lib.hid (ptsF_in l pos hlt)
      have hitW : (wr.iterAt w1.heap.size (bs l) (pos + (dec (bs l) pos).2.toNat)).heap[w1.heap.size]? = some (.stringIter (bs l) (pos + (dec (bs l) pos).2.toNat)) := Lib.iterAt_heap wr w1.heap.size (bs l) pos _ hit
      have hkW : Kept w (wr.iterAt w1.heap.size (bs l) (pos + (dec (bs l) pos).2.toNat)) := Lib.below_iterAt hk hs1 (bs l) _
      have hoW := own_iterAtC hown hit (bs l) (pos + (dec (bs l) pos).2.toNat)
      have hne := own_iter_ne hown hit
      have hzW : (wr.iterAt w1.heap.size (bs l) (pos + (dec (bs l) pos).2.toNat)).heap.size = wr.heap.size := Lib.iterAt_size ..
      obtain ⟨c, n, hd⟩ : ∃ c n, dec (bs l) pos = (c, n) := ⟨(dec (bs l) pos).1, (dec (bs l) pos).2, rfl⟩
      rw [hd] at nx hb HP hitW hkW hoW hzW
      simp only at nx hb HP hitW hkW hoW hzW
      obtain ⟨b1, b2, b3, b4, b5⟩ := hb
      simp only [bs_size] at b5
      obtain ⟨W, HW⟩ : ∃ W, Hid (wr.iterAt w1.heap.size (bs l) (pos + n.toNat) = W) := ⟨_, rfl⟩
      simp only [HW.out] at nx hitW hkW hoW hzW
      have HITW := Lib.hid hitW
      have HKW := Lib.hid hkW
      have HNE := Lib.hid hne
      have HIP := Lib.hid hip
      have hszW : w1.heap.size < W.heap.size := by omega
      have hwW : w.heap.size ≤ W.heap.size := by omega
      clear hitW hkW hd hip hit hk hown hne hzW
      go_wp2_with (at_builtin; refine wpList_append_own _ rfl _ _ 73 rfl w.heap.size 3 i0 (.int .i64 0) 1 8 Tryz.underlying73 hi hz0 hz1 hz2 rfl (by decide) _ _ _ rfl (hoW.alloc _) ⟨W.heap.size, 0, none⟩ 1 1 [.int .i64 c] rfl rfl ?_ ?_ ?_ ?_ ?_ ?_)
      · exact new_cells _ #[.int .i64 c] _ _ (by simp)
      · intro u hu; simp at hu; subst hu; rfl
      · unfold maxLen; omega
      · omega
      · simp; omega
      intro v' w2 hown2 hgrow2 _
      have HB2 := Lib.hid ((HKW.out.trans (kept_alloc W _)).trans' (grown_below (hoW.alloc _) hgrow2 (by simp; omega)))
      have hit2 : w2.heap[w1.heap.size]? = some (.stringIter (bs l) (pos + n.toNat)) := by
        rw [hgrow2.block w1.heap.size (by simp; omega) HNE.out, Below.heap_alloc _ _ _ hszW]
        exact HITW.out
      have HIT2 := Lib.hid hit2
      rw [← intC_snoc] at hown2
      have HO := Lib.hid hown2
      clear hown2 hgrow2 hoW hit2
      go_wp2_with fail
      go_roundw
      case rel => exact ⟨pos + n.toNat, xs ++ [c], by omega, HIT2.out, by simpa using HO.out, by show _ = _; rw [HA.out, HP.out]; simp, by simp; omega, HB2.out⟩
      case measure => rw [HIP.out]; have := HIT2.out; simp [World.iterPos, this]; omega
    · have nx := fun ty => run_next_k_end (P := Tryz.prog) wr w1.heap.size (bs l) pos ty hit hlt
      have HI := Lib.hid (Ints.own hown)
      have HL : Hid (ptsL l = xs) := by
        show _ = _
        rw [HA.out, ptsF_out l pos hlt, List.append_nil]
      have HK := Lib.hid hk
      clear hown hk
      go_wp2_with fail
      go_ret
      exact ⟨_, rfl, by rw [HL.out]; exact HI.out, HK.out⟩

end Go.Proofs.YtnbhpmleboildaaGreatDoor

/- A collation in memory. No condition. -/
set_option linter.all false
namespace Go.Proofs.YtnbhpmleboildaaGreatDoor
open Go.RowKit

/-- The lists of a collation read in w. -/
def Col (w : World) (vR vO : Value) (c : ColT) : Prop := Prs w vR c.ranks ∧ Strs w vO c.order
theorem Col.kept {w w' : World} {vR vO : Value} {c : ColT} (h : Col w vR vO c) (k : Kept w w') : Col w' vR vO c := ⟨h.1.kept k, h.2.kept k⟩
abbrev colV (vR vO : Value) (ig : Bs) : Value := .agg #[vR, vO, .string (bs ig)]
/-- Lengths that every walk over a collation bears. -/
def SmallC (c : ColT) : Prop := c.ranks.length ≤ 1000 ∧ c.order.length ≤ 1000 ∧ c.ignore.length ≤ 1000 ∧ (∀ s ∈ c.order, s.length ≤ 1000) ∧ ∀ p ∈ c.ranks, p.1.length ≤ 1000 ∧ p.2.length ≤ 1000
/-- Lengths that a machine can tell. -/
def FitC (c : ColT) : Prop := c.ranks.length ≤ 140737488355328 ∧ c.order.length ≤ 140737488355328 ∧ c.ignore.length ≤ 140737488355328 ∧ (∀ s ∈ c.order, s.length ≤ 140737488355328) ∧ ∀ p ∈ c.ranks, p.1.length ≤ 140737488355328 ∧ p.2.length ≤ 140737488355328
theorem SmallC.zero : SmallC zeroC := ⟨by simp [zeroC], by simp [zeroC], by simp [zeroC], by simp [zeroC], by simp [zeroC]⟩
end Go.Proofs.YtnbhpmleboildaaGreatDoor

/- The closure of collate.Check that puts the letters of a text to a set. Conditions: lengths. -/
set_option linter.all false
namespace Go.Proofs.YtnbhpmleboildaaGreatDoor
open Go.RowKit

theorem MapV.no_cell {w : World} {m : Nat} {es : List (Int × Value)} (h : MapV w m es) (o : Nat) : w.cell? ⟨m, o, none⟩ = none := by unfold MapV at h; simp [World.cell?, h]
/-- Numbers in memory do not lie in a map's block. -/
theorem Ints.map {w w' : World} {v : Value} {xs : List Int} {m : Nat} {es : List (Int × Value)} (h : Ints w v xs) (hm : MapV w m es) (k : Only (fun i => i = m) w w') : Ints w' v xs := by
  obtain ⟨a, c, hv, hc, h3⟩ := h
  refine ⟨a, c, hv, hc, fun q => ?_⟩
  obtain ⟨g, o, ha, hg, hcell⟩ := h3 q
  have hne : g ≠ m := by
    rintro rfl
    have h0 := hcell 0 _ (List.getElem?_eq_getElem q)
    rw [hm.no_cell] at h0
    cases h0
  exact ⟨g, o, ha, Nat.lt_of_lt_of_le hg k.size, fun j x hx => (k.cell g _ hg hne).trans (hcell j x hx)⟩
theorem Blk.onl {S : Nat → Prop} {w w' : World} {g : Nat} {t : TypeId} {cs : Array Value} (h : Blk w g t cs) (k : Only S w w') (hs : ¬ S g) : Blk w' g t cs := (k.block g h.lt hs).trans h
theorem Blk.no_map {w : World} {g m : Nat} {t : TypeId} {cs : Array Value} {es : List (Int × Value)} (h : Blk w g t cs) (hm : MapV w m es) : g ≠ m := by
  rintro rfl
  unfold Blk at h
  unfold MapV at hm
  rw [h] at hm
  cases hm
theorem Tryz.zeroBool (w : World) : (zeroValue 4).run Tryz.prog w = .ok (.bool false) w := by kernel_rfl
end Go.Proofs.YtnbhpmleboildaaGreatDoor
