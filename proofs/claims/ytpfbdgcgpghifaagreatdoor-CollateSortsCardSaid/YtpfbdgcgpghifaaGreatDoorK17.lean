/- letters, ruleString of collate, Count of chars: the letters of a text, rule texts. Conditions: lengths. -/
import Derived.Test.YtpfbdgcgpghifaaGreatDoorK12
import Derived.Test.YtpfbdgcgpghifaaGreatDoorK16
import Derived.Test.YtpfbdgcgpghifaaGreatDoorK11
import Derived.Test.YtpfbdgcgpghifaaGreatDoorK09

set_option linter.all false
namespace Go.Proofs.YtpfbdgcgpghifaaGreatDoor
open Go.RowKit


set_option maxRecDepth 100000 in
set_option maxHeartbeats 1600000 in
theorem letters_any (l : Bs) (w : World) (hl : l.length ≤ 1100000) : Calls Tryz.prog 90 #[.string (bs l)] w (IntsP (ptsL l) w) := by
  obtain ⟨i0, hi, hz0, hz1, hz2⟩ := info_parts Tryz.infoInt
  have H0 : Hid (ptsL l = [] ++ ptsF l 0) := by show _ = _; rw [ptsF_zero]; rfl
  unfold IntsP
  go_enter Tryz.func90, Tryz.ntmps90
  go_wp2_with (at_make; refine wpList_make_own _ rfl _ _ 31 rfl w.heap.size 3 i0 (.int .i64 0) 1 Tryz.underlying31 hi hz0 hz1 .i64 .i64 l.length l.length rfl rfl rfl (by rw [hz2]; omega) (by unfold maxLen; omega) (by simp) ?_; intro w1 hown hgrow)
  have HK1 : Kept w w1 := Below.grown (Below.refl _ _) hgrow (Nat.le_refl _) (fun j hj => by cases hj)
  have hs1 : w.heap.size ≤ w1.heap.size := HK1.size
  go_loopw [3] (fun v wr => ∃ (pos : Nat) (xs : List Int), pos ≤ l.length ∧ wr.heap[w1.heap.size]? = some (.stringIter (bs l) pos) ∧ wr.ownsRow w.heap.size 3 1 v xs.length (intC xs) ∧ Hid (ptsL l = xs ++ ptsF l pos) ∧ xs.length ≤ pos ∧ Kept w wr) (fun _ wr => l.length - wr.iterPos w1.heap.size)
  case atStart => exact ⟨0, [], Nat.zero_le _, World.iter_heap _ _ _, own_kept hown (kept_alloc _ _), H0, Nat.le_refl _, HK1.trans (kept_alloc _ _)⟩
  case round =>
    clear hown hgrow
    obtain ⟨pos, xs, hp, hit, hown, HA, hxl, hk⟩ := hrel
    have hip : wr.iterPos w1.heap.size = pos := by simp [World.iterPos, hit]
    have hsz : w1.heap.size < wr.heap.size := by
      rcases Nat.lt_or_ge w1.heap.size wr.heap.size with q | q
      · exact q
      · rw [Array.getElem?_eq_none q] at hit; cases hit
    by_cases hlt : pos < l.length
    · have nx := fun ty => run_next_k (P := Tryz.prog) wr w1.heap.size (bs l) pos ty hit hlt
      have hb := dec_bounds (bs l) pos hlt
      have HP := Lib.hid (ptsF_in l pos hlt)
      have hitW : (wr.iterAt w1.heap.size (bs l) (pos + (dec (bs l) pos).2.toNat)).heap[w1.heap.size]? = some (.stringIter (bs l) (pos + (dec (bs l) pos).2.toNat)) := Lib.iterAt_heap wr w1.heap.size (bs l) pos _ hit
      have hkW : Kept w (wr.iterAt w1.heap.size (bs l) (pos + (dec (bs l) pos).2.toNat)) := Lib.below_iterAt hk hs1 (bs l) _
      have hoW := own_iterAt hown hit (bs l) (pos + (dec (bs l) pos).2.toNat)
      have hne := own_iter_ne hown hit
      have hzW : (wr.iterAt w1.heap.size (bs l) (pos + (dec (bs l) pos).2.toNat)).heap.size = wr.heap.size := Lib.iterAt_size ..
      obtain ⟨c, n, hd⟩ : ∃ c n, dec (bs l) pos = (c, n) := ⟨(dec (bs l) pos).1, (dec (bs l) pos).2, rfl⟩
      rw [hd] at nx hb HP hitW hkW hoW hzW
      simp only at nx hb HP hitW hkW hoW hzW
      obtain ⟨b1, b2, b3, b4, b5⟩ := hb
      simp only [bs_size] at b5
      obtain ⟨W, HW⟩ : ∃ W, Hid (wr.iterAt w1.heap.size (bs l) (pos + n.toNat) = W) := ⟨_, rfl⟩
      simp only [HW.out] at nx hitW hkW hoW hzW
      have HITW := Lib.hid hitW
      have HKW := Lib.hid hkW
      have HNE := Lib.hid hne
      have HIP := Lib.hid hip
      have hszW : w1.heap.size < W.heap.size := by omega
      have hwW : w.heap.size ≤ W.heap.size := by omega
      clear hitW hkW hd hip hit hk hown hne hzW
      go_wp2_with (at_builtin; refine wpList_append_own _ rfl _ _ 31 rfl w.heap.size 3 i0 (.int .i64 0) 1 8 Tryz.underlying31 hi hz0 hz1 hz2 rfl (by decide) _ _ _ rfl (hoW.alloc _) ⟨W.heap.size, 0, none⟩ 1 1 [.int .i64 c] rfl rfl ?_ ?_ ?_ ?_ ?_ ?_)
      · exact new_cells _ #[.int .i64 c] _ _ (by simp)
      · intro u hu; simp at hu; subst hu; rfl
      · unfold maxLen; omega
      · omega
      · simp; omega
      intro v' w2 hown2 hgrow2 _
      have HB2 := Lib.hid ((HKW.out.trans (kept_alloc W _)).trans' (grown_below (hoW.alloc _) hgrow2 (by simp; omega)))
      have hit2 : w2.heap[w1.heap.size]? = some (.stringIter (bs l) (pos + n.toNat)) := by
        rw [hgrow2.block w1.heap.size (by simp; omega) HNE.out, Below.heap_alloc _ _ _ hszW]
        exact HITW.out
      have HIT2 := Lib.hid hit2
      rw [← intC_snoc] at hown2
      have HO := Lib.hid hown2
      clear hown2 hgrow2 hoW hit2
      go_wp2_with fail
      go_roundw
      case rel => exact ⟨pos + n.toNat, xs ++ [c], by omega, HIT2.out, by simpa using HO.out, by show _ = _; rw [HA.out, HP.out]; simp, by simp; omega, HB2.out⟩
      case measure => rw [HIP.out]; have := HIT2.out; simp [World.iterPos, this]; omega
    · have nx := fun ty => run_next_k_end (P := Tryz.prog) wr w1.heap.size (bs l) pos ty hit hlt
      have HI := Lib.hid (Ints.own hown)
      have HL : Hid (ptsL l = xs) := by
        show _ = _
        rw [HA.out, ptsF_out l pos hlt, List.append_nil]
      have HK := Lib.hid hk
      clear hown hk
      go_wp2_with fail
      go_ret
      exact ⟨_, rfl, by rw [HL.out]; exact HI.out, HK.out⟩

set_option maxRecDepth 100000 in
set_option maxHeartbeats 1600000 in
theorem ccount_any (l : Bs) (w : World) (hl : l.length ≤ 1100000) : Calls Tryz.prog 92 #[.string (bs l)] w fun e w' => e = .returned (.int .i64 (ptsL l).length) ∧ Kept w w' := by
  have H0 : Hid ((ptsL l).length = 0 + (ptsF l 0).length) := by show _ = _; rw [ptsF_zero]; omega
  go_enter Tryz.func92, Tryz.ntmps92
  go_wp2_with fail
  go_loopw [3] (fun i wr => ∃ (pos k : Nat), pos ≤ l.length ∧ i = .int .i64 k ∧ wr.heap[w.heap.size]? = some (.stringIter (bs l) pos) ∧ Hid ((ptsL l).length = k + (ptsF l pos).length) ∧ k ≤ pos ∧ Hid (Kept w wr)) (fun _ wr => l.length - wr.iterPos w.heap.size)
  case atStart => exact ⟨0, 0, Nat.zero_le _, rfl, World.iter_heap _ _ _, H0, Nat.le_refl _, kept_alloc _ _⟩
  case round =>
    obtain ⟨pos, k, hp, rfl, hit, HA, hkp, HK⟩ := hrel
    have hip : wr.iterPos w.heap.size = pos := by simp [World.iterPos, hit]
    by_cases hlt : pos < l.length
    · have nx := fun ty => run_next_k (P := Tryz.prog) wr w.heap.size (bs l) pos ty hit hlt
      have hb := dec_bounds (bs l) pos hlt
      have HP := Lib.hid (ptsF_in l pos hlt)
      have HITW : Hid ((wr.iterAt w.heap.size (bs l) (pos + (dec (bs l) pos).2.toNat)).heap[w.heap.size]? = some (.stringIter (bs l) (pos + (dec (bs l) pos).2.toNat))) := Lib.iterAt_heap wr w.heap.size (bs l) pos _ hit
      have HKW : Hid (Kept w (wr.iterAt w.heap.size (bs l) (pos + (dec (bs l) pos).2.toNat))) := Lib.below_iterAt HK.out (Nat.le_refl _) (bs l) _
      obtain ⟨c, n, hd⟩ : ∃ c n, dec (bs l) pos = (c, n) := ⟨(dec (bs l) pos).1, (dec (bs l) pos).2, rfl⟩
      rw [hd] at nx hb HP HITW HKW
      simp only at nx hb HP HITW HKW
      obtain ⟨b1, b2, b3, b4, b5⟩ := hb
      simp only [bs_size] at b5
      have HIP := Lib.hid hip
      clear hd hip hit
      go_wp2_with fail
      go_roundw
      case rel => exact ⟨pos + n.toNat, k + 1, by omega, by go_num, HITW.out, by show _ = _; rw [HA.out, HP.out]; simp; omega, by omega, HKW.out⟩
      case measure => rw [HIP.out]; have := HITW.out; simp [World.iterPos, this]; omega
    · have nx := fun ty => run_next_k_end (P := Tryz.prog) wr w.heap.size (bs l) pos ty hit hlt
      have HL : Hid ((ptsL l).length = k) := by
        show _ = _
        rw [HA.out, ptsF_out l pos hlt]; rfl
      go_wp2_with fail
      go_ret
      exact ⟨ret_int (by rw [HL.out]), HK.out⟩

set_option maxRecDepth 100000 in
set_option maxHeartbeats 1600000 in
theorem rule_any (l : Bs) (w : World) (hl : l.length ≤ 1100000) : Calls Tryz.prog 91 #[.string (bs l)] w fun e w' => e = .returned (.bool (ruleB l)) ∧ Kept w w' := by
  have HV := Lib.hid (fun w => valid_any (bs l) w (by simp; omega))
  have HC := Lib.hid (fun w => cany_any l [32, 10] w (by intro b hb; simp at hb; rcases hb with rfl | rfl <;> decide) (by simp) (by simp) (by omega))
  have HE : Hid (ruleB l = (decide (1 ≤ l.length) && (decide (l.length ≤ 200) && (validB (bs l) && !(l.any (inSet [32, 10])))))) := by
    show ruleB l = _
    unfold ruleB
    have : (fun b : UInt8 => b == 32 || b == 10) = inSet [32, 10] := by
      funext b; unfold inSet; simp [List.contains_cons]; rfl
    rw [this]
  generalize ruleB l = R at *
  generalize validB (bs l) = V at *
  generalize l.any (inSet [32, 10]) = A at *
  by_cases h0 : l = []
  · subst h0
    have HR : Hid (R = false) := by show _ = _; rw [HE.out]; simp
    go_enter Tryz.func91, Tryz.ntmps91
    go_wp2_with fail
    go_ret
    exact ⟨ret_bool HR.out.symm, Kept.refl _⟩
  have h1 : 1 ≤ l.length := by cases l with
    | nil => exact absurd rfl h0
    | cons b r => simp
  have h0' : (l == []) = false := by simpa using h0
  rw [decide_eq_true h1, Bool.true_and] at HE
  by_cases h2 : l.length ≤ 200
  · rw [decide_eq_true h2, Bool.true_and] at HE
    cases V
    · have HR : Hid (R = false) := HE.out
      go_enter Tryz.func91, Tryz.ntmps91
      go_wp2_with fail
      refine (HV.out _).mono ?_
      rintro e w1 ⟨rfl, n1, rfl⟩
      go_wp2_with fail
      go_ret
      exact ⟨ret_bool HR.out.symm, kept_drewN _ _⟩
    · have HR : Hid (R = !A) := by show _ = _; rw [HE.out]; rfl
      go_enter Tryz.func91, Tryz.ntmps91
      go_wp2_with fail
      refine (HV.out _).mono ?_
      rintro e w1 ⟨rfl, n1, rfl⟩
      go_wp2_with fail
      refine (HC.out _).mono ?_
      rintro e w2 ⟨rfl, hk⟩
      have HK := Lib.hid ((kept_drewN w n1).trans hk)
      clear hk
      go_wp2_with fail
      go_ret
      exact ⟨ret_bool HR.out.symm, HK.out⟩
  · rw [decide_eq_false h2, Bool.false_and] at HE
    go_enter Tryz.func91, Tryz.ntmps91
    go_wp2_with fail
    go_ret
    exact ⟨ret_bool HE.out.symm, Kept.refl _⟩
end Go.Proofs.YtpfbdgcgpghifaaGreatDoor

/- A collation in memory. No condition. -/
set_option linter.all false
namespace Go.Proofs.YtpfbdgcgpghifaaGreatDoor
open Go.RowKit

/-- The lists of a collation read in w. -/
def Col (w : World) (vR vO : Value) (c : ColT) : Prop := Prs w vR c.ranks ∧ Strs w vO c.order
theorem Col.kept {w w' : World} {vR vO : Value} {c : ColT} (h : Col w vR vO c) (k : Kept w w') : Col w' vR vO c := ⟨h.1.kept k, h.2.kept k⟩
abbrev colV (vR vO : Value) (ig : Bs) : Value := .agg #[vR, vO, .string (bs ig)]
/-- Lengths that every walk over a collation bears. -/
def SmallC (c : ColT) : Prop := c.ranks.length ≤ 1000 ∧ c.order.length ≤ 1000 ∧ c.ignore.length ≤ 1000 ∧ (∀ s ∈ c.order, s.length ≤ 1000) ∧ ∀ p ∈ c.ranks, p.1.length ≤ 1000 ∧ p.2.length ≤ 1000
/-- Lengths that a machine can tell. -/
def FitC (c : ColT) : Prop := c.ranks.length ≤ 140737488355328 ∧ c.order.length ≤ 140737488355328 ∧ c.ignore.length ≤ 140737488355328 ∧ (∀ s ∈ c.order, s.length ≤ 140737488355328) ∧ ∀ p ∈ c.ranks, p.1.length ≤ 140737488355328 ∧ p.2.length ≤ 140737488355328
theorem SmallC.zero : SmallC zeroC := ⟨by simp [zeroC], by simp [zeroC], by simp [zeroC], by simp [zeroC], by simp [zeroC]⟩
end Go.Proofs.YtpfbdgcgpghifaaGreatDoor
