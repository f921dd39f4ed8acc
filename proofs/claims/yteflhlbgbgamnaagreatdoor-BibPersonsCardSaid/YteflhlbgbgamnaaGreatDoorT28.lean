/- person of publisherref30. Conditions: lengths. -/
import Derived.Test.YteflhlbgbgamnaaGreatDoorT26
import Derived.Test.YteflhlbgbgamnaaGreatDoorT27
import Derived.Test.YteflhlbgbgamnaaGreatDoorT09

set_option linter.all false
namespace Go.Proofs.YteflhlbgbgamnaaGreatDoor
open Go.RowKit

/-- The error of a person that is added to a list. -/
def persN (ps : List P4) (l : Bs) : Int := if (parseR l).1 ≠ 0 then (parseR l).1 else if 32 ≤ ps.length then 3 else 0
def RpersPost (ps : List P4) (l : Bs) (w : World) (e : Ending) (w' : World) : Prop :=
  ∃ v, e = .returned (.tuple #[v, .int .i64 (persN ps l)]) ∧ (∃ a n c, v = .slice a n c) ∧ (persN ps l = 0 → Perss w' v (ps ++ [(parseR l).2]) ∧ Fresh w.heap.size v) ∧ Kept w w'
theorem Perss.only {S : Nat → Prop} {w w' : World} {g o n c : Nat} {ps : List P4} (h : Perss w (.slice (some ⟨g, o, none⟩) n c) ps) (k : Only S w w') (hs : ¬ S g) : Perss w' (.slice (some ⟨g, o, none⟩) n c) ps := by
  obtain ⟨a, c', hv, hc, h3⟩ := h
  obtain ⟨rfl, rfl, rfl⟩ := Value.slice.inj hv
  refine ⟨_, _, rfl, hc, fun q => ?_⟩
  obtain ⟨g', o', he, hg, hcell⟩ := h3 q
  cases he
  refine ⟨g, o, rfl, Nat.lt_of_lt_of_le hg k.size, fun j x hx => ?_⟩
  rw [k.cell g _ hg hs, k.cell g _ hg hs, k.cell g _ hg hs, k.cell g _ hg hs]
  exact hcell j x hx
theorem new_pers (w : World) (q1 q2 q3 q4 : Bs) : Perss (w.alloc (.cells #[.string (bs q1), .string (bs q2), .string (bs q3), .string (bs q4)] 32)) (.slice (some ⟨w.heap.size, 0, none⟩) 1 1) [(q1, q2, q3, q4)] := by
  refine ⟨_, _, rfl, Nat.le_refl _, fun _ => ⟨w.heap.size, 0, rfl, by simp, fun j x hx => ?_⟩⟩
  have hb := Blk.new w 32 #[.string (bs q1), .string (bs q2), .string (bs q3), .string (bs q4)]
  cases j with
  | zero => cases hx; exact ⟨hb.cell 0 _ rfl, hb.cell 1 _ rfl, hb.cell 2 _ rfl, hb.cell 3 _ rfl⟩
  | succ j => simp at hx
set_option maxRecDepth 100000 in
set_option maxHeartbeats 3200000 in
theorem rperson_any (v : Value) (ps : List P4) (l : Bs) (w : World) (hl : l.length ≤ 1000000) (hv : Perss w v ps) (hN : ps.length ≤ 1000000) :
    Calls Tryz.prog 94 #[v, .string (bs l)] w (RpersPost ps l w) := by
  have HP := Lib.hid (rparse_any l w hl)
  unfold ParsePost at HP
  have HV := Lib.hid hv
  obtain ⟨a, c, rfl, hc, _⟩ := hv
  unfold RpersPost
  obtain ⟨E, HE⟩ : ∃ E, Hid (persN ps l = E) := ⟨_, rfl⟩
  rw [HE.out]
  by_cases hn : (parseR l).1 = 0
  · by_cases h32 : 32 ≤ ps.length
    · obtain rfl : E = 3 := by have h := HE.out; unfold persN at h; rw [if_neg (by simpa using hn), if_pos h32] at h; exact h.symm
      rw [hn] at HP
      generalize (parseR l).2 = q at *
      obtain ⟨q1, q2, q3, q4⟩ := q
      clear hn
      go_enter Tryz.func94, Tryz.ntmps94
      go_wp2_with fail
      refine HP.out.mono ?_
      rintro e w1 ⟨rfl, hk1⟩
      have HK1 := Lib.hid hk1
      clear hk1
      go_wp2_with fail
      go_ret2
      exact ⟨_, rfl, ⟨_, _, _, rfl⟩, fun h => by simp at h, HK1.out.trans (kept_alloc _ _)⟩
    · obtain rfl : E = 0 := by have h := HE.out; unfold persN at h; rw [if_neg (by simpa using hn), if_neg h32] at h; exact h.symm
      rw [hn] at HP
      generalize (parseR l).2 = q at *
      obtain ⟨q1, q2, q3, q4⟩ := q
      clear hn
      go_enter Tryz.func94, Tryz.ntmps94
      go_wp2_with fail
      refine HP.out.mono ?_
      rintro e w1 ⟨rfl, hk1⟩
      have HK1 := Lib.hid hk1
      clear hk1
      go_wp2_with fail
      have HB0 := Lib.hid (Blk.new w1 32 #[.string (bs q1), .string (bs q2), .string (bs q3), .string (bs q4)])
      have HK0 := Lib.hid (HK1.out.trans (kept_alloc w1 (.cells #[.string (bs q1), .string (bs q2), .string (bs q3), .string (bs q4)] 32)))
      generalize w1.alloc (.cells #[.string (bs q1), .string (bs q2), .string (bs q3), .string (bs q4)] 32) = w0 at *
      have hp : w1.heap.size < w0.heap.size := HB0.out.lt
      generalize w1.heap.size = p at *
      have c0 : w0.cell? ⟨p, 0, none⟩ = some (.string (bs q1)) := HB0.out.cell 0 _ rfl
      have c1 : w0.cell? ⟨p, 1, none⟩ = some (.string (bs q2)) := HB0.out.cell 1 _ rfl
      have c2 : w0.cell? ⟨p, 2, none⟩ = some (.string (bs q3)) := HB0.out.cell 2 _ rfl
      have c3 : w0.cell? ⟨p, 3, none⟩ = some (.string (bs q4)) := HB0.out.cell 3 _ rfl
      have HC : Hid (∀ w', Kept w0 w' → (w'.cell? ⟨p, 0, none⟩ = some (.string (bs q1)) ∧ w'.cell? ⟨p, 1, none⟩ = some (.string (bs q2)) ∧ w'.cell? ⟨p, 2, none⟩ = some (.string (bs q3)) ∧ w'.cell? ⟨p, 3, none⟩ = some (.string (bs q4))) ∧ p < w'.heap.size ∧ Kept w0 w') := fun w' h =>
        ⟨⟨(h.cell (p := ⟨p, 0, none⟩) hp).trans c0, (h.cell (p := ⟨p, 1, none⟩) hp).trans c1, (h.cell (p := ⟨p, 2, none⟩) hp).trans c2, (h.cell (p := ⟨p, 3, none⟩) hp).trans c3⟩, Nat.lt_of_lt_of_le hp h.size, h⟩
      have HV0 := Lib.hid (HV.out.kept HK0.out)
      have hKd : Kept w0 w0.drew := kept_drewN w0 1
      have hKE : Kept w0 (w0.drew.alloc (.cells #[] 32)) := hKd.trans (kept_alloc _ _)
      have hKQ : Kept w0 (w0.drew.alloc (.cells #[.string (bs q1), .string (bs q2), .string (bs q3), .string (bs q4)] 32)) := hKd.trans (kept_alloc _ _)
      have hKEQ : Kept w0 ((w0.drew.alloc (.cells #[] 32)).alloc (.cells #[.string (bs q1), .string (bs q2), .string (bs q3), .string (bs q4)] 32)) := hKE.trans (kept_alloc _ _)
      have hKQE : Kept w0 ((w0.drew.alloc (.cells #[.string (bs q1), .string (bs q2), .string (bs q3), .string (bs q4)] 32)).alloc (.cells #[] 32)) := hKQ.trans (kept_alloc _ _)
      have HOC := Lib.hid (World.ownsRow_made (size := 4) (e := 32) (base := w0.heap.size) w0.drew #[] 0 (Nat.le_refl _) (by unfold maxLen; omega) (by simp))
      have HOA := Lib.hid (HOC.out.alloc (.cells #[.string (bs q1), .string (bs q2), .string (bs q3), .string (bs q4)] 32))
      have HOB := Lib.hid (World.ownsRow_made (size := 4) (e := 32) (base := w0.heap.size) (w0.drew.alloc (.cells #[.string (bs q1), .string (bs q2), .string (bs q3), .string (bs q4)] 32)) #[] 0 (by simp) (by unfold maxLen; omega) (by simp))
      have HQA := Lib.hid (new_pers (w0.drew.alloc (.cells #[] 32)) q1 q2 q3 q4)
      have HQB := Lib.hid ((new_pers w0.drew q1 q2 q3 q4).kept (kept_alloc _ (.cells #[] 32)))
      go_region_held3 (fun w' => (w'.cell? ⟨p, 0, none⟩ = some (.string (bs q1)) ∧ w'.cell? ⟨p, 1, none⟩ = some (.string (bs q2)) ∧ w'.cell? ⟨p, 2, none⟩ = some (.string (bs q3)) ∧ w'.cell? ⟨p, 3, none⟩ = some (.string (bs q4))) ∧ p < w'.heap.size ∧ Kept w0 w')
        ((refine HC.out _ ?_; first | assumption | (refine Kept.trans ?_ (kept_alloc _ _); assumption)))
        (first
          | (refine step_append_pers _ rfl (.tmp 21) (.tmp 23) rfl w0.heap.size v1 ps (by simp [Act.eval, Act.put]) HO1.out _ [(q1, q2, q3, q4)] (by simp [Act.eval, Act.put]) HQ1.out (by simp; omega) k1.size ?_; intro v2 w2 hown2 hgrow2; have HO2 := Lib.hid hown2; have k2 : Kept w0 w2 := k1.trans' (grown_below (HO1.out) hgrow2 k1.size); clear hown2 hgrow2)
          | (refine step_append_pers _ rfl (.tmp 21) (.tmp 23) rfl w0.heap.size v1 ps (by simp [Act.eval, Act.put]) (HO1.out.alloc _) _ [(q1, q2, q3, q4)] (by simp [Act.eval, Act.put]) (new_pers _ q1 q2 q3 q4) (by simp; omega) (k1.trans (kept_alloc _ _)).size ?_; intro v2 w2 hown2 hgrow2; have HO2 := Lib.hid hown2; have k2 : Kept w0 w2 := (k1.trans (kept_alloc _ _)).trans' (grown_below ((HO1.out.alloc _)) hgrow2 (k1.trans (kept_alloc _ _)).size); clear hown2 hgrow2)
          | (refine step_append_pers _ rfl (.tmp 19) (.tmp 20) rfl w0.heap.size _ [] (by simp [Act.eval, Act.put]) HOA.out _ ps (by simp [Act.eval, Act.put]) (HV0.out.kept hKEQ) (by simp; omega) hKEQ.size ?_; intro v1 wa hown1 hgrow1; have HO1 : Hid (wa.ownsRow w0.heap.size 32 4 v1 ps.length (persC ps)) := hown1; have k1 : Kept w0 wa := hKEQ.trans' (grown_below HOA.out hgrow1 hKEQ.size); have HQ1 := Lib.hid (HQA.out.only (Only.grown hgrow1) (by simp [Value.ownBlock])); clear hown1 hgrow1)
          | (refine step_append_pers _ rfl (.tmp 19) (.tmp 20) rfl w0.heap.size _ [] (by simp [Act.eval, Act.put]) HOB.out _ ps (by simp [Act.eval, Act.put]) (HV0.out.kept hKQE) (by simp; omega) hKQE.size ?_; intro v1 wa hown1 hgrow1; have HO1 : Hid (wa.ownsRow w0.heap.size 32 4 v1 ps.length (persC ps)) := hown1; have k1 : Kept w0 wa := hKQE.trans' (grown_below HOB.out hgrow1 hKQE.size); have HQ1 := Lib.hid (HQB.out.only (Only.grown hgrow1) (by simp [Value.ownBlock])); clear hown1 hgrow1)
          | (refine step_append_pers _ rfl (.tmp 19) (.tmp 20) rfl w0.heap.size _ [] (by simp [Act.eval, Act.put]) HOC.out _ ps (by simp [Act.eval, Act.put]) (HV0.out.kept hKE) (by simp; omega) hKE.size ?_; intro v1 wa hown1 hgrow1; have HO1 : Hid (wa.ownsRow w0.heap.size 32 4 v1 ps.length (persC ps)) := hown1; have k1 : Kept w0 wa := hKE.trans' (grown_below HOC.out hgrow1 hKE.size); clear hown1 hgrow1))
      all_goals
        have HR2 := Lib.hid (And.intro (Perss.own HO2.out) (Fresh.own HO2.out))
        have HKZ := Lib.hid (HK0.out.trans k2)
        have hz : w.heap.size ≤ w0.heap.size := HK0.out.size
        have HSL : Hid (∃ a n c, v2 = Value.slice a n c) := by
          obtain ⟨a2, c2, hv2, _, _⟩ := HR2.out.1
          exact ⟨_, _, _, hv2⟩
        clear HO2 k2 HC HV0 HOA HOB HOC HQA HQB
        go_wp2_with fail
        go_ret2
        exact ⟨_, rfl, HSL.out, fun _ => ⟨HR2.out.1, fun g o n c h hn => Nat.le_trans hz (HR2.out.2 g o n c h hn)⟩, HKZ.out⟩
  · obtain rfl : E = (parseR l).1 := by have h := HE.out; unfold persN at h; rw [if_pos hn] at h; exact h.symm
    generalize (parseR l).1 = E at *
    generalize (parseR l).2 = q at *
    obtain ⟨q1, q2, q3, q4⟩ := q
    go_enter Tryz.func94, Tryz.ntmps94
    go_wp2_with fail
    refine HP.out.mono ?_
    rintro e w1 ⟨rfl, hk1⟩
    have HK1 := Lib.hid hk1
    clear hk1
    go_wp2_with fail
    go_ret2
    exact ⟨_, rfl, ⟨_, _, _, rfl⟩, fun h => absurd h hn, HK1.out.trans (kept_alloc _ _)⟩
end Go.Proofs.YteflhlbgbgamnaaGreatDoor

/- letter, part, word and Name of publisherref03. Conditions: lengths. -/
set_option linter.all false
namespace Go.Proofs.YteflhlbgbgamnaaGreatDoor
open Go.RowKit

theorem ret_bl {a b : Bool} (h : a = b) : Ending.returned (.bool a) = .returned (.bool b) := by rw [h]
def ltB (c : Int) : Bool := decide (97 ≤ c ∧ c ≤ 122 ∨ 65 ≤ c ∧ c ≤ 90)
def ptB (c : Int) : Bool := decide ((97 ≤ c ∧ c ≤ 122 ∨ 65 ≤ c ∧ c ≤ 90) ∨ 48 ≤ c ∧ c ≤ 57 ∨ c = 45 ∨ c = 95 ∨ c = 46 ∨ c = 58)
theorem ltB_at (l : Bs) (i : Nat) (h : i < l.length) : ltB (at8 l i) = letB l[i] := by
  have := let_at l i h
  unfold lttI at this
  unfold ltB
  rw [Bool.eq_iff_iff, decide_eq_true_iff, this]
theorem ptB_at (l : Bs) (i : Nat) (h : i < l.length) : ptB (at8 l i) = nmB l[i] := by
  have := nm_at l i h
  unfold lttI restI at this
  unfold ptB
  rw [Bool.eq_iff_iff, decide_eq_true_iff, this]
set_option maxRecDepth 100000 in
set_option maxHeartbeats 1600000 in
theorem rletter_any (c : Int) (w : World) (h0 : 0 ≤ c) (h1 : c ≤ 255) : Calls Tryz.prog 121 #[.int .u8 c] w fun e w' => e = .returned (.bool (ltB c)) ∧ w = w' := by
  rcases (by omega : c < 65 ∨ (65 ≤ c ∧ c ≤ 90) ∨ (91 ≤ c ∧ c ≤ 96) ∨ (97 ≤ c ∧ c ≤ 122) ∨ 122 < c) with h | ⟨h, h'⟩ | ⟨h, h'⟩ | ⟨h, h'⟩ | h
  all_goals
    first
      | have HB : Hid (ltB c = true) := by (show _ = _; unfold ltB; rw [decide_eq_true_iff]; omega)
      | have HB : Hid (ltB c = false) := by (show _ = _; unfold ltB; rw [decide_eq_false_iff_not]; omega)
    go_enter Tryz.func121, Tryz.ntmps121
    go_wp2_with fail
    go_ret
    exact ⟨ret_bl (by first | exact HB.out.symm | (refine Eq.trans ?_ HB.out.symm; simp; omega)), rfl⟩
set_option maxRecDepth 100000 in
set_option maxHeartbeats 1600000 in
theorem rpartc_any (c : Int) (w : World) (h0 : 0 ≤ c) (h1 : c ≤ 255) : Calls Tryz.prog 149 #[.int .u8 c] w fun e w' => e = .returned (.bool (ptB c)) ∧ w = w' := by
  have HL := Lib.hid (rletter_any c w h0 h1)
  cases hl : ltB c
  · rw [hl] at HL
    have hnl : ¬ (97 ≤ c ∧ c ≤ 122 ∨ 65 ≤ c ∧ c ≤ 90) := by unfold ltB at hl; rwa [decide_eq_false_iff_not] at hl
    rcases (by omega : (c < 45) ∨ c = 45 ∨ c = 46 ∨ c = 47 ∨ (48 ≤ c ∧ c ≤ 57) ∨ c = 58 ∨ (59 ≤ c ∧ c ≤ 64) ∨ (91 ≤ c ∧ c ≤ 94) ∨ c = 95 ∨ c = 96 ∨ (122 < c)) with h | h | h | h | ⟨h, h'⟩ | h | ⟨h, h'⟩ | ⟨h, h'⟩ | h | h | h
    all_goals
      first
        | have HB : Hid (ptB c = true) := by (show _ = _; unfold ptB; rw [decide_eq_true_iff]; omega)
        | have HB : Hid (ptB c = false) := by (show _ = _; unfold ptB; rw [decide_eq_false_iff_not]; omega)
      clear hnl hl
      try subst h
      go_enter Tryz.func149, Tryz.ntmps149
      go_wp2_with fail
      refine HL.out.mono ?_
      rintro e w' ⟨rfl, rfl⟩
      go_wp2_with fail
      go_ret
      exact ⟨ret_bl (by first | exact HB.out.symm | (refine Eq.trans ?_ HB.out.symm; simp; omega)), rfl⟩
  · rw [hl] at HL
    have HB : Hid (ptB c = true) := by (show _ = _; unfold ltB at hl; rw [decide_eq_true_iff] at hl; unfold ptB; rw [decide_eq_true_iff]; exact .inl hl)
    clear hl
    go_enter Tryz.func149, Tryz.ntmps149
    go_wp2_with fail
    refine HL.out.mono ?_
    rintro e w' ⟨rfl, rfl⟩
    go_wp2_with fail
    go_ret
    exact ⟨ret_bl (by first | exact HB.out.symm | (refine Eq.trans ?_ HB.out.symm; simp; omega)), rfl⟩
theorem all_take (l : Bs) (k : Nat) (h : k < l.length) (ha : (l.take k).all nmB = true) (hb : nmB l[k] = true) : (l.take (k + 1)).all nmB = true := by
  rw [List.take_succ_eq_append_getElem h, List.all_append, ha]; simp [hb]
theorem all_not (l : Bs) (k : Nat) (h : k < l.length) (hb : nmB l[k] = false) : l.all nmB = false := by
  rw [List.all_eq_false]; exact ⟨l[k], List.getElem_mem h, by rw [hb]; simp⟩
set_option maxRecDepth 100000 in
set_option maxHeartbeats 1600000 in
theorem rword_any (l : Bs) (w : World) (hs : l.length ≤ 1100000) : Calls Tryz.prog 122 #[.string (bs l), .int .i64 0] w fun e w' => (∃ k : Nat, e = .returned (.int .i64 k) ∧ (k == l.length) = l.all nmB ∧ k ≤ l.length) ∧ w = w' := by
  have HP := Lib.hid (fun c w h0 h1 => rpartc_any c w h0 h1)
  go_enter Tryz.func122, Tryz.ntmps122
  go_wp2_with fail
  go_loop [1] (fun i => ∃ k : Nat, k ≤ l.length ∧ i = .int .i64 k ∧ Hid ((l.take k).all nmB = true)) (fun i => l.length - (intOf i).toNat)
  case atStart => exact ⟨0, Nat.zero_le _, rfl, rfl⟩
  case round =>
    obtain ⟨k, hk, rfl, HA⟩ := hrel
    by_cases hlt : k < l.length
    · have i0 := run_ix (P := Tryz.prog) (t := 9) Tryz.underlying9 l k hlt k rfl
      have h0 := at8_lo l k
      have h1 := at8_hi l k
      have HAT := Lib.hid (ptB_at l k hlt)
      have HS := Lib.hid (fun hb => all_take l k hlt HA.out hb)
      have HNO := Lib.hid (fun hb => all_not l k hlt hb)
      rw [← HAT.out] at HS HNO
      generalize at8 l k = b at *
      go_wp2_with fail
      refine (HP.out _ _ h0 (by omega)).mono ?_
      rintro e w' ⟨rfl, rfl⟩
      cases hb : ptB b
      · have HF := Lib.hid (HNO.out hb)
        go_wp2_with fail
        go_ret
        exact ⟨⟨k, rfl, by rw [HF.out]; simp; omega, by omega⟩, rfl⟩
      · have HF := Lib.hid (HS.out hb)
        go_wp2_with fail
        go_round
        case rel => exact ⟨k + 1, by omega, by go_num, HF.out⟩
        case measure => simp [intOf]; omega
    · obtain rfl : k = l.length := by omega
      have HF : Hid (l.all nmB = true) := by
        show _ = _
        have h := HA.out
        rwa [List.take_of_length_le (Nat.le_refl _)] at h
      clear HA
      go_wp2_with fail
      go_ret
      exact ⟨⟨_, rfl, by rw [HF.out]; simp, Nat.le_refl _⟩, rfl⟩
set_option maxRecDepth 100000 in
set_option maxHeartbeats 1600000 in
theorem rname_any (l : Bs) (w : World) (hs : l.length ≤ 1100000) : Calls Tryz.prog 92 #[.string (bs l)] w fun e w' => e = .returned (.bool (nameB l)) ∧ Kept w w' := by
  have HW := Lib.hid (fun w => rword_any l w hs)
  have HLT := Lib.hid (fun c w h0 h1 => rletter_any c w h0 h1)
  by_cases h1 : l.length = 0
  · have HB : Hid (nameB l = false) := by
      show _ = _
      obtain rfl := List.length_eq_zero_iff.1 h1
      rfl
    go_enter Tryz.func92, Tryz.ntmps92
    go_wp2_with fail
    go_ret
    exact ⟨ret_bl (by first | exact HB.out.symm | (refine Eq.trans ?_ HB.out.symm; simp; omega)), Kept.refl _⟩
  by_cases h60 : 60 < l.length
  · have HB : Hid (nameB l = false) := by
      show _ = _
      rw [nameB_cons l (by omega), decide_eq_false (by omega)]; rfl
    go_enter Tryz.func92, Tryz.ntmps92
    go_wp2_with fail
    go_ret
    exact ⟨ret_bl (by first | exact HB.out.symm | (refine Eq.trans ?_ HB.out.symm; simp; omega)), Kept.refl _⟩
  · have HB : Hid (nameB l = (ltB (at8 l 0) && l.all nmB)) := by
      show _ = _
      rw [nameB_cons l (by omega), decide_eq_true (by omega), ltB_at l 0 (by omega)]; rfl
    have i0 := run_ix (P := Tryz.prog) (t := 9) Tryz.underlying9 l 0 (by omega) 0 rfl
    have c0 := at8_lo l 0
    have c1 := at8_hi l 0
    generalize at8 l 0 = b at *
    generalize l.all nmB = al at *
    generalize nameB l = nb at *
    have hp : 1 ≤ l.length := by omega
    go_enter Tryz.func92, Tryz.ntmps92
    go_wp2_with fail
    refine (HLT.out _ _ c0 (by omega)).mono ?_
    rintro e w' ⟨rfl, rfl⟩
    cases hb : ltB b
    · rw [hb] at HB
      go_wp2_with fail
      go_ret
      exact ⟨ret_bl HB.out.symm, Kept.refl _⟩
    · rw [hb] at HB
      go_wp2_with fail
      refine (HW.out _).mono ?_
      rintro e w' ⟨⟨k, rfl, hk, hkl⟩, rfl⟩
      go_wp2_with fail
      go_ret
      exact ⟨ret_bl (by rw [HB.out, ← hk]; first | rfl | (simp only [Bool.true_and]; rw [Bool.eq_iff_iff, beq_iff_eq, beq_iff_eq]; omega)), Kept.refl _⟩
end Go.Proofs.YteflhlbgbgamnaaGreatDoor
