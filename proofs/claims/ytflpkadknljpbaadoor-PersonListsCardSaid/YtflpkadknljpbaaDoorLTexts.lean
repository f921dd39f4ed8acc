/- The laws PersonTexts and PersonReturns answer true of every person and text. No condition. -/
import Derived.Test.YtflpkadknljpbaaDoorAwk
import Derived.Test.YtflpkadknljpbaaDoorRparseR
import Derived.Test.YtflpkadknljpbaaDoorOpen
set_option linter.all false
namespace Go.Proofs.YtflpkadknljpbaaDoor
open Go.RowKit

/-- Is a person's name short? -/
def fewB (q : P4) : Bool := decide (q.1.length ≤ 100) && (decide (q.2.1.length ≤ 100) && (decide (q.2.2.1.length ≤ 100) && decide (q.2.2.2.length ≤ 100)))
theorem few_lens (q : P4) (h : fewB q = true) : q.1.length ≤ 100 ∧ q.2.1.length ≤ 100 ∧ q.2.2.1.length ≤ 100 ∧ q.2.2.2.length ≤ 100 := by
  unfold fewB at h; simpa using h
theorem Fit4.lens {q : P4} (h : Fit4 q) : q.1.length ≤ 9223372036854775807 ∧ q.2.1.length ≤ 9223372036854775807 ∧ q.2.2.1.length ≤ 9223372036854775807 ∧ q.2.2.2.length ≤ 9223372036854775807 := h

set_option maxRecDepth 100000 in
set_option maxHeartbeats 800000 in
theorem few_any (q : P4) (w : World) (hq : Fit4 q) : Calls Tryd.prog 15 #[p4V q] w fun e w' => e = .returned (.bool (fewB q)) ∧ Kept w w' := by
  obtain ⟨a, b, c, d⟩ := q
  obtain ⟨h1, h2, h3, h4⟩ := hq.lens
  clear hq
  simp only at h1 h2 h3 h4
  have HF : Hid (fewB (a, b, c, d) = (decide (a.length ≤ 100) && (decide (b.length ≤ 100) && (decide (c.length ≤ 100) && decide (d.length ≤ 100))))) := rfl
  by_cases g1 : a.length ≤ 100
  · by_cases g2 : b.length ≤ 100
    · by_cases g3 : c.length ≤ 100
      · by_cases g4 : d.length ≤ 100
        · have d1 : decide (a.length ≤ 100) = true := by simpa using g1
          have d2 : decide (b.length ≤ 100) = true := by simpa using g2
          have d3 : decide (c.length ≤ 100) = true := by simpa using g3
          have d4 : decide (d.length ≤ 100) = true := by simpa using g4
          go_enter Tryd.func15, Tryd.ntmps15
          go_wp2_with fail
          go_ret
          exact ⟨ret_bool (by rw [HF.out, d1, d2, d3, d4]; simp; omega), kept_alloc _ _⟩
        · have d1 : decide (a.length ≤ 100) = true := by simpa using g1
          have d2 : decide (b.length ≤ 100) = true := by simpa using g2
          have d3 : decide (c.length ≤ 100) = true := by simpa using g3
          have d4 : decide (d.length ≤ 100) = false := by simpa using g4
          go_enter Tryd.func15, Tryd.ntmps15
          go_wp2_with fail
          go_ret
          exact ⟨ret_bool (by rw [HF.out, d1, d2, d3, d4]; simp; omega), kept_alloc _ _⟩
      · have d1 : decide (a.length ≤ 100) = true := by simpa using g1
        have d2 : decide (b.length ≤ 100) = true := by simpa using g2
        have d3 : decide (c.length ≤ 100) = false := by simpa using g3
        go_enter Tryd.func15, Tryd.ntmps15
        go_wp2_with fail
        go_ret
        exact ⟨ret_bool (by rw [HF.out, d1, d2, d3]; rfl), kept_alloc _ _⟩
    · have d1 : decide (a.length ≤ 100) = true := by simpa using g1
      have d2 : decide (b.length ≤ 100) = false := by simpa using g2
      go_enter Tryd.func15, Tryd.ntmps15
      go_wp2_with fail
      go_ret
      exact ⟨ret_bool (by rw [HF.out, d1, d2]; rfl), kept_alloc _ _⟩
  · have d1 : decide (a.length ≤ 100) = false := by simpa using g1
    go_enter Tryd.func15, Tryd.ntmps15
    go_wp2_with fail
    go_ret
    exact ⟨ret_bool (by rw [HF.out, d1]; rfl), kept_alloc _ _⟩

set_option maxRecDepth 100000 in
set_option maxHeartbeats 3200000 in
theorem ltexts_any (q : P4) (w : World) (hg : Gnd w) (hq : Fit4 q) : Calls Tryd.prog 4 #[p4V q] w fun e w' => e = .returned (.bool true) ∧ Kept w w' := by
  have HG := Lib.hid hg
  clear hg
  have HF := Lib.hid (fun w => few_any q w hq)
  cases hb : fewB q
  · rw [hb] at HF
    clear hb hq
    obtain ⟨a, b, c, d⟩ := q
    go_enter Tryd.func4, Tryd.ntmps4
    go_wp2_with fail
    refine (HF.out _).mono ?_
    rintro e w1 ⟨rfl, hk1⟩
    have HK1 := Lib.hid ((kept_alloc w _).trans hk1)
    clear hk1
    go_wp2_with fail
    refine (awake_any _ (HG.out.kept HK1.out)).mono ?_
    rintro e w2 ⟨rfl, hk2⟩
    have HK2 := Lib.hid (HK1.out.trans hk2)
    clear hk2
    go_wp2_with fail
    go_ret
    exact ⟨rfl, HK2.out⟩
  · rw [hb] at HF
    obtain ⟨l1, l2, l3, l4⟩ := few_lens q hb
    clear hb hq
    obtain ⟨a, b, c, d⟩ := q
    simp only at l1 l2 l3 l4
    have HT := Lib.hid (fun w hg => text_any a b c d w hg (by omega))
    have HR := Lib.hid (fun w => rtext_any a b c d w (by omega))
    generalize textR a b c d = t at *
    generalize textE a b c d = n at *
    go_enter Tryd.func4, Tryd.ntmps4
    go_wp2_with fail
    refine (HF.out _).mono ?_
    rintro e w1 ⟨rfl, hk1⟩
    have HB := Lib.hid ((Blk.new w 24 #[.string (bs a), .string (bs b), .string (bs c), .string (bs d)]).kept hk1)
    have HK1 := Lib.hid ((kept_alloc w _).trans hk1)
    clear hk1
    have c0 : w1.cell? ⟨w.heap.size, 0, none⟩ = some (.string (bs a)) := HB.out.cell 0 _ rfl
    have c1 : w1.cell? ⟨w.heap.size, 1, none⟩ = some (.string (bs b)) := HB.out.cell 1 _ rfl
    have c2 : w1.cell? ⟨w.heap.size, 2, none⟩ = some (.string (bs c)) := HB.out.cell 2 _ rfl
    have c3 : w1.cell? ⟨w.heap.size, 3, none⟩ = some (.string (bs d)) := HB.out.cell 3 _ rfl
    have z1 := HB.out.lt
    go_wp2_with fail
    refine (HT.out _ (HG.out.kept HK1.out)).mono ?_
    rintro e w2 ⟨rfl, hk2⟩
    have HB2 := Lib.hid (HB.out.kept hk2)
    have HK2 := Lib.hid (HK1.out.trans hk2)
    clear hk2 c0 c1 c2 c3 z1 HB
    have c0 : w2.cell? ⟨w.heap.size, 0, none⟩ = some (.string (bs a)) := HB2.out.cell 0 _ rfl
    have c1 : w2.cell? ⟨w.heap.size, 1, none⟩ = some (.string (bs b)) := HB2.out.cell 1 _ rfl
    have c2 : w2.cell? ⟨w.heap.size, 2, none⟩ = some (.string (bs c)) := HB2.out.cell 2 _ rfl
    have c3 : w2.cell? ⟨w.heap.size, 3, none⟩ = some (.string (bs d)) := HB2.out.cell 3 _ rfl
    have z1 := HB2.out.lt
    go_wp2_with fail
    refine (HR.out _).mono ?_
    rintro e w3 ⟨rfl, hk3⟩
    have HK3 := Lib.hid (HK2.out.trans hk3)
    clear hk3 c0 c1 c2 c3 z1 HB2
    go_wp2_with fail
    refine (awake_any _ (HG.out.kept HK3.out)).mono ?_
    rintro e w4 ⟨rfl, hk4⟩
    have HK4 := Lib.hid (HK3.out.trans hk4)
    clear hk4
    go_wp2_with fail
    go_ret
    exact ⟨rfl, HK4.out⟩
end Go.Proofs.YtflpkadknljpbaaDoor
