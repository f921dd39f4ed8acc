/- The laws PersonTexts and PersonReturns answer true of every person and text. No condition. -/
import Derived.Test.YtflpkadknljpbaaDoorT29
import Derived.Test.YtflpkadknljpbaaDoorT31

set_option linter.all false
namespace Go.Proofs.YtflpkadknljpbaaDoor
open Go.RowKit

/-- Is a person's name short? -/
def fewB (q : P4) : Bool := decide (q.1.length ≤ 100) && (decide (q.2.1.length ≤ 100) && (decide (q.2.2.1.length ≤ 100) && decide (q.2.2.2.length ≤ 100)))
theorem few_lens (q : P4) (h : fewB q = true) : q.1.length ≤ 100 ∧ q.2.1.length ≤ 100 ∧ q.2.2.1.length ≤ 100 ∧ q.2.2.2.length ≤ 100 := by
  unfold fewB at h; simpa using h
theorem Fit4.lens {q : P4} (h : Fit4 q) : q.1.length ≤ 9223372036854775807 ∧ q.2.1.length ≤ 9223372036854775807 ∧ q.2.2.1.length ≤ 9223372036854775807 ∧ q.2.2.2.length ≤ 9223372036854775807 := h

set_option maxRecDepth 100000 in
set_option maxHeartbeats 800000 in
theorem few_any (q : P4) (w : World) (hq : Fit4 q) : Calls Tryd.prog 15 #[p4V q] w fun e w' => e = .returned (.bool (fewB q)) ∧ Kept w w' := by
  obtain ⟨a, b, c, d⟩ := q
  obtain ⟨h1, h2, h3, h4⟩ := hq.lens
  clear hq
  simp only at h1 h2 h3 h4
  have HF : Hid (fewB (a, b, c, d) = (decide (a.length ≤ 100) && (decide (b.length ≤ 100) && (decide (c.length ≤ 100) && decide (d.length ≤ 100))))) := rfl
  by_cases g1 : a.length ≤ 100
  · by_cases g2 : b.length ≤ 100
    · by_cases g3 : c.length ≤ 100
      · by_cases g4 : d.length ≤ 100
        · have d1 : decide (a.length ≤ 100) = true := by simpa using g1
          have d2 : decide (b.length ≤ 100) = true := by simpa using g2
          have d3 : decide (c.length ≤ 100) = true := by simpa using g3
          have d4 : decide (d.length ≤ 100) = true := by simpa using g4
          go_enter Tryd.func15, Tryd.ntmps15
          go_wp2_with fail
          go_ret
          exact ⟨ret_bool (by rw [HF.out, d1, d2, d3, d4]; simp; omega), kept_alloc _ _⟩
        · have d1 : decide (a.length ≤ 100) = true := by simpa using g1
          have d2 : decide (b.length ≤ 100) = true := by simpa using g2
          have d3 : decide (c.length ≤ 100) = true := by simpa using g3
          have d4 : decide (d.length ≤ 100) = false := by simpa using g4
          go_enter Tryd.func15, Tryd.ntmps15
          go_wp2_with fail
          go_ret
          exact ⟨ret_bool (by rw [HF.out, d1, d2, d3, d4]; simp; omega), kept_alloc _ _⟩
      · have d1 : decide (a.length ≤ 100) = true := by simpa using g1
        have d2 : decide (b.length ≤ 100) = true := by simpa using g2
        have d3 : decide (c.length ≤ 100) = false := by simpa using g3
        go_enter Tryd.func15, Tryd.ntmps15
        go_wp2_with fail
        go_ret
        exact ⟨ret_bool (by rw [HF.out, d1, d2, d3]; rfl), kept_alloc _ _⟩
    · have d1 : decide (a.length ≤ 100) = true := by simpa using g1
      have d2 : decide (b.length ≤ 100) = false := by simpa using g2
      go_enter Tryd.func15, Tryd.ntmps15
      go_wp2_with fail
      go_ret
      exact ⟨ret_bool (by rw [HF.out, d1, d2]; rfl), kept_alloc _ _⟩
  · have d1 : decide (a.length ≤ 100) = false := by simpa using g1
    go_enter Tryd.func15, Tryd.ntmps15
    go_wp2_with fail
    go_ret
    exact ⟨ret_bool (by rw [HF.out, d1]; rfl), kept_alloc _ _⟩

set_option maxRecDepth 100000 in
set_option maxHeartbeats 3200000 in
theorem ltexts_any (q : P4) (w : World) (hg : Gnd w) (hq : Fit4 q) : Calls Tryd.prog 4 #[p4V q] w fun e w' => e = .returned (.bool true) ∧ Kept w w' := by
  have HG := Lib.hid hg
  clear hg
  have HF := Lib.hid (fun w => few_any q w hq)
  cases hb : fewB q
  · rw [hb] at HF
    clear hb hq
    obtain ⟨a, b, c, d⟩ := q
    go_enter Tryd.func4, Tryd.ntmps4
    go_wp2_with fail
    refine (HF.out _).mono ?_
    rintro e w1 ⟨rfl, hk1⟩
    have HK1 := Lib.hid ((kept_alloc w _).trans hk1)
    clear hk1
    go_wp2_with fail
    refine (awake_any _ (HG.out.kept HK1.out)).mono ?_
    rintro e w2 ⟨rfl, hk2⟩
    have HK2 := Lib.hid (HK1.out.trans hk2)
    clear hk2
    go_wp2_with fail
    go_ret
    exact ⟨rfl, HK2.out⟩
  · rw [hb] at HF
    obtain ⟨l1, l2, l3, l4⟩ := few_lens q hb
    clear hb hq
    obtain ⟨a, b, c, d⟩ := q
    simp only at l1 l2 l3 l4
    have HT := Lib.hid (fun w hg => text_any a b c d w hg (by omega))
    have HR := Lib.hid (fun w => rtext_any a b c d w (by omega))
    generalize textR a b c d = t at *
    generalize textE a b c d = n at *
    go_enter Tryd.func4, Tryd.ntmps4
    go_wp2_with fail
    refine (HF.out _).mono ?_
    rintro e w1 ⟨rfl, hk1⟩
    have HB := Lib.hid ((Blk.new w 24 #[.string (bs a), .string (bs b), .string (bs c), .string (bs d)]).kept hk1)
    have HK1 := Lib.hid ((kept_alloc w _).trans hk1)
    clear hk1
    have c0 : w1.cell? ⟨w.heap.size, 0, none⟩ = some (.string (bs a)) := HB.out.cell 0 _ rfl
    have c1 : w1.cell? ⟨w.heap.size, 1, none⟩ = some (.string (bs b)) := HB.out.cell 1 _ rfl
    have c2 : w1.cell? ⟨w.heap.size, 2, none⟩ = some (.string (bs c)) := HB.out.cell 2 _ rfl
    have c3 : w1.cell? ⟨w.heap.size, 3, none⟩ = some (.string (bs d)) := HB.out.cell 3 _ rfl
    have z1 := HB.out.lt
    go_wp2_with fail
    refine (HT.out _ (HG.out.kept HK1.out)).mono ?_
    rintro e w2 ⟨rfl, hk2⟩
    have HB2 := Lib.hid (HB.out.kept hk2)
    have HK2 := Lib.hid (HK1.out.trans hk2)
    clear hk2 c0 c1 c2 c3 z1 HB
    have c0 : w2.cell? ⟨w.heap.size, 0, none⟩ = some (.string (bs a)) := HB2.out.cell 0 _ rfl
    have c1 : w2.cell? ⟨w.heap.size, 1, none⟩ = some (.string (bs b)) := HB2.out.cell 1 _ rfl
    have c2 : w2.cell? ⟨w.heap.size, 2, none⟩ = some (.string (bs c)) := HB2.out.cell 2 _ rfl
    have c3 : w2.cell? ⟨w.heap.size, 3, none⟩ = some (.string (bs d)) := HB2.out.cell 3 _ rfl
    have z1 := HB2.out.lt
    go_wp2_with fail
    refine (HR.out _).mono ?_
    rintro e w3 ⟨rfl, hk3⟩
    have HK3 := Lib.hid (HK2.out.trans hk3)
    clear hk3 c0 c1 c2 c3 z1 HB2
    go_wp2_with fail
    refine (awake_any _ (HG.out.kept HK3.out)).mono ?_
    rintro e w4 ⟨rfl, hk4⟩
    have HK4 := Lib.hid (HK3.out.trans hk4)
    clear hk4
    go_wp2_with fail
    go_ret
    exact ⟨rfl, HK4.out⟩
end Go.Proofs.YtflpkadknljpbaaDoor

/- The law PersonReturns answers true of every person and text. No condition. -/
set_option linter.all false
namespace Go.Proofs.YtflpkadknljpbaaDoor
open Go.RowKit

theorem three_len (m : Nat) (xs : List Bs) (h : ∀ x ∈ xs, x.length ≤ m) : (threeF xs).1.length ≤ m ∧ (threeF xs).2.1.length ≤ m ∧ (threeF xs).2.2.length ≤ m := by
  match xs, h with
  | [], _ => simp [threeF]
  | [a], h => exact ⟨h a (by simp), by simp [threeF], by simp [threeF]⟩
  | [a, b], h => exact ⟨h a (by simp), h b (by simp), by simp [threeF]⟩
  | [a, b, c], h => exact ⟨h a (by simp), h c (by simp), h b (by simp)⟩
  | a :: b :: c :: d :: r, _ => simp [threeF]
theorem fields_len (t : Bs) : (fieldsP t).1.length ≤ t.length + 1 ∧ (fieldsP t).2.1.length ≤ t.length + 1 ∧ (fieldsP t).2.2.length ≤ t.length + 1 := by
  rw [fields_of]
  refine three_len _ _ fun x hx => ?_
  obtain ⟨y, hy, rfl⟩ := List.mem_map.1 hx
  have h1 := split_mem_le 44 t y hy
  have h2 := cleanL_le y
  omega
theorem restR_len (p t : Bs) : size4 (restR p t).2 ≤ p.length + 3 * (t.length + 1) := by
  unfold restR
  by_cases hb : badP p t
  · rw [if_pos hb]; simp [size4, zero4]
  rw [if_neg hb]
  by_cases hf : (fieldsP t).1 = []
  · rw [if_pos hf]; simp [size4, zero4]
  rw [if_neg hf]
  have := fields_len t
  simp only [size4]; omega
theorem parse_len (l : Bs) : size4 (parseR l).2 ≤ 4 * (l.length + 3) := by
  rw [parseR_body]
  cases hl : lineB l
  · simp [size4, zero4]
  rw [if_pos rfl]
  have hc := cleanL_le l
  unfold bodyR restP
  match hq : cleanL l with
  | [] => have := restR_len [] []; simp only; simp at this; omega
  | x :: r =>
    rw [hq] at hc
    simp only [List.length_cons] at hc
    simp only
    by_cases hx : x = 123
    · rw [if_pos hx]
      by_cases hb : before 125 r < r.length
      · rw [if_pos hb]
        have h1 := restR_len (cleanL (r.take (before 125 r))) (r.drop (before 125 r + 1))
        have h2 := cleanL_le (r.take (before 125 r))
        simp only [List.length_take, List.length_drop] at h1 h2
        simp only; omega
      · rw [if_neg hb]; simp [size4, zero4]
    · rw [if_neg hx]
      have h1 := restR_len [] (x :: r)
      simp only [List.length_cons, List.length_nil] at h1
      simp only; omega
theorem textS_len (f g p s : Bs) : (textS f g p s).length ≤ f.length + g.length + p.length + s.length + 9 := by
  unfold textS
  by_cases h1 : p = [] <;> by_cases h2 : s = [] <;> by_cases h3 : g = [] <;> simp [h1, h2, h3] <;> omega
/-- What Text hands to Parse is read back. -/
theorem pt_ok (q : P4) (h : textE q.1 q.2.1 q.2.2.1 q.2.2.2 = 0) (hs : size4 q ≤ 100000) (w : World) (hg : Gnd w) :
    Calls Tryd.prog 13 #[.string (bs (textR q.1 q.2.1 q.2.2.1 q.2.2.2))] w fun e w' => e = .returned (.tuple #[p4V q, .int .i64 0]) ∧ Kept w w' := by
  have e1 : textR q.1 q.2.1 q.2.2.1 q.2.2.2 = textS q.1 q.2.1 q.2.2.1 q.2.2.2 := by unfold textR; rw [if_pos h]
  have hl := textS_len q.1 q.2.1 q.2.2.1 q.2.2.2
  have h1 := parse_any (textS q.1 q.2.1 q.2.2.1 q.2.2.2) w hg (by unfold size4 at hs; omega)
  unfold ParsePost at h1
  rw [parse_text _ _ _ _ h] at h1
  rw [e1]; exact h1
theorem text_ok4 (q : P4) (h : textE q.1 q.2.1 q.2.2.1 q.2.2.2 = 0) (hs : size4 q ≤ 100000) (w : World) (hg : Gnd w) :
    Calls Tryd.prog 16 #[p4V q] w fun e w' => e = .returned (.tuple #[.string (bs (textR q.1 q.2.1 q.2.2.1 q.2.2.2)), .int .i64 0]) ∧ Kept w w' := by
  have h1 := text_any q.1 q.2.1 q.2.2.1 q.2.2.2 w hg (by unfold size4 at hs; omega)
  rw [h] at h1; exact h1
theorem text_no4 (q : P4) (h : textE q.1 q.2.1 q.2.2.1 q.2.2.2 ≠ 0) (hs : size4 q ≤ 100000) (w : World) (hg : Gnd w) :
    Calls Tryd.prog 16 #[p4V q] w fun e w' => e = .returned (.tuple #[.string (bs []), .int .i64 (textE q.1 q.2.1 q.2.2.1 q.2.2.2)]) ∧ Kept w w' := by
  have h1 := text_any q.1 q.2.1 q.2.2.1 q.2.2.2 w hg (by unfold size4 at hs; omega)
  have e1 : textR q.1 q.2.1 q.2.2.1 q.2.2.2 = [] := by unfold textR; rw [if_neg h]
  rw [e1] at h1; exact h1

set_option maxRecDepth 100000 in
set_option maxHeartbeats 3200000 in
theorem lret_oz (q : P4) (l : Bs) (w : World) (hg : Gnd w) (hq : Fit4 q) (hf : fewB q = true) (hl : l.length ≤ 400) (ht : textE q.1 q.2.1 q.2.2.1 q.2.2.2 = 0) (hn : (parseR l).1 = 0) : Calls Tryd.prog 7 #[p4V q, .string (bs l)] w fun e w' => e = .returned (.bool true) ∧ Kept w w' := by
  have HG := Lib.hid hg
  have hs4 : size4 q ≤ 100000 := by have := few_lens q hf; unfold size4; omega
  have HF := Lib.hid (fun w => few_any q w hq)
  rw [hf] at HF
  have HT := Lib.hid (fun w hg => text_ok4 q ht hs4 w hg)
  have HP := Lib.hid (fun w hg => pt_ok q ht hs4 w hg)
  generalize textR q.1 q.2.1 q.2.2.1 q.2.2.2 = tx at *
  have HL := Lib.hid (fun w hg => parse_any l w hg (by omega))
  unfold ParsePost at HL
  have hpl := parse_len l
  have HX := Lib.hid (fun w hg => text_ok4 (parseR l).2 (text_parse l (parseR l).2 (by rw [← hn])) (by omega) w hg)
  have HY := Lib.hid (fun w hg => pt_ok (parseR l).2 (text_parse l (parseR l).2 (by rw [← hn])) (by omega) w hg)
  rw [hn] at HL
  generalize (parseR l).2 = x at *
  generalize textR x.1 x.2.1 x.2.2.1 x.2.2.2 = tu at *
  obtain ⟨x1, x2, x3, x4⟩ := x
  clear ht hn hf hq hg hs4 hpl
  obtain ⟨a, b, c, d⟩ := q
  go_enter Tryd.func7, Tryd.ntmps7
  go_wp2_with fail
  refine (HF.out _).mono ?_
  rintro e w1 ⟨rfl, hk1⟩
  have HB := Lib.hid ((Blk.new w 24 #[.string (bs a), .string (bs b), .string (bs c), .string (bs d)]).kept hk1)
  have HK1 := Lib.hid ((kept_alloc w _).trans hk1)
  clear hk1
  have c0 : w1.cell? ⟨w.heap.size, 0, none⟩ = some (.string (bs a)) := HB.out.cell 0 _ rfl
  have c1 : w1.cell? ⟨w.heap.size, 1, none⟩ = some (.string (bs b)) := HB.out.cell 1 _ rfl
  have c2 : w1.cell? ⟨w.heap.size, 2, none⟩ = some (.string (bs c)) := HB.out.cell 2 _ rfl
  have c3 : w1.cell? ⟨w.heap.size, 3, none⟩ = some (.string (bs d)) := HB.out.cell 3 _ rfl
  have z1 := HB.out.lt
  go_wp2_with fail
  refine (HT.out _ (HG.out.kept HK1.out)).mono ?_
  rintro e w2 ⟨rfl, hk2⟩
  have HB2 := Lib.hid (HB.out.kept hk2)
  have HK2 := Lib.hid (HK1.out.trans hk2)
  clear hk2 c0 c1 c2 c3 z1 HB
  go_wp2_with fail
  refine (HP.out _ (HG.out.kept HK2.out)).mono ?_
  rintro e w3 ⟨rfl, hk3⟩
  have HB := Lib.hid (HB2.out.kept hk3)
  have HK3 := Lib.hid (HK2.out.trans hk3)
  clear hk3 HB2
  have c0 : w3.cell? ⟨w.heap.size, 0, none⟩ = some (.string (bs a)) := HB.out.cell 0 _ rfl
  have c1 : w3.cell? ⟨w.heap.size, 1, none⟩ = some (.string (bs b)) := HB.out.cell 1 _ rfl
  have c2 : w3.cell? ⟨w.heap.size, 2, none⟩ = some (.string (bs c)) := HB.out.cell 2 _ rfl
  have c3 : w3.cell? ⟨w.heap.size, 3, none⟩ = some (.string (bs d)) := HB.out.cell 3 _ rfl
  have z1 := HB.out.lt
  go_wp2_with fail
  refine (HL.out _ (HG.out.kept (HK3.out.trans (kept_alloc _ _)))).mono ?_
  rintro e w4 ⟨rfl, hk4⟩
  have HK4 := Lib.hid ((HK3.out.trans (kept_alloc _ _)).trans hk4)
  clear hk4 c0 c1 c2 c3 z1 HB
  go_wp2_with fail
  refine (HX.out _ (HG.out.kept (HK4.out.trans (kept_alloc _ _)))).mono ?_
  rintro e w5 ⟨rfl, hk5⟩
  have HB := Lib.hid ((Blk.new w4 24 #[.string (bs x1), .string (bs x2), .string (bs x3), .string (bs x4)]).kept hk5)
  have HK5 := Lib.hid ((HK4.out.trans (kept_alloc _ _)).trans hk5)
  clear hk5
  go_wp2_with fail
  refine (HY.out _ (HG.out.kept HK5.out)).mono ?_
  rintro e w6 ⟨rfl, hk6⟩
  have HB2 := Lib.hid (HB.out.kept hk6)
  have HK6 := Lib.hid (HK5.out.trans hk6)
  clear hk6 HB
  have c0 : w6.cell? ⟨w4.heap.size, 0, none⟩ = some (.string (bs x1)) := HB2.out.cell 0 _ rfl
  have c1 : w6.cell? ⟨w4.heap.size, 1, none⟩ = some (.string (bs x2)) := HB2.out.cell 1 _ rfl
  have c2 : w6.cell? ⟨w4.heap.size, 2, none⟩ = some (.string (bs x3)) := HB2.out.cell 2 _ rfl
  have c3 : w6.cell? ⟨w4.heap.size, 3, none⟩ = some (.string (bs x4)) := HB2.out.cell 3 _ rfl
  have z1 := HB2.out.lt
  go_wp2_with fail
  refine (awake_any _ (HG.out.kept (HK6.out.trans (kept_alloc _ _)))).mono ?_
  rintro e w7 ⟨rfl, hk7⟩
  have HK7 := Lib.hid ((HK6.out.trans (kept_alloc _ _)).trans hk7)
  clear hk7
  go_wp2_with fail
  go_ret
  exact ⟨rfl, HK7.out⟩

set_option maxRecDepth 100000 in
set_option maxHeartbeats 3200000 in
theorem lret_on (q : P4) (l : Bs) (w : World) (hg : Gnd w) (hq : Fit4 q) (hf : fewB q = true) (hl : l.length ≤ 400) (ht : textE q.1 q.2.1 q.2.2.1 q.2.2.2 = 0) (hn : (parseR l).1 ≠ 0) : Calls Tryd.prog 7 #[p4V q, .string (bs l)] w fun e w' => e = .returned (.bool true) ∧ Kept w w' := by
  have HG := Lib.hid hg
  have hs4 : size4 q ≤ 100000 := by have := few_lens q hf; unfold size4; omega
  have HF := Lib.hid (fun w => few_any q w hq)
  rw [hf] at HF
  have HT := Lib.hid (fun w hg => text_ok4 q ht hs4 w hg)
  have HP := Lib.hid (fun w hg => pt_ok q ht hs4 w hg)
  generalize textR q.1 q.2.1 q.2.2.1 q.2.2.2 = tx at *
  have HL := Lib.hid (fun w hg => parse_any l w hg (by omega))
  unfold ParsePost at HL
  have hpl := parse_len l
  rw [parse_zero l hn] at HL
  generalize (parseR l).1 = n at *
  have hn1 : (n != 0) = true := by simpa using hn
  have hn2 : (n == 0) = false := by simpa using hn
  clear ht hn hf hq hg hs4 hpl
  obtain ⟨a, b, c, d⟩ := q
  go_enter Tryd.func7, Tryd.ntmps7
  go_wp2_with fail
  refine (HF.out _).mono ?_
  rintro e w1 ⟨rfl, hk1⟩
  have HB := Lib.hid ((Blk.new w 24 #[.string (bs a), .string (bs b), .string (bs c), .string (bs d)]).kept hk1)
  have HK1 := Lib.hid ((kept_alloc w _).trans hk1)
  clear hk1
  have c0 : w1.cell? ⟨w.heap.size, 0, none⟩ = some (.string (bs a)) := HB.out.cell 0 _ rfl
  have c1 : w1.cell? ⟨w.heap.size, 1, none⟩ = some (.string (bs b)) := HB.out.cell 1 _ rfl
  have c2 : w1.cell? ⟨w.heap.size, 2, none⟩ = some (.string (bs c)) := HB.out.cell 2 _ rfl
  have c3 : w1.cell? ⟨w.heap.size, 3, none⟩ = some (.string (bs d)) := HB.out.cell 3 _ rfl
  have z1 := HB.out.lt
  go_wp2_with fail
  refine (HT.out _ (HG.out.kept HK1.out)).mono ?_
  rintro e w2 ⟨rfl, hk2⟩
  have HB2 := Lib.hid (HB.out.kept hk2)
  have HK2 := Lib.hid (HK1.out.trans hk2)
  clear hk2 c0 c1 c2 c3 z1 HB
  go_wp2_with fail
  refine (HP.out _ (HG.out.kept HK2.out)).mono ?_
  rintro e w3 ⟨rfl, hk3⟩
  have HB := Lib.hid (HB2.out.kept hk3)
  have HK3 := Lib.hid (HK2.out.trans hk3)
  clear hk3 HB2
  have c0 : w3.cell? ⟨w.heap.size, 0, none⟩ = some (.string (bs a)) := HB.out.cell 0 _ rfl
  have c1 : w3.cell? ⟨w.heap.size, 1, none⟩ = some (.string (bs b)) := HB.out.cell 1 _ rfl
  have c2 : w3.cell? ⟨w.heap.size, 2, none⟩ = some (.string (bs c)) := HB.out.cell 2 _ rfl
  have c3 : w3.cell? ⟨w.heap.size, 3, none⟩ = some (.string (bs d)) := HB.out.cell 3 _ rfl
  have z1 := HB.out.lt
  go_wp2_with fail
  refine (HL.out _ (HG.out.kept (HK3.out.trans (kept_alloc _ _)))).mono ?_
  rintro e w4 ⟨rfl, hk4⟩
  have HK4 := Lib.hid ((HK3.out.trans (kept_alloc _ _)).trans hk4)
  clear hk4 c0 c1 c2 c3 z1 HB
  go_wp2_with fail
  refine (awake_any _ (HG.out.kept (HK4.out.trans (kept_alloc _ _)))).mono ?_
  rintro e w5 ⟨rfl, hk5⟩
  have HK5 := Lib.hid ((HK4.out.trans (kept_alloc _ _)).trans hk5)
  clear hk5
  go_wp2_with fail
  go_ret
  exact ⟨rfl, HK5.out⟩

set_option maxRecDepth 100000 in
set_option maxHeartbeats 3200000 in
theorem lret_ez (q : P4) (l : Bs) (w : World) (hg : Gnd w) (hq : Fit4 q) (hf : fewB q = true) (hl : l.length ≤ 400) (ht : textE q.1 q.2.1 q.2.2.1 q.2.2.2 ≠ 0) (hn : (parseR l).1 = 0) : Calls Tryd.prog 7 #[p4V q, .string (bs l)] w fun e w' => e = .returned (.bool true) ∧ Kept w w' := by
  have HG := Lib.hid hg
  have hs4 : size4 q ≤ 100000 := by have := few_lens q hf; unfold size4; omega
  have HF := Lib.hid (fun w => few_any q w hq)
  rw [hf] at HF
  have HT := Lib.hid (fun w hg => text_no4 q ht hs4 w hg)
  have HP := Lib.hid (fun w hg => parse_any [] w hg (by simp))
  unfold ParsePost at HP
  generalize (parseR []).1 = n0 at *
  generalize (parseR []).2 = q0 at *
  generalize textE q.1 q.2.1 q.2.2.1 q.2.2.2 = et at *
  have het : (et == 0) = false := by simpa using ht
  obtain ⟨r1, r2, r3, r4⟩ := q0
  have HL := Lib.hid (fun w hg => parse_any l w hg (by omega))
  unfold ParsePost at HL
  have hpl := parse_len l
  have HX := Lib.hid (fun w hg => text_ok4 (parseR l).2 (text_parse l (parseR l).2 (by rw [← hn])) (by omega) w hg)
  have HY := Lib.hid (fun w hg => pt_ok (parseR l).2 (text_parse l (parseR l).2 (by rw [← hn])) (by omega) w hg)
  rw [hn] at HL
  generalize (parseR l).2 = x at *
  generalize textR x.1 x.2.1 x.2.2.1 x.2.2.2 = tu at *
  obtain ⟨x1, x2, x3, x4⟩ := x
  clear ht hn hf hq hg hs4 hpl
  obtain ⟨a, b, c, d⟩ := q
  go_enter Tryd.func7, Tryd.ntmps7
  go_wp2_with fail
  refine (HF.out _).mono ?_
  rintro e w1 ⟨rfl, hk1⟩
  have HB := Lib.hid ((Blk.new w 24 #[.string (bs a), .string (bs b), .string (bs c), .string (bs d)]).kept hk1)
  have HK1 := Lib.hid ((kept_alloc w _).trans hk1)
  clear hk1
  have c0 : w1.cell? ⟨w.heap.size, 0, none⟩ = some (.string (bs a)) := HB.out.cell 0 _ rfl
  have c1 : w1.cell? ⟨w.heap.size, 1, none⟩ = some (.string (bs b)) := HB.out.cell 1 _ rfl
  have c2 : w1.cell? ⟨w.heap.size, 2, none⟩ = some (.string (bs c)) := HB.out.cell 2 _ rfl
  have c3 : w1.cell? ⟨w.heap.size, 3, none⟩ = some (.string (bs d)) := HB.out.cell 3 _ rfl
  have z1 := HB.out.lt
  go_wp2_with fail
  refine (HT.out _ (HG.out.kept HK1.out)).mono ?_
  rintro e w2 ⟨rfl, hk2⟩
  have HB2 := Lib.hid (HB.out.kept hk2)
  have HK2 := Lib.hid (HK1.out.trans hk2)
  clear hk2 c0 c1 c2 c3 z1 HB
  go_wp2_with fail
  refine (HP.out _ (HG.out.kept HK2.out)).mono ?_
  rintro e w3 ⟨rfl, hk3⟩
  have HB := Lib.hid (HB2.out.kept hk3)
  have HK3 := Lib.hid (HK2.out.trans hk3)
  clear hk3 HB2
  have c0 : w3.cell? ⟨w.heap.size, 0, none⟩ = some (.string (bs a)) := HB.out.cell 0 _ rfl
  have c1 : w3.cell? ⟨w.heap.size, 1, none⟩ = some (.string (bs b)) := HB.out.cell 1 _ rfl
  have c2 : w3.cell? ⟨w.heap.size, 2, none⟩ = some (.string (bs c)) := HB.out.cell 2 _ rfl
  have c3 : w3.cell? ⟨w.heap.size, 3, none⟩ = some (.string (bs d)) := HB.out.cell 3 _ rfl
  have z1 := HB.out.lt
  go_wp2_with fail
  refine (HL.out _ (HG.out.kept (HK3.out.trans (kept_alloc _ _)))).mono ?_
  rintro e w4 ⟨rfl, hk4⟩
  have HK4 := Lib.hid ((HK3.out.trans (kept_alloc _ _)).trans hk4)
  clear hk4 c0 c1 c2 c3 z1 HB
  go_wp2_with fail
  refine (HX.out _ (HG.out.kept (HK4.out.trans (kept_alloc _ _)))).mono ?_
  rintro e w5 ⟨rfl, hk5⟩
  have HB := Lib.hid ((Blk.new w4 24 #[.string (bs x1), .string (bs x2), .string (bs x3), .string (bs x4)]).kept hk5)
  have HK5 := Lib.hid ((HK4.out.trans (kept_alloc _ _)).trans hk5)
  clear hk5
  go_wp2_with fail
  refine (HY.out _ (HG.out.kept HK5.out)).mono ?_
  rintro e w6 ⟨rfl, hk6⟩
  have HB2 := Lib.hid (HB.out.kept hk6)
  have HK6 := Lib.hid (HK5.out.trans hk6)
  clear hk6 HB
  have c0 : w6.cell? ⟨w4.heap.size, 0, none⟩ = some (.string (bs x1)) := HB2.out.cell 0 _ rfl
  have c1 : w6.cell? ⟨w4.heap.size, 1, none⟩ = some (.string (bs x2)) := HB2.out.cell 1 _ rfl
  have c2 : w6.cell? ⟨w4.heap.size, 2, none⟩ = some (.string (bs x3)) := HB2.out.cell 2 _ rfl
  have c3 : w6.cell? ⟨w4.heap.size, 3, none⟩ = some (.string (bs x4)) := HB2.out.cell 3 _ rfl
  have z1 := HB2.out.lt
  go_wp2_with fail
  refine (awake_any _ (HG.out.kept (HK6.out.trans (kept_alloc _ _)))).mono ?_
  rintro e w7 ⟨rfl, hk7⟩
  have HK7 := Lib.hid ((HK6.out.trans (kept_alloc _ _)).trans hk7)
  clear hk7
  go_wp2_with fail
  go_ret
  exact ⟨rfl, HK7.out⟩

set_option maxRecDepth 100000 in
set_option maxHeartbeats 3200000 in
theorem lret_en (q : P4) (l : Bs) (w : World) (hg : Gnd w) (hq : Fit4 q) (hf : fewB q = true) (hl : l.length ≤ 400) (ht : textE q.1 q.2.1 q.2.2.1 q.2.2.2 ≠ 0) (hn : (parseR l).1 ≠ 0) : Calls Tryd.prog 7 #[p4V q, .string (bs l)] w fun e w' => e = .returned (.bool true) ∧ Kept w w' := by
  have HG := Lib.hid hg
  have hs4 : size4 q ≤ 100000 := by have := few_lens q hf; unfold size4; omega
  have HF := Lib.hid (fun w => few_any q w hq)
  rw [hf] at HF
  have HT := Lib.hid (fun w hg => text_no4 q ht hs4 w hg)
  have HP := Lib.hid (fun w hg => parse_any [] w hg (by simp))
  unfold ParsePost at HP
  generalize (parseR []).1 = n0 at *
  generalize (parseR []).2 = q0 at *
  generalize textE q.1 q.2.1 q.2.2.1 q.2.2.2 = et at *
  have het : (et == 0) = false := by simpa using ht
  obtain ⟨r1, r2, r3, r4⟩ := q0
  have HL := Lib.hid (fun w hg => parse_any l w hg (by omega))
  unfold ParsePost at HL
  have hpl := parse_len l
  rw [parse_zero l hn] at HL
  generalize (parseR l).1 = n at *
  have hn1 : (n != 0) = true := by simpa using hn
  have hn2 : (n == 0) = false := by simpa using hn
  clear ht hn hf hq hg hs4 hpl
  obtain ⟨a, b, c, d⟩ := q
  go_enter Tryd.func7, Tryd.ntmps7
  go_wp2_with fail
  refine (HF.out _).mono ?_
  rintro e w1 ⟨rfl, hk1⟩
  have HB := Lib.hid ((Blk.new w 24 #[.string (bs a), .string (bs b), .string (bs c), .string (bs d)]).kept hk1)
  have HK1 := Lib.hid ((kept_alloc w _).trans hk1)
  clear hk1
  have c0 : w1.cell? ⟨w.heap.size, 0, none⟩ = some (.string (bs a)) := HB.out.cell 0 _ rfl
  have c1 : w1.cell? ⟨w.heap.size, 1, none⟩ = some (.string (bs b)) := HB.out.cell 1 _ rfl
  have c2 : w1.cell? ⟨w.heap.size, 2, none⟩ = some (.string (bs c)) := HB.out.cell 2 _ rfl
  have c3 : w1.cell? ⟨w.heap.size, 3, none⟩ = some (.string (bs d)) := HB.out.cell 3 _ rfl
  have z1 := HB.out.lt
  go_wp2_with fail
  refine (HT.out _ (HG.out.kept HK1.out)).mono ?_
  rintro e w2 ⟨rfl, hk2⟩
  have HB2 := Lib.hid (HB.out.kept hk2)
  have HK2 := Lib.hid (HK1.out.trans hk2)
  clear hk2 c0 c1 c2 c3 z1 HB
  go_wp2_with fail
  refine (HP.out _ (HG.out.kept HK2.out)).mono ?_
  rintro e w3 ⟨rfl, hk3⟩
  have HB := Lib.hid (HB2.out.kept hk3)
  have HK3 := Lib.hid (HK2.out.trans hk3)
  clear hk3 HB2
  have c0 : w3.cell? ⟨w.heap.size, 0, none⟩ = some (.string (bs a)) := HB.out.cell 0 _ rfl
  have c1 : w3.cell? ⟨w.heap.size, 1, none⟩ = some (.string (bs b)) := HB.out.cell 1 _ rfl
  have c2 : w3.cell? ⟨w.heap.size, 2, none⟩ = some (.string (bs c)) := HB.out.cell 2 _ rfl
  have c3 : w3.cell? ⟨w.heap.size, 3, none⟩ = some (.string (bs d)) := HB.out.cell 3 _ rfl
  have z1 := HB.out.lt
  go_wp2_with fail
  refine (HL.out _ (HG.out.kept (HK3.out.trans (kept_alloc _ _)))).mono ?_
  rintro e w4 ⟨rfl, hk4⟩
  have HK4 := Lib.hid ((HK3.out.trans (kept_alloc _ _)).trans hk4)
  clear hk4 c0 c1 c2 c3 z1 HB
  go_wp2_with fail
  refine (awake_any _ (HG.out.kept (HK4.out.trans (kept_alloc _ _)))).mono ?_
  rintro e w5 ⟨rfl, hk5⟩
  have HK5 := Lib.hid ((HK4.out.trans (kept_alloc _ _)).trans hk5)
  clear hk5
  go_wp2_with fail
  go_ret
  exact ⟨rfl, HK5.out⟩

set_option maxRecDepth 100000 in
set_option maxHeartbeats 3200000 in
theorem lret_awake (q : P4) (l : Bs) (w : World) (hg : Gnd w) (hq : Fit4 q) (hll : l.length ≤ maxLen) (h : fewB q = false ∨ ¬ l.length ≤ 400) : Calls Tryd.prog 7 #[p4V q, .string (bs l)] w fun e w' => e = .returned (.bool true) ∧ Kept w w' := by
  unfold maxLen at hll
  have HG := Lib.hid hg
  have HF := Lib.hid (fun w => few_any q w hq)
  clear hq
  cases hb : fewB q
  · rw [hb] at HF
    clear h hb
    obtain ⟨a, b, c, d⟩ := q
    go_enter Tryd.func7, Tryd.ntmps7
    go_wp2_with fail
    refine (HF.out _).mono ?_
    rintro e w1 ⟨rfl, hk1⟩
    have HK1 := Lib.hid ((kept_alloc w _).trans hk1)
    clear hk1
    go_wp2_with fail
    refine (awake_any _ (HG.out.kept HK1.out)).mono ?_
    rintro e w2 ⟨rfl, hk2⟩
    have HK2 := Lib.hid (HK1.out.trans hk2)
    clear hk2
    go_wp2_with fail
    go_ret
    exact ⟨rfl, HK2.out⟩
  · rw [hb] at HF h
    have h4 : 400 < l.length := by rcases h with h | h; cases h; omega
    clear h hb
    obtain ⟨a, b, c, d⟩ := q
    go_enter Tryd.func7, Tryd.ntmps7
    go_wp2_with fail
    refine (HF.out _).mono ?_
    rintro e w1 ⟨rfl, hk1⟩
    have HK1 := Lib.hid ((kept_alloc w _).trans hk1)
    clear hk1
    go_wp2_with fail
    refine (awake_any _ (HG.out.kept HK1.out)).mono ?_
    rintro e w2 ⟨rfl, hk2⟩
    have HK2 := Lib.hid (HK1.out.trans hk2)
    clear hk2
    go_wp2_with fail
    go_ret
    exact ⟨rfl, HK2.out⟩

theorem lreturns_any (q : P4) (l : Bs) (w : World) (hg : Gnd w) (hq : Fit4 q) (hll : l.length ≤ maxLen) : Calls Tryd.prog 7 #[p4V q, .string (bs l)] w fun e w' => e = .returned (.bool true) ∧ Kept w w' := by
  cases hf : fewB q
  · exact lret_awake q l w hg hq hll (.inl hf)
  by_cases hl : l.length ≤ 400
  · by_cases ht : textE q.1 q.2.1 q.2.2.1 q.2.2.2 = 0 <;> by_cases hn : (parseR l).1 = 0
    · exact lret_oz q l w hg hq hf hl ht hn
    · exact lret_on q l w hg hq hf hl ht hn
    · exact lret_ez q l w hg hq hf hl ht hn
    · exact lret_en q l w hg hq hf hl ht hn
  · exact lret_awake q l w hg hq hll (.inr hl)
end Go.Proofs.YtflpkadknljpbaaDoor
