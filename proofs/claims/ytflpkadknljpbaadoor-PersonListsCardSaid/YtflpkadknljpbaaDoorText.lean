/- Text of package person and of its reference. Conditions: lengths. -/
import Derived.Test.YtflpkadknljpbaaDoorPart
set_option linter.all false
namespace Go.Proofs.YtflpkadknljpbaaDoor
open Go.RowKit

/-- The text of a person. -/
def textS (f g p s : Bs) : Bs :=
  (if p = [] then f else [123] ++ p ++ [125, 32] ++ f) ++
  (if s = [] then (if g = [] then [] else [44, 32] ++ g) else [44, 32] ++ s ++ [44] ++ (if g = [] then [] else [32] ++ g))
/-- The error of a person's text. -/
def textE (f g p s : Bs) : Int := if f = [] then 8 else if partB f && partB g && partB p && partB s then 0 else 17
def textR (f g p s : Bs) : Bs := if textE f g p s = 0 then textS f g p s else []

set_option maxRecDepth 100000 in
set_option maxHeartbeats 1600000 in
theorem text_bad0 (f g p s : Bs) (w : World) (hg : Gnd w) (hf : ¬ f = [])  (hn : partB f = false) (hs : f.length + g.length + p.length + s.length ≤ 10000000) :
    Calls Tryd.prog 16 #[persV f g p s] w fun e w' => e = .returned (.tuple #[.string (bs []), .int .i64 17]) ∧ Kept w w' := by
  have hfe : f.isEmpty = false := by simpa using hf
  go_enter Tryd.func16, Tryd.ntmps16
  go_wp2_with fail
  refine (part_any f _ (hg.kept (kept_alloc _ _)) (by omega)).mono ?_
  rintro e w1 ⟨rfl, hk0⟩
  rw [hn]
  have HK0 := Lib.hid hk0
  obtain ⟨kc, kf⟩ := keep_cell HK0.out
  have hz : w.heap.size < w1.heap.size := by have := HK0.out.size; simp at this; omega
  have HK := Lib.hid ((kept_alloc w _).trans HK0.out)
  have HG := Lib.hid (hg.kept HK.out)
  clear hk0
  go_wp2_with fail
  go_ret2
  exact ⟨rfl, HK.out⟩

set_option maxRecDepth 100000 in
set_option maxHeartbeats 1600000 in
theorem text_bad1 (f g p s : Bs) (w : World) (hg : Gnd w) (hf : ¬ f = []) (y0 : partB f = true) (hn : partB g = false) (hs : f.length + g.length + p.length + s.length ≤ 10000000) :
    Calls Tryd.prog 16 #[persV f g p s] w fun e w' => e = .returned (.tuple #[.string (bs []), .int .i64 17]) ∧ Kept w w' := by
  have hfe : f.isEmpty = false := by simpa using hf
  go_enter Tryd.func16, Tryd.ntmps16
  go_wp2_with fail
  refine (part_any f _ (hg.kept (kept_alloc _ _)) (by omega)).mono ?_
  rintro e w1 ⟨rfl, hk0⟩
  rw [y0]
  have HK0 := Lib.hid hk0
  obtain ⟨kc, kf⟩ := keep_cell HK0.out
  have hz : w.heap.size < w1.heap.size := by have := HK0.out.size; simp at this; omega
  have HK := Lib.hid ((kept_alloc w _).trans HK0.out)
  have HG := Lib.hid (hg.kept HK.out)
  clear hk0
  go_wp2_with fail
  refine (part_any g _ HG.out (by omega)).mono ?_
  rintro e w2 ⟨rfl, hk1⟩
  rw [hn]
  have HK1 := Lib.hid (HK0.out.trans hk1)
  clear kc kf hz HK HK0 HG
  obtain ⟨kc, kf⟩ := keep_cell HK1.out
  have hz : w.heap.size < w2.heap.size := by have := HK1.out.size; simp at this; omega
  have HK := Lib.hid ((kept_alloc w _).trans HK1.out)
  have HG := Lib.hid (hg.kept HK.out)
  clear hk1
  go_wp2_with fail
  go_ret2
  exact ⟨rfl, HK.out⟩

set_option maxRecDepth 100000 in
set_option maxHeartbeats 1600000 in
theorem text_bad2 (f g p s : Bs) (w : World) (hg : Gnd w) (hf : ¬ f = []) (y0 : partB f = true) (y1 : partB g = true) (hn : partB p = false) (hs : f.length + g.length + p.length + s.length ≤ 10000000) :
    Calls Tryd.prog 16 #[persV f g p s] w fun e w' => e = .returned (.tuple #[.string (bs []), .int .i64 17]) ∧ Kept w w' := by
  have hfe : f.isEmpty = false := by simpa using hf
  go_enter Tryd.func16, Tryd.ntmps16
  go_wp2_with fail
  refine (part_any f _ (hg.kept (kept_alloc _ _)) (by omega)).mono ?_
  rintro e w1 ⟨rfl, hk0⟩
  rw [y0]
  have HK0 := Lib.hid hk0
  obtain ⟨kc, kf⟩ := keep_cell HK0.out
  have hz : w.heap.size < w1.heap.size := by have := HK0.out.size; simp at this; omega
  have HK := Lib.hid ((kept_alloc w _).trans HK0.out)
  have HG := Lib.hid (hg.kept HK.out)
  clear hk0
  go_wp2_with fail
  refine (part_any g _ HG.out (by omega)).mono ?_
  rintro e w2 ⟨rfl, hk1⟩
  rw [y1]
  have HK1 := Lib.hid (HK0.out.trans hk1)
  clear kc kf hz HK HK0 HG
  obtain ⟨kc, kf⟩ := keep_cell HK1.out
  have hz : w.heap.size < w2.heap.size := by have := HK1.out.size; simp at this; omega
  have HK := Lib.hid ((kept_alloc w _).trans HK1.out)
  have HG := Lib.hid (hg.kept HK.out)
  clear hk1
  go_wp2_with fail
  refine (part_any p _ HG.out (by omega)).mono ?_
  rintro e w3 ⟨rfl, hk2⟩
  rw [hn]
  have HK2 := Lib.hid (HK1.out.trans hk2)
  clear kc kf hz HK HK1 HG
  obtain ⟨kc, kf⟩ := keep_cell HK2.out
  have hz : w.heap.size < w3.heap.size := by have := HK2.out.size; simp at this; omega
  have HK := Lib.hid ((kept_alloc w _).trans HK2.out)
  have HG := Lib.hid (hg.kept HK.out)
  clear hk2
  go_wp2_with fail
  go_ret2
  exact ⟨rfl, HK.out⟩

set_option maxRecDepth 100000 in
set_option maxHeartbeats 1600000 in
theorem text_bad3 (f g p s : Bs) (w : World) (hg : Gnd w) (hf : ¬ f = []) (y0 : partB f = true) (y1 : partB g = true) (y2 : partB p = true) (hn : partB s = false) (hs : f.length + g.length + p.length + s.length ≤ 10000000) :
    Calls Tryd.prog 16 #[persV f g p s] w fun e w' => e = .returned (.tuple #[.string (bs []), .int .i64 17]) ∧ Kept w w' := by
  have hfe : f.isEmpty = false := by simpa using hf
  go_enter Tryd.func16, Tryd.ntmps16
  go_wp2_with fail
  refine (part_any f _ (hg.kept (kept_alloc _ _)) (by omega)).mono ?_
  rintro e w1 ⟨rfl, hk0⟩
  rw [y0]
  have HK0 := Lib.hid hk0
  obtain ⟨kc, kf⟩ := keep_cell HK0.out
  have hz : w.heap.size < w1.heap.size := by have := HK0.out.size; simp at this; omega
  have HK := Lib.hid ((kept_alloc w _).trans HK0.out)
  have HG := Lib.hid (hg.kept HK.out)
  clear hk0
  go_wp2_with fail
  refine (part_any g _ HG.out (by omega)).mono ?_
  rintro e w2 ⟨rfl, hk1⟩
  rw [y1]
  have HK1 := Lib.hid (HK0.out.trans hk1)
  clear kc kf hz HK HK0 HG
  obtain ⟨kc, kf⟩ := keep_cell HK1.out
  have hz : w.heap.size < w2.heap.size := by have := HK1.out.size; simp at this; omega
  have HK := Lib.hid ((kept_alloc w _).trans HK1.out)
  have HG := Lib.hid (hg.kept HK.out)
  clear hk1
  go_wp2_with fail
  refine (part_any p _ HG.out (by omega)).mono ?_
  rintro e w3 ⟨rfl, hk2⟩
  rw [y2]
  have HK2 := Lib.hid (HK1.out.trans hk2)
  clear kc kf hz HK HK1 HG
  obtain ⟨kc, kf⟩ := keep_cell HK2.out
  have hz : w.heap.size < w3.heap.size := by have := HK2.out.size; simp at this; omega
  have HK := Lib.hid ((kept_alloc w _).trans HK2.out)
  have HG := Lib.hid (hg.kept HK.out)
  clear hk2
  go_wp2_with fail
  refine (part_any s _ HG.out (by omega)).mono ?_
  rintro e w4 ⟨rfl, hk3⟩
  rw [hn]
  have HK3 := Lib.hid (HK2.out.trans hk3)
  clear kc kf hz HK HK2 HG
  obtain ⟨kc, kf⟩ := keep_cell HK3.out
  have hz : w.heap.size < w4.heap.size := by have := HK3.out.size; simp at this; omega
  have HK := Lib.hid ((kept_alloc w _).trans HK3.out)
  have HG := Lib.hid (hg.kept HK.out)
  clear hk3
  go_wp2_with fail
  go_ret2
  exact ⟨rfl, HK.out⟩

set_option maxRecDepth 100000 in
set_option maxHeartbeats 3200000 in
theorem text_ok (f g p s : Bs) (w : World) (hg : Gnd w) (hf : ¬ f = []) (y0 : partB f = true) (y1 : partB g = true) (y2 : partB p = true) (y3 : partB s = true) (hs : f.length + g.length + p.length + s.length ≤ 10000000) :
    Calls Tryd.prog 16 #[persV f g p s] w fun e w' => e = .returned (.tuple #[.string (bs (textS f g p s)), .int .i64 0]) ∧ Kept w w' := by
  have hfe : f.isEmpty = false := by simpa using hf
  go_enter Tryd.func16, Tryd.ntmps16
  go_wp2_with fail
  refine (part_any f _ (hg.kept (kept_alloc _ _)) (by omega)).mono ?_
  rintro e w1 ⟨rfl, hk0⟩
  rw [y0]
  have HK0 := Lib.hid hk0
  obtain ⟨kc, kf⟩ := keep_cell HK0.out
  have hz : w.heap.size < w1.heap.size := by have := HK0.out.size; simp at this; omega
  have HK := Lib.hid ((kept_alloc w _).trans HK0.out)
  have HG := Lib.hid (hg.kept HK.out)
  clear hk0
  go_wp2_with fail
  refine (part_any g _ HG.out (by omega)).mono ?_
  rintro e w2 ⟨rfl, hk1⟩
  rw [y1]
  have HK1 := Lib.hid (HK0.out.trans hk1)
  clear kc kf hz HK HK0 HG
  obtain ⟨kc, kf⟩ := keep_cell HK1.out
  have hz : w.heap.size < w2.heap.size := by have := HK1.out.size; simp at this; omega
  have HK := Lib.hid ((kept_alloc w _).trans HK1.out)
  have HG := Lib.hid (hg.kept HK.out)
  clear hk1
  go_wp2_with fail
  refine (part_any p _ HG.out (by omega)).mono ?_
  rintro e w3 ⟨rfl, hk2⟩
  rw [y2]
  have HK2 := Lib.hid (HK1.out.trans hk2)
  clear kc kf hz HK HK1 HG
  obtain ⟨kc, kf⟩ := keep_cell HK2.out
  have hz : w.heap.size < w3.heap.size := by have := HK2.out.size; simp at this; omega
  have HK := Lib.hid ((kept_alloc w _).trans HK2.out)
  have HG := Lib.hid (hg.kept HK.out)
  clear hk2
  go_wp2_with fail
  refine (part_any s _ HG.out (by omega)).mono ?_
  rintro e w4 ⟨rfl, hk3⟩
  rw [y3]
  have HK3 := Lib.hid (HK2.out.trans hk3)
  clear kc kf hz HK HK2 HG
  obtain ⟨kc, kf⟩ := keep_cell HK3.out
  have hz : w.heap.size < w4.heap.size := by have := HK3.out.size; simp at this; omega
  have HK := Lib.hid ((kept_alloc w _).trans HK3.out)
  have HG := Lib.hid (hg.kept HK.out)
  clear hk3
  by_cases hp : p = [] <;> by_cases hs' : s = [] <;> by_cases hg' : g = []
  all_goals
    first | subst hp | (have hpe : p.isEmpty = false := by simpa using hp)
    first | subst hs' | (have hse : s.isEmpty = false := by simpa using hs')
    first | subst hg' | (have hge : g.isEmpty = false := by simpa using hg')
    try simp only [List.length_nil, Nat.add_zero, Nat.zero_add] at hs
    go_wp2_with fail
    go_ret2
    refine ⟨?_, HK.out⟩
    refine congrArg (fun x => Ending.returned (.tuple #[.string (bs x), .int .i64 0])) ?_
    simp [textS, *]

set_option maxRecDepth 100000 in
theorem text_any (f g p s : Bs) (w : World) (hg : Gnd w) (hs : f.length + g.length + p.length + s.length ≤ 10000000) :
    Calls Tryd.prog 16 #[persV f g p s] w fun e w' => e = .returned (.tuple #[.string (bs (textR f g p s)), .int .i64 (textE f g p s)]) ∧ Kept w w' := by
  by_cases hf : f = []
  · have e1 : textE f g p s = 8 := by unfold textE; rw [if_pos hf]
    have e2 : textR f g p s = [] := by unfold textR; rw [e1]; rfl
    rw [e1, e2]
    clear e1 e2
    subst hf
    go_enter Tryd.func16, Tryd.ntmps16
    go_wp2_with fail
    go_ret2
    exact ⟨rfl, kept_alloc _ _⟩
  have hb : ∀ q : Bool, (partB f && partB g && partB p && partB s) = q → textE f g p s = if q then 0 else 17 := by
    intro q h; unfold textE; rw [if_neg hf, h]
  have hr : textE f g p s = 17 → textR f g p s = [] := by intro h; unfold textR; rw [h]; rfl
  cases h0 : partB f
  · have e := hb false (by rw [h0]; rfl); rw [if_neg (by decide)] at e; rw [e, hr e]
    exact text_bad0 f g p s w hg hf h0 hs
  cases h1 : partB g
  · have e := hb false (by rw [h0, h1]; rfl); rw [if_neg (by decide)] at e; rw [e, hr e]
    exact text_bad1 f g p s w hg hf h0 h1 hs
  cases h2 : partB p
  · have e := hb false (by rw [h0, h1, h2]; rfl); rw [if_neg (by decide)] at e; rw [e, hr e]
    exact text_bad2 f g p s w hg hf h0 h1 h2 hs
  cases h3 : partB s
  · have e := hb false (by rw [h0, h1, h2, h3]; rfl); rw [if_neg (by decide)] at e; rw [e, hr e]
    exact text_bad3 f g p s w hg hf h0 h1 h2 h3 hs
  · have e := hb true (by rw [h0, h1, h2, h3]; rfl); rw [if_pos rfl] at e
    have e2 : textR f g p s = textS f g p s := by unfold textR; rw [e]; rfl
    rw [e, e2]
    exact text_ok f g p s w hg hf h0 h1 h2 h3 hs

set_option maxRecDepth 100000 in
set_option maxHeartbeats 1600000 in
theorem rtext_bad0 (f g p s : Bs) (w : World) (hf : ¬ f = [])  (hn : partB f = false) (hs : f.length + g.length + p.length + s.length ≤ 10000000) :
    Calls Tryd.prog 17 #[persV f g p s] w fun e w' => e = .returned (.tuple #[.string (bs []), .int .i64 17]) ∧ Kept w w' := by
  have hfe : f.isEmpty = false := by simpa using hf
  go_enter Tryd.func17, Tryd.ntmps17
  go_wp2_with fail
  refine (rpart_any f _ (by omega)).mono ?_
  rintro e w1 ⟨rfl, hk0⟩
  rw [hn]
  have HK0 := Lib.hid hk0
  obtain ⟨kc, kf⟩ := keep_cell HK0.out
  have hz : w.heap.size < w1.heap.size := by have := HK0.out.size; simp at this; omega
  have HK := Lib.hid ((kept_alloc w _).trans HK0.out)
  clear hk0
  go_wp2_with fail
  go_ret2
  exact ⟨rfl, HK.out⟩

set_option maxRecDepth 100000 in
set_option maxHeartbeats 1600000 in
theorem rtext_bad1 (f g p s : Bs) (w : World) (hf : ¬ f = []) (y0 : partB f = true) (hn : partB g = false) (hs : f.length + g.length + p.length + s.length ≤ 10000000) :
    Calls Tryd.prog 17 #[persV f g p s] w fun e w' => e = .returned (.tuple #[.string (bs []), .int .i64 17]) ∧ Kept w w' := by
  have hfe : f.isEmpty = false := by simpa using hf
  go_enter Tryd.func17, Tryd.ntmps17
  go_wp2_with fail
  refine (rpart_any f _ (by omega)).mono ?_
  rintro e w1 ⟨rfl, hk0⟩
  rw [y0]
  have HK0 := Lib.hid hk0
  obtain ⟨kc, kf⟩ := keep_cell HK0.out
  have hz : w.heap.size < w1.heap.size := by have := HK0.out.size; simp at this; omega
  have HK := Lib.hid ((kept_alloc w _).trans HK0.out)
  clear hk0
  go_wp2_with fail
  refine (rpart_any g _ (by omega)).mono ?_
  rintro e w2 ⟨rfl, hk1⟩
  rw [hn]
  have HK1 := Lib.hid (HK0.out.trans hk1)
  clear kc kf hz HK HK0
  obtain ⟨kc, kf⟩ := keep_cell HK1.out
  have hz : w.heap.size < w2.heap.size := by have := HK1.out.size; simp at this; omega
  have HK := Lib.hid ((kept_alloc w _).trans HK1.out)
  clear hk1
  go_wp2_with fail
  go_ret2
  exact ⟨rfl, HK.out⟩

set_option maxRecDepth 100000 in
set_option maxHeartbeats 1600000 in
theorem rtext_bad2 (f g p s : Bs) (w : World) (hf : ¬ f = []) (y0 : partB f = true) (y1 : partB g = true) (hn : partB p = false) (hs : f.length + g.length + p.length + s.length ≤ 10000000) :
    Calls Tryd.prog 17 #[persV f g p s] w fun e w' => e = .returned (.tuple #[.string (bs []), .int .i64 17]) ∧ Kept w w' := by
  have hfe : f.isEmpty = false := by simpa using hf
  go_enter Tryd.func17, Tryd.ntmps17
  go_wp2_with fail
  refine (rpart_any f _ (by omega)).mono ?_
  rintro e w1 ⟨rfl, hk0⟩
  rw [y0]
  have HK0 := Lib.hid hk0
  obtain ⟨kc, kf⟩ := keep_cell HK0.out
  have hz : w.heap.size < w1.heap.size := by have := HK0.out.size; simp at this; omega
  have HK := Lib.hid ((kept_alloc w _).trans HK0.out)
  clear hk0
  go_wp2_with fail
  refine (rpart_any g _ (by omega)).mono ?_
  rintro e w2 ⟨rfl, hk1⟩
  rw [y1]
  have HK1 := Lib.hid (HK0.out.trans hk1)
  clear kc kf hz HK HK0
  obtain ⟨kc, kf⟩ := keep_cell HK1.out
  have hz : w.heap.size < w2.heap.size := by have := HK1.out.size; simp at this; omega
  have HK := Lib.hid ((kept_alloc w _).trans HK1.out)
  clear hk1
  go_wp2_with fail
  refine (rpart_any p _ (by omega)).mono ?_
  rintro e w3 ⟨rfl, hk2⟩
  rw [hn]
  have HK2 := Lib.hid (HK1.out.trans hk2)
  clear kc kf hz HK HK1
  obtain ⟨kc, kf⟩ := keep_cell HK2.out
  have hz : w.heap.size < w3.heap.size := by have := HK2.out.size; simp at this; omega
  have HK := Lib.hid ((kept_alloc w _).trans HK2.out)
  clear hk2
  go_wp2_with fail
  go_ret2
  exact ⟨rfl, HK.out⟩

set_option maxRecDepth 100000 in
set_option maxHeartbeats 1600000 in
theorem rtext_bad3 (f g p s : Bs) (w : World) (hf : ¬ f = []) (y0 : partB f = true) (y1 : partB g = true) (y2 : partB p = true) (hn : partB s = false) (hs : f.length + g.length + p.length + s.length ≤ 10000000) :
    Calls Tryd.prog 17 #[persV f g p s] w fun e w' => e = .returned (.tuple #[.string (bs []), .int .i64 17]) ∧ Kept w w' := by
  have hfe : f.isEmpty = false := by simpa using hf
  go_enter Tryd.func17, Tryd.ntmps17
  go_wp2_with fail
  refine (rpart_any f _ (by omega)).mono ?_
  rintro e w1 ⟨rfl, hk0⟩
  rw [y0]
  have HK0 := Lib.hid hk0
  obtain ⟨kc, kf⟩ := keep_cell HK0.out
  have hz : w.heap.size < w1.heap.size := by have := HK0.out.size; simp at this; omega
  have HK := Lib.hid ((kept_alloc w _).trans HK0.out)
  clear hk0
  go_wp2_with fail
  refine (rpart_any g _ (by omega)).mono ?_
  rintro e w2 ⟨rfl, hk1⟩
  rw [y1]
  have HK1 := Lib.hid (HK0.out.trans hk1)
  clear kc kf hz HK HK0
  obtain ⟨kc, kf⟩ := keep_cell HK1.out
  have hz : w.heap.size < w2.heap.size := by have := HK1.out.size; simp at this; omega
  have HK := Lib.hid ((kept_alloc w _).trans HK1.out)
  clear hk1
  go_wp2_with fail
  refine (rpart_any p _ (by omega)).mono ?_
  rintro e w3 ⟨rfl, hk2⟩
  rw [y2]
  have HK2 := Lib.hid (HK1.out.trans hk2)
  clear kc kf hz HK HK1
  obtain ⟨kc, kf⟩ := keep_cell HK2.out
  have hz : w.heap.size < w3.heap.size := by have := HK2.out.size; simp at this; omega
  have HK := Lib.hid ((kept_alloc w _).trans HK2.out)
  clear hk2
  go_wp2_with fail
  refine (rpart_any s _ (by omega)).mono ?_
  rintro e w4 ⟨rfl, hk3⟩
  rw [hn]
  have HK3 := Lib.hid (HK2.out.trans hk3)
  clear kc kf hz HK HK2
  obtain ⟨kc, kf⟩ := keep_cell HK3.out
  have hz : w.heap.size < w4.heap.size := by have := HK3.out.size; simp at this; omega
  have HK := Lib.hid ((kept_alloc w _).trans HK3.out)
  clear hk3
  go_wp2_with fail
  go_ret2
  exact ⟨rfl, HK.out⟩

set_option maxRecDepth 100000 in
set_option maxHeartbeats 3200000 in
theorem rtext_ok (f g p s : Bs) (w : World) (hf : ¬ f = []) (y0 : partB f = true) (y1 : partB g = true) (y2 : partB p = true) (y3 : partB s = true) (hs : f.length + g.length + p.length + s.length ≤ 10000000) :
    Calls Tryd.prog 17 #[persV f g p s] w fun e w' => e = .returned (.tuple #[.string (bs (textS f g p s)), .int .i64 0]) ∧ Kept w w' := by
  have hfe : f.isEmpty = false := by simpa using hf
  go_enter Tryd.func17, Tryd.ntmps17
  go_wp2_with fail
  refine (rpart_any f _ (by omega)).mono ?_
  rintro e w1 ⟨rfl, hk0⟩
  rw [y0]
  have HK0 := Lib.hid hk0
  obtain ⟨kc, kf⟩ := keep_cell HK0.out
  have hz : w.heap.size < w1.heap.size := by have := HK0.out.size; simp at this; omega
  have HK := Lib.hid ((kept_alloc w _).trans HK0.out)
  clear hk0
  go_wp2_with fail
  refine (rpart_any g _ (by omega)).mono ?_
  rintro e w2 ⟨rfl, hk1⟩
  rw [y1]
  have HK1 := Lib.hid (HK0.out.trans hk1)
  clear kc kf hz HK HK0
  obtain ⟨kc, kf⟩ := keep_cell HK1.out
  have hz : w.heap.size < w2.heap.size := by have := HK1.out.size; simp at this; omega
  have HK := Lib.hid ((kept_alloc w _).trans HK1.out)
  clear hk1
  go_wp2_with fail
  refine (rpart_any p _ (by omega)).mono ?_
  rintro e w3 ⟨rfl, hk2⟩
  rw [y2]
  have HK2 := Lib.hid (HK1.out.trans hk2)
  clear kc kf hz HK HK1
  obtain ⟨kc, kf⟩ := keep_cell HK2.out
  have hz : w.heap.size < w3.heap.size := by have := HK2.out.size; simp at this; omega
  have HK := Lib.hid ((kept_alloc w _).trans HK2.out)
  clear hk2
  go_wp2_with fail
  refine (rpart_any s _ (by omega)).mono ?_
  rintro e w4 ⟨rfl, hk3⟩
  rw [y3]
  have HK3 := Lib.hid (HK2.out.trans hk3)
  clear kc kf hz HK HK2
  obtain ⟨kc, kf⟩ := keep_cell HK3.out
  have hz : w.heap.size < w4.heap.size := by have := HK3.out.size; simp at this; omega
  have HK := Lib.hid ((kept_alloc w _).trans HK3.out)
  clear hk3
  by_cases hp : p = [] <;> by_cases hs' : s = [] <;> by_cases hg' : g = []
  all_goals
    first | subst hp | (have hpe : p.isEmpty = false := by simpa using hp)
    first | subst hs' | (have hse : s.isEmpty = false := by simpa using hs')
    first | subst hg' | (have hge : g.isEmpty = false := by simpa using hg')
    try simp only [List.length_nil, Nat.add_zero, Nat.zero_add] at hs
    go_wp2_with fail
    go_ret2
    refine ⟨?_, HK.out⟩
    refine congrArg (fun x => Ending.returned (.tuple #[.string (bs x), .int .i64 0])) ?_
    simp [textS, *]

set_option maxRecDepth 100000 in
theorem rtext_any (f g p s : Bs) (w : World) (hs : f.length + g.length + p.length + s.length ≤ 10000000) :
    Calls Tryd.prog 17 #[persV f g p s] w fun e w' => e = .returned (.tuple #[.string (bs (textR f g p s)), .int .i64 (textE f g p s)]) ∧ Kept w w' := by
  by_cases hf : f = []
  · have e1 : textE f g p s = 8 := by unfold textE; rw [if_pos hf]
    have e2 : textR f g p s = [] := by unfold textR; rw [e1]; rfl
    rw [e1, e2]
    clear e1 e2
    subst hf
    go_enter Tryd.func17, Tryd.ntmps17
    go_wp2_with fail
    go_ret2
    exact ⟨rfl, kept_alloc _ _⟩
  have hb : ∀ q : Bool, (partB f && partB g && partB p && partB s) = q → textE f g p s = if q then 0 else 17 := by
    intro q h; unfold textE; rw [if_neg hf, h]
  have hr : textE f g p s = 17 → textR f g p s = [] := by intro h; unfold textR; rw [h]; rfl
  cases h0 : partB f
  · have e := hb false (by rw [h0]; rfl); rw [if_neg (by decide)] at e; rw [e, hr e]
    exact rtext_bad0 f g p s w hf h0 hs
  cases h1 : partB g
  · have e := hb false (by rw [h0, h1]; rfl); rw [if_neg (by decide)] at e; rw [e, hr e]
    exact rtext_bad1 f g p s w hf h0 h1 hs
  cases h2 : partB p
  · have e := hb false (by rw [h0, h1, h2]; rfl); rw [if_neg (by decide)] at e; rw [e, hr e]
    exact rtext_bad2 f g p s w hf h0 h1 h2 hs
  cases h3 : partB s
  · have e := hb false (by rw [h0, h1, h2, h3]; rfl); rw [if_neg (by decide)] at e; rw [e, hr e]
    exact rtext_bad3 f g p s w hf h0 h1 h2 h3 hs
  · have e := hb true (by rw [h0, h1, h2, h3]; rfl); rw [if_pos rfl] at e
    have e2 : textR f g p s = textS f g p s := by unfold textR; rw [e]; rfl
    rw [e, e2]
    exact rtext_ok f g p s w hf h0 h1 h2 h3 hs

end Go.Proofs.YtflpkadknljpbaaDoor
