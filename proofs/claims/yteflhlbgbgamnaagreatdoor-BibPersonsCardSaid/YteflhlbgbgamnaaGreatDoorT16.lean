/- Text of package person and of its reference. Conditions: lengths. -/
import Derived.Test.YteflhlbgbgamnaaGreatDoorT15
import Derived.Test.YteflhlbgbgamnaaGreatDoorT03

set_option linter.all false
namespace Go.Proofs.YteflhlbgbgamnaaGreatDoor
open Go.RowKit

/-- The text of a person. -/
def textS (f g p s : Bs) : Bs :=
  (if p = [] then f else [123] ++ p ++ [125, 32] ++ f) ++
  (if s = [] then (if g = [] then [] else [44, 32] ++ g) else [44, 32] ++ s ++ [44] ++ (if g = [] then [] else [32] ++ g))
/-- The error of a person's text. -/
def textE (f g p s : Bs) : Int := if f = [] then 8 else if partB f && partB g && partB p && partB s then 0 else 17
def textR (f g p s : Bs) : Bs := if textE f g p s = 0 then textS f g p s else []

set_option maxRecDepth 100000 in
set_option maxHeartbeats 1600000 in
theorem text_bad0 (f g p s : Bs) (w : World) (hg : Gnd w) (hf : ¬ f = [])  (hn : partB f = false) (hs : f.length + g.length + p.length + s.length ≤ 10000000) :
    Calls Tryz.prog 79 #[persV f g p s] w fun e w' => e = .returned (.tuple #[.string (bs []), .int .i64 17]) ∧ Kept w w' := by
  have hfe : f.isEmpty = false := by simpa using hf
  go_enter Tryz.func79, Tryz.ntmps79
  go_wp2_with fail
  refine (part_any f _ (hg.kept (kept_alloc _ _)) (by omega)).mono ?_
  rintro e w1 ⟨rfl, hk0⟩
  rw [hn]
  have HK0 := Lib.hid hk0
  obtain ⟨kc, kf⟩ := keep_cell HK0.out
  have hz : w.heap.size < w1.heap.size := by have := HK0.out.size; simp at this; omega
  have HK := Lib.hid ((kept_alloc w _).trans HK0.out)
  have HG := Lib.hid (hg.kept HK.out)
  clear hk0
  go_wp2_with fail
  go_ret2
  exact ⟨rfl, HK.out⟩

set_option maxRecDepth 100000 in
set_option maxHeartbeats 1600000 in
theorem text_bad1 (f g p s : Bs) (w : World) (hg : Gnd w) (hf : ¬ f = []) (y0 : partB f = true) (hn : partB g = false) (hs : f.length + g.length + p.length + s.length ≤ 10000000) :
    Calls Tryz.prog 79 #[persV f g p s] w fun e w' => e = .returned (.tuple #[.string (bs []), .int .i64 17]) ∧ Kept w w' := by
  have hfe : f.isEmpty = false := by simpa using hf
  go_enter Tryz.func79, Tryz.ntmps79
  go_wp2_with fail
  refine (part_any f _ (hg.kept (kept_alloc _ _)) (by omega)).mono ?_
  rintro e w1 ⟨rfl, hk0⟩
  rw [y0]
  have HK0 := Lib.hid hk0
  obtain ⟨kc, kf⟩ := keep_cell HK0.out
  have hz : w.heap.size < w1.heap.size := by have := HK0.out.size; simp at this; omega
  have HK := Lib.hid ((kept_alloc w _).trans HK0.out)
  have HG := Lib.hid (hg.kept HK.out)
  clear hk0
  go_wp2_with fail
  refine (part_any g _ HG.out (by omega)).mono ?_
  rintro e w2 ⟨rfl, hk1⟩
  rw [hn]
  have HK1 := Lib.hid (HK0.out.trans hk1)
  clear kc kf hz HK HK0 HG
  obtain ⟨kc, kf⟩ := keep_cell HK1.out
  have hz : w.heap.size < w2.heap.size := by have := HK1.out.size; simp at this; omega
  have HK := Lib.hid ((kept_alloc w _).trans HK1.out)
  have HG := Lib.hid (hg.kept HK.out)
  clear hk1
  go_wp2_with fail
  go_ret2
  exact ⟨rfl, HK.out⟩

set_option maxRecDepth 100000 in
set_option maxHeartbeats 1600000 in
theorem text_bad2 (f g p s : Bs) (w : World) (hg : Gnd w) (hf : ¬ f = []) (y0 : partB f = true) (y1 : partB g = true) (hn : partB p = false) (hs : f.length + g.length + p.length + s.length ≤ 10000000) :
    Calls Tryz.prog 79 #[persV f g p s] w fun e w' => e = .returned (.tuple #[.string (bs []), .int .i64 17]) ∧ Kept w w' := by
  have hfe : f.isEmpty = false := by simpa using hf
  go_enter Tryz.func79, Tryz.ntmps79
  go_wp2_with fail
  refine (part_any f _ (hg.kept (kept_alloc _ _)) (by omega)).mono ?_
  rintro e w1 ⟨rfl, hk0⟩
  rw [y0]
  have HK0 := Lib.hid hk0
  obtain ⟨kc, kf⟩ := keep_cell HK0.out
  have hz : w.heap.size < w1.heap.size := by have := HK0.out.size; simp at this; omega
  have HK := Lib.hid ((kept_alloc w _).trans HK0.out)
  have HG := Lib.hid (hg.kept HK.out)
  clear hk0
  go_wp2_with fail
  refine (part_any g _ HG.out (by omega)).mono ?_
  rintro e w2 ⟨rfl, hk1⟩
  rw [y1]
  have HK1 := Lib.hid (HK0.out.trans hk1)
  clear kc kf hz HK HK0 HG
  obtain ⟨kc, kf⟩ := keep_cell HK1.out
  have hz : w.heap.size < w2.heap.size := by have := HK1.out.size; simp at this; omega
  have HK := Lib.hid ((kept_alloc w _).trans HK1.out)
  have HG := Lib.hid (hg.kept HK.out)
  clear hk1
  go_wp2_with fail
  refine (part_any p _ HG.out (by omega)).mono ?_
  rintro e w3 ⟨rfl, hk2⟩
  rw [hn]
  have HK2 := Lib.hid (HK1.out.trans hk2)
  clear kc kf hz HK HK1 HG
  obtain ⟨kc, kf⟩ := keep_cell HK2.out
  have hz : w.heap.size < w3.heap.size := by have := HK2.out.size; simp at this; omega
  have HK := Lib.hid ((kept_alloc w _).trans HK2.out)
  have HG := Lib.hid (hg.kept HK.out)
  clear hk2
  go_wp2_with fail
  go_ret2
  exact ⟨rfl, HK.out⟩

set_option maxRecDepth 100000 in
set_option maxHeartbeats 1600000 in
theorem text_bad3 (f g p s : Bs) (w : World) (hg : Gnd w) (hf : ¬ f = []) (y0 : partB f = true) (y1 : partB g = true) (y2 : partB p = true) (hn : partB s = false) (hs : f.length + g.length + p.length + s.length ≤ 10000000) :
    Calls Tryz.prog 79 #[persV f g p s] w fun e w' => e = .returned (.tuple #[.string (bs []), .int .i64 17]) ∧ Kept w w' := by
  have hfe : f.isEmpty = false := by simpa using hf
  go_enter Tryz.func79, Tryz.ntmps79
  go_wp2_with fail
  refine (part_any f _ (hg.kept (kept_alloc _ _)) (by omega)).mono ?_
  rintro e w1 ⟨rfl, hk0⟩
  rw [y0]
  have HK0 := Lib.hid hk0
  obtain ⟨kc, kf⟩ := keep_cell HK0.out
  have hz : w.heap.size < w1.heap.size := by have := HK0.out.size; simp at this; omega
  have HK := Lib.hid ((kept_alloc w _).trans HK0.out)
  have HG := Lib.hid (hg.kept HK.out)
  clear hk0
  go_wp2_with fail
  refine (part_any g _ HG.out (by omega)).mono ?_
  rintro e w2 ⟨rfl, hk1⟩
  rw [y1]
  have HK1 := Lib.hid (HK0.out.trans hk1)
  clear kc kf hz HK HK0 HG
  obtain ⟨kc, kf⟩ := keep_cell HK1.out
  have hz : w.heap.size < w2.heap.size := by have := HK1.out.size; simp at this; omega
  have HK := Lib.hid ((kept_alloc w _).trans HK1.out)
  have HG := Lib.hid (hg.kept HK.out)
  clear hk1
  go_wp2_with fail
  refine (part_any p _ HG.out (by omega)).mono ?_
  rintro e w3 ⟨rfl, hk2⟩
  rw [y2]
  have HK2 := Lib.hid (HK1.out.trans hk2)
  clear kc kf hz HK HK1 HG
  obtain ⟨kc, kf⟩ := keep_cell HK2.out
  have hz : w.heap.size < w3.heap.size := by have := HK2.out.size; simp at this; omega
  have HK := Lib.hid ((kept_alloc w _).trans HK2.out)
  have HG := Lib.hid (hg.kept HK.out)
  clear hk2
  go_wp2_with fail
  refine (part_any s _ HG.out (by omega)).mono ?_
  rintro e w4 ⟨rfl, hk3⟩
  rw [hn]
  have HK3 := Lib.hid (HK2.out.trans hk3)
  clear kc kf hz HK HK2 HG
  obtain ⟨kc, kf⟩ := keep_cell HK3.out
  have hz : w.heap.size < w4.heap.size := by have := HK3.out.size; simp at this; omega
  have HK := Lib.hid ((kept_alloc w _).trans HK3.out)
  have HG := Lib.hid (hg.kept HK.out)
  clear hk3
  go_wp2_with fail
  go_ret2
  exact ⟨rfl, HK.out⟩

set_option maxRecDepth 100000 in
set_option maxHeartbeats 3200000 in
theorem text_ok (f g p s : Bs) (w : World) (hg : Gnd w) (hf : ¬ f = []) (y0 : partB f = true) (y1 : partB g = true) (y2 : partB p = true) (y3 : partB s = true) (hs : f.length + g.length + p.length + s.length ≤ 10000000) :
    Calls Tryz.prog 79 #[persV f g p s] w fun e w' => e = .returned (.tuple #[.string (bs (textS f g p s)), .int .i64 0]) ∧ Kept w w' := by
  have hfe : f.isEmpty = false := by simpa using hf
  go_enter Tryz.func79, Tryz.ntmps79
  go_wp2_with fail
  refine (part_any f _ (hg.kept (kept_alloc _ _)) (by omega)).mono ?_
  rintro e w1 ⟨rfl, hk0⟩
  rw [y0]
  have HK0 := Lib.hid hk0
  obtain ⟨kc, kf⟩ := keep_cell HK0.out
  have hz : w.heap.size < w1.heap.size := by have := HK0.out.size; simp at this; omega
  have HK := Lib.hid ((kept_alloc w _).trans HK0.out)
  have HG := Lib.hid (hg.kept HK.out)
  clear hk0
  go_wp2_with fail
  refine (part_any g _ HG.out (by omega)).mono ?_
  rintro e w2 ⟨rfl, hk1⟩
  rw [y1]
  have HK1 := Lib.hid (HK0.out.trans hk1)
  clear kc kf hz HK HK0 HG
  obtain ⟨kc, kf⟩ := keep_cell HK1.out
  have hz : w.heap.size < w2.heap.size := by have := HK1.out.size; simp at this; omega
  have HK := Lib.hid ((kept_alloc w _).trans HK1.out)
  have HG := Lib.hid (hg.kept HK.out)
  clear hk1
  go_wp2_with fail
  refine (part_any p _ HG.out (by omega)).mono ?_
  rintro e w3 ⟨rfl, hk2⟩
  rw [y2]
  have HK2 := Lib.hid (HK1.out.trans hk2)
  clear kc kf hz HK HK1 HG
  obtain ⟨kc, kf⟩ := keep_cell HK2.out
  have hz : w.heap.size < w3.heap.size := by have := HK2.out.size; simp at this; omega
  have HK := Lib.hid ((kept_alloc w _).trans HK2.out)
  have HG := Lib.hid (hg.kept HK.out)
  clear hk2
  go_wp2_with fail
  refine (part_any s _ HG.out (by omega)).mono ?_
  rintro e w4 ⟨rfl, hk3⟩
  rw [y3]
  have HK3 := Lib.hid (HK2.out.trans hk3)
  clear kc kf hz HK HK2 HG
  obtain ⟨kc, kf⟩ := keep_cell HK3.out
  have hz : w.heap.size < w4.heap.size := by have := HK3.out.size; simp at this; omega
  have HK := Lib.hid ((kept_alloc w _).trans HK3.out)
  have HG := Lib.hid (hg.kept HK.out)
  clear hk3
  by_cases hp : p = [] <;> by_cases hs' : s = [] <;> by_cases hg' : g = []
  all_goals
    first | subst hp | (have hpe : p.isEmpty = false := by simpa using hp)
    first | subst hs' | (have hse : s.isEmpty = false := by simpa using hs')
    first | subst hg' | (have hge : g.isEmpty = false := by simpa using hg')
    try simp only [List.length_nil, Nat.add_zero, Nat.zero_add] at hs
    go_wp2_with fail
    go_ret2
    refine ⟨?_, HK.out⟩
    refine congrArg (fun x => Ending.returned (.tuple #[.string (bs x), .int .i64 0])) ?_
    simp [textS, *]

set_option maxRecDepth 100000 in
theorem text_any (f g p s : Bs) (w : World) (hg : Gnd w) (hs : f.length + g.length + p.length + s.length ≤ 10000000) :
    Calls Tryz.prog 79 #[persV f g p s] w fun e w' => e = .returned (.tuple #[.string (bs (textR f g p s)), .int .i64 (textE f g p s)]) ∧ Kept w w' := by
  by_cases hf : f = []
  · have e1 : textE f g p s = 8 := by unfold textE; rw [if_pos hf]
    have e2 : textR f g p s = [] := by unfold textR; rw [e1]; rfl
    rw [e1, e2]
    clear e1 e2
    subst hf
    go_enter Tryz.func79, Tryz.ntmps79
    go_wp2_with fail
    go_ret2
    exact ⟨rfl, kept_alloc _ _⟩
  have hb : ∀ q : Bool, (partB f && partB g && partB p && partB s) = q → textE f g p s = if q then 0 else 17 := by
    intro q h; unfold textE; rw [if_neg hf, h]
  have hr : textE f g p s = 17 → textR f g p s = [] := by intro h; unfold textR; rw [h]; rfl
  cases h0 : partB f
  · have e := hb false (by rw [h0]; rfl); rw [if_neg (by decide)] at e; rw [e, hr e]
    exact text_bad0 f g p s w hg hf h0 hs
  cases h1 : partB g
  · have e := hb false (by rw [h0, h1]; rfl); rw [if_neg (by decide)] at e; rw [e, hr e]
    exact text_bad1 f g p s w hg hf h0 h1 hs
  cases h2 : partB p
  · have e := hb false (by rw [h0, h1, h2]; rfl); rw [if_neg (by decide)] at e; rw [e, hr e]
    exact text_bad2 f g p s w hg hf h0 h1 h2 hs
  cases h3 : partB s
  · have e := hb false (by rw [h0, h1, h2, h3]; rfl); rw [if_neg (by decide)] at e; rw [e, hr e]
    exact text_bad3 f g p s w hg hf h0 h1 h2 h3 hs
  · have e := hb true (by rw [h0, h1, h2, h3]; rfl); rw [if_pos rfl] at e
    have e2 : textR f g p s = textS f g p s := by unfold textR; rw [e]; rfl
    rw [e, e2]
    exact text_ok f g p s w hg hf h0 h1 h2 h3 hs

end Go.Proofs.YteflhlbgbgamnaaGreatDoor

/- person.Parse: the walks. Conditions: lengths. -/
set_option linter.all false
namespace Go.Proofs.YteflhlbgbgamnaaGreatDoor
open Go.RowKit

set_option maxRecDepth 100000 in
set_option maxHeartbeats 3200000 in
theorem parse_open (l : Bs) (w : World) (hg : Gnd w) (hs : l.length ≤ 1000000) (hl : lineB l = true) (r p t : Bs) (HC : Hid (cleanL l = 123 :: r)) (hr : r.length ≤ 1000001) (hbr : ¬ before 125 r < r.length) :
    Calls Tryz.prog 144 #[.string (bs l)] w fun e w' => e = .returned (.tuple #[persV [] [] [] [], .int .i64 5]) ∧ Kept w w' := by
  have hcl := cleanL_le l
  go_enter Tryz.func144, Tryz.ntmps144
  go_wp2_with fail
  refine (line_any l _ (by omega)).mono ?_
  rintro e w1 ⟨rfl, n, rfl⟩
  rw [hl]
  go_wp2_with fail
  refine (clean_any l _ (hg.kept (((kept_alloc w _).trans (kept_alloc _ _)).trans (kept_drewN _ n))) (by omega)).mono ?_
  rintro e w2 ⟨rfl, hk2⟩
  have HP0 := Lib.hid ((Blk.new (w.alloc (.cells #[Value.string (bs []), Value.string (bs []), Value.string (bs []), Value.string (bs [])] 32)) 32 #[Value.string (bs []), Value.string (bs []), Value.string (bs []), Value.string (bs [])]).drewN n)
  have bP : Blk w2 (w.heap.size + 1) 32 #[Value.string (bs []), Value.string (bs []), Value.string (bs []), Value.string (bs [])] := by have := HP0.out.kept hk2; simpa using this
  have bR : Blk w2 w.heap.size 32 #[Value.string (bs []), Value.string (bs []), Value.string (bs []), Value.string (bs [])] := (((Blk.new w 32 #[Value.string (bs []), Value.string (bs []), Value.string (bs []), Value.string (bs [])]).alloc _).drewN n).kept hk2
  have kk : Kept w w2 := (((kept_alloc w _).trans (kept_alloc _ _)).trans (kept_drewN _ n)).trans hk2
  clear HP0
  have HP := Lib.hid bP
  have HR := Lib.hid bR
  have HK := Lib.hid kk
  have HG := Lib.hid (hg.kept kk)
  clear bP bR kk hk2
  rw [HC.out]
  go_wp2_with fail
  refine (cutp_yes r 123 _).mono ?_
  rintro e w' ⟨rfl, rfl⟩
  go_wp2_with fail
  refine (cut_any r 125 _ HG.out (by omega)).mono ?_
  rintro e w3 ⟨rfl, m, rfl⟩
  rw [if_neg (by omega)]
  have cP0 : w2.cell? ⟨w.heap.size + 1, 0, none⟩ = some (Value.string (bs [])) := HP.out.cell 0 _ rfl
  have cR0 : w2.cell? ⟨w.heap.size, 0, none⟩ = some (Value.string (bs [])) := HR.out.cell 0 _ rfl
  have fP0 := HP.out.free 0
  have fR0 := HR.out.free 0
  have cP1 : w2.cell? ⟨w.heap.size + 1, 1, none⟩ = some (Value.string (bs [])) := HP.out.cell 1 _ rfl
  have cR1 : w2.cell? ⟨w.heap.size, 1, none⟩ = some (Value.string (bs [])) := HR.out.cell 1 _ rfl
  have fP1 := HP.out.free 1
  have fR1 := HR.out.free 1
  have cP2 : w2.cell? ⟨w.heap.size + 1, 2, none⟩ = some (Value.string (bs [])) := HP.out.cell 2 _ rfl
  have cR2 : w2.cell? ⟨w.heap.size, 2, none⟩ = some (Value.string (bs [])) := HR.out.cell 2 _ rfl
  have fP2 := HP.out.free 2
  have fR2 := HR.out.free 2
  have cP3 : w2.cell? ⟨w.heap.size + 1, 3, none⟩ = some (Value.string (bs [])) := HP.out.cell 3 _ rfl
  have cR3 : w2.cell? ⟨w.heap.size, 3, none⟩ = some (Value.string (bs [])) := HR.out.cell 3 _ rfl
  have fP3 := HP.out.free 3
  have fR3 := HR.out.free 3
  have hzP := HP.out.lt
  have hzR := HR.out.lt
  go_wp2_with fail
  refine bodyPost_ret (v := .tuple #[persV [] [] [] [], .int .i64 5]) (by simp [results, Tryz.results144, go_sem, *]) rfl ⟨rfl, ?_⟩
  repeat (first | exact HK.out | refine kept_set ?_ _ _ _ (by omega) | exact (HK.out).trans (kept_drewN _ _))

set_option maxRecDepth 100000 in
set_option maxHeartbeats 3200000 in
theorem parse_count_n (l : Bs) (w : World) (hg : Gnd w) (hs : l.length ≤ 1000000) (hl : lineB l = true) (t : Bs) (HC : Hid (cleanL l = t)) (HNB : Hid (∀ r, t ≠ 123 :: r)) (ht : t.length ≤ 1000001) (hcnt : 2 < t.count 44) :
    Calls Tryz.prog 144 #[.string (bs l)] w fun e w' => e = .returned (.tuple #[persV [] [] [] [], .int .i64 5]) ∧ Kept w w' := by
  have hcl := cleanL_le l
  go_enter Tryz.func144, Tryz.ntmps144
  go_wp2_with fail
  refine (line_any l _ (by omega)).mono ?_
  rintro e w1 ⟨rfl, n, rfl⟩
  rw [hl]
  go_wp2_with fail
  refine (clean_any l _ (hg.kept (((kept_alloc w _).trans (kept_alloc _ _)).trans (kept_drewN _ n))) (by omega)).mono ?_
  rintro e w2 ⟨rfl, hk2⟩
  have HP0 := Lib.hid ((Blk.new (w.alloc (.cells #[Value.string (bs []), Value.string (bs []), Value.string (bs []), Value.string (bs [])] 32)) 32 #[Value.string (bs []), Value.string (bs []), Value.string (bs []), Value.string (bs [])]).drewN n)
  have bP : Blk w2 (w.heap.size + 1) 32 #[Value.string (bs []), Value.string (bs []), Value.string (bs []), Value.string (bs [])] := by have := HP0.out.kept hk2; simpa using this
  have bR : Blk w2 w.heap.size 32 #[Value.string (bs []), Value.string (bs []), Value.string (bs []), Value.string (bs [])] := (((Blk.new w 32 #[Value.string (bs []), Value.string (bs []), Value.string (bs []), Value.string (bs [])]).alloc _).drewN n).kept hk2
  have kk : Kept w w2 := (((kept_alloc w _).trans (kept_alloc _ _)).trans (kept_drewN _ n)).trans hk2
  clear HP0
  have HP := Lib.hid bP
  have HR := Lib.hid bR
  have HK := Lib.hid kk
  have HG := Lib.hid (hg.kept kk)
  clear bP bR kk hk2
  rw [HC.out]
  go_wp2_with fail
  refine (cutp_no t 123 _ HNB.out).mono ?_
  rintro e w' ⟨rfl, rfl⟩
  have cP0 : w2.cell? ⟨w.heap.size + 1, 0, none⟩ = some (Value.string (bs [])) := HP.out.cell 0 _ rfl
  have cR0 : w2.cell? ⟨w.heap.size, 0, none⟩ = some (Value.string (bs [])) := HR.out.cell 0 _ rfl
  have fP0 := HP.out.free 0
  have fR0 := HR.out.free 0
  have cP1 : w2.cell? ⟨w.heap.size + 1, 1, none⟩ = some (Value.string (bs [])) := HP.out.cell 1 _ rfl
  have cR1 : w2.cell? ⟨w.heap.size, 1, none⟩ = some (Value.string (bs [])) := HR.out.cell 1 _ rfl
  have fP1 := HP.out.free 1
  have fR1 := HR.out.free 1
  have cP2 : w2.cell? ⟨w.heap.size + 1, 2, none⟩ = some (Value.string (bs [])) := HP.out.cell 2 _ rfl
  have cR2 : w2.cell? ⟨w.heap.size, 2, none⟩ = some (Value.string (bs [])) := HR.out.cell 2 _ rfl
  have fP2 := HP.out.free 2
  have fR2 := HR.out.free 2
  have cP3 : w2.cell? ⟨w.heap.size + 1, 3, none⟩ = some (Value.string (bs [])) := HP.out.cell 3 _ rfl
  have cR3 : w2.cell? ⟨w.heap.size, 3, none⟩ = some (Value.string (bs [])) := HR.out.cell 3 _ rfl
  have fP3 := HP.out.free 3
  have fR3 := HR.out.free 3
  have hzP := HP.out.lt
  have hzR := HR.out.lt
  go_wp2_with fail
  refine (count_any t 44 _).mono ?_
  rintro e w' ⟨rfl, rfl⟩
  go_wp2_with fail
  refine bodyPost_ret (v := .tuple #[persV [] [] [] [], .int .i64 5]) (by simp [results, Tryz.results144, go_sem, *]) rfl ⟨rfl, ?_⟩
  repeat (first | exact HK.out | refine kept_set ?_ _ _ _ (by omega) | exact (HK.out).trans (kept_drewN _ _))

set_option maxRecDepth 100000 in
set_option maxHeartbeats 3200000 in
theorem parse_any2_n (l : Bs) (w : World) (hg : Gnd w) (hs : l.length ≤ 1000000) (hl : lineB l = true) (t : Bs) (HC : Hid (cleanL l = t)) (HNB : Hid (∀ r, t ≠ 123 :: r)) (ht : t.length ≤ 1000001) (hcnt : t.count 44 ≤ 2) (HA1 : Hid (([] : Bs).any (inSet setC) = false)) (HA2 : Hid (t.any (inSet setN) = true)) :
    Calls Tryz.prog 144 #[.string (bs l)] w fun e w' => e = .returned (.tuple #[persV [] [] [] [], .int .i64 5]) ∧ Kept w w' := by
  have hcl := cleanL_le l
  go_enter Tryz.func144, Tryz.ntmps144
  go_wp2_with fail
  refine (line_any l _ (by omega)).mono ?_
  rintro e w1 ⟨rfl, n, rfl⟩
  rw [hl]
  go_wp2_with fail
  refine (clean_any l _ (hg.kept (((kept_alloc w _).trans (kept_alloc _ _)).trans (kept_drewN _ n))) (by omega)).mono ?_
  rintro e w2 ⟨rfl, hk2⟩
  have HP0 := Lib.hid ((Blk.new (w.alloc (.cells #[Value.string (bs []), Value.string (bs []), Value.string (bs []), Value.string (bs [])] 32)) 32 #[Value.string (bs []), Value.string (bs []), Value.string (bs []), Value.string (bs [])]).drewN n)
  have bP : Blk w2 (w.heap.size + 1) 32 #[Value.string (bs []), Value.string (bs []), Value.string (bs []), Value.string (bs [])] := by have := HP0.out.kept hk2; simpa using this
  have bR : Blk w2 w.heap.size 32 #[Value.string (bs []), Value.string (bs []), Value.string (bs []), Value.string (bs [])] := (((Blk.new w 32 #[Value.string (bs []), Value.string (bs []), Value.string (bs []), Value.string (bs [])]).alloc _).drewN n).kept hk2
  have kk : Kept w w2 := (((kept_alloc w _).trans (kept_alloc _ _)).trans (kept_drewN _ n)).trans hk2
  clear HP0
  have HP := Lib.hid bP
  have HR := Lib.hid bR
  have HK := Lib.hid kk
  have HG := Lib.hid (hg.kept kk)
  clear bP bR kk hk2
  rw [HC.out]
  go_wp2_with fail
  refine (cutp_no t 123 _ HNB.out).mono ?_
  rintro e w' ⟨rfl, rfl⟩
  have cP0 : w2.cell? ⟨w.heap.size + 1, 0, none⟩ = some (Value.string (bs [])) := HP.out.cell 0 _ rfl
  have cR0 : w2.cell? ⟨w.heap.size, 0, none⟩ = some (Value.string (bs [])) := HR.out.cell 0 _ rfl
  have fP0 := HP.out.free 0
  have fR0 := HR.out.free 0
  have cP1 : w2.cell? ⟨w.heap.size + 1, 1, none⟩ = some (Value.string (bs [])) := HP.out.cell 1 _ rfl
  have cR1 : w2.cell? ⟨w.heap.size, 1, none⟩ = some (Value.string (bs [])) := HR.out.cell 1 _ rfl
  have fP1 := HP.out.free 1
  have fR1 := HR.out.free 1
  have cP2 : w2.cell? ⟨w.heap.size + 1, 2, none⟩ = some (Value.string (bs [])) := HP.out.cell 2 _ rfl
  have cR2 : w2.cell? ⟨w.heap.size, 2, none⟩ = some (Value.string (bs [])) := HR.out.cell 2 _ rfl
  have fP2 := HP.out.free 2
  have fR2 := HR.out.free 2
  have cP3 : w2.cell? ⟨w.heap.size + 1, 3, none⟩ = some (Value.string (bs [])) := HP.out.cell 3 _ rfl
  have cR3 : w2.cell? ⟨w.heap.size, 3, none⟩ = some (Value.string (bs [])) := HR.out.cell 3 _ rfl
  have fP3 := HP.out.free 3
  have fR3 := HR.out.free 3
  have hzP := HP.out.lt
  have hzR := HR.out.lt
  go_wp2_with fail
  refine (count_any t 44 _).mono ?_
  rintro e w' ⟨rfl, rfl⟩
  go_wp2_with fail
  have HSC : Hid (setC = [44, 59, 123, 125]) := rfl
  have HSN : Hid (setN = [59, 123, 125]) := rfl
  rw [← HSC.out]
  refine (cany_any [] setC _ asciiC  (by decide) (by decide) (by simp)).mono ?_
  rintro e w5 ⟨rfl, hk5⟩
  rw [HA1.out]
  clear cP0 cR0 fP0 fR0 cP1 cR1 fP1 fR1 cP2 cR2 fP2 fR2 cP3 cR3 fP3 fR3 hzP hzR
  have bP : Blk w5 (w.heap.size + 1) 32 #[Value.string (bs []), Value.string (bs []), Value.string (bs []), Value.string (bs [])] := (HP.out).kept hk5
  have bR : Blk w5 w.heap.size 32 #[Value.string (bs []), Value.string (bs []), Value.string (bs []), Value.string (bs [])] := (HR.out).kept hk5
  have kk : Kept w w5 := (HK.out).trans hk5
  clear HP HR HK HG
  have HP := Lib.hid bP
  have HR := Lib.hid bR
  have HK := Lib.hid kk
  have HG := Lib.hid (hg.kept kk)
  clear bP bR kk hk5
  have cP0 : w5.cell? ⟨w.heap.size + 1, 0, none⟩ = some (Value.string (bs [])) := HP.out.cell 0 _ rfl
  have cR0 : w5.cell? ⟨w.heap.size, 0, none⟩ = some (Value.string (bs [])) := HR.out.cell 0 _ rfl
  have fP0 := HP.out.free 0
  have fR0 := HR.out.free 0
  have cP1 : w5.cell? ⟨w.heap.size + 1, 1, none⟩ = some (Value.string (bs [])) := HP.out.cell 1 _ rfl
  have cR1 : w5.cell? ⟨w.heap.size, 1, none⟩ = some (Value.string (bs [])) := HR.out.cell 1 _ rfl
  have fP1 := HP.out.free 1
  have fR1 := HR.out.free 1
  have cP2 : w5.cell? ⟨w.heap.size + 1, 2, none⟩ = some (Value.string (bs [])) := HP.out.cell 2 _ rfl
  have cR2 : w5.cell? ⟨w.heap.size, 2, none⟩ = some (Value.string (bs [])) := HR.out.cell 2 _ rfl
  have fP2 := HP.out.free 2
  have fR2 := HR.out.free 2
  have cP3 : w5.cell? ⟨w.heap.size + 1, 3, none⟩ = some (Value.string (bs [])) := HP.out.cell 3 _ rfl
  have cR3 : w5.cell? ⟨w.heap.size, 3, none⟩ = some (Value.string (bs [])) := HR.out.cell 3 _ rfl
  have fP3 := HP.out.free 3
  have fR3 := HR.out.free 3
  have hzP := HP.out.lt
  have hzR := HR.out.lt
  go_wp2_with fail
  rw [← HSN.out]
  refine (cany_any t setN _ asciiN (by decide) (by decide) (by omega)).mono ?_
  rintro e w6 ⟨rfl, hk6⟩
  rw [HA2.out]
  clear cP0 cR0 fP0 fR0 cP1 cR1 fP1 fR1 cP2 cR2 fP2 fR2 cP3 cR3 fP3 fR3 hzP hzR
  have bP : Blk w6 (w.heap.size + 1) 32 #[Value.string (bs []), Value.string (bs []), Value.string (bs []), Value.string (bs [])] := (HP.out).kept hk6
  have bR : Blk w6 w.heap.size 32 #[Value.string (bs []), Value.string (bs []), Value.string (bs []), Value.string (bs [])] := (HR.out).kept hk6
  have kk : Kept w w6 := (HK.out).trans hk6
  clear HP HR HK HG
  have HP := Lib.hid bP
  have HR := Lib.hid bR
  have HK := Lib.hid kk
  have HG := Lib.hid (hg.kept kk)
  clear bP bR kk hk6
  have cP0 : w6.cell? ⟨w.heap.size + 1, 0, none⟩ = some (Value.string (bs [])) := HP.out.cell 0 _ rfl
  have cR0 : w6.cell? ⟨w.heap.size, 0, none⟩ = some (Value.string (bs [])) := HR.out.cell 0 _ rfl
  have fP0 := HP.out.free 0
  have fR0 := HR.out.free 0
  have cP1 : w6.cell? ⟨w.heap.size + 1, 1, none⟩ = some (Value.string (bs [])) := HP.out.cell 1 _ rfl
  have cR1 : w6.cell? ⟨w.heap.size, 1, none⟩ = some (Value.string (bs [])) := HR.out.cell 1 _ rfl
  have fP1 := HP.out.free 1
  have fR1 := HR.out.free 1
  have cP2 : w6.cell? ⟨w.heap.size + 1, 2, none⟩ = some (Value.string (bs [])) := HP.out.cell 2 _ rfl
  have cR2 : w6.cell? ⟨w.heap.size, 2, none⟩ = some (Value.string (bs [])) := HR.out.cell 2 _ rfl
  have fP2 := HP.out.free 2
  have fR2 := HR.out.free 2
  have cP3 : w6.cell? ⟨w.heap.size + 1, 3, none⟩ = some (Value.string (bs [])) := HP.out.cell 3 _ rfl
  have cR3 : w6.cell? ⟨w.heap.size, 3, none⟩ = some (Value.string (bs [])) := HR.out.cell 3 _ rfl
  have fP3 := HP.out.free 3
  have fR3 := HR.out.free 3
  have hzP := HP.out.lt
  have hzR := HR.out.lt
  go_wp2_with fail
  refine bodyPost_ret (v := .tuple #[persV [] [] [] [], .int .i64 5]) (by simp [results, Tryz.results144, go_sem, *]) rfl ⟨rfl, ?_⟩
  repeat (first | exact HK.out | refine kept_set ?_ _ _ _ (by omega) | exact (HK.out).trans (kept_drewN _ _))

set_option maxRecDepth 100000 in
set_option maxHeartbeats 3200000 in
theorem parse_ok1_n (l : Bs) (w : World) (hg : Gnd w) (hs : l.length ≤ 1000000) (hl : lineB l = true) (t : Bs) (HC : Hid (cleanL l = t)) (HNB : Hid (∀ r, t ≠ 123 :: r)) (ht : t.length ≤ 1000001) (hcnt : t.count 44 ≤ 2) (HA1 : Hid (([] : Bs).any (inSet setC) = false)) (HA2 : Hid (t.any (inSet setN) = false)) (a : Bs) (HSP : Hid (splitC 44 t = [a])) (ha : a.length ≤ 1000010) (f : Bs) (HFA : Hid (cleanL a = f)) (hf : ¬ f = []) (hfe : f.isEmpty = false) :
    Calls Tryz.prog 144 #[.string (bs l)] w fun e w' => e = .returned (.tuple #[persV f [] [] [], .int .i64 0]) ∧ Kept w w' := by
  have hcl := cleanL_le l
  go_enter Tryz.func144, Tryz.ntmps144
  go_wp2_with fail
  refine (line_any l _ (by omega)).mono ?_
  rintro e w1 ⟨rfl, n, rfl⟩
  rw [hl]
  go_wp2_with fail
  refine (clean_any l _ (hg.kept (((kept_alloc w _).trans (kept_alloc _ _)).trans (kept_drewN _ n))) (by omega)).mono ?_
  rintro e w2 ⟨rfl, hk2⟩
  have HP0 := Lib.hid ((Blk.new (w.alloc (.cells #[Value.string (bs []), Value.string (bs []), Value.string (bs []), Value.string (bs [])] 32)) 32 #[Value.string (bs []), Value.string (bs []), Value.string (bs []), Value.string (bs [])]).drewN n)
  have bP : Blk w2 (w.heap.size + 1) 32 #[Value.string (bs []), Value.string (bs []), Value.string (bs []), Value.string (bs [])] := by have := HP0.out.kept hk2; simpa using this
  have bR : Blk w2 w.heap.size 32 #[Value.string (bs []), Value.string (bs []), Value.string (bs []), Value.string (bs [])] := (((Blk.new w 32 #[Value.string (bs []), Value.string (bs []), Value.string (bs []), Value.string (bs [])]).alloc _).drewN n).kept hk2
  have kk : Kept w w2 := (((kept_alloc w _).trans (kept_alloc _ _)).trans (kept_drewN _ n)).trans hk2
  clear HP0
  have HP := Lib.hid bP
  have HR := Lib.hid bR
  have HK := Lib.hid kk
  have HG := Lib.hid (hg.kept kk)
  clear bP bR kk hk2
  rw [HC.out]
  go_wp2_with fail
  refine (cutp_no t 123 _ HNB.out).mono ?_
  rintro e w' ⟨rfl, rfl⟩
  have cP0 : w2.cell? ⟨w.heap.size + 1, 0, none⟩ = some (Value.string (bs [])) := HP.out.cell 0 _ rfl
  have cR0 : w2.cell? ⟨w.heap.size, 0, none⟩ = some (Value.string (bs [])) := HR.out.cell 0 _ rfl
  have fP0 := HP.out.free 0
  have fR0 := HR.out.free 0
  have cP1 : w2.cell? ⟨w.heap.size + 1, 1, none⟩ = some (Value.string (bs [])) := HP.out.cell 1 _ rfl
  have cR1 : w2.cell? ⟨w.heap.size, 1, none⟩ = some (Value.string (bs [])) := HR.out.cell 1 _ rfl
  have fP1 := HP.out.free 1
  have fR1 := HR.out.free 1
  have cP2 : w2.cell? ⟨w.heap.size + 1, 2, none⟩ = some (Value.string (bs [])) := HP.out.cell 2 _ rfl
  have cR2 : w2.cell? ⟨w.heap.size, 2, none⟩ = some (Value.string (bs [])) := HR.out.cell 2 _ rfl
  have fP2 := HP.out.free 2
  have fR2 := HR.out.free 2
  have cP3 : w2.cell? ⟨w.heap.size + 1, 3, none⟩ = some (Value.string (bs [])) := HP.out.cell 3 _ rfl
  have cR3 : w2.cell? ⟨w.heap.size, 3, none⟩ = some (Value.string (bs [])) := HR.out.cell 3 _ rfl
  have fP3 := HP.out.free 3
  have fR3 := HR.out.free 3
  have hzP := HP.out.lt
  have hzR := HR.out.lt
  go_wp2_with fail
  refine (count_any t 44 _).mono ?_
  rintro e w' ⟨rfl, rfl⟩
  go_wp2_with fail
  have HSC : Hid (setC = [44, 59, 123, 125]) := rfl
  have HSN : Hid (setN = [59, 123, 125]) := rfl
  rw [← HSC.out]
  refine (cany_any [] setC _ asciiC  (by decide) (by decide) (by simp)).mono ?_
  rintro e w5 ⟨rfl, hk5⟩
  rw [HA1.out]
  clear cP0 cR0 fP0 fR0 cP1 cR1 fP1 fR1 cP2 cR2 fP2 fR2 cP3 cR3 fP3 fR3 hzP hzR
  have bP : Blk w5 (w.heap.size + 1) 32 #[Value.string (bs []), Value.string (bs []), Value.string (bs []), Value.string (bs [])] := (HP.out).kept hk5
  have bR : Blk w5 w.heap.size 32 #[Value.string (bs []), Value.string (bs []), Value.string (bs []), Value.string (bs [])] := (HR.out).kept hk5
  have kk : Kept w w5 := (HK.out).trans hk5
  clear HP HR HK HG
  have HP := Lib.hid bP
  have HR := Lib.hid bR
  have HK := Lib.hid kk
  have HG := Lib.hid (hg.kept kk)
  clear bP bR kk hk5
  have cP0 : w5.cell? ⟨w.heap.size + 1, 0, none⟩ = some (Value.string (bs [])) := HP.out.cell 0 _ rfl
  have cR0 : w5.cell? ⟨w.heap.size, 0, none⟩ = some (Value.string (bs [])) := HR.out.cell 0 _ rfl
  have fP0 := HP.out.free 0
  have fR0 := HR.out.free 0
  have cP1 : w5.cell? ⟨w.heap.size + 1, 1, none⟩ = some (Value.string (bs [])) := HP.out.cell 1 _ rfl
  have cR1 : w5.cell? ⟨w.heap.size, 1, none⟩ = some (Value.string (bs [])) := HR.out.cell 1 _ rfl
  have fP1 := HP.out.free 1
  have fR1 := HR.out.free 1
  have cP2 : w5.cell? ⟨w.heap.size + 1, 2, none⟩ = some (Value.string (bs [])) := HP.out.cell 2 _ rfl
  have cR2 : w5.cell? ⟨w.heap.size, 2, none⟩ = some (Value.string (bs [])) := HR.out.cell 2 _ rfl
  have fP2 := HP.out.free 2
  have fR2 := HR.out.free 2
  have cP3 : w5.cell? ⟨w.heap.size + 1, 3, none⟩ = some (Value.string (bs [])) := HP.out.cell 3 _ rfl
  have cR3 : w5.cell? ⟨w.heap.size, 3, none⟩ = some (Value.string (bs [])) := HR.out.cell 3 _ rfl
  have fP3 := HP.out.free 3
  have fR3 := HR.out.free 3
  have hzP := HP.out.lt
  have hzR := HR.out.lt
  go_wp2_with fail
  rw [← HSN.out]
  refine (cany_any t setN _ asciiN (by decide) (by decide) (by omega)).mono ?_
  rintro e w6 ⟨rfl, hk6⟩
  rw [HA2.out]
  clear cP0 cR0 fP0 fR0 cP1 cR1 fP1 fR1 cP2 cR2 fP2 fR2 cP3 cR3 fP3 fR3 hzP hzR
  have bP : Blk w6 (w.heap.size + 1) 32 #[Value.string (bs []), Value.string (bs []), Value.string (bs []), Value.string (bs [])] := (HP.out).kept hk6
  have bR : Blk w6 w.heap.size 32 #[Value.string (bs []), Value.string (bs []), Value.string (bs []), Value.string (bs [])] := (HR.out).kept hk6
  have kk : Kept w w6 := (HK.out).trans hk6
  clear HP HR HK HG
  have HP := Lib.hid bP
  have HR := Lib.hid bR
  have HK := Lib.hid kk
  have HG := Lib.hid (hg.kept kk)
  clear bP bR kk hk6
  have cP0 : w6.cell? ⟨w.heap.size + 1, 0, none⟩ = some (Value.string (bs [])) := HP.out.cell 0 _ rfl
  have cR0 : w6.cell? ⟨w.heap.size, 0, none⟩ = some (Value.string (bs [])) := HR.out.cell 0 _ rfl
  have fP0 := HP.out.free 0
  have fR0 := HR.out.free 0
  have cP1 : w6.cell? ⟨w.heap.size + 1, 1, none⟩ = some (Value.string (bs [])) := HP.out.cell 1 _ rfl
  have cR1 : w6.cell? ⟨w.heap.size, 1, none⟩ = some (Value.string (bs [])) := HR.out.cell 1 _ rfl
  have fP1 := HP.out.free 1
  have fR1 := HR.out.free 1
  have cP2 : w6.cell? ⟨w.heap.size + 1, 2, none⟩ = some (Value.string (bs [])) := HP.out.cell 2 _ rfl
  have cR2 : w6.cell? ⟨w.heap.size, 2, none⟩ = some (Value.string (bs [])) := HR.out.cell 2 _ rfl
  have fP2 := HP.out.free 2
  have fR2 := HR.out.free 2
  have cP3 : w6.cell? ⟨w.heap.size + 1, 3, none⟩ = some (Value.string (bs [])) := HP.out.cell 3 _ rfl
  have cR3 : w6.cell? ⟨w.heap.size, 3, none⟩ = some (Value.string (bs [])) := HR.out.cell 3 _ rfl
  have fP3 := HP.out.free 3
  have fR3 := HR.out.free 3
  have hzP := HP.out.lt
  have hzR := HR.out.lt
  go_wp2_with fail
  refine (split_any t 44 _ HG.out (by omega)).mono ?_
  rintro e w7 ⟨rfl, hw7⟩
  have hk7 : Kept w6 w7 := by rw [hw7]; exact kept_alloc _ _
  have bS : Blk w7 w6.heap.size 9 (strCells (splitC 44 t)).toArray := by rw [hw7]; exact Blk.new _ _ _
  have hB : w6.heap.size ≠ w.heap.size + 1 := by omega
  clear cP0 cR0 fP0 fR0 cP1 cR1 fP1 fR1 cP2 cR2 fP2 fR2 cP3 cR3 fP3 fR3 hzP hzR
  have bP : Blk w7 (w.heap.size + 1) 32 #[Value.string (bs []), Value.string (bs []), Value.string (bs []), Value.string (bs [])] := (HP.out).kept hk7
  have bR : Blk w7 w.heap.size 32 #[Value.string (bs []), Value.string (bs []), Value.string (bs []), Value.string (bs [])] := (HR.out).kept hk7
  have kk : Kept w w7 := (HK.out).trans hk7
  clear HP HR HK HG
  have HP := Lib.hid bP
  have HR := Lib.hid bR
  have HK := Lib.hid kk
  have HG := Lib.hid (hg.kept kk)
  clear bP bR kk hk7
  clear hw7
  rw [HSP.out]
  rw [HSP.out] at bS
  have HS : Hid (Blk w7 w6.heap.size 9 #[Value.string (bs a)]) := bS
  clear bS
  have cP0 : w7.cell? ⟨w.heap.size + 1, 0, none⟩ = some (Value.string (bs [])) := HP.out.cell 0 _ rfl
  have cR0 : w7.cell? ⟨w.heap.size, 0, none⟩ = some (Value.string (bs [])) := HR.out.cell 0 _ rfl
  have fP0 := HP.out.free 0
  have fR0 := HR.out.free 0
  have cP1 : w7.cell? ⟨w.heap.size + 1, 1, none⟩ = some (Value.string (bs [])) := HP.out.cell 1 _ rfl
  have cR1 : w7.cell? ⟨w.heap.size, 1, none⟩ = some (Value.string (bs [])) := HR.out.cell 1 _ rfl
  have fP1 := HP.out.free 1
  have fR1 := HR.out.free 1
  have cP2 : w7.cell? ⟨w.heap.size + 1, 2, none⟩ = some (Value.string (bs [])) := HP.out.cell 2 _ rfl
  have cR2 : w7.cell? ⟨w.heap.size, 2, none⟩ = some (Value.string (bs [])) := HR.out.cell 2 _ rfl
  have fP2 := HP.out.free 2
  have fR2 := HR.out.free 2
  have cP3 : w7.cell? ⟨w.heap.size + 1, 3, none⟩ = some (Value.string (bs [])) := HP.out.cell 3 _ rfl
  have cR3 : w7.cell? ⟨w.heap.size, 3, none⟩ = some (Value.string (bs [])) := HR.out.cell 3 _ rfl
  have fP3 := HP.out.free 3
  have fR3 := HR.out.free 3
  have hzP := HP.out.lt
  have hzR := HR.out.lt
  have cS0 : w7.cell? ⟨w6.heap.size, 0, none⟩ = some (.string (bs a)) := HS.out.cell 0 _ rfl
  have hzS := HS.out.lt
  go_wp2_with fail
  refine (clean_any a _ HG.out (by omega)).mono ?_
  rintro e w8 ⟨rfl, hk8⟩
  clear cS0 hzS
  clear cP0 cR0 fP0 fR0 cP1 cR1 fP1 fR1 cP2 cR2 fP2 fR2 cP3 cR3 fP3 fR3 hzP hzR
  have bS : Blk w8 w6.heap.size 9 #[Value.string (bs a)] := (HS.out).kept hk8
  clear HS
  have HS := Lib.hid bS
  clear bS
  have bP : Blk w8 (w.heap.size + 1) 32 #[Value.string (bs []), Value.string (bs []), Value.string (bs []), Value.string (bs [])] := (HP.out).kept hk8
  have bR : Blk w8 w.heap.size 32 #[Value.string (bs []), Value.string (bs []), Value.string (bs []), Value.string (bs [])] := (HR.out).kept hk8
  have kk : Kept w w8 := (HK.out).trans hk8
  clear HP HR HK HG
  have HP := Lib.hid bP
  have HR := Lib.hid bR
  have HK := Lib.hid kk
  have HG := Lib.hid (hg.kept kk)
  clear bP bR kk hk8
  rw [HFA.out]
  have cP0 : w8.cell? ⟨w.heap.size + 1, 0, none⟩ = some (Value.string (bs [])) := HP.out.cell 0 _ rfl
  have cR0 : w8.cell? ⟨w.heap.size, 0, none⟩ = some (Value.string (bs [])) := HR.out.cell 0 _ rfl
  have fP0 := HP.out.free 0
  have fR0 := HR.out.free 0
  have cP1 : w8.cell? ⟨w.heap.size + 1, 1, none⟩ = some (Value.string (bs [])) := HP.out.cell 1 _ rfl
  have cR1 : w8.cell? ⟨w.heap.size, 1, none⟩ = some (Value.string (bs [])) := HR.out.cell 1 _ rfl
  have fP1 := HP.out.free 1
  have fR1 := HR.out.free 1
  have cP2 : w8.cell? ⟨w.heap.size + 1, 2, none⟩ = some (Value.string (bs [])) := HP.out.cell 2 _ rfl
  have cR2 : w8.cell? ⟨w.heap.size, 2, none⟩ = some (Value.string (bs [])) := HR.out.cell 2 _ rfl
  have fP2 := HP.out.free 2
  have fR2 := HR.out.free 2
  have cP3 : w8.cell? ⟨w.heap.size + 1, 3, none⟩ = some (Value.string (bs [])) := HP.out.cell 3 _ rfl
  have cR3 : w8.cell? ⟨w.heap.size, 3, none⟩ = some (Value.string (bs [])) := HR.out.cell 3 _ rfl
  have fP3 := HP.out.free 3
  have fR3 := HR.out.free 3
  have hzP := HP.out.lt
  have hzR := HR.out.lt
  have cS0 : w8.cell? ⟨w6.heap.size, 0, none⟩ = some (.string (bs a)) := HS.out.cell 0 _ rfl
  have hzS := HS.out.lt
  go_wp2_with fail
  refine bodyPost_ret (v := .tuple #[persV f [] [] [], .int .i64 0]) (by simp [results, Tryz.results144, go_sem, *]) rfl ⟨rfl, ?_⟩
  repeat (first | exact HK.out | refine kept_set ?_ _ _ _ (by omega) | exact (HK.out).trans (kept_drewN _ _))

set_option maxRecDepth 100000 in
set_option maxHeartbeats 3200000 in
theorem parse_none1_n (l : Bs) (w : World) (hg : Gnd w) (hs : l.length ≤ 1000000) (hl : lineB l = true) (t : Bs) (HC : Hid (cleanL l = t)) (HNB : Hid (∀ r, t ≠ 123 :: r)) (ht : t.length ≤ 1000001) (hcnt : t.count 44 ≤ 2) (HA1 : Hid (([] : Bs).any (inSet setC) = false)) (HA2 : Hid (t.any (inSet setN) = false)) (a : Bs) (HSP : Hid (splitC 44 t = [a])) (ha : a.length ≤ 1000010) (HFA : Hid (cleanL a = []))  :
    Calls Tryz.prog 144 #[.string (bs l)] w fun e w' => e = .returned (.tuple #[persV [] [] [] [], .int .i64 8]) ∧ Kept w w' := by
  have hcl := cleanL_le l
  go_enter Tryz.func144, Tryz.ntmps144
  go_wp2_with fail
  refine (line_any l _ (by omega)).mono ?_
  rintro e w1 ⟨rfl, n, rfl⟩
  rw [hl]
  go_wp2_with fail
  refine (clean_any l _ (hg.kept (((kept_alloc w _).trans (kept_alloc _ _)).trans (kept_drewN _ n))) (by omega)).mono ?_
  rintro e w2 ⟨rfl, hk2⟩
  have HP0 := Lib.hid ((Blk.new (w.alloc (.cells #[Value.string (bs []), Value.string (bs []), Value.string (bs []), Value.string (bs [])] 32)) 32 #[Value.string (bs []), Value.string (bs []), Value.string (bs []), Value.string (bs [])]).drewN n)
  have bP : Blk w2 (w.heap.size + 1) 32 #[Value.string (bs []), Value.string (bs []), Value.string (bs []), Value.string (bs [])] := by have := HP0.out.kept hk2; simpa using this
  have bR : Blk w2 w.heap.size 32 #[Value.string (bs []), Value.string (bs []), Value.string (bs []), Value.string (bs [])] := (((Blk.new w 32 #[Value.string (bs []), Value.string (bs []), Value.string (bs []), Value.string (bs [])]).alloc _).drewN n).kept hk2
  have kk : Kept w w2 := (((kept_alloc w _).trans (kept_alloc _ _)).trans (kept_drewN _ n)).trans hk2
  clear HP0
  have HP := Lib.hid bP
  have HR := Lib.hid bR
  have HK := Lib.hid kk
  have HG := Lib.hid (hg.kept kk)
  clear bP bR kk hk2
  rw [HC.out]
  go_wp2_with fail
  refine (cutp_no t 123 _ HNB.out).mono ?_
  rintro e w' ⟨rfl, rfl⟩
  have cP0 : w2.cell? ⟨w.heap.size + 1, 0, none⟩ = some (Value.string (bs [])) := HP.out.cell 0 _ rfl
  have cR0 : w2.cell? ⟨w.heap.size, 0, none⟩ = some (Value.string (bs [])) := HR.out.cell 0 _ rfl
  have fP0 := HP.out.free 0
  have fR0 := HR.out.free 0
  have cP1 : w2.cell? ⟨w.heap.size + 1, 1, none⟩ = some (Value.string (bs [])) := HP.out.cell 1 _ rfl
  have cR1 : w2.cell? ⟨w.heap.size, 1, none⟩ = some (Value.string (bs [])) := HR.out.cell 1 _ rfl
  have fP1 := HP.out.free 1
  have fR1 := HR.out.free 1
  have cP2 : w2.cell? ⟨w.heap.size + 1, 2, none⟩ = some (Value.string (bs [])) := HP.out.cell 2 _ rfl
  have cR2 : w2.cell? ⟨w.heap.size, 2, none⟩ = some (Value.string (bs [])) := HR.out.cell 2 _ rfl
  have fP2 := HP.out.free 2
  have fR2 := HR.out.free 2
  have cP3 : w2.cell? ⟨w.heap.size + 1, 3, none⟩ = some (Value.string (bs [])) := HP.out.cell 3 _ rfl
  have cR3 : w2.cell? ⟨w.heap.size, 3, none⟩ = some (Value.string (bs [])) := HR.out.cell 3 _ rfl
  have fP3 := HP.out.free 3
  have fR3 := HR.out.free 3
  have hzP := HP.out.lt
  have hzR := HR.out.lt
  go_wp2_with fail
  refine (count_any t 44 _).mono ?_
  rintro e w' ⟨rfl, rfl⟩
  go_wp2_with fail
  have HSC : Hid (setC = [44, 59, 123, 125]) := rfl
  have HSN : Hid (setN = [59, 123, 125]) := rfl
  rw [← HSC.out]
  refine (cany_any [] setC _ asciiC  (by decide) (by decide) (by simp)).mono ?_
  rintro e w5 ⟨rfl, hk5⟩
  rw [HA1.out]
  clear cP0 cR0 fP0 fR0 cP1 cR1 fP1 fR1 cP2 cR2 fP2 fR2 cP3 cR3 fP3 fR3 hzP hzR
  have bP : Blk w5 (w.heap.size + 1) 32 #[Value.string (bs []), Value.string (bs []), Value.string (bs []), Value.string (bs [])] := (HP.out).kept hk5
  have bR : Blk w5 w.heap.size 32 #[Value.string (bs []), Value.string (bs []), Value.string (bs []), Value.string (bs [])] := (HR.out).kept hk5
  have kk : Kept w w5 := (HK.out).trans hk5
  clear HP HR HK HG
  have HP := Lib.hid bP
  have HR := Lib.hid bR
  have HK := Lib.hid kk
  have HG := Lib.hid (hg.kept kk)
  clear bP bR kk hk5
  have cP0 : w5.cell? ⟨w.heap.size + 1, 0, none⟩ = some (Value.string (bs [])) := HP.out.cell 0 _ rfl
  have cR0 : w5.cell? ⟨w.heap.size, 0, none⟩ = some (Value.string (bs [])) := HR.out.cell 0 _ rfl
  have fP0 := HP.out.free 0
  have fR0 := HR.out.free 0
  have cP1 : w5.cell? ⟨w.heap.size + 1, 1, none⟩ = some (Value.string (bs [])) := HP.out.cell 1 _ rfl
  have cR1 : w5.cell? ⟨w.heap.size, 1, none⟩ = some (Value.string (bs [])) := HR.out.cell 1 _ rfl
  have fP1 := HP.out.free 1
  have fR1 := HR.out.free 1
  have cP2 : w5.cell? ⟨w.heap.size + 1, 2, none⟩ = some (Value.string (bs [])) := HP.out.cell 2 _ rfl
  have cR2 : w5.cell? ⟨w.heap.size, 2, none⟩ = some (Value.string (bs [])) := HR.out.cell 2 _ rfl
  have fP2 := HP.out.free 2
  have fR2 := HR.out.free 2
  have cP3 : w5.cell? ⟨w.heap.size + 1, 3, none⟩ = some (Value.string (bs [])) := HP.out.cell 3 _ rfl
  have cR3 : w5.cell? ⟨w.heap.size, 3, none⟩ = some (Value.string (bs [])) := HR.out.cell 3 _ rfl
  have fP3 := HP.out.free 3
  have fR3 := HR.out.free 3
  have hzP := HP.out.lt
  have hzR := HR.out.lt
  go_wp2_with fail
  rw [← HSN.out]
  refine (cany_any t setN _ asciiN (by decide) (by decide) (by omega)).mono ?_
  rintro e w6 ⟨rfl, hk6⟩
  rw [HA2.out]
  clear cP0 cR0 fP0 fR0 cP1 cR1 fP1 fR1 cP2 cR2 fP2 fR2 cP3 cR3 fP3 fR3 hzP hzR
  have bP : Blk w6 (w.heap.size + 1) 32 #[Value.string (bs []), Value.string (bs []), Value.string (bs []), Value.string (bs [])] := (HP.out).kept hk6
  have bR : Blk w6 w.heap.size 32 #[Value.string (bs []), Value.string (bs []), Value.string (bs []), Value.string (bs [])] := (HR.out).kept hk6
  have kk : Kept w w6 := (HK.out).trans hk6
  clear HP HR HK HG
  have HP := Lib.hid bP
  have HR := Lib.hid bR
  have HK := Lib.hid kk
  have HG := Lib.hid (hg.kept kk)
  clear bP bR kk hk6
  have cP0 : w6.cell? ⟨w.heap.size + 1, 0, none⟩ = some (Value.string (bs [])) := HP.out.cell 0 _ rfl
  have cR0 : w6.cell? ⟨w.heap.size, 0, none⟩ = some (Value.string (bs [])) := HR.out.cell 0 _ rfl
  have fP0 := HP.out.free 0
  have fR0 := HR.out.free 0
  have cP1 : w6.cell? ⟨w.heap.size + 1, 1, none⟩ = some (Value.string (bs [])) := HP.out.cell 1 _ rfl
  have cR1 : w6.cell? ⟨w.heap.size, 1, none⟩ = some (Value.string (bs [])) := HR.out.cell 1 _ rfl
  have fP1 := HP.out.free 1
  have fR1 := HR.out.free 1
  have cP2 : w6.cell? ⟨w.heap.size + 1, 2, none⟩ = some (Value.string (bs [])) := HP.out.cell 2 _ rfl
  have cR2 : w6.cell? ⟨w.heap.size, 2, none⟩ = some (Value.string (bs [])) := HR.out.cell 2 _ rfl
  have fP2 := HP.out.free 2
  have fR2 := HR.out.free 2
  have cP3 : w6.cell? ⟨w.heap.size + 1, 3, none⟩ = some (Value.string (bs [])) := HP.out.cell 3 _ rfl
  have cR3 : w6.cell? ⟨w.heap.size, 3, none⟩ = some (Value.string (bs [])) := HR.out.cell 3 _ rfl
  have fP3 := HP.out.free 3
  have fR3 := HR.out.free 3
  have hzP := HP.out.lt
  have hzR := HR.out.lt
  go_wp2_with fail
  refine (split_any t 44 _ HG.out (by omega)).mono ?_
  rintro e w7 ⟨rfl, hw7⟩
  have hk7 : Kept w6 w7 := by rw [hw7]; exact kept_alloc _ _
  have bS : Blk w7 w6.heap.size 9 (strCells (splitC 44 t)).toArray := by rw [hw7]; exact Blk.new _ _ _
  have hB : w6.heap.size ≠ w.heap.size + 1 := by omega
  clear cP0 cR0 fP0 fR0 cP1 cR1 fP1 fR1 cP2 cR2 fP2 fR2 cP3 cR3 fP3 fR3 hzP hzR
  have bP : Blk w7 (w.heap.size + 1) 32 #[Value.string (bs []), Value.string (bs []), Value.string (bs []), Value.string (bs [])] := (HP.out).kept hk7
  have bR : Blk w7 w.heap.size 32 #[Value.string (bs []), Value.string (bs []), Value.string (bs []), Value.string (bs [])] := (HR.out).kept hk7
  have kk : Kept w w7 := (HK.out).trans hk7
  clear HP HR HK HG
  have HP := Lib.hid bP
  have HR := Lib.hid bR
  have HK := Lib.hid kk
  have HG := Lib.hid (hg.kept kk)
  clear bP bR kk hk7
  clear hw7
  rw [HSP.out]
  rw [HSP.out] at bS
  have HS : Hid (Blk w7 w6.heap.size 9 #[Value.string (bs a)]) := bS
  clear bS
  have cP0 : w7.cell? ⟨w.heap.size + 1, 0, none⟩ = some (Value.string (bs [])) := HP.out.cell 0 _ rfl
  have cR0 : w7.cell? ⟨w.heap.size, 0, none⟩ = some (Value.string (bs [])) := HR.out.cell 0 _ rfl
  have fP0 := HP.out.free 0
  have fR0 := HR.out.free 0
  have cP1 : w7.cell? ⟨w.heap.size + 1, 1, none⟩ = some (Value.string (bs [])) := HP.out.cell 1 _ rfl
  have cR1 : w7.cell? ⟨w.heap.size, 1, none⟩ = some (Value.string (bs [])) := HR.out.cell 1 _ rfl
  have fP1 := HP.out.free 1
  have fR1 := HR.out.free 1
  have cP2 : w7.cell? ⟨w.heap.size + 1, 2, none⟩ = some (Value.string (bs [])) := HP.out.cell 2 _ rfl
  have cR2 : w7.cell? ⟨w.heap.size, 2, none⟩ = some (Value.string (bs [])) := HR.out.cell 2 _ rfl
  have fP2 := HP.out.free 2
  have fR2 := HR.out.free 2
  have cP3 : w7.cell? ⟨w.heap.size + 1, 3, none⟩ = some (Value.string (bs [])) := HP.out.cell 3 _ rfl
  have cR3 : w7.cell? ⟨w.heap.size, 3, none⟩ = some (Value.string (bs [])) := HR.out.cell 3 _ rfl
  have fP3 := HP.out.free 3
  have fR3 := HR.out.free 3
  have hzP := HP.out.lt
  have hzR := HR.out.lt
  have cS0 : w7.cell? ⟨w6.heap.size, 0, none⟩ = some (.string (bs a)) := HS.out.cell 0 _ rfl
  have hzS := HS.out.lt
  go_wp2_with fail
  refine (clean_any a _ HG.out (by omega)).mono ?_
  rintro e w8 ⟨rfl, hk8⟩
  clear cS0 hzS
  clear cP0 cR0 fP0 fR0 cP1 cR1 fP1 fR1 cP2 cR2 fP2 fR2 cP3 cR3 fP3 fR3 hzP hzR
  have bS : Blk w8 w6.heap.size 9 #[Value.string (bs a)] := (HS.out).kept hk8
  clear HS
  have HS := Lib.hid bS
  clear bS
  have bP : Blk w8 (w.heap.size + 1) 32 #[Value.string (bs []), Value.string (bs []), Value.string (bs []), Value.string (bs [])] := (HP.out).kept hk8
  have bR : Blk w8 w.heap.size 32 #[Value.string (bs []), Value.string (bs []), Value.string (bs []), Value.string (bs [])] := (HR.out).kept hk8
  have kk : Kept w w8 := (HK.out).trans hk8
  clear HP HR HK HG
  have HP := Lib.hid bP
  have HR := Lib.hid bR
  have HK := Lib.hid kk
  have HG := Lib.hid (hg.kept kk)
  clear bP bR kk hk8
  rw [HFA.out]
  have cP0 : w8.cell? ⟨w.heap.size + 1, 0, none⟩ = some (Value.string (bs [])) := HP.out.cell 0 _ rfl
  have cR0 : w8.cell? ⟨w.heap.size, 0, none⟩ = some (Value.string (bs [])) := HR.out.cell 0 _ rfl
  have fP0 := HP.out.free 0
  have fR0 := HR.out.free 0
  have cP1 : w8.cell? ⟨w.heap.size + 1, 1, none⟩ = some (Value.string (bs [])) := HP.out.cell 1 _ rfl
  have cR1 : w8.cell? ⟨w.heap.size, 1, none⟩ = some (Value.string (bs [])) := HR.out.cell 1 _ rfl
  have fP1 := HP.out.free 1
  have fR1 := HR.out.free 1
  have cP2 : w8.cell? ⟨w.heap.size + 1, 2, none⟩ = some (Value.string (bs [])) := HP.out.cell 2 _ rfl
  have cR2 : w8.cell? ⟨w.heap.size, 2, none⟩ = some (Value.string (bs [])) := HR.out.cell 2 _ rfl
  have fP2 := HP.out.free 2
  have fR2 := HR.out.free 2
  have cP3 : w8.cell? ⟨w.heap.size + 1, 3, none⟩ = some (Value.string (bs [])) := HP.out.cell 3 _ rfl
  have cR3 : w8.cell? ⟨w.heap.size, 3, none⟩ = some (Value.string (bs [])) := HR.out.cell 3 _ rfl
  have fP3 := HP.out.free 3
  have fR3 := HR.out.free 3
  have hzP := HP.out.lt
  have hzR := HR.out.lt
  have cS0 : w8.cell? ⟨w6.heap.size, 0, none⟩ = some (.string (bs a)) := HS.out.cell 0 _ rfl
  have hzS := HS.out.lt
  go_wp2_with fail
  refine bodyPost_ret (v := .tuple #[persV [] [] [] [], .int .i64 8]) (by simp [results, Tryz.results144, go_sem, *]) rfl ⟨rfl, ?_⟩
  repeat (first | exact HK.out | refine kept_set ?_ _ _ _ (by omega) | exact (HK.out).trans (kept_drewN _ _))

set_option maxRecDepth 100000 in
set_option maxHeartbeats 3200000 in
theorem parse_ok2_n (l : Bs) (w : World) (hg : Gnd w) (hs : l.length ≤ 1000000) (hl : lineB l = true) (t : Bs) (HC : Hid (cleanL l = t)) (HNB : Hid (∀ r, t ≠ 123 :: r)) (ht : t.length ≤ 1000001) (hcnt : t.count 44 ≤ 2) (HA1 : Hid (([] : Bs).any (inSet setC) = false)) (HA2 : Hid (t.any (inSet setN) = false)) (a b : Bs) (HSP : Hid (splitC 44 t = [a, b])) (ha : a.length ≤ 1000010) (hb : b.length ≤ 1000010) (f : Bs) (HFA : Hid (cleanL a = f)) (g : Bs) (HFB : Hid (cleanL b = g)) (hf : ¬ f = []) (hfe : f.isEmpty = false) :
    Calls Tryz.prog 144 #[.string (bs l)] w fun e w' => e = .returned (.tuple #[persV f g [] [], .int .i64 0]) ∧ Kept w w' := by
  have hcl := cleanL_le l
  go_enter Tryz.func144, Tryz.ntmps144
  go_wp2_with fail
  refine (line_any l _ (by omega)).mono ?_
  rintro e w1 ⟨rfl, n, rfl⟩
  rw [hl]
  go_wp2_with fail
  refine (clean_any l _ (hg.kept (((kept_alloc w _).trans (kept_alloc _ _)).trans (kept_drewN _ n))) (by omega)).mono ?_
  rintro e w2 ⟨rfl, hk2⟩
  have HP0 := Lib.hid ((Blk.new (w.alloc (.cells #[Value.string (bs []), Value.string (bs []), Value.string (bs []), Value.string (bs [])] 32)) 32 #[Value.string (bs []), Value.string (bs []), Value.string (bs []), Value.string (bs [])]).drewN n)
  have bP : Blk w2 (w.heap.size + 1) 32 #[Value.string (bs []), Value.string (bs []), Value.string (bs []), Value.string (bs [])] := by have := HP0.out.kept hk2; simpa using this
  have bR : Blk w2 w.heap.size 32 #[Value.string (bs []), Value.string (bs []), Value.string (bs []), Value.string (bs [])] := (((Blk.new w 32 #[Value.string (bs []), Value.string (bs []), Value.string (bs []), Value.string (bs [])]).alloc _).drewN n).kept hk2
  have kk : Kept w w2 := (((kept_alloc w _).trans (kept_alloc _ _)).trans (kept_drewN _ n)).trans hk2
  clear HP0
  have HP := Lib.hid bP
  have HR := Lib.hid bR
  have HK := Lib.hid kk
  have HG := Lib.hid (hg.kept kk)
  clear bP bR kk hk2
  rw [HC.out]
  go_wp2_with fail
  refine (cutp_no t 123 _ HNB.out).mono ?_
  rintro e w' ⟨rfl, rfl⟩
  have cP0 : w2.cell? ⟨w.heap.size + 1, 0, none⟩ = some (Value.string (bs [])) := HP.out.cell 0 _ rfl
  have cR0 : w2.cell? ⟨w.heap.size, 0, none⟩ = some (Value.string (bs [])) := HR.out.cell 0 _ rfl
  have fP0 := HP.out.free 0
  have fR0 := HR.out.free 0
  have cP1 : w2.cell? ⟨w.heap.size + 1, 1, none⟩ = some (Value.string (bs [])) := HP.out.cell 1 _ rfl
  have cR1 : w2.cell? ⟨w.heap.size, 1, none⟩ = some (Value.string (bs [])) := HR.out.cell 1 _ rfl
  have fP1 := HP.out.free 1
  have fR1 := HR.out.free 1
  have cP2 : w2.cell? ⟨w.heap.size + 1, 2, none⟩ = some (Value.string (bs [])) := HP.out.cell 2 _ rfl
  have cR2 : w2.cell? ⟨w.heap.size, 2, none⟩ = some (Value.string (bs [])) := HR.out.cell 2 _ rfl
  have fP2 := HP.out.free 2
  have fR2 := HR.out.free 2
  have cP3 : w2.cell? ⟨w.heap.size + 1, 3, none⟩ = some (Value.string (bs [])) := HP.out.cell 3 _ rfl
  have cR3 : w2.cell? ⟨w.heap.size, 3, none⟩ = some (Value.string (bs [])) := HR.out.cell 3 _ rfl
  have fP3 := HP.out.free 3
  have fR3 := HR.out.free 3
  have hzP := HP.out.lt
  have hzR := HR.out.lt
  go_wp2_with fail
  refine (count_any t 44 _).mono ?_
  rintro e w' ⟨rfl, rfl⟩
  go_wp2_with fail
  have HSC : Hid (setC = [44, 59, 123, 125]) := rfl
  have HSN : Hid (setN = [59, 123, 125]) := rfl
  rw [← HSC.out]
  refine (cany_any [] setC _ asciiC  (by decide) (by decide) (by simp)).mono ?_
  rintro e w5 ⟨rfl, hk5⟩
  rw [HA1.out]
  clear cP0 cR0 fP0 fR0 cP1 cR1 fP1 fR1 cP2 cR2 fP2 fR2 cP3 cR3 fP3 fR3 hzP hzR
  have bP : Blk w5 (w.heap.size + 1) 32 #[Value.string (bs []), Value.string (bs []), Value.string (bs []), Value.string (bs [])] := (HP.out).kept hk5
  have bR : Blk w5 w.heap.size 32 #[Value.string (bs []), Value.string (bs []), Value.string (bs []), Value.string (bs [])] := (HR.out).kept hk5
  have kk : Kept w w5 := (HK.out).trans hk5
  clear HP HR HK HG
  have HP := Lib.hid bP
  have HR := Lib.hid bR
  have HK := Lib.hid kk
  have HG := Lib.hid (hg.kept kk)
  clear bP bR kk hk5
  have cP0 : w5.cell? ⟨w.heap.size + 1, 0, none⟩ = some (Value.string (bs [])) := HP.out.cell 0 _ rfl
  have cR0 : w5.cell? ⟨w.heap.size, 0, none⟩ = some (Value.string (bs [])) := HR.out.cell 0 _ rfl
  have fP0 := HP.out.free 0
  have fR0 := HR.out.free 0
  have cP1 : w5.cell? ⟨w.heap.size + 1, 1, none⟩ = some (Value.string (bs [])) := HP.out.cell 1 _ rfl
  have cR1 : w5.cell? ⟨w.heap.size, 1, none⟩ = some (Value.string (bs [])) := HR.out.cell 1 _ rfl
  have fP1 := HP.out.free 1
  have fR1 := HR.out.free 1
  have cP2 : w5.cell? ⟨w.heap.size + 1, 2, none⟩ = some (Value.string (bs [])) := HP.out.cell 2 _ rfl
  have cR2 : w5.cell? ⟨w.heap.size, 2, none⟩ = some (Value.string (bs [])) := HR.out.cell 2 _ rfl
  have fP2 := HP.out.free 2
  have fR2 := HR.out.free 2
  have cP3 : w5.cell? ⟨w.heap.size + 1, 3, none⟩ = some (Value.string (bs [])) := HP.out.cell 3 _ rfl
  have cR3 : w5.cell? ⟨w.heap.size, 3, none⟩ = some (Value.string (bs [])) := HR.out.cell 3 _ rfl
  have fP3 := HP.out.free 3
  have fR3 := HR.out.free 3
  have hzP := HP.out.lt
  have hzR := HR.out.lt
  go_wp2_with fail
  rw [← HSN.out]
  refine (cany_any t setN _ asciiN (by decide) (by decide) (by omega)).mono ?_
  rintro e w6 ⟨rfl, hk6⟩
  rw [HA2.out]
  clear cP0 cR0 fP0 fR0 cP1 cR1 fP1 fR1 cP2 cR2 fP2 fR2 cP3 cR3 fP3 fR3 hzP hzR
  have bP : Blk w6 (w.heap.size + 1) 32 #[Value.string (bs []), Value.string (bs []), Value.string (bs []), Value.string (bs [])] := (HP.out).kept hk6
  have bR : Blk w6 w.heap.size 32 #[Value.string (bs []), Value.string (bs []), Value.string (bs []), Value.string (bs [])] := (HR.out).kept hk6
  have kk : Kept w w6 := (HK.out).trans hk6
  clear HP HR HK HG
  have HP := Lib.hid bP
  have HR := Lib.hid bR
  have HK := Lib.hid kk
  have HG := Lib.hid (hg.kept kk)
  clear bP bR kk hk6
  have cP0 : w6.cell? ⟨w.heap.size + 1, 0, none⟩ = some (Value.string (bs [])) := HP.out.cell 0 _ rfl
  have cR0 : w6.cell? ⟨w.heap.size, 0, none⟩ = some (Value.string (bs [])) := HR.out.cell 0 _ rfl
  have fP0 := HP.out.free 0
  have fR0 := HR.out.free 0
  have cP1 : w6.cell? ⟨w.heap.size + 1, 1, none⟩ = some (Value.string (bs [])) := HP.out.cell 1 _ rfl
  have cR1 : w6.cell? ⟨w.heap.size, 1, none⟩ = some (Value.string (bs [])) := HR.out.cell 1 _ rfl
  have fP1 := HP.out.free 1
  have fR1 := HR.out.free 1
  have cP2 : w6.cell? ⟨w.heap.size + 1, 2, none⟩ = some (Value.string (bs [])) := HP.out.cell 2 _ rfl
  have cR2 : w6.cell? ⟨w.heap.size, 2, none⟩ = some (Value.string (bs [])) := HR.out.cell 2 _ rfl
  have fP2 := HP.out.free 2
  have fR2 := HR.out.free 2
  have cP3 : w6.cell? ⟨w.heap.size + 1, 3, none⟩ = some (Value.string (bs [])) := HP.out.cell 3 _ rfl
  have cR3 : w6.cell? ⟨w.heap.size, 3, none⟩ = some (Value.string (bs [])) := HR.out.cell 3 _ rfl
  have fP3 := HP.out.free 3
  have fR3 := HR.out.free 3
  have hzP := HP.out.lt
  have hzR := HR.out.lt
  go_wp2_with fail
  refine (split_any t 44 _ HG.out (by omega)).mono ?_
  rintro e w7 ⟨rfl, hw7⟩
  have hk7 : Kept w6 w7 := by rw [hw7]; exact kept_alloc _ _
  have bS : Blk w7 w6.heap.size 9 (strCells (splitC 44 t)).toArray := by rw [hw7]; exact Blk.new _ _ _
  have hB : w6.heap.size ≠ w.heap.size + 1 := by omega
  clear cP0 cR0 fP0 fR0 cP1 cR1 fP1 fR1 cP2 cR2 fP2 fR2 cP3 cR3 fP3 fR3 hzP hzR
  have bP : Blk w7 (w.heap.size + 1) 32 #[Value.string (bs []), Value.string (bs []), Value.string (bs []), Value.string (bs [])] := (HP.out).kept hk7
  have bR : Blk w7 w.heap.size 32 #[Value.string (bs []), Value.string (bs []), Value.string (bs []), Value.string (bs [])] := (HR.out).kept hk7
  have kk : Kept w w7 := (HK.out).trans hk7
  clear HP HR HK HG
  have HP := Lib.hid bP
  have HR := Lib.hid bR
  have HK := Lib.hid kk
  have HG := Lib.hid (hg.kept kk)
  clear bP bR kk hk7
  clear hw7
  rw [HSP.out]
  rw [HSP.out] at bS
  have HS : Hid (Blk w7 w6.heap.size 9 #[Value.string (bs a), Value.string (bs b)]) := bS
  clear bS
  have cP0 : w7.cell? ⟨w.heap.size + 1, 0, none⟩ = some (Value.string (bs [])) := HP.out.cell 0 _ rfl
  have cR0 : w7.cell? ⟨w.heap.size, 0, none⟩ = some (Value.string (bs [])) := HR.out.cell 0 _ rfl
  have fP0 := HP.out.free 0
  have fR0 := HR.out.free 0
  have cP1 : w7.cell? ⟨w.heap.size + 1, 1, none⟩ = some (Value.string (bs [])) := HP.out.cell 1 _ rfl
  have cR1 : w7.cell? ⟨w.heap.size, 1, none⟩ = some (Value.string (bs [])) := HR.out.cell 1 _ rfl
  have fP1 := HP.out.free 1
  have fR1 := HR.out.free 1
  have cP2 : w7.cell? ⟨w.heap.size + 1, 2, none⟩ = some (Value.string (bs [])) := HP.out.cell 2 _ rfl
  have cR2 : w7.cell? ⟨w.heap.size, 2, none⟩ = some (Value.string (bs [])) := HR.out.cell 2 _ rfl
  have fP2 := HP.out.free 2
  have fR2 := HR.out.free 2
  have cP3 : w7.cell? ⟨w.heap.size + 1, 3, none⟩ = some (Value.string (bs [])) := HP.out.cell 3 _ rfl
  have cR3 : w7.cell? ⟨w.heap.size, 3, none⟩ = some (Value.string (bs [])) := HR.out.cell 3 _ rfl
  have fP3 := HP.out.free 3
  have fR3 := HR.out.free 3
  have hzP := HP.out.lt
  have hzR := HR.out.lt
  have cS0 : w7.cell? ⟨w6.heap.size, 0, none⟩ = some (.string (bs a)) := HS.out.cell 0 _ rfl
  have cS1 : w7.cell? ⟨w6.heap.size, 1, none⟩ = some (.string (bs b)) := HS.out.cell 1 _ rfl
  have hzS := HS.out.lt
  go_wp2_with fail
  refine (clean_any a _ HG.out (by omega)).mono ?_
  rintro e w8 ⟨rfl, hk8⟩
  clear cS0 cS1 hzS
  clear cP0 cR0 fP0 fR0 cP1 cR1 fP1 fR1 cP2 cR2 fP2 fR2 cP3 cR3 fP3 fR3 hzP hzR
  have bS : Blk w8 w6.heap.size 9 #[Value.string (bs a), Value.string (bs b)] := (HS.out).kept hk8
  clear HS
  have HS := Lib.hid bS
  clear bS
  have bP : Blk w8 (w.heap.size + 1) 32 #[Value.string (bs []), Value.string (bs []), Value.string (bs []), Value.string (bs [])] := (HP.out).kept hk8
  have bR : Blk w8 w.heap.size 32 #[Value.string (bs []), Value.string (bs []), Value.string (bs []), Value.string (bs [])] := (HR.out).kept hk8
  have kk : Kept w w8 := (HK.out).trans hk8
  clear HP HR HK HG
  have HP := Lib.hid bP
  have HR := Lib.hid bR
  have HK := Lib.hid kk
  have HG := Lib.hid (hg.kept kk)
  clear bP bR kk hk8
  rw [HFA.out]
  have cP0 : w8.cell? ⟨w.heap.size + 1, 0, none⟩ = some (Value.string (bs [])) := HP.out.cell 0 _ rfl
  have cR0 : w8.cell? ⟨w.heap.size, 0, none⟩ = some (Value.string (bs [])) := HR.out.cell 0 _ rfl
  have fP0 := HP.out.free 0
  have fR0 := HR.out.free 0
  have cP1 : w8.cell? ⟨w.heap.size + 1, 1, none⟩ = some (Value.string (bs [])) := HP.out.cell 1 _ rfl
  have cR1 : w8.cell? ⟨w.heap.size, 1, none⟩ = some (Value.string (bs [])) := HR.out.cell 1 _ rfl
  have fP1 := HP.out.free 1
  have fR1 := HR.out.free 1
  have cP2 : w8.cell? ⟨w.heap.size + 1, 2, none⟩ = some (Value.string (bs [])) := HP.out.cell 2 _ rfl
  have cR2 : w8.cell? ⟨w.heap.size, 2, none⟩ = some (Value.string (bs [])) := HR.out.cell 2 _ rfl
  have fP2 := HP.out.free 2
  have fR2 := HR.out.free 2
  have cP3 : w8.cell? ⟨w.heap.size + 1, 3, none⟩ = some (Value.string (bs [])) := HP.out.cell 3 _ rfl
  have cR3 : w8.cell? ⟨w.heap.size, 3, none⟩ = some (Value.string (bs [])) := HR.out.cell 3 _ rfl
  have fP3 := HP.out.free 3
  have fR3 := HR.out.free 3
  have hzP := HP.out.lt
  have hzR := HR.out.lt
  have cS0 : w8.cell? ⟨w6.heap.size, 0, none⟩ = some (.string (bs a)) := HS.out.cell 0 _ rfl
  have cS1 : w8.cell? ⟨w6.heap.size, 1, none⟩ = some (.string (bs b)) := HS.out.cell 1 _ rfl
  have hzS := HS.out.lt
  go_wp2_with fail
  refine (clean_any b _ (hg.kept (kept_set HK.out (w.heap.size + 1) 0 _ (by omega))) (by omega)).mono ?_
  rintro e w9 ⟨rfl, hk9⟩
  clear cS0 cS1 hzS
  clear cP0 cR0 fP0 fR0 cP1 cR1 fP1 fR1 cP2 cR2 fP2 fR2 cP3 cR3 fP3 fR3 hzP hzR
  have bS : Blk w9 w6.heap.size 9 #[Value.string (bs a), Value.string (bs b)] := ((HS.out).other (w.heap.size + 1) 0 (Value.string (bs f)) hB).kept hk9
  clear HS
  have HS := Lib.hid bS
  clear bS
  have bP : Blk w9 (w.heap.size + 1) 32 #[Value.string (bs f), Value.string (bs []), Value.string (bs []), Value.string (bs [])] := ((HP.out).set 0 (Value.string (bs f))).kept hk9
  have bR : Blk w9 w.heap.size 32 #[Value.string (bs []), Value.string (bs []), Value.string (bs []), Value.string (bs [])] := ((HR.out).other (w.heap.size + 1) 0 (Value.string (bs f)) (by omega)).kept hk9
  have kk : Kept w w9 := (kept_set (HK.out) (w.heap.size + 1) 0 (Value.string (bs f)) (by omega)).trans hk9
  clear HP HR HK HG
  have HP := Lib.hid bP
  have HR := Lib.hid bR
  have HK := Lib.hid kk
  have HG := Lib.hid (hg.kept kk)
  clear bP bR kk hk9
  rw [HFB.out]
  have cP0 : w9.cell? ⟨w.heap.size + 1, 0, none⟩ = some (Value.string (bs f)) := HP.out.cell 0 _ rfl
  have cR0 : w9.cell? ⟨w.heap.size, 0, none⟩ = some (Value.string (bs [])) := HR.out.cell 0 _ rfl
  have fP0 := HP.out.free 0
  have fR0 := HR.out.free 0
  have cP1 : w9.cell? ⟨w.heap.size + 1, 1, none⟩ = some (Value.string (bs [])) := HP.out.cell 1 _ rfl
  have cR1 : w9.cell? ⟨w.heap.size, 1, none⟩ = some (Value.string (bs [])) := HR.out.cell 1 _ rfl
  have fP1 := HP.out.free 1
  have fR1 := HR.out.free 1
  have cP2 : w9.cell? ⟨w.heap.size + 1, 2, none⟩ = some (Value.string (bs [])) := HP.out.cell 2 _ rfl
  have cR2 : w9.cell? ⟨w.heap.size, 2, none⟩ = some (Value.string (bs [])) := HR.out.cell 2 _ rfl
  have fP2 := HP.out.free 2
  have fR2 := HR.out.free 2
  have cP3 : w9.cell? ⟨w.heap.size + 1, 3, none⟩ = some (Value.string (bs [])) := HP.out.cell 3 _ rfl
  have cR3 : w9.cell? ⟨w.heap.size, 3, none⟩ = some (Value.string (bs [])) := HR.out.cell 3 _ rfl
  have fP3 := HP.out.free 3
  have fR3 := HR.out.free 3
  have hzP := HP.out.lt
  have hzR := HR.out.lt
  go_wp2_with fail
  refine bodyPost_ret (v := .tuple #[persV f g [] [], .int .i64 0]) (by simp [results, Tryz.results144, go_sem, *]) rfl ⟨rfl, ?_⟩
  repeat (first | exact HK.out | refine kept_set ?_ _ _ _ (by omega) | exact (HK.out).trans (kept_drewN _ _))

set_option maxRecDepth 100000 in
set_option maxHeartbeats 3200000 in
theorem parse_none2_n (l : Bs) (w : World) (hg : Gnd w) (hs : l.length ≤ 1000000) (hl : lineB l = true) (t : Bs) (HC : Hid (cleanL l = t)) (HNB : Hid (∀ r, t ≠ 123 :: r)) (ht : t.length ≤ 1000001) (hcnt : t.count 44 ≤ 2) (HA1 : Hid (([] : Bs).any (inSet setC) = false)) (HA2 : Hid (t.any (inSet setN) = false)) (a b : Bs) (HSP : Hid (splitC 44 t = [a, b])) (ha : a.length ≤ 1000010) (hb : b.length ≤ 1000010) (HFA : Hid (cleanL a = [])) (g : Bs) (HFB : Hid (cleanL b = g))  :
    Calls Tryz.prog 144 #[.string (bs l)] w fun e w' => e = .returned (.tuple #[persV [] [] [] [], .int .i64 8]) ∧ Kept w w' := by
  have hcl := cleanL_le l
  go_enter Tryz.func144, Tryz.ntmps144
  go_wp2_with fail
  refine (line_any l _ (by omega)).mono ?_
  rintro e w1 ⟨rfl, n, rfl⟩
  rw [hl]
  go_wp2_with fail
  refine (clean_any l _ (hg.kept (((kept_alloc w _).trans (kept_alloc _ _)).trans (kept_drewN _ n))) (by omega)).mono ?_
  rintro e w2 ⟨rfl, hk2⟩
  have HP0 := Lib.hid ((Blk.new (w.alloc (.cells #[Value.string (bs []), Value.string (bs []), Value.string (bs []), Value.string (bs [])] 32)) 32 #[Value.string (bs []), Value.string (bs []), Value.string (bs []), Value.string (bs [])]).drewN n)
  have bP : Blk w2 (w.heap.size + 1) 32 #[Value.string (bs []), Value.string (bs []), Value.string (bs []), Value.string (bs [])] := by have := HP0.out.kept hk2; simpa using this
  have bR : Blk w2 w.heap.size 32 #[Value.string (bs []), Value.string (bs []), Value.string (bs []), Value.string (bs [])] := (((Blk.new w 32 #[Value.string (bs []), Value.string (bs []), Value.string (bs []), Value.string (bs [])]).alloc _).drewN n).kept hk2
  have kk : Kept w w2 := (((kept_alloc w _).trans (kept_alloc _ _)).trans (kept_drewN _ n)).trans hk2
  clear HP0
  have HP := Lib.hid bP
  have HR := Lib.hid bR
  have HK := Lib.hid kk
  have HG := Lib.hid (hg.kept kk)
  clear bP bR kk hk2
  rw [HC.out]
  go_wp2_with fail
  refine (cutp_no t 123 _ HNB.out).mono ?_
  rintro e w' ⟨rfl, rfl⟩
  have cP0 : w2.cell? ⟨w.heap.size + 1, 0, none⟩ = some (Value.string (bs [])) := HP.out.cell 0 _ rfl
  have cR0 : w2.cell? ⟨w.heap.size, 0, none⟩ = some (Value.string (bs [])) := HR.out.cell 0 _ rfl
  have fP0 := HP.out.free 0
  have fR0 := HR.out.free 0
  have cP1 : w2.cell? ⟨w.heap.size + 1, 1, none⟩ = some (Value.string (bs [])) := HP.out.cell 1 _ rfl
  have cR1 : w2.cell? ⟨w.heap.size, 1, none⟩ = some (Value.string (bs [])) := HR.out.cell 1 _ rfl
  have fP1 := HP.out.free 1
  have fR1 := HR.out.free 1
  have cP2 : w2.cell? ⟨w.heap.size + 1, 2, none⟩ = some (Value.string (bs [])) := HP.out.cell 2 _ rfl
  have cR2 : w2.cell? ⟨w.heap.size, 2, none⟩ = some (Value.string (bs [])) := HR.out.cell 2 _ rfl
  have fP2 := HP.out.free 2
  have fR2 := HR.out.free 2
  have cP3 : w2.cell? ⟨w.heap.size + 1, 3, none⟩ = some (Value.string (bs [])) := HP.out.cell 3 _ rfl
  have cR3 : w2.cell? ⟨w.heap.size, 3, none⟩ = some (Value.string (bs [])) := HR.out.cell 3 _ rfl
  have fP3 := HP.out.free 3
  have fR3 := HR.out.free 3
  have hzP := HP.out.lt
  have hzR := HR.out.lt
  go_wp2_with fail
  refine (count_any t 44 _).mono ?_
  rintro e w' ⟨rfl, rfl⟩
  go_wp2_with fail
  have HSC : Hid (setC = [44, 59, 123, 125]) := rfl
  have HSN : Hid (setN = [59, 123, 125]) := rfl
  rw [← HSC.out]
  refine (cany_any [] setC _ asciiC  (by decide) (by decide) (by simp)).mono ?_
  rintro e w5 ⟨rfl, hk5⟩
  rw [HA1.out]
  clear cP0 cR0 fP0 fR0 cP1 cR1 fP1 fR1 cP2 cR2 fP2 fR2 cP3 cR3 fP3 fR3 hzP hzR
  have bP : Blk w5 (w.heap.size + 1) 32 #[Value.string (bs []), Value.string (bs []), Value.string (bs []), Value.string (bs [])] := (HP.out).kept hk5
  have bR : Blk w5 w.heap.size 32 #[Value.string (bs []), Value.string (bs []), Value.string (bs []), Value.string (bs [])] := (HR.out).kept hk5
  have kk : Kept w w5 := (HK.out).trans hk5
  clear HP HR HK HG
  have HP := Lib.hid bP
  have HR := Lib.hid bR
  have HK := Lib.hid kk
  have HG := Lib.hid (hg.kept kk)
  clear bP bR kk hk5
  have cP0 : w5.cell? ⟨w.heap.size + 1, 0, none⟩ = some (Value.string (bs [])) := HP.out.cell 0 _ rfl
  have cR0 : w5.cell? ⟨w.heap.size, 0, none⟩ = some (Value.string (bs [])) := HR.out.cell 0 _ rfl
  have fP0 := HP.out.free 0
  have fR0 := HR.out.free 0
  have cP1 : w5.cell? ⟨w.heap.size + 1, 1, none⟩ = some (Value.string (bs [])) := HP.out.cell 1 _ rfl
  have cR1 : w5.cell? ⟨w.heap.size, 1, none⟩ = some (Value.string (bs [])) := HR.out.cell 1 _ rfl
  have fP1 := HP.out.free 1
  have fR1 := HR.out.free 1
  have cP2 : w5.cell? ⟨w.heap.size + 1, 2, none⟩ = some (Value.string (bs [])) := HP.out.cell 2 _ rfl
  have cR2 : w5.cell? ⟨w.heap.size, 2, none⟩ = some (Value.string (bs [])) := HR.out.cell 2 _ rfl
  have fP2 := HP.out.free 2
  have fR2 := HR.out.free 2
  have cP3 : w5.cell? ⟨w.heap.size + 1, 3, none⟩ = some (Value.string (bs [])) := HP.out.cell 3 _ rfl
  have cR3 : w5.cell? ⟨w.heap.size, 3, none⟩ = some (Value.string (bs [])) := HR.out.cell 3 _ rfl
  have fP3 := HP.out.free 3
  have fR3 := HR.out.free 3
  have hzP := HP.out.lt
  have hzR := HR.out.lt
  go_wp2_with fail
  rw [← HSN.out]
  refine (cany_any t setN _ asciiN (by decide) (by decide) (by omega)).mono ?_
  rintro e w6 ⟨rfl, hk6⟩
  rw [HA2.out]
  clear cP0 cR0 fP0 fR0 cP1 cR1 fP1 fR1 cP2 cR2 fP2 fR2 cP3 cR3 fP3 fR3 hzP hzR
  have bP : Blk w6 (w.heap.size + 1) 32 #[Value.string (bs []), Value.string (bs []), Value.string (bs []), Value.string (bs [])] := (HP.out).kept hk6
  have bR : Blk w6 w.heap.size 32 #[Value.string (bs []), Value.string (bs []), Value.string (bs []), Value.string (bs [])] := (HR.out).kept hk6
  have kk : Kept w w6 := (HK.out).trans hk6
  clear HP HR HK HG
  have HP := Lib.hid bP
  have HR := Lib.hid bR
  have HK := Lib.hid kk
  have HG := Lib.hid (hg.kept kk)
  clear bP bR kk hk6
  have cP0 : w6.cell? ⟨w.heap.size + 1, 0, none⟩ = some (Value.string (bs [])) := HP.out.cell 0 _ rfl
  have cR0 : w6.cell? ⟨w.heap.size, 0, none⟩ = some (Value.string (bs [])) := HR.out.cell 0 _ rfl
  have fP0 := HP.out.free 0
  have fR0 := HR.out.free 0
  have cP1 : w6.cell? ⟨w.heap.size + 1, 1, none⟩ = some (Value.string (bs [])) := HP.out.cell 1 _ rfl
  have cR1 : w6.cell? ⟨w.heap.size, 1, none⟩ = some (Value.string (bs [])) := HR.out.cell 1 _ rfl
  have fP1 := HP.out.free 1
  have fR1 := HR.out.free 1
  have cP2 : w6.cell? ⟨w.heap.size + 1, 2, none⟩ = some (Value.string (bs [])) := HP.out.cell 2 _ rfl
  have cR2 : w6.cell? ⟨w.heap.size, 2, none⟩ = some (Value.string (bs [])) := HR.out.cell 2 _ rfl
  have fP2 := HP.out.free 2
  have fR2 := HR.out.free 2
  have cP3 : w6.cell? ⟨w.heap.size + 1, 3, none⟩ = some (Value.string (bs [])) := HP.out.cell 3 _ rfl
  have cR3 : w6.cell? ⟨w.heap.size, 3, none⟩ = some (Value.string (bs [])) := HR.out.cell 3 _ rfl
  have fP3 := HP.out.free 3
  have fR3 := HR.out.free 3
  have hzP := HP.out.lt
  have hzR := HR.out.lt
  go_wp2_with fail
  refine (split_any t 44 _ HG.out (by omega)).mono ?_
  rintro e w7 ⟨rfl, hw7⟩
  have hk7 : Kept w6 w7 := by rw [hw7]; exact kept_alloc _ _
  have bS : Blk w7 w6.heap.size 9 (strCells (splitC 44 t)).toArray := by rw [hw7]; exact Blk.new _ _ _
  have hB : w6.heap.size ≠ w.heap.size + 1 := by omega
  clear cP0 cR0 fP0 fR0 cP1 cR1 fP1 fR1 cP2 cR2 fP2 fR2 cP3 cR3 fP3 fR3 hzP hzR
  have bP : Blk w7 (w.heap.size + 1) 32 #[Value.string (bs []), Value.string (bs []), Value.string (bs []), Value.string (bs [])] := (HP.out).kept hk7
  have bR : Blk w7 w.heap.size 32 #[Value.string (bs []), Value.string (bs []), Value.string (bs []), Value.string (bs [])] := (HR.out).kept hk7
  have kk : Kept w w7 := (HK.out).trans hk7
  clear HP HR HK HG
  have HP := Lib.hid bP
  have HR := Lib.hid bR
  have HK := Lib.hid kk
  have HG := Lib.hid (hg.kept kk)
  clear bP bR kk hk7
  clear hw7
  rw [HSP.out]
  rw [HSP.out] at bS
  have HS : Hid (Blk w7 w6.heap.size 9 #[Value.string (bs a), Value.string (bs b)]) := bS
  clear bS
  have cP0 : w7.cell? ⟨w.heap.size + 1, 0, none⟩ = some (Value.string (bs [])) := HP.out.cell 0 _ rfl
  have cR0 : w7.cell? ⟨w.heap.size, 0, none⟩ = some (Value.string (bs [])) := HR.out.cell 0 _ rfl
  have fP0 := HP.out.free 0
  have fR0 := HR.out.free 0
  have cP1 : w7.cell? ⟨w.heap.size + 1, 1, none⟩ = some (Value.string (bs [])) := HP.out.cell 1 _ rfl
  have cR1 : w7.cell? ⟨w.heap.size, 1, none⟩ = some (Value.string (bs [])) := HR.out.cell 1 _ rfl
  have fP1 := HP.out.free 1
  have fR1 := HR.out.free 1
  have cP2 : w7.cell? ⟨w.heap.size + 1, 2, none⟩ = some (Value.string (bs [])) := HP.out.cell 2 _ rfl
  have cR2 : w7.cell? ⟨w.heap.size, 2, none⟩ = some (Value.string (bs [])) := HR.out.cell 2 _ rfl
  have fP2 := HP.out.free 2
  have fR2 := HR.out.free 2
  have cP3 : w7.cell? ⟨w.heap.size + 1, 3, none⟩ = some (Value.string (bs [])) := HP.out.cell 3 _ rfl
  have cR3 : w7.cell? ⟨w.heap.size, 3, none⟩ = some (Value.string (bs [])) := HR.out.cell 3 _ rfl
  have fP3 := HP.out.free 3
  have fR3 := HR.out.free 3
  have hzP := HP.out.lt
  have hzR := HR.out.lt
  have cS0 : w7.cell? ⟨w6.heap.size, 0, none⟩ = some (.string (bs a)) := HS.out.cell 0 _ rfl
  have cS1 : w7.cell? ⟨w6.heap.size, 1, none⟩ = some (.string (bs b)) := HS.out.cell 1 _ rfl
  have hzS := HS.out.lt
  go_wp2_with fail
  refine (clean_any a _ HG.out (by omega)).mono ?_
  rintro e w8 ⟨rfl, hk8⟩
  clear cS0 cS1 hzS
  clear cP0 cR0 fP0 fR0 cP1 cR1 fP1 fR1 cP2 cR2 fP2 fR2 cP3 cR3 fP3 fR3 hzP hzR
  have bS : Blk w8 w6.heap.size 9 #[Value.string (bs a), Value.string (bs b)] := (HS.out).kept hk8
  clear HS
  have HS := Lib.hid bS
  clear bS
  have bP : Blk w8 (w.heap.size + 1) 32 #[Value.string (bs []), Value.string (bs []), Value.string (bs []), Value.string (bs [])] := (HP.out).kept hk8
  have bR : Blk w8 w.heap.size 32 #[Value.string (bs []), Value.string (bs []), Value.string (bs []), Value.string (bs [])] := (HR.out).kept hk8
  have kk : Kept w w8 := (HK.out).trans hk8
  clear HP HR HK HG
  have HP := Lib.hid bP
  have HR := Lib.hid bR
  have HK := Lib.hid kk
  have HG := Lib.hid (hg.kept kk)
  clear bP bR kk hk8
  rw [HFA.out]
  have cP0 : w8.cell? ⟨w.heap.size + 1, 0, none⟩ = some (Value.string (bs [])) := HP.out.cell 0 _ rfl
  have cR0 : w8.cell? ⟨w.heap.size, 0, none⟩ = some (Value.string (bs [])) := HR.out.cell 0 _ rfl
  have fP0 := HP.out.free 0
  have fR0 := HR.out.free 0
  have cP1 : w8.cell? ⟨w.heap.size + 1, 1, none⟩ = some (Value.string (bs [])) := HP.out.cell 1 _ rfl
  have cR1 : w8.cell? ⟨w.heap.size, 1, none⟩ = some (Value.string (bs [])) := HR.out.cell 1 _ rfl
  have fP1 := HP.out.free 1
  have fR1 := HR.out.free 1
  have cP2 : w8.cell? ⟨w.heap.size + 1, 2, none⟩ = some (Value.string (bs [])) := HP.out.cell 2 _ rfl
  have cR2 : w8.cell? ⟨w.heap.size, 2, none⟩ = some (Value.string (bs [])) := HR.out.cell 2 _ rfl
  have fP2 := HP.out.free 2
  have fR2 := HR.out.free 2
  have cP3 : w8.cell? ⟨w.heap.size + 1, 3, none⟩ = some (Value.string (bs [])) := HP.out.cell 3 _ rfl
  have cR3 : w8.cell? ⟨w.heap.size, 3, none⟩ = some (Value.string (bs [])) := HR.out.cell 3 _ rfl
  have fP3 := HP.out.free 3
  have fR3 := HR.out.free 3
  have hzP := HP.out.lt
  have hzR := HR.out.lt
  have cS0 : w8.cell? ⟨w6.heap.size, 0, none⟩ = some (.string (bs a)) := HS.out.cell 0 _ rfl
  have cS1 : w8.cell? ⟨w6.heap.size, 1, none⟩ = some (.string (bs b)) := HS.out.cell 1 _ rfl
  have hzS := HS.out.lt
  go_wp2_with fail
  refine (clean_any b _ (hg.kept (kept_set HK.out (w.heap.size + 1) 0 _ (by omega))) (by omega)).mono ?_
  rintro e w9 ⟨rfl, hk9⟩
  clear cS0 cS1 hzS
  clear cP0 cR0 fP0 fR0 cP1 cR1 fP1 fR1 cP2 cR2 fP2 fR2 cP3 cR3 fP3 fR3 hzP hzR
  have bS : Blk w9 w6.heap.size 9 #[Value.string (bs a), Value.string (bs b)] := ((HS.out).other (w.heap.size + 1) 0 (Value.string (bs [])) hB).kept hk9
  clear HS
  have HS := Lib.hid bS
  clear bS
  have bP : Blk w9 (w.heap.size + 1) 32 #[Value.string (bs []), Value.string (bs []), Value.string (bs []), Value.string (bs [])] := ((HP.out).set 0 (Value.string (bs []))).kept hk9
  have bR : Blk w9 w.heap.size 32 #[Value.string (bs []), Value.string (bs []), Value.string (bs []), Value.string (bs [])] := ((HR.out).other (w.heap.size + 1) 0 (Value.string (bs [])) (by omega)).kept hk9
  have kk : Kept w w9 := (kept_set (HK.out) (w.heap.size + 1) 0 (Value.string (bs [])) (by omega)).trans hk9
  clear HP HR HK HG
  have HP := Lib.hid bP
  have HR := Lib.hid bR
  have HK := Lib.hid kk
  have HG := Lib.hid (hg.kept kk)
  clear bP bR kk hk9
  rw [HFB.out]
  have cP0 : w9.cell? ⟨w.heap.size + 1, 0, none⟩ = some (Value.string (bs [])) := HP.out.cell 0 _ rfl
  have cR0 : w9.cell? ⟨w.heap.size, 0, none⟩ = some (Value.string (bs [])) := HR.out.cell 0 _ rfl
  have fP0 := HP.out.free 0
  have fR0 := HR.out.free 0
  have cP1 : w9.cell? ⟨w.heap.size + 1, 1, none⟩ = some (Value.string (bs [])) := HP.out.cell 1 _ rfl
  have cR1 : w9.cell? ⟨w.heap.size, 1, none⟩ = some (Value.string (bs [])) := HR.out.cell 1 _ rfl
  have fP1 := HP.out.free 1
  have fR1 := HR.out.free 1
  have cP2 : w9.cell? ⟨w.heap.size + 1, 2, none⟩ = some (Value.string (bs [])) := HP.out.cell 2 _ rfl
  have cR2 : w9.cell? ⟨w.heap.size, 2, none⟩ = some (Value.string (bs [])) := HR.out.cell 2 _ rfl
  have fP2 := HP.out.free 2
  have fR2 := HR.out.free 2
  have cP3 : w9.cell? ⟨w.heap.size + 1, 3, none⟩ = some (Value.string (bs [])) := HP.out.cell 3 _ rfl
  have cR3 : w9.cell? ⟨w.heap.size, 3, none⟩ = some (Value.string (bs [])) := HR.out.cell 3 _ rfl
  have fP3 := HP.out.free 3
  have fR3 := HR.out.free 3
  have hzP := HP.out.lt
  have hzR := HR.out.lt
  go_wp2_with fail
  refine bodyPost_ret (v := .tuple #[persV [] [] [] [], .int .i64 8]) (by simp [results, Tryz.results144, go_sem, *]) rfl ⟨rfl, ?_⟩
  repeat (first | exact HK.out | refine kept_set ?_ _ _ _ (by omega) | exact (HK.out).trans (kept_drewN _ _))

set_option maxRecDepth 100000 in
set_option maxHeartbeats 3200000 in
theorem parse_count_b (l : Bs) (w : World) (hg : Gnd w) (hs : l.length ≤ 1000000) (hl : lineB l = true) (r p t : Bs) (HC : Hid (cleanL l = 123 :: r)) (hr : r.length ≤ 1000001) (hbr : before 125 r < r.length) (HPC : Hid (cleanL (r.take (before 125 r)) = p)) (HRC : Hid (r.drop (before 125 r + 1) = t)) (hpl : p.length ≤ 1000010) (ht : t.length ≤ 1000001) (hcnt : 2 < t.count 44) :
    Calls Tryz.prog 144 #[.string (bs l)] w fun e w' => e = .returned (.tuple #[persV [] [] [] [], .int .i64 5]) ∧ Kept w w' := by
  have hcl := cleanL_le l
  go_enter Tryz.func144, Tryz.ntmps144
  go_wp2_with fail
  refine (line_any l _ (by omega)).mono ?_
  rintro e w1 ⟨rfl, n, rfl⟩
  rw [hl]
  go_wp2_with fail
  refine (clean_any l _ (hg.kept (((kept_alloc w _).trans (kept_alloc _ _)).trans (kept_drewN _ n))) (by omega)).mono ?_
  rintro e w2 ⟨rfl, hk2⟩
  have HP0 := Lib.hid ((Blk.new (w.alloc (.cells #[Value.string (bs []), Value.string (bs []), Value.string (bs []), Value.string (bs [])] 32)) 32 #[Value.string (bs []), Value.string (bs []), Value.string (bs []), Value.string (bs [])]).drewN n)
  have bP : Blk w2 (w.heap.size + 1) 32 #[Value.string (bs []), Value.string (bs []), Value.string (bs []), Value.string (bs [])] := by have := HP0.out.kept hk2; simpa using this
  have bR : Blk w2 w.heap.size 32 #[Value.string (bs []), Value.string (bs []), Value.string (bs []), Value.string (bs [])] := (((Blk.new w 32 #[Value.string (bs []), Value.string (bs []), Value.string (bs []), Value.string (bs [])]).alloc _).drewN n).kept hk2
  have kk : Kept w w2 := (((kept_alloc w _).trans (kept_alloc _ _)).trans (kept_drewN _ n)).trans hk2
  clear HP0
  have HP := Lib.hid bP
  have HR := Lib.hid bR
  have HK := Lib.hid kk
  have HG := Lib.hid (hg.kept kk)
  clear bP bR kk hk2
  rw [HC.out]
  go_wp2_with fail
  refine (cutp_yes r 123 _).mono ?_
  rintro e w' ⟨rfl, rfl⟩
  go_wp2_with fail
  refine (cut_any r 125 _ HG.out (by omega)).mono ?_
  rintro e w3 ⟨rfl, m, rfl⟩
  rw [if_pos hbr]
  go_wp2_with fail
  refine (clean_any (r.take (before 125 r)) _ (by exact HG.out) (by simp; omega)).mono ?_
  rintro e w4 ⟨rfl, hk4'⟩
  have hk4 := (kept_drewN w2 m).trans hk4'
  clear hk4'
  have bP : Blk w4 (w.heap.size + 1) 32 #[Value.string (bs []), Value.string (bs []), Value.string (bs []), Value.string (bs [])] := (HP.out).kept hk4
  have bR : Blk w4 w.heap.size 32 #[Value.string (bs []), Value.string (bs []), Value.string (bs []), Value.string (bs [])] := (HR.out).kept hk4
  have kk : Kept w w4 := (HK.out).trans hk4
  clear HP HR HK HG
  have HP := Lib.hid bP
  have HR := Lib.hid bR
  have HK := Lib.hid kk
  have HG := Lib.hid (hg.kept kk)
  clear bP bR kk hk4
  rw [HPC.out, HRC.out]
  have cP0 : w4.cell? ⟨w.heap.size + 1, 0, none⟩ = some (Value.string (bs [])) := HP.out.cell 0 _ rfl
  have cR0 : w4.cell? ⟨w.heap.size, 0, none⟩ = some (Value.string (bs [])) := HR.out.cell 0 _ rfl
  have fP0 := HP.out.free 0
  have fR0 := HR.out.free 0
  have cP1 : w4.cell? ⟨w.heap.size + 1, 1, none⟩ = some (Value.string (bs [])) := HP.out.cell 1 _ rfl
  have cR1 : w4.cell? ⟨w.heap.size, 1, none⟩ = some (Value.string (bs [])) := HR.out.cell 1 _ rfl
  have fP1 := HP.out.free 1
  have fR1 := HR.out.free 1
  have cP2 : w4.cell? ⟨w.heap.size + 1, 2, none⟩ = some (Value.string (bs [])) := HP.out.cell 2 _ rfl
  have cR2 : w4.cell? ⟨w.heap.size, 2, none⟩ = some (Value.string (bs [])) := HR.out.cell 2 _ rfl
  have fP2 := HP.out.free 2
  have fR2 := HR.out.free 2
  have cP3 : w4.cell? ⟨w.heap.size + 1, 3, none⟩ = some (Value.string (bs [])) := HP.out.cell 3 _ rfl
  have cR3 : w4.cell? ⟨w.heap.size, 3, none⟩ = some (Value.string (bs [])) := HR.out.cell 3 _ rfl
  have fP3 := HP.out.free 3
  have fR3 := HR.out.free 3
  have hzP := HP.out.lt
  have hzR := HR.out.lt
  go_wp2_with fail
  refine (count_any t 44 _).mono ?_
  rintro e w' ⟨rfl, rfl⟩
  go_wp2_with fail
  refine bodyPost_ret (v := .tuple #[persV [] [] [] [], .int .i64 5]) (by simp [results, Tryz.results144, go_sem, *]) rfl ⟨rfl, ?_⟩
  repeat (first | exact HK.out | refine kept_set ?_ _ _ _ (by omega) | exact (HK.out).trans (kept_drewN _ _))

set_option maxRecDepth 100000 in
set_option maxHeartbeats 3200000 in
theorem parse_any1_b (l : Bs) (w : World) (hg : Gnd w) (hs : l.length ≤ 1000000) (hl : lineB l = true) (r p t : Bs) (HC : Hid (cleanL l = 123 :: r)) (hr : r.length ≤ 1000001) (hbr : before 125 r < r.length) (HPC : Hid (cleanL (r.take (before 125 r)) = p)) (HRC : Hid (r.drop (before 125 r + 1) = t)) (hpl : p.length ≤ 1000010) (ht : t.length ≤ 1000001) (hcnt : t.count 44 ≤ 2) (HA1 : Hid (p.any (inSet setC) = true)) :
    Calls Tryz.prog 144 #[.string (bs l)] w fun e w' => e = .returned (.tuple #[persV [] [] [] [], .int .i64 5]) ∧ Kept w w' := by
  have hcl := cleanL_le l
  go_enter Tryz.func144, Tryz.ntmps144
  go_wp2_with fail
  refine (line_any l _ (by omega)).mono ?_
  rintro e w1 ⟨rfl, n, rfl⟩
  rw [hl]
  go_wp2_with fail
  refine (clean_any l _ (hg.kept (((kept_alloc w _).trans (kept_alloc _ _)).trans (kept_drewN _ n))) (by omega)).mono ?_
  rintro e w2 ⟨rfl, hk2⟩
  have HP0 := Lib.hid ((Blk.new (w.alloc (.cells #[Value.string (bs []), Value.string (bs []), Value.string (bs []), Value.string (bs [])] 32)) 32 #[Value.string (bs []), Value.string (bs []), Value.string (bs []), Value.string (bs [])]).drewN n)
  have bP : Blk w2 (w.heap.size + 1) 32 #[Value.string (bs []), Value.string (bs []), Value.string (bs []), Value.string (bs [])] := by have := HP0.out.kept hk2; simpa using this
  have bR : Blk w2 w.heap.size 32 #[Value.string (bs []), Value.string (bs []), Value.string (bs []), Value.string (bs [])] := (((Blk.new w 32 #[Value.string (bs []), Value.string (bs []), Value.string (bs []), Value.string (bs [])]).alloc _).drewN n).kept hk2
  have kk : Kept w w2 := (((kept_alloc w _).trans (kept_alloc _ _)).trans (kept_drewN _ n)).trans hk2
  clear HP0
  have HP := Lib.hid bP
  have HR := Lib.hid bR
  have HK := Lib.hid kk
  have HG := Lib.hid (hg.kept kk)
  clear bP bR kk hk2
  rw [HC.out]
  go_wp2_with fail
  refine (cutp_yes r 123 _).mono ?_
  rintro e w' ⟨rfl, rfl⟩
  go_wp2_with fail
  refine (cut_any r 125 _ HG.out (by omega)).mono ?_
  rintro e w3 ⟨rfl, m, rfl⟩
  rw [if_pos hbr]
  go_wp2_with fail
  refine (clean_any (r.take (before 125 r)) _ (by exact HG.out) (by simp; omega)).mono ?_
  rintro e w4 ⟨rfl, hk4'⟩
  have hk4 := (kept_drewN w2 m).trans hk4'
  clear hk4'
  have bP : Blk w4 (w.heap.size + 1) 32 #[Value.string (bs []), Value.string (bs []), Value.string (bs []), Value.string (bs [])] := (HP.out).kept hk4
  have bR : Blk w4 w.heap.size 32 #[Value.string (bs []), Value.string (bs []), Value.string (bs []), Value.string (bs [])] := (HR.out).kept hk4
  have kk : Kept w w4 := (HK.out).trans hk4
  clear HP HR HK HG
  have HP := Lib.hid bP
  have HR := Lib.hid bR
  have HK := Lib.hid kk
  have HG := Lib.hid (hg.kept kk)
  clear bP bR kk hk4
  rw [HPC.out, HRC.out]
  have cP0 : w4.cell? ⟨w.heap.size + 1, 0, none⟩ = some (Value.string (bs [])) := HP.out.cell 0 _ rfl
  have cR0 : w4.cell? ⟨w.heap.size, 0, none⟩ = some (Value.string (bs [])) := HR.out.cell 0 _ rfl
  have fP0 := HP.out.free 0
  have fR0 := HR.out.free 0
  have cP1 : w4.cell? ⟨w.heap.size + 1, 1, none⟩ = some (Value.string (bs [])) := HP.out.cell 1 _ rfl
  have cR1 : w4.cell? ⟨w.heap.size, 1, none⟩ = some (Value.string (bs [])) := HR.out.cell 1 _ rfl
  have fP1 := HP.out.free 1
  have fR1 := HR.out.free 1
  have cP2 : w4.cell? ⟨w.heap.size + 1, 2, none⟩ = some (Value.string (bs [])) := HP.out.cell 2 _ rfl
  have cR2 : w4.cell? ⟨w.heap.size, 2, none⟩ = some (Value.string (bs [])) := HR.out.cell 2 _ rfl
  have fP2 := HP.out.free 2
  have fR2 := HR.out.free 2
  have cP3 : w4.cell? ⟨w.heap.size + 1, 3, none⟩ = some (Value.string (bs [])) := HP.out.cell 3 _ rfl
  have cR3 : w4.cell? ⟨w.heap.size, 3, none⟩ = some (Value.string (bs [])) := HR.out.cell 3 _ rfl
  have fP3 := HP.out.free 3
  have fR3 := HR.out.free 3
  have hzP := HP.out.lt
  have hzR := HR.out.lt
  go_wp2_with fail
  refine (count_any t 44 _).mono ?_
  rintro e w' ⟨rfl, rfl⟩
  go_wp2_with fail
  have HSC : Hid (setC = [44, 59, 123, 125]) := rfl
  have HSN : Hid (setN = [59, 123, 125]) := rfl
  rw [← HSC.out]
  refine (cany_any p setC _ asciiC (by decide) (by decide) (by omega)).mono ?_
  rintro e w5 ⟨rfl, hk5⟩
  rw [HA1.out]
  clear cP0 cR0 fP0 fR0 cP1 cR1 fP1 fR1 cP2 cR2 fP2 fR2 cP3 cR3 fP3 fR3 hzP hzR
  have bP : Blk w5 (w.heap.size + 1) 32 #[Value.string (bs []), Value.string (bs []), Value.string (bs p), Value.string (bs [])] := ((HP.out).set 2 (Value.string (bs p))).kept hk5
  have bR : Blk w5 w.heap.size 32 #[Value.string (bs []), Value.string (bs []), Value.string (bs []), Value.string (bs [])] := ((HR.out).other (w.heap.size + 1) 2 (Value.string (bs p)) (by omega)).kept hk5
  have kk : Kept w w5 := (kept_set (HK.out) (w.heap.size + 1) 2 (Value.string (bs p)) (by omega)).trans hk5
  clear HP HR HK HG
  have HP := Lib.hid bP
  have HR := Lib.hid bR
  have HK := Lib.hid kk
  have HG := Lib.hid (hg.kept kk)
  clear bP bR kk hk5
  have cP0 : w5.cell? ⟨w.heap.size + 1, 0, none⟩ = some (Value.string (bs [])) := HP.out.cell 0 _ rfl
  have cR0 : w5.cell? ⟨w.heap.size, 0, none⟩ = some (Value.string (bs [])) := HR.out.cell 0 _ rfl
  have fP0 := HP.out.free 0
  have fR0 := HR.out.free 0
  have cP1 : w5.cell? ⟨w.heap.size + 1, 1, none⟩ = some (Value.string (bs [])) := HP.out.cell 1 _ rfl
  have cR1 : w5.cell? ⟨w.heap.size, 1, none⟩ = some (Value.string (bs [])) := HR.out.cell 1 _ rfl
  have fP1 := HP.out.free 1
  have fR1 := HR.out.free 1
  have cP2 : w5.cell? ⟨w.heap.size + 1, 2, none⟩ = some (Value.string (bs p)) := HP.out.cell 2 _ rfl
  have cR2 : w5.cell? ⟨w.heap.size, 2, none⟩ = some (Value.string (bs [])) := HR.out.cell 2 _ rfl
  have fP2 := HP.out.free 2
  have fR2 := HR.out.free 2
  have cP3 : w5.cell? ⟨w.heap.size + 1, 3, none⟩ = some (Value.string (bs [])) := HP.out.cell 3 _ rfl
  have cR3 : w5.cell? ⟨w.heap.size, 3, none⟩ = some (Value.string (bs [])) := HR.out.cell 3 _ rfl
  have fP3 := HP.out.free 3
  have fR3 := HR.out.free 3
  have hzP := HP.out.lt
  have hzR := HR.out.lt
  go_wp2_with fail
  refine bodyPost_ret (v := .tuple #[persV [] [] [] [], .int .i64 5]) (by simp [results, Tryz.results144, go_sem, *]) rfl ⟨rfl, ?_⟩
  repeat (first | exact HK.out | refine kept_set ?_ _ _ _ (by omega) | exact (HK.out).trans (kept_drewN _ _))

set_option maxRecDepth 100000 in
set_option maxHeartbeats 3200000 in
theorem parse_any2_b (l : Bs) (w : World) (hg : Gnd w) (hs : l.length ≤ 1000000) (hl : lineB l = true) (r p t : Bs) (HC : Hid (cleanL l = 123 :: r)) (hr : r.length ≤ 1000001) (hbr : before 125 r < r.length) (HPC : Hid (cleanL (r.take (before 125 r)) = p)) (HRC : Hid (r.drop (before 125 r + 1) = t)) (hpl : p.length ≤ 1000010) (ht : t.length ≤ 1000001) (hcnt : t.count 44 ≤ 2) (HA1 : Hid ((p : Bs).any (inSet setC) = false)) (HA2 : Hid (t.any (inSet setN) = true)) :
    Calls Tryz.prog 144 #[.string (bs l)] w fun e w' => e = .returned (.tuple #[persV [] [] [] [], .int .i64 5]) ∧ Kept w w' := by
  have hcl := cleanL_le l
  go_enter Tryz.func144, Tryz.ntmps144
  go_wp2_with fail
  refine (line_any l _ (by omega)).mono ?_
  rintro e w1 ⟨rfl, n, rfl⟩
  rw [hl]
  go_wp2_with fail
  refine (clean_any l _ (hg.kept (((kept_alloc w _).trans (kept_alloc _ _)).trans (kept_drewN _ n))) (by omega)).mono ?_
  rintro e w2 ⟨rfl, hk2⟩
  have HP0 := Lib.hid ((Blk.new (w.alloc (.cells #[Value.string (bs []), Value.string (bs []), Value.string (bs []), Value.string (bs [])] 32)) 32 #[Value.string (bs []), Value.string (bs []), Value.string (bs []), Value.string (bs [])]).drewN n)
  have bP : Blk w2 (w.heap.size + 1) 32 #[Value.string (bs []), Value.string (bs []), Value.string (bs []), Value.string (bs [])] := by have := HP0.out.kept hk2; simpa using this
  have bR : Blk w2 w.heap.size 32 #[Value.string (bs []), Value.string (bs []), Value.string (bs []), Value.string (bs [])] := (((Blk.new w 32 #[Value.string (bs []), Value.string (bs []), Value.string (bs []), Value.string (bs [])]).alloc _).drewN n).kept hk2
  have kk : Kept w w2 := (((kept_alloc w _).trans (kept_alloc _ _)).trans (kept_drewN _ n)).trans hk2
  clear HP0
  have HP := Lib.hid bP
  have HR := Lib.hid bR
  have HK := Lib.hid kk
  have HG := Lib.hid (hg.kept kk)
  clear bP bR kk hk2
  rw [HC.out]
  go_wp2_with fail
  refine (cutp_yes r 123 _).mono ?_
  rintro e w' ⟨rfl, rfl⟩
  go_wp2_with fail
  refine (cut_any r 125 _ HG.out (by omega)).mono ?_
  rintro e w3 ⟨rfl, m, rfl⟩
  rw [if_pos hbr]
  go_wp2_with fail
  refine (clean_any (r.take (before 125 r)) _ (by exact HG.out) (by simp; omega)).mono ?_
  rintro e w4 ⟨rfl, hk4'⟩
  have hk4 := (kept_drewN w2 m).trans hk4'
  clear hk4'
  have bP : Blk w4 (w.heap.size + 1) 32 #[Value.string (bs []), Value.string (bs []), Value.string (bs []), Value.string (bs [])] := (HP.out).kept hk4
  have bR : Blk w4 w.heap.size 32 #[Value.string (bs []), Value.string (bs []), Value.string (bs []), Value.string (bs [])] := (HR.out).kept hk4
  have kk : Kept w w4 := (HK.out).trans hk4
  clear HP HR HK HG
  have HP := Lib.hid bP
  have HR := Lib.hid bR
  have HK := Lib.hid kk
  have HG := Lib.hid (hg.kept kk)
  clear bP bR kk hk4
  rw [HPC.out, HRC.out]
  have cP0 : w4.cell? ⟨w.heap.size + 1, 0, none⟩ = some (Value.string (bs [])) := HP.out.cell 0 _ rfl
  have cR0 : w4.cell? ⟨w.heap.size, 0, none⟩ = some (Value.string (bs [])) := HR.out.cell 0 _ rfl
  have fP0 := HP.out.free 0
  have fR0 := HR.out.free 0
  have cP1 : w4.cell? ⟨w.heap.size + 1, 1, none⟩ = some (Value.string (bs [])) := HP.out.cell 1 _ rfl
  have cR1 : w4.cell? ⟨w.heap.size, 1, none⟩ = some (Value.string (bs [])) := HR.out.cell 1 _ rfl
  have fP1 := HP.out.free 1
  have fR1 := HR.out.free 1
  have cP2 : w4.cell? ⟨w.heap.size + 1, 2, none⟩ = some (Value.string (bs [])) := HP.out.cell 2 _ rfl
  have cR2 : w4.cell? ⟨w.heap.size, 2, none⟩ = some (Value.string (bs [])) := HR.out.cell 2 _ rfl
  have fP2 := HP.out.free 2
  have fR2 := HR.out.free 2
  have cP3 : w4.cell? ⟨w.heap.size + 1, 3, none⟩ = some (Value.string (bs [])) := HP.out.cell 3 _ rfl
  have cR3 : w4.cell? ⟨w.heap.size, 3, none⟩ = some (Value.string (bs [])) := HR.out.cell 3 _ rfl
  have fP3 := HP.out.free 3
  have fR3 := HR.out.free 3
  have hzP := HP.out.lt
  have hzR := HR.out.lt
  go_wp2_with fail
  refine (count_any t 44 _).mono ?_
  rintro e w' ⟨rfl, rfl⟩
  go_wp2_with fail
  have HSC : Hid (setC = [44, 59, 123, 125]) := rfl
  have HSN : Hid (setN = [59, 123, 125]) := rfl
  rw [← HSC.out]
  refine (cany_any p setC _ asciiC (by decide) (by decide) (by omega)).mono ?_
  rintro e w5 ⟨rfl, hk5⟩
  rw [HA1.out]
  clear cP0 cR0 fP0 fR0 cP1 cR1 fP1 fR1 cP2 cR2 fP2 fR2 cP3 cR3 fP3 fR3 hzP hzR
  have bP : Blk w5 (w.heap.size + 1) 32 #[Value.string (bs []), Value.string (bs []), Value.string (bs p), Value.string (bs [])] := ((HP.out).set 2 (Value.string (bs p))).kept hk5
  have bR : Blk w5 w.heap.size 32 #[Value.string (bs []), Value.string (bs []), Value.string (bs []), Value.string (bs [])] := ((HR.out).other (w.heap.size + 1) 2 (Value.string (bs p)) (by omega)).kept hk5
  have kk : Kept w w5 := (kept_set (HK.out) (w.heap.size + 1) 2 (Value.string (bs p)) (by omega)).trans hk5
  clear HP HR HK HG
  have HP := Lib.hid bP
  have HR := Lib.hid bR
  have HK := Lib.hid kk
  have HG := Lib.hid (hg.kept kk)
  clear bP bR kk hk5
  have cP0 : w5.cell? ⟨w.heap.size + 1, 0, none⟩ = some (Value.string (bs [])) := HP.out.cell 0 _ rfl
  have cR0 : w5.cell? ⟨w.heap.size, 0, none⟩ = some (Value.string (bs [])) := HR.out.cell 0 _ rfl
  have fP0 := HP.out.free 0
  have fR0 := HR.out.free 0
  have cP1 : w5.cell? ⟨w.heap.size + 1, 1, none⟩ = some (Value.string (bs [])) := HP.out.cell 1 _ rfl
  have cR1 : w5.cell? ⟨w.heap.size, 1, none⟩ = some (Value.string (bs [])) := HR.out.cell 1 _ rfl
  have fP1 := HP.out.free 1
  have fR1 := HR.out.free 1
  have cP2 : w5.cell? ⟨w.heap.size + 1, 2, none⟩ = some (Value.string (bs p)) := HP.out.cell 2 _ rfl
  have cR2 : w5.cell? ⟨w.heap.size, 2, none⟩ = some (Value.string (bs [])) := HR.out.cell 2 _ rfl
  have fP2 := HP.out.free 2
  have fR2 := HR.out.free 2
  have cP3 : w5.cell? ⟨w.heap.size + 1, 3, none⟩ = some (Value.string (bs [])) := HP.out.cell 3 _ rfl
  have cR3 : w5.cell? ⟨w.heap.size, 3, none⟩ = some (Value.string (bs [])) := HR.out.cell 3 _ rfl
  have fP3 := HP.out.free 3
  have fR3 := HR.out.free 3
  have hzP := HP.out.lt
  have hzR := HR.out.lt
  go_wp2_with fail
  rw [← HSN.out]
  refine (cany_any t setN _ asciiN (by decide) (by decide) (by omega)).mono ?_
  rintro e w6 ⟨rfl, hk6⟩
  rw [HA2.out]
  clear cP0 cR0 fP0 fR0 cP1 cR1 fP1 fR1 cP2 cR2 fP2 fR2 cP3 cR3 fP3 fR3 hzP hzR
  have bP : Blk w6 (w.heap.size + 1) 32 #[Value.string (bs []), Value.string (bs []), Value.string (bs p), Value.string (bs [])] := (HP.out).kept hk6
  have bR : Blk w6 w.heap.size 32 #[Value.string (bs []), Value.string (bs []), Value.string (bs []), Value.string (bs [])] := (HR.out).kept hk6
  have kk : Kept w w6 := (HK.out).trans hk6
  clear HP HR HK HG
  have HP := Lib.hid bP
  have HR := Lib.hid bR
  have HK := Lib.hid kk
  have HG := Lib.hid (hg.kept kk)
  clear bP bR kk hk6
  have cP0 : w6.cell? ⟨w.heap.size + 1, 0, none⟩ = some (Value.string (bs [])) := HP.out.cell 0 _ rfl
  have cR0 : w6.cell? ⟨w.heap.size, 0, none⟩ = some (Value.string (bs [])) := HR.out.cell 0 _ rfl
  have fP0 := HP.out.free 0
  have fR0 := HR.out.free 0
  have cP1 : w6.cell? ⟨w.heap.size + 1, 1, none⟩ = some (Value.string (bs [])) := HP.out.cell 1 _ rfl
  have cR1 : w6.cell? ⟨w.heap.size, 1, none⟩ = some (Value.string (bs [])) := HR.out.cell 1 _ rfl
  have fP1 := HP.out.free 1
  have fR1 := HR.out.free 1
  have cP2 : w6.cell? ⟨w.heap.size + 1, 2, none⟩ = some (Value.string (bs p)) := HP.out.cell 2 _ rfl
  have cR2 : w6.cell? ⟨w.heap.size, 2, none⟩ = some (Value.string (bs [])) := HR.out.cell 2 _ rfl
  have fP2 := HP.out.free 2
  have fR2 := HR.out.free 2
  have cP3 : w6.cell? ⟨w.heap.size + 1, 3, none⟩ = some (Value.string (bs [])) := HP.out.cell 3 _ rfl
  have cR3 : w6.cell? ⟨w.heap.size, 3, none⟩ = some (Value.string (bs [])) := HR.out.cell 3 _ rfl
  have fP3 := HP.out.free 3
  have fR3 := HR.out.free 3
  have hzP := HP.out.lt
  have hzR := HR.out.lt
  go_wp2_with fail
  refine bodyPost_ret (v := .tuple #[persV [] [] [] [], .int .i64 5]) (by simp [results, Tryz.results144, go_sem, *]) rfl ⟨rfl, ?_⟩
  repeat (first | exact HK.out | refine kept_set ?_ _ _ _ (by omega) | exact (HK.out).trans (kept_drewN _ _))

set_option maxRecDepth 100000 in
set_option maxHeartbeats 3200000 in
theorem parse_ok1_b (l : Bs) (w : World) (hg : Gnd w) (hs : l.length ≤ 1000000) (hl : lineB l = true) (r p t : Bs) (HC : Hid (cleanL l = 123 :: r)) (hr : r.length ≤ 1000001) (hbr : before 125 r < r.length) (HPC : Hid (cleanL (r.take (before 125 r)) = p)) (HRC : Hid (r.drop (before 125 r + 1) = t)) (hpl : p.length ≤ 1000010) (ht : t.length ≤ 1000001) (hcnt : t.count 44 ≤ 2) (HA1 : Hid ((p : Bs).any (inSet setC) = false)) (HA2 : Hid (t.any (inSet setN) = false)) (a : Bs) (HSP : Hid (splitC 44 t = [a])) (ha : a.length ≤ 1000010) (f : Bs) (HFA : Hid (cleanL a = f)) (hf : ¬ f = []) (hfe : f.isEmpty = false) :
    Calls Tryz.prog 144 #[.string (bs l)] w fun e w' => e = .returned (.tuple #[persV f [] p [], .int .i64 0]) ∧ Kept w w' := by
  have hcl := cleanL_le l
  go_enter Tryz.func144, Tryz.ntmps144
  go_wp2_with fail
  refine (line_any l _ (by omega)).mono ?_
  rintro e w1 ⟨rfl, n, rfl⟩
  rw [hl]
  go_wp2_with fail
  refine (clean_any l _ (hg.kept (((kept_alloc w _).trans (kept_alloc _ _)).trans (kept_drewN _ n))) (by omega)).mono ?_
  rintro e w2 ⟨rfl, hk2⟩
  have HP0 := Lib.hid ((Blk.new (w.alloc (.cells #[Value.string (bs []), Value.string (bs []), Value.string (bs []), Value.string (bs [])] 32)) 32 #[Value.string (bs []), Value.string (bs []), Value.string (bs []), Value.string (bs [])]).drewN n)
  have bP : Blk w2 (w.heap.size + 1) 32 #[Value.string (bs []), Value.string (bs []), Value.string (bs []), Value.string (bs [])] := by have := HP0.out.kept hk2; simpa using this
  have bR : Blk w2 w.heap.size 32 #[Value.string (bs []), Value.string (bs []), Value.string (bs []), Value.string (bs [])] := (((Blk.new w 32 #[Value.string (bs []), Value.string (bs []), Value.string (bs []), Value.string (bs [])]).alloc _).drewN n).kept hk2
  have kk : Kept w w2 := (((kept_alloc w _).trans (kept_alloc _ _)).trans (kept_drewN _ n)).trans hk2
  clear HP0
  have HP := Lib.hid bP
  have HR := Lib.hid bR
  have HK := Lib.hid kk
  have HG := Lib.hid (hg.kept kk)
  clear bP bR kk hk2
  rw [HC.out]
  go_wp2_with fail
  refine (cutp_yes r 123 _).mono ?_
  rintro e w' ⟨rfl, rfl⟩
  go_wp2_with fail
  refine (cut_any r 125 _ HG.out (by omega)).mono ?_
  rintro e w3 ⟨rfl, m, rfl⟩
  rw [if_pos hbr]
  go_wp2_with fail
  refine (clean_any (r.take (before 125 r)) _ (by exact HG.out) (by simp; omega)).mono ?_
  rintro e w4 ⟨rfl, hk4'⟩
  have hk4 := (kept_drewN w2 m).trans hk4'
  clear hk4'
  have bP : Blk w4 (w.heap.size + 1) 32 #[Value.string (bs []), Value.string (bs []), Value.string (bs []), Value.string (bs [])] := (HP.out).kept hk4
  have bR : Blk w4 w.heap.size 32 #[Value.string (bs []), Value.string (bs []), Value.string (bs []), Value.string (bs [])] := (HR.out).kept hk4
  have kk : Kept w w4 := (HK.out).trans hk4
  clear HP HR HK HG
  have HP := Lib.hid bP
  have HR := Lib.hid bR
  have HK := Lib.hid kk
  have HG := Lib.hid (hg.kept kk)
  clear bP bR kk hk4
  rw [HPC.out, HRC.out]
  have cP0 : w4.cell? ⟨w.heap.size + 1, 0, none⟩ = some (Value.string (bs [])) := HP.out.cell 0 _ rfl
  have cR0 : w4.cell? ⟨w.heap.size, 0, none⟩ = some (Value.string (bs [])) := HR.out.cell 0 _ rfl
  have fP0 := HP.out.free 0
  have fR0 := HR.out.free 0
  have cP1 : w4.cell? ⟨w.heap.size + 1, 1, none⟩ = some (Value.string (bs [])) := HP.out.cell 1 _ rfl
  have cR1 : w4.cell? ⟨w.heap.size, 1, none⟩ = some (Value.string (bs [])) := HR.out.cell 1 _ rfl
  have fP1 := HP.out.free 1
  have fR1 := HR.out.free 1
  have cP2 : w4.cell? ⟨w.heap.size + 1, 2, none⟩ = some (Value.string (bs [])) := HP.out.cell 2 _ rfl
  have cR2 : w4.cell? ⟨w.heap.size, 2, none⟩ = some (Value.string (bs [])) := HR.out.cell 2 _ rfl
  have fP2 := HP.out.free 2
  have fR2 := HR.out.free 2
  have cP3 : w4.cell? ⟨w.heap.size + 1, 3, none⟩ = some (Value.string (bs [])) := HP.out.cell 3 _ rfl
  have cR3 : w4.cell? ⟨w.heap.size, 3, none⟩ = some (Value.string (bs [])) := HR.out.cell 3 _ rfl
  have fP3 := HP.out.free 3
  have fR3 := HR.out.free 3
  have hzP := HP.out.lt
  have hzR := HR.out.lt
  go_wp2_with fail
  refine (count_any t 44 _).mono ?_
  rintro e w' ⟨rfl, rfl⟩
  go_wp2_with fail
  have HSC : Hid (setC = [44, 59, 123, 125]) := rfl
  have HSN : Hid (setN = [59, 123, 125]) := rfl
  rw [← HSC.out]
  refine (cany_any p setC _ asciiC (by decide) (by decide) (by omega)).mono ?_
  rintro e w5 ⟨rfl, hk5⟩
  rw [HA1.out]
  clear cP0 cR0 fP0 fR0 cP1 cR1 fP1 fR1 cP2 cR2 fP2 fR2 cP3 cR3 fP3 fR3 hzP hzR
  have bP : Blk w5 (w.heap.size + 1) 32 #[Value.string (bs []), Value.string (bs []), Value.string (bs p), Value.string (bs [])] := ((HP.out).set 2 (Value.string (bs p))).kept hk5
  have bR : Blk w5 w.heap.size 32 #[Value.string (bs []), Value.string (bs []), Value.string (bs []), Value.string (bs [])] := ((HR.out).other (w.heap.size + 1) 2 (Value.string (bs p)) (by omega)).kept hk5
  have kk : Kept w w5 := (kept_set (HK.out) (w.heap.size + 1) 2 (Value.string (bs p)) (by omega)).trans hk5
  clear HP HR HK HG
  have HP := Lib.hid bP
  have HR := Lib.hid bR
  have HK := Lib.hid kk
  have HG := Lib.hid (hg.kept kk)
  clear bP bR kk hk5
  have cP0 : w5.cell? ⟨w.heap.size + 1, 0, none⟩ = some (Value.string (bs [])) := HP.out.cell 0 _ rfl
  have cR0 : w5.cell? ⟨w.heap.size, 0, none⟩ = some (Value.string (bs [])) := HR.out.cell 0 _ rfl
  have fP0 := HP.out.free 0
  have fR0 := HR.out.free 0
  have cP1 : w5.cell? ⟨w.heap.size + 1, 1, none⟩ = some (Value.string (bs [])) := HP.out.cell 1 _ rfl
  have cR1 : w5.cell? ⟨w.heap.size, 1, none⟩ = some (Value.string (bs [])) := HR.out.cell 1 _ rfl
  have fP1 := HP.out.free 1
  have fR1 := HR.out.free 1
  have cP2 : w5.cell? ⟨w.heap.size + 1, 2, none⟩ = some (Value.string (bs p)) := HP.out.cell 2 _ rfl
  have cR2 : w5.cell? ⟨w.heap.size, 2, none⟩ = some (Value.string (bs [])) := HR.out.cell 2 _ rfl
  have fP2 := HP.out.free 2
  have fR2 := HR.out.free 2
  have cP3 : w5.cell? ⟨w.heap.size + 1, 3, none⟩ = some (Value.string (bs [])) := HP.out.cell 3 _ rfl
  have cR3 : w5.cell? ⟨w.heap.size, 3, none⟩ = some (Value.string (bs [])) := HR.out.cell 3 _ rfl
  have fP3 := HP.out.free 3
  have fR3 := HR.out.free 3
  have hzP := HP.out.lt
  have hzR := HR.out.lt
  go_wp2_with fail
  rw [← HSN.out]
  refine (cany_any t setN _ asciiN (by decide) (by decide) (by omega)).mono ?_
  rintro e w6 ⟨rfl, hk6⟩
  rw [HA2.out]
  clear cP0 cR0 fP0 fR0 cP1 cR1 fP1 fR1 cP2 cR2 fP2 fR2 cP3 cR3 fP3 fR3 hzP hzR
  have bP : Blk w6 (w.heap.size + 1) 32 #[Value.string (bs []), Value.string (bs []), Value.string (bs p), Value.string (bs [])] := (HP.out).kept hk6
  have bR : Blk w6 w.heap.size 32 #[Value.string (bs []), Value.string (bs []), Value.string (bs []), Value.string (bs [])] := (HR.out).kept hk6
  have kk : Kept w w6 := (HK.out).trans hk6
  clear HP HR HK HG
  have HP := Lib.hid bP
  have HR := Lib.hid bR
  have HK := Lib.hid kk
  have HG := Lib.hid (hg.kept kk)
  clear bP bR kk hk6
  have cP0 : w6.cell? ⟨w.heap.size + 1, 0, none⟩ = some (Value.string (bs [])) := HP.out.cell 0 _ rfl
  have cR0 : w6.cell? ⟨w.heap.size, 0, none⟩ = some (Value.string (bs [])) := HR.out.cell 0 _ rfl
  have fP0 := HP.out.free 0
  have fR0 := HR.out.free 0
  have cP1 : w6.cell? ⟨w.heap.size + 1, 1, none⟩ = some (Value.string (bs [])) := HP.out.cell 1 _ rfl
  have cR1 : w6.cell? ⟨w.heap.size, 1, none⟩ = some (Value.string (bs [])) := HR.out.cell 1 _ rfl
  have fP1 := HP.out.free 1
  have fR1 := HR.out.free 1
  have cP2 : w6.cell? ⟨w.heap.size + 1, 2, none⟩ = some (Value.string (bs p)) := HP.out.cell 2 _ rfl
  have cR2 : w6.cell? ⟨w.heap.size, 2, none⟩ = some (Value.string (bs [])) := HR.out.cell 2 _ rfl
  have fP2 := HP.out.free 2
  have fR2 := HR.out.free 2
  have cP3 : w6.cell? ⟨w.heap.size + 1, 3, none⟩ = some (Value.string (bs [])) := HP.out.cell 3 _ rfl
  have cR3 : w6.cell? ⟨w.heap.size, 3, none⟩ = some (Value.string (bs [])) := HR.out.cell 3 _ rfl
  have fP3 := HP.out.free 3
  have fR3 := HR.out.free 3
  have hzP := HP.out.lt
  have hzR := HR.out.lt
  go_wp2_with fail
  refine (split_any t 44 _ HG.out (by omega)).mono ?_
  rintro e w7 ⟨rfl, hw7⟩
  have hk7 : Kept w6 w7 := by rw [hw7]; exact kept_alloc _ _
  have bS : Blk w7 w6.heap.size 9 (strCells (splitC 44 t)).toArray := by rw [hw7]; exact Blk.new _ _ _
  have hB : w6.heap.size ≠ w.heap.size + 1 := by omega
  clear cP0 cR0 fP0 fR0 cP1 cR1 fP1 fR1 cP2 cR2 fP2 fR2 cP3 cR3 fP3 fR3 hzP hzR
  have bP : Blk w7 (w.heap.size + 1) 32 #[Value.string (bs []), Value.string (bs []), Value.string (bs p), Value.string (bs [])] := (HP.out).kept hk7
  have bR : Blk w7 w.heap.size 32 #[Value.string (bs []), Value.string (bs []), Value.string (bs []), Value.string (bs [])] := (HR.out).kept hk7
  have kk : Kept w w7 := (HK.out).trans hk7
  clear HP HR HK HG
  have HP := Lib.hid bP
  have HR := Lib.hid bR
  have HK := Lib.hid kk
  have HG := Lib.hid (hg.kept kk)
  clear bP bR kk hk7
  clear hw7
  rw [HSP.out]
  rw [HSP.out] at bS
  have HS : Hid (Blk w7 w6.heap.size 9 #[Value.string (bs a)]) := bS
  clear bS
  have cP0 : w7.cell? ⟨w.heap.size + 1, 0, none⟩ = some (Value.string (bs [])) := HP.out.cell 0 _ rfl
  have cR0 : w7.cell? ⟨w.heap.size, 0, none⟩ = some (Value.string (bs [])) := HR.out.cell 0 _ rfl
  have fP0 := HP.out.free 0
  have fR0 := HR.out.free 0
  have cP1 : w7.cell? ⟨w.heap.size + 1, 1, none⟩ = some (Value.string (bs [])) := HP.out.cell 1 _ rfl
  have cR1 : w7.cell? ⟨w.heap.size, 1, none⟩ = some (Value.string (bs [])) := HR.out.cell 1 _ rfl
  have fP1 := HP.out.free 1
  have fR1 := HR.out.free 1
  have cP2 : w7.cell? ⟨w.heap.size + 1, 2, none⟩ = some (Value.string (bs p)) := HP.out.cell 2 _ rfl
  have cR2 : w7.cell? ⟨w.heap.size, 2, none⟩ = some (Value.string (bs [])) := HR.out.cell 2 _ rfl
  have fP2 := HP.out.free 2
  have fR2 := HR.out.free 2
  have cP3 : w7.cell? ⟨w.heap.size + 1, 3, none⟩ = some (Value.string (bs [])) := HP.out.cell 3 _ rfl
  have cR3 : w7.cell? ⟨w.heap.size, 3, none⟩ = some (Value.string (bs [])) := HR.out.cell 3 _ rfl
  have fP3 := HP.out.free 3
  have fR3 := HR.out.free 3
  have hzP := HP.out.lt
  have hzR := HR.out.lt
  have cS0 : w7.cell? ⟨w6.heap.size, 0, none⟩ = some (.string (bs a)) := HS.out.cell 0 _ rfl
  have hzS := HS.out.lt
  go_wp2_with fail
  refine (clean_any a _ HG.out (by omega)).mono ?_
  rintro e w8 ⟨rfl, hk8⟩
  clear cS0 hzS
  clear cP0 cR0 fP0 fR0 cP1 cR1 fP1 fR1 cP2 cR2 fP2 fR2 cP3 cR3 fP3 fR3 hzP hzR
  have bS : Blk w8 w6.heap.size 9 #[Value.string (bs a)] := (HS.out).kept hk8
  clear HS
  have HS := Lib.hid bS
  clear bS
  have bP : Blk w8 (w.heap.size + 1) 32 #[Value.string (bs []), Value.string (bs []), Value.string (bs p), Value.string (bs [])] := (HP.out).kept hk8
  have bR : Blk w8 w.heap.size 32 #[Value.string (bs []), Value.string (bs []), Value.string (bs []), Value.string (bs [])] := (HR.out).kept hk8
  have kk : Kept w w8 := (HK.out).trans hk8
  clear HP HR HK HG
  have HP := Lib.hid bP
  have HR := Lib.hid bR
  have HK := Lib.hid kk
  have HG := Lib.hid (hg.kept kk)
  clear bP bR kk hk8
  rw [HFA.out]
  have cP0 : w8.cell? ⟨w.heap.size + 1, 0, none⟩ = some (Value.string (bs [])) := HP.out.cell 0 _ rfl
  have cR0 : w8.cell? ⟨w.heap.size, 0, none⟩ = some (Value.string (bs [])) := HR.out.cell 0 _ rfl
  have fP0 := HP.out.free 0
  have fR0 := HR.out.free 0
  have cP1 : w8.cell? ⟨w.heap.size + 1, 1, none⟩ = some (Value.string (bs [])) := HP.out.cell 1 _ rfl
  have cR1 : w8.cell? ⟨w.heap.size, 1, none⟩ = some (Value.string (bs [])) := HR.out.cell 1 _ rfl
  have fP1 := HP.out.free 1
  have fR1 := HR.out.free 1
  have cP2 : w8.cell? ⟨w.heap.size + 1, 2, none⟩ = some (Value.string (bs p)) := HP.out.cell 2 _ rfl
  have cR2 : w8.cell? ⟨w.heap.size, 2, none⟩ = some (Value.string (bs [])) := HR.out.cell 2 _ rfl
  have fP2 := HP.out.free 2
  have fR2 := HR.out.free 2
  have cP3 : w8.cell? ⟨w.heap.size + 1, 3, none⟩ = some (Value.string (bs [])) := HP.out.cell 3 _ rfl
  have cR3 : w8.cell? ⟨w.heap.size, 3, none⟩ = some (Value.string (bs [])) := HR.out.cell 3 _ rfl
  have fP3 := HP.out.free 3
  have fR3 := HR.out.free 3
  have hzP := HP.out.lt
  have hzR := HR.out.lt
  have cS0 : w8.cell? ⟨w6.heap.size, 0, none⟩ = some (.string (bs a)) := HS.out.cell 0 _ rfl
  have hzS := HS.out.lt
  go_wp2_with fail
  refine bodyPost_ret (v := .tuple #[persV f [] p [], .int .i64 0]) (by simp [results, Tryz.results144, go_sem, *]) rfl ⟨rfl, ?_⟩
  repeat (first | exact HK.out | refine kept_set ?_ _ _ _ (by omega) | exact (HK.out).trans (kept_drewN _ _))

set_option maxRecDepth 100000 in
set_option maxHeartbeats 3200000 in
theorem parse_none1_b (l : Bs) (w : World) (hg : Gnd w) (hs : l.length ≤ 1000000) (hl : lineB l = true) (r p t : Bs) (HC : Hid (cleanL l = 123 :: r)) (hr : r.length ≤ 1000001) (hbr : before 125 r < r.length) (HPC : Hid (cleanL (r.take (before 125 r)) = p)) (HRC : Hid (r.drop (before 125 r + 1) = t)) (hpl : p.length ≤ 1000010) (ht : t.length ≤ 1000001) (hcnt : t.count 44 ≤ 2) (HA1 : Hid ((p : Bs).any (inSet setC) = false)) (HA2 : Hid (t.any (inSet setN) = false)) (a : Bs) (HSP : Hid (splitC 44 t = [a])) (ha : a.length ≤ 1000010) (HFA : Hid (cleanL a = []))  :
    Calls Tryz.prog 144 #[.string (bs l)] w fun e w' => e = .returned (.tuple #[persV [] [] [] [], .int .i64 8]) ∧ Kept w w' := by
  have hcl := cleanL_le l
  go_enter Tryz.func144, Tryz.ntmps144
  go_wp2_with fail
  refine (line_any l _ (by omega)).mono ?_
  rintro e w1 ⟨rfl, n, rfl⟩
  rw [hl]
  go_wp2_with fail
  refine (clean_any l _ (hg.kept (((kept_alloc w _).trans (kept_alloc _ _)).trans (kept_drewN _ n))) (by omega)).mono ?_
  rintro e w2 ⟨rfl, hk2⟩
  have HP0 := Lib.hid ((Blk.new (w.alloc (.cells #[Value.string (bs []), Value.string (bs []), Value.string (bs []), Value.string (bs [])] 32)) 32 #[Value.string (bs []), Value.string (bs []), Value.string (bs []), Value.string (bs [])]).drewN n)
  have bP : Blk w2 (w.heap.size + 1) 32 #[Value.string (bs []), Value.string (bs []), Value.string (bs []), Value.string (bs [])] := by have := HP0.out.kept hk2; simpa using this
  have bR : Blk w2 w.heap.size 32 #[Value.string (bs []), Value.string (bs []), Value.string (bs []), Value.string (bs [])] := (((Blk.new w 32 #[Value.string (bs []), Value.string (bs []), Value.string (bs []), Value.string (bs [])]).alloc _).drewN n).kept hk2
  have kk : Kept w w2 := (((kept_alloc w _).trans (kept_alloc _ _)).trans (kept_drewN _ n)).trans hk2
  clear HP0
  have HP := Lib.hid bP
  have HR := Lib.hid bR
  have HK := Lib.hid kk
  have HG := Lib.hid (hg.kept kk)
  clear bP bR kk hk2
  rw [HC.out]
  go_wp2_with fail
  refine (cutp_yes r 123 _).mono ?_
  rintro e w' ⟨rfl, rfl⟩
  go_wp2_with fail
  refine (cut_any r 125 _ HG.out (by omega)).mono ?_
  rintro e w3 ⟨rfl, m, rfl⟩
  rw [if_pos hbr]
  go_wp2_with fail
  refine (clean_any (r.take (before 125 r)) _ (by exact HG.out) (by simp; omega)).mono ?_
  rintro e w4 ⟨rfl, hk4'⟩
  have hk4 := (kept_drewN w2 m).trans hk4'
  clear hk4'
  have bP : Blk w4 (w.heap.size + 1) 32 #[Value.string (bs []), Value.string (bs []), Value.string (bs []), Value.string (bs [])] := (HP.out).kept hk4
  have bR : Blk w4 w.heap.size 32 #[Value.string (bs []), Value.string (bs []), Value.string (bs []), Value.string (bs [])] := (HR.out).kept hk4
  have kk : Kept w w4 := (HK.out).trans hk4
  clear HP HR HK HG
  have HP := Lib.hid bP
  have HR := Lib.hid bR
  have HK := Lib.hid kk
  have HG := Lib.hid (hg.kept kk)
  clear bP bR kk hk4
  rw [HPC.out, HRC.out]
  have cP0 : w4.cell? ⟨w.heap.size + 1, 0, none⟩ = some (Value.string (bs [])) := HP.out.cell 0 _ rfl
  have cR0 : w4.cell? ⟨w.heap.size, 0, none⟩ = some (Value.string (bs [])) := HR.out.cell 0 _ rfl
  have fP0 := HP.out.free 0
  have fR0 := HR.out.free 0
  have cP1 : w4.cell? ⟨w.heap.size + 1, 1, none⟩ = some (Value.string (bs [])) := HP.out.cell 1 _ rfl
  have cR1 : w4.cell? ⟨w.heap.size, 1, none⟩ = some (Value.string (bs [])) := HR.out.cell 1 _ rfl
  have fP1 := HP.out.free 1
  have fR1 := HR.out.free 1
  have cP2 : w4.cell? ⟨w.heap.size + 1, 2, none⟩ = some (Value.string (bs [])) := HP.out.cell 2 _ rfl
  have cR2 : w4.cell? ⟨w.heap.size, 2, none⟩ = some (Value.string (bs [])) := HR.out.cell 2 _ rfl
  have fP2 := HP.out.free 2
  have fR2 := HR.out.free 2
  have cP3 : w4.cell? ⟨w.heap.size + 1, 3, none⟩ = some (Value.string (bs [])) := HP.out.cell 3 _ rfl
  have cR3 : w4.cell? ⟨w.heap.size, 3, none⟩ = some (Value.string (bs [])) := HR.out.cell 3 _ rfl
  have fP3 := HP.out.free 3
  have fR3 := HR.out.free 3
  have hzP := HP.out.lt
  have hzR := HR.out.lt
  go_wp2_with fail
  refine (count_any t 44 _).mono ?_
  rintro e w' ⟨rfl, rfl⟩
  go_wp2_with fail
  have HSC : Hid (setC = [44, 59, 123, 125]) := rfl
  have HSN : Hid (setN = [59, 123, 125]) := rfl
  rw [← HSC.out]
  refine (cany_any p setC _ asciiC (by decide) (by decide) (by omega)).mono ?_
  rintro e w5 ⟨rfl, hk5⟩
  rw [HA1.out]
  clear cP0 cR0 fP0 fR0 cP1 cR1 fP1 fR1 cP2 cR2 fP2 fR2 cP3 cR3 fP3 fR3 hzP hzR
  have bP : Blk w5 (w.heap.size + 1) 32 #[Value.string (bs []), Value.string (bs []), Value.string (bs p), Value.string (bs [])] := ((HP.out).set 2 (Value.string (bs p))).kept hk5
  have bR : Blk w5 w.heap.size 32 #[Value.string (bs []), Value.string (bs []), Value.string (bs []), Value.string (bs [])] := ((HR.out).other (w.heap.size + 1) 2 (Value.string (bs p)) (by omega)).kept hk5
  have kk : Kept w w5 := (kept_set (HK.out) (w.heap.size + 1) 2 (Value.string (bs p)) (by omega)).trans hk5
  clear HP HR HK HG
  have HP := Lib.hid bP
  have HR := Lib.hid bR
  have HK := Lib.hid kk
  have HG := Lib.hid (hg.kept kk)
  clear bP bR kk hk5
  have cP0 : w5.cell? ⟨w.heap.size + 1, 0, none⟩ = some (Value.string (bs [])) := HP.out.cell 0 _ rfl
  have cR0 : w5.cell? ⟨w.heap.size, 0, none⟩ = some (Value.string (bs [])) := HR.out.cell 0 _ rfl
  have fP0 := HP.out.free 0
  have fR0 := HR.out.free 0
  have cP1 : w5.cell? ⟨w.heap.size + 1, 1, none⟩ = some (Value.string (bs [])) := HP.out.cell 1 _ rfl
  have cR1 : w5.cell? ⟨w.heap.size, 1, none⟩ = some (Value.string (bs [])) := HR.out.cell 1 _ rfl
  have fP1 := HP.out.free 1
  have fR1 := HR.out.free 1
  have cP2 : w5.cell? ⟨w.heap.size + 1, 2, none⟩ = some (Value.string (bs p)) := HP.out.cell 2 _ rfl
  have cR2 : w5.cell? ⟨w.heap.size, 2, none⟩ = some (Value.string (bs [])) := HR.out.cell 2 _ rfl
  have fP2 := HP.out.free 2
  have fR2 := HR.out.free 2
  have cP3 : w5.cell? ⟨w.heap.size + 1, 3, none⟩ = some (Value.string (bs [])) := HP.out.cell 3 _ rfl
  have cR3 : w5.cell? ⟨w.heap.size, 3, none⟩ = some (Value.string (bs [])) := HR.out.cell 3 _ rfl
  have fP3 := HP.out.free 3
  have fR3 := HR.out.free 3
  have hzP := HP.out.lt
  have hzR := HR.out.lt
  go_wp2_with fail
  rw [← HSN.out]
  refine (cany_any t setN _ asciiN (by decide) (by decide) (by omega)).mono ?_
  rintro e w6 ⟨rfl, hk6⟩
  rw [HA2.out]
  clear cP0 cR0 fP0 fR0 cP1 cR1 fP1 fR1 cP2 cR2 fP2 fR2 cP3 cR3 fP3 fR3 hzP hzR
  have bP : Blk w6 (w.heap.size + 1) 32 #[Value.string (bs []), Value.string (bs []), Value.string (bs p), Value.string (bs [])] := (HP.out).kept hk6
  have bR : Blk w6 w.heap.size 32 #[Value.string (bs []), Value.string (bs []), Value.string (bs []), Value.string (bs [])] := (HR.out).kept hk6
  have kk : Kept w w6 := (HK.out).trans hk6
  clear HP HR HK HG
  have HP := Lib.hid bP
  have HR := Lib.hid bR
  have HK := Lib.hid kk
  have HG := Lib.hid (hg.kept kk)
  clear bP bR kk hk6
  have cP0 : w6.cell? ⟨w.heap.size + 1, 0, none⟩ = some (Value.string (bs [])) := HP.out.cell 0 _ rfl
  have cR0 : w6.cell? ⟨w.heap.size, 0, none⟩ = some (Value.string (bs [])) := HR.out.cell 0 _ rfl
  have fP0 := HP.out.free 0
  have fR0 := HR.out.free 0
  have cP1 : w6.cell? ⟨w.heap.size + 1, 1, none⟩ = some (Value.string (bs [])) := HP.out.cell 1 _ rfl
  have cR1 : w6.cell? ⟨w.heap.size, 1, none⟩ = some (Value.string (bs [])) := HR.out.cell 1 _ rfl
  have fP1 := HP.out.free 1
  have fR1 := HR.out.free 1
  have cP2 : w6.cell? ⟨w.heap.size + 1, 2, none⟩ = some (Value.string (bs p)) := HP.out.cell 2 _ rfl
  have cR2 : w6.cell? ⟨w.heap.size, 2, none⟩ = some (Value.string (bs [])) := HR.out.cell 2 _ rfl
  have fP2 := HP.out.free 2
  have fR2 := HR.out.free 2
  have cP3 : w6.cell? ⟨w.heap.size + 1, 3, none⟩ = some (Value.string (bs [])) := HP.out.cell 3 _ rfl
  have cR3 : w6.cell? ⟨w.heap.size, 3, none⟩ = some (Value.string (bs [])) := HR.out.cell 3 _ rfl
  have fP3 := HP.out.free 3
  have fR3 := HR.out.free 3
  have hzP := HP.out.lt
  have hzR := HR.out.lt
  go_wp2_with fail
  refine (split_any t 44 _ HG.out (by omega)).mono ?_
  rintro e w7 ⟨rfl, hw7⟩
  have hk7 : Kept w6 w7 := by rw [hw7]; exact kept_alloc _ _
  have bS : Blk w7 w6.heap.size 9 (strCells (splitC 44 t)).toArray := by rw [hw7]; exact Blk.new _ _ _
  have hB : w6.heap.size ≠ w.heap.size + 1 := by omega
  clear cP0 cR0 fP0 fR0 cP1 cR1 fP1 fR1 cP2 cR2 fP2 fR2 cP3 cR3 fP3 fR3 hzP hzR
  have bP : Blk w7 (w.heap.size + 1) 32 #[Value.string (bs []), Value.string (bs []), Value.string (bs p), Value.string (bs [])] := (HP.out).kept hk7
  have bR : Blk w7 w.heap.size 32 #[Value.string (bs []), Value.string (bs []), Value.string (bs []), Value.string (bs [])] := (HR.out).kept hk7
  have kk : Kept w w7 := (HK.out).trans hk7
  clear HP HR HK HG
  have HP := Lib.hid bP
  have HR := Lib.hid bR
  have HK := Lib.hid kk
  have HG := Lib.hid (hg.kept kk)
  clear bP bR kk hk7
  clear hw7
  rw [HSP.out]
  rw [HSP.out] at bS
  have HS : Hid (Blk w7 w6.heap.size 9 #[Value.string (bs a)]) := bS
  clear bS
  have cP0 : w7.cell? ⟨w.heap.size + 1, 0, none⟩ = some (Value.string (bs [])) := HP.out.cell 0 _ rfl
  have cR0 : w7.cell? ⟨w.heap.size, 0, none⟩ = some (Value.string (bs [])) := HR.out.cell 0 _ rfl
  have fP0 := HP.out.free 0
  have fR0 := HR.out.free 0
  have cP1 : w7.cell? ⟨w.heap.size + 1, 1, none⟩ = some (Value.string (bs [])) := HP.out.cell 1 _ rfl
  have cR1 : w7.cell? ⟨w.heap.size, 1, none⟩ = some (Value.string (bs [])) := HR.out.cell 1 _ rfl
  have fP1 := HP.out.free 1
  have fR1 := HR.out.free 1
  have cP2 : w7.cell? ⟨w.heap.size + 1, 2, none⟩ = some (Value.string (bs p)) := HP.out.cell 2 _ rfl
  have cR2 : w7.cell? ⟨w.heap.size, 2, none⟩ = some (Value.string (bs [])) := HR.out.cell 2 _ rfl
  have fP2 := HP.out.free 2
  have fR2 := HR.out.free 2
  have cP3 : w7.cell? ⟨w.heap.size + 1, 3, none⟩ = some (Value.string (bs [])) := HP.out.cell 3 _ rfl
  have cR3 : w7.cell? ⟨w.heap.size, 3, none⟩ = some (Value.string (bs [])) := HR.out.cell 3 _ rfl
  have fP3 := HP.out.free 3
  have fR3 := HR.out.free 3
  have hzP := HP.out.lt
  have hzR := HR.out.lt
  have cS0 : w7.cell? ⟨w6.heap.size, 0, none⟩ = some (.string (bs a)) := HS.out.cell 0 _ rfl
  have hzS := HS.out.lt
  go_wp2_with fail
  refine (clean_any a _ HG.out (by omega)).mono ?_
  rintro e w8 ⟨rfl, hk8⟩
  clear cS0 hzS
  clear cP0 cR0 fP0 fR0 cP1 cR1 fP1 fR1 cP2 cR2 fP2 fR2 cP3 cR3 fP3 fR3 hzP hzR
  have bS : Blk w8 w6.heap.size 9 #[Value.string (bs a)] := (HS.out).kept hk8
  clear HS
  have HS := Lib.hid bS
  clear bS
  have bP : Blk w8 (w.heap.size + 1) 32 #[Value.string (bs []), Value.string (bs []), Value.string (bs p), Value.string (bs [])] := (HP.out).kept hk8
  have bR : Blk w8 w.heap.size 32 #[Value.string (bs []), Value.string (bs []), Value.string (bs []), Value.string (bs [])] := (HR.out).kept hk8
  have kk : Kept w w8 := (HK.out).trans hk8
  clear HP HR HK HG
  have HP := Lib.hid bP
  have HR := Lib.hid bR
  have HK := Lib.hid kk
  have HG := Lib.hid (hg.kept kk)
  clear bP bR kk hk8
  rw [HFA.out]
  have cP0 : w8.cell? ⟨w.heap.size + 1, 0, none⟩ = some (Value.string (bs [])) := HP.out.cell 0 _ rfl
  have cR0 : w8.cell? ⟨w.heap.size, 0, none⟩ = some (Value.string (bs [])) := HR.out.cell 0 _ rfl
  have fP0 := HP.out.free 0
  have fR0 := HR.out.free 0
  have cP1 : w8.cell? ⟨w.heap.size + 1, 1, none⟩ = some (Value.string (bs [])) := HP.out.cell 1 _ rfl
  have cR1 : w8.cell? ⟨w.heap.size, 1, none⟩ = some (Value.string (bs [])) := HR.out.cell 1 _ rfl
  have fP1 := HP.out.free 1
  have fR1 := HR.out.free 1
  have cP2 : w8.cell? ⟨w.heap.size + 1, 2, none⟩ = some (Value.string (bs p)) := HP.out.cell 2 _ rfl
  have cR2 : w8.cell? ⟨w.heap.size, 2, none⟩ = some (Value.string (bs [])) := HR.out.cell 2 _ rfl
  have fP2 := HP.out.free 2
  have fR2 := HR.out.free 2
  have cP3 : w8.cell? ⟨w.heap.size + 1, 3, none⟩ = some (Value.string (bs [])) := HP.out.cell 3 _ rfl
  have cR3 : w8.cell? ⟨w.heap.size, 3, none⟩ = some (Value.string (bs [])) := HR.out.cell 3 _ rfl
  have fP3 := HP.out.free 3
  have fR3 := HR.out.free 3
  have hzP := HP.out.lt
  have hzR := HR.out.lt
  have cS0 : w8.cell? ⟨w6.heap.size, 0, none⟩ = some (.string (bs a)) := HS.out.cell 0 _ rfl
  have hzS := HS.out.lt
  go_wp2_with fail
  refine bodyPost_ret (v := .tuple #[persV [] [] [] [], .int .i64 8]) (by simp [results, Tryz.results144, go_sem, *]) rfl ⟨rfl, ?_⟩
  repeat (first | exact HK.out | refine kept_set ?_ _ _ _ (by omega) | exact (HK.out).trans (kept_drewN _ _))

set_option maxRecDepth 100000 in
set_option maxHeartbeats 3200000 in
theorem parse_ok2_b (l : Bs) (w : World) (hg : Gnd w) (hs : l.length ≤ 1000000) (hl : lineB l = true) (r p t : Bs) (HC : Hid (cleanL l = 123 :: r)) (hr : r.length ≤ 1000001) (hbr : before 125 r < r.length) (HPC : Hid (cleanL (r.take (before 125 r)) = p)) (HRC : Hid (r.drop (before 125 r + 1) = t)) (hpl : p.length ≤ 1000010) (ht : t.length ≤ 1000001) (hcnt : t.count 44 ≤ 2) (HA1 : Hid ((p : Bs).any (inSet setC) = false)) (HA2 : Hid (t.any (inSet setN) = false)) (a b : Bs) (HSP : Hid (splitC 44 t = [a, b])) (ha : a.length ≤ 1000010) (hb : b.length ≤ 1000010) (f : Bs) (HFA : Hid (cleanL a = f)) (g : Bs) (HFB : Hid (cleanL b = g)) (hf : ¬ f = []) (hfe : f.isEmpty = false) :
    Calls Tryz.prog 144 #[.string (bs l)] w fun e w' => e = .returned (.tuple #[persV f g p [], .int .i64 0]) ∧ Kept w w' := by
  have hcl := cleanL_le l
  go_enter Tryz.func144, Tryz.ntmps144
  go_wp2_with fail
  refine (line_any l _ (by omega)).mono ?_
  rintro e w1 ⟨rfl, n, rfl⟩
  rw [hl]
  go_wp2_with fail
  refine (clean_any l _ (hg.kept (((kept_alloc w _).trans (kept_alloc _ _)).trans (kept_drewN _ n))) (by omega)).mono ?_
  rintro e w2 ⟨rfl, hk2⟩
  have HP0 := Lib.hid ((Blk.new (w.alloc (.cells #[Value.string (bs []), Value.string (bs []), Value.string (bs []), Value.string (bs [])] 32)) 32 #[Value.string (bs []), Value.string (bs []), Value.string (bs []), Value.string (bs [])]).drewN n)
  have bP : Blk w2 (w.heap.size + 1) 32 #[Value.string (bs []), Value.string (bs []), Value.string (bs []), Value.string (bs [])] := by have := HP0.out.kept hk2; simpa using this
  have bR : Blk w2 w.heap.size 32 #[Value.string (bs []), Value.string (bs []), Value.string (bs []), Value.string (bs [])] := (((Blk.new w 32 #[Value.string (bs []), Value.string (bs []), Value.string (bs []), Value.string (bs [])]).alloc _).drewN n).kept hk2
  have kk : Kept w w2 := (((kept_alloc w _).trans (kept_alloc _ _)).trans (kept_drewN _ n)).trans hk2
  clear HP0
  have HP := Lib.hid bP
  have HR := Lib.hid bR
  have HK := Lib.hid kk
  have HG := Lib.hid (hg.kept kk)
  clear bP bR kk hk2
  rw [HC.out]
  go_wp2_with fail
  refine (cutp_yes r 123 _).mono ?_
  rintro e w' ⟨rfl, rfl⟩
  go_wp2_with fail
  refine (cut_any r 125 _ HG.out (by omega)).mono ?_
  rintro e w3 ⟨rfl, m, rfl⟩
  rw [if_pos hbr]
  go_wp2_with fail
  refine (clean_any (r.take (before 125 r)) _ (by exact HG.out) (by simp; omega)).mono ?_
  rintro e w4 ⟨rfl, hk4'⟩
  have hk4 := (kept_drewN w2 m).trans hk4'
  clear hk4'
  have bP : Blk w4 (w.heap.size + 1) 32 #[Value.string (bs []), Value.string (bs []), Value.string (bs []), Value.string (bs [])] := (HP.out).kept hk4
  have bR : Blk w4 w.heap.size 32 #[Value.string (bs []), Value.string (bs []), Value.string (bs []), Value.string (bs [])] := (HR.out).kept hk4
  have kk : Kept w w4 := (HK.out).trans hk4
  clear HP HR HK HG
  have HP := Lib.hid bP
  have HR := Lib.hid bR
  have HK := Lib.hid kk
  have HG := Lib.hid (hg.kept kk)
  clear bP bR kk hk4
  rw [HPC.out, HRC.out]
  have cP0 : w4.cell? ⟨w.heap.size + 1, 0, none⟩ = some (Value.string (bs [])) := HP.out.cell 0 _ rfl
  have cR0 : w4.cell? ⟨w.heap.size, 0, none⟩ = some (Value.string (bs [])) := HR.out.cell 0 _ rfl
  have fP0 := HP.out.free 0
  have fR0 := HR.out.free 0
  have cP1 : w4.cell? ⟨w.heap.size + 1, 1, none⟩ = some (Value.string (bs [])) := HP.out.cell 1 _ rfl
  have cR1 : w4.cell? ⟨w.heap.size, 1, none⟩ = some (Value.string (bs [])) := HR.out.cell 1 _ rfl
  have fP1 := HP.out.free 1
  have fR1 := HR.out.free 1
  have cP2 : w4.cell? ⟨w.heap.size + 1, 2, none⟩ = some (Value.string (bs [])) := HP.out.cell 2 _ rfl
  have cR2 : w4.cell? ⟨w.heap.size, 2, none⟩ = some (Value.string (bs [])) := HR.out.cell 2 _ rfl
  have fP2 := HP.out.free 2
  have fR2 := HR.out.free 2
  have cP3 : w4.cell? ⟨w.heap.size + 1, 3, none⟩ = some (Value.string (bs [])) := HP.out.cell 3 _ rfl
  have cR3 : w4.cell? ⟨w.heap.size, 3, none⟩ = some (Value.string (bs [])) := HR.out.cell 3 _ rfl
  have fP3 := HP.out.free 3
  have fR3 := HR.out.free 3
  have hzP := HP.out.lt
  have hzR := HR.out.lt
  go_wp2_with fail
  refine (count_any t 44 _).mono ?_
  rintro e w' ⟨rfl, rfl⟩
  go_wp2_with fail
  have HSC : Hid (setC = [44, 59, 123, 125]) := rfl
  have HSN : Hid (setN = [59, 123, 125]) := rfl
  rw [← HSC.out]
  refine (cany_any p setC _ asciiC (by decide) (by decide) (by omega)).mono ?_
  rintro e w5 ⟨rfl, hk5⟩
  rw [HA1.out]
  clear cP0 cR0 fP0 fR0 cP1 cR1 fP1 fR1 cP2 cR2 fP2 fR2 cP3 cR3 fP3 fR3 hzP hzR
  have bP : Blk w5 (w.heap.size + 1) 32 #[Value.string (bs []), Value.string (bs []), Value.string (bs p), Value.string (bs [])] := ((HP.out).set 2 (Value.string (bs p))).kept hk5
  have bR : Blk w5 w.heap.size 32 #[Value.string (bs []), Value.string (bs []), Value.string (bs []), Value.string (bs [])] := ((HR.out).other (w.heap.size + 1) 2 (Value.string (bs p)) (by omega)).kept hk5
  have kk : Kept w w5 := (kept_set (HK.out) (w.heap.size + 1) 2 (Value.string (bs p)) (by omega)).trans hk5
  clear HP HR HK HG
  have HP := Lib.hid bP
  have HR := Lib.hid bR
  have HK := Lib.hid kk
  have HG := Lib.hid (hg.kept kk)
  clear bP bR kk hk5
  have cP0 : w5.cell? ⟨w.heap.size + 1, 0, none⟩ = some (Value.string (bs [])) := HP.out.cell 0 _ rfl
  have cR0 : w5.cell? ⟨w.heap.size, 0, none⟩ = some (Value.string (bs [])) := HR.out.cell 0 _ rfl
  have fP0 := HP.out.free 0
  have fR0 := HR.out.free 0
  have cP1 : w5.cell? ⟨w.heap.size + 1, 1, none⟩ = some (Value.string (bs [])) := HP.out.cell 1 _ rfl
  have cR1 : w5.cell? ⟨w.heap.size, 1, none⟩ = some (Value.string (bs [])) := HR.out.cell 1 _ rfl
  have fP1 := HP.out.free 1
  have fR1 := HR.out.free 1
  have cP2 : w5.cell? ⟨w.heap.size + 1, 2, none⟩ = some (Value.string (bs p)) := HP.out.cell 2 _ rfl
  have cR2 : w5.cell? ⟨w.heap.size, 2, none⟩ = some (Value.string (bs [])) := HR.out.cell 2 _ rfl
  have fP2 := HP.out.free 2
  have fR2 := HR.out.free 2
  have cP3 : w5.cell? ⟨w.heap.size + 1, 3, none⟩ = some (Value.string (bs [])) := HP.out.cell 3 _ rfl
  have cR3 : w5.cell? ⟨w.heap.size, 3, none⟩ = some (Value.string (bs [])) := HR.out.cell 3 _ rfl
  have fP3 := HP.out.free 3
  have fR3 := HR.out.free 3
  have hzP := HP.out.lt
  have hzR := HR.out.lt
  go_wp2_with fail
  rw [← HSN.out]
  refine (cany_any t setN _ asciiN (by decide) (by decide) (by omega)).mono ?_
  rintro e w6 ⟨rfl, hk6⟩
  rw [HA2.out]
  clear cP0 cR0 fP0 fR0 cP1 cR1 fP1 fR1 cP2 cR2 fP2 fR2 cP3 cR3 fP3 fR3 hzP hzR
  have bP : Blk w6 (w.heap.size + 1) 32 #[Value.string (bs []), Value.string (bs []), Value.string (bs p), Value.string (bs [])] := (HP.out).kept hk6
  have bR : Blk w6 w.heap.size 32 #[Value.string (bs []), Value.string (bs []), Value.string (bs []), Value.string (bs [])] := (HR.out).kept hk6
  have kk : Kept w w6 := (HK.out).trans hk6
  clear HP HR HK HG
  have HP := Lib.hid bP
  have HR := Lib.hid bR
  have HK := Lib.hid kk
  have HG := Lib.hid (hg.kept kk)
  clear bP bR kk hk6
  have cP0 : w6.cell? ⟨w.heap.size + 1, 0, none⟩ = some (Value.string (bs [])) := HP.out.cell 0 _ rfl
  have cR0 : w6.cell? ⟨w.heap.size, 0, none⟩ = some (Value.string (bs [])) := HR.out.cell 0 _ rfl
  have fP0 := HP.out.free 0
  have fR0 := HR.out.free 0
  have cP1 : w6.cell? ⟨w.heap.size + 1, 1, none⟩ = some (Value.string (bs [])) := HP.out.cell 1 _ rfl
  have cR1 : w6.cell? ⟨w.heap.size, 1, none⟩ = some (Value.string (bs [])) := HR.out.cell 1 _ rfl
  have fP1 := HP.out.free 1
  have fR1 := HR.out.free 1
  have cP2 : w6.cell? ⟨w.heap.size + 1, 2, none⟩ = some (Value.string (bs p)) := HP.out.cell 2 _ rfl
  have cR2 : w6.cell? ⟨w.heap.size, 2, none⟩ = some (Value.string (bs [])) := HR.out.cell 2 _ rfl
  have fP2 := HP.out.free 2
  have fR2 := HR.out.free 2
  have cP3 : w6.cell? ⟨w.heap.size + 1, 3, none⟩ = some (Value.string (bs [])) := HP.out.cell 3 _ rfl
  have cR3 : w6.cell? ⟨w.heap.size, 3, none⟩ = some (Value.string (bs [])) := HR.out.cell 3 _ rfl
  have fP3 := HP.out.free 3
  have fR3 := HR.out.free 3
  have hzP := HP.out.lt
  have hzR := HR.out.lt
  go_wp2_with fail
  refine (split_any t 44 _ HG.out (by omega)).mono ?_
  rintro e w7 ⟨rfl, hw7⟩
  have hk7 : Kept w6 w7 := by rw [hw7]; exact kept_alloc _ _
  have bS : Blk w7 w6.heap.size 9 (strCells (splitC 44 t)).toArray := by rw [hw7]; exact Blk.new _ _ _
  have hB : w6.heap.size ≠ w.heap.size + 1 := by omega
  clear cP0 cR0 fP0 fR0 cP1 cR1 fP1 fR1 cP2 cR2 fP2 fR2 cP3 cR3 fP3 fR3 hzP hzR
  have bP : Blk w7 (w.heap.size + 1) 32 #[Value.string (bs []), Value.string (bs []), Value.string (bs p), Value.string (bs [])] := (HP.out).kept hk7
  have bR : Blk w7 w.heap.size 32 #[Value.string (bs []), Value.string (bs []), Value.string (bs []), Value.string (bs [])] := (HR.out).kept hk7
  have kk : Kept w w7 := (HK.out).trans hk7
  clear HP HR HK HG
  have HP := Lib.hid bP
  have HR := Lib.hid bR
  have HK := Lib.hid kk
  have HG := Lib.hid (hg.kept kk)
  clear bP bR kk hk7
  clear hw7
  rw [HSP.out]
  rw [HSP.out] at bS
  have HS : Hid (Blk w7 w6.heap.size 9 #[Value.string (bs a), Value.string (bs b)]) := bS
  clear bS
  have cP0 : w7.cell? ⟨w.heap.size + 1, 0, none⟩ = some (Value.string (bs [])) := HP.out.cell 0 _ rfl
  have cR0 : w7.cell? ⟨w.heap.size, 0, none⟩ = some (Value.string (bs [])) := HR.out.cell 0 _ rfl
  have fP0 := HP.out.free 0
  have fR0 := HR.out.free 0
  have cP1 : w7.cell? ⟨w.heap.size + 1, 1, none⟩ = some (Value.string (bs [])) := HP.out.cell 1 _ rfl
  have cR1 : w7.cell? ⟨w.heap.size, 1, none⟩ = some (Value.string (bs [])) := HR.out.cell 1 _ rfl
  have fP1 := HP.out.free 1
  have fR1 := HR.out.free 1
  have cP2 : w7.cell? ⟨w.heap.size + 1, 2, none⟩ = some (Value.string (bs p)) := HP.out.cell 2 _ rfl
  have cR2 : w7.cell? ⟨w.heap.size, 2, none⟩ = some (Value.string (bs [])) := HR.out.cell 2 _ rfl
  have fP2 := HP.out.free 2
  have fR2 := HR.out.free 2
  have cP3 : w7.cell? ⟨w.heap.size + 1, 3, none⟩ = some (Value.string (bs [])) := HP.out.cell 3 _ rfl
  have cR3 : w7.cell? ⟨w.heap.size, 3, none⟩ = some (Value.string (bs [])) := HR.out.cell 3 _ rfl
  have fP3 := HP.out.free 3
  have fR3 := HR.out.free 3
  have hzP := HP.out.lt
  have hzR := HR.out.lt
  have cS0 : w7.cell? ⟨w6.heap.size, 0, none⟩ = some (.string (bs a)) := HS.out.cell 0 _ rfl
  have cS1 : w7.cell? ⟨w6.heap.size, 1, none⟩ = some (.string (bs b)) := HS.out.cell 1 _ rfl
  have hzS := HS.out.lt
  go_wp2_with fail
  refine (clean_any a _ HG.out (by omega)).mono ?_
  rintro e w8 ⟨rfl, hk8⟩
  clear cS0 cS1 hzS
  clear cP0 cR0 fP0 fR0 cP1 cR1 fP1 fR1 cP2 cR2 fP2 fR2 cP3 cR3 fP3 fR3 hzP hzR
  have bS : Blk w8 w6.heap.size 9 #[Value.string (bs a), Value.string (bs b)] := (HS.out).kept hk8
  clear HS
  have HS := Lib.hid bS
  clear bS
  have bP : Blk w8 (w.heap.size + 1) 32 #[Value.string (bs []), Value.string (bs []), Value.string (bs p), Value.string (bs [])] := (HP.out).kept hk8
  have bR : Blk w8 w.heap.size 32 #[Value.string (bs []), Value.string (bs []), Value.string (bs []), Value.string (bs [])] := (HR.out).kept hk8
  have kk : Kept w w8 := (HK.out).trans hk8
  clear HP HR HK HG
  have HP := Lib.hid bP
  have HR := Lib.hid bR
  have HK := Lib.hid kk
  have HG := Lib.hid (hg.kept kk)
  clear bP bR kk hk8
  rw [HFA.out]
  have cP0 : w8.cell? ⟨w.heap.size + 1, 0, none⟩ = some (Value.string (bs [])) := HP.out.cell 0 _ rfl
  have cR0 : w8.cell? ⟨w.heap.size, 0, none⟩ = some (Value.string (bs [])) := HR.out.cell 0 _ rfl
  have fP0 := HP.out.free 0
  have fR0 := HR.out.free 0
  have cP1 : w8.cell? ⟨w.heap.size + 1, 1, none⟩ = some (Value.string (bs [])) := HP.out.cell 1 _ rfl
  have cR1 : w8.cell? ⟨w.heap.size, 1, none⟩ = some (Value.string (bs [])) := HR.out.cell 1 _ rfl
  have fP1 := HP.out.free 1
  have fR1 := HR.out.free 1
  have cP2 : w8.cell? ⟨w.heap.size + 1, 2, none⟩ = some (Value.string (bs p)) := HP.out.cell 2 _ rfl
  have cR2 : w8.cell? ⟨w.heap.size, 2, none⟩ = some (Value.string (bs [])) := HR.out.cell 2 _ rfl
  have fP2 := HP.out.free 2
  have fR2 := HR.out.free 2
  have cP3 : w8.cell? ⟨w.heap.size + 1, 3, none⟩ = some (Value.string (bs [])) := HP.out.cell 3 _ rfl
  have cR3 : w8.cell? ⟨w.heap.size, 3, none⟩ = some (Value.string (bs [])) := HR.out.cell 3 _ rfl
  have fP3 := HP.out.free 3
  have fR3 := HR.out.free 3
  have hzP := HP.out.lt
  have hzR := HR.out.lt
  have cS0 : w8.cell? ⟨w6.heap.size, 0, none⟩ = some (.string (bs a)) := HS.out.cell 0 _ rfl
  have cS1 : w8.cell? ⟨w6.heap.size, 1, none⟩ = some (.string (bs b)) := HS.out.cell 1 _ rfl
  have hzS := HS.out.lt
  go_wp2_with fail
  refine (clean_any b _ (hg.kept (kept_set HK.out (w.heap.size + 1) 0 _ (by omega))) (by omega)).mono ?_
  rintro e w9 ⟨rfl, hk9⟩
  clear cS0 cS1 hzS
  clear cP0 cR0 fP0 fR0 cP1 cR1 fP1 fR1 cP2 cR2 fP2 fR2 cP3 cR3 fP3 fR3 hzP hzR
  have bS : Blk w9 w6.heap.size 9 #[Value.string (bs a), Value.string (bs b)] := ((HS.out).other (w.heap.size + 1) 0 (Value.string (bs f)) hB).kept hk9
  clear HS
  have HS := Lib.hid bS
  clear bS
  have bP : Blk w9 (w.heap.size + 1) 32 #[Value.string (bs f), Value.string (bs []), Value.string (bs p), Value.string (bs [])] := ((HP.out).set 0 (Value.string (bs f))).kept hk9
  have bR : Blk w9 w.heap.size 32 #[Value.string (bs []), Value.string (bs []), Value.string (bs []), Value.string (bs [])] := ((HR.out).other (w.heap.size + 1) 0 (Value.string (bs f)) (by omega)).kept hk9
  have kk : Kept w w9 := (kept_set (HK.out) (w.heap.size + 1) 0 (Value.string (bs f)) (by omega)).trans hk9
  clear HP HR HK HG
  have HP := Lib.hid bP
  have HR := Lib.hid bR
  have HK := Lib.hid kk
  have HG := Lib.hid (hg.kept kk)
  clear bP bR kk hk9
  rw [HFB.out]
  have cP0 : w9.cell? ⟨w.heap.size + 1, 0, none⟩ = some (Value.string (bs f)) := HP.out.cell 0 _ rfl
  have cR0 : w9.cell? ⟨w.heap.size, 0, none⟩ = some (Value.string (bs [])) := HR.out.cell 0 _ rfl
  have fP0 := HP.out.free 0
  have fR0 := HR.out.free 0
  have cP1 : w9.cell? ⟨w.heap.size + 1, 1, none⟩ = some (Value.string (bs [])) := HP.out.cell 1 _ rfl
  have cR1 : w9.cell? ⟨w.heap.size, 1, none⟩ = some (Value.string (bs [])) := HR.out.cell 1 _ rfl
  have fP1 := HP.out.free 1
  have fR1 := HR.out.free 1
  have cP2 : w9.cell? ⟨w.heap.size + 1, 2, none⟩ = some (Value.string (bs p)) := HP.out.cell 2 _ rfl
  have cR2 : w9.cell? ⟨w.heap.size, 2, none⟩ = some (Value.string (bs [])) := HR.out.cell 2 _ rfl
  have fP2 := HP.out.free 2
  have fR2 := HR.out.free 2
  have cP3 : w9.cell? ⟨w.heap.size + 1, 3, none⟩ = some (Value.string (bs [])) := HP.out.cell 3 _ rfl
  have cR3 : w9.cell? ⟨w.heap.size, 3, none⟩ = some (Value.string (bs [])) := HR.out.cell 3 _ rfl
  have fP3 := HP.out.free 3
  have fR3 := HR.out.free 3
  have hzP := HP.out.lt
  have hzR := HR.out.lt
  go_wp2_with fail
  refine bodyPost_ret (v := .tuple #[persV f g p [], .int .i64 0]) (by simp [results, Tryz.results144, go_sem, *]) rfl ⟨rfl, ?_⟩
  repeat (first | exact HK.out | refine kept_set ?_ _ _ _ (by omega) | exact (HK.out).trans (kept_drewN _ _))

set_option maxRecDepth 100000 in
set_option maxHeartbeats 3200000 in
theorem parse_none2_b (l : Bs) (w : World) (hg : Gnd w) (hs : l.length ≤ 1000000) (hl : lineB l = true) (r p t : Bs) (HC : Hid (cleanL l = 123 :: r)) (hr : r.length ≤ 1000001) (hbr : before 125 r < r.length) (HPC : Hid (cleanL (r.take (before 125 r)) = p)) (HRC : Hid (r.drop (before 125 r + 1) = t)) (hpl : p.length ≤ 1000010) (ht : t.length ≤ 1000001) (hcnt : t.count 44 ≤ 2) (HA1 : Hid ((p : Bs).any (inSet setC) = false)) (HA2 : Hid (t.any (inSet setN) = false)) (a b : Bs) (HSP : Hid (splitC 44 t = [a, b])) (ha : a.length ≤ 1000010) (hb : b.length ≤ 1000010) (HFA : Hid (cleanL a = [])) (g : Bs) (HFB : Hid (cleanL b = g))  :
    Calls Tryz.prog 144 #[.string (bs l)] w fun e w' => e = .returned (.tuple #[persV [] [] [] [], .int .i64 8]) ∧ Kept w w' := by
  have hcl := cleanL_le l
  go_enter Tryz.func144, Tryz.ntmps144
  go_wp2_with fail
  refine (line_any l _ (by omega)).mono ?_
  rintro e w1 ⟨rfl, n, rfl⟩
  rw [hl]
  go_wp2_with fail
  refine (clean_any l _ (hg.kept (((kept_alloc w _).trans (kept_alloc _ _)).trans (kept_drewN _ n))) (by omega)).mono ?_
  rintro e w2 ⟨rfl, hk2⟩
  have HP0 := Lib.hid ((Blk.new (w.alloc (.cells #[Value.string (bs []), Value.string (bs []), Value.string (bs []), Value.string (bs [])] 32)) 32 #[Value.string (bs []), Value.string (bs []), Value.string (bs []), Value.string (bs [])]).drewN n)
  have bP : Blk w2 (w.heap.size + 1) 32 #[Value.string (bs []), Value.string (bs []), Value.string (bs []), Value.string (bs [])] := by have := HP0.out.kept hk2; simpa using this
  have bR : Blk w2 w.heap.size 32 #[Value.string (bs []), Value.string (bs []), Value.string (bs []), Value.string (bs [])] := (((Blk.new w 32 #[Value.string (bs []), Value.string (bs []), Value.string (bs []), Value.string (bs [])]).alloc _).drewN n).kept hk2
  have kk : Kept w w2 := (((kept_alloc w _).trans (kept_alloc _ _)).trans (kept_drewN _ n)).trans hk2
  clear HP0
  have HP := Lib.hid bP
  have HR := Lib.hid bR
  have HK := Lib.hid kk
  have HG := Lib.hid (hg.kept kk)
  clear bP bR kk hk2
  rw [HC.out]
  go_wp2_with fail
  refine (cutp_yes r 123 _).mono ?_
  rintro e w' ⟨rfl, rfl⟩
  go_wp2_with fail
  refine (cut_any r 125 _ HG.out (by omega)).mono ?_
  rintro e w3 ⟨rfl, m, rfl⟩
  rw [if_pos hbr]
  go_wp2_with fail
  refine (clean_any (r.take (before 125 r)) _ (by exact HG.out) (by simp; omega)).mono ?_
  rintro e w4 ⟨rfl, hk4'⟩
  have hk4 := (kept_drewN w2 m).trans hk4'
  clear hk4'
  have bP : Blk w4 (w.heap.size + 1) 32 #[Value.string (bs []), Value.string (bs []), Value.string (bs []), Value.string (bs [])] := (HP.out).kept hk4
  have bR : Blk w4 w.heap.size 32 #[Value.string (bs []), Value.string (bs []), Value.string (bs []), Value.string (bs [])] := (HR.out).kept hk4
  have kk : Kept w w4 := (HK.out).trans hk4
  clear HP HR HK HG
  have HP := Lib.hid bP
  have HR := Lib.hid bR
  have HK := Lib.hid kk
  have HG := Lib.hid (hg.kept kk)
  clear bP bR kk hk4
  rw [HPC.out, HRC.out]
  have cP0 : w4.cell? ⟨w.heap.size + 1, 0, none⟩ = some (Value.string (bs [])) := HP.out.cell 0 _ rfl
  have cR0 : w4.cell? ⟨w.heap.size, 0, none⟩ = some (Value.string (bs [])) := HR.out.cell 0 _ rfl
  have fP0 := HP.out.free 0
  have fR0 := HR.out.free 0
  have cP1 : w4.cell? ⟨w.heap.size + 1, 1, none⟩ = some (Value.string (bs [])) := HP.out.cell 1 _ rfl
  have cR1 : w4.cell? ⟨w.heap.size, 1, none⟩ = some (Value.string (bs [])) := HR.out.cell 1 _ rfl
  have fP1 := HP.out.free 1
  have fR1 := HR.out.free 1
  have cP2 : w4.cell? ⟨w.heap.size + 1, 2, none⟩ = some (Value.string (bs [])) := HP.out.cell 2 _ rfl
  have cR2 : w4.cell? ⟨w.heap.size, 2, none⟩ = some (Value.string (bs [])) := HR.out.cell 2 _ rfl
  have fP2 := HP.out.free 2
  have fR2 := HR.out.free 2
  have cP3 : w4.cell? ⟨w.heap.size + 1, 3, none⟩ = some (Value.string (bs [])) := HP.out.cell 3 _ rfl
  have cR3 : w4.cell? ⟨w.heap.size, 3, none⟩ = some (Value.string (bs [])) := HR.out.cell 3 _ rfl
  have fP3 := HP.out.free 3
  have fR3 := HR.out.free 3
  have hzP := HP.out.lt
  have hzR := HR.out.lt
  go_wp2_with fail
  refine (count_any t 44 _).mono ?_
  rintro e w' ⟨rfl, rfl⟩
  go_wp2_with fail
  have HSC : Hid (setC = [44, 59, 123, 125]) := rfl
  have HSN : Hid (setN = [59, 123, 125]) := rfl
  rw [← HSC.out]
  refine (cany_any p setC _ asciiC (by decide) (by decide) (by omega)).mono ?_
  rintro e w5 ⟨rfl, hk5⟩
  rw [HA1.out]
  clear cP0 cR0 fP0 fR0 cP1 cR1 fP1 fR1 cP2 cR2 fP2 fR2 cP3 cR3 fP3 fR3 hzP hzR
  have bP : Blk w5 (w.heap.size + 1) 32 #[Value.string (bs []), Value.string (bs []), Value.string (bs p), Value.string (bs [])] := ((HP.out).set 2 (Value.string (bs p))).kept hk5
  have bR : Blk w5 w.heap.size 32 #[Value.string (bs []), Value.string (bs []), Value.string (bs []), Value.string (bs [])] := ((HR.out).other (w.heap.size + 1) 2 (Value.string (bs p)) (by omega)).kept hk5
  have kk : Kept w w5 := (kept_set (HK.out) (w.heap.size + 1) 2 (Value.string (bs p)) (by omega)).trans hk5
  clear HP HR HK HG
  have HP := Lib.hid bP
  have HR := Lib.hid bR
  have HK := Lib.hid kk
  have HG := Lib.hid (hg.kept kk)
  clear bP bR kk hk5
  have cP0 : w5.cell? ⟨w.heap.size + 1, 0, none⟩ = some (Value.string (bs [])) := HP.out.cell 0 _ rfl
  have cR0 : w5.cell? ⟨w.heap.size, 0, none⟩ = some (Value.string (bs [])) := HR.out.cell 0 _ rfl
  have fP0 := HP.out.free 0
  have fR0 := HR.out.free 0
  have cP1 : w5.cell? ⟨w.heap.size + 1, 1, none⟩ = some (Value.string (bs [])) := HP.out.cell 1 _ rfl
  have cR1 : w5.cell? ⟨w.heap.size, 1, none⟩ = some (Value.string (bs [])) := HR.out.cell 1 _ rfl
  have fP1 := HP.out.free 1
  have fR1 := HR.out.free 1
  have cP2 : w5.cell? ⟨w.heap.size + 1, 2, none⟩ = some (Value.string (bs p)) := HP.out.cell 2 _ rfl
  have cR2 : w5.cell? ⟨w.heap.size, 2, none⟩ = some (Value.string (bs [])) := HR.out.cell 2 _ rfl
  have fP2 := HP.out.free 2
  have fR2 := HR.out.free 2
  have cP3 : w5.cell? ⟨w.heap.size + 1, 3, none⟩ = some (Value.string (bs [])) := HP.out.cell 3 _ rfl
  have cR3 : w5.cell? ⟨w.heap.size, 3, none⟩ = some (Value.string (bs [])) := HR.out.cell 3 _ rfl
  have fP3 := HP.out.free 3
  have fR3 := HR.out.free 3
  have hzP := HP.out.lt
  have hzR := HR.out.lt
  go_wp2_with fail
  rw [← HSN.out]
  refine (cany_any t setN _ asciiN (by decide) (by decide) (by omega)).mono ?_
  rintro e w6 ⟨rfl, hk6⟩
  rw [HA2.out]
  clear cP0 cR0 fP0 fR0 cP1 cR1 fP1 fR1 cP2 cR2 fP2 fR2 cP3 cR3 fP3 fR3 hzP hzR
  have bP : Blk w6 (w.heap.size + 1) 32 #[Value.string (bs []), Value.string (bs []), Value.string (bs p), Value.string (bs [])] := (HP.out).kept hk6
  have bR : Blk w6 w.heap.size 32 #[Value.string (bs []), Value.string (bs []), Value.string (bs []), Value.string (bs [])] := (HR.out).kept hk6
  have kk : Kept w w6 := (HK.out).trans hk6
  clear HP HR HK HG
  have HP := Lib.hid bP
  have HR := Lib.hid bR
  have HK := Lib.hid kk
  have HG := Lib.hid (hg.kept kk)
  clear bP bR kk hk6
  have cP0 : w6.cell? ⟨w.heap.size + 1, 0, none⟩ = some (Value.string (bs [])) := HP.out.cell 0 _ rfl
  have cR0 : w6.cell? ⟨w.heap.size, 0, none⟩ = some (Value.string (bs [])) := HR.out.cell 0 _ rfl
  have fP0 := HP.out.free 0
  have fR0 := HR.out.free 0
  have cP1 : w6.cell? ⟨w.heap.size + 1, 1, none⟩ = some (Value.string (bs [])) := HP.out.cell 1 _ rfl
  have cR1 : w6.cell? ⟨w.heap.size, 1, none⟩ = some (Value.string (bs [])) := HR.out.cell 1 _ rfl
  have fP1 := HP.out.free 1
  have fR1 := HR.out.free 1
  have cP2 : w6.cell? ⟨w.heap.size + 1, 2, none⟩ = some (Value.string (bs p)) := HP.out.cell 2 _ rfl
  have cR2 : w6.cell? ⟨w.heap.size, 2, none⟩ = some (Value.string (bs [])) := HR.out.cell 2 _ rfl
  have fP2 := HP.out.free 2
  have fR2 := HR.out.free 2
  have cP3 : w6.cell? ⟨w.heap.size + 1, 3, none⟩ = some (Value.string (bs [])) := HP.out.cell 3 _ rfl
  have cR3 : w6.cell? ⟨w.heap.size, 3, none⟩ = some (Value.string (bs [])) := HR.out.cell 3 _ rfl
  have fP3 := HP.out.free 3
  have fR3 := HR.out.free 3
  have hzP := HP.out.lt
  have hzR := HR.out.lt
  go_wp2_with fail
  refine (split_any t 44 _ HG.out (by omega)).mono ?_
  rintro e w7 ⟨rfl, hw7⟩
  have hk7 : Kept w6 w7 := by rw [hw7]; exact kept_alloc _ _
  have bS : Blk w7 w6.heap.size 9 (strCells (splitC 44 t)).toArray := by rw [hw7]; exact Blk.new _ _ _
  have hB : w6.heap.size ≠ w.heap.size + 1 := by omega
  clear cP0 cR0 fP0 fR0 cP1 cR1 fP1 fR1 cP2 cR2 fP2 fR2 cP3 cR3 fP3 fR3 hzP hzR
  have bP : Blk w7 (w.heap.size + 1) 32 #[Value.string (bs []), Value.string (bs []), Value.string (bs p), Value.string (bs [])] := (HP.out).kept hk7
  have bR : Blk w7 w.heap.size 32 #[Value.string (bs []), Value.string (bs []), Value.string (bs []), Value.string (bs [])] := (HR.out).kept hk7
  have kk : Kept w w7 := (HK.out).trans hk7
  clear HP HR HK HG
  have HP := Lib.hid bP
  have HR := Lib.hid bR
  have HK := Lib.hid kk
  have HG := Lib.hid (hg.kept kk)
  clear bP bR kk hk7
  clear hw7
  rw [HSP.out]
  rw [HSP.out] at bS
  have HS : Hid (Blk w7 w6.heap.size 9 #[Value.string (bs a), Value.string (bs b)]) := bS
  clear bS
  have cP0 : w7.cell? ⟨w.heap.size + 1, 0, none⟩ = some (Value.string (bs [])) := HP.out.cell 0 _ rfl
  have cR0 : w7.cell? ⟨w.heap.size, 0, none⟩ = some (Value.string (bs [])) := HR.out.cell 0 _ rfl
  have fP0 := HP.out.free 0
  have fR0 := HR.out.free 0
  have cP1 : w7.cell? ⟨w.heap.size + 1, 1, none⟩ = some (Value.string (bs [])) := HP.out.cell 1 _ rfl
  have cR1 : w7.cell? ⟨w.heap.size, 1, none⟩ = some (Value.string (bs [])) := HR.out.cell 1 _ rfl
  have fP1 := HP.out.free 1
  have fR1 := HR.out.free 1
  have cP2 : w7.cell? ⟨w.heap.size + 1, 2, none⟩ = some (Value.string (bs p)) := HP.out.cell 2 _ rfl
  have cR2 : w7.cell? ⟨w.heap.size, 2, none⟩ = some (Value.string (bs [])) := HR.out.cell 2 _ rfl
  have fP2 := HP.out.free 2
  have fR2 := HR.out.free 2
  have cP3 : w7.cell? ⟨w.heap.size + 1, 3, none⟩ = some (Value.string (bs [])) := HP.out.cell 3 _ rfl
  have cR3 : w7.cell? ⟨w.heap.size, 3, none⟩ = some (Value.string (bs [])) := HR.out.cell 3 _ rfl
  have fP3 := HP.out.free 3
  have fR3 := HR.out.free 3
  have hzP := HP.out.lt
  have hzR := HR.out.lt
  have cS0 : w7.cell? ⟨w6.heap.size, 0, none⟩ = some (.string (bs a)) := HS.out.cell 0 _ rfl
  have cS1 : w7.cell? ⟨w6.heap.size, 1, none⟩ = some (.string (bs b)) := HS.out.cell 1 _ rfl
  have hzS := HS.out.lt
  go_wp2_with fail
  refine (clean_any a _ HG.out (by omega)).mono ?_
  rintro e w8 ⟨rfl, hk8⟩
  clear cS0 cS1 hzS
  clear cP0 cR0 fP0 fR0 cP1 cR1 fP1 fR1 cP2 cR2 fP2 fR2 cP3 cR3 fP3 fR3 hzP hzR
  have bS : Blk w8 w6.heap.size 9 #[Value.string (bs a), Value.string (bs b)] := (HS.out).kept hk8
  clear HS
  have HS := Lib.hid bS
  clear bS
  have bP : Blk w8 (w.heap.size + 1) 32 #[Value.string (bs []), Value.string (bs []), Value.string (bs p), Value.string (bs [])] := (HP.out).kept hk8
  have bR : Blk w8 w.heap.size 32 #[Value.string (bs []), Value.string (bs []), Value.string (bs []), Value.string (bs [])] := (HR.out).kept hk8
  have kk : Kept w w8 := (HK.out).trans hk8
  clear HP HR HK HG
  have HP := Lib.hid bP
  have HR := Lib.hid bR
  have HK := Lib.hid kk
  have HG := Lib.hid (hg.kept kk)
  clear bP bR kk hk8
  rw [HFA.out]
  have cP0 : w8.cell? ⟨w.heap.size + 1, 0, none⟩ = some (Value.string (bs [])) := HP.out.cell 0 _ rfl
  have cR0 : w8.cell? ⟨w.heap.size, 0, none⟩ = some (Value.string (bs [])) := HR.out.cell 0 _ rfl
  have fP0 := HP.out.free 0
  have fR0 := HR.out.free 0
  have cP1 : w8.cell? ⟨w.heap.size + 1, 1, none⟩ = some (Value.string (bs [])) := HP.out.cell 1 _ rfl
  have cR1 : w8.cell? ⟨w.heap.size, 1, none⟩ = some (Value.string (bs [])) := HR.out.cell 1 _ rfl
  have fP1 := HP.out.free 1
  have fR1 := HR.out.free 1
  have cP2 : w8.cell? ⟨w.heap.size + 1, 2, none⟩ = some (Value.string (bs p)) := HP.out.cell 2 _ rfl
  have cR2 : w8.cell? ⟨w.heap.size, 2, none⟩ = some (Value.string (bs [])) := HR.out.cell 2 _ rfl
  have fP2 := HP.out.free 2
  have fR2 := HR.out.free 2
  have cP3 : w8.cell? ⟨w.heap.size + 1, 3, none⟩ = some (Value.string (bs [])) := HP.out.cell 3 _ rfl
  have cR3 : w8.cell? ⟨w.heap.size, 3, none⟩ = some (Value.string (bs [])) := HR.out.cell 3 _ rfl
  have fP3 := HP.out.free 3
  have fR3 := HR.out.free 3
  have hzP := HP.out.lt
  have hzR := HR.out.lt
  have cS0 : w8.cell? ⟨w6.heap.size, 0, none⟩ = some (.string (bs a)) := HS.out.cell 0 _ rfl
  have cS1 : w8.cell? ⟨w6.heap.size, 1, none⟩ = some (.string (bs b)) := HS.out.cell 1 _ rfl
  have hzS := HS.out.lt
  go_wp2_with fail
  refine (clean_any b _ (hg.kept (kept_set HK.out (w.heap.size + 1) 0 _ (by omega))) (by omega)).mono ?_
  rintro e w9 ⟨rfl, hk9⟩
  clear cS0 cS1 hzS
  clear cP0 cR0 fP0 fR0 cP1 cR1 fP1 fR1 cP2 cR2 fP2 fR2 cP3 cR3 fP3 fR3 hzP hzR
  have bS : Blk w9 w6.heap.size 9 #[Value.string (bs a), Value.string (bs b)] := ((HS.out).other (w.heap.size + 1) 0 (Value.string (bs [])) hB).kept hk9
  clear HS
  have HS := Lib.hid bS
  clear bS
  have bP : Blk w9 (w.heap.size + 1) 32 #[Value.string (bs []), Value.string (bs []), Value.string (bs p), Value.string (bs [])] := ((HP.out).set 0 (Value.string (bs []))).kept hk9
  have bR : Blk w9 w.heap.size 32 #[Value.string (bs []), Value.string (bs []), Value.string (bs []), Value.string (bs [])] := ((HR.out).other (w.heap.size + 1) 0 (Value.string (bs [])) (by omega)).kept hk9
  have kk : Kept w w9 := (kept_set (HK.out) (w.heap.size + 1) 0 (Value.string (bs [])) (by omega)).trans hk9
  clear HP HR HK HG
  have HP := Lib.hid bP
  have HR := Lib.hid bR
  have HK := Lib.hid kk
  have HG := Lib.hid (hg.kept kk)
  clear bP bR kk hk9
  rw [HFB.out]
  have cP0 : w9.cell? ⟨w.heap.size + 1, 0, none⟩ = some (Value.string (bs [])) := HP.out.cell 0 _ rfl
  have cR0 : w9.cell? ⟨w.heap.size, 0, none⟩ = some (Value.string (bs [])) := HR.out.cell 0 _ rfl
  have fP0 := HP.out.free 0
  have fR0 := HR.out.free 0
  have cP1 : w9.cell? ⟨w.heap.size + 1, 1, none⟩ = some (Value.string (bs [])) := HP.out.cell 1 _ rfl
  have cR1 : w9.cell? ⟨w.heap.size, 1, none⟩ = some (Value.string (bs [])) := HR.out.cell 1 _ rfl
  have fP1 := HP.out.free 1
  have fR1 := HR.out.free 1
  have cP2 : w9.cell? ⟨w.heap.size + 1, 2, none⟩ = some (Value.string (bs p)) := HP.out.cell 2 _ rfl
  have cR2 : w9.cell? ⟨w.heap.size, 2, none⟩ = some (Value.string (bs [])) := HR.out.cell 2 _ rfl
  have fP2 := HP.out.free 2
  have fR2 := HR.out.free 2
  have cP3 : w9.cell? ⟨w.heap.size + 1, 3, none⟩ = some (Value.string (bs [])) := HP.out.cell 3 _ rfl
  have cR3 : w9.cell? ⟨w.heap.size, 3, none⟩ = some (Value.string (bs [])) := HR.out.cell 3 _ rfl
  have fP3 := HP.out.free 3
  have fR3 := HR.out.free 3
  have hzP := HP.out.lt
  have hzR := HR.out.lt
  go_wp2_with fail
  refine bodyPost_ret (v := .tuple #[persV [] [] [] [], .int .i64 8]) (by simp [results, Tryz.results144, go_sem, *]) rfl ⟨rfl, ?_⟩
  repeat (first | exact HK.out | refine kept_set ?_ _ _ _ (by omega) | exact (HK.out).trans (kept_drewN _ _))

end Go.Proofs.YteflhlbgbgamnaaGreatDoor
