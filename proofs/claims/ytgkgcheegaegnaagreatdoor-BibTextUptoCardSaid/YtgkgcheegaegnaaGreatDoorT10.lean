/- line, barred, part of package person and of its reference. Conditions: lengths. -/
import Derived.Test.YtgkgcheegaegnaaGreatDoorT07
import Derived.Test.YtgkgcheegaegnaaGreatDoorT08
import Derived.Test.YtgkgcheegaegnaaGreatDoorT09

set_option linter.all false
namespace Go.Proofs.YtgkgcheegaegnaaGreatDoor
open Go.RowKit

def lineB (l : Bs) : Bool := validB (bs l) && !(l.contains 10)
def setC : Bs := [44, 59, 123, 125]
def setN : Bs := [59, 123, 125]
def partB (l : Bs) : Bool := lineB l && !(l.any (inSet setC)) && (l == cleanL l)
theorem contains_any (c : UInt8) (l : Bs) : l.contains c = l.any (fun b => b == c) := by
  induction l with
  | nil => rfl
  | cons a l ih => rw [List.contains_cons, List.any_cons, ih]; congr 1; rw [Bool.eq_iff_iff, beq_iff_eq, beq_iff_eq]; exact eq_comm

theorem contains10 (l : Bs) (w : World) : Calls Tryz.prog 61 #[.string (bs l), .string (bs [10])] w fun e w' => e = .returned (.bool (l.contains 10)) ∧ w = w' := by
  refine (Tryz.strings_Contains_one (bs l) 10 w).mono ?_
  rintro e w' ⟨rfl, rfl⟩
  exact ⟨ret_bool (indexByte_contains 10 l), rfl⟩

set_option maxRecDepth 100000 in
set_option maxHeartbeats 800000 in
theorem line_any (l : Bs) (w : World) (hs : l.length ≤ 1000000000) :
    Calls Tryz.prog 75 #[.string (bs l)] w fun e w' => e = .returned (.bool (lineB l)) ∧ ∃ n, w' = w.drewN n := by
  have HV := Lib.hid (fun w => valid_any (bs l) w hs)
  have HL : Hid (lineB l = (validB (bs l) && !(l.contains 10))) := rfl
  have HC := Lib.hid (fun w => contains10 l w)
  generalize validB (bs l) = v at *
  generalize l.contains 10 = c at *
  cases v
  · go_enter Tryz.func75, Tryz.ntmps75
    go_wp2_with fail
    refine (HV.out _).mono ?_
    rintro e w1 ⟨rfl, n, rfl⟩
    go_wp2_with fail
    go_ret
    exact ⟨ret_bool (by rw [HL.out]; rfl), n, rfl⟩
  · go_enter Tryz.func75, Tryz.ntmps75
    go_wp2_with fail
    refine (HV.out _).mono ?_
    rintro e w1 ⟨rfl, n, rfl⟩
    go_wp2_with fail
    refine (HC.out _).mono ?_
    rintro e w1 ⟨rfl, rfl⟩
    cases c
    all_goals
      go_wp2_with fail
      go_ret
      exact ⟨ret_bool (by rw [HL.out]; rfl), n, rfl⟩

theorem any_hid (f : UInt8 → Bool) (l : Bs) : Hid (l.any f = (l.drop 0).any f) := by unfold Hid; simp

set_option maxRecDepth 100000 in
set_option maxHeartbeats 800000 in
theorem rline_any (l : Bs) (w : World) (hs : l.length ≤ 1000000000) :
    Calls Tryz.prog 38 #[.string (bs l)] w fun e w' => e = .returned (.bool (lineB l)) ∧ Kept w w' := by
  have HV := Lib.hid (fun w => rvalid_any (bs l) w hs)
  have HL : Hid (lineB l = (validB (bs l) && !(l.any (fun b => b == 10)))) := by show _ = _; rw [← contains_any]; rfl
  generalize validB (bs l) = v at *
  cases v
  · go_enter Tryz.func38, Tryz.ntmps38
    go_wp2_with fail
    refine (HV.out _).mono ?_
    rintro e w1 ⟨rfl, hk⟩
    go_wp2_with fail
    go_ret
    exact ⟨ret_bool (by rw [HL.out]; rfl), hk⟩
  · go_enter Tryz.func38, Tryz.ntmps38
    go_wp2_with fail
    refine (HV.out _).mono ?_
    rintro e w1 ⟨rfl, hk⟩
    have HK := Lib.hid hk
    clear hk
    go_wp2_with fail
    go_loop [3] (fun i => ∃ k : Nat, k ≤ l.length ∧ i = .int .i64 k ∧ Hid (l.any (fun b => b == 10) = (l.drop k).any (fun b => b == 10))) (fun i => l.length - (intOf i).toNat)
    case atStart => exact ⟨0, Nat.zero_le _, rfl, any_hid _ _⟩
    case round =>
      obtain ⟨k, hk, rfl, HA⟩ := hrel
      by_cases hlt : k < l.length
      · have i0 := run_ix (P := Tryz.prog) (t := 9) Tryz.underlying9 l k hlt k rfl
        have HN := Lib.hid (any_next (fun b => b == 10) l k hlt)
        have HC : Hid (at8 l k = 10 ↔ l[k] = 10) := by show _ ↔ _; rw [at8_get l k hlt]; exact u8_int _ 10 (by decide)
        generalize l[k] = x at *
        generalize at8 l k = b at *
        by_cases hb : b = 10
        · have HX : Hid (x = 10) := HC.out.1 hb
          go_wp2_with fail
          go_ret
          exact ⟨ret_bool (by rw [HL.out, HA.out, HN.out, HX.out]; rfl), HK.out⟩
        · have HX : Hid ((x == 10) = false) := by show _ = _; rw [beq_eq_false_iff_ne]; exact fun q => hb (HC.out.2 q)
          have hb' : (b == 10) = false := by simpa using hb
          clear hb
          go_wp2_with fail
          go_round
          case rel => exact ⟨k + 1, by omega, by go_num, by show _ = _; rw [HA.out, HN.out]; simp only [HX.out, Bool.false_or]⟩
          case measure => simp [intOf]; omega
      · go_wp2_with fail
        go_ret
        exact ⟨ret_bool (by rw [HL.out, HA.out, List.drop_of_length_le (by omega)]; rfl), HK.out⟩

def setOf (c : Bool) : Bs := if c then setC else setN
theorem u8_lit (x : UInt8) (b : Int) (h : b = (x.toNat : Int)) (n : Nat) (hn : n < 256) : (x == UInt8.ofNat n) = (b == (n : Int)) := by
  rw [Bool.eq_iff_iff, beq_iff_eq, beq_iff_eq, h]; exact (u8_int x n hn).symm
theorem set_test (c : Bool) (x : UInt8) (b : Int) (h : b = (x.toNat : Int)) : inSet (setOf c) x = ((b == 59) || (b == 123) || (b == 125) || (c && (b == 44))) := by
  have h1 := u8_lit x b h 59 (by decide)
  have h2 := u8_lit x b h 123 (by decide)
  have h3 := u8_lit x b h 125 (by decide)
  have h4 := u8_lit x b h 44 (by decide)
  have e : inSet (setOf c) x = ((x == 59) || (x == 123) || (x == 125) || (c && (x == 44))) := by
    unfold inSet setOf setC setN
    cases c
    · simp only [Bool.false_eq_true, if_false, List.contains_cons, List.contains_nil, Bool.or_false, Bool.false_and]
      cases (x == 59) <;> cases (x == 123) <;> cases (x == 125) <;> rfl
    · simp only [if_true, List.contains_cons, List.contains_nil, Bool.or_false, Bool.true_and]
      cases (x == 59) <;> cases (x == 123) <;> cases (x == 125) <;> cases (x == 44) <;> rfl
  rw [e]
  exact congr (congrArg or (congr (congrArg or (congr (congrArg or h1) h2)) h3)) (congrArg (and c) h4)

set_option maxRecDepth 100000 in
set_option maxHeartbeats 800000 in
theorem barred_any (l : Bs) (c : Bool) (w : World) (hs : l.length ≤ 1000000000) :
    Calls Tryz.prog 40 #[.string (bs l), .bool c] w fun e w' => e = .returned (.bool (l.any (inSet (setOf c)))) ∧ w = w' := by
  go_enter Tryz.func40, Tryz.ntmps40
  go_wp2_with fail
  go_loop [5] (fun i => ∃ k : Nat, k ≤ l.length ∧ i = .int .i64 k ∧ Hid (l.any (inSet (setOf c)) = (l.drop k).any (inSet (setOf c)))) (fun i => l.length - (intOf i).toNat)
  case atStart => exact ⟨0, Nat.zero_le _, rfl, any_hid _ _⟩
  case round =>
    obtain ⟨k, hk, rfl, HA⟩ := hrel
    by_cases hlt : k < l.length
    · have i0 := run_ix (P := Tryz.prog) (t := 9) Tryz.underlying9 l k hlt k rfl
      have HN := Lib.hid (any_next (inSet (setOf c)) l k hlt)
      have ht := set_test c l[k] (at8 l k) (at8_get l k hlt)
      have HC := Lib.hid ht
      clear ht
      generalize l[k] = x at *
      generalize at8 l k = b at *
      have tt : ((b == 59) = true) ∨ ((b == 59) = false ∧ (b == 123) = true) ∨ ((b == 59) = false ∧ (b == 123) = false ∧ (b == 125) = true) ∨ ((b == 59) = false ∧ (b == 123) = false ∧ (b == 125) = false ∧ (b == 44) = true) ∨ ((b == 59) = false ∧ (b == 123) = false ∧ (b == 125) = false ∧ (b == 44) = false) := by
        cases (b == 59) <;> cases (b == 123) <;> cases (b == 125) <;> cases (b == 44) <;> simp
      rcases tt with t1 | ⟨t1, t2⟩ | ⟨t1, t2, t3⟩ | ⟨t1, t2, t3, t4⟩ | ⟨t1, t2, t3, t4⟩
      · have HX : Hid (inSet (setOf c) x = true) := by show _ = _; rw [HC.out, t1]; rfl
        go_wp2_with fail
        go_ret
        exact ⟨ret_bool (by rw [HA.out, HN.out, HX.out]; rfl), rfl⟩
      · have HX : Hid (inSet (setOf c) x = true) := by show _ = _; rw [HC.out, t1, t2]; rfl
        go_wp2_with fail
        go_ret
        exact ⟨ret_bool (by rw [HA.out, HN.out, HX.out]; rfl), rfl⟩
      · have HX : Hid (inSet (setOf c) x = true) := by show _ = _; rw [HC.out, t1, t2, t3]; rfl
        go_wp2_with fail
        go_ret
        exact ⟨ret_bool (by rw [HA.out, HN.out, HX.out]; rfl), rfl⟩
      · have HX : Hid (inSet (setOf c) x = c) := by show _ = _; rw [HC.out, t1, t2, t3, t4]; cases c <;> rfl
        cases c
        · go_wp2_with fail
          go_round
          case rel => exact ⟨k + 1, by omega, by go_num, by show _ = _; rw [HA.out, HN.out, HX.out]; rfl⟩
          case measure => simp [intOf]; omega
        · go_wp2_with fail
          go_ret
          exact ⟨ret_bool (by rw [HA.out, HN.out, HX.out]; rfl), rfl⟩
      · have HX : Hid (inSet (setOf c) x = false) := by show _ = _; rw [HC.out, t1, t2, t3, t4]; cases c <;> rfl
        cases c
        all_goals
          go_wp2_with fail
          go_round
          case rel => exact ⟨k + 1, by omega, by go_num, by show _ = _; rw [HA.out, HN.out, HX.out]; rfl⟩
          case measure => simp [intOf]; omega
    · go_wp2_with fail
      go_ret
      exact ⟨ret_bool (by rw [HA.out, List.drop_of_length_le (by omega)]; rfl), rfl⟩

theorem asciiC : Ascii setC := by intro b hb; unfold setC at hb; simp at hb; rcases hb with rfl | rfl | rfl | rfl <;> decide
theorem asciiN : Ascii setN := by intro b hb; unfold setN at hb; simp at hb; rcases hb with rfl | rfl | rfl <;> decide

set_option maxRecDepth 100000 in
set_option maxHeartbeats 800000 in
theorem part_any (l : Bs) (w : World) (hg : Gnd w) (hs : l.length ≤ 100000000) :
    Calls Tryz.prog 56 #[.string (bs l)] w fun e w' => e = .returned (.bool (partB l)) ∧ Kept w w' := by
  have HV := Lib.hid (fun w => line_any l w (by omega))
  have HC := Lib.hid (fun w => cany_any l setC w asciiC (by decide) (by decide) (by omega))
  have HK := Lib.hid (fun w hg => clean_any l w hg hs)
  have HL : Hid (partB l = (lineB l && !(l.any (inSet setC)) && (l == cleanL l))) := rfl
  have HS : Hid (setC = [44, 59, 123, 125]) := rfl
  generalize lineB l = v at *
  generalize l.any (inSet setC) = c at *
  generalize cleanL l = m at *
  cases v
  · go_enter Tryz.func56, Tryz.ntmps56
    go_wp2_with fail
    refine (HV.out _).mono ?_
    rintro e w1 ⟨rfl, n, rfl⟩
    go_wp2_with fail
    go_ret
    exact ⟨ret_bool (by rw [HL.out]; rfl), kept_drewN _ _⟩
  · go_enter Tryz.func56, Tryz.ntmps56
    go_wp2_with fail
    refine (HV.out _).mono ?_
    rintro e w1 ⟨rfl, n, rfl⟩
    have hg1 : Gnd (w.drewN n) := hg
    go_wp2_with fail
    rw [← HS.out]
    refine (HC.out _).mono ?_
    rintro e w1 ⟨rfl, hk1⟩
    have hg2 := hg1.kept hk1
    have HK1 := Lib.hid ((kept_drewN w n).trans hk1)
    have HG2 := Lib.hid hg2
    clear hk1 hg2 hg1
    cases c
    · go_wp2_with fail
      refine (HK.out _ HG2.out).mono ?_
      rintro e w2 ⟨rfl, hk2⟩
      have HK2 := Lib.hid (HK1.out.trans hk2)
      clear hk2
      go_wp2_with fail
      all_goals go_ret
      all_goals exact ⟨ret_bool (by rw [HL.out]; simp [*]), HK2.out⟩
    · go_wp2_with fail
      go_ret
      exact ⟨ret_bool (by rw [HL.out]; rfl), HK1.out⟩

set_option maxRecDepth 100000 in
set_option maxHeartbeats 800000 in
theorem rpart_any (l : Bs) (w : World) (hs : l.length ≤ 100000000) :
    Calls Tryz.prog 79 #[.string (bs l)] w fun e w' => e = .returned (.bool (partB l)) ∧ Kept w w' := by
  have HV := Lib.hid (fun w => rline_any l w (by omega))
  have HC := Lib.hid (fun w => barred_any l true w (by omega))
  have HK := Lib.hid (fun w => rcleaned_any l w (by omega))
  have HL : Hid (partB l = (lineB l && !(l.any (inSet (setOf true))) && (l == cleanL l))) := rfl
  generalize lineB l = v at *
  generalize l.any (inSet (setOf true)) = c at *
  generalize cleanL l = m at *
  cases v
  · go_enter Tryz.func79, Tryz.ntmps79
    go_wp2_with fail
    refine (HV.out _).mono ?_
    rintro e w1 ⟨rfl, hk⟩
    go_wp2_with fail
    go_ret
    exact ⟨ret_bool (by rw [HL.out]; rfl), hk⟩
  · have hlm : (l == m) = true ∧ l = m ∨ (l == m) = false ∧ (m == l) = false ∧ ¬ m = l := by
      by_cases q : l = m
      · exact .inl ⟨by simp [q], q⟩
      · refine .inr ⟨by simpa using q, by simpa using fun e => q e.symm, fun e => q e.symm⟩
    rcases hlm with ⟨q0, rfl⟩ | ⟨q0, q1, q2⟩
    · go_enter Tryz.func79, Tryz.ntmps79
      go_wp2_with fail
      refine (HV.out _).mono ?_
      rintro e w1 ⟨rfl, hk1⟩
      go_wp2_with fail
      refine (HK.out _).mono ?_
      rintro e w2 ⟨rfl, rfl⟩
      go_wp2_with fail
      refine (HC.out _).mono ?_
      rintro e w2 ⟨rfl, rfl⟩
      cases c
      all_goals
        go_wp2_with fail
        go_ret
        exact ⟨ret_bool (by rw [HL.out]; simp), hk1⟩
    · have HL2 : Hid (partB l = false) := by show _ = _; rw [HL.out, q0]; simp
      clear q0 q2 HL
      go_enter Tryz.func79, Tryz.ntmps79
      go_wp2_with fail
      refine (HV.out _).mono ?_
      rintro e w1 ⟨rfl, hk1⟩
      go_wp2_with fail
      refine (HK.out _).mono ?_
      rintro e w2 ⟨rfl, rfl⟩
      go_wp2_with fail
      go_ret
      exact ⟨ret_bool (by rw [HL2.out]), hk1⟩
end Go.Proofs.YtgkgcheegaegnaaGreatDoor

/- Text of package person and of its reference. Conditions: lengths. -/
set_option linter.all false
namespace Go.Proofs.YtgkgcheegaegnaaGreatDoor
open Go.RowKit

/-- The text of a person. -/
def textS (f g p s : Bs) : Bs :=
  (if p = [] then f else [123] ++ p ++ [125, 32] ++ f) ++
  (if s = [] then (if g = [] then [] else [44, 32] ++ g) else [44, 32] ++ s ++ [44] ++ (if g = [] then [] else [32] ++ g))
/-- The error of a person's text. -/
def textE (f g p s : Bs) : Int := if f = [] then 8 else if partB f && partB g && partB p && partB s then 0 else 17
def textR (f g p s : Bs) : Bs := if textE f g p s = 0 then textS f g p s else []

set_option maxRecDepth 100000 in
set_option maxHeartbeats 1600000 in
theorem text_bad0 (f g p s : Bs) (w : World) (hg : Gnd w) (hf : ¬ f = [])  (hn : partB f = false) (hs : f.length + g.length + p.length + s.length ≤ 10000000) :
    Calls Tryz.prog 32 #[persV f g p s] w fun e w' => e = .returned (.tuple #[.string (bs []), .int .i64 17]) ∧ Kept w w' := by
  have hfe : f.isEmpty = false := by simpa using hf
  go_enter Tryz.func32, Tryz.ntmps32
  go_wp2_with fail
  refine (part_any f _ (hg.kept (kept_alloc _ _)) (by omega)).mono ?_
  rintro e w1 ⟨rfl, hk0⟩
  rw [hn]
  have HK0 := Lib.hid hk0
  obtain ⟨kc, kf⟩ := keep_cell HK0.out
  have hz : w.heap.size < w1.heap.size := by have := HK0.out.size; simp at this; omega
  have HK := Lib.hid ((kept_alloc w _).trans HK0.out)
  have HG := Lib.hid (hg.kept HK.out)
  clear hk0
  go_wp2_with fail
  go_ret2
  exact ⟨rfl, HK.out⟩

set_option maxRecDepth 100000 in
set_option maxHeartbeats 1600000 in
theorem text_bad1 (f g p s : Bs) (w : World) (hg : Gnd w) (hf : ¬ f = []) (y0 : partB f = true) (hn : partB g = false) (hs : f.length + g.length + p.length + s.length ≤ 10000000) :
    Calls Tryz.prog 32 #[persV f g p s] w fun e w' => e = .returned (.tuple #[.string (bs []), .int .i64 17]) ∧ Kept w w' := by
  have hfe : f.isEmpty = false := by simpa using hf
  go_enter Tryz.func32, Tryz.ntmps32
  go_wp2_with fail
  refine (part_any f _ (hg.kept (kept_alloc _ _)) (by omega)).mono ?_
  rintro e w1 ⟨rfl, hk0⟩
  rw [y0]
  have HK0 := Lib.hid hk0
  obtain ⟨kc, kf⟩ := keep_cell HK0.out
  have hz : w.heap.size < w1.heap.size := by have := HK0.out.size; simp at this; omega
  have HK := Lib.hid ((kept_alloc w _).trans HK0.out)
  have HG := Lib.hid (hg.kept HK.out)
  clear hk0
  go_wp2_with fail
  refine (part_any g _ HG.out (by omega)).mono ?_
  rintro e w2 ⟨rfl, hk1⟩
  rw [hn]
  have HK1 := Lib.hid (HK0.out.trans hk1)
  clear kc kf hz HK HK0 HG
  obtain ⟨kc, kf⟩ := keep_cell HK1.out
  have hz : w.heap.size < w2.heap.size := by have := HK1.out.size; simp at this; omega
  have HK := Lib.hid ((kept_alloc w _).trans HK1.out)
  have HG := Lib.hid (hg.kept HK.out)
  clear hk1
  go_wp2_with fail
  go_ret2
  exact ⟨rfl, HK.out⟩

set_option maxRecDepth 100000 in
set_option maxHeartbeats 1600000 in
theorem text_bad2 (f g p s : Bs) (w : World) (hg : Gnd w) (hf : ¬ f = []) (y0 : partB f = true) (y1 : partB g = true) (hn : partB p = false) (hs : f.length + g.length + p.length + s.length ≤ 10000000) :
    Calls Tryz.prog 32 #[persV f g p s] w fun e w' => e = .returned (.tuple #[.string (bs []), .int .i64 17]) ∧ Kept w w' := by
  have hfe : f.isEmpty = false := by simpa using hf
  go_enter Tryz.func32, Tryz.ntmps32
  go_wp2_with fail
  refine (part_any f _ (hg.kept (kept_alloc _ _)) (by omega)).mono ?_
  rintro e w1 ⟨rfl, hk0⟩
  rw [y0]
  have HK0 := Lib.hid hk0
  obtain ⟨kc, kf⟩ := keep_cell HK0.out
  have hz : w.heap.size < w1.heap.size := by have := HK0.out.size; simp at this; omega
  have HK := Lib.hid ((kept_alloc w _).trans HK0.out)
  have HG := Lib.hid (hg.kept HK.out)
  clear hk0
  go_wp2_with fail
  refine (part_any g _ HG.out (by omega)).mono ?_
  rintro e w2 ⟨rfl, hk1⟩
  rw [y1]
  have HK1 := Lib.hid (HK0.out.trans hk1)
  clear kc kf hz HK HK0 HG
  obtain ⟨kc, kf⟩ := keep_cell HK1.out
  have hz : w.heap.size < w2.heap.size := by have := HK1.out.size; simp at this; omega
  have HK := Lib.hid ((kept_alloc w _).trans HK1.out)
  have HG := Lib.hid (hg.kept HK.out)
  clear hk1
  go_wp2_with fail
  refine (part_any p _ HG.out (by omega)).mono ?_
  rintro e w3 ⟨rfl, hk2⟩
  rw [hn]
  have HK2 := Lib.hid (HK1.out.trans hk2)
  clear kc kf hz HK HK1 HG
  obtain ⟨kc, kf⟩ := keep_cell HK2.out
  have hz : w.heap.size < w3.heap.size := by have := HK2.out.size; simp at this; omega
  have HK := Lib.hid ((kept_alloc w _).trans HK2.out)
  have HG := Lib.hid (hg.kept HK.out)
  clear hk2
  go_wp2_with fail
  go_ret2
  exact ⟨rfl, HK.out⟩

set_option maxRecDepth 100000 in
set_option maxHeartbeats 1600000 in
theorem text_bad3 (f g p s : Bs) (w : World) (hg : Gnd w) (hf : ¬ f = []) (y0 : partB f = true) (y1 : partB g = true) (y2 : partB p = true) (hn : partB s = false) (hs : f.length + g.length + p.length + s.length ≤ 10000000) :
    Calls Tryz.prog 32 #[persV f g p s] w fun e w' => e = .returned (.tuple #[.string (bs []), .int .i64 17]) ∧ Kept w w' := by
  have hfe : f.isEmpty = false := by simpa using hf
  go_enter Tryz.func32, Tryz.ntmps32
  go_wp2_with fail
  refine (part_any f _ (hg.kept (kept_alloc _ _)) (by omega)).mono ?_
  rintro e w1 ⟨rfl, hk0⟩
  rw [y0]
  have HK0 := Lib.hid hk0
  obtain ⟨kc, kf⟩ := keep_cell HK0.out
  have hz : w.heap.size < w1.heap.size := by have := HK0.out.size; simp at this; omega
  have HK := Lib.hid ((kept_alloc w _).trans HK0.out)
  have HG := Lib.hid (hg.kept HK.out)
  clear hk0
  go_wp2_with fail
  refine (part_any g _ HG.out (by omega)).mono ?_
  rintro e w2 ⟨rfl, hk1⟩
  rw [y1]
  have HK1 := Lib.hid (HK0.out.trans hk1)
  clear kc kf hz HK HK0 HG
  obtain ⟨kc, kf⟩ := keep_cell HK1.out
  have hz : w.heap.size < w2.heap.size := by have := HK1.out.size; simp at this; omega
  have HK := Lib.hid ((kept_alloc w _).trans HK1.out)
  have HG := Lib.hid (hg.kept HK.out)
  clear hk1
  go_wp2_with fail
  refine (part_any p _ HG.out (by omega)).mono ?_
  rintro e w3 ⟨rfl, hk2⟩
  rw [y2]
  have HK2 := Lib.hid (HK1.out.trans hk2)
  clear kc kf hz HK HK1 HG
  obtain ⟨kc, kf⟩ := keep_cell HK2.out
  have hz : w.heap.size < w3.heap.size := by have := HK2.out.size; simp at this; omega
  have HK := Lib.hid ((kept_alloc w _).trans HK2.out)
  have HG := Lib.hid (hg.kept HK.out)
  clear hk2
  go_wp2_with fail
  refine (part_any s _ HG.out (by omega)).mono ?_
  rintro e w4 ⟨rfl, hk3⟩
  rw [hn]
  have HK3 := Lib.hid (HK2.out.trans hk3)
  clear kc kf hz HK HK2 HG
  obtain ⟨kc, kf⟩ := keep_cell HK3.out
  have hz : w.heap.size < w4.heap.size := by have := HK3.out.size; simp at this; omega
  have HK := Lib.hid ((kept_alloc w _).trans HK3.out)
  have HG := Lib.hid (hg.kept HK.out)
  clear hk3
  go_wp2_with fail
  go_ret2
  exact ⟨rfl, HK.out⟩

set_option maxRecDepth 100000 in
set_option maxHeartbeats 3200000 in
theorem text_ok (f g p s : Bs) (w : World) (hg : Gnd w) (hf : ¬ f = []) (y0 : partB f = true) (y1 : partB g = true) (y2 : partB p = true) (y3 : partB s = true) (hs : f.length + g.length + p.length + s.length ≤ 10000000) :
    Calls Tryz.prog 32 #[persV f g p s] w fun e w' => e = .returned (.tuple #[.string (bs (textS f g p s)), .int .i64 0]) ∧ Kept w w' := by
  have hfe : f.isEmpty = false := by simpa using hf
  go_enter Tryz.func32, Tryz.ntmps32
  go_wp2_with fail
  refine (part_any f _ (hg.kept (kept_alloc _ _)) (by omega)).mono ?_
  rintro e w1 ⟨rfl, hk0⟩
  rw [y0]
  have HK0 := Lib.hid hk0
  obtain ⟨kc, kf⟩ := keep_cell HK0.out
  have hz : w.heap.size < w1.heap.size := by have := HK0.out.size; simp at this; omega
  have HK := Lib.hid ((kept_alloc w _).trans HK0.out)
  have HG := Lib.hid (hg.kept HK.out)
  clear hk0
  go_wp2_with fail
  refine (part_any g _ HG.out (by omega)).mono ?_
  rintro e w2 ⟨rfl, hk1⟩
  rw [y1]
  have HK1 := Lib.hid (HK0.out.trans hk1)
  clear kc kf hz HK HK0 HG
  obtain ⟨kc, kf⟩ := keep_cell HK1.out
  have hz : w.heap.size < w2.heap.size := by have := HK1.out.size; simp at this; omega
  have HK := Lib.hid ((kept_alloc w _).trans HK1.out)
  have HG := Lib.hid (hg.kept HK.out)
  clear hk1
  go_wp2_with fail
  refine (part_any p _ HG.out (by omega)).mono ?_
  rintro e w3 ⟨rfl, hk2⟩
  rw [y2]
  have HK2 := Lib.hid (HK1.out.trans hk2)
  clear kc kf hz HK HK1 HG
  obtain ⟨kc, kf⟩ := keep_cell HK2.out
  have hz : w.heap.size < w3.heap.size := by have := HK2.out.size; simp at this; omega
  have HK := Lib.hid ((kept_alloc w _).trans HK2.out)
  have HG := Lib.hid (hg.kept HK.out)
  clear hk2
  go_wp2_with fail
  refine (part_any s _ HG.out (by omega)).mono ?_
  rintro e w4 ⟨rfl, hk3⟩
  rw [y3]
  have HK3 := Lib.hid (HK2.out.trans hk3)
  clear kc kf hz HK HK2 HG
  obtain ⟨kc, kf⟩ := keep_cell HK3.out
  have hz : w.heap.size < w4.heap.size := by have := HK3.out.size; simp at this; omega
  have HK := Lib.hid ((kept_alloc w _).trans HK3.out)
  have HG := Lib.hid (hg.kept HK.out)
  clear hk3
  by_cases hp : p = [] <;> by_cases hs' : s = [] <;> by_cases hg' : g = []
  all_goals
    first | subst hp | (have hpe : p.isEmpty = false := by simpa using hp)
    first | subst hs' | (have hse : s.isEmpty = false := by simpa using hs')
    first | subst hg' | (have hge : g.isEmpty = false := by simpa using hg')
    try simp only [List.length_nil, Nat.add_zero, Nat.zero_add] at hs
    go_wp2_with fail
    go_ret2
    refine ⟨?_, HK.out⟩
    refine congrArg (fun x => Ending.returned (.tuple #[.string (bs x), .int .i64 0])) ?_
    simp [textS, *]

set_option maxRecDepth 100000 in
theorem text_any (f g p s : Bs) (w : World) (hg : Gnd w) (hs : f.length + g.length + p.length + s.length ≤ 10000000) :
    Calls Tryz.prog 32 #[persV f g p s] w fun e w' => e = .returned (.tuple #[.string (bs (textR f g p s)), .int .i64 (textE f g p s)]) ∧ Kept w w' := by
  by_cases hf : f = []
  · have e1 : textE f g p s = 8 := by unfold textE; rw [if_pos hf]
    have e2 : textR f g p s = [] := by unfold textR; rw [e1]; rfl
    rw [e1, e2]
    clear e1 e2
    subst hf
    go_enter Tryz.func32, Tryz.ntmps32
    go_wp2_with fail
    go_ret2
    exact ⟨rfl, kept_alloc _ _⟩
  have hb : ∀ q : Bool, (partB f && partB g && partB p && partB s) = q → textE f g p s = if q then 0 else 17 := by
    intro q h; unfold textE; rw [if_neg hf, h]
  have hr : textE f g p s = 17 → textR f g p s = [] := by intro h; unfold textR; rw [h]; rfl
  cases h0 : partB f
  · have e := hb false (by rw [h0]; rfl); rw [if_neg (by decide)] at e; rw [e, hr e]
    exact text_bad0 f g p s w hg hf h0 hs
  cases h1 : partB g
  · have e := hb false (by rw [h0, h1]; rfl); rw [if_neg (by decide)] at e; rw [e, hr e]
    exact text_bad1 f g p s w hg hf h0 h1 hs
  cases h2 : partB p
  · have e := hb false (by rw [h0, h1, h2]; rfl); rw [if_neg (by decide)] at e; rw [e, hr e]
    exact text_bad2 f g p s w hg hf h0 h1 h2 hs
  cases h3 : partB s
  · have e := hb false (by rw [h0, h1, h2, h3]; rfl); rw [if_neg (by decide)] at e; rw [e, hr e]
    exact text_bad3 f g p s w hg hf h0 h1 h2 h3 hs
  · have e := hb true (by rw [h0, h1, h2, h3]; rfl); rw [if_pos rfl] at e
    have e2 : textR f g p s = textS f g p s := by unfold textR; rw [e]; rfl
    rw [e, e2]
    exact text_ok f g p s w hg hf h0 h1 h2 h3 hs

set_option maxRecDepth 100000 in
set_option maxHeartbeats 1600000 in
theorem rtext_bad0 (f g p s : Bs) (w : World) (hf : ¬ f = [])  (hn : partB f = false) (hs : f.length + g.length + p.length + s.length ≤ 10000000) :
    Calls Tryz.prog 60 #[persV f g p s] w fun e w' => e = .returned (.tuple #[.string (bs []), .int .i64 17]) ∧ Kept w w' := by
  have hfe : f.isEmpty = false := by simpa using hf
  go_enter Tryz.func60, Tryz.ntmps60
  go_wp2_with fail
  refine (rpart_any f _ (by omega)).mono ?_
  rintro e w1 ⟨rfl, hk0⟩
  rw [hn]
  have HK0 := Lib.hid hk0
  obtain ⟨kc, kf⟩ := keep_cell HK0.out
  have hz : w.heap.size < w1.heap.size := by have := HK0.out.size; simp at this; omega
  have HK := Lib.hid ((kept_alloc w _).trans HK0.out)
  clear hk0
  go_wp2_with fail
  go_ret2
  exact ⟨rfl, HK.out⟩

set_option maxRecDepth 100000 in
set_option maxHeartbeats 1600000 in
theorem rtext_bad1 (f g p s : Bs) (w : World) (hf : ¬ f = []) (y0 : partB f = true) (hn : partB g = false) (hs : f.length + g.length + p.length + s.length ≤ 10000000) :
    Calls Tryz.prog 60 #[persV f g p s] w fun e w' => e = .returned (.tuple #[.string (bs []), .int .i64 17]) ∧ Kept w w' := by
  have hfe : f.isEmpty = false := by simpa using hf
  go_enter Tryz.func60, Tryz.ntmps60
  go_wp2_with fail
  refine (rpart_any f _ (by omega)).mono ?_
  rintro e w1 ⟨rfl, hk0⟩
  rw [y0]
  have HK0 := Lib.hid hk0
  obtain ⟨kc, kf⟩ := keep_cell HK0.out
  have hz : w.heap.size < w1.heap.size := by have := HK0.out.size; simp at this; omega
  have HK := Lib.hid ((kept_alloc w _).trans HK0.out)
  clear hk0
  go_wp2_with fail
  refine (rpart_any g _ (by omega)).mono ?_
  rintro e w2 ⟨rfl, hk1⟩
  rw [hn]
  have HK1 := Lib.hid (HK0.out.trans hk1)
  clear kc kf hz HK HK0
  obtain ⟨kc, kf⟩ := keep_cell HK1.out
  have hz : w.heap.size < w2.heap.size := by have := HK1.out.size; simp at this; omega
  have HK := Lib.hid ((kept_alloc w _).trans HK1.out)
  clear hk1
  go_wp2_with fail
  go_ret2
  exact ⟨rfl, HK.out⟩

set_option maxRecDepth 100000 in
set_option maxHeartbeats 1600000 in
theorem rtext_bad2 (f g p s : Bs) (w : World) (hf : ¬ f = []) (y0 : partB f = true) (y1 : partB g = true) (hn : partB p = false) (hs : f.length + g.length + p.length + s.length ≤ 10000000) :
    Calls Tryz.prog 60 #[persV f g p s] w fun e w' => e = .returned (.tuple #[.string (bs []), .int .i64 17]) ∧ Kept w w' := by
  have hfe : f.isEmpty = false := by simpa using hf
  go_enter Tryz.func60, Tryz.ntmps60
  go_wp2_with fail
  refine (rpart_any f _ (by omega)).mono ?_
  rintro e w1 ⟨rfl, hk0⟩
  rw [y0]
  have HK0 := Lib.hid hk0
  obtain ⟨kc, kf⟩ := keep_cell HK0.out
  have hz : w.heap.size < w1.heap.size := by have := HK0.out.size; simp at this; omega
  have HK := Lib.hid ((kept_alloc w _).trans HK0.out)
  clear hk0
  go_wp2_with fail
  refine (rpart_any g _ (by omega)).mono ?_
  rintro e w2 ⟨rfl, hk1⟩
  rw [y1]
  have HK1 := Lib.hid (HK0.out.trans hk1)
  clear kc kf hz HK HK0
  obtain ⟨kc, kf⟩ := keep_cell HK1.out
  have hz : w.heap.size < w2.heap.size := by have := HK1.out.size; simp at this; omega
  have HK := Lib.hid ((kept_alloc w _).trans HK1.out)
  clear hk1
  go_wp2_with fail
  refine (rpart_any p _ (by omega)).mono ?_
  rintro e w3 ⟨rfl, hk2⟩
  rw [hn]
  have HK2 := Lib.hid (HK1.out.trans hk2)
  clear kc kf hz HK HK1
  obtain ⟨kc, kf⟩ := keep_cell HK2.out
  have hz : w.heap.size < w3.heap.size := by have := HK2.out.size; simp at this; omega
  have HK := Lib.hid ((kept_alloc w _).trans HK2.out)
  clear hk2
  go_wp2_with fail
  go_ret2
  exact ⟨rfl, HK.out⟩

set_option maxRecDepth 100000 in
set_option maxHeartbeats 1600000 in
theorem rtext_bad3 (f g p s : Bs) (w : World) (hf : ¬ f = []) (y0 : partB f = true) (y1 : partB g = true) (y2 : partB p = true) (hn : partB s = false) (hs : f.length + g.length + p.length + s.length ≤ 10000000) :
    Calls Tryz.prog 60 #[persV f g p s] w fun e w' => e = .returned (.tuple #[.string (bs []), .int .i64 17]) ∧ Kept w w' := by
  have hfe : f.isEmpty = false := by simpa using hf
  go_enter Tryz.func60, Tryz.ntmps60
  go_wp2_with fail
  refine (rpart_any f _ (by omega)).mono ?_
  rintro e w1 ⟨rfl, hk0⟩
  rw [y0]
  have HK0 := Lib.hid hk0
  obtain ⟨kc, kf⟩ := keep_cell HK0.out
  have hz : w.heap.size < w1.heap.size := by have := HK0.out.size; simp at this; omega
  have HK := Lib.hid ((kept_alloc w _).trans HK0.out)
  clear hk0
  go_wp2_with fail
  refine (rpart_any g _ (by omega)).mono ?_
  rintro e w2 ⟨rfl, hk1⟩
  rw [y1]
  have HK1 := Lib.hid (HK0.out.trans hk1)
  clear kc kf hz HK HK0
  obtain ⟨kc, kf⟩ := keep_cell HK1.out
  have hz : w.heap.size < w2.heap.size := by have := HK1.out.size; simp at this; omega
  have HK := Lib.hid ((kept_alloc w _).trans HK1.out)
  clear hk1
  go_wp2_with fail
  refine (rpart_any p _ (by omega)).mono ?_
  rintro e w3 ⟨rfl, hk2⟩
  rw [y2]
  have HK2 := Lib.hid (HK1.out.trans hk2)
  clear kc kf hz HK HK1
  obtain ⟨kc, kf⟩ := keep_cell HK2.out
  have hz : w.heap.size < w3.heap.size := by have := HK2.out.size; simp at this; omega
  have HK := Lib.hid ((kept_alloc w _).trans HK2.out)
  clear hk2
  go_wp2_with fail
  refine (rpart_any s _ (by omega)).mono ?_
  rintro e w4 ⟨rfl, hk3⟩
  rw [hn]
  have HK3 := Lib.hid (HK2.out.trans hk3)
  clear kc kf hz HK HK2
  obtain ⟨kc, kf⟩ := keep_cell HK3.out
  have hz : w.heap.size < w4.heap.size := by have := HK3.out.size; simp at this; omega
  have HK := Lib.hid ((kept_alloc w _).trans HK3.out)
  clear hk3
  go_wp2_with fail
  go_ret2
  exact ⟨rfl, HK.out⟩

set_option maxRecDepth 100000 in
set_option maxHeartbeats 3200000 in
theorem rtext_ok (f g p s : Bs) (w : World) (hf : ¬ f = []) (y0 : partB f = true) (y1 : partB g = true) (y2 : partB p = true) (y3 : partB s = true) (hs : f.length + g.length + p.length + s.length ≤ 10000000) :
    Calls Tryz.prog 60 #[persV f g p s] w fun e w' => e = .returned (.tuple #[.string (bs (textS f g p s)), .int .i64 0]) ∧ Kept w w' := by
  have hfe : f.isEmpty = false := by simpa using hf
  go_enter Tryz.func60, Tryz.ntmps60
  go_wp2_with fail
  refine (rpart_any f _ (by omega)).mono ?_
  rintro e w1 ⟨rfl, hk0⟩
  rw [y0]
  have HK0 := Lib.hid hk0
  obtain ⟨kc, kf⟩ := keep_cell HK0.out
  have hz : w.heap.size < w1.heap.size := by have := HK0.out.size; simp at this; omega
  have HK := Lib.hid ((kept_alloc w _).trans HK0.out)
  clear hk0
  go_wp2_with fail
  refine (rpart_any g _ (by omega)).mono ?_
  rintro e w2 ⟨rfl, hk1⟩
  rw [y1]
  have HK1 := Lib.hid (HK0.out.trans hk1)
  clear kc kf hz HK HK0
  obtain ⟨kc, kf⟩ := keep_cell HK1.out
  have hz : w.heap.size < w2.heap.size := by have := HK1.out.size; simp at this; omega
  have HK := Lib.hid ((kept_alloc w _).trans HK1.out)
  clear hk1
  go_wp2_with fail
  refine (rpart_any p _ (by omega)).mono ?_
  rintro e w3 ⟨rfl, hk2⟩
  rw [y2]
  have HK2 := Lib.hid (HK1.out.trans hk2)
  clear kc kf hz HK HK1
  obtain ⟨kc, kf⟩ := keep_cell HK2.out
  have hz : w.heap.size < w3.heap.size := by have := HK2.out.size; simp at this; omega
  have HK := Lib.hid ((kept_alloc w _).trans HK2.out)
  clear hk2
  go_wp2_with fail
  refine (rpart_any s _ (by omega)).mono ?_
  rintro e w4 ⟨rfl, hk3⟩
  rw [y3]
  have HK3 := Lib.hid (HK2.out.trans hk3)
  clear kc kf hz HK HK2
  obtain ⟨kc, kf⟩ := keep_cell HK3.out
  have hz : w.heap.size < w4.heap.size := by have := HK3.out.size; simp at this; omega
  have HK := Lib.hid ((kept_alloc w _).trans HK3.out)
  clear hk3
  by_cases hp : p = [] <;> by_cases hs' : s = [] <;> by_cases hg' : g = []
  all_goals
    first | subst hp | (have hpe : p.isEmpty = false := by simpa using hp)
    first | subst hs' | (have hse : s.isEmpty = false := by simpa using hs')
    first | subst hg' | (have hge : g.isEmpty = false := by simpa using hg')
    try simp only [List.length_nil, Nat.add_zero, Nat.zero_add] at hs
    go_wp2_with fail
    go_ret2
    refine ⟨?_, HK.out⟩
    refine congrArg (fun x => Ending.returned (.tuple #[.string (bs x), .int .i64 0])) ?_
    simp [textS, *]

set_option maxRecDepth 100000 in
theorem rtext_any (f g p s : Bs) (w : World) (hs : f.length + g.length + p.length + s.length ≤ 10000000) :
    Calls Tryz.prog 60 #[persV f g p s] w fun e w' => e = .returned (.tuple #[.string (bs (textR f g p s)), .int .i64 (textE f g p s)]) ∧ Kept w w' := by
  by_cases hf : f = []
  · have e1 : textE f g p s = 8 := by unfold textE; rw [if_pos hf]
    have e2 : textR f g p s = [] := by unfold textR; rw [e1]; rfl
    rw [e1, e2]
    clear e1 e2
    subst hf
    go_enter Tryz.func60, Tryz.ntmps60
    go_wp2_with fail
    go_ret2
    exact ⟨rfl, kept_alloc _ _⟩
  have hb : ∀ q : Bool, (partB f && partB g && partB p && partB s) = q → textE f g p s = if q then 0 else 17 := by
    intro q h; unfold textE; rw [if_neg hf, h]
  have hr : textE f g p s = 17 → textR f g p s = [] := by intro h; unfold textR; rw [h]; rfl
  cases h0 : partB f
  · have e := hb false (by rw [h0]; rfl); rw [if_neg (by decide)] at e; rw [e, hr e]
    exact rtext_bad0 f g p s w hf h0 hs
  cases h1 : partB g
  · have e := hb false (by rw [h0, h1]; rfl); rw [if_neg (by decide)] at e; rw [e, hr e]
    exact rtext_bad1 f g p s w hf h0 h1 hs
  cases h2 : partB p
  · have e := hb false (by rw [h0, h1, h2]; rfl); rw [if_neg (by decide)] at e; rw [e, hr e]
    exact rtext_bad2 f g p s w hf h0 h1 h2 hs
  cases h3 : partB s
  · have e := hb false (by rw [h0, h1, h2, h3]; rfl); rw [if_neg (by decide)] at e; rw [e, hr e]
    exact rtext_bad3 f g p s w hf h0 h1 h2 h3 hs
  · have e := hb true (by rw [h0, h1, h2, h3]; rfl); rw [if_pos rfl] at e
    have e2 : textR f g p s = textS f g p s := by unfold textR; rw [e]; rfl
    rw [e, e2]
    exact rtext_ok f g p s w hf h0 h1 h2 h3 hs

end Go.Proofs.YtgkgcheegaegnaaGreatDoor
