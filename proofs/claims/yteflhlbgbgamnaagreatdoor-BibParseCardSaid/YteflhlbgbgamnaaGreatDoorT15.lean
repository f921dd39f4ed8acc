/- A text cleaned of spaces: the program's way and the reference's. No condition but the length. -/
import Derived.Test.YteflhlbgbgamnaaGreatDoorT02
import Derived.Test.YteflhlbgbgamnaaGreatDoorShelf
import Derived.Test.YteflhlbgbgamnaaGreatDoorT13
import Derived.Test.YteflhlbgbgamnaaGreatDoorT14
import Derived.Test.YteflhlbgbgamnaaGreatDoorT12

set_option linter.all false
namespace Go.Proofs.YteflhlbgbgamnaaGreatDoor
open Go.RowKit


theorem keepStep_sp (o : Bs) (b : UInt8) (hb : b = 32) (h : o = [] ∨ o.getLast? = some 32) : keepStep o b = o := by unfold keepStep; rw [if_pos ⟨hb, h⟩]
theorem keepStep_ad (o : Bs) (b : UInt8) (h : b ≠ 32 ∨ (o ≠ [] ∧ o.getLast? ≠ some 32)) : keepStep o b = o ++ [b] := by
  unfold keepStep; rw [if_neg]; rintro ⟨q, r⟩; rcases h with h | ⟨h1, h2⟩
  · exact h q
  · rcases r with r | r
    · exact h1 r
    · exact h2 r
theorem last_at8 (o : Bs) (h : o ≠ []) : o.getLast? = some 32 ↔ at8 o (o.length - 1) = 32 := by
  have hl : o.length - 1 < o.length := by have := List.length_pos_iff.2 h; omega
  rw [at8_get o _ hl, List.getLast?_eq_getElem?, List.getElem?_eq_getElem hl, Option.some.injEq]
  exact (u8_int _ 32 (by decide)).symm

set_option maxRecDepth 100000 in
set_option maxHeartbeats 1600000 in
theorem rcleaned_any (l : Bs) (w : World) (hs : l.length ≤ 1000000000) :
    Calls Tryz.prog 50 #[.string (bs l)] w fun e w' => e = .returned (.string (bs (cleanL l))) ∧ w = w' := by
  go_enter Tryz.func50, Tryz.ntmps50
  go_wp2
  go_loop [3, 4] (fun v i => ∃ (k : Nat) (o : Bs), k ≤ l.length ∧ i = .int .i64 k ∧ v = .string (bs o) ∧ o.length ≤ k ∧ Hid (o = keepRun (l.take k))) (fun _ i => l.length - (intOf i).toNat)
  case atStart => exact ⟨0, [], Nat.zero_le _, rfl, rfl, Nat.le_refl _, rfl⟩
  case round =>
    obtain ⟨k, o, hk, rfl, rfl, ho, HO⟩ := hrel
    by_cases hlt : k < l.length
    · have i0 := run_ix (P := Tryz.prog) (t := 9) Tryz.underlying9 l k hlt k rfl
      have sl := run_sub (P := Tryz.prog) (t := 9) Tryz.underlying9 l k (k + 1) (by omega) (by omega) k (k + 1) rfl (by omega) _ (sub_one l k hlt)
      have HN : Hid (keepRun (l.take (k + 1)) = keepStep o l[k]) := by show _ = _; rw [take_next l k hlt, keepRun_snoc, ← HO.out]
      have h0 := at8_lo l k
      have h1 := at8_hi l k
      have HC : Hid (at8 l k = 32 ↔ l[k] = 32) := by show _ ↔ _; rw [at8_get l k hlt]; exact u8_int _ 32 (by decide)
      generalize l[k] = x at *
      generalize at8 l k = b at *
      by_cases he : o = []
      · subst he
        by_cases hb : b = 32
        · have HX : Hid (keepStep [] x = []) := keepStep_sp _ _ (HC.out.1 hb) (.inl rfl)
          go_wp2_with fail
          go_round
          case rel => exact ⟨k + 1, [], by omega, by go_num, rfl, by simp, by show _ = _; rw [HN.out, HX.out]⟩
          case measure => simp [intOf]; omega
        · have hb' : (b == 32) = false := by simpa using hb
          have HX : Hid (keepStep [] x = [x]) := keepStep_ad _ _ (.inl fun q => hb (HC.out.2 q))
          clear hb
          go_wp2_with fail
          go_round
          case rel => exact ⟨k + 1, [x], by omega, by go_num, rfl, by simp, by show _ = _; rw [HN.out, HX.out]⟩
          case measure => simp [intOf]; omega
      · have hl : o.length - 1 < o.length := by have := List.length_pos_iff.2 he; omega
        have HL := Lib.hid (last_at8 o he)
        have i1 := run_ix (P := Tryz.prog) (t := 9) Tryz.underlying9 o (o.length - 1) hl (o.length - 1) (by omega)
        have hee : o.isEmpty = false := by simpa using he
        generalize at8 o (o.length - 1) = c at *
        by_cases hb : b = 32 ∧ c = 32
        · obtain ⟨hb, hc⟩ := hb
          have HX : Hid (keepStep o x = o) := keepStep_sp _ _ (HC.out.1 hb) (.inr (HL.out.2 hc))
          go_wp2_with fail
          go_round
          case rel => exact ⟨k + 1, o, by omega, by go_num, rfl, by omega, by show _ = _; rw [HN.out, HX.out]⟩
          case measure => simp [intOf]; omega
        · have HX : Hid (keepStep o x = o ++ [x]) := keepStep_ad _ _ (by
            by_cases q : b = 32
            · exact .inr ⟨he, fun r => hb ⟨q, HL.out.1 r⟩⟩
            · exact .inl fun r => q (HC.out.2 r))
          have tt : (b == 32) = false ∨ (b == 32) = true ∧ (c == 32) = false := by
            simp only [beq_iff_eq, beq_eq_false_iff_ne, ne_eq]; omega
          clear hb
          rcases tt with t1 | ⟨t1, t2⟩
          all_goals
            go_wp2_with fail
            go_round
            case rel => exact ⟨k + 1, o ++ [x], by omega, by go_num, by simp, by simp; omega, by show _ = _; rw [HN.out, HX.out]⟩
            case measure => simp [intOf]; omega
    · have HE : Hid (cleanL l = keepEnd o) := by
        show _ = _
        rw [← keepEnd_eq, HO.out, List.take_of_length_le (by omega)]
      by_cases he : o = []
      · subst he
        go_wp2_with fail
        go_ret
        exact ⟨ret_bs (by rw [HE.out]; rfl), rfl⟩
      · have hl : o.length - 1 < o.length := by have := List.length_pos_iff.2 he; omega
        have HL := Lib.hid (last_at8 o he)
        have i1 := run_ix (P := Tryz.prog) (t := 9) Tryz.underlying9 o (o.length - 1) hl (o.length - 1) (by omega)
        have sl := run_upto (P := Tryz.prog) (t := 9) Tryz.underlying9 o (o.length - 1) (by omega) (o.length - 1) (by omega) o.dropLast (by rw [List.dropLast_eq_take])
        have hee : o.isEmpty = false := by simpa using he
        generalize at8 o (o.length - 1) = c at *
        by_cases hc : c = 32
        · have HX : Hid (keepEnd o = o.dropLast) := by show _ = _; unfold keepEnd; rw [if_pos (HL.out.2 hc)]
          go_wp2_with fail
          go_ret
          exact ⟨ret_bs (by rw [HE.out, HX.out]), rfl⟩
        · have HX : Hid (keepEnd o = o) := by show _ = _; unfold keepEnd; rw [if_neg (fun q => hc (HL.out.1 q))]
          have hc' : (c == 32) = false := by simpa using hc
          clear hc
          go_wp2_with fail
          go_ret
          exact ⟨ret_bs (by rw [HE.out, HX.out]), rfl⟩
end Go.Proofs.YteflhlbgbgamnaaGreatDoor

/- line, barred, part of package person and of its reference. Conditions: lengths. -/
set_option linter.all false
namespace Go.Proofs.YteflhlbgbgamnaaGreatDoor
open Go.RowKit

def setC : Bs := [44, 59, 123, 125]
def setN : Bs := [59, 123, 125]
def partB (l : Bs) : Bool := lineB l && !(l.any (inSet setC)) && (l == cleanL l)
theorem contains_any (c : UInt8) (l : Bs) : l.contains c = l.any (fun b => b == c) := by
  induction l with
  | nil => rfl
  | cons a l ih => rw [List.contains_cons, List.any_cons, ih]; congr 1; rw [Bool.eq_iff_iff, beq_iff_eq, beq_iff_eq]; exact eq_comm

theorem contains10 (l : Bs) (w : World) : Calls Tryz.prog 113 #[.string (bs l), .string (bs [10])] w fun e w' => e = .returned (.bool (l.contains 10)) ∧ w = w' := by
  refine (Tryz.strings_Contains_one (bs l) 10 w).mono ?_
  rintro e w' ⟨rfl, rfl⟩
  exact ⟨ret_bool (indexByte_contains 10 l), rfl⟩

set_option maxRecDepth 100000 in
set_option maxHeartbeats 800000 in
theorem line_any (l : Bs) (w : World) (hs : l.length ≤ 1000000000) :
    Calls Tryz.prog 138 #[.string (bs l)] w fun e w' => e = .returned (.bool (lineB l)) ∧ ∃ n, w' = w.drewN n := by
  have HV := Lib.hid (fun w => valid_any (bs l) w hs)
  have HL : Hid (lineB l = (validB (bs l) && !(l.contains 10))) := rfl
  have HC := Lib.hid (fun w => contains10 l w)
  generalize validB (bs l) = v at *
  generalize l.contains 10 = c at *
  cases v
  · go_enter Tryz.func138, Tryz.ntmps138
    go_wp2_with fail
    refine (HV.out _).mono ?_
    rintro e w1 ⟨rfl, n, rfl⟩
    go_wp2_with fail
    go_ret
    exact ⟨ret_bool (by rw [HL.out]; rfl), n, rfl⟩
  · go_enter Tryz.func138, Tryz.ntmps138
    go_wp2_with fail
    refine (HV.out _).mono ?_
    rintro e w1 ⟨rfl, n, rfl⟩
    go_wp2_with fail
    refine (HC.out _).mono ?_
    rintro e w1 ⟨rfl, rfl⟩
    cases c
    all_goals
      go_wp2_with fail
      go_ret
      exact ⟨ret_bool (by rw [HL.out]; rfl), n, rfl⟩

theorem any_hid (f : UInt8 → Bool) (l : Bs) : Hid (l.any f = (l.drop 0).any f) := by unfold Hid; simp

set_option maxRecDepth 100000 in
set_option maxHeartbeats 800000 in
theorem rline_any (l : Bs) (w : World) (hs : l.length ≤ 1000000000) :
    Calls Tryz.prog 49 #[.string (bs l)] w fun e w' => e = .returned (.bool (lineB l)) ∧ Kept w w' := by
  have HV := Lib.hid (fun w => rvalid_any (bs l) w hs)
  have HL : Hid (lineB l = (validB (bs l) && !(l.any (fun b => b == 10)))) := by show _ = _; rw [← contains_any]; rfl
  generalize validB (bs l) = v at *
  cases v
  · go_enter Tryz.func49, Tryz.ntmps49
    go_wp2_with fail
    refine (HV.out _).mono ?_
    rintro e w1 ⟨rfl, hk⟩
    go_wp2_with fail
    go_ret
    exact ⟨ret_bool (by rw [HL.out]; rfl), hk⟩
  · go_enter Tryz.func49, Tryz.ntmps49
    go_wp2_with fail
    refine (HV.out _).mono ?_
    rintro e w1 ⟨rfl, hk⟩
    have HK := Lib.hid hk
    clear hk
    go_wp2_with fail
    go_loop [3] (fun i => ∃ k : Nat, k ≤ l.length ∧ i = .int .i64 k ∧ Hid (l.any (fun b => b == 10) = (l.drop k).any (fun b => b == 10))) (fun i => l.length - (intOf i).toNat)
    case atStart => exact ⟨0, Nat.zero_le _, rfl, any_hid _ _⟩
    case round =>
      obtain ⟨k, hk, rfl, HA⟩ := hrel
      by_cases hlt : k < l.length
      · have i0 := run_ix (P := Tryz.prog) (t := 9) Tryz.underlying9 l k hlt k rfl
        have HN := Lib.hid (any_next (fun b => b == 10) l k hlt)
        have HC : Hid (at8 l k = 10 ↔ l[k] = 10) := by show _ ↔ _; rw [at8_get l k hlt]; exact u8_int _ 10 (by decide)
        generalize l[k] = x at *
        generalize at8 l k = b at *
        by_cases hb : b = 10
        · have HX : Hid (x = 10) := HC.out.1 hb
          go_wp2_with fail
          go_ret
          exact ⟨ret_bool (by rw [HL.out, HA.out, HN.out, HX.out]; rfl), HK.out⟩
        · have HX : Hid ((x == 10) = false) := by show _ = _; rw [beq_eq_false_iff_ne]; exact fun q => hb (HC.out.2 q)
          have hb' : (b == 10) = false := by simpa using hb
          clear hb
          go_wp2_with fail
          go_round
          case rel => exact ⟨k + 1, by omega, by go_num, by show _ = _; rw [HA.out, HN.out]; simp only [HX.out, Bool.false_or]⟩
          case measure => simp [intOf]; omega
      · go_wp2_with fail
        go_ret
        exact ⟨ret_bool (by rw [HL.out, HA.out, List.drop_of_length_le (by omega)]; rfl), HK.out⟩

def setOf (c : Bool) : Bs := if c then setC else setN
theorem u8_lit (x : UInt8) (b : Int) (h : b = (x.toNat : Int)) (n : Nat) (hn : n < 256) : (x == UInt8.ofNat n) = (b == (n : Int)) := by
  rw [Bool.eq_iff_iff, beq_iff_eq, beq_iff_eq, h]; exact (u8_int x n hn).symm
theorem set_test (c : Bool) (x : UInt8) (b : Int) (h : b = (x.toNat : Int)) : inSet (setOf c) x = ((b == 59) || (b == 123) || (b == 125) || (c && (b == 44))) := by
  have h1 := u8_lit x b h 59 (by decide)
  have h2 := u8_lit x b h 123 (by decide)
  have h3 := u8_lit x b h 125 (by decide)
  have h4 := u8_lit x b h 44 (by decide)
  have e : inSet (setOf c) x = ((x == 59) || (x == 123) || (x == 125) || (c && (x == 44))) := by
    unfold inSet setOf setC setN
    cases c
    · simp only [Bool.false_eq_true, if_false, List.contains_cons, List.contains_nil, Bool.or_false, Bool.false_and]
      cases (x == 59) <;> cases (x == 123) <;> cases (x == 125) <;> rfl
    · simp only [if_true, List.contains_cons, List.contains_nil, Bool.or_false, Bool.true_and]
      cases (x == 59) <;> cases (x == 123) <;> cases (x == 125) <;> cases (x == 44) <;> rfl
  rw [e]
  exact congr (congrArg or (congr (congrArg or (congr (congrArg or h1) h2)) h3)) (congrArg (and c) h4)

set_option maxRecDepth 100000 in
set_option maxHeartbeats 800000 in
theorem barred_any (l : Bs) (c : Bool) (w : World) (hs : l.length ≤ 1000000000) :
    Calls Tryz.prog 51 #[.string (bs l), .bool c] w fun e w' => e = .returned (.bool (l.any (inSet (setOf c)))) ∧ w = w' := by
  go_enter Tryz.func51, Tryz.ntmps51
  go_wp2_with fail
  go_loop [5] (fun i => ∃ k : Nat, k ≤ l.length ∧ i = .int .i64 k ∧ Hid (l.any (inSet (setOf c)) = (l.drop k).any (inSet (setOf c)))) (fun i => l.length - (intOf i).toNat)
  case atStart => exact ⟨0, Nat.zero_le _, rfl, any_hid _ _⟩
  case round =>
    obtain ⟨k, hk, rfl, HA⟩ := hrel
    by_cases hlt : k < l.length
    · have i0 := run_ix (P := Tryz.prog) (t := 9) Tryz.underlying9 l k hlt k rfl
      have HN := Lib.hid (any_next (inSet (setOf c)) l k hlt)
      have ht := set_test c l[k] (at8 l k) (at8_get l k hlt)
      have HC := Lib.hid ht
      clear ht
      generalize l[k] = x at *
      generalize at8 l k = b at *
      have tt : ((b == 59) = true) ∨ ((b == 59) = false ∧ (b == 123) = true) ∨ ((b == 59) = false ∧ (b == 123) = false ∧ (b == 125) = true) ∨ ((b == 59) = false ∧ (b == 123) = false ∧ (b == 125) = false ∧ (b == 44) = true) ∨ ((b == 59) = false ∧ (b == 123) = false ∧ (b == 125) = false ∧ (b == 44) = false) := by
        cases (b == 59) <;> cases (b == 123) <;> cases (b == 125) <;> cases (b == 44) <;> simp
      rcases tt with t1 | ⟨t1, t2⟩ | ⟨t1, t2, t3⟩ | ⟨t1, t2, t3, t4⟩ | ⟨t1, t2, t3, t4⟩
      · have HX : Hid (inSet (setOf c) x = true) := by show _ = _; rw [HC.out, t1]; rfl
        go_wp2_with fail
        go_ret
        exact ⟨ret_bool (by rw [HA.out, HN.out, HX.out]; rfl), rfl⟩
      · have HX : Hid (inSet (setOf c) x = true) := by show _ = _; rw [HC.out, t1, t2]; rfl
        go_wp2_with fail
        go_ret
        exact ⟨ret_bool (by rw [HA.out, HN.out, HX.out]; rfl), rfl⟩
      · have HX : Hid (inSet (setOf c) x = true) := by show _ = _; rw [HC.out, t1, t2, t3]; rfl
        go_wp2_with fail
        go_ret
        exact ⟨ret_bool (by rw [HA.out, HN.out, HX.out]; rfl), rfl⟩
      · have HX : Hid (inSet (setOf c) x = c) := by show _ = _; rw [HC.out, t1, t2, t3, t4]; cases c <;> rfl
        cases c
        · go_wp2_with fail
          go_round
          case rel => exact ⟨k + 1, by omega, by go_num, by show _ = _; rw [HA.out, HN.out, HX.out]; rfl⟩
          case measure => simp [intOf]; omega
        · go_wp2_with fail
          go_ret
          exact ⟨ret_bool (by rw [HA.out, HN.out, HX.out]; rfl), rfl⟩
      · have HX : Hid (inSet (setOf c) x = false) := by show _ = _; rw [HC.out, t1, t2, t3, t4]; cases c <;> rfl
        cases c
        all_goals
          go_wp2_with fail
          go_round
          case rel => exact ⟨k + 1, by omega, by go_num, by show _ = _; rw [HA.out, HN.out, HX.out]; rfl⟩
          case measure => simp [intOf]; omega
    · go_wp2_with fail
      go_ret
      exact ⟨ret_bool (by rw [HA.out, List.drop_of_length_le (by omega)]; rfl), rfl⟩

theorem asciiC : Ascii setC := by intro b hb; unfold setC at hb; simp at hb; rcases hb with rfl | rfl | rfl | rfl <;> decide
theorem asciiN : Ascii setN := by intro b hb; unfold setN at hb; simp at hb; rcases hb with rfl | rfl | rfl <;> decide

set_option maxRecDepth 100000 in
set_option maxHeartbeats 800000 in
theorem part_any (l : Bs) (w : World) (hg : Gnd w) (hs : l.length ≤ 100000000) :
    Calls Tryz.prog 112 #[.string (bs l)] w fun e w' => e = .returned (.bool (partB l)) ∧ Kept w w' := by
  have HV := Lib.hid (fun w => line_any l w (by omega))
  have HC := Lib.hid (fun w => cany_any l setC w asciiC (by decide) (by decide) (by omega))
  have HK := Lib.hid (fun w hg => clean_any l w hg hs)
  have HL : Hid (partB l = (lineB l && !(l.any (inSet setC)) && (l == cleanL l))) := rfl
  have HS : Hid (setC = [44, 59, 123, 125]) := rfl
  generalize lineB l = v at *
  generalize l.any (inSet setC) = c at *
  generalize cleanL l = m at *
  cases v
  · go_enter Tryz.func112, Tryz.ntmps112
    go_wp2_with fail
    refine (HV.out _).mono ?_
    rintro e w1 ⟨rfl, n, rfl⟩
    go_wp2_with fail
    go_ret
    exact ⟨ret_bool (by rw [HL.out]; rfl), kept_drewN _ _⟩
  · go_enter Tryz.func112, Tryz.ntmps112
    go_wp2_with fail
    refine (HV.out _).mono ?_
    rintro e w1 ⟨rfl, n, rfl⟩
    have hg1 : Gnd (w.drewN n) := hg
    go_wp2_with fail
    rw [← HS.out]
    refine (HC.out _).mono ?_
    rintro e w1 ⟨rfl, hk1⟩
    have hg2 := hg1.kept hk1
    have HK1 := Lib.hid ((kept_drewN w n).trans hk1)
    have HG2 := Lib.hid hg2
    clear hk1 hg2 hg1
    cases c
    · go_wp2_with fail
      refine (HK.out _ HG2.out).mono ?_
      rintro e w2 ⟨rfl, hk2⟩
      have HK2 := Lib.hid (HK1.out.trans hk2)
      clear hk2
      go_wp2_with fail
      all_goals go_ret
      all_goals exact ⟨ret_bool (by rw [HL.out]; simp [*]), HK2.out⟩
    · go_wp2_with fail
      go_ret
      exact ⟨ret_bool (by rw [HL.out]; rfl), HK1.out⟩

end Go.Proofs.YteflhlbgbgamnaaGreatDoor
