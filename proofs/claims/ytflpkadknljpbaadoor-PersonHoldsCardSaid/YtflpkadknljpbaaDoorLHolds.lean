/- The law PersonHolds answers true of every person and language. No condition. -/
import Derived.Test.YtflpkadknljpbaaDoorLReturns
import Derived.Test.YtflpkadknljpbaaDoorLNames
set_option linter.all false
namespace Go.Proofs.YtflpkadknljpbaaDoor
open Go.RowKit

set_option maxRecDepth 100000 in
set_option maxHeartbeats 1600000 in
theorem holds_yes (s t a b : Bs) (w : World) (hs : s.length ≤ 1000000) (hab : s = a ++ (t ++ b)) : Calls Tryd.prog 29 #[.string (bs s), .string (bs t)] w fun e w' => e = .returned (.bool true) ∧ w = w' := by
  have hlen : s.length = a.length + (t.length + b.length) := by rw [hab]; simp
  have HAB := Lib.hid hab
  have hl : a.length + t.length ≤ s.length := by omega
  clear hab hlen
  go_enter Tryd.func29, Tryd.ntmps29
  go_wp2_with fail
  go_loop [5] (fun i => ∃ k : Nat, k ≤ a.length ∧ i = .int .i64 k) (fun i => a.length - (intOf i).toNat)
  case atStart => exact ⟨0, Nat.zero_le _, rfl⟩
  case round =>
    obtain ⟨k, hk, rfl⟩ := hrel
    have sl := run_sub (P := Tryd.prog) (t := 9) Tryd.underlying9 s k (k + t.length) (by omega) (by omega) k (k + t.length) rfl (by omega) _ rfl
    have HX : Hid (k = a.length → (s.drop k).take (k + t.length - k) = t) := by
      intro q
      rw [q, HAB.out, List.drop_left' rfl, show a.length + t.length - a.length = t.length from by omega, List.take_left' rfl]
    generalize (s.drop k).take (k + t.length - k) = x at *
    by_cases hx : x = t
    · subst hx
      clear HX
      go_wp2_with fail
      go_ret
      exact ⟨rfl, rfl⟩
    · have hx' : (x == t) = false := by simpa using hx
      have hka : k < a.length := by
        rcases Nat.lt_or_ge k a.length with q | q
        · exact q
        · exact absurd (HX.out (by omega)) hx
      clear HX
      go_wp2_with fail
      go_round
      case rel => exact ⟨k + 1, by omega, by go_num⟩
      case measure => simp [intOf]; omega
theorem full_holds (g p f s : Bs) (hf : f ≠ []) : joinedL [g, p, f, s] = (if g = [] then [] else g ++ [32]) ++ (joinedL [p, f] ++ (if s = [] then [] else 32 :: s)) := by
  have e : f.isEmpty = false := by simpa using hf
  by_cases h1 : g = [] <;> by_cases h2 : p = [] <;> by_cases h3 : s = [] <;>
    simp [joinedL, List.filter_cons, nonE, h1, h2, h3, hf, Lib.join_cons, Lib.join_one, Lib.joinTail]
theorem one_list (l x : Bs) : listL l [x] = x := by unfold listL; rw [if_pos (.inr (by simp)), Lib.join_one]
theorem one_plist (l : Bs) (q : P4) : plistL [q] l 1 true = joinedL [q.2.1, q.2.2.1, q.1, q.2.2.2] := by
  unfold plistL; rw [if_neg (by simp)]
  simp only [List.map_cons, List.map_nil]
  rw [one_list]; rfl
theorem pers_one (w : World) (q : P4) : Perss (w.alloc (.cells #[.string (bs q.1), .string (bs q.2.1), .string (bs q.2.2.1), .string (bs q.2.2.2)] 24)) (.slice (some ⟨w.heap.size, 0, none⟩) 1 1) [q] := by
  have h := Blk.new w 24 #[.string (bs q.1), .string (bs q.2.1), .string (bs q.2.2.1), .string (bs q.2.2.2)]
  refine ⟨_, _, rfl, by simp, fun _ => ⟨w.heap.size, 0, rfl, h.lt, fun j q' hj => ?_⟩⟩
  match j with
  | 0 => cases hj; exact ⟨h.cell 0 _ rfl, h.cell 1 _ rfl, h.cell 2 _ rfl, h.cell 3 _ rfl⟩
  | j + 1 => cases hj
set_option maxRecDepth 100000 in
theorem langs_any (w : World) : Calls Tryd.prog 28 #[] w (StrsPost [lEn, lDe, lFr, lEs] w) := by
  go_enter Tryd.func28, Tryd.ntmps28
  go_wp2_with fail
  go_ret
  exact ⟨.slice (some ⟨w.heap.size, 0, none⟩) 4 4, rfl, strs_lit w #[.string (bs [101, 110]), .string (bs [100, 101]), .string (bs [102, 114]), .string (bs [101, 115])] [lEn, lDe, lFr, lEs] 4 rfl rfl _ _ rfl, kept_alloc _ _⟩

set_option maxRecDepth 100000 in
set_option maxHeartbeats 12800000 in
theorem lholds_ok (q : P4) (l : Bs) (w : World) (hg : Gnd w) (hq : Fit4 q) (hf : fewB q = true) (ht : textE q.1 q.2.1 q.2.2.1 q.2.2.2 = 0) (hl : l.length ≤ maxLen) : Calls Tryd.prog 9 #[p4V q, .string (bs l)] w fun e w' => e = .returned (.bool true) ∧ Kept w w' := by
  have HG := Lib.hid hg
  have hs4 : size4 q ≤ 100000 := by have := few_lens q hf; unfold size4; omega
  have HF := Lib.hid (fun w => few_any q w hq)
  rw [hf] at HF
  have HT := Lib.hid (fun w hg => text_ok4 q ht hs4 w hg)
  have hne : q.1 ≠ [] := by
    intro h
    unfold textE at ht
    rw [if_pos h] at ht; cases ht
  obtain ⟨l1, l2, l3, l4⟩ := few_lens q hf
  clear hq hf ht hs4 hg hl
  obtain ⟨a, b, c, d⟩ := q
  simp only at l1 l2 l3 l4 hne
  have hbu : bulk [b, c, a, d] ≤ 1000 := by simp [bulk]; omega
  have hbu2 : bulk [c, a] ≤ 1000 := by simp [bulk]; omega
  have h1 := joinedL_le [b, c, a, d]
  have H18 := Lib.hid (fun w => full_any a b c d w (by omega))
  have H20 := Lib.hid (fun w => short_any a b c d w (by omega))
  have H24 := Lib.hid (fun w => inverted_any a b c d true w (by omega))
  have HL1 := Lib.hid (fun w => plist_any _ [(a, b, c, d)] l 1 true _ (pers_one w (a, b, c, d)) (by simp) (by intro q hq; simp at hq; subst hq; simp [size4]; omega) (by decide))
  have HH1 := Lib.hid (fun w => holds_yes (joinedL [b, c, a, d]) (joinedL [c, a]) _ _ w (by omega) (full_holds b c a d hne))
  have hin := initialsL_len b
  have hil : (invL a b c d true).length ≤ 10000 := by
    have := joinedL_le [c, a]
    unfold invL givenI
    simp only [List.length_append, if_true]
    split <;> split <;> simp <;> omega
  have HH2 := Lib.hid (fun w => holds_yes (invL a b c d true) (joinedL [c, a]) [] _ w (by omega) (show invL a b c d true = [] ++ (joinedL [c, a] ++ ((if givenI b true = [] then [] else [44, 32] ++ givenI b true) ++ (if d = [] then [] else [44, 32] ++ d))) by simp [invL]))
  have HL2 : Hid (∀ (v : Value) (w : World), Strs w v [joinedL [b, c, a, d]] → Calls Tryd.prog 30 #[.string (bs l), v] w fun e w' => e = .returned (.string (bs (joinedL [b, c, a, d]))) ∧ Kept w w') := by
    intro v w hv
    have := llist_any l v [joinedL [b, c, a, d]] w hv (by simp) (by rw [Lib.join_one]; omega) (by simp [Lib.join_nil]) (by simp; omega)
    rw [one_list] at this; exact this
  rw [one_plist] at HL1
  simp only at HL1
  generalize textR a b c d = tx at *
  generalize joinedL [b, c, a, d] = n1 at *
  generalize joinedL [c, a] = n2 at *
  generalize invL a b c d true = n4 at *
  clear hbu hbu2 l1 l2 l3 l4 h1 hin hil hne
  have HAW : Hid (∀ w', Good w w.heap.size (a, b, c, d) w' → Calls Tryd.prog 12 #[] w' fun e w2 => e = .returned (.bool true) ∧ Kept w' w2) := fun w' h => awake_any w' (HG.out.kept h.1)
  go_enter Tryd.func9, Tryd.ntmps9
  go_wp2_with fail
  refine (HF.out _).mono ?_
  rintro e w1 ⟨rfl, hk1⟩
  have g1 : Good w w.heap.size (a, b, c, d) w1 := ⟨(kept_alloc w _).trans hk1, (Blk.new w 24 #[.string (bs a), .string (bs b), .string (bs c), .string (bs d)]).kept hk1⟩
  clear hk1
  obtain ⟨c0, c1, c2, c3, z1⟩ := g1.cells
  go_wp2_with fail
  refine (HT.out _ (HG.out.kept g1.1)).mono ?_
  rintro e w2 ⟨rfl, hk2⟩
  have g2 := g1.next hk2
  clear hk2 c0 c1 c2 c3 z1
  obtain ⟨c0, c1, c2, c3, z1⟩ := g2.cells
  go_wp2_with fail
  refine (H20.out _).mono ?_
  rintro e w3 ⟨rfl, hk3⟩
  have g3 := g2.next hk3
  clear hk3 c0 c1 c2 c3 z1
  go_wp2_with fail
  refine (langs_any _).mono ?_
  rintro e w4 ⟨vl, rfl, hsl, hk4⟩
  have g4 := g3.next hk4
  have HSL := Lib.hid hsl
  obtain ⟨al, cl, rfl, hcl, h3⟩ := hsl
  obtain ⟨gl, ol, rfl, hgl, hcc⟩ := h3 (by simp)
  have d0 : w4.cell? ⟨gl, ol + 0, none⟩ = some (.string (bs [101, 110])) := hcc 0 _ rfl
  have d1 : w4.cell? ⟨gl, ol + 1, none⟩ = some (.string (bs [100, 101])) := hcc 1 _ rfl
  have d2 : w4.cell? ⟨gl, ol + 2, none⟩ = some (.string (bs [102, 114])) := hcc 2 _ rfl
  have d3 : w4.cell? ⟨gl, ol + 3, none⟩ = some (.string (bs [101, 115])) := hcc 3 _ rfl
  have HCC : Hid (∀ k : Nat, k < 4 → ∃ x, w4.cell? ⟨gl, ol + k, none⟩ = some (.string (bs x))) := by
    intro k hk
    match k, hk with
    | 0, _ => exact ⟨_, d0⟩
    | 1, _ => exact ⟨_, d1⟩
    | 2, _ => exact ⟨_, d2⟩
    | 3, _ => exact ⟨_, d3⟩
  clear hk4 hcc h3 d0 d1 d2 d3 HSL
  simp only [List.length_cons, List.length_nil, Nat.zero_add, Nat.reduceAdd] at hcl ⊢
  go_wp2_with fail
  go_loop [8, 10] (fun v i => ∃ (k : Nat) (kb : Bool), k ≤ 4 ∧ i = .int .i64 k ∧ v = .bool kb) (fun _ i => 4 - (intOf i).toNat)
  case atStart => exact ⟨0, false, Nat.zero_le _, rfl, rfl⟩
  case round =>
    obtain ⟨k, kb, hk, rfl, rfl⟩ := hrel
    by_cases hlt : k < 4
    · obtain ⟨x, hx⟩ := HCC.out k hlt
      cases kb
      · by_cases hxl : x = l
        · subst hxl
          go_wp2_with fail
          go_round
          case rel => exact ⟨k + 1, true, by omega, by go_num, by simp⟩
          case measure => simp [intOf]; omega
        · have hxl' : (x == l) = false := by simpa using hxl
          go_wp2_with fail
          go_round
          case rel => exact ⟨k + 1, false, by omega, by go_num, by first | rfl | simp [hxl']⟩
          case measure => simp [intOf]; omega
      · go_wp2_with fail
        go_round
        case rel => exact ⟨k + 1, true, by omega, by go_num, rfl⟩
        case measure => simp [intOf]; omega
    · obtain ⟨c0, c1, c2, c3, z1⟩ := g4.cells
      go_wp2_with fail
      refine (HL1.out _).mono ?_
      rintro e w5 ⟨rfl, hk5⟩
      have g5 := (g4.next (kept_alloc _ _)).next hk5
      clear hk5 c0 c1 c2 c3 z1
      obtain ⟨c0, c1, c2, c3, z1⟩ := g5.cells
      go_wp2_with fail
      refine (H18.out _).mono ?_
      rintro e w6 ⟨rfl, hk6⟩
      have g6 := g5.next hk6
      clear hk6 c0 c1 c2 c3 z1
      obtain ⟨c0, c1, c2, c3, z1⟩ := g6.cells
      go_wp2_with fail
      refine (HH1.out _).mono ?_
      rintro e w' ⟨rfl, rfl⟩
      go_wp2_with fail
      refine (H24.out _).mono ?_
      rintro e w7 ⟨rfl, hk7⟩
      have g7 := g6.next hk7
      clear hk7 c0 c1 c2 c3 z1
      obtain ⟨c0, c1, c2, c3, z1⟩ := g7.cells
      go_wp2_with fail
      refine (HH2.out _).mono ?_
      rintro e w' ⟨rfl, rfl⟩
      cases kb
      · go_wp2_with fail
        refine (HAW.out _ g7).mono ?_
        rintro e w8 ⟨rfl, hk8⟩
        have g8 := g7.next hk8
        clear hk8
        go_wp2_with fail
        go_ret
        exact ⟨rfl, g8.1⟩
      · go_wp2_with fail
        refine (H18.out _).mono ?_
        rintro e w8 ⟨rfl, hk8⟩
        have g8 := g7.next hk8
        clear hk8 c0 c1 c2 c3 z1
        go_wp2_with fail
        refine (HL2.out _ _ (strs_lit _ _ _ _ rfl rfl _ _ rfl)).mono ?_
        rintro e w9 ⟨rfl, hk9⟩
        have g9 := (g8.next (kept_alloc _ _)).next hk9
        clear hk9
        go_wp2_with fail
        refine (HAW.out _ g9).mono ?_
        rintro e w10 ⟨rfl, hk10⟩
        have g10 := g9.next hk10
        clear hk10
        go_wp2_with fail
        go_ret
        exact ⟨rfl, g10.1⟩

set_option maxRecDepth 100000 in
set_option maxHeartbeats 3200000 in
theorem lholds_awake (q : P4) (l : Bs) (w : World) (hg : Gnd w) (hq : Fit4 q) (h : fewB q = false ∨ fewB q = true ∧ textE q.1 q.2.1 q.2.2.1 q.2.2.2 ≠ 0) : Calls Tryd.prog 9 #[p4V q, .string (bs l)] w fun e w' => e = .returned (.bool true) ∧ Kept w w' := by
  have HG := Lib.hid hg
  have HF := Lib.hid (fun w => few_any q w hq)
  rcases h with hb | ⟨hb, ht⟩
  · rw [hb] at HF
    clear hb hq hg
    obtain ⟨a, b, c, d⟩ := q
    go_enter Tryd.func9, Tryd.ntmps9
    go_wp2_with fail
    refine (HF.out _).mono ?_
    rintro e w1 ⟨rfl, hk1⟩
    have HK1 := Lib.hid ((kept_alloc w _).trans hk1)
    clear hk1
    go_wp2_with fail
    refine (awake_any _ (HG.out.kept HK1.out)).mono ?_
    rintro e w2 ⟨rfl, hk2⟩
    have HK2 := Lib.hid (HK1.out.trans hk2)
    clear hk2
    go_wp2_with fail
    go_ret
    exact ⟨rfl, HK2.out⟩
  · rw [hb] at HF
    have hs4 : size4 q ≤ 100000 := by have := few_lens q hb; unfold size4; omega
    have HT := Lib.hid (fun w hg => text_no4 q ht hs4 w hg)
    generalize textE q.1 q.2.1 q.2.2.1 q.2.2.2 = et at *
    have het : (et == 0) = false := by simpa using ht
    have het2 : (et != 0) = true := by simpa using ht
    clear hb hq hg ht hs4
    obtain ⟨a, b, c, d⟩ := q
    go_enter Tryd.func9, Tryd.ntmps9
    go_wp2_with fail
    refine (HF.out _).mono ?_
    rintro e w1 ⟨rfl, hk1⟩
    have g1 : Good w w.heap.size (a, b, c, d) w1 := ⟨(kept_alloc w _).trans hk1, (Blk.new w 24 #[.string (bs a), .string (bs b), .string (bs c), .string (bs d)]).kept hk1⟩
    clear hk1
    obtain ⟨c0, c1, c2, c3, z1⟩ := g1.cells
    go_wp2_with fail
    refine (HT.out _ (HG.out.kept g1.1)).mono ?_
    rintro e w2 ⟨rfl, hk2⟩
    have g2 := g1.next hk2
    clear hk2 c0 c1 c2 c3 z1
    go_wp2_with fail
    refine (awake_any _ (HG.out.kept g2.1)).mono ?_
    rintro e w3 ⟨rfl, hk3⟩
    have g3 := g2.next hk3
    clear hk3
    go_wp2_with fail
    go_ret
    exact ⟨rfl, g3.1⟩
theorem lholds_any (q : P4) (l : Bs) (w : World) (hg : Gnd w) (hq : Fit4 q) (hl : l.length ≤ maxLen) : Calls Tryd.prog 9 #[p4V q, .string (bs l)] w fun e w' => e = .returned (.bool true) ∧ Kept w w' := by
  cases hf : fewB q
  · exact lholds_awake q l w hg hq (.inl hf)
  by_cases ht : textE q.1 q.2.1 q.2.2.1 q.2.2.2 = 0
  · exact lholds_ok q l w hg hq hf ht hl
  · exact lholds_awake q l w hg hq (.inr ⟨hf, ht⟩)
end Go.Proofs.YtflpkadknljpbaaDoor
