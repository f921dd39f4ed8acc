/- slices.Compare at whole numbers; Compare of collate. Conditions: lengths. -/
import Derived.Test.YtnbhpmleboildaaGreatDoorY15
import Derived.BigQuiet

set_option linter.all false
namespace Go.Proofs.YtnbhpmleboildaaGreatDoor
open Go.RowKit

set_option maxRecDepth 100000 in
set_option maxHeartbeats 3200000 in
theorem slcmp_any (v u : Value) (x y : List Int) (w : World) (hv : Ints w v x) (hu : Ints w u y) (hx : x.length ≤ 200000000) (hy : y.length ≤ 200000000) :
    Calls Tryz.prog 23 #[v, u] w fun e w' => e = .returned (.int .i64 (cmpI x y)) ∧ w = w' := by
  have HV := Lib.hid hv
  have HU := Lib.hid hu
  obtain ⟨a, c, rfl, hc⟩ := hv.form
  obtain ⟨b, d, rfl, hd⟩ := hu.form
  clear hv hu
  have HAT := Lib.hid (cmpI_at x y)
  have HEN := Lib.hid (cmpI_end x y)
  obtain ⟨R, HR⟩ : ∃ R, Hid (cmpI x y = R) := ⟨_, rfl⟩
  rw [HR.out]
  go_enter Tryz.func23, Tryz.ntmps23
  go_wp2_with fail
  go_loop [11] (fun i => ∃ k : Nat, k ≤ x.length ∧ k ≤ y.length ∧ i = .int .i64 k ∧ Hid (cmpI (x.drop k) (y.drop k) = R)) (fun i => x.length - (intOf i).toNat)
  case atStart => exact ⟨0, Nat.zero_le _, Nat.zero_le _, rfl, HR.out⟩
  case round =>
    obtain ⟨k, hk, hk2, rfl, HA⟩ := hrel
    by_cases hlt : k < x.length
    · obtain ⟨p, hp⟩ : ∃ z, x[k]? = some z := ⟨_, List.getElem?_eq_getElem hlt⟩
      obtain ⟨g, o, rfl, hg, d0⟩ := HV.out.cell_of k p hp
      by_cases hlt2 : k < y.length
      · obtain ⟨q, hq⟩ : ∃ z, y[k]? = some z := ⟨_, List.getElem?_eq_getElem hlt2⟩
        obtain ⟨g2, o2, rfl, hg2, d1⟩ := HU.out.cell_of k q hq
        have HS : Hid (R = if p < q then -1 else if q < p then 1 else cmpI (x.drop (k + 1)) (y.drop (k + 1))) := by
          show _ = _
          rw [← HA.out, HAT.out k hlt hlt2]
          obtain ⟨_, rfl⟩ := List.getElem?_eq_some_iff.1 hp
          obtain ⟨_, rfl⟩ := List.getElem?_eq_some_iff.1 hq
          rfl
        have HC := Lib.hid (fun w => Tryz.cmp_Compare_int p q w)
        unfold Lib.compareInt at HC
        clear hp hq
        by_cases h1 : p < q
        · rw [if_pos h1] at HS HC
          go_wp2_with fail
          refine (HC.out _).mono ?_
          rintro e w' ⟨rfl, rfl⟩
          go_wp2_with fail
          go_ret
          exact ⟨ret_int HS.out.symm, rfl⟩
        rw [if_neg h1] at HS HC
        by_cases h2 : q < p
        · rw [if_pos h2] at HS HC
          go_wp2_with fail
          refine (HC.out _).mono ?_
          rintro e w' ⟨rfl, rfl⟩
          go_wp2_with fail
          go_ret
          exact ⟨ret_int HS.out.symm, rfl⟩
        rw [if_neg h2] at HS
        rw [if_neg (show ¬ p > q from h2)] at HC
        go_wp2_with fail
        refine (HC.out _).mono ?_
        rintro e w' ⟨rfl, rfl⟩
        go_wp2_with fail
        go_round
        case rel => exact ⟨k + 1, by omega, by omega, by go_num, HS.out.symm⟩
        case measure => simp [intOf]; omega
      · have HS : Hid (R = 1) := by
          show _ = _
          rw [← HA.out, HEN.out k hk hk2 (fun q => hlt2 q.2), if_neg (by omega), if_pos (by omega)]
        clear hp
        go_wp2_with fail
        go_ret
        exact ⟨ret_int HS.out.symm, rfl⟩
    · have HS : Hid (R = if x.length < y.length then -1 else 0) := by
        show _ = _
        rw [← HA.out, HEN.out k hk hk2 (fun q => hlt q.1)]
        by_cases q : x.length < y.length
        · rw [if_pos q, if_pos q]
        · rw [if_neg q, if_neg q, if_neg (by omega)]
      by_cases h1 : x.length < y.length
      · rw [if_pos h1] at HS
        go_wp2_with fail
        go_ret
        exact ⟨ret_int HS.out.symm, rfl⟩
      · rw [if_neg h1] at HS
        go_wp2_with fail
        go_ret
        exact ⟨ret_int HS.out.symm, rfl⟩
theorem keyI_len {c : ColT} (hs : SmallC c) (s : Bs) : (keyI c s).length ≤ 1000 * s.length := by
  have h1 : ∀ x, (keyI1 c x).length ≤ 1000 := fun x => by
    unfold keyI1
    split
    · simp
    · split
      · rename_i v hv
        have := val_len hs hv
        simpa using this
      · simp
  have h2 : ∀ xs : List Int, (xs.flatMap (keyI1 c)).length ≤ 1000 * xs.length := by
    intro xs
    induction xs with
    | nil => simp
    | cons x xs ih =>
      have := h1 x
      rw [List.flatMap_cons, List.length_append, List.length_cons]; omega
  have h3 := h2 (ptsL s)
  have h4 := ptsL_len s
  unfold keyI; omega
theorem cmpC_lib (c : ColT) (a b : Bs) : cmpC c a b = if cmpI (keyI c a) (keyI c b) ≠ 0 then cmpI (keyI c a) (keyI c b) else Lib.compareBytes a b := by
  rw [cmpB_lib]; rfl
set_option maxRecDepth 100000 in
set_option maxHeartbeats 6400000 in
theorem compare_any (vR vO : Value) (c : ColT) (a b : Bs) (w : World) (hv : Col w vR vO c) (hs : SmallC c) (ha : a.length ≤ 100000) (hb : b.length ≤ 100000) :
    Calls Tryz.prog 12 #[colV vR vO c.ignore, .string (bs a), .string (bs b)] w fun e w' => e = .returned (.int .i64 (cmpC c a b)) ∧ Kept w w' := by
  have HV := Lib.hid hv
  have HT := Lib.hid (fun w h => tables_any vR vO c w h hs)
  have HKA := Lib.hid (fun v w h => key_any v c a w h hs ha)
  have HKB := Lib.hid (fun v w h => key_any v c b w h hs hb)
  have hla := keyI_len hs a
  have hlb := keyI_len hs b
  have HE := Lib.hid (cmpC_lib c a b)
  have HEQ := Lib.hid (fun h : a = b => (show cmpC c a b = 0 from (cmpC_zero c a b).2 h))
  have HSC := Lib.hid (fun w => Tryz.strings_Compare (bs a) (bs b) w)
  simp only [bs_data] at HSC
  obtain ⟨aR, cR, rfl, lR⟩ := hv.1.form
  obtain ⟨aO, cO, rfl, lO⟩ := hv.2.form
  clear hv
  have HK0 := Lib.hid (kept_alloc w (.cells #[.slice aR c.ranks.length cR, .slice aO c.order.length cO, .string (bs c.ignore)] 28))
  generalize cmpC c a b = R at *
  generalize keyI c a = ka at *
  generalize keyI c b = kb at *
  generalize Lib.compareBytes a b = S at *
  unfold IntsP at HKA HKB
  by_cases hab : a = b
  · have HR := Lib.hid (HEQ.out hab)
    subst hab
    go_enter Tryz.func12, Tryz.ntmps12
    go_wp2_with fail
    go_ret
    exact ⟨ret_int HR.out.symm, HK0.out⟩
  have hab' : (a == b) = false := by simpa using hab
  go_enter Tryz.func12, Tryz.ntmps12
  go_wp2_with fail
  refine (HT.out _ (HV.out.kept HK0.out)).mono ?_
  rintro e w1 ⟨v1, rfl, ht1, hk1⟩
  have HT1 := Lib.hid ht1
  have HK1 := Lib.hid (HK0.out.trans hk1)
  obtain ⟨m1, m2, m3, es, rfl, _, _, _, _⟩ := ht1
  clear hk1
  have HB1 := Lib.hid (Blk.new w1 70 #[.map (some m1), .map (some m2), .map (some m3), .int .i64 c.order.length])
  have HK2 := Lib.hid (HK1.out.trans (kept_alloc w1 (.cells #[.map (some m1), .map (some m2), .map (some m3), .int .i64 c.order.length] 70)))
  have HT2 := Lib.hid (HT1.out.kept (kept_alloc w1 (.cells #[.map (some m1), .map (some m2), .map (some m3), .int .i64 c.order.length] 70)))
  go_wp2_with fail
  generalize w1.alloc (.cells #[.map (some m1), .map (some m2), .map (some m3), .int .i64 c.order.length] 70) = w2 at *
  generalize w1.heap.size = B at *
  have t0 : w2.cell? ⟨B, 0, none⟩ = some (.map (some m1)) := HB1.out.cell 0 _ rfl
  have t1 : w2.cell? ⟨B, 1, none⟩ = some (.map (some m2)) := HB1.out.cell 1 _ rfl
  have t2 : w2.cell? ⟨B, 2, none⟩ = some (.map (some m3)) := HB1.out.cell 2 _ rfl
  have t3 : w2.cell? ⟨B, 3, none⟩ = some (.int .i64 c.order.length) := HB1.out.cell 3 _ rfl
  have zt := HB1.out.lt
  have HCC : Hid (∀ w', Kept w2 w' → (w'.cell? ⟨B, 0, none⟩ = some (.map (some m1)) ∧ w'.cell? ⟨B, 1, none⟩ = some (.map (some m2)) ∧ w'.cell? ⟨B, 2, none⟩ = some (.map (some m3)) ∧ w'.cell? ⟨B, 3, none⟩ = some (.int .i64 c.order.length)) ∧ B < w'.heap.size ∧ Kept w2 w') := fun w' h =>
    ⟨⟨(h.cell (p := ⟨B, 0, none⟩) zt).trans t0, (h.cell (p := ⟨B, 1, none⟩) zt).trans t1, (h.cell (p := ⟨B, 2, none⟩) zt).trans t2, (h.cell (p := ⟨B, 3, none⟩) zt).trans t3⟩, Nat.lt_of_lt_of_le zt h.size, h⟩
  have hkd : Kept w2 w2.drew := kept_drewN w2 1
  have HCMP := Lib.hid (fun v u w (h1 : Ints w v ka) (h2 : Ints w u kb) => slcmp_any v u ka kb w h1 h2 (by omega) (by omega))
  go_region_held3 (fun w' => (w'.cell? ⟨B, 0, none⟩ = some (.map (some m1)) ∧ w'.cell? ⟨B, 1, none⟩ = some (.map (some m2)) ∧ w'.cell? ⟨B, 2, none⟩ = some (.map (some m3)) ∧ w'.cell? ⟨B, 3, none⟩ = some (.int .i64 c.order.length)) ∧ B < w'.heap.size ∧ Kept w2 w')
    ((refine HCC.out _ ?_; assumption))
    (first
      | (go_at_call 23; refine (HCMP.out _ _ _ HIA2.out HIB2.out).mono ?_; rintro e w5 ⟨rfl, rfl⟩)
      | (go_at_call_of 24 (Value.string (bs b)); refine (HKB.out _ _ (HT2.out.kept kA)).mono ?_; rintro e w4 ⟨vB, rfl, hiB, hk4⟩; have kB : Kept w2 w4 := kA.trans hk4; have HIA2 := Lib.hid (HIA.out.kept hk4); have HIB2 := Lib.hid hiB; obtain ⟨aB, cB, rfl, lB⟩ := hiB.form; clear hk4 hiB)
      | (go_at_call_of 24 (Value.string (bs a)); refine (HKA.out _ _ (HT2.out.kept hkd)).mono ?_; rintro e w3 ⟨vA, rfl, hiA, hk3⟩; have kA : Kept w2 w3 := hkd.trans hk3; have HIA := Lib.hid hiA; obtain ⟨aA, cA, rfl, lA⟩ := hiA.form; clear hk3 hiA))
  all_goals
    have HKZ := Lib.hid (HK2.out.trans kB)
    clear HCC kA kB HIA2 HIB2
    generalize cmpI ka kb = D at *
    by_cases hD : D = 0
    · subst hD
      rw [if_neg (by simp)] at HE
      go_wp2_with fail
      refine (HSC.out _).mono ?_
      rintro e w6 ⟨rfl, rfl⟩
      go_wp2_with fail
      go_ret
      exact ⟨ret_int HE.out.symm, HKZ.out⟩
    · rw [if_pos hD] at HE
      have hD' : (D == 0) = false := by simpa using hD
      go_wp2_with fail
      go_ret
      exact ⟨ret_int HE.out.symm, HKZ.out⟩
end Go.Proofs.YtnbhpmleboildaaGreatDoor

/- Plain law: indices of texts, sorted by insertion under a collation. No condition. -/
set_option linter.all false
namespace Go.Proofs.YtnbhpmleboildaaGreatDoor
open Go.RowKit

def txt (l : List Bs) (i : Nat) : Bs := l.getD i []
def ltC (c : ColT) (l : List Bs) (i k : Nat) : Bool := decide (cmpC c (txt l i) (txt l k) < 0)
/-- Where i is put among indices that are sorted. -/
def atC (c : ColT) (l : List Bs) (i : Nat) (out : List Nat) : Nat := out.length - (out.reverse.takeWhile (ltC c l i)).length
def insC (c : ColT) (l : List Bs) (out : List Nat) (i : Nat) : List Nat := out.take (atC c l i out) ++ i :: out.drop (atC c l i out)
def sortN (c : ColT) (l : List Bs) (n : Nat) : List Nat := (List.range n).foldl (insC c l) []
def sortC (c : ColT) (l : List Bs) : List Nat := sortN c l l.length
theorem sortN_succ (c : ColT) (l : List Bs) (n : Nat) : sortN c l (n + 1) = insC c l (sortN c l n) n := by
  unfold sortN
  rw [List.range_succ, List.foldl_append]; rfl
theorem atC_le (c : ColT) (l : List Bs) (i : Nat) (out : List Nat) : atC c l i out ≤ out.length := by unfold atC; omega
theorem insC_perm (c : ColT) (l : List Bs) (out : List Nat) (i : Nat) : (insC c l out i).Perm (i :: out) := by
  unfold insC
  have h := List.perm_middle (a := i) (l₁ := out.take (atC c l i out)) (l₂ := out.drop (atC c l i out))
  rwa [List.take_append_drop] at h
theorem sortN_perm (c : ColT) (l : List Bs) : ∀ n, (sortN c l n).Perm (List.range n)
  | 0 => .refl _
  | n + 1 => by
    rw [sortN_succ, List.range_succ]
    refine (insC_perm c l _ n).trans ?_
    refine (List.Perm.cons n (sortN_perm c l n)).trans ?_
    exact (List.perm_append_comm (l₁ := [n]) (l₂ := List.range n))
theorem sortN_mem (c : ColT) (l : List Bs) (n i : Nat) (h : i ∈ sortN c l n) : i < n := by
  have := (sortN_perm c l n).mem_iff.1 h
  simpa using this
theorem atC_parts_n (c : ColT) (l : List Bs) (i : Nat) : ∀ (n : Nat) (out : List Nat), out.length = n → (∀ k ∈ out.drop (atC c l i out), ltC c l i k = true) ∧ ∀ k, 0 < atC c l i out → out[atC c l i out - 1]? = some k → ltC c l i k = false := by
  intro n
  induction n with
  | zero =>
    intro out hn
    obtain rfl := List.length_eq_zero_iff.1 hn
    exact ⟨by simp, fun k h => by simp [atC] at h⟩
  | succ n ih =>
    intro out hn
    obtain ⟨o, x, rfl⟩ : ∃ o x, out = o ++ [x] := ⟨out.dropLast, out.getLast (by intro q; subst q; cases hn), (List.dropLast_concat_getLast _).symm⟩
    have hl : o.length = n := by simpa using hn
    cases hx : ltC c l i x
    · have e : atC c l i (o ++ [x]) = o.length + 1 := by
        unfold atC
        rw [List.reverse_append]
        simp [hx]
      rw [e]
      refine ⟨by simp, fun k _ hk => ?_⟩
      simp at hk
      subst hk; exact hx
    · have e : atC c l i (o ++ [x]) = atC c l i o := by
        unfold atC
        rw [List.reverse_append]
        simp [hx]
      obtain ⟨h1, h2⟩ := ih o hl
      have hle := atC_le c l i o
      rw [e]
      refine ⟨fun k hk => ?_, fun k h hk => ?_⟩
      · rw [List.drop_append_of_le_length hle] at hk
        rcases List.mem_append.1 hk with q | q
        · exact h1 k q
        · simp at q; subst q; exact hx
      · rw [List.getElem?_append_left (by omega)] at hk
        exact h2 k h hk
theorem atC_parts (c : ColT) (l : List Bs) (i : Nat) (out : List Nat) : (∀ k ∈ out.drop (atC c l i out), ltC c l i k = true) ∧ ∀ k, 0 < atC c l i out → out[atC c l i out - 1]? = some k → ltC c l i k = false := atC_parts_n c l i _ out rfl
def LeC (c : ColT) (l : List Bs) (a b : Nat) : Prop := cmpC c (txt l a) (txt l b) ≤ 0
theorem insC_sorted (c : ColT) (l : List Bs) (out : List Nat) (i : Nat) (h : out.Pairwise (LeC c l)) : (insC c l out i).Pairwise (LeC c l) := by
  obtain ⟨h1, h2⟩ := atC_parts c l i out
  have hle := atC_le c l i out
  unfold insC
  generalize atC c l i out = a at *
  have hp := h
  rw [← List.take_append_drop a out, List.pairwise_append] at hp
  obtain ⟨p1, p2, p3⟩ := hp
  have hd : ∀ k ∈ out.drop a, LeC c l i k := fun k hk => by
    have := h1 k hk
    unfold ltC at this
    simp only [decide_eq_true_eq] at this
    exact Int.le_of_lt this
  have ht : ∀ k ∈ out.take a, LeC c l k i := fun k hk => by
    have hpos : 0 < a := by
      rcases Nat.eq_zero_or_pos a with rfl | q
      · simp at hk
      · exact q
    have hz := h2 _ hpos (List.getElem?_eq_getElem (by omega))
    unfold ltC at hz
    simp only [decide_eq_false_iff_not] at hz
    have hl : LeC c l (out[a - 1]'(by omega)) i := by
      unfold LeC
      have := cmpC_neg c (txt l i) (txt l (out[a - 1]'(by omega)))
      omega
    have e3 : out.take a = out.take (a - 1) ++ [out[a - 1]'(by omega)] := by
      have := List.take_succ_eq_append_getElem (l := out) (i := a - 1) (by omega)
      rwa [Nat.sub_add_cancel hpos] at this
    rw [e3] at hk p1
    rcases List.mem_append.1 hk with q | q
    · have := (List.pairwise_append.1 p1).2.2 k q (out[a - 1]'(by omega)) (by simp)
      exact cmpC_trans c _ _ _ this hl
    · simp at q; rw [q]; exact hl
  rw [List.pairwise_append]
  refine ⟨p1, List.pairwise_cons.2 ⟨hd, p2⟩, fun x hx y hy => ?_⟩
  rcases List.mem_cons.1 hy with rfl | hy
  · exact ht x hx
  · exact p3 x hx y hy
theorem sortN_sorted (c : ColT) (l : List Bs) : ∀ n, (sortN c l n).Pairwise (LeC c l)
  | 0 => .nil
  | n + 1 => by rw [sortN_succ]; exact insC_sorted c l _ n (sortN_sorted c l n)
/-- Neighbours in what is sorted. -/
theorem sortC_next (c : ColT) (l : List Bs) (i : Nat) (h : i + 1 < (sortC c l).length) : cmpC c (txt l ((sortC c l)[i]'(by omega))) (txt l (sortC c l)[i + 1]) ≤ 0 :=
  (List.pairwise_iff_getElem.1 (sortN_sorted c l l.length)) i (i + 1) (by unfold sortC at h; omega) h (by omega)
end Go.Proofs.YtnbhpmleboildaaGreatDoor

/- Plain law: indices sorted by text and then by place stand in one order alone. No condition. -/
set_option linter.all false
namespace Go.Proofs.YtnbhpmleboildaaGreatDoor
open Go.RowKit

/-- How indices compare: by text, then by place. -/
def cmpN (c : ColT) (l : List Bs) (i k : Nat) : Int := if cmpC c (txt l i) (txt l k) ≠ 0 then cmpC c (txt l i) (txt l k) else if i < k then -1 else if k < i then 1 else 0
def LtN (c : ColT) (l : List Bs) (i k : Nat) : Prop := cmpN c l i k < 0
theorem cmpN_neg (c : ColT) (l : List Bs) (i k : Nat) : cmpN c l k i = - cmpN c l i k := by
  unfold cmpN
  rw [cmpC_neg c (txt l i) (txt l k)]
  by_cases h : cmpC c (txt l i) (txt l k) = 0
  · rw [if_neg (show ¬ (- cmpC c (txt l i) (txt l k) ≠ 0) by omega), if_neg (show ¬ (cmpC c (txt l i) (txt l k) ≠ 0) by omega)]
    rcases Nat.lt_trichotomy i k with q | q | q
    · rw [if_neg (show ¬ k < i by omega), if_pos q, if_pos q]; rfl
    · subst q; simp
    · rw [if_pos q, if_neg (show ¬ i < k by omega), if_pos q]
  · rw [if_pos (show - cmpC c (txt l i) (txt l k) ≠ 0 by omega), if_pos h]
theorem cmpN_zero (c : ColT) (l : List Bs) (i k : Nat) (h : cmpN c l i k = 0) : i = k := by
  unfold cmpN at h
  split at h
  · rename_i q; exact absurd h q
  · split at h
    · cases h
    · split at h
      · cases h
      · omega
theorem cmpN_le (c : ColT) (l : List Bs) (i k : Nat) (h : cmpN c l i k ≤ 0) : cmpC c (txt l i) (txt l k) ≤ 0 := by
  unfold cmpN at h
  split at h
  · exact h
  · rename_i q
    have : cmpC c (txt l i) (txt l k) = 0 := by simpa using q
    omega
theorem cmpN_trans (c : ColT) (l : List Bs) (i j k : Nat) (h1 : cmpN c l i j ≤ 0) (h2 : cmpN c l j k ≤ 0) : cmpN c l i k ≤ 0 := by
  have a := cmpN_le c l i j h1
  have b := cmpN_le c l j k h2
  have d := cmpC_trans c _ _ _ a b
  by_cases hC : cmpC c (txt l i) (txt l k) = 0
  · have e := (cmpC_zero c _ _).1 hC
    have hA : cmpC c (txt l i) (txt l j) = 0 := by
      rw [← e] at b
      have := cmpC_neg c (txt l j) (txt l i)
      omega
    have e2 := (cmpC_zero c _ _).1 hA
    have hB : cmpC c (txt l j) (txt l k) = 0 := by rw [← e2, ← e]; exact cmpC_self c _
    unfold cmpN at h1 h2 ⊢
    rw [if_neg (by omega)] at h1 h2 ⊢
    split
    · omega
    · split
      · split at h1
        · split at h2
          · omega
          · split at h2
            · omega
            · omega
        · split at h1
          · omega
          · split at h2
            · omega
            · split at h2
              · omega
              · omega
      · omega
  · unfold cmpN
    rw [if_pos hC]; exact d
theorem uniq {α : Type} {R : α → α → Prop} (hasym : ∀ a b, R a b → R b a → False) : ∀ (xs ys : List α), xs.Perm ys → xs.Pairwise R → ys.Pairwise R → xs = ys
  | [], ys, h, _, _ => by
    have := h.length_eq
    exact (List.length_eq_zero_iff.1 (by simpa using this.symm)).symm
  | x :: xs, [], h, _, _ => by have := h.length_eq; simp at this
  | x :: xs, y :: ys, h, hx, hy => by
    have e : x = y := by
      apply Classical.byContradiction
      intro hne
      have m1 : x ∈ y :: ys := h.subset (by simp)
      have m2 : y ∈ x :: xs := h.symm.subset (by simp)
      have r1 : R y x := (List.pairwise_cons.1 hy).1 x ((List.mem_cons.1 m1).resolve_left hne)
      have r2 : R x y := (List.pairwise_cons.1 hx).1 y ((List.mem_cons.1 m2).resolve_left (Ne.symm hne))
      exact hasym _ _ r1 r2
    subst e
    rw [uniq hasym xs ys (List.Perm.cons_inv h) (List.pairwise_cons.1 hx).2 (List.pairwise_cons.1 hy).2]
theorem LtN_asym (c : ColT) (l : List Bs) (a b : Nat) (h : LtN c l a b) (k : LtN c l b a) : False := by
  unfold LtN at h k
  have := cmpN_neg c l a b
  omega
theorem insC_lt (c : ColT) (l : List Bs) (out : List Nat) (i : Nat) (h : out.Pairwise (LtN c l)) (hlt : ∀ k ∈ out, k < i) : (insC c l out i).Pairwise (LtN c l) := by
  have hle0 : out.Pairwise (LeC c l) := h.imp (fun {a b} q => cmpN_le c l a b (Int.le_of_lt q))
  obtain ⟨h1, h2⟩ := atC_parts c l i out
  have hle := atC_le c l i out
  unfold insC
  generalize atC c l i out = a at *
  have hp := h
  rw [← List.take_append_drop a out, List.pairwise_append] at hp
  obtain ⟨p1, p2, p3⟩ := hp
  have hq := hle0
  rw [← List.take_append_drop a out, List.pairwise_append] at hq
  obtain ⟨q1, _, _⟩ := hq
  have hd : ∀ k ∈ out.drop a, LtN c l i k := fun k hk => by
    have := h1 k hk
    unfold ltC at this
    simp only [decide_eq_true_eq] at this
    unfold LtN cmpN
    rw [if_pos (by omega)]; exact this
  have ht : ∀ k ∈ out.take a, LtN c l k i := fun k hk => by
    have hki := hlt k (List.mem_of_mem_take hk)
    have hL : LeC c l k i := by
      have hpos : 0 < a := by
        rcases Nat.eq_zero_or_pos a with rfl | q
        · simp at hk
        · exact q
      have hz := h2 _ hpos (List.getElem?_eq_getElem (by omega))
      unfold ltC at hz
      simp only [decide_eq_false_iff_not] at hz
      have hl : LeC c l (out[a - 1]'(by omega)) i := by
        unfold LeC
        have := cmpC_neg c (txt l i) (txt l (out[a - 1]'(by omega)))
        omega
      have e3 : out.take a = out.take (a - 1) ++ [out[a - 1]'(by omega)] := by
        have := List.take_succ_eq_append_getElem (l := out) (i := a - 1) (by omega)
        rwa [Nat.sub_add_cancel hpos] at this
      rw [e3] at hk q1
      rcases List.mem_append.1 hk with q | q
      · have := (List.pairwise_append.1 q1).2.2 k q (out[a - 1]'(by omega)) (by simp)
        exact cmpC_trans c _ _ _ this hl
      · simp at q; rw [q]; exact hl
    unfold LeC at hL
    unfold LtN cmpN
    by_cases z : cmpC c (txt l k) (txt l i) = 0
    · rw [if_neg (by omega), if_pos hki]; omega
    · rw [if_pos z]; omega
  rw [List.pairwise_append]
  refine ⟨p1, List.pairwise_cons.2 ⟨hd, p2⟩, fun x hx y hy => ?_⟩
  rcases List.mem_cons.1 hy with rfl | hy
  · exact ht x hx
  · exact p3 x hx y hy
theorem sortN_lt (c : ColT) (l : List Bs) : ∀ n, (sortN c l n).Pairwise (LtN c l)
  | 0 => .nil
  | n + 1 => by rw [sortN_succ]; exact insC_lt c l _ n (sortN_lt c l n) (fun k hk => sortN_mem c l n k hk)
/-- Whatever list holds the indices once each, none behind a greater one, is what insertion makes. -/
theorem sort_one (c : ColT) (l : List Bs) (d : List Nat) (hp : d.Perm (List.range l.length)) (hs : d.Pairwise fun a b => ¬ cmpN c l b a < 0) : d = sortC c l := by
  have hn : d.Pairwise (· ≠ ·) := hp.nodup_iff.2 List.nodup_range
  refine uniq (LtN_asym c l) d (sortC c l) (hp.trans (sortN_perm c l l.length).symm) ?_ (sortN_lt c l l.length)
  refine (hs.and hn).imp ?_
  rintro a b ⟨h1, h2⟩
  unfold LtN
  have h3 := cmpN_neg c l a b
  have h4 : cmpN c l a b ≠ 0 := fun q => h2 (cmpN_zero c l a b q)
  omega
end Go.Proofs.YtnbhpmleboildaaGreatDoor

/- The closure of collate.Sort: how indices compare. Conditions: lengths. -/
set_option linter.all false
namespace Go.Proofs.YtnbhpmleboildaaGreatDoor
open Go.RowKit

/-- The keys of texts in memory: a slice of slices. -/
structure Keys (w : World) (c : ColT) (l : List Bs) (g o cap : Nat) : Prop where
  lt : g < w.heap.size
  cap : l.length ≤ cap
  at_ : ∀ i x, l[i]? = some x → ∃ v, w.cell? ⟨g, o + i, none⟩ = some v ∧ Ints w v (keyI c x)
theorem cmpN_parts (c : ColT) (l : List Bs) (i j : Nat) (x y : Bs) (hx : l[i]? = some x) (hy : l[j]? = some y) : cmpN c l i j = if cmpI (keyI c x) (keyI c y) ≠ 0 then cmpI (keyI c x) (keyI c y) else if Lib.compareBytes x y ≠ 0 then Lib.compareBytes x y else Lib.compareInt i j := by
  have e1 : txt l i = x := by unfold txt; rw [List.getD_eq_getElem?_getD, hx]; rfl
  have e2 : txt l j = y := by unfold txt; rw [List.getD_eq_getElem?_getD, hy]; rfl
  unfold cmpN
  rw [e1, e2, cmpC_lib]
  unfold Lib.compareInt
  have e3 : (if i < j then (-1 : Int) else if j < i then 1 else 0) = if (i : Int) < (j : Int) then -1 else if (i : Int) > (j : Int) then 1 else 0 := by
    simp only [gt_iff_lt, Int.ofNat_lt]
  rw [e3]
  generalize cmpI (keyI c x) (keyI c y) = D
  generalize Lib.compareBytes x y = S
  by_cases h : D = 0
  · subst h
    by_cases h2 : S = 0
    · subst h2; simp
    · simp [h2]
  · simp [h]
set_option maxRecDepth 100000 in
set_option maxHeartbeats 3200000 in
theorem clo_sort (c : ColT) (l : List Bs) (g o cap gl ol cl KB LB : Nat) (i j : Nat) (w : World) (hs : SmallC c) (hl : l.length ≤ 1000) (hll : ∀ x ∈ l, x.length ≤ 100000) (hk : Keys w c l g o cap) (hv : Strs w (.slice (some ⟨gl, ol, none⟩) l.length cl) l)
    (hkb : w.cell? ⟨KB, 0, none⟩ = some (.slice (some ⟨g, o, none⟩) l.length cap)) (hlb : w.cell? ⟨LB, 0, none⟩ = some (.slice (some ⟨gl, ol, none⟩) l.length cl)) (hi : i < l.length) (hj : j < l.length) :
    Calls Tryz.prog 61 #[.int .i64 i, .int .i64 j, .pointer (some ⟨KB, 0, none⟩), .pointer (some ⟨LB, 0, none⟩)] w fun e w' => e = .returned (.int .i64 (cmpN c l i j)) ∧ ∃ q, w' = w.drewN q := by
  obtain ⟨x, hx⟩ : ∃ x, l[i]? = some x := ⟨_, List.getElem?_eq_getElem hi⟩
  obtain ⟨y, hy⟩ : ∃ y, l[j]? = some y := ⟨_, List.getElem?_eq_getElem hj⟩
  obtain ⟨vx, kx, ix⟩ := hk.at_ i x hx
  obtain ⟨vy, ky, iy⟩ := hk.at_ j y hy
  obtain ⟨g1, o1, e1, hgl, sx, _, hcl⟩ := hv.cell_of i x hx
  obtain ⟨g2, o2, e2, _, sy, _, _⟩ := hv.cell_of j y hy
  cases e1
  cases e2
  have HR := Lib.hid (cmpN_parts c l i j x y hx hy)
  have hlx := keyI_len hs x
  have hly := keyI_len hs y
  have hxl := hll x (List.mem_of_getElem? hx)
  have hyl := hll y (List.mem_of_getElem? hy)
  have HC : Hid (∀ n, Calls Tryz.prog 23 #[vx, vy] (w.drewN n) fun e w' => e = .returned (.int .i64 (cmpI (keyI c x) (keyI c y))) ∧ w' = w.drewN n) := fun n =>
    (slcmp_any vx vy (keyI c x) (keyI c y) (w.drewN n) (ix.kept (kept_drewN _ _)) (iy.kept (kept_drewN _ _)) (by omega) (by omega)).mono fun _ _ ⟨h1, h2⟩ => ⟨h1, h2.symm⟩
  have HD : Hid (∀ w, Calls Tryz.prog 25 #[.string (bs x), .string (bs y)] w fun e w' => e = .returned (.int .i64 (Lib.compareBytes x y)) ∧ w' = w) := fun w => by
    have h := Tryz.strings_Compare (bs x) (bs y) w
    simpa only [bs_data] using h
  have HE := Lib.hid (fun w => Tryz.cmp_Compare_int (i : Int) (j : Int) w)
  obtain ⟨ax, cx, rfl, _⟩ := ix.form
  obtain ⟨ay, cy, rfl, _⟩ := iy.form
  have hgk := hk.lt
  have hck := hk.cap
  have zk := World.block_lt_of_cell? w (a := ⟨KB, 0, none⟩) hkb
  have zl := World.block_lt_of_cell? w (a := ⟨LB, 0, none⟩) hlb
  simp only at zk zl
  clear hx hy ix iy hk hv hll
  generalize cmpN c l i j = R at *
  generalize keyI c x = kx' at *
  generalize keyI c y = ky' at *
  generalize cmpI kx' ky' = D at *
  generalize Lib.compareBytes x y = S at *
  generalize Lib.compareInt (i : Int) (j : Int) = T at *
  go_enter Tryz.func61, Tryz.ntmps61
  go_wp2_with fail
  go_quiet ((go_at_call 23; exact Calls.quiet_of_same (HC.out _)))
  obtain ⟨w1, HW⟩ : ∃ w1, Hid (w.drewN nq = w1) := ⟨_, rfl⟩
  have lb1 : w1.cell? ⟨LB, 0, none⟩ = some (.slice (some ⟨gl, ol, none⟩) l.length cl) := by rw [← HW.out]; exact hlb
  have sx1 : w1.cell? ⟨gl, ol + i, none⟩ = some (.string (bs x)) := by rw [← HW.out]; exact sx
  have sy1 : w1.cell? ⟨gl, ol + j, none⟩ = some (.string (bs y)) := by rw [← HW.out]; exact sy
  have zl1 : LB < w1.heap.size := by rw [← HW.out]; exact zl
  have zg1 : gl < w1.heap.size := by rw [← HW.out]; exact hgl
  rw [HW.out]
  clear hkb hlb sx sy zk zl hgl kx ky HC hgk
  by_cases hD : D = 0
  · subst hD
    rw [if_neg (by simp)] at HR
    go_wp2_with fail
    go_quiet ((go_at_call 25; exact Calls.quiet_of_same (HD.out _)))
    by_cases hS : S = 0
    · subst hS
      rw [if_neg (by simp)] at HR
      go_wp2_with fail
      refine (HE.out _).mono ?_
      rintro e w6 ⟨rfl, rfl⟩
      go_wp2_with fail
      go_ret
      exact ⟨ret_int HR.out.symm, _, by rw [← HW.out, World.drewN_drewN]⟩
    · rw [if_pos hS] at HR
      have hS' : (S == 0) = false := by simpa using hS
      go_wp2_with fail
      go_ret
      exact ⟨ret_int HR.out.symm, _, by rw [← HW.out, World.drewN_drewN]⟩
  · rw [if_pos hD] at HR
    have hD' : (D == 0) = false := by simpa using hD
    go_wp2_with fail
    go_ret
    exact ⟨ret_int HR.out.symm, _, HW.out.symm⟩
end Go.Proofs.YtnbhpmleboildaaGreatDoor
