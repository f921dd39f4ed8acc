/- Year and isName of package bib; the reference's Year. Conditions: lengths. -/
import Derived.Test.YteflhlbgbgamnaaGreatDoorT08

set_option linter.all false
namespace Go.Proofs.YteflhlbgbgamnaaGreatDoor
open Go.RowKit

theorem dec_low (l : Bs) (i : Nat) (h : at8 l i < 128) : dec (bs l) i = (at8 l i, 1) := by unfold dec; rw [byteAt_bs, if_pos h]
theorem dec_hi (l : Bs) (i : Nat) (h : 128 ≤ at8 l i) : 128 ≤ (dec (bs l) i).1 := by
  have m0 : ∀ k a b, ¬ moreOf (bs l) k a b < 0 → 128 ≤ a → a - 128 ≤ moreOf (bs l) k a b ∧ moreOf (bs l) k a b ≤ b - 128 := by
    intro k a b q hl
    obtain ⟨_, h1, h2, h3⟩ := more_yes (s := bs l) (i := k) (l := a) (h := b) (by omega)
    omega
  have h : 128 ≤ byteAt (bs l) i := h
  unfold dec
  rw [if_neg (by omega)]
  split
  · split
    · have := m0 (i + 1) 128 191 (by omega) (by omega)
      simp only; omega
    · simp only; omega
  split
  · unfold three
    split
    · simp only; omega
    · rename_i q
      simp only [not_or] at q
      have d : 128 ≤ low3 (byteAt (bs l) i) ∧ (byteAt (bs l) i = 224 → low3 (byteAt (bs l) i) = 160) := by unfold low3; split <;> omega
      have a := m0 (i + 1) (low3 (byteAt (bs l) i)) (high3 (byteAt (bs l) i)) q.1 d.1
      have b := m0 (i + 2) 128 191 q.2 (by omega)
      simp only; omega
  split
  · unfold four
    split
    · simp only; omega
    · rename_i q
      simp only [not_or] at q
      have d : 128 ≤ low4 (byteAt (bs l) i) ∧ (byteAt (bs l) i = 240 → low4 (byteAt (bs l) i) = 144) := by unfold low4; split <;> omega
      have a := m0 (i + 1) (low4 (byteAt (bs l) i)) (high4 (byteAt (bs l) i)) q.1 d.1
      have b := m0 (i + 2) 128 191 q.2.1 (by omega)
      have b2 := m0 (i + 3) 128 191 q.2.2 (by omega)
      simp only; omega
  · simp only; omega

def digB (b : UInt8) : Bool := decide (48 ≤ b.toNat) && decide (b.toNat ≤ 57)
def numL (v : Bs) : Nat := v.foldl (fun n b => 10 * n + (b.toNat - 48)) 0
def yearL (v : Bs) : Int := if v.length ≤ 4 ∧ v.all digB = true then numL v else 0
theorem numL_snoc (v : Bs) (b : UInt8) : numL (v ++ [b]) = 10 * numL v + (b.toNat - 48) := by simp [numL]
theorem numL_lt (v : Bs) (h : v.all digB = true) : numL v < 10 ^ v.length := by
  refine snoc_ind (P := fun v => v.all digB = true → numL v < 10 ^ v.length) ?_ ?_ v h
  · intro _; simp [numL]
  · intro l b ih h
    rw [List.all_append, Bool.and_eq_true] at h
    have h1 := ih h.1
    have h2 : b.toNat ≤ 57 := by have := h.2; simp [digB] at this; omega
    rw [numL_snoc, List.length_append, List.length_cons, List.length_nil, Nat.pow_succ]
    omega
theorem dig_at (l : Bs) (i : Nat) (h : i < l.length) : digB l[i] = true ↔ 48 ≤ at8 l i ∧ at8 l i ≤ 57 := by
  rw [at8_get l i h]; simp [digB]; omega
theorem yearL_bad (v : Bs) (i : Nat) (h : i < v.length) (hb : ¬ (48 ≤ at8 v i ∧ at8 v i ≤ 57)) : yearL v = 0 := by
  unfold yearL
  rw [if_neg]
  rintro ⟨_, q⟩
  rw [List.all_eq_true] at q
  exact hb ((dig_at v i h).1 (q _ (List.getElem_mem h)))
theorem yearL_good (v : Bs) (h4 : v.length ≤ 4) (h : v.all digB = true) : yearL v = numL v := by unfold yearL; rw [if_pos ⟨h4, h⟩]
theorem num_bound (v : Bs) (h4 : v.length ≤ 4) (h : v.all digB = true) : numL v ≤ 9999 := by
  have h1 := numL_lt v h
  have h2 : 10 ^ v.length ≤ 10 ^ 4 := Nat.pow_le_pow_right (by omega) h4
  omega
theorem all_step (v : Bs) (k : Nat) (hk : k < v.length) (h : (v.take k).all digB = true) (hd : 48 ≤ at8 v k ∧ at8 v k ≤ 57) : (v.take (k + 1)).all digB = true ∧ (numL (v.take (k + 1)) : Int) = 10 * numL (v.take k) + (at8 v k - 48) := by
  rw [take_next v k hk, List.all_append, h]
  refine ⟨by simp [(dig_at v k hk).2 hd], ?_⟩
  rw [numL_snoc, at8_get v k hk]
  have : 48 ≤ v[k].toNat := by rw [at8_get v k hk] at hd; omega
  omega

/-- One step of a range over a text. -/
theorem iter_next (w wr : World) (g : Nat) (v : Bs) (pos n : Nat) (hit : wr.heap[g]? = some (.stringIter (bs v) pos)) (hk : Kept w wr) (hg : w.heap.size ≤ g) :
    (wr.iterAt g (bs v) (pos + n)).heap[g]? = some (.stringIter (bs v) (pos + n)) ∧ Kept w (wr.iterAt g (bs v) (pos + n)) ∧ (wr.iterAt g (bs v) (pos + n)).iterPos g = pos + n ∧ wr.iterPos g = pos := by
  have h1 := Lib.iterAt_heap wr g (bs v) pos (pos + n) hit
  exact ⟨h1, Lib.below_iterAt hk hg (bs v) _, by simp [World.iterPos, h1], by simp [World.iterPos, hit]⟩
theorem year_field (ps : List Pr) : fieldL ps [121, 101, 97, 114] = none → (fieldL ps [121, 101, 97, 114]).getD [] = [] := fun h => by rw [h]; rfl

set_option maxRecDepth 100000 in
set_option maxHeartbeats 3200000 in
theorem year_any (sk st : Bs) (vA vE vF : Value) (ps : List Pr) (w : World) (hv : Prs w vF ps) (hN : ps.length ≤ 1100000) (hl : ((fieldL ps [121, 101, 97, 114]).getD []).length ≤ 1100000) :
    Calls Tryz.prog 35 #[srcV sk st vA vE vF] w fun e w' => e = .returned (.int .i64 (yearL ((fieldL ps [121, 101, 97, 114]).getD []))) ∧ Kept w w' := by
  have HF := Lib.hid (fun w hv => field_any sk st vA vE vF ps [121, 101, 97, 114] w hv hN)
  unfold FieldPost at HF
  have HV := Lib.hid hv
  have HNO : Hid ((fieldL ps [121, 101, 97, 114]).isSome = false → (fieldL ps [121, 101, 97, 114]).getD [] = []) := by
    intro h
    cases q : fieldL ps [121, 101, 97, 114] with
    | none => rfl
    | some x => rw [q] at h; cases h
  clear hv
  generalize (fieldL ps [121, 101, 97, 114]).isSome = ok at *
  generalize (fieldL ps [121, 101, 97, 114]).getD [] = v at *
  cases ok
  · have HZ : Hid (yearL v = 0) := by show _ = _; rw [HNO.out rfl]; rfl
    go_enter Tryz.func35, Tryz.ntmps35
    go_wp2_with fail
    refine (HF.out _ (HV.out.kept (kept_alloc _ _))).mono ?_
    rintro e w1 ⟨rfl, hk1⟩
    have HK := Lib.hid ((kept_alloc _ _).trans hk1)
    clear hk1
    go_wp2_with fail
    go_ret
    exact ⟨ret_int HZ.out.symm, HK.out⟩
  by_cases hle : v.length ≤ 4
  · go_enter Tryz.func35, Tryz.ntmps35
    go_wp2_with fail
    refine (HF.out _ (HV.out.kept (kept_alloc _ _))).mono ?_
    rintro e w1 ⟨rfl, hk1⟩
    have HK := Lib.hid ((kept_alloc _ _).trans hk1)
    clear hk1
    go_wp2_with fail
    go_loopw [5] (fun n wr => ∃ pos : Nat, pos ≤ v.length ∧ n = .int .i64 (numL (v.take pos)) ∧ wr.heap[w1.heap.size]? = some (.stringIter (bs v) pos) ∧ Kept w1 wr ∧ Hid ((v.take pos).all digB = true)) (fun _ wr => v.length - wr.iterPos w1.heap.size)
    case atStart => exact ⟨0, Nat.zero_le _, rfl, by have := World.iter_heap w1 (bs v) 0; simpa using this, kept_alloc _ _, rfl⟩
    case round =>
      obtain ⟨pos, hp, rfl, hit, hk, HA⟩ := hrel
      by_cases hlt : pos < v.length
      · have nx := fun ty => run_next_k (P := Tryz.prog) wr w1.heap.size (bs v) pos ty hit hlt
        have h0 := at8_lo v pos
        have hnb : numL (v.take pos) ≤ 9999 := num_bound _ (by simp; omega) HA.out
        by_cases hd : 48 ≤ at8 v pos ∧ at8 v pos ≤ 57
        · rw [dec_low v pos (by omega)] at nx
          simp only [show ((1 : Int).toNat) = 1 from rfl] at nx
          obtain ⟨ha, hn⟩ := all_step v pos hlt HA.out hd
          have HA2 := Lib.hid ha
          have HN2 := Lib.hid hn
          obtain ⟨q1, q2, q3, q4⟩ := iter_next w1 wr w1.heap.size v pos 1 hit hk (Nat.le_refl _)
          have HQ1 := Lib.hid q1
          have HQ2 := Lib.hid q2
          have HQ3 := Lib.hid q3
          have HQ4 := Lib.hid q4
          generalize wr.iterAt w1.heap.size (bs v) (pos + 1) = wq at *
          generalize numL (v.take pos) = nk at *
          generalize at8 v pos = b at *
          obtain ⟨hd1, hd2⟩ := hd
          clear ha hn HA q1 q2 q3 q4 hit hk
          go_wp2_with fail
          go_roundw
          case rel => exact ⟨pos + 1, by omega, by first | (rw [HN2.out]; done) | (rw [HN2.out]; congr 1; omega), HQ1.out, HQ2.out, HA2.out⟩
          case measure => rw [HQ3.out, HQ4.out]; omega
        · have HZ := Lib.hid (yearL_bad v pos hlt hd)
          have hcc : (dec (bs v) pos).1 < 48 ∨ 57 < (dec (bs v) pos).1 := by
            by_cases q : at8 v pos < 128
            · rw [dec_low v pos q]; simp only; omega
            · have := dec_hi v pos (by omega); omega
          have hcr := dec_bounds (bs v) pos hlt
          obtain ⟨q1, q2, q3, q4⟩ := iter_next w1 wr w1.heap.size v pos (dec (bs v) pos).2.toNat hit hk (Nat.le_refl _)
          have HQ2 := Lib.hid (HK.out.trans q2)
          generalize wr.iterAt w1.heap.size (bs v) (pos + (dec (bs v) pos).2.toNat) = wq at *
          generalize (dec (bs v) pos).1 = c at *
          obtain ⟨b1, b2, _⟩ := hcr
          generalize numL (v.take pos) = nk at *
          clear hd HA q1 q2 q3 q4 hit hk
          rcases hcc with q | q
          all_goals
            go_wp2_with fail
            go_ret
            exact ⟨ret_int HZ.out.symm, HQ2.out⟩
      · have nx := fun ty => run_next_k_end (P := Tryz.prog) wr w1.heap.size (bs v) pos ty hit (by simpa using hlt)
        have HZ : Hid (yearL v = numL (v.take pos)) := by
          show _ = _
          have h := HA.out
          rw [List.take_of_length_le (by omega)] at h ⊢
          exact yearL_good v hle h
        have HR := Lib.hid (HK.out.trans hk)
        generalize numL (v.take pos) = nk at *
        clear hk HA hit
        go_wp2_with fail
        go_ret
        exact ⟨ret_int HZ.out.symm, HR.out⟩
  · have HZ : Hid (yearL v = 0) := by show _ = _; unfold yearL; rw [if_neg (fun q => hle q.1)]
    go_enter Tryz.func35, Tryz.ntmps35
    go_wp2_with fail
    refine (HF.out _ (HV.out.kept (kept_alloc _ _))).mono ?_
    rintro e w1 ⟨rfl, hk1⟩
    have HK := Lib.hid ((kept_alloc _ _).trans hk1)
    clear hk1
    go_wp2_with fail
    go_ret
    exact ⟨ret_int HZ.out.symm, HK.out⟩
end Go.Proofs.YteflhlbgbgamnaaGreatDoor

/- isName of package bib. No condition. -/
set_option linter.all false
namespace Go.Proofs.YteflhlbgbgamnaaGreatDoor
open Go.RowKit

def letB (b : UInt8) : Bool := decide (97 ≤ b.toNat ∧ b.toNat ≤ 122) || decide (65 ≤ b.toNat ∧ b.toNat ≤ 90)
def nmB (b : UInt8) : Bool := letB b || digB b || b == 45 || b == 95 || b == 46 || b == 58
/-- Is a text a name? -/
def nameB (l : Bs) : Bool := decide (l.length ≤ 60) && (match l with | [] => false | b :: _ => letB b) && l.all nmB
def lttI (c : Int) : Prop := 97 ≤ c ∧ c ≤ 122 ∨ 65 ≤ c ∧ c ≤ 90
def restI (c : Int) : Prop := 48 ≤ c ∧ c ≤ 57 ∨ c = 45 ∨ c = 95 ∨ c = 46 ∨ c = 58
def badI (c : Int) : Prop := c < 45 ∨ c = 47 ∨ 59 ≤ c ∧ c ≤ 64 ∨ 91 ≤ c ∧ c ≤ 94 ∨ c = 96 ∨ 122 < c
theorem cls (c : Int) : lttI c ∨ restI c ∨ badI c := by unfold lttI restI badI; omega
theorem let_at (l : Bs) (i : Nat) (h : i < l.length) : letB l[i] = true ↔ lttI (at8 l i) := by
  rw [at8_get l i h]; unfold lttI; simp [letB]; omega
theorem nm_at (l : Bs) (i : Nat) (h : i < l.length) : nmB l[i] = true ↔ lttI (at8 l i) ∨ restI (at8 l i) := by
  have e := let_at l i h
  have d := dig_at l i h
  have q : ∀ n : Nat, n < 256 → ((l[i] == UInt8.ofNat n) = true ↔ at8 l i = n) := by
    intro n hn
    constructor
    · intro q; rw [at8_get l i h]; exact (u8_int _ n hn).2 (by simpa using q)
    · intro q; rw [at8_get l i h] at q; simpa using (u8_int _ n hn).1 q
  have q1 := q 45 (by omega)
  have q2 := q 95 (by omega)
  have q3 := q 46 (by omega)
  have q4 := q 58 (by omega)
  unfold nmB
  simp only [Bool.or_eq_true, e, d]
  unfold restI
  constructor
  · rintro (((((h | h) | h) | h) | h) | h)
    · exact .inl h
    · exact .inr (.inl h)
    · exact .inr (.inr (.inl (by simpa using q1.1 h)))
    · exact .inr (.inr (.inr (.inl (by simpa using q2.1 h))))
    · exact .inr (.inr (.inr (.inr (.inl (by simpa using q3.1 h)))))
    · exact .inr (.inr (.inr (.inr (.inr (by simpa using q4.1 h)))))
  · rintro (h | h | h | h | h | h)
    · exact .inl (.inl (.inl (.inl (.inl h))))
    · exact .inl (.inl (.inl (.inl (.inr h))))
    · exact .inl (.inl (.inl (.inr (q1.2 (by simpa using h)))))
    · exact .inl (.inl (.inr (q2.2 (by simpa using h))))
    · exact .inl (.inr (q3.2 (by simpa using h)))
    · exact .inr (q4.2 (by simpa using h))
/-- What a beginning of a name is. -/
def NameSt (l : Bs) (k : Nat) : Prop := (l.take k).all nmB = true ∧ (0 < k → ∀ h : 0 < l.length, letB l[0] = true)
theorem NameSt.start (l : Bs) : NameSt l 0 := ⟨rfl, fun h => by omega⟩
theorem NameSt.letter {l : Bs} {k : Nat} (h : NameSt l k) (hk : k < l.length) (hc : lttI (at8 l k)) : NameSt l (k + 1) := by
  refine ⟨?_, fun _ h0 => ?_⟩
  · rw [take_next l k hk, List.all_append, h.1]
    simp [(nm_at l k hk).2 (.inl hc)]
  · by_cases q : k = 0
    · subst q; exact (let_at l 0 hk).2 hc
    · exact h.2 (by omega) h0
theorem NameSt.other {l : Bs} {k : Nat} (h : NameSt l k) (hk : k < l.length) (h0 : 0 < k) (hc : restI (at8 l k)) : NameSt l (k + 1) := by
  refine ⟨?_, fun _ h1 => h.2 h0 h1⟩
  rw [take_next l k hk, List.all_append, h.1]
  simp [(nm_at l k hk).2 (.inr hc)]
theorem nameB_cons (l : Bs) (h : 0 < l.length) : nameB l = (decide (l.length ≤ 60) && letB l[0] && l.all nmB) := by
  cases l with
  | nil => simp at h
  | cons b r => rfl
theorem NameSt.bad {l : Bs} {k : Nat} (hk : k < l.length) (hc : ¬ (lttI (at8 l k) ∨ restI (at8 l k))) : nameB l = false := by
  rw [nameB_cons l (by omega)]
  have : l.all nmB = false := by
    rw [List.all_eq_false]
    exact ⟨l[k], List.getElem_mem hk, fun q => hc ((nm_at l k hk).1 q)⟩
  rw [this]; simp
theorem NameSt.first {l : Bs} (hk : 0 < l.length) (hc : ¬ lttI (at8 l 0)) : nameB l = false := by
  rw [nameB_cons l hk]
  have : letB l[0] = false := by
    cases q : letB l[0]
    · rfl
    · exact absurd ((let_at l 0 hk).1 q) hc
  rw [this]; simp
theorem NameSt.done {l : Bs} (h : NameSt l l.length) (h60 : l.length ≤ 60) : nameB l = !l.isEmpty := by
  cases l with
  | nil => rfl
  | cons b r =>
    rw [nameB_cons _ (by simp)]
    have h1 := h.1
    rw [List.take_of_length_le (Nat.le_refl _)] at h1
    rw [h1, h.2 (by simp) (by simp)]
    simp at h60
    simp; omega
theorem dec_cls (l : Bs) (i : Nat) (hi : i < l.length) (h : lttI (at8 l i) ∨ restI (at8 l i)) : dec (bs l) i = (at8 l i, 1) := dec_low l i (by unfold lttI restI at h; omega)
theorem dec_bad (l : Bs) (i : Nat) (h : ¬ (lttI (at8 l i) ∨ restI (at8 l i))) : badI (dec (bs l) i).1 := by
  by_cases q : at8 l i < 128
  · rw [dec_low l i q]
    rcases cls (at8 l i) with h1 | h1 | h1
    · exact absurd (.inl h1) h
    · exact absurd (.inr h1) h
    · exact h1
  · have := dec_hi l i (by omega)
    unfold badI; omega

set_option maxRecDepth 100000 in
set_option maxHeartbeats 6400000 in
theorem isName_any (l : Bs) (w : World) (hl : l.length ≤ 1100000) : Calls Tryz.prog 82 #[.string (bs l)] w fun e w' => e = .returned (.bool (nameB l)) ∧ Kept w w' := by
  by_cases h60 : l.length ≤ 60
  · go_enter Tryz.func82, Tryz.ntmps82
    go_wp2_with fail
    go_loopw [2] (fun r wr => ∃ pos : Nat, pos ≤ l.length ∧ r = .bool false ∧ wr.heap[w.heap.size]? = some (.stringIter (bs l) pos) ∧ Kept w wr ∧ Hid (NameSt l pos)) (fun _ wr => l.length - wr.iterPos w.heap.size)
    case atStart => exact ⟨0, Nat.zero_le _, rfl, by have := World.iter_heap w (bs l) 0; simpa using this, kept_alloc _ _, NameSt.start l⟩
    case round =>
      obtain ⟨pos, hp, rfl, hit, hk, HA⟩ := hrel
      by_cases hlt : pos < l.length
      · have nx := fun ty => run_next_k (P := Tryz.prog) wr w.heap.size (bs l) pos ty hit hlt
        by_cases hc : lttI (at8 l pos) ∨ restI (at8 l pos)
        · rw [dec_cls l pos hlt hc] at nx
          simp only [show ((1 : Int).toNat) = 1 from rfl] at nx
          obtain ⟨q1, q2, q3, q4⟩ := iter_next w wr w.heap.size l pos 1 hit hk (Nat.le_refl _)
          have HQ1 := Lib.hid q1
          have HQ2 := Lib.hid q2
          have HQ3 := Lib.hid q3
          have HQ4 := Lib.hid q4
          generalize wr.iterAt w.heap.size (bs l) (pos + 1) = wq at *
          clear q1 q2 q3 q4 hit hk
          by_cases hcl : lttI (at8 l pos)
          · have HN := Lib.hid (HA.out.letter hlt hcl)
            generalize at8 l pos = c at *
            clear HA hc
            unfold lttI at hcl
            rcases hcl with ⟨g1, g2⟩ | ⟨g1, g2⟩
            all_goals
              go_wp2_with fail
              go_roundw
              case rel => exact ⟨pos + 1, by omega, rfl, HQ1.out, HQ2.out, HN.out⟩
              case measure => rw [HQ3.out, HQ4.out]; omega
          · have hcr : restI (at8 l pos) := by rcases hc with h | h; exact absurd h hcl; exact h
            by_cases hz : pos = 0
            · subst hz
              have HZ := Lib.hid (NameSt.first hlt hcl)
              generalize at8 l 0 = c at *
              clear HA hc hcl
              unfold restI at hcr
              rcases hcr with ⟨g1, g2⟩ | rfl | rfl | rfl | rfl
              all_goals
                go_wp2_with fail
                go_ret
                exact ⟨ret_bool HZ.out.symm, HQ2.out⟩
            · have hz' : ((pos : Int) == 0) = false := by rw [beq_eq_false_iff_ne]; omega
              have HN := Lib.hid (HA.out.other hlt (by omega) hcr)
              generalize at8 l pos = c at *
              clear HA hc hcl
              unfold restI at hcr
              rcases hcr with ⟨g1, g2⟩ | rfl | rfl | rfl | rfl
              all_goals
                go_wp2_with fail
                go_roundw
                case rel => exact ⟨pos + 1, by omega, rfl, HQ1.out, HQ2.out, HN.out⟩
                case measure => rw [HQ3.out, HQ4.out]; omega
        · have HZ := Lib.hid (NameSt.bad hlt hc)
          have hbad := dec_bad l pos hc
          obtain ⟨q1, q2, q3, q4⟩ := iter_next w wr w.heap.size l pos (dec (bs l) pos).2.toNat hit hk (Nat.le_refl _)
          have HQ2 := Lib.hid q2
          generalize wr.iterAt w.heap.size (bs l) (pos + (dec (bs l) pos).2.toNat) = wq at *
          generalize (dec (bs l) pos).1 = c at *
          clear hc HA q1 q2 q3 q4 hit hk
          unfold badI at hbad
          have hz : ((pos : Int) == 0) = true ∨ ((pos : Int) == 0) = false := by cases ((pos : Int) == 0) <;> simp
          rcases hz with hz | hz <;> rcases hbad with g | rfl | ⟨g1, g2⟩ | ⟨g1, g2⟩ | rfl | g
          all_goals
            go_wp2_with fail
            go_ret
            exact ⟨ret_bool HZ.out.symm, HQ2.out⟩
      · have nx := fun ty => run_next_k_end (P := Tryz.prog) wr w.heap.size (bs l) pos ty hit (by simpa using hlt)
        obtain rfl : pos = l.length := by omega
        have HZ := Lib.hid (HA.out.done h60)
        have HR := Lib.hid hk
        clear hk HA hit
        by_cases he : l = []
        · subst he
          go_wp2_with fail
          go_ret
          exact ⟨ret_bool (by rw [HZ.out]; rfl), HR.out⟩
        · have hee : l.isEmpty = false := by simpa using he
          go_wp2_with fail
          go_ret
          exact ⟨ret_bool (by rw [HZ.out, hee]; first | rfl | simp [hee]), HR.out⟩
  · have HZ : Hid (nameB l = false) := by show _ = _; unfold nameB; rw [decide_eq_false h60]; rfl
    go_enter Tryz.func82, Tryz.ntmps82
    go_wp2_with fail
    go_ret
    exact ⟨ret_bool HZ.out.symm, Kept.refl _⟩
end Go.Proofs.YteflhlbgbgamnaaGreatDoor
