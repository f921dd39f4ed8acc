/- isName of package bib. No condition. -/
import Derived.Test.YtflpkadknljpbaaDoorT14
import Derived.Test.YtflpkadknljpbaaDoorT11

set_option linter.all false
namespace Go.Proofs.YtflpkadknljpbaaDoor
open Go.RowKit

def letB (b : UInt8) : Bool := decide (97 ≤ b.toNat ∧ b.toNat ≤ 122) || decide (65 ≤ b.toNat ∧ b.toNat ≤ 90)
def nmB (b : UInt8) : Bool := letB b || digB b || b == 45 || b == 95 || b == 46 || b == 58
/-- Is a text a name? -/
def nameB (l : Bs) : Bool := decide (l.length ≤ 60) && (match l with | [] => false | b :: _ => letB b) && l.all nmB
def lttI (c : Int) : Prop := 97 ≤ c ∧ c ≤ 122 ∨ 65 ≤ c ∧ c ≤ 90
def restI (c : Int) : Prop := 48 ≤ c ∧ c ≤ 57 ∨ c = 45 ∨ c = 95 ∨ c = 46 ∨ c = 58
def badI (c : Int) : Prop := c < 45 ∨ c = 47 ∨ 59 ≤ c ∧ c ≤ 64 ∨ 91 ≤ c ∧ c ≤ 94 ∨ c = 96 ∨ 122 < c
theorem cls (c : Int) : lttI c ∨ restI c ∨ badI c := by unfold lttI restI badI; omega
theorem let_at (l : Bs) (i : Nat) (h : i < l.length) : letB l[i] = true ↔ lttI (at8 l i) := by
  rw [at8_get l i h]; unfold lttI; simp [letB]; omega
theorem nm_at (l : Bs) (i : Nat) (h : i < l.length) : nmB l[i] = true ↔ lttI (at8 l i) ∨ restI (at8 l i) := by
  have e := let_at l i h
  have d := dig_at l i h
  have q : ∀ n : Nat, n < 256 → ((l[i] == UInt8.ofNat n) = true ↔ at8 l i = n) := by
    intro n hn
    constructor
    · intro q; rw [at8_get l i h]; exact (u8_int _ n hn).2 (by simpa using q)
    · intro q; rw [at8_get l i h] at q; simpa using (u8_int _ n hn).1 q
  have q1 := q 45 (by omega)
  have q2 := q 95 (by omega)
  have q3 := q 46 (by omega)
  have q4 := q 58 (by omega)
  unfold nmB
  simp only [Bool.or_eq_true, e, d]
  unfold restI
  constructor
  · rintro (((((h | h) | h) | h) | h) | h)
    · exact .inl h
    · exact .inr (.inl h)
    · exact .inr (.inr (.inl (by simpa using q1.1 h)))
    · exact .inr (.inr (.inr (.inl (by simpa using q2.1 h))))
    · exact .inr (.inr (.inr (.inr (.inl (by simpa using q3.1 h)))))
    · exact .inr (.inr (.inr (.inr (.inr (by simpa using q4.1 h)))))
  · rintro (h | h | h | h | h | h)
    · exact .inl (.inl (.inl (.inl (.inl h))))
    · exact .inl (.inl (.inl (.inl (.inr h))))
    · exact .inl (.inl (.inl (.inr (q1.2 (by simpa using h)))))
    · exact .inl (.inl (.inr (q2.2 (by simpa using h))))
    · exact .inl (.inr (q3.2 (by simpa using h)))
    · exact .inr (q4.2 (by simpa using h))
/-- What a beginning of a name is. -/
def NameSt (l : Bs) (k : Nat) : Prop := (l.take k).all nmB = true ∧ (0 < k → ∀ h : 0 < l.length, letB l[0] = true)
theorem NameSt.start (l : Bs) : NameSt l 0 := ⟨rfl, fun h => by omega⟩
theorem NameSt.letter {l : Bs} {k : Nat} (h : NameSt l k) (hk : k < l.length) (hc : lttI (at8 l k)) : NameSt l (k + 1) := by
  refine ⟨?_, fun _ h0 => ?_⟩
  · rw [take_next l k hk, List.all_append, h.1]
    simp [(nm_at l k hk).2 (.inl hc)]
  · by_cases q : k = 0
    · subst q; exact (let_at l 0 hk).2 hc
    · exact h.2 (by omega) h0
theorem NameSt.other {l : Bs} {k : Nat} (h : NameSt l k) (hk : k < l.length) (h0 : 0 < k) (hc : restI (at8 l k)) : NameSt l (k + 1) := by
  refine ⟨?_, fun _ h1 => h.2 h0 h1⟩
  rw [take_next l k hk, List.all_append, h.1]
  simp [(nm_at l k hk).2 (.inr hc)]
theorem nameB_cons (l : Bs) (h : 0 < l.length) : nameB l = (decide (l.length ≤ 60) && letB l[0] && l.all nmB) := by
  cases l with
  | nil => simp at h
  | cons b r => rfl
theorem NameSt.bad {l : Bs} {k : Nat} (hk : k < l.length) (hc : ¬ (lttI (at8 l k) ∨ restI (at8 l k))) : nameB l = false := by
  rw [nameB_cons l (by omega)]
  have : l.all nmB = false := by
    rw [List.all_eq_false]
    exact ⟨l[k], List.getElem_mem hk, fun q => hc ((nm_at l k hk).1 q)⟩
  rw [this]; simp
theorem NameSt.first {l : Bs} (hk : 0 < l.length) (hc : ¬ lttI (at8 l 0)) : nameB l = false := by
  rw [nameB_cons l hk]
  have : letB l[0] = false := by
    cases q : letB l[0]
    · rfl
    · exact absurd ((let_at l 0 hk).1 q) hc
  rw [this]; simp
theorem NameSt.done {l : Bs} (h : NameSt l l.length) (h60 : l.length ≤ 60) : nameB l = !l.isEmpty := by
  cases l with
  | nil => rfl
  | cons b r =>
    rw [nameB_cons _ (by simp)]
    have h1 := h.1
    rw [List.take_of_length_le (Nat.le_refl _)] at h1
    rw [h1, h.2 (by simp) (by simp)]
    simp at h60
    simp; omega
theorem dec_cls (l : Bs) (i : Nat) (hi : i < l.length) (h : lttI (at8 l i) ∨ restI (at8 l i)) : dec (bs l) i = (at8 l i, 1) := dec_low l i (by unfold lttI restI at h; omega)
theorem dec_bad (l : Bs) (i : Nat) (h : ¬ (lttI (at8 l i) ∨ restI (at8 l i))) : badI (dec (bs l) i).1 := by
  by_cases q : at8 l i < 128
  · rw [dec_low l i q]
    rcases cls (at8 l i) with h1 | h1 | h1
    · exact absurd (.inl h1) h
    · exact absurd (.inr h1) h
    · exact h1
  · have := dec_hi l i (by omega)
    unfold badI; omega

set_option maxRecDepth 100000 in
set_option maxHeartbeats 6400000 in
theorem isName_any (l : Bs) (w : World) (hl : l.length ≤ 1000000) : Calls Tryd.prog 76 #[.string (bs l)] w fun e w' => e = .returned (.bool (nameB l)) ∧ Kept w w' := by
  by_cases h60 : l.length ≤ 60
  · go_enter Tryd.func76, Tryd.ntmps76
    go_wp2_with fail
    go_loopw [2] (fun r wr => ∃ pos : Nat, pos ≤ l.length ∧ r = .bool false ∧ wr.heap[w.heap.size]? = some (.stringIter (bs l) pos) ∧ Kept w wr ∧ Hid (NameSt l pos)) (fun _ wr => l.length - wr.iterPos w.heap.size)
    case atStart => exact ⟨0, Nat.zero_le _, rfl, by have := World.iter_heap w (bs l) 0; simpa using this, kept_alloc _ _, NameSt.start l⟩
    case round =>
      obtain ⟨pos, hp, rfl, hit, hk, HA⟩ := hrel
      by_cases hlt : pos < l.length
      · have nx := fun ty => run_next_k (P := Tryd.prog) wr w.heap.size (bs l) pos ty hit hlt
        by_cases hc : lttI (at8 l pos) ∨ restI (at8 l pos)
        · rw [dec_cls l pos hlt hc] at nx
          simp only [show ((1 : Int).toNat) = 1 from rfl] at nx
          obtain ⟨q1, q2, q3, q4⟩ := iter_next w wr w.heap.size l pos 1 hit hk (Nat.le_refl _)
          have HQ1 := Lib.hid q1
          have HQ2 := Lib.hid q2
          have HQ3 := Lib.hid q3
          have HQ4 := Lib.hid q4
          generalize wr.iterAt w.heap.size (bs l) (pos + 1) = wq at *
          clear q1 q2 q3 q4 hit hk
          by_cases hcl : lttI (at8 l pos)
          · have HN := Lib.hid (HA.out.letter hlt hcl)
            generalize at8 l pos = c at *
            clear HA hc
            unfold lttI at hcl
            rcases hcl with ⟨g1, g2⟩ | ⟨g1, g2⟩
            all_goals
              go_wp2_with fail
              go_roundw
              case rel => exact ⟨pos + 1, by omega, rfl, HQ1.out, HQ2.out, HN.out⟩
              case measure => rw [HQ3.out, HQ4.out]; omega
          · have hcr : restI (at8 l pos) := by rcases hc with h | h; exact absurd h hcl; exact h
            by_cases hz : pos = 0
            · subst hz
              have HZ := Lib.hid (NameSt.first hlt hcl)
              generalize at8 l 0 = c at *
              clear HA hc hcl
              unfold restI at hcr
              rcases hcr with ⟨g1, g2⟩ | rfl | rfl | rfl | rfl
              all_goals
                go_wp2_with fail
                go_ret
                exact ⟨ret_bool HZ.out.symm, HQ2.out⟩
            · have hz' : ((pos : Int) == 0) = false := by rw [beq_eq_false_iff_ne]; omega
              have HN := Lib.hid (HA.out.other hlt (by omega) hcr)
              generalize at8 l pos = c at *
              clear HA hc hcl
              unfold restI at hcr
              rcases hcr with ⟨g1, g2⟩ | rfl | rfl | rfl | rfl
              all_goals
                go_wp2_with fail
                go_roundw
                case rel => exact ⟨pos + 1, by omega, rfl, HQ1.out, HQ2.out, HN.out⟩
                case measure => rw [HQ3.out, HQ4.out]; omega
        · have HZ := Lib.hid (NameSt.bad hlt hc)
          have hbad := dec_bad l pos hc
          obtain ⟨q1, q2, q3, q4⟩ := iter_next w wr w.heap.size l pos (dec (bs l) pos).2.toNat hit hk (Nat.le_refl _)
          have HQ2 := Lib.hid q2
          generalize wr.iterAt w.heap.size (bs l) (pos + (dec (bs l) pos).2.toNat) = wq at *
          generalize (dec (bs l) pos).1 = c at *
          clear hc HA q1 q2 q3 q4 hit hk
          unfold badI at hbad
          have hz : ((pos : Int) == 0) = true ∨ ((pos : Int) == 0) = false := by cases ((pos : Int) == 0) <;> simp
          rcases hz with hz | hz <;> rcases hbad with g | rfl | ⟨g1, g2⟩ | ⟨g1, g2⟩ | rfl | g
          all_goals
            go_wp2_with fail
            go_ret
            exact ⟨ret_bool HZ.out.symm, HQ2.out⟩
      · have nx := fun ty => run_next_k_end (P := Tryd.prog) wr w.heap.size (bs l) pos ty hit (by simpa using hlt)
        obtain rfl : pos = l.length := by omega
        have HZ := Lib.hid (HA.out.done h60)
        have HR := Lib.hid hk
        clear hk HA hit
        by_cases he : l = []
        · subst he
          go_wp2_with fail
          go_ret
          exact ⟨ret_bool (by rw [HZ.out]; rfl), HR.out⟩
        · have hee : l.isEmpty = false := by simpa using he
          go_wp2_with fail
          go_ret
          exact ⟨ret_bool (by rw [HZ.out, hee]; first | rfl | simp [hee]), HR.out⟩
  · have HZ : Hid (nameB l = false) := by show _ = _; unfold nameB; rw [decide_eq_false h60]; rfl
    go_enter Tryd.func76, Tryd.ntmps76
    go_wp2_with fail
    go_ret
    exact ⟨ret_bool HZ.out.symm, Kept.refl _⟩
end Go.Proofs.YtflpkadknljpbaaDoor

/- person.Parse: the walks. Conditions: lengths. -/
set_option linter.all false
namespace Go.Proofs.YtflpkadknljpbaaDoor
open Go.RowKit

set_option maxRecDepth 100000 in
set_option maxHeartbeats 3200000 in
theorem parse_open (l : Bs) (w : World) (hg : Gnd w) (hs : l.length ≤ 1000000) (hl : lineB l = true) (r p t : Bs) (HC : Hid (cleanL l = 123 :: r)) (hr : r.length ≤ 1000001) (hbr : ¬ before 125 r < r.length) :
    Calls Tryd.prog 13 #[.string (bs l)] w fun e w' => e = .returned (.tuple #[persV [] [] [] [], .int .i64 5]) ∧ Kept w w' := by
  have hcl := cleanL_le l
  go_enter Tryd.func13, Tryd.ntmps13
  go_wp2_with fail
  refine (line_any l _ (by omega)).mono ?_
  rintro e w1 ⟨rfl, n, rfl⟩
  rw [hl]
  go_wp2_with fail
  refine (clean_any l _ (hg.kept (((kept_alloc w _).trans (kept_alloc _ _)).trans (kept_drewN _ n))) (by omega)).mono ?_
  rintro e w2 ⟨rfl, hk2⟩
  have HP0 := Lib.hid ((Blk.new (w.alloc (.cells #[Value.string (bs []), Value.string (bs []), Value.string (bs []), Value.string (bs [])] 24)) 24 #[Value.string (bs []), Value.string (bs []), Value.string (bs []), Value.string (bs [])]).drewN n)
  have bP : Blk w2 (w.heap.size + 1) 24 #[Value.string (bs []), Value.string (bs []), Value.string (bs []), Value.string (bs [])] := by have := HP0.out.kept hk2; simpa using this
  have bR : Blk w2 w.heap.size 24 #[Value.string (bs []), Value.string (bs []), Value.string (bs []), Value.string (bs [])] := (((Blk.new w 24 #[Value.string (bs []), Value.string (bs []), Value.string (bs []), Value.string (bs [])]).alloc _).drewN n).kept hk2
  have kk : Kept w w2 := (((kept_alloc w _).trans (kept_alloc _ _)).trans (kept_drewN _ n)).trans hk2
  clear HP0
  have HP := Lib.hid bP
  have HR := Lib.hid bR
  have HK := Lib.hid kk
  have HG := Lib.hid (hg.kept kk)
  clear bP bR kk hk2
  rw [HC.out]
  go_wp2_with fail
  refine (cutp_yes r 123 _).mono ?_
  rintro e w' ⟨rfl, rfl⟩
  go_wp2_with fail
  refine (cut_any r 125 _ HG.out (by omega)).mono ?_
  rintro e w3 ⟨rfl, m, rfl⟩
  rw [if_neg (by omega)]
  have cP0 : w2.cell? ⟨w.heap.size + 1, 0, none⟩ = some (Value.string (bs [])) := HP.out.cell 0 _ rfl
  have cR0 : w2.cell? ⟨w.heap.size, 0, none⟩ = some (Value.string (bs [])) := HR.out.cell 0 _ rfl
  have fP0 := HP.out.free 0
  have fR0 := HR.out.free 0
  have cP1 : w2.cell? ⟨w.heap.size + 1, 1, none⟩ = some (Value.string (bs [])) := HP.out.cell 1 _ rfl
  have cR1 : w2.cell? ⟨w.heap.size, 1, none⟩ = some (Value.string (bs [])) := HR.out.cell 1 _ rfl
  have fP1 := HP.out.free 1
  have fR1 := HR.out.free 1
  have cP2 : w2.cell? ⟨w.heap.size + 1, 2, none⟩ = some (Value.string (bs [])) := HP.out.cell 2 _ rfl
  have cR2 : w2.cell? ⟨w.heap.size, 2, none⟩ = some (Value.string (bs [])) := HR.out.cell 2 _ rfl
  have fP2 := HP.out.free 2
  have fR2 := HR.out.free 2
  have cP3 : w2.cell? ⟨w.heap.size + 1, 3, none⟩ = some (Value.string (bs [])) := HP.out.cell 3 _ rfl
  have cR3 : w2.cell? ⟨w.heap.size, 3, none⟩ = some (Value.string (bs [])) := HR.out.cell 3 _ rfl
  have fP3 := HP.out.free 3
  have fR3 := HR.out.free 3
  have hzP := HP.out.lt
  have hzR := HR.out.lt
  go_wp2_with fail
  refine bodyPost_ret (v := .tuple #[persV [] [] [] [], .int .i64 5]) (by simp [results, Tryd.results13, go_sem, *]) rfl ⟨rfl, ?_⟩
  repeat (first | exact HK.out | refine kept_set ?_ _ _ _ (by omega) | exact (HK.out).trans (kept_drewN _ _))

set_option maxRecDepth 100000 in
set_option maxHeartbeats 3200000 in
theorem parse_count_n (l : Bs) (w : World) (hg : Gnd w) (hs : l.length ≤ 1000000) (hl : lineB l = true) (t : Bs) (HC : Hid (cleanL l = t)) (HNB : Hid (∀ r, t ≠ 123 :: r)) (ht : t.length ≤ 1000001) (hcnt : 2 < t.count 44) :
    Calls Tryd.prog 13 #[.string (bs l)] w fun e w' => e = .returned (.tuple #[persV [] [] [] [], .int .i64 5]) ∧ Kept w w' := by
  have hcl := cleanL_le l
  go_enter Tryd.func13, Tryd.ntmps13
  go_wp2_with fail
  refine (line_any l _ (by omega)).mono ?_
  rintro e w1 ⟨rfl, n, rfl⟩
  rw [hl]
  go_wp2_with fail
  refine (clean_any l _ (hg.kept (((kept_alloc w _).trans (kept_alloc _ _)).trans (kept_drewN _ n))) (by omega)).mono ?_
  rintro e w2 ⟨rfl, hk2⟩
  have HP0 := Lib.hid ((Blk.new (w.alloc (.cells #[Value.string (bs []), Value.string (bs []), Value.string (bs []), Value.string (bs [])] 24)) 24 #[Value.string (bs []), Value.string (bs []), Value.string (bs []), Value.string (bs [])]).drewN n)
  have bP : Blk w2 (w.heap.size + 1) 24 #[Value.string (bs []), Value.string (bs []), Value.string (bs []), Value.string (bs [])] := by have := HP0.out.kept hk2; simpa using this
  have bR : Blk w2 w.heap.size 24 #[Value.string (bs []), Value.string (bs []), Value.string (bs []), Value.string (bs [])] := (((Blk.new w 24 #[Value.string (bs []), Value.string (bs []), Value.string (bs []), Value.string (bs [])]).alloc _).drewN n).kept hk2
  have kk : Kept w w2 := (((kept_alloc w _).trans (kept_alloc _ _)).trans (kept_drewN _ n)).trans hk2
  clear HP0
  have HP := Lib.hid bP
  have HR := Lib.hid bR
  have HK := Lib.hid kk
  have HG := Lib.hid (hg.kept kk)
  clear bP bR kk hk2
  rw [HC.out]
  go_wp2_with fail
  refine (cutp_no t 123 _ HNB.out).mono ?_
  rintro e w' ⟨rfl, rfl⟩
  have cP0 : w2.cell? ⟨w.heap.size + 1, 0, none⟩ = some (Value.string (bs [])) := HP.out.cell 0 _ rfl
  have cR0 : w2.cell? ⟨w.heap.size, 0, none⟩ = some (Value.string (bs [])) := HR.out.cell 0 _ rfl
  have fP0 := HP.out.free 0
  have fR0 := HR.out.free 0
  have cP1 : w2.cell? ⟨w.heap.size + 1, 1, none⟩ = some (Value.string (bs [])) := HP.out.cell 1 _ rfl
  have cR1 : w2.cell? ⟨w.heap.size, 1, none⟩ = some (Value.string (bs [])) := HR.out.cell 1 _ rfl
  have fP1 := HP.out.free 1
  have fR1 := HR.out.free 1
  have cP2 : w2.cell? ⟨w.heap.size + 1, 2, none⟩ = some (Value.string (bs [])) := HP.out.cell 2 _ rfl
  have cR2 : w2.cell? ⟨w.heap.size, 2, none⟩ = some (Value.string (bs [])) := HR.out.cell 2 _ rfl
  have fP2 := HP.out.free 2
  have fR2 := HR.out.free 2
  have cP3 : w2.cell? ⟨w.heap.size + 1, 3, none⟩ = some (Value.string (bs [])) := HP.out.cell 3 _ rfl
  have cR3 : w2.cell? ⟨w.heap.size, 3, none⟩ = some (Value.string (bs [])) := HR.out.cell 3 _ rfl
  have fP3 := HP.out.free 3
  have fR3 := HR.out.free 3
  have hzP := HP.out.lt
  have hzR := HR.out.lt
  go_wp2_with fail
  refine (count_any t 44 _).mono ?_
  rintro e w' ⟨rfl, rfl⟩
  go_wp2_with fail
  refine bodyPost_ret (v := .tuple #[persV [] [] [] [], .int .i64 5]) (by simp [results, Tryd.results13, go_sem, *]) rfl ⟨rfl, ?_⟩
  repeat (first | exact HK.out | refine kept_set ?_ _ _ _ (by omega) | exact (HK.out).trans (kept_drewN _ _))

set_option maxRecDepth 100000 in
set_option maxHeartbeats 3200000 in
theorem parse_any2_n (l : Bs) (w : World) (hg : Gnd w) (hs : l.length ≤ 1000000) (hl : lineB l = true) (t : Bs) (HC : Hid (cleanL l = t)) (HNB : Hid (∀ r, t ≠ 123 :: r)) (ht : t.length ≤ 1000001) (hcnt : t.count 44 ≤ 2) (HA1 : Hid (([] : Bs).any (inSet setC) = false)) (HA2 : Hid (t.any (inSet setN) = true)) :
    Calls Tryd.prog 13 #[.string (bs l)] w fun e w' => e = .returned (.tuple #[persV [] [] [] [], .int .i64 5]) ∧ Kept w w' := by
  have hcl := cleanL_le l
  go_enter Tryd.func13, Tryd.ntmps13
  go_wp2_with fail
  refine (line_any l _ (by omega)).mono ?_
  rintro e w1 ⟨rfl, n, rfl⟩
  rw [hl]
  go_wp2_with fail
  refine (clean_any l _ (hg.kept (((kept_alloc w _).trans (kept_alloc _ _)).trans (kept_drewN _ n))) (by omega)).mono ?_
  rintro e w2 ⟨rfl, hk2⟩
  have HP0 := Lib.hid ((Blk.new (w.alloc (.cells #[Value.string (bs []), Value.string (bs []), Value.string (bs []), Value.string (bs [])] 24)) 24 #[Value.string (bs []), Value.string (bs []), Value.string (bs []), Value.string (bs [])]).drewN n)
  have bP : Blk w2 (w.heap.size + 1) 24 #[Value.string (bs []), Value.string (bs []), Value.string (bs []), Value.string (bs [])] := by have := HP0.out.kept hk2; simpa using this
  have bR : Blk w2 w.heap.size 24 #[Value.string (bs []), Value.string (bs []), Value.string (bs []), Value.string (bs [])] := (((Blk.new w 24 #[Value.string (bs []), Value.string (bs []), Value.string (bs []), Value.string (bs [])]).alloc _).drewN n).kept hk2
  have kk : Kept w w2 := (((kept_alloc w _).trans (kept_alloc _ _)).trans (kept_drewN _ n)).trans hk2
  clear HP0
  have HP := Lib.hid bP
  have HR := Lib.hid bR
  have HK := Lib.hid kk
  have HG := Lib.hid (hg.kept kk)
  clear bP bR kk hk2
  rw [HC.out]
  go_wp2_with fail
  refine (cutp_no t 123 _ HNB.out).mono ?_
  rintro e w' ⟨rfl, rfl⟩
  have cP0 : w2.cell? ⟨w.heap.size + 1, 0, none⟩ = some (Value.string (bs [])) := HP.out.cell 0 _ rfl
  have cR0 : w2.cell? ⟨w.heap.size, 0, none⟩ = some (Value.string (bs [])) := HR.out.cell 0 _ rfl
  have fP0 := HP.out.free 0
  have fR0 := HR.out.free 0
  have cP1 : w2.cell? ⟨w.heap.size + 1, 1, none⟩ = some (Value.string (bs [])) := HP.out.cell 1 _ rfl
  have cR1 : w2.cell? ⟨w.heap.size, 1, none⟩ = some (Value.string (bs [])) := HR.out.cell 1 _ rfl
  have fP1 := HP.out.free 1
  have fR1 := HR.out.free 1
  have cP2 : w2.cell? ⟨w.heap.size + 1, 2, none⟩ = some (Value.string (bs [])) := HP.out.cell 2 _ rfl
  have cR2 : w2.cell? ⟨w.heap.size, 2, none⟩ = some (Value.string (bs [])) := HR.out.cell 2 _ rfl
  have fP2 := HP.out.free 2
  have fR2 := HR.out.free 2
  have cP3 : w2.cell? ⟨w.heap.size + 1, 3, none⟩ = some (Value.string (bs [])) := HP.out.cell 3 _ rfl
  have cR3 : w2.cell? ⟨w.heap.size, 3, none⟩ = some (Value.string (bs [])) := HR.out.cell 3 _ rfl
  have fP3 := HP.out.free 3
  have fR3 := HR.out.free 3
  have hzP := HP.out.lt
  have hzR := HR.out.lt
  go_wp2_with fail
  refine (count_any t 44 _).mono ?_
  rintro e w' ⟨rfl, rfl⟩
  go_wp2_with fail
  have HSC : Hid (setC = [44, 59, 123, 125]) := rfl
  have HSN : Hid (setN = [59, 123, 125]) := rfl
  rw [← HSC.out]
  refine (cany_any [] setC _ asciiC  (by decide) (by decide) (by simp)).mono ?_
  rintro e w5 ⟨rfl, hk5⟩
  rw [HA1.out]
  clear cP0 cR0 fP0 fR0 cP1 cR1 fP1 fR1 cP2 cR2 fP2 fR2 cP3 cR3 fP3 fR3 hzP hzR
  have bP : Blk w5 (w.heap.size + 1) 24 #[Value.string (bs []), Value.string (bs []), Value.string (bs []), Value.string (bs [])] := (HP.out).kept hk5
  have bR : Blk w5 w.heap.size 24 #[Value.string (bs []), Value.string (bs []), Value.string (bs []), Value.string (bs [])] := (HR.out).kept hk5
  have kk : Kept w w5 := (HK.out).trans hk5
  clear HP HR HK HG
  have HP := Lib.hid bP
  have HR := Lib.hid bR
  have HK := Lib.hid kk
  have HG := Lib.hid (hg.kept kk)
  clear bP bR kk hk5
  have cP0 : w5.cell? ⟨w.heap.size + 1, 0, none⟩ = some (Value.string (bs [])) := HP.out.cell 0 _ rfl
  have cR0 : w5.cell? ⟨w.heap.size, 0, none⟩ = some (Value.string (bs [])) := HR.out.cell 0 _ rfl
  have fP0 := HP.out.free 0
  have fR0 := HR.out.free 0
  have cP1 : w5.cell? ⟨w.heap.size + 1, 1, none⟩ = some (Value.string (bs [])) := HP.out.cell 1 _ rfl
  have cR1 : w5.cell? ⟨w.heap.size, 1, none⟩ = some (Value.string (bs [])) := HR.out.cell 1 _ rfl
  have fP1 := HP.out.free 1
  have fR1 := HR.out.free 1
  have cP2 : w5.cell? ⟨w.heap.size + 1, 2, none⟩ = some (Value.string (bs [])) := HP.out.cell 2 _ rfl
  have cR2 : w5.cell? ⟨w.heap.size, 2, none⟩ = some (Value.string (bs [])) := HR.out.cell 2 _ rfl
  have fP2 := HP.out.free 2
  have fR2 := HR.out.free 2
  have cP3 : w5.cell? ⟨w.heap.size + 1, 3, none⟩ = some (Value.string (bs [])) := HP.out.cell 3 _ rfl
  have cR3 : w5.cell? ⟨w.heap.size, 3, none⟩ = some (Value.string (bs [])) := HR.out.cell 3 _ rfl
  have fP3 := HP.out.free 3
  have fR3 := HR.out.free 3
  have hzP := HP.out.lt
  have hzR := HR.out.lt
  go_wp2_with fail
  rw [← HSN.out]
  refine (cany_any t setN _ asciiN (by decide) (by decide) (by omega)).mono ?_
  rintro e w6 ⟨rfl, hk6⟩
  rw [HA2.out]
  clear cP0 cR0 fP0 fR0 cP1 cR1 fP1 fR1 cP2 cR2 fP2 fR2 cP3 cR3 fP3 fR3 hzP hzR
  have bP : Blk w6 (w.heap.size + 1) 24 #[Value.string (bs []), Value.string (bs []), Value.string (bs []), Value.string (bs [])] := (HP.out).kept hk6
  have bR : Blk w6 w.heap.size 24 #[Value.string (bs []), Value.string (bs []), Value.string (bs []), Value.string (bs [])] := (HR.out).kept hk6
  have kk : Kept w w6 := (HK.out).trans hk6
  clear HP HR HK HG
  have HP := Lib.hid bP
  have HR := Lib.hid bR
  have HK := Lib.hid kk
  have HG := Lib.hid (hg.kept kk)
  clear bP bR kk hk6
  have cP0 : w6.cell? ⟨w.heap.size + 1, 0, none⟩ = some (Value.string (bs [])) := HP.out.cell 0 _ rfl
  have cR0 : w6.cell? ⟨w.heap.size, 0, none⟩ = some (Value.string (bs [])) := HR.out.cell 0 _ rfl
  have fP0 := HP.out.free 0
  have fR0 := HR.out.free 0
  have cP1 : w6.cell? ⟨w.heap.size + 1, 1, none⟩ = some (Value.string (bs [])) := HP.out.cell 1 _ rfl
  have cR1 : w6.cell? ⟨w.heap.size, 1, none⟩ = some (Value.string (bs [])) := HR.out.cell 1 _ rfl
  have fP1 := HP.out.free 1
  have fR1 := HR.out.free 1
  have cP2 : w6.cell? ⟨w.heap.size + 1, 2, none⟩ = some (Value.string (bs [])) := HP.out.cell 2 _ rfl
  have cR2 : w6.cell? ⟨w.heap.size, 2, none⟩ = some (Value.string (bs [])) := HR.out.cell 2 _ rfl
  have fP2 := HP.out.free 2
  have fR2 := HR.out.free 2
  have cP3 : w6.cell? ⟨w.heap.size + 1, 3, none⟩ = some (Value.string (bs [])) := HP.out.cell 3 _ rfl
  have cR3 : w6.cell? ⟨w.heap.size, 3, none⟩ = some (Value.string (bs [])) := HR.out.cell 3 _ rfl
  have fP3 := HP.out.free 3
  have fR3 := HR.out.free 3
  have hzP := HP.out.lt
  have hzR := HR.out.lt
  go_wp2_with fail
  refine bodyPost_ret (v := .tuple #[persV [] [] [] [], .int .i64 5]) (by simp [results, Tryd.results13, go_sem, *]) rfl ⟨rfl, ?_⟩
  repeat (first | exact HK.out | refine kept_set ?_ _ _ _ (by omega) | exact (HK.out).trans (kept_drewN _ _))

set_option maxRecDepth 100000 in
set_option maxHeartbeats 3200000 in
theorem parse_ok1_n (l : Bs) (w : World) (hg : Gnd w) (hs : l.length ≤ 1000000) (hl : lineB l = true) (t : Bs) (HC : Hid (cleanL l = t)) (HNB : Hid (∀ r, t ≠ 123 :: r)) (ht : t.length ≤ 1000001) (hcnt : t.count 44 ≤ 2) (HA1 : Hid (([] : Bs).any (inSet setC) = false)) (HA2 : Hid (t.any (inSet setN) = false)) (a : Bs) (HSP : Hid (splitC 44 t = [a])) (ha : a.length ≤ 1000010) (f : Bs) (HFA : Hid (cleanL a = f)) (hf : ¬ f = []) (hfe : f.isEmpty = false) :
    Calls Tryd.prog 13 #[.string (bs l)] w fun e w' => e = .returned (.tuple #[persV f [] [] [], .int .i64 0]) ∧ Kept w w' := by
  have hcl := cleanL_le l
  go_enter Tryd.func13, Tryd.ntmps13
  go_wp2_with fail
  refine (line_any l _ (by omega)).mono ?_
  rintro e w1 ⟨rfl, n, rfl⟩
  rw [hl]
  go_wp2_with fail
  refine (clean_any l _ (hg.kept (((kept_alloc w _).trans (kept_alloc _ _)).trans (kept_drewN _ n))) (by omega)).mono ?_
  rintro e w2 ⟨rfl, hk2⟩
  have HP0 := Lib.hid ((Blk.new (w.alloc (.cells #[Value.string (bs []), Value.string (bs []), Value.string (bs []), Value.string (bs [])] 24)) 24 #[Value.string (bs []), Value.string (bs []), Value.string (bs []), Value.string (bs [])]).drewN n)
  have bP : Blk w2 (w.heap.size + 1) 24 #[Value.string (bs []), Value.string (bs []), Value.string (bs []), Value.string (bs [])] := by have := HP0.out.kept hk2; simpa using this
  have bR : Blk w2 w.heap.size 24 #[Value.string (bs []), Value.string (bs []), Value.string (bs []), Value.string (bs [])] := (((Blk.new w 24 #[Value.string (bs []), Value.string (bs []), Value.string (bs []), Value.string (bs [])]).alloc _).drewN n).kept hk2
  have kk : Kept w w2 := (((kept_alloc w _).trans (kept_alloc _ _)).trans (kept_drewN _ n)).trans hk2
  clear HP0
  have HP := Lib.hid bP
  have HR := Lib.hid bR
  have HK := Lib.hid kk
  have HG := Lib.hid (hg.kept kk)
  clear bP bR kk hk2
  rw [HC.out]
  go_wp2_with fail
  refine (cutp_no t 123 _ HNB.out).mono ?_
  rintro e w' ⟨rfl, rfl⟩
  have cP0 : w2.cell? ⟨w.heap.size + 1, 0, none⟩ = some (Value.string (bs [])) := HP.out.cell 0 _ rfl
  have cR0 : w2.cell? ⟨w.heap.size, 0, none⟩ = some (Value.string (bs [])) := HR.out.cell 0 _ rfl
  have fP0 := HP.out.free 0
  have fR0 := HR.out.free 0
  have cP1 : w2.cell? ⟨w.heap.size + 1, 1, none⟩ = some (Value.string (bs [])) := HP.out.cell 1 _ rfl
  have cR1 : w2.cell? ⟨w.heap.size, 1, none⟩ = some (Value.string (bs [])) := HR.out.cell 1 _ rfl
  have fP1 := HP.out.free 1
  have fR1 := HR.out.free 1
  have cP2 : w2.cell? ⟨w.heap.size + 1, 2, none⟩ = some (Value.string (bs [])) := HP.out.cell 2 _ rfl
  have cR2 : w2.cell? ⟨w.heap.size, 2, none⟩ = some (Value.string (bs [])) := HR.out.cell 2 _ rfl
  have fP2 := HP.out.free 2
  have fR2 := HR.out.free 2
  have cP3 : w2.cell? ⟨w.heap.size + 1, 3, none⟩ = some (Value.string (bs [])) := HP.out.cell 3 _ rfl
  have cR3 : w2.cell? ⟨w.heap.size, 3, none⟩ = some (Value.string (bs [])) := HR.out.cell 3 _ rfl
  have fP3 := HP.out.free 3
  have fR3 := HR.out.free 3
  have hzP := HP.out.lt
  have hzR := HR.out.lt
  go_wp2_with fail
  refine (count_any t 44 _).mono ?_
  rintro e w' ⟨rfl, rfl⟩
  go_wp2_with fail
  have HSC : Hid (setC = [44, 59, 123, 125]) := rfl
  have HSN : Hid (setN = [59, 123, 125]) := rfl
  rw [← HSC.out]
  refine (cany_any [] setC _ asciiC  (by decide) (by decide) (by simp)).mono ?_
  rintro e w5 ⟨rfl, hk5⟩
  rw [HA1.out]
  clear cP0 cR0 fP0 fR0 cP1 cR1 fP1 fR1 cP2 cR2 fP2 fR2 cP3 cR3 fP3 fR3 hzP hzR
  have bP : Blk w5 (w.heap.size + 1) 24 #[Value.string (bs []), Value.string (bs []), Value.string (bs []), Value.string (bs [])] := (HP.out).kept hk5
  have bR : Blk w5 w.heap.size 24 #[Value.string (bs []), Value.string (bs []), Value.string (bs []), Value.string (bs [])] := (HR.out).kept hk5
  have kk : Kept w w5 := (HK.out).trans hk5
  clear HP HR HK HG
  have HP := Lib.hid bP
  have HR := Lib.hid bR
  have HK := Lib.hid kk
  have HG := Lib.hid (hg.kept kk)
  clear bP bR kk hk5
  have cP0 : w5.cell? ⟨w.heap.size + 1, 0, none⟩ = some (Value.string (bs [])) := HP.out.cell 0 _ rfl
  have cR0 : w5.cell? ⟨w.heap.size, 0, none⟩ = some (Value.string (bs [])) := HR.out.cell 0 _ rfl
  have fP0 := HP.out.free 0
  have fR0 := HR.out.free 0
  have cP1 : w5.cell? ⟨w.heap.size + 1, 1, none⟩ = some (Value.string (bs [])) := HP.out.cell 1 _ rfl
  have cR1 : w5.cell? ⟨w.heap.size, 1, none⟩ = some (Value.string (bs [])) := HR.out.cell 1 _ rfl
  have fP1 := HP.out.free 1
  have fR1 := HR.out.free 1
  have cP2 : w5.cell? ⟨w.heap.size + 1, 2, none⟩ = some (Value.string (bs [])) := HP.out.cell 2 _ rfl
  have cR2 : w5.cell? ⟨w.heap.size, 2, none⟩ = some (Value.string (bs [])) := HR.out.cell 2 _ rfl
  have fP2 := HP.out.free 2
  have fR2 := HR.out.free 2
  have cP3 : w5.cell? ⟨w.heap.size + 1, 3, none⟩ = some (Value.string (bs [])) := HP.out.cell 3 _ rfl
  have cR3 : w5.cell? ⟨w.heap.size, 3, none⟩ = some (Value.string (bs [])) := HR.out.cell 3 _ rfl
  have fP3 := HP.out.free 3
  have fR3 := HR.out.free 3
  have hzP := HP.out.lt
  have hzR := HR.out.lt
  go_wp2_with fail
  rw [← HSN.out]
  refine (cany_any t setN _ asciiN (by decide) (by decide) (by omega)).mono ?_
  rintro e w6 ⟨rfl, hk6⟩
  rw [HA2.out]
  clear cP0 cR0 fP0 fR0 cP1 cR1 fP1 fR1 cP2 cR2 fP2 fR2 cP3 cR3 fP3 fR3 hzP hzR
  have bP : Blk w6 (w.heap.size + 1) 24 #[Value.string (bs []), Value.string (bs []), Value.string (bs []), Value.string (bs [])] := (HP.out).kept hk6
  have bR : Blk w6 w.heap.size 24 #[Value.string (bs []), Value.string (bs []), Value.string (bs []), Value.string (bs [])] := (HR.out).kept hk6
  have kk : Kept w w6 := (HK.out).trans hk6
  clear HP HR HK HG
  have HP := Lib.hid bP
  have HR := Lib.hid bR
  have HK := Lib.hid kk
  have HG := Lib.hid (hg.kept kk)
  clear bP bR kk hk6
  have cP0 : w6.cell? ⟨w.heap.size + 1, 0, none⟩ = some (Value.string (bs [])) := HP.out.cell 0 _ rfl
  have cR0 : w6.cell? ⟨w.heap.size, 0, none⟩ = some (Value.string (bs [])) := HR.out.cell 0 _ rfl
  have fP0 := HP.out.free 0
  have fR0 := HR.out.free 0
  have cP1 : w6.cell? ⟨w.heap.size + 1, 1, none⟩ = some (Value.string (bs [])) := HP.out.cell 1 _ rfl
  have cR1 : w6.cell? ⟨w.heap.size, 1, none⟩ = some (Value.string (bs [])) := HR.out.cell 1 _ rfl
  have fP1 := HP.out.free 1
  have fR1 := HR.out.free 1
  have cP2 : w6.cell? ⟨w.heap.size + 1, 2, none⟩ = some (Value.string (bs [])) := HP.out.cell 2 _ rfl
  have cR2 : w6.cell? ⟨w.heap.size, 2, none⟩ = some (Value.string (bs [])) := HR.out.cell 2 _ rfl
  have fP2 := HP.out.free 2
  have fR2 := HR.out.free 2
  have cP3 : w6.cell? ⟨w.heap.size + 1, 3, none⟩ = some (Value.string (bs [])) := HP.out.cell 3 _ rfl
  have cR3 : w6.cell? ⟨w.heap.size, 3, none⟩ = some (Value.string (bs [])) := HR.out.cell 3 _ rfl
  have fP3 := HP.out.free 3
  have fR3 := HR.out.free 3
  have hzP := HP.out.lt
  have hzR := HR.out.lt
  go_wp2_with fail
  refine (split_any t 44 _ HG.out (by omega)).mono ?_
  rintro e w7 ⟨rfl, hw7⟩
  have hk7 : Kept w6 w7 := by rw [hw7]; exact kept_alloc _ _
  have bS : Blk w7 w6.heap.size 9 (strCells (splitC 44 t)).toArray := by rw [hw7]; exact Blk.new _ _ _
  have hB : w6.heap.size ≠ w.heap.size + 1 := by omega
  clear cP0 cR0 fP0 fR0 cP1 cR1 fP1 fR1 cP2 cR2 fP2 fR2 cP3 cR3 fP3 fR3 hzP hzR
  have bP : Blk w7 (w.heap.size + 1) 24 #[Value.string (bs []), Value.string (bs []), Value.string (bs []), Value.string (bs [])] := (HP.out).kept hk7
  have bR : Blk w7 w.heap.size 24 #[Value.string (bs []), Value.string (bs []), Value.string (bs []), Value.string (bs [])] := (HR.out).kept hk7
  have kk : Kept w w7 := (HK.out).trans hk7
  clear HP HR HK HG
  have HP := Lib.hid bP
  have HR := Lib.hid bR
  have HK := Lib.hid kk
  have HG := Lib.hid (hg.kept kk)
  clear bP bR kk hk7
  clear hw7
  rw [HSP.out]
  rw [HSP.out] at bS
  have HS : Hid (Blk w7 w6.heap.size 9 #[Value.string (bs a)]) := bS
  clear bS
  have cP0 : w7.cell? ⟨w.heap.size + 1, 0, none⟩ = some (Value.string (bs [])) := HP.out.cell 0 _ rfl
  have cR0 : w7.cell? ⟨w.heap.size, 0, none⟩ = some (Value.string (bs [])) := HR.out.cell 0 _ rfl
  have fP0 := HP.out.free 0
  have fR0 := HR.out.free 0
  have cP1 : w7.cell? ⟨w.heap.size + 1, 1, none⟩ = some (Value.string (bs [])) := HP.out.cell 1 _ rfl
  have cR1 : w7.cell? ⟨w.heap.size, 1, none⟩ = some (Value.string (bs [])) := HR.out.cell 1 _ rfl
  have fP1 := HP.out.free 1
  have fR1 := HR.out.free 1
  have cP2 : w7.cell? ⟨w.heap.size + 1, 2, none⟩ = some (Value.string (bs [])) := HP.out.cell 2 _ rfl
  have cR2 : w7.cell? ⟨w.heap.size, 2, none⟩ = some (Value.string (bs [])) := HR.out.cell 2 _ rfl
  have fP2 := HP.out.free 2
  have fR2 := HR.out.free 2
  have cP3 : w7.cell? ⟨w.heap.size + 1, 3, none⟩ = some (Value.string (bs [])) := HP.out.cell 3 _ rfl
  have cR3 : w7.cell? ⟨w.heap.size, 3, none⟩ = some (Value.string (bs [])) := HR.out.cell 3 _ rfl
  have fP3 := HP.out.free 3
  have fR3 := HR.out.free 3
  have hzP := HP.out.lt
  have hzR := HR.out.lt
  have cS0 : w7.cell? ⟨w6.heap.size, 0, none⟩ = some (.string (bs a)) := HS.out.cell 0 _ rfl
  have hzS := HS.out.lt
  go_wp2_with fail
  refine (clean_any a _ HG.out (by omega)).mono ?_
  rintro e w8 ⟨rfl, hk8⟩
  clear cS0 hzS
  clear cP0 cR0 fP0 fR0 cP1 cR1 fP1 fR1 cP2 cR2 fP2 fR2 cP3 cR3 fP3 fR3 hzP hzR
  have bS : Blk w8 w6.heap.size 9 #[Value.string (bs a)] := (HS.out).kept hk8
  clear HS
  have HS := Lib.hid bS
  clear bS
  have bP : Blk w8 (w.heap.size + 1) 24 #[Value.string (bs []), Value.string (bs []), Value.string (bs []), Value.string (bs [])] := (HP.out).kept hk8
  have bR : Blk w8 w.heap.size 24 #[Value.string (bs []), Value.string (bs []), Value.string (bs []), Value.string (bs [])] := (HR.out).kept hk8
  have kk : Kept w w8 := (HK.out).trans hk8
  clear HP HR HK HG
  have HP := Lib.hid bP
  have HR := Lib.hid bR
  have HK := Lib.hid kk
  have HG := Lib.hid (hg.kept kk)
  clear bP bR kk hk8
  rw [HFA.out]
  have cP0 : w8.cell? ⟨w.heap.size + 1, 0, none⟩ = some (Value.string (bs [])) := HP.out.cell 0 _ rfl
  have cR0 : w8.cell? ⟨w.heap.size, 0, none⟩ = some (Value.string (bs [])) := HR.out.cell 0 _ rfl
  have fP0 := HP.out.free 0
  have fR0 := HR.out.free 0
  have cP1 : w8.cell? ⟨w.heap.size + 1, 1, none⟩ = some (Value.string (bs [])) := HP.out.cell 1 _ rfl
  have cR1 : w8.cell? ⟨w.heap.size, 1, none⟩ = some (Value.string (bs [])) := HR.out.cell 1 _ rfl
  have fP1 := HP.out.free 1
  have fR1 := HR.out.free 1
  have cP2 : w8.cell? ⟨w.heap.size + 1, 2, none⟩ = some (Value.string (bs [])) := HP.out.cell 2 _ rfl
  have cR2 : w8.cell? ⟨w.heap.size, 2, none⟩ = some (Value.string (bs [])) := HR.out.cell 2 _ rfl
  have fP2 := HP.out.free 2
  have fR2 := HR.out.free 2
  have cP3 : w8.cell? ⟨w.heap.size + 1, 3, none⟩ = some (Value.string (bs [])) := HP.out.cell 3 _ rfl
  have cR3 : w8.cell? ⟨w.heap.size, 3, none⟩ = some (Value.string (bs [])) := HR.out.cell 3 _ rfl
  have fP3 := HP.out.free 3
  have fR3 := HR.out.free 3
  have hzP := HP.out.lt
  have hzR := HR.out.lt
  have cS0 : w8.cell? ⟨w6.heap.size, 0, none⟩ = some (.string (bs a)) := HS.out.cell 0 _ rfl
  have hzS := HS.out.lt
  go_wp2_with fail
  refine bodyPost_ret (v := .tuple #[persV f [] [] [], .int .i64 0]) (by simp [results, Tryd.results13, go_sem, *]) rfl ⟨rfl, ?_⟩
  repeat (first | exact HK.out | refine kept_set ?_ _ _ _ (by omega) | exact (HK.out).trans (kept_drewN _ _))

set_option maxRecDepth 100000 in
set_option maxHeartbeats 3200000 in
theorem parse_none1_n (l : Bs) (w : World) (hg : Gnd w) (hs : l.length ≤ 1000000) (hl : lineB l = true) (t : Bs) (HC : Hid (cleanL l = t)) (HNB : Hid (∀ r, t ≠ 123 :: r)) (ht : t.length ≤ 1000001) (hcnt : t.count 44 ≤ 2) (HA1 : Hid (([] : Bs).any (inSet setC) = false)) (HA2 : Hid (t.any (inSet setN) = false)) (a : Bs) (HSP : Hid (splitC 44 t = [a])) (ha : a.length ≤ 1000010) (HFA : Hid (cleanL a = []))  :
    Calls Tryd.prog 13 #[.string (bs l)] w fun e w' => e = .returned (.tuple #[persV [] [] [] [], .int .i64 8]) ∧ Kept w w' := by
  have hcl := cleanL_le l
  go_enter Tryd.func13, Tryd.ntmps13
  go_wp2_with fail
  refine (line_any l _ (by omega)).mono ?_
  rintro e w1 ⟨rfl, n, rfl⟩
  rw [hl]
  go_wp2_with fail
  refine (clean_any l _ (hg.kept (((kept_alloc w _).trans (kept_alloc _ _)).trans (kept_drewN _ n))) (by omega)).mono ?_
  rintro e w2 ⟨rfl, hk2⟩
  have HP0 := Lib.hid ((Blk.new (w.alloc (.cells #[Value.string (bs []), Value.string (bs []), Value.string (bs []), Value.string (bs [])] 24)) 24 #[Value.string (bs []), Value.string (bs []), Value.string (bs []), Value.string (bs [])]).drewN n)
  have bP : Blk w2 (w.heap.size + 1) 24 #[Value.string (bs []), Value.string (bs []), Value.string (bs []), Value.string (bs [])] := by have := HP0.out.kept hk2; simpa using this
  have bR : Blk w2 w.heap.size 24 #[Value.string (bs []), Value.string (bs []), Value.string (bs []), Value.string (bs [])] := (((Blk.new w 24 #[Value.string (bs []), Value.string (bs []), Value.string (bs []), Value.string (bs [])]).alloc _).drewN n).kept hk2
  have kk : Kept w w2 := (((kept_alloc w _).trans (kept_alloc _ _)).trans (kept_drewN _ n)).trans hk2
  clear HP0
  have HP := Lib.hid bP
  have HR := Lib.hid bR
  have HK := Lib.hid kk
  have HG := Lib.hid (hg.kept kk)
  clear bP bR kk hk2
  rw [HC.out]
  go_wp2_with fail
  refine (cutp_no t 123 _ HNB.out).mono ?_
  rintro e w' ⟨rfl, rfl⟩
  have cP0 : w2.cell? ⟨w.heap.size + 1, 0, none⟩ = some (Value.string (bs [])) := HP.out.cell 0 _ rfl
  have cR0 : w2.cell? ⟨w.heap.size, 0, none⟩ = some (Value.string (bs [])) := HR.out.cell 0 _ rfl
  have fP0 := HP.out.free 0
  have fR0 := HR.out.free 0
  have cP1 : w2.cell? ⟨w.heap.size + 1, 1, none⟩ = some (Value.string (bs [])) := HP.out.cell 1 _ rfl
  have cR1 : w2.cell? ⟨w.heap.size, 1, none⟩ = some (Value.string (bs [])) := HR.out.cell 1 _ rfl
  have fP1 := HP.out.free 1
  have fR1 := HR.out.free 1
  have cP2 : w2.cell? ⟨w.heap.size + 1, 2, none⟩ = some (Value.string (bs [])) := HP.out.cell 2 _ rfl
  have cR2 : w2.cell? ⟨w.heap.size, 2, none⟩ = some (Value.string (bs [])) := HR.out.cell 2 _ rfl
  have fP2 := HP.out.free 2
  have fR2 := HR.out.free 2
  have cP3 : w2.cell? ⟨w.heap.size + 1, 3, none⟩ = some (Value.string (bs [])) := HP.out.cell 3 _ rfl
  have cR3 : w2.cell? ⟨w.heap.size, 3, none⟩ = some (Value.string (bs [])) := HR.out.cell 3 _ rfl
  have fP3 := HP.out.free 3
  have fR3 := HR.out.free 3
  have hzP := HP.out.lt
  have hzR := HR.out.lt
  go_wp2_with fail
  refine (count_any t 44 _).mono ?_
  rintro e w' ⟨rfl, rfl⟩
  go_wp2_with fail
  have HSC : Hid (setC = [44, 59, 123, 125]) := rfl
  have HSN : Hid (setN = [59, 123, 125]) := rfl
  rw [← HSC.out]
  refine (cany_any [] setC _ asciiC  (by decide) (by decide) (by simp)).mono ?_
  rintro e w5 ⟨rfl, hk5⟩
  rw [HA1.out]
  clear cP0 cR0 fP0 fR0 cP1 cR1 fP1 fR1 cP2 cR2 fP2 fR2 cP3 cR3 fP3 fR3 hzP hzR
  have bP : Blk w5 (w.heap.size + 1) 24 #[Value.string (bs []), Value.string (bs []), Value.string (bs []), Value.string (bs [])] := (HP.out).kept hk5
  have bR : Blk w5 w.heap.size 24 #[Value.string (bs []), Value.string (bs []), Value.string (bs []), Value.string (bs [])] := (HR.out).kept hk5
  have kk : Kept w w5 := (HK.out).trans hk5
  clear HP HR HK HG
  have HP := Lib.hid bP
  have HR := Lib.hid bR
  have HK := Lib.hid kk
  have HG := Lib.hid (hg.kept kk)
  clear bP bR kk hk5
  have cP0 : w5.cell? ⟨w.heap.size + 1, 0, none⟩ = some (Value.string (bs [])) := HP.out.cell 0 _ rfl
  have cR0 : w5.cell? ⟨w.heap.size, 0, none⟩ = some (Value.string (bs [])) := HR.out.cell 0 _ rfl
  have fP0 := HP.out.free 0
  have fR0 := HR.out.free 0
  have cP1 : w5.cell? ⟨w.heap.size + 1, 1, none⟩ = some (Value.string (bs [])) := HP.out.cell 1 _ rfl
  have cR1 : w5.cell? ⟨w.heap.size, 1, none⟩ = some (Value.string (bs [])) := HR.out.cell 1 _ rfl
  have fP1 := HP.out.free 1
  have fR1 := HR.out.free 1
  have cP2 : w5.cell? ⟨w.heap.size + 1, 2, none⟩ = some (Value.string (bs [])) := HP.out.cell 2 _ rfl
  have cR2 : w5.cell? ⟨w.heap.size, 2, none⟩ = some (Value.string (bs [])) := HR.out.cell 2 _ rfl
  have fP2 := HP.out.free 2
  have fR2 := HR.out.free 2
  have cP3 : w5.cell? ⟨w.heap.size + 1, 3, none⟩ = some (Value.string (bs [])) := HP.out.cell 3 _ rfl
  have cR3 : w5.cell? ⟨w.heap.size, 3, none⟩ = some (Value.string (bs [])) := HR.out.cell 3 _ rfl
  have fP3 := HP.out.free 3
  have fR3 := HR.out.free 3
  have hzP := HP.out.lt
  have hzR := HR.out.lt
  go_wp2_with fail
  rw [← HSN.out]
  refine (cany_any t setN _ asciiN (by decide) (by decide) (by omega)).mono ?_
  rintro e w6 ⟨rfl, hk6⟩
  rw [HA2.out]
  clear cP0 cR0 fP0 fR0 cP1 cR1 fP1 fR1 cP2 cR2 fP2 fR2 cP3 cR3 fP3 fR3 hzP hzR
  have bP : Blk w6 (w.heap.size + 1) 24 #[Value.string (bs []), Value.string (bs []), Value.string (bs []), Value.string (bs [])] := (HP.out).kept hk6
  have bR : Blk w6 w.heap.size 24 #[Value.string (bs []), Value.string (bs []), Value.string (bs []), Value.string (bs [])] := (HR.out).kept hk6
  have kk : Kept w w6 := (HK.out).trans hk6
  clear HP HR HK HG
  have HP := Lib.hid bP
  have HR := Lib.hid bR
  have HK := Lib.hid kk
  have HG := Lib.hid (hg.kept kk)
  clear bP bR kk hk6
  have cP0 : w6.cell? ⟨w.heap.size + 1, 0, none⟩ = some (Value.string (bs [])) := HP.out.cell 0 _ rfl
  have cR0 : w6.cell? ⟨w.heap.size, 0, none⟩ = some (Value.string (bs [])) := HR.out.cell 0 _ rfl
  have fP0 := HP.out.free 0
  have fR0 := HR.out.free 0
  have cP1 : w6.cell? ⟨w.heap.size + 1, 1, none⟩ = some (Value.string (bs [])) := HP.out.cell 1 _ rfl
  have cR1 : w6.cell? ⟨w.heap.size, 1, none⟩ = some (Value.string (bs [])) := HR.out.cell 1 _ rfl
  have fP1 := HP.out.free 1
  have fR1 := HR.out.free 1
  have cP2 : w6.cell? ⟨w.heap.size + 1, 2, none⟩ = some (Value.string (bs [])) := HP.out.cell 2 _ rfl
  have cR2 : w6.cell? ⟨w.heap.size, 2, none⟩ = some (Value.string (bs [])) := HR.out.cell 2 _ rfl
  have fP2 := HP.out.free 2
  have fR2 := HR.out.free 2
  have cP3 : w6.cell? ⟨w.heap.size + 1, 3, none⟩ = some (Value.string (bs [])) := HP.out.cell 3 _ rfl
  have cR3 : w6.cell? ⟨w.heap.size, 3, none⟩ = some (Value.string (bs [])) := HR.out.cell 3 _ rfl
  have fP3 := HP.out.free 3
  have fR3 := HR.out.free 3
  have hzP := HP.out.lt
  have hzR := HR.out.lt
  go_wp2_with fail
  refine (split_any t 44 _ HG.out (by omega)).mono ?_
  rintro e w7 ⟨rfl, hw7⟩
  have hk7 : Kept w6 w7 := by rw [hw7]; exact kept_alloc _ _
  have bS : Blk w7 w6.heap.size 9 (strCells (splitC 44 t)).toArray := by rw [hw7]; exact Blk.new _ _ _
  have hB : w6.heap.size ≠ w.heap.size + 1 := by omega
  clear cP0 cR0 fP0 fR0 cP1 cR1 fP1 fR1 cP2 cR2 fP2 fR2 cP3 cR3 fP3 fR3 hzP hzR
  have bP : Blk w7 (w.heap.size + 1) 24 #[Value.string (bs []), Value.string (bs []), Value.string (bs []), Value.string (bs [])] := (HP.out).kept hk7
  have bR : Blk w7 w.heap.size 24 #[Value.string (bs []), Value.string (bs []), Value.string (bs []), Value.string (bs [])] := (HR.out).kept hk7
  have kk : Kept w w7 := (HK.out).trans hk7
  clear HP HR HK HG
  have HP := Lib.hid bP
  have HR := Lib.hid bR
  have HK := Lib.hid kk
  have HG := Lib.hid (hg.kept kk)
  clear bP bR kk hk7
  clear hw7
  rw [HSP.out]
  rw [HSP.out] at bS
  have HS : Hid (Blk w7 w6.heap.size 9 #[Value.string (bs a)]) := bS
  clear bS
  have cP0 : w7.cell? ⟨w.heap.size + 1, 0, none⟩ = some (Value.string (bs [])) := HP.out.cell 0 _ rfl
  have cR0 : w7.cell? ⟨w.heap.size, 0, none⟩ = some (Value.string (bs [])) := HR.out.cell 0 _ rfl
  have fP0 := HP.out.free 0
  have fR0 := HR.out.free 0
  have cP1 : w7.cell? ⟨w.heap.size + 1, 1, none⟩ = some (Value.string (bs [])) := HP.out.cell 1 _ rfl
  have cR1 : w7.cell? ⟨w.heap.size, 1, none⟩ = some (Value.string (bs [])) := HR.out.cell 1 _ rfl
  have fP1 := HP.out.free 1
  have fR1 := HR.out.free 1
  have cP2 : w7.cell? ⟨w.heap.size + 1, 2, none⟩ = some (Value.string (bs [])) := HP.out.cell 2 _ rfl
  have cR2 : w7.cell? ⟨w.heap.size, 2, none⟩ = some (Value.string (bs [])) := HR.out.cell 2 _ rfl
  have fP2 := HP.out.free 2
  have fR2 := HR.out.free 2
  have cP3 : w7.cell? ⟨w.heap.size + 1, 3, none⟩ = some (Value.string (bs [])) := HP.out.cell 3 _ rfl
  have cR3 : w7.cell? ⟨w.heap.size, 3, none⟩ = some (Value.string (bs [])) := HR.out.cell 3 _ rfl
  have fP3 := HP.out.free 3
  have fR3 := HR.out.free 3
  have hzP := HP.out.lt
  have hzR := HR.out.lt
  have cS0 : w7.cell? ⟨w6.heap.size, 0, none⟩ = some (.string (bs a)) := HS.out.cell 0 _ rfl
  have hzS := HS.out.lt
  go_wp2_with fail
  refine (clean_any a _ HG.out (by omega)).mono ?_
  rintro e w8 ⟨rfl, hk8⟩
  clear cS0 hzS
  clear cP0 cR0 fP0 fR0 cP1 cR1 fP1 fR1 cP2 cR2 fP2 fR2 cP3 cR3 fP3 fR3 hzP hzR
  have bS : Blk w8 w6.heap.size 9 #[Value.string (bs a)] := (HS.out).kept hk8
  clear HS
  have HS := Lib.hid bS
  clear bS
  have bP : Blk w8 (w.heap.size + 1) 24 #[Value.string (bs []), Value.string (bs []), Value.string (bs []), Value.string (bs [])] := (HP.out).kept hk8
  have bR : Blk w8 w.heap.size 24 #[Value.string (bs []), Value.string (bs []), Value.string (bs []), Value.string (bs [])] := (HR.out).kept hk8
  have kk : Kept w w8 := (HK.out).trans hk8
  clear HP HR HK HG
  have HP := Lib.hid bP
  have HR := Lib.hid bR
  have HK := Lib.hid kk
  have HG := Lib.hid (hg.kept kk)
  clear bP bR kk hk8
  rw [HFA.out]
  have cP0 : w8.cell? ⟨w.heap.size + 1, 0, none⟩ = some (Value.string (bs [])) := HP.out.cell 0 _ rfl
  have cR0 : w8.cell? ⟨w.heap.size, 0, none⟩ = some (Value.string (bs [])) := HR.out.cell 0 _ rfl
  have fP0 := HP.out.free 0
  have fR0 := HR.out.free 0
  have cP1 : w8.cell? ⟨w.heap.size + 1, 1, none⟩ = some (Value.string (bs [])) := HP.out.cell 1 _ rfl
  have cR1 : w8.cell? ⟨w.heap.size, 1, none⟩ = some (Value.string (bs [])) := HR.out.cell 1 _ rfl
  have fP1 := HP.out.free 1
  have fR1 := HR.out.free 1
  have cP2 : w8.cell? ⟨w.heap.size + 1, 2, none⟩ = some (Value.string (bs [])) := HP.out.cell 2 _ rfl
  have cR2 : w8.cell? ⟨w.heap.size, 2, none⟩ = some (Value.string (bs [])) := HR.out.cell 2 _ rfl
  have fP2 := HP.out.free 2
  have fR2 := HR.out.free 2
  have cP3 : w8.cell? ⟨w.heap.size + 1, 3, none⟩ = some (Value.string (bs [])) := HP.out.cell 3 _ rfl
  have cR3 : w8.cell? ⟨w.heap.size, 3, none⟩ = some (Value.string (bs [])) := HR.out.cell 3 _ rfl
  have fP3 := HP.out.free 3
  have fR3 := HR.out.free 3
  have hzP := HP.out.lt
  have hzR := HR.out.lt
  have cS0 : w8.cell? ⟨w6.heap.size, 0, none⟩ = some (.string (bs a)) := HS.out.cell 0 _ rfl
  have hzS := HS.out.lt
  go_wp2_with fail
  refine bodyPost_ret (v := .tuple #[persV [] [] [] [], .int .i64 8]) (by simp [results, Tryd.results13, go_sem, *]) rfl ⟨rfl, ?_⟩
  repeat (first | exact HK.out | refine kept_set ?_ _ _ _ (by omega) | exact (HK.out).trans (kept_drewN _ _))

set_option maxRecDepth 100000 in
set_option maxHeartbeats 3200000 in
theorem parse_ok2_n (l : Bs) (w : World) (hg : Gnd w) (hs : l.length ≤ 1000000) (hl : lineB l = true) (t : Bs) (HC : Hid (cleanL l = t)) (HNB : Hid (∀ r, t ≠ 123 :: r)) (ht : t.length ≤ 1000001) (hcnt : t.count 44 ≤ 2) (HA1 : Hid (([] : Bs).any (inSet setC) = false)) (HA2 : Hid (t.any (inSet setN) = false)) (a b : Bs) (HSP : Hid (splitC 44 t = [a, b])) (ha : a.length ≤ 1000010) (hb : b.length ≤ 1000010) (f : Bs) (HFA : Hid (cleanL a = f)) (g : Bs) (HFB : Hid (cleanL b = g)) (hf : ¬ f = []) (hfe : f.isEmpty = false) :
    Calls Tryd.prog 13 #[.string (bs l)] w fun e w' => e = .returned (.tuple #[persV f g [] [], .int .i64 0]) ∧ Kept w w' := by
  have hcl := cleanL_le l
  go_enter Tryd.func13, Tryd.ntmps13
  go_wp2_with fail
  refine (line_any l _ (by omega)).mono ?_
  rintro e w1 ⟨rfl, n, rfl⟩
  rw [hl]
  go_wp2_with fail
  refine (clean_any l _ (hg.kept (((kept_alloc w _).trans (kept_alloc _ _)).trans (kept_drewN _ n))) (by omega)).mono ?_
  rintro e w2 ⟨rfl, hk2⟩
  have HP0 := Lib.hid ((Blk.new (w.alloc (.cells #[Value.string (bs []), Value.string (bs []), Value.string (bs []), Value.string (bs [])] 24)) 24 #[Value.string (bs []), Value.string (bs []), Value.string (bs []), Value.string (bs [])]).drewN n)
  have bP : Blk w2 (w.heap.size + 1) 24 #[Value.string (bs []), Value.string (bs []), Value.string (bs []), Value.string (bs [])] := by have := HP0.out.kept hk2; simpa using this
  have bR : Blk w2 w.heap.size 24 #[Value.string (bs []), Value.string (bs []), Value.string (bs []), Value.string (bs [])] := (((Blk.new w 24 #[Value.string (bs []), Value.string (bs []), Value.string (bs []), Value.string (bs [])]).alloc _).drewN n).kept hk2
  have kk : Kept w w2 := (((kept_alloc w _).trans (kept_alloc _ _)).trans (kept_drewN _ n)).trans hk2
  clear HP0
  have HP := Lib.hid bP
  have HR := Lib.hid bR
  have HK := Lib.hid kk
  have HG := Lib.hid (hg.kept kk)
  clear bP bR kk hk2
  rw [HC.out]
  go_wp2_with fail
  refine (cutp_no t 123 _ HNB.out).mono ?_
  rintro e w' ⟨rfl, rfl⟩
  have cP0 : w2.cell? ⟨w.heap.size + 1, 0, none⟩ = some (Value.string (bs [])) := HP.out.cell 0 _ rfl
  have cR0 : w2.cell? ⟨w.heap.size, 0, none⟩ = some (Value.string (bs [])) := HR.out.cell 0 _ rfl
  have fP0 := HP.out.free 0
  have fR0 := HR.out.free 0
  have cP1 : w2.cell? ⟨w.heap.size + 1, 1, none⟩ = some (Value.string (bs [])) := HP.out.cell 1 _ rfl
  have cR1 : w2.cell? ⟨w.heap.size, 1, none⟩ = some (Value.string (bs [])) := HR.out.cell 1 _ rfl
  have fP1 := HP.out.free 1
  have fR1 := HR.out.free 1
  have cP2 : w2.cell? ⟨w.heap.size + 1, 2, none⟩ = some (Value.string (bs [])) := HP.out.cell 2 _ rfl
  have cR2 : w2.cell? ⟨w.heap.size, 2, none⟩ = some (Value.string (bs [])) := HR.out.cell 2 _ rfl
  have fP2 := HP.out.free 2
  have fR2 := HR.out.free 2
  have cP3 : w2.cell? ⟨w.heap.size + 1, 3, none⟩ = some (Value.string (bs [])) := HP.out.cell 3 _ rfl
  have cR3 : w2.cell? ⟨w.heap.size, 3, none⟩ = some (Value.string (bs [])) := HR.out.cell 3 _ rfl
  have fP3 := HP.out.free 3
  have fR3 := HR.out.free 3
  have hzP := HP.out.lt
  have hzR := HR.out.lt
  go_wp2_with fail
  refine (count_any t 44 _).mono ?_
  rintro e w' ⟨rfl, rfl⟩
  go_wp2_with fail
  have HSC : Hid (setC = [44, 59, 123, 125]) := rfl
  have HSN : Hid (setN = [59, 123, 125]) := rfl
  rw [← HSC.out]
  refine (cany_any [] setC _ asciiC  (by decide) (by decide) (by simp)).mono ?_
  rintro e w5 ⟨rfl, hk5⟩
  rw [HA1.out]
  clear cP0 cR0 fP0 fR0 cP1 cR1 fP1 fR1 cP2 cR2 fP2 fR2 cP3 cR3 fP3 fR3 hzP hzR
  have bP : Blk w5 (w.heap.size + 1) 24 #[Value.string (bs []), Value.string (bs []), Value.string (bs []), Value.string (bs [])] := (HP.out).kept hk5
  have bR : Blk w5 w.heap.size 24 #[Value.string (bs []), Value.string (bs []), Value.string (bs []), Value.string (bs [])] := (HR.out).kept hk5
  have kk : Kept w w5 := (HK.out).trans hk5
  clear HP HR HK HG
  have HP := Lib.hid bP
  have HR := Lib.hid bR
  have HK := Lib.hid kk
  have HG := Lib.hid (hg.kept kk)
  clear bP bR kk hk5
  have cP0 : w5.cell? ⟨w.heap.size + 1, 0, none⟩ = some (Value.string (bs [])) := HP.out.cell 0 _ rfl
  have cR0 : w5.cell? ⟨w.heap.size, 0, none⟩ = some (Value.string (bs [])) := HR.out.cell 0 _ rfl
  have fP0 := HP.out.free 0
  have fR0 := HR.out.free 0
  have cP1 : w5.cell? ⟨w.heap.size + 1, 1, none⟩ = some (Value.string (bs [])) := HP.out.cell 1 _ rfl
  have cR1 : w5.cell? ⟨w.heap.size, 1, none⟩ = some (Value.string (bs [])) := HR.out.cell 1 _ rfl
  have fP1 := HP.out.free 1
  have fR1 := HR.out.free 1
  have cP2 : w5.cell? ⟨w.heap.size + 1, 2, none⟩ = some (Value.string (bs [])) := HP.out.cell 2 _ rfl
  have cR2 : w5.cell? ⟨w.heap.size, 2, none⟩ = some (Value.string (bs [])) := HR.out.cell 2 _ rfl
  have fP2 := HP.out.free 2
  have fR2 := HR.out.free 2
  have cP3 : w5.cell? ⟨w.heap.size + 1, 3, none⟩ = some (Value.string (bs [])) := HP.out.cell 3 _ rfl
  have cR3 : w5.cell? ⟨w.heap.size, 3, none⟩ = some (Value.string (bs [])) := HR.out.cell 3 _ rfl
  have fP3 := HP.out.free 3
  have fR3 := HR.out.free 3
  have hzP := HP.out.lt
  have hzR := HR.out.lt
  go_wp2_with fail
  rw [← HSN.out]
  refine (cany_any t setN _ asciiN (by decide) (by decide) (by omega)).mono ?_
  rintro e w6 ⟨rfl, hk6⟩
  rw [HA2.out]
  clear cP0 cR0 fP0 fR0 cP1 cR1 fP1 fR1 cP2 cR2 fP2 fR2 cP3 cR3 fP3 fR3 hzP hzR
  have bP : Blk w6 (w.heap.size + 1) 24 #[Value.string (bs []), Value.string (bs []), Value.string (bs []), Value.string (bs [])] := (HP.out).kept hk6
  have bR : Blk w6 w.heap.size 24 #[Value.string (bs []), Value.string (bs []), Value.string (bs []), Value.string (bs [])] := (HR.out).kept hk6
  have kk : Kept w w6 := (HK.out).trans hk6
  clear HP HR HK HG
  have HP := Lib.hid bP
  have HR := Lib.hid bR
  have HK := Lib.hid kk
  have HG := Lib.hid (hg.kept kk)
  clear bP bR kk hk6
  have cP0 : w6.cell? ⟨w.heap.size + 1, 0, none⟩ = some (Value.string (bs [])) := HP.out.cell 0 _ rfl
  have cR0 : w6.cell? ⟨w.heap.size, 0, none⟩ = some (Value.string (bs [])) := HR.out.cell 0 _ rfl
  have fP0 := HP.out.free 0
  have fR0 := HR.out.free 0
  have cP1 : w6.cell? ⟨w.heap.size + 1, 1, none⟩ = some (Value.string (bs [])) := HP.out.cell 1 _ rfl
  have cR1 : w6.cell? ⟨w.heap.size, 1, none⟩ = some (Value.string (bs [])) := HR.out.cell 1 _ rfl
  have fP1 := HP.out.free 1
  have fR1 := HR.out.free 1
  have cP2 : w6.cell? ⟨w.heap.size + 1, 2, none⟩ = some (Value.string (bs [])) := HP.out.cell 2 _ rfl
  have cR2 : w6.cell? ⟨w.heap.size, 2, none⟩ = some (Value.string (bs [])) := HR.out.cell 2 _ rfl
  have fP2 := HP.out.free 2
  have fR2 := HR.out.free 2
  have cP3 : w6.cell? ⟨w.heap.size + 1, 3, none⟩ = some (Value.string (bs [])) := HP.out.cell 3 _ rfl
  have cR3 : w6.cell? ⟨w.heap.size, 3, none⟩ = some (Value.string (bs [])) := HR.out.cell 3 _ rfl
  have fP3 := HP.out.free 3
  have fR3 := HR.out.free 3
  have hzP := HP.out.lt
  have hzR := HR.out.lt
  go_wp2_with fail
  refine (split_any t 44 _ HG.out (by omega)).mono ?_
  rintro e w7 ⟨rfl, hw7⟩
  have hk7 : Kept w6 w7 := by rw [hw7]; exact kept_alloc _ _
  have bS : Blk w7 w6.heap.size 9 (strCells (splitC 44 t)).toArray := by rw [hw7]; exact Blk.new _ _ _
  have hB : w6.heap.size ≠ w.heap.size + 1 := by omega
  clear cP0 cR0 fP0 fR0 cP1 cR1 fP1 fR1 cP2 cR2 fP2 fR2 cP3 cR3 fP3 fR3 hzP hzR
  have bP : Blk w7 (w.heap.size + 1) 24 #[Value.string (bs []), Value.string (bs []), Value.string (bs []), Value.string (bs [])] := (HP.out).kept hk7
  have bR : Blk w7 w.heap.size 24 #[Value.string (bs []), Value.string (bs []), Value.string (bs []), Value.string (bs [])] := (HR.out).kept hk7
  have kk : Kept w w7 := (HK.out).trans hk7
  clear HP HR HK HG
  have HP := Lib.hid bP
  have HR := Lib.hid bR
  have HK := Lib.hid kk
  have HG := Lib.hid (hg.kept kk)
  clear bP bR kk hk7
  clear hw7
  rw [HSP.out]
  rw [HSP.out] at bS
  have HS : Hid (Blk w7 w6.heap.size 9 #[Value.string (bs a), Value.string (bs b)]) := bS
  clear bS
  have cP0 : w7.cell? ⟨w.heap.size + 1, 0, none⟩ = some (Value.string (bs [])) := HP.out.cell 0 _ rfl
  have cR0 : w7.cell? ⟨w.heap.size, 0, none⟩ = some (Value.string (bs [])) := HR.out.cell 0 _ rfl
  have fP0 := HP.out.free 0
  have fR0 := HR.out.free 0
  have cP1 : w7.cell? ⟨w.heap.size + 1, 1, none⟩ = some (Value.string (bs [])) := HP.out.cell 1 _ rfl
  have cR1 : w7.cell? ⟨w.heap.size, 1, none⟩ = some (Value.string (bs [])) := HR.out.cell 1 _ rfl
  have fP1 := HP.out.free 1
  have fR1 := HR.out.free 1
  have cP2 : w7.cell? ⟨w.heap.size + 1, 2, none⟩ = some (Value.string (bs [])) := HP.out.cell 2 _ rfl
  have cR2 : w7.cell? ⟨w.heap.size, 2, none⟩ = some (Value.string (bs [])) := HR.out.cell 2 _ rfl
  have fP2 := HP.out.free 2
  have fR2 := HR.out.free 2
  have cP3 : w7.cell? ⟨w.heap.size + 1, 3, none⟩ = some (Value.string (bs [])) := HP.out.cell 3 _ rfl
  have cR3 : w7.cell? ⟨w.heap.size, 3, none⟩ = some (Value.string (bs [])) := HR.out.cell 3 _ rfl
  have fP3 := HP.out.free 3
  have fR3 := HR.out.free 3
  have hzP := HP.out.lt
  have hzR := HR.out.lt
  have cS0 : w7.cell? ⟨w6.heap.size, 0, none⟩ = some (.string (bs a)) := HS.out.cell 0 _ rfl
  have cS1 : w7.cell? ⟨w6.heap.size, 1, none⟩ = some (.string (bs b)) := HS.out.cell 1 _ rfl
  have hzS := HS.out.lt
  go_wp2_with fail
  refine (clean_any a _ HG.out (by omega)).mono ?_
  rintro e w8 ⟨rfl, hk8⟩
  clear cS0 cS1 hzS
  clear cP0 cR0 fP0 fR0 cP1 cR1 fP1 fR1 cP2 cR2 fP2 fR2 cP3 cR3 fP3 fR3 hzP hzR
  have bS : Blk w8 w6.heap.size 9 #[Value.string (bs a), Value.string (bs b)] := (HS.out).kept hk8
  clear HS
  have HS := Lib.hid bS
  clear bS
  have bP : Blk w8 (w.heap.size + 1) 24 #[Value.string (bs []), Value.string (bs []), Value.string (bs []), Value.string (bs [])] := (HP.out).kept hk8
  have bR : Blk w8 w.heap.size 24 #[Value.string (bs []), Value.string (bs []), Value.string (bs []), Value.string (bs [])] := (HR.out).kept hk8
  have kk : Kept w w8 := (HK.out).trans hk8
  clear HP HR HK HG
  have HP := Lib.hid bP
  have HR := Lib.hid bR
  have HK := Lib.hid kk
  have HG := Lib.hid (hg.kept kk)
  clear bP bR kk hk8
  rw [HFA.out]
  have cP0 : w8.cell? ⟨w.heap.size + 1, 0, none⟩ = some (Value.string (bs [])) := HP.out.cell 0 _ rfl
  have cR0 : w8.cell? ⟨w.heap.size, 0, none⟩ = some (Value.string (bs [])) := HR.out.cell 0 _ rfl
  have fP0 := HP.out.free 0
  have fR0 := HR.out.free 0
  have cP1 : w8.cell? ⟨w.heap.size + 1, 1, none⟩ = some (Value.string (bs [])) := HP.out.cell 1 _ rfl
  have cR1 : w8.cell? ⟨w.heap.size, 1, none⟩ = some (Value.string (bs [])) := HR.out.cell 1 _ rfl
  have fP1 := HP.out.free 1
  have fR1 := HR.out.free 1
  have cP2 : w8.cell? ⟨w.heap.size + 1, 2, none⟩ = some (Value.string (bs [])) := HP.out.cell 2 _ rfl
  have cR2 : w8.cell? ⟨w.heap.size, 2, none⟩ = some (Value.string (bs [])) := HR.out.cell 2 _ rfl
  have fP2 := HP.out.free 2
  have fR2 := HR.out.free 2
  have cP3 : w8.cell? ⟨w.heap.size + 1, 3, none⟩ = some (Value.string (bs [])) := HP.out.cell 3 _ rfl
  have cR3 : w8.cell? ⟨w.heap.size, 3, none⟩ = some (Value.string (bs [])) := HR.out.cell 3 _ rfl
  have fP3 := HP.out.free 3
  have fR3 := HR.out.free 3
  have hzP := HP.out.lt
  have hzR := HR.out.lt
  have cS0 : w8.cell? ⟨w6.heap.size, 0, none⟩ = some (.string (bs a)) := HS.out.cell 0 _ rfl
  have cS1 : w8.cell? ⟨w6.heap.size, 1, none⟩ = some (.string (bs b)) := HS.out.cell 1 _ rfl
  have hzS := HS.out.lt
  go_wp2_with fail
  refine (clean_any b _ (hg.kept (kept_set HK.out (w.heap.size + 1) 0 _ (by omega))) (by omega)).mono ?_
  rintro e w9 ⟨rfl, hk9⟩
  clear cS0 cS1 hzS
  clear cP0 cR0 fP0 fR0 cP1 cR1 fP1 fR1 cP2 cR2 fP2 fR2 cP3 cR3 fP3 fR3 hzP hzR
  have bS : Blk w9 w6.heap.size 9 #[Value.string (bs a), Value.string (bs b)] := ((HS.out).other (w.heap.size + 1) 0 (Value.string (bs f)) hB).kept hk9
  clear HS
  have HS := Lib.hid bS
  clear bS
  have bP : Blk w9 (w.heap.size + 1) 24 #[Value.string (bs f), Value.string (bs []), Value.string (bs []), Value.string (bs [])] := ((HP.out).set 0 (Value.string (bs f))).kept hk9
  have bR : Blk w9 w.heap.size 24 #[Value.string (bs []), Value.string (bs []), Value.string (bs []), Value.string (bs [])] := ((HR.out).other (w.heap.size + 1) 0 (Value.string (bs f)) (by omega)).kept hk9
  have kk : Kept w w9 := (kept_set (HK.out) (w.heap.size + 1) 0 (Value.string (bs f)) (by omega)).trans hk9
  clear HP HR HK HG
  have HP := Lib.hid bP
  have HR := Lib.hid bR
  have HK := Lib.hid kk
  have HG := Lib.hid (hg.kept kk)
  clear bP bR kk hk9
  rw [HFB.out]
  have cP0 : w9.cell? ⟨w.heap.size + 1, 0, none⟩ = some (Value.string (bs f)) := HP.out.cell 0 _ rfl
  have cR0 : w9.cell? ⟨w.heap.size, 0, none⟩ = some (Value.string (bs [])) := HR.out.cell 0 _ rfl
  have fP0 := HP.out.free 0
  have fR0 := HR.out.free 0
  have cP1 : w9.cell? ⟨w.heap.size + 1, 1, none⟩ = some (Value.string (bs [])) := HP.out.cell 1 _ rfl
  have cR1 : w9.cell? ⟨w.heap.size, 1, none⟩ = some (Value.string (bs [])) := HR.out.cell 1 _ rfl
  have fP1 := HP.out.free 1
  have fR1 := HR.out.free 1
  have cP2 : w9.cell? ⟨w.heap.size + 1, 2, none⟩ = some (Value.string (bs [])) := HP.out.cell 2 _ rfl
  have cR2 : w9.cell? ⟨w.heap.size, 2, none⟩ = some (Value.string (bs [])) := HR.out.cell 2 _ rfl
  have fP2 := HP.out.free 2
  have fR2 := HR.out.free 2
  have cP3 : w9.cell? ⟨w.heap.size + 1, 3, none⟩ = some (Value.string (bs [])) := HP.out.cell 3 _ rfl
  have cR3 : w9.cell? ⟨w.heap.size, 3, none⟩ = some (Value.string (bs [])) := HR.out.cell 3 _ rfl
  have fP3 := HP.out.free 3
  have fR3 := HR.out.free 3
  have hzP := HP.out.lt
  have hzR := HR.out.lt
  go_wp2_with fail
  refine bodyPost_ret (v := .tuple #[persV f g [] [], .int .i64 0]) (by simp [results, Tryd.results13, go_sem, *]) rfl ⟨rfl, ?_⟩
  repeat (first | exact HK.out | refine kept_set ?_ _ _ _ (by omega) | exact (HK.out).trans (kept_drewN _ _))

set_option maxRecDepth 100000 in
set_option maxHeartbeats 3200000 in
theorem parse_none2_n (l : Bs) (w : World) (hg : Gnd w) (hs : l.length ≤ 1000000) (hl : lineB l = true) (t : Bs) (HC : Hid (cleanL l = t)) (HNB : Hid (∀ r, t ≠ 123 :: r)) (ht : t.length ≤ 1000001) (hcnt : t.count 44 ≤ 2) (HA1 : Hid (([] : Bs).any (inSet setC) = false)) (HA2 : Hid (t.any (inSet setN) = false)) (a b : Bs) (HSP : Hid (splitC 44 t = [a, b])) (ha : a.length ≤ 1000010) (hb : b.length ≤ 1000010) (HFA : Hid (cleanL a = [])) (g : Bs) (HFB : Hid (cleanL b = g))  :
    Calls Tryd.prog 13 #[.string (bs l)] w fun e w' => e = .returned (.tuple #[persV [] [] [] [], .int .i64 8]) ∧ Kept w w' := by
  have hcl := cleanL_le l
  go_enter Tryd.func13, Tryd.ntmps13
  go_wp2_with fail
  refine (line_any l _ (by omega)).mono ?_
  rintro e w1 ⟨rfl, n, rfl⟩
  rw [hl]
  go_wp2_with fail
  refine (clean_any l _ (hg.kept (((kept_alloc w _).trans (kept_alloc _ _)).trans (kept_drewN _ n))) (by omega)).mono ?_
  rintro e w2 ⟨rfl, hk2⟩
  have HP0 := Lib.hid ((Blk.new (w.alloc (.cells #[Value.string (bs []), Value.string (bs []), Value.string (bs []), Value.string (bs [])] 24)) 24 #[Value.string (bs []), Value.string (bs []), Value.string (bs []), Value.string (bs [])]).drewN n)
  have bP : Blk w2 (w.heap.size + 1) 24 #[Value.string (bs []), Value.string (bs []), Value.string (bs []), Value.string (bs [])] := by have := HP0.out.kept hk2; simpa using this
  have bR : Blk w2 w.heap.size 24 #[Value.string (bs []), Value.string (bs []), Value.string (bs []), Value.string (bs [])] := (((Blk.new w 24 #[Value.string (bs []), Value.string (bs []), Value.string (bs []), Value.string (bs [])]).alloc _).drewN n).kept hk2
  have kk : Kept w w2 := (((kept_alloc w _).trans (kept_alloc _ _)).trans (kept_drewN _ n)).trans hk2
  clear HP0
  have HP := Lib.hid bP
  have HR := Lib.hid bR
  have HK := Lib.hid kk
  have HG := Lib.hid (hg.kept kk)
  clear bP bR kk hk2
  rw [HC.out]
  go_wp2_with fail
  refine (cutp_no t 123 _ HNB.out).mono ?_
  rintro e w' ⟨rfl, rfl⟩
  have cP0 : w2.cell? ⟨w.heap.size + 1, 0, none⟩ = some (Value.string (bs [])) := HP.out.cell 0 _ rfl
  have cR0 : w2.cell? ⟨w.heap.size, 0, none⟩ = some (Value.string (bs [])) := HR.out.cell 0 _ rfl
  have fP0 := HP.out.free 0
  have fR0 := HR.out.free 0
  have cP1 : w2.cell? ⟨w.heap.size + 1, 1, none⟩ = some (Value.string (bs [])) := HP.out.cell 1 _ rfl
  have cR1 : w2.cell? ⟨w.heap.size, 1, none⟩ = some (Value.string (bs [])) := HR.out.cell 1 _ rfl
  have fP1 := HP.out.free 1
  have fR1 := HR.out.free 1
  have cP2 : w2.cell? ⟨w.heap.size + 1, 2, none⟩ = some (Value.string (bs [])) := HP.out.cell 2 _ rfl
  have cR2 : w2.cell? ⟨w.heap.size, 2, none⟩ = some (Value.string (bs [])) := HR.out.cell 2 _ rfl
  have fP2 := HP.out.free 2
  have fR2 := HR.out.free 2
  have cP3 : w2.cell? ⟨w.heap.size + 1, 3, none⟩ = some (Value.string (bs [])) := HP.out.cell 3 _ rfl
  have cR3 : w2.cell? ⟨w.heap.size, 3, none⟩ = some (Value.string (bs [])) := HR.out.cell 3 _ rfl
  have fP3 := HP.out.free 3
  have fR3 := HR.out.free 3
  have hzP := HP.out.lt
  have hzR := HR.out.lt
  go_wp2_with fail
  refine (count_any t 44 _).mono ?_
  rintro e w' ⟨rfl, rfl⟩
  go_wp2_with fail
  have HSC : Hid (setC = [44, 59, 123, 125]) := rfl
  have HSN : Hid (setN = [59, 123, 125]) := rfl
  rw [← HSC.out]
  refine (cany_any [] setC _ asciiC  (by decide) (by decide) (by simp)).mono ?_
  rintro e w5 ⟨rfl, hk5⟩
  rw [HA1.out]
  clear cP0 cR0 fP0 fR0 cP1 cR1 fP1 fR1 cP2 cR2 fP2 fR2 cP3 cR3 fP3 fR3 hzP hzR
  have bP : Blk w5 (w.heap.size + 1) 24 #[Value.string (bs []), Value.string (bs []), Value.string (bs []), Value.string (bs [])] := (HP.out).kept hk5
  have bR : Blk w5 w.heap.size 24 #[Value.string (bs []), Value.string (bs []), Value.string (bs []), Value.string (bs [])] := (HR.out).kept hk5
  have kk : Kept w w5 := (HK.out).trans hk5
  clear HP HR HK HG
  have HP := Lib.hid bP
  have HR := Lib.hid bR
  have HK := Lib.hid kk
  have HG := Lib.hid (hg.kept kk)
  clear bP bR kk hk5
  have cP0 : w5.cell? ⟨w.heap.size + 1, 0, none⟩ = some (Value.string (bs [])) := HP.out.cell 0 _ rfl
  have cR0 : w5.cell? ⟨w.heap.size, 0, none⟩ = some (Value.string (bs [])) := HR.out.cell 0 _ rfl
  have fP0 := HP.out.free 0
  have fR0 := HR.out.free 0
  have cP1 : w5.cell? ⟨w.heap.size + 1, 1, none⟩ = some (Value.string (bs [])) := HP.out.cell 1 _ rfl
  have cR1 : w5.cell? ⟨w.heap.size, 1, none⟩ = some (Value.string (bs [])) := HR.out.cell 1 _ rfl
  have fP1 := HP.out.free 1
  have fR1 := HR.out.free 1
  have cP2 : w5.cell? ⟨w.heap.size + 1, 2, none⟩ = some (Value.string (bs [])) := HP.out.cell 2 _ rfl
  have cR2 : w5.cell? ⟨w.heap.size, 2, none⟩ = some (Value.string (bs [])) := HR.out.cell 2 _ rfl
  have fP2 := HP.out.free 2
  have fR2 := HR.out.free 2
  have cP3 : w5.cell? ⟨w.heap.size + 1, 3, none⟩ = some (Value.string (bs [])) := HP.out.cell 3 _ rfl
  have cR3 : w5.cell? ⟨w.heap.size, 3, none⟩ = some (Value.string (bs [])) := HR.out.cell 3 _ rfl
  have fP3 := HP.out.free 3
  have fR3 := HR.out.free 3
  have hzP := HP.out.lt
  have hzR := HR.out.lt
  go_wp2_with fail
  rw [← HSN.out]
  refine (cany_any t setN _ asciiN (by decide) (by decide) (by omega)).mono ?_
  rintro e w6 ⟨rfl, hk6⟩
  rw [HA2.out]
  clear cP0 cR0 fP0 fR0 cP1 cR1 fP1 fR1 cP2 cR2 fP2 fR2 cP3 cR3 fP3 fR3 hzP hzR
  have bP : Blk w6 (w.heap.size + 1) 24 #[Value.string (bs []), Value.string (bs []), Value.string (bs []), Value.string (bs [])] := (HP.out).kept hk6
  have bR : Blk w6 w.heap.size 24 #[Value.string (bs []), Value.string (bs []), Value.string (bs []), Value.string (bs [])] := (HR.out).kept hk6
  have kk : Kept w w6 := (HK.out).trans hk6
  clear HP HR HK HG
  have HP := Lib.hid bP
  have HR := Lib.hid bR
  have HK := Lib.hid kk
  have HG := Lib.hid (hg.kept kk)
  clear bP bR kk hk6
  have cP0 : w6.cell? ⟨w.heap.size + 1, 0, none⟩ = some (Value.string (bs [])) := HP.out.cell 0 _ rfl
  have cR0 : w6.cell? ⟨w.heap.size, 0, none⟩ = some (Value.string (bs [])) := HR.out.cell 0 _ rfl
  have fP0 := HP.out.free 0
  have fR0 := HR.out.free 0
  have cP1 : w6.cell? ⟨w.heap.size + 1, 1, none⟩ = some (Value.string (bs [])) := HP.out.cell 1 _ rfl
  have cR1 : w6.cell? ⟨w.heap.size, 1, none⟩ = some (Value.string (bs [])) := HR.out.cell 1 _ rfl
  have fP1 := HP.out.free 1
  have fR1 := HR.out.free 1
  have cP2 : w6.cell? ⟨w.heap.size + 1, 2, none⟩ = some (Value.string (bs [])) := HP.out.cell 2 _ rfl
  have cR2 : w6.cell? ⟨w.heap.size, 2, none⟩ = some (Value.string (bs [])) := HR.out.cell 2 _ rfl
  have fP2 := HP.out.free 2
  have fR2 := HR.out.free 2
  have cP3 : w6.cell? ⟨w.heap.size + 1, 3, none⟩ = some (Value.string (bs [])) := HP.out.cell 3 _ rfl
  have cR3 : w6.cell? ⟨w.heap.size, 3, none⟩ = some (Value.string (bs [])) := HR.out.cell 3 _ rfl
  have fP3 := HP.out.free 3
  have fR3 := HR.out.free 3
  have hzP := HP.out.lt
  have hzR := HR.out.lt
  go_wp2_with fail
  refine (split_any t 44 _ HG.out (by omega)).mono ?_
  rintro e w7 ⟨rfl, hw7⟩
  have hk7 : Kept w6 w7 := by rw [hw7]; exact kept_alloc _ _
  have bS : Blk w7 w6.heap.size 9 (strCells (splitC 44 t)).toArray := by rw [hw7]; exact Blk.new _ _ _
  have hB : w6.heap.size ≠ w.heap.size + 1 := by omega
  clear cP0 cR0 fP0 fR0 cP1 cR1 fP1 fR1 cP2 cR2 fP2 fR2 cP3 cR3 fP3 fR3 hzP hzR
  have bP : Blk w7 (w.heap.size + 1) 24 #[Value.string (bs []), Value.string (bs []), Value.string (bs []), Value.string (bs [])] := (HP.out).kept hk7
  have bR : Blk w7 w.heap.size 24 #[Value.string (bs []), Value.string (bs []), Value.string (bs []), Value.string (bs [])] := (HR.out).kept hk7
  have kk : Kept w w7 := (HK.out).trans hk7
  clear HP HR HK HG
  have HP := Lib.hid bP
  have HR := Lib.hid bR
  have HK := Lib.hid kk
  have HG := Lib.hid (hg.kept kk)
  clear bP bR kk hk7
  clear hw7
  rw [HSP.out]
  rw [HSP.out] at bS
  have HS : Hid (Blk w7 w6.heap.size 9 #[Value.string (bs a), Value.string (bs b)]) := bS
  clear bS
  have cP0 : w7.cell? ⟨w.heap.size + 1, 0, none⟩ = some (Value.string (bs [])) := HP.out.cell 0 _ rfl
  have cR0 : w7.cell? ⟨w.heap.size, 0, none⟩ = some (Value.string (bs [])) := HR.out.cell 0 _ rfl
  have fP0 := HP.out.free 0
  have fR0 := HR.out.free 0
  have cP1 : w7.cell? ⟨w.heap.size + 1, 1, none⟩ = some (Value.string (bs [])) := HP.out.cell 1 _ rfl
  have cR1 : w7.cell? ⟨w.heap.size, 1, none⟩ = some (Value.string (bs [])) := HR.out.cell 1 _ rfl
  have fP1 := HP.out.free 1
  have fR1 := HR.out.free 1
  have cP2 : w7.cell? ⟨w.heap.size + 1, 2, none⟩ = some (Value.string (bs [])) := HP.out.cell 2 _ rfl
  have cR2 : w7.cell? ⟨w.heap.size, 2, none⟩ = some (Value.string (bs [])) := HR.out.cell 2 _ rfl
  have fP2 := HP.out.free 2
  have fR2 := HR.out.free 2
  have cP3 : w7.cell? ⟨w.heap.size + 1, 3, none⟩ = some (Value.string (bs [])) := HP.out.cell 3 _ rfl
  have cR3 : w7.cell? ⟨w.heap.size, 3, none⟩ = some (Value.string (bs [])) := HR.out.cell 3 _ rfl
  have fP3 := HP.out.free 3
  have fR3 := HR.out.free 3
  have hzP := HP.out.lt
  have hzR := HR.out.lt
  have cS0 : w7.cell? ⟨w6.heap.size, 0, none⟩ = some (.string (bs a)) := HS.out.cell 0 _ rfl
  have cS1 : w7.cell? ⟨w6.heap.size, 1, none⟩ = some (.string (bs b)) := HS.out.cell 1 _ rfl
  have hzS := HS.out.lt
  go_wp2_with fail
  refine (clean_any a _ HG.out (by omega)).mono ?_
  rintro e w8 ⟨rfl, hk8⟩
  clear cS0 cS1 hzS
  clear cP0 cR0 fP0 fR0 cP1 cR1 fP1 fR1 cP2 cR2 fP2 fR2 cP3 cR3 fP3 fR3 hzP hzR
  have bS : Blk w8 w6.heap.size 9 #[Value.string (bs a), Value.string (bs b)] := (HS.out).kept hk8
  clear HS
  have HS := Lib.hid bS
  clear bS
  have bP : Blk w8 (w.heap.size + 1) 24 #[Value.string (bs []), Value.string (bs []), Value.string (bs []), Value.string (bs [])] := (HP.out).kept hk8
  have bR : Blk w8 w.heap.size 24 #[Value.string (bs []), Value.string (bs []), Value.string (bs []), Value.string (bs [])] := (HR.out).kept hk8
  have kk : Kept w w8 := (HK.out).trans hk8
  clear HP HR HK HG
  have HP := Lib.hid bP
  have HR := Lib.hid bR
  have HK := Lib.hid kk
  have HG := Lib.hid (hg.kept kk)
  clear bP bR kk hk8
  rw [HFA.out]
  have cP0 : w8.cell? ⟨w.heap.size + 1, 0, none⟩ = some (Value.string (bs [])) := HP.out.cell 0 _ rfl
  have cR0 : w8.cell? ⟨w.heap.size, 0, none⟩ = some (Value.string (bs [])) := HR.out.cell 0 _ rfl
  have fP0 := HP.out.free 0
  have fR0 := HR.out.free 0
  have cP1 : w8.cell? ⟨w.heap.size + 1, 1, none⟩ = some (Value.string (bs [])) := HP.out.cell 1 _ rfl
  have cR1 : w8.cell? ⟨w.heap.size, 1, none⟩ = some (Value.string (bs [])) := HR.out.cell 1 _ rfl
  have fP1 := HP.out.free 1
  have fR1 := HR.out.free 1
  have cP2 : w8.cell? ⟨w.heap.size + 1, 2, none⟩ = some (Value.string (bs [])) := HP.out.cell 2 _ rfl
  have cR2 : w8.cell? ⟨w.heap.size, 2, none⟩ = some (Value.string (bs [])) := HR.out.cell 2 _ rfl
  have fP2 := HP.out.free 2
  have fR2 := HR.out.free 2
  have cP3 : w8.cell? ⟨w.heap.size + 1, 3, none⟩ = some (Value.string (bs [])) := HP.out.cell 3 _ rfl
  have cR3 : w8.cell? ⟨w.heap.size, 3, none⟩ = some (Value.string (bs [])) := HR.out.cell 3 _ rfl
  have fP3 := HP.out.free 3
  have fR3 := HR.out.free 3
  have hzP := HP.out.lt
  have hzR := HR.out.lt
  have cS0 : w8.cell? ⟨w6.heap.size, 0, none⟩ = some (.string (bs a)) := HS.out.cell 0 _ rfl
  have cS1 : w8.cell? ⟨w6.heap.size, 1, none⟩ = some (.string (bs b)) := HS.out.cell 1 _ rfl
  have hzS := HS.out.lt
  go_wp2_with fail
  refine (clean_any b _ (hg.kept (kept_set HK.out (w.heap.size + 1) 0 _ (by omega))) (by omega)).mono ?_
  rintro e w9 ⟨rfl, hk9⟩
  clear cS0 cS1 hzS
  clear cP0 cR0 fP0 fR0 cP1 cR1 fP1 fR1 cP2 cR2 fP2 fR2 cP3 cR3 fP3 fR3 hzP hzR
  have bS : Blk w9 w6.heap.size 9 #[Value.string (bs a), Value.string (bs b)] := ((HS.out).other (w.heap.size + 1) 0 (Value.string (bs [])) hB).kept hk9
  clear HS
  have HS := Lib.hid bS
  clear bS
  have bP : Blk w9 (w.heap.size + 1) 24 #[Value.string (bs []), Value.string (bs []), Value.string (bs []), Value.string (bs [])] := ((HP.out).set 0 (Value.string (bs []))).kept hk9
  have bR : Blk w9 w.heap.size 24 #[Value.string (bs []), Value.string (bs []), Value.string (bs []), Value.string (bs [])] := ((HR.out).other (w.heap.size + 1) 0 (Value.string (bs [])) (by omega)).kept hk9
  have kk : Kept w w9 := (kept_set (HK.out) (w.heap.size + 1) 0 (Value.string (bs [])) (by omega)).trans hk9
  clear HP HR HK HG
  have HP := Lib.hid bP
  have HR := Lib.hid bR
  have HK := Lib.hid kk
  have HG := Lib.hid (hg.kept kk)
  clear bP bR kk hk9
  rw [HFB.out]
  have cP0 : w9.cell? ⟨w.heap.size + 1, 0, none⟩ = some (Value.string (bs [])) := HP.out.cell 0 _ rfl
  have cR0 : w9.cell? ⟨w.heap.size, 0, none⟩ = some (Value.string (bs [])) := HR.out.cell 0 _ rfl
  have fP0 := HP.out.free 0
  have fR0 := HR.out.free 0
  have cP1 : w9.cell? ⟨w.heap.size + 1, 1, none⟩ = some (Value.string (bs [])) := HP.out.cell 1 _ rfl
  have cR1 : w9.cell? ⟨w.heap.size, 1, none⟩ = some (Value.string (bs [])) := HR.out.cell 1 _ rfl
  have fP1 := HP.out.free 1
  have fR1 := HR.out.free 1
  have cP2 : w9.cell? ⟨w.heap.size + 1, 2, none⟩ = some (Value.string (bs [])) := HP.out.cell 2 _ rfl
  have cR2 : w9.cell? ⟨w.heap.size, 2, none⟩ = some (Value.string (bs [])) := HR.out.cell 2 _ rfl
  have fP2 := HP.out.free 2
  have fR2 := HR.out.free 2
  have cP3 : w9.cell? ⟨w.heap.size + 1, 3, none⟩ = some (Value.string (bs [])) := HP.out.cell 3 _ rfl
  have cR3 : w9.cell? ⟨w.heap.size, 3, none⟩ = some (Value.string (bs [])) := HR.out.cell 3 _ rfl
  have fP3 := HP.out.free 3
  have fR3 := HR.out.free 3
  have hzP := HP.out.lt
  have hzR := HR.out.lt
  go_wp2_with fail
  refine bodyPost_ret (v := .tuple #[persV [] [] [] [], .int .i64 8]) (by simp [results, Tryd.results13, go_sem, *]) rfl ⟨rfl, ?_⟩
  repeat (first | exact HK.out | refine kept_set ?_ _ _ _ (by omega) | exact (HK.out).trans (kept_drewN _ _))

set_option maxRecDepth 100000 in
set_option maxHeartbeats 3200000 in
theorem parse_count_b (l : Bs) (w : World) (hg : Gnd w) (hs : l.length ≤ 1000000) (hl : lineB l = true) (r p t : Bs) (HC : Hid (cleanL l = 123 :: r)) (hr : r.length ≤ 1000001) (hbr : before 125 r < r.length) (HPC : Hid (cleanL (r.take (before 125 r)) = p)) (HRC : Hid (r.drop (before 125 r + 1) = t)) (hpl : p.length ≤ 1000010) (ht : t.length ≤ 1000001) (hcnt : 2 < t.count 44) :
    Calls Tryd.prog 13 #[.string (bs l)] w fun e w' => e = .returned (.tuple #[persV [] [] [] [], .int .i64 5]) ∧ Kept w w' := by
  have hcl := cleanL_le l
  go_enter Tryd.func13, Tryd.ntmps13
  go_wp2_with fail
  refine (line_any l _ (by omega)).mono ?_
  rintro e w1 ⟨rfl, n, rfl⟩
  rw [hl]
  go_wp2_with fail
  refine (clean_any l _ (hg.kept (((kept_alloc w _).trans (kept_alloc _ _)).trans (kept_drewN _ n))) (by omega)).mono ?_
  rintro e w2 ⟨rfl, hk2⟩
  have HP0 := Lib.hid ((Blk.new (w.alloc (.cells #[Value.string (bs []), Value.string (bs []), Value.string (bs []), Value.string (bs [])] 24)) 24 #[Value.string (bs []), Value.string (bs []), Value.string (bs []), Value.string (bs [])]).drewN n)
  have bP : Blk w2 (w.heap.size + 1) 24 #[Value.string (bs []), Value.string (bs []), Value.string (bs []), Value.string (bs [])] := by have := HP0.out.kept hk2; simpa using this
  have bR : Blk w2 w.heap.size 24 #[Value.string (bs []), Value.string (bs []), Value.string (bs []), Value.string (bs [])] := (((Blk.new w 24 #[Value.string (bs []), Value.string (bs []), Value.string (bs []), Value.string (bs [])]).alloc _).drewN n).kept hk2
  have kk : Kept w w2 := (((kept_alloc w _).trans (kept_alloc _ _)).trans (kept_drewN _ n)).trans hk2
  clear HP0
  have HP := Lib.hid bP
  have HR := Lib.hid bR
  have HK := Lib.hid kk
  have HG := Lib.hid (hg.kept kk)
  clear bP bR kk hk2
  rw [HC.out]
  go_wp2_with fail
  refine (cutp_yes r 123 _).mono ?_
  rintro e w' ⟨rfl, rfl⟩
  go_wp2_with fail
  refine (cut_any r 125 _ HG.out (by omega)).mono ?_
  rintro e w3 ⟨rfl, m, rfl⟩
  rw [if_pos hbr]
  go_wp2_with fail
  refine (clean_any (r.take (before 125 r)) _ (by exact HG.out) (by simp; omega)).mono ?_
  rintro e w4 ⟨rfl, hk4'⟩
  have hk4 := (kept_drewN w2 m).trans hk4'
  clear hk4'
  have bP : Blk w4 (w.heap.size + 1) 24 #[Value.string (bs []), Value.string (bs []), Value.string (bs []), Value.string (bs [])] := (HP.out).kept hk4
  have bR : Blk w4 w.heap.size 24 #[Value.string (bs []), Value.string (bs []), Value.string (bs []), Value.string (bs [])] := (HR.out).kept hk4
  have kk : Kept w w4 := (HK.out).trans hk4
  clear HP HR HK HG
  have HP := Lib.hid bP
  have HR := Lib.hid bR
  have HK := Lib.hid kk
  have HG := Lib.hid (hg.kept kk)
  clear bP bR kk hk4
  rw [HPC.out, HRC.out]
  have cP0 : w4.cell? ⟨w.heap.size + 1, 0, none⟩ = some (Value.string (bs [])) := HP.out.cell 0 _ rfl
  have cR0 : w4.cell? ⟨w.heap.size, 0, none⟩ = some (Value.string (bs [])) := HR.out.cell 0 _ rfl
  have fP0 := HP.out.free 0
  have fR0 := HR.out.free 0
  have cP1 : w4.cell? ⟨w.heap.size + 1, 1, none⟩ = some (Value.string (bs [])) := HP.out.cell 1 _ rfl
  have cR1 : w4.cell? ⟨w.heap.size, 1, none⟩ = some (Value.string (bs [])) := HR.out.cell 1 _ rfl
  have fP1 := HP.out.free 1
  have fR1 := HR.out.free 1
  have cP2 : w4.cell? ⟨w.heap.size + 1, 2, none⟩ = some (Value.string (bs [])) := HP.out.cell 2 _ rfl
  have cR2 : w4.cell? ⟨w.heap.size, 2, none⟩ = some (Value.string (bs [])) := HR.out.cell 2 _ rfl
  have fP2 := HP.out.free 2
  have fR2 := HR.out.free 2
  have cP3 : w4.cell? ⟨w.heap.size + 1, 3, none⟩ = some (Value.string (bs [])) := HP.out.cell 3 _ rfl
  have cR3 : w4.cell? ⟨w.heap.size, 3, none⟩ = some (Value.string (bs [])) := HR.out.cell 3 _ rfl
  have fP3 := HP.out.free 3
  have fR3 := HR.out.free 3
  have hzP := HP.out.lt
  have hzR := HR.out.lt
  go_wp2_with fail
  refine (count_any t 44 _).mono ?_
  rintro e w' ⟨rfl, rfl⟩
  go_wp2_with fail
  refine bodyPost_ret (v := .tuple #[persV [] [] [] [], .int .i64 5]) (by simp [results, Tryd.results13, go_sem, *]) rfl ⟨rfl, ?_⟩
  repeat (first | exact HK.out | refine kept_set ?_ _ _ _ (by omega) | exact (HK.out).trans (kept_drewN _ _))

set_option maxRecDepth 100000 in
set_option maxHeartbeats 3200000 in
theorem parse_any1_b (l : Bs) (w : World) (hg : Gnd w) (hs : l.length ≤ 1000000) (hl : lineB l = true) (r p t : Bs) (HC : Hid (cleanL l = 123 :: r)) (hr : r.length ≤ 1000001) (hbr : before 125 r < r.length) (HPC : Hid (cleanL (r.take (before 125 r)) = p)) (HRC : Hid (r.drop (before 125 r + 1) = t)) (hpl : p.length ≤ 1000010) (ht : t.length ≤ 1000001) (hcnt : t.count 44 ≤ 2) (HA1 : Hid (p.any (inSet setC) = true)) :
    Calls Tryd.prog 13 #[.string (bs l)] w fun e w' => e = .returned (.tuple #[persV [] [] [] [], .int .i64 5]) ∧ Kept w w' := by
  have hcl := cleanL_le l
  go_enter Tryd.func13, Tryd.ntmps13
  go_wp2_with fail
  refine (line_any l _ (by omega)).mono ?_
  rintro e w1 ⟨rfl, n, rfl⟩
  rw [hl]
  go_wp2_with fail
  refine (clean_any l _ (hg.kept (((kept_alloc w _).trans (kept_alloc _ _)).trans (kept_drewN _ n))) (by omega)).mono ?_
  rintro e w2 ⟨rfl, hk2⟩
  have HP0 := Lib.hid ((Blk.new (w.alloc (.cells #[Value.string (bs []), Value.string (bs []), Value.string (bs []), Value.string (bs [])] 24)) 24 #[Value.string (bs []), Value.string (bs []), Value.string (bs []), Value.string (bs [])]).drewN n)
  have bP : Blk w2 (w.heap.size + 1) 24 #[Value.string (bs []), Value.string (bs []), Value.string (bs []), Value.string (bs [])] := by have := HP0.out.kept hk2; simpa using this
  have bR : Blk w2 w.heap.size 24 #[Value.string (bs []), Value.string (bs []), Value.string (bs []), Value.string (bs [])] := (((Blk.new w 24 #[Value.string (bs []), Value.string (bs []), Value.string (bs []), Value.string (bs [])]).alloc _).drewN n).kept hk2
  have kk : Kept w w2 := (((kept_alloc w _).trans (kept_alloc _ _)).trans (kept_drewN _ n)).trans hk2
  clear HP0
  have HP := Lib.hid bP
  have HR := Lib.hid bR
  have HK := Lib.hid kk
  have HG := Lib.hid (hg.kept kk)
  clear bP bR kk hk2
  rw [HC.out]
  go_wp2_with fail
  refine (cutp_yes r 123 _).mono ?_
  rintro e w' ⟨rfl, rfl⟩
  go_wp2_with fail
  refine (cut_any r 125 _ HG.out (by omega)).mono ?_
  rintro e w3 ⟨rfl, m, rfl⟩
  rw [if_pos hbr]
  go_wp2_with fail
  refine (clean_any (r.take (before 125 r)) _ (by exact HG.out) (by simp; omega)).mono ?_
  rintro e w4 ⟨rfl, hk4'⟩
  have hk4 := (kept_drewN w2 m).trans hk4'
  clear hk4'
  have bP : Blk w4 (w.heap.size + 1) 24 #[Value.string (bs []), Value.string (bs []), Value.string (bs []), Value.string (bs [])] := (HP.out).kept hk4
  have bR : Blk w4 w.heap.size 24 #[Value.string (bs []), Value.string (bs []), Value.string (bs []), Value.string (bs [])] := (HR.out).kept hk4
  have kk : Kept w w4 := (HK.out).trans hk4
  clear HP HR HK HG
  have HP := Lib.hid bP
  have HR := Lib.hid bR
  have HK := Lib.hid kk
  have HG := Lib.hid (hg.kept kk)
  clear bP bR kk hk4
  rw [HPC.out, HRC.out]
  have cP0 : w4.cell? ⟨w.heap.size + 1, 0, none⟩ = some (Value.string (bs [])) := HP.out.cell 0 _ rfl
  have cR0 : w4.cell? ⟨w.heap.size, 0, none⟩ = some (Value.string (bs [])) := HR.out.cell 0 _ rfl
  have fP0 := HP.out.free 0
  have fR0 := HR.out.free 0
  have cP1 : w4.cell? ⟨w.heap.size + 1, 1, none⟩ = some (Value.string (bs [])) := HP.out.cell 1 _ rfl
  have cR1 : w4.cell? ⟨w.heap.size, 1, none⟩ = some (Value.string (bs [])) := HR.out.cell 1 _ rfl
  have fP1 := HP.out.free 1
  have fR1 := HR.out.free 1
  have cP2 : w4.cell? ⟨w.heap.size + 1, 2, none⟩ = some (Value.string (bs [])) := HP.out.cell 2 _ rfl
  have cR2 : w4.cell? ⟨w.heap.size, 2, none⟩ = some (Value.string (bs [])) := HR.out.cell 2 _ rfl
  have fP2 := HP.out.free 2
  have fR2 := HR.out.free 2
  have cP3 : w4.cell? ⟨w.heap.size + 1, 3, none⟩ = some (Value.string (bs [])) := HP.out.cell 3 _ rfl
  have cR3 : w4.cell? ⟨w.heap.size, 3, none⟩ = some (Value.string (bs [])) := HR.out.cell 3 _ rfl
  have fP3 := HP.out.free 3
  have fR3 := HR.out.free 3
  have hzP := HP.out.lt
  have hzR := HR.out.lt
  go_wp2_with fail
  refine (count_any t 44 _).mono ?_
  rintro e w' ⟨rfl, rfl⟩
  go_wp2_with fail
  have HSC : Hid (setC = [44, 59, 123, 125]) := rfl
  have HSN : Hid (setN = [59, 123, 125]) := rfl
  rw [← HSC.out]
  refine (cany_any p setC _ asciiC (by decide) (by decide) (by omega)).mono ?_
  rintro e w5 ⟨rfl, hk5⟩
  rw [HA1.out]
  clear cP0 cR0 fP0 fR0 cP1 cR1 fP1 fR1 cP2 cR2 fP2 fR2 cP3 cR3 fP3 fR3 hzP hzR
  have bP : Blk w5 (w.heap.size + 1) 24 #[Value.string (bs []), Value.string (bs []), Value.string (bs p), Value.string (bs [])] := ((HP.out).set 2 (Value.string (bs p))).kept hk5
  have bR : Blk w5 w.heap.size 24 #[Value.string (bs []), Value.string (bs []), Value.string (bs []), Value.string (bs [])] := ((HR.out).other (w.heap.size + 1) 2 (Value.string (bs p)) (by omega)).kept hk5
  have kk : Kept w w5 := (kept_set (HK.out) (w.heap.size + 1) 2 (Value.string (bs p)) (by omega)).trans hk5
  clear HP HR HK HG
  have HP := Lib.hid bP
  have HR := Lib.hid bR
  have HK := Lib.hid kk
  have HG := Lib.hid (hg.kept kk)
  clear bP bR kk hk5
  have cP0 : w5.cell? ⟨w.heap.size + 1, 0, none⟩ = some (Value.string (bs [])) := HP.out.cell 0 _ rfl
  have cR0 : w5.cell? ⟨w.heap.size, 0, none⟩ = some (Value.string (bs [])) := HR.out.cell 0 _ rfl
  have fP0 := HP.out.free 0
  have fR0 := HR.out.free 0
  have cP1 : w5.cell? ⟨w.heap.size + 1, 1, none⟩ = some (Value.string (bs [])) := HP.out.cell 1 _ rfl
  have cR1 : w5.cell? ⟨w.heap.size, 1, none⟩ = some (Value.string (bs [])) := HR.out.cell 1 _ rfl
  have fP1 := HP.out.free 1
  have fR1 := HR.out.free 1
  have cP2 : w5.cell? ⟨w.heap.size + 1, 2, none⟩ = some (Value.string (bs p)) := HP.out.cell 2 _ rfl
  have cR2 : w5.cell? ⟨w.heap.size, 2, none⟩ = some (Value.string (bs [])) := HR.out.cell 2 _ rfl
  have fP2 := HP.out.free 2
  have fR2 := HR.out.free 2
  have cP3 : w5.cell? ⟨w.heap.size + 1, 3, none⟩ = some (Value.string (bs [])) := HP.out.cell 3 _ rfl
  have cR3 : w5.cell? ⟨w.heap.size, 3, none⟩ = some (Value.string (bs [])) := HR.out.cell 3 _ rfl
  have fP3 := HP.out.free 3
  have fR3 := HR.out.free 3
  have hzP := HP.out.lt
  have hzR := HR.out.lt
  go_wp2_with fail
  refine bodyPost_ret (v := .tuple #[persV [] [] [] [], .int .i64 5]) (by simp [results, Tryd.results13, go_sem, *]) rfl ⟨rfl, ?_⟩
  repeat (first | exact HK.out | refine kept_set ?_ _ _ _ (by omega) | exact (HK.out).trans (kept_drewN _ _))

set_option maxRecDepth 100000 in
set_option maxHeartbeats 3200000 in
theorem parse_any2_b (l : Bs) (w : World) (hg : Gnd w) (hs : l.length ≤ 1000000) (hl : lineB l = true) (r p t : Bs) (HC : Hid (cleanL l = 123 :: r)) (hr : r.length ≤ 1000001) (hbr : before 125 r < r.length) (HPC : Hid (cleanL (r.take (before 125 r)) = p)) (HRC : Hid (r.drop (before 125 r + 1) = t)) (hpl : p.length ≤ 1000010) (ht : t.length ≤ 1000001) (hcnt : t.count 44 ≤ 2) (HA1 : Hid ((p : Bs).any (inSet setC) = false)) (HA2 : Hid (t.any (inSet setN) = true)) :
    Calls Tryd.prog 13 #[.string (bs l)] w fun e w' => e = .returned (.tuple #[persV [] [] [] [], .int .i64 5]) ∧ Kept w w' := by
  have hcl := cleanL_le l
  go_enter Tryd.func13, Tryd.ntmps13
  go_wp2_with fail
  refine (line_any l _ (by omega)).mono ?_
  rintro e w1 ⟨rfl, n, rfl⟩
  rw [hl]
  go_wp2_with fail
  refine (clean_any l _ (hg.kept (((kept_alloc w _).trans (kept_alloc _ _)).trans (kept_drewN _ n))) (by omega)).mono ?_
  rintro e w2 ⟨rfl, hk2⟩
  have HP0 := Lib.hid ((Blk.new (w.alloc (.cells #[Value.string (bs []), Value.string (bs []), Value.string (bs []), Value.string (bs [])] 24)) 24 #[Value.string (bs []), Value.string (bs []), Value.string (bs []), Value.string (bs [])]).drewN n)
  have bP : Blk w2 (w.heap.size + 1) 24 #[Value.string (bs []), Value.string (bs []), Value.string (bs []), Value.string (bs [])] := by have := HP0.out.kept hk2; simpa using this
  have bR : Blk w2 w.heap.size 24 #[Value.string (bs []), Value.string (bs []), Value.string (bs []), Value.string (bs [])] := (((Blk.new w 24 #[Value.string (bs []), Value.string (bs []), Value.string (bs []), Value.string (bs [])]).alloc _).drewN n).kept hk2
  have kk : Kept w w2 := (((kept_alloc w _).trans (kept_alloc _ _)).trans (kept_drewN _ n)).trans hk2
  clear HP0
  have HP := Lib.hid bP
  have HR := Lib.hid bR
  have HK := Lib.hid kk
  have HG := Lib.hid (hg.kept kk)
  clear bP bR kk hk2
  rw [HC.out]
  go_wp2_with fail
  refine (cutp_yes r 123 _).mono ?_
  rintro e w' ⟨rfl, rfl⟩
  go_wp2_with fail
  refine (cut_any r 125 _ HG.out (by omega)).mono ?_
  rintro e w3 ⟨rfl, m, rfl⟩
  rw [if_pos hbr]
  go_wp2_with fail
  refine (clean_any (r.take (before 125 r)) _ (by exact HG.out) (by simp; omega)).mono ?_
  rintro e w4 ⟨rfl, hk4'⟩
  have hk4 := (kept_drewN w2 m).trans hk4'
  clear hk4'
  have bP : Blk w4 (w.heap.size + 1) 24 #[Value.string (bs []), Value.string (bs []), Value.string (bs []), Value.string (bs [])] := (HP.out).kept hk4
  have bR : Blk w4 w.heap.size 24 #[Value.string (bs []), Value.string (bs []), Value.string (bs []), Value.string (bs [])] := (HR.out).kept hk4
  have kk : Kept w w4 := (HK.out).trans hk4
  clear HP HR HK HG
  have HP := Lib.hid bP
  have HR := Lib.hid bR
  have HK := Lib.hid kk
  have HG := Lib.hid (hg.kept kk)
  clear bP bR kk hk4
  rw [HPC.out, HRC.out]
  have cP0 : w4.cell? ⟨w.heap.size + 1, 0, none⟩ = some (Value.string (bs [])) := HP.out.cell 0 _ rfl
  have cR0 : w4.cell? ⟨w.heap.size, 0, none⟩ = some (Value.string (bs [])) := HR.out.cell 0 _ rfl
  have fP0 := HP.out.free 0
  have fR0 := HR.out.free 0
  have cP1 : w4.cell? ⟨w.heap.size + 1, 1, none⟩ = some (Value.string (bs [])) := HP.out.cell 1 _ rfl
  have cR1 : w4.cell? ⟨w.heap.size, 1, none⟩ = some (Value.string (bs [])) := HR.out.cell 1 _ rfl
  have fP1 := HP.out.free 1
  have fR1 := HR.out.free 1
  have cP2 : w4.cell? ⟨w.heap.size + 1, 2, none⟩ = some (Value.string (bs [])) := HP.out.cell 2 _ rfl
  have cR2 : w4.cell? ⟨w.heap.size, 2, none⟩ = some (Value.string (bs [])) := HR.out.cell 2 _ rfl
  have fP2 := HP.out.free 2
  have fR2 := HR.out.free 2
  have cP3 : w4.cell? ⟨w.heap.size + 1, 3, none⟩ = some (Value.string (bs [])) := HP.out.cell 3 _ rfl
  have cR3 : w4.cell? ⟨w.heap.size, 3, none⟩ = some (Value.string (bs [])) := HR.out.cell 3 _ rfl
  have fP3 := HP.out.free 3
  have fR3 := HR.out.free 3
  have hzP := HP.out.lt
  have hzR := HR.out.lt
  go_wp2_with fail
  refine (count_any t 44 _).mono ?_
  rintro e w' ⟨rfl, rfl⟩
  go_wp2_with fail
  have HSC : Hid (setC = [44, 59, 123, 125]) := rfl
  have HSN : Hid (setN = [59, 123, 125]) := rfl
  rw [← HSC.out]
  refine (cany_any p setC _ asciiC (by decide) (by decide) (by omega)).mono ?_
  rintro e w5 ⟨rfl, hk5⟩
  rw [HA1.out]
  clear cP0 cR0 fP0 fR0 cP1 cR1 fP1 fR1 cP2 cR2 fP2 fR2 cP3 cR3 fP3 fR3 hzP hzR
  have bP : Blk w5 (w.heap.size + 1) 24 #[Value.string (bs []), Value.string (bs []), Value.string (bs p), Value.string (bs [])] := ((HP.out).set 2 (Value.string (bs p))).kept hk5
  have bR : Blk w5 w.heap.size 24 #[Value.string (bs []), Value.string (bs []), Value.string (bs []), Value.string (bs [])] := ((HR.out).other (w.heap.size + 1) 2 (Value.string (bs p)) (by omega)).kept hk5
  have kk : Kept w w5 := (kept_set (HK.out) (w.heap.size + 1) 2 (Value.string (bs p)) (by omega)).trans hk5
  clear HP HR HK HG
  have HP := Lib.hid bP
  have HR := Lib.hid bR
  have HK := Lib.hid kk
  have HG := Lib.hid (hg.kept kk)
  clear bP bR kk hk5
  have cP0 : w5.cell? ⟨w.heap.size + 1, 0, none⟩ = some (Value.string (bs [])) := HP.out.cell 0 _ rfl
  have cR0 : w5.cell? ⟨w.heap.size, 0, none⟩ = some (Value.string (bs [])) := HR.out.cell 0 _ rfl
  have fP0 := HP.out.free 0
  have fR0 := HR.out.free 0
  have cP1 : w5.cell? ⟨w.heap.size + 1, 1, none⟩ = some (Value.string (bs [])) := HP.out.cell 1 _ rfl
  have cR1 : w5.cell? ⟨w.heap.size, 1, none⟩ = some (Value.string (bs [])) := HR.out.cell 1 _ rfl
  have fP1 := HP.out.free 1
  have fR1 := HR.out.free 1
  have cP2 : w5.cell? ⟨w.heap.size + 1, 2, none⟩ = some (Value.string (bs p)) := HP.out.cell 2 _ rfl
  have cR2 : w5.cell? ⟨w.heap.size, 2, none⟩ = some (Value.string (bs [])) := HR.out.cell 2 _ rfl
  have fP2 := HP.out.free 2
  have fR2 := HR.out.free 2
  have cP3 : w5.cell? ⟨w.heap.size + 1, 3, none⟩ = some (Value.string (bs [])) := HP.out.cell 3 _ rfl
  have cR3 : w5.cell? ⟨w.heap.size, 3, none⟩ = some (Value.string (bs [])) := HR.out.cell 3 _ rfl
  have fP3 := HP.out.free 3
  have fR3 := HR.out.free 3
  have hzP := HP.out.lt
  have hzR := HR.out.lt
  go_wp2_with fail
  rw [← HSN.out]
  refine (cany_any t setN _ asciiN (by decide) (by decide) (by omega)).mono ?_
  rintro e w6 ⟨rfl, hk6⟩
  rw [HA2.out]
  clear cP0 cR0 fP0 fR0 cP1 cR1 fP1 fR1 cP2 cR2 fP2 fR2 cP3 cR3 fP3 fR3 hzP hzR
  have bP : Blk w6 (w.heap.size + 1) 24 #[Value.string (bs []), Value.string (bs []), Value.string (bs p), Value.string (bs [])] := (HP.out).kept hk6
  have bR : Blk w6 w.heap.size 24 #[Value.string (bs []), Value.string (bs []), Value.string (bs []), Value.string (bs [])] := (HR.out).kept hk6
  have kk : Kept w w6 := (HK.out).trans hk6
  clear HP HR HK HG
  have HP := Lib.hid bP
  have HR := Lib.hid bR
  have HK := Lib.hid kk
  have HG := Lib.hid (hg.kept kk)
  clear bP bR kk hk6
  have cP0 : w6.cell? ⟨w.heap.size + 1, 0, none⟩ = some (Value.string (bs [])) := HP.out.cell 0 _ rfl
  have cR0 : w6.cell? ⟨w.heap.size, 0, none⟩ = some (Value.string (bs [])) := HR.out.cell 0 _ rfl
  have fP0 := HP.out.free 0
  have fR0 := HR.out.free 0
  have cP1 : w6.cell? ⟨w.heap.size + 1, 1, none⟩ = some (Value.string (bs [])) := HP.out.cell 1 _ rfl
  have cR1 : w6.cell? ⟨w.heap.size, 1, none⟩ = some (Value.string (bs [])) := HR.out.cell 1 _ rfl
  have fP1 := HP.out.free 1
  have fR1 := HR.out.free 1
  have cP2 : w6.cell? ⟨w.heap.size + 1, 2, none⟩ = some (Value.string (bs p)) := HP.out.cell 2 _ rfl
  have cR2 : w6.cell? ⟨w.heap.size, 2, none⟩ = some (Value.string (bs [])) := HR.out.cell 2 _ rfl
  have fP2 := HP.out.free 2
  have fR2 := HR.out.free 2
  have cP3 : w6.cell? ⟨w.heap.size + 1, 3, none⟩ = some (Value.string (bs [])) := HP.out.cell 3 _ rfl
  have cR3 : w6.cell? ⟨w.heap.size, 3, none⟩ = some (Value.string (bs [])) := HR.out.cell 3 _ rfl
  have fP3 := HP.out.free 3
  have fR3 := HR.out.free 3
  have hzP := HP.out.lt
  have hzR := HR.out.lt
  go_wp2_with fail
  refine bodyPost_ret (v := .tuple #[persV [] [] [] [], .int .i64 5]) (by simp [results, Tryd.results13, go_sem, *]) rfl ⟨rfl, ?_⟩
  repeat (first | exact HK.out | refine kept_set ?_ _ _ _ (by omega) | exact (HK.out).trans (kept_drewN _ _))

set_option maxRecDepth 100000 in
set_option maxHeartbeats 3200000 in
theorem parse_ok1_b (l : Bs) (w : World) (hg : Gnd w) (hs : l.length ≤ 1000000) (hl : lineB l = true) (r p t : Bs) (HC : Hid (cleanL l = 123 :: r)) (hr : r.length ≤ 1000001) (hbr : before 125 r < r.length) (HPC : Hid (cleanL (r.take (before 125 r)) = p)) (HRC : Hid (r.drop (before 125 r + 1) = t)) (hpl : p.length ≤ 1000010) (ht : t.length ≤ 1000001) (hcnt : t.count 44 ≤ 2) (HA1 : Hid ((p : Bs).any (inSet setC) = false)) (HA2 : Hid (t.any (inSet setN) = false)) (a : Bs) (HSP : Hid (splitC 44 t = [a])) (ha : a.length ≤ 1000010) (f : Bs) (HFA : Hid (cleanL a = f)) (hf : ¬ f = []) (hfe : f.isEmpty = false) :
    Calls Tryd.prog 13 #[.string (bs l)] w fun e w' => e = .returned (.tuple #[persV f [] p [], .int .i64 0]) ∧ Kept w w' := by
  have hcl := cleanL_le l
  go_enter Tryd.func13, Tryd.ntmps13
  go_wp2_with fail
  refine (line_any l _ (by omega)).mono ?_
  rintro e w1 ⟨rfl, n, rfl⟩
  rw [hl]
  go_wp2_with fail
  refine (clean_any l _ (hg.kept (((kept_alloc w _).trans (kept_alloc _ _)).trans (kept_drewN _ n))) (by omega)).mono ?_
  rintro e w2 ⟨rfl, hk2⟩
  have HP0 := Lib.hid ((Blk.new (w.alloc (.cells #[Value.string (bs []), Value.string (bs []), Value.string (bs []), Value.string (bs [])] 24)) 24 #[Value.string (bs []), Value.string (bs []), Value.string (bs []), Value.string (bs [])]).drewN n)
  have bP : Blk w2 (w.heap.size + 1) 24 #[Value.string (bs []), Value.string (bs []), Value.string (bs []), Value.string (bs [])] := by have := HP0.out.kept hk2; simpa using this
  have bR : Blk w2 w.heap.size 24 #[Value.string (bs []), Value.string (bs []), Value.string (bs []), Value.string (bs [])] := (((Blk.new w 24 #[Value.string (bs []), Value.string (bs []), Value.string (bs []), Value.string (bs [])]).alloc _).drewN n).kept hk2
  have kk : Kept w w2 := (((kept_alloc w _).trans (kept_alloc _ _)).trans (kept_drewN _ n)).trans hk2
  clear HP0
  have HP := Lib.hid bP
  have HR := Lib.hid bR
  have HK := Lib.hid kk
  have HG := Lib.hid (hg.kept kk)
  clear bP bR kk hk2
  rw [HC.out]
  go_wp2_with fail
  refine (cutp_yes r 123 _).mono ?_
  rintro e w' ⟨rfl, rfl⟩
  go_wp2_with fail
  refine (cut_any r 125 _ HG.out (by omega)).mono ?_
  rintro e w3 ⟨rfl, m, rfl⟩
  rw [if_pos hbr]
  go_wp2_with fail
  refine (clean_any (r.take (before 125 r)) _ (by exact HG.out) (by simp; omega)).mono ?_
  rintro e w4 ⟨rfl, hk4'⟩
  have hk4 := (kept_drewN w2 m).trans hk4'
  clear hk4'
  have bP : Blk w4 (w.heap.size + 1) 24 #[Value.string (bs []), Value.string (bs []), Value.string (bs []), Value.string (bs [])] := (HP.out).kept hk4
  have bR : Blk w4 w.heap.size 24 #[Value.string (bs []), Value.string (bs []), Value.string (bs []), Value.string (bs [])] := (HR.out).kept hk4
  have kk : Kept w w4 := (HK.out).trans hk4
  clear HP HR HK HG
  have HP := Lib.hid bP
  have HR := Lib.hid bR
  have HK := Lib.hid kk
  have HG := Lib.hid (hg.kept kk)
  clear bP bR kk hk4
  rw [HPC.out, HRC.out]
  have cP0 : w4.cell? ⟨w.heap.size + 1, 0, none⟩ = some (Value.string (bs [])) := HP.out.cell 0 _ rfl
  have cR0 : w4.cell? ⟨w.heap.size, 0, none⟩ = some (Value.string (bs [])) := HR.out.cell 0 _ rfl
  have fP0 := HP.out.free 0
  have fR0 := HR.out.free 0
  have cP1 : w4.cell? ⟨w.heap.size + 1, 1, none⟩ = some (Value.string (bs [])) := HP.out.cell 1 _ rfl
  have cR1 : w4.cell? ⟨w.heap.size, 1, none⟩ = some (Value.string (bs [])) := HR.out.cell 1 _ rfl
  have fP1 := HP.out.free 1
  have fR1 := HR.out.free 1
  have cP2 : w4.cell? ⟨w.heap.size + 1, 2, none⟩ = some (Value.string (bs [])) := HP.out.cell 2 _ rfl
  have cR2 : w4.cell? ⟨w.heap.size, 2, none⟩ = some (Value.string (bs [])) := HR.out.cell 2 _ rfl
  have fP2 := HP.out.free 2
  have fR2 := HR.out.free 2
  have cP3 : w4.cell? ⟨w.heap.size + 1, 3, none⟩ = some (Value.string (bs [])) := HP.out.cell 3 _ rfl
  have cR3 : w4.cell? ⟨w.heap.size, 3, none⟩ = some (Value.string (bs [])) := HR.out.cell 3 _ rfl
  have fP3 := HP.out.free 3
  have fR3 := HR.out.free 3
  have hzP := HP.out.lt
  have hzR := HR.out.lt
  go_wp2_with fail
  refine (count_any t 44 _).mono ?_
  rintro e w' ⟨rfl, rfl⟩
  go_wp2_with fail
  have HSC : Hid (setC = [44, 59, 123, 125]) := rfl
  have HSN : Hid (setN = [59, 123, 125]) := rfl
  rw [← HSC.out]
  refine (cany_any p setC _ asciiC (by decide) (by decide) (by omega)).mono ?_
  rintro e w5 ⟨rfl, hk5⟩
  rw [HA1.out]
  clear cP0 cR0 fP0 fR0 cP1 cR1 fP1 fR1 cP2 cR2 fP2 fR2 cP3 cR3 fP3 fR3 hzP hzR
  have bP : Blk w5 (w.heap.size + 1) 24 #[Value.string (bs []), Value.string (bs []), Value.string (bs p), Value.string (bs [])] := ((HP.out).set 2 (Value.string (bs p))).kept hk5
  have bR : Blk w5 w.heap.size 24 #[Value.string (bs []), Value.string (bs []), Value.string (bs []), Value.string (bs [])] := ((HR.out).other (w.heap.size + 1) 2 (Value.string (bs p)) (by omega)).kept hk5
  have kk : Kept w w5 := (kept_set (HK.out) (w.heap.size + 1) 2 (Value.string (bs p)) (by omega)).trans hk5
  clear HP HR HK HG
  have HP := Lib.hid bP
  have HR := Lib.hid bR
  have HK := Lib.hid kk
  have HG := Lib.hid (hg.kept kk)
  clear bP bR kk hk5
  have cP0 : w5.cell? ⟨w.heap.size + 1, 0, none⟩ = some (Value.string (bs [])) := HP.out.cell 0 _ rfl
  have cR0 : w5.cell? ⟨w.heap.size, 0, none⟩ = some (Value.string (bs [])) := HR.out.cell 0 _ rfl
  have fP0 := HP.out.free 0
  have fR0 := HR.out.free 0
  have cP1 : w5.cell? ⟨w.heap.size + 1, 1, none⟩ = some (Value.string (bs [])) := HP.out.cell 1 _ rfl
  have cR1 : w5.cell? ⟨w.heap.size, 1, none⟩ = some (Value.string (bs [])) := HR.out.cell 1 _ rfl
  have fP1 := HP.out.free 1
  have fR1 := HR.out.free 1
  have cP2 : w5.cell? ⟨w.heap.size + 1, 2, none⟩ = some (Value.string (bs p)) := HP.out.cell 2 _ rfl
  have cR2 : w5.cell? ⟨w.heap.size, 2, none⟩ = some (Value.string (bs [])) := HR.out.cell 2 _ rfl
  have fP2 := HP.out.free 2
  have fR2 := HR.out.free 2
  have cP3 : w5.cell? ⟨w.heap.size + 1, 3, none⟩ = some (Value.string (bs [])) := HP.out.cell 3 _ rfl
  have cR3 : w5.cell? ⟨w.heap.size, 3, none⟩ = some (Value.string (bs [])) := HR.out.cell 3 _ rfl
  have fP3 := HP.out.free 3
  have fR3 := HR.out.free 3
  have hzP := HP.out.lt
  have hzR := HR.out.lt
  go_wp2_with fail
  rw [← HSN.out]
  refine (cany_any t setN _ asciiN (by decide) (by decide) (by omega)).mono ?_
  rintro e w6 ⟨rfl, hk6⟩
  rw [HA2.out]
  clear cP0 cR0 fP0 fR0 cP1 cR1 fP1 fR1 cP2 cR2 fP2 fR2 cP3 cR3 fP3 fR3 hzP hzR
  have bP : Blk w6 (w.heap.size + 1) 24 #[Value.string (bs []), Value.string (bs []), Value.string (bs p), Value.string (bs [])] := (HP.out).kept hk6
  have bR : Blk w6 w.heap.size 24 #[Value.string (bs []), Value.string (bs []), Value.string (bs []), Value.string (bs [])] := (HR.out).kept hk6
  have kk : Kept w w6 := (HK.out).trans hk6
  clear HP HR HK HG
  have HP := Lib.hid bP
  have HR := Lib.hid bR
  have HK := Lib.hid kk
  have HG := Lib.hid (hg.kept kk)
  clear bP bR kk hk6
  have cP0 : w6.cell? ⟨w.heap.size + 1, 0, none⟩ = some (Value.string (bs [])) := HP.out.cell 0 _ rfl
  have cR0 : w6.cell? ⟨w.heap.size, 0, none⟩ = some (Value.string (bs [])) := HR.out.cell 0 _ rfl
  have fP0 := HP.out.free 0
  have fR0 := HR.out.free 0
  have cP1 : w6.cell? ⟨w.heap.size + 1, 1, none⟩ = some (Value.string (bs [])) := HP.out.cell 1 _ rfl
  have cR1 : w6.cell? ⟨w.heap.size, 1, none⟩ = some (Value.string (bs [])) := HR.out.cell 1 _ rfl
  have fP1 := HP.out.free 1
  have fR1 := HR.out.free 1
  have cP2 : w6.cell? ⟨w.heap.size + 1, 2, none⟩ = some (Value.string (bs p)) := HP.out.cell 2 _ rfl
  have cR2 : w6.cell? ⟨w.heap.size, 2, none⟩ = some (Value.string (bs [])) := HR.out.cell 2 _ rfl
  have fP2 := HP.out.free 2
  have fR2 := HR.out.free 2
  have cP3 : w6.cell? ⟨w.heap.size + 1, 3, none⟩ = some (Value.string (bs [])) := HP.out.cell 3 _ rfl
  have cR3 : w6.cell? ⟨w.heap.size, 3, none⟩ = some (Value.string (bs [])) := HR.out.cell 3 _ rfl
  have fP3 := HP.out.free 3
  have fR3 := HR.out.free 3
  have hzP := HP.out.lt
  have hzR := HR.out.lt
  go_wp2_with fail
  refine (split_any t 44 _ HG.out (by omega)).mono ?_
  rintro e w7 ⟨rfl, hw7⟩
  have hk7 : Kept w6 w7 := by rw [hw7]; exact kept_alloc _ _
  have bS : Blk w7 w6.heap.size 9 (strCells (splitC 44 t)).toArray := by rw [hw7]; exact Blk.new _ _ _
  have hB : w6.heap.size ≠ w.heap.size + 1 := by omega
  clear cP0 cR0 fP0 fR0 cP1 cR1 fP1 fR1 cP2 cR2 fP2 fR2 cP3 cR3 fP3 fR3 hzP hzR
  have bP : Blk w7 (w.heap.size + 1) 24 #[Value.string (bs []), Value.string (bs []), Value.string (bs p), Value.string (bs [])] := (HP.out).kept hk7
  have bR : Blk w7 w.heap.size 24 #[Value.string (bs []), Value.string (bs []), Value.string (bs []), Value.string (bs [])] := (HR.out).kept hk7
  have kk : Kept w w7 := (HK.out).trans hk7
  clear HP HR HK HG
  have HP := Lib.hid bP
  have HR := Lib.hid bR
  have HK := Lib.hid kk
  have HG := Lib.hid (hg.kept kk)
  clear bP bR kk hk7
  clear hw7
  rw [HSP.out]
  rw [HSP.out] at bS
  have HS : Hid (Blk w7 w6.heap.size 9 #[Value.string (bs a)]) := bS
  clear bS
  have cP0 : w7.cell? ⟨w.heap.size + 1, 0, none⟩ = some (Value.string (bs [])) := HP.out.cell 0 _ rfl
  have cR0 : w7.cell? ⟨w.heap.size, 0, none⟩ = some (Value.string (bs [])) := HR.out.cell 0 _ rfl
  have fP0 := HP.out.free 0
  have fR0 := HR.out.free 0
  have cP1 : w7.cell? ⟨w.heap.size + 1, 1, none⟩ = some (Value.string (bs [])) := HP.out.cell 1 _ rfl
  have cR1 : w7.cell? ⟨w.heap.size, 1, none⟩ = some (Value.string (bs [])) := HR.out.cell 1 _ rfl
  have fP1 := HP.out.free 1
  have fR1 := HR.out.free 1
  have cP2 : w7.cell? ⟨w.heap.size + 1, 2, none⟩ = some (Value.string (bs p)) := HP.out.cell 2 _ rfl
  have cR2 : w7.cell? ⟨w.heap.size, 2, none⟩ = some (Value.string (bs [])) := HR.out.cell 2 _ rfl
  have fP2 := HP.out.free 2
  have fR2 := HR.out.free 2
  have cP3 : w7.cell? ⟨w.heap.size + 1, 3, none⟩ = some (Value.string (bs [])) := HP.out.cell 3 _ rfl
  have cR3 : w7.cell? ⟨w.heap.size, 3, none⟩ = some (Value.string (bs [])) := HR.out.cell 3 _ rfl
  have fP3 := HP.out.free 3
  have fR3 := HR.out.free 3
  have hzP := HP.out.lt
  have hzR := HR.out.lt
  have cS0 : w7.cell? ⟨w6.heap.size, 0, none⟩ = some (.string (bs a)) := HS.out.cell 0 _ rfl
  have hzS := HS.out.lt
  go_wp2_with fail
  refine (clean_any a _ HG.out (by omega)).mono ?_
  rintro e w8 ⟨rfl, hk8⟩
  clear cS0 hzS
  clear cP0 cR0 fP0 fR0 cP1 cR1 fP1 fR1 cP2 cR2 fP2 fR2 cP3 cR3 fP3 fR3 hzP hzR
  have bS : Blk w8 w6.heap.size 9 #[Value.string (bs a)] := (HS.out).kept hk8
  clear HS
  have HS := Lib.hid bS
  clear bS
  have bP : Blk w8 (w.heap.size + 1) 24 #[Value.string (bs []), Value.string (bs []), Value.string (bs p), Value.string (bs [])] := (HP.out).kept hk8
  have bR : Blk w8 w.heap.size 24 #[Value.string (bs []), Value.string (bs []), Value.string (bs []), Value.string (bs [])] := (HR.out).kept hk8
  have kk : Kept w w8 := (HK.out).trans hk8
  clear HP HR HK HG
  have HP := Lib.hid bP
  have HR := Lib.hid bR
  have HK := Lib.hid kk
  have HG := Lib.hid (hg.kept kk)
  clear bP bR kk hk8
  rw [HFA.out]
  have cP0 : w8.cell? ⟨w.heap.size + 1, 0, none⟩ = some (Value.string (bs [])) := HP.out.cell 0 _ rfl
  have cR0 : w8.cell? ⟨w.heap.size, 0, none⟩ = some (Value.string (bs [])) := HR.out.cell 0 _ rfl
  have fP0 := HP.out.free 0
  have fR0 := HR.out.free 0
  have cP1 : w8.cell? ⟨w.heap.size + 1, 1, none⟩ = some (Value.string (bs [])) := HP.out.cell 1 _ rfl
  have cR1 : w8.cell? ⟨w.heap.size, 1, none⟩ = some (Value.string (bs [])) := HR.out.cell 1 _ rfl
  have fP1 := HP.out.free 1
  have fR1 := HR.out.free 1
  have cP2 : w8.cell? ⟨w.heap.size + 1, 2, none⟩ = some (Value.string (bs p)) := HP.out.cell 2 _ rfl
  have cR2 : w8.cell? ⟨w.heap.size, 2, none⟩ = some (Value.string (bs [])) := HR.out.cell 2 _ rfl
  have fP2 := HP.out.free 2
  have fR2 := HR.out.free 2
  have cP3 : w8.cell? ⟨w.heap.size + 1, 3, none⟩ = some (Value.string (bs [])) := HP.out.cell 3 _ rfl
  have cR3 : w8.cell? ⟨w.heap.size, 3, none⟩ = some (Value.string (bs [])) := HR.out.cell 3 _ rfl
  have fP3 := HP.out.free 3
  have fR3 := HR.out.free 3
  have hzP := HP.out.lt
  have hzR := HR.out.lt
  have cS0 : w8.cell? ⟨w6.heap.size, 0, none⟩ = some (.string (bs a)) := HS.out.cell 0 _ rfl
  have hzS := HS.out.lt
  go_wp2_with fail
  refine bodyPost_ret (v := .tuple #[persV f [] p [], .int .i64 0]) (by simp [results, Tryd.results13, go_sem, *]) rfl ⟨rfl, ?_⟩
  repeat (first | exact HK.out | refine kept_set ?_ _ _ _ (by omega) | exact (HK.out).trans (kept_drewN _ _))

set_option maxRecDepth 100000 in
set_option maxHeartbeats 3200000 in
theorem parse_none1_b (l : Bs) (w : World) (hg : Gnd w) (hs : l.length ≤ 1000000) (hl : lineB l = true) (r p t : Bs) (HC : Hid (cleanL l = 123 :: r)) (hr : r.length ≤ 1000001) (hbr : before 125 r < r.length) (HPC : Hid (cleanL (r.take (before 125 r)) = p)) (HRC : Hid (r.drop (before 125 r + 1) = t)) (hpl : p.length ≤ 1000010) (ht : t.length ≤ 1000001) (hcnt : t.count 44 ≤ 2) (HA1 : Hid ((p : Bs).any (inSet setC) = false)) (HA2 : Hid (t.any (inSet setN) = false)) (a : Bs) (HSP : Hid (splitC 44 t = [a])) (ha : a.length ≤ 1000010) (HFA : Hid (cleanL a = []))  :
    Calls Tryd.prog 13 #[.string (bs l)] w fun e w' => e = .returned (.tuple #[persV [] [] [] [], .int .i64 8]) ∧ Kept w w' := by
  have hcl := cleanL_le l
  go_enter Tryd.func13, Tryd.ntmps13
  go_wp2_with fail
  refine (line_any l _ (by omega)).mono ?_
  rintro e w1 ⟨rfl, n, rfl⟩
  rw [hl]
  go_wp2_with fail
  refine (clean_any l _ (hg.kept (((kept_alloc w _).trans (kept_alloc _ _)).trans (kept_drewN _ n))) (by omega)).mono ?_
  rintro e w2 ⟨rfl, hk2⟩
  have HP0 := Lib.hid ((Blk.new (w.alloc (.cells #[Value.string (bs []), Value.string (bs []), Value.string (bs []), Value.string (bs [])] 24)) 24 #[Value.string (bs []), Value.string (bs []), Value.string (bs []), Value.string (bs [])]).drewN n)
  have bP : Blk w2 (w.heap.size + 1) 24 #[Value.string (bs []), Value.string (bs []), Value.string (bs []), Value.string (bs [])] := by have := HP0.out.kept hk2; simpa using this
  have bR : Blk w2 w.heap.size 24 #[Value.string (bs []), Value.string (bs []), Value.string (bs []), Value.string (bs [])] := (((Blk.new w 24 #[Value.string (bs []), Value.string (bs []), Value.string (bs []), Value.string (bs [])]).alloc _).drewN n).kept hk2
  have kk : Kept w w2 := (((kept_alloc w _).trans (kept_alloc _ _)).trans (kept_drewN _ n)).trans hk2
  clear HP0
  have HP := Lib.hid bP
  have HR := Lib.hid bR
  have HK := Lib.hid kk
  have HG := Lib.hid (hg.kept kk)
  clear bP bR kk hk2
  rw [HC.out]
  go_wp2_with fail
  refine (cutp_yes r 123 _).mono ?_
  rintro e w' ⟨rfl, rfl⟩
  go_wp2_with fail
  refine (cut_any r 125 _ HG.out (by omega)).mono ?_
  rintro e w3 ⟨rfl, m, rfl⟩
  rw [if_pos hbr]
  go_wp2_with fail
  refine (clean_any (r.take (before 125 r)) _ (by exact HG.out) (by simp; omega)).mono ?_
  rintro e w4 ⟨rfl, hk4'⟩
  have hk4 := (kept_drewN w2 m).trans hk4'
  clear hk4'
  have bP : Blk w4 (w.heap.size + 1) 24 #[Value.string (bs []), Value.string (bs []), Value.string (bs []), Value.string (bs [])] := (HP.out).kept hk4
  have bR : Blk w4 w.heap.size 24 #[Value.string (bs []), Value.string (bs []), Value.string (bs []), Value.string (bs [])] := (HR.out).kept hk4
  have kk : Kept w w4 := (HK.out).trans hk4
  clear HP HR HK HG
  have HP := Lib.hid bP
  have HR := Lib.hid bR
  have HK := Lib.hid kk
  have HG := Lib.hid (hg.kept kk)
  clear bP bR kk hk4
  rw [HPC.out, HRC.out]
  have cP0 : w4.cell? ⟨w.heap.size + 1, 0, none⟩ = some (Value.string (bs [])) := HP.out.cell 0 _ rfl
  have cR0 : w4.cell? ⟨w.heap.size, 0, none⟩ = some (Value.string (bs [])) := HR.out.cell 0 _ rfl
  have fP0 := HP.out.free 0
  have fR0 := HR.out.free 0
  have cP1 : w4.cell? ⟨w.heap.size + 1, 1, none⟩ = some (Value.string (bs [])) := HP.out.cell 1 _ rfl
  have cR1 : w4.cell? ⟨w.heap.size, 1, none⟩ = some (Value.string (bs [])) := HR.out.cell 1 _ rfl
  have fP1 := HP.out.free 1
  have fR1 := HR.out.free 1
  have cP2 : w4.cell? ⟨w.heap.size + 1, 2, none⟩ = some (Value.string (bs [])) := HP.out.cell 2 _ rfl
  have cR2 : w4.cell? ⟨w.heap.size, 2, none⟩ = some (Value.string (bs [])) := HR.out.cell 2 _ rfl
  have fP2 := HP.out.free 2
  have fR2 := HR.out.free 2
  have cP3 : w4.cell? ⟨w.heap.size + 1, 3, none⟩ = some (Value.string (bs [])) := HP.out.cell 3 _ rfl
  have cR3 : w4.cell? ⟨w.heap.size, 3, none⟩ = some (Value.string (bs [])) := HR.out.cell 3 _ rfl
  have fP3 := HP.out.free 3
  have fR3 := HR.out.free 3
  have hzP := HP.out.lt
  have hzR := HR.out.lt
  go_wp2_with fail
  refine (count_any t 44 _).mono ?_
  rintro e w' ⟨rfl, rfl⟩
  go_wp2_with fail
  have HSC : Hid (setC = [44, 59, 123, 125]) := rfl
  have HSN : Hid (setN = [59, 123, 125]) := rfl
  rw [← HSC.out]
  refine (cany_any p setC _ asciiC (by decide) (by decide) (by omega)).mono ?_
  rintro e w5 ⟨rfl, hk5⟩
  rw [HA1.out]
  clear cP0 cR0 fP0 fR0 cP1 cR1 fP1 fR1 cP2 cR2 fP2 fR2 cP3 cR3 fP3 fR3 hzP hzR
  have bP : Blk w5 (w.heap.size + 1) 24 #[Value.string (bs []), Value.string (bs []), Value.string (bs p), Value.string (bs [])] := ((HP.out).set 2 (Value.string (bs p))).kept hk5
  have bR : Blk w5 w.heap.size 24 #[Value.string (bs []), Value.string (bs []), Value.string (bs []), Value.string (bs [])] := ((HR.out).other (w.heap.size + 1) 2 (Value.string (bs p)) (by omega)).kept hk5
  have kk : Kept w w5 := (kept_set (HK.out) (w.heap.size + 1) 2 (Value.string (bs p)) (by omega)).trans hk5
  clear HP HR HK HG
  have HP := Lib.hid bP
  have HR := Lib.hid bR
  have HK := Lib.hid kk
  have HG := Lib.hid (hg.kept kk)
  clear bP bR kk hk5
  have cP0 : w5.cell? ⟨w.heap.size + 1, 0, none⟩ = some (Value.string (bs [])) := HP.out.cell 0 _ rfl
  have cR0 : w5.cell? ⟨w.heap.size, 0, none⟩ = some (Value.string (bs [])) := HR.out.cell 0 _ rfl
  have fP0 := HP.out.free 0
  have fR0 := HR.out.free 0
  have cP1 : w5.cell? ⟨w.heap.size + 1, 1, none⟩ = some (Value.string (bs [])) := HP.out.cell 1 _ rfl
  have cR1 : w5.cell? ⟨w.heap.size, 1, none⟩ = some (Value.string (bs [])) := HR.out.cell 1 _ rfl
  have fP1 := HP.out.free 1
  have fR1 := HR.out.free 1
  have cP2 : w5.cell? ⟨w.heap.size + 1, 2, none⟩ = some (Value.string (bs p)) := HP.out.cell 2 _ rfl
  have cR2 : w5.cell? ⟨w.heap.size, 2, none⟩ = some (Value.string (bs [])) := HR.out.cell 2 _ rfl
  have fP2 := HP.out.free 2
  have fR2 := HR.out.free 2
  have cP3 : w5.cell? ⟨w.heap.size + 1, 3, none⟩ = some (Value.string (bs [])) := HP.out.cell 3 _ rfl
  have cR3 : w5.cell? ⟨w.heap.size, 3, none⟩ = some (Value.string (bs [])) := HR.out.cell 3 _ rfl
  have fP3 := HP.out.free 3
  have fR3 := HR.out.free 3
  have hzP := HP.out.lt
  have hzR := HR.out.lt
  go_wp2_with fail
  rw [← HSN.out]
  refine (cany_any t setN _ asciiN (by decide) (by decide) (by omega)).mono ?_
  rintro e w6 ⟨rfl, hk6⟩
  rw [HA2.out]
  clear cP0 cR0 fP0 fR0 cP1 cR1 fP1 fR1 cP2 cR2 fP2 fR2 cP3 cR3 fP3 fR3 hzP hzR
  have bP : Blk w6 (w.heap.size + 1) 24 #[Value.string (bs []), Value.string (bs []), Value.string (bs p), Value.string (bs [])] := (HP.out).kept hk6
  have bR : Blk w6 w.heap.size 24 #[Value.string (bs []), Value.string (bs []), Value.string (bs []), Value.string (bs [])] := (HR.out).kept hk6
  have kk : Kept w w6 := (HK.out).trans hk6
  clear HP HR HK HG
  have HP := Lib.hid bP
  have HR := Lib.hid bR
  have HK := Lib.hid kk
  have HG := Lib.hid (hg.kept kk)
  clear bP bR kk hk6
  have cP0 : w6.cell? ⟨w.heap.size + 1, 0, none⟩ = some (Value.string (bs [])) := HP.out.cell 0 _ rfl
  have cR0 : w6.cell? ⟨w.heap.size, 0, none⟩ = some (Value.string (bs [])) := HR.out.cell 0 _ rfl
  have fP0 := HP.out.free 0
  have fR0 := HR.out.free 0
  have cP1 : w6.cell? ⟨w.heap.size + 1, 1, none⟩ = some (Value.string (bs [])) := HP.out.cell 1 _ rfl
  have cR1 : w6.cell? ⟨w.heap.size, 1, none⟩ = some (Value.string (bs [])) := HR.out.cell 1 _ rfl
  have fP1 := HP.out.free 1
  have fR1 := HR.out.free 1
  have cP2 : w6.cell? ⟨w.heap.size + 1, 2, none⟩ = some (Value.string (bs p)) := HP.out.cell 2 _ rfl
  have cR2 : w6.cell? ⟨w.heap.size, 2, none⟩ = some (Value.string (bs [])) := HR.out.cell 2 _ rfl
  have fP2 := HP.out.free 2
  have fR2 := HR.out.free 2
  have cP3 : w6.cell? ⟨w.heap.size + 1, 3, none⟩ = some (Value.string (bs [])) := HP.out.cell 3 _ rfl
  have cR3 : w6.cell? ⟨w.heap.size, 3, none⟩ = some (Value.string (bs [])) := HR.out.cell 3 _ rfl
  have fP3 := HP.out.free 3
  have fR3 := HR.out.free 3
  have hzP := HP.out.lt
  have hzR := HR.out.lt
  go_wp2_with fail
  refine (split_any t 44 _ HG.out (by omega)).mono ?_
  rintro e w7 ⟨rfl, hw7⟩
  have hk7 : Kept w6 w7 := by rw [hw7]; exact kept_alloc _ _
  have bS : Blk w7 w6.heap.size 9 (strCells (splitC 44 t)).toArray := by rw [hw7]; exact Blk.new _ _ _
  have hB : w6.heap.size ≠ w.heap.size + 1 := by omega
  clear cP0 cR0 fP0 fR0 cP1 cR1 fP1 fR1 cP2 cR2 fP2 fR2 cP3 cR3 fP3 fR3 hzP hzR
  have bP : Blk w7 (w.heap.size + 1) 24 #[Value.string (bs []), Value.string (bs []), Value.string (bs p), Value.string (bs [])] := (HP.out).kept hk7
  have bR : Blk w7 w.heap.size 24 #[Value.string (bs []), Value.string (bs []), Value.string (bs []), Value.string (bs [])] := (HR.out).kept hk7
  have kk : Kept w w7 := (HK.out).trans hk7
  clear HP HR HK HG
  have HP := Lib.hid bP
  have HR := Lib.hid bR
  have HK := Lib.hid kk
  have HG := Lib.hid (hg.kept kk)
  clear bP bR kk hk7
  clear hw7
  rw [HSP.out]
  rw [HSP.out] at bS
  have HS : Hid (Blk w7 w6.heap.size 9 #[Value.string (bs a)]) := bS
  clear bS
  have cP0 : w7.cell? ⟨w.heap.size + 1, 0, none⟩ = some (Value.string (bs [])) := HP.out.cell 0 _ rfl
  have cR0 : w7.cell? ⟨w.heap.size, 0, none⟩ = some (Value.string (bs [])) := HR.out.cell 0 _ rfl
  have fP0 := HP.out.free 0
  have fR0 := HR.out.free 0
  have cP1 : w7.cell? ⟨w.heap.size + 1, 1, none⟩ = some (Value.string (bs [])) := HP.out.cell 1 _ rfl
  have cR1 : w7.cell? ⟨w.heap.size, 1, none⟩ = some (Value.string (bs [])) := HR.out.cell 1 _ rfl
  have fP1 := HP.out.free 1
  have fR1 := HR.out.free 1
  have cP2 : w7.cell? ⟨w.heap.size + 1, 2, none⟩ = some (Value.string (bs p)) := HP.out.cell 2 _ rfl
  have cR2 : w7.cell? ⟨w.heap.size, 2, none⟩ = some (Value.string (bs [])) := HR.out.cell 2 _ rfl
  have fP2 := HP.out.free 2
  have fR2 := HR.out.free 2
  have cP3 : w7.cell? ⟨w.heap.size + 1, 3, none⟩ = some (Value.string (bs [])) := HP.out.cell 3 _ rfl
  have cR3 : w7.cell? ⟨w.heap.size, 3, none⟩ = some (Value.string (bs [])) := HR.out.cell 3 _ rfl
  have fP3 := HP.out.free 3
  have fR3 := HR.out.free 3
  have hzP := HP.out.lt
  have hzR := HR.out.lt
  have cS0 : w7.cell? ⟨w6.heap.size, 0, none⟩ = some (.string (bs a)) := HS.out.cell 0 _ rfl
  have hzS := HS.out.lt
  go_wp2_with fail
  refine (clean_any a _ HG.out (by omega)).mono ?_
  rintro e w8 ⟨rfl, hk8⟩
  clear cS0 hzS
  clear cP0 cR0 fP0 fR0 cP1 cR1 fP1 fR1 cP2 cR2 fP2 fR2 cP3 cR3 fP3 fR3 hzP hzR
  have bS : Blk w8 w6.heap.size 9 #[Value.string (bs a)] := (HS.out).kept hk8
  clear HS
  have HS := Lib.hid bS
  clear bS
  have bP : Blk w8 (w.heap.size + 1) 24 #[Value.string (bs []), Value.string (bs []), Value.string (bs p), Value.string (bs [])] := (HP.out).kept hk8
  have bR : Blk w8 w.heap.size 24 #[Value.string (bs []), Value.string (bs []), Value.string (bs []), Value.string (bs [])] := (HR.out).kept hk8
  have kk : Kept w w8 := (HK.out).trans hk8
  clear HP HR HK HG
  have HP := Lib.hid bP
  have HR := Lib.hid bR
  have HK := Lib.hid kk
  have HG := Lib.hid (hg.kept kk)
  clear bP bR kk hk8
  rw [HFA.out]
  have cP0 : w8.cell? ⟨w.heap.size + 1, 0, none⟩ = some (Value.string (bs [])) := HP.out.cell 0 _ rfl
  have cR0 : w8.cell? ⟨w.heap.size, 0, none⟩ = some (Value.string (bs [])) := HR.out.cell 0 _ rfl
  have fP0 := HP.out.free 0
  have fR0 := HR.out.free 0
  have cP1 : w8.cell? ⟨w.heap.size + 1, 1, none⟩ = some (Value.string (bs [])) := HP.out.cell 1 _ rfl
  have cR1 : w8.cell? ⟨w.heap.size, 1, none⟩ = some (Value.string (bs [])) := HR.out.cell 1 _ rfl
  have fP1 := HP.out.free 1
  have fR1 := HR.out.free 1
  have cP2 : w8.cell? ⟨w.heap.size + 1, 2, none⟩ = some (Value.string (bs p)) := HP.out.cell 2 _ rfl
  have cR2 : w8.cell? ⟨w.heap.size, 2, none⟩ = some (Value.string (bs [])) := HR.out.cell 2 _ rfl
  have fP2 := HP.out.free 2
  have fR2 := HR.out.free 2
  have cP3 : w8.cell? ⟨w.heap.size + 1, 3, none⟩ = some (Value.string (bs [])) := HP.out.cell 3 _ rfl
  have cR3 : w8.cell? ⟨w.heap.size, 3, none⟩ = some (Value.string (bs [])) := HR.out.cell 3 _ rfl
  have fP3 := HP.out.free 3
  have fR3 := HR.out.free 3
  have hzP := HP.out.lt
  have hzR := HR.out.lt
  have cS0 : w8.cell? ⟨w6.heap.size, 0, none⟩ = some (.string (bs a)) := HS.out.cell 0 _ rfl
  have hzS := HS.out.lt
  go_wp2_with fail
  refine bodyPost_ret (v := .tuple #[persV [] [] [] [], .int .i64 8]) (by simp [results, Tryd.results13, go_sem, *]) rfl ⟨rfl, ?_⟩
  repeat (first | exact HK.out | refine kept_set ?_ _ _ _ (by omega) | exact (HK.out).trans (kept_drewN _ _))

set_option maxRecDepth 100000 in
set_option maxHeartbeats 3200000 in
theorem parse_ok2_b (l : Bs) (w : World) (hg : Gnd w) (hs : l.length ≤ 1000000) (hl : lineB l = true) (r p t : Bs) (HC : Hid (cleanL l = 123 :: r)) (hr : r.length ≤ 1000001) (hbr : before 125 r < r.length) (HPC : Hid (cleanL (r.take (before 125 r)) = p)) (HRC : Hid (r.drop (before 125 r + 1) = t)) (hpl : p.length ≤ 1000010) (ht : t.length ≤ 1000001) (hcnt : t.count 44 ≤ 2) (HA1 : Hid ((p : Bs).any (inSet setC) = false)) (HA2 : Hid (t.any (inSet setN) = false)) (a b : Bs) (HSP : Hid (splitC 44 t = [a, b])) (ha : a.length ≤ 1000010) (hb : b.length ≤ 1000010) (f : Bs) (HFA : Hid (cleanL a = f)) (g : Bs) (HFB : Hid (cleanL b = g)) (hf : ¬ f = []) (hfe : f.isEmpty = false) :
    Calls Tryd.prog 13 #[.string (bs l)] w fun e w' => e = .returned (.tuple #[persV f g p [], .int .i64 0]) ∧ Kept w w' := by
  have hcl := cleanL_le l
  go_enter Tryd.func13, Tryd.ntmps13
  go_wp2_with fail
  refine (line_any l _ (by omega)).mono ?_
  rintro e w1 ⟨rfl, n, rfl⟩
  rw [hl]
  go_wp2_with fail
  refine (clean_any l _ (hg.kept (((kept_alloc w _).trans (kept_alloc _ _)).trans (kept_drewN _ n))) (by omega)).mono ?_
  rintro e w2 ⟨rfl, hk2⟩
  have HP0 := Lib.hid ((Blk.new (w.alloc (.cells #[Value.string (bs []), Value.string (bs []), Value.string (bs []), Value.string (bs [])] 24)) 24 #[Value.string (bs []), Value.string (bs []), Value.string (bs []), Value.string (bs [])]).drewN n)
  have bP : Blk w2 (w.heap.size + 1) 24 #[Value.string (bs []), Value.string (bs []), Value.string (bs []), Value.string (bs [])] := by have := HP0.out.kept hk2; simpa using this
  have bR : Blk w2 w.heap.size 24 #[Value.string (bs []), Value.string (bs []), Value.string (bs []), Value.string (bs [])] := (((Blk.new w 24 #[Value.string (bs []), Value.string (bs []), Value.string (bs []), Value.string (bs [])]).alloc _).drewN n).kept hk2
  have kk : Kept w w2 := (((kept_alloc w _).trans (kept_alloc _ _)).trans (kept_drewN _ n)).trans hk2
  clear HP0
  have HP := Lib.hid bP
  have HR := Lib.hid bR
  have HK := Lib.hid kk
  have HG := Lib.hid (hg.kept kk)
  clear bP bR kk hk2
  rw [HC.out]
  go_wp2_with fail
  refine (cutp_yes r 123 _).mono ?_
  rintro e w' ⟨rfl, rfl⟩
  go_wp2_with fail
  refine (cut_any r 125 _ HG.out (by omega)).mono ?_
  rintro e w3 ⟨rfl, m, rfl⟩
  rw [if_pos hbr]
  go_wp2_with fail
  refine (clean_any (r.take (before 125 r)) _ (by exact HG.out) (by simp; omega)).mono ?_
  rintro e w4 ⟨rfl, hk4'⟩
  have hk4 := (kept_drewN w2 m).trans hk4'
  clear hk4'
  have bP : Blk w4 (w.heap.size + 1) 24 #[Value.string (bs []), Value.string (bs []), Value.string (bs []), Value.string (bs [])] := (HP.out).kept hk4
  have bR : Blk w4 w.heap.size 24 #[Value.string (bs []), Value.string (bs []), Value.string (bs []), Value.string (bs [])] := (HR.out).kept hk4
  have kk : Kept w w4 := (HK.out).trans hk4
  clear HP HR HK HG
  have HP := Lib.hid bP
  have HR := Lib.hid bR
  have HK := Lib.hid kk
  have HG := Lib.hid (hg.kept kk)
  clear bP bR kk hk4
  rw [HPC.out, HRC.out]
  have cP0 : w4.cell? ⟨w.heap.size + 1, 0, none⟩ = some (Value.string (bs [])) := HP.out.cell 0 _ rfl
  have cR0 : w4.cell? ⟨w.heap.size, 0, none⟩ = some (Value.string (bs [])) := HR.out.cell 0 _ rfl
  have fP0 := HP.out.free 0
  have fR0 := HR.out.free 0
  have cP1 : w4.cell? ⟨w.heap.size + 1, 1, none⟩ = some (Value.string (bs [])) := HP.out.cell 1 _ rfl
  have cR1 : w4.cell? ⟨w.heap.size, 1, none⟩ = some (Value.string (bs [])) := HR.out.cell 1 _ rfl
  have fP1 := HP.out.free 1
  have fR1 := HR.out.free 1
  have cP2 : w4.cell? ⟨w.heap.size + 1, 2, none⟩ = some (Value.string (bs [])) := HP.out.cell 2 _ rfl
  have cR2 : w4.cell? ⟨w.heap.size, 2, none⟩ = some (Value.string (bs [])) := HR.out.cell 2 _ rfl
  have fP2 := HP.out.free 2
  have fR2 := HR.out.free 2
  have cP3 : w4.cell? ⟨w.heap.size + 1, 3, none⟩ = some (Value.string (bs [])) := HP.out.cell 3 _ rfl
  have cR3 : w4.cell? ⟨w.heap.size, 3, none⟩ = some (Value.string (bs [])) := HR.out.cell 3 _ rfl
  have fP3 := HP.out.free 3
  have fR3 := HR.out.free 3
  have hzP := HP.out.lt
  have hzR := HR.out.lt
  go_wp2_with fail
  refine (count_any t 44 _).mono ?_
  rintro e w' ⟨rfl, rfl⟩
  go_wp2_with fail
  have HSC : Hid (setC = [44, 59, 123, 125]) := rfl
  have HSN : Hid (setN = [59, 123, 125]) := rfl
  rw [← HSC.out]
  refine (cany_any p setC _ asciiC (by decide) (by decide) (by omega)).mono ?_
  rintro e w5 ⟨rfl, hk5⟩
  rw [HA1.out]
  clear cP0 cR0 fP0 fR0 cP1 cR1 fP1 fR1 cP2 cR2 fP2 fR2 cP3 cR3 fP3 fR3 hzP hzR
  have bP : Blk w5 (w.heap.size + 1) 24 #[Value.string (bs []), Value.string (bs []), Value.string (bs p), Value.string (bs [])] := ((HP.out).set 2 (Value.string (bs p))).kept hk5
  have bR : Blk w5 w.heap.size 24 #[Value.string (bs []), Value.string (bs []), Value.string (bs []), Value.string (bs [])] := ((HR.out).other (w.heap.size + 1) 2 (Value.string (bs p)) (by omega)).kept hk5
  have kk : Kept w w5 := (kept_set (HK.out) (w.heap.size + 1) 2 (Value.string (bs p)) (by omega)).trans hk5
  clear HP HR HK HG
  have HP := Lib.hid bP
  have HR := Lib.hid bR
  have HK := Lib.hid kk
  have HG := Lib.hid (hg.kept kk)
  clear bP bR kk hk5
  have cP0 : w5.cell? ⟨w.heap.size + 1, 0, none⟩ = some (Value.string (bs [])) := HP.out.cell 0 _ rfl
  have cR0 : w5.cell? ⟨w.heap.size, 0, none⟩ = some (Value.string (bs [])) := HR.out.cell 0 _ rfl
  have fP0 := HP.out.free 0
  have fR0 := HR.out.free 0
  have cP1 : w5.cell? ⟨w.heap.size + 1, 1, none⟩ = some (Value.string (bs [])) := HP.out.cell 1 _ rfl
  have cR1 : w5.cell? ⟨w.heap.size, 1, none⟩ = some (Value.string (bs [])) := HR.out.cell 1 _ rfl
  have fP1 := HP.out.free 1
  have fR1 := HR.out.free 1
  have cP2 : w5.cell? ⟨w.heap.size + 1, 2, none⟩ = some (Value.string (bs p)) := HP.out.cell 2 _ rfl
  have cR2 : w5.cell? ⟨w.heap.size, 2, none⟩ = some (Value.string (bs [])) := HR.out.cell 2 _ rfl
  have fP2 := HP.out.free 2
  have fR2 := HR.out.free 2
  have cP3 : w5.cell? ⟨w.heap.size + 1, 3, none⟩ = some (Value.string (bs [])) := HP.out.cell 3 _ rfl
  have cR3 : w5.cell? ⟨w.heap.size, 3, none⟩ = some (Value.string (bs [])) := HR.out.cell 3 _ rfl
  have fP3 := HP.out.free 3
  have fR3 := HR.out.free 3
  have hzP := HP.out.lt
  have hzR := HR.out.lt
  go_wp2_with fail
  rw [← HSN.out]
  refine (cany_any t setN _ asciiN (by decide) (by decide) (by omega)).mono ?_
  rintro e w6 ⟨rfl, hk6⟩
  rw [HA2.out]
  clear cP0 cR0 fP0 fR0 cP1 cR1 fP1 fR1 cP2 cR2 fP2 fR2 cP3 cR3 fP3 fR3 hzP hzR
  have bP : Blk w6 (w.heap.size + 1) 24 #[Value.string (bs []), Value.string (bs []), Value.string (bs p), Value.string (bs [])] := (HP.out).kept hk6
  have bR : Blk w6 w.heap.size 24 #[Value.string (bs []), Value.string (bs []), Value.string (bs []), Value.string (bs [])] := (HR.out).kept hk6
  have kk : Kept w w6 := (HK.out).trans hk6
  clear HP HR HK HG
  have HP := Lib.hid bP
  have HR := Lib.hid bR
  have HK := Lib.hid kk
  have HG := Lib.hid (hg.kept kk)
  clear bP bR kk hk6
  have cP0 : w6.cell? ⟨w.heap.size + 1, 0, none⟩ = some (Value.string (bs [])) := HP.out.cell 0 _ rfl
  have cR0 : w6.cell? ⟨w.heap.size, 0, none⟩ = some (Value.string (bs [])) := HR.out.cell 0 _ rfl
  have fP0 := HP.out.free 0
  have fR0 := HR.out.free 0
  have cP1 : w6.cell? ⟨w.heap.size + 1, 1, none⟩ = some (Value.string (bs [])) := HP.out.cell 1 _ rfl
  have cR1 : w6.cell? ⟨w.heap.size, 1, none⟩ = some (Value.string (bs [])) := HR.out.cell 1 _ rfl
  have fP1 := HP.out.free 1
  have fR1 := HR.out.free 1
  have cP2 : w6.cell? ⟨w.heap.size + 1, 2, none⟩ = some (Value.string (bs p)) := HP.out.cell 2 _ rfl
  have cR2 : w6.cell? ⟨w.heap.size, 2, none⟩ = some (Value.string (bs [])) := HR.out.cell 2 _ rfl
  have fP2 := HP.out.free 2
  have fR2 := HR.out.free 2
  have cP3 : w6.cell? ⟨w.heap.size + 1, 3, none⟩ = some (Value.string (bs [])) := HP.out.cell 3 _ rfl
  have cR3 : w6.cell? ⟨w.heap.size, 3, none⟩ = some (Value.string (bs [])) := HR.out.cell 3 _ rfl
  have fP3 := HP.out.free 3
  have fR3 := HR.out.free 3
  have hzP := HP.out.lt
  have hzR := HR.out.lt
  go_wp2_with fail
  refine (split_any t 44 _ HG.out (by omega)).mono ?_
  rintro e w7 ⟨rfl, hw7⟩
  have hk7 : Kept w6 w7 := by rw [hw7]; exact kept_alloc _ _
  have bS : Blk w7 w6.heap.size 9 (strCells (splitC 44 t)).toArray := by rw [hw7]; exact Blk.new _ _ _
  have hB : w6.heap.size ≠ w.heap.size + 1 := by omega
  clear cP0 cR0 fP0 fR0 cP1 cR1 fP1 fR1 cP2 cR2 fP2 fR2 cP3 cR3 fP3 fR3 hzP hzR
  have bP : Blk w7 (w.heap.size + 1) 24 #[Value.string (bs []), Value.string (bs []), Value.string (bs p), Value.string (bs [])] := (HP.out).kept hk7
  have bR : Blk w7 w.heap.size 24 #[Value.string (bs []), Value.string (bs []), Value.string (bs []), Value.string (bs [])] := (HR.out).kept hk7
  have kk : Kept w w7 := (HK.out).trans hk7
  clear HP HR HK HG
  have HP := Lib.hid bP
  have HR := Lib.hid bR
  have HK := Lib.hid kk
  have HG := Lib.hid (hg.kept kk)
  clear bP bR kk hk7
  clear hw7
  rw [HSP.out]
  rw [HSP.out] at bS
  have HS : Hid (Blk w7 w6.heap.size 9 #[Value.string (bs a), Value.string (bs b)]) := bS
  clear bS
  have cP0 : w7.cell? ⟨w.heap.size + 1, 0, none⟩ = some (Value.string (bs [])) := HP.out.cell 0 _ rfl
  have cR0 : w7.cell? ⟨w.heap.size, 0, none⟩ = some (Value.string (bs [])) := HR.out.cell 0 _ rfl
  have fP0 := HP.out.free 0
  have fR0 := HR.out.free 0
  have cP1 : w7.cell? ⟨w.heap.size + 1, 1, none⟩ = some (Value.string (bs [])) := HP.out.cell 1 _ rfl
  have cR1 : w7.cell? ⟨w.heap.size, 1, none⟩ = some (Value.string (bs [])) := HR.out.cell 1 _ rfl
  have fP1 := HP.out.free 1
  have fR1 := HR.out.free 1
  have cP2 : w7.cell? ⟨w.heap.size + 1, 2, none⟩ = some (Value.string (bs p)) := HP.out.cell 2 _ rfl
  have cR2 : w7.cell? ⟨w.heap.size, 2, none⟩ = some (Value.string (bs [])) := HR.out.cell 2 _ rfl
  have fP2 := HP.out.free 2
  have fR2 := HR.out.free 2
  have cP3 : w7.cell? ⟨w.heap.size + 1, 3, none⟩ = some (Value.string (bs [])) := HP.out.cell 3 _ rfl
  have cR3 : w7.cell? ⟨w.heap.size, 3, none⟩ = some (Value.string (bs [])) := HR.out.cell 3 _ rfl
  have fP3 := HP.out.free 3
  have fR3 := HR.out.free 3
  have hzP := HP.out.lt
  have hzR := HR.out.lt
  have cS0 : w7.cell? ⟨w6.heap.size, 0, none⟩ = some (.string (bs a)) := HS.out.cell 0 _ rfl
  have cS1 : w7.cell? ⟨w6.heap.size, 1, none⟩ = some (.string (bs b)) := HS.out.cell 1 _ rfl
  have hzS := HS.out.lt
  go_wp2_with fail
  refine (clean_any a _ HG.out (by omega)).mono ?_
  rintro e w8 ⟨rfl, hk8⟩
  clear cS0 cS1 hzS
  clear cP0 cR0 fP0 fR0 cP1 cR1 fP1 fR1 cP2 cR2 fP2 fR2 cP3 cR3 fP3 fR3 hzP hzR
  have bS : Blk w8 w6.heap.size 9 #[Value.string (bs a), Value.string (bs b)] := (HS.out).kept hk8
  clear HS
  have HS := Lib.hid bS
  clear bS
  have bP : Blk w8 (w.heap.size + 1) 24 #[Value.string (bs []), Value.string (bs []), Value.string (bs p), Value.string (bs [])] := (HP.out).kept hk8
  have bR : Blk w8 w.heap.size 24 #[Value.string (bs []), Value.string (bs []), Value.string (bs []), Value.string (bs [])] := (HR.out).kept hk8
  have kk : Kept w w8 := (HK.out).trans hk8
  clear HP HR HK HG
  have HP := Lib.hid bP
  have HR := Lib.hid bR
  have HK := Lib.hid kk
  have HG := Lib.hid (hg.kept kk)
  clear bP bR kk hk8
  rw [HFA.out]
  have cP0 : w8.cell? ⟨w.heap.size + 1, 0, none⟩ = some (Value.string (bs [])) := HP.out.cell 0 _ rfl
  have cR0 : w8.cell? ⟨w.heap.size, 0, none⟩ = some (Value.string (bs [])) := HR.out.cell 0 _ rfl
  have fP0 := HP.out.free 0
  have fR0 := HR.out.free 0
  have cP1 : w8.cell? ⟨w.heap.size + 1, 1, none⟩ = some (Value.string (bs [])) := HP.out.cell 1 _ rfl
  have cR1 : w8.cell? ⟨w.heap.size, 1, none⟩ = some (Value.string (bs [])) := HR.out.cell 1 _ rfl
  have fP1 := HP.out.free 1
  have fR1 := HR.out.free 1
  have cP2 : w8.cell? ⟨w.heap.size + 1, 2, none⟩ = some (Value.string (bs p)) := HP.out.cell 2 _ rfl
  have cR2 : w8.cell? ⟨w.heap.size, 2, none⟩ = some (Value.string (bs [])) := HR.out.cell 2 _ rfl
  have fP2 := HP.out.free 2
  have fR2 := HR.out.free 2
  have cP3 : w8.cell? ⟨w.heap.size + 1, 3, none⟩ = some (Value.string (bs [])) := HP.out.cell 3 _ rfl
  have cR3 : w8.cell? ⟨w.heap.size, 3, none⟩ = some (Value.string (bs [])) := HR.out.cell 3 _ rfl
  have fP3 := HP.out.free 3
  have fR3 := HR.out.free 3
  have hzP := HP.out.lt
  have hzR := HR.out.lt
  have cS0 : w8.cell? ⟨w6.heap.size, 0, none⟩ = some (.string (bs a)) := HS.out.cell 0 _ rfl
  have cS1 : w8.cell? ⟨w6.heap.size, 1, none⟩ = some (.string (bs b)) := HS.out.cell 1 _ rfl
  have hzS := HS.out.lt
  go_wp2_with fail
  refine (clean_any b _ (hg.kept (kept_set HK.out (w.heap.size + 1) 0 _ (by omega))) (by omega)).mono ?_
  rintro e w9 ⟨rfl, hk9⟩
  clear cS0 cS1 hzS
  clear cP0 cR0 fP0 fR0 cP1 cR1 fP1 fR1 cP2 cR2 fP2 fR2 cP3 cR3 fP3 fR3 hzP hzR
  have bS : Blk w9 w6.heap.size 9 #[Value.string (bs a), Value.string (bs b)] := ((HS.out).other (w.heap.size + 1) 0 (Value.string (bs f)) hB).kept hk9
  clear HS
  have HS := Lib.hid bS
  clear bS
  have bP : Blk w9 (w.heap.size + 1) 24 #[Value.string (bs f), Value.string (bs []), Value.string (bs p), Value.string (bs [])] := ((HP.out).set 0 (Value.string (bs f))).kept hk9
  have bR : Blk w9 w.heap.size 24 #[Value.string (bs []), Value.string (bs []), Value.string (bs []), Value.string (bs [])] := ((HR.out).other (w.heap.size + 1) 0 (Value.string (bs f)) (by omega)).kept hk9
  have kk : Kept w w9 := (kept_set (HK.out) (w.heap.size + 1) 0 (Value.string (bs f)) (by omega)).trans hk9
  clear HP HR HK HG
  have HP := Lib.hid bP
  have HR := Lib.hid bR
  have HK := Lib.hid kk
  have HG := Lib.hid (hg.kept kk)
  clear bP bR kk hk9
  rw [HFB.out]
  have cP0 : w9.cell? ⟨w.heap.size + 1, 0, none⟩ = some (Value.string (bs f)) := HP.out.cell 0 _ rfl
  have cR0 : w9.cell? ⟨w.heap.size, 0, none⟩ = some (Value.string (bs [])) := HR.out.cell 0 _ rfl
  have fP0 := HP.out.free 0
  have fR0 := HR.out.free 0
  have cP1 : w9.cell? ⟨w.heap.size + 1, 1, none⟩ = some (Value.string (bs [])) := HP.out.cell 1 _ rfl
  have cR1 : w9.cell? ⟨w.heap.size, 1, none⟩ = some (Value.string (bs [])) := HR.out.cell 1 _ rfl
  have fP1 := HP.out.free 1
  have fR1 := HR.out.free 1
  have cP2 : w9.cell? ⟨w.heap.size + 1, 2, none⟩ = some (Value.string (bs p)) := HP.out.cell 2 _ rfl
  have cR2 : w9.cell? ⟨w.heap.size, 2, none⟩ = some (Value.string (bs [])) := HR.out.cell 2 _ rfl
  have fP2 := HP.out.free 2
  have fR2 := HR.out.free 2
  have cP3 : w9.cell? ⟨w.heap.size + 1, 3, none⟩ = some (Value.string (bs [])) := HP.out.cell 3 _ rfl
  have cR3 : w9.cell? ⟨w.heap.size, 3, none⟩ = some (Value.string (bs [])) := HR.out.cell 3 _ rfl
  have fP3 := HP.out.free 3
  have fR3 := HR.out.free 3
  have hzP := HP.out.lt
  have hzR := HR.out.lt
  go_wp2_with fail
  refine bodyPost_ret (v := .tuple #[persV f g p [], .int .i64 0]) (by simp [results, Tryd.results13, go_sem, *]) rfl ⟨rfl, ?_⟩
  repeat (first | exact HK.out | refine kept_set ?_ _ _ _ (by omega) | exact (HK.out).trans (kept_drewN _ _))

set_option maxRecDepth 100000 in
set_option maxHeartbeats 3200000 in
theorem parse_none2_b (l : Bs) (w : World) (hg : Gnd w) (hs : l.length ≤ 1000000) (hl : lineB l = true) (r p t : Bs) (HC : Hid (cleanL l = 123 :: r)) (hr : r.length ≤ 1000001) (hbr : before 125 r < r.length) (HPC : Hid (cleanL (r.take (before 125 r)) = p)) (HRC : Hid (r.drop (before 125 r + 1) = t)) (hpl : p.length ≤ 1000010) (ht : t.length ≤ 1000001) (hcnt : t.count 44 ≤ 2) (HA1 : Hid ((p : Bs).any (inSet setC) = false)) (HA2 : Hid (t.any (inSet setN) = false)) (a b : Bs) (HSP : Hid (splitC 44 t = [a, b])) (ha : a.length ≤ 1000010) (hb : b.length ≤ 1000010) (HFA : Hid (cleanL a = [])) (g : Bs) (HFB : Hid (cleanL b = g))  :
    Calls Tryd.prog 13 #[.string (bs l)] w fun e w' => e = .returned (.tuple #[persV [] [] [] [], .int .i64 8]) ∧ Kept w w' := by
  have hcl := cleanL_le l
  go_enter Tryd.func13, Tryd.ntmps13
  go_wp2_with fail
  refine (line_any l _ (by omega)).mono ?_
  rintro e w1 ⟨rfl, n, rfl⟩
  rw [hl]
  go_wp2_with fail
  refine (clean_any l _ (hg.kept (((kept_alloc w _).trans (kept_alloc _ _)).trans (kept_drewN _ n))) (by omega)).mono ?_
  rintro e w2 ⟨rfl, hk2⟩
  have HP0 := Lib.hid ((Blk.new (w.alloc (.cells #[Value.string (bs []), Value.string (bs []), Value.string (bs []), Value.string (bs [])] 24)) 24 #[Value.string (bs []), Value.string (bs []), Value.string (bs []), Value.string (bs [])]).drewN n)
  have bP : Blk w2 (w.heap.size + 1) 24 #[Value.string (bs []), Value.string (bs []), Value.string (bs []), Value.string (bs [])] := by have := HP0.out.kept hk2; simpa using this
  have bR : Blk w2 w.heap.size 24 #[Value.string (bs []), Value.string (bs []), Value.string (bs []), Value.string (bs [])] := (((Blk.new w 24 #[Value.string (bs []), Value.string (bs []), Value.string (bs []), Value.string (bs [])]).alloc _).drewN n).kept hk2
  have kk : Kept w w2 := (((kept_alloc w _).trans (kept_alloc _ _)).trans (kept_drewN _ n)).trans hk2
  clear HP0
  have HP := Lib.hid bP
  have HR := Lib.hid bR
  have HK := Lib.hid kk
  have HG := Lib.hid (hg.kept kk)
  clear bP bR kk hk2
  rw [HC.out]
  go_wp2_with fail
  refine (cutp_yes r 123 _).mono ?_
  rintro e w' ⟨rfl, rfl⟩
  go_wp2_with fail
  refine (cut_any r 125 _ HG.out (by omega)).mono ?_
  rintro e w3 ⟨rfl, m, rfl⟩
  rw [if_pos hbr]
  go_wp2_with fail
  refine (clean_any (r.take (before 125 r)) _ (by exact HG.out) (by simp; omega)).mono ?_
  rintro e w4 ⟨rfl, hk4'⟩
  have hk4 := (kept_drewN w2 m).trans hk4'
  clear hk4'
  have bP : Blk w4 (w.heap.size + 1) 24 #[Value.string (bs []), Value.string (bs []), Value.string (bs []), Value.string (bs [])] := (HP.out).kept hk4
  have bR : Blk w4 w.heap.size 24 #[Value.string (bs []), Value.string (bs []), Value.string (bs []), Value.string (bs [])] := (HR.out).kept hk4
  have kk : Kept w w4 := (HK.out).trans hk4
  clear HP HR HK HG
  have HP := Lib.hid bP
  have HR := Lib.hid bR
  have HK := Lib.hid kk
  have HG := Lib.hid (hg.kept kk)
  clear bP bR kk hk4
  rw [HPC.out, HRC.out]
  have cP0 : w4.cell? ⟨w.heap.size + 1, 0, none⟩ = some (Value.string (bs [])) := HP.out.cell 0 _ rfl
  have cR0 : w4.cell? ⟨w.heap.size, 0, none⟩ = some (Value.string (bs [])) := HR.out.cell 0 _ rfl
  have fP0 := HP.out.free 0
  have fR0 := HR.out.free 0
  have cP1 : w4.cell? ⟨w.heap.size + 1, 1, none⟩ = some (Value.string (bs [])) := HP.out.cell 1 _ rfl
  have cR1 : w4.cell? ⟨w.heap.size, 1, none⟩ = some (Value.string (bs [])) := HR.out.cell 1 _ rfl
  have fP1 := HP.out.free 1
  have fR1 := HR.out.free 1
  have cP2 : w4.cell? ⟨w.heap.size + 1, 2, none⟩ = some (Value.string (bs [])) := HP.out.cell 2 _ rfl
  have cR2 : w4.cell? ⟨w.heap.size, 2, none⟩ = some (Value.string (bs [])) := HR.out.cell 2 _ rfl
  have fP2 := HP.out.free 2
  have fR2 := HR.out.free 2
  have cP3 : w4.cell? ⟨w.heap.size + 1, 3, none⟩ = some (Value.string (bs [])) := HP.out.cell 3 _ rfl
  have cR3 : w4.cell? ⟨w.heap.size, 3, none⟩ = some (Value.string (bs [])) := HR.out.cell 3 _ rfl
  have fP3 := HP.out.free 3
  have fR3 := HR.out.free 3
  have hzP := HP.out.lt
  have hzR := HR.out.lt
  go_wp2_with fail
  refine (count_any t 44 _).mono ?_
  rintro e w' ⟨rfl, rfl⟩
  go_wp2_with fail
  have HSC : Hid (setC = [44, 59, 123, 125]) := rfl
  have HSN : Hid (setN = [59, 123, 125]) := rfl
  rw [← HSC.out]
  refine (cany_any p setC _ asciiC (by decide) (by decide) (by omega)).mono ?_
  rintro e w5 ⟨rfl, hk5⟩
  rw [HA1.out]
  clear cP0 cR0 fP0 fR0 cP1 cR1 fP1 fR1 cP2 cR2 fP2 fR2 cP3 cR3 fP3 fR3 hzP hzR
  have bP : Blk w5 (w.heap.size + 1) 24 #[Value.string (bs []), Value.string (bs []), Value.string (bs p), Value.string (bs [])] := ((HP.out).set 2 (Value.string (bs p))).kept hk5
  have bR : Blk w5 w.heap.size 24 #[Value.string (bs []), Value.string (bs []), Value.string (bs []), Value.string (bs [])] := ((HR.out).other (w.heap.size + 1) 2 (Value.string (bs p)) (by omega)).kept hk5
  have kk : Kept w w5 := (kept_set (HK.out) (w.heap.size + 1) 2 (Value.string (bs p)) (by omega)).trans hk5
  clear HP HR HK HG
  have HP := Lib.hid bP
  have HR := Lib.hid bR
  have HK := Lib.hid kk
  have HG := Lib.hid (hg.kept kk)
  clear bP bR kk hk5
  have cP0 : w5.cell? ⟨w.heap.size + 1, 0, none⟩ = some (Value.string (bs [])) := HP.out.cell 0 _ rfl
  have cR0 : w5.cell? ⟨w.heap.size, 0, none⟩ = some (Value.string (bs [])) := HR.out.cell 0 _ rfl
  have fP0 := HP.out.free 0
  have fR0 := HR.out.free 0
  have cP1 : w5.cell? ⟨w.heap.size + 1, 1, none⟩ = some (Value.string (bs [])) := HP.out.cell 1 _ rfl
  have cR1 : w5.cell? ⟨w.heap.size, 1, none⟩ = some (Value.string (bs [])) := HR.out.cell 1 _ rfl
  have fP1 := HP.out.free 1
  have fR1 := HR.out.free 1
  have cP2 : w5.cell? ⟨w.heap.size + 1, 2, none⟩ = some (Value.string (bs p)) := HP.out.cell 2 _ rfl
  have cR2 : w5.cell? ⟨w.heap.size, 2, none⟩ = some (Value.string (bs [])) := HR.out.cell 2 _ rfl
  have fP2 := HP.out.free 2
  have fR2 := HR.out.free 2
  have cP3 : w5.cell? ⟨w.heap.size + 1, 3, none⟩ = some (Value.string (bs [])) := HP.out.cell 3 _ rfl
  have cR3 : w5.cell? ⟨w.heap.size, 3, none⟩ = some (Value.string (bs [])) := HR.out.cell 3 _ rfl
  have fP3 := HP.out.free 3
  have fR3 := HR.out.free 3
  have hzP := HP.out.lt
  have hzR := HR.out.lt
  go_wp2_with fail
  rw [← HSN.out]
  refine (cany_any t setN _ asciiN (by decide) (by decide) (by omega)).mono ?_
  rintro e w6 ⟨rfl, hk6⟩
  rw [HA2.out]
  clear cP0 cR0 fP0 fR0 cP1 cR1 fP1 fR1 cP2 cR2 fP2 fR2 cP3 cR3 fP3 fR3 hzP hzR
  have bP : Blk w6 (w.heap.size + 1) 24 #[Value.string (bs []), Value.string (bs []), Value.string (bs p), Value.string (bs [])] := (HP.out).kept hk6
  have bR : Blk w6 w.heap.size 24 #[Value.string (bs []), Value.string (bs []), Value.string (bs []), Value.string (bs [])] := (HR.out).kept hk6
  have kk : Kept w w6 := (HK.out).trans hk6
  clear HP HR HK HG
  have HP := Lib.hid bP
  have HR := Lib.hid bR
  have HK := Lib.hid kk
  have HG := Lib.hid (hg.kept kk)
  clear bP bR kk hk6
  have cP0 : w6.cell? ⟨w.heap.size + 1, 0, none⟩ = some (Value.string (bs [])) := HP.out.cell 0 _ rfl
  have cR0 : w6.cell? ⟨w.heap.size, 0, none⟩ = some (Value.string (bs [])) := HR.out.cell 0 _ rfl
  have fP0 := HP.out.free 0
  have fR0 := HR.out.free 0
  have cP1 : w6.cell? ⟨w.heap.size + 1, 1, none⟩ = some (Value.string (bs [])) := HP.out.cell 1 _ rfl
  have cR1 : w6.cell? ⟨w.heap.size, 1, none⟩ = some (Value.string (bs [])) := HR.out.cell 1 _ rfl
  have fP1 := HP.out.free 1
  have fR1 := HR.out.free 1
  have cP2 : w6.cell? ⟨w.heap.size + 1, 2, none⟩ = some (Value.string (bs p)) := HP.out.cell 2 _ rfl
  have cR2 : w6.cell? ⟨w.heap.size, 2, none⟩ = some (Value.string (bs [])) := HR.out.cell 2 _ rfl
  have fP2 := HP.out.free 2
  have fR2 := HR.out.free 2
  have cP3 : w6.cell? ⟨w.heap.size + 1, 3, none⟩ = some (Value.string (bs [])) := HP.out.cell 3 _ rfl
  have cR3 : w6.cell? ⟨w.heap.size, 3, none⟩ = some (Value.string (bs [])) := HR.out.cell 3 _ rfl
  have fP3 := HP.out.free 3
  have fR3 := HR.out.free 3
  have hzP := HP.out.lt
  have hzR := HR.out.lt
  go_wp2_with fail
  refine (split_any t 44 _ HG.out (by omega)).mono ?_
  rintro e w7 ⟨rfl, hw7⟩
  have hk7 : Kept w6 w7 := by rw [hw7]; exact kept_alloc _ _
  have bS : Blk w7 w6.heap.size 9 (strCells (splitC 44 t)).toArray := by rw [hw7]; exact Blk.new _ _ _
  have hB : w6.heap.size ≠ w.heap.size + 1 := by omega
  clear cP0 cR0 fP0 fR0 cP1 cR1 fP1 fR1 cP2 cR2 fP2 fR2 cP3 cR3 fP3 fR3 hzP hzR
  have bP : Blk w7 (w.heap.size + 1) 24 #[Value.string (bs []), Value.string (bs []), Value.string (bs p), Value.string (bs [])] := (HP.out).kept hk7
  have bR : Blk w7 w.heap.size 24 #[Value.string (bs []), Value.string (bs []), Value.string (bs []), Value.string (bs [])] := (HR.out).kept hk7
  have kk : Kept w w7 := (HK.out).trans hk7
  clear HP HR HK HG
  have HP := Lib.hid bP
  have HR := Lib.hid bR
  have HK := Lib.hid kk
  have HG := Lib.hid (hg.kept kk)
  clear bP bR kk hk7
  clear hw7
  rw [HSP.out]
  rw [HSP.out] at bS
  have HS : Hid (Blk w7 w6.heap.size 9 #[Value.string (bs a), Value.string (bs b)]) := bS
  clear bS
  have cP0 : w7.cell? ⟨w.heap.size + 1, 0, none⟩ = some (Value.string (bs [])) := HP.out.cell 0 _ rfl
  have cR0 : w7.cell? ⟨w.heap.size, 0, none⟩ = some (Value.string (bs [])) := HR.out.cell 0 _ rfl
  have fP0 := HP.out.free 0
  have fR0 := HR.out.free 0
  have cP1 : w7.cell? ⟨w.heap.size + 1, 1, none⟩ = some (Value.string (bs [])) := HP.out.cell 1 _ rfl
  have cR1 : w7.cell? ⟨w.heap.size, 1, none⟩ = some (Value.string (bs [])) := HR.out.cell 1 _ rfl
  have fP1 := HP.out.free 1
  have fR1 := HR.out.free 1
  have cP2 : w7.cell? ⟨w.heap.size + 1, 2, none⟩ = some (Value.string (bs p)) := HP.out.cell 2 _ rfl
  have cR2 : w7.cell? ⟨w.heap.size, 2, none⟩ = some (Value.string (bs [])) := HR.out.cell 2 _ rfl
  have fP2 := HP.out.free 2
  have fR2 := HR.out.free 2
  have cP3 : w7.cell? ⟨w.heap.size + 1, 3, none⟩ = some (Value.string (bs [])) := HP.out.cell 3 _ rfl
  have cR3 : w7.cell? ⟨w.heap.size, 3, none⟩ = some (Value.string (bs [])) := HR.out.cell 3 _ rfl
  have fP3 := HP.out.free 3
  have fR3 := HR.out.free 3
  have hzP := HP.out.lt
  have hzR := HR.out.lt
  have cS0 : w7.cell? ⟨w6.heap.size, 0, none⟩ = some (.string (bs a)) := HS.out.cell 0 _ rfl
  have cS1 : w7.cell? ⟨w6.heap.size, 1, none⟩ = some (.string (bs b)) := HS.out.cell 1 _ rfl
  have hzS := HS.out.lt
  go_wp2_with fail
  refine (clean_any a _ HG.out (by omega)).mono ?_
  rintro e w8 ⟨rfl, hk8⟩
  clear cS0 cS1 hzS
  clear cP0 cR0 fP0 fR0 cP1 cR1 fP1 fR1 cP2 cR2 fP2 fR2 cP3 cR3 fP3 fR3 hzP hzR
  have bS : Blk w8 w6.heap.size 9 #[Value.string (bs a), Value.string (bs b)] := (HS.out).kept hk8
  clear HS
  have HS := Lib.hid bS
  clear bS
  have bP : Blk w8 (w.heap.size + 1) 24 #[Value.string (bs []), Value.string (bs []), Value.string (bs p), Value.string (bs [])] := (HP.out).kept hk8
  have bR : Blk w8 w.heap.size 24 #[Value.string (bs []), Value.string (bs []), Value.string (bs []), Value.string (bs [])] := (HR.out).kept hk8
  have kk : Kept w w8 := (HK.out).trans hk8
  clear HP HR HK HG
  have HP := Lib.hid bP
  have HR := Lib.hid bR
  have HK := Lib.hid kk
  have HG := Lib.hid (hg.kept kk)
  clear bP bR kk hk8
  rw [HFA.out]
  have cP0 : w8.cell? ⟨w.heap.size + 1, 0, none⟩ = some (Value.string (bs [])) := HP.out.cell 0 _ rfl
  have cR0 : w8.cell? ⟨w.heap.size, 0, none⟩ = some (Value.string (bs [])) := HR.out.cell 0 _ rfl
  have fP0 := HP.out.free 0
  have fR0 := HR.out.free 0
  have cP1 : w8.cell? ⟨w.heap.size + 1, 1, none⟩ = some (Value.string (bs [])) := HP.out.cell 1 _ rfl
  have cR1 : w8.cell? ⟨w.heap.size, 1, none⟩ = some (Value.string (bs [])) := HR.out.cell 1 _ rfl
  have fP1 := HP.out.free 1
  have fR1 := HR.out.free 1
  have cP2 : w8.cell? ⟨w.heap.size + 1, 2, none⟩ = some (Value.string (bs p)) := HP.out.cell 2 _ rfl
  have cR2 : w8.cell? ⟨w.heap.size, 2, none⟩ = some (Value.string (bs [])) := HR.out.cell 2 _ rfl
  have fP2 := HP.out.free 2
  have fR2 := HR.out.free 2
  have cP3 : w8.cell? ⟨w.heap.size + 1, 3, none⟩ = some (Value.string (bs [])) := HP.out.cell 3 _ rfl
  have cR3 : w8.cell? ⟨w.heap.size, 3, none⟩ = some (Value.string (bs [])) := HR.out.cell 3 _ rfl
  have fP3 := HP.out.free 3
  have fR3 := HR.out.free 3
  have hzP := HP.out.lt
  have hzR := HR.out.lt
  have cS0 : w8.cell? ⟨w6.heap.size, 0, none⟩ = some (.string (bs a)) := HS.out.cell 0 _ rfl
  have cS1 : w8.cell? ⟨w6.heap.size, 1, none⟩ = some (.string (bs b)) := HS.out.cell 1 _ rfl
  have hzS := HS.out.lt
  go_wp2_with fail
  refine (clean_any b _ (hg.kept (kept_set HK.out (w.heap.size + 1) 0 _ (by omega))) (by omega)).mono ?_
  rintro e w9 ⟨rfl, hk9⟩
  clear cS0 cS1 hzS
  clear cP0 cR0 fP0 fR0 cP1 cR1 fP1 fR1 cP2 cR2 fP2 fR2 cP3 cR3 fP3 fR3 hzP hzR
  have bS : Blk w9 w6.heap.size 9 #[Value.string (bs a), Value.string (bs b)] := ((HS.out).other (w.heap.size + 1) 0 (Value.string (bs [])) hB).kept hk9
  clear HS
  have HS := Lib.hid bS
  clear bS
  have bP : Blk w9 (w.heap.size + 1) 24 #[Value.string (bs []), Value.string (bs []), Value.string (bs p), Value.string (bs [])] := ((HP.out).set 0 (Value.string (bs []))).kept hk9
  have bR : Blk w9 w.heap.size 24 #[Value.string (bs []), Value.string (bs []), Value.string (bs []), Value.string (bs [])] := ((HR.out).other (w.heap.size + 1) 0 (Value.string (bs [])) (by omega)).kept hk9
  have kk : Kept w w9 := (kept_set (HK.out) (w.heap.size + 1) 0 (Value.string (bs [])) (by omega)).trans hk9
  clear HP HR HK HG
  have HP := Lib.hid bP
  have HR := Lib.hid bR
  have HK := Lib.hid kk
  have HG := Lib.hid (hg.kept kk)
  clear bP bR kk hk9
  rw [HFB.out]
  have cP0 : w9.cell? ⟨w.heap.size + 1, 0, none⟩ = some (Value.string (bs [])) := HP.out.cell 0 _ rfl
  have cR0 : w9.cell? ⟨w.heap.size, 0, none⟩ = some (Value.string (bs [])) := HR.out.cell 0 _ rfl
  have fP0 := HP.out.free 0
  have fR0 := HR.out.free 0
  have cP1 : w9.cell? ⟨w.heap.size + 1, 1, none⟩ = some (Value.string (bs [])) := HP.out.cell 1 _ rfl
  have cR1 : w9.cell? ⟨w.heap.size, 1, none⟩ = some (Value.string (bs [])) := HR.out.cell 1 _ rfl
  have fP1 := HP.out.free 1
  have fR1 := HR.out.free 1
  have cP2 : w9.cell? ⟨w.heap.size + 1, 2, none⟩ = some (Value.string (bs p)) := HP.out.cell 2 _ rfl
  have cR2 : w9.cell? ⟨w.heap.size, 2, none⟩ = some (Value.string (bs [])) := HR.out.cell 2 _ rfl
  have fP2 := HP.out.free 2
  have fR2 := HR.out.free 2
  have cP3 : w9.cell? ⟨w.heap.size + 1, 3, none⟩ = some (Value.string (bs [])) := HP.out.cell 3 _ rfl
  have cR3 : w9.cell? ⟨w.heap.size, 3, none⟩ = some (Value.string (bs [])) := HR.out.cell 3 _ rfl
  have fP3 := HP.out.free 3
  have fR3 := HR.out.free 3
  have hzP := HP.out.lt
  have hzR := HR.out.lt
  go_wp2_with fail
  refine bodyPost_ret (v := .tuple #[persV [] [] [] [], .int .i64 8]) (by simp [results, Tryd.results13, go_sem, *]) rfl ⟨rfl, ?_⟩
  repeat (first | exact HK.out | refine kept_set ?_ _ _ _ (by omega) | exact (HK.out).trans (kept_drewN _ _))

end Go.Proofs.YtflpkadknljpbaaDoor
