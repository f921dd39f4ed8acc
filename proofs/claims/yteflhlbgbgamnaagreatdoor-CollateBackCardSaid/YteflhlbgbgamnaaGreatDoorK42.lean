/- Text of publisherref25. Conditions: lengths. -/
import Derived.Test.YteflhlbgbgamnaaGreatDoorK27
import Derived.Test.YteflhlbgbgamnaaGreatDoorK32
import Derived.Test.YteflhlbgbgamnaaGreatDoorK31
import Derived.Test.YteflhlbgbgamnaaGreatDoorK41
import Derived.Test.YteflhlbgbgamnaaGreatDoorK34
import Derived.Test.YteflhlbgbgamnaaGreatDoorK37
import Derived.Deep.RegionHeld3

set_option linter.all false
namespace Go.Proofs.YteflhlbgbgamnaaGreatDoor
open Go.RowKit

theorem ordT_len (xs : List Bs) (h : ∀ x ∈ xs, x.length ≤ 200) (k : Nat) : (ordT xs k).length ≤ 5 + k * 201 := by
  unfold ordT
  split
  · simp
  · rw [List.length_append]
    have e : ∀ ys : List Bs, (∀ y ∈ ys, y.length ≤ 200) → (ys.flatMap fun x => 32 :: x).length ≤ ys.length * 201 := by
      intro ys
      induction ys with
      | nil => intro _; simp
      | cons y r ih =>
        intro hy
        have h1 := hy y (by simp)
        have h2 := ih (fun z hz => hy z (by simp [hz]))
        rw [List.flatMap_cons, List.length_append, List.length_cons, List.length_cons, Nat.add_mul]; omega
    have h3 := e (xs.take k) (fun y hy => h y (List.mem_of_mem_take hy))
    have h4 : (xs.take k).length ≤ k := by simp; omega
    have h5 : (xs.take k).length * 201 ≤ k * 201 := Nat.mul_le_mul_right _ h4
    have h6 : kOrder.length = 5 := rfl
    omega
theorem rnkT_len (ps : List Pr) (h : ∀ p ∈ ps, p.1.length ≤ 200 ∧ p.2.length ≤ 200) (k : Nat) : (rnkT (ps.take k)).length ≤ k * 405 := by
  have e : ∀ qs : List Pr, (∀ p ∈ qs, p.1.length ≤ 200 ∧ p.2.length ≤ 200) → (rnkT qs).length ≤ qs.length * 405 := by
    intro qs
    induction qs with
    | nil => intro _; simp [rnkT]
    | cons p r ih =>
      intro hp
      have h1 := hp p (by simp)
      have h2 := ih (fun z hz => hp z (by simp [hz]))
      have e1 : rnkT (p :: r) = ([97, 115, 32] ++ p.1 ++ [32] ++ p.2 ++ [10]) ++ rnkT r := by simp [rnkT]
      rw [e1]
      simp only [List.length_append, List.length_cons, List.length_nil]
      rw [Nat.add_mul]; omega
  have h3 := e (ps.take k) (fun y hy => h y (List.mem_of_mem_take hy))
  have h4 : (ps.take k).length ≤ k := by simp; omega
  exact Nat.le_trans h3 (Nat.mul_le_mul_right _ h4)
set_option maxRecDepth 100000 in
set_option maxHeartbeats 6400000 in
theorem rctext_any (vR vO : Value) (c : ColT) (w : World) (hv : Col w vR vO c) (hs : SmallC c) :
    Calls Tryz.prog 27 #[colV vR vO c.ignore] w fun e w' => e = .returned (.tuple #[.string (bs (colS c)), .int .i64 (colE c)]) ∧ Kept w w' := by
  have HV := Lib.hid hv
  have HCK := Lib.hid (fun w h => rcolcheck_any vR vO c w h hs)
  obtain ⟨aR, cR, rfl, lR⟩ := hv.1.form
  obtain ⟨aO, cO, rfl, lO⟩ := hv.2.form
  clear hv hs
  have HB := Lib.hid (Blk.new w 42 #[.slice aR c.ranks.length cR, .slice aO c.order.length cO, .string (bs c.ignore)])
  have HK0 := Lib.hid (kept_alloc w (.cells #[.slice aR c.ranks.length cR, .slice aO c.order.length cO, .string (bs c.ignore)] 42))
  have HS0 : Hid (colE c ≠ 0 → colS c = []) := fun h => by unfold colS; rw [if_neg h]
  have HS1 := Lib.hid (colS_at c)
  have HSM : Hid (colE c = 0 → c.order.length ≤ 128 ∧ c.ranks.length ≤ 128 ∧ c.ignore.length ≤ 200 ∧ (∀ s ∈ c.order, s.length ≤ 200) ∧ ∀ p ∈ c.ranks, p.1.length ≤ 200 ∧ p.2.length ≤ 200) := fun h => colE_small h
  generalize colS c = T at *
  generalize colE c = E at *
  go_enter Tryz.func27, Tryz.ntmps27
  go_wp2_with fail
  refine (HCK.out _ (HV.out.kept HK0.out)).mono ?_
  rintro e w1 ⟨rfl, hk1⟩
  have HB1 := Lib.hid (HB.out.kept hk1)
  have HK1 := Lib.hid (HK0.out.trans hk1)
  clear hk1
  by_cases hE : E = 0
  case neg =>
    have hE' : (E == 0) = false := by simpa using hE
    have HT := Lib.hid (HS0.out hE)
    go_wp2_with fail
    go_ret2
    exact ⟨by rw [HT.out]; rfl, HK1.out⟩
  subst hE
  have HT := Lib.hid (HS1.out rfl)
  obtain ⟨s1, s2, s3, s4, s5⟩ := HSM.out rfl
  have HS4 := Lib.hid s4
  have HS5 := Lib.hid s5
  have HOL := Lib.hid (ordT_len c.order s4)
  have HRL := Lib.hid (rnkT_len c.ranks s5)
  clear s4 s5 HS0 HS1 HSM
  go_wp2_with fail
  (try simp only [mk_bs])
  go_loopw [5, 6] (fun s i wr => ∃ k : Nat, k ≤ c.order.length ∧ i = .int .i64 k ∧ s = .string (bs (ordT c.order k)) ∧ Hid (Kept w1 wr)) (fun _ i _ => c.order.length - (intOf i).toNat)
  case atStart => exact ⟨0, Nat.zero_le _, rfl, rfl, Kept.refl _⟩
  case round =>
    obtain ⟨k, hk, rfl, rfl, HK⟩ := hrel
    have b1 : wr.cell? ⟨w.heap.size, 1, none⟩ = some (.slice aO c.order.length cO) := (HB1.out.kept HK.out).cell 1 _ rfl
    have z1 := (HB1.out.kept HK.out).lt
    have hol := HOL.out k
    by_cases hlt : k < c.order.length
    · obtain ⟨s, hx⟩ : ∃ x, c.order[k]? = some x := ⟨_, List.getElem?_eq_getElem hlt⟩
      have hsl := HS4.out s (List.mem_of_getElem? hx)
      obtain ⟨g, o, rfl, hg, d0, _, _⟩ := (HV.out.2.kept (HK1.out.trans HK.out)).cell_of k s hx
      have HN := Lib.hid (ordT_next c.order k s hx)
      obtain ⟨nx, HNX⟩ : ∃ nx, Hid (ordT c.order (k + 1) = nx) := ⟨_, rfl⟩
      rw [HNX.out] at HN
      generalize ordT c.order k = t0 at *
      clear hx
      by_cases hk0 : k = 0
      · rw [if_pos hk0] at HN
        have hk0' : ((k : Int) == 0) = true := by rw [beq_iff_eq]; omega
        have ad1 := fun w => run_add (P := Tryz.prog) [111, 114, 100, 101, 114] [32] (by simp) (by simp) w
        have ad2 := fun w => run_add (P := Tryz.prog) ([111, 114, 100, 101, 114] ++ [32]) s (by simp) (by omega) w
        have HN2 : Hid (nx = [111, 114, 100, 101, 114] ++ [32] ++ s) := by show _ = _; rw [HN.out]; rfl
        rw [← HN2.out] at ad2
        generalize hzz : ([111, 114, 100, 101, 114] ++ [32] : Bs) = z at *
        clear hk0 hzz
        go_wp2_with fail
        go_roundw
        case rel => exact ⟨k + 1, by omega, by go_num, by rw [HNX.out], HK.out⟩
        case measure => simp [intOf]; omega
      · rw [if_neg hk0] at HN
        have hk0' : ((k : Int) == 0) = false := by rw [beq_eq_false_iff_ne]; omega
        have ad1 := fun w => run_add (P := Tryz.prog) t0 [32] (by omega) (by simp) w
        have ad2 := fun w => run_add (P := Tryz.prog) (t0 ++ [32]) s (by simp; omega) (by omega) w
        have HN2 : Hid (nx = t0 ++ [32] ++ s) := by show _ = _; rw [HN.out, List.append_assoc]
        rw [← HN2.out] at ad2
        generalize hzz : t0 ++ [32] = z at *
        clear hk0 hzz
        go_wp2_with fail
        go_roundw
        case rel => exact ⟨k + 1, by omega, by go_num, by rw [HNX.out], HK.out⟩
        case measure => simp [intOf]; omega
    · obtain rfl : k = c.order.length := by omega
      have HT1 : Hid (∃ T1 : Bs, T1 = (if c.order = [] then [] else ordT c.order c.order.length ++ [10]) ∧ T1.length ≤ 30000) := by
        refine ⟨_, rfl, ?_⟩
        split
        · simp
        · rw [List.length_append]; simp; omega
      have HNE : Hid (ordT c.order c.order.length = [] ↔ c.order = []) := ordT_nil c.order
      have ad1 := fun w => run_add (P := Tryz.prog) (ordT c.order c.order.length) [10] (by omega) (by simp) w
      obtain ⟨T1, hT1, hT1l⟩ := HT1.out
      clear HT1
      rw [← hT1] at HT
      have HQ : Hid ((((ordT c.order c.order.length == []) = true) ∧ T1 = []) ∨ (((ordT c.order c.order.length == []) = false) ∧ T1 = ordT c.order c.order.length ++ [10])) := by
        by_cases q : c.order = []
        · left
          refine ⟨by rw [beq_iff_eq]; exact HNE.out.2 q, by rw [hT1, if_pos q]⟩
        · right
          refine ⟨by rw [beq_eq_false_iff_ne]; exact fun z => q (HNE.out.1 z), by rw [hT1, if_neg q]⟩
      clear hT1 HNE hlt
      generalize ordT c.order c.order.length = t0 at *
      rcases HQ.out with ⟨q1, q2⟩ | ⟨q1, q2⟩
      case' inl =>
        have q3 : t0 = T1 := by rw [q2]; simpa using q1
        subst t0
        clear q2 ad1
      case' inr =>
        rw [← q2] at ad1
        clear q2
      all_goals
        clear HQ
        go_wp2_with fail
        (try simp only [mk_bs])
        clear b1 z1 q1
        go_loopw [5, 7] (fun s i wr2 => ∃ k : Nat, k ≤ c.ranks.length ∧ i = .int .i64 k ∧ s = .string (bs (T1 ++ rnkT (c.ranks.take k))) ∧ Hid (Kept w1 wr2)) (fun _ i _ => c.ranks.length - (intOf i).toNat)
        case atStart => exact ⟨0, Nat.zero_le _, rfl, by simp [rnkT], HK.out⟩
        case round =>
          clear HK
          obtain ⟨k, hk, rfl, rfl, HK⟩ := hrel
          have b0 : wr.cell? ⟨w.heap.size, 0, none⟩ = some (.slice aR c.ranks.length cR) := (HB1.out.kept HK.out).cell 0 _ rfl
          have z1 := (HB1.out.kept HK.out).lt
          have hrl := HRL.out k
          have htl : (T1 ++ rnkT (c.ranks.take k)).length ≤ 30000 + k * 405 := by rw [List.length_append]; omega
          by_cases hlt : k < c.ranks.length
          · obtain ⟨p, hx⟩ : ∃ x, c.ranks[k]? = some x := ⟨_, List.getElem?_eq_getElem hlt⟩
            obtain ⟨hp1, hp2⟩ := HS5.out p (List.mem_of_getElem? hx)
            obtain ⟨g, o, rfl, hg, d0, d1, _, _⟩ := (HV.out.1.kept (HK1.out.trans HK.out)).cell_of k p hx
            have HN := Lib.hid (rnkT_next c.ranks k p hx)
            obtain ⟨nx, HNX⟩ : ∃ nx, Hid (T1 ++ rnkT (c.ranks.take (k + 1)) = nx) := ⟨_, rfl⟩
            have HN2 : Hid (T1 ++ rnkT (c.ranks.take k) ++ [97, 115, 32] ++ p.1 ++ [32] ++ p.2 ++ [10] = nx) := by
              show _ = _
              rw [← HNX.out, HN.out]; simp
            obtain ⟨x, y⟩ := p
            simp only at hp1 hp2 d0 d1 HN2
            generalize T1 ++ rnkT (c.ranks.take k) = s0 at *
            clear hx HN hrl
            have ad1 := fun w => run_add (P := Tryz.prog) s0 [97, 115, 32] (by omega) (by simp) w
            have ad2 := fun w => run_add (P := Tryz.prog) (s0 ++ [97, 115, 32]) x (by simp; omega) (by omega) w
            have ad3 := fun w => run_add (P := Tryz.prog) (s0 ++ [97, 115, 32] ++ x) [32] (by simp; omega) (by simp) w
            have ad4 := fun w => run_add (P := Tryz.prog) (s0 ++ [97, 115, 32] ++ x ++ [32]) y (by simp; omega) (by omega) w
            have ad5 := fun w => run_add (P := Tryz.prog) (s0 ++ [97, 115, 32] ++ x ++ [32] ++ y) [10] (by simp; omega) (by simp) w
            rw [HN2.out] at ad5
            generalize hz5 : s0 ++ [97, 115, 32] ++ x ++ [32] ++ y = y4 at *
            generalize hz4 : s0 ++ [97, 115, 32] ++ x ++ [32] = y3 at *
            generalize hz3 : s0 ++ [97, 115, 32] ++ x = y2 at *
            generalize hz2 : s0 ++ [97, 115, 32] = y1 at *
            clear hz5 hz4 hz3 hz2 HN2
            go_wp2_with fail
            go_quiet (fail)
            go_wp2_with fail
            go_roundw
            case rel => exact ⟨k + 1, by omega, by go_num, by rw [HNX.out], HK.out.trans (kept_drewN _ _)⟩
            case measure => simp [intOf]; omega
          · obtain rfl : k = c.ranks.length := by omega
            rw [List.take_of_length_le (Nat.le_refl _)] at htl ⊢
            have b2 : wr.cell? ⟨w.heap.size, 2, none⟩ = some (.string (bs c.ignore)) := (HB1.out.kept HK.out).cell 2 _ rfl
            generalize T1 ++ rnkT c.ranks = s0 at *
            clear hrl
            by_cases hi : c.ignore = []
            · rw [if_pos hi, List.append_nil] at HT
              generalize c.ignore = ig at *
              subst hi
              go_wp2_with fail
              go_ret2
              exact ⟨by rw [HT.out]; rfl, HK1.out.trans HK.out⟩
            · rw [if_neg hi] at HT
              have hi' : (c.ignore == []) = false := by simpa using hi
              have ad1 := fun w => run_add (P := Tryz.prog) s0 [105, 103, 110, 111, 114, 101, 32] (by omega) (by simp) w
              have ad2 := fun w => run_add (P := Tryz.prog) (s0 ++ [105, 103, 110, 111, 114, 101, 32]) c.ignore (by simp; omega) (by omega) w
              have ad3 := fun w => run_add (P := Tryz.prog) (s0 ++ [105, 103, 110, 111, 114, 101, 32] ++ c.ignore) [10] (by simp; omega) (by simp) w
              have HT2 : Hid (s0 ++ [105, 103, 110, 111, 114, 101, 32] ++ c.ignore ++ [10] = T) := by show _ = _; rw [HT.out]; simp
              rw [HT2.out] at ad3
              generalize hz3 : s0 ++ [105, 103, 110, 111, 114, 101, 32] ++ c.ignore = y2 at *
              generalize hz2 : s0 ++ [105, 103, 110, 111, 114, 101, 32] = y1 at *
              clear hz3 hz2 HT2 HT
              go_wp2_with fail
              go_ret2
              exact ⟨rfl, HK1.out.trans HK.out⟩
end Go.Proofs.YteflhlbgbgamnaaGreatDoor

/- The law CollateBack answers true of every collation. Conditions: lengths that a machine can tell. -/
set_option linter.all false
namespace Go.Proofs.YteflhlbgbgamnaaGreatDoor
open Go.RowKit

theorem colS_bad {c : ColT} (h : colE c ≠ 0) : colS c = [] := by unfold colS; rw [if_neg h]
set_option maxRecDepth 100000 in
set_option maxHeartbeats 6400000 in
theorem lcback_any (vR vO : Value) (c : ColT) (w : World) (hg : Gnd w) (hv : Col w vR vO c) (hf : FitC c) : Calls Tryz.prog 7 #[colV vR vO c.ignore] w fun e w' => e = .returned (.bool true) ∧ Kept w w' := by
  have HG := Lib.hid hg
  have HV := Lib.hid hv
  have HL := Lib.hid (fun w h => light_any vR vO c w h hf)
  have HAW : Hid (∀ w', Kept w w' → Calls Tryz.prog 20 #[] w' fun e w2 => e = .returned (.bool true) ∧ Kept w' w2) := fun w' h => cawake_any w' (HG.out.kept h)
  have HC1 := Lib.hid (fun w h hs => ctext_any vR vO c w h hs)
  have HC2 := Lib.hid (fun w h hs => rctext_any vR vO c w h hs)
  have HSA : Hid (SmallC c → ∀ w' uR uO, Col w' vR vO c → Col w' uR uO c → Calls Tryz.prog 25 #[colV uR uO c.ignore, colV vR vO c.ignore] w' fun e w2 => e = .returned (.bool true) ∧ Kept w' w2) :=
    fun hs w' uR uO h h' => csame_eq uR uO vR vO c w' h' h (by have := hs.1; omega) (by have := hs.2.1; omega)
  have HPA : Hid (colE c = 0 → ∀ w', Kept w w' → Calls Tryz.prog 23 #[.string (bs (colS c))] w' (CParP (c, 0, 0) w')) := fun h w' hk => by
    have := cparse_ok (colS c) w' (HG.out.kept hk) (par_back h)
    rw [col_back h] at this; exact this
  have hcs : (colS c).length ≤ 1000000000 := by
    by_cases q : colE c = 0
    · have := (par_back q).1; omega
    · rw [colS_bad q]; simp
  obtain ⟨⟨aR, cR, rfl, -⟩, ⟨aO, cO, rfl, -⟩⟩ := hv
  clear hf hg
  generalize colS c = S at *
  obtain ⟨E, HE⟩ : ∃ E, Hid (colE c = E) := ⟨_, rfl⟩
  rw [HE.out] at HC1 HC2 HPA
  go_enter Tryz.func7, Tryz.ntmps7
  go_wp2_with fail
  have HB0 := Lib.hid (Blk.new w 42 #[.slice aR c.ranks.length cR, .slice aO c.order.length cO, .string (bs c.ignore)])
  have HK0 := Lib.hid (kept_alloc w (.cells #[.slice aR c.ranks.length cR, .slice aO c.order.length cO, .string (bs c.ignore)] 42))
  generalize w.alloc (.cells #[.slice aR c.ranks.length cR, .slice aO c.order.length cO, .string (bs c.ignore)] 42) = w0 at *
  generalize w.heap.size = B at *
  refine (HL.out _ (HV.out.kept HK0.out)).mono ?_
  rintro e w1 ⟨⟨b, rfl, hs⟩, hk1⟩
  have HS := Lib.hid hs
  have HK1 := Lib.hid (HK0.out.trans hk1)
  have HB1 := Lib.hid (HB0.out.kept hk1)
  clear hs hk1 HK0 HB0 HL
  cases b with
  | false =>
    go_wp2_with fail
    refine (HAW.out _ HK1.out).mono ?_
    rintro e w2 ⟨rfl, hk⟩
    have HK2 := Lib.hid (HK1.out.trans hk)
    clear hk
    go_wp2_with fail
    go_ret
    exact ⟨rfl, HK2.out⟩
  | true =>
    have HSM := Lib.hid (HS.out rfl)
    have b0 : w1.cell? ⟨B, 0, none⟩ = some (.slice aR c.ranks.length cR) := HB1.out.cell 0 _ rfl
    have b1 : w1.cell? ⟨B, 1, none⟩ = some (.slice aO c.order.length cO) := HB1.out.cell 1 _ rfl
    have b2 : w1.cell? ⟨B, 2, none⟩ = some (.string (bs c.ignore)) := HB1.out.cell 2 _ rfl
    have z0 := HB1.out.lt
    clear HS
    go_wp2_with fail
    refine (HC1.out _ (HV.out.kept HK1.out) HSM.out).mono ?_
    rintro e w2 ⟨rfl, hk⟩
    have HK2 := Lib.hid (HK1.out.trans hk)
    have HB2 := Lib.hid (HB1.out.kept hk)
    clear hk b0 b1 b2 z0 HK1 HB1
    have b0 : w2.cell? ⟨B, 0, none⟩ = some (.slice aR c.ranks.length cR) := HB2.out.cell 0 _ rfl
    have b1 : w2.cell? ⟨B, 1, none⟩ = some (.slice aO c.order.length cO) := HB2.out.cell 1 _ rfl
    have b2 : w2.cell? ⟨B, 2, none⟩ = some (.string (bs c.ignore)) := HB2.out.cell 2 _ rfl
    have z0 := HB2.out.lt
    go_wp2_with fail
    refine (HC2.out _ (HV.out.kept HK2.out) HSM.out).mono ?_
    rintro e w3 ⟨rfl, hk⟩
    have HK3 := Lib.hid (HK2.out.trans hk)
    have HB3 := Lib.hid (HB2.out.kept hk)
    clear hk b0 b1 b2 z0 HK2 HB2 HC1 HC2
    by_cases hE : E = 0
    · subst hE
      go_wp2_with fail
      refine (HPA.out (by first | trivial | rfl) _ HK3.out).mono ?_
      rintro e w4 ⟨uR, uO, rfl, hs3, hk⟩
      have HT4 := Lib.hid hs3
      have HK4 := Lib.hid (HK3.out.trans hk)
      have HB4 := Lib.hid (HB3.out.kept hk)
      obtain ⟨⟨bR, dR, rfl, -⟩, ⟨bO, dO, rfl, -⟩⟩ := hs3
      clear hk HK3 HB3
      have b0 : w4.cell? ⟨B, 0, none⟩ = some (.slice aR c.ranks.length cR) := HB4.out.cell 0 _ rfl
      have b1 : w4.cell? ⟨B, 1, none⟩ = some (.slice aO c.order.length cO) := HB4.out.cell 1 _ rfl
      have b2 : w4.cell? ⟨B, 2, none⟩ = some (.string (bs c.ignore)) := HB4.out.cell 2 _ rfl
      have z0 := HB4.out.lt
      go_wp2_with fail
      have HA := Lib.hid (kept_alloc w4 (.cells #[.slice bR c.ranks.length dR, .slice bO c.order.length dO, .string (bs c.ignore)] 42))
      refine (HSA.out HSM.out _ _ _ (HV.out.kept (HK4.out.trans HA.out)) (HT4.out.kept HA.out)).mono ?_
      rintro e w5 ⟨rfl, hk5⟩
      have HK5 := Lib.hid (HK4.out.trans (HA.out.trans hk5))
      clear hk5 HA b0 b1 b2 z0 HK4 HB4
      go_wp2_with fail
      refine (HAW.out _ HK5.out).mono ?_
      rintro e w6 ⟨rfl, hk⟩
      have HK6 := Lib.hid (HK5.out.trans hk)
      clear hk
      go_wp2_with fail
      go_ret
      exact ⟨rfl, HK6.out⟩
    · have hE' : (E == 0) = false := by simpa using hE
      go_wp2_with fail
      refine (HAW.out _ HK3.out).mono ?_
      rintro e w6 ⟨rfl, hk⟩
      have HK6 := Lib.hid (HK3.out.trans hk)
      clear hk
      go_wp2_with fail
      go_ret
      exact ⟨rfl, HK6.out⟩
end Go.Proofs.YteflhlbgbgamnaaGreatDoor
