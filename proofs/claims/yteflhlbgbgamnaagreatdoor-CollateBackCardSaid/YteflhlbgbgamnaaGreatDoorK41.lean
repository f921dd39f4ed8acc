/- Parse of collate at texts whose words are short. Conditions: ParOk. -/
import Derived.Test.YteflhlbgbgamnaaGreatDoorK27

set_option linter.all false
namespace Go.Proofs.YteflhlbgbgamnaaGreatDoor
open Go.RowKit

/-- A text whose lines and words are short enough to be walked. -/
def ParOk (t : Bs) : Prop := t.length ≤ 100000 ∧ ∀ l ∈ linesL t, (∀ y ∈ wordsB l, y.length ≤ 600) ∧ (wordsB l).length ≤ 601
theorem ParOk.short {t : Bs} (h : t.length ≤ 600) : ParOk t := by
  refine ⟨by omega, fun l hl => ?_⟩
  have h1 := (lines_le t).1 l hl
  have h2 := words_le l
  exact ⟨fun y hy => by have := h2.1 y hy; omega, by have := h2.2; omega⟩
set_option maxRecDepth 100000 in
set_option maxHeartbeats 6400000 in
theorem cparse_ok (t : Bs) (w : World) (hg : Gnd w) (ht : ParOk t) : Calls Tryz.prog 23 #[.string (bs t)] w (CParP (colR (linesL t) 0 zeroC) w) := by
  have HG := Lib.hid hg
  clear hg
  obtain ⟨ht, hpw⟩ := ht
  have HLS := Lib.hid (fun w => lsplit_own t w (by omega))
  have HPW := Lib.hid hpw
  clear hpw
  obtain ⟨hl1, hl2⟩ := lines_le t
  have HL1 := Lib.hid hl1
  clear hl1
  have H0 : Hid (colR (linesL t) 0 zeroC = colR ((linesL t).drop 0) 0 zeroC) := rfl
  have hls : (linesL t).length ≤ 100001 := by omega
  obtain ⟨R, HR⟩ : ∃ R, Hid (colR (linesL t) 0 zeroC = R) := ⟨_, rfl⟩
  rw [HR.out] at H0 ⊢
  generalize linesL t = ls at *
  unfold SliQ at HLS
  have HTW := Lib.hid (two_new w)
  go_enter Tryz.func23, Tryz.ntmps23
  go_wp2_with fail
  generalize (w.alloc (.cells zCs 42)).alloc (.cells zCs 42) = w0 at *
  refine (HLS.out _).mono ?_
  rintro e w1 ⟨v1, rfl, hv1, hb1, hk1⟩
  have HV1 := Lib.hid hv1
  have HB1 := Lib.hid hb1
  have HK1 := Lib.hid (HTW.out.2.2.1.trans hk1)
  have HZ1 := Lib.hid (And.intro (HTW.out.1.kept hk1) (HTW.out.2.1.kept hk1))
  have hsz : w.heap.size + 2 ≤ w1.heap.size := by have := hk1.size; have := HTW.out.2.2.2; omega
  have hw0 := HTW.out.2.2.2
  obtain ⟨a1, c1, rfl, hc1⟩ := hv1.form
  clear hv1 hb1 hk1
  go_wp2_with fail
  go_loopw [13] (fun i wr => ∃ (k : Nat) (c : ColT), k ≤ ls.length ∧ i = .int .i64 k ∧ Hid (R = colR (ls.drop k) k c) ∧ Hid (colE c = 0) ∧ Hid (Blk wr w.heap.size 42 zCs ∧ ColSt wr (w.heap.size + 1) w1.heap.size c) ∧ Hid (Only (fun i => i = w.heap.size + 1 ∨ w1.heap.size ≤ i) w1 wr)) (fun i _ => ls.length - (intOf i).toNat)
  case atStart => exact ⟨0, zeroC, Nat.zero_le _, rfl, H0.out, colE_zero, ⟨HZ1.out.1, .slice none 0 0, .slice none 0 0, HZ1.out.2, World.ownsRow_nil _ _ _ _, World.ownsRow_nil _ _ _ _⟩, Only.of_kept (Kept.refl _)⟩
  case round =>
    obtain ⟨k, c, hk, rfl, HP, HC0, HST, HO⟩ := hrel
    have HKW : Hid (Kept w wr) := HK1.out.trans' (HO.out.below HK1.out.size (fun i h => by omega))
    have hwr : w1.heap.size ≤ wr.heap.size := HO.out.size
    by_cases hlt : k < ls.length
    · obtain ⟨l, hx⟩ : ∃ x, ls[k]? = some x := ⟨_, List.getElem?_eq_getElem hlt⟩
      have hll : l.length ≤ 100000 := by have := HL1.out l (List.mem_of_getElem? hx); omega
      have HVR : Hid (Strs wr (.slice a1 ls.length c1) ls) := HV1.out.onl HO.out (fun g hgo hq => by
        have h1 := HV1.out.blk_lt g hgo hq
        obtain ⟨g', hg', hB⟩ := HB1.out hq
        have : g' = g := by rw [hg'] at hgo; exact Option.some.inj hgo
        omega)
      obtain ⟨g, o, rfl, hgg, d0⟩ := HVR.out.cell_of2 k l hx
      have HAT := Lib.hid (colR_at ls k l c hx)
      rw [HAT.out] at HP
      have HW := Lib.hid (words_any l wr (HG.out.kept HKW.out) (by omega))
      unfold WrdP at HW
      have HWL := Lib.hid (HPW.out l (List.mem_of_getElem? hx))
      clear hx HAT
      generalize wordsB l = W at *
      go_wp2_with fail
      refine HW.out.mono ?_
      rintro e w2 ⟨v2, rfl, hv2, hk2⟩
      have HV2 := Lib.hid hv2
      have HST2 := Lib.hid (And.intro (HST.out.1.kept hk2) (HST.out.2.kept hk2))
      have HO2 := Lib.hid (HO.out.trans (Only.of_kept hk2))
      have HKW2 := Lib.hid (HKW.out.trans hk2)
      have hw2 : w1.heap.size ≤ w2.heap.size := HO2.out.size
      obtain ⟨a2, c2, rfl, hc2⟩ := hv2.form
      clear hv2 hk2 d0 hgg
      cases W with
      | nil =>
        rw [if_pos rfl] at HP
        go_wp2_with fail
        go_roundw
        case rel => exact ⟨k + 1, c, by omega, by go_num, HP.out, HC0.out, HST2.out, HO2.out⟩
        case measure => simp [intOf]; omega
      | cons x ws =>
        rw [if_neg (by simp)] at HP
        have hwn : ws.length ≤ 600 := by have := HWL.out.2; simp at this; omega
        have HAD : Hid (∀ c', addW c (x :: ws) = some c' → SmallC c') := fun c' h => addW_small HC0.out (fun y hy => by have := HWL.out.1 y hy; omega) hwn h
        have HRD := Lib.hid (read_any (w.heap.size + 1) w1.heap.size c (.slice a2 (x :: ws).length c2) x ws w2 HST2.out.2 HV2.out hw2 (by have := (colE_small HC0.out).1; omega) (by have := (colE_small HC0.out).2.1; omega) (by have := (colE_small HC0.out).2.2.1; omega) (fun y hy => by have := HWL.out.1 y (by simp [hy]); omega))
        have hne : ((ws.length : Int) + 1 == 0) = false := by rw [beq_eq_false_iff_ne]; omega
        generalize addW c (x :: ws) = A at *
        simp only [List.length_cons] at HRD hc2 ⊢
        go_wp2_with fail
        refine HRD.out.mono ?_
        rintro e w3 ⟨ho3, hm⟩
        have HBZ3 := Lib.hid (HST2.out.1.onl ho3 (by omega))
        have HO3 := Lib.hid (HO2.out.trans ho3)
        have HKW3 : Hid (Kept w w3) := HK1.out.trans' (HO3.out.below HK1.out.size (fun i h => by omega))
        clear ho3
        have b0 : w3.cell? ⟨w.heap.size, 0, none⟩ = some (.slice none 0 0) := HBZ3.out.cell 0 _ rfl
        have b1 : w3.cell? ⟨w.heap.size, 1, none⟩ = some (.slice none 0 0) := HBZ3.out.cell 1 _ rfl
        have b2 : w3.cell? ⟨w.heap.size, 2, none⟩ = some (.string (bs [])) := HBZ3.out.cell 2 _ rfl
        have f0 := HBZ3.out.free 0
        have f1 := HBZ3.out.free 1
        have f2 := HBZ3.out.free 2
        have z3 := HBZ3.out.lt
        cases A with
        | none =>
          obtain rfl : e = .returned (.bool false) := hm
          have HE : Hid (R = (zeroC, (k : Int) + 1, 5)) := HP
          go_wp2_with fail
          refine bodyPost_ret (v := .tuple #[colV (.slice none 0 0) (.slice none 0 0) [], .int .i64 ((k : Int) + 1), .int .i64 5]) (by simp [results, Tryz.results23, go_sem, b0, b1, b2, z3]) rfl ?_
          exact ⟨_, _, by rw [HE.out]; rfl, by rw [HE.out]; exact col_zero _, kept3 HKW3.out (Nat.le_refl _)⟩
        | some c' =>
          obtain ⟨rfl, hst3⟩ : e = .returned (.bool true) ∧ ColSt w3 (w.heap.size + 1) w1.heap.size c' := hm
          have HP2 : Hid (R = if colE c' ≠ 0 then (zeroC, (k : Int) + 1, colE c') else colR (ls.drop (k + 1)) (k + 1) c') := HP
          have HST3 := Lib.hid hst3
          obtain ⟨vR, vO, hb3, hR3, hO3⟩ := hst3
          have HCOL := Lib.hid (show Col w3 vR vO c' from ⟨Prs.own hR3, Strs.own hO3⟩)
          obtain ⟨aR, cR, rfl, _, _, _⟩ := own_cap hR3
          obtain ⟨aO, cO, rfl, _, _, _⟩ := own_cap hO3
          have e0 : w3.cell? ⟨w.heap.size + 1, 0, none⟩ = some (.slice aR c'.ranks.length cR) := hb3.cell 0 _ rfl
          have e1 : w3.cell? ⟨w.heap.size + 1, 1, none⟩ = some (.slice aO c'.order.length cO) := hb3.cell 1 _ rfl
          have e2 : w3.cell? ⟨w.heap.size + 1, 2, none⟩ = some (.string (bs c'.ignore)) := hb3.cell 2 _ rfl
          have y3 := hb3.lt
          have HCK := Lib.hid (fun w hw => colcheck_any (.slice aR c'.ranks.length cR) (.slice aO c'.order.length cO) c' w hw (HAD.out c' rfl))
          obtain ⟨E, HE⟩ : ∃ E, Hid (colE c' = E) := ⟨_, rfl⟩
          simp only [HE.out] at HCK HP2
          clear hb3 hR3 hO3
          go_wp2_with fail
          refine (HCK.out _ HCOL.out).mono ?_
          rintro e w4 ⟨rfl, hk4⟩
          have HBZ4 := Lib.hid (HBZ3.out.kept hk4)
          have HST4 := Lib.hid (HST3.out.kept hk4)
          have HO4 := Lib.hid (HO3.out.trans (Only.of_kept hk4))
          have HKW4 := Lib.hid (HKW3.out.trans hk4)
          clear hk4 e0 e1 e2 y3 b0 b1 b2 f0 f1 f2 z3
          by_cases hE : E = 0
          · subst hE
            rw [if_neg (by simp)] at HP2
            go_wp2_with fail
            go_roundw
            case rel => exact ⟨k + 1, c', by omega, by go_num, HP2.out, HE.out, ⟨HBZ4.out, HST4.out⟩, HO4.out⟩
            case measure => simp [intOf]; omega
          · rw [if_pos hE] at HP2
            have hE' : (E == 0) = false := by simpa using hE
            have b0 : w4.cell? ⟨w.heap.size, 0, none⟩ = some (.slice none 0 0) := HBZ4.out.cell 0 _ rfl
            have b1 : w4.cell? ⟨w.heap.size, 1, none⟩ = some (.slice none 0 0) := HBZ4.out.cell 1 _ rfl
            have b2 : w4.cell? ⟨w.heap.size, 2, none⟩ = some (.string (bs [])) := HBZ4.out.cell 2 _ rfl
            have f0 := HBZ4.out.free 0
            have f1 := HBZ4.out.free 1
            have f2 := HBZ4.out.free 2
            have z3 := HBZ4.out.lt
            go_wp2_with fail
            refine bodyPost_ret (v := .tuple #[colV (.slice none 0 0) (.slice none 0 0) [], .int .i64 ((k : Int) + 1), .int .i64 E]) (by simp [results, Tryz.results23, go_sem, b0, b1, b2, z3]) rfl ?_
            exact ⟨_, _, by rw [HP2.out]; rfl, by rw [HP2.out]; exact col_zero _, kept3 HKW4.out (Nat.le_refl _)⟩
    · have HE : Hid (R = (c, 0, 0)) := by
        have h := HP.out
        rw [List.drop_of_length_le (by omega)] at h
        exact h
      obtain ⟨vR, vO, hb3, hR3, hO3⟩ := HST.out.2
      have HBZ := Lib.hid HST.out.1
      have HRR := Lib.hid (And.intro hR3 hO3)
      obtain ⟨aR, cR, rfl, _, _, _⟩ := own_cap hR3
      obtain ⟨aO, cO, rfl, _, _, _⟩ := own_cap hO3
      have e0 : wr.cell? ⟨w.heap.size + 1, 0, none⟩ = some (.slice aR c.ranks.length cR) := hb3.cell 0 _ rfl
      have e1 : wr.cell? ⟨w.heap.size + 1, 1, none⟩ = some (.slice aO c.order.length cO) := hb3.cell 1 _ rfl
      have e2 : wr.cell? ⟨w.heap.size + 1, 2, none⟩ = some (.string (bs c.ignore)) := hb3.cell 2 _ rfl
      have y3 := hb3.lt
      have b0 : wr.cell? ⟨w.heap.size, 0, none⟩ = some (.slice none 0 0) := HBZ.out.cell 0 _ rfl
      have b1 : wr.cell? ⟨w.heap.size, 1, none⟩ = some (.slice none 0 0) := HBZ.out.cell 1 _ rfl
      have b2 : wr.cell? ⟨w.heap.size, 2, none⟩ = some (.string (bs [])) := HBZ.out.cell 2 _ rfl
      have f0 := HBZ.out.free 0
      have f1 := HBZ.out.free 1
      have f2 := HBZ.out.free 2
      have z3 := HBZ.out.lt
      clear hb3 hR3 hO3
      go_wp2_with fail
      refine bodyPost_ret (v := .tuple #[colV (.slice aR c.ranks.length cR) (.slice aO c.order.length cO) c.ignore, .int .i64 0, .int .i64 0]) (by simp [results, Tryz.results23, go_sem, b0, b1, b2, z3]) rfl ?_
      exact ⟨_, _, by rw [HE.out], by rw [HE.out]; exact ⟨Prs.own (own_set3 HRR.out.1 HBZ.out (by decide)), Strs.own (own_set3 HRR.out.2 HBZ.out (by decide))⟩, kept3 HKW.out (Nat.le_refl _)⟩
end Go.Proofs.YteflhlbgbgamnaaGreatDoor

/- The text of a collation without errors can be walked by Parse. No condition. -/
set_option linter.all false
namespace Go.Proofs.YteflhlbgbgamnaaGreatDoor
open Go.RowKit

theorem colS_len {c : ColT} (h : colE c = 0) : (joinLn (colL c)).length ≤ 100000 := by
  obtain ⟨h1, h2, h3, h4, h5⟩ := colE_small h
  have e : joinLn (colL c) = joinLn (ordLine c) ++ joinLn (c.ranks.map rankLine) ++ joinLn (ignLine c) := by
    rw [colL_is]; simp [joinLn]
  rw [e, List.length_append, List.length_append]
  have a1 : (joinLn (ordLine c)).length ≤ 26000 := by
    unfold ordLine
    split
    · simp [joinLn]
    · have := join_le c.order 200 h4
      have h6 : c.order.length * 201 ≤ 128 * 201 := Nat.mul_le_mul_right _ h1
      simp [joinLn]; omega
  have a2 : (joinLn (c.ranks.map rankLine)).length ≤ 53000 := by
    have := joinLn_len (c.ranks.map rankLine) 405 (fun x hx => by
      obtain ⟨p, hp, rfl⟩ := List.mem_map.1 hx
      have := h5 p hp
      unfold rankLine
      simp only [List.length_append, List.length_cons, List.length_nil]; omega)
    rw [List.length_map] at this
    have h6 : c.ranks.length * 406 ≤ 128 * 406 := Nat.mul_le_mul_right _ h2
    omega
  have a3 : (joinLn (ignLine c)).length ≤ 300 := by
    unfold ignLine
    split
    · simp [joinLn]
    · simp [joinLn]; omega
  omega
theorem par_back {c : ColT} (h : colE c = 0) : ParOk (colS c) := by
  obtain ⟨s1, s2, s3, s4, s5⟩ := colE_small h
  obtain ⟨_, _, h3, h4, h5⟩ := colE_parts h
  have e : colS c = joinLn (colL c) := by unfold colS; rw [if_pos h]
  refine ⟨by rw [e]; exact colS_len h, ?_⟩
  rw [e, lines_join _ (colL_no10 h)]
  intro x hx
  unfold colL at hx
  rcases List.mem_append.1 hx with hx | hx
  · rcases List.mem_append.1 hx with hx | hx
    · split at hx
      · cases hx
      · rename_i hne
        simp only [List.mem_singleton] at hx
        subst hx
        rw [order_words _ hne (ordC_all _ _ h3)]
        refine ⟨fun y hy => ?_, by simp; omega⟩
        rcases List.mem_cons.1 hy with rfl | hy
        · decide
        · have := s4 y hy; omega
    · obtain ⟨p, hp, rfl⟩ := List.mem_map.1 hx
      have hr := rnkC_all c.ranks _ h4 p hp
      rw [rank_words p hr.1 hr.2]
      refine ⟨fun y hy => ?_, by simp⟩
      have := s5 p hp
      simp only [List.mem_cons, List.mem_nil_iff, or_false] at hy
      rcases hy with rfl | rfl | rfl
      · decide
      · omega
      · omega
  · split at hx
    · cases hx
    · rename_i hi
      simp only [List.mem_singleton] at hx
      subst hx
      rw [ignore_words _ ((ign_rule h5).elim (fun z => absurd z hi) id)]
      refine ⟨fun y hy => ?_, by simp⟩
      simp only [List.mem_cons, List.mem_nil_iff, or_false] at hy
      rcases hy with rfl | rfl
      · decide
      · omega
end Go.Proofs.YteflhlbgbgamnaaGreatDoor
