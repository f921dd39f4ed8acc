/- Parse of publisherref25. Conditions: lengths. -/
import Derived.Test.YteflhlbgbgamnaaGreatDoorK27
import Derived.Test.YteflhlbgbgamnaaGreatDoorK32

set_option linter.all false
namespace Go.Proofs.YteflhlbgbgamnaaGreatDoor
open Go.RowKit

set_option maxRecDepth 100000 in
set_option maxHeartbeats 12800000 in
theorem rcparse_any (t : Bs) (w : World) (ht : t.length ≤ 600) : Calls Tryz.prog 24 #[.string (bs t)] w (CParP (colR (linesL t) 0 zeroC) w) := by
  have HLS := Lib.hid (fun w => rsplit_own t w (by omega))
  obtain ⟨hl1, hl2⟩ := lines_le t
  have HL1 := Lib.hid hl1
  clear hl1
  have H0 : Hid (colR (linesL t) 0 zeroC = colR ((linesL t).drop 0) 0 zeroC) := rfl
  have hls : (linesL t).length ≤ 601 := by omega
  obtain ⟨R, HR⟩ : ∃ R, Hid (colR (linesL t) 0 zeroC = R) := ⟨_, rfl⟩
  rw [HR.out] at H0 ⊢
  generalize linesL t = ls at *
  unfold SliQ at HLS
  have HB0 := Lib.hid (Blk.new w 42 zCs)
  have HK0 := Lib.hid (kept_alloc w (.cells zCs 42))
  have hw0 : (w.alloc (.cells zCs 42)).heap.size = w.heap.size + 1 := by simp
  go_enter Tryz.func24, Tryz.ntmps24
  go_wp2_with fail
  generalize w.alloc (.cells zCs 42) = w0 at *
  refine (HLS.out _).mono ?_
  rintro e w1 ⟨v1, rfl, hv1, hb1, hk1⟩
  have HV1 := Lib.hid (hv1.kept (kept_alloc w1 (.cells zCs 42)))
  have HVL := Lib.hid (fun g h q => hv1.blk_lt g h q)
  have HB1 := Lib.hid hb1
  have HK1 := Lib.hid ((HK0.out.trans hk1).trans (kept_alloc w1 (.cells zCs 42)))
  have HZ1 := Lib.hid ((HB0.out.kept hk1).kept (kept_alloc w1 (.cells zCs 42)))
  have HY1 := Lib.hid (Blk.new w1 42 zCs)
  have hsz : w.heap.size + 1 ≤ w1.heap.size := by have := hk1.size; omega
  have hwa : (w1.alloc (.cells zCs 42)).heap.size = w1.heap.size + 1 := by simp
  obtain ⟨a1, c1, rfl, hc1⟩ := hv1.form
  clear hv1 hb1 hk1
  go_wp2_with fail
  generalize w1.alloc (.cells zCs 42) = wa at *
  generalize w1.heap.size = b at *
  go_loopw [7] (fun i wr => ∃ (k : Nat) (c : ColT), k ≤ ls.length ∧ i = .int .i64 k ∧ Hid (R = colR (ls.drop k) k c) ∧ Hid (colE c = 0) ∧ Hid (Blk wr w.heap.size 42 zCs ∧ ColSt wr b (b + 1) c) ∧ Hid (Only (fun i => i = b ∨ b + 1 ≤ i) wa wr)) (fun i _ => ls.length - (intOf i).toNat)
  case atStart => exact ⟨0, zeroC, Nat.zero_le _, rfl, H0.out, colE_zero, ⟨HZ1.out, .slice none 0 0, .slice none 0 0, HY1.out, World.ownsRow_nil _ _ _ _, World.ownsRow_nil _ _ _ _⟩, Only.of_kept (Kept.refl _)⟩
  case round =>
    obtain ⟨k, c, hk, rfl, HP, HC0, HST, HO⟩ := hrel
    have HKW : Hid (Kept w wr) := HK1.out.trans' (HO.out.below HK1.out.size (fun i h => by omega))
    have hwr : wa.heap.size ≤ wr.heap.size := HO.out.size
    by_cases hlt : k < ls.length
    · obtain ⟨l, hx⟩ : ∃ x, ls[k]? = some x := ⟨_, List.getElem?_eq_getElem hlt⟩
      have hll : l.length ≤ 600 := by have := HL1.out l (List.mem_of_getElem? hx); omega
      have HVR : Hid (Strs wr (.slice a1 ls.length c1) ls) := HV1.out.onl HO.out (fun g hgo hq => by
        have h1 := HVL.out g hgo hq
        omega)
      obtain ⟨g, o, rfl, hgg, d0⟩ := HVR.out.cell_of2 k l hx
      have HAT := Lib.hid (colR_at ls k l c hx)
      rw [HAT.out] at HP
      have HW := Lib.hid (rwords_any l wr (by omega))
      unfold WrdP at HW
      have HWL := Lib.hid (words_le l)
      clear hx HAT
      generalize wordsB l = W at *
      go_wp2_with fail
      refine HW.out.mono ?_
      rintro e w2 ⟨v2, rfl, hv2, hk2⟩
      have HV2 := Lib.hid hv2
      have HST2 := Lib.hid (And.intro (HST.out.1.kept hk2) (HST.out.2.kept hk2))
      have HO2 := Lib.hid (HO.out.trans (Only.of_kept hk2))
      have HKW2 := Lib.hid (HKW.out.trans hk2)
      have hw2 : wa.heap.size ≤ w2.heap.size := HO2.out.size
      clear hk2 d0 hgg
      cases W with
      | nil =>
        obtain ⟨a2, c2, rfl, hc2⟩ := hv2.form
        clear hv2
        rw [if_pos rfl] at HP
        go_wp2_with fail
        go_roundw
        case rel => exact ⟨k + 1, c, by omega, by go_num, HP.out, HC0.out, HST2.out, HO2.out⟩
        case measure => simp [intOf]; omega
      | cons x ws =>
        rw [if_neg (by simp)] at HP
        have hwn : ws.length ≤ 600 := by have := HWL.out.2; simp at this; omega
        have HAD : Hid (∀ c', addW c (x :: ws) = some c' → SmallC c') := fun c' h => addW_small HC0.out (fun y hy => by have := HWL.out.1 y hy; omega) hwn h
        have hne : ((ws.length : Int) + 1 == 0) = false := by rw [beq_eq_false_iff_ne]; omega
        have hsm1 : c.order.length ≤ 128 := (colE_small HC0.out).1
        have hsm2 : c.ranks.length ≤ 128 := (colE_small HC0.out).2.1
        have hsm3 : c.ignore.length ≤ 200 := (colE_small HC0.out).2.2.1
        obtain ⟨vR, vO, hb, hRo, hOo⟩ := HST2.out.2
        have HB := Lib.hid hb
        have HRo := Lib.hid hRo
        have HOo := Lib.hid hOo
        have hz := hb.lt
        obtain ⟨aR, cR, rfl, _, _, _⟩ := own_cap hRo
        obtain ⟨aO, cO, rfl, _, _, _⟩ := own_cap hOo
        obtain ⟨av, cv, rfl, hcv⟩ : ∃ a c', v2 = .slice a (ws.length + 1) c' ∧ ws.length + 1 ≤ c' := by
          obtain ⟨a, c', hv, hc, _⟩ := hv2; exact ⟨a, c', hv, hc⟩
        obtain ⟨g, o, rfl, hgg, d0⟩ := hv2.cell_of2 0 _ rfl
        rw [Nat.add_zero] at d0
        have HCE : Hid (∀ j y, (x :: ws)[j]? = some y → w2.cell? ⟨g, o + j, none⟩ = some (.string (bs y))) := fun j y h => by
          obtain ⟨g', o', e, _, h⟩ := hv2.cell_of2 j y h
          cases e; exact h
        have HT := Lib.hid (hv2.tail.kept (kept_drewN w2 1))
        have HKB := Lib.hid (HST2.out.1)
        clear hv2 hb hRo hOo
        by_cases hnone : addW c (x :: ws) = none
        · have h : (x = kOrder ∧ ws = []) ∨ (x = kAs ∧ ws.length ≠ 2) ∨ (x = kIgnore ∧ ws.length ≠ 1) ∨ (x ≠ kOrder ∧ x ≠ kAs ∧ x ≠ kIgnore) := by
            rcases addW_cases c x ws with ⟨_, _, e⟩ | ⟨_, _, _, _, e⟩ | ⟨_, _, _, e⟩ | ⟨_, h⟩
            · rw [e] at hnone; cases hnone
            · rw [e] at hnone; cases hnone
            · rw [e] at hnone; cases hnone
            · exact h
          have HE : Hid (R = (zeroC, (k : Int) + 1, 5)) := by
            have h := HP.out
            rw [hnone] at h
            exact h
          have b0 : w2.cell? ⟨w.heap.size, 0, none⟩ = some (.slice none 0 0) := HKB.out.cell 0 _ rfl
          have b1 : w2.cell? ⟨w.heap.size, 1, none⟩ = some (.slice none 0 0) := HKB.out.cell 1 _ rfl
          have b2 : w2.cell? ⟨w.heap.size, 2, none⟩ = some (.string (bs [])) := HKB.out.cell 2 _ rfl
          have f0 := HKB.out.free 0
          have f1 := HKB.out.free 1
          have f2 := HKB.out.free 2
          have z3 := HKB.out.lt
          unfold kOrder kAs kIgnore at h
          rcases h with ⟨rfl, rfl⟩ | ⟨rfl, h⟩ | ⟨rfl, h⟩ | ⟨h1, h2, h3⟩
          · go_wp2_with fail
            refine bodyPost_ret (v := .tuple #[colV (.slice none 0 0) (.slice none 0 0) [], .int .i64 ((k : Int) + 1), .int .i64 5]) (by simp [results, Tryz.results24, go_sem, b0, b1, b2, z3]) rfl ?_
            exact ⟨_, _, by rw [HE.out]; rfl, by rw [HE.out]; exact col_zero _, kept3 HKW2.out (Nat.le_refl _)⟩
          · have hl3 : ((ws.length : Int) + 1 == 3) = false := by rw [beq_eq_false_iff_ne]; omega
            go_wp2_with fail
            refine bodyPost_ret (v := .tuple #[colV (.slice none 0 0) (.slice none 0 0) [], .int .i64 ((k : Int) + 1), .int .i64 5]) (by simp [results, Tryz.results24, go_sem, b0, b1, b2, z3]) rfl ?_
            exact ⟨_, _, by rw [HE.out]; rfl, by rw [HE.out]; exact col_zero _, kept3 HKW2.out (Nat.le_refl _)⟩
          · have hl2 : ((ws.length : Int) + 1 == 2) = false := by rw [beq_eq_false_iff_ne]; omega
            go_wp2_with fail
            refine bodyPost_ret (v := .tuple #[colV (.slice none 0 0) (.slice none 0 0) [], .int .i64 ((k : Int) + 1), .int .i64 5]) (by simp [results, Tryz.results24, go_sem, b0, b1, b2, z3]) rfl ?_
            exact ⟨_, _, by rw [HE.out]; rfl, by rw [HE.out]; exact col_zero _, kept3 HKW2.out (Nat.le_refl _)⟩
          · have e1 : (x == [111, 114, 100, 101, 114]) = false := by simpa using h1
            have e2 : (x == [97, 115]) = false := by simpa using h2
            have e3 : (x == [105, 103, 110, 111, 114, 101]) = false := by simpa using h3
            clear h1 h2 h3
            go_wp2_with fail
            refine bodyPost_ret (v := .tuple #[colV (.slice none 0 0) (.slice none 0 0) [], .int .i64 ((k : Int) + 1), .int .i64 5]) (by simp [results, Tryz.results24, go_sem, b0, b1, b2, z3]) rfl ?_
            exact ⟨_, _, by rw [HE.out]; rfl, by rw [HE.out]; exact col_zero _, kept3 HKW2.out (Nat.le_refl _)⟩
        rcases addW_cases c x ws with ⟨rfl, hl, eA⟩ | ⟨y, z, rfl, rfl, eA⟩ | ⟨y, rfl, rfl, eA⟩ | ⟨eA, h⟩
        case' inl =>
          have f1 : w2.frozen? ⟨b, 1, none⟩ = false := HB.out.free 1
          have c1' : w2.cell? ⟨b, 1, none⟩ = some (.slice aO c.order.length cO) := HB.out.cell 1 _ rfl
          have hle1 : (1 : Int) ≤ (ws.length : Int) + 1 := by omega
          have hcv1 : ¬ cv = 1 := by omega
          unfold kOrder at d0
          go_wp2_with fail
          go_region_law ((refine step_append_strs _ rfl (.tmp 36) (.tmp 38) rfl (b + 1) _ c.order (by simp [Act.eval, Act.put]) (HOo.out.drew) _ ws (by simp [Act.eval, Act.put]) HT.out (by omega) (by simp; omega) ?_; intro v' w3 hown3 hgrow3; have hb3 := (hgrow3.block b (by simpa using hz) (own_no_blk HOo.out HB.out (by decide))).trans HB.out; have f3 : w3.cell? ⟨b, 1, none⟩ = some (.slice aO c.order.length cO) := (show Blk w3 b 42 _ from hb3).cell 1 _ rfl; have f4 : w3.frozen? ⟨b, 1, none⟩ = false := (show Blk w3 b 42 _ from hb3).free 1; have z3 := (show Blk w3 b 42 _ from hb3).lt; have HG3 := Lib.hid hgrow3; have HO3 := Lib.hid hown3; obtain ⟨a3, c3, rfl, _, _, _⟩ := own_cap hown3; clear hgrow3 hown3 hb3))
          all_goals
            have hS := st_order (w := w2.drew) (HB.out.kept (kept_drewN w2 1)) (HRo.out.drew) (HOo.out.drew) HO3.out HG3.out
            have hSB := ((HKB.out.kept (kept_drewN w2 1)).onl hS.2 (by omega))
            rw [List.length_append] at hS hSB
            have HS := Lib.hid hS.1
            have HSO := Lib.hid (HO2.out.trans ((Only.of_kept (kept_drewN w2 1)).trans hS.2))
            have HSB := Lib.hid hSB
            clear hS hSB f3 f4 z3 HG3 HO3 f1 c1' d0 HT
            generalize w3.setCell ⟨b, 1, none⟩ (Value.slice a3 (c.order.length + ws.length) c3) = W at *
            obtain ⟨c', hc'⟩ : ∃ c' : ColT, c' = { c with order := c.order ++ ws } := ⟨_, rfl⟩
            rw [← hc'] at HS eA
            clear hc'
        case' inr.inl =>
          have f0 : w2.frozen? ⟨b, 0, none⟩ = false := HB.out.free 0
          have c0' : w2.cell? ⟨b, 0, none⟩ = some (.slice aR c.ranks.length cR) := HB.out.cell 0 _ rfl
          have d1 : w2.cell? ⟨g, o + 1, none⟩ = some (.string (bs y)) := HCE.out 1 y rfl
          have d2 : w2.cell? ⟨g, o + 2, none⟩ = some (.string (bs z)) := HCE.out 2 z rfl
          have HN := Lib.hid (new_prs w2.drew y z)
          have HKN : Hid (Kept w2 (w2.drew.alloc (.cells #[.string (bs y), .string (bs z)] 62))) := (kept_drewN w2 1).trans (kept_alloc _ _)
          have HBN := Lib.hid (HB.out.kept HKN.out)
          unfold kAs at d0
          simp only [List.length_cons, List.length_nil, Nat.zero_add] at hcv ⊢
          go_wp2_with fail
          go_region_law ((refine step_append_prs _ rfl (.tmp 51) (.tmp 59) rfl (b + 1) _ c.ranks (by simp [Act.eval, Act.put]) (own_kept HRo.out HKN.out) _ [(y, z)] (by simp [Act.eval, Act.put]) HN.out (by simp; omega) (by simp; omega) ?_; intro v' w3 hown3 hgrow3; have hb3 := (hgrow3.block b HBN.out.lt (own_no_blk (own_kept HRo.out HKN.out) HBN.out (by decide))).trans HBN.out; have f3 : w3.cell? ⟨b, 0, none⟩ = some (.slice aR c.ranks.length cR) := (show Blk w3 b 42 _ from hb3).cell 0 _ rfl; have f4 : w3.frozen? ⟨b, 0, none⟩ = false := (show Blk w3 b 42 _ from hb3).free 0; have z3 := (show Blk w3 b 42 _ from hb3).lt; have HG3 := Lib.hid hgrow3; have HO3 := Lib.hid hown3; obtain ⟨a3, c3, rfl, _, _, _⟩ := own_cap hown3; clear hgrow3 hown3 hb3))
          all_goals
            have hS := st_ranks HBN.out (own_kept HRo.out HKN.out) (own_kept HOo.out HKN.out) HO3.out HG3.out
            have hSB := ((HKB.out.kept HKN.out).onl hS.2 (by omega))
            rw [List.length_append] at hS hSB
            have HS := Lib.hid hS.1
            have HSO := Lib.hid (HO2.out.trans ((Only.of_kept HKN.out).trans hS.2))
            have HSB := Lib.hid hSB
            clear hS hSB f3 f4 z3 HG3 HO3 f0 c0' d0 d1 d2 HT HN HKN HBN
            simp only [List.length_cons, List.length_nil, Nat.zero_add] at HS HSB HSO
            generalize w3.setCell ⟨b, 0, none⟩ (Value.slice a3 (c.ranks.length + 1) c3) = W at *
            obtain ⟨c', hc'⟩ : ∃ c' : ColT, c' = { c with ranks := c.ranks ++ [(y, z)] } := ⟨_, rfl⟩
            rw [← hc'] at HS eA
            clear hc'
        case' inr.inr.inl =>
          have f2 : w2.frozen? ⟨b, 2, none⟩ = false := HB.out.free 2
          have c2' : w2.cell? ⟨b, 2, none⟩ = some (.string (bs c.ignore)) := HB.out.cell 2 _ rfl
          have d1 : w2.cell? ⟨g, o + 1, none⟩ = some (.string (bs y)) := HCE.out 1 y rfl
          have hyl : y.length ≤ 600 := by have := HWL.out.1 y (by simp); omega
          have hadd : ∀ w, (Op.stringOp .add (bs c.ignore) (bs y)).run Tryz.prog w = .ok (.string (bs (c.ignore ++ y))) w := fun w => by
            rw [run_string_add_sum w (bs c.ignore) (bs y) (by simp only [bs_size]; omega), bs_append]
          have hS := st_ignore (a := c.ignore ++ y) (HB.out.kept (kept_drewN w2 1)) (HRo.out.drew) (HOo.out.drew)
          have HSB : Hid (Blk ((w2.setCell ⟨b, 2, none⟩ (.string (bs (c.ignore ++ y)))).drew) w.heap.size 42 zCs) := (HKB.out.kept (kept_drewN w2 1)).onl hS.2 (by omega)
          have HS : Hid (ColSt ((w2.setCell ⟨b, 2, none⟩ (.string (bs (c.ignore ++ y)))).drew) b (b + 1) { c with ignore := c.ignore ++ y }) := hS.1
          have HSO : Hid (Only (fun i => i = b ∨ b + 1 ≤ i) wa ((w2.setCell ⟨b, 2, none⟩ (.string (bs (c.ignore ++ y)))).drew)) := HO2.out.trans ((Only.of_kept (kept_drewN w2 1)).trans hS.2)
          clear hS
          obtain ⟨c', hc'⟩ : ∃ c' : ColT, c' = { c with ignore := c.ignore ++ y } := ⟨_, rfl⟩
          rw [← hc'] at HS eA
          clear hc'
          generalize c.ignore ++ y = zz at *
          unfold kIgnore at d0
          simp only [List.length_cons, List.length_nil, Nat.zero_add] at hcv ⊢
          go_wp2_with fail
          go_region
          all_goals
            clear f2 c2' d0 d1 hadd HT
            generalize (w2.setCell ⟨b, 2, none⟩ (Value.string (bs zz))).drew = W at *
        case' inr.inr.inr => exact absurd eA hnone
        all_goals
          have HP2 : Hid (R = if colE c' ≠ 0 then (zeroC, (k : Int) + 1, colE c') else colR (ls.drop (k + 1)) (k + 1) c') := by
            have h := HP.out
            rw [eA] at h
            exact h
          have HKW3 : Hid (Kept w W) := HK1.out.trans' (HSO.out.below HK1.out.size (fun i h => by omega))
          have HSC := HAD.out c' eA
          clear HP eA HB HRo HOo HCE HKB HST2 HKW2 hz hgg hcv hsm1 hsm2 hsm3 HAD HWL hwn
          obtain ⟨vR, vO, hb3, hR3, hO3⟩ := HS.out
          have HCOL := Lib.hid (show Col W vR vO c' from ⟨Prs.own hR3, Strs.own hO3⟩)
          obtain ⟨aR', cR', rfl, _, _, _⟩ := own_cap hR3
          obtain ⟨aO', cO', rfl, _, _, _⟩ := own_cap hO3
          have e0 : W.cell? ⟨b, 0, none⟩ = some (.slice aR' c'.ranks.length cR') := hb3.cell 0 _ rfl
          have e1 : W.cell? ⟨b, 1, none⟩ = some (.slice aO' c'.order.length cO') := hb3.cell 1 _ rfl
          have e2 : W.cell? ⟨b, 2, none⟩ = some (.string (bs c'.ignore)) := hb3.cell 2 _ rfl
          have y3 := hb3.lt
          have HCK := Lib.hid (fun w hw => rcolcheck_any (.slice aR' c'.ranks.length cR') (.slice aO' c'.order.length cO') c' w hw HSC)
          obtain ⟨E, HE⟩ : ∃ E, Hid (colE c' = E) := ⟨_, rfl⟩
          simp only [HE.out] at HCK HP2
          clear hb3 hR3 hO3 HSC
          go_wp2_with fail
          refine (HCK.out _ HCOL.out).mono ?_
          rintro e w4 ⟨rfl, hk4⟩
          have HBZ4 := Lib.hid (HSB.out.kept hk4)
          have HST4 := Lib.hid (HS.out.kept hk4)
          have HO4 := Lib.hid (HSO.out.trans (Only.of_kept hk4))
          have HKW4 := Lib.hid (HKW3.out.trans hk4)
          clear hk4 e0 e1 e2 y3
          by_cases hE : E = 0
          · subst hE
            rw [if_neg (by simp)] at HP2
            go_wp2_with fail
            go_roundw
            case rel => exact ⟨k + 1, c', by omega, by go_num, HP2.out, HE.out, ⟨HBZ4.out, HST4.out⟩, HO4.out⟩
            case measure => simp [intOf]; omega
          · rw [if_pos hE] at HP2
            have hE' : (E == 0) = false := by simpa using hE
            have b0 : w4.cell? ⟨w.heap.size, 0, none⟩ = some (.slice none 0 0) := HBZ4.out.cell 0 _ rfl
            have b1 : w4.cell? ⟨w.heap.size, 1, none⟩ = some (.slice none 0 0) := HBZ4.out.cell 1 _ rfl
            have b2 : w4.cell? ⟨w.heap.size, 2, none⟩ = some (.string (bs [])) := HBZ4.out.cell 2 _ rfl
            have f0 := HBZ4.out.free 0
            have f1 := HBZ4.out.free 1
            have f2 := HBZ4.out.free 2
            have z3 := HBZ4.out.lt
            go_wp2_with fail
            refine bodyPost_ret (v := .tuple #[colV (.slice none 0 0) (.slice none 0 0) [], .int .i64 ((k : Int) + 1), .int .i64 E]) (by simp [results, Tryz.results24, go_sem, b0, b1, b2, z3]) rfl ?_
            exact ⟨_, _, by rw [HP2.out]; rfl, by rw [HP2.out]; exact col_zero _, kept3 HKW4.out (Nat.le_refl _)⟩
    · have HE : Hid (R = (c, 0, 0)) := by
        have h := HP.out
        rw [List.drop_of_length_le (by omega)] at h
        exact h
      obtain ⟨vR, vO, hb3, hR3, hO3⟩ := HST.out.2
      have HBZ := Lib.hid HST.out.1
      have HRR := Lib.hid (And.intro hR3 hO3)
      obtain ⟨aR, cR, rfl, _, _, _⟩ := own_cap hR3
      obtain ⟨aO, cO, rfl, _, _, _⟩ := own_cap hO3
      have e0 : wr.cell? ⟨b, 0, none⟩ = some (.slice aR c.ranks.length cR) := hb3.cell 0 _ rfl
      have e1 : wr.cell? ⟨b, 1, none⟩ = some (.slice aO c.order.length cO) := hb3.cell 1 _ rfl
      have e2 : wr.cell? ⟨b, 2, none⟩ = some (.string (bs c.ignore)) := hb3.cell 2 _ rfl
      have y3 := hb3.lt
      have b0 : wr.cell? ⟨w.heap.size, 0, none⟩ = some (.slice none 0 0) := HBZ.out.cell 0 _ rfl
      have b1 : wr.cell? ⟨w.heap.size, 1, none⟩ = some (.slice none 0 0) := HBZ.out.cell 1 _ rfl
      have b2 : wr.cell? ⟨w.heap.size, 2, none⟩ = some (.string (bs [])) := HBZ.out.cell 2 _ rfl
      have f0 := HBZ.out.free 0
      have f1 := HBZ.out.free 1
      have f2 := HBZ.out.free 2
      have z3 := HBZ.out.lt
      clear hb3 hR3 hO3
      go_wp2_with fail
      refine bodyPost_ret (v := .tuple #[colV (.slice aR c.ranks.length cR) (.slice aO c.order.length cO) c.ignore, .int .i64 0, .int .i64 0]) (by simp [results, Tryz.results24, go_sem, b0, b1, b2, z3]) rfl ?_
      exact ⟨_, _, by rw [HE.out], by rw [HE.out]; exact ⟨Prs.own (own_set3 HRR.out.1 HBZ.out (by decide)), Strs.own (own_set3 HRR.out.2 HBZ.out (by decide))⟩, kept3 HKW.out (Nat.le_refl _)⟩
end Go.Proofs.YteflhlbgbgamnaaGreatDoor
