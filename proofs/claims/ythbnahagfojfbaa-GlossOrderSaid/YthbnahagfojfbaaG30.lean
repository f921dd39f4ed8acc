/- The reference's equality of blocks and documents: equal ones are told equal. Conditions: lengths. -/
import Derived.Test.YthbnahagfojfbaaG29
import Derived.Test.YthbnahagfojfbaaG19

set_option linter.all false
namespace Go.Proofs.Ythbnahagfojfbaa
open Go.RowKit

set_option maxRecDepth 100000 in
set_option maxHeartbeats 6400000 in
theorem sameblocks_eq (N : Nat) : ∀ (n : Nat) (xs : List Blo) (v v' : Value) (w : World), Bls (fun _ => True) N n w v xs → Bls (fun _ => True) N n w v' xs → xs.length ≤ 1000000 → okBL xs → Calls Try.prog 16 #[v, v'] w (SamP w) := by
  intro n
  induction n with
  | zero =>
    intro xs v v' w hv hv' hl hok
    obtain rfl := hv.no
    obtain ⟨a, c, rfl, hc⟩ := hv.form
    obtain ⟨a', c', rfl, hc'⟩ := hv'.form
    clear hv hv' hok
    go_enter Try.func16, Try.ntmps16
    go_wp2_with fail
    go_loopw [5] (fun i wr => i = .int .i64 0 ∧ w = wr) (fun i _ => 1)
    case atStart => exact ⟨rfl, rfl⟩
    case round =>
      obtain ⟨rfl, rfl⟩ := hrel
      go_wp2_with fail
      (try go_ret)
      exact ⟨rfl, Kept.refl _⟩
  | succ n ih =>
    intro xs v v' w hv hv' hl hok
    have HV := Lib.hid hv
    have HV2 := Lib.hid hv'
    have HOK := Lib.hid hok
    have HIH := Lib.hid ih
    unfold SamP at HIH
    obtain ⟨a, c, rfl, hc⟩ := hv.form
    obtain ⟨a', c', rfl, hc'⟩ := hv'.form
    have HFIN : Hid (∀ w', Kept w w' → SamP w (.returned (.bool true)) w') := fun w' k => ⟨rfl, k⟩
    generalize hP : SamP w = P at *
    clear hv hv' ih hok hP
    go_enter Try.func16, Try.ntmps16
    go_wp2_with fail
    go_loopw [5] (fun i wr => ∃ k : Nat, k ≤ xs.length ∧ i = .int .i64 k ∧ Hid (Kept w wr)) (fun i _ => xs.length - (intOf i).toNat)
    case atStart => exact ⟨0, Nat.zero_le _, rfl, Kept.refl _⟩
    case round =>
      obtain ⟨k, hk, rfl, HKR⟩ := hrel
      by_cases hlt : k < xs.length
      · obtain ⟨x, hx⟩ : ∃ x, xs[k]? = some x := ⟨_, List.getElem?_eq_getElem hlt⟩
        have hfit := (okBL_at HOK.out x (List.mem_of_getElem? hx)).fit
        obtain ⟨g, o, vC, vP, vL, vK, rfl, hgg, hgS, -, -, ⟨d0, d1, d2, d3, d4, d5, d6, d7, d8, d9, d10⟩, -, ⟨hC, iC⟩, ⟨hPP, iP⟩, hL, hK⟩ := Bls.at_ (HV.out.kept HKR.out) k x hx
        obtain ⟨g', o', vC', vP', vL', vK', rfl, hgg', hgS', -, -, ⟨d0', d1', d2', d3', d4', d5', d6', d7', d8', d9', d10'⟩, -, ⟨hC', iC'⟩, ⟨hPP', iP'⟩, hL', hK'⟩ := Bls.at_ (HV2.out.kept HKR.out) k x hx
        obtain ⟨kind, level, info, text, dest, title, id, cls, prs, line, kids⟩ := x
        simp only [Blo.kind, Blo.level, Blo.info, Blo.text, Blo.dest, Blo.title, Blo.id, Blo.cls, Blo.prs, Blo.line, Blo.kids] at d0 d1 d2 d3 d4 d5 d6 d0' d1' d2' d3' d4' d5' d6' hC hPP hL hK hC' hPP' hL' hK' hfit
        obtain ⟨⟨f1, f2, f3, f4, f5, f6, f7, f8, f9⟩, f10, f11⟩ := hfit
        have HC := Lib.hid hC
        have HPP := Lib.hid hPP
        have HLL := Lib.hid hL
        have HKK := Lib.hid hK
        have HC' := Lib.hid hC'
        have HPP' := Lib.hid hPP'
        have HLL' := Lib.hid hL'
        have HKK' := Lib.hid hK'
        have HKO := Lib.hid f10
        have HKO2 := Lib.hid f11
        obtain ⟨aC, cC, rfl, lC⟩ := hC.shape
        obtain ⟨aP, cP, rfl, lP⟩ := hPP.shape
        obtain ⟨aL, cL, rfl, lL⟩ := hL.form
        obtain ⟨aK, cK, rfl, lK⟩ := hK.form
        obtain ⟨aC', cC', rfl, lC'⟩ := hC'.shape
        obtain ⟨aP', cP', rfl, lP'⟩ := hPP'.shape
        obtain ⟨aL', cL', rfl, lL'⟩ := hL'.form
        obtain ⟨aK', cK', rfl, lK'⟩ := hK'.form
        clear hC hPP hL hK hC' hPP' hL' hK' iC iP iC' iP' f10 f11 hx
        go_wp2_with fail
        go_region
        · have hk1 := kept_alloc wr (.cells #[.int .i64 kind, .int .i64 level, .string (bs info), .string (bs text), .string (bs dest), .string (bs title), .string (bs id), .slice aC cls.length cC, .slice aP prs.length cP, .slice aL line.length cL, .slice aK kids.length cK] 37)
          have hb1 := Blk.new wr 37 #[.int .i64 kind, .int .i64 level, .string (bs info), .string (bs text), .string (bs dest), .string (bs title), .string (bs id), .slice aC cls.length cC, .slice aP prs.length cP, .slice aL line.length cL, .slice aK kids.length cK]
          have he1 : (wr.alloc (.cells #[.int .i64 kind, .int .i64 level, .string (bs info), .string (bs text), .string (bs dest), .string (bs title), .string (bs id), .slice aC cls.length cC, .slice aP prs.length cP, .slice aL line.length cL, .slice aK kids.length cK] 37)).heap.size = wr.heap.size + 1 := by simp
          have hk2 := kept_alloc (wr.alloc (.cells #[.int .i64 kind, .int .i64 level, .string (bs info), .string (bs text), .string (bs dest), .string (bs title), .string (bs id), .slice aC cls.length cC, .slice aP prs.length cP, .slice aL line.length cL, .slice aK kids.length cK] 37)) (.cells #[.int .i64 kind, .int .i64 level, .string (bs info), .string (bs text), .string (bs dest), .string (bs title), .string (bs id), .slice aC' cls.length cC', .slice aP' prs.length cP', .slice aL' line.length cL', .slice aK' kids.length cK'] 37)
          have hb2 := Blk.new (wr.alloc (.cells #[.int .i64 kind, .int .i64 level, .string (bs info), .string (bs text), .string (bs dest), .string (bs title), .string (bs id), .slice aC cls.length cC, .slice aP prs.length cP, .slice aL line.length cL, .slice aK kids.length cK] 37)) 37 #[.int .i64 kind, .int .i64 level, .string (bs info), .string (bs text), .string (bs dest), .string (bs title), .string (bs id), .slice aC' cls.length cC', .slice aP' prs.length cP', .slice aL' line.length cL', .slice aK' kids.length cK']
          rw [he1] at hb2
          have hkd := kept_drewN ((wr.alloc (.cells #[.int .i64 kind, .int .i64 level, .string (bs info), .string (bs text), .string (bs dest), .string (bs title), .string (bs id), .slice aC cls.length cC, .slice aP prs.length cP, .slice aL line.length cL, .slice aK kids.length cK] 37)).alloc (.cells #[.int .i64 kind, .int .i64 level, .string (bs info), .string (bs text), .string (bs dest), .string (bs title), .string (bs id), .slice aC' cls.length cC', .slice aP' prs.length cP', .slice aL' line.length cL', .slice aK' kids.length cK'] 37)) 1
          obtain ⟨I, HI⟩ : ∃ I, Hid (wr.heap.size = I) := ⟨_, rfl⟩
          rw [HI.out] at hb1 hb2 ⊢
          have HB1 := Lib.hid ((hb1.kept hk2).kept hkd)
          have HB2 := Lib.hid (hb2.kept hkd)
          have HKW := Lib.hid ((hk1.trans hk2).trans hkd)
          clear hk1 hb1 he1 hk2 hb2 hkd d0 d1 d2 d3 d4 d5 d6 d7 d8 d9 d10 d0' d1' d2' d3' d4' d5' d6' d7' d8' d9' d10'
          generalize hw1 : World.drewN _ 1 = w1 at HB1 HB2 HKW
          (try change Exit.then _ (Exit.inBlock _ (Exit.then _ _)) Exit.normal _ (World.drewN _ 1))
          rw [hw1]
          clear hw1
          have x0 : w1.cell? ⟨I, 0, none⟩ = some (.int .i64 kind) := HB1.out.cell 0 _ rfl
          have x1 : w1.cell? ⟨I, 1, none⟩ = some (.int .i64 level) := HB1.out.cell 1 _ rfl
          have x2 : w1.cell? ⟨I, 2, none⟩ = some (.string (bs info)) := HB1.out.cell 2 _ rfl
          have x3 : w1.cell? ⟨I, 3, none⟩ = some (.string (bs text)) := HB1.out.cell 3 _ rfl
          have x4 : w1.cell? ⟨I, 4, none⟩ = some (.string (bs dest)) := HB1.out.cell 4 _ rfl
          have x5 : w1.cell? ⟨I, 5, none⟩ = some (.string (bs title)) := HB1.out.cell 5 _ rfl
          have x6 : w1.cell? ⟨I, 6, none⟩ = some (.string (bs id)) := HB1.out.cell 6 _ rfl
          have x7 : w1.cell? ⟨I, 7, none⟩ = some (.slice aC cls.length cC) := HB1.out.cell 7 _ rfl
          have x8 : w1.cell? ⟨I, 8, none⟩ = some (.slice aP prs.length cP) := HB1.out.cell 8 _ rfl
          have x9 : w1.cell? ⟨I, 9, none⟩ = some (.slice aL line.length cL) := HB1.out.cell 9 _ rfl
          have x10 : w1.cell? ⟨I, 10, none⟩ = some (.slice aK kids.length cK) := HB1.out.cell 10 _ rfl
          have y0 : w1.cell? ⟨I + 1, 0, none⟩ = some (.int .i64 kind) := HB2.out.cell 0 _ rfl
          have y1 : w1.cell? ⟨I + 1, 1, none⟩ = some (.int .i64 level) := HB2.out.cell 1 _ rfl
          have y2 : w1.cell? ⟨I + 1, 2, none⟩ = some (.string (bs info)) := HB2.out.cell 2 _ rfl
          have y3 : w1.cell? ⟨I + 1, 3, none⟩ = some (.string (bs text)) := HB2.out.cell 3 _ rfl
          have y4 : w1.cell? ⟨I + 1, 4, none⟩ = some (.string (bs dest)) := HB2.out.cell 4 _ rfl
          have y5 : w1.cell? ⟨I + 1, 5, none⟩ = some (.string (bs title)) := HB2.out.cell 5 _ rfl
          have y6 : w1.cell? ⟨I + 1, 6, none⟩ = some (.string (bs id)) := HB2.out.cell 6 _ rfl
          have y7 : w1.cell? ⟨I + 1, 7, none⟩ = some (.slice aC' cls.length cC') := HB2.out.cell 7 _ rfl
          have y8 : w1.cell? ⟨I + 1, 8, none⟩ = some (.slice aP' prs.length cP') := HB2.out.cell 8 _ rfl
          have y9 : w1.cell? ⟨I + 1, 9, none⟩ = some (.slice aL' line.length cL') := HB2.out.cell 9 _ rfl
          have y10 : w1.cell? ⟨I + 1, 10, none⟩ = some (.slice aK' kids.length cK') := HB2.out.cell 10 _ rfl
          go_wp2_with fail
          refine (attrs4_eq id _ _ _ _ cls prs w1 (HC.out.kept HKW.out) (HPP.out.kept HKW.out) (HC'.out.kept HKW.out) (HPP'.out.kept HKW.out) (by omega) (by omega)).mono ?_
          rintro e w2 ⟨rfl, hk2⟩
          have HB1 := Lib.hid (HB1.out.kept hk2)
          have HB2 := Lib.hid (HB2.out.kept hk2)
          have HKW := Lib.hid (HKW.out.trans hk2)
          have x9 : w2.cell? ⟨I, 9, none⟩ = some (.slice aL line.length cL) := HB1.out.cell 9 _ rfl
          have x10 : w2.cell? ⟨I, 10, none⟩ = some (.slice aK kids.length cK) := HB1.out.cell 10 _ rfl
          have y9 : w2.cell? ⟨I + 1, 9, none⟩ = some (.slice aL' line.length cL') := HB2.out.cell 9 _ rfl
          have y10 : w2.cell? ⟨I + 1, 10, none⟩ = some (.slice aK' kids.length cK') := HB2.out.cell 10 _ rfl
          clear hk2
          go_wp2_with fail
          refine (sameline_eq N line _ _ w2 (HLL.out.kept HKW.out) (HLL'.out.kept HKW.out) f8 HKO.out).mono ?_
          rintro e w3 ⟨rfl, hk3⟩
          have HB1 := Lib.hid (HB1.out.kept hk3)
          have HB2 := Lib.hid (HB2.out.kept hk3)
          have HKW := Lib.hid (HKW.out.trans hk3)
          have x10 : w3.cell? ⟨I, 10, none⟩ = some (.slice aK kids.length cK) := HB1.out.cell 10 _ rfl
          have y10 : w3.cell? ⟨I + 1, 10, none⟩ = some (.slice aK' kids.length cK') := HB2.out.cell 10 _ rfl
          clear hk3
          go_wp2_with fail
          refine (HIH.out kids _ _ w3 (HKK.out.kept HKW.out) (HKK'.out.kept HKW.out) f9 HKO2.out).mono ?_
          rintro e w4 ⟨rfl, hk4⟩
          have HKZ := Lib.hid (HKR.out.trans (HKW.out.trans hk4))
          clear hk4 HB1 HB2 HKR HKW
          go_wp2_with fail
          go_roundw
          case rel => exact ⟨k + 1, by omega, by go_num, HKZ.out⟩
          case measure => simp [intOf]; omega
        · have hk1 := kept_alloc wr (.cells #[.int .i64 kind, .int .i64 level, .string (bs info), .string (bs text), .string (bs dest), .string (bs title), .string (bs id), .slice aC' cls.length cC', .slice aP' prs.length cP', .slice aL' line.length cL', .slice aK' kids.length cK'] 37)
          have hb1 := Blk.new wr 37 #[.int .i64 kind, .int .i64 level, .string (bs info), .string (bs text), .string (bs dest), .string (bs title), .string (bs id), .slice aC' cls.length cC', .slice aP' prs.length cP', .slice aL' line.length cL', .slice aK' kids.length cK']
          have he1 : (wr.alloc (.cells #[.int .i64 kind, .int .i64 level, .string (bs info), .string (bs text), .string (bs dest), .string (bs title), .string (bs id), .slice aC' cls.length cC', .slice aP' prs.length cP', .slice aL' line.length cL', .slice aK' kids.length cK'] 37)).heap.size = wr.heap.size + 1 := by simp
          have hk2 := kept_alloc (wr.alloc (.cells #[.int .i64 kind, .int .i64 level, .string (bs info), .string (bs text), .string (bs dest), .string (bs title), .string (bs id), .slice aC' cls.length cC', .slice aP' prs.length cP', .slice aL' line.length cL', .slice aK' kids.length cK'] 37)) (.cells #[.int .i64 kind, .int .i64 level, .string (bs info), .string (bs text), .string (bs dest), .string (bs title), .string (bs id), .slice aC cls.length cC, .slice aP prs.length cP, .slice aL line.length cL, .slice aK kids.length cK] 37)
          have hb2 := Blk.new (wr.alloc (.cells #[.int .i64 kind, .int .i64 level, .string (bs info), .string (bs text), .string (bs dest), .string (bs title), .string (bs id), .slice aC' cls.length cC', .slice aP' prs.length cP', .slice aL' line.length cL', .slice aK' kids.length cK'] 37)) 37 #[.int .i64 kind, .int .i64 level, .string (bs info), .string (bs text), .string (bs dest), .string (bs title), .string (bs id), .slice aC cls.length cC, .slice aP prs.length cP, .slice aL line.length cL, .slice aK kids.length cK]
          rw [he1] at hb2
          have hkd := kept_drewN ((wr.alloc (.cells #[.int .i64 kind, .int .i64 level, .string (bs info), .string (bs text), .string (bs dest), .string (bs title), .string (bs id), .slice aC' cls.length cC', .slice aP' prs.length cP', .slice aL' line.length cL', .slice aK' kids.length cK'] 37)).alloc (.cells #[.int .i64 kind, .int .i64 level, .string (bs info), .string (bs text), .string (bs dest), .string (bs title), .string (bs id), .slice aC cls.length cC, .slice aP prs.length cP, .slice aL line.length cL, .slice aK kids.length cK] 37)) 1
          obtain ⟨I, HI⟩ : ∃ I, Hid (wr.heap.size = I) := ⟨_, rfl⟩
          rw [HI.out] at hb1 hb2 ⊢
          have HB1 := Lib.hid ((hb1.kept hk2).kept hkd)
          have HB2 := Lib.hid (hb2.kept hkd)
          have HKW := Lib.hid ((hk1.trans hk2).trans hkd)
          clear hk1 hb1 he1 hk2 hb2 hkd d0 d1 d2 d3 d4 d5 d6 d7 d8 d9 d10 d0' d1' d2' d3' d4' d5' d6' d7' d8' d9' d10'
          generalize hw1 : World.drewN _ 1 = w1 at HB1 HB2 HKW
          (try change Exit.then _ (Exit.inBlock _ (Exit.then _ _)) Exit.normal _ (World.drewN _ 1))
          rw [hw1]
          clear hw1
          have x0 : w1.cell? ⟨I + 1, 0, none⟩ = some (.int .i64 kind) := HB2.out.cell 0 _ rfl
          have x1 : w1.cell? ⟨I + 1, 1, none⟩ = some (.int .i64 level) := HB2.out.cell 1 _ rfl
          have x2 : w1.cell? ⟨I + 1, 2, none⟩ = some (.string (bs info)) := HB2.out.cell 2 _ rfl
          have x3 : w1.cell? ⟨I + 1, 3, none⟩ = some (.string (bs text)) := HB2.out.cell 3 _ rfl
          have x4 : w1.cell? ⟨I + 1, 4, none⟩ = some (.string (bs dest)) := HB2.out.cell 4 _ rfl
          have x5 : w1.cell? ⟨I + 1, 5, none⟩ = some (.string (bs title)) := HB2.out.cell 5 _ rfl
          have x6 : w1.cell? ⟨I + 1, 6, none⟩ = some (.string (bs id)) := HB2.out.cell 6 _ rfl
          have x7 : w1.cell? ⟨I + 1, 7, none⟩ = some (.slice aC cls.length cC) := HB2.out.cell 7 _ rfl
          have x8 : w1.cell? ⟨I + 1, 8, none⟩ = some (.slice aP prs.length cP) := HB2.out.cell 8 _ rfl
          have x9 : w1.cell? ⟨I + 1, 9, none⟩ = some (.slice aL line.length cL) := HB2.out.cell 9 _ rfl
          have x10 : w1.cell? ⟨I + 1, 10, none⟩ = some (.slice aK kids.length cK) := HB2.out.cell 10 _ rfl
          have y0 : w1.cell? ⟨I, 0, none⟩ = some (.int .i64 kind) := HB1.out.cell 0 _ rfl
          have y1 : w1.cell? ⟨I, 1, none⟩ = some (.int .i64 level) := HB1.out.cell 1 _ rfl
          have y2 : w1.cell? ⟨I, 2, none⟩ = some (.string (bs info)) := HB1.out.cell 2 _ rfl
          have y3 : w1.cell? ⟨I, 3, none⟩ = some (.string (bs text)) := HB1.out.cell 3 _ rfl
          have y4 : w1.cell? ⟨I, 4, none⟩ = some (.string (bs dest)) := HB1.out.cell 4 _ rfl
          have y5 : w1.cell? ⟨I, 5, none⟩ = some (.string (bs title)) := HB1.out.cell 5 _ rfl
          have y6 : w1.cell? ⟨I, 6, none⟩ = some (.string (bs id)) := HB1.out.cell 6 _ rfl
          have y7 : w1.cell? ⟨I, 7, none⟩ = some (.slice aC' cls.length cC') := HB1.out.cell 7 _ rfl
          have y8 : w1.cell? ⟨I, 8, none⟩ = some (.slice aP' prs.length cP') := HB1.out.cell 8 _ rfl
          have y9 : w1.cell? ⟨I, 9, none⟩ = some (.slice aL' line.length cL') := HB1.out.cell 9 _ rfl
          have y10 : w1.cell? ⟨I, 10, none⟩ = some (.slice aK' kids.length cK') := HB1.out.cell 10 _ rfl
          go_wp2_with fail
          refine (attrs4_eq id _ _ _ _ cls prs w1 (HC.out.kept HKW.out) (HPP.out.kept HKW.out) (HC'.out.kept HKW.out) (HPP'.out.kept HKW.out) (by omega) (by omega)).mono ?_
          rintro e w2 ⟨rfl, hk2⟩
          have HB1 := Lib.hid (HB1.out.kept hk2)
          have HB2 := Lib.hid (HB2.out.kept hk2)
          have HKW := Lib.hid (HKW.out.trans hk2)
          have x9 : w2.cell? ⟨I + 1, 9, none⟩ = some (.slice aL line.length cL) := HB2.out.cell 9 _ rfl
          have x10 : w2.cell? ⟨I + 1, 10, none⟩ = some (.slice aK kids.length cK) := HB2.out.cell 10 _ rfl
          have y9 : w2.cell? ⟨I, 9, none⟩ = some (.slice aL' line.length cL') := HB1.out.cell 9 _ rfl
          have y10 : w2.cell? ⟨I, 10, none⟩ = some (.slice aK' kids.length cK') := HB1.out.cell 10 _ rfl
          clear hk2
          go_wp2_with fail
          refine (sameline_eq N line _ _ w2 (HLL.out.kept HKW.out) (HLL'.out.kept HKW.out) f8 HKO.out).mono ?_
          rintro e w3 ⟨rfl, hk3⟩
          have HB1 := Lib.hid (HB1.out.kept hk3)
          have HB2 := Lib.hid (HB2.out.kept hk3)
          have HKW := Lib.hid (HKW.out.trans hk3)
          have x10 : w3.cell? ⟨I + 1, 10, none⟩ = some (.slice aK kids.length cK) := HB2.out.cell 10 _ rfl
          have y10 : w3.cell? ⟨I, 10, none⟩ = some (.slice aK' kids.length cK') := HB1.out.cell 10 _ rfl
          clear hk3
          go_wp2_with fail
          refine (HIH.out kids _ _ w3 (HKK.out.kept HKW.out) (HKK'.out.kept HKW.out) f9 HKO2.out).mono ?_
          rintro e w4 ⟨rfl, hk4⟩
          have HKZ := Lib.hid (HKR.out.trans (HKW.out.trans hk4))
          clear hk4 HB1 HB2 HKR HKW
          go_wp2_with fail
          go_roundw
          case rel => exact ⟨k + 1, by omega, by go_num, HKZ.out⟩
          case measure => simp [intOf]; omega
      · obtain rfl : k = xs.length := by omega
        go_wp2_with fail
        (try go_ret)
        exact HFIN.out _ HKR.out
set_option maxRecDepth 100000 in
set_option maxHeartbeats 3200000 in
theorem same4_eq (N n : Nat) (vM vM' vB vB' : Value) (ms : List Pr) (xs : List Blo) (w : World) (h1 : Prs w vM ms) (h2 : Prs w vM' ms) (hm : ms.length ≤ 1100000) (hv : Bls (fun _ => True) N n w vB xs) (hv' : Bls (fun _ => True) N n w vB' xs) (hl : xs.length ≤ 1000000) (hok : okBL xs) :
    Calls Try.prog 14 #[docV vM vB, docV vM' vB'] w (SamP w) := by
  have H1 := Lib.hid h1
  have H2 := Lib.hid h2
  have HV := Lib.hid hv
  have HV2 := Lib.hid hv'
  have HOK := Lib.hid hok
  obtain ⟨aM, cM, rfl, lM⟩ := h1.shape
  obtain ⟨aM', cM', rfl, lM'⟩ := h2.shape
  obtain ⟨aB, cB, rfl, lB⟩ := hv.form
  obtain ⟨aB', cB', rfl, lB'⟩ := hv'.form
  clear h1 h2 hv hv' hok
  have HK1 := Lib.hid (kept_alloc w (.cells #[.slice aM ms.length cM, .slice aB xs.length cB] 45))
  have HB1 := Lib.hid (Blk.new w 45 #[.slice aM ms.length cM, .slice aB xs.length cB])
  have he1 : (w.alloc (.cells #[.slice aM ms.length cM, .slice aB xs.length cB] 45)).heap.size = w.heap.size + 1 := by simp
  have HE1 := Lib.hid he1
  clear he1
  obtain ⟨I, HI⟩ : ∃ I, Hid (w.heap.size = I) := ⟨_, rfl⟩
  rw [HI.out] at HB1 HE1
  unfold SamP
  go_enter Try.func14, Try.ntmps14
  go_wp2_with fail
  generalize w.alloc _ = w1 at *
  have HK2 := Lib.hid (kept_alloc w1 (.cells #[.slice aM' ms.length cM', .slice aB' xs.length cB'] 45))
  have HB2 := Lib.hid (Blk.new w1 45 #[.slice aM' ms.length cM', .slice aB' xs.length cB'])
  rw [HE1.out] at HB2
  generalize w1.alloc _ = w2 at *
  rw [HI.out]
  have HKW := Lib.hid (HK1.out.trans HK2.out)
  refine (pairs_eq _ _ ms w2 (H1.out.kept HKW.out) (H2.out.kept HKW.out) hm).mono ?_
  rintro e w3 ⟨rfl, hk3⟩
  have HK3 := Lib.hid (HKW.out.trans hk3)
  have b1 : w3.cell? ⟨I, 1, none⟩ = some (.slice aB xs.length cB) := ((HB1.out.kept HK2.out).kept hk3).cell 1 _ rfl
  have d1 : w3.cell? ⟨I + 1, 1, none⟩ = some (.slice aB' xs.length cB') := (HB2.out.kept hk3).cell 1 _ rfl
  clear hk3 HKW HK1 HK2 HB1 HB2
  go_wp2_with fail
  refine (sameblocks_eq N n xs _ _ w3 (HV.out.kept HK3.out) (HV2.out.kept HK3.out) hl HOK.out).mono ?_
  rintro e w4 ⟨rfl, hk4⟩
  have HK4 := Lib.hid (HK3.out.trans hk4)
  clear hk4
  go_wp2_with fail
  go_ret
  exact ⟨rfl, HK4.out⟩
end Go.Proofs.Ythbnahagfojfbaa

/- gloss.Fill, Terms and Uses at the documents of law27. Conditions: names that are short, and differ. -/
set_option linter.all false
namespace Go.Proofs.Ythbnahagfojfbaa
open Go.RowKit Go.Sort

abbrev bT (t : Bs × Bs) : Blo := bloT t.1 t.2 []
theorem back_t (t : Bs × Bs) : (defName (bT t), (bT t).id) = t := by rw [defName_t]; rfl
theorem pair_of {ts : List (Bs × Bs)} (hn : (ts.map (·.1)).Nodup) {t t' : Bs × Bs} (h : t ∈ ts) (h' : t' ∈ ts) (e : t.1 = t'.1) : t = t' := by
  induction ts with
  | nil => cases h
  | cons x ts ih =>
    rw [List.map_cons, List.nodup_cons] at hn
    rcases List.mem_cons.1 h with q | q <;> rcases List.mem_cons.1 h' with q' | q'
    · rw [q, q']
    · exact absurd (List.mem_map.2 ⟨t', q', by rw [← e, q]⟩) hn.1
    · exact absurd (List.mem_map.2 ⟨t, q, by rw [e, q']⟩) hn.1
    · exact ih hn.2 q q'
theorem srt_back (c : ColT) (ts : List (Bs × Bs)) : ∃ ts' : List (Bs × Bs), srtL (cfN c) (ts.map bT) = ts'.map bT ∧ ts'.Perm ts := by
  have hp := srt_perm c (ts.map bT)
  refine ⟨(srtL (cfN c) (ts.map bT)).map fun b => (defName b, b.id), ?_, ?_⟩
  · rw [List.map_map]
    conv => lhs; rw [← List.map_id (srtL (cfN c) (ts.map bT))]
    refine List.map_congr_left fun b hb => ?_
    obtain ⟨t, _, rfl⟩ := List.mem_map.1 (hp.mem_iff.1 hb)
    show bT t = bT (defName (bT t), (bT t).id)
    rw [back_t]
  · refine (hp.map _).trans ?_
    rw [List.map_map]
    have : ((fun b : Blo => (defName b, b.id)) ∘ bT) = id := by funext t; exact back_t t
    rw [this, List.map_id]
theorem srt_pair (c : ColT) (xs : List Blo) : (srtL (cfN c) xs).Pairwise fun a b => cmpC c (defName a) (defName b) ≤ 0 :=
  List.pairwise_iff_getElem.2 fun i j hi hj hij => srt_sorted c xs i j _ _ hij (List.getElem?_eq_getElem hi) (List.getElem?_eq_getElem hj)
theorem srt_same (c : ColT) {ts ts' : List (Bs × Bs)} (hp : ts.Perm ts') (hn : (ts.map (·.1)).Nodup) : srtL (cfN c) (ts.map bT) = srtL (cfN c) (ts'.map bT) := by
  refine List.Perm.eq_of_pairwise ?_ (srt_pair c _) (srt_pair c _) ((srt_perm c _).trans ((hp.map bT).trans (srt_perm c _).symm))
  intro a b ha hb h1 h2
  obtain ⟨t, ht, rfl⟩ := List.mem_map.1 ((srt_perm c _).mem_iff.1 ha)
  obtain ⟨t', ht', rfl⟩ := List.mem_map.1 ((srt_perm c _).mem_iff.1 hb)
  rw [defName_t, defName_t] at h1 h2
  rw [cmpC_neg] at h2
  have : cmpC c t.1 t'.1 = 0 := by omega
  rw [pair_of hn ht (hp.mem_iff.2 ht') ((cmpC_zero c _ _).1 this)]
theorem idsE_same {ts ts' : List (Bs × Bs)} (hp : ts.Perm ts') (hn : (ts.map (·.1)).Nodup) (nm : Bs) : idsE ts nm = idsE ts' nm := by
  have hn' : (ts'.map (·.1)).Nodup := (hp.map _).nodup_iff.1 hn
  unfold idsE
  cases h : ts.find? fun e => e.1 == nm with
  | none =>
    have : (ts'.find? fun e => e.1 == nm) = none := by
      rw [List.find?_eq_none] at h ⊢
      exact fun x hx => h x (hp.mem_iff.2 hx)
    rw [this]
  | some e =>
    have he := List.mem_of_find?_eq_some h
    have hq := List.find?_some h
    cases h' : ts'.find? fun e => e.1 == nm with
    | none =>
      rw [List.find?_eq_none] at h'
      exact absurd hq (h' e (hp.mem_iff.1 he))
    | some e' =>
      have he' := List.mem_of_find?_eq_some h'
      have hq' := List.find?_some h'
      have : e = e' := pair_of hn he (hp.mem_iff.2 he') (by simp only [beq_iff_eq] at hq hq'; rw [hq, hq'])
      rw [this]
/-- The result of Fill at a document. -/
def FilR (N M : Nat) (c : ColT) (u : Option (List Bs × Bs)) (g : Option (Option Bs × List (Bs × Bs))) (w : World) (e : Ending) (w' : World) : Prop :=
  ∃ vM vB ks, e = .returned (.tuple #[docV vM vB, .int .i64 0]) ∧ (∀ nm, nm ∈ ks ↔ (nm ∈ (tsG g).map (·.1) ∧ nm ∈ nsU u)) ∧ Prs w' vM [] ∧ Bls (fun g => g < w'.heap.size) (3 * N + 1) (M + 1) w' vB (resL (idsE (tsG g)) (cfN c) u (keepG ks g)) ∧ Kept w w'
/-- The result of Fill at a document: its blocks are new. -/
def FilO (N M : Nat) (c : ColT) (u : Option (List Bs × Bs)) (g : Option (Option Bs × List (Bs × Bs))) (w : World) (e : Ending) (w' : World) : Prop :=
  ∃ vM vB ks, e = .returned (.tuple #[docV vM vB, .int .i64 0]) ∧ (∀ nm, nm ∈ ks ↔ (nm ∈ (tsG g).map (·.1) ∧ nm ∈ nsU u)) ∧ Prs w' vM [] ∧ Bls (fun g => w.heap.size ≤ g ∧ g < w'.heap.size) (3 * N + 1) (M + 1) w' vB (resL (idsE (tsG g)) (cfN c) u (keepG ks g)) ∧ Kept w w'
theorem fill_own {u : Option (List Bs × Bs)} {g : Option (Option Bs × List (Bs × Bs))} (h : FineD u g) (hall : ∀ s ∈ nsU u, s ∈ (tsG g).map (·.1)) (N M : Nat) (vB vR vO : Value) (c : ColT) (w : World) (hv : Bls (fun g => g < w.heap.size) N (M + 1) w vB (docL u g)) (hcol : Col w vR vO c) (hsc : SmallC c) :
    Calls Try.prog 12 #[docV (.slice none 0 0) vB, colV vR vO c.ignore] w (FilO N M c u g w) := by
  have f := fit_doc h
  refine (gfill_any N M (.slice none 0 0) vB vR vO [] (docL u g) c w _ _ f.hes f.hst (Prs.none_ w) (by simp) hv hcol hsc f.hl f.hok f.hot f.hn f.hnp f.hg f.hil f.hun f.hux f.hos f.hnd f.hnl f.hul f.hx).mono ?_
  intro e w' hq
  rw [usesN_us uses_doc h.un] at hq
  unfold FillQ at hq
  rw [if_pos (fun s hs => by rw [List.contains_iff_mem]; exact hall s hs)] at hq
  obtain ⟨vM, vB', ks, he, hk, hM, hB, hK⟩ := hq
  rw [blkL_doc] at hB
  refine ⟨vM, vB', ks, he, fun nm => (hk nm).trans ⟨fun ⟨a, x, hx, e⟩ => ⟨a, ?_⟩, fun ⟨a, b⟩ => ⟨a, inlU nm, List.mem_map.2 ⟨nm, b, rfl⟩, useName_u nm⟩⟩, hM, hB, hK⟩
  obtain ⟨s, hs, rfl⟩ := List.mem_map.1 hx
  rw [useName_u] at e
  rw [← e]; exact hs
theorem fill_doc {u : Option (List Bs × Bs)} {g : Option (Option Bs × List (Bs × Bs))} (h : FineD u g) (hall : ∀ s ∈ nsU u, s ∈ (tsG g).map (·.1)) (N M : Nat) (vB vR vO : Value) (c : ColT) (w : World) (hv : Bls (fun g => g < w.heap.size) N (M + 1) w vB (docL u g)) (hcol : Col w vR vO c) (hsc : SmallC c) :
    Calls Try.prog 12 #[docV (.slice none 0 0) vB, colV vR vO c.ignore] w (FilR N M c u g w) := by
  refine (fill_own h hall N M vB vR vO c w hv hcol hsc).mono ?_
  rintro e w' ⟨vM, vB', ks, he, hk, hM, hB, hK⟩
  exact ⟨vM, vB', ks, he, hk, hM, hB.mono (fun g _ q => q.2), hK⟩
theorem fill_err {u : Option (List Bs × Bs)} {g : Option (Option Bs × List (Bs × Bs))} (h : FineD u g) (hall : ∃ s ∈ nsU u, s ∉ (tsG g).map (·.1)) (N M : Nat) (vB vR vO : Value) (c : ColT) (w : World) (hv : Bls (fun g => g < w.heap.size) N (M + 1) w vB (docL u g)) (hcol : Col w vR vO c) (hsc : SmallC c) :
    Calls Try.prog 12 #[docV (.slice none 0 0) vB, colV vR vO c.ignore] w (FillE w) := by
  have f := fit_doc h
  refine (gfill_any N M (.slice none 0 0) vB vR vO [] (docL u g) c w _ _ f.hes f.hst (Prs.none_ w) (by simp) hv hcol hsc f.hl f.hok f.hot f.hn f.hnp f.hg f.hil f.hun f.hux f.hos f.hnd f.hnl f.hul f.hx).mono ?_
  intro e w' hq
  rw [usesN_us uses_doc h.un] at hq
  unfold FillQ at hq
  obtain ⟨s, hs, hn⟩ := hall
  rw [if_neg (fun q => hn (by have := q s hs; rw [List.contains_iff_mem] at this; exact this))] at hq
  exact hq
theorem terms_doc {u : Option (List Bs × Bs)} {g : Option (Option Bs × List (Bs × Bs))} (h : FineD u g) (N M : Nat) (vB : Value) (w : World) (hv : Bls (fun g => g < w.heap.size) N (M + 1) w vB (docL u g)) :
    Calls Try.prog 15 #[docV (.slice none 0 0) vB] w (TerP (tsG g) w) := by
  have f := fit_doc h
  have := terms_any N M none 0 0 vB (docL u g) w hv f.hl f.hok f.hn f.hnp f.hg
  rw [f.hes] at this
  exact this
theorem uses_doc_any {u : Option (List Bs × Bs)} {g : Option (Option Bs × List (Bs × Bs))} (h : FineD u g) (N M : Nat) (vB : Value) (w : World) (hv : Bls (fun g => g < w.heap.size) N M w vB (docL u g)) :
    Calls Try.prog 17 #[docV (.slice none 0 0) vB] w (UseP (nsU u) w) := by
  have f := fit_doc h
  have := uses_any N M none 0 0 vB (docL u g) w hv f.hl f.hok f.hun f.hux
  rw [usesN_us uses_doc h.un] at this
  exact this
/-! The result of Fill at uses and definitions -/
theorem hasL_lnk {p : Inl → Prop} {ids : Bs → Bs} {ns : List Bs} {z : Bs} (hu : ∀ s ∈ ns ++ [z], p (lnkU ids s)) (hs : p softI) : ∀ x ∈ lnkL ids ns z, p x := by
  intro x hx
  unfold lnkL at hx
  rcases List.mem_append.1 hx with q | q
  · obtain ⟨s, h1, h2⟩ := List.mem_flatMap.1 q
    simp only [List.mem_cons, List.not_mem_nil, or_false] at h2
    rcases h2 with rfl | rfl
    · exact hu s (List.mem_append_left _ h1)
    · exact hs
  · rw [List.mem_singleton] at q; rw [q]; exact hu z (by simp)
theorem lnkL_len (ids : Bs → Bs) (ns : List Bs) (z : Bs) : (lnkL ids ns z).length = 2 * ns.length + 1 := by
  unfold lnkL
  rw [List.length_append]
  have : (ns.flatMap fun s => [lnkU ids s, softI]).length = 2 * ns.length := by
    induction ns with
    | nil => rfl
    | cons s ns ih => rw [List.flatMap_cons, List.length_append, ih]; show 2 + 2 * ns.length = 2 * (ns.length + 1); omega
  rw [this]; rfl
theorem okI_lnk {ids : Bs → Bs} (hi : ∀ nm, (ids nm).length ≤ 900) {s : Bs} (h : s.length ≤ 900) : okI1 (lnkU ids s) := by
  have hh := hi s
  refine ⟨⟨?_, ?_, ?_, ?_, ?_, ?_, ?_, ?_, ?_⟩, ⟨⟨?_, ?_, ?_, ?_, ?_, ?_, ?_, ?_, ?_⟩, ⟨⟨?_, ?_, ?_, ?_, ?_, ?_, ?_, ?_, ?_⟩, trivial⟩, trivial⟩, trivial⟩ <;> first | omega | (simp only [List.length_cons]; omega) | simp | (show s.length ≤ 1000000; omega)
theorem okB_res {ids : Bs → Bs} (hi : ∀ nm, (ids nm).length ≤ 900) {ns : List Bs} {z : Bs} (hu : ∀ s ∈ ns ++ [z], s.length ≤ 900) (hl : ns.length ≤ 100) {ts : List (Bs × Bs)} (ht : ∀ t ∈ ts, t.1.length ≤ 900 ∧ t.2.length ≤ 900) (htl : ts.length ≤ 19) : okBL [bloP (lnkL ids ns z), glosL none ts] := by
  refine okBL_of fun x hx => ?_
  simp only [List.mem_cons, List.not_mem_nil, or_false] at hx
  rcases hx with rfl | rfl
  · have hll := lnkL_len ids ns z
    refine ⟨⟨?_, ?_, ?_, ?_, ?_, ?_, ?_, ?_, ?_⟩, okIL_of (hasL_lnk (fun s hs => okI_lnk hi (hu s hs)) okU_s.1), trivial⟩ <;> first | (rw [hll]; omega) | simp
  · refine ⟨⟨?_, ?_, ?_, ?_, ?_, ?_, ?_, ?_, ?_⟩, trivial, okBL_of (glos_all (okB_o (fun _ h => by cases h)) (fun t h => okB_t (fun _ h => by cases h) (ht t h)))⟩ <;> first | (rw [List.length_append, List.length_map]; show 0 + ts.length ≤ _; omega) | simp [kGlos]
theorem terms_res {ids : Bs → Bs} (hi : ∀ nm, (ids nm).length ≤ 900) {ns : List Bs} {z : Bs} (hu : ∀ s ∈ ns ++ [z], s.length ≤ 900) (hl : ns.length ≤ 100) {ts : List (Bs × Bs)} (ht : ∀ t ∈ ts, t.1 ≠ [] ∧ t.2 ≠ [] ∧ t.1.length ≤ 900 ∧ t.2.length ≤ 900) (hn : (ts.map (·.1)).Nodup) (htl : ts.length ≤ 19) (N M : Nat) (vM vB : Value) (w : World) (hm : Prs w vM []) (hv : Bls (fun g => g < w.heap.size) N (M + 1) w vB [bloP (lnkL ids ns z), glosL none ts]) :
    Calls Try.prog 15 #[docV vM vB] w (TerP ts w) := by
  have hd : defsL false [bloP (lnkL ids ns z), glosL none ts] = ts.map bT := by
    show defs1 false (bloP (lnkL ids ns z)) ++ defsL false [glosL none ts] = _
    rw [defs_glos]; rfl
  have he : (ts.map bT).map entD = ts := by
    rw [List.map_map]
    have : (entD ∘ bT) = id := by funext t; exact back_t t
    rw [this, List.map_id]
  have hg : goodD (ts.map bT) := by
    refine ⟨fun d hd => ?_, ?_⟩
    · obtain ⟨t, h, rfl⟩ := List.mem_map.1 hd
      rw [defName_t]
      refine ⟨?_, (ht t h).1, (ht t h).2.1⟩
      show getP [(kName, t.1)] kName = _
      rw [getP_cons, if_pos rfl]
    · rw [List.map_map]
      have : (defName ∘ bT) = fun t : Bs × Bs => t.1 := by funext t; exact defName_t _ _ _
      rw [this]; exact hn
  obtain ⟨aM, cM, rfl, _⟩ := hm.shape
  have := terms_any N M aM 0 cM vB _ w hv (by simp) (okB_res hi hu hl (fun t h => (ht t h).2.2) htl) (by rw [hd, List.length_map]; omega) (by rw [hd]; intro d h; obtain ⟨t, _, rfl⟩ := List.mem_map.1 h; show 1 ≤ _; omega) (by rw [hd]; exact hg)
  rw [hd, he] at this
  exact this
end Go.Proofs.Ythbnahagfojfbaa

/- awake of law27. No condition. -/
set_option linter.all false
namespace Go.Proofs.Ythbnahagfojfbaa
open Go.RowKit Go.Sort

/-- Blocks that lie in a block of memory, one behind the other. -/
theorem row_blo {N M : Nat} {S : Nat → Prop} {w : World} {g c : Nat} {css : List (List Value)} {xs : List Blo} (hb : Blk w g 37 css.flatten.toArray) (hl : css.length = xs.length) (hk : ∀ cs ∈ css, cs.length = 11) (hR : ∀ (j : Nat) (cs : List Value) (x : Blo), css[j]? = some cs → xs[j]? = some x → BloK N M S w cs x) (hS : S g) (hc : xs.length ≤ c) : Bls S N (M + 1) w (.slice (some ⟨g, 0, none⟩) xs.length c) xs := by
  show RowR S 11 _ w _ _
  refine ⟨some ⟨g, 0, none⟩, c, rfl, hc, fun q => ⟨g, 0, rfl, hb.lt, hS, fun j x hx => ?_⟩⟩
  have hj := (List.getElem?_eq_some_iff.1 hx).1
  have hcs : css[j]? = some (css[j]'(by omega)) := List.getElem?_eq_getElem (by omega)
  refine ⟨css[j]'(by omega), hk _ (List.getElem_mem _), fun i u hu => ?_, hR j _ x hcs hx⟩
  rw [Nat.zero_add]
  exact hb.cell _ u (by rw [List.getElem?_toArray]; exact flat_at css hk j _ hcs i u hu)
theorem Bls.prefix_ {N M : Nat} {S : Nat → Prop} {w : World} {a : Option Addr} {n c m : Nat} {xs : List Blo} (h : Bls S N (M + 1) w (.slice a n c) xs) (hm : m ≤ xs.length) : Bls S N (M + 1) w (.slice a m c) (xs.take m) := by
  obtain ⟨a', c', hv, hc, h3⟩ := (show RowR S 11 _ w _ _ from h)
  obtain ⟨rfl, rfl, rfl⟩ := Value.slice.inj hv
  show RowR S 11 _ w _ _
  have hl : (xs.take m).length = m := by rw [List.length_take]; omega
  refine ⟨a, c, by rw [hl], by omega, fun q => ?_⟩
  obtain ⟨g, o, ha, hg, hS, hcell⟩ := h3 (by omega)
  refine ⟨g, o, ha, hg, hS, fun j x hx => hcell j x ?_⟩
  have hj := (List.getElem?_eq_some_iff.1 hx).1
  rw [List.getElem?_take_of_lt (by omega)] at hx; exact hx
def kBox : Bs := [98, 111, 120]
def kAnt : Bs := [97, 110, 116]
def uA : Option (List Bs × Bs) := some ([], kBox)
def gA : Option (Option Bs × List (Bs × Bs)) := some (none, [(kBox, [116]), (kAnt, [97])])
theorem fineA : FineD uA gA := by
  refine ⟨?_, ?_, ?_, ?_, ?_, ?_, ?_, ?_⟩
  · intro s hs; simp [uA, nsU, kBox] at hs; subst hs; simp
  · simp [uA, nsU]
  · simp [uA, nsU]
  · intro t ht; simp [gA, tsG, kBox, kAnt] at ht; rcases ht with rfl | rfl <;> simp
  · simp [gA, tsG, kBox, kAnt]
  · simp [gA, tsG]
  · simp [gA, tsG]
  · intro t ht; cases ht
theorem fineB : FineD uA none := by
  refine ⟨?_, ?_, ?_, ?_, ?_, ?_, ?_, ?_⟩
  · intro s hs; simp [uA, nsU, kBox] at hs; subst hs; simp
  · simp [uA, nsU]
  · simp [uA, nsU]
  · intro t ht; cases ht
  · simp [tsG]
  · simp [tsG]
  · simp [tsG]
  · intro t ht; cases ht
theorem resA {ks : List Bs} (hk : ∀ nm, nm ∈ ks ↔ (nm ∈ (tsG gA).map (·.1) ∧ nm ∈ nsU uA)) (cf : Blo → Blo → Int) : resL (idsE (tsG gA)) cf uA (keepG ks gA) = [bloP [.mk 11 [] [] [] [] [kTerm] [] [] [] [linkI [116] kBox [textI kBox]]], bloG [bloT kBox [116] []]] := by
  have h1 : ks.contains kBox = true := by
    rw [List.contains_iff_mem]; exact (hk kBox).2 ⟨by simp [gA, tsG], by simp [uA, nsU]⟩
  have h2 : ks.contains kAnt = false := by
    rw [Bool.eq_false_iff, Ne, List.contains_iff_mem]
    intro q
    have := ((hk kAnt).1 q).2
    simp [uA, nsU, kBox, kAnt] at this
  have h3 : keepG ks gA = some (none, [(kBox, [116])]) := by
    show some (none, ([(kBox, [116]), (kAnt, [97])] : List (Bs × Bs)).filter fun t => ks.contains t.1) = _
    simp only [List.filter_cons, h1, h2, List.filter_nil]
    rfl
  have h4 : idsE (tsG gA) kBox = [116] := by decide
  rw [h3]
  show [bloP ([] ++ [lnkU (idsE (tsG gA)) kBox])] ++ [bloG ([] ++ srtL cf [bloT kBox [116] []])] = _
  unfold lnkU
  rw [srt_one, h4]; rfl
set_option maxRecDepth 100000 in
set_option maxHeartbeats 12800000 in
theorem awake27_any (w : World) : Calls Try.prog 6 #[] w fun e w' => e = .returned (.bool true) ∧ Kept w w' := by
  go_enter Try.func6, Try.ntmps6
  go_wp2_with fail
  refine (use_any kBox w).mono ?_
  rintro e w1 ⟨C, K, rfl, -, -, bC, bK, k1⟩
  have HU := Lib.hid (use_inl (n := 0) (S := fun _ => True) trivial trivial bC bK)
  have HK1 := Lib.hid k1
  clear bC bK k1
  unfold useV
  go_wp2_with fail
  have hl := Blk.new w1 41 #[.int .i64 11, .string (bs []), .string (bs []), .string (bs []), .string (bs []), .slice (some ⟨C, 0, none⟩) 1 1, .slice none 0 0, .slice none 0 0, .slice none 0 0, .slice (some ⟨K, 0, none⟩) 1 1]
  have hka := kept_alloc w1 (.cells #[.int .i64 11, .string (bs []), .string (bs []), .string (bs []), .string (bs []), .slice (some ⟨C, 0, none⟩) 1 1, .slice none 0 0, .slice none 0 0, .slice none 0 0, .slice (some ⟨K, 0, none⟩) 1 1] 41)
  obtain ⟨L, HL⟩ : ∃ L, Hid (w1.heap.size = L) := ⟨_, rfl⟩
  rw [HL.out] at hl ⊢
  generalize w1.alloc _ = w2 at *
  have HLN : Hid (Lns (fun _ => True) 2 w2 (.slice (some ⟨L, 0, none⟩) 1 1) [inlU kBox]) := one_inl hl rfl trivial ((inlK 1).sam HU.out (Sam.kept hka) (fun _ _ q => q))
  have HK2 := Lib.hid (HK1.out.trans hka)
  clear hl hka HU HK1
  refine (para_any (some ⟨L, 0, none⟩) 1 1 w2).mono ?_
  rintro e w3 ⟨rfl, k3⟩
  have HPA := Lib.hid (para_blo (N := 2) (M := 1) (HLN.out.kept k3))
  have HK3 := Lib.hid (HK2.out.trans k3)
  clear k3 HLN HK2
  go_wp2_with fail
  refine (term_any kBox [116] none 0 0 w3).mono ?_
  rintro e w4 ⟨P, rfl, -, bP, k4⟩
  have HP4 := Lib.hid bP
  have HK4 := Lib.hid (HK3.out.trans k4)
  have HPA4 := Lib.hid ((bloK 2 1).sam HPA.out (Sam.kept k4) (fun _ _ q => q))
  clear bP k4 HK3 HPA
  go_wp2_with fail
  refine (term_any kAnt [97] none 0 0 w4).mono ?_
  rintro e w5 ⟨Q, rfl, -, bQ, k5⟩
  have HP5 := Lib.hid (HP4.out.kept k5)
  have HQ5 := Lib.hid bQ
  have HK5 := Lib.hid (HK4.out.trans k5)
  have HPA5 := Lib.hid ((bloK 2 1).sam HPA4.out (Sam.kept k5) (fun _ _ q => q))
  clear bQ k5 HK4 HPA4 HP4
  go_wp2_with fail
  have hg := Blk.new w5 37 #[.int .i64 13, .int .i64 0, .string (bs kTerm), .string (bs []), .string (bs []), .string (bs []), .string (bs [116]), .slice none 0 0, .slice (some ⟨P, 0, none⟩) 1 1, .slice none 0 0, .slice none 0 0, .int .i64 13, .int .i64 0, .string (bs kTerm), .string (bs []), .string (bs []), .string (bs []), .string (bs [97]), .slice none 0 0, .slice (some ⟨Q, 0, none⟩) 1 1, .slice none 0 0, .slice none 0 0]
  have hka := kept_alloc w5 (.cells #[.int .i64 13, .int .i64 0, .string (bs kTerm), .string (bs []), .string (bs []), .string (bs []), .string (bs [116]), .slice none 0 0, .slice (some ⟨P, 0, none⟩) 1 1, .slice none 0 0, .slice none 0 0, .int .i64 13, .int .i64 0, .string (bs kTerm), .string (bs []), .string (bs []), .string (bs []), .string (bs [97]), .slice none 0 0, .slice (some ⟨Q, 0, none⟩) 1 1, .slice none 0 0, .slice none 0 0] 37)
  obtain ⟨G, HG⟩ : ∃ L, Hid (w5.heap.size = L) := ⟨_, rfl⟩
  rw [HG.out] at hg ⊢
  generalize w5.alloc _ = w6 at *
  have HT1 := term_blo (N := 2) (M := 0) (S := fun _ => True) (P := P) (nm := kBox) (id := [116]) (vK := .slice none 0 0) (kids := []) trivial (HP5.out.kept hka) (Bls.none_ _ _ _ _)
  have HT2 := term_blo (N := 2) (M := 0) (S := fun _ => True) (P := Q) (nm := kAnt) (id := [97]) (vK := .slice none 0 0) (kids := []) trivial (HQ5.out.kept hka) (Bls.none_ _ _ _ _)
  have HGB : Hid (Bls (fun _ => True) 2 1 w6 (.slice (some ⟨G, 0, none⟩) 2 2) [bloT kBox [116] [], bloT kAnt [97] []]) := row_blo (css := [[.int .i64 13, .int .i64 0, .string (bs kTerm), .string (bs []), .string (bs []), .string (bs []), .string (bs [116]), .slice none 0 0, .slice (some ⟨P, 0, none⟩) 1 1, .slice none 0 0, .slice none 0 0], [.int .i64 13, .int .i64 0, .string (bs kTerm), .string (bs []), .string (bs []), .string (bs []), .string (bs [97]), .slice none 0 0, .slice (some ⟨Q, 0, none⟩) 1 1, .slice none 0 0, .slice none 0 0]]) (xs := [bloT kBox [116] [], bloT kAnt [97] []]) hg rfl (by intro cs h; simp only [List.mem_cons, List.not_mem_nil, or_false] at h; rcases h with rfl | rfl <;> rfl) (fun j cs x h1 h2 => by
    match j, h1, h2 with
    | 0, h1, h2 => cases h1; cases h2; exact HT1
    | 1, h1, h2 => cases h1; cases h2; exact HT2
    | n + 2, h1, h2 => cases h1) trivial (Nat.le_refl _)
  have HK6 := Lib.hid (HK5.out.trans hka)
  have HPA6 := Lib.hid ((bloK 2 1).sam HPA5.out (Sam.kept hka) (fun _ _ q => q))
  clear hg hka HT1 HT2 HP5 HQ5 HK5 HPA5
  refine (glossary_any (some ⟨G, 0, none⟩) 2 2 w6).mono ?_
  rintro e w7 ⟨rfl, k7⟩
  have HGL := Lib.hid (glos_blo (N := 2) (M := 1) (HGB.out.kept k7))
  have HK7 := Lib.hid (HK6.out.trans k7)
  have HPA7 := Lib.hid ((bloK 2 1).sam HPA6.out (Sam.kept k7) (fun _ _ q => q))
  clear k7 HK6 HPA6 HGB
  have hg := Blk.new w7 37 #[.int .i64 1, .int .i64 0, .string (bs []), .string (bs []), .string (bs []), .string (bs []), .string (bs []), .slice none 0 0, .slice none 0 0, .slice (some ⟨L, 0, none⟩) 1 1, .slice none 0 0, .int .i64 13, .int .i64 0, .string (bs kGlos), .string (bs []), .string (bs []), .string (bs []), .string (bs []), .slice none 0 0, .slice none 0 0, .slice none 0 0, .slice (some ⟨G, 0, none⟩) 2 2]
  have hka := kept_alloc w7 (.cells #[.int .i64 1, .int .i64 0, .string (bs []), .string (bs []), .string (bs []), .string (bs []), .string (bs []), .slice none 0 0, .slice none 0 0, .slice (some ⟨L, 0, none⟩) 1 1, .slice none 0 0, .int .i64 13, .int .i64 0, .string (bs kGlos), .string (bs []), .string (bs []), .string (bs []), .string (bs []), .slice none 0 0, .slice none 0 0, .slice none 0 0, .slice (some ⟨G, 0, none⟩) 2 2] 37)
  have he := (show (w7.alloc (.cells #[.int .i64 1, .int .i64 0, .string (bs []), .string (bs []), .string (bs []), .string (bs []), .string (bs []), .slice none 0 0, .slice none 0 0, .slice (some ⟨L, 0, none⟩) 1 1, .slice none 0 0, .int .i64 13, .int .i64 0, .string (bs kGlos), .string (bs []), .string (bs []), .string (bs []), .string (bs []), .slice none 0 0, .slice none 0 0, .slice none 0 0, .slice (some ⟨G, 0, none⟩) 2 2] 37)).heap.size = w7.heap.size + 1 by simp)
  obtain ⟨D, HD⟩ : ∃ L, Hid (w7.heap.size = L) := ⟨_, rfl⟩
  rw [HD.out] at hg he
  have HE := Lib.hid he
  have HG8 := Lib.hid hg
  have HKA := Lib.hid hka
  clear hg hka he
  go_wp2_with fail
  rw [HD.out]
  generalize w7.alloc _ = w8 at *
  have hi := Blk.new w8 45 #[.slice none 0 0, .slice (some ⟨D, 0, none⟩) 2 2]
  have hka := kept_alloc w8 (.cells #[.slice none 0 0, .slice (some ⟨D, 0, none⟩) 2 2] 45)
  rw [HE.out] at hi
  generalize w8.alloc _ = w9 at *
  have HI := Lib.hid hi
  have HK9 := Lib.hid ((HK7.out.trans HKA.out).trans hka)
  have hk79 := HKA.out.trans hka
  have HDOC : Hid (Bls (fun _ => True) 2 2 w9 (.slice (some ⟨D, 0, none⟩) 2 2) (docL uA gA)) := row_blo (css := [[.int .i64 1, .int .i64 0, .string (bs []), .string (bs []), .string (bs []), .string (bs []), .string (bs []), .slice none 0 0, .slice none 0 0, .slice (some ⟨L, 0, none⟩) 1 1, .slice none 0 0], [.int .i64 13, .int .i64 0, .string (bs kGlos), .string (bs []), .string (bs []), .string (bs []), .string (bs []), .slice none 0 0, .slice none 0 0, .slice none 0 0, .slice (some ⟨G, 0, none⟩) 2 2]]) (xs := docL uA gA) (HG8.out.kept hka) rfl (by intro cs h; simp only [List.mem_cons, List.not_mem_nil, or_false] at h; rcases h with rfl | rfl <;> rfl) (fun j cs x h1 h2 => by
    match j, h1, h2 with
    | 0, h1, h2 => cases h1; cases h2; exact (bloK 2 1).sam HPA7.out (Sam.kept hk79) (fun _ _ q => q)
    | 1, h1, h2 => cases h1; cases h2; exact (bloK 2 1).sam HGL.out (Sam.kept hk79) (fun _ _ q => q)
    | n + 2, h1, h2 => cases h1) trivial (Nat.le_refl _)
  clear hi hka hk79 HG8 HPA7 HGL HK7 HKA HE
  refine (terms_doc fineA 2 1 _ w9 (HDOC.out.mono (fun g h _ => h))).mono ?_
  rintro e w10 ⟨vT, rfl, hT, k10⟩
  have HT := Lib.hid hT
  have HI10 := Lib.hid (HI.out.kept k10)
  have HD10 := Lib.hid (HDOC.out.kept k10)
  have HK10 := Lib.hid (HK9.out.trans k10)
  have x0 : w10.cell? ⟨D + 1, 0, none⟩ = some (.slice none 0 0) := HI10.out.cell 0 _ rfl
  have x1 : w10.cell? ⟨D + 1, 1, none⟩ = some (.slice (some ⟨D, 0, none⟩) 2 2) := HI10.out.cell 1 _ rfl
  obtain ⟨aT, cT, hvT, lT⟩ := hT.form
  obtain rfl : vT = .slice aT 2 cT := hvT
  clear hT k10 HI HDOC HK9
  go_wp2_with fail
  have hallA : ∀ s ∈ nsU uA, s ∈ (tsG gA).map (·.1) := by
    intro s hs; simp [uA, nsU] at hs; subst hs; simp [gA, tsG]
  refine (fill_doc fineA hallA 2 1 _ _ _ zeroC w10 (HD10.out.mono (fun g h _ => h)) ⟨Prs.none_ _, Strs.none_ _⟩ SmallC.zero).mono ?_
  rintro e w11 ⟨vM, vB, ks, rfl, hks, hM, hB, k11⟩
  rw [resA hks] at hB
  have HB := Lib.hid hB
  obtain ⟨aM, cM, hvM, lM⟩ := hM.shape
  obtain rfl : vM = .slice aM 0 cM := hvM
  obtain ⟨aB, cB, hvB, lB⟩ := hB.form
  obtain rfl : vB = .slice aB 2 cB := hvB
  have HT11 := Lib.hid (HT.out.step (S' := fun _ => True) (Sam.kept k11) (fun _ _ _ => trivial) (fun _ _ _ h => h))
  have HI11 := Lib.hid (HI10.out.kept k11)
  have HD11 := Lib.hid (HD10.out.kept k11)
  have HK11 := Lib.hid (HK10.out.trans k11)
  clear hks hM hB k11 HT HI10 HD10 HK10 x0 x1 hallA
  have hx := Blk.new w11 45 #[.slice aM 0 cM, .slice aB 2 cB]
  have hka := kept_alloc w11 (.cells #[.slice aM 0 cM, .slice aB 2 cB] 45)
  have HXX := Lib.hid hx
  have HKA := Lib.hid hka
  have hHIA := HI11.out.kept hka
  have x0 : w11.cell? ⟨D + 1, 0, none⟩ = some (.slice none 0 0) := HI11.out.cell 0 _ rfl
  have x1 : w11.cell? ⟨D + 1, 1, none⟩ = some (.slice (some ⟨D, 0, none⟩) 2 2) := HI11.out.cell 1 _ rfl
  have xz := HI11.out.lt
  clear hx hka hHIA
  go_wp2_with fail
  generalize hw12 : w11.alloc _ = w12 at *
  have HB12 := Lib.hid (HB.out.kept HKA.out)
  have HT12 := Lib.hid (HT11.out.step (S' := fun _ => True) (Sam.kept HKA.out) (fun _ _ _ => trivial) (fun _ _ _ h => h))
  have HI12 := Lib.hid (HI11.out.kept HKA.out)
  have HD12 := Lib.hid (HD11.out.kept HKA.out)
  have HK12 := Lib.hid (HK11.out.trans HKA.out)
  obtain ⟨X, HX⟩ : ∃ x, Hid (w11.heap.size = x) := ⟨_, rfl⟩
  rw [HX.out] at HXX ⊢
  clear HB HT11 HI11 HD11 HK11 HKA x0 x1 xz hw12
  refine (fill_err fineB ⟨kBox, by simp [uA, nsU], by simp [tsG]⟩ 2 1 _ _ _ zeroC w12 ((show Bls (fun _ => True) 2 2 w12 (.slice (some ⟨D, 0, none⟩) 1 2) (docL uA none) from HD12.out.prefix_ (m := 1) (by show 1 ≤ 2; omega)).mono (fun g h _ => h)) ⟨Prs.none_ _, Strs.none_ _⟩ SmallC.zero).mono ?_
  rintro e w13 ⟨rfl, k13⟩
  have hka := kept_alloc w13 (.cells #[.slice none 0 0, .slice none 0 0] 45)
  have HKA := Lib.hid (k13.trans hka)
  have HI13 := Lib.hid (HI12.out.kept k13)
  have x0 : w13.cell? ⟨D + 1, 0, none⟩ = some (.slice none 0 0) := HI13.out.cell 0 _ rfl
  have x1 : w13.cell? ⟨D + 1, 1, none⟩ = some (.slice (some ⟨D, 0, none⟩) 2 2) := HI13.out.cell 1 _ rfl
  have xz := HI13.out.lt
  clear hka k13
  go_wp2_with fail
  generalize w13.alloc _ = w14 at *
  clear x0 x1 xz HI13
  have HK14 := Lib.hid (HK12.out.trans HKA.out)
  refine (uses_doc_any fineA 2 2 _ w14 ((HD12.out.kept HKA.out).mono (fun g h _ => h))).mono ?_
  rintro e w15 ⟨vU, rfl, hU, k15⟩
  have HK15 := Lib.hid (HK14.out.trans k15)
  have kz := HKA.out.trans k15
  have HBZ := Lib.hid (HB12.out.kept kz)
  have HXZ := Lib.hid (HXX.out.kept kz)
  have hTZ := HT12.out.step (S' := fun _ => True) (Sam.kept kz) (fun _ _ _ => trivial) (fun _ _ _ h => h)
  obtain ⟨aU, cU, hvU, _, hU3⟩ := hU
  obtain rfl : vU = .slice aU 1 cU := hvU
  obtain ⟨gU, oU, rfl, _, hUc⟩ := hU3 (by show 0 < 1; omega)
  have u0 := hUc 0 kBox rfl
  obtain ⟨gT, oT, csT, rfl, _, -, hcl, hcell, hW, -, -⟩ := hTZ.at_ 0 (kBox, [116]) rfl
  have hcs : csT = [.int .i64 1, .string (bs [116]), .string (bs kBox), .slice none 0 0, .slice none 0 0] := hW
  subst hcs
  have t1 := hcell 1 _ rfl
  have t2 := hcell 2 _ rfl
  rw [Nat.zero_mul, Nat.add_zero] at t1 t2
  obtain ⟨gB, oB, vC, vP, vL, vK, rfl, _, _, -, -, ⟨_, _, _, _, _, _, _, _, _, b9, _⟩, -, _, _, hL, _⟩ := Bls.at_ HBZ.out 0 _ rfl
  obtain ⟨_, _, vC1, vP1, vL1, vK1, e1, _, _, -, -, ⟨_, _, _, _, _, _, _, _, _, _, b10⟩, -, _, _, _, hK⟩ := Bls.at_ HBZ.out 1 _ rfl
  cases e1
  obtain ⟨aK, cK, hvK, _⟩ := hK.form
  obtain rfl : vK1 = .slice aK 1 cK := hvK
  obtain ⟨aL, cL, hvL, _⟩ := hL.form
  obtain rfl : vL = .slice aL 1 cL := hvL
  have xx0 : w15.cell? ⟨X, 0, none⟩ = some (.slice aM 0 cM) := HXZ.out.cell 0 _ rfl
  have xx1 : w15.cell? ⟨X, 1, none⟩ = some (.slice (some ⟨gB, oB, none⟩) 2 cB) := HXZ.out.cell 1 _ rfl
  obtain ⟨gL, oL, vCl, vPl, vAl, vTl, vKl, rfl, _, _, -, -, ⟨l0, l1, l2, l3, l4, l5, l6, l7, l8, l9⟩, -, ⟨hCl, _⟩, ⟨hPl, _⟩, ⟨hAl, _⟩, hTl, hKl⟩ := Lns.at_ hL 0 _ rfl
  obtain ⟨aCl, cCl, rfl, _⟩ := hCl.shape
  obtain ⟨aPl, cPl, rfl, _⟩ := hPl.shape
  obtain ⟨aAl, cAl, rfl, _⟩ := hAl.shape
  obtain ⟨aTl, cTl, rfl, _⟩ := hTl.form
  obtain ⟨aKl, cKl, hvKl, _⟩ := hKl.form
  obtain rfl : vKl = .slice aKl 1 cKl := hvKl
  obtain ⟨gN, oN, vCn, vPn, vAn, vTn, vKn, rfl, hgN, _, -, -, ⟨n0, _, n2, _, _, _, _, _, _, _⟩, -, _, _, _, _, _⟩ := Lns.at_ hKl 0 _ rfl
  rw [Nat.zero_mul, Nat.add_zero] at b9 l0 l1 l2 l3 l4 l5 l6 l7 l8 l9 n0 n2
  rw [Nat.one_mul] at b10
  simp only [Inl.kind, Inl.text, Inl.dest, Inl.title, Inl.id, linkI] at l0 l1 l2 l3 l4 n0 n2
  unfold kBox at u0 t2
  rw [Nat.add_zero] at u0
  clear hU3 hUc hTZ hcell hcl hW hL hK hCl hPl hAl hTl hKl HBZ HXZ HB12 HT12 HI12 HD12 HXX k15 kz HKA
  go_wp2_with fail
  go_ret
  exact ⟨rfl, HK15.out.trans (kept_alloc _ _)⟩
end Go.Proofs.Ythbnahagfojfbaa
