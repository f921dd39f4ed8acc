/- How texts compare: the library's word and the plain one. No condition. -/
import Derived.Test.YthbnahagfojfbaaG23
import Derived.Test.YthbnahagfojfbaaG11
import Derived.Lib.Bytealg
import Derived.Deep.RegionLaw

set_option linter.all false
namespace Go.Proofs.Ythbnahagfojfbaa
open Go.RowKit

theorem u8_lt (a b : UInt8) : a < b ↔ (a.toNat : Int) < (b.toNat : Int) := by rw [UInt8.lt_iff_toNat_lt]; omega
theorem cmpB_lib : ∀ a b : Bs, Lib.compareBytes a b = cmpB a b
  | [], [] => rfl
  | [], _ :: _ => rfl
  | _ :: _, [] => rfl
  | a :: x, b :: y => by
    have ih := cmpB_lib x y
    unfold cmpB at ih ⊢
    rw [Lib.compareBytes, List.map_cons, List.map_cons, cmpI, ih]
    simp only [u8_lt]
theorem less_cmp : ∀ a b : Bs, Op.bytesLess a b = decide (cmpB a b < 0)
  | [], [] => rfl
  | [], _ :: _ => rfl
  | _ :: _, [] => rfl
  | a :: x, b :: y => by
    have ih := less_cmp x y
    unfold cmpB at ih ⊢
    rw [Op.bytesLess, List.map_cons, List.map_cons, cmpI, ih]
    by_cases h : a < b
    · have h2 := (u8_lt a b).1 h
      rw [if_pos h2]; simp [h]
    · have h2 : ¬ (a.toNat : Int) < (b.toNat : Int) := fun q => h ((u8_lt a b).2 q)
      rw [if_neg h2]
      by_cases h3 : b < a
      · have h4 := (u8_lt b a).1 h3
        have h5 : ¬ a = b := by rintro rfl; omega
        rw [if_pos h4]; simp [h, h5]
      · have h4 : ¬ (b.toNat : Int) < (a.toNat : Int) := fun q => h3 ((u8_lt b a).2 q)
        have h5 : a = b := UInt8.toNat_inj.1 (by omega)
        rw [if_neg h4]; simp [h, h5]
theorem cmpB_neg (a b : Bs) : cmpB b a = - cmpB a b := cmpI_neg _ _
theorem cmpB_range (a b : Bs) : cmpB a b = -1 ∨ cmpB a b = 0 ∨ cmpB a b = 1 := cmpI_range _ _
theorem cmpB_zero (a b : Bs) (h : cmpB a b = 0) : a = b := bytes_inj a b (cmpI_zero _ _ h)
theorem cmpB_self (a : Bs) : cmpB a a = 0 := cmpI_self _
/-- What a string's order says, in the walk's tests. -/
theorem run_less {P : Program} (a b : Bs) (w : World) : (Op.stringOp .lss (bs a) (bs b)).run P w = .ok (.bool (decide (cmpB a b < 0))) w := by
  unfold Op.stringOp
  simp only [bs_toList, less_cmp]
  rfl
theorem run_more {P : Program} (a b : Bs) (w : World) : (Op.stringOp .gtr (bs a) (bs b)).run P w = .ok (.bool (decide (0 < cmpB a b))) w := by
  unfold Op.stringOp
  simp only [bs_toList, less_cmp]
  have e : (!(decide (cmpB a b < 0) || a == b)) = decide (0 < cmpB a b) := by
    rcases cmpB_range a b with h | h | h
    · rw [h]; simp
    · have := cmpB_zero a b h
      subst this
      rw [h]; simp
    · have hne : ¬ a = b := by
        rintro rfl
        rw [cmpB_self] at h
        cases h
      rw [h]; simp [hne]
  rw [e]; rfl
end Go.Proofs.Ythbnahagfojfbaa

/- slices.Compare at whole numbers; Compare of collate. Conditions: lengths. -/
set_option linter.all false
namespace Go.Proofs.Ythbnahagfojfbaa
open Go.RowKit

set_option maxRecDepth 100000 in
set_option maxHeartbeats 3200000 in
theorem slcmp_any (v u : Value) (x y : List Int) (w : World) (hv : Ints w v x) (hu : Ints w u y) (hx : x.length ≤ 10000000) (hy : y.length ≤ 10000000) :
    Calls Try.prog 40 #[v, u] w fun e w' => e = .returned (.int .i64 (cmpI x y)) ∧ w = w' := by
  have HV := Lib.hid hv
  have HU := Lib.hid hu
  obtain ⟨a, c, rfl, hc⟩ := hv.form
  obtain ⟨b, d, rfl, hd⟩ := hu.form
  clear hv hu
  have HAT := Lib.hid (cmpI_at x y)
  have HEN := Lib.hid (cmpI_end x y)
  obtain ⟨R, HR⟩ : ∃ R, Hid (cmpI x y = R) := ⟨_, rfl⟩
  rw [HR.out]
  go_enter Try.func40, Try.ntmps40
  go_wp2_with fail
  go_loop [11] (fun i => ∃ k : Nat, k ≤ x.length ∧ k ≤ y.length ∧ i = .int .i64 k ∧ Hid (cmpI (x.drop k) (y.drop k) = R)) (fun i => x.length - (intOf i).toNat)
  case atStart => exact ⟨0, Nat.zero_le _, Nat.zero_le _, rfl, HR.out⟩
  case round =>
    obtain ⟨k, hk, hk2, rfl, HA⟩ := hrel
    by_cases hlt : k < x.length
    · obtain ⟨p, hp⟩ : ∃ z, x[k]? = some z := ⟨_, List.getElem?_eq_getElem hlt⟩
      obtain ⟨g, o, rfl, hg, d0⟩ := HV.out.cell_of k p hp
      by_cases hlt2 : k < y.length
      · obtain ⟨q, hq⟩ : ∃ z, y[k]? = some z := ⟨_, List.getElem?_eq_getElem hlt2⟩
        obtain ⟨g2, o2, rfl, hg2, d1⟩ := HU.out.cell_of k q hq
        have HS : Hid (R = if p < q then -1 else if q < p then 1 else cmpI (x.drop (k + 1)) (y.drop (k + 1))) := by
          show _ = _
          rw [← HA.out, HAT.out k hlt hlt2]
          obtain ⟨_, rfl⟩ := List.getElem?_eq_some_iff.1 hp
          obtain ⟨_, rfl⟩ := List.getElem?_eq_some_iff.1 hq
          rfl
        have HC := Lib.hid (fun w => Try.cmp_Compare_int p q w)
        unfold Lib.compareInt at HC
        clear hp hq
        by_cases h1 : p < q
        · rw [if_pos h1] at HS HC
          go_wp2_with fail
          refine (HC.out _).mono ?_
          rintro e w' ⟨rfl, rfl⟩
          go_wp2_with fail
          go_ret
          exact ⟨ret_int HS.out.symm, rfl⟩
        rw [if_neg h1] at HS HC
        by_cases h2 : q < p
        · rw [if_pos h2] at HS HC
          go_wp2_with fail
          refine (HC.out _).mono ?_
          rintro e w' ⟨rfl, rfl⟩
          go_wp2_with fail
          go_ret
          exact ⟨ret_int HS.out.symm, rfl⟩
        rw [if_neg h2] at HS
        rw [if_neg (show ¬ p > q from h2)] at HC
        go_wp2_with fail
        refine (HC.out _).mono ?_
        rintro e w' ⟨rfl, rfl⟩
        go_wp2_with fail
        go_round
        case rel => exact ⟨k + 1, by omega, by omega, by go_num, HS.out.symm⟩
        case measure => simp [intOf]; omega
      · have HS : Hid (R = 1) := by
          show _ = _
          rw [← HA.out, HEN.out k hk hk2 (fun q => hlt2 q.2), if_neg (by omega), if_pos (by omega)]
        clear hp
        go_wp2_with fail
        go_ret
        exact ⟨ret_int HS.out.symm, rfl⟩
    · have HS : Hid (R = if x.length < y.length then -1 else 0) := by
        show _ = _
        rw [← HA.out, HEN.out k hk hk2 (fun q => hlt q.1)]
        by_cases q : x.length < y.length
        · rw [if_pos q, if_pos q]
        · rw [if_neg q, if_neg q, if_neg (by omega)]
      by_cases h1 : x.length < y.length
      · rw [if_pos h1] at HS
        go_wp2_with fail
        go_ret
        exact ⟨ret_int HS.out.symm, rfl⟩
      · rw [if_neg h1] at HS
        go_wp2_with fail
        go_ret
        exact ⟨ret_int HS.out.symm, rfl⟩
theorem keyI_len {c : ColT} (hs : SmallC c) (s : Bs) : (keyI c s).length ≤ 1000 * s.length := by
  have h1 : ∀ x, (keyI1 c x).length ≤ 1000 := fun x => by
    unfold keyI1
    split
    · simp
    · split
      · rename_i v hv
        have := val_len hs hv
        simpa using this
      · simp
  have h2 : ∀ xs : List Int, (xs.flatMap (keyI1 c)).length ≤ 1000 * xs.length := by
    intro xs
    induction xs with
    | nil => simp
    | cons x xs ih =>
      have := h1 x
      rw [List.flatMap_cons, List.length_append, List.length_cons]; omega
  have h3 := h2 (ptsL s)
  have h4 := ptsL_len s
  unfold keyI; omega
theorem cmpC_lib (c : ColT) (a b : Bs) : cmpC c a b = if cmpI (keyI c a) (keyI c b) ≠ 0 then cmpI (keyI c a) (keyI c b) else Lib.compareBytes a b := by
  rw [cmpB_lib]; rfl
set_option maxRecDepth 100000 in
set_option maxHeartbeats 6400000 in
theorem compare_any (vR vO : Value) (c : ColT) (a b : Bs) (w : World) (hv : Col w vR vO c) (hs : SmallC c) (ha : a.length ≤ 1000) (hb : b.length ≤ 1000) :
    Calls Try.prog 21 #[colV vR vO c.ignore, .string (bs a), .string (bs b)] w fun e w' => e = .returned (.int .i64 (cmpC c a b)) ∧ Kept w w' := by
  have HV := Lib.hid hv
  have HT := Lib.hid (fun w h => tables_any vR vO c w h hs)
  have HKA := Lib.hid (fun v w h => key_any v c a w h hs ha)
  have HKB := Lib.hid (fun v w h => key_any v c b w h hs hb)
  have hla := keyI_len hs a
  have hlb := keyI_len hs b
  have HE := Lib.hid (cmpC_lib c a b)
  have HEQ := Lib.hid (fun h : a = b => (show cmpC c a b = 0 from (cmpC_zero c a b).2 h))
  have HSC := Lib.hid (fun w => Try.strings_Compare (bs a) (bs b) w)
  simp only [bs_data] at HSC
  obtain ⟨aR, cR, rfl, lR⟩ := hv.1.form
  obtain ⟨aO, cO, rfl, lO⟩ := hv.2.form
  clear hv
  have HK0 := Lib.hid (kept_alloc w (.cells #[.slice aR c.ranks.length cR, .slice aO c.order.length cO, .string (bs c.ignore)] 26))
  generalize cmpC c a b = R at *
  generalize keyI c a = ka at *
  generalize keyI c b = kb at *
  generalize Lib.compareBytes a b = S at *
  unfold IntsP at HKA HKB
  by_cases hab : a = b
  · have HR := Lib.hid (HEQ.out hab)
    subst hab
    go_enter Try.func21, Try.ntmps21
    go_wp2_with fail
    go_ret
    exact ⟨ret_int HR.out.symm, HK0.out⟩
  have hab' : (a == b) = false := by simpa using hab
  go_enter Try.func21, Try.ntmps21
  go_wp2_with fail
  refine (HT.out _ (HV.out.kept HK0.out)).mono ?_
  rintro e w1 ⟨v1, rfl, ht1, hk1⟩
  have HT1 := Lib.hid ht1
  have HK1 := Lib.hid (HK0.out.trans hk1)
  obtain ⟨m1, m2, m3, es, rfl, _, _, _, _⟩ := ht1
  clear hk1
  have HB1 := Lib.hid (Blk.new w1 100 #[.map (some m1), .map (some m2), .map (some m3), .int .i64 c.order.length])
  have HK2 := Lib.hid (HK1.out.trans (kept_alloc w1 (.cells #[.map (some m1), .map (some m2), .map (some m3), .int .i64 c.order.length] 100)))
  have HT2 := Lib.hid (HT1.out.kept (kept_alloc w1 (.cells #[.map (some m1), .map (some m2), .map (some m3), .int .i64 c.order.length] 100)))
  go_wp2_with fail
  generalize w1.alloc (.cells #[.map (some m1), .map (some m2), .map (some m3), .int .i64 c.order.length] 100) = w2 at *
  generalize w1.heap.size = B at *
  have t0 : w2.cell? ⟨B, 0, none⟩ = some (.map (some m1)) := HB1.out.cell 0 _ rfl
  have t1 : w2.cell? ⟨B, 1, none⟩ = some (.map (some m2)) := HB1.out.cell 1 _ rfl
  have t2 : w2.cell? ⟨B, 2, none⟩ = some (.map (some m3)) := HB1.out.cell 2 _ rfl
  have t3 : w2.cell? ⟨B, 3, none⟩ = some (.int .i64 c.order.length) := HB1.out.cell 3 _ rfl
  have zt := HB1.out.lt
  have HCC : Hid (∀ w', Kept w2 w' → (w'.cell? ⟨B, 0, none⟩ = some (.map (some m1)) ∧ w'.cell? ⟨B, 1, none⟩ = some (.map (some m2)) ∧ w'.cell? ⟨B, 2, none⟩ = some (.map (some m3)) ∧ w'.cell? ⟨B, 3, none⟩ = some (.int .i64 c.order.length)) ∧ B < w'.heap.size ∧ Kept w2 w') := fun w' h =>
    ⟨⟨(h.cell (p := ⟨B, 0, none⟩) zt).trans t0, (h.cell (p := ⟨B, 1, none⟩) zt).trans t1, (h.cell (p := ⟨B, 2, none⟩) zt).trans t2, (h.cell (p := ⟨B, 3, none⟩) zt).trans t3⟩, Nat.lt_of_lt_of_le zt h.size, h⟩
  have hkd : Kept w2 w2.drew := kept_drewN w2 1
  have HCMP := Lib.hid (fun v u w (h1 : Ints w v ka) (h2 : Ints w u kb) => slcmp_any v u ka kb w h1 h2 (by omega) (by omega))
  go_region_held3 (fun w' => (w'.cell? ⟨B, 0, none⟩ = some (.map (some m1)) ∧ w'.cell? ⟨B, 1, none⟩ = some (.map (some m2)) ∧ w'.cell? ⟨B, 2, none⟩ = some (.map (some m3)) ∧ w'.cell? ⟨B, 3, none⟩ = some (.int .i64 c.order.length)) ∧ B < w'.heap.size ∧ Kept w2 w')
    ((refine HCC.out _ ?_; assumption))
    (first
      | (go_at_call 40; refine (HCMP.out _ _ _ HIA2.out HIB2.out).mono ?_; rintro e w5 ⟨rfl, rfl⟩)
      | (go_at_call_of 41 (Value.string (bs b)); refine (HKB.out _ _ (HT2.out.kept kA)).mono ?_; rintro e w4 ⟨vB, rfl, hiB, hk4⟩; have kB : Kept w2 w4 := kA.trans hk4; have HIA2 := Lib.hid (HIA.out.kept hk4); have HIB2 := Lib.hid hiB; obtain ⟨aB, cB, rfl, lB⟩ := hiB.form; clear hk4 hiB)
      | (go_at_call_of 41 (Value.string (bs a)); refine (HKA.out _ _ (HT2.out.kept hkd)).mono ?_; rintro e w3 ⟨vA, rfl, hiA, hk3⟩; have kA : Kept w2 w3 := hkd.trans hk3; have HIA := Lib.hid hiA; obtain ⟨aA, cA, rfl, lA⟩ := hiA.form; clear hk3 hiA))
  all_goals
    have HKZ := Lib.hid (HK2.out.trans kB)
    clear HCC kA kB HIA2 HIB2
    generalize cmpI ka kb = D at *
    by_cases hD : D = 0
    · subst hD
      rw [if_neg (by simp)] at HE
      go_wp2_with fail
      refine (HSC.out _).mono ?_
      rintro e w6 ⟨rfl, rfl⟩
      go_wp2_with fail
      go_ret
      exact ⟨ret_int HE.out.symm, HKZ.out⟩
    · rw [if_pos hD] at HE
      have hD' : (D == 0) = false := by simpa using hD
      go_wp2_with fail
      go_ret
      exact ⟨ret_int HE.out.symm, HKZ.out⟩
end Go.Proofs.Ythbnahagfojfbaa

/- gloss.Fill's comparison of two definitions. Conditions: lengths. -/
set_option linter.all false
namespace Go.Proofs.Ythbnahagfojfbaa
open Go.RowKit

set_option maxRecDepth 100000 in
set_option maxHeartbeats 3200000 in
theorem fill1_any (S : Nat → Prop) (N M C : Nat) (vR vO : Value) (c : ColT) (x y : Blo) (cs ds : List Value) (w : World) (hb : Blk w C 26 #[vR, vO, .string (bs c.ignore)]) (hc : Col w vR vO c) (hs : SmallC c)
    (hx : BloK N M S w cs x) (hy : BloK N M S w ds y) (px : x.prs.length ≤ 1000000) (py : y.prs.length ≤ 1000000) (nx : (defName x).length ≤ 1000) (ny : (defName y).length ≤ 1000) :
    Calls Try.prog 20 #[.agg cs.toArray, .agg ds.toArray, .pointer (some ⟨C, 0, none⟩)] w fun e w' => e = .returned (.int .i64 (cmpC c (defName x) (defName y))) ∧ Kept w w' := by
  obtain ⟨vC, vP, vL, vK, rfl, ⟨hC, -⟩, ⟨hP, -⟩, hL, hK⟩ := hx
  obtain ⟨uC, uP, uL, uK, rfl, ⟨hC', -⟩, ⟨hP', -⟩, hL', hK'⟩ := hy
  obtain ⟨kind, level, info, text, dest, title, id, cls, prs, line, kids⟩ := x
  obtain ⟨kind', level', info', text', dest', title', id', cls', prs', line', kids'⟩ := y
  simp only [Blo.prs, Blo.cls, Blo.line, Blo.kids] at hC hP hL hK hC' hP' hL' hK' px py
  have hDN : defName (Blo.mk kind level info text dest title id cls prs line kids) = (getP prs kName).getD [] := rfl
  have hDN' : defName (Blo.mk kind' level' info' text' dest' title' id' cls' prs' line' kids') = (getP prs' kName).getD [] := rfl
  rw [hDN] at nx ⊢
  rw [hDN'] at ny ⊢
  have HP := Lib.hid hP
  have HP' := Lib.hid hP'
  have o1 := hK.one
  have o2 := hK'.one
  obtain ⟨aC, cC, rfl, lC⟩ := hC.shape
  obtain ⟨aP, cP, rfl, lP⟩ := hP.shape
  obtain ⟨aL, cL, rfl, lL⟩ := hL.form
  obtain ⟨aK, cK, rfl, lK⟩ := hK.form
  obtain ⟨aC', cC', rfl, lC'⟩ := hC'.shape
  obtain ⟨aP', cP', rfl, lP'⟩ := hP'.shape
  obtain ⟨aL', cL', rfl, lL'⟩ := hL'.form
  obtain ⟨aK', cK', rfl, lK'⟩ := hK'.form
  obtain ⟨aR, cR, rfl, lR⟩ := hc.1.form
  obtain ⟨aO, cO, rfl, lO⟩ := hc.2.form
  have HCOL := Lib.hid hc
  have HCB := Lib.hid hb
  have HD1 := Lib.hid (fun w h => defname_any kind level info text dest title id (.slice aC cls.length cC) (.slice aP prs.length cP) (.slice aL line.length cL) (.slice aK kids.length cK) prs w rfl h (by omega) rfl rfl)
  have HD2 := Lib.hid (fun w h => defname_any kind' level' info' text' dest' title' id' (.slice aC' cls'.length cC') (.slice aP' prs'.length cP') (.slice aL' line'.length cL') (.slice aK' kids'.length cK') prs' w rfl h (by omega) rfl rfl)
  have HCM := Lib.hid (fun w h => compare_any (.slice aR c.ranks.length cR) (.slice aO c.order.length cO) c ((getP prs kName).getD []) ((getP prs' kName).getD []) w h hs nx ny)
  obtain ⟨n1, HN1⟩ : ∃ n, Hid ((getP prs kName).getD [] = n) := ⟨_, rfl⟩
  obtain ⟨n2, HN2⟩ : ∃ n, Hid ((getP prs' kName).getD [] = n) := ⟨_, rfl⟩
  rw [HN1.out] at HD1 HCM nx ⊢
  rw [HN2.out] at HD2 HCM ny ⊢
  have HB1 := Lib.hid (Blk.new w 37 #[.int .i64 kind, .int .i64 level, .string (bs info), .string (bs text), .string (bs dest), .string (bs title), .string (bs id), .slice aC cls.length cC, .slice aP prs.length cP, .slice aL line.length cL, .slice aK kids.length cK])
  have HK1 := Lib.hid (kept_alloc w (.cells #[.int .i64 kind, .int .i64 level, .string (bs info), .string (bs text), .string (bs dest), .string (bs title), .string (bs id), .slice aC cls.length cC, .slice aP prs.length cP, .slice aL line.length cL, .slice aK kids.length cK] 37))
  have e1 : (w.alloc (.cells #[.int .i64 kind, .int .i64 level, .string (bs info), .string (bs text), .string (bs dest), .string (bs title), .string (bs id), .slice aC cls.length cC, .slice aP prs.length cP, .slice aL line.length cL, .slice aK kids.length cK] 37)).heap.size = w.heap.size + 1 := by simp
  have HE1 := Lib.hid e1
  clear e1 hC hP hL hK hC' hP' hL' hK' hDN hDN' hc hb
  unfold bloC
  simp only [Blo.kind, Blo.level, Blo.info, Blo.text, Blo.dest, Blo.title, Blo.id]
  go_enter Try.func20, Try.ntmps20
  go_wp2_with fail
  generalize w.alloc _ = w0 at *
  have HB2 := Lib.hid (Blk.new w0 37 #[.int .i64 kind', .int .i64 level', .string (bs info'), .string (bs text'), .string (bs dest'), .string (bs title'), .string (bs id'), .slice aC' cls'.length cC', .slice aP' prs'.length cP', .slice aL' line'.length cL', .slice aK' kids'.length cK'])
  have HK2 := Lib.hid (kept_alloc w0 (.cells #[.int .i64 kind', .int .i64 level', .string (bs info'), .string (bs text'), .string (bs dest'), .string (bs title'), .string (bs id'), .slice aC' cls'.length cC', .slice aP' prs'.length cP', .slice aL' line'.length cL', .slice aK' kids'.length cK'] 37))
  rw [HE1.out] at HB2
  generalize w0.alloc _ = w1 at *
  have HKW := Lib.hid (HK1.out.trans HK2.out)
  have HBI := Lib.hid (HB1.out.kept HK2.out)
  have HBC := Lib.hid (HCB.out.kept HKW.out)
  have HCL := Lib.hid (HCOL.out.kept HKW.out)
  have HPP := Lib.hid (HP.out.kept HKW.out)
  have HPP' := Lib.hid (HP'.out.kept HKW.out)
  clear HB1 HCB HCOL HP HP' HK1 HK2
  obtain ⟨I, HI⟩ : ∃ I, Hid (w.heap.size = I) := ⟨_, rfl⟩
  rw [HI.out] at HBI HB2 HE1 ⊢
  have zI : I < w1.heap.size := HBI.out.lt
  have zJ : I + 1 < w1.heap.size := HB2.out.lt
  have zC : C < w1.heap.size := HBC.out.lt
  have i0 : w1.cell? ⟨I, 0, none⟩ = some (.int .i64 kind) := (HBI.out).cell 0 _ rfl
  have i1 : w1.cell? ⟨I, 1, none⟩ = some (.int .i64 level) := (HBI.out).cell 1 _ rfl
  have i2 : w1.cell? ⟨I, 2, none⟩ = some (.string (bs info)) := (HBI.out).cell 2 _ rfl
  have i3 : w1.cell? ⟨I, 3, none⟩ = some (.string (bs text)) := (HBI.out).cell 3 _ rfl
  have i4 : w1.cell? ⟨I, 4, none⟩ = some (.string (bs dest)) := (HBI.out).cell 4 _ rfl
  have i5 : w1.cell? ⟨I, 5, none⟩ = some (.string (bs title)) := (HBI.out).cell 5 _ rfl
  have i6 : w1.cell? ⟨I, 6, none⟩ = some (.string (bs id)) := (HBI.out).cell 6 _ rfl
  have i7 : w1.cell? ⟨I, 7, none⟩ = some (.slice aC cls.length cC) := (HBI.out).cell 7 _ rfl
  have i8 : w1.cell? ⟨I, 8, none⟩ = some (.slice aP prs.length cP) := (HBI.out).cell 8 _ rfl
  have i9 : w1.cell? ⟨I, 9, none⟩ = some (.slice aL line.length cL) := (HBI.out).cell 9 _ rfl
  have i10 : w1.cell? ⟨I, 10, none⟩ = some (.slice aK kids.length cK) := (HBI.out).cell 10 _ rfl
  have j0 : w1.cell? ⟨I + 1, 0, none⟩ = some (.int .i64 kind') := (HB2.out).cell 0 _ rfl
  have j1 : w1.cell? ⟨I + 1, 1, none⟩ = some (.int .i64 level') := (HB2.out).cell 1 _ rfl
  have j2 : w1.cell? ⟨I + 1, 2, none⟩ = some (.string (bs info')) := (HB2.out).cell 2 _ rfl
  have j3 : w1.cell? ⟨I + 1, 3, none⟩ = some (.string (bs text')) := (HB2.out).cell 3 _ rfl
  have j4 : w1.cell? ⟨I + 1, 4, none⟩ = some (.string (bs dest')) := (HB2.out).cell 4 _ rfl
  have j5 : w1.cell? ⟨I + 1, 5, none⟩ = some (.string (bs title')) := (HB2.out).cell 5 _ rfl
  have j6 : w1.cell? ⟨I + 1, 6, none⟩ = some (.string (bs id')) := (HB2.out).cell 6 _ rfl
  have j7 : w1.cell? ⟨I + 1, 7, none⟩ = some (.slice aC' cls'.length cC') := (HB2.out).cell 7 _ rfl
  have j8 : w1.cell? ⟨I + 1, 8, none⟩ = some (.slice aP' prs'.length cP') := (HB2.out).cell 8 _ rfl
  have j9 : w1.cell? ⟨I + 1, 9, none⟩ = some (.slice aL' line'.length cL') := (HB2.out).cell 9 _ rfl
  have j10 : w1.cell? ⟨I + 1, 10, none⟩ = some (.slice aK' kids'.length cK') := (HB2.out).cell 10 _ rfl
  have c0 : w1.cell? ⟨C, 0, none⟩ = some (.slice aR c.ranks.length cR) := (HBC.out).cell 0 _ rfl
  have c1 : w1.cell? ⟨C, 1, none⟩ = some (.slice aO c.order.length cO) := (HBC.out).cell 1 _ rfl
  have c2 : w1.cell? ⟨C, 2, none⟩ = some (.string (bs c.ignore)) := (HBC.out).cell 2 _ rfl
  have HCC : Hid (∀ w', Kept w1 w' → ((w'.cell? ⟨C, 0, none⟩ = some (.slice aR c.ranks.length cR) ∧ w'.cell? ⟨C, 1, none⟩ = some (.slice aO c.order.length cO) ∧ w'.cell? ⟨C, 2, none⟩ = some (.string (bs c.ignore))) ∧ (w'.cell? ⟨I, 0, none⟩ = some (.int .i64 kind) ∧ w'.cell? ⟨I, 1, none⟩ = some (.int .i64 level) ∧ w'.cell? ⟨I, 2, none⟩ = some (.string (bs info)) ∧ w'.cell? ⟨I, 3, none⟩ = some (.string (bs text)) ∧ w'.cell? ⟨I, 4, none⟩ = some (.string (bs dest)) ∧ w'.cell? ⟨I, 5, none⟩ = some (.string (bs title)) ∧ w'.cell? ⟨I, 6, none⟩ = some (.string (bs id)) ∧ w'.cell? ⟨I, 7, none⟩ = some (.slice aC cls.length cC) ∧ w'.cell? ⟨I, 8, none⟩ = some (.slice aP prs.length cP) ∧ w'.cell? ⟨I, 9, none⟩ = some (.slice aL line.length cL) ∧ w'.cell? ⟨I, 10, none⟩ = some (.slice aK kids.length cK)) ∧ (w'.cell? ⟨I + 1, 0, none⟩ = some (.int .i64 kind') ∧ w'.cell? ⟨I + 1, 1, none⟩ = some (.int .i64 level') ∧ w'.cell? ⟨I + 1, 2, none⟩ = some (.string (bs info')) ∧ w'.cell? ⟨I + 1, 3, none⟩ = some (.string (bs text')) ∧ w'.cell? ⟨I + 1, 4, none⟩ = some (.string (bs dest')) ∧ w'.cell? ⟨I + 1, 5, none⟩ = some (.string (bs title')) ∧ w'.cell? ⟨I + 1, 6, none⟩ = some (.string (bs id')) ∧ w'.cell? ⟨I + 1, 7, none⟩ = some (.slice aC' cls'.length cC') ∧ w'.cell? ⟨I + 1, 8, none⟩ = some (.slice aP' prs'.length cP') ∧ w'.cell? ⟨I + 1, 9, none⟩ = some (.slice aL' line'.length cL') ∧ w'.cell? ⟨I + 1, 10, none⟩ = some (.slice aK' kids'.length cK'))) ∧ (C < w'.heap.size ∧ I < w'.heap.size ∧ I + 1 < w'.heap.size) ∧ Kept w1 w') := fun w' h =>
    ⟨⟨⟨(h.cell (p := ⟨C, 0, none⟩) zC).trans c0, (h.cell (p := ⟨C, 1, none⟩) zC).trans c1, (h.cell (p := ⟨C, 2, none⟩) zC).trans c2⟩, ⟨(h.cell (p := ⟨I, 0, none⟩) zI).trans i0, (h.cell (p := ⟨I, 1, none⟩) zI).trans i1, (h.cell (p := ⟨I, 2, none⟩) zI).trans i2, (h.cell (p := ⟨I, 3, none⟩) zI).trans i3, (h.cell (p := ⟨I, 4, none⟩) zI).trans i4, (h.cell (p := ⟨I, 5, none⟩) zI).trans i5, (h.cell (p := ⟨I, 6, none⟩) zI).trans i6, (h.cell (p := ⟨I, 7, none⟩) zI).trans i7, (h.cell (p := ⟨I, 8, none⟩) zI).trans i8, (h.cell (p := ⟨I, 9, none⟩) zI).trans i9, (h.cell (p := ⟨I, 10, none⟩) zI).trans i10⟩, ⟨(h.cell (p := ⟨I + 1, 0, none⟩) zJ).trans j0, (h.cell (p := ⟨I + 1, 1, none⟩) zJ).trans j1, (h.cell (p := ⟨I + 1, 2, none⟩) zJ).trans j2, (h.cell (p := ⟨I + 1, 3, none⟩) zJ).trans j3, (h.cell (p := ⟨I + 1, 4, none⟩) zJ).trans j4, (h.cell (p := ⟨I + 1, 5, none⟩) zJ).trans j5, (h.cell (p := ⟨I + 1, 6, none⟩) zJ).trans j6, (h.cell (p := ⟨I + 1, 7, none⟩) zJ).trans j7, (h.cell (p := ⟨I + 1, 8, none⟩) zJ).trans j8, (h.cell (p := ⟨I + 1, 9, none⟩) zJ).trans j9, (h.cell (p := ⟨I + 1, 10, none⟩) zJ).trans j10⟩⟩, ⟨Nat.lt_of_lt_of_le zC h.size, Nat.lt_of_lt_of_le zI h.size, Nat.lt_of_lt_of_le zJ h.size⟩, h⟩
  have hkd : Kept w1 w1.drew := kept_drewN w1 1
  go_region_held3 (fun w' => ((w'.cell? ⟨C, 0, none⟩ = some (.slice aR c.ranks.length cR) ∧ w'.cell? ⟨C, 1, none⟩ = some (.slice aO c.order.length cO) ∧ w'.cell? ⟨C, 2, none⟩ = some (.string (bs c.ignore))) ∧ (w'.cell? ⟨I, 0, none⟩ = some (.int .i64 kind) ∧ w'.cell? ⟨I, 1, none⟩ = some (.int .i64 level) ∧ w'.cell? ⟨I, 2, none⟩ = some (.string (bs info)) ∧ w'.cell? ⟨I, 3, none⟩ = some (.string (bs text)) ∧ w'.cell? ⟨I, 4, none⟩ = some (.string (bs dest)) ∧ w'.cell? ⟨I, 5, none⟩ = some (.string (bs title)) ∧ w'.cell? ⟨I, 6, none⟩ = some (.string (bs id)) ∧ w'.cell? ⟨I, 7, none⟩ = some (.slice aC cls.length cC) ∧ w'.cell? ⟨I, 8, none⟩ = some (.slice aP prs.length cP) ∧ w'.cell? ⟨I, 9, none⟩ = some (.slice aL line.length cL) ∧ w'.cell? ⟨I, 10, none⟩ = some (.slice aK kids.length cK)) ∧ (w'.cell? ⟨I + 1, 0, none⟩ = some (.int .i64 kind') ∧ w'.cell? ⟨I + 1, 1, none⟩ = some (.int .i64 level') ∧ w'.cell? ⟨I + 1, 2, none⟩ = some (.string (bs info')) ∧ w'.cell? ⟨I + 1, 3, none⟩ = some (.string (bs text')) ∧ w'.cell? ⟨I + 1, 4, none⟩ = some (.string (bs dest')) ∧ w'.cell? ⟨I + 1, 5, none⟩ = some (.string (bs title')) ∧ w'.cell? ⟨I + 1, 6, none⟩ = some (.string (bs id')) ∧ w'.cell? ⟨I + 1, 7, none⟩ = some (.slice aC' cls'.length cC') ∧ w'.cell? ⟨I + 1, 8, none⟩ = some (.slice aP' prs'.length cP') ∧ w'.cell? ⟨I + 1, 9, none⟩ = some (.slice aL' line'.length cL') ∧ w'.cell? ⟨I + 1, 10, none⟩ = some (.slice aK' kids'.length cK'))) ∧ (C < w'.heap.size ∧ I < w'.heap.size ∧ I + 1 < w'.heap.size) ∧ Kept w1 w')
    ((refine HCC.out _ ?_; assumption))
    (first
      | (go_at_call 21; refine (HCM.out _ (HCL.out.kept (by assumption))).mono ?_; rintro e w5 ⟨rfl, hk5⟩; have kz : Kept w1 w5 := Kept.trans (by assumption) hk5; have KZ := Lib.hid kz; clear hk5)
      | (go_at_call_of 22 kids; refine (HD1.out _ (HPP.out.kept (by assumption))).mono ?_; rintro e w3 ⟨rfl, hk3⟩; have kA : Kept w1 w3 := Kept.trans (by assumption) hk3; clear hk3)
      | (go_at_call_of 22 kids'; refine (HD2.out _ (HPP'.out.kept (by assumption))).mono ?_; rintro e w4 ⟨rfl, hk4⟩; have kB : Kept w1 w4 := Kept.trans (by assumption) hk4; clear hk4))
  all_goals
    go_wp2_with fail
    go_ret
    exact ⟨rfl, HKW.out.trans KZ.out⟩
end Go.Proofs.Ythbnahagfojfbaa
