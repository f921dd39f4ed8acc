/- Text of style. Conditions: lengths. -/
import Derived.Test.YtofeonnmoakbaaaGreatDoorK18
import Derived.Test.YtofeonnmoakbaaaGreatDoorK26
import Derived.Test.YtofeonnmoakbaaaGreatDoorK25
import Derived.Test.YtofeonnmoakbaaaGreatDoorK24
import Derived.Test.YtofeonnmoakbaaaGreatDoorK03
import Derived.Deep.RegionHeld3
import Derived.Deep.MidRow
import Derived.Lib.Atoi

set_option linter.all false
namespace Go.Proofs.YtofeonnmoakbaaaGreatDoor
open Go.RowKit

theorem Tryz.size9 : (Tryz.prog.info? 50).map (fun x => x.size) = some 9 := by kernel_rfl
theorem there_new (w : World) (cs : Array Value) (t : TypeId) (n : Nat) (h : cs.size = n) : (w.alloc (.cells cs t)).there w.heap.size 0 n := by
  intro j hj
  have hb := heap_alloc_new w (.cells cs t)
  constructor
  · rw [Nat.zero_add, cell_of_row _ _ _ _ _ _ hb]
    rw [Array.getElem?_eq_getElem (by omega)]; rfl
  · unfold World.frozen?
    simp only [hb]
    simp
theorem kept_cells {a : World} (b : Nat) (hg : a.heap.size ≤ b) : ∀ (vs : List Value) (o : Nat) (w : World), Kept a w → Kept a (w.setCells b o vs)
  | [], _, _, h => h
  | v :: vs, o, w, h => kept_cells b hg vs (o + 1) _ (kept_set h b o v hg)
theorem size_cells (b : Nat) : ∀ (vs : List Value) (o : Nat) (w : World), (w.setCells b o vs).heap.size = w.heap.size
  | [], _, _ => rfl
  | v :: vs, o, w => (size_cells b vs (o + 1) _).trans (size_setCell w _ v)
theorem run_heads (k : Nat) (hk : k < 9) (w : World) : (Instr.index 50 (.agg (strCells headsL).toArray) (.int .i64 (k : Int))).run Tryz.prog w = .ok (.string (bs (headsL.getD k []))) w := by
  obtain rfl | rfl | rfl | rfl | rfl | rfl | rfl | rfl | rfl : k = 0 ∨ k = 1 ∨ k = 2 ∨ k = 3 ∨ k = 4 ∨ k = 5 ∨ k = 6 ∨ k = 7 ∨ k = 8 := by omega
  all_goals (clear hk; show (Instr.index _ _ _).run _ _ = _; kernel_rfl)
theorem heads_len (k : Nat) : (headsL.getD k []).length ≤ 8 := by
  match k with
  | 0 => decide
  | 1 => decide
  | 2 => decide
  | 3 => decide
  | 4 => decide
  | 5 => decide
  | 6 => decide
  | 7 => decide
  | 8 => decide
  | k + 9 => simp [headsL]
theorem headL_next (y : StyT) (k : Nat) (hk : k < 9) (v : Bs) (hv : (valsL y)[k]? = some v) : (headL y).take (k + 1) = (headL y).take k ++ [headsL.getD k [] ++ v] := by
  have h : (headL y)[k]? = some (headsL.getD k [] ++ v) := by
    unfold headL
    rw [List.getElem?_zipWith, hv]
    have : headsL[k]? = some (headsL.getD k []) := by
      rw [List.getD_eq_getElem?_getD, List.getElem?_eq_getElem (show k < headsL.length from hk)]; rfl
    rw [this]
  obtain ⟨hk', e⟩ := List.getElem?_eq_some_iff.1 h
  rw [List.take_succ_eq_append_getElem hk', e]
theorem valsL_len (y : StyT) (hs : SmallY y) (hm : y.most.toNat < 100) : ∀ v ∈ valsL y, v.length ≤ 100000 := by
  obtain ⟨s1, s2, s3, s4, s5, s6, s7, _⟩ := hs
  intro v hv
  unfold valsL at hv
  simp only [List.mem_cons, List.mem_nil_iff, or_false] at hv
  have hd := dec_small _ hm
  have hy : (yesL y.numeric).length ≤ 3 := by unfold yesL; split <;> decide
  rcases hv with rfl | rfl | rfl | rfl | rfl | rfl | rfl | rfl | rfl <;> omega
theorem entL_len (y : StyT) (hs : SmallY y) : ∀ p ∈ y.entries, (entL p).length ≤ 300000 := by
  obtain ⟨_, _, _, _, _, _, _, _, s9⟩ := hs
  intro p hp
  have := s9 p hp
  unfold entL kEntry
  simp only [List.length_append, List.length_cons, List.length_nil]
  omega
theorem styLn_len (y : StyT) (hs : SmallY y) (hm : y.most.toNat < 100) : (styLn y).length ≤ 10009 ∧ ∀ x ∈ styLn y, x.length ≤ 300000 := by
  have h1 := valsL_len y hs hm
  have h2 := entL_len y hs
  obtain ⟨_, _, _, _, _, _, _, s8, _⟩ := hs
  constructor
  · unfold styLn headL
    rw [List.length_append, List.length_map, List.length_zipWith]
    have : headsL.length = 9 := rfl
    omega
  · intro x hx
    unfold styLn at hx
    rcases List.mem_append.1 hx with hx | hx
    · obtain ⟨k, hk, e⟩ := List.getElem_of_mem hx
      unfold headL at hk e
      rw [List.getElem_zipWith] at e
      rw [List.length_zipWith] at hk
      subst e
      rw [List.length_append]
      have ha := h1 _ (List.getElem_mem (show k < (valsL y).length by omega))
      have hb := heads_len k
      rw [List.getD_eq_getElem?_getD, List.getElem?_eq_getElem (by omega)] at hb
      simp only [Option.getD_some] at hb
      omega
    · obtain ⟨p, hp, rfl⟩ := List.mem_map.1 hx
      exact h2 p hp
/-- The state behind the nine values: the values lie in a block of their own. -/
structure Vals9 (w1 w9 : World) (b : Nat) (y : StyT) : Prop where
  kept : Kept w1 w9
  lt : b < w9.heap.size
  cell : ∀ (k : Nat) (v : Bs), (valsL y)[k]? = some v → w9.cell? ⟨b, k, none⟩ = some (.string (bs v))
theorem vals9_of (w1 W : World) (y : StyT) (vs : List Value) (hvs : vs = strCells (valsL y)) (hk : Kept w1 W) (hb : w1.heap.size < W.heap.size) (ht : W.there w1.heap.size 0 vs.length) : Vals9 w1 (W.setCells w1.heap.size 0 vs) w1.heap.size y := by
  refine ⟨kept_cells _ (Nat.le_refl _) vs 0 W hk, by rw [size_cells]; exact hb, fun k v hv => ?_⟩
  have h := World.rangeAt_setCells_same W w1.heap.size 0 vs ht k (.string (bs v)) (by subst hvs; exact strCells_at _ _ _ hv)
  rw [Nat.zero_add] at h
  exact h
set_option maxRecDepth 100000 in
set_option maxHeartbeats 6400000 in
theorem stext_any (vE : Value) (y : StyT) (w : World) (hg : Gnd w) (hs : SmallY y) (hv : Prs w vE y.entries) :
    Calls Tryz.prog 11 #[styV vE y] w fun e w' => e = .returned (.tuple #[.string (bs (styS y)), .int .i64 (styE y)]) ∧ Kept w w' := by
  obtain ⟨i0, hi, hz0, hz1, hz2⟩ := info_parts Tryz.infoStr
  have HG := Lib.hid hg
  have HV := Lib.hid hv
  have HSM := Lib.hid hs
  have HCK := Lib.hid (fun w h h' => scheck_any vE y w h HSM.out h')
  have HS0 : Hid (styE y ≠ 0 → styS y = []) := fun h => by unfold styS; rw [if_neg h]
  have HS1 : Hid (styE y = 0 → styS y = joinLn (headL y ++ y.entries.map entL)) := fun h => by unfold styS; rw [if_pos h]; rfl
  have HMO : Hid (styE y = 0 → 1 ≤ y.most ∧ y.most ≤ 32) := fun h => ⟨(styE_parts h).2.2.2.2.2.2.2.1, (styE_parts h).2.2.2.2.2.2.2.2.1⟩
  obtain ⟨s1, s2, s3, s4, s5, s6, s7, s8, s9⟩ := hs
  obtain ⟨aE, cE, rfl, lE⟩ := hv.form
  have HS9 := Lib.hid s9
  generalize styS y = T at *
  generalize styE y = E at *
  clear hg hv s9
  unfold styV styCells at HCK ⊢
  have HK0 := Lib.hid (kept_alloc w (.cells (styCells (.slice aE y.entries.length cE) y) 24))
  have HB0 := Lib.hid (Blk.new w 24 (styCells (.slice aE y.entries.length cE) y))
  unfold styCells at HK0 HB0
  go_enter Tryz.func11, Tryz.ntmps11
  go_wp2_with fail
  generalize w.alloc _ = w0 at *
  generalize w.heap.size = B at *
  refine (HCK.out _ (HG.out.kept HK0.out) (HV.out.kept HK0.out)).mono ?_
  rintro e w1 ⟨rfl, hk⟩
  have HB1 := Lib.hid (HB0.out.kept hk)
  have HK1 := Lib.hid (HK0.out.trans hk)
  clear hk HCK HK0 HB0
  by_cases hE : E = 0
  case neg =>
    have hE' : (E == 0) = false := by simpa using hE
    have HT := Lib.hid (HS0.out hE)
    go_wp2_with fail
    go_ret2
    exact ⟨by rw [HT.out]; rfl, HK1.out⟩
  subst hE
  have HT := Lib.hid (HS1.out rfl)
  obtain ⟨m1, m2⟩ := HMO.out rfl
  clear HS0 HS1 HMO
  obtain ⟨mo, hmo⟩ : ∃ n : Nat, y.most = (n : Int) := ⟨y.most.toNat, by omega⟩
  have hdl := dec_small mo (by omega)
  have HLN := Lib.hid (styLn_len y HSM.out (by omega))
  have HVL := Lib.hid (valsL_len y HSM.out (by omega))
  have HIT := Lib.hid (fun w => Tryz.strconv_Itoa_small mo (by omega) w)
  simp only [mk_bs] at HIT
  have HVS : Hid (strCells (valsL y) = [.string (bs y.name), .string (bs (yesL y.numeric)), .string (bs y.sort), .string (bs y.cite), .string (bs y.bare), .string (bs y.between), .string (bs y.begin_), .string (bs y.end_), .string (bs (Lib.decDigits mo))]) := by
    show _ = _
    unfold valsL strCells
    rw [hmo]; rfl
  rw [hmo] at HB1
  generalize Lib.decDigits mo = D at *
  clear hmo
  have HCC : Hid (∀ w', Kept w1 w' → (w'.cell? ⟨B, 0, none⟩ = some (.string (bs y.name)) ∧ w'.cell? ⟨B, 2, none⟩ = some (.string (bs y.sort)) ∧ w'.cell? ⟨B, 3, none⟩ = some (.string (bs y.cite)) ∧ w'.cell? ⟨B, 4, none⟩ = some (.string (bs y.bare)) ∧ w'.cell? ⟨B, 5, none⟩ = some (.string (bs y.between)) ∧ w'.cell? ⟨B, 6, none⟩ = some (.string (bs y.begin_)) ∧ w'.cell? ⟨B, 7, none⟩ = some (.string (bs y.end_)) ∧ w'.cell? ⟨B, 8, none⟩ = some (.int .i64 mo)) ∧ B < w'.heap.size) := fun w' h =>
    ⟨⟨(HB1.out.kept h).cell 0 _ rfl, (HB1.out.kept h).cell 2 _ rfl, (HB1.out.kept h).cell 3 _ rfl, (HB1.out.kept h).cell 4 _ rfl, (HB1.out.kept h).cell 5 _ rfl, (HB1.out.kept h).cell 6 _ rfl, (HB1.out.kept h).cell 7 _ rfl, (HB1.out.kept h).cell 8 _ rfl⟩, (HB1.out.kept h).lt⟩
  obtain ⟨⟨t0, t2, t3, t4, t5, t6, t7, t8⟩, z0⟩ := HCC.out w1 (Kept.refl _)
  have t1 : w1.cell? ⟨B, 1, none⟩ = some (.bool y.numeric) := HB1.out.cell 1 _ rfl
  have hkd : Kept w1 w1.drew := kept_drewN w1 1
  have hka : Kept w1 (w1.alloc (.cells #[.string (bs []), .string (bs []), .string (bs []), .string (bs []), .string (bs []), .string (bs []), .string (bs []), .string (bs []), .string (bs [])] 50)).drew := (kept_alloc w1 _).trans (kept_drewN _ 1)
  cases hn : y.numeric
  case' false =>
    rw [hn] at t1 HVS HB1
    clear hn
    simp only [yesL, Bool.false_eq_true, if_false, if_true] at HVS
    go_wp2_with fail
    generalize hYS : ([110, 111] : Bs) = YS at *
    have hyl : YS.length ≤ 3 := by rw [← hYS]; decide
    clear hYS
  case' true =>
    rw [hn] at t1 HVS HB1
    clear hn
    simp only [yesL, Bool.false_eq_true, if_false, if_true] at HVS
    go_wp2_with fail
    generalize hYS : ([121, 101, 115] : Bs) = YS at *
    have hyl : YS.length ≤ 3 := by rw [← hYS]; decide
    clear hYS
  all_goals
    have hone : ∀ v ∈ ([.string (bs y.name), .string (bs YS), .string (bs y.sort), .string (bs y.cite), .string (bs y.bare), .string (bs y.between), .string (bs y.begin_), .string (bs y.end_), .string (bs D)] : List Value), v.oneCell' = true := by simp [Value.oneCell']
    have hth : (w1.alloc (.cells #[.string (bs []), .string (bs []), .string (bs []), .string (bs []), .string (bs []), .string (bs []), .string (bs []), .string (bs []), .string (bs [])] 50)).drew.there w1.heap.size 0 ([.string (bs y.name), .string (bs YS), .string (bs y.sort), .string (bs y.cite), .string (bs y.bare), .string (bs y.between), .string (bs y.begin_), .string (bs y.end_), .string (bs D)] : List Value).length := by
      rw [World.there_drew]
      exact there_new w1 _ 50 9 rfl
    have hsz9 : Option.map (fun x : TypeInfo => x.size) (Tryz.prog.info? 50) = some ([.string (bs y.name), .string (bs YS), .string (bs y.sort), .string (bs y.cite), .string (bs y.bare), .string (bs y.between), .string (bs y.begin_), .string (bs y.end_), .string (bs D)] : List Value).length := Tryz.size9
    have HV9 := Lib.hid (vals9_of w1 (w1.alloc (.cells #[.string (bs []), .string (bs []), .string (bs []), .string (bs []), .string (bs []), .string (bs []), .string (bs []), .string (bs []), .string (bs [])] 50)).drew y [.string (bs y.name), .string (bs YS), .string (bs y.sort), .string (bs y.cite), .string (bs y.bare), .string (bs y.between), .string (bs y.begin_), .string (bs y.end_), .string (bs D)] HVS.out.symm hka (by simp) hth)
    have hkc := HV9.out.kept
    clear t1
    go_region_held3 (fun w' => (w'.cell? ⟨B, 0, none⟩ = some (.string (bs y.name)) ∧ w'.cell? ⟨B, 2, none⟩ = some (.string (bs y.sort)) ∧ w'.cell? ⟨B, 3, none⟩ = some (.string (bs y.cite)) ∧ w'.cell? ⟨B, 4, none⟩ = some (.string (bs y.bare)) ∧ w'.cell? ⟨B, 5, none⟩ = some (.string (bs y.between)) ∧ w'.cell? ⟨B, 6, none⟩ = some (.string (bs y.begin_)) ∧ w'.cell? ⟨B, 7, none⟩ = some (.string (bs y.end_)) ∧ w'.cell? ⟨B, 8, none⟩ = some (.int .i64 mo)) ∧ B < w'.heap.size)
      ((refine HCC.out _ ?_; with_reducible assumption))
      (first
        | (go_at_call 26; refine (HIT.out _).mono ?_; rintro e w3 ⟨rfl, rfl⟩))
    all_goals
      rename_i hHeld
      clear hHeld hth hsz9 hone hka hkd hkc HIT HCC t0 t2 t3 t4 t5 t6 t7 t8 z0
      generalize World.setCells _ _ _ _ = w9 at HV9 ⊢
      have HK9 := Lib.hid (HK1.out.trans HV9.out.kept)
      have HB9 := Lib.hid (HB1.out.kept HV9.out.kept)
      go_wp2_with fail
      refine (sheads_any _).mono ?_
      rintro e w10 ⟨rfl, hk10⟩
      have HK10 := Lib.hid (HK9.out.trans hk10)
      have HB10 := Lib.hid (HB9.out.kept hk10)
      have HC10 : Hid (∀ (k : Nat) (v : Bs), (valsL y)[k]? = some v → w10.cell? ⟨w1.heap.size, k, none⟩ = some (.string (bs v))) := fun k v hv => (hk10.cell (p := ⟨w1.heap.size, k, none⟩) HV9.out.lt).trans (HV9.out.cell k v hv)
      have z10 : w1.heap.size < w10.heap.size := Nat.lt_of_lt_of_le HV9.out.lt hk10.size
      have HRH := Lib.hid run_heads
      obtain ⟨HA, HHA⟩ : ∃ HA, Hid ((strCells headsL).toArray = HA) := ⟨_, rfl⟩
      rw [HHA.out] at HRH ⊢
      have HNX : Hid (∀ (k : Nat), k < 9 → ∃ v, (valsL y)[k]? = some v ∧ v.length ≤ 100000 ∧ (headL y).take (k + 1) = (headL y).take k ++ [headsL.getD k [] ++ v]) := fun k hk => by
        have hl : k < (valsL y).length := hk
        exact ⟨(valsL y)[k], List.getElem?_eq_getElem hl, HVL.out _ (List.getElem_mem hl), headL_next y k hk _ (List.getElem?_eq_getElem hl)⟩
      have HL0 : Hid ((headL y).take 0 = []) := rfl
      have HL9 : Hid ((headL y).take 9 = headL y) := by
        show _ = _
        rw [List.take_of_length_le]
        unfold headL; rw [List.length_zipWith]
        show min headsL.length _ ≤ headsL.length
        exact Nat.min_le_left _ _
      have HLH : Hid (headL y ++ y.entries.map entL = styLn y) := rfl
      have HHN : Hid ((headL y).length = 9) := by
        show _ = _
        unfold headL; rw [List.length_zipWith]; rfl
      clear hk10 HK1 HB1 HV9 HK9 HB9 HVL HVS hyl
      generalize w1.heap.size = B9 at *
      go_wp2_with fail
      (try simp only [mk_bs])
      go_loopw [7, 39] (fun v i wr => ∃ (k : Nat) (ys : List Bs), k ≤ 9 ∧ i = .int .i64 k ∧ Hid (ys.length = k) ∧ Hid (wr.ownsRow w10.heap.size 9 1 v ys.length (strCells ys)) ∧ Hid (ys = (headL y).take k) ∧ Hid (Kept w10 wr)) (fun _ i _ => 9 - (intOf i).toNat)
      case atStart => exact ⟨0, [], Nat.zero_le _, rfl, rfl, World.ownsRow_nil _ _ _ _, HL0.out.symm, Kept.refl _⟩
      case round =>
        obtain ⟨k, ys, hk, rfl, HYL, HOWN, HYS, HKR⟩ := hrel
        have hsz : w10.heap.size ≤ wr.heap.size := HKR.out.size
        by_cases hlt : k < 9
        · obtain ⟨v, hv, hvl, hvt⟩ := HNX.out k hlt
          have t9 : wr.cell? ⟨B9, k, none⟩ = some (.string (bs v)) := (HKR.out.cell (p := ⟨B9, k, none⟩) z10).trans (HC10.out k v hv)
          have hix := fun w => HRH.out k hlt w
          have hhl := heads_len k
          have HVT : Hid ((headL y).take (k + 1) = ys ++ [headsL.getD k [] ++ v]) := by rw [HYS.out]; exact hvt
          generalize headsL.getD k [] = h at *
          have ad1 := fun w => run_add (P := Tryz.prog) h v (by omega) (by omega) w
          have hyl : ys.length ≤ 9 := by rw [HYL.out]; exact hk
          generalize h ++ v = s3 at *
          clear hv hvt
          go_wp2_with (at_builtin; refine wpList_append_own _ rfl _ _ 51 rfl w10.heap.size 9 i0 (.string ⟨#[]⟩) 1 16 Tryz.underlying51 hi hz0 hz1 hz2 rfl (by decide) _ _ _ rfl (HOWN.out.alloc _) ⟨wr.heap.size, 0, none⟩ 1 1 [.string (bs s3)] rfl rfl (new_cells _ #[.string (bs s3)] _ _ (by simp)) (by intro u hu; simp at hu; subst hu; rfl) (by unfold maxLen; omega) (by omega) (by simp; omega) ?_; intro v' w2 hown3 hgrow _)
          have HB2 := Lib.hid ((HKR.out.trans (kept_alloc _ _)).trans' (grown_below (HOWN.out.alloc _) hgrow (by simp; omega)))
          rw [← strCells_snoc] at hown3
          have HO := Lib.hid hown3
          clear hown3 hgrow
          go_wp2_with fail
          go_roundw
          case rel => exact ⟨k + 1, ys ++ [s3], by omega, by go_num, (by show _ = _; rw [List.length_append, HYL.out]; rfl), Lib.hid (by simpa using HO.out), HVT.out.symm, HB2.out⟩
          case measure => simp [intOf]; omega
        · have HK99 : Hid (k = 9) := Lib.hid (by omega)
          have h9 : 9 ≤ k := by omega
          have h9' : (9 : Int) ≤ (k : Int) := by omega
          have HYH : Hid (ys = headL y) := by show _ = _; rw [HYS.out, HK99.out, HL9.out]
          have HOWNs := Lib.hid HOWN.out
          have HYLs := Lib.hid HYL.out
          have HKS := Lib.hid HKR.out
          have hyl : ys.length ≤ 9 := by rw [HYL.out]; exact hk
          rw [HK99.out] at HYLs
          have b9 : wr.cell? ⟨B, 9, none⟩ = some (.slice aE y.entries.length cE) := (HB10.out.kept HKR.out).cell 9 _ rfl
          have z9 := (HB10.out.kept HKR.out).lt
          clear HYS HKR HOWN HYL hlt
          go_wp2_with fail
          (try simp only [mk_bs])
          clear b9 z9
          clear h9 h9' hk
          go_loopw [7, 55] (fun v i wr => ∃ (k : Nat) (xs : List Bs), k ≤ y.entries.length ∧ i = .int .i64 k ∧ Hid (xs.length = 9 + k) ∧ Hid (wr.ownsRow w10.heap.size 9 1 v xs.length (strCells xs)) ∧ Hid (xs = headL y ++ (y.entries.take k).map entL) ∧ Hid (Kept w10 wr)) (fun _ i _ => y.entries.length - (intOf i).toNat)
          case atStart => exact ⟨0, ys, Nat.zero_le _, rfl, HYLs.out, HOWNs.out, by show _ = _; rw [HYH.out]; simp, HKS.out⟩
          case round =>
            clear HYLs HOWNs HKS HYH hyl hsz
            obtain ⟨k, xs, hk, rfl, HXL, HOWN, HXS, HKR⟩ := hrel
            have hsz : w10.heap.size ≤ wr.heap.size := HKR.out.size
            by_cases hlt : k < y.entries.length
            · obtain ⟨p, hx⟩ : ∃ x, y.entries[k]? = some x := ⟨_, List.getElem?_eq_getElem hlt⟩
              obtain ⟨hp1, hp2⟩ := HS9.out p (List.mem_of_getElem? hx)
              obtain ⟨g, o, rfl, hg, d0, d1, _, _⟩ := (HV.out.kept (HK10.out.trans HKR.out)).cell_of k p hx
              have HN : Hid (headL y ++ (y.entries.take (k + 1)).map entL = xs ++ [entL p]) := by
                show _ = _
                obtain ⟨hk', rfl⟩ := List.getElem?_eq_some_iff.1 hx
                rw [List.take_succ_eq_append_getElem hk', HXS.out, List.map_append, List.append_assoc]; rfl
              obtain ⟨x, z⟩ := p
              simp only at hp1 hp2 d0 d1
              have ad1 := fun w => run_add (P := Tryz.prog) [101, 110, 116, 114, 121, 32] x (by simp) (by omega) w
              have ad2 := fun w => run_add (P := Tryz.prog) ([101, 110, 116, 114, 121, 32] ++ x) [58] (by simp; omega) (by simp) w
              have ad3 := fun w => run_add (P := Tryz.prog) ([101, 110, 116, 114, 121, 32] ++ x ++ [58]) z (by simp; omega) (by omega) w
              have HRL : Hid (entL (x, z) = [101, 110, 116, 114, 121, 32] ++ x ++ [58] ++ z) := rfl
              rw [HRL.out] at HN
              generalize hz3 : [101, 110, 116, 114, 121, 32] ++ x ++ [58] ++ z = s3 at *
              generalize hz2' : [101, 110, 116, 114, 121, 32] ++ x ++ [58] = s2 at *
              generalize hz1' : [101, 110, 116, 114, 121, 32] ++ x = s1 at *
              clear hz3 hz2' hz1' HRL hx
              have HOWN2 := Lib.hid (HOWN.out.alloc (.cells #[.string (bs x), .string (bs z)] 49))
              have HKA := Lib.hid (HKR.out.trans (kept_alloc wr (.cells #[.string (bs x), .string (bs z)] 49)))
              have hxl : xs.length ≤ 10009 := by rw [HXL.out]; omega
              clear HOWN
              go_wp2_with (at_builtin; refine wpList_append_own _ rfl _ _ 51 rfl w10.heap.size 9 i0 (.string ⟨#[]⟩) 1 16 Tryz.underlying51 hi hz0 hz1 hz2 rfl (by decide) _ _ _ rfl (HOWN2.out.alloc _) ⟨wr.heap.size + 1, 0, none⟩ 1 1 [.string (bs s3)] rfl rfl (new_cells _ #[.string (bs s3)] _ _ (by simp)) (by intro u hu; simp at hu; subst hu; rfl) (by unfold maxLen; omega) (by omega) (by simp; omega) ?_; intro v' w2 hown3 hgrow _)
              have HB2 := Lib.hid ((HKA.out.trans (kept_alloc _ _)).trans' (grown_below (HOWN2.out.alloc _) hgrow (by simp; omega)))
              rw [← strCells_snoc] at hown3
              have HO := Lib.hid hown3
              clear hown3 hgrow
              go_wp2_with fail
              go_roundw
              case rel => exact ⟨k + 1, xs ++ [s3], by omega, by go_num, (by show _ = _; rw [List.length_append, HXL.out]; rfl), Lib.hid (by simpa using HO.out), HN.out.symm, HB2.out⟩
              case measure => simp [intOf]; omega
            · have HAL : Hid (xs = styLn y) := by
                have h := HXS.out
                rw [List.take_of_length_le (by omega)] at h
                exact h
              rw [HLH.out, ← HAL.out] at HT
              rw [← HAL.out] at HLN
              have HSS := Lib.hid (Strs.own HOWN.out)
              have HJ := Lib.hid (fun v w h => ljoin_any v xs w h (by have := HLN.out.1; omega) (by have := joinLn_len xs 300000 HLN.out.2; have h7 : xs.length * 300001 ≤ 10009 * 300001 := Nat.mul_le_mul_right _ HLN.out.1; omega))
              have HKZ := Lib.hid (HK10.out.trans HKR.out)
              obtain ⟨ay, cy, hvy, hcy, _, _⟩ := own_cap HOWN.out
              subst hvy
              clear HOWN hcy
              generalize joinLn xs = J at *
              go_wp2_with fail
              refine (HJ.out _ _ HSS.out).mono ?_
              rintro e w5 ⟨rfl, hk5⟩
              have HK5 := Lib.hid (HKZ.out.trans hk5)
              clear hk5
              go_wp2_with fail
              go_ret2
              exact ⟨by rw [HT.out]; rfl, HK5.out⟩
end Go.Proofs.YtofeonnmoakbaaaGreatDoor

/- Helpers for Parse of style: whole structs into and out of blocks, Atoi, CutPrefix, the slice behind nine lines, a pair appended. Conditions: lengths. -/
set_option linter.all false
namespace Go.Proofs.YtofeonnmoakbaaaGreatDoor
open Go.RowKit

theorem blk_cells {R : Nat} {ty : TypeId} : ∀ (vs : List Value) (o : Nat) (w : World) (cs : Array Value), Blk w R ty cs → ∃ cs' : Array Value, Blk (w.setCells R o vs) R ty cs' ∧ cs'.size = cs.size ∧ ∀ j, j < cs.size → cs'[j]? = if o ≤ j ∧ j < o + vs.length then vs[j - o]? else cs[j]?
  | [], o, w, cs, h => ⟨cs, h, rfl, fun j hj => by rw [if_neg (by simp only [List.length_nil]; omega)]⟩
  | v :: vs, o, w, cs, h => by
    obtain ⟨cs', h1, h2, h3⟩ := blk_cells vs (o + 1) _ _ (h.set o v)
    refine ⟨cs', h1, by rw [h2]; simp, fun j hj => ?_⟩
    have := h3 j (by simpa using hj)
    rw [this]
    by_cases q : j = o
    · subst q
      rw [if_neg (by omega), if_pos ⟨Nat.le_refl _, by simp only [List.length_cons]; omega⟩]
      simp [hj]
    · by_cases q2 : o ≤ j ∧ j < o + (v :: vs).length
      · rw [if_pos q2, if_pos (by simp only [List.length_cons] at q2; omega), show j - o = (j - (o + 1)) + 1 by omega, List.getElem?_cons_succ]
      · rw [if_neg q2, if_neg (by simp only [List.length_cons] at q2; omega), Array.getElem?_setIfInBounds_ne (fun e => q e.symm)]
theorem blk_whole {w : World} {R : Nat} {ty : TypeId} {old cells : Array Value} (h : Blk w R ty old) (hs : old.size = cells.size) : Blk (w.setCells R 0 cells.toList) R ty cells := by
  obtain ⟨cs', h1, h2, h3⟩ := blk_cells cells.toList 0 w old h
  have e : cs' = cells := by
    apply Array.ext_getElem?
    intro j
    by_cases hj : j < old.size
    · rw [h3 j hj, if_pos ⟨Nat.zero_le _, by rw [Nat.zero_add, Array.length_toList]; omega⟩, Nat.sub_zero, Array.getElem?_toList]
    · rw [Array.getElem?_eq_none (by omega), Array.getElem?_eq_none (by omega)]
  rwa [e] at h1
theorem only_cells {R : Nat} : ∀ (vs : List Value) (o : Nat) (w : World), Only (fun i => i = R) w (w.setCells R o vs)
  | [], _, w => Only.of_kept (Kept.refl w)
  | v :: vs, o, w => (Only.setCell R o v).trans ((only_cells vs (o + 1) _).mono (fun _ _ q => q))
/-- A whole struct goes into a block that is known whole. -/
theorem wpList_store_blk {P : Program} {ops : Array Oper} {rest : List Oper} {op : Oper} {a : Act} {w : World} {Q : Exit → Act → World → Prop} (hgd : op.guard = none) (ty : TypeId) (x y : Operand) (ho : op.op = .store ty x y)
    (R : Nat) (old cells : Array Value) (hx : a.eval x = .pointer (some ⟨R, 0, none⟩)) (hy : a.eval y = .agg cells) (hb : Blk w R ty old) (hs : old.size = cells.size)
    (hi : (P.info? ty).map (·.size) = some cells.size) (h1 : cells.all (·.oneCell') = true)
    (h : ∀ w', Blk w' R ty cells → Only (fun i => i = R) w w' → wpList P ops Q rest (a.put op.dst undef) w') : wpList P ops Q (op :: rest) a w := by
  refine wpList_store_mid hgd ty x y ho R 0 cells hx hy (fun j hj => ⟨?_, ?_⟩) hi h1 (h _ (blk_whole hb hs) (only_cells _ _ _))
  · rw [Nat.zero_add, hb.cell j (old[j]'(by omega)) (by rw [Array.getElem?_eq_getElem])]; rfl
  · rw [Nat.zero_add]; exact hb.free j
/-- A whole struct comes out of a block that is known whole. -/
theorem wpList_load_blk {P : Program} {ops : Array Oper} {rest : List Oper} {op : Oper} {a : Act} {w : World} {Q : Exit → Act → World → Prop} (hgd : op.guard = none) (ty : TypeId) (x : Operand) (ho : op.op = .load ty x)
    (R : Nat) (cells : Array Value) (hx : a.eval x = .pointer (some ⟨R, 0, none⟩)) (hb : Blk w R ty cells) (d : TypeDesc) (hu : P.underlying ty = some d) (hd : d.isRow = true)
    (hi : (P.info? ty).map (·.size) = some cells.size)
    (h : wpList P ops Q rest (a.put op.dst (.agg cells)) w) : wpList P ops Q (op :: rest) a w := by
  refine wpList_load_mid hgd ty x ho R 0 hx cells.toList d (fun j v hv => ?_) hu hd (by rw [hi, Array.length_toList]) (by rw [Array.toArray_toList]; exact h)
  rw [Nat.zero_add]
  exact hb.cell j v (by rw [← Array.getElem?_toList]; exact hv)
theorem Tryz.sizeSty : (Tryz.prog.info? 24).map (fun x => x.size) = some 10 := by kernel_rfl
theorem sty_one (vE : Value) (hE : vE.oneCell' = true) (y : StyT) : (styCells vE y).all (·.oneCell') = true := by
  unfold styCells
  simp only [List.all_toArray, List.all_cons, List.all_nil, hE]; rfl
theorem sty_cells {w : World} {R : Nat} {vE : Value} {y : StyT} (h : Blk w R 24 (styCells vE y)) :
    (w.cell? ⟨R, 0, none⟩ = some (.string (bs y.name)) ∧ w.cell? ⟨R, 1, none⟩ = some (.bool y.numeric) ∧ w.cell? ⟨R, 2, none⟩ = some (.string (bs y.sort)) ∧ w.cell? ⟨R, 3, none⟩ = some (.string (bs y.cite)) ∧ w.cell? ⟨R, 4, none⟩ = some (.string (bs y.bare)) ∧ w.cell? ⟨R, 5, none⟩ = some (.string (bs y.between)) ∧ w.cell? ⟨R, 6, none⟩ = some (.string (bs y.begin_)) ∧ w.cell? ⟨R, 7, none⟩ = some (.string (bs y.end_)) ∧ w.cell? ⟨R, 8, none⟩ = some (.int .i64 y.most) ∧ w.cell? ⟨R, 9, none⟩ = some vE) ∧ R < w.heap.size :=
  ⟨⟨h.cell 0 _ rfl, h.cell 1 _ rfl, h.cell 2 _ rfl, h.cell 3 _ rfl, h.cell 4 _ rfl, h.cell 5 _ rfl, h.cell 6 _ rfl, h.cell 7 _ rfl, h.cell 8 _ rfl, h.cell 9 _ rfl⟩, h.lt⟩
theorem atoi_dec {v : Bs} (h : decB v = true) : Lib.atoi v = some (dcN v : Int) := by
  obtain ⟨_, h1, h2, h4⟩ := decB_back h
  have hf : ∀ (l : Bs) (n : Nat), l.all dgtB = true → Lib.decFrom n l = some (l.foldl (fun n b => 10 * n + (b.toNat - 48)) n) := by
    intro l
    induction l with
    | nil => intro n _; rfl
    | cons b l ih =>
      intro n hl
      rw [List.all_cons, Bool.and_eq_true] at hl
      have hb := dig_cases hl.1
      have e : Lib.digitVal b = some (b.toNat - 48) := by unfold Lib.digitVal; rw [if_pos hb]
      rw [Lib.decFrom, e]
      simp only
      rw [ih _ hl.2, List.foldl_cons, Nat.mul_comm n 10]
  cases v with
  | nil => simp at h1
  | cons b r =>
    have hb := dig_cases (b := b) (by rw [List.all_cons, Bool.and_eq_true] at h4; exact h4.1)
    have b1 : (b == 45) = false := by
      rw [beq_eq_false_iff_ne]; rintro rfl
      have : (45 : UInt8).toNat = 45 := rfl
      omega
    have b2 : (b == 43) = false := by
      rw [beq_eq_false_iff_ne]; rintro rfl
      have : (43 : UInt8).toNat = 43 := rfl
      omega
    unfold Lib.atoi
    simp only [b1, b2, Bool.false_eq_true, if_false]
    unfold Lib.decNat
    rw [hf _ 0 h4]
    rfl
theorem bytesW_kept (w : World) (e : TypeId) (s : ByteArray) : Kept w (Lib.bytesWorld w e s) :=
  ⟨rfl, rfl, rfl, by rw [Lib.bytesWorld_size]; omega, fun k hk => Lib.bytesWorld_at_old w e s k hk⟩
theorem atoi_any (v : Bs) (w : World) (h : decB v = true) : Calls Tryz.prog 34 #[.string (bs v)] w fun e w' => e = .returned (.tuple #[.int .i64 (dcN v), .nilIface]) ∧ Kept w w' := by
  obtain ⟨_, h1, h2, _⟩ := decB_back h
  refine (Tryz.strconv_Atoi (bs v) (dcN v) (by simp; omega) (atoi_dec h) w).mono ?_
  rintro e w' ⟨rfl, t, rfl⟩
  exact ⟨rfl, bytesW_kept _ _ _⟩
theorem cutp_none {h l : Bs} (w : World) (q : cutP h l = none) : Calls Tryz.prog 32 #[.string (bs l), .string (bs h)] w fun e w' => e = .returned (.tuple #[.string (bs l), .bool false]) ∧ w = w' := by
  refine (Tryz.strings_CutPrefix (bs l) (bs h) w).mono ?_
  rintro e w' ⟨rfl, rfl⟩
  refine ⟨?_, rfl⟩
  simp only [bs_data, mk_bs]
  have e : Lib.hasPrefix l h = false := by
    unfold cutP at q
    split at q
    · cases q
    · rename_i hp
      unfold Lib.hasPrefix; rwa [Bool.not_eq_true] at hp
  have e2 : Lib.trimPrefix l h = l := by unfold Lib.trimPrefix; rw [e]; rfl
  rw [e, e2]
theorem cutp_some {h l v : Bs} (w : World) (q : cutP h l = some v) : Calls Tryz.prog 32 #[.string (bs l), .string (bs h)] w fun e w' => e = .returned (.tuple #[.string (bs v), .bool true]) ∧ w = w' := by
  refine (Tryz.strings_CutPrefix (bs l) (bs h) w).mono ?_
  rintro e w' ⟨rfl, rfl⟩
  refine ⟨?_, rfl⟩
  simp only [bs_data, mk_bs]
  have e : Lib.hasPrefix l h = true := by
    unfold cutP at q
    split at q
    · rename_i hp; exact hp
    · cases q
  have e2 : Lib.trimPrefix l h = v := by unfold Lib.trimPrefix; rw [e, (cutP_len q).1]; rfl
  rw [e, e2]
theorem slice9 {w : World} {v : Value} {ls : List Bs} (h : Strs w v ls) (h9 : 9 ≤ ls.length) : ∃ a c, (∀ w', (Instr.slice 51 v (some (.int .i64 9)) none none).run Tryz.prog w' = .ok (.slice a (ls.drop 9).length c) w') ∧ Strs w (.slice a (ls.drop 9).length c) (ls.drop 9) := by
  obtain ⟨a, c, rfl, hc, h3⟩ := h
  refine ⟨if c = 9 then a else a.map (·.add (9 * 1)), c - 9, fun w' => ?_, ?_⟩
  · rw [run_slice_l w' 51 a ls.length c (by kernel_rfl) .i64 9 (by omega) (by omega)]
    have hs : (sizeOf (Tryz.prog.elem 51)).run Tryz.prog w' = .ok 1 w' := by kernel_rfl
    rw [hs]
    simp [Result.andThen, sliced]
  · refine ⟨_, _, rfl, by rw [List.length_drop]; omega, fun q => ?_⟩
    rw [List.length_drop] at q
    obtain ⟨g, o, rfl, hg, hcell⟩ := h3 (by omega)
    refine ⟨g, o + 9, ?_, hg, fun j x hx => ?_⟩
    · rw [if_neg (by omega)]
      simp [addr_at]
    · have := hcell (9 + j) x (by rw [List.getElem?_drop] at hx; exact hx)
      rwa [Nat.add_assoc]
set_option maxRecDepth 100000 in
/-- A pair that lies in a block of its own, appended in a plain region. -/
theorem wpList_append_pr (w : World) {ops : Array Oper} {rest : List Oper} {o : Oper} {a : Act} {Q : Exit → Act → World → Prop} (hgd : o.guard = none) (s x : Operand)
    (ho : o.op = .call { callee := .builtin .append, args := #[s, x], argTypes := #[22, 22] })
    (base : Nat) (v : Value) (ps : List Pr) (hs : a.eval s = v) (hown : w.ownsRow base 49 2 v ps.length (pairC ps)) (q : Pr) (g : Nat) (hx : a.eval x = .slice (some ⟨g, 0, none⟩) 1 1)
    (hb : Blk w g 49 #[.string (bs q.1), .string (bs q.2)]) (hl : ps.length ≤ 1000000) (hbase : base ≤ w.heap.size)
    (h : ∀ v' w', w'.ownsRow base 49 2 v' (ps ++ [q]).length (pairC (ps ++ [q])) → w.grownBy w' v.ownBlock → wpList Tryz.prog ops Q rest (a.put o.dst v') w') :
    wpList Tryz.prog ops Q (o :: rest) a w := by
  obtain ⟨i0, hi, hz0, hz1, hz2⟩ := info_parts Tryz.infoPair
  refine wpList_append_lies w hgd s x 22 ho base 49 i0 (.agg #[.string ⟨#[]⟩, .string ⟨#[]⟩]) 2 32 Tryz.underlying22 hi hz0 hz1 hz2 rfl (by decide) v ps.length (pairC ps) hs hown ⟨g, 0, none⟩ 1 1 [.string (bs q.1), .string (bs q.2)] hx rfl (fun j u hu => ?_) (fun u hu => ?_) (by decide) (by unfold maxLen; omega) (by omega) hbase w.heap.size rfl (fun g' cap w' h1 h2 _ _ => h _ w' ?_ h2)
  · rw [addr_at, Nat.zero_add]
    match j with
    | 0 => cases hu; exact hb.cell 0 _ rfl
    | 1 => cases hu; exact hb.cell 1 _ rfl
    | j + 2 => simp at hu
  · simp at hu
    rcases hu with rfl | rfl <;> rfl
  · rw [pairC_snoc, List.length_append]; exact h1
/-- The nine values, as far as they are read. -/
def valsK (ls : List Bs) (k : Nat) : List Bs := (List.range 9).map fun j => if j < k then hdV ls j else []
theorem valsK_set (ls : List Bs) (k : Nat) (hk : k < 9) : (strCells (valsK ls k)).toArray.setIfInBounds k (.string (bs (hdV ls k))) = (strCells (valsK ls (k + 1))).toArray := by
  apply Array.ext_getElem?
  intro j
  have hl : ∀ k, (valsK ls k).length = 9 := fun k => by simp [valsK]
  by_cases hj : j < 9
  · by_cases q : k = j
    · subst q
      rw [Array.getElem?_setIfInBounds_self_of_lt (by simp [strCells_length, hl]; omega)]
      rw [List.getElem?_toArray]
      have : (valsK ls (k + 1))[k]? = some (hdV ls k) := by
        unfold valsK
        rw [List.getElem?_map, List.getElem?_range hj]
        simp
      rw [strCells_at _ _ _ this]
    · rw [Array.getElem?_setIfInBounds_ne q, List.getElem?_toArray, List.getElem?_toArray]
      unfold strCells valsK
      rw [List.getElem?_map, List.getElem?_map, List.getElem?_map, List.getElem?_map, List.getElem?_range hj]
      simp only [Option.map_some]
      by_cases q2 : j < k
      · rw [if_pos q2, if_pos (by omega)]
      · rw [if_neg q2, if_neg (by omega)]
  · rw [Array.getElem?_eq_none (by simp [strCells_length, hl]; omega), Array.getElem?_eq_none (by simp [strCells_length, hl]; omega)]
theorem valsK_at (ls : List Bs) (k j : Nat) (hj : j < 9) : (strCells (valsK ls k)).toArray[j]? = some (.string (bs (if j < k then hdV ls j else []))) := by
  rw [List.getElem?_toArray]
  refine strCells_at _ _ _ ?_
  unfold valsK
  rw [List.getElem?_map, List.getElem?_range hj]; rfl
end Go.Proofs.YtofeonnmoakbaaaGreatDoor

/- Fill of style. Conditions: lengths. -/
set_option linter.all false
namespace Go.Proofs.YtofeonnmoakbaaaGreatDoor
open Go.RowKit

theorem bld_kept {T e : TypeId} {B b : Nat} {cs : List Value} {w w' : World} (h : Lib.IsBuilder T e B b cs w) (k : Kept w w') : Lib.IsBuilder T e B b cs w' := by
  have hp : ∀ p, Lib.BuilderAt T e B b p cs w → Lib.BuilderAt T e B b p cs w' := fun p h => by
    obtain ⟨h1, v, h2, h3, h4⟩ := h
    have hlt : b < w.heap.size := by
      rcases Nat.lt_or_ge b w.heap.size with q | q
      · exact q
      · rw [Array.getElem?_eq_none q] at h2; cases h2
    exact ⟨h1, v, by rw [k.block b hlt]; exact h2, own_kept h3 k, h4⟩
  exact h.imp (hp _) (hp _)
theorem itoa_len (n : Int) (h0 : -9223372036854775808 ≤ n) (h1 : n ≤ 9223372036854775807) : (Lib.itoa n).length ≤ 21 := by
  have hd : ∀ (k u : Nat), u < 10 ^ k → 1 ≤ k → (Lib.decDigits u).length ≤ k := by
    intro k
    induction k with
    | zero => intro u _ h; omega
    | succ k ih =>
      intro u hu _
      by_cases q : u < 10
      · rw [Lib.decDigits_one q]; simp
      · rw [decDigits_ten _ q, List.length_append, List.length_singleton]
        have hk : 1 ≤ k := by
          rcases Nat.eq_zero_or_pos k with r | r
          · subst r; simp at hu; omega
          · exact r
        have := ih (u / 10) (by rw [Nat.pow_succ] at hu; omega) hk
        omega
  have h20 : (10 : Nat) ^ 20 = 100000000000000000000 := by decide
  unfold Lib.itoa
  split
  · have := hd 20 n.natAbs (by omega) (by omega)
    simp only [List.length_cons]; omega
  · have := hd 20 n.toNat (by omega) (by omega)
    omega
theorem plistL_le (ps : List P4) (l : Bs) (most : Int) (full : Bool) (hN : ps.length ≤ 900) (hq : ∀ q ∈ ps, size4 q ≤ 10000) : (plistL ps l most full).length ≤ 20000000 := by
  have hn := names_le full ps hq
  have ha := andOf_len (langOf l)
  have ho := othersOf_len (langOf l)
  have hj : ∀ xs : List Bs, xs.length ≤ 900 → (∀ x ∈ xs, x.length ≤ 10004) → (Lib.join xs sepL).length ≤ 9005400 := fun xs h1 h2 => by
    have := join_sep_le 10004 xs h2
    have h3 : xs.length * (10004 + 2) ≤ 900 * (10004 + 2) := Nat.mul_le_mul_right _ h1
    omega
  unfold plistL
  split
  · have h1 := hj ((ps.take most.toNat).map (nameOf full)) (by rw [List.length_map, List.length_take]; omega) (fun x hx => by
      obtain ⟨q, hq', rfl⟩ := List.mem_map.1 hx
      exact hn _ (List.mem_map.2 ⟨q, List.mem_of_mem_take hq', rfl⟩))
    simp only [List.length_append, List.length_cons, List.length_nil]
    omega
  · unfold listL
    split
    · have := hj (ps.map (nameOf full)) (by rw [List.length_map]; omega) hn
      omega
    · have h1 := hj (ps.map (nameOf full)).dropLast (by rw [List.length_dropLast, List.length_map]; omega) (fun x hx => hn x ((List.dropLast_sublist _).subset hx))
      have h2 : ((ps.map (nameOf full)).getLastD []).length ≤ 10004 := by
        cases hx : (ps.map (nameOf full)).getLast? with
        | none => rw [List.getLastD_eq_getLast?, hx]; simp
        | some x =>
          rw [List.getLastD_eq_getLast?, hx]
          exact hn x (List.mem_of_getLast? hx)
      simp only [List.length_append, List.length_cons, List.length_nil]
      omega
/-- Bounds of what a template is filled with, its texts too. -/
def FitV (c : FilT) : Prop := FitF c ∧ c.key.length ≤ 1000000 ∧ c.type.length ≤ 1000000 ∧ c.suffix.length ≤ 1000000 ∧ ∀ p ∈ c.fields, p.2.length ≤ 1000000
theorem valS_look (c : FilT) (k : Bs) : valS c k = (lookB (specL c) k).getD ((fieldL c.fields k).getD []) := by
  unfold valS lookB
  cases (specL c).find? fun e => e.1 == k <;> rfl
theorem field_len {ps : List Pr} {n : Nat} (h : ∀ p ∈ ps, p.2.length ≤ n) (k : Bs) : ((fieldL ps k).getD []).length ≤ n := by
  unfold fieldL
  cases hx : ps.find? fun q => q.1 == k with
  | none => simp
  | some p => simpa using h p (List.mem_of_find?_eq_some hx)
theorem val_len (c : FilT) (h : FitV c) (k : Bs) : (valS c k).length ≤ 20000000 := by
  obtain ⟨⟨f1, f2, f3, f4, f5, f6, f7, f8⟩, g1, g2, g3, g4⟩ := h
  rw [valS_look]
  cases hx : lookB (specL c) k with
  | none =>
    have := field_len g4 k
    simp only [Option.getD_none]; omega
  | some x =>
    simp only [Option.getD_some]
    unfold lookB at hx
    rw [Option.map_eq_some_iff] at hx
    obtain ⟨e, he, rfl⟩ := hx
    have h2 := List.mem_of_find?_eq_some he
    unfold specL at h2
    simp only [List.mem_cons, List.mem_nil_iff, or_false] at h2
    have hy := yearL_range ((fieldL c.fields [121, 101, 97, 114]).getD [])
    rcases h2 with rfl | rfl | rfl | rfl | rfl | rfl | rfl | rfl | rfl
    · exact plistL_le _ _ _ _ f1 f3
    · exact plistL_le _ _ _ _ f2 f4
    · exact plistL_le _ _ _ _ f1 f3
    · exact plistL_le _ _ _ _ f2 f4
    · simp only
      unfold yearS
      split
      · simp
      · have := itoa_len (yearN c) (by unfold yearN; omega) (by unfold yearN; omega)
        omega
    · simp only; omega
    · simp only
      unfold numS
      split
      · simp
      · have := itoa_len c.number (by omega) (by omega)
        omega
    · simp only; omega
    · simp only; omega
theorem Tryz.zeroStr (w : World) : (zeroValue 9).run Tryz.prog w = .ok (.string (bs [])) w := by kernel_rfl
theorem Tryz.sizeSrc : (Tryz.prog.info? 36).map (fun x => x.size) = some 5 := by kernel_rfl
set_option maxRecDepth 100000 in
set_option maxHeartbeats 3200000 in
theorem clo_val (c : FilT) (vA vE vF : Value) (k : Bs) (X S m : Nat) (es : List (Bs × Value)) (w : World) (hX : w.cell? ⟨X, 0, none⟩ = some (.map (some m))) (hm : MapT w m es) (hes : ∀ k, getT es k = (lookB (specL c) k).map (fun x => .string (bs x)))
    (hS : Blk w S 36 #[.string (bs c.key), .string (bs c.type), vA, vE, vF]) (hF : Prs w vF c.fields) (hn : c.fields.length ≤ 1100000) :
    Calls Tryz.prog 42 #[.string (bs k), .pointer (some ⟨X, 0, none⟩), .pointer (some ⟨S, 0, none⟩)] w fun e w' => e = .returned (.string (bs (valS c k))) ∧ Kept w w' := by
  have HV := Lib.hid (valS_look c k)
  have lk := lookT_ok (P := Tryz.prog) Tryz.underlying72 Tryz.underlying9 w m es k (.string (bs [])) (Tryz.zeroStr _) hm
  rw [hes k] at lk
  have hXz := World.block_lt_of_cell? w (a := ⟨X, 0, none⟩) hX
  simp only at hXz
  have t0 : w.cell? ⟨S, 0, none⟩ = some (.string (bs c.key)) := hS.cell 0 _ rfl
  have t1 : w.cell? ⟨S, 1, none⟩ = some (.string (bs c.type)) := hS.cell 1 _ rfl
  have t2 : w.cell? ⟨S, 2, none⟩ = some vA := hS.cell 2 _ rfl
  have t3 : w.cell? ⟨S, 3, none⟩ = some vE := hS.cell 3 _ rfl
  have t4 : w.cell? ⟨S, 4, none⟩ = some vF := hS.cell 4 _ rfl
  have z0 := hS.lt
  have HFD := Lib.hid (field_any c.key c.type vA vE vF c.fields k w hF hn)
  unfold FieldPost at HFD
  clear hm hes hS hF
  cases hx : lookB (specL c) k with
  | some x =>
    rw [hx] at HV lk
    simp only [Option.map_some, Option.getD_some, Option.isSome_some] at HV lk
    rw [HV.out]
    clear hx
    go_enter Tryz.func42, Tryz.ntmps42
    go_wp2_with fail
    go_ret
    exact ⟨rfl, Kept.refl _⟩
  | none =>
    rw [hx] at HV lk
    simp only [Option.map_none, Option.getD_none, Option.isSome_none] at HV lk
    rw [HV.out]
    clear hx
    generalize (fieldL c.fields k).getD [] = r at *
    generalize (fieldL c.fields k).isSome = b at *
    go_enter Tryz.func42, Tryz.ntmps42
    go_wp2_with fail
    refine HFD.out.mono ?_
    rintro e w1 ⟨rfl, hk1⟩
    have HK := Lib.hid hk1
    clear hk1
    go_wp2_with fail
    go_ret
    exact ⟨rfl, HK.out⟩
def fillS (c : FilT) (t : Bs) : Bs := fillB (splL t) (valS c)
theorem dropG_next (ps : List Pc) (val : Bs → Bs) (k : Nat) (hk : k < ps.length) : dropG (ps.take (k + 1)) val = dropG (ps.take k) val ++ (if (ps[k].fld && (!(ps[k].grp == 0) && (val ps[k].txt == []))) = true then [(ps[k].grp : Int)] else []) := by
  rw [List.take_succ_eq_append_getElem hk]
  unfold dropG
  rw [List.filter_append, List.map_append]
  by_cases h : (ps[k].fld && (!(ps[k].grp == 0) && (val ps[k].txt == []))) = true
  · rw [if_pos h, List.filter_cons, if_pos h]; rfl
  · rw [if_neg h, List.filter_cons, if_neg h]; rfl
theorem fill_next (ps : List Pc) (f : Pc → Bs) (k : Nat) (hk : k < ps.length) : (ps.take (k + 1)).flatMap f = (ps.take k).flatMap f ++ f ps[k] := by
  rw [List.take_succ_eq_append_getElem hk, List.flatMap_append]
  simp
theorem fill_len (ps : List Pc) (f : Pc → Bs) (n : Nat) (h : ∀ p ∈ ps, (f p).length ≤ n) : (ps.flatMap f).length ≤ ps.length * n := by
  induction ps with
  | nil => simp
  | cons p ps ih =>
    rw [List.flatMap_cons, List.length_append, List.length_cons, Nat.succ_mul]
    have h1 := h p (List.mem_cons_self ..)
    have h2 := ih (fun q hq => h q (List.mem_cons_of_mem _ hq))
    omega
set_option maxRecDepth 100000 in
set_option maxHeartbeats 12800000 in
theorem sfill_any (c : FilT) (t : Bs) (vA vE vF vY : Value) (y : StyT) (w : World) (hy : y.most = c.most) (hYo : vY.oneCell' = true) (hg : Gnd w) (hT : Lib.TabIs Tryz.prog w "internal/strconv.uint64pow10" .u64 Lib.pow10Tab) (ht : t.length ≤ 100000) (hs : FitV c)
    (hA : Perss w vA c.author) (hE : Perss w vE c.editor) (hF : Prs w vF c.fields) :
    Calls Tryz.prog 17 #[.string (bs t), srcV c.key c.type vA vE vF, styV vY y, .string (bs c.lang), .string (bs c.suffix), .int .i64 c.number] w fun e w' => e = .returned (.tuple #[.string (bs (fillS c t)), .int .i64 (splE t)]) ∧ Kept w w' := by
  have HG := Lib.hid hg
  have HSP := Lib.hid (fun w h => ssplit_any t w h ht)
  unfold SplitP at HSP
  have HT := Lib.hid hT
  have HA := Lib.hid hA
  have HE := Lib.hid hE
  have HF := Lib.hid hF
  have HSV := Lib.hid (fun w h1 h2 h3 h4 => svals_any c vA vE vF vY y w hy h1 h2 h3 h4 hs.1)
  unfold ValsP at HSV
  have HVL := Lib.hid (fun k => val_len c hs k)
  have HCLO := Lib.hid (fun k X S m es w h1 h2 h3 h4 h5 => clo_val c vA vE vF k X S m es w h1 h2 h3 h4 h5 hs.1.2.2.2.2.2.1)
  have hln := splL_len t
  have HPL : Hid (∀ p ∈ splL t, p.txt.length ≤ 100000) := fun p hp => by have := (splL_pcs p hp).2.1; omega
  have HFS : Hid (fillS c t = fillB (splL t) (valS c)) := rfl
  have HNIL : Hid (splE t ≠ 0 → fillS c t = []) := fun h => by
    have : splL t = [] := by unfold splL; rw [if_neg h]
    unfold fillS; rw [this]; rfl
  clear hg hT hA hE hF hs hy
  generalize fillS c t = T at *
  generalize splE t = E at *
  generalize splL t = ps at *
  generalize specL c = sp at *
  generalize valS c = val at *
  unfold styV styCells srcV at HSV ⊢
  have HS0 := Lib.hid (Blk.new w 36 #[.string (bs c.key), .string (bs c.type), vA, vE, vF])
  have HK0 := Lib.hid (kept_alloc w (.cells #[.string (bs c.key), .string (bs c.type), vA, vE, vF] 36))
  have HS1 := Lib.hid (Blk.new (w.alloc (.cells #[.string (bs c.key), .string (bs c.type), vA, vE, vF] 36)) 24 (styCells vY y))
  have HK1 := Lib.hid (kept_alloc (w.alloc (.cells #[.string (bs c.key), .string (bs c.type), vA, vE, vF] 36)) (.cells (styCells vY y) 24))
  unfold styCells at HK1
  have e1 : (w.alloc (.cells #[.string (bs c.key), .string (bs c.type), vA, vE, vF] 36)).heap.size = w.heap.size + 1 := by simp
  rw [e1] at HS1
  unfold styCells at HS1
  go_enter Tryz.func17, Tryz.ntmps17
  go_wp2_with fail
  have HSA := Lib.hid (HS0.out.kept HK1.out)
  have HKW := Lib.hid (HK0.out.trans HK1.out)
  clear HS0 HK0 HK1 e1
  generalize World.alloc (World.alloc _ _) _ = w0 at HS1 HSA HKW ⊢
  obtain ⟨S, HSS⟩ : ∃ B, Hid (w.heap.size = B) := ⟨_, rfl⟩
  rw [HSS.out] at HS1 HSA ⊢
  refine (HSP.out _ (HG.out.kept HKW.out)).mono ?_
  rintro e w1 ⟨v, rfl, hp, hk1⟩
  have HP1 := Lib.hid hp
  have HKW1 := Lib.hid (HKW.out.trans hk1)
  have HSA1 := Lib.hid (HSA.out.kept hk1)
  have HSY1 := Lib.hid (HS1.out.kept hk1)
  obtain ⟨ap, cp, rfl, hcp⟩ := hp.form
  clear hp hk1 HSP HSA HS1 HKW
  by_cases hE0 : E = 0
  case neg =>
    have hE' : (E == 0) = false := by rw [beq_eq_false_iff_ne]; exact hE0
    have HNN := Lib.hid (HNIL.out hE0)
    clear hE0
    go_wp2_with fail
    go_ret2
    exact ⟨by rw [HNN.out]; rfl, HKW1.out⟩
  subst hE0
  have hone : (#[.string (bs y.name), .bool y.numeric, .string (bs y.sort), .string (bs y.cite), .string (bs y.bare), .string (bs y.between), .string (bs y.begin_), .string (bs y.end_), .int .i64 y.most, vY] : Array Value).size = 10 := rfl
  go_wp2_with (first
    | (refine wpList_load_blk (by rfl) 36 (.tmp 7) (by rfl) S _ (by rfl) HSA1.out _ Tryz.underlying36 rfl Tryz.sizeSrc ?_)
    | (refine wpList_load_blk (by rfl) 24 (.tmp 8) (by rfl) (S + 1) _ (by rfl) HSY1.out _ Tryz.underlying24 rfl Tryz.sizeSty ?_))
  refine (HSV.out _ (HA.out.kept HKW1.out) (HE.out.kept HKW1.out) (HF.out.kept HKW1.out) (tab_kept HT.out HKW1.out)).mono ?_
  rintro e w2 ⟨m, es, rfl, hmz, hmap, hget, hk2⟩
  have HKW2 := Lib.hid (HKW1.out.trans hk2)
  have HSA2 := Lib.hid (HSA1.out.kept hk2)
  have HP2 := Lib.hid (HP1.out.kept hk2)
  have HMT2 := Lib.hid hmap
  have HGET := Lib.hid hget
  clear hmz hmap hget hk2 HSV HSA1 HSY1 HP1 hone
  have mk := fun w => run_makeMap (P := Tryz.prog) 76 w
  go_wp2_with fail
  have HCX := Lib.hid (Blk.new w2 72 #[.map (some m)])
  have HKX := Lib.hid (kept_alloc w2 (.cells #[.map (some m)] 72))
  have HMX := Lib.hid (MapV.made (w2.alloc (.cells #[.map (some m)] 72)))
  have HKX2 := Lib.hid (kept_alloc (w2.alloc (.cells #[.map (some m)] 72)) (.map #[] 0))
  have e1 : (w2.alloc (.cells #[.map (some m)] 72)).heap.size = w2.heap.size + 1 := by simp
  rw [e1] at HMX
  have hDz : (w2.alloc (.cells #[.map (some m)] 72)).heap.size ≤ w2.heap.size + 1 := by rw [e1]; exact Nat.le_refl _
  clear e1
  obtain ⟨X, HXX⟩ : ∃ X, Hid (w2.heap.size = X) := ⟨_, rfl⟩
  rw [HXX.out] at HCX HMX hDz ⊢
  have HCL : Hid (∀ k w', Kept (w2.alloc (.cells #[.map (some m)] 72)) w' → Calls Tryz.prog 42 #[.string (bs k), .pointer (some ⟨X, 0, none⟩), .pointer (some ⟨S, 0, none⟩)] w' fun e w'' => e = .returned (.string (bs (val k))) ∧ Kept w' w'') := fun k w' hk => HCLO.out k X S m es w' ((HCX.out.kept hk).cell 0 _ rfl) (HMT2.out.kept (HKX.out.trans hk)) HGET.out (HSA2.out.kept (HKX.out.trans hk)) (HF.out.kept (HKW2.out.trans (HKX.out.trans hk)))
  have HPX := Lib.hid (HP2.out.kept HKX.out)
  have HKWX := Lib.hid (HKW2.out.trans HKX.out)
  generalize World.alloc w2 _ = wX at *
  have HTK := Lib.hid (dropG_next ps val)
  have HO0 : Hid (dropG (ps.take 0) val = []) := rfl
  have HON : Hid (dropG (ps.take ps.length) val = dropG ps val) := by show _ = _; rw [List.take_of_length_le (Nat.le_refl _)]
  clear HCLO HMT2 HGET HSA2 HKW2 HKX HP2 HT HA HE HF HCX mk HXX
  obtain ⟨D, HDD⟩ : ∃ D, Hid (X + 1 = D) := ⟨_, rfl⟩
  rw [HDD.out] at HMX hDz ⊢
  (try simp only [mk_bs])
  go_loopw [42] (fun i wr => ∃ k : Nat, k ≤ ps.length ∧ i = .int .i64 k ∧ Hid (MapV wr D (setV (dropG (ps.take k) val))) ∧ Hid (Kept wX wr)) (fun i _ => ps.length - (intOf i).toNat)
  case atStart => exact ⟨0, Nat.zero_le _, rfl, HMX.out, HKX2.out⟩
  case round =>
    clear HMX HKX2
    obtain ⟨k, hk, rfl, HM, HKR⟩ := hrel
    by_cases hlt : k < ps.length
    · have hx := List.getElem?_eq_getElem hlt
      obtain ⟨g, o, rfl, hg, d0, d1, d2⟩ := (HPX.out.kept HKR.out).cell_of k _ hx
      have HST := Lib.hid (HTK.out k hlt)
      generalize ps[k] = p at *
      obtain ⟨x, f, gr⟩ := p
      simp only at d0 d1 d2 HST
      clear hx
      cases f with
      | false =>
        have HST2 : Hid (dropG (ps.take (k + 1)) val = dropG (ps.take k) val) := by show _ = _; rw [HST.out]; simp
        have HM2 := Lib.hid (HM.out.kept (kept_alloc wr (.cells #[.string (bs x), .bool false, .int .i64 gr] 78)))
        have HK2 := Lib.hid (HKR.out.trans (kept_alloc wr (.cells #[.string (bs x), .bool false, .int .i64 gr] 78)))
        rw [← HST2.out] at HM2
        clear HM HKR HST
        go_wp2_with fail
        go_roundw
        case rel => exact ⟨k + 1, by omega, by go_num, HM2.out, HK2.out⟩
        case measure => simp [intOf]; omega
      | true =>
        cases h3 : (gr == 0) with
        | true =>
          obtain rfl : gr = 0 := by simpa using h3
          have HST2 : Hid (dropG (ps.take (k + 1)) val = dropG (ps.take k) val) := by show _ = _; rw [HST.out]; simp
          have HM2 := Lib.hid (HM.out.kept (kept_alloc wr (.cells #[.string (bs x), .bool true, .int .i64 (0 : Nat)] 78)))
          have HK2 := Lib.hid (HKR.out.trans (kept_alloc wr (.cells #[.string (bs x), .bool true, .int .i64 (0 : Nat)] 78)))
          rw [← HST2.out] at HM2
          clear HM HKR HST h3
          go_wp2_with fail
          go_roundw
          case rel => exact ⟨k + 1, by omega, by go_num, HM2.out, HK2.out⟩
          case measure => simp [intOf]; omega
        | false =>
          have h3' : ((gr : Int) == 0) = false := by
            rw [beq_eq_false_iff_ne] at h3 ⊢; omega
          have h3n : ((gr : Int) != 0) = true := by rw [bne, h3']; rfl
          have h3g : 0 < gr := by rw [beq_eq_false_iff_ne] at h3; omega
          rw [h3] at HST
          have HMA := Lib.hid (HM.out.kept (kept_alloc wr (.cells #[.string (bs x), .bool true, .int .i64 gr] 78)))
          have HKA := Lib.hid (HKR.out.trans (kept_alloc wr (.cells #[.string (bs x), .bool true, .int .i64 gr] 78)))
          have HBA := Lib.hid (Blk.new wr 78 #[.string (bs x), .bool true, .int .i64 gr])
          have HCX := Lib.hid (fun w' h => HCL.out x w' h)
          clear HM HKR
          cases hv : (val x == ([] : Bs)) with
          | false =>
            have HST2 : Hid (dropG (ps.take (k + 1)) val = dropG (ps.take k) val) := by show _ = _; rw [HST.out, hv]; simp
            rw [← HST2.out] at HMA
            generalize val x = vx at *
            go_wp2_with fail
            refine (HCX.out _ HKA.out).mono ?_
            rintro e w5 ⟨rfl, hk5⟩
            have HM5 := Lib.hid (HMA.out.kept hk5)
            have HK5 := Lib.hid (HKA.out.trans hk5)
            clear hk5 HMA HKA
            go_wp2_with fail
            go_roundw
            case rel => exact ⟨k + 1, by omega, by go_num, HM5.out, HK5.out⟩
            case measure => simp [intOf]; omega
          | true =>
            have HST2 : Hid (dropG (ps.take (k + 1)) val = dropG (ps.take k) val ++ [(gr : Int)]) := by show _ = _; rw [HST.out, hv]; rfl
            have UP : Hid (∀ w', MapV w' D (setV (dropG (ps.take k) val)) → (Instr.mapUpdate 76 (.map (some D)) (.int .i64 gr) (.bool true)).run Tryz.prog w' = .ok () (putV w' D (setV (dropG (ps.take (k + 1)) val)))) := fun w' hm => by
              rw [HST2.out]
              cases hgv : getV (setV (dropG (ps.take k) val)) (gr : Int) with
              | none =>
                rw [setV_snoc, hgv]
                exact insV (P := Tryz.prog) Tryz.underlying76 Tryz.underlying3 w' _ _ gr (.bool true) hm hgv
              | some u =>
                have hu : u = .bool true := by
                  have := setV_is (dropG (ps.take k) val) gr
                  rw [hgv] at this
                  split at this
                  · exact Option.some.inj this
                  · cases this
                subst hu
                rw [setV_snoc, hgv]
                exact againV (P := Tryz.prog) Tryz.underlying76 Tryz.underlying3 w' _ _ gr (.bool true) hm hgv
            generalize val x = vx at *
            go_wp2_with fail
            refine (HCX.out _ HKA.out).mono ?_
            rintro e w5 ⟨rfl, hk5⟩
            have HM5 := Lib.hid (HMA.out.kept hk5)
            have HK5 := Lib.hid (HKA.out.trans hk5)
            have c2 : w5.cell? ⟨wr.heap.size, 2, none⟩ = some (.int .i64 gr) := (HBA.out.kept hk5).cell 2 _ rfl
            have zc := (HBA.out.kept hk5).lt
            have up := UP.out _ HM5.out
            have HM6 := Lib.hid (putV_map w5 D (setV (dropG (ps.take (k + 1)) val)) HM5.out.lt)
            have HK6 := Lib.hid (only_kept HK5.out (putV_only w5 D (setV (dropG (ps.take (k + 1)) val))) hDz)
            clear hk5 HMA HKA
            go_wp2_with fail
            go_roundw
            case rel => exact ⟨k + 1, by omega, by go_num, HM6.out, HK6.out⟩
            case measure => simp [intOf]; omega
    · obtain rfl : k = ps.length := by omega
      rw [HON.out] at HM
      have HPC := Lib.hid (HPX.out.kept HKR.out)
      have HCC : Hid (∀ k w', Kept wr w' → Calls Tryz.prog 42 #[.string (bs k), .pointer (some ⟨X, 0, none⟩), .pointer (some ⟨S, 0, none⟩)] w' fun e w'' => e = .returned (.string (bs (val k))) ∧ Kept w' w'') := fun k w' hk => HCL.out k w' (HKR.out.trans hk)
      have HKC := Lib.hid (HKWX.out.trans HKR.out)
      clear HTK HO0 HON HCL HPX HKWX HKR hlt
      obtain ⟨DS, HDS⟩ : ∃ l, Hid (dropG ps val = l) := ⟨_, rfl⟩
      rw [HDS.out] at HM
      have HFT : Hid (T = (ps.take ps.length).flatMap (fillP val DS)) := by
        show _ = _
        rw [HFS.out, List.take_of_length_le (Nat.le_refl _)]
        unfold fillB
        rw [HDS.out]
      have HFN := Lib.hid (fill_next ps (fillP val DS))
      have HFL : Hid (∀ k, ((ps.take k).flatMap (fillP val DS)).length ≤ 2000000000000) := fun k => by
        have h1 := fill_len (ps.take k) (fillP val DS) 20000000 (fun p hp => by
          unfold fillP
          split
          · simp
          · split
            · exact HVL.out _
            · have := HPL.out p (List.mem_of_mem_take hp); omega)
        have h2 : (ps.take k).length ≤ 100000 := by rw [List.length_take]; omega
        omega
      have HMC := Lib.hid HM.out
      have hwz : w.heap.size ≤ wr.heap.size := HKC.out.size
      clear HM HFS HDS
      go_wp2_with fail
      (try simp only [mk_bs])
      obtain ⟨wC, rfl⟩ : ∃ wo : World, wo = wr := ⟨_, rfl⟩
      go_loopw [66] (fun i wr => ∃ k : Nat, k ≤ ps.length ∧ i = .int .i64 k ∧ Hid (Lib.IsBuilder 82 5 wC.heap.size wC.heap.size (Lib.byteCells ((ps.take k).flatMap (fillP val DS))) wr) ∧ Hid (Kept wC wr)) (fun i _ => ps.length - (intOf i).toNat)
      case atStart =>
        refine ⟨0, Nat.zero_le _, rfl, ?_, kept_alloc _ _⟩
        show Lib.IsBuilder _ _ _ _ _ _
        refine .inl ⟨Nat.le_refl _, .slice none 0 0, ?_, World.ownsRow_nil _ _ _ _, by simp [Value.ownBlock]⟩
        exact heap_alloc_new wC _
      case round =>
        obtain ⟨k, hk, rfl, HB, HKR⟩ := hrel
        by_cases hlt : k < ps.length
        · have hx := List.getElem?_eq_getElem hlt
          obtain ⟨g, o, rfl, hg, d0, d1, d2⟩ := (HPC.out.kept HKR.out).cell_of k _ hx
          have HST := Lib.hid (HFN.out k hlt)
          have HPT := Lib.hid (HPL.out _ (List.getElem_mem hlt))
          generalize ps[k] = p at *
          obtain ⟨x, f, gr⟩ := p
          simp only at d0 d1 d2 HST HPT
          have hfl := HFL.out k
          generalize (ps.take k).flatMap (fillP val DS) = O at *
          have HBA := Lib.hid (bld_kept HB.out (kept_alloc wr (.cells #[.string (bs x), .bool f, .int .i64 gr] 78)))
          have HKA := Lib.hid (HKR.out.trans (kept_alloc wr (.cells #[.string (bs x), .bool f, .int .i64 gr] 78)))
          have HQA := Lib.hid (Blk.new wr 78 #[.string (bs x), .bool f, .int .i64 gr])
          have lk := lookV (P := Tryz.prog) Tryz.underlying76 Tryz.underlying3 (wr.alloc (.cells #[.string (bs x), .bool f, .int .i64 gr] 78)) D (setV DS) (gr : Int) (.bool false) (Tryz.zeroBool _) (HMC.out.kept HKA.out)
          rw [setV_has] at lk
          have HFP : fillP val DS ⟨x, f, gr⟩ = if DS.contains (gr : Int) = true then [] else if f = true then val x else x := rfl
          rw [HFP] at HST
          clear HFP
          clear hx HB HKR
          cases hct : DS.contains (gr : Int) with
          | true =>
            rw [hct] at HST lk
            simp only [if_true, List.append_nil] at HST
            clear hct
            rw [← HST.out] at HBA
            go_wp2_with fail
            go_roundw
            case rel => exact ⟨k + 1, by omega, by go_num, HBA.out, HKA.out⟩
            case measure => simp [intOf]; omega
          | false =>
            rw [hct] at HST lk
            simp only [Bool.false_eq_true, if_false] at HST
            clear hct
            cases f with
            | false =>
              simp only [Bool.false_eq_true, if_false] at HST
              go_wp2_with fail
              refine (bld_string wC.heap.size wC.heap.size _ x _ HBA.out (by rw [Lib.byteCells_length]; have := HPT.out; omega) HKA.out.size).mono ?_
              rintro e w5 ⟨rfl, hb5, hbe5⟩
              have HB5 : Hid (Lib.IsBuilder 82 5 wC.heap.size wC.heap.size (Lib.byteCells ((ps.take (k + 1)).flatMap (fillP val DS))) w5) := by
                refine .inr ?_
                show Lib.BuilderAt _ _ _ _ _ _ _
                rw [HST.out, byteCells_app]; exact hb5
              have HK5 := Lib.hid (HKA.out.trans' hbe5)
              clear hb5 hbe5
              go_wp2_with fail
              go_roundw
              case rel => exact ⟨k + 1, by omega, by go_num, HB5.out, HK5.out⟩
              case measure => simp [intOf]; omega
            | true =>
              simp only [if_true] at HST
              have HCX := Lib.hid (fun w' h => HCC.out x w' h)
              have hvl := HVL.out x
              generalize val x = vx at HCX HST hvl
              go_wp2_with fail
              refine (HCX.out _ HKA.out).mono ?_
              rintro e w4 ⟨rfl, hk4⟩
              have HB4 := Lib.hid (bld_kept HBA.out hk4)
              have HK4 := Lib.hid (HKA.out.trans hk4)
              clear hk4
              go_wp2_with fail
              refine (bld_string wC.heap.size wC.heap.size _ vx _ HB4.out (by rw [Lib.byteCells_length]; omega) HK4.out.size).mono ?_
              rintro e w5 ⟨rfl, hb5, hbe5⟩
              have HB5 : Hid (Lib.IsBuilder 82 5 wC.heap.size wC.heap.size (Lib.byteCells ((ps.take (k + 1)).flatMap (fillP val DS))) w5) := by
                refine .inr ?_
                show Lib.BuilderAt _ _ _ _ _ _ _
                rw [HST.out, byteCells_app]; exact hb5
              have HK5 := Lib.hid (HK4.out.trans' hbe5)
              clear hb5 hbe5
              go_wp2_with fail
              go_roundw
              case rel => exact ⟨k + 1, by omega, by go_num, HB5.out, HK5.out⟩
              case measure => simp [intOf]; omega
        · obtain rfl : k = ps.length := by omega
          rw [← HFT.out] at HB
          go_wp2_with fail
          refine (Tryz.Builder_String_any wC.heap.size wC.heap.size T _ HB.out HKR.out.size).mono ?_
          rintro e w5 ⟨rfl, hb5⟩
          have HK5 := Lib.hid (HKC.out.trans (HKR.out.trans' hb5))
          clear hb5
          go_wp2_with fail
          go_ret2
          exact ⟨rfl, HK5.out⟩
end Go.Proofs.YtofeonnmoakbaaaGreatDoor
