/- Text of publisherref31. Conditions: lengths. -/
import Derived.Test.YtafcngdnngpdnaaGreatDoorK35
import Derived.Test.YtafcngdnngpdnaaGreatDoorK29
import Derived.Test.YtafcngdnngpdnaaGreatDoorK27
import Derived.Test.YtafcngdnngpdnaaGreatDoorK38
import Derived.Test.YtafcngdnngpdnaaGreatDoorK04
import Derived.Test.YtafcngdnngpdnaaGreatDoorK22
import Derived.Test.YtafcngdnngpdnaaGreatDoorK08
import Derived.Test.YtafcngdnngpdnaaGreatDoorK25
import Derived.BigQuiet
import Derived.Deep.Slices
import Derived.SizedLaws
import Derived.Deep.AppendLies
import Derived.Deep.RegionHeld3
import Derived.Deep.Upon

set_option linter.all false
namespace Go.Proofs.YtafcngdnngpdnaaGreatDoor
open Go.RowKit

theorem joinLn_snoc1 (xs : List Bs) (x : Bs) : joinLn (xs ++ [x]) = joinLn xs ++ x ++ [10] := by simp [joinLn]
theorem joinLn_le2 (xs ys : List Bs) : (joinLn xs).length ≤ (joinLn (xs ++ ys)).length := by
  unfold joinLn; rw [List.flatMap_append, List.length_append]; omega
set_option maxRecDepth 100000 in
set_option maxHeartbeats 6400000 in
theorem rtext31_any (vE : Value) (y : StyT) (w : World) (hs : SmallY y) (hv : Prs w vE y.entries) :
    Calls Tryz.prog 8 #[styV vE y] w fun e w' => e = .returned (.tuple #[.string (bs (styS y)), .int .i64 (styE y)]) ∧ Kept w w' := by
  have HV := Lib.hid hv
  have HSM := Lib.hid hs
  have HCK := Lib.hid (fun w h => rcheck31_any vE y w HSM.out h)
  have HS0 : Hid (styE y ≠ 0 → styS y = []) := fun h => by unfold styS; rw [if_neg h]
  have HS1 : Hid (styE y = 0 → styS y = joinLn (headL y ++ y.entries.map entL)) := fun h => by unfold styS; rw [if_pos h]; rfl
  have HMO : Hid (styE y = 0 → 1 ≤ y.most ∧ y.most ≤ 32) := fun h => ⟨(styE_parts h).2.2.2.2.2.2.2.1, (styE_parts h).2.2.2.2.2.2.2.2.1⟩
  obtain ⟨s1, s2, s3, s4, s5, s6, s7, s8, s9⟩ := hs
  obtain ⟨aE, cE, rfl, lE⟩ := hv.form
  have HS9 := Lib.hid s9
  generalize styS y = T at *
  generalize styE y = E at *
  clear hv s9
  unfold styV styCells at HCK ⊢
  have HK0 := Lib.hid (kept_alloc w (.cells (styCells (.slice aE y.entries.length cE) y) 24))
  have HB0 := Lib.hid (Blk.new w 24 (styCells (.slice aE y.entries.length cE) y))
  unfold styCells at HK0 HB0
  go_enter Tryz.func8, Tryz.ntmps8
  go_wp2_with fail
  generalize w.alloc _ = w0 at *
  generalize w.heap.size = B at *
  refine (HCK.out _ (HV.out.kept HK0.out)).mono ?_
  rintro e w1 ⟨rfl, hk⟩
  have HB1 := Lib.hid (HB0.out.kept hk)
  have HK1 := Lib.hid (HK0.out.trans hk)
  clear hk HCK HK0 HB0
  by_cases hE : E = 0
  case neg =>
    have hE' : (E == 0) = false := by simpa using hE
    have HT := Lib.hid (HS0.out hE)
    go_wp2_with fail
    go_ret2
    exact ⟨by rw [HT.out]; rfl, HK1.out⟩
  subst hE
  have HT := Lib.hid (HS1.out rfl)
  obtain ⟨m1, m2⟩ := HMO.out rfl
  clear HS0 HS1 HMO
  obtain ⟨mo, hmo⟩ : ∃ n : Nat, y.most = (n : Int) := ⟨y.most.toNat, by omega⟩
  have hdl := dec_small mo (by omega)
  have HLN := Lib.hid (styLn_len y HSM.out (by omega))
  have HVL := Lib.hid (valsL_len y HSM.out (by omega))
  have HIT := Lib.hid (fun w => rnum31_any mo w (by omega))
  have HVS : Hid (strCells (valsL y) = [.string (bs y.name), .string (bs (yesL y.numeric)), .string (bs y.sort), .string (bs y.cite), .string (bs y.bare), .string (bs y.between), .string (bs y.begin_), .string (bs y.end_), .string (bs (Lib.decDigits mo))]) := by
    show _ = _
    unfold valsL strCells
    rw [hmo]; rfl
  rw [hmo] at HB1
  generalize Lib.decDigits mo = D at *
  clear hmo
  have HCC : Hid (∀ w', Kept w1 w' → (w'.cell? ⟨B, 0, none⟩ = some (.string (bs y.name)) ∧ w'.cell? ⟨B, 2, none⟩ = some (.string (bs y.sort)) ∧ w'.cell? ⟨B, 3, none⟩ = some (.string (bs y.cite)) ∧ w'.cell? ⟨B, 4, none⟩ = some (.string (bs y.bare)) ∧ w'.cell? ⟨B, 5, none⟩ = some (.string (bs y.between)) ∧ w'.cell? ⟨B, 6, none⟩ = some (.string (bs y.begin_)) ∧ w'.cell? ⟨B, 7, none⟩ = some (.string (bs y.end_)) ∧ w'.cell? ⟨B, 8, none⟩ = some (.int .i64 mo)) ∧ B < w'.heap.size) := fun w' h =>
    ⟨⟨(HB1.out.kept h).cell 0 _ rfl, (HB1.out.kept h).cell 2 _ rfl, (HB1.out.kept h).cell 3 _ rfl, (HB1.out.kept h).cell 4 _ rfl, (HB1.out.kept h).cell 5 _ rfl, (HB1.out.kept h).cell 6 _ rfl, (HB1.out.kept h).cell 7 _ rfl, (HB1.out.kept h).cell 8 _ rfl⟩, (HB1.out.kept h).lt⟩
  obtain ⟨⟨t0, t2, t3, t4, t5, t6, t7, t8⟩, z0⟩ := HCC.out w1 (Kept.refl _)
  have t1 : w1.cell? ⟨B, 1, none⟩ = some (.bool y.numeric) := HB1.out.cell 1 _ rfl
  have hkd : Kept w1 w1.drew := kept_drewN w1 1
  cases hn : y.numeric
  case' false =>
    rw [hn] at t1 HVS HB1
    clear hn
    simp only [yesL, Bool.false_eq_true, if_false, if_true] at HVS
    go_wp2_with fail
    generalize hYS : ([110, 111] : Bs) = YS at *
    clear hYS
  case' true =>
    rw [hn] at t1 HVS HB1
    clear hn
    simp only [yesL, Bool.false_eq_true, if_false, if_true] at HVS
    go_wp2_with fail
    generalize hYS : ([121, 101, 115] : Bs) = YS at *
    clear hYS
  all_goals
    clear t1
    go_region_held3 (fun w' => (w'.cell? ⟨B, 0, none⟩ = some (.string (bs y.name)) ∧ w'.cell? ⟨B, 2, none⟩ = some (.string (bs y.sort)) ∧ w'.cell? ⟨B, 3, none⟩ = some (.string (bs y.cite)) ∧ w'.cell? ⟨B, 4, none⟩ = some (.string (bs y.bare)) ∧ w'.cell? ⟨B, 5, none⟩ = some (.string (bs y.between)) ∧ w'.cell? ⟨B, 6, none⟩ = some (.string (bs y.begin_)) ∧ w'.cell? ⟨B, 7, none⟩ = some (.string (bs y.end_)) ∧ w'.cell? ⟨B, 8, none⟩ = some (.int .i64 mo)) ∧ B < w'.heap.size)
      ((refine HCC.out _ ?_; with_reducible assumption))
      (first
        | (go_at_call 19; refine (HIT.out _).mono ?_; rintro e w3 ⟨rfl, hk3⟩; have hk3' : Kept w1 w3 := hkd.trans hk3; have hk4' : Kept w1 (w3.alloc (.cells #[.string (bs y.name), .string (bs YS), .string (bs y.sort), .string (bs y.cite), .string (bs y.bare), .string (bs y.between), .string (bs y.begin_), .string (bs y.end_), .string (bs D)] 9)) := hk3'.trans (kept_alloc w3 _)))
    all_goals
      rename_i hHeld
      have HV9 : Hid (Strs (w3.alloc (.cells #[.string (bs y.name), .string (bs YS), .string (bs y.sort), .string (bs y.cite), .string (bs y.bare), .string (bs y.between), .string (bs y.begin_), .string (bs y.end_), .string (bs D)] 9)) (.slice (some ⟨w3.heap.size, 0, none⟩) 9 9) (valsL y)) := by
        have h := strs_fresh w3 (valsL y)
        rw [HVS.out] at h
        exact h
      have HK9 := Lib.hid (HK1.out.trans (hk3'.trans (kept_alloc w3 (.cells #[.string (bs y.name), .string (bs YS), .string (bs y.sort), .string (bs y.cite), .string (bs y.bare), .string (bs y.between), .string (bs y.begin_), .string (bs y.end_), .string (bs D)] 9))))
      have HB9 := Lib.hid (HB1.out.kept (hk3'.trans (kept_alloc w3 (.cells #[.string (bs y.name), .string (bs YS), .string (bs y.sort), .string (bs y.cite), .string (bs y.bare), .string (bs y.between), .string (bs y.begin_), .string (bs y.end_), .string (bs D)] 9))))
      clear hHeld hkd hk3 hk3' hk4' HIT HCC t0 t2 t3 t4 t5 t6 t7 t8 z0 HK1 HB1 HVS
      generalize w3.alloc _ = w9 at *
      generalize w3.heap.size = B3 at *
      go_wp2_with fail
      refine (rheads_any _).mono ?_
      rintro e w10 ⟨v, rfl, hst, hk10⟩
      have HH10 := Lib.hid hst
      have HV10 := Lib.hid (HV9.out.kept hk10)
      have HK10 := Lib.hid (HK9.out.trans hk10)
      have HB10 := Lib.hid (HB9.out.kept hk10)
      obtain ⟨ah, ch, hv2, hch⟩ := hst.form
      have hv3 : v = .slice ah 9 ch := hv2
      subst hv3
      clear hst hk10 hv2 HV9 HK9 HB9
      have HNX : Hid (∀ (k : Nat), k < 9 → ∃ v, (valsL y)[k]? = some v ∧ v.length ≤ 100000 ∧ (headL y).take (k + 1) = (headL y).take k ++ [headsL.getD k [] ++ v]) := fun k hk => by
        have hl : k < (valsL y).length := hk
        exact ⟨(valsL y)[k], List.getElem?_eq_getElem hl, HVL.out _ (List.getElem_mem hl), headL_next y k hk _ (List.getElem?_eq_getElem hl)⟩
      have HL9 : Hid ((headL y).take 9 = headL y) := by
        show _ = _
        rw [List.take_of_length_le]
        unfold headL; rw [List.length_zipWith]
        show min headsL.length _ ≤ headsL.length
        exact Nat.min_le_left _ _
      have HLH : Hid (headL y ++ y.entries.map entL = styLn y) := rfl
      have HJL : Hid ((joinLn (styLn y)).length ≤ 3100000000) := by
        have h1 := joinLn_len (styLn y) 300000 HLN.out.2
        have h7 : (styLn y).length * 300001 ≤ 10009 * 300001 := Nat.mul_le_mul_right _ HLN.out.1
        show _ ≤ _
        omega
      have HJH : Hid (∀ k, (joinLn ((headL y).take k)).length ≤ 3100000000) := fun k => by
        have h1 := joinLn_le2 ((headL y).take k) ((headL y).drop k ++ y.entries.map entL)
        rw [← List.append_assoc, List.take_append_drop, HLH.out] at h1
        have := HJL.out
        omega
      have HJE : Hid (∀ k, (joinLn (headL y ++ (y.entries.take k).map entL)).length ≤ 3100000000) := fun k => by
        have h1 := joinLn_le2 (headL y ++ (y.entries.take k).map entL) ((y.entries.drop k).map entL)
        rw [List.append_assoc, ← List.map_append, List.take_append_drop, HLH.out] at h1
        have := HJL.out
        omega
      rw [HLH.out] at HT
      clear HJL HVL HLN
      go_wp2_with fail
      (try simp only [mk_bs])
      go_loopw [8, 9] (fun s i wr => ∃ k : Nat, k ≤ 9 ∧ i = .int .i64 k ∧ s = .string (bs (joinLn ((headL y).take k))) ∧ Hid (Kept w10 wr)) (fun _ i _ => 9 - (intOf i).toNat)
      case atStart => exact ⟨0, Nat.zero_le _, rfl, rfl, Kept.refl _⟩
      case round =>
        obtain ⟨k, hk, rfl, rfl, HKR⟩ := hrel
        by_cases hlt : k < 9
        · obtain ⟨v, hv, hvl, hvt⟩ := HNX.out k hlt
          have hh : headsL[k]? = some (headsL.getD k []) := by
            rw [List.getD_eq_getElem?_getD, List.getElem?_eq_getElem (show k < headsL.length from hlt)]; rfl
          obtain ⟨g, o, rfl, hg, d0, -, -⟩ := (HH10.out.kept HKR.out).cell_of k _ hh
          obtain ⟨g2, o2, he2, hg2, e0, -, -⟩ := (HV10.out.kept HKR.out).cell_of k _ hv
          obtain ⟨rfl, rfl⟩ : B3 = g2 ∧ 0 = o2 := by cases he2; exact ⟨rfl, rfl⟩
          have hhl := heads_len k
          have hjl := HJH.out k
          obtain ⟨nx, HNXT⟩ : ∃ nx, Hid (joinLn ((headL y).take (k + 1)) = nx) := ⟨_, rfl⟩
          have HN2 : Hid (joinLn ((headL y).take k) ++ headsL.getD k [] ++ v ++ [10] = nx) := by
            show _ = _
            rw [← HNXT.out, hvt, joinLn_snoc1]; simp [List.append_assoc]
          clear hv hvt hh he2
          generalize headsL.getD k [] = h at *
          generalize joinLn ((headL y).take k) = s0 at *
          have ad1 := fun w => run_add (P := Tryz.prog) s0 h (by omega) (by omega) w
          have ad2 := fun w => run_add (P := Tryz.prog) (s0 ++ h) v (by simp; omega) (by omega) w
          have ad3 := fun w => run_add (P := Tryz.prog) (s0 ++ h ++ v) [10] (by simp; omega) (by simp) w
          rw [HN2.out] at ad3
          generalize hz2 : s0 ++ h ++ v = z2 at *
          generalize hz1 : s0 ++ h = z1 at *
          clear hz2 hz1 HN2
          rw [Nat.zero_add] at e0
          go_wp2_with fail
          go_quiet (fail)
          go_wp2_with fail
          go_roundw
          case rel => exact ⟨k + 1, by omega, by go_num, by rw [HNXT.out], HKR.out.trans (kept_drewN _ _)⟩
          case measure => simp [intOf]; omega
        · have h9 : ¬ (k : Int) < 9 := by omega
          have HJ0 : Hid (joinLn ((headL y).take k) = joinLn (headL y ++ (y.entries.take 0).map entL)) := by
            show _ = _
            rw [show k = 9 by omega, HL9.out]; simp
          rw [HJ0.out]
          have HKS := Lib.hid HKR.out
          clear HKR hlt hk HJ0
          go_wp2_with fail
          clear h9
          obtain ⟨wo, rfl⟩ : ∃ wo : World, wo = wr := ⟨_, rfl⟩
          go_loopw [8, 10] (fun s i wr => ∃ k : Nat, k ≤ y.entries.length ∧ i = .int .i64 k ∧ s = .string (bs (joinLn (headL y ++ (y.entries.take k).map entL))) ∧ Hid (Kept w10 wr)) (fun _ i _ => y.entries.length - (intOf i).toNat)
          case atStart => exact ⟨0, Nat.zero_le _, rfl, rfl, HKS.out⟩
          case round =>
            clear HKS
            obtain ⟨k, hk, rfl, rfl, HKR⟩ := hrel
            have b9 : wr.cell? ⟨B, 9, none⟩ = some (.slice aE y.entries.length cE) := (HB10.out.kept HKR.out).cell 9 _ rfl
            have z9 := (HB10.out.kept HKR.out).lt
            by_cases hlt : k < y.entries.length
            · obtain ⟨p, hx⟩ : ∃ x, y.entries[k]? = some x := ⟨_, List.getElem?_eq_getElem hlt⟩
              obtain ⟨hp1, hp2⟩ := HS9.out p (List.mem_of_getElem? hx)
              obtain ⟨g, o, rfl, hg, d0, d1, _, _⟩ := (HV.out.kept (HK10.out.trans HKR.out)).cell_of k p hx
              have hjl := HJE.out k
              obtain ⟨nx, HNXT⟩ : ∃ nx, Hid (joinLn (headL y ++ (y.entries.take (k + 1)).map entL) = nx) := ⟨_, rfl⟩
              have HN2 : Hid (joinLn (headL y ++ (y.entries.take k).map entL) ++ [101, 110, 116, 114, 121, 32] ++ p.1 ++ [58] ++ p.2 ++ [10] = nx) := by
                show _ = _
                obtain ⟨hk', rfl⟩ := List.getElem?_eq_some_iff.1 hx
                rw [← HNXT.out, List.take_succ_eq_append_getElem hk', List.map_append, ← List.append_assoc]
                show _ = joinLn (_ ++ [_])
                rw [joinLn_snoc1]
                unfold entL kEntry
                simp only [List.append_assoc]
              obtain ⟨x, z⟩ := p
              simp only at hp1 hp2 d0 d1 HN2
              clear hx
              generalize joinLn (headL y ++ (y.entries.take k).map entL) = s0 at *
              have ad1 := fun w => run_add (P := Tryz.prog) s0 [101, 110, 116, 114, 121, 32] (by omega) (by simp) w
              have ad2 := fun w => run_add (P := Tryz.prog) (s0 ++ [101, 110, 116, 114, 121, 32]) x (by simp; omega) (by omega) w
              have ad3 := fun w => run_add (P := Tryz.prog) (s0 ++ [101, 110, 116, 114, 121, 32] ++ x) [58] (by simp; omega) (by simp) w
              have ad4 := fun w => run_add (P := Tryz.prog) (s0 ++ [101, 110, 116, 114, 121, 32] ++ x ++ [58]) z (by simp; omega) (by omega) w
              have ad5 := fun w => run_add (P := Tryz.prog) (s0 ++ [101, 110, 116, 114, 121, 32] ++ x ++ [58] ++ z) [10] (by simp; omega) (by simp) w
              rw [HN2.out] at ad5
              generalize hz5 : s0 ++ [101, 110, 116, 114, 121, 32] ++ x ++ [58] ++ z = y4 at *
              generalize hz4 : s0 ++ [101, 110, 116, 114, 121, 32] ++ x ++ [58] = y3 at *
              generalize hz3 : s0 ++ [101, 110, 116, 114, 121, 32] ++ x = y2 at *
              generalize hz2 : s0 ++ [101, 110, 116, 114, 121, 32] = y1 at *
              clear hz5 hz4 hz3 hz2 HN2
              go_wp2_with fail
              go_quiet (fail)
              go_wp2_with fail
              go_roundw
              case rel => exact ⟨k + 1, by omega, by go_num, by rw [HNXT.out], HKR.out.trans (kept_drewN _ _)⟩
              case measure => simp [intOf]; omega
            · have HAL : Hid (joinLn (headL y ++ (y.entries.take k).map entL) = T) := by
                show _ = _
                rw [HT.out, List.take_of_length_le (by omega), HLH.out]
              rw [HAL.out]
              have HKZ := Lib.hid (HK10.out.trans HKR.out)
              clear HAL HT HKR
              go_wp2_with fail
              go_ret2
              exact ⟨rfl, HKZ.out⟩
end Go.Proofs.YtafcngdnngpdnaaGreatDoor

/- Slices of pairs, opened; rows of any kind. No condition. -/
set_option linter.all false
namespace Go.Proofs.YtafcngdnngpdnaaGreatDoor
open Go.ChangeShapes Go.WideShapes Go.ChangeAt Go.RowKit Go.Joins

theorem spot_bare (a : Addr) (w : World) (v : Value) (h : w.cell? a = some v) : a = ⟨a.block, a.off, none⟩ := by
  obtain ⟨b, o, s⟩ := a
  cases s with
  | none => rfl
  | some s =>
    exfalso
    unfold World.cell? at h
    split at h
    · simp at h
    · cases h
theorem add_twice_bare (b o i k : Nat) : ((⟨b, o, none⟩ : Addr).add i).add k = ⟨b, o + i + k, none⟩ := by
  unfold Addr.add
  by_cases h1 : i = 0 <;> by_cases h2 : k = 0 <;> simp [h1, h2]
/-- Each text and each list that is read has a length that a machine can tell. -/
def Light {H : Type} (t : TypeId) (d : DataW H) : Prop := ∀ m ∈ d.weights Tryz.prog t, m ≤ 140737488355328
theorem weightsAll_mem {H : Type} {e : TypeId} {d : DataW H} {n : Nat} : ∀ {l : List (DataW H)}, d ∈ l → n ∈ d.weights Tryz.prog e → n ∈ DataW.weightsAll Tryz.prog e l
  | [], h, _ => by cases h
  | x :: r, h, hn => by
    simp only [DataW.weightsAll, List.mem_append]
    rcases List.mem_cons.1 h with q | q
    · subst q; exact .inl hn
    · exact .inr (weightsAll_mem q hn)
theorem Light.part {H : Type} {t : TypeId} {fs : Array Field} {ps : List (DataW H)} (ht : Tryz.prog.underlying t = some (.struct fs)) (h : Light t (.agg ps)) {j : Nat} {u : TypeId} {d : DataW H} (hu : (fs.toList.map (·.type))[j]? = some u) (hd : ps[j]? = some d) : Light u d := by
  intro m hm
  apply h
  simp only [DataW.weights, ht]
  exact DataW.weights_mem_each hu hd m hm
theorem Light.str {H : Type} {l : List UInt8} {t : TypeId} (h : Light t (DataW.lit (H := H) (.string l))) : l.length ≤ 140737488355328 := h _ (by simp [DataW.weights])
section
variable {H : Type} {enc : TypeId × Value → H} {w : World} {base : Nat} {spare : Nat → Bool} {held : Bool}
theorem trod_str_l {n : Nat} {v : Value} {y : DataW H × List MemPlace} (h : DataW.trod enc Tryz.prog w base spare held n 9 [v] = some y) (hl : Light 9 y.1) : ∃ l : Bs, v = .string (bs l) ∧ l.length ≤ 140737488355328 := by
  obtain ⟨s, h1, h2, h3⟩ := DataW.trod_string Tryz.underlying9 h
  simp at h1
  subst h2
  exact ⟨s.data.toList, h1, hl.str⟩
theorem open_rows {α : Type} [Inhabited α] {t e : TypeId} {k fuel : Nat} {v : Value} {y : DataW H × List MemPlace} (p : α → (Nat → Option Value) → Prop) (ht : Tryz.prog.underlying t = some (.slice e)) (hk : Tryz.prog.cellsOf e = k) (hk0 : 0 < k)
    (hel : ∀ n (cs : List Value) (z : DataW H × List MemPlace), cs.length = k → DataW.trod enc Tryz.prog w base spare held n e cs = some z → Light e z.1 → ∃ x, p x (fun j => cs[j]?)) (hby : 1 ≤ Tryz.prog.bytesOf e)
    (h : DataW.trod enc Tryz.prog w base spare held fuel t [v] = some y) (hli : Light t y.1) :
    ∃ (xs : List α) (a : Option Addr) (c : Nat), v = .slice a xs.length c ∧ xs.length ≤ c ∧ xs.length ≤ 140737488355328 ∧ (0 < xs.length → ∃ g o, a = some ⟨g, o, none⟩ ∧ g < w.heap.size ∧ ∀ j x, xs[j]? = some x → ∃ f : Nat → Option Value, p x f ∧ ∀ i, i < k → w.cell? ⟨g, o + j * k + i, none⟩ = f i) ∧ ∀ x ∈ xs, ∃ f, p x f := by
  rcases Go.Deep.open_slice ht h with ⟨h0, _⟩ | ⟨a, len, cap, m, n, D, Pl, hcs, hb, hl, hm, hmm, hx, hi⟩
  · simp at h0
    subst h0
    exact ⟨[], none, 0, rfl, Nat.le_refl _, by simp, fun q => absurd q (by simp), by simp⟩
  · simp at hcs
    subst hcs
    rw [hk] at hi
    subst hx
    have hlen : len ≤ 140737488355328 := by
      have h1 := hli ((((List.range len).map D).length + ((List.range (m - len)).map fun j => D (len + j)).length) * Tryz.prog.bytesOf e) (by simp [DataW.weights, ht])
      have h2 : len * 1 ≤ (((List.range len).map D).length + ((List.range (m - len)).map fun j => D (len + j)).length) * Tryz.prog.bytesOf e := Nat.mul_le_mul (by simp) hby
      omega
    have hel2 : ∀ i, i < len → Light e (D i) := by
      intro i hil n hn
      apply hli
      simp only [DataW.weights, ht, List.mem_cons, List.mem_append]
      exact .inr (.inl (weightsAll_mem (List.mem_map.2 ⟨i, List.mem_range.2 hil, rfl⟩) hn))
    have each : ∀ i, i < len → ∃ x : α, ∃ f : Nat → Option Value, p x f ∧ a = ⟨a.block, a.off, none⟩ ∧ ∀ j, j < k → w.cell? ⟨a.block, a.off + i * k + j, none⟩ = f j := by
      have hspot : 0 < len → a = ⟨a.block, a.off, none⟩ := by
        intro hpos
        obtain ⟨cs', hc, _⟩ := hi 0 (by rw [hmm]; split <;> omega)
        obtain ⟨_, hcl, hat⟩ := World.cells?_some hc
        have e : (a.add (0 * k)).add 0 = a := by unfold Addr.add; simp
        have h0 := hat 0 (by omega)
        rw [e, List.getElem?_eq_getElem (by omega)] at h0
        exact spot_bare a w _ h0
      intro i hil
      obtain ⟨cs', hc, htr⟩ := hi i (by rw [hmm]; split <;> omega)
      obtain ⟨_, hcl, hat⟩ := World.cells?_some hc
      obtain ⟨x, hx⟩ := hel n cs' _ hcl htr (hel2 i hil)
      have ha := hspot (by omega)
      refine ⟨x, _, hx, ha, fun j hj => ?_⟩
      have h1 := hat j hj
      have h2 := add_twice_bare a.block a.off (i * k) j
      rw [← ha] at h2
      rw [h2] at h1; exact h1
    obtain ⟨f, hf⟩ := Go.Deep.choose_lt each
    refine ⟨(List.range len).map f, some a, cap, by simp, by simpa using hl, by simpa using hlen, fun hpos => ?_, ?_⟩
    · simp at hpos
      obtain ⟨f0, _, ha, hc0⟩ := hf 0 hpos
      refine ⟨a.block, a.off, by rw [← ha], ?_, fun j x hj => ?_⟩
      · obtain ⟨cs', hc, _⟩ := hi 0 (by rw [hmm]; split <;> omega)
        obtain ⟨_, hcl, hat⟩ := World.cells?_some hc
        have e : (a.add (0 * k)).add 0 = a := by unfold Addr.add; simp
        have h0 := hat 0 (by omega)
        rw [e, List.getElem?_eq_getElem (by omega)] at h0
        exact World.block_lt_of_cell? w (a := a) h0
      · rw [List.getElem?_map, Option.map_eq_some_iff] at hj
        obtain ⟨i, hi1, rfl⟩ := hj
        obtain ⟨hi2, hi3⟩ := List.getElem?_eq_some_iff.1 hi1
        simp at hi2 hi3
        subst hi3
        obtain ⟨g, hg, _, hcell⟩ := hf j hi2
        exact ⟨g, hg, hcell⟩
    · intro x hx
      obtain ⟨i, hi1, rfl⟩ := List.mem_map.1 hx
      obtain ⟨g, hg, _⟩ := hf i (by simpa using hi1)
      exact ⟨g, hg⟩
theorem Tryz.cellsPair : Tryz.prog.cellsOf 35 = 2 := by kernel_rfl
theorem Tryz.cellsStr : Tryz.prog.cellsOf 9 = 1 := by kernel_rfl
set_option maxRecDepth 100000 in
theorem cell_pairs {fuel : Nat} {v : Value} {y : DataW H × List MemPlace} (h : DataW.trod enc Tryz.prog w base spare held fuel 22 [v] = some y) (hli : Light 22 y.1) : ∃ ps : List Pr, Prs w v ps ∧ ps.length ≤ 140737488355328 ∧ ∀ q ∈ ps, q.1.length ≤ 140737488355328 ∧ q.2.length ≤ 140737488355328 := by
  obtain ⟨ps, a, c, rfl, h1, h2, h3, h4⟩ := open_rows (α := Pr) (fun q f => f 0 = some (.string (bs q.1)) ∧ f 1 = some (.string (bs q.2)) ∧ q.1.length ≤ 140737488355328 ∧ q.2.length ≤ 140737488355328) Tryz.underlying22 Tryz.cellsPair (by omega) (by
    intro n cs z hl ht hz
    obtain ⟨y0, y1, n', hx, _, h0, h1⟩ := Go.ChangeShapes.trod_struct2 Tryz.underlying35 ht
    match cs, hl with
    | [v0, v1], _ =>
      simp only [Tryz.cellsStr, List.drop_succ_cons, List.drop_zero, List.take_succ_cons, List.take_zero] at h0 h1
      obtain ⟨q0, rfl, f0⟩ := trod_str_l h0 (Light.part Tryz.underlying35 (by subst hx; exact hz) (j := 0) rfl rfl)
      obtain ⟨q1, rfl, f1⟩ := trod_str_l h1 (Light.part Tryz.underlying35 (by subst hx; exact hz) (j := 1) rfl rfl)
      exact ⟨(q0, q1), rfl, rfl, f0, f1⟩) (of_decide_eq_true (by kernel_rfl)) h hli
  refine ⟨ps, ⟨a, c, rfl, h1, fun q => ?_⟩, h2, fun q hq => ?_⟩
  · obtain ⟨g, o, ha, hg, hc⟩ := h3 q
    refine ⟨g, o, ha, hg, fun j x hx => ?_⟩
    obtain ⟨f, ⟨p0, p1, _⟩, hcell⟩ := hc j x hx
    exact ⟨(hcell 0 (by omega)).trans p0, (hcell 1 (by omega)).trans p1⟩
  · obtain ⟨f, _, _, p⟩ := h4 q hq
    exact p
end
end Go.Proofs.YtafcngdnngpdnaaGreatDoor

/- Persons in memory, cell by cell; appended in a region that draws its order. Conditions: lengths. -/
set_option linter.all false
namespace Go.Proofs.YtafcngdnngpdnaaGreatDoor
open Go.RowKit

def persC (ps : List P4) : List Value := ps.flatMap fun q => [.string (bs q.1), .string (bs q.2.1), .string (bs q.2.2.1), .string (bs q.2.2.2)]
theorem persC_snoc (ps : List P4) (q : P4) : persC (ps ++ [q]) = persC ps ++ [.string (bs q.1), .string (bs q.2.1), .string (bs q.2.2.1), .string (bs q.2.2.2)] := by simp [persC]
theorem persC_at (ps : List P4) (j : Nat) (q : P4) (h : ps[j]? = some q) : (persC ps)[j * 4]? = some (.string (bs q.1)) ∧ (persC ps)[j * 4 + 1]? = some (.string (bs q.2.1)) ∧ (persC ps)[j * 4 + 2]? = some (.string (bs q.2.2.1)) ∧ (persC ps)[j * 4 + 3]? = some (.string (bs q.2.2.2)) := by
  induction ps generalizing j with
  | nil => cases h
  | cons p ps ih =>
    have e : persC (p :: ps) = [.string (bs p.1), .string (bs p.2.1), .string (bs p.2.2.1), .string (bs p.2.2.2)] ++ persC ps := by simp [persC]
    rw [e]
    cases j with
    | zero => cases h; exact ⟨rfl, rfl, rfl, rfl⟩
    | succ j =>
      have := ih j (by simpa using h)
      rw [List.getElem?_append_right (by simp; omega), List.getElem?_append_right (by simp; omega), List.getElem?_append_right (by simp; omega), List.getElem?_append_right (by simp; omega)]
      simp only [List.length_cons, List.length_nil]
      rw [show (j + 1) * 4 - (0 + 1 + 1 + 1 + 1) = j * 4 from by omega, show (j + 1) * 4 + 1 - (0 + 1 + 1 + 1 + 1) = j * 4 + 1 from by omega, show (j + 1) * 4 + 2 - (0 + 1 + 1 + 1 + 1) = j * 4 + 2 from by omega, show (j + 1) * 4 + 3 - (0 + 1 + 1 + 1 + 1) = j * 4 + 3 from by omega]
      exact this
theorem Perss.own {w : World} {base : Nat} {e : TypeId} {v : Value} {ps : List P4} (h : w.ownsRow base e 4 v ps.length (persC ps)) : Perss w v ps := by
  obtain ⟨a, c, hv, hc, _, h3⟩ := own_cap h
  refine ⟨a, c, hv, hc, fun q => ?_⟩
  obtain ⟨g, ha, _, hg, hcell⟩ := h3 q
  refine ⟨g, 0, ha, hg, fun j x hx => ?_⟩
  obtain ⟨c0, c1, c2, c3⟩ := persC_at ps j x hx
  simp only [Nat.zero_add]
  exact ⟨hcell _ _ c0, hcell _ _ c1, hcell _ _ c2, hcell _ _ c3⟩
theorem Tryz.infoPers : (Tryz.prog.info? 111).map (fun i => (i.zero, i.size, i.bytes)) = some (some (.agg #[.string ⟨#[]⟩, .string ⟨#[]⟩, .string ⟨#[]⟩, .string ⟨#[]⟩]), 4, 64) := by kernel_rfl
theorem persC_read (w : World) (g : Nat) (ps : List P4) : ∀ (o : Nat), (∀ j q, ps[j]? = some q → w.cell? ⟨g, o + j * 4, none⟩ = some (.string (bs q.1)) ∧ w.cell? ⟨g, o + j * 4 + 1, none⟩ = some (.string (bs q.2.1)) ∧ w.cell? ⟨g, o + j * 4 + 2, none⟩ = some (.string (bs q.2.2.1)) ∧ w.cell? ⟨g, o + j * 4 + 3, none⟩ = some (.string (bs q.2.2.2))) →
    ∀ j u, (persC ps)[j]? = some u → w.cell? ⟨g, o + j, none⟩ = some u := by
  induction ps with
  | nil => intro o _ j u h; cases h
  | cons p ps ih =>
    intro o hc j u h
    have e : persC (p :: ps) = .string (bs p.1) :: .string (bs p.2.1) :: .string (bs p.2.2.1) :: .string (bs p.2.2.2) :: persC ps := by simp [persC]
    rw [e] at h
    obtain ⟨c0, c1, c2, c3⟩ := hc 0 p rfl
    simp only [Nat.zero_mul, Nat.add_zero] at c0 c1 c2 c3
    match j with
    | 0 => simp at h; subst h; exact c0
    | 1 => simp at h; subst h; exact c1
    | 2 => simp at h; subst h; exact c2
    | 3 => simp at h; subst h; exact c3
    | j + 4 =>
      have := ih (o + 4) (fun i q hq => by
        have h4 := hc (i + 1) q (by simpa using hq)
        rw [show o + (i + 1) * 4 = o + 4 + i * 4 from by omega] at h4
        exact h4) j u (by simpa using h)
      rw [show o + (j + 4) = o + 4 + j from by omega]; exact this
theorem persC_len (ps : List P4) : (persC ps).length = ps.length * 4 := by
  induction ps with
  | nil => rfl
  | cons p ps ih => have e : persC (p :: ps) = .string (bs p.1) :: .string (bs p.2.1) :: .string (bs p.2.2.1) :: .string (bs p.2.2.2) :: persC ps := by simp [persC]
                    rw [e]; simp only [List.length_cons, ih]; omega
theorem persC_one (ps : List P4) : ∀ u ∈ persC ps, u.oneCell' = true := by
  intro u hu
  unfold persC at hu
  rw [List.mem_flatMap] at hu
  obtain ⟨q, _, hq⟩ := hu
  simp at hq
  rcases hq with rfl | rfl | rfl | rfl <;> rfl
/-- The cells of a list of persons, by the address of the slice. -/
theorem Perss.news {w : World} {ad : Addr} {n c : Nat} {ps : List P4} (h : Perss w (.slice (some ad) n c) ps) : ∀ j u, (persC ps)[j]? = some u → w.cell? (ad.add j) = some u := by
  intro j u hu
  obtain ⟨a, c', hv, _, h3⟩ := h
  obtain ⟨rfl, _, _⟩ := Value.slice.inj hv
  have hp : 0 < ps.length := by
    cases ps with
    | nil => cases hu
    | cons p ps => simp
  obtain ⟨g, o, ha, _, hc⟩ := h3 hp
  cases ha
  rw [add_at]
  exact persC_read w g ps o hc j u hu
theorem persC_append (ps qs : List P4) : persC (ps ++ qs) = persC ps ++ persC qs := by simp [persC]
theorem grown_refl (w : World) (row : Option Nat) : w.grownBy w row := World.grownBy.refl _ _
set_option maxRecDepth 100000 in
theorem step_append_pers (w : World) {ops : Array Oper} {o : Oper} {a : Act} {K : Act → World → Prop} {Q : Exit → Act → World → Prop} {E : Prop} (hgd : o.guard = none) (s x : Operand)
    (ho : o.op = .call { callee := .builtin .append, args := #[s, x], argTypes := #[38, 38] })
    (base : Nat) (v : Value) (ps : List P4) (hs : a.eval s = v) (hown : w.ownsRow base 111 4 v ps.length (persC ps)) (u : Value) (qs : List P4) (hx : a.eval x = u) (hu : Perss w u qs)
    (hb : ps.length + qs.length ≤ 1000) (hbase : base ≤ w.heap.size)
    (h : ∀ v' w', w'.ownsRow base 111 4 v' (ps ++ qs).length (persC (ps ++ qs)) → w.grownBy w' v.ownBlock → K (a.put o.dst v') w') :
    if Region.wanted o (yielded ops a.tmps) = true then Oper.wp Tryz.prog o a w K Q else E := by
  obtain ⟨i0, hi, hz0, hz1, hz2⟩ := info_parts Tryz.infoPers
  have hw : Region.wanted o (yielded ops a.tmps) = true := by simp [Region.wanted, hgd]
  rw [if_pos hw]
  by_cases hq : 0 < qs.length
  · have hu' := hu
    obtain ⟨a', c', rfl, hc, h3⟩ := hu
    obtain ⟨g, o2, rfl, _⟩ := h3 hq
    refine wp_append_lies w s x 38 ho base 111 i0 _ 4 64 Tryz.underlying38 hi hz0 hz1 hz2 rfl (by decide) v ps.length (persC ps) hs hown ⟨g, o2, none⟩ qs.length c' (persC qs) hx (persC_len qs) hu'.news (persC_one qs) hq (by unfold maxLen; omega) (by omega) hbase w.heap.size rfl ?_
    intro g' cap w' h1 h2 _ _
    refine h _ _ ?_ h2
    rw [List.length_append, persC_append]; exact h1
  · obtain rfl : qs = [] := List.length_eq_zero_iff.1 (by omega)
    obtain ⟨a', c', rfl, hc, _⟩ := hu
    have hown' := hown
    obtain ⟨a2, c2, rfl, hle, _, _⟩ := own_cap hown
    have hsrc : Src Tryz.prog i0.size 38 (.slice a' 0 c') 0 [] w := by
      refine ⟨.inl ⟨_, Tryz.underlying38⟩, fun w' => ?_, ?_, ?_, by simp, by simp⟩
      · simp [Builtin.lenOf]
      · cases a' <;> simp [Builtin.firstCells, loadCells, loadCellsFrom]
      · cases a' <;> simp [Builtin.firstCells, loadCells, loadCellsFrom]
    have hr := run_append_nothing (P := Tryz.prog) w 38 38 o.type 111 i0 Tryz.underlying38 hi a2 ps.length c2 hle (.slice a' 0 c') hsrc
    unfold Oper.wp execOp
    simp only [ho, resolve, invoke, builtin, Sem.run_bind, Sem.run_pure, Result.andThen_ok, List.map_toArray, List.map_cons, List.map_nil, hs, hx]
    simp only [List.length_nil]
    rw [hr]
    refine h _ _ ?_ (grown_refl _ _)
    rw [List.append_nil]; exact hown'
end Go.Proofs.YtafcngdnngpdnaaGreatDoor
