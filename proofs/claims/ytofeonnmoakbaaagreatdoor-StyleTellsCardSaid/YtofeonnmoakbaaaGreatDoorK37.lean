/- The reference's list of persons. Conditions: lengths. -/
import Derived.Test.YtofeonnmoakbaaaGreatDoorK36
import Derived.Test.YtofeonnmoakbaaaGreatDoorK33
import Derived.Test.YtofeonnmoakbaaaGreatDoorK27
import Derived.Deep.RegionHeld3
import Derived.BigQuiet

set_option linter.all false
namespace Go.Proofs.YtofeonnmoakbaaaGreatDoor
open Go.RowKit

def knownK (l : Bs) (k : Nat) : Bool := (langsL.take k).any fun x => x == l
theorem knownK_all (l : Bs) : knownK l 4 = (andOf l).isSome := by
  unfold knownK langsL andOf
  by_cases h1 : l = lEn
  · subst h1; rfl
  by_cases h2 : l = lDe
  · subst h2; rfl
  by_cases h3 : l = lFr
  · subst h3; rfl
  by_cases h4 : l = lEs
  · subst h4; rfl
  rw [if_neg h1, if_neg h2, if_neg h3, if_neg h4]
  have e : ∀ x : Bs, ¬ l = x → (x == l) = false := fun x h => by simpa using fun q => h q.symm
  simp [e _ h1, e _ h2, e _ h3, e _ h4]
theorem knownK_step (l : Bs) (k : Nat) (x : Bs) (h : langsL[k]? = some x) : knownK l (k + 1) = (knownK l k || x == l) := by
  unfold knownK
  obtain ⟨hk, rfl⟩ := List.getElem?_eq_some_iff.1 h
  rw [List.take_succ_eq_append_getElem hk, List.any_append]; simp only [List.any_cons, List.any_nil, Bool.or_false]
theorem rname_full (w : World) (q : P4) (h : size4 q ≤ 10000) : Calls Tryz.prog 104 #[p4V q] w fun e w' => e = .returned (.string (bs (nameOf true q))) ∧ Kept w w' :=
  rfull_any q.1 q.2.1 q.2.2.1 q.2.2.2 w (by unfold size4 at h; simp [bulk]; omega)
theorem rname_short (w : World) (q : P4) (h : size4 q ≤ 10000) : Calls Tryz.prog 105 #[p4V q] w fun e w' => e = .returned (.string (bs (nameOf false q))) ∧ Kept w w' :=
  rshort_any q.1 q.2.1 q.2.2.1 q.2.2.2 w (by unfold size4 at h; simp [bulk]; omega)
theorem lang_cell {w : World} {g : Nat} (h : Blk w g 9 langCells) (k : Nat) (hk : k < 4) : ∃ x, langsL[k]? = some x ∧ w.cell? ⟨g, k, none⟩ = some (.string (bs x)) := by
  rcases lang_cases k hk with rfl | rfl | rfl | rfl
  · exact ⟨_, rfl, h.cell 0 _ rfl⟩
  · exact ⟨_, rfl, h.cell 1 _ rfl⟩
  · exact ⟨_, rfl, h.cell 2 _ rfl⟩
  · exact ⟨_, rfl, h.cell 3 _ rfl⟩

set_option maxRecDepth 100000 in
set_option maxHeartbeats 6400000 in
theorem rplist_ks (v : Value) (ps : List P4) (l : Bs) (m : Nat) (full : Bool) (w : World) (hv : Perss w v ps) (hN : ps.length ≤ 900) (hq : ∀ q ∈ ps, size4 q ≤ 10000) (hk : (andOf l).isSome = true) (hm1 : 1 ≤ m) (hm2 : m < ps.length) :
    Calls Tryz.prog 73 #[v, .string (bs l), .int .i64 m, .bool full] w fun e w' => e = .returned (.string (bs (Lib.join ((ps.map (nameOf full)).take m) sepL ++ [32] ++ (andOf l).getD [] ++ [32] ++ (othersOf l).getD []))) ∧ Kept w w' := by
  obtain ⟨i0, hi, hz0, hz1, hz2⟩ := info_parts Tryz.infoStr
  have HV := Lib.hid hv
  have HQ := Lib.hid hq
  clear hq
  obtain ⟨a, c, rfl, hc, h3⟩ := hv
  clear h3
  have HKN : Hid (knownK l 4 = true) := by show _ = _; rw [knownK_all, hk]
  clear hk
  have hm1' : decide ((m : Int) < 1) = false := by simp; omega
  have hm2' : decide (ps.length ≤ m) = false := by simp; omega
  go_enter Tryz.func73, Tryz.ntmps73
  go_wp2_with fail
  refine (rlangs_any _).mono ?_
  rintro e w1 ⟨rfl, rfl⟩
  have HB := Lib.hid (Blk.new w 9 langCells)
  have HK := Lib.hid (kept_alloc w (.cells langCells 9))
  generalize w.alloc (.cells langCells 9) = w1 at *
  have z := HB.out.lt
  go_wp2_with fail
  go_loop [9, 11] (fun v i => ∃ (k : Nat), k ≤ 4 ∧ i = .int .i64 k ∧ v = .bool (knownK l k)) (fun _ i => 4 - (intOf i).toNat)
  case atStart => exact ⟨0, Nat.zero_le _, rfl, rfl⟩
  case round =>
    obtain ⟨k, hk4, rfl, rfl⟩ := hrel
    by_cases hlt4 : k < 4
    · obtain ⟨x, hx, hcx⟩ := lang_cell HB.out k hlt4
      have HS := Lib.hid (knownK_step l k x hx)
      clear hx
      generalize knownK l k = kb at *
      cases kb
      · cases hxl : (x == l)
        · rw [hxl] at HS
          go_wp2_with fail
          go_round
          case rel => exact ⟨k + 1, by omega, by go_num, by rw [HS.out]; simp⟩
          case measure => simp [intOf]; omega
        · rw [hxl] at HS
          go_wp2_with fail
          go_round
          case rel => exact ⟨k + 1, by omega, by go_num, by rw [HS.out]; simp⟩
          case measure => simp [intOf]; omega
      · go_wp2_with fail
        go_round
        case rel => exact ⟨k + 1, by omega, by go_num, by rw [HS.out]; simp⟩
        case measure => simp [intOf]; omega
    · obtain rfl : k = 4 := by omega
      rw [HKN.out]
      go_wp2_with fail
      go_loopw [12, 13] (fun v i wr => ∃ (k : Nat), k ≤ ps.length ∧ i = .int .i64 k ∧ wr.ownsRow w1.heap.size 9 1 v ((ps.take k).map (nameOf full)).length (strCells ((ps.take k).map (nameOf full))) ∧ Kept w1 wr) (fun _ i _ => ps.length - (intOf i).toNat)
      case atStart => exact ⟨0, Nat.zero_le _, rfl, World.ownsRow_nil _ _ _ _, Kept.refl _⟩
      case round =>
        obtain ⟨k, hkl, rfl, hown, hkr⟩ := hrel
        by_cases hlt : k < ps.length
        · obtain ⟨q, hx⟩ : ∃ x, ps[k]? = some x := ⟨_, List.getElem?_eq_getElem hlt⟩
          obtain ⟨a', c', hv', hc', h3⟩ := (HV.out.kept HK.out).kept hkr
          obtain ⟨rfl, hdead, rfl⟩ := Value.slice.inj hv'
          clear hdead
          obtain ⟨g, o, rfl, hg, hcc⟩ := h3 (by omega)
          obtain ⟨c0, c1, c2, c3⟩ := hcc k q hx
          have hqs := HQ.out q (List.mem_of_getElem? hx)
          have HF := Lib.hid (map_take (nameOf full) ps k q hx)
          have hfl : ((ps.take k).map (nameOf full)).length ≤ k := by simp; omega
          generalize (ps.take k).map (nameOf full) = ws at *
          have hsz : w1.heap.size ≤ wr.heap.size := hkr.size
          have HR := Lib.hid hkr
          have HW := Lib.hid hown
          have HNF := Lib.hid (fun w => rname_full w q hqs)
          have HNS := Lib.hid (fun w => rname_short w q hqs)
          clear hkr hx hown hcc h3 hv' hc'
          obtain ⟨qf, qg, qp, qs⟩ := q
          simp only at c0 c1 c2 c3
          cases full
          · go_wp2_with fail
            refine (HNS.out _).mono ?_
            rintro e w2 ⟨rfl, hk2⟩
            generalize nameOf false (qf, qg, qp, qs) = nm at *
            have hown := own_kept HW.out hk2
            have HR2 := Lib.hid (HR.out.trans hk2)
            have hsz2 : w1.heap.size ≤ w2.heap.size := HR2.out.size
            clear hk2 HNF HNS
            go_wp2_with (at_builtin; refine wpList_append_own _ rfl _ _ 51 rfl w1.heap.size 9 i0 (.string ⟨#[]⟩) 1 16 Tryz.underlying51 hi hz0 hz1 hz2 rfl (by decide) _ _ _ rfl (hown.alloc _) ⟨w2.heap.size, 0, none⟩ 1 1 [.string (bs nm)] rfl rfl ?_ ?_ ?_ ?_ ?_ ?_)
            · exact new_cells _ #[.string (bs nm)] _ _ (by simp)
            · intro u hu; simp at hu; subst hu; rfl
            · unfold maxLen; omega
            · omega
            · simp; omega
            intro v' w3 hown2 hgrow _
            have HB2 := Lib.hid ((HR2.out.trans (kept_alloc w2 _)).trans' (grown_below (hown.alloc _) hgrow (by simp; omega)))
            rw [← strCells_snoc] at hown2
            have HO := Lib.hid hown2
            clear hown2 hgrow hown
            go_wp2_with fail
            go_roundw
            case rel => exact ⟨k + 1, by omega, by go_num, by rw [HF.out]; simpa using HO.out, HB2.out⟩
            case measure => simp [intOf]; omega
          · go_wp2_with fail
            refine (HNF.out _).mono ?_
            rintro e w2 ⟨rfl, hk2⟩
            generalize nameOf true (qf, qg, qp, qs) = nm at *
            have hown := own_kept HW.out hk2
            have HR2 := Lib.hid (HR.out.trans hk2)
            have hsz2 : w1.heap.size ≤ w2.heap.size := HR2.out.size
            clear hk2 HNF HNS
            go_wp2_with (at_builtin; refine wpList_append_own _ rfl _ _ 51 rfl w1.heap.size 9 i0 (.string ⟨#[]⟩) 1 16 Tryz.underlying51 hi hz0 hz1 hz2 rfl (by decide) _ _ _ rfl (hown.alloc _) ⟨w2.heap.size, 0, none⟩ 1 1 [.string (bs nm)] rfl rfl ?_ ?_ ?_ ?_ ?_ ?_)
            · exact new_cells _ #[.string (bs nm)] _ _ (by simp)
            · intro u hu; simp at hu; subst hu; rfl
            · unfold maxLen; omega
            · omega
            · simp; omega
            intro v' w3 hown2 hgrow _
            have HB2 := Lib.hid ((HR2.out.trans (kept_alloc w2 _)).trans' (grown_below (hown.alloc _) hgrow (by simp; omega)))
            rw [← strCells_snoc] at hown2
            have HO := Lib.hid hown2
            clear hown2 hgrow hown
            go_wp2_with fail
            go_roundw
            case rel => exact ⟨k + 1, by omega, by go_num, by rw [HF.out]; simpa using HO.out, HB2.out⟩
            case measure => simp [intOf]; omega
        · have HW := Lib.hid (Strs.own hown)
          have HR := Lib.hid (HK.out.trans hkr)
          rw [List.take_of_length_le (by omega)] at HW
          have hnl : (ps.map (nameOf full)).length ≤ 900 := by rw [List.length_map]; exact hN
          have HNM := Lib.hid (names_le full ps HQ.out)
          clear hown hkr
          have HA := Lib.hid (fun w => rterm_and l 1 w)
          have HO := Lib.hid (fun w => rterm_others l 2 w)
          go_wp2_with fail
          simp only [mk_bs]
          go_loop [14, 15] (fun s i => ∃ j : Nat, j ≤ m ∧ i = .int .i64 j ∧ s = .string (bs (Lib.join ((ps.map (nameOf full)).take j) sepL))) (fun _ i => m - (intOf i).toNat)
          case atStart => exact ⟨0, Nat.zero_le _, rfl, by simp [Lib.join_nil]⟩
          case round =>
            obtain ⟨j, hj, rfl, rfl⟩ := hrel
            have hjm := join_max sepL 10004 ((ps.map (nameOf full)).take j) (fun x hx => HNM.out x (List.mem_of_mem_take hx))
            have hjl : (Lib.join ((ps.map (nameOf full)).take j) sepL).length ≤ 10000000 := by
              have e : sepL.length = 2 := rfl
              rw [e] at hjm
              have h2 : ((ps.map (nameOf full)).take j).length ≤ 900 := by rw [List.length_take]; omega
              have := Nat.mul_le_mul_right (10004 + 2) h2
              omega
            clear hjm
            by_cases hjlt : j < m
            · obtain ⟨x, hx⟩ : ∃ x, (ps.map (nameOf full))[j]? = some x := ⟨_, List.getElem?_eq_getElem (by rw [List.length_map]; omega)⟩
              obtain ⟨a', c', hv', hc', h3⟩ := HW.out
              subst hv'
              clear hc'
              obtain ⟨g2, o2, rfl, hg2, hcc⟩ := h3 (by rw [List.length_map]; omega)
              have c0 := hcc j x hx
              have hxm := HNM.out x (List.mem_of_getElem? hx)
              have HJ := Lib.hid (join_step (ps.map (nameOf full)) j x hx)
              have hml : (ps.map (nameOf full)).length = ps.length := List.length_map _
              have hj9 : j < (ps.map (nameOf full)).length := by omega
              clear hcc h3 hx hml
              generalize ps.map (nameOf full) = ns at *
              generalize hjj : Lib.join (ns.take j) sepL = jj at *
              have HJJ := Lib.hid hjj
              clear hjj
              by_cases h0 : j = 0
              · subst h0
                obtain rfl : jj = [] := by rw [← HJJ.out]; simp [Lib.join_nil]
                rw [Nat.add_zero] at c0
                go_wp2_with fail
                go_round
                case rel => exact ⟨1, by omega, by go_num, by rw [HJ.out]; simp⟩
                case measure => simp [intOf]; omega
              · have hpos : 0 < j := by omega
                rw [if_neg h0] at HJ
                clear h0
                go_wp2_with fail
                go_round
                case rel => exact ⟨j + 1, by omega, by go_num, by rw [HJ.out]; simp [sepL]⟩
                case measure => simp [intOf]; omega
            · obtain rfl : j = m := by omega
              have hal := andOf_len l
              have hol := othersOf_len l
              obtain ⟨an, HAN⟩ : ∃ an, Hid ((andOf l).getD [] = an) := ⟨_, rfl⟩
              rw [HAN.out] at HA hal
              obtain ⟨an1, HAN1⟩ : ∃ an, Hid ((andOf l).isSome = an) := ⟨_, rfl⟩
              rw [HAN1.out] at HA
              obtain ⟨ot, HOT⟩ : ∃ an, Hid ((othersOf l).getD [] = an) := ⟨_, rfl⟩
              rw [HOT.out] at HO hol
              obtain ⟨ot1, HOT1⟩ : ∃ an, Hid ((othersOf l).isSome = an) := ⟨_, rfl⟩
              rw [HOT1.out] at HO
              obtain ⟨jj, HJJ⟩ : ∃ an, Hid (Lib.join ((ps.map (nameOf full)).take j) sepL = an) := ⟨_, rfl⟩
              rw [HJJ.out] at hjl ⊢
              go_wp2_with fail
              refine (HA.out _).mono ?_
              rintro e w2 ⟨rfl, hk2⟩
              have HR2 := Lib.hid (HR.out.trans hk2)
              clear hk2
              go_wp2_with fail
              refine (HO.out _).mono ?_
              rintro e w3 ⟨rfl, hk3⟩
              have HR3 := Lib.hid (HR2.out.trans hk3)
              clear hk3
              go_wp2_with fail
              go_ret
              exact ⟨ret_bs (by rw [HAN.out, HOT.out, HJJ.out]; simp), HR3.out⟩

set_option maxRecDepth 100000 in
set_option maxHeartbeats 6400000 in
theorem rplist_kn (v : Value) (ps : List P4) (l : Bs) (most : Int) (full : Bool) (w : World) (hv : Perss w v ps) (hN : ps.length ≤ 900) (hq : ∀ q ∈ ps, size4 q ≤ 10000) (hk : (andOf l).isSome = true) (hm : ¬ (1 ≤ most ∧ most < ps.length)) (hmr : -9223372036854775808 ≤ most ∧ most ≤ 9223372036854775807) :
    Calls Tryz.prog 73 #[v, .string (bs l), .int .i64 most, .bool full] w fun e w' => e = .returned (.string (bs (listL l (ps.map (nameOf full))))) ∧ Kept w w' := by
  obtain ⟨i0, hi, hz0, hz1, hz2⟩ := info_parts Tryz.infoStr
  have HV := Lib.hid hv
  have HQ := Lib.hid hq
  clear hq
  obtain ⟨a, c, rfl, hc, h3⟩ := hv
  clear h3
  have HKN : Hid (knownK l 4 = true) := by show _ = _; rw [knownK_all, hk]
  clear hk
  have hmc : (decide (most < 1) = true) ∨ (decide (most < 1) = false ∧ decide ((ps.length : Int) ≤ most) = true ∧ (ps.length : Int) ≤ most ∧ 1 ≤ most) := by
    by_cases h : most < 1
    · left; simpa using h
    · right; simp; omega
  clear hm
  go_enter Tryz.func73, Tryz.ntmps73
  go_wp2_with fail
  refine (rlangs_any _).mono ?_
  rintro e w1 ⟨rfl, rfl⟩
  have HB := Lib.hid (Blk.new w 9 langCells)
  have HK := Lib.hid (kept_alloc w (.cells langCells 9))
  generalize w.alloc (.cells langCells 9) = w1 at *
  have z := HB.out.lt
  go_wp2_with fail
  go_loop [9, 11] (fun v i => ∃ (k : Nat), k ≤ 4 ∧ i = .int .i64 k ∧ v = .bool (knownK l k)) (fun _ i => 4 - (intOf i).toNat)
  case atStart => exact ⟨0, Nat.zero_le _, rfl, rfl⟩
  case round =>
    obtain ⟨k, hk4, rfl, rfl⟩ := hrel
    by_cases hlt4 : k < 4
    · obtain ⟨x, hx, hcx⟩ := lang_cell HB.out k hlt4
      have HS := Lib.hid (knownK_step l k x hx)
      clear hx
      generalize knownK l k = kb at *
      cases kb
      · cases hxl : (x == l)
        · rw [hxl] at HS
          go_wp2_with fail
          go_round
          case rel => exact ⟨k + 1, by omega, by go_num, by rw [HS.out]; simp⟩
          case measure => simp [intOf]; omega
        · rw [hxl] at HS
          go_wp2_with fail
          go_round
          case rel => exact ⟨k + 1, by omega, by go_num, by rw [HS.out]; simp⟩
          case measure => simp [intOf]; omega
      · go_wp2_with fail
        go_round
        case rel => exact ⟨k + 1, by omega, by go_num, by rw [HS.out]; simp⟩
        case measure => simp [intOf]; omega
    · obtain rfl : k = 4 := by omega
      rw [HKN.out]
      rcases hmc with hm1 | ⟨hm1, hm2, hm3, hm4⟩
      · go_wp2_with fail
        go_loopw [12, 13] (fun v i wr => ∃ (k : Nat), k ≤ ps.length ∧ i = .int .i64 k ∧ wr.ownsRow w1.heap.size 9 1 v ((ps.take k).map (nameOf full)).length (strCells ((ps.take k).map (nameOf full))) ∧ Kept w1 wr) (fun _ i _ => ps.length - (intOf i).toNat)
        case atStart => exact ⟨0, Nat.zero_le _, rfl, World.ownsRow_nil _ _ _ _, Kept.refl _⟩
        case round =>
          obtain ⟨k, hkl, rfl, hown, hkr⟩ := hrel
          by_cases hlt : k < ps.length
          · obtain ⟨q, hx⟩ : ∃ x, ps[k]? = some x := ⟨_, List.getElem?_eq_getElem hlt⟩
            obtain ⟨a', c', hv', hc', h3⟩ := (HV.out.kept HK.out).kept hkr
            obtain ⟨rfl, hdead, rfl⟩ := Value.slice.inj hv'
            clear hdead
            obtain ⟨g, o, rfl, hg, hcc⟩ := h3 (by omega)
            obtain ⟨c0, c1, c2, c3⟩ := hcc k q hx
            have hqs := HQ.out q (List.mem_of_getElem? hx)
            have HF := Lib.hid (map_take (nameOf full) ps k q hx)
            have hfl : ((ps.take k).map (nameOf full)).length ≤ k := by simp; omega
            generalize (ps.take k).map (nameOf full) = ws at *
            have hsz : w1.heap.size ≤ wr.heap.size := hkr.size
            have HR := Lib.hid hkr
            have HW := Lib.hid hown
            have HNF := Lib.hid (fun w => rname_full w q hqs)
            have HNS := Lib.hid (fun w => rname_short w q hqs)
            clear hkr hx hown hcc h3 hv' hc'
            obtain ⟨qf, qg, qp, qs⟩ := q
            simp only at c0 c1 c2 c3
            cases full
            · go_wp2_with fail
              refine (HNS.out _).mono ?_
              rintro e w2 ⟨rfl, hk2⟩
              generalize nameOf false (qf, qg, qp, qs) = nm at *
              have hown := own_kept HW.out hk2
              have HR2 := Lib.hid (HR.out.trans hk2)
              have hsz2 : w1.heap.size ≤ w2.heap.size := HR2.out.size
              clear hk2 HNF HNS
              go_wp2_with (at_builtin; refine wpList_append_own _ rfl _ _ 51 rfl w1.heap.size 9 i0 (.string ⟨#[]⟩) 1 16 Tryz.underlying51 hi hz0 hz1 hz2 rfl (by decide) _ _ _ rfl (hown.alloc _) ⟨w2.heap.size, 0, none⟩ 1 1 [.string (bs nm)] rfl rfl ?_ ?_ ?_ ?_ ?_ ?_)
              · exact new_cells _ #[.string (bs nm)] _ _ (by simp)
              · intro u hu; simp at hu; subst hu; rfl
              · unfold maxLen; omega
              · omega
              · simp; omega
              intro v' w3 hown2 hgrow _
              have HB2 := Lib.hid ((HR2.out.trans (kept_alloc w2 _)).trans' (grown_below (hown.alloc _) hgrow (by simp; omega)))
              rw [← strCells_snoc] at hown2
              have HO := Lib.hid hown2
              clear hown2 hgrow hown
              go_wp2_with fail
              go_roundw
              case rel => exact ⟨k + 1, by omega, by go_num, by rw [HF.out]; simpa using HO.out, HB2.out⟩
              case measure => simp [intOf]; omega
            · go_wp2_with fail
              refine (HNF.out _).mono ?_
              rintro e w2 ⟨rfl, hk2⟩
              generalize nameOf true (qf, qg, qp, qs) = nm at *
              have hown := own_kept HW.out hk2
              have HR2 := Lib.hid (HR.out.trans hk2)
              have hsz2 : w1.heap.size ≤ w2.heap.size := HR2.out.size
              clear hk2 HNF HNS
              go_wp2_with (at_builtin; refine wpList_append_own _ rfl _ _ 51 rfl w1.heap.size 9 i0 (.string ⟨#[]⟩) 1 16 Tryz.underlying51 hi hz0 hz1 hz2 rfl (by decide) _ _ _ rfl (hown.alloc _) ⟨w2.heap.size, 0, none⟩ 1 1 [.string (bs nm)] rfl rfl ?_ ?_ ?_ ?_ ?_ ?_)
              · exact new_cells _ #[.string (bs nm)] _ _ (by simp)
              · intro u hu; simp at hu; subst hu; rfl
              · unfold maxLen; omega
              · omega
              · simp; omega
              intro v' w3 hown2 hgrow _
              have HB2 := Lib.hid ((HR2.out.trans (kept_alloc w2 _)).trans' (grown_below (hown.alloc _) hgrow (by simp; omega)))
              rw [← strCells_snoc] at hown2
              have HO := Lib.hid hown2
              clear hown2 hgrow hown
              go_wp2_with fail
              go_roundw
              case rel => exact ⟨k + 1, by omega, by go_num, by rw [HF.out]; simpa using HO.out, HB2.out⟩
              case measure => simp [intOf]; omega
          · have HW := Lib.hid (Strs.own hown)
            have HR := Lib.hid (HK.out.trans hkr)
            rw [List.take_of_length_le (by omega)] at HW
            have hnl : (ps.map (nameOf full)).length ≤ 900 := by rw [List.length_map]; exact hN
            have HNM := Lib.hid (names_le full ps HQ.out)
            clear hown hkr
            go_wp2_with fail
            refine (rllist_any l _ _ _ HW.out hnl HNM.out).mono ?_
            rintro e w2 ⟨rfl, hk2⟩
            have HR2 := Lib.hid (HR.out.trans hk2)
            clear hk2
            go_wp2_with fail
            go_ret
            exact ⟨rfl, HR2.out⟩
      · go_wp2_with fail
        go_loopw [12, 13] (fun v i wr => ∃ (k : Nat), k ≤ ps.length ∧ i = .int .i64 k ∧ wr.ownsRow w1.heap.size 9 1 v ((ps.take k).map (nameOf full)).length (strCells ((ps.take k).map (nameOf full))) ∧ Kept w1 wr) (fun _ i _ => ps.length - (intOf i).toNat)
        case atStart => exact ⟨0, Nat.zero_le _, rfl, World.ownsRow_nil _ _ _ _, Kept.refl _⟩
        case round =>
          obtain ⟨k, hkl, rfl, hown, hkr⟩ := hrel
          by_cases hlt : k < ps.length
          · obtain ⟨q, hx⟩ : ∃ x, ps[k]? = some x := ⟨_, List.getElem?_eq_getElem hlt⟩
            obtain ⟨a', c', hv', hc', h3⟩ := (HV.out.kept HK.out).kept hkr
            obtain ⟨rfl, hdead, rfl⟩ := Value.slice.inj hv'
            clear hdead
            obtain ⟨g, o, rfl, hg, hcc⟩ := h3 (by omega)
            obtain ⟨c0, c1, c2, c3⟩ := hcc k q hx
            have hqs := HQ.out q (List.mem_of_getElem? hx)
            have HF := Lib.hid (map_take (nameOf full) ps k q hx)
            have hfl : ((ps.take k).map (nameOf full)).length ≤ k := by simp; omega
            generalize (ps.take k).map (nameOf full) = ws at *
            have hsz : w1.heap.size ≤ wr.heap.size := hkr.size
            have HR := Lib.hid hkr
            have HW := Lib.hid hown
            have HNF := Lib.hid (fun w => rname_full w q hqs)
            have HNS := Lib.hid (fun w => rname_short w q hqs)
            clear hkr hx hown hcc h3 hv' hc'
            obtain ⟨qf, qg, qp, qs⟩ := q
            simp only at c0 c1 c2 c3
            cases full
            · go_wp2_with fail
              refine (HNS.out _).mono ?_
              rintro e w2 ⟨rfl, hk2⟩
              generalize nameOf false (qf, qg, qp, qs) = nm at *
              have hown := own_kept HW.out hk2
              have HR2 := Lib.hid (HR.out.trans hk2)
              have hsz2 : w1.heap.size ≤ w2.heap.size := HR2.out.size
              clear hk2 HNF HNS
              go_wp2_with (at_builtin; refine wpList_append_own _ rfl _ _ 51 rfl w1.heap.size 9 i0 (.string ⟨#[]⟩) 1 16 Tryz.underlying51 hi hz0 hz1 hz2 rfl (by decide) _ _ _ rfl (hown.alloc _) ⟨w2.heap.size, 0, none⟩ 1 1 [.string (bs nm)] rfl rfl ?_ ?_ ?_ ?_ ?_ ?_)
              · exact new_cells _ #[.string (bs nm)] _ _ (by simp)
              · intro u hu; simp at hu; subst hu; rfl
              · unfold maxLen; omega
              · omega
              · simp; omega
              intro v' w3 hown2 hgrow _
              have HB2 := Lib.hid ((HR2.out.trans (kept_alloc w2 _)).trans' (grown_below (hown.alloc _) hgrow (by simp; omega)))
              rw [← strCells_snoc] at hown2
              have HO := Lib.hid hown2
              clear hown2 hgrow hown
              go_wp2_with fail
              go_roundw
              case rel => exact ⟨k + 1, by omega, by go_num, by rw [HF.out]; simpa using HO.out, HB2.out⟩
              case measure => simp [intOf]; omega
            · go_wp2_with fail
              refine (HNF.out _).mono ?_
              rintro e w2 ⟨rfl, hk2⟩
              generalize nameOf true (qf, qg, qp, qs) = nm at *
              have hown := own_kept HW.out hk2
              have HR2 := Lib.hid (HR.out.trans hk2)
              have hsz2 : w1.heap.size ≤ w2.heap.size := HR2.out.size
              clear hk2 HNF HNS
              go_wp2_with (at_builtin; refine wpList_append_own _ rfl _ _ 51 rfl w1.heap.size 9 i0 (.string ⟨#[]⟩) 1 16 Tryz.underlying51 hi hz0 hz1 hz2 rfl (by decide) _ _ _ rfl (hown.alloc _) ⟨w2.heap.size, 0, none⟩ 1 1 [.string (bs nm)] rfl rfl ?_ ?_ ?_ ?_ ?_ ?_)
              · exact new_cells _ #[.string (bs nm)] _ _ (by simp)
              · intro u hu; simp at hu; subst hu; rfl
              · unfold maxLen; omega
              · omega
              · simp; omega
              intro v' w3 hown2 hgrow _
              have HB2 := Lib.hid ((HR2.out.trans (kept_alloc w2 _)).trans' (grown_below (hown.alloc _) hgrow (by simp; omega)))
              rw [← strCells_snoc] at hown2
              have HO := Lib.hid hown2
              clear hown2 hgrow hown
              go_wp2_with fail
              go_roundw
              case rel => exact ⟨k + 1, by omega, by go_num, by rw [HF.out]; simpa using HO.out, HB2.out⟩
              case measure => simp [intOf]; omega
          · have HW := Lib.hid (Strs.own hown)
            have HR := Lib.hid (HK.out.trans hkr)
            rw [List.take_of_length_le (by omega)] at HW
            have hnl : (ps.map (nameOf full)).length ≤ 900 := by rw [List.length_map]; exact hN
            have HNM := Lib.hid (names_le full ps HQ.out)
            clear hown hkr
            go_wp2_with fail
            refine (rllist_any l _ _ _ HW.out hnl HNM.out).mono ?_
            rintro e w2 ⟨rfl, hk2⟩
            have HR2 := Lib.hid (HR.out.trans hk2)
            clear hk2
            go_wp2_with fail
            go_ret
            exact ⟨rfl, HR2.out⟩

set_option maxRecDepth 100000 in
set_option maxHeartbeats 6400000 in
theorem rplist_us (v : Value) (ps : List P4) (l : Bs) (m : Nat) (full : Bool) (w : World) (hv : Perss w v ps) (hN : ps.length ≤ 900) (hq : ∀ q ∈ ps, size4 q ≤ 10000) (hk : (andOf l).isSome = false) (hm1 : 1 ≤ m) (hm2 : m < ps.length) :
    Calls Tryz.prog 73 #[v, .string (bs l), .int .i64 m, .bool full] w fun e w' => e = .returned (.string (bs (Lib.join ((ps.map (nameOf full)).take m) sepL ++ [32] ++ (andOf lEn).getD [] ++ [32] ++ (othersOf lEn).getD []))) ∧ Kept w w' := by
  obtain ⟨i0, hi, hz0, hz1, hz2⟩ := info_parts Tryz.infoStr
  have HV := Lib.hid hv
  have HQ := Lib.hid hq
  clear hq
  obtain ⟨a, c, rfl, hc, h3⟩ := hv
  clear h3
  have HKN : Hid (knownK l 4 = false) := by show _ = _; rw [knownK_all, hk]
  clear hk
  have hm1' : decide ((m : Int) < 1) = false := by simp; omega
  have hm2' : decide (ps.length ≤ m) = false := by simp; omega
  go_enter Tryz.func73, Tryz.ntmps73
  go_wp2_with fail
  refine (rlangs_any _).mono ?_
  rintro e w1 ⟨rfl, rfl⟩
  have HB := Lib.hid (Blk.new w 9 langCells)
  have HK := Lib.hid (kept_alloc w (.cells langCells 9))
  generalize w.alloc (.cells langCells 9) = w1 at *
  have z := HB.out.lt
  go_wp2_with fail
  go_loop [9, 11] (fun v i => ∃ (k : Nat), k ≤ 4 ∧ i = .int .i64 k ∧ v = .bool (knownK l k)) (fun _ i => 4 - (intOf i).toNat)
  case atStart => exact ⟨0, Nat.zero_le _, rfl, rfl⟩
  case round =>
    obtain ⟨k, hk4, rfl, rfl⟩ := hrel
    by_cases hlt4 : k < 4
    · obtain ⟨x, hx, hcx⟩ := lang_cell HB.out k hlt4
      have HS := Lib.hid (knownK_step l k x hx)
      clear hx
      generalize knownK l k = kb at *
      cases kb
      · cases hxl : (x == l)
        · rw [hxl] at HS
          go_wp2_with fail
          go_round
          case rel => exact ⟨k + 1, by omega, by go_num, by rw [HS.out]; simp⟩
          case measure => simp [intOf]; omega
        · rw [hxl] at HS
          go_wp2_with fail
          go_round
          case rel => exact ⟨k + 1, by omega, by go_num, by rw [HS.out]; simp⟩
          case measure => simp [intOf]; omega
      · go_wp2_with fail
        go_round
        case rel => exact ⟨k + 1, by omega, by go_num, by rw [HS.out]; simp⟩
        case measure => simp [intOf]; omega
    · obtain rfl : k = 4 := by omega
      rw [HKN.out]
      go_wp2_with fail
      try simp only [mk_bs]
      go_loopw [12, 13] (fun v i wr => ∃ (k : Nat), k ≤ ps.length ∧ i = .int .i64 k ∧ wr.ownsRow w1.heap.size 9 1 v ((ps.take k).map (nameOf full)).length (strCells ((ps.take k).map (nameOf full))) ∧ Kept w1 wr) (fun _ i _ => ps.length - (intOf i).toNat)
      case atStart => exact ⟨0, Nat.zero_le _, rfl, World.ownsRow_nil _ _ _ _, Kept.refl _⟩
      case round =>
        obtain ⟨k, hkl, rfl, hown, hkr⟩ := hrel
        by_cases hlt : k < ps.length
        · obtain ⟨q, hx⟩ : ∃ x, ps[k]? = some x := ⟨_, List.getElem?_eq_getElem hlt⟩
          obtain ⟨a', c', hv', hc', h3⟩ := (HV.out.kept HK.out).kept hkr
          obtain ⟨rfl, hdead, rfl⟩ := Value.slice.inj hv'
          clear hdead
          obtain ⟨g, o, rfl, hg, hcc⟩ := h3 (by omega)
          obtain ⟨c0, c1, c2, c3⟩ := hcc k q hx
          have hqs := HQ.out q (List.mem_of_getElem? hx)
          have HF := Lib.hid (map_take (nameOf full) ps k q hx)
          have hfl : ((ps.take k).map (nameOf full)).length ≤ k := by simp; omega
          generalize (ps.take k).map (nameOf full) = ws at *
          have hsz : w1.heap.size ≤ wr.heap.size := hkr.size
          have HR := Lib.hid hkr
          have HW := Lib.hid hown
          have HNF := Lib.hid (fun w => rname_full w q hqs)
          have HNS := Lib.hid (fun w => rname_short w q hqs)
          clear hkr hx hown hcc h3 hv' hc'
          obtain ⟨qf, qg, qp, qs⟩ := q
          simp only at c0 c1 c2 c3
          cases full
          · go_wp2_with fail
            refine (HNS.out _).mono ?_
            rintro e w2 ⟨rfl, hk2⟩
            generalize nameOf false (qf, qg, qp, qs) = nm at *
            have hown := own_kept HW.out hk2
            have HR2 := Lib.hid (HR.out.trans hk2)
            have hsz2 : w1.heap.size ≤ w2.heap.size := HR2.out.size
            clear hk2 HNF HNS
            go_wp2_with (at_builtin; refine wpList_append_own _ rfl _ _ 51 rfl w1.heap.size 9 i0 (.string ⟨#[]⟩) 1 16 Tryz.underlying51 hi hz0 hz1 hz2 rfl (by decide) _ _ _ rfl (hown.alloc _) ⟨w2.heap.size, 0, none⟩ 1 1 [.string (bs nm)] rfl rfl ?_ ?_ ?_ ?_ ?_ ?_)
            · exact new_cells _ #[.string (bs nm)] _ _ (by simp)
            · intro u hu; simp at hu; subst hu; rfl
            · unfold maxLen; omega
            · omega
            · simp; omega
            intro v' w3 hown2 hgrow _
            have HB2 := Lib.hid ((HR2.out.trans (kept_alloc w2 _)).trans' (grown_below (hown.alloc _) hgrow (by simp; omega)))
            rw [← strCells_snoc] at hown2
            have HO := Lib.hid hown2
            clear hown2 hgrow hown
            go_wp2_with fail
            go_roundw
            case rel => exact ⟨k + 1, by omega, by go_num, by rw [HF.out]; simpa using HO.out, HB2.out⟩
            case measure => simp [intOf]; omega
          · go_wp2_with fail
            refine (HNF.out _).mono ?_
            rintro e w2 ⟨rfl, hk2⟩
            generalize nameOf true (qf, qg, qp, qs) = nm at *
            have hown := own_kept HW.out hk2
            have HR2 := Lib.hid (HR.out.trans hk2)
            have hsz2 : w1.heap.size ≤ w2.heap.size := HR2.out.size
            clear hk2 HNF HNS
            go_wp2_with (at_builtin; refine wpList_append_own _ rfl _ _ 51 rfl w1.heap.size 9 i0 (.string ⟨#[]⟩) 1 16 Tryz.underlying51 hi hz0 hz1 hz2 rfl (by decide) _ _ _ rfl (hown.alloc _) ⟨w2.heap.size, 0, none⟩ 1 1 [.string (bs nm)] rfl rfl ?_ ?_ ?_ ?_ ?_ ?_)
            · exact new_cells _ #[.string (bs nm)] _ _ (by simp)
            · intro u hu; simp at hu; subst hu; rfl
            · unfold maxLen; omega
            · omega
            · simp; omega
            intro v' w3 hown2 hgrow _
            have HB2 := Lib.hid ((HR2.out.trans (kept_alloc w2 _)).trans' (grown_below (hown.alloc _) hgrow (by simp; omega)))
            rw [← strCells_snoc] at hown2
            have HO := Lib.hid hown2
            clear hown2 hgrow hown
            go_wp2_with fail
            go_roundw
            case rel => exact ⟨k + 1, by omega, by go_num, by rw [HF.out]; simpa using HO.out, HB2.out⟩
            case measure => simp [intOf]; omega
        · have HW := Lib.hid (Strs.own hown)
          have HR := Lib.hid (HK.out.trans hkr)
          rw [List.take_of_length_le (by omega)] at HW
          have hnl : (ps.map (nameOf full)).length ≤ 900 := by rw [List.length_map]; exact hN
          have HNM := Lib.hid (names_le full ps HQ.out)
          clear hown hkr
          have HA := Lib.hid (fun w => rterm_and lEn 1 w)
          have HO := Lib.hid (fun w => rterm_others lEn 2 w)
          go_wp2_with fail
          simp only [mk_bs]
          go_loop [14, 15] (fun s i => ∃ j : Nat, j ≤ m ∧ i = .int .i64 j ∧ s = .string (bs (Lib.join ((ps.map (nameOf full)).take j) sepL))) (fun _ i => m - (intOf i).toNat)
          case atStart => exact ⟨0, Nat.zero_le _, rfl, by simp [Lib.join_nil]⟩
          case round =>
            obtain ⟨j, hj, rfl, rfl⟩ := hrel
            have hjm := join_max sepL 10004 ((ps.map (nameOf full)).take j) (fun x hx => HNM.out x (List.mem_of_mem_take hx))
            have hjl : (Lib.join ((ps.map (nameOf full)).take j) sepL).length ≤ 10000000 := by
              have e : sepL.length = 2 := rfl
              rw [e] at hjm
              have h2 : ((ps.map (nameOf full)).take j).length ≤ 900 := by rw [List.length_take]; omega
              have := Nat.mul_le_mul_right (10004 + 2) h2
              omega
            clear hjm
            by_cases hjlt : j < m
            · obtain ⟨x, hx⟩ : ∃ x, (ps.map (nameOf full))[j]? = some x := ⟨_, List.getElem?_eq_getElem (by rw [List.length_map]; omega)⟩
              obtain ⟨a', c', hv', hc', h3⟩ := HW.out
              subst hv'
              clear hc'
              obtain ⟨g2, o2, rfl, hg2, hcc⟩ := h3 (by rw [List.length_map]; omega)
              have c0 := hcc j x hx
              have hxm := HNM.out x (List.mem_of_getElem? hx)
              have HJ := Lib.hid (join_step (ps.map (nameOf full)) j x hx)
              have hml : (ps.map (nameOf full)).length = ps.length := List.length_map _
              have hj9 : j < (ps.map (nameOf full)).length := by omega
              clear hcc h3 hx hml
              generalize ps.map (nameOf full) = ns at *
              generalize hjj : Lib.join (ns.take j) sepL = jj at *
              have HJJ := Lib.hid hjj
              clear hjj
              by_cases h0 : j = 0
              · subst h0
                obtain rfl : jj = [] := by rw [← HJJ.out]; simp [Lib.join_nil]
                rw [Nat.add_zero] at c0
                go_wp2_with fail
                go_round
                case rel => exact ⟨1, by omega, by go_num, by rw [HJ.out]; simp⟩
                case measure => simp [intOf]; omega
              · have hpos : 0 < j := by omega
                rw [if_neg h0] at HJ
                clear h0
                go_wp2_with fail
                go_round
                case rel => exact ⟨j + 1, by omega, by go_num, by rw [HJ.out]; simp [sepL]⟩
                case measure => simp [intOf]; omega
            · obtain rfl : j = m := by omega
              have hal := andOf_len lEn
              have hol := othersOf_len lEn
              obtain ⟨an, HAN⟩ : ∃ an, Hid ((andOf lEn).getD [] = an) := ⟨_, rfl⟩
              rw [HAN.out] at HA hal
              obtain ⟨an1, HAN1⟩ : ∃ an, Hid ((andOf lEn).isSome = an) := ⟨_, rfl⟩
              rw [HAN1.out] at HA
              obtain ⟨ot, HOT⟩ : ∃ an, Hid ((othersOf lEn).getD [] = an) := ⟨_, rfl⟩
              rw [HOT.out] at HO hol
              obtain ⟨ot1, HOT1⟩ : ∃ an, Hid ((othersOf lEn).isSome = an) := ⟨_, rfl⟩
              rw [HOT1.out] at HO
              obtain ⟨jj, HJJ⟩ : ∃ an, Hid (Lib.join ((ps.map (nameOf full)).take j) sepL = an) := ⟨_, rfl⟩
              rw [HJJ.out] at hjl ⊢
              go_wp2_with fail
              refine (HA.out _).mono ?_
              rintro e w2 ⟨rfl, hk2⟩
              have HR2 := Lib.hid (HR.out.trans hk2)
              clear hk2
              go_wp2_with fail
              refine (HO.out _).mono ?_
              rintro e w3 ⟨rfl, hk3⟩
              have HR3 := Lib.hid (HR2.out.trans hk3)
              clear hk3
              go_wp2_with fail
              go_ret
              exact ⟨ret_bs (by rw [HAN.out, HOT.out, HJJ.out]; simp), HR3.out⟩

set_option maxRecDepth 100000 in
set_option maxHeartbeats 6400000 in
theorem rplist_un (v : Value) (ps : List P4) (l : Bs) (most : Int) (full : Bool) (w : World) (hv : Perss w v ps) (hN : ps.length ≤ 900) (hq : ∀ q ∈ ps, size4 q ≤ 10000) (hk : (andOf l).isSome = false) (hm : ¬ (1 ≤ most ∧ most < ps.length)) (hmr : -9223372036854775808 ≤ most ∧ most ≤ 9223372036854775807) :
    Calls Tryz.prog 73 #[v, .string (bs l), .int .i64 most, .bool full] w fun e w' => e = .returned (.string (bs (listL lEn (ps.map (nameOf full))))) ∧ Kept w w' := by
  obtain ⟨i0, hi, hz0, hz1, hz2⟩ := info_parts Tryz.infoStr
  have HV := Lib.hid hv
  have HQ := Lib.hid hq
  clear hq
  obtain ⟨a, c, rfl, hc, h3⟩ := hv
  clear h3
  have HKN : Hid (knownK l 4 = false) := by show _ = _; rw [knownK_all, hk]
  clear hk
  have hmc : (decide (most < 1) = true) ∨ (decide (most < 1) = false ∧ decide ((ps.length : Int) ≤ most) = true ∧ (ps.length : Int) ≤ most ∧ 1 ≤ most) := by
    by_cases h : most < 1
    · left; simpa using h
    · right; simp; omega
  clear hm
  go_enter Tryz.func73, Tryz.ntmps73
  go_wp2_with fail
  refine (rlangs_any _).mono ?_
  rintro e w1 ⟨rfl, rfl⟩
  have HB := Lib.hid (Blk.new w 9 langCells)
  have HK := Lib.hid (kept_alloc w (.cells langCells 9))
  generalize w.alloc (.cells langCells 9) = w1 at *
  have z := HB.out.lt
  go_wp2_with fail
  go_loop [9, 11] (fun v i => ∃ (k : Nat), k ≤ 4 ∧ i = .int .i64 k ∧ v = .bool (knownK l k)) (fun _ i => 4 - (intOf i).toNat)
  case atStart => exact ⟨0, Nat.zero_le _, rfl, rfl⟩
  case round =>
    obtain ⟨k, hk4, rfl, rfl⟩ := hrel
    by_cases hlt4 : k < 4
    · obtain ⟨x, hx, hcx⟩ := lang_cell HB.out k hlt4
      have HS := Lib.hid (knownK_step l k x hx)
      clear hx
      generalize knownK l k = kb at *
      cases kb
      · cases hxl : (x == l)
        · rw [hxl] at HS
          go_wp2_with fail
          go_round
          case rel => exact ⟨k + 1, by omega, by go_num, by rw [HS.out]; simp⟩
          case measure => simp [intOf]; omega
        · rw [hxl] at HS
          go_wp2_with fail
          go_round
          case rel => exact ⟨k + 1, by omega, by go_num, by rw [HS.out]; simp⟩
          case measure => simp [intOf]; omega
      · go_wp2_with fail
        go_round
        case rel => exact ⟨k + 1, by omega, by go_num, by rw [HS.out]; simp⟩
        case measure => simp [intOf]; omega
    · obtain rfl : k = 4 := by omega
      rw [HKN.out]
      rcases hmc with hm1 | ⟨hm1, hm2, hm3, hm4⟩
      · go_wp2_with fail
        try simp only [mk_bs]
        go_loopw [12, 13] (fun v i wr => ∃ (k : Nat), k ≤ ps.length ∧ i = .int .i64 k ∧ wr.ownsRow w1.heap.size 9 1 v ((ps.take k).map (nameOf full)).length (strCells ((ps.take k).map (nameOf full))) ∧ Kept w1 wr) (fun _ i _ => ps.length - (intOf i).toNat)
        case atStart => exact ⟨0, Nat.zero_le _, rfl, World.ownsRow_nil _ _ _ _, Kept.refl _⟩
        case round =>
          obtain ⟨k, hkl, rfl, hown, hkr⟩ := hrel
          by_cases hlt : k < ps.length
          · obtain ⟨q, hx⟩ : ∃ x, ps[k]? = some x := ⟨_, List.getElem?_eq_getElem hlt⟩
            obtain ⟨a', c', hv', hc', h3⟩ := (HV.out.kept HK.out).kept hkr
            obtain ⟨rfl, hdead, rfl⟩ := Value.slice.inj hv'
            clear hdead
            obtain ⟨g, o, rfl, hg, hcc⟩ := h3 (by omega)
            obtain ⟨c0, c1, c2, c3⟩ := hcc k q hx
            have hqs := HQ.out q (List.mem_of_getElem? hx)
            have HF := Lib.hid (map_take (nameOf full) ps k q hx)
            have hfl : ((ps.take k).map (nameOf full)).length ≤ k := by simp; omega
            generalize (ps.take k).map (nameOf full) = ws at *
            have hsz : w1.heap.size ≤ wr.heap.size := hkr.size
            have HR := Lib.hid hkr
            have HW := Lib.hid hown
            have HNF := Lib.hid (fun w => rname_full w q hqs)
            have HNS := Lib.hid (fun w => rname_short w q hqs)
            clear hkr hx hown hcc h3 hv' hc'
            obtain ⟨qf, qg, qp, qs⟩ := q
            simp only at c0 c1 c2 c3
            cases full
            · go_wp2_with fail
              refine (HNS.out _).mono ?_
              rintro e w2 ⟨rfl, hk2⟩
              generalize nameOf false (qf, qg, qp, qs) = nm at *
              have hown := own_kept HW.out hk2
              have HR2 := Lib.hid (HR.out.trans hk2)
              have hsz2 : w1.heap.size ≤ w2.heap.size := HR2.out.size
              clear hk2 HNF HNS
              go_wp2_with (at_builtin; refine wpList_append_own _ rfl _ _ 51 rfl w1.heap.size 9 i0 (.string ⟨#[]⟩) 1 16 Tryz.underlying51 hi hz0 hz1 hz2 rfl (by decide) _ _ _ rfl (hown.alloc _) ⟨w2.heap.size, 0, none⟩ 1 1 [.string (bs nm)] rfl rfl ?_ ?_ ?_ ?_ ?_ ?_)
              · exact new_cells _ #[.string (bs nm)] _ _ (by simp)
              · intro u hu; simp at hu; subst hu; rfl
              · unfold maxLen; omega
              · omega
              · simp; omega
              intro v' w3 hown2 hgrow _
              have HB2 := Lib.hid ((HR2.out.trans (kept_alloc w2 _)).trans' (grown_below (hown.alloc _) hgrow (by simp; omega)))
              rw [← strCells_snoc] at hown2
              have HO := Lib.hid hown2
              clear hown2 hgrow hown
              go_wp2_with fail
              go_roundw
              case rel => exact ⟨k + 1, by omega, by go_num, by rw [HF.out]; simpa using HO.out, HB2.out⟩
              case measure => simp [intOf]; omega
            · go_wp2_with fail
              refine (HNF.out _).mono ?_
              rintro e w2 ⟨rfl, hk2⟩
              generalize nameOf true (qf, qg, qp, qs) = nm at *
              have hown := own_kept HW.out hk2
              have HR2 := Lib.hid (HR.out.trans hk2)
              have hsz2 : w1.heap.size ≤ w2.heap.size := HR2.out.size
              clear hk2 HNF HNS
              go_wp2_with (at_builtin; refine wpList_append_own _ rfl _ _ 51 rfl w1.heap.size 9 i0 (.string ⟨#[]⟩) 1 16 Tryz.underlying51 hi hz0 hz1 hz2 rfl (by decide) _ _ _ rfl (hown.alloc _) ⟨w2.heap.size, 0, none⟩ 1 1 [.string (bs nm)] rfl rfl ?_ ?_ ?_ ?_ ?_ ?_)
              · exact new_cells _ #[.string (bs nm)] _ _ (by simp)
              · intro u hu; simp at hu; subst hu; rfl
              · unfold maxLen; omega
              · omega
              · simp; omega
              intro v' w3 hown2 hgrow _
              have HB2 := Lib.hid ((HR2.out.trans (kept_alloc w2 _)).trans' (grown_below (hown.alloc _) hgrow (by simp; omega)))
              rw [← strCells_snoc] at hown2
              have HO := Lib.hid hown2
              clear hown2 hgrow hown
              go_wp2_with fail
              go_roundw
              case rel => exact ⟨k + 1, by omega, by go_num, by rw [HF.out]; simpa using HO.out, HB2.out⟩
              case measure => simp [intOf]; omega
          · have HW := Lib.hid (Strs.own hown)
            have HR := Lib.hid (HK.out.trans hkr)
            rw [List.take_of_length_le (by omega)] at HW
            have hnl : (ps.map (nameOf full)).length ≤ 900 := by rw [List.length_map]; exact hN
            have HNM := Lib.hid (names_le full ps HQ.out)
            clear hown hkr
            go_wp2_with fail
            refine (rllist_any lEn _ _ _ HW.out hnl HNM.out).mono ?_
            rintro e w2 ⟨rfl, hk2⟩
            have HR2 := Lib.hid (HR.out.trans hk2)
            clear hk2
            go_wp2_with fail
            go_ret
            exact ⟨rfl, HR2.out⟩
      · go_wp2_with fail
        try simp only [mk_bs]
        go_loopw [12, 13] (fun v i wr => ∃ (k : Nat), k ≤ ps.length ∧ i = .int .i64 k ∧ wr.ownsRow w1.heap.size 9 1 v ((ps.take k).map (nameOf full)).length (strCells ((ps.take k).map (nameOf full))) ∧ Kept w1 wr) (fun _ i _ => ps.length - (intOf i).toNat)
        case atStart => exact ⟨0, Nat.zero_le _, rfl, World.ownsRow_nil _ _ _ _, Kept.refl _⟩
        case round =>
          obtain ⟨k, hkl, rfl, hown, hkr⟩ := hrel
          by_cases hlt : k < ps.length
          · obtain ⟨q, hx⟩ : ∃ x, ps[k]? = some x := ⟨_, List.getElem?_eq_getElem hlt⟩
            obtain ⟨a', c', hv', hc', h3⟩ := (HV.out.kept HK.out).kept hkr
            obtain ⟨rfl, hdead, rfl⟩ := Value.slice.inj hv'
            clear hdead
            obtain ⟨g, o, rfl, hg, hcc⟩ := h3 (by omega)
            obtain ⟨c0, c1, c2, c3⟩ := hcc k q hx
            have hqs := HQ.out q (List.mem_of_getElem? hx)
            have HF := Lib.hid (map_take (nameOf full) ps k q hx)
            have hfl : ((ps.take k).map (nameOf full)).length ≤ k := by simp; omega
            generalize (ps.take k).map (nameOf full) = ws at *
            have hsz : w1.heap.size ≤ wr.heap.size := hkr.size
            have HR := Lib.hid hkr
            have HW := Lib.hid hown
            have HNF := Lib.hid (fun w => rname_full w q hqs)
            have HNS := Lib.hid (fun w => rname_short w q hqs)
            clear hkr hx hown hcc h3 hv' hc'
            obtain ⟨qf, qg, qp, qs⟩ := q
            simp only at c0 c1 c2 c3
            cases full
            · go_wp2_with fail
              refine (HNS.out _).mono ?_
              rintro e w2 ⟨rfl, hk2⟩
              generalize nameOf false (qf, qg, qp, qs) = nm at *
              have hown := own_kept HW.out hk2
              have HR2 := Lib.hid (HR.out.trans hk2)
              have hsz2 : w1.heap.size ≤ w2.heap.size := HR2.out.size
              clear hk2 HNF HNS
              go_wp2_with (at_builtin; refine wpList_append_own _ rfl _ _ 51 rfl w1.heap.size 9 i0 (.string ⟨#[]⟩) 1 16 Tryz.underlying51 hi hz0 hz1 hz2 rfl (by decide) _ _ _ rfl (hown.alloc _) ⟨w2.heap.size, 0, none⟩ 1 1 [.string (bs nm)] rfl rfl ?_ ?_ ?_ ?_ ?_ ?_)
              · exact new_cells _ #[.string (bs nm)] _ _ (by simp)
              · intro u hu; simp at hu; subst hu; rfl
              · unfold maxLen; omega
              · omega
              · simp; omega
              intro v' w3 hown2 hgrow _
              have HB2 := Lib.hid ((HR2.out.trans (kept_alloc w2 _)).trans' (grown_below (hown.alloc _) hgrow (by simp; omega)))
              rw [← strCells_snoc] at hown2
              have HO := Lib.hid hown2
              clear hown2 hgrow hown
              go_wp2_with fail
              go_roundw
              case rel => exact ⟨k + 1, by omega, by go_num, by rw [HF.out]; simpa using HO.out, HB2.out⟩
              case measure => simp [intOf]; omega
            · go_wp2_with fail
              refine (HNF.out _).mono ?_
              rintro e w2 ⟨rfl, hk2⟩
              generalize nameOf true (qf, qg, qp, qs) = nm at *
              have hown := own_kept HW.out hk2
              have HR2 := Lib.hid (HR.out.trans hk2)
              have hsz2 : w1.heap.size ≤ w2.heap.size := HR2.out.size
              clear hk2 HNF HNS
              go_wp2_with (at_builtin; refine wpList_append_own _ rfl _ _ 51 rfl w1.heap.size 9 i0 (.string ⟨#[]⟩) 1 16 Tryz.underlying51 hi hz0 hz1 hz2 rfl (by decide) _ _ _ rfl (hown.alloc _) ⟨w2.heap.size, 0, none⟩ 1 1 [.string (bs nm)] rfl rfl ?_ ?_ ?_ ?_ ?_ ?_)
              · exact new_cells _ #[.string (bs nm)] _ _ (by simp)
              · intro u hu; simp at hu; subst hu; rfl
              · unfold maxLen; omega
              · omega
              · simp; omega
              intro v' w3 hown2 hgrow _
              have HB2 := Lib.hid ((HR2.out.trans (kept_alloc w2 _)).trans' (grown_below (hown.alloc _) hgrow (by simp; omega)))
              rw [← strCells_snoc] at hown2
              have HO := Lib.hid hown2
              clear hown2 hgrow hown
              go_wp2_with fail
              go_roundw
              case rel => exact ⟨k + 1, by omega, by go_num, by rw [HF.out]; simpa using HO.out, HB2.out⟩
              case measure => simp [intOf]; omega
          · have HW := Lib.hid (Strs.own hown)
            have HR := Lib.hid (HK.out.trans hkr)
            rw [List.take_of_length_le (by omega)] at HW
            have hnl : (ps.map (nameOf full)).length ≤ 900 := by rw [List.length_map]; exact hN
            have HNM := Lib.hid (names_le full ps HQ.out)
            clear hown hkr
            go_wp2_with fail
            refine (rllist_any lEn _ _ _ HW.out hnl HNM.out).mono ?_
            rintro e w2 ⟨rfl, hk2⟩
            have HR2 := Lib.hid (HR.out.trans hk2)
            clear hk2
            go_wp2_with fail
            go_ret
            exact ⟨rfl, HR2.out⟩

theorem rplist_any (v : Value) (ps : List P4) (l : Bs) (most : Int) (full : Bool) (w : World) (hv : Perss w v ps) (hN : ps.length ≤ 900) (hq : ∀ q ∈ ps, size4 q ≤ 10000) (hmr : -9223372036854775808 ≤ most ∧ most ≤ 9223372036854775807) :
    Calls Tryz.prog 73 #[v, .string (bs l), .int .i64 most, .bool full] w fun e w' => e = .returned (.string (bs (plistL ps l most full))) ∧ Kept w w' := by
  unfold plistL langOf
  cases hk : (andOf l).isSome
  · by_cases hm : 1 ≤ most ∧ most < ps.length
    · rw [if_pos hm]
      obtain ⟨m, rfl⟩ : ∃ m : Nat, most = m := ⟨most.toNat, by omega⟩
      have := rplist_us v ps l m full w hv hN hq hk (by omega) (by omega)
      rw [← List.map_take] at this; exact this
    · rw [if_neg hm]; exact rplist_un v ps l most full w hv hN hq hk hm hmr
  · by_cases hm : 1 ≤ most ∧ most < ps.length
    · rw [if_pos hm]
      obtain ⟨m, rfl⟩ : ∃ m : Nat, most = m := ⟨most.toNat, by omega⟩
      have := rplist_ks v ps l m full w hv hN hq hk (by omega) (by omega)
      rw [← List.map_take] at this; exact this
    · rw [if_neg hm]; exact rplist_kn v ps l most full w hv hN hq hk hm hmr
end Go.Proofs.YtofeonnmoakbaaaGreatDoor

/- value of publisherref31. Conditions: lengths. -/
set_option linter.all false
namespace Go.Proofs.YtofeonnmoakbaaaGreatDoor
open Go.RowKit

theorem valS_in {c : FilT} {k x : Bs} (h : lookB (specL c) k = some x) : valS c k = x := by
  rw [valS_look, h]; rfl
theorem valS_out {c : FilT} {k : Bs} (h : (specL c).all (fun e => !(e.1 == k)) = true) : valS c k = (fieldL c.fields k).getD [] := by
  rw [valS_look]
  have : lookB (specL c) k = none := by
    unfold lookB
    rw [Option.map_eq_none_iff, List.find?_eq_none]
    intro e he
    have := List.all_eq_true.1 h e he
    simpa using this
  rw [this]; rfl
def ValP (r : Bs) (w : World) (e : Ending) (w' : World) : Prop := e = .returned (.string (bs r)) ∧ Kept w w'
set_option maxRecDepth 100000 in
set_option maxHeartbeats 6400000 in
theorem rval31_any (c : FilT) (k : Bs) (vA vE vF vY : Value) (y : StyT) (w : World) (hy : y.most = c.most) (hs : FitF c)
    (hA : Perss w vA c.author) (hE : Perss w vE c.editor) (hF : Prs w vF c.fields) :
    Calls Tryz.prog 48 #[.string (bs k), srcV c.key c.type vA vE vF, styV vY y, .string (bs c.lang), .string (bs c.suffix), .int .i64 c.number] w (ValP (valS c k) w) := by
  obtain ⟨f1, f2, f3, f4, f5, f6, f7, f8⟩ := hs
  have HA := Lib.hid hA
  have HE := Lib.hid hE
  have HF := Lib.hid hF
  have HLA := Lib.hid (fun w m full h => rplist_any vA c.author c.lang m full w h f1 f3)
  have HLE := Lib.hid (fun w m full h => rplist_any vE c.editor c.lang m full w h f2 f4)
  have HYR := Lib.hid (fun w h => ryear_wide c.key c.type vA vE vF c.fields w h f6 f7)
  have HFD := Lib.hid (fun w h => rfield_any c.key c.type vA vE vF c.fields k w h f6)
  unfold FieldPost at HFD
  have HYN : Hid (yearL ((fieldL c.fields [121, 101, 97, 114]).getD []) = yearN c) := rfl
  rw [HYN.out] at HYR
  have hyn : 0 ≤ yearN c ∧ yearN c ≤ 9999 := yearL_range _
  have HNM := Lib.hid (fun n w h => rnum31_any n w h)
  have HIN := Lib.hid (fun x h => valS_in (c := c) (k := k) (x := x) h)
  have HOUT := Lib.hid (valS_out (c := c) (k := k))
  have HYS : Hid (yearS c = if yearN c = 0 then [] else Lib.itoa (yearN c)) := rfl
  have HNS : Hid (numS c = if c.number < 1 then [] else Lib.itoa c.number) := rfl
  have HSP : Hid (specL c = [(kAuthor, plistL c.author c.lang c.most false), (kEditor, plistL c.editor c.lang c.most false), (kAuthors, plistL c.author c.lang c.most true), (kEditors, plistL c.editor c.lang c.most true), (kYear, yearS c), (kSuffix, c.suffix), (kNumber, numS c), (kKey, c.key), (kType, c.type)]) := rfl
  clear HYN hA hE hF f1 f2 f3 f4 f6 f7
  generalize yearS c = ys at *
  generalize numS c = ns at *
  generalize yearN c = yn at *
  generalize valS c k = T at *
  generalize specL c = sp at *
  unfold styV styCells srcV at *
  have HK0 := Lib.hid (kept_alloc w (.cells #[.string (bs c.key), .string (bs c.type), vA, vE, vF] 36))
  have HK1 := Lib.hid (kept_alloc (w.alloc (.cells #[.string (bs c.key), .string (bs c.type), vA, vE, vF] 36)) (.cells (styCells vY y) 24))
  unfold styCells at HK1
  rw [hy] at HK1 ⊢
  clear hy
  go_enter Tryz.func48, Tryz.ntmps48
  go_wp2_with fail
  all_goals
    have HKW := Lib.hid (HK0.out.trans HK1.out)
    have HA1 := Lib.hid (HA.out.kept HKW.out)
    have HE1 := Lib.hid (HE.out.kept HKW.out)
    have HF1 := Lib.hid (HF.out.kept HKW.out)
    clear HK0 HK1 HA HE HF
    generalize World.alloc (World.alloc _ _) _ = w0 at HA1 HE1 HF1 HKW ⊢
  · have HV : Hid (T = plistL c.author c.lang c.most false) := by
      have hb : (k == [97, 117, 116, 104, 111, 114]) = true := by assumption
      refine HIN.out _ ?_
      rw [HSP.out, eq_of_beq hb]; rfl
    refine (HLA.out _ _ _ HA1.out f5).mono ?_
    rintro e w1 ⟨rfl, hk1⟩
    have HK := Lib.hid (HKW.out.trans hk1)
    clear hk1
    go_wp2_with fail
    go_ret
    exact ⟨ret_bs HV.out.symm, HK.out⟩
  · have HV : Hid (T = plistL c.author c.lang c.most true) := by
      have hb : (k == [97, 117, 116, 104, 111, 114, 115]) = true := by assumption
      refine HIN.out _ ?_
      rw [HSP.out, eq_of_beq hb]; rfl
    refine (HLA.out _ _ _ HA1.out f5).mono ?_
    rintro e w1 ⟨rfl, hk1⟩
    have HK := Lib.hid (HKW.out.trans hk1)
    clear hk1
    go_wp2_with fail
    go_ret
    exact ⟨ret_bs HV.out.symm, HK.out⟩
  · have HV : Hid (T = plistL c.editor c.lang c.most false) := by
      have hb : (k == [101, 100, 105, 116, 111, 114]) = true := by assumption
      refine HIN.out _ ?_
      rw [HSP.out, eq_of_beq hb]; rfl
    refine (HLE.out _ _ _ HE1.out f5).mono ?_
    rintro e w1 ⟨rfl, hk1⟩
    have HK := Lib.hid (HKW.out.trans hk1)
    clear hk1
    go_wp2_with fail
    go_ret
    exact ⟨ret_bs HV.out.symm, HK.out⟩
  · have HV : Hid (T = plistL c.editor c.lang c.most true) := by
      have hb : (k == [101, 100, 105, 116, 111, 114, 115]) = true := by assumption
      refine HIN.out _ ?_
      rw [HSP.out, eq_of_beq hb]; rfl
    refine (HLE.out _ _ _ HE1.out f5).mono ?_
    rintro e w1 ⟨rfl, hk1⟩
    have HK := Lib.hid (HKW.out.trans hk1)
    clear hk1
    go_wp2_with fail
    go_ret
    exact ⟨ret_bs HV.out.symm, HK.out⟩
  · have HV : Hid (T = ys) := by
      have hb : (k == [121, 101, 97, 114]) = true := by assumption
      refine HIN.out _ ?_
      rw [HSP.out, eq_of_beq hb]; rfl
    obtain ⟨n, rfl⟩ : ∃ n : Nat, yn = n := ⟨yn.toNat, by omega⟩
    refine (HYR.out _ HF1.out).mono ?_
    rintro e w1 ⟨rfl, hk1⟩
    have HK := Lib.hid (HKW.out.trans hk1)
    clear hk1
    by_cases hn : n = 0
    · subst hn
      have HZ := Lib.hid (HV.out.trans (HYS.out.trans (if_pos rfl)))
      clear HYS HV
      go_wp2_with fail
      go_ret
      exact ⟨ret_bs HZ.out.symm, HK.out⟩
    · have hn' : 0 < n := by omega
      have HZ := Lib.hid (HV.out.trans (HYS.out.trans ((if_neg (by omega)).trans (itoa_nat n))))
      clear HYS HV
      go_wp2_with fail
      refine (HNM.out n _ (by omega)).mono ?_
      rintro e w2 ⟨rfl, hk2⟩
      have HK2 := Lib.hid (HK.out.trans hk2)
      clear hk2
      go_wp2_with fail
      go_ret
      exact ⟨ret_bs HZ.out.symm, HK2.out⟩
  · have HV : Hid (T = c.suffix) := by
      have hb : (k == [115, 117, 102, 102, 105, 120]) = true := by assumption
      refine HIN.out _ ?_
      rw [HSP.out, eq_of_beq hb]; rfl
    go_ret
    exact ⟨ret_bs HV.out.symm, HKW.out⟩
  · have HV : Hid (T = ns) := by
      have hb : (k == [110, 117, 109, 98, 101, 114]) = true := by assumption
      refine HIN.out _ ?_
      rw [HSP.out, eq_of_beq hb]; rfl
    have hn' : 0 < c.number := by assumption
    have HZ := Lib.hid (HV.out.trans (HNS.out.trans (if_neg (by omega))))
    obtain ⟨n, hcn⟩ : ∃ n : Nat, c.number = n := ⟨c.number.toNat, by omega⟩
    rw [hcn, itoa_nat] at HZ
    clear HNS HV
    have HN1 := Lib.hid (fun w => HNM.out n w (by omega))
    rw [← hcn] at HN1
    refine (HN1.out _).mono ?_
    rintro e w2 ⟨rfl, hk2⟩
    have HK2 := Lib.hid (HKW.out.trans hk2)
    clear hk2
    go_wp2_with fail
    go_ret
    exact ⟨ret_bs HZ.out.symm, HK2.out⟩
  · have HV : Hid (T = ns) := by
      have hb : (k == [110, 117, 109, 98, 101, 114]) = true := by assumption
      refine HIN.out _ ?_
      rw [HSP.out, eq_of_beq hb]; rfl
    have hn2 : ¬ 0 < c.number := by omega
    have HZ := Lib.hid (HV.out.trans (HNS.out.trans (if_pos (by omega))))
    go_ret
    exact ⟨ret_bs HZ.out.symm, HKW.out⟩
  · have HV : Hid (T = c.key) := by
      have hb : (k == [107, 101, 121]) = true := by assumption
      refine HIN.out _ ?_
      rw [HSP.out, eq_of_beq hb]; rfl
    go_ret
    exact ⟨ret_bs HV.out.symm, HKW.out⟩
  · have HV : Hid (T = c.type) := by
      have hb : (k == [116, 121, 112, 101]) = true := by assumption
      refine HIN.out _ ?_
      rw [HSP.out, eq_of_beq hb]; rfl
    go_ret
    exact ⟨ret_bs HV.out.symm, HKW.out⟩
  · have HV := Lib.hid (HOUT.out (by
      rw [HSP.out]
      have hx : ∀ l : Bs, (k == l) = false → (!(l == k)) = true := fun l h => by
        rw [Bool.not_eq_true', beq_eq_false_iff_ne]; exact fun q => (beq_eq_false_iff_ne.1 h) q.symm
      have q1 : (k == [97, 117, 116, 104, 111, 114]) = false := by assumption
      have q2 : (k == [97, 117, 116, 104, 111, 114, 115]) = false := by assumption
      have q3 : (k == [101, 100, 105, 116, 111, 114]) = false := by assumption
      have q4 : (k == [101, 100, 105, 116, 111, 114, 115]) = false := by assumption
      have q5 : (k == [121, 101, 97, 114]) = false := by assumption
      have q6 : (k == [115, 117, 102, 102, 105, 120]) = false := by assumption
      have q7 : (k == [110, 117, 109, 98, 101, 114]) = false := by assumption
      have q8 : (k == [107, 101, 121]) = false := by assumption
      have q9 : (k == [116, 121, 112, 101]) = false := by assumption
      simp only [List.all_cons, List.all_nil, Bool.and_true]
      exact Bool.and_eq_true_iff.2 ⟨hx _ q1, Bool.and_eq_true_iff.2 ⟨hx _ q3, Bool.and_eq_true_iff.2 ⟨hx _ q2, Bool.and_eq_true_iff.2 ⟨hx _ q4, Bool.and_eq_true_iff.2 ⟨hx _ q5, Bool.and_eq_true_iff.2 ⟨hx _ q6, Bool.and_eq_true_iff.2 ⟨hx _ q7, Bool.and_eq_true_iff.2 ⟨hx _ q8, hx _ q9⟩⟩⟩⟩⟩⟩⟩⟩))
    refine (HFD.out _ HF1.out).mono ?_
    rintro e w1 ⟨rfl, hk1⟩
    have HK := Lib.hid (HKW.out.trans hk1)
    clear hk1
    go_wp2_with fail
    go_ret
    exact ⟨ret_bs HV.out.symm, HK.out⟩
end Go.Proofs.YtofeonnmoakbaaaGreatDoor

/- Fill of publisherref31. Conditions: lengths. -/
set_option linter.all false
namespace Go.Proofs.YtofeonnmoakbaaaGreatDoor
open Go.RowKit

theorem gone_next (l : List Rp) (val : Bs → Bs) (g k : Nat) (hk : k < l.length) : goneR (l.take (k + 1)) val g = (goneR (l.take k) val g || (decide (0 < g) && ((l[k].grp == g) && (!(l[k].fld == []) && (val l[k].fld == []))))) := by
  rw [List.take_succ_eq_append_getElem hk]
  unfold goneR
  rw [List.any_append]
  simp
def partR (G : Nat → Bool) (val : Bs → Bs) (p : Rp) : Bs := if G p.grp = true then [] else p.txt ++ (if p.fld = [] then [] else val p.fld)
theorem fillR_part (l : List Rp) (val : Bs → Bs) : fillR l val = l.flatMap (partR (goneR l val) val) := rfl
theorem fillR_next (ps : List Rp) (f : Rp → Bs) (k : Nat) (hk : k < ps.length) : (ps.take (k + 1)).flatMap f = (ps.take k).flatMap f ++ f ps[k] := by
  rw [List.take_succ_eq_append_getElem hk, List.flatMap_append]
  simp
theorem fillR_len (ps : List Rp) (f : Rp → Bs) (n : Nat) (h : ∀ p ∈ ps, (f p).length ≤ n) : (ps.flatMap f).length ≤ ps.length * n := by
  induction ps with
  | nil => simp
  | cons p ps ih =>
    rw [List.flatMap_cons, List.length_append, List.length_cons, Nat.succ_mul]
    have h1 := h p (List.mem_cons_self ..)
    have h2 := ih (fun q hq => h q (List.mem_cons_of_mem _ hq))
    omega
theorem rpsP_len : ∀ (f : Nat) (r : Bs) (G g : Nat) (l : List Rp), rpsP f r G g = some l → l.length ≤ r.length
  | 0, _, _, _, _, h => by cases h
  | f + 1, [], G, g, l, h => by
    rw [rpsP_end] at h
    split at h
    · cases h; simp
    · cases h
  | f + 1, b :: r, G, g, l, h => by
    cases hin : inSet spSet b with
    | false =>
      rw [rpsP_run _ _ _ hin, Option.map_eq_some_iff] at h
      obtain ⟨l', h1, rfl⟩ := h
      have := rpsP_len f r G g l' h1
      simp only [List.length_cons]; omega
    | true =>
      rcases spSet_cases hin with rfl | rfl | rfl | rfl
      · rw [rpsP_fld] at h
        split at h
        · rw [Option.map_eq_some_iff] at h
          obtain ⟨l', h1, rfl⟩ := h
          have := rpsP_len f _ G g l' h1
          rw [List.length_drop] at this
          simp only [List.length_cons]; omega
        · cases h
      · rw [rpsP_bad] at h; cases h
      · rw [rpsP_open] at h
        split at h
        · have := rpsP_len f r _ _ l h
          simp only [List.length_cons]; omega
        · cases h
      · rw [rpsP_shut] at h
        split at h
        · cases h
        · have := rpsP_len f r _ _ l h
          simp only [List.length_cons]; omega
theorem exp_txt (ps : List Pc) : ∀ q ∈ expL ps, q.txt.length ≤ 1 := by
  intro q hq
  unfold expL at hq
  rw [List.mem_flatMap] at hq
  obtain ⟨p, _, h⟩ := hq
  unfold expP at h
  split at h
  · rw [List.mem_singleton] at h; subst h; simp
  · rw [List.mem_map] at h
    obtain ⟨b, _, rfl⟩ := h
    simp
set_option maxRecDepth 100000 in
set_option maxHeartbeats 12800000 in
theorem rfil31_any (c : FilT) (t : Bs) (vA vE vF vY : Value) (y : StyT) (w : World) (hy : y.most = c.most) (hYo : vY.oneCell' = true) (ht : t.length ≤ 100000) (hs : FitV c)
    (hA : Perss w vA c.author) (hE : Perss w vE c.editor) (hF : Prs w vF c.fields) :
    Calls Tryz.prog 18 #[.string (bs t), srcV c.key c.type vA vE vF, styV vY y, .string (bs c.lang), .string (bs c.suffix), .int .i64 c.number] w fun e w' => e = .returned (.tuple #[.string (bs (fillS c t)), .int .i64 (splE t)]) ∧ Kept w w' := by
  have HTE := Lib.hid (fun w => rtemplate_any t w ht)
  have HRP := Lib.hid (fun w => rparts_any t w ht)
  unfold PartsP at HRP
  have HA := Lib.hid hA
  have HE := Lib.hid hE
  have HF := Lib.hid hF
  have HVAL := Lib.hid (fun k w h1 h2 h3 => rval31_any c k vA vE vF vY y w hy hs.1 h1 h2 h3)
  unfold ValP at HVAL
  have HVL := Lib.hid (fun k => val_len c hs k)
  have HNIL : Hid (splE t ≠ 0 → fillS c t = []) := fun h => by
    have : splL t = [] := by unfold splL; rw [if_neg h]
    unfold fillS; rw [this]; rfl
  have HRT : Hid (splE t = 0 → rpsT t = some (expL (splL t))) := fun h => rps_of h
  have HFS : Hid (fillS c t = (expL (splL t)).flatMap (partR (goneR (expL (splL t)) (valS c)) (valS c))) := by
    show _ = _
    rw [← fillR_part, fill_eq _ _ (fun p hp => (splL_pcs p hp).1)]; rfl
  have HTX := Lib.hid (exp_txt (splL t))
  have HLN : Hid (splE t = 0 → (expL (splL t)).length ≤ 100000) := fun h => by
    have := rpsP_len _ _ _ _ _ ((rpsT_eq t).symm.trans (rps_of h))
    omega
  clear hA hE hF hs hy
  generalize fillS c t = T at *
  generalize splE t = E at *
  generalize expL (splL t) = ps at *
  generalize rpsT t = R at *
  generalize valS c = val at *
  unfold styV styCells srcV at HVAL ⊢
  have HS0 := Lib.hid (Blk.new w 36 #[.string (bs c.key), .string (bs c.type), vA, vE, vF])
  have HK0 := Lib.hid (kept_alloc w (.cells #[.string (bs c.key), .string (bs c.type), vA, vE, vF] 36))
  have HS1 := Lib.hid (Blk.new (w.alloc (.cells #[.string (bs c.key), .string (bs c.type), vA, vE, vF] 36)) 24 (styCells vY y))
  have HK1 := Lib.hid (kept_alloc (w.alloc (.cells #[.string (bs c.key), .string (bs c.type), vA, vE, vF] 36)) (.cells (styCells vY y) 24))
  unfold styCells at HK1
  have e1 : (w.alloc (.cells #[.string (bs c.key), .string (bs c.type), vA, vE, vF] 36)).heap.size = w.heap.size + 1 := by simp
  rw [e1] at HS1
  unfold styCells at HS1
  go_enter Tryz.func18, Tryz.ntmps18
  go_wp2_with fail
  have HSA := Lib.hid (HS0.out.kept HK1.out)
  have HKW := Lib.hid (HK0.out.trans HK1.out)
  clear HS0 HK0 HK1 e1
  generalize World.alloc (World.alloc _ _) _ = w0 at HS1 HSA HKW ⊢
  obtain ⟨S, HSS⟩ : ∃ B, Hid (w.heap.size = B) := ⟨_, rfl⟩
  rw [HSS.out] at HS1 HSA ⊢
  obtain ⟨Y, HYY⟩ : ∃ B, Hid (S + 1 = B) := ⟨_, rfl⟩
  rw [HYY.out] at HS1 ⊢
  refine (HTE.out _).mono ?_
  rintro e w1 ⟨rfl, hk1⟩
  have HKW1 := Lib.hid (HKW.out.trans hk1)
  have HSA1 := Lib.hid (HSA.out.kept hk1)
  have HSY1 := Lib.hid (HS1.out.kept hk1)
  clear hk1 HTE HSA HS1 HKW HSS HYY
  by_cases hE0 : E = 0
  case neg =>
    have hE' : (E == 0) = false := by rw [beq_eq_false_iff_ne]; exact hE0
    have HNN := Lib.hid (HNIL.out hE0)
    clear hE0
    go_wp2_with fail
    go_ret2
    exact ⟨by rw [HNN.out]; rfl, HKW1.out⟩
  subst hE0
  have HRS := Lib.hid (HRT.out rfl)
  have hln := HLN.out rfl
  rw [HRS.out] at HRP
  simp only [Option.isSome_some, Option.some.injEq] at HRP
  clear HRT HLN HNIL HRS
  go_wp2_with fail
  refine (HRP.out _).mono ?_
  rintro e w2 ⟨v, rfl, -, hp, hk2⟩
  have HP2 := Lib.hid (hp ps rfl)
  have HKW2 := Lib.hid (HKW1.out.trans hk2)
  have HSA2 := Lib.hid (HSA1.out.kept hk2)
  have HSY2 := Lib.hid (HSY1.out.kept hk2)
  obtain ⟨aP, cP, rfl, hcp⟩ := HP2.out.form
  clear hp hk2 HRP HSA1 HSY1 HKW1
  have HFN := Lib.hid (fillR_next ps (partR (goneR ps val) val))
  have HFL : Hid (∀ k, ((ps.take k).flatMap (partR (goneR ps val) val)).length ≤ 2000100000000) := fun k => by
    have h1 := fillR_len (ps.take k) (partR (goneR ps val) val) 20000001 (fun p hp => by
      have h3 := HTX.out p (List.mem_of_mem_take hp)
      unfold partR
      split
      · simp
      · rw [List.length_append]
        split
        · simp; omega
        · have := HVL.out p.fld; omega)
    have h2 : (ps.take k).length ≤ 100000 := by rw [List.length_take]; omega
    have h3 : (ps.take k).length * 20000001 ≤ 100000 * 20000001 := Nat.mul_le_mul_right _ h2
    omega
  have HFT : Hid (T = (ps.take ps.length).flatMap (partR (goneR ps val) val)) := by
    show _ = _
    rw [HFS.out, List.take_of_length_le (Nat.le_refl _)]
  have HON : Hid (∀ g, goneR (ps.take ps.length) val g = goneR ps val g) := fun g => by rw [List.take_of_length_le (Nat.le_refl _)]
  have HO0 : Hid (∀ g, goneR (ps.take 0) val g = false) := fun g => rfl
  have HGN := Lib.hid (fun g k hk => gone_next ps val g k hk)
  have HPR : Hid (∀ p, partR (goneR ps val) val p = if goneR ps val p.grp = true then [] else p.txt ++ (if p.fld = [] then [] else val p.fld)) := fun p => rfl
  clear HFS
  generalize partR (goneR ps val) val = F at *
  go_wp2_with fail
  (try simp only [mk_bs])
  obtain ⟨wA, rfl⟩ : ∃ wo : World, wo = w2 := ⟨_, rfl⟩
  go_loopw [17, 18] (fun o i wr => ∃ n : Nat, n ≤ ps.length ∧ i = .int .i64 n ∧ o = .string (bs ((ps.take n).flatMap F)) ∧ Hid (Kept wA wr)) (fun _ i _ => ps.length - (intOf i).toNat)
  case atStart => exact ⟨0, Nat.zero_le _, rfl, rfl, Kept.refl _⟩
  case round =>
    obtain ⟨n, hn, rfl, rfl, HKR⟩ := hrel
    by_cases hlt : n < ps.length
    · have hx := List.getElem?_eq_getElem hlt
      have HST := Lib.hid (HFN.out n hlt)
      have HPN := Lib.hid (HPR.out ps[n])
      have HTN := Lib.hid (HTX.out ps[n] (List.getElem_mem hlt))
      have hfl := HFL.out n
      rw [HPN.out] at HST
      generalize ps[n] = p at *
      obtain ⟨px, pf, pg⟩ := p
      simp only at HST HTN
      generalize (ps.take n).flatMap F = O at *
      obtain ⟨g, o, rfl, hg, -, -, -⟩ := HP2.out.cell_of n _ hx
      have HX := Lib.hid hx
      clear hx HPN
      go_wp2_with fail
      obtain ⟨wo, rfl⟩ : ∃ wo : World, wo = wr := ⟨_, rfl⟩
      go_loopw [19, 20] (fun d i wr => ∃ k : Nat, k ≤ ps.length ∧ i = .int .i64 k ∧ d = .bool (goneR (ps.take k) val pg) ∧ Hid (Kept wA wr)) (fun _ i _ => ps.length - (intOf i).toNat)
      case atStart => exact ⟨0, Nat.zero_le _, rfl, by rw [HO0.out], HKR.out⟩
      case round =>
        obtain ⟨k, hk, rfl, rfl, HKQ⟩ := hrel
        by_cases hlk : k < ps.length
        · have hx := List.getElem?_eq_getElem hlk
          have HGK := Lib.hid (HGN.out pg k hlk)
          generalize ps[k] = q at *
          obtain ⟨qx, qf, qg⟩ := q
          simp only at HGK
          generalize goneR (ps.take k) val pg = D at *
          have HPQ := Lib.hid (HP2.out.kept HKQ.out)
          obtain ⟨g1, o1, ha, hg1, -, -, p2⟩ := HPQ.out.cell_of n _ HX.out
          obtain ⟨rfl, rfl⟩ : g = g1 ∧ o = o1 := by cases ha; exact ⟨rfl, rfl⟩
          obtain ⟨g1, o1, ha', -, -, q1, q2⟩ := HPQ.out.cell_of k _ hx
          obtain ⟨rfl, rfl⟩ : g = g1 ∧ o = o1 := by cases ha'; exact ⟨rfl, rfl⟩
          simp only at p2 q1 q2
          clear ha ha' hx
          have hNP : (n : Int) < (ps.length : Int) := by omega
          have hKP : (k : Int) < (ps.length : Int) := by omega
          by_cases g0 : 0 < pg
          case neg =>
            have hd : decide (0 < (pg : Int)) = false := by rw [decide_eq_false_iff_not]; omega
            have hd2 : decide (0 < pg) = false := by rw [decide_eq_false_iff_not]; exact g0
            rw [hd2, Bool.false_and, Bool.or_false] at HGK
            go_wp2_with fail
            go_quiet (fail)
            all_goals
              have HKZ := Lib.hid (HKQ.out.trans (kept_drewN wr nq))
              go_wp2_with fail
              go_roundw
              case rel => exact ⟨k + 1, by omega, by go_num, by rw [HGK.out], HKZ.out⟩
              case measure => simp [intOf]; omega
          have hd : decide (0 < (pg : Int)) = true := by rw [decide_eq_true_eq]; omega
          have hd2 : decide (0 < pg) = true := by rw [decide_eq_true_eq]; exact g0
          rw [hd2, Bool.true_and] at HGK
          cases hgq : (qg == pg) with
          | false =>
            have hgi : ((qg : Int) == (pg : Int)) = false := by rw [beq_eq_false_iff_ne] at hgq ⊢; omega
            rw [hgq, Bool.false_and, Bool.or_false] at HGK
            clear hgq
            go_wp2_with fail
            go_quiet (fail)
            all_goals
              have HKZ := Lib.hid (HKQ.out.trans (kept_drewN wr nq))
              go_wp2_with fail
              go_roundw
              case rel => exact ⟨k + 1, by omega, by go_num, by rw [HGK.out], HKZ.out⟩
              case measure => simp [intOf]; omega
          | true =>
            have hgi : ((qg : Int) == (pg : Int)) = true := by rw [beq_iff_eq] at hgq ⊢; omega
            rw [hgq, Bool.true_and] at HGK
            cases hqf : (qf == ([] : Bs)) with
            | true =>
              obtain rfl : qf = [] := by simpa using hqf
              have hne : (([] : Bs) != []) = false := rfl
              rw [hqf, Bool.not_true, Bool.false_and, Bool.or_false] at HGK
              clear hgq hqf
              go_wp2_with fail
              go_quiet (fail)
              all_goals
                have HKZ := Lib.hid (HKQ.out.trans (kept_drewN wr nq))
                go_wp2_with fail
                go_roundw
                case rel => exact ⟨k + 1, by omega, by go_num, by rw [HGK.out], HKZ.out⟩
                case measure => simp [intOf]; omega
            | false =>
              have hne : (qf == []) = false := hqf
              have hne2 : (qf != []) = true := by rw [bne, hqf]; rfl
              rw [hqf, Bool.not_false, Bool.true_and] at HGK
              have HVK : Hid (∀ w', Kept wr w' → Calls Tryz.prog 48 #[.string (bs qf), .agg #[.string (bs c.key), .string (bs c.type), vA, vE, vF], .agg #[.string (bs y.name), .bool y.numeric, .string (bs y.sort), .string (bs y.cite), .string (bs y.bare), .string (bs y.between), .string (bs y.begin_), .string (bs y.end_), .int .i64 y.most, vY], .string (bs c.lang), .string (bs c.suffix), .int .i64 c.number] w' fun e w'' => e = .returned (.string (bs (val qf))) ∧ Kept w' w'') := fun w' h =>
                HVAL.out qf w' (HA.out.kept (HKW2.out.trans (HKQ.out.trans h))) (HE.out.kept (HKW2.out.trans (HKQ.out.trans h))) (HF.out.kept (HKW2.out.trans (HKQ.out.trans h)))
              have HSAK := Lib.hid (HSA2.out.kept HKQ.out)
              have HSYK : Hid (Blk wr Y 24 (styCells vY y)) := HSY2.out.kept HKQ.out
              have HCC : Hid (∀ w', Kept wr w' → (w'.cell? ⟨g, o + n * 3 + 2, none⟩ = some (.int .i64 pg) ∧ w'.cell? ⟨g, o + k * 3 + 1, none⟩ = some (.string (bs qf)) ∧ w'.cell? ⟨g, o + k * 3 + 2, none⟩ = some (.int .i64 qg)) ∧ (w'.cell? ⟨S, 0, none⟩ = some (.string (bs c.key)) ∧ w'.cell? ⟨S, 1, none⟩ = some (.string (bs c.type)) ∧ w'.cell? ⟨S, 2, none⟩ = some vA ∧ w'.cell? ⟨S, 3, none⟩ = some vE ∧ w'.cell? ⟨S, 4, none⟩ = some vF) ∧ (w'.cell? ⟨Y, 0, none⟩ = some (.string (bs y.name)) ∧ w'.cell? ⟨Y, 1, none⟩ = some (.bool y.numeric) ∧ w'.cell? ⟨Y, 2, none⟩ = some (.string (bs y.sort)) ∧ w'.cell? ⟨Y, 3, none⟩ = some (.string (bs y.cite)) ∧ w'.cell? ⟨Y, 4, none⟩ = some (.string (bs y.bare)) ∧ w'.cell? ⟨Y, 5, none⟩ = some (.string (bs y.between)) ∧ w'.cell? ⟨Y, 6, none⟩ = some (.string (bs y.begin_)) ∧ w'.cell? ⟨Y, 7, none⟩ = some (.string (bs y.end_)) ∧ w'.cell? ⟨Y, 8, none⟩ = some (.int .i64 y.most) ∧ w'.cell? ⟨Y, 9, none⟩ = some vY) ∧ (g < w'.heap.size ∧ S < w'.heap.size ∧ Y < w'.heap.size) ∧ Kept wr w') := fun w' h =>
                ⟨⟨(h.cell (p := ⟨g, o + n * 3 + 2, none⟩) hg1).trans p2, (h.cell (p := ⟨g, o + k * 3 + 1, none⟩) hg1).trans q1, (h.cell (p := ⟨g, o + k * 3 + 2, none⟩) hg1).trans q2⟩, ⟨(HSAK.out.kept h).cell 0 _ rfl, (HSAK.out.kept h).cell 1 _ rfl, (HSAK.out.kept h).cell 2 _ rfl, (HSAK.out.kept h).cell 3 _ rfl, (HSAK.out.kept h).cell 4 _ rfl⟩, (sty_cells (HSYK.out.kept h)).1, ⟨Nat.lt_of_lt_of_le hg1 h.size, Nat.lt_of_lt_of_le HSAK.out.lt h.size, Nat.lt_of_lt_of_le HSYK.out.lt h.size⟩, h⟩
              obtain ⟨-, ⟨s0, s1, s2, s3, s4⟩, ⟨y0, y1, y2, y3, y4, y5, y6, y7, y8, y9⟩, ⟨-, zS, zY⟩, -⟩ := HCC.out wr (Kept.refl _)
              have hkd : Kept wr wr.drew := kept_drewN wr 1
              generalize val qf = vx at HVK HGK
              clear hgq hqf HSAK HSYK
              obtain ⟨bv, hbv⟩ : ∃ b, (vx == ([] : Bs)) = b := ⟨_, rfl⟩
              rw [hbv] at HGK
              go_wp2_with fail
              go_region_held3 (fun w' => (w'.cell? ⟨g, o + n * 3 + 2, none⟩ = some (.int .i64 pg) ∧ w'.cell? ⟨g, o + k * 3 + 1, none⟩ = some (.string (bs qf)) ∧ w'.cell? ⟨g, o + k * 3 + 2, none⟩ = some (.int .i64 qg)) ∧ (w'.cell? ⟨S, 0, none⟩ = some (.string (bs c.key)) ∧ w'.cell? ⟨S, 1, none⟩ = some (.string (bs c.type)) ∧ w'.cell? ⟨S, 2, none⟩ = some vA ∧ w'.cell? ⟨S, 3, none⟩ = some vE ∧ w'.cell? ⟨S, 4, none⟩ = some vF) ∧ (w'.cell? ⟨Y, 0, none⟩ = some (.string (bs y.name)) ∧ w'.cell? ⟨Y, 1, none⟩ = some (.bool y.numeric) ∧ w'.cell? ⟨Y, 2, none⟩ = some (.string (bs y.sort)) ∧ w'.cell? ⟨Y, 3, none⟩ = some (.string (bs y.cite)) ∧ w'.cell? ⟨Y, 4, none⟩ = some (.string (bs y.bare)) ∧ w'.cell? ⟨Y, 5, none⟩ = some (.string (bs y.between)) ∧ w'.cell? ⟨Y, 6, none⟩ = some (.string (bs y.begin_)) ∧ w'.cell? ⟨Y, 7, none⟩ = some (.string (bs y.end_)) ∧ w'.cell? ⟨Y, 8, none⟩ = some (.int .i64 y.most) ∧ w'.cell? ⟨Y, 9, none⟩ = some vY) ∧ (g < w'.heap.size ∧ S < w'.heap.size ∧ Y < w'.heap.size) ∧ Kept wr w')
                ((refine HCC.out _ ?_; with_reducible assumption))
                (first
                  | (go_at_call 48; refine (HVK.out _ hkd).mono ?_; rintro e w5 ⟨rfl, hk5⟩; have k5 : Kept wr w5 := hkd.trans hk5; clear hk5))
              all_goals
                have HK5 := Lib.hid (HKQ.out.trans k5)
                clear HCC HVK hkd k5 s0 s1 s2 s3 s4 y0 y1 y2 y3 y4 y5 y6 y7 y8 y9 zS zY
                cases bv with
                | false =>
                  rw [Bool.or_false] at HGK
                  go_wp2_with fail
                  go_roundw
                  case rel => exact ⟨k + 1, by omega, by go_num, by rw [HGK.out], HK5.out⟩
                  case measure => simp [intOf]; omega
                | true =>
                  rw [Bool.or_true] at HGK
                  go_wp2_with fail
                  go_roundw
                  case rel => exact ⟨k + 1, by omega, by go_num, by rw [HGK.out], HK5.out⟩
                  case measure => simp [intOf]; omega
        · obtain rfl : k = ps.length := by omega
          rw [HON.out]
          have HPQ := Lib.hid (HP2.out.kept HKQ.out)
          obtain ⟨g1, o1, ha, hg1, p0, p1, p2⟩ := HPQ.out.cell_of n _ HX.out
          obtain ⟨rfl, rfl⟩ : g = g1 ∧ o = o1 := by cases ha; exact ⟨rfl, rfl⟩
          simp only at p0 p1 p2
          have hNP : (n : Int) < (ps.length : Int) := by omega
          clear ha HPQ HX
          cases hgo : goneR ps val pg with
          | true =>
            rw [hgo, if_pos rfl, List.append_nil] at HST
            clear hgo
            go_wp2_with fail
            go_roundw
            case rel => exact ⟨n + 1, by omega, by go_num, by rw [HST.out], HKQ.out⟩
            case measure => simp [intOf]; omega
          | false =>
            rw [hgo, if_neg (by simp)] at HST
            clear hgo
            have htn := HTN.out
            obtain ⟨ad1, hl1⟩ := add_bs31 (P := Tryz.prog) O px _ 2000100000000 1 rfl hfl htn (by decide)
            cases hpf : (pf == ([] : Bs)) with
            | true =>
              obtain rfl : pf = [] := by simpa using hpf
              have hne : (([] : Bs) != []) = false := rfl
              rw [if_pos rfl, List.append_nil] at HST
              rw [← HST.out] at ad1
              clear hpf hl1
              go_wp2_with fail
              go_roundw
              case rel => exact ⟨n + 1, by omega, by go_num, rfl, HKQ.out⟩
              case measure => simp [intOf]; omega
            | false =>
              have hpn : ¬ pf = [] := by simpa using hpf
              have hne : (pf == []) = false := hpf
              have hne2 : (pf != []) = true := by rw [bne, hpf]; rfl
              rw [if_neg hpn, ← List.append_assoc] at HST
              have HVK : Hid (∀ w', Kept wr w' → Calls Tryz.prog 48 #[.string (bs pf), .agg #[.string (bs c.key), .string (bs c.type), vA, vE, vF], .agg #[.string (bs y.name), .bool y.numeric, .string (bs y.sort), .string (bs y.cite), .string (bs y.bare), .string (bs y.between), .string (bs y.begin_), .string (bs y.end_), .int .i64 y.most, vY], .string (bs c.lang), .string (bs c.suffix), .int .i64 c.number] w' fun e w'' => e = .returned (.string (bs (val pf))) ∧ Kept w' w'') := fun w' h =>
                HVAL.out pf w' (HA.out.kept (HKW2.out.trans (HKQ.out.trans h))) (HE.out.kept (HKW2.out.trans (HKQ.out.trans h))) (HF.out.kept (HKW2.out.trans (HKQ.out.trans h)))
              have HSAK := Lib.hid (HSA2.out.kept HKQ.out)
              have HSYK : Hid (Blk wr Y 24 (styCells vY y)) := HSY2.out.kept HKQ.out
              have HCC : Hid (∀ w', Kept wr w' → w'.cell? ⟨g, o + n * 3 + 1, none⟩ = some (.string (bs pf)) ∧ (w'.cell? ⟨S, 0, none⟩ = some (.string (bs c.key)) ∧ w'.cell? ⟨S, 1, none⟩ = some (.string (bs c.type)) ∧ w'.cell? ⟨S, 2, none⟩ = some vA ∧ w'.cell? ⟨S, 3, none⟩ = some vE ∧ w'.cell? ⟨S, 4, none⟩ = some vF) ∧ (w'.cell? ⟨Y, 0, none⟩ = some (.string (bs y.name)) ∧ w'.cell? ⟨Y, 1, none⟩ = some (.bool y.numeric) ∧ w'.cell? ⟨Y, 2, none⟩ = some (.string (bs y.sort)) ∧ w'.cell? ⟨Y, 3, none⟩ = some (.string (bs y.cite)) ∧ w'.cell? ⟨Y, 4, none⟩ = some (.string (bs y.bare)) ∧ w'.cell? ⟨Y, 5, none⟩ = some (.string (bs y.between)) ∧ w'.cell? ⟨Y, 6, none⟩ = some (.string (bs y.begin_)) ∧ w'.cell? ⟨Y, 7, none⟩ = some (.string (bs y.end_)) ∧ w'.cell? ⟨Y, 8, none⟩ = some (.int .i64 y.most) ∧ w'.cell? ⟨Y, 9, none⟩ = some vY) ∧ (g < w'.heap.size ∧ S < w'.heap.size ∧ Y < w'.heap.size) ∧ Kept wr w') := fun w' h =>
                ⟨(h.cell (p := ⟨g, o + n * 3 + 1, none⟩) hg1).trans p1, ⟨(HSAK.out.kept h).cell 0 _ rfl, (HSAK.out.kept h).cell 1 _ rfl, (HSAK.out.kept h).cell 2 _ rfl, (HSAK.out.kept h).cell 3 _ rfl, (HSAK.out.kept h).cell 4 _ rfl⟩, (sty_cells (HSYK.out.kept h)).1, ⟨Nat.lt_of_lt_of_le hg1 h.size, Nat.lt_of_lt_of_le HSAK.out.lt h.size, Nat.lt_of_lt_of_le HSYK.out.lt h.size⟩, h⟩
              obtain ⟨-, ⟨s0, s1, s2, s3, s4⟩, ⟨y0, y1, y2, y3, y4, y5, y6, y7, y8, y9⟩, ⟨-, zS, zY⟩, -⟩ := HCC.out wr (Kept.refl _)
              have hkd : Kept wr wr.drew := kept_drewN wr 1
              have hvl := HVL.out pf
              generalize val pf = vx at HVK HST hvl
              generalize hOX : O ++ px = OX at *
              obtain ⟨ad2, -⟩ := add_bs31 (P := Tryz.prog) OX vx _ 2000100000001 20000000 rfl (by omega) hvl (by decide)
              rw [← HST.out] at ad2
              clear hpf hpn HSAK HSYK hOX hl1
              go_wp2_with fail
              go_region_held3 (fun w' => w'.cell? ⟨g, o + n * 3 + 1, none⟩ = some (.string (bs pf)) ∧ (w'.cell? ⟨S, 0, none⟩ = some (.string (bs c.key)) ∧ w'.cell? ⟨S, 1, none⟩ = some (.string (bs c.type)) ∧ w'.cell? ⟨S, 2, none⟩ = some vA ∧ w'.cell? ⟨S, 3, none⟩ = some vE ∧ w'.cell? ⟨S, 4, none⟩ = some vF) ∧ (w'.cell? ⟨Y, 0, none⟩ = some (.string (bs y.name)) ∧ w'.cell? ⟨Y, 1, none⟩ = some (.bool y.numeric) ∧ w'.cell? ⟨Y, 2, none⟩ = some (.string (bs y.sort)) ∧ w'.cell? ⟨Y, 3, none⟩ = some (.string (bs y.cite)) ∧ w'.cell? ⟨Y, 4, none⟩ = some (.string (bs y.bare)) ∧ w'.cell? ⟨Y, 5, none⟩ = some (.string (bs y.between)) ∧ w'.cell? ⟨Y, 6, none⟩ = some (.string (bs y.begin_)) ∧ w'.cell? ⟨Y, 7, none⟩ = some (.string (bs y.end_)) ∧ w'.cell? ⟨Y, 8, none⟩ = some (.int .i64 y.most) ∧ w'.cell? ⟨Y, 9, none⟩ = some vY) ∧ (g < w'.heap.size ∧ S < w'.heap.size ∧ Y < w'.heap.size) ∧ Kept wr w')
                ((refine HCC.out _ ?_; with_reducible assumption))
                (first
                  | (go_at_call 48; refine (HVK.out _ hkd).mono ?_; rintro e w5 ⟨rfl, hk5⟩; have k5 : Kept wr w5 := hkd.trans hk5; clear hk5))
              all_goals
                have HK5 := Lib.hid (HKQ.out.trans k5)
                clear HCC HVK hkd k5 s0 s1 s2 s3 s4 y0 y1 y2 y3 y4 y5 y6 y7 y8 y9 zS zY
                go_wp2_with fail
                go_roundw
                case rel => exact ⟨n + 1, by omega, by go_num, rfl, HK5.out⟩
                case measure => simp [intOf]; omega
    · obtain rfl : n = ps.length := by omega
      rw [← HFT.out]
      have HK5 := Lib.hid (HKW2.out.trans HKR.out)
      go_wp2_with fail
      go_ret2
      exact ⟨rfl, HK5.out⟩
end Go.Proofs.YtofeonnmoakbaaaGreatDoor
