/- The reference's list of persons. Conditions: lengths. -/
import Derived.Test.YtflpkadknljpbaaDoorRlist
set_option linter.all false
namespace Go.Proofs.YtflpkadknljpbaaDoor
open Go.RowKit

def knownK (l : Bs) (k : Nat) : Bool := (langsL.take k).any fun x => x == l
theorem knownK_all (l : Bs) : knownK l 4 = (andOf l).isSome := by
  unfold knownK langsL andOf
  by_cases h1 : l = lEn
  · subst h1; rfl
  by_cases h2 : l = lDe
  · subst h2; rfl
  by_cases h3 : l = lFr
  · subst h3; rfl
  by_cases h4 : l = lEs
  · subst h4; rfl
  rw [if_neg h1, if_neg h2, if_neg h3, if_neg h4]
  have e : ∀ x : Bs, ¬ l = x → (x == l) = false := fun x h => by simpa using fun q => h q.symm
  simp [e _ h1, e _ h2, e _ h3, e _ h4]
theorem knownK_step (l : Bs) (k : Nat) (x : Bs) (h : langsL[k]? = some x) : knownK l (k + 1) = (knownK l k || x == l) := by
  unfold knownK
  obtain ⟨hk, rfl⟩ := List.getElem?_eq_some_iff.1 h
  rw [List.take_succ_eq_append_getElem hk, List.any_append]; simp only [List.any_cons, List.any_nil, Bool.or_false]
theorem rname_full (w : World) (q : P4) (h : size4 q ≤ 10000) : Calls Tryd.prog 19 #[p4V q] w fun e w' => e = .returned (.string (bs (nameOf true q))) ∧ Kept w w' :=
  rfull_any q.1 q.2.1 q.2.2.1 q.2.2.2 w (by unfold size4 at h; simp [bulk]; omega)
theorem rname_short (w : World) (q : P4) (h : size4 q ≤ 10000) : Calls Tryd.prog 21 #[p4V q] w fun e w' => e = .returned (.string (bs (nameOf false q))) ∧ Kept w w' :=
  rshort_any q.1 q.2.1 q.2.2.1 q.2.2.2 w (by unfold size4 at h; simp [bulk]; omega)
theorem lang_cell {w : World} {g : Nat} (h : Blk w g 9 langCells) (k : Nat) (hk : k < 4) : ∃ x, langsL[k]? = some x ∧ w.cell? ⟨g, k, none⟩ = some (.string (bs x)) := by
  rcases lang_cases k hk with rfl | rfl | rfl | rfl
  · exact ⟨_, rfl, h.cell 0 _ rfl⟩
  · exact ⟨_, rfl, h.cell 1 _ rfl⟩
  · exact ⟨_, rfl, h.cell 2 _ rfl⟩
  · exact ⟨_, rfl, h.cell 3 _ rfl⟩

set_option maxRecDepth 100000 in
set_option maxHeartbeats 6400000 in
theorem rplist_ks (v : Value) (ps : List P4) (l : Bs) (m : Nat) (full : Bool) (w : World) (hv : Perss w v ps) (hN : ps.length ≤ 900) (hq : ∀ q ∈ ps, size4 q ≤ 10000) (hk : (andOf l).isSome = true) (hm1 : 1 ≤ m) (hm2 : m < ps.length) :
    Calls Tryd.prog 27 #[v, .string (bs l), .int .i64 m, .bool full] w fun e w' => e = .returned (.string (bs (Lib.join ((ps.map (nameOf full)).take m) sepL ++ [32] ++ (andOf l).getD [] ++ [32] ++ (othersOf l).getD []))) ∧ Kept w w' := by
  obtain ⟨i0, hi, hz0, hz1, hz2⟩ := info_parts Tryd.infoStr
  have HV := Lib.hid hv
  have HQ := Lib.hid hq
  clear hq
  obtain ⟨a, c, rfl, hc, h3⟩ := hv
  clear h3
  have HKN : Hid (knownK l 4 = true) := by show _ = _; rw [knownK_all, hk]
  clear hk
  have hm1' : decide ((m : Int) < 1) = false := by simp; omega
  have hm2' : decide (ps.length ≤ m) = false := by simp; omega
  go_enter Tryd.func27, Tryd.ntmps27
  go_wp2_with fail
  refine (rlangs_any _).mono ?_
  rintro e w1 ⟨rfl, rfl⟩
  have HB := Lib.hid (Blk.new w 9 langCells)
  have HK := Lib.hid (kept_alloc w (.cells langCells 9))
  generalize w.alloc (.cells langCells 9) = w1 at *
  have z := HB.out.lt
  go_wp2_with fail
  go_loop [9, 11] (fun v i => ∃ (k : Nat), k ≤ 4 ∧ i = .int .i64 k ∧ v = .bool (knownK l k)) (fun _ i => 4 - (intOf i).toNat)
  case atStart => exact ⟨0, Nat.zero_le _, rfl, rfl⟩
  case round =>
    obtain ⟨k, hk4, rfl, rfl⟩ := hrel
    by_cases hlt4 : k < 4
    · obtain ⟨x, hx, hcx⟩ := lang_cell HB.out k hlt4
      have HS := Lib.hid (knownK_step l k x hx)
      clear hx
      generalize knownK l k = kb at *
      cases kb
      · cases hxl : (x == l)
        · rw [hxl] at HS
          go_wp2_with fail
          go_round
          case rel => exact ⟨k + 1, by omega, by go_num, by rw [HS.out]; simp⟩
          case measure => simp [intOf]; omega
        · rw [hxl] at HS
          go_wp2_with fail
          go_round
          case rel => exact ⟨k + 1, by omega, by go_num, by rw [HS.out]; simp⟩
          case measure => simp [intOf]; omega
      · go_wp2_with fail
        go_round
        case rel => exact ⟨k + 1, by omega, by go_num, by rw [HS.out]; simp⟩
        case measure => simp [intOf]; omega
    · obtain rfl : k = 4 := by omega
      rw [HKN.out]
      go_wp2_with fail
      go_loopw [12, 13] (fun v i wr => ∃ (k : Nat), k ≤ ps.length ∧ i = .int .i64 k ∧ wr.ownsRow w1.heap.size 9 1 v ((ps.take k).map (nameOf full)).length (strCells ((ps.take k).map (nameOf full))) ∧ Kept w1 wr) (fun _ i _ => ps.length - (intOf i).toNat)
      case atStart => exact ⟨0, Nat.zero_le _, rfl, World.ownsRow_nil _ _ _ _, Kept.refl _⟩
      case round =>
        obtain ⟨k, hkl, rfl, hown, hkr⟩ := hrel
        by_cases hlt : k < ps.length
        · obtain ⟨q, hx⟩ : ∃ x, ps[k]? = some x := ⟨_, List.getElem?_eq_getElem hlt⟩
          obtain ⟨a', c', hv', hc', h3⟩ := (HV.out.kept HK.out).kept hkr
          obtain ⟨rfl, hdead, rfl⟩ := Value.slice.inj hv'
          clear hdead
          obtain ⟨g, o, rfl, hg, hcc⟩ := h3 (by omega)
          obtain ⟨c0, c1, c2, c3⟩ := hcc k q hx
          have hqs := HQ.out q (List.mem_of_getElem? hx)
          have HF := Lib.hid (map_take (nameOf full) ps k q hx)
          have hfl : ((ps.take k).map (nameOf full)).length ≤ k := by simp; omega
          generalize (ps.take k).map (nameOf full) = ws at *
          have hsz : w1.heap.size ≤ wr.heap.size := hkr.size
          have HR := Lib.hid hkr
          have HW := Lib.hid hown
          have HNF := Lib.hid (fun w => rname_full w q hqs)
          have HNS := Lib.hid (fun w => rname_short w q hqs)
          clear hkr hx hown hcc h3 hv' hc'
          obtain ⟨qf, qg, qp, qs⟩ := q
          simp only at c0 c1 c2 c3
          cases full
          · go_wp2_with fail
            refine (HNS.out _).mono ?_
            rintro e w2 ⟨rfl, hk2⟩
            generalize nameOf false (qf, qg, qp, qs) = nm at *
            have hown := own_kept HW.out hk2
            have HR2 := Lib.hid (HR.out.trans hk2)
            have hsz2 : w1.heap.size ≤ w2.heap.size := HR2.out.size
            clear hk2 HNF HNS
            go_wp2_with (at_builtin; refine wpList_append_own _ rfl _ _ 40 rfl w1.heap.size 9 i0 (.string ⟨#[]⟩) 1 16 Tryd.underlying40 hi hz0 hz1 hz2 rfl (by decide) _ _ _ rfl (hown.alloc _) ⟨w2.heap.size, 0, none⟩ 1 1 [.string (bs nm)] rfl rfl ?_ ?_ ?_ ?_ ?_ ?_)
            · exact new_cells _ #[.string (bs nm)] _ _ (by simp)
            · intro u hu; simp at hu; subst hu; rfl
            · unfold maxLen; omega
            · omega
            · simp; omega
            intro v' w3 hown2 hgrow _
            have HB2 := Lib.hid ((HR2.out.trans (kept_alloc w2 _)).trans' (grown_below (hown.alloc _) hgrow (by simp; omega)))
            rw [← strCells_snoc] at hown2
            have HO := Lib.hid hown2
            clear hown2 hgrow hown
            go_wp2_with fail
            go_roundw
            case rel => exact ⟨k + 1, by omega, by go_num, by rw [HF.out]; simpa using HO.out, HB2.out⟩
            case measure => simp [intOf]; omega
          · go_wp2_with fail
            refine (HNF.out _).mono ?_
            rintro e w2 ⟨rfl, hk2⟩
            generalize nameOf true (qf, qg, qp, qs) = nm at *
            have hown := own_kept HW.out hk2
            have HR2 := Lib.hid (HR.out.trans hk2)
            have hsz2 : w1.heap.size ≤ w2.heap.size := HR2.out.size
            clear hk2 HNF HNS
            go_wp2_with (at_builtin; refine wpList_append_own _ rfl _ _ 40 rfl w1.heap.size 9 i0 (.string ⟨#[]⟩) 1 16 Tryd.underlying40 hi hz0 hz1 hz2 rfl (by decide) _ _ _ rfl (hown.alloc _) ⟨w2.heap.size, 0, none⟩ 1 1 [.string (bs nm)] rfl rfl ?_ ?_ ?_ ?_ ?_ ?_)
            · exact new_cells _ #[.string (bs nm)] _ _ (by simp)
            · intro u hu; simp at hu; subst hu; rfl
            · unfold maxLen; omega
            · omega
            · simp; omega
            intro v' w3 hown2 hgrow _
            have HB2 := Lib.hid ((HR2.out.trans (kept_alloc w2 _)).trans' (grown_below (hown.alloc _) hgrow (by simp; omega)))
            rw [← strCells_snoc] at hown2
            have HO := Lib.hid hown2
            clear hown2 hgrow hown
            go_wp2_with fail
            go_roundw
            case rel => exact ⟨k + 1, by omega, by go_num, by rw [HF.out]; simpa using HO.out, HB2.out⟩
            case measure => simp [intOf]; omega
        · have HW := Lib.hid (Strs.own hown)
          have HR := Lib.hid (HK.out.trans hkr)
          rw [List.take_of_length_le (by omega)] at HW
          have hnl : (ps.map (nameOf full)).length ≤ 900 := by rw [List.length_map]; exact hN
          have HNM := Lib.hid (names_le full ps HQ.out)
          clear hown hkr
          have HA := Lib.hid (fun w => rterm_and l 1 w)
          have HO := Lib.hid (fun w => rterm_others l 2 w)
          go_wp2_with fail
          simp only [mk_bs]
          go_loop [14, 15] (fun s i => ∃ j : Nat, j ≤ m ∧ i = .int .i64 j ∧ s = .string (bs (Lib.join ((ps.map (nameOf full)).take j) sepL))) (fun _ i => m - (intOf i).toNat)
          case atStart => exact ⟨0, Nat.zero_le _, rfl, by simp [Lib.join_nil]⟩
          case round =>
            obtain ⟨j, hj, rfl, rfl⟩ := hrel
            have hjm := join_max sepL 10004 ((ps.map (nameOf full)).take j) (fun x hx => HNM.out x (List.mem_of_mem_take hx))
            have hjl : (Lib.join ((ps.map (nameOf full)).take j) sepL).length ≤ 10000000 := by
              have e : sepL.length = 2 := rfl
              rw [e] at hjm
              have h2 : ((ps.map (nameOf full)).take j).length ≤ 900 := by rw [List.length_take]; omega
              have := Nat.mul_le_mul_right (10004 + 2) h2
              omega
            clear hjm
            by_cases hjlt : j < m
            · obtain ⟨x, hx⟩ : ∃ x, (ps.map (nameOf full))[j]? = some x := ⟨_, List.getElem?_eq_getElem (by rw [List.length_map]; omega)⟩
              obtain ⟨a', c', hv', hc', h3⟩ := HW.out
              subst hv'
              clear hc'
              obtain ⟨g2, o2, rfl, hg2, hcc⟩ := h3 (by rw [List.length_map]; omega)
              have c0 := hcc j x hx
              have hxm := HNM.out x (List.mem_of_getElem? hx)
              have HJ := Lib.hid (join_step (ps.map (nameOf full)) j x hx)
              have hml : (ps.map (nameOf full)).length = ps.length := List.length_map _
              have hj9 : j < (ps.map (nameOf full)).length := by omega
              clear hcc h3 hx hml
              generalize ps.map (nameOf full) = ns at *
              generalize hjj : Lib.join (ns.take j) sepL = jj at *
              have HJJ := Lib.hid hjj
              clear hjj
              by_cases h0 : j = 0
              · subst h0
                obtain rfl : jj = [] := by rw [← HJJ.out]; simp [Lib.join_nil]
                rw [Nat.add_zero] at c0
                go_wp2_with fail
                go_round
                case rel => exact ⟨1, by omega, by go_num, by rw [HJ.out]; simp⟩
                case measure => simp [intOf]; omega
              · have hpos : 0 < j := by omega
                rw [if_neg h0] at HJ
                clear h0
                go_wp2_with fail
                go_round
                case rel => exact ⟨j + 1, by omega, by go_num, by rw [HJ.out]; simp [sepL]⟩
                case measure => simp [intOf]; omega
            · obtain rfl : j = m := by omega
              have hal := andOf_len l
              have hol := othersOf_len l
              obtain ⟨an, HAN⟩ : ∃ an, Hid ((andOf l).getD [] = an) := ⟨_, rfl⟩
              rw [HAN.out] at HA hal
              obtain ⟨an1, HAN1⟩ : ∃ an, Hid ((andOf l).isSome = an) := ⟨_, rfl⟩
              rw [HAN1.out] at HA
              obtain ⟨ot, HOT⟩ : ∃ an, Hid ((othersOf l).getD [] = an) := ⟨_, rfl⟩
              rw [HOT.out] at HO hol
              obtain ⟨ot1, HOT1⟩ : ∃ an, Hid ((othersOf l).isSome = an) := ⟨_, rfl⟩
              rw [HOT1.out] at HO
              obtain ⟨jj, HJJ⟩ : ∃ an, Hid (Lib.join ((ps.map (nameOf full)).take j) sepL = an) := ⟨_, rfl⟩
              rw [HJJ.out] at hjl ⊢
              go_wp2_with fail
              refine (HA.out _).mono ?_
              rintro e w2 ⟨rfl, hk2⟩
              have HR2 := Lib.hid (HR.out.trans hk2)
              clear hk2
              go_wp2_with fail
              refine (HO.out _).mono ?_
              rintro e w3 ⟨rfl, hk3⟩
              have HR3 := Lib.hid (HR2.out.trans hk3)
              clear hk3
              go_wp2_with fail
              go_ret
              exact ⟨ret_bs (by rw [HAN.out, HOT.out, HJJ.out]; simp), HR3.out⟩

set_option maxRecDepth 100000 in
set_option maxHeartbeats 6400000 in
theorem rplist_kn (v : Value) (ps : List P4) (l : Bs) (most : Int) (full : Bool) (w : World) (hv : Perss w v ps) (hN : ps.length ≤ 900) (hq : ∀ q ∈ ps, size4 q ≤ 10000) (hk : (andOf l).isSome = true) (hm : ¬ (1 ≤ most ∧ most < ps.length)) (hmr : -9223372036854775808 ≤ most ∧ most ≤ 9223372036854775807) :
    Calls Tryd.prog 27 #[v, .string (bs l), .int .i64 most, .bool full] w fun e w' => e = .returned (.string (bs (listL l (ps.map (nameOf full))))) ∧ Kept w w' := by
  obtain ⟨i0, hi, hz0, hz1, hz2⟩ := info_parts Tryd.infoStr
  have HV := Lib.hid hv
  have HQ := Lib.hid hq
  clear hq
  obtain ⟨a, c, rfl, hc, h3⟩ := hv
  clear h3
  have HKN : Hid (knownK l 4 = true) := by show _ = _; rw [knownK_all, hk]
  clear hk
  have hmc : (decide (most < 1) = true) ∨ (decide (most < 1) = false ∧ decide ((ps.length : Int) ≤ most) = true ∧ (ps.length : Int) ≤ most ∧ 1 ≤ most) := by
    by_cases h : most < 1
    · left; simpa using h
    · right; simp; omega
  clear hm
  go_enter Tryd.func27, Tryd.ntmps27
  go_wp2_with fail
  refine (rlangs_any _).mono ?_
  rintro e w1 ⟨rfl, rfl⟩
  have HB := Lib.hid (Blk.new w 9 langCells)
  have HK := Lib.hid (kept_alloc w (.cells langCells 9))
  generalize w.alloc (.cells langCells 9) = w1 at *
  have z := HB.out.lt
  go_wp2_with fail
  go_loop [9, 11] (fun v i => ∃ (k : Nat), k ≤ 4 ∧ i = .int .i64 k ∧ v = .bool (knownK l k)) (fun _ i => 4 - (intOf i).toNat)
  case atStart => exact ⟨0, Nat.zero_le _, rfl, rfl⟩
  case round =>
    obtain ⟨k, hk4, rfl, rfl⟩ := hrel
    by_cases hlt4 : k < 4
    · obtain ⟨x, hx, hcx⟩ := lang_cell HB.out k hlt4
      have HS := Lib.hid (knownK_step l k x hx)
      clear hx
      generalize knownK l k = kb at *
      cases kb
      · cases hxl : (x == l)
        · rw [hxl] at HS
          go_wp2_with fail
          go_round
          case rel => exact ⟨k + 1, by omega, by go_num, by rw [HS.out]; simp⟩
          case measure => simp [intOf]; omega
        · rw [hxl] at HS
          go_wp2_with fail
          go_round
          case rel => exact ⟨k + 1, by omega, by go_num, by rw [HS.out]; simp⟩
          case measure => simp [intOf]; omega
      · go_wp2_with fail
        go_round
        case rel => exact ⟨k + 1, by omega, by go_num, by rw [HS.out]; simp⟩
        case measure => simp [intOf]; omega
    · obtain rfl : k = 4 := by omega
      rw [HKN.out]
      rcases hmc with hm1 | ⟨hm1, hm2, hm3, hm4⟩
      · go_wp2_with fail
        go_loopw [12, 13] (fun v i wr => ∃ (k : Nat), k ≤ ps.length ∧ i = .int .i64 k ∧ wr.ownsRow w1.heap.size 9 1 v ((ps.take k).map (nameOf full)).length (strCells ((ps.take k).map (nameOf full))) ∧ Kept w1 wr) (fun _ i _ => ps.length - (intOf i).toNat)
        case atStart => exact ⟨0, Nat.zero_le _, rfl, World.ownsRow_nil _ _ _ _, Kept.refl _⟩
        case round =>
          obtain ⟨k, hkl, rfl, hown, hkr⟩ := hrel
          by_cases hlt : k < ps.length
          · obtain ⟨q, hx⟩ : ∃ x, ps[k]? = some x := ⟨_, List.getElem?_eq_getElem hlt⟩
            obtain ⟨a', c', hv', hc', h3⟩ := (HV.out.kept HK.out).kept hkr
            obtain ⟨rfl, hdead, rfl⟩ := Value.slice.inj hv'
            clear hdead
            obtain ⟨g, o, rfl, hg, hcc⟩ := h3 (by omega)
            obtain ⟨c0, c1, c2, c3⟩ := hcc k q hx
            have hqs := HQ.out q (List.mem_of_getElem? hx)
            have HF := Lib.hid (map_take (nameOf full) ps k q hx)
            have hfl : ((ps.take k).map (nameOf full)).length ≤ k := by simp; omega
            generalize (ps.take k).map (nameOf full) = ws at *
            have hsz : w1.heap.size ≤ wr.heap.size := hkr.size
            have HR := Lib.hid hkr
            have HW := Lib.hid hown
            have HNF := Lib.hid (fun w => rname_full w q hqs)
            have HNS := Lib.hid (fun w => rname_short w q hqs)
            clear hkr hx hown hcc h3 hv' hc'
            obtain ⟨qf, qg, qp, qs⟩ := q
            simp only at c0 c1 c2 c3
            cases full
            · go_wp2_with fail
              refine (HNS.out _).mono ?_
              rintro e w2 ⟨rfl, hk2⟩
              generalize nameOf false (qf, qg, qp, qs) = nm at *
              have hown := own_kept HW.out hk2
              have HR2 := Lib.hid (HR.out.trans hk2)
              have hsz2 : w1.heap.size ≤ w2.heap.size := HR2.out.size
              clear hk2 HNF HNS
              go_wp2_with (at_builtin; refine wpList_append_own _ rfl _ _ 40 rfl w1.heap.size 9 i0 (.string ⟨#[]⟩) 1 16 Tryd.underlying40 hi hz0 hz1 hz2 rfl (by decide) _ _ _ rfl (hown.alloc _) ⟨w2.heap.size, 0, none⟩ 1 1 [.string (bs nm)] rfl rfl ?_ ?_ ?_ ?_ ?_ ?_)
              · exact new_cells _ #[.string (bs nm)] _ _ (by simp)
              · intro u hu; simp at hu; subst hu; rfl
              · unfold maxLen; omega
              · omega
              · simp; omega
              intro v' w3 hown2 hgrow _
              have HB2 := Lib.hid ((HR2.out.trans (kept_alloc w2 _)).trans' (grown_below (hown.alloc _) hgrow (by simp; omega)))
              rw [← strCells_snoc] at hown2
              have HO := Lib.hid hown2
              clear hown2 hgrow hown
              go_wp2_with fail
              go_roundw
              case rel => exact ⟨k + 1, by omega, by go_num, by rw [HF.out]; simpa using HO.out, HB2.out⟩
              case measure => simp [intOf]; omega
            · go_wp2_with fail
              refine (HNF.out _).mono ?_
              rintro e w2 ⟨rfl, hk2⟩
              generalize nameOf true (qf, qg, qp, qs) = nm at *
              have hown := own_kept HW.out hk2
              have HR2 := Lib.hid (HR.out.trans hk2)
              have hsz2 : w1.heap.size ≤ w2.heap.size := HR2.out.size
              clear hk2 HNF HNS
              go_wp2_with (at_builtin; refine wpList_append_own _ rfl _ _ 40 rfl w1.heap.size 9 i0 (.string ⟨#[]⟩) 1 16 Tryd.underlying40 hi hz0 hz1 hz2 rfl (by decide) _ _ _ rfl (hown.alloc _) ⟨w2.heap.size, 0, none⟩ 1 1 [.string (bs nm)] rfl rfl ?_ ?_ ?_ ?_ ?_ ?_)
              · exact new_cells _ #[.string (bs nm)] _ _ (by simp)
              · intro u hu; simp at hu; subst hu; rfl
              · unfold maxLen; omega
              · omega
              · simp; omega
              intro v' w3 hown2 hgrow _
              have HB2 := Lib.hid ((HR2.out.trans (kept_alloc w2 _)).trans' (grown_below (hown.alloc _) hgrow (by simp; omega)))
              rw [← strCells_snoc] at hown2
              have HO := Lib.hid hown2
              clear hown2 hgrow hown
              go_wp2_with fail
              go_roundw
              case rel => exact ⟨k + 1, by omega, by go_num, by rw [HF.out]; simpa using HO.out, HB2.out⟩
              case measure => simp [intOf]; omega
          · have HW := Lib.hid (Strs.own hown)
            have HR := Lib.hid (HK.out.trans hkr)
            rw [List.take_of_length_le (by omega)] at HW
            have hnl : (ps.map (nameOf full)).length ≤ 900 := by rw [List.length_map]; exact hN
            have HNM := Lib.hid (names_le full ps HQ.out)
            clear hown hkr
            go_wp2_with fail
            refine (rllist_any l _ _ _ HW.out hnl HNM.out).mono ?_
            rintro e w2 ⟨rfl, hk2⟩
            have HR2 := Lib.hid (HR.out.trans hk2)
            clear hk2
            go_wp2_with fail
            go_ret
            exact ⟨rfl, HR2.out⟩
      · go_wp2_with fail
        go_loopw [12, 13] (fun v i wr => ∃ (k : Nat), k ≤ ps.length ∧ i = .int .i64 k ∧ wr.ownsRow w1.heap.size 9 1 v ((ps.take k).map (nameOf full)).length (strCells ((ps.take k).map (nameOf full))) ∧ Kept w1 wr) (fun _ i _ => ps.length - (intOf i).toNat)
        case atStart => exact ⟨0, Nat.zero_le _, rfl, World.ownsRow_nil _ _ _ _, Kept.refl _⟩
        case round =>
          obtain ⟨k, hkl, rfl, hown, hkr⟩ := hrel
          by_cases hlt : k < ps.length
          · obtain ⟨q, hx⟩ : ∃ x, ps[k]? = some x := ⟨_, List.getElem?_eq_getElem hlt⟩
            obtain ⟨a', c', hv', hc', h3⟩ := (HV.out.kept HK.out).kept hkr
            obtain ⟨rfl, hdead, rfl⟩ := Value.slice.inj hv'
            clear hdead
            obtain ⟨g, o, rfl, hg, hcc⟩ := h3 (by omega)
            obtain ⟨c0, c1, c2, c3⟩ := hcc k q hx
            have hqs := HQ.out q (List.mem_of_getElem? hx)
            have HF := Lib.hid (map_take (nameOf full) ps k q hx)
            have hfl : ((ps.take k).map (nameOf full)).length ≤ k := by simp; omega
            generalize (ps.take k).map (nameOf full) = ws at *
            have hsz : w1.heap.size ≤ wr.heap.size := hkr.size
            have HR := Lib.hid hkr
            have HW := Lib.hid hown
            have HNF := Lib.hid (fun w => rname_full w q hqs)
            have HNS := Lib.hid (fun w => rname_short w q hqs)
            clear hkr hx hown hcc h3 hv' hc'
            obtain ⟨qf, qg, qp, qs⟩ := q
            simp only at c0 c1 c2 c3
            cases full
            · go_wp2_with fail
              refine (HNS.out _).mono ?_
              rintro e w2 ⟨rfl, hk2⟩
              generalize nameOf false (qf, qg, qp, qs) = nm at *
              have hown := own_kept HW.out hk2
              have HR2 := Lib.hid (HR.out.trans hk2)
              have hsz2 : w1.heap.size ≤ w2.heap.size := HR2.out.size
              clear hk2 HNF HNS
              go_wp2_with (at_builtin; refine wpList_append_own _ rfl _ _ 40 rfl w1.heap.size 9 i0 (.string ⟨#[]⟩) 1 16 Tryd.underlying40 hi hz0 hz1 hz2 rfl (by decide) _ _ _ rfl (hown.alloc _) ⟨w2.heap.size, 0, none⟩ 1 1 [.string (bs nm)] rfl rfl ?_ ?_ ?_ ?_ ?_ ?_)
              · exact new_cells _ #[.string (bs nm)] _ _ (by simp)
              · intro u hu; simp at hu; subst hu; rfl
              · unfold maxLen; omega
              · omega
              · simp; omega
              intro v' w3 hown2 hgrow _
              have HB2 := Lib.hid ((HR2.out.trans (kept_alloc w2 _)).trans' (grown_below (hown.alloc _) hgrow (by simp; omega)))
              rw [← strCells_snoc] at hown2
              have HO := Lib.hid hown2
              clear hown2 hgrow hown
              go_wp2_with fail
              go_roundw
              case rel => exact ⟨k + 1, by omega, by go_num, by rw [HF.out]; simpa using HO.out, HB2.out⟩
              case measure => simp [intOf]; omega
            · go_wp2_with fail
              refine (HNF.out _).mono ?_
              rintro e w2 ⟨rfl, hk2⟩
              generalize nameOf true (qf, qg, qp, qs) = nm at *
              have hown := own_kept HW.out hk2
              have HR2 := Lib.hid (HR.out.trans hk2)
              have hsz2 : w1.heap.size ≤ w2.heap.size := HR2.out.size
              clear hk2 HNF HNS
              go_wp2_with (at_builtin; refine wpList_append_own _ rfl _ _ 40 rfl w1.heap.size 9 i0 (.string ⟨#[]⟩) 1 16 Tryd.underlying40 hi hz0 hz1 hz2 rfl (by decide) _ _ _ rfl (hown.alloc _) ⟨w2.heap.size, 0, none⟩ 1 1 [.string (bs nm)] rfl rfl ?_ ?_ ?_ ?_ ?_ ?_)
              · exact new_cells _ #[.string (bs nm)] _ _ (by simp)
              · intro u hu; simp at hu; subst hu; rfl
              · unfold maxLen; omega
              · omega
              · simp; omega
              intro v' w3 hown2 hgrow _
              have HB2 := Lib.hid ((HR2.out.trans (kept_alloc w2 _)).trans' (grown_below (hown.alloc _) hgrow (by simp; omega)))
              rw [← strCells_snoc] at hown2
              have HO := Lib.hid hown2
              clear hown2 hgrow hown
              go_wp2_with fail
              go_roundw
              case rel => exact ⟨k + 1, by omega, by go_num, by rw [HF.out]; simpa using HO.out, HB2.out⟩
              case measure => simp [intOf]; omega
          · have HW := Lib.hid (Strs.own hown)
            have HR := Lib.hid (HK.out.trans hkr)
            rw [List.take_of_length_le (by omega)] at HW
            have hnl : (ps.map (nameOf full)).length ≤ 900 := by rw [List.length_map]; exact hN
            have HNM := Lib.hid (names_le full ps HQ.out)
            clear hown hkr
            go_wp2_with fail
            refine (rllist_any l _ _ _ HW.out hnl HNM.out).mono ?_
            rintro e w2 ⟨rfl, hk2⟩
            have HR2 := Lib.hid (HR.out.trans hk2)
            clear hk2
            go_wp2_with fail
            go_ret
            exact ⟨rfl, HR2.out⟩

set_option maxRecDepth 100000 in
set_option maxHeartbeats 6400000 in
theorem rplist_us (v : Value) (ps : List P4) (l : Bs) (m : Nat) (full : Bool) (w : World) (hv : Perss w v ps) (hN : ps.length ≤ 900) (hq : ∀ q ∈ ps, size4 q ≤ 10000) (hk : (andOf l).isSome = false) (hm1 : 1 ≤ m) (hm2 : m < ps.length) :
    Calls Tryd.prog 27 #[v, .string (bs l), .int .i64 m, .bool full] w fun e w' => e = .returned (.string (bs (Lib.join ((ps.map (nameOf full)).take m) sepL ++ [32] ++ (andOf lEn).getD [] ++ [32] ++ (othersOf lEn).getD []))) ∧ Kept w w' := by
  obtain ⟨i0, hi, hz0, hz1, hz2⟩ := info_parts Tryd.infoStr
  have HV := Lib.hid hv
  have HQ := Lib.hid hq
  clear hq
  obtain ⟨a, c, rfl, hc, h3⟩ := hv
  clear h3
  have HKN : Hid (knownK l 4 = false) := by show _ = _; rw [knownK_all, hk]
  clear hk
  have hm1' : decide ((m : Int) < 1) = false := by simp; omega
  have hm2' : decide (ps.length ≤ m) = false := by simp; omega
  go_enter Tryd.func27, Tryd.ntmps27
  go_wp2_with fail
  refine (rlangs_any _).mono ?_
  rintro e w1 ⟨rfl, rfl⟩
  have HB := Lib.hid (Blk.new w 9 langCells)
  have HK := Lib.hid (kept_alloc w (.cells langCells 9))
  generalize w.alloc (.cells langCells 9) = w1 at *
  have z := HB.out.lt
  go_wp2_with fail
  go_loop [9, 11] (fun v i => ∃ (k : Nat), k ≤ 4 ∧ i = .int .i64 k ∧ v = .bool (knownK l k)) (fun _ i => 4 - (intOf i).toNat)
  case atStart => exact ⟨0, Nat.zero_le _, rfl, rfl⟩
  case round =>
    obtain ⟨k, hk4, rfl, rfl⟩ := hrel
    by_cases hlt4 : k < 4
    · obtain ⟨x, hx, hcx⟩ := lang_cell HB.out k hlt4
      have HS := Lib.hid (knownK_step l k x hx)
      clear hx
      generalize knownK l k = kb at *
      cases kb
      · cases hxl : (x == l)
        · rw [hxl] at HS
          go_wp2_with fail
          go_round
          case rel => exact ⟨k + 1, by omega, by go_num, by rw [HS.out]; simp⟩
          case measure => simp [intOf]; omega
        · rw [hxl] at HS
          go_wp2_with fail
          go_round
          case rel => exact ⟨k + 1, by omega, by go_num, by rw [HS.out]; simp⟩
          case measure => simp [intOf]; omega
      · go_wp2_with fail
        go_round
        case rel => exact ⟨k + 1, by omega, by go_num, by rw [HS.out]; simp⟩
        case measure => simp [intOf]; omega
    · obtain rfl : k = 4 := by omega
      rw [HKN.out]
      go_wp2_with fail
      try simp only [mk_bs]
      go_loopw [12, 13] (fun v i wr => ∃ (k : Nat), k ≤ ps.length ∧ i = .int .i64 k ∧ wr.ownsRow w1.heap.size 9 1 v ((ps.take k).map (nameOf full)).length (strCells ((ps.take k).map (nameOf full))) ∧ Kept w1 wr) (fun _ i _ => ps.length - (intOf i).toNat)
      case atStart => exact ⟨0, Nat.zero_le _, rfl, World.ownsRow_nil _ _ _ _, Kept.refl _⟩
      case round =>
        obtain ⟨k, hkl, rfl, hown, hkr⟩ := hrel
        by_cases hlt : k < ps.length
        · obtain ⟨q, hx⟩ : ∃ x, ps[k]? = some x := ⟨_, List.getElem?_eq_getElem hlt⟩
          obtain ⟨a', c', hv', hc', h3⟩ := (HV.out.kept HK.out).kept hkr
          obtain ⟨rfl, hdead, rfl⟩ := Value.slice.inj hv'
          clear hdead
          obtain ⟨g, o, rfl, hg, hcc⟩ := h3 (by omega)
          obtain ⟨c0, c1, c2, c3⟩ := hcc k q hx
          have hqs := HQ.out q (List.mem_of_getElem? hx)
          have HF := Lib.hid (map_take (nameOf full) ps k q hx)
          have hfl : ((ps.take k).map (nameOf full)).length ≤ k := by simp; omega
          generalize (ps.take k).map (nameOf full) = ws at *
          have hsz : w1.heap.size ≤ wr.heap.size := hkr.size
          have HR := Lib.hid hkr
          have HW := Lib.hid hown
          have HNF := Lib.hid (fun w => rname_full w q hqs)
          have HNS := Lib.hid (fun w => rname_short w q hqs)
          clear hkr hx hown hcc h3 hv' hc'
          obtain ⟨qf, qg, qp, qs⟩ := q
          simp only at c0 c1 c2 c3
          cases full
          · go_wp2_with fail
            refine (HNS.out _).mono ?_
            rintro e w2 ⟨rfl, hk2⟩
            generalize nameOf false (qf, qg, qp, qs) = nm at *
            have hown := own_kept HW.out hk2
            have HR2 := Lib.hid (HR.out.trans hk2)
            have hsz2 : w1.heap.size ≤ w2.heap.size := HR2.out.size
            clear hk2 HNF HNS
            go_wp2_with (at_builtin; refine wpList_append_own _ rfl _ _ 40 rfl w1.heap.size 9 i0 (.string ⟨#[]⟩) 1 16 Tryd.underlying40 hi hz0 hz1 hz2 rfl (by decide) _ _ _ rfl (hown.alloc _) ⟨w2.heap.size, 0, none⟩ 1 1 [.string (bs nm)] rfl rfl ?_ ?_ ?_ ?_ ?_ ?_)
            · exact new_cells _ #[.string (bs nm)] _ _ (by simp)
            · intro u hu; simp at hu; subst hu; rfl
            · unfold maxLen; omega
            · omega
            · simp; omega
            intro v' w3 hown2 hgrow _
            have HB2 := Lib.hid ((HR2.out.trans (kept_alloc w2 _)).trans' (grown_below (hown.alloc _) hgrow (by simp; omega)))
            rw [← strCells_snoc] at hown2
            have HO := Lib.hid hown2
            clear hown2 hgrow hown
            go_wp2_with fail
            go_roundw
            case rel => exact ⟨k + 1, by omega, by go_num, by rw [HF.out]; simpa using HO.out, HB2.out⟩
            case measure => simp [intOf]; omega
          · go_wp2_with fail
            refine (HNF.out _).mono ?_
            rintro e w2 ⟨rfl, hk2⟩
            generalize nameOf true (qf, qg, qp, qs) = nm at *
            have hown := own_kept HW.out hk2
            have HR2 := Lib.hid (HR.out.trans hk2)
            have hsz2 : w1.heap.size ≤ w2.heap.size := HR2.out.size
            clear hk2 HNF HNS
            go_wp2_with (at_builtin; refine wpList_append_own _ rfl _ _ 40 rfl w1.heap.size 9 i0 (.string ⟨#[]⟩) 1 16 Tryd.underlying40 hi hz0 hz1 hz2 rfl (by decide) _ _ _ rfl (hown.alloc _) ⟨w2.heap.size, 0, none⟩ 1 1 [.string (bs nm)] rfl rfl ?_ ?_ ?_ ?_ ?_ ?_)
            · exact new_cells _ #[.string (bs nm)] _ _ (by simp)
            · intro u hu; simp at hu; subst hu; rfl
            · unfold maxLen; omega
            · omega
            · simp; omega
            intro v' w3 hown2 hgrow _
            have HB2 := Lib.hid ((HR2.out.trans (kept_alloc w2 _)).trans' (grown_below (hown.alloc _) hgrow (by simp; omega)))
            rw [← strCells_snoc] at hown2
            have HO := Lib.hid hown2
            clear hown2 hgrow hown
            go_wp2_with fail
            go_roundw
            case rel => exact ⟨k + 1, by omega, by go_num, by rw [HF.out]; simpa using HO.out, HB2.out⟩
            case measure => simp [intOf]; omega
        · have HW := Lib.hid (Strs.own hown)
          have HR := Lib.hid (HK.out.trans hkr)
          rw [List.take_of_length_le (by omega)] at HW
          have hnl : (ps.map (nameOf full)).length ≤ 900 := by rw [List.length_map]; exact hN
          have HNM := Lib.hid (names_le full ps HQ.out)
          clear hown hkr
          have HA := Lib.hid (fun w => rterm_and lEn 1 w)
          have HO := Lib.hid (fun w => rterm_others lEn 2 w)
          go_wp2_with fail
          simp only [mk_bs]
          go_loop [14, 15] (fun s i => ∃ j : Nat, j ≤ m ∧ i = .int .i64 j ∧ s = .string (bs (Lib.join ((ps.map (nameOf full)).take j) sepL))) (fun _ i => m - (intOf i).toNat)
          case atStart => exact ⟨0, Nat.zero_le _, rfl, by simp [Lib.join_nil]⟩
          case round =>
            obtain ⟨j, hj, rfl, rfl⟩ := hrel
            have hjm := join_max sepL 10004 ((ps.map (nameOf full)).take j) (fun x hx => HNM.out x (List.mem_of_mem_take hx))
            have hjl : (Lib.join ((ps.map (nameOf full)).take j) sepL).length ≤ 10000000 := by
              have e : sepL.length = 2 := rfl
              rw [e] at hjm
              have h2 : ((ps.map (nameOf full)).take j).length ≤ 900 := by rw [List.length_take]; omega
              have := Nat.mul_le_mul_right (10004 + 2) h2
              omega
            clear hjm
            by_cases hjlt : j < m
            · obtain ⟨x, hx⟩ : ∃ x, (ps.map (nameOf full))[j]? = some x := ⟨_, List.getElem?_eq_getElem (by rw [List.length_map]; omega)⟩
              obtain ⟨a', c', hv', hc', h3⟩ := HW.out
              subst hv'
              clear hc'
              obtain ⟨g2, o2, rfl, hg2, hcc⟩ := h3 (by rw [List.length_map]; omega)
              have c0 := hcc j x hx
              have hxm := HNM.out x (List.mem_of_getElem? hx)
              have HJ := Lib.hid (join_step (ps.map (nameOf full)) j x hx)
              have hml : (ps.map (nameOf full)).length = ps.length := List.length_map _
              have hj9 : j < (ps.map (nameOf full)).length := by omega
              clear hcc h3 hx hml
              generalize ps.map (nameOf full) = ns at *
              generalize hjj : Lib.join (ns.take j) sepL = jj at *
              have HJJ := Lib.hid hjj
              clear hjj
              by_cases h0 : j = 0
              · subst h0
                obtain rfl : jj = [] := by rw [← HJJ.out]; simp [Lib.join_nil]
                rw [Nat.add_zero] at c0
                go_wp2_with fail
                go_round
                case rel => exact ⟨1, by omega, by go_num, by rw [HJ.out]; simp⟩
                case measure => simp [intOf]; omega
              · have hpos : 0 < j := by omega
                rw [if_neg h0] at HJ
                clear h0
                go_wp2_with fail
                go_round
                case rel => exact ⟨j + 1, by omega, by go_num, by rw [HJ.out]; simp [sepL]⟩
                case measure => simp [intOf]; omega
            · obtain rfl : j = m := by omega
              have hal := andOf_len lEn
              have hol := othersOf_len lEn
              obtain ⟨an, HAN⟩ : ∃ an, Hid ((andOf lEn).getD [] = an) := ⟨_, rfl⟩
              rw [HAN.out] at HA hal
              obtain ⟨an1, HAN1⟩ : ∃ an, Hid ((andOf lEn).isSome = an) := ⟨_, rfl⟩
              rw [HAN1.out] at HA
              obtain ⟨ot, HOT⟩ : ∃ an, Hid ((othersOf lEn).getD [] = an) := ⟨_, rfl⟩
              rw [HOT.out] at HO hol
              obtain ⟨ot1, HOT1⟩ : ∃ an, Hid ((othersOf lEn).isSome = an) := ⟨_, rfl⟩
              rw [HOT1.out] at HO
              obtain ⟨jj, HJJ⟩ : ∃ an, Hid (Lib.join ((ps.map (nameOf full)).take j) sepL = an) := ⟨_, rfl⟩
              rw [HJJ.out] at hjl ⊢
              go_wp2_with fail
              refine (HA.out _).mono ?_
              rintro e w2 ⟨rfl, hk2⟩
              have HR2 := Lib.hid (HR.out.trans hk2)
              clear hk2
              go_wp2_with fail
              refine (HO.out _).mono ?_
              rintro e w3 ⟨rfl, hk3⟩
              have HR3 := Lib.hid (HR2.out.trans hk3)
              clear hk3
              go_wp2_with fail
              go_ret
              exact ⟨ret_bs (by rw [HAN.out, HOT.out, HJJ.out]; simp), HR3.out⟩

set_option maxRecDepth 100000 in
set_option maxHeartbeats 6400000 in
theorem rplist_un (v : Value) (ps : List P4) (l : Bs) (most : Int) (full : Bool) (w : World) (hv : Perss w v ps) (hN : ps.length ≤ 900) (hq : ∀ q ∈ ps, size4 q ≤ 10000) (hk : (andOf l).isSome = false) (hm : ¬ (1 ≤ most ∧ most < ps.length)) (hmr : -9223372036854775808 ≤ most ∧ most ≤ 9223372036854775807) :
    Calls Tryd.prog 27 #[v, .string (bs l), .int .i64 most, .bool full] w fun e w' => e = .returned (.string (bs (listL lEn (ps.map (nameOf full))))) ∧ Kept w w' := by
  obtain ⟨i0, hi, hz0, hz1, hz2⟩ := info_parts Tryd.infoStr
  have HV := Lib.hid hv
  have HQ := Lib.hid hq
  clear hq
  obtain ⟨a, c, rfl, hc, h3⟩ := hv
  clear h3
  have HKN : Hid (knownK l 4 = false) := by show _ = _; rw [knownK_all, hk]
  clear hk
  have hmc : (decide (most < 1) = true) ∨ (decide (most < 1) = false ∧ decide ((ps.length : Int) ≤ most) = true ∧ (ps.length : Int) ≤ most ∧ 1 ≤ most) := by
    by_cases h : most < 1
    · left; simpa using h
    · right; simp; omega
  clear hm
  go_enter Tryd.func27, Tryd.ntmps27
  go_wp2_with fail
  refine (rlangs_any _).mono ?_
  rintro e w1 ⟨rfl, rfl⟩
  have HB := Lib.hid (Blk.new w 9 langCells)
  have HK := Lib.hid (kept_alloc w (.cells langCells 9))
  generalize w.alloc (.cells langCells 9) = w1 at *
  have z := HB.out.lt
  go_wp2_with fail
  go_loop [9, 11] (fun v i => ∃ (k : Nat), k ≤ 4 ∧ i = .int .i64 k ∧ v = .bool (knownK l k)) (fun _ i => 4 - (intOf i).toNat)
  case atStart => exact ⟨0, Nat.zero_le _, rfl, rfl⟩
  case round =>
    obtain ⟨k, hk4, rfl, rfl⟩ := hrel
    by_cases hlt4 : k < 4
    · obtain ⟨x, hx, hcx⟩ := lang_cell HB.out k hlt4
      have HS := Lib.hid (knownK_step l k x hx)
      clear hx
      generalize knownK l k = kb at *
      cases kb
      · cases hxl : (x == l)
        · rw [hxl] at HS
          go_wp2_with fail
          go_round
          case rel => exact ⟨k + 1, by omega, by go_num, by rw [HS.out]; simp⟩
          case measure => simp [intOf]; omega
        · rw [hxl] at HS
          go_wp2_with fail
          go_round
          case rel => exact ⟨k + 1, by omega, by go_num, by rw [HS.out]; simp⟩
          case measure => simp [intOf]; omega
      · go_wp2_with fail
        go_round
        case rel => exact ⟨k + 1, by omega, by go_num, by rw [HS.out]; simp⟩
        case measure => simp [intOf]; omega
    · obtain rfl : k = 4 := by omega
      rw [HKN.out]
      rcases hmc with hm1 | ⟨hm1, hm2, hm3, hm4⟩
      · go_wp2_with fail
        try simp only [mk_bs]
        go_loopw [12, 13] (fun v i wr => ∃ (k : Nat), k ≤ ps.length ∧ i = .int .i64 k ∧ wr.ownsRow w1.heap.size 9 1 v ((ps.take k).map (nameOf full)).length (strCells ((ps.take k).map (nameOf full))) ∧ Kept w1 wr) (fun _ i _ => ps.length - (intOf i).toNat)
        case atStart => exact ⟨0, Nat.zero_le _, rfl, World.ownsRow_nil _ _ _ _, Kept.refl _⟩
        case round =>
          obtain ⟨k, hkl, rfl, hown, hkr⟩ := hrel
          by_cases hlt : k < ps.length
          · obtain ⟨q, hx⟩ : ∃ x, ps[k]? = some x := ⟨_, List.getElem?_eq_getElem hlt⟩
            obtain ⟨a', c', hv', hc', h3⟩ := (HV.out.kept HK.out).kept hkr
            obtain ⟨rfl, hdead, rfl⟩ := Value.slice.inj hv'
            clear hdead
            obtain ⟨g, o, rfl, hg, hcc⟩ := h3 (by omega)
            obtain ⟨c0, c1, c2, c3⟩ := hcc k q hx
            have hqs := HQ.out q (List.mem_of_getElem? hx)
            have HF := Lib.hid (map_take (nameOf full) ps k q hx)
            have hfl : ((ps.take k).map (nameOf full)).length ≤ k := by simp; omega
            generalize (ps.take k).map (nameOf full) = ws at *
            have hsz : w1.heap.size ≤ wr.heap.size := hkr.size
            have HR := Lib.hid hkr
            have HW := Lib.hid hown
            have HNF := Lib.hid (fun w => rname_full w q hqs)
            have HNS := Lib.hid (fun w => rname_short w q hqs)
            clear hkr hx hown hcc h3 hv' hc'
            obtain ⟨qf, qg, qp, qs⟩ := q
            simp only at c0 c1 c2 c3
            cases full
            · go_wp2_with fail
              refine (HNS.out _).mono ?_
              rintro e w2 ⟨rfl, hk2⟩
              generalize nameOf false (qf, qg, qp, qs) = nm at *
              have hown := own_kept HW.out hk2
              have HR2 := Lib.hid (HR.out.trans hk2)
              have hsz2 : w1.heap.size ≤ w2.heap.size := HR2.out.size
              clear hk2 HNF HNS
              go_wp2_with (at_builtin; refine wpList_append_own _ rfl _ _ 40 rfl w1.heap.size 9 i0 (.string ⟨#[]⟩) 1 16 Tryd.underlying40 hi hz0 hz1 hz2 rfl (by decide) _ _ _ rfl (hown.alloc _) ⟨w2.heap.size, 0, none⟩ 1 1 [.string (bs nm)] rfl rfl ?_ ?_ ?_ ?_ ?_ ?_)
              · exact new_cells _ #[.string (bs nm)] _ _ (by simp)
              · intro u hu; simp at hu; subst hu; rfl
              · unfold maxLen; omega
              · omega
              · simp; omega
              intro v' w3 hown2 hgrow _
              have HB2 := Lib.hid ((HR2.out.trans (kept_alloc w2 _)).trans' (grown_below (hown.alloc _) hgrow (by simp; omega)))
              rw [← strCells_snoc] at hown2
              have HO := Lib.hid hown2
              clear hown2 hgrow hown
              go_wp2_with fail
              go_roundw
              case rel => exact ⟨k + 1, by omega, by go_num, by rw [HF.out]; simpa using HO.out, HB2.out⟩
              case measure => simp [intOf]; omega
            · go_wp2_with fail
              refine (HNF.out _).mono ?_
              rintro e w2 ⟨rfl, hk2⟩
              generalize nameOf true (qf, qg, qp, qs) = nm at *
              have hown := own_kept HW.out hk2
              have HR2 := Lib.hid (HR.out.trans hk2)
              have hsz2 : w1.heap.size ≤ w2.heap.size := HR2.out.size
              clear hk2 HNF HNS
              go_wp2_with (at_builtin; refine wpList_append_own _ rfl _ _ 40 rfl w1.heap.size 9 i0 (.string ⟨#[]⟩) 1 16 Tryd.underlying40 hi hz0 hz1 hz2 rfl (by decide) _ _ _ rfl (hown.alloc _) ⟨w2.heap.size, 0, none⟩ 1 1 [.string (bs nm)] rfl rfl ?_ ?_ ?_ ?_ ?_ ?_)
              · exact new_cells _ #[.string (bs nm)] _ _ (by simp)
              · intro u hu; simp at hu; subst hu; rfl
              · unfold maxLen; omega
              · omega
              · simp; omega
              intro v' w3 hown2 hgrow _
              have HB2 := Lib.hid ((HR2.out.trans (kept_alloc w2 _)).trans' (grown_below (hown.alloc _) hgrow (by simp; omega)))
              rw [← strCells_snoc] at hown2
              have HO := Lib.hid hown2
              clear hown2 hgrow hown
              go_wp2_with fail
              go_roundw
              case rel => exact ⟨k + 1, by omega, by go_num, by rw [HF.out]; simpa using HO.out, HB2.out⟩
              case measure => simp [intOf]; omega
          · have HW := Lib.hid (Strs.own hown)
            have HR := Lib.hid (HK.out.trans hkr)
            rw [List.take_of_length_le (by omega)] at HW
            have hnl : (ps.map (nameOf full)).length ≤ 900 := by rw [List.length_map]; exact hN
            have HNM := Lib.hid (names_le full ps HQ.out)
            clear hown hkr
            go_wp2_with fail
            refine (rllist_any lEn _ _ _ HW.out hnl HNM.out).mono ?_
            rintro e w2 ⟨rfl, hk2⟩
            have HR2 := Lib.hid (HR.out.trans hk2)
            clear hk2
            go_wp2_with fail
            go_ret
            exact ⟨rfl, HR2.out⟩
      · go_wp2_with fail
        try simp only [mk_bs]
        go_loopw [12, 13] (fun v i wr => ∃ (k : Nat), k ≤ ps.length ∧ i = .int .i64 k ∧ wr.ownsRow w1.heap.size 9 1 v ((ps.take k).map (nameOf full)).length (strCells ((ps.take k).map (nameOf full))) ∧ Kept w1 wr) (fun _ i _ => ps.length - (intOf i).toNat)
        case atStart => exact ⟨0, Nat.zero_le _, rfl, World.ownsRow_nil _ _ _ _, Kept.refl _⟩
        case round =>
          obtain ⟨k, hkl, rfl, hown, hkr⟩ := hrel
          by_cases hlt : k < ps.length
          · obtain ⟨q, hx⟩ : ∃ x, ps[k]? = some x := ⟨_, List.getElem?_eq_getElem hlt⟩
            obtain ⟨a', c', hv', hc', h3⟩ := (HV.out.kept HK.out).kept hkr
            obtain ⟨rfl, hdead, rfl⟩ := Value.slice.inj hv'
            clear hdead
            obtain ⟨g, o, rfl, hg, hcc⟩ := h3 (by omega)
            obtain ⟨c0, c1, c2, c3⟩ := hcc k q hx
            have hqs := HQ.out q (List.mem_of_getElem? hx)
            have HF := Lib.hid (map_take (nameOf full) ps k q hx)
            have hfl : ((ps.take k).map (nameOf full)).length ≤ k := by simp; omega
            generalize (ps.take k).map (nameOf full) = ws at *
            have hsz : w1.heap.size ≤ wr.heap.size := hkr.size
            have HR := Lib.hid hkr
            have HW := Lib.hid hown
            have HNF := Lib.hid (fun w => rname_full w q hqs)
            have HNS := Lib.hid (fun w => rname_short w q hqs)
            clear hkr hx hown hcc h3 hv' hc'
            obtain ⟨qf, qg, qp, qs⟩ := q
            simp only at c0 c1 c2 c3
            cases full
            · go_wp2_with fail
              refine (HNS.out _).mono ?_
              rintro e w2 ⟨rfl, hk2⟩
              generalize nameOf false (qf, qg, qp, qs) = nm at *
              have hown := own_kept HW.out hk2
              have HR2 := Lib.hid (HR.out.trans hk2)
              have hsz2 : w1.heap.size ≤ w2.heap.size := HR2.out.size
              clear hk2 HNF HNS
              go_wp2_with (at_builtin; refine wpList_append_own _ rfl _ _ 40 rfl w1.heap.size 9 i0 (.string ⟨#[]⟩) 1 16 Tryd.underlying40 hi hz0 hz1 hz2 rfl (by decide) _ _ _ rfl (hown.alloc _) ⟨w2.heap.size, 0, none⟩ 1 1 [.string (bs nm)] rfl rfl ?_ ?_ ?_ ?_ ?_ ?_)
              · exact new_cells _ #[.string (bs nm)] _ _ (by simp)
              · intro u hu; simp at hu; subst hu; rfl
              · unfold maxLen; omega
              · omega
              · simp; omega
              intro v' w3 hown2 hgrow _
              have HB2 := Lib.hid ((HR2.out.trans (kept_alloc w2 _)).trans' (grown_below (hown.alloc _) hgrow (by simp; omega)))
              rw [← strCells_snoc] at hown2
              have HO := Lib.hid hown2
              clear hown2 hgrow hown
              go_wp2_with fail
              go_roundw
              case rel => exact ⟨k + 1, by omega, by go_num, by rw [HF.out]; simpa using HO.out, HB2.out⟩
              case measure => simp [intOf]; omega
            · go_wp2_with fail
              refine (HNF.out _).mono ?_
              rintro e w2 ⟨rfl, hk2⟩
              generalize nameOf true (qf, qg, qp, qs) = nm at *
              have hown := own_kept HW.out hk2
              have HR2 := Lib.hid (HR.out.trans hk2)
              have hsz2 : w1.heap.size ≤ w2.heap.size := HR2.out.size
              clear hk2 HNF HNS
              go_wp2_with (at_builtin; refine wpList_append_own _ rfl _ _ 40 rfl w1.heap.size 9 i0 (.string ⟨#[]⟩) 1 16 Tryd.underlying40 hi hz0 hz1 hz2 rfl (by decide) _ _ _ rfl (hown.alloc _) ⟨w2.heap.size, 0, none⟩ 1 1 [.string (bs nm)] rfl rfl ?_ ?_ ?_ ?_ ?_ ?_)
              · exact new_cells _ #[.string (bs nm)] _ _ (by simp)
              · intro u hu; simp at hu; subst hu; rfl
              · unfold maxLen; omega
              · omega
              · simp; omega
              intro v' w3 hown2 hgrow _
              have HB2 := Lib.hid ((HR2.out.trans (kept_alloc w2 _)).trans' (grown_below (hown.alloc _) hgrow (by simp; omega)))
              rw [← strCells_snoc] at hown2
              have HO := Lib.hid hown2
              clear hown2 hgrow hown
              go_wp2_with fail
              go_roundw
              case rel => exact ⟨k + 1, by omega, by go_num, by rw [HF.out]; simpa using HO.out, HB2.out⟩
              case measure => simp [intOf]; omega
          · have HW := Lib.hid (Strs.own hown)
            have HR := Lib.hid (HK.out.trans hkr)
            rw [List.take_of_length_le (by omega)] at HW
            have hnl : (ps.map (nameOf full)).length ≤ 900 := by rw [List.length_map]; exact hN
            have HNM := Lib.hid (names_le full ps HQ.out)
            clear hown hkr
            go_wp2_with fail
            refine (rllist_any lEn _ _ _ HW.out hnl HNM.out).mono ?_
            rintro e w2 ⟨rfl, hk2⟩
            have HR2 := Lib.hid (HR.out.trans hk2)
            clear hk2
            go_wp2_with fail
            go_ret
            exact ⟨rfl, HR2.out⟩

theorem rplist_any (v : Value) (ps : List P4) (l : Bs) (most : Int) (full : Bool) (w : World) (hv : Perss w v ps) (hN : ps.length ≤ 900) (hq : ∀ q ∈ ps, size4 q ≤ 10000) (hmr : -9223372036854775808 ≤ most ∧ most ≤ 9223372036854775807) :
    Calls Tryd.prog 27 #[v, .string (bs l), .int .i64 most, .bool full] w fun e w' => e = .returned (.string (bs (plistL ps l most full))) ∧ Kept w w' := by
  unfold plistL langOf
  cases hk : (andOf l).isSome
  · by_cases hm : 1 ≤ most ∧ most < ps.length
    · rw [if_pos hm]
      obtain ⟨m, rfl⟩ : ∃ m : Nat, most = m := ⟨most.toNat, by omega⟩
      have := rplist_us v ps l m full w hv hN hq hk (by omega) (by omega)
      rw [← List.map_take] at this; exact this
    · rw [if_neg hm]; exact rplist_un v ps l most full w hv hN hq hk hm hmr
  · by_cases hm : 1 ≤ most ∧ most < ps.length
    · rw [if_pos hm]
      obtain ⟨m, rfl⟩ : ∃ m : Nat, most = m := ⟨most.toNat, by omega⟩
      have := rplist_ks v ps l m full w hv hN hq hk (by omega) (by omega)
      rw [← List.map_take] at this; exact this
    · rw [if_neg hm]; exact rplist_kn v ps l most full w hv hN hq hk hm hmr
end Go.Proofs.YtflpkadknljpbaaDoor
