/- itself and cites of publisherref31. Conditions: lengths. -/
import Derived.Test.YtofeonnmoakbaaaGreatDoorK33
import Derived.Test.YtofeonnmoakbaaaGreatDoorK37
import Derived.Test.YtofeonnmoakbaaaGreatDoorK40
import Derived.Test.YtofeonnmoakbaaaGreatDoorK17
import Derived.Test.YtofeonnmoakbaaaGreatDoorK28
import Derived.BigQuiet

set_option linter.all false
namespace Go.Proofs.YtofeonnmoakbaaaGreatDoor
open Go.RowKit

/-- Does a part leave the group to the field? -/
def allQ (key : Bs) (pg : Nat) (q : Rp) : Bool := pg == 0 || (!(q.grp == pg) || (q.fld == [] || q.fld == key))
theorem its_all (l : List Rp) (key : Bs) : itsB l key = l.any fun p => (p.fld == key) && l.all (allQ key p.grp) := rfl
theorem all_next (l : List Rp) (f : Rp → Bool) (k : Nat) (hk : k < l.length) : (l.take (k + 1)).all f = ((l.take k).all f && f l[k]) := by
  rw [List.take_succ_eq_append_getElem hk, List.all_append]
  simp
theorem its_no (l : List Rp) (key : Bs) (h : ∀ j (hj : j < l.length), ((l[j].fld == key) && l.all (allQ key l[j].grp)) = false) : itsB l key = false := by
  rw [its_all, List.any_eq_false]
  intro p hp
  obtain ⟨j, hj, e⟩ := List.getElem_of_mem hp
  rw [← e, h j hj]; simp
theorem its_yes (l : List Rp) (key : Bs) (j : Nat) (hj : j < l.length) (h : ((l[j].fld == key) && l.all (allQ key l[j].grp)) = true) : itsB l key = true := by
  rw [its_all, List.any_eq_true]
  exact ⟨l[j], List.getElem_mem hj, h⟩
set_option maxRecDepth 100000 in
set_option maxHeartbeats 6400000 in
theorem ritself_any (v : Value) (ps : List Rp) (key : Bs) (w : World) (hv : Rps w v ps) (hl : ps.length ≤ 100000) : Calls Tryz.prog 78 #[v, .string (bs key)] w fun e w' => e = .returned (.bool (itsB ps key)) ∧ Kept w w' := by
  have HP2 := Lib.hid hv
  have HNO := Lib.hid (its_no ps key)
  have HYS := Lib.hid (its_yes ps key)
  obtain ⟨aP, cP, rfl, hcp⟩ := HP2.out.form
  clear hv
  generalize itsB ps key = R at *
  go_enter Tryz.func78, Tryz.ntmps78
  go_wp2_with fail
  go_loopw [5] (fun i wr => ∃ n : Nat, n ≤ ps.length ∧ i = .int .i64 n ∧ Hid (∀ j (hj : j < ps.length), j < n → ((ps[j].fld == key) && ps.all (allQ key ps[j].grp)) = false) ∧ Hid (Kept w wr)) (fun i _ => ps.length - (intOf i).toNat)
  case atStart => exact ⟨0, Nat.zero_le _, rfl, fun j hj h => by omega, Kept.refl _⟩
  case round =>
    obtain ⟨n, hn, rfl, HN, HKR⟩ := hrel
    by_cases hlt : n < ps.length
    · have hx := List.getElem?_eq_getElem hlt
      have HNX : Hid (((ps[n].fld == key) && ps.all (allQ key ps[n].grp)) = false → ∀ j (hj : j < ps.length), j < n + 1 → ((ps[j].fld == key) && ps.all (allQ key ps[j].grp)) = false) := fun h j hj hjk => by
        rcases Nat.lt_or_ge j n with q | q
        · exact HN.out j hj q
        · obtain rfl : j = n := by omega
          exact h
      have HYN := Lib.hid (HYS.out n hlt)
      clear HN
      generalize ps[n] = p at *
      obtain ⟨px, pf, pg⟩ := p
      simp only at HNX HYN
      obtain ⟨g, o, rfl, hg, -, p1, -⟩ := (HP2.out.kept HKR.out).cell_of n _ hx
      simp only at p1
      have HX := Lib.hid hx
      clear hx
      cases hpf : (pf == key) with
      | false =>
        have hne : (pf != key) = true := by rw [bne, hpf]; rfl
        rw [hpf, Bool.false_and] at HNX
        have HS := Lib.hid (HNX.out rfl)
        clear HNX HYN
        go_wp2_with fail
        go_roundw
        case rel => exact ⟨n + 1, by omega, by go_num, HS.out, HKR.out⟩
        case measure => simp [intOf]; omega
      | true =>
        have hne : (pf != key) = false := by rw [bne, hpf]; rfl
        rw [hpf, Bool.true_and] at HNX HYN
        have HAN := Lib.hid (fun k hk => all_next ps (allQ key pg) k hk)
        have HAT : Hid ((ps.take ps.length).all (allQ key pg) = ps.all (allQ key pg)) := by show _ = _; rw [List.take_of_length_le (Nat.le_refl _)]
        have HA0 : Hid ((ps.take 0).all (allQ key pg) = true) := rfl
        have HQ : Hid (∀ q, allQ key pg q = (pg == 0 || (!(q.grp == pg) || (q.fld == [] || q.fld == key)))) := fun q => rfl
        generalize allQ key pg = F at *
        go_wp2_with fail
        obtain ⟨wo, rfl⟩ : ∃ wo : World, wo = wr := ⟨_, rfl⟩
        clear p1
        go_loopw [6, 7] (fun d i wr => ∃ k : Nat, k ≤ ps.length ∧ i = .int .i64 k ∧ d = .bool ((ps.take k).all F) ∧ Hid (Kept w wr)) (fun _ i _ => ps.length - (intOf i).toNat)
        case atStart => exact ⟨0, Nat.zero_le _, rfl, by rw [HA0.out], HKR.out⟩
        case round =>
          obtain ⟨k, hk, rfl, rfl, HKQ⟩ := hrel
          by_cases hlk : k < ps.length
          · have hx := List.getElem?_eq_getElem hlk
            have HGK := Lib.hid (HAN.out k hlk)
            rw [HQ.out] at HGK
            generalize ps[k] = q at *
            obtain ⟨qx, qf, qg⟩ := q
            simp only at HGK
            generalize (ps.take k).all F = D at *
            obtain ⟨g1, o1, ha, hg1, -, -, p2⟩ := (HP2.out.kept HKQ.out).cell_of n _ HX.out
            obtain ⟨rfl, rfl⟩ : g = g1 ∧ o = o1 := by cases ha; exact ⟨rfl, rfl⟩
            obtain ⟨g1, o1, ha', -, -, q1, q2⟩ := (HP2.out.kept HKQ.out).cell_of k _ hx
            obtain ⟨rfl, rfl⟩ : g = g1 ∧ o = o1 := by cases ha'; exact ⟨rfl, rfl⟩
            simp only at p2 q1 q2
            clear ha ha' hx
            have hNP : (n : Int) < (ps.length : Int) := by omega
            have hKP : (k : Int) < (ps.length : Int) := by omega
            cases D with
            | false =>
              rw [Bool.false_and] at HGK
              go_wp2_with fail
              go_quiet (fail)
              all_goals
                have HKZ := Lib.hid (HKQ.out.trans (kept_drewN wr nq))
                go_wp2_with fail
                go_roundw
                case rel => exact ⟨k + 1, by omega, by go_num, by rw [HGK.out], HKZ.out⟩
                case measure => simp [intOf]; omega
            | true =>
              rw [Bool.true_and] at HGK
              cases h0 : (pg == 0) with
              | true =>
                obtain rfl : pg = 0 := by simpa using h0
                rw [h0, Bool.true_or] at HGK
                clear h0
                go_wp2_with fail
                go_quiet (fail)
                all_goals
                  have HKZ := Lib.hid (HKQ.out.trans (kept_drewN wr nq))
                  go_wp2_with fail
                  go_roundw
                  case rel => exact ⟨k + 1, by omega, by go_num, by rw [HGK.out], HKZ.out⟩
                  case measure => simp [intOf]; omega
              | false =>
                rw [h0, Bool.false_or] at HGK
                have h0i : ((pg : Int) == 0) = false := by rw [beq_eq_false_iff_ne] at h0 ⊢; omega
                cases hgq : (qg == pg) with
                | false =>
                  have hgi : ((qg : Int) == (pg : Int)) = false := by rw [beq_eq_false_iff_ne] at hgq ⊢; omega
                  have hgn : ((qg : Int) != (pg : Int)) = true := by rw [bne, hgi]; rfl
                  rw [hgq, Bool.not_false, Bool.true_or] at HGK
                  clear hgq
                  go_wp2_with fail
                  go_quiet (fail)
                  all_goals
                    have HKZ := Lib.hid (HKQ.out.trans (kept_drewN wr nq))
                    go_wp2_with fail
                    go_roundw
                    case rel => exact ⟨k + 1, by omega, by go_num, by rw [HGK.out], HKZ.out⟩
                    case measure => simp [intOf]; omega
                | true =>
                  have hgi : ((qg : Int) == (pg : Int)) = true := by rw [beq_iff_eq] at hgq ⊢; omega
                  have hgn : ((qg : Int) != (pg : Int)) = false := by rw [bne, hgi]; rfl
                  rw [hgq, Bool.not_true, Bool.false_or] at HGK
                  clear hgq
                  cases hqf : (qf == ([] : Bs)) with
                  | true =>
                    rw [hqf, Bool.true_or] at HGK
                    go_wp2_with fail
                    go_quiet (fail)
                    all_goals
                      have HKZ := Lib.hid (HKQ.out.trans (kept_drewN wr nq))
                      go_wp2_with fail
                      go_roundw
                      case rel => exact ⟨k + 1, by omega, by go_num, by rw [HGK.out], HKZ.out⟩
                      case measure => simp [intOf]; omega
                  | false =>
                    rw [hqf, Bool.false_or] at HGK
                    obtain ⟨bk, hbk⟩ : ∃ b, (qf == key) = b := ⟨_, rfl⟩
                    rw [hbk] at HGK
                    go_wp2_with fail
                    go_quiet (fail)
                    all_goals
                      have HKZ := Lib.hid (HKQ.out.trans (kept_drewN wr nq))
                      go_wp2_with fail
                      go_roundw
                      case rel => exact ⟨k + 1, by omega, by go_num, by rw [HGK.out], HKZ.out⟩
                      case measure => simp [intOf]; omega
          · obtain rfl : k = ps.length := by omega
            rw [HAT.out]
            generalize ps.all F = D at *
            cases D with
            | true =>
              have HR := Lib.hid (HYN.out rfl)
              go_wp2_with fail
              go_ret
              exact ⟨ret_bool HR.out.symm, HKQ.out⟩
            | false =>
              have HS := Lib.hid (HNX.out rfl)
              go_wp2_with fail
              go_roundw
              case rel => exact ⟨n + 1, by omega, by go_num, HS.out, HKQ.out⟩
              case measure => simp [intOf]; omega
    · obtain rfl : n = ps.length := by omega
      have HR := Lib.hid (HNO.out (fun j hj => HN.out j hj hj))
      go_wp2_with fail
      go_ret
      exact ⟨ret_bool HR.out.symm, HKR.out⟩
end Go.Proofs.YtofeonnmoakbaaaGreatDoor

/- cites, entries and Check of publisherref31. Conditions: lengths. -/
set_option linter.all false
namespace Go.Proofs.YtofeonnmoakbaaaGreatDoor
open Go.RowKit

set_option maxRecDepth 100000 in
set_option maxHeartbeats 3200000 in
theorem rcites31_any (vE : Value) (y : StyT) (w : World) (hs : SmallY y) : Calls Tryz.prog 53 #[styV vE y] w fun e w' => e = .returned (.int .i64 (citE y)) ∧ Kept w w' := by
  obtain ⟨-, -, s3, s4, -⟩ := hs
  have HC := Lib.hid (fun w => rtemplate_any y.cite w s3)
  have HB := Lib.hid (fun w => rtemplate_any y.bare w s4)
  have HQ := Lib.hid (fun w => rparts_any y.cite w s3)
  unfold PartsP at HQ
  have HRT : Hid (splE y.cite = 0 → rpsT y.cite = some (expL (splL y.cite)) ∧ (expL (splL y.cite)).length ≤ 100000) := fun h => by
    have h1 := rps_of h
    have h2 := rpsP_len _ _ _ _ _ ((rpsT_eq y.cite).symm.trans h1)
    exact ⟨h1, by omega⟩
  have HF : Hid (∀ v k w, k ≠ [] → splE y.cite = 0 → Rps w v (expL (splL y.cite)) → Calls Tryz.prog 78 #[v, .string (bs k)] w fun e w' => e = .returned (.bool (freeB (splL y.cite) k)) ∧ Kept w w') := fun v k w hk h0 h => by
    rw [← its_free (splL y.cite) k hk (fun p hp => (splL_pcs p hp).1)]
    exact ritself_any v (expL (splL y.cite)) k w h (HRT.out h0).2
  have HE : Hid (citE y = if splE y.cite ≠ 0 then splE y.cite else if freeB (splL y.cite) (if y.numeric = true then kNumber else kSuffix) = false then 8 else splE y.bare) := rfl
  generalize citE y = R at *
  generalize splE y.cite = E1 at *
  generalize splE y.bare = E2 at *
  generalize hL : splL y.cite = L at *
  generalize expL L = X at *
  generalize rpsT y.cite = S at *
  clear hL
  unfold styV styCells
  have HK0 := Lib.hid (kept_alloc w (.cells (styCells vE y) 24))
  have HB0 := Lib.hid (Blk.new w 24 (styCells vE y))
  unfold styCells at HK0 HB0
  go_enter Tryz.func53, Tryz.ntmps53
  go_wp2_with fail
  generalize w.alloc _ = w0 at *
  generalize w.heap.size = B at *
  refine (HC.out _).mono ?_
  rintro e w1 ⟨rfl, hk1⟩
  have HK1 := Lib.hid (HK0.out.trans hk1)
  have HB1 := Lib.hid (HB0.out.kept hk1)
  clear hk1 HC
  by_cases h1 : E1 = 0
  case neg =>
    rw [if_pos h1] at HE
    have h1' : (E1 == 0) = false := by simpa using h1
    go_wp2_with fail
    go_ret
    exact ⟨ret_int HE.out.symm, HK1.out⟩
  subst h1
  rw [if_neg (by simp)] at HE
  have HRS := Lib.hid (HRT.out rfl).1
  have HFF := Lib.hid (fun v k w hk h => HF.out v k w hk rfl h)
  rw [HRS.out] at HQ
  simp only [Option.isSome_some, Option.some.injEq] at HQ
  clear HRT HRS HF
  have b3 : w1.cell? ⟨B, 3, none⟩ = some (.string (bs y.cite)) := HB1.out.cell 3 _ rfl
  have z1 := HB1.out.lt
  go_wp2_with fail
  refine (HQ.out _).mono ?_
  rintro e w2 ⟨v, rfl, -, hp, hk2⟩
  have HP2 := Lib.hid (hp X rfl)
  have HK2 := Lib.hid (HK1.out.trans hk2)
  have HB2 := Lib.hid (HB1.out.kept hk2)
  obtain ⟨aP, cP, rfl, hcp⟩ := HP2.out.form
  clear hp hk2 HQ b3 z1 HB1 HK1
  have b1 : w2.cell? ⟨B, 1, none⟩ = some (.bool y.numeric) := HB2.out.cell 1 _ rfl
  have z2 := HB2.out.lt
  cases hn : y.numeric
  all_goals
    rw [hn] at b1 HE
    simp only [Bool.false_eq_true, if_false, if_true] at HE
    clear hn
    (first | unfold kSuffix at HE | unfold kNumber at HE)
    go_wp2_with fail
    refine (HFF.out _ _ _ (by simp) HP2.out).mono ?_
    rintro e w3 ⟨rfl, hk3⟩
    have HK3 := Lib.hid (HK2.out.trans hk3)
    have HB3 := Lib.hid (HB2.out.kept hk3)
    clear hk3 b1 z2
    generalize freeB L _ = F at *
    cases F with
    | false =>
      rw [if_pos rfl] at HE
      go_wp2_with fail
      go_ret
      exact ⟨ret_int HE.out.symm, HK3.out⟩
    | true =>
      rw [if_neg (by simp)] at HE
      have b4 : w3.cell? ⟨B, 4, none⟩ = some (.string (bs y.bare)) := HB3.out.cell 4 _ rfl
      have z3 := HB3.out.lt
      go_wp2_with fail
      refine (HB.out _).mono ?_
      rintro e w4 ⟨rfl, hk4⟩
      have HK4 := Lib.hid (HK3.out.trans hk4)
      clear hk4
      go_wp2_with fail
      go_ret
      exact ⟨ret_int HE.out.symm, HK4.out⟩
def keysK (ps : List Pr) (k : Nat) : List Bs := (ps.take k).map (·.1)
theorem keysK_next (ps : List Pr) (k : Nat) (hk : k < ps.length) : keysK ps (k + 1) = keysK ps k ++ [ps[k].1] := by
  unfold keysK
  rw [List.take_succ_eq_append_getElem hk, List.map_append]; rfl
theorem keysK_has (ps : List Pr) (k : Nat) (x : Bs) (hk : k ≤ ps.length) : (keysK ps k).contains x = true ↔ ∃ j, ∃ hj : j < ps.length, j < k ∧ ps[j].1 = x := by
  unfold keysK
  rw [List.contains_iff_mem, List.mem_map]
  constructor
  · rintro ⟨p, hp, e⟩
    obtain ⟨j, hj, e2⟩ := List.mem_take_iff_getElem.1 hp
    exact ⟨j, by omega, by omega, by rw [e2, e]⟩
  · rintro ⟨j, hj, hjk, e⟩
    exact ⟨ps[j], List.mem_take_iff_getElem.2 ⟨j, by omega, rfl⟩, e⟩
set_option maxRecDepth 100000 in
set_option maxHeartbeats 6400000 in
theorem rents31_any (v : Value) (ps : List Pr) (w : World) (hv : Prs w v ps) (hn : ps.length ≤ 100000) (hl : ∀ p ∈ ps, p.1.length ≤ 100000 ∧ p.2.length ≤ 100000) : Calls Tryz.prog 55 #[v] w fun e w' => e = .returned (.int .i64 (entE ps)) ∧ Kept w w' := by
  have HV := Lib.hid hv
  have HLL := Lib.hid hl
  obtain ⟨a, c, rfl, hc⟩ := hv.form
  have H0 : Hid (entE ps = entA (keysK ps 0) (ps.drop 0)) := rfl
  have HK0 : Hid ((keysK ps 0).contains [42] = false) := rfl
  have HKN := Lib.hid (keysK_next ps)
  have HKH := Lib.hid (keysK_has ps)
  generalize entE ps = R at *
  clear hv hl
  go_enter Tryz.func55, Tryz.ntmps55
  go_wp2_with fail
  go_loopw [3, 4] (fun d i wr => ∃ k : Nat, k ≤ ps.length ∧ i = .int .i64 k ∧ d = .bool ((keysK ps k).contains [42]) ∧ Hid (R = entA (keysK ps k) (ps.drop k)) ∧ Hid (Kept w wr)) (fun _ i _ => ps.length - (intOf i).toNat)
  case atStart => exact ⟨0, Nat.zero_le _, rfl, by rw [HK0.out], H0.out, Kept.refl _⟩
  case round =>
    obtain ⟨k, hk, rfl, rfl, HA, HKR⟩ := hrel
    by_cases hlt : k < ps.length
    · have hx := List.getElem?_eq_getElem hlt
      obtain ⟨g, o, rfl, hg, d0, d1, -, -⟩ := (HV.out.kept HKR.out).cell_of k _ hx
      obtain ⟨hl1, hl2⟩ := HLL.out _ (List.getElem_mem hlt)
      have HD : Hid (ps.drop k = ps[k] :: ps.drop (k + 1)) := List.drop_eq_getElem_cons hlt
      have HKX := Lib.hid (HKN.out k hlt)
      rw [HD.out, entA_cons] at HA
      have HHAS := Lib.hid (HKH.out k ps[k].1 hk)
      have HX := Lib.hid hx
      clear HD hx
      generalize ps[k] = p at *
      obtain ⟨x, y⟩ := p
      simp only at d0 d1 hl1 hl2 HA HKX HHAS
      have HS := Lib.hid (fun w => rkind31_any x w (by omega))
      have HSP := Lib.hid (fun w => rtemplate_any y w hl2)
      obtain ⟨b, HBB⟩ : ∃ b, Hid ((x == [42] || smallB x 20 []) = b) := ⟨_, rfl⟩
      rw [HBB.out] at HS
      cases b with
      | false =>
        have hbb := HBB.out
        rw [Bool.or_eq_false_iff] at hbb
        rw [if_pos hbb] at HA
        clear hbb HBB
        go_wp2_with fail
        refine (HS.out _).mono ?_
        rintro e w2 ⟨rfl, hk2⟩
        have HK2 := Lib.hid (HKR.out.trans hk2)
        clear hk2
        go_wp2_with fail
        go_ret
        exact ⟨ret_int HA.out.symm, HK2.out⟩
      | true =>
        rw [if_neg (fun q => by have := HBB.out; rw [q.1, q.2] at this; cases this)] at HA
        have HYS : Hid ((∃ j, ∃ hj : j < ps.length, j < k ∧ ps[j].1 = x) → R = 7) := fun h => by rw [HA.out, if_pos (HHAS.out.2 h)]
        have HNS : Hid ((∀ j (hj : j < ps.length), j < k → ps[j].1 ≠ x) → R = if splE y ≠ 0 then splE y else entA (keysK ps (k + 1)) (ps.drop (k + 1))) := fun h => by
          rw [HA.out, if_neg (fun q => by obtain ⟨j, hj, hjk, e⟩ := HHAS.out.1 q; exact h j hj hjk e), HKX.out]
        have HST : Hid ((keysK ps (k + 1)).contains [42] = ((keysK ps k).contains [42] || (x == [42]))) := by
          show _ = _
          rw [HKX.out, Bool.eq_iff_iff, List.contains_iff_mem, Bool.or_eq_true, List.contains_iff_mem, beq_iff_eq, List.mem_append, List.mem_singleton]
          constructor
          · rintro (h | h)
            · exact .inl h
            · exact .inr h.symm
          · rintro (h | h)
            · exact .inl h
            · exact .inr h.symm
        clear HBB HA HHAS HKX
        generalize (keysK ps k).contains [42] = D at *
        go_wp2_with fail
        refine (HS.out _).mono ?_
        rintro e w2 ⟨rfl, hk2⟩
        have HK2 := Lib.hid (HKR.out.trans hk2)
        clear hk2 HKR d0 d1 HS hg
        go_wp2_with fail
        have hk1 : (k : Int) ≤ (ps.length : Int) := by omega
        obtain ⟨wo, rfl⟩ : ∃ wo : World, wo = w2 := ⟨_, rfl⟩
        go_loopw [5] (fun i wr => ∃ m : Nat, m ≤ k ∧ i = .int .i64 m ∧ Hid (∀ j (hj : j < ps.length), j < m → ps[j].1 ≠ x) ∧ Hid (Kept w wr)) (fun i _ => k - (intOf i).toNat)
        case atStart => exact ⟨0, Nat.zero_le _, rfl, fun j hj h => by omega, HK2.out⟩
        case round =>
          clear HK2
          obtain ⟨m, hm, rfl, HM, HKR⟩ := hrel
          obtain ⟨g1, o1, ha, hg1, e0, e1, -, -⟩ := (HV.out.kept HKR.out).cell_of k _ HX.out
          obtain ⟨rfl, rfl⟩ : g = g1 ∧ o = o1 := by cases ha; exact ⟨rfl, rfl⟩
          simp only at e0 e1
          clear ha
          by_cases hlt2 : m < k
          · have hml : m < ps.length := by omega
            have hy := List.getElem?_eq_getElem hml
            obtain ⟨g1, o1, ha, -, q0, -, -, -⟩ := (HV.out.kept HKR.out).cell_of m _ hy
            obtain ⟨rfl, rfl⟩ : g = g1 ∧ o = o1 := by cases ha; exact ⟨rfl, rfl⟩
            have HMX : Hid (ps[m].1 ≠ x → ∀ j (hj : j < ps.length), j < m + 1 → ps[j].1 ≠ x) := by
              intro h j hj hjk
              rcases Nat.lt_or_ge j m with q | q
              · exact HM.out j hj q
              · obtain rfl : j = m := by omega
                exact h
            have HYM : Hid (ps[m].1 = x → R = 7) := fun e => HYS.out ⟨m, hml, hlt2, e⟩
            clear ha hy HM
            generalize ps[m].1 = z at *
            cases hzx : (z == x) with
            | true =>
              have HR := Lib.hid (HYM.out (beq_iff_eq.1 hzx))
              go_wp2_with fail
              go_quiet (fail)
              all_goals
                have HKZ := Lib.hid (HKR.out.trans (kept_drewN wr nq))
                go_wp2_with fail
                go_ret
                exact ⟨ret_int HR.out.symm, HKZ.out⟩
            | false =>
              have HNO := Lib.hid (HMX.out (beq_eq_false_iff_ne.1 hzx))
              go_wp2_with fail
              go_quiet (fail)
              all_goals
                have HKZ := Lib.hid (HKR.out.trans (kept_drewN wr nq))
                go_wp2_with fail
                go_roundw
                case rel => exact ⟨m + 1, by omega, by go_num, HNO.out, HKZ.out⟩
                case measure => simp [intOf]; omega
          · obtain rfl : m = k := by omega
            have HA := Lib.hid (HNS.out HM.out)
            clear HNS HYS HM
            generalize splE y = E at *
            go_wp2_with fail
            refine (HSP.out _).mono ?_
            rintro e w4 ⟨rfl, hk4⟩
            have HK4 := Lib.hid (HKR.out.trans hk4)
            clear hk4 e0 e1
            obtain ⟨g1, o1, ha, hg1, f0, f1, -, -⟩ := (HV.out.kept HK4.out).cell_of m _ HX.out
            obtain ⟨rfl, rfl⟩ : g = g1 ∧ o = o1 := by cases ha; exact ⟨rfl, rfl⟩
            simp only at f0 f1
            clear ha
            by_cases h5 : E = 0
            case neg =>
              rw [if_pos h5] at HA
              have h5' : (E == 0) = false := by simpa using h5
              clear h5
              go_wp2_with fail
              go_ret
              exact ⟨ret_int HA.out.symm, HK4.out⟩
            subst h5
            rw [if_neg (by simp)] at HA
            cases D with
            | true =>
              rw [Bool.true_or] at HST
              go_wp2_with fail
              go_roundw
              case rel => exact ⟨m + 1, by omega, by go_num, by rw [HST.out], HA.out, HK4.out⟩
              case measure => simp [intOf]; omega
            | false =>
              rw [Bool.false_or] at HST
              obtain ⟨b42, h42⟩ : ∃ b, (x == [42]) = b := ⟨_, rfl⟩
              rw [h42] at HST
              go_wp2_with fail
              go_roundw
              case rel => exact ⟨m + 1, by omega, by go_num, by rw [HST.out], HA.out, HK4.out⟩
              case measure => simp [intOf]; omega
    · obtain rfl : k = ps.length := by omega
      rw [List.drop_of_length_le (Nat.le_refl _), entA_end] at HA
      generalize (keysK ps ps.length).contains [42] = D at *
      cases D with
      | true =>
        rw [if_pos rfl] at HA
        go_wp2_with fail
        go_ret
        exact ⟨ret_int HA.out.symm, HKR.out⟩
      | false =>
        rw [if_neg (by simp)] at HA
        go_wp2_with fail
        go_ret
        exact ⟨ret_int HA.out.symm, HKR.out⟩
set_option maxRecDepth 100000 in
set_option maxHeartbeats 6400000 in
theorem rcheck31_any (vE : Value) (y : StyT) (w : World) (hs : SmallY y) (hv : Prs w vE y.entries) : Calls Tryz.prog 20 #[styV vE y] w fun e w' => e = .returned (.int .i64 (styE y)) ∧ Kept w w' := by
  have HV := Lib.hid hv
  have HSM := Lib.hid hs
  obtain ⟨s1, s2, s3, s4, s5, s6, s7, s8, s9⟩ := hs
  have H1 := Lib.hid (fun w => rname31_any y.name w (by omega))
  have H2 := Lib.hid (fun w => rsorts31_any y.sort w s2)
  have H3 := Lib.hid (fun w => rcites31_any vE y w HSM.out)
  have H4 := Lib.hid (fun w => rline31_any y.between w (by omega))
  have H5 := Lib.hid (fun w => rline31_any y.begin_ w (by omega))
  have H6 := Lib.hid (fun w => rline31_any y.end_ w (by omega))
  have H7 := Lib.hid (fun w h' => rents31_any vE y.entries w h' (by omega) s9)
  have HE : Hid (styE y = if 128 < y.entries.length then 3 else if smallB y.name 60 nameSet = false then 6 else if srtE y.sort ≠ 0 then srtE y.sort else if citE y ≠ 0 then citE y else if lnB y.between = false ∨ lnB y.begin_ = false ∨ lnB y.end_ = false then 17 else if y.most < 1 ∨ 32 < y.most then 9 else entE y.entries) := rfl
  obtain ⟨aE, cE, rfl, lE⟩ := hv.form
  generalize styE y = R at *
  generalize smallB y.name 60 nameSet = b1 at *
  generalize srtE y.sort = e2 at *
  generalize citE y = e3 at *
  generalize lnB y.between = b4 at *
  generalize lnB y.begin_ = b5 at *
  generalize lnB y.end_ = b6 at *
  generalize entE y.entries = e7 at *
  clear hv s9
  unfold styV styCells at H3 ⊢
  have HK0 := Lib.hid (kept_alloc w (.cells (styCells (.slice aE y.entries.length cE) y) 24))
  have HB0 := Lib.hid (Blk.new w 24 (styCells (.slice aE y.entries.length cE) y))
  unfold styCells at HK0 HB0
  by_cases h1 : 128 < y.entries.length
  · rw [if_pos h1] at HE
    go_enter Tryz.func20, Tryz.ntmps20
    go_wp2_with fail
    go_ret
    exact ⟨ret_int HE.out.symm, HK0.out⟩
  rw [if_neg h1] at HE
  go_enter Tryz.func20, Tryz.ntmps20
  go_wp2_with fail
  generalize w.alloc _ = w0 at *
  generalize w.heap.size = B at *
  have HCC : Hid (∀ w', Kept w0 w' → Blk w' B 24 #[.string (bs y.name), .bool y.numeric, .string (bs y.sort), .string (bs y.cite), .string (bs y.bare), .string (bs y.between), .string (bs y.begin_), .string (bs y.end_), .int .i64 y.most, .slice aE y.entries.length cE]) := fun w' h => HB0.out.kept h
  refine (H1.out _).mono ?_
  rintro e w1 ⟨rfl, hk⟩
  have K1 := Lib.hid hk
  clear hk
  cases b1 with
  | false =>
    rw [if_pos rfl] at HE
    go_wp2_with fail
    go_ret
    exact ⟨ret_int HE.out.symm, HK0.out.trans K1.out⟩
  | true =>
  rw [if_neg (by simp)] at HE
  have t2 : w1.cell? ⟨B, 2, none⟩ = some (.string (bs y.sort)) := (HCC.out _ K1.out).cell 2 _ rfl
  have z1 := (HCC.out _ K1.out).lt
  go_wp2_with fail
  refine (H2.out _).mono ?_
  rintro e w2 ⟨rfl, hk⟩
  have K2 := Lib.hid (K1.out.trans hk)
  clear hk t2 z1 K1
  by_cases h2 : e2 = 0
  case neg =>
    rw [if_pos h2] at HE
    have h2' : (e2 == 0) = false := by simpa using h2
    go_wp2_with fail
    go_ret
    exact ⟨ret_int HE.out.symm, HK0.out.trans K2.out⟩
  subst h2
  rw [if_neg (by simp)] at HE
  have t0 : w2.cell? ⟨B, 0, none⟩ = some (.string (bs y.name)) := (HCC.out _ K2.out).cell 0 _ rfl
  have t1 : w2.cell? ⟨B, 1, none⟩ = some (.bool y.numeric) := (HCC.out _ K2.out).cell 1 _ rfl
  have t2 : w2.cell? ⟨B, 2, none⟩ = some (.string (bs y.sort)) := (HCC.out _ K2.out).cell 2 _ rfl
  have t3 : w2.cell? ⟨B, 3, none⟩ = some (.string (bs y.cite)) := (HCC.out _ K2.out).cell 3 _ rfl
  have t4 : w2.cell? ⟨B, 4, none⟩ = some (.string (bs y.bare)) := (HCC.out _ K2.out).cell 4 _ rfl
  have t5 : w2.cell? ⟨B, 5, none⟩ = some (.string (bs y.between)) := (HCC.out _ K2.out).cell 5 _ rfl
  have t6 : w2.cell? ⟨B, 6, none⟩ = some (.string (bs y.begin_)) := (HCC.out _ K2.out).cell 6 _ rfl
  have t7 : w2.cell? ⟨B, 7, none⟩ = some (.string (bs y.end_)) := (HCC.out _ K2.out).cell 7 _ rfl
  have t8 : w2.cell? ⟨B, 8, none⟩ = some (.int .i64 y.most) := (HCC.out _ K2.out).cell 8 _ rfl
  have t9 : w2.cell? ⟨B, 9, none⟩ = some (.slice aE y.entries.length cE) := (HCC.out _ K2.out).cell 9 _ rfl
  have z1 := (HCC.out _ K2.out).lt
  go_wp2_with fail
  refine (H3.out _).mono ?_
  rintro e w3 ⟨rfl, hk⟩
  have K3 := Lib.hid (K2.out.trans hk)
  clear hk t0 t1 t2 t3 t4 t5 t6 t7 t8 t9 z1 K2
  by_cases h3 : e3 = 0
  case neg =>
    rw [if_pos h3] at HE
    have h3' : (e3 == 0) = false := by simpa using h3
    go_wp2_with fail
    go_ret
    exact ⟨ret_int HE.out.symm, HK0.out.trans K3.out⟩
  subst h3
  rw [if_neg (by simp)] at HE
  have t5 : w3.cell? ⟨B, 5, none⟩ = some (.string (bs y.between)) := (HCC.out _ K3.out).cell 5 _ rfl
  have z1 := (HCC.out _ K3.out).lt
  go_wp2_with fail
  refine (H4.out _).mono ?_
  rintro e w4 ⟨rfl, hk⟩
  have K4 := Lib.hid (K3.out.trans hk)
  clear hk t5 z1 K3
  cases b4 with
  | false =>
    rw [if_pos (.inl rfl)] at HE
    go_wp2_with fail
    go_ret
    exact ⟨ret_int HE.out.symm, HK0.out.trans K4.out⟩
  | true =>
  have t6 : w4.cell? ⟨B, 6, none⟩ = some (.string (bs y.begin_)) := (HCC.out _ K4.out).cell 6 _ rfl
  have z1 := (HCC.out _ K4.out).lt
  go_wp2_with fail
  refine (H5.out _).mono ?_
  rintro e w5 ⟨rfl, hk⟩
  have K5 := Lib.hid (K4.out.trans hk)
  clear hk t6 z1 K4
  cases b5 with
  | false =>
    rw [if_pos (.inr (.inl rfl))] at HE
    go_wp2_with fail
    go_ret
    exact ⟨ret_int HE.out.symm, HK0.out.trans K5.out⟩
  | true =>
  have t7 : w5.cell? ⟨B, 7, none⟩ = some (.string (bs y.end_)) := (HCC.out _ K5.out).cell 7 _ rfl
  have z1 := (HCC.out _ K5.out).lt
  go_wp2_with fail
  refine (H6.out _).mono ?_
  rintro e w6 ⟨rfl, hk⟩
  have K6 := Lib.hid (K5.out.trans hk)
  clear hk t7 z1 K5
  cases b6 with
  | false =>
    rw [if_pos (.inr (.inr rfl))] at HE
    go_wp2_with fail
    go_ret
    exact ⟨ret_int HE.out.symm, HK0.out.trans K6.out⟩
  | true =>
  rw [if_neg (by simp)] at HE
  have t8 : w6.cell? ⟨B, 8, none⟩ = some (.int .i64 y.most) := (HCC.out _ K6.out).cell 8 _ rfl
  have t9 : w6.cell? ⟨B, 9, none⟩ = some (.slice aE y.entries.length cE) := (HCC.out _ K6.out).cell 9 _ rfl
  have z1 := (HCC.out _ K6.out).lt
  by_cases h8 : y.most < 1
  · rw [if_pos (.inl h8)] at HE
    go_wp2_with fail
    go_ret
    exact ⟨ret_int HE.out.symm, HK0.out.trans K6.out⟩
  by_cases h9 : 32 < y.most
  · rw [if_pos (.inr h9)] at HE
    go_wp2_with fail
    go_ret
    exact ⟨ret_int HE.out.symm, HK0.out.trans K6.out⟩
  rw [if_neg (fun q => q.elim h8 h9)] at HE
  go_wp2_with fail
  refine (H7.out _ (HV.out.kept (HK0.out.trans K6.out))).mono ?_
  rintro e w7 ⟨rfl, hk⟩
  have K7 := Lib.hid (K6.out.trans hk)
  clear hk
  go_wp2_with fail
  go_ret
  exact ⟨ret_int HE.out.symm, HK0.out.trans K7.out⟩
end Go.Proofs.YtofeonnmoakbaaaGreatDoor

/- The law StyleBuiltins: the styles that are built in are the chapter's, and valid. No condition. -/
set_option linter.all false
namespace Go.Proofs.YtofeonnmoakbaaaGreatDoor
open Go.RowKit

theorem blt_small (n : Bs) : SmallY ((bltY n).getD zeroY) := by
  unfold bltY
  split
  · show SmallY dateY
    unfold SmallY; decide
  · split
    · show SmallY numY
      unfold SmallY; decide
    · show SmallY zeroY
      unfold SmallY; decide
theorem blt_ok (n : Bs) (h : (bltY n).isSome = true) : styE ((bltY n).getD zeroY) = 0 := by
  unfold bltY at h ⊢
  split
  · exact date_sty
  · split
    · exact num_sty
    · rename_i h1 h2
      rw [if_neg h1, if_neg h2] at h; cases h
set_option maxRecDepth 100000 in
set_option maxHeartbeats 6400000 in
theorem lsblt_any (n : Bs) (w : World) (hg : Gnd w) (hT : TabW w) : Calls Tryz.prog 8 #[.string (bs n)] w fun e w' => e = .returned (.bool true) ∧ Kept w w' := by
  have HG := Lib.hid hg
  have HT := Lib.hid hT
  have HAW := Lib.hid (fun w h1 h2 => sawake_any w h1 h2)
  have HSB := Lib.hid (fun w => sbuiltin_any n w)
  have HRB := Lib.hid (fun w => rbuiltin31_any n w)
  unfold StyP at HSB HRB
  have HSM := Lib.hid (blt_small n)
  have HOK := Lib.hid (blt_ok n)
  generalize (bltY n).getD zeroY = y at *
  generalize (bltY n).isSome = ob at *
  have hel : y.entries.length ≤ 1100000 := by have := HSM.out.2.2.2.2.2.2.2.1; omega
  have HSA := Lib.hid (fun vA vB w h1 h2 => rsame31_eq vA vB y w h1 h2 hel)
  have HCK := Lib.hid (fun vE w h => rcheck31_any vE y w HSM.out h)
  clear hg hT hel
  go_enter Tryz.func8, Tryz.ntmps8
  go_wp2_with fail
  refine (HSB.out _).mono ?_
  rintro e w1 ⟨v1, rfl, hp1, hk1⟩
  have HP1 := Lib.hid hp1
  have HK1 := Lib.hid hk1
  obtain ⟨a1, c1, rfl, -⟩ := hp1.form
  have HN1 := Lib.hid (Blk.new w1 24 #[.string (bs []), .bool false, .string (bs []), .string (bs []), .string (bs []), .string (bs []), .string (bs []), .string (bs []), .int .i64 0, .slice none 0 0])
  have HKN1 := Lib.hid (kept_alloc w1 (.cells #[.string (bs []), .bool false, .string (bs []), .string (bs []), .string (bs []), .string (bs []), .string (bs []), .string (bs []), .int .i64 0, .slice none 0 0] 24))
  clear hp1 hk1 HSB
  go_wp2_with (refine wpList_store_blk rfl 24 (.tmp 3) (.tmp 10) (by rfl) w1.heap.size _ (styCells (.slice a1 y.entries.length c1) y) (by rfl) (by rfl) HN1.out rfl Tryz.sizeSty (sty_one _ rfl y) ?_; intro w2 hb2 ho2; have HKA := Lib.hid (only_kept HKN1.out ho2 (Nat.le_refl _)); have HB2 := Lib.hid hb2; have HK2 := Lib.hid (HK1.out.trans HKA.out); have HP2 := Lib.hid (HP1.out.kept HKA.out); clear hb2 ho2 HKA)
  clear HN1 HKN1 HP1 HK1
  obtain ⟨B1, HBB1⟩ : ∃ B, Hid (w1.heap.size = B) := ⟨_, rfl⟩
  rw [HBB1.out] at HB2 ⊢
  refine (HRB.out _).mono ?_
  rintro e w3 ⟨v3, rfl, hp3, hk3⟩
  have HP3 := Lib.hid hp3
  have HK3 := Lib.hid (HK2.out.trans hk3)
  have HB3 := Lib.hid (HB2.out.kept hk3)
  have HPA3 := Lib.hid (HP2.out.kept hk3)
  obtain ⟨a3, c3, rfl, -⟩ := hp3.form
  have HN3 := Lib.hid (Blk.new w3 24 #[.string (bs []), .bool false, .string (bs []), .string (bs []), .string (bs []), .string (bs []), .string (bs []), .string (bs []), .int .i64 0, .slice none 0 0])
  have HKN3 := Lib.hid (kept_alloc w3 (.cells #[.string (bs []), .bool false, .string (bs []), .string (bs []), .string (bs []), .string (bs []), .string (bs []), .string (bs []), .int .i64 0, .slice none 0 0] 24))
  clear hp3 hk3 HRB HB2 HK2 HP2 HBB1
  cases ob
  · go_wp2_with (refine wpList_store_blk rfl 24 (.tmp 5) (.tmp 15) (by rfl) w3.heap.size _ (styCells (.slice a3 y.entries.length c3) y) (by rfl) (by rfl) HN3.out rfl Tryz.sizeSty (sty_one _ rfl y) ?_; intro w4 hb4 ho4; have HKA := Lib.hid (only_kept HKN3.out ho4 (Nat.le_refl _)); have HB4 := Lib.hid (HB3.out.kept HKA.out); have HC4 := Lib.hid hb4; have HK4 := Lib.hid (HK3.out.trans HKA.out); have HPA4 := Lib.hid (HPA3.out.kept HKA.out); have HPB4 := Lib.hid (HP3.out.kept HKA.out); obtain ⟨⟨r0, r1, r2, r3, r4, r5, r6, r7, r8, r9⟩, rz⟩ := sty_cells HB4.out; obtain ⟨⟨s0, s1, s2, s3, s4, s5, s6, s7, s8, s9⟩, sz⟩ := sty_cells hb4; clear hb4 ho4 HKA)
    clear r0 r1 r2 r3 r4 r5 r6 r7 r8 r9 s0 s1 s2 s3 s4 s5 s6 s7 s8 s9 rz sz HN3 HKN3 HB3 HK3 HPA3 HP3
    refine (HSA.out _ _ _ HPA4.out HPB4.out).mono ?_
    rintro e w5 ⟨rfl, hk5⟩
    have HK5 := Lib.hid (HK4.out.trans hk5)
    have HK6 := HK5
    clear hk5 HB4 HC4 HK4 HPA4 HPB4
    go_wp2_with fail
    refine (HAW.out _ (HG.out.kept HK6.out) (HT.out.kept HK6.out)).mono ?_
    rintro e w7 ⟨rfl, hk7⟩
    have HK7 := Lib.hid (HK6.out.trans hk7)
    clear hk7
    go_wp2_with fail
    go_ret
    exact ⟨rfl, HK7.out⟩
  · go_wp2_with (refine wpList_store_blk rfl 24 (.tmp 5) (.tmp 15) (by rfl) w3.heap.size _ (styCells (.slice a3 y.entries.length c3) y) (by rfl) (by rfl) HN3.out rfl Tryz.sizeSty (sty_one _ rfl y) ?_; intro w4 hb4 ho4; have HKA := Lib.hid (only_kept HKN3.out ho4 (Nat.le_refl _)); have HB4 := Lib.hid (HB3.out.kept HKA.out); have HC4 := Lib.hid hb4; have HK4 := Lib.hid (HK3.out.trans HKA.out); have HPA4 := Lib.hid (HPA3.out.kept HKA.out); have HPB4 := Lib.hid (HP3.out.kept HKA.out); obtain ⟨⟨r0, r1, r2, r3, r4, r5, r6, r7, r8, r9⟩, rz⟩ := sty_cells HB4.out; obtain ⟨⟨s0, s1, s2, s3, s4, s5, s6, s7, s8, s9⟩, sz⟩ := sty_cells hb4; clear hb4 ho4 HKA)
    clear r0 r1 r2 r3 r4 r5 r6 r7 r8 r9 s0 s1 s2 s3 s4 s5 s6 s7 s8 s9 rz sz HN3 HKN3 HB3 HK3 HPA3 HP3
    refine (HSA.out _ _ _ HPA4.out HPB4.out).mono ?_
    rintro e w5 ⟨rfl, hk5⟩
    have HK5 := Lib.hid (HK4.out.trans hk5)
    have HPA5 := Lib.hid (HPA4.out.kept hk5)
    obtain ⟨⟨r0, r1, r2, r3, r4, r5, r6, r7, r8, r9⟩, rz⟩ := sty_cells (HB4.out.kept hk5)
    have HOK1 := Lib.hid (HOK.out (by trivial))
    rw [HOK1.out] at HCK
    clear hk5 HB4 HC4 HK4 HPA4 HPB4 HOK HOK1
    go_wp2_with fail
    refine (HCK.out _ _ HPA5.out).mono ?_
    rintro e w6 ⟨rfl, hk6⟩
    have HK6 := Lib.hid (HK5.out.trans hk6)
    clear hk6 r0 r1 r2 r3 r4 r5 r6 r7 r8 r9 rz HPA5 HK5
    go_wp2_with fail
    refine (HAW.out _ (HG.out.kept HK6.out) (HT.out.kept HK6.out)).mono ?_
    rintro e w7 ⟨rfl, hk7⟩
    have HK7 := Lib.hid (HK6.out.trans hk7)
    clear hk7
    go_wp2_with fail
    go_ret
    exact ⟨rfl, HK7.out⟩
end Go.Proofs.YtofeonnmoakbaaaGreatDoor
