/- itself and cites of publisherref31. Conditions: lengths. -/
import Derived.Test.YtafcngdnngpdnaaGreatDoorK28
import Derived.Test.YtafcngdnngpdnaaGreatDoorK34
import Derived.Test.YtafcngdnngpdnaaGreatDoorK17
import Derived.BigQuiet

set_option linter.all false
namespace Go.Proofs.YtafcngdnngpdnaaGreatDoor
open Go.RowKit

/-- Does a part leave the group to the field? -/
def allQ (key : Bs) (pg : Nat) (q : Rp) : Bool := pg == 0 || (!(q.grp == pg) || (q.fld == [] || q.fld == key))
theorem its_all (l : List Rp) (key : Bs) : itsB l key = l.any fun p => (p.fld == key) && l.all (allQ key p.grp) := rfl
theorem all_next (l : List Rp) (f : Rp → Bool) (k : Nat) (hk : k < l.length) : (l.take (k + 1)).all f = ((l.take k).all f && f l[k]) := by
  rw [List.take_succ_eq_append_getElem hk, List.all_append]
  simp
theorem its_no (l : List Rp) (key : Bs) (h : ∀ j (hj : j < l.length), ((l[j].fld == key) && l.all (allQ key l[j].grp)) = false) : itsB l key = false := by
  rw [its_all, List.any_eq_false]
  intro p hp
  obtain ⟨j, hj, e⟩ := List.getElem_of_mem hp
  rw [← e, h j hj]; simp
theorem its_yes (l : List Rp) (key : Bs) (j : Nat) (hj : j < l.length) (h : ((l[j].fld == key) && l.all (allQ key l[j].grp)) = true) : itsB l key = true := by
  rw [its_all, List.any_eq_true]
  exact ⟨l[j], List.getElem_mem hj, h⟩
set_option maxRecDepth 100000 in
set_option maxHeartbeats 6400000 in
theorem ritself_any (v : Value) (ps : List Rp) (key : Bs) (w : World) (hv : Rps w v ps) (hl : ps.length ≤ 100000) : Calls Tryz.prog 67 #[v, .string (bs key)] w fun e w' => e = .returned (.bool (itsB ps key)) ∧ Kept w w' := by
  have HP2 := Lib.hid hv
  have HNO := Lib.hid (its_no ps key)
  have HYS := Lib.hid (its_yes ps key)
  obtain ⟨aP, cP, rfl, hcp⟩ := HP2.out.form
  clear hv
  generalize itsB ps key = R at *
  go_enter Tryz.func67, Tryz.ntmps67
  go_wp2_with fail
  go_loopw [5] (fun i wr => ∃ n : Nat, n ≤ ps.length ∧ i = .int .i64 n ∧ Hid (∀ j (hj : j < ps.length), j < n → ((ps[j].fld == key) && ps.all (allQ key ps[j].grp)) = false) ∧ Hid (Kept w wr)) (fun i _ => ps.length - (intOf i).toNat)
  case atStart => exact ⟨0, Nat.zero_le _, rfl, fun j hj h => by omega, Kept.refl _⟩
  case round =>
    obtain ⟨n, hn, rfl, HN, HKR⟩ := hrel
    by_cases hlt : n < ps.length
    · have hx := List.getElem?_eq_getElem hlt
      have HNX : Hid (((ps[n].fld == key) && ps.all (allQ key ps[n].grp)) = false → ∀ j (hj : j < ps.length), j < n + 1 → ((ps[j].fld == key) && ps.all (allQ key ps[j].grp)) = false) := fun h j hj hjk => by
        rcases Nat.lt_or_ge j n with q | q
        · exact HN.out j hj q
        · obtain rfl : j = n := by omega
          exact h
      have HYN := Lib.hid (HYS.out n hlt)
      clear HN
      generalize ps[n] = p at *
      obtain ⟨px, pf, pg⟩ := p
      simp only at HNX HYN
      obtain ⟨g, o, rfl, hg, -, p1, -⟩ := (HP2.out.kept HKR.out).cell_of n _ hx
      simp only at p1
      have HX := Lib.hid hx
      clear hx
      cases hpf : (pf == key) with
      | false =>
        have hne : (pf != key) = true := by rw [bne, hpf]; rfl
        rw [hpf, Bool.false_and] at HNX
        have HS := Lib.hid (HNX.out rfl)
        clear HNX HYN
        go_wp2_with fail
        go_roundw
        case rel => exact ⟨n + 1, by omega, by go_num, HS.out, HKR.out⟩
        case measure => simp [intOf]; omega
      | true =>
        have hne : (pf != key) = false := by rw [bne, hpf]; rfl
        rw [hpf, Bool.true_and] at HNX HYN
        have HAN := Lib.hid (fun k hk => all_next ps (allQ key pg) k hk)
        have HAT : Hid ((ps.take ps.length).all (allQ key pg) = ps.all (allQ key pg)) := by show _ = _; rw [List.take_of_length_le (Nat.le_refl _)]
        have HA0 : Hid ((ps.take 0).all (allQ key pg) = true) := rfl
        have HQ : Hid (∀ q, allQ key pg q = (pg == 0 || (!(q.grp == pg) || (q.fld == [] || q.fld == key)))) := fun q => rfl
        generalize allQ key pg = F at *
        go_wp2_with fail
        obtain ⟨wo, rfl⟩ : ∃ wo : World, wo = wr := ⟨_, rfl⟩
        clear p1
        go_loopw [6, 7] (fun d i wr => ∃ k : Nat, k ≤ ps.length ∧ i = .int .i64 k ∧ d = .bool ((ps.take k).all F) ∧ Hid (Kept w wr)) (fun _ i _ => ps.length - (intOf i).toNat)
        case atStart => exact ⟨0, Nat.zero_le _, rfl, by rw [HA0.out], HKR.out⟩
        case round =>
          obtain ⟨k, hk, rfl, rfl, HKQ⟩ := hrel
          by_cases hlk : k < ps.length
          · have hx := List.getElem?_eq_getElem hlk
            have HGK := Lib.hid (HAN.out k hlk)
            rw [HQ.out] at HGK
            generalize ps[k] = q at *
            obtain ⟨qx, qf, qg⟩ := q
            simp only at HGK
            generalize (ps.take k).all F = D at *
            obtain ⟨g1, o1, ha, hg1, -, -, p2⟩ := (HP2.out.kept HKQ.out).cell_of n _ HX.out
            obtain ⟨rfl, rfl⟩ : g = g1 ∧ o = o1 := by cases ha; exact ⟨rfl, rfl⟩
            obtain ⟨g1, o1, ha', -, -, q1, q2⟩ := (HP2.out.kept HKQ.out).cell_of k _ hx
            obtain ⟨rfl, rfl⟩ : g = g1 ∧ o = o1 := by cases ha'; exact ⟨rfl, rfl⟩
            simp only at p2 q1 q2
            clear ha ha' hx
            have hNP : (n : Int) < (ps.length : Int) := by omega
            have hKP : (k : Int) < (ps.length : Int) := by omega
            cases D with
            | false =>
              rw [Bool.false_and] at HGK
              go_wp2_with fail
              go_quiet (fail)
              all_goals
                have HKZ := Lib.hid (HKQ.out.trans (kept_drewN wr nq))
                go_wp2_with fail
                go_roundw
                case rel => exact ⟨k + 1, by omega, by go_num, by rw [HGK.out], HKZ.out⟩
                case measure => simp [intOf]; omega
            | true =>
              rw [Bool.true_and] at HGK
              cases h0 : (pg == 0) with
              | true =>
                obtain rfl : pg = 0 := by simpa using h0
                rw [h0, Bool.true_or] at HGK
                clear h0
                go_wp2_with fail
                go_quiet (fail)
                all_goals
                  have HKZ := Lib.hid (HKQ.out.trans (kept_drewN wr nq))
                  go_wp2_with fail
                  go_roundw
                  case rel => exact ⟨k + 1, by omega, by go_num, by rw [HGK.out], HKZ.out⟩
                  case measure => simp [intOf]; omega
              | false =>
                rw [h0, Bool.false_or] at HGK
                have h0i : ((pg : Int) == 0) = false := by rw [beq_eq_false_iff_ne] at h0 ⊢; omega
                cases hgq : (qg == pg) with
                | false =>
                  have hgi : ((qg : Int) == (pg : Int)) = false := by rw [beq_eq_false_iff_ne] at hgq ⊢; omega
                  have hgn : ((qg : Int) != (pg : Int)) = true := by rw [bne, hgi]; rfl
                  rw [hgq, Bool.not_false, Bool.true_or] at HGK
                  clear hgq
                  go_wp2_with fail
                  go_quiet (fail)
                  all_goals
                    have HKZ := Lib.hid (HKQ.out.trans (kept_drewN wr nq))
                    go_wp2_with fail
                    go_roundw
                    case rel => exact ⟨k + 1, by omega, by go_num, by rw [HGK.out], HKZ.out⟩
                    case measure => simp [intOf]; omega
                | true =>
                  have hgi : ((qg : Int) == (pg : Int)) = true := by rw [beq_iff_eq] at hgq ⊢; omega
                  have hgn : ((qg : Int) != (pg : Int)) = false := by rw [bne, hgi]; rfl
                  rw [hgq, Bool.not_true, Bool.false_or] at HGK
                  clear hgq
                  cases hqf : (qf == ([] : Bs)) with
                  | true =>
                    rw [hqf, Bool.true_or] at HGK
                    go_wp2_with fail
                    go_quiet (fail)
                    all_goals
                      have HKZ := Lib.hid (HKQ.out.trans (kept_drewN wr nq))
                      go_wp2_with fail
                      go_roundw
                      case rel => exact ⟨k + 1, by omega, by go_num, by rw [HGK.out], HKZ.out⟩
                      case measure => simp [intOf]; omega
                  | false =>
                    rw [hqf, Bool.false_or] at HGK
                    obtain ⟨bk, hbk⟩ : ∃ b, (qf == key) = b := ⟨_, rfl⟩
                    rw [hbk] at HGK
                    go_wp2_with fail
                    go_quiet (fail)
                    all_goals
                      have HKZ := Lib.hid (HKQ.out.trans (kept_drewN wr nq))
                      go_wp2_with fail
                      go_roundw
                      case rel => exact ⟨k + 1, by omega, by go_num, by rw [HGK.out], HKZ.out⟩
                      case measure => simp [intOf]; omega
          · obtain rfl : k = ps.length := by omega
            rw [HAT.out]
            generalize ps.all F = D at *
            cases D with
            | true =>
              have HR := Lib.hid (HYN.out rfl)
              go_wp2_with fail
              go_ret
              exact ⟨ret_bool HR.out.symm, HKQ.out⟩
            | false =>
              have HS := Lib.hid (HNX.out rfl)
              go_wp2_with fail
              go_roundw
              case rel => exact ⟨n + 1, by omega, by go_num, HS.out, HKQ.out⟩
              case measure => simp [intOf]; omega
    · obtain rfl : n = ps.length := by omega
      have HR := Lib.hid (HNO.out (fun j hj => HN.out j hj hj))
      go_wp2_with fail
      go_ret
      exact ⟨ret_bool HR.out.symm, HKR.out⟩
end Go.Proofs.YtafcngdnngpdnaaGreatDoor

/- cites, entries and Check of publisherref31. Conditions: lengths. -/
set_option linter.all false
namespace Go.Proofs.YtafcngdnngpdnaaGreatDoor
open Go.RowKit

set_option maxRecDepth 100000 in
set_option maxHeartbeats 3200000 in
theorem rcites31_any (vE : Value) (y : StyT) (w : World) (hs : SmallY y) : Calls Tryz.prog 45 #[styV vE y] w fun e w' => e = .returned (.int .i64 (citE y)) ∧ Kept w w' := by
  obtain ⟨-, -, s3, s4, -⟩ := hs
  have HC := Lib.hid (fun w => rtemplate_any y.cite w s3)
  have HB := Lib.hid (fun w => rtemplate_any y.bare w s4)
  have HQ := Lib.hid (fun w => rparts_any y.cite w s3)
  unfold PartsP at HQ
  have HRT : Hid (splE y.cite = 0 → rpsT y.cite = some (expL (splL y.cite)) ∧ (expL (splL y.cite)).length ≤ 100000) := fun h => by
    have h1 := rps_of h
    have h2 := rpsP_len _ _ _ _ _ ((rpsT_eq y.cite).symm.trans h1)
    exact ⟨h1, by omega⟩
  have HF : Hid (∀ v k w, k ≠ [] → splE y.cite = 0 → Rps w v (expL (splL y.cite)) → Calls Tryz.prog 67 #[v, .string (bs k)] w fun e w' => e = .returned (.bool (freeB (splL y.cite) k)) ∧ Kept w w') := fun v k w hk h0 h => by
    rw [← its_free (splL y.cite) k hk (fun p hp => (splL_pcs p hp).1)]
    exact ritself_any v (expL (splL y.cite)) k w h (HRT.out h0).2
  have HE : Hid (citE y = if splE y.cite ≠ 0 then splE y.cite else if freeB (splL y.cite) (if y.numeric = true then kNumber else kSuffix) = false then 8 else splE y.bare) := rfl
  generalize citE y = R at *
  generalize splE y.cite = E1 at *
  generalize splE y.bare = E2 at *
  generalize hL : splL y.cite = L at *
  generalize expL L = X at *
  generalize rpsT y.cite = S at *
  clear hL
  unfold styV styCells
  have HK0 := Lib.hid (kept_alloc w (.cells (styCells vE y) 24))
  have HB0 := Lib.hid (Blk.new w 24 (styCells vE y))
  unfold styCells at HK0 HB0
  go_enter Tryz.func45, Tryz.ntmps45
  go_wp2_with fail
  generalize w.alloc _ = w0 at *
  generalize w.heap.size = B at *
  refine (HC.out _).mono ?_
  rintro e w1 ⟨rfl, hk1⟩
  have HK1 := Lib.hid (HK0.out.trans hk1)
  have HB1 := Lib.hid (HB0.out.kept hk1)
  clear hk1 HC
  by_cases h1 : E1 = 0
  case neg =>
    rw [if_pos h1] at HE
    have h1' : (E1 == 0) = false := by simpa using h1
    go_wp2_with fail
    go_ret
    exact ⟨ret_int HE.out.symm, HK1.out⟩
  subst h1
  rw [if_neg (by simp)] at HE
  have HRS := Lib.hid (HRT.out rfl).1
  have HFF := Lib.hid (fun v k w hk h => HF.out v k w hk rfl h)
  rw [HRS.out] at HQ
  simp only [Option.isSome_some, Option.some.injEq] at HQ
  clear HRT HRS HF
  have b3 : w1.cell? ⟨B, 3, none⟩ = some (.string (bs y.cite)) := HB1.out.cell 3 _ rfl
  have z1 := HB1.out.lt
  go_wp2_with fail
  refine (HQ.out _).mono ?_
  rintro e w2 ⟨v, rfl, -, hp, hk2⟩
  have HP2 := Lib.hid (hp X rfl)
  have HK2 := Lib.hid (HK1.out.trans hk2)
  have HB2 := Lib.hid (HB1.out.kept hk2)
  obtain ⟨aP, cP, rfl, hcp⟩ := HP2.out.form
  clear hp hk2 HQ b3 z1 HB1 HK1
  have b1 : w2.cell? ⟨B, 1, none⟩ = some (.bool y.numeric) := HB2.out.cell 1 _ rfl
  have z2 := HB2.out.lt
  cases hn : y.numeric
  all_goals
    rw [hn] at b1 HE
    simp only [Bool.false_eq_true, if_false, if_true] at HE
    clear hn
    (first | unfold kSuffix at HE | unfold kNumber at HE)
    go_wp2_with fail
    refine (HFF.out _ _ _ (by simp) HP2.out).mono ?_
    rintro e w3 ⟨rfl, hk3⟩
    have HK3 := Lib.hid (HK2.out.trans hk3)
    have HB3 := Lib.hid (HB2.out.kept hk3)
    clear hk3 b1 z2
    generalize freeB L _ = F at *
    cases F with
    | false =>
      rw [if_pos rfl] at HE
      go_wp2_with fail
      go_ret
      exact ⟨ret_int HE.out.symm, HK3.out⟩
    | true =>
      rw [if_neg (by simp)] at HE
      have b4 : w3.cell? ⟨B, 4, none⟩ = some (.string (bs y.bare)) := HB3.out.cell 4 _ rfl
      have z3 := HB3.out.lt
      go_wp2_with fail
      refine (HB.out _).mono ?_
      rintro e w4 ⟨rfl, hk4⟩
      have HK4 := Lib.hid (HK3.out.trans hk4)
      clear hk4
      go_wp2_with fail
      go_ret
      exact ⟨ret_int HE.out.symm, HK4.out⟩
def keysK (ps : List Pr) (k : Nat) : List Bs := (ps.take k).map (·.1)
theorem keysK_next (ps : List Pr) (k : Nat) (hk : k < ps.length) : keysK ps (k + 1) = keysK ps k ++ [ps[k].1] := by
  unfold keysK
  rw [List.take_succ_eq_append_getElem hk, List.map_append]; rfl
theorem keysK_has (ps : List Pr) (k : Nat) (x : Bs) (hk : k ≤ ps.length) : (keysK ps k).contains x = true ↔ ∃ j, ∃ hj : j < ps.length, j < k ∧ ps[j].1 = x := by
  unfold keysK
  rw [List.contains_iff_mem, List.mem_map]
  constructor
  · rintro ⟨p, hp, e⟩
    obtain ⟨j, hj, e2⟩ := List.mem_take_iff_getElem.1 hp
    exact ⟨j, by omega, by omega, by rw [e2, e]⟩
  · rintro ⟨j, hj, hjk, e⟩
    exact ⟨ps[j], List.mem_take_iff_getElem.2 ⟨j, by omega, rfl⟩, e⟩
set_option maxRecDepth 100000 in
set_option maxHeartbeats 6400000 in
theorem rents31_any (v : Value) (ps : List Pr) (w : World) (hv : Prs w v ps) (hn : ps.length ≤ 100000) (hl : ∀ p ∈ ps, p.1.length ≤ 100000 ∧ p.2.length ≤ 100000) : Calls Tryz.prog 47 #[v] w fun e w' => e = .returned (.int .i64 (entE ps)) ∧ Kept w w' := by
  have HV := Lib.hid hv
  have HLL := Lib.hid hl
  obtain ⟨a, c, rfl, hc⟩ := hv.form
  have H0 : Hid (entE ps = entA (keysK ps 0) (ps.drop 0)) := rfl
  have HK0 : Hid ((keysK ps 0).contains [42] = false) := rfl
  have HKN := Lib.hid (keysK_next ps)
  have HKH := Lib.hid (keysK_has ps)
  generalize entE ps = R at *
  clear hv hl
  go_enter Tryz.func47, Tryz.ntmps47
  go_wp2_with fail
  go_loopw [3, 4] (fun d i wr => ∃ k : Nat, k ≤ ps.length ∧ i = .int .i64 k ∧ d = .bool ((keysK ps k).contains [42]) ∧ Hid (R = entA (keysK ps k) (ps.drop k)) ∧ Hid (Kept w wr)) (fun _ i _ => ps.length - (intOf i).toNat)
  case atStart => exact ⟨0, Nat.zero_le _, rfl, by rw [HK0.out], H0.out, Kept.refl _⟩
  case round =>
    obtain ⟨k, hk, rfl, rfl, HA, HKR⟩ := hrel
    by_cases hlt : k < ps.length
    · have hx := List.getElem?_eq_getElem hlt
      obtain ⟨g, o, rfl, hg, d0, d1, -, -⟩ := (HV.out.kept HKR.out).cell_of k _ hx
      obtain ⟨hl1, hl2⟩ := HLL.out _ (List.getElem_mem hlt)
      have HD : Hid (ps.drop k = ps[k] :: ps.drop (k + 1)) := List.drop_eq_getElem_cons hlt
      have HKX := Lib.hid (HKN.out k hlt)
      rw [HD.out, entA_cons] at HA
      have HHAS := Lib.hid (HKH.out k ps[k].1 hk)
      have HX := Lib.hid hx
      clear HD hx
      generalize ps[k] = p at *
      obtain ⟨x, y⟩ := p
      simp only at d0 d1 hl1 hl2 HA HKX HHAS
      have HS := Lib.hid (fun w => rkind31_any x w (by omega))
      have HSP := Lib.hid (fun w => rtemplate_any y w hl2)
      obtain ⟨b, HBB⟩ : ∃ b, Hid ((x == [42] || smallB x 20 []) = b) := ⟨_, rfl⟩
      rw [HBB.out] at HS
      cases b with
      | false =>
        have hbb := HBB.out
        rw [Bool.or_eq_false_iff] at hbb
        rw [if_pos hbb] at HA
        clear hbb HBB
        go_wp2_with fail
        refine (HS.out _).mono ?_
        rintro e w2 ⟨rfl, hk2⟩
        have HK2 := Lib.hid (HKR.out.trans hk2)
        clear hk2
        go_wp2_with fail
        go_ret
        exact ⟨ret_int HA.out.symm, HK2.out⟩
      | true =>
        rw [if_neg (fun q => by have := HBB.out; rw [q.1, q.2] at this; cases this)] at HA
        have HYS : Hid ((∃ j, ∃ hj : j < ps.length, j < k ∧ ps[j].1 = x) → R = 7) := fun h => by rw [HA.out, if_pos (HHAS.out.2 h)]
        have HNS : Hid ((∀ j (hj : j < ps.length), j < k → ps[j].1 ≠ x) → R = if splE y ≠ 0 then splE y else entA (keysK ps (k + 1)) (ps.drop (k + 1))) := fun h => by
          rw [HA.out, if_neg (fun q => by obtain ⟨j, hj, hjk, e⟩ := HHAS.out.1 q; exact h j hj hjk e), HKX.out]
        have HST : Hid ((keysK ps (k + 1)).contains [42] = ((keysK ps k).contains [42] || (x == [42]))) := by
          show _ = _
          rw [HKX.out, Bool.eq_iff_iff, List.contains_iff_mem, Bool.or_eq_true, List.contains_iff_mem, beq_iff_eq, List.mem_append, List.mem_singleton]
          constructor
          · rintro (h | h)
            · exact .inl h
            · exact .inr h.symm
          · rintro (h | h)
            · exact .inl h
            · exact .inr h.symm
        clear HBB HA HHAS HKX
        generalize (keysK ps k).contains [42] = D at *
        go_wp2_with fail
        refine (HS.out _).mono ?_
        rintro e w2 ⟨rfl, hk2⟩
        have HK2 := Lib.hid (HKR.out.trans hk2)
        clear hk2 HKR d0 d1 HS hg
        go_wp2_with fail
        have hk1 : (k : Int) ≤ (ps.length : Int) := by omega
        obtain ⟨wo, rfl⟩ : ∃ wo : World, wo = w2 := ⟨_, rfl⟩
        go_loopw [5] (fun i wr => ∃ m : Nat, m ≤ k ∧ i = .int .i64 m ∧ Hid (∀ j (hj : j < ps.length), j < m → ps[j].1 ≠ x) ∧ Hid (Kept w wr)) (fun i _ => k - (intOf i).toNat)
        case atStart => exact ⟨0, Nat.zero_le _, rfl, fun j hj h => by omega, HK2.out⟩
        case round =>
          clear HK2
          obtain ⟨m, hm, rfl, HM, HKR⟩ := hrel
          obtain ⟨g1, o1, ha, hg1, e0, e1, -, -⟩ := (HV.out.kept HKR.out).cell_of k _ HX.out
          obtain ⟨rfl, rfl⟩ : g = g1 ∧ o = o1 := by cases ha; exact ⟨rfl, rfl⟩
          simp only at e0 e1
          clear ha
          by_cases hlt2 : m < k
          · have hml : m < ps.length := by omega
            have hy := List.getElem?_eq_getElem hml
            obtain ⟨g1, o1, ha, -, q0, -, -, -⟩ := (HV.out.kept HKR.out).cell_of m _ hy
            obtain ⟨rfl, rfl⟩ : g = g1 ∧ o = o1 := by cases ha; exact ⟨rfl, rfl⟩
            have HMX : Hid (ps[m].1 ≠ x → ∀ j (hj : j < ps.length), j < m + 1 → ps[j].1 ≠ x) := by
              intro h j hj hjk
              rcases Nat.lt_or_ge j m with q | q
              · exact HM.out j hj q
              · obtain rfl : j = m := by omega
                exact h
            have HYM : Hid (ps[m].1 = x → R = 7) := fun e => HYS.out ⟨m, hml, hlt2, e⟩
            clear ha hy HM
            generalize ps[m].1 = z at *
            cases hzx : (z == x) with
            | true =>
              have HR := Lib.hid (HYM.out (beq_iff_eq.1 hzx))
              go_wp2_with fail
              go_quiet (fail)
              all_goals
                have HKZ := Lib.hid (HKR.out.trans (kept_drewN wr nq))
                go_wp2_with fail
                go_ret
                exact ⟨ret_int HR.out.symm, HKZ.out⟩
            | false =>
              have HNO := Lib.hid (HMX.out (beq_eq_false_iff_ne.1 hzx))
              go_wp2_with fail
              go_quiet (fail)
              all_goals
                have HKZ := Lib.hid (HKR.out.trans (kept_drewN wr nq))
                go_wp2_with fail
                go_roundw
                case rel => exact ⟨m + 1, by omega, by go_num, HNO.out, HKZ.out⟩
                case measure => simp [intOf]; omega
          · obtain rfl : m = k := by omega
            have HA := Lib.hid (HNS.out HM.out)
            clear HNS HYS HM
            generalize splE y = E at *
            go_wp2_with fail
            refine (HSP.out _).mono ?_
            rintro e w4 ⟨rfl, hk4⟩
            have HK4 := Lib.hid (HKR.out.trans hk4)
            clear hk4 e0 e1
            obtain ⟨g1, o1, ha, hg1, f0, f1, -, -⟩ := (HV.out.kept HK4.out).cell_of m _ HX.out
            obtain ⟨rfl, rfl⟩ : g = g1 ∧ o = o1 := by cases ha; exact ⟨rfl, rfl⟩
            simp only at f0 f1
            clear ha
            by_cases h5 : E = 0
            case neg =>
              rw [if_pos h5] at HA
              have h5' : (E == 0) = false := by simpa using h5
              clear h5
              go_wp2_with fail
              go_ret
              exact ⟨ret_int HA.out.symm, HK4.out⟩
            subst h5
            rw [if_neg (by simp)] at HA
            cases D with
            | true =>
              rw [Bool.true_or] at HST
              go_wp2_with fail
              go_roundw
              case rel => exact ⟨m + 1, by omega, by go_num, by rw [HST.out], HA.out, HK4.out⟩
              case measure => simp [intOf]; omega
            | false =>
              rw [Bool.false_or] at HST
              obtain ⟨b42, h42⟩ : ∃ b, (x == [42]) = b := ⟨_, rfl⟩
              rw [h42] at HST
              go_wp2_with fail
              go_roundw
              case rel => exact ⟨m + 1, by omega, by go_num, by rw [HST.out], HA.out, HK4.out⟩
              case measure => simp [intOf]; omega
    · obtain rfl : k = ps.length := by omega
      rw [List.drop_of_length_le (Nat.le_refl _), entA_end] at HA
      generalize (keysK ps ps.length).contains [42] = D at *
      cases D with
      | true =>
        rw [if_pos rfl] at HA
        go_wp2_with fail
        go_ret
        exact ⟨ret_int HA.out.symm, HKR.out⟩
      | false =>
        rw [if_neg (by simp)] at HA
        go_wp2_with fail
        go_ret
        exact ⟨ret_int HA.out.symm, HKR.out⟩
set_option maxRecDepth 100000 in
set_option maxHeartbeats 6400000 in
theorem rcheck31_any (vE : Value) (y : StyT) (w : World) (hs : SmallY y) (hv : Prs w vE y.entries) : Calls Tryz.prog 18 #[styV vE y] w fun e w' => e = .returned (.int .i64 (styE y)) ∧ Kept w w' := by
  have HV := Lib.hid hv
  have HSM := Lib.hid hs
  obtain ⟨s1, s2, s3, s4, s5, s6, s7, s8, s9⟩ := hs
  have H1 := Lib.hid (fun w => rname31_any y.name w (by omega))
  have H2 := Lib.hid (fun w => rsorts31_any y.sort w s2)
  have H3 := Lib.hid (fun w => rcites31_any vE y w HSM.out)
  have H4 := Lib.hid (fun w => rline31_any y.between w (by omega))
  have H5 := Lib.hid (fun w => rline31_any y.begin_ w (by omega))
  have H6 := Lib.hid (fun w => rline31_any y.end_ w (by omega))
  have H7 := Lib.hid (fun w h' => rents31_any vE y.entries w h' (by omega) s9)
  have HE : Hid (styE y = if 128 < y.entries.length then 3 else if smallB y.name 60 nameSet = false then 6 else if srtE y.sort ≠ 0 then srtE y.sort else if citE y ≠ 0 then citE y else if lnB y.between = false ∨ lnB y.begin_ = false ∨ lnB y.end_ = false then 17 else if y.most < 1 ∨ 32 < y.most then 9 else entE y.entries) := rfl
  obtain ⟨aE, cE, rfl, lE⟩ := hv.form
  generalize styE y = R at *
  generalize smallB y.name 60 nameSet = b1 at *
  generalize srtE y.sort = e2 at *
  generalize citE y = e3 at *
  generalize lnB y.between = b4 at *
  generalize lnB y.begin_ = b5 at *
  generalize lnB y.end_ = b6 at *
  generalize entE y.entries = e7 at *
  clear hv s9
  unfold styV styCells at H3 ⊢
  have HK0 := Lib.hid (kept_alloc w (.cells (styCells (.slice aE y.entries.length cE) y) 24))
  have HB0 := Lib.hid (Blk.new w 24 (styCells (.slice aE y.entries.length cE) y))
  unfold styCells at HK0 HB0
  by_cases h1 : 128 < y.entries.length
  · rw [if_pos h1] at HE
    go_enter Tryz.func18, Tryz.ntmps18
    go_wp2_with fail
    go_ret
    exact ⟨ret_int HE.out.symm, HK0.out⟩
  rw [if_neg h1] at HE
  go_enter Tryz.func18, Tryz.ntmps18
  go_wp2_with fail
  generalize w.alloc _ = w0 at *
  generalize w.heap.size = B at *
  have HCC : Hid (∀ w', Kept w0 w' → Blk w' B 24 #[.string (bs y.name), .bool y.numeric, .string (bs y.sort), .string (bs y.cite), .string (bs y.bare), .string (bs y.between), .string (bs y.begin_), .string (bs y.end_), .int .i64 y.most, .slice aE y.entries.length cE]) := fun w' h => HB0.out.kept h
  refine (H1.out _).mono ?_
  rintro e w1 ⟨rfl, hk⟩
  have K1 := Lib.hid hk
  clear hk
  cases b1 with
  | false =>
    rw [if_pos rfl] at HE
    go_wp2_with fail
    go_ret
    exact ⟨ret_int HE.out.symm, HK0.out.trans K1.out⟩
  | true =>
  rw [if_neg (by simp)] at HE
  have t2 : w1.cell? ⟨B, 2, none⟩ = some (.string (bs y.sort)) := (HCC.out _ K1.out).cell 2 _ rfl
  have z1 := (HCC.out _ K1.out).lt
  go_wp2_with fail
  refine (H2.out _).mono ?_
  rintro e w2 ⟨rfl, hk⟩
  have K2 := Lib.hid (K1.out.trans hk)
  clear hk t2 z1 K1
  by_cases h2 : e2 = 0
  case neg =>
    rw [if_pos h2] at HE
    have h2' : (e2 == 0) = false := by simpa using h2
    go_wp2_with fail
    go_ret
    exact ⟨ret_int HE.out.symm, HK0.out.trans K2.out⟩
  subst h2
  rw [if_neg (by simp)] at HE
  have t0 : w2.cell? ⟨B, 0, none⟩ = some (.string (bs y.name)) := (HCC.out _ K2.out).cell 0 _ rfl
  have t1 : w2.cell? ⟨B, 1, none⟩ = some (.bool y.numeric) := (HCC.out _ K2.out).cell 1 _ rfl
  have t2 : w2.cell? ⟨B, 2, none⟩ = some (.string (bs y.sort)) := (HCC.out _ K2.out).cell 2 _ rfl
  have t3 : w2.cell? ⟨B, 3, none⟩ = some (.string (bs y.cite)) := (HCC.out _ K2.out).cell 3 _ rfl
  have t4 : w2.cell? ⟨B, 4, none⟩ = some (.string (bs y.bare)) := (HCC.out _ K2.out).cell 4 _ rfl
  have t5 : w2.cell? ⟨B, 5, none⟩ = some (.string (bs y.between)) := (HCC.out _ K2.out).cell 5 _ rfl
  have t6 : w2.cell? ⟨B, 6, none⟩ = some (.string (bs y.begin_)) := (HCC.out _ K2.out).cell 6 _ rfl
  have t7 : w2.cell? ⟨B, 7, none⟩ = some (.string (bs y.end_)) := (HCC.out _ K2.out).cell 7 _ rfl
  have t8 : w2.cell? ⟨B, 8, none⟩ = some (.int .i64 y.most) := (HCC.out _ K2.out).cell 8 _ rfl
  have t9 : w2.cell? ⟨B, 9, none⟩ = some (.slice aE y.entries.length cE) := (HCC.out _ K2.out).cell 9 _ rfl
  have z1 := (HCC.out _ K2.out).lt
  go_wp2_with fail
  refine (H3.out _).mono ?_
  rintro e w3 ⟨rfl, hk⟩
  have K3 := Lib.hid (K2.out.trans hk)
  clear hk t0 t1 t2 t3 t4 t5 t6 t7 t8 t9 z1 K2
  by_cases h3 : e3 = 0
  case neg =>
    rw [if_pos h3] at HE
    have h3' : (e3 == 0) = false := by simpa using h3
    go_wp2_with fail
    go_ret
    exact ⟨ret_int HE.out.symm, HK0.out.trans K3.out⟩
  subst h3
  rw [if_neg (by simp)] at HE
  have t5 : w3.cell? ⟨B, 5, none⟩ = some (.string (bs y.between)) := (HCC.out _ K3.out).cell 5 _ rfl
  have z1 := (HCC.out _ K3.out).lt
  go_wp2_with fail
  refine (H4.out _).mono ?_
  rintro e w4 ⟨rfl, hk⟩
  have K4 := Lib.hid (K3.out.trans hk)
  clear hk t5 z1 K3
  cases b4 with
  | false =>
    rw [if_pos (.inl rfl)] at HE
    go_wp2_with fail
    go_ret
    exact ⟨ret_int HE.out.symm, HK0.out.trans K4.out⟩
  | true =>
  have t6 : w4.cell? ⟨B, 6, none⟩ = some (.string (bs y.begin_)) := (HCC.out _ K4.out).cell 6 _ rfl
  have z1 := (HCC.out _ K4.out).lt
  go_wp2_with fail
  refine (H5.out _).mono ?_
  rintro e w5 ⟨rfl, hk⟩
  have K5 := Lib.hid (K4.out.trans hk)
  clear hk t6 z1 K4
  cases b5 with
  | false =>
    rw [if_pos (.inr (.inl rfl))] at HE
    go_wp2_with fail
    go_ret
    exact ⟨ret_int HE.out.symm, HK0.out.trans K5.out⟩
  | true =>
  have t7 : w5.cell? ⟨B, 7, none⟩ = some (.string (bs y.end_)) := (HCC.out _ K5.out).cell 7 _ rfl
  have z1 := (HCC.out _ K5.out).lt
  go_wp2_with fail
  refine (H6.out _).mono ?_
  rintro e w6 ⟨rfl, hk⟩
  have K6 := Lib.hid (K5.out.trans hk)
  clear hk t7 z1 K5
  cases b6 with
  | false =>
    rw [if_pos (.inr (.inr rfl))] at HE
    go_wp2_with fail
    go_ret
    exact ⟨ret_int HE.out.symm, HK0.out.trans K6.out⟩
  | true =>
  rw [if_neg (by simp)] at HE
  have t8 : w6.cell? ⟨B, 8, none⟩ = some (.int .i64 y.most) := (HCC.out _ K6.out).cell 8 _ rfl
  have t9 : w6.cell? ⟨B, 9, none⟩ = some (.slice aE y.entries.length cE) := (HCC.out _ K6.out).cell 9 _ rfl
  have z1 := (HCC.out _ K6.out).lt
  by_cases h8 : y.most < 1
  · rw [if_pos (.inl h8)] at HE
    go_wp2_with fail
    go_ret
    exact ⟨ret_int HE.out.symm, HK0.out.trans K6.out⟩
  by_cases h9 : 32 < y.most
  · rw [if_pos (.inr h9)] at HE
    go_wp2_with fail
    go_ret
    exact ⟨ret_int HE.out.symm, HK0.out.trans K6.out⟩
  rw [if_neg (fun q => q.elim h8 h9)] at HE
  go_wp2_with fail
  refine (H7.out _ (HV.out.kept (HK0.out.trans K6.out))).mono ?_
  rintro e w7 ⟨rfl, hk⟩
  have K7 := Lib.hid (K6.out.trans hk)
  clear hk
  go_wp2_with fail
  go_ret
  exact ⟨ret_int HE.out.symm, HK0.out.trans K7.out⟩
end Go.Proofs.YtafcngdnngpdnaaGreatDoor

/- Parse of style. Conditions: lengths. -/
set_option linter.all false
namespace Go.Proofs.YtafcngdnngpdnaaGreatDoor
open Go.RowKit

/-- What Parse gives back. -/
def ParP (x : StyT × Int × Int) (w : World) (e : Ending) (w' : World) : Prop := ∃ vE, e = .returned (.tuple #[styV vE x.1, .int .i64 x.2.1, .int .i64 x.2.2]) ∧ Prs w' vE x.1.entries ∧ Kept w w'
theorem hdGood_none {ls : List Bs} {k : Nat} (h : ls[k]? = none) : hdGood ls k = false := by unfold hdGood; rw [h]
theorem hdGood_bad {ls : List Bs} {k : Nat} {l : Bs} (h : ls[k]? = some l) (hc : cutP (headsL.getD k []) l = none) : hdGood ls k = false := by unfold hdGood; rw [h]; simp only; rw [hc]
theorem hdGood_some {ls : List Bs} {k : Nat} {l v : Bs} (h : ls[k]? = some l) (hc : cutP (headsL.getD k []) l = some v) : hdGood ls k = vOk k v ∧ hdV ls k = v := by
  constructor
  · unfold hdGood; rw [h]; simp only; rw [hc]
  · unfold hdV
    have e : ls.getD k [] = l := by rw [List.getD_eq_getElem?_getD, h]; rfl
    rw [e]; exact (cutP_len hc).1.symm
theorem hd_eight {ls : List Bs} (h : hdGood ls 8 = true) : 9 ≤ ls.length ∧ decB (hdV ls 8) = true := by
  cases hx : ls[8]? with
  | none => rw [hdGood_none hx] at h; cases h
  | some l =>
    cases hc : cutP (headsL.getD 8 []) l with
    | none => rw [hdGood_bad hx hc] at h; cases h
    | some v =>
      obtain ⟨h1, h2⟩ := hdGood_some hx hc
      have := (List.getElem?_eq_some_iff.1 hx).1
      refine ⟨by omega, ?_⟩
      rw [h2]; rw [h1] at h; exact h
theorem entR_cut {l r : Bs} (h : cutP kEntry l = some r) : entR l = if before 58 r < r.length then some (r.take (before 58 r), r.drop (before 58 r + 1)) else none := by unfold entR; rw [h]
theorem entR_none {l : Bs} (h : cutP kEntry l = none) : entR l = none := by unfold entR; rw [h]
theorem entR_len {l : Bs} {p : Pr} (h : entR l = some p) : p.1.length ≤ l.length ∧ p.2.length ≤ l.length := by
  unfold entR at h
  cases hc : cutP kEntry l with
  | none => rw [hc] at h; cases h
  | some r =>
    rw [hc] at h
    simp only at h
    obtain ⟨e, _⟩ := cutP_len hc
    have : r.length ≤ l.length := by rw [e, List.length_drop]; omega
    split at h
    · cases h
      simp only [List.length_take, List.length_drop]; omega
    · cases h
theorem fmap_next (es : List Bs) (k : Nat) (l : Bs) (p : Pr) (h : es[k]? = some l) (hp : entR l = some p) : (es.take (k + 1)).filterMap entR = (es.take k).filterMap entR ++ [p] := by
  obtain ⟨hk, rfl⟩ := List.getElem?_eq_some_iff.1 h
  rw [List.take_succ_eq_append_getElem hk, List.filterMap_append]
  simp [hp]
theorem lines_len (t : Bs) : (linesL t).length ≤ t.length + 1 := by
  have h : (linesL t).length ≤ (splitC 10 t).length := by
    unfold linesL splitC
    rw [List.length_append, List.length_append]
    split <;> simp
  rw [splitC_length] at h
  have := List.count_le_length (a := (10 : UInt8)) (l := t)
  omega
theorem split_mem (c : UInt8) : ∀ (n : Nat) (t : Bs), t.length ≤ n → ∀ x ∈ splitC c t, x.length ≤ t.length := by
  intro n
  induction n with
  | zero =>
    intro t ht x hx
    obtain rfl : t = [] := List.length_eq_zero_iff.1 (by omega)
    rw [splitC_none c [] (by simp)] at hx
    simp at hx; subst hx; exact Nat.le_refl _
  | succ n ih =>
    intro t ht x hx
    rcases index_one t c with ⟨_, h⟩ | ⟨i, _, hi, hni, he⟩
    · rw [splitC_none c t h] at hx
      simp at hx; subst hx; exact Nat.le_refl _
    · rw [he, splitC_at c _ _ hni] at hx
      rcases List.mem_cons.1 hx with rfl | hx
      · rw [List.length_take]; omega
      · have := ih _ (by rw [List.length_drop]; omega) x hx
        rw [List.length_drop] at this; omega
theorem par_small (t : Bs) (ht : t.length ≤ 9000) : SmallY (parY (linesL t)) := by
  have hm : ∀ x ∈ linesL t, x.length ≤ 9000 := fun x hx => by have := split_mem 10 _ t (Nat.le_refl _) x (lines_sub t x hx); omega
  have hv : ∀ i, (hdV (linesL t) i).length ≤ 9000 := fun i => by
    unfold hdV
    rw [List.length_drop, List.getD_eq_getElem?_getD]
    cases hx : (linesL t)[i]? with
    | none => simp
    | some x => have := hm x (List.mem_of_getElem? hx); simp only [Option.getD_some]; omega
  have hl := lines_len t
  unfold parY SmallY
  simp only
  refine ⟨by have := hv 0; omega, by have := hv 2; omega, by have := hv 3; omega, by have := hv 4; omega, by have := hv 5; omega, by have := hv 6; omega, by have := hv 7; omega, ?_, fun p hp => ?_⟩
  · have := List.length_filterMap_le entR ((linesL t).drop 9)
    rw [List.length_drop] at this; omega
  · rw [List.mem_filterMap] at hp
    obtain ⟨l, hl2, he⟩ := hp
    have h1 := hm l (List.mem_of_mem_drop hl2)
    have := entR_len he
    omega
theorem own_far {w : World} {base : Nat} {e : TypeId} {size : Nat} {v : Value} {n : Nat} {xs : List Value} (h : w.ownsRow base e size v n xs) (Y : Nat) (hY : Y < base) : some Y ≠ v.ownBlock := fun q => by
  have := (h.lt Y q.symm).1; omega
set_option maxRecDepth 100000 in
set_option maxHeartbeats 12800000 in
theorem sparse_any (t : Bs) (w : World) (hg : Gnd w) (ht : t.length ≤ 9000) : Calls Tryz.prog 9 #[.string (bs t)] w (ParP (parL (linesL t)) w) := by
  have HG := Lib.hid hg
  have HLS := Lib.hid (fun w => lsplit_any t w (by omega))
  unfold SliP at HLS
  have HSM := Lib.hid (par_small t ht)
  have hln := lines_len t
  have HLM : Hid (∀ x ∈ linesL t, x.length ≤ 9000) := fun x hx => by have := split_mem 10 _ t (Nat.le_refl _) x (lines_sub t x hx); omega
  obtain ⟨ls, HLE⟩ : ∃ ls, Hid (linesL t = ls) := ⟨_, rfl⟩
  rw [HLE.out] at HLS HSM hln HLM ⊢
  have HERR : Hid (∀ (n e : Int), parL ls = (zeroY, n, e) → ∀ w', Kept w w' → ParP (parL ls) w (.returned (.tuple #[styV (.slice none 0 0) zeroY, .int .i64 n, .int .i64 e])) w') := fun n e h w' k => by
    rw [h]
    exact ⟨_, rfl, ⟨none, 0, rfl, Nat.le_refl _, fun q => absurd q (by simp [zeroY])⟩, k⟩
  have HOKK : Hid (∀ y, parL ls = (y, 0, 0) → ∀ vE w', Prs w' vE y.entries → Kept w w' → ParP (parL ls) w (.returned (.tuple #[styV vE y, .int .i64 0, .int .i64 0])) w') := fun y h vE w' hp k => by
    rw [h]
    exact ⟨_, rfl, hp, k⟩
  generalize hP : ParP (parL ls) w = P at *
  clear hP hg HLE
  have HB0 := Lib.hid (Blk.new w 24 #[.string (bs []), .bool false, .string (bs []), .string (bs []), .string (bs []), .string (bs []), .string (bs []), .string (bs []), .int .i64 0, .slice none 0 0])
  have HK0 := Lib.hid (kept_alloc w (.cells #[.string (bs []), .bool false, .string (bs []), .string (bs []), .string (bs []), .string (bs []), .string (bs []), .string (bs []), .int .i64 0, .slice none 0 0] 24))
  go_enter Tryz.func9, Tryz.ntmps9
  go_wp2_with fail
  generalize w.alloc _ = w0 at *
  obtain ⟨R, HRR⟩ : ∃ R, Hid (w.heap.size = R) := ⟨_, rfl⟩
  have hRz : w.heap.size ≤ R := by rw [HRR.out]; exact Nat.le_refl _
  rw [HRR.out] at HB0 ⊢
  have HR0 : Hid (Blk w0 R 24 (styCells (.slice none 0 0) zeroY)) := HB0
  clear HB0
  refine (HLS.out _).mono ?_
  rintro e w1 ⟨v, rfl, hst, hk1⟩
  have HST := Lib.hid hst
  have HK1 := Lib.hid (HK0.out.trans hk1)
  have HR1 := Lib.hid (HR0.out.kept hk1)
  obtain ⟨a, c, rfl, hc⟩ := hst.form
  clear hst hk1 HK0 HR0 HLS
  have HV0 : Hid (Blk (w1.alloc (.cells #[.string (bs []), .string (bs []), .string (bs []), .string (bs []), .string (bs []), .string (bs []), .string (bs []), .string (bs []), .string (bs [])] 44)) w1.heap.size 44 (strCells (valsK ls 0)).toArray) := Blk.new w1 44 #[.string (bs []), .string (bs []), .string (bs []), .string (bs []), .string (bs []), .string (bs []), .string (bs []), .string (bs []), .string (bs [])]
  have HKV0 := Lib.hid (kept_alloc w1 (.cells #[.string (bs []), .string (bs []), .string (bs []), .string (bs []), .string (bs []), .string (bs []), .string (bs []), .string (bs []), .string (bs [])] 44))
  go_wp2_with fail
  refine (sheads_any _).mono ?_
  rintro e w3 ⟨rfl, hk3⟩
  have HV3 := Lib.hid (HV0.out.kept hk3)
  have HK3 := Lib.hid (HKV0.out.trans hk3)
  clear HV0 HKV0 hk3
  obtain ⟨V, HVV⟩ : ∃ V, Hid (w1.heap.size = V) := ⟨_, rfl⟩
  have hVz : w1.heap.size ≤ V := by rw [HVV.out]; exact Nat.le_refl _
  rw [HVV.out] at HV3 ⊢
  have HRH := Lib.hid run_heads
  obtain ⟨HA, HHA⟩ : ∃ HA, Hid ((strCells headsL).toArray = HA) := ⟨_, rfl⟩
  rw [HHA.out] at HRH ⊢
  go_wp2_with fail
  (try simp only [mk_bs])
  go_loopw [23] (fun i wr => ∃ k : Nat, k ≤ 9 ∧ i = .int .i64 k ∧ Hid (∀ j, j < k → hdGood ls j = true) ∧ Hid (Blk wr V 44 (strCells (valsK ls k)).toArray) ∧ Hid (Kept w1 wr)) (fun i _ => 9 - (intOf i).toNat)
  case atStart => exact ⟨0, Nat.zero_le _, rfl, fun j hj => by omega, HV3.out, HK3.out⟩
  case round =>
    clear HV3 HK3
    obtain ⟨k, hk, rfl, HN, HVK, HKR⟩ := hrel
    have HKW := Lib.hid (HK1.out.trans HKR.out)
    have HRW := Lib.hid (HR1.out.kept HKR.out)
    by_cases hlt : k < 9
    · by_cases hkl : k < ls.length
      · obtain ⟨l, hx⟩ : ∃ l, ls[k]? = some l := ⟨_, List.getElem?_eq_getElem hkl⟩
        obtain ⟨g, o, rfl, hg, d0, -, -⟩ := (HST.out.kept HKR.out).cell_of k l hx
        have hix := fun w => HRH.out k hlt w
        cases hc : cutP (headsL.getD k []) l with
        | none =>
          have HCS := Lib.hid (fun w => cutp_none w hc)
          have HGOOD := Lib.hid (hdGood_bad hx hc)
          have HRES := Lib.hid (parL_head hlt HN.out HGOOD.out)
          clear hc hx
          generalize headsL.getD k [] = h at *
          by_cases k1 : k = 1
          · have h1 : ((k : Int) == 1) = true := by rw [k1]; rfl
            clear k1
            go_wp2_with fail
            refine (HCS.out _).mono ?_
            rintro e w5 ⟨rfl, rfl⟩
            go_wp2_with (refine wpList_store_blk rfl 24 (.tmp 2) (.tmp 64) (by rfl) R _ (styCells (.slice none 0 0) zeroY) (by rfl) (by rfl) HRW.out rfl Tryz.sizeSty (sty_one _ rfl zeroY) ?_; intro w9 hb9 ho9; have HF := Lib.hid (HERR.out _ _ HRES.out w9 (only_kept HKW.out ho9 hRz)); obtain ⟨⟨r0, r1, r2, r3, r4, r5, r6, r7, r8, r9⟩, rz⟩ := sty_cells hb9; simp only [zeroY] at r0 r1 r2 r3 r4 r5 r6 r7 r8 r9; clear hb9 ho9)
            refine bodyPost_ret (v := .tuple #[styV (.slice none 0 0) zeroY, .int .i64 (k + 1), .int .i64 5]) ?_ rfl HF.out
            simp [results, Tryz.results9, go_sem, r0, r1, r2, r3, r4, r5, r6, r7, r8, r9, rz, styV, styCells, zeroY]
          · have h1 : ((k : Int) == 1) = false := by rw [beq_eq_false_iff_ne]; omega
            by_cases k8 : k = 8
            · have h8 : ((k : Int) == 8) = true := by rw [k8]; rfl
              clear k1 k8
              go_wp2_with fail
              refine (HCS.out _).mono ?_
              rintro e w5 ⟨rfl, rfl⟩
              go_wp2_with (refine wpList_store_blk rfl 24 (.tmp 2) (.tmp 64) (by rfl) R _ (styCells (.slice none 0 0) zeroY) (by rfl) (by rfl) HRW.out rfl Tryz.sizeSty (sty_one _ rfl zeroY) ?_; intro w9 hb9 ho9; have HF := Lib.hid (HERR.out _ _ HRES.out w9 (only_kept HKW.out ho9 hRz)); obtain ⟨⟨r0, r1, r2, r3, r4, r5, r6, r7, r8, r9⟩, rz⟩ := sty_cells hb9; simp only [zeroY] at r0 r1 r2 r3 r4 r5 r6 r7 r8 r9; clear hb9 ho9)
              refine bodyPost_ret (v := .tuple #[styV (.slice none 0 0) zeroY, .int .i64 (k + 1), .int .i64 5]) ?_ rfl HF.out
              simp [results, Tryz.results9, go_sem, r0, r1, r2, r3, r4, r5, r6, r7, r8, r9, rz, styV, styCells, zeroY]
            · have h8 : ((k : Int) == 8) = false := by rw [beq_eq_false_iff_ne]; omega
              clear k1 k8
              go_wp2_with fail
              refine (HCS.out _).mono ?_
              rintro e w5 ⟨rfl, rfl⟩
              go_wp2_with (refine wpList_store_blk rfl 24 (.tmp 2) (.tmp 64) (by rfl) R _ (styCells (.slice none 0 0) zeroY) (by rfl) (by rfl) HRW.out rfl Tryz.sizeSty (sty_one _ rfl zeroY) ?_; intro w9 hb9 ho9; have HF := Lib.hid (HERR.out _ _ HRES.out w9 (only_kept HKW.out ho9 hRz)); obtain ⟨⟨r0, r1, r2, r3, r4, r5, r6, r7, r8, r9⟩, rz⟩ := sty_cells hb9; simp only [zeroY] at r0 r1 r2 r3 r4 r5 r6 r7 r8 r9; clear hb9 ho9)
              refine bodyPost_ret (v := .tuple #[styV (.slice none 0 0) zeroY, .int .i64 (k + 1), .int .i64 5]) ?_ rfl HF.out
              simp [results, Tryz.results9, go_sem, r0, r1, r2, r3, r4, r5, r6, r7, r8, r9, rz, styV, styCells, zeroY]
        | some v =>
          have HCS := Lib.hid (fun w => cutp_some w hc)
          obtain ⟨hgd, hv⟩ := hdGood_some hx hc
          clear hc hx
          generalize headsL.getD k [] = h at *
          have hvl : v.length ≤ 9000 := by rw [← hv]; unfold hdV; rw [List.length_drop]; have := HLM.out _ (List.getElem_mem hkl); rw [List.getD_eq_getElem?_getD, List.getElem?_eq_getElem hkl]; simp only [Option.getD_some]; omega
          unfold vOk at hgd
          by_cases k1 : k = 1
          · have h1 : ((k : Int) == 1) = true := by rw [k1]; rfl
            rw [if_pos k1] at hgd
            clear k1
            cases hy : (v == [121, 101, 115])
            · cases hn : (v == [110, 111])
              · have HGOOD : Hid (hdGood ls k = false) := by show _ = _; rw [hgd, hy, hn]; rfl
                have HRES := Lib.hid (parL_head hlt HN.out HGOOD.out)
                clear hv hgd
                go_wp2_with fail
                refine (HCS.out _).mono ?_
                rintro e w5 ⟨rfl, rfl⟩
                go_wp2_with (refine wpList_store_blk rfl 24 (.tmp 2) (.tmp 64) (by rfl) R _ (styCells (.slice none 0 0) zeroY) (by rfl) (by rfl) HRW.out rfl Tryz.sizeSty (sty_one _ rfl zeroY) ?_; intro w9 hb9 ho9; have HF := Lib.hid (HERR.out _ _ HRES.out w9 (only_kept HKW.out ho9 hRz)); obtain ⟨⟨r0, r1, r2, r3, r4, r5, r6, r7, r8, r9⟩, rz⟩ := sty_cells hb9; simp only [zeroY] at r0 r1 r2 r3 r4 r5 r6 r7 r8 r9; clear hb9 ho9)
                refine bodyPost_ret (v := .tuple #[styV (.slice none 0 0) zeroY, .int .i64 (k + 1), .int .i64 5]) ?_ rfl HF.out
                simp [results, Tryz.results9, go_sem, r0, r1, r2, r3, r4, r5, r6, r7, r8, r9, rz, styV, styCells, zeroY]
              · have HGOOD : Hid (hdGood ls k = true) := by show _ = _; rw [hgd, hy, hn]; rfl
                have cV : wr.cell? ⟨V, k, none⟩ = some (.string (bs (if k < k then hdV ls k else []))) := HVK.out.cell k _ (valsK_at ls k k hlt)
                have fV : wr.frozen? ⟨V, k, none⟩ = false := HVK.out.free k
                have zV := HVK.out.lt
                have HVN : Hid (Blk (wr.setCell ⟨V, k, none⟩ (.string (bs v))) V 44 (strCells (valsK ls (k + 1))).toArray) := by
                  have h := HVK.out.set k (.string (bs (hdV ls k)))
                  rw [valsK_set ls k hlt, hv] at h
                  exact h
                have HKN := Lib.hid (kept_set HKR.out V k (.string (bs v)) hVz)
                have HNN : Hid (∀ j, j < k + 1 → hdGood ls j = true) := fun j hj => by
                  rcases Nat.lt_or_ge j k with q | q
                  · exact HN.out j q
                  · obtain rfl : j = k := by omega
                    exact HGOOD.out
                clear hv hgd
                go_wp2_with fail
                refine (HCS.out _).mono ?_
                rintro e w5 ⟨rfl, rfl⟩
                go_wp2_with fail
                go_roundw
                case rel => exact ⟨k + 1, by omega, by go_num, HNN.out, HVN.out, HKN.out⟩
                case measure => simp [intOf]; omega
            · have HGOOD : Hid (hdGood ls k = true) := by show _ = _; rw [hgd, hy]; rfl
              have cV : wr.cell? ⟨V, k, none⟩ = some (.string (bs (if k < k then hdV ls k else []))) := HVK.out.cell k _ (valsK_at ls k k hlt)
              have fV : wr.frozen? ⟨V, k, none⟩ = false := HVK.out.free k
              have zV := HVK.out.lt
              have HVN : Hid (Blk (wr.setCell ⟨V, k, none⟩ (.string (bs v))) V 44 (strCells (valsK ls (k + 1))).toArray) := by
                have h := HVK.out.set k (.string (bs (hdV ls k)))
                rw [valsK_set ls k hlt, hv] at h
                exact h
              have HKN := Lib.hid (kept_set HKR.out V k (.string (bs v)) hVz)
              have HNN : Hid (∀ j, j < k + 1 → hdGood ls j = true) := fun j hj => by
                rcases Nat.lt_or_ge j k with q | q
                · exact HN.out j q
                · obtain rfl : j = k := by omega
                  exact HGOOD.out
              clear hv hgd
              go_wp2_with fail
              refine (HCS.out _).mono ?_
              rintro e w5 ⟨rfl, rfl⟩
              go_wp2_with fail
              go_roundw
              case rel => exact ⟨k + 1, by omega, by go_num, HNN.out, HVN.out, HKN.out⟩
              case measure => simp [intOf]; omega
          · have h1 : ((k : Int) == 1) = false := by rw [beq_eq_false_iff_ne]; omega
            rw [if_neg k1] at hgd
            clear k1
            by_cases k8 : k = 8
            · have h8 : ((k : Int) == 8) = true := by rw [k8]; rfl
              rw [if_pos k8] at hgd
              clear k8
              have HDC := Lib.hid (fun w => sdec_any v w (by omega))
              cases hd : decB v
              · rw [hd] at HDC
                have HGOOD : Hid (hdGood ls k = false) := by show _ = _; rw [hgd, hd]
                clear hd
                have HRES := Lib.hid (parL_head hlt HN.out HGOOD.out)
                clear hv hgd
                go_wp2_with fail
                refine (HCS.out _).mono ?_
                rintro e w5 ⟨rfl, rfl⟩
                go_wp2_with fail
                refine (HDC.out _).mono ?_
                rintro e w6 ⟨rfl, rfl⟩
                go_wp2_with (refine wpList_store_blk rfl 24 (.tmp 2) (.tmp 64) (by rfl) R _ (styCells (.slice none 0 0) zeroY) (by rfl) (by rfl) HRW.out rfl Tryz.sizeSty (sty_one _ rfl zeroY) ?_; intro w9 hb9 ho9; have HF := Lib.hid (HERR.out _ _ HRES.out w9 (only_kept HKW.out ho9 hRz)); obtain ⟨⟨r0, r1, r2, r3, r4, r5, r6, r7, r8, r9⟩, rz⟩ := sty_cells hb9; simp only [zeroY] at r0 r1 r2 r3 r4 r5 r6 r7 r8 r9; clear hb9 ho9)
                refine bodyPost_ret (v := .tuple #[styV (.slice none 0 0) zeroY, .int .i64 (k + 1), .int .i64 5]) ?_ rfl HF.out
                simp [results, Tryz.results9, go_sem, r0, r1, r2, r3, r4, r5, r6, r7, r8, r9, rz, styV, styCells, zeroY]
              · rw [hd] at HDC
                have HGOOD : Hid (hdGood ls k = true) := by show _ = _; rw [hgd, hd]
                clear hd
                have cV : wr.cell? ⟨V, k, none⟩ = some (.string (bs (if k < k then hdV ls k else []))) := HVK.out.cell k _ (valsK_at ls k k hlt)
                have fV : wr.frozen? ⟨V, k, none⟩ = false := HVK.out.free k
                have zV := HVK.out.lt
                have HVN : Hid (Blk (wr.setCell ⟨V, k, none⟩ (.string (bs v))) V 44 (strCells (valsK ls (k + 1))).toArray) := by
                  have h := HVK.out.set k (.string (bs (hdV ls k)))
                  rw [valsK_set ls k hlt, hv] at h
                  exact h
                have HKN := Lib.hid (kept_set HKR.out V k (.string (bs v)) hVz)
                have HNN : Hid (∀ j, j < k + 1 → hdGood ls j = true) := fun j hj => by
                  rcases Nat.lt_or_ge j k with q | q
                  · exact HN.out j q
                  · obtain rfl : j = k := by omega
                    exact HGOOD.out
                clear hv hgd
                go_wp2_with fail
                refine (HCS.out _).mono ?_
                rintro e w5 ⟨rfl, rfl⟩
                go_wp2_with fail
                refine (HDC.out _).mono ?_
                rintro e w6 ⟨rfl, rfl⟩
                go_wp2_with fail
                go_roundw
                case rel => exact ⟨k + 1, by omega, by go_num, HNN.out, HVN.out, HKN.out⟩
                case measure => simp [intOf]; omega
            · have h8 : ((k : Int) == 8) = false := by rw [beq_eq_false_iff_ne]; omega
              rw [if_neg k8] at hgd
              clear k8
              have HGOOD : Hid (hdGood ls k = true) := hgd
              have cV : wr.cell? ⟨V, k, none⟩ = some (.string (bs (if k < k then hdV ls k else []))) := HVK.out.cell k _ (valsK_at ls k k hlt)
              have fV : wr.frozen? ⟨V, k, none⟩ = false := HVK.out.free k
              have zV := HVK.out.lt
              have HVN : Hid (Blk (wr.setCell ⟨V, k, none⟩ (.string (bs v))) V 44 (strCells (valsK ls (k + 1))).toArray) := by
                have h := HVK.out.set k (.string (bs (hdV ls k)))
                rw [valsK_set ls k hlt, hv] at h
                exact h
              have HKN := Lib.hid (kept_set HKR.out V k (.string (bs v)) hVz)
              have HNN : Hid (∀ j, j < k + 1 → hdGood ls j = true) := fun j hj => by
                rcases Nat.lt_or_ge j k with q | q
                · exact HN.out j q
                · obtain rfl : j = k := by omega
                  exact HGOOD.out
              clear hv hgd
              go_wp2_with fail
              refine (HCS.out _).mono ?_
              rintro e w5 ⟨rfl, rfl⟩
              go_wp2_with fail
              go_roundw
              case rel => exact ⟨k + 1, by omega, by go_num, HNN.out, HVN.out, HKN.out⟩
              case measure => simp [intOf]; omega
      · have HGOOD := Lib.hid (hdGood_none (List.getElem?_eq_none (by omega) : ls[k]? = none))
        have HRES := Lib.hid (parL_head hlt HN.out HGOOD.out)
        have hix := fun w => HRH.out k hlt w
        have hkl' : (ls.length : Int) ≤ (k : Int) := by omega
        clear hkl
        generalize headsL.getD k [] = h at *
        go_wp2_with (refine wpList_store_blk rfl 24 (.tmp 2) (.tmp 31) (by rfl) R _ (styCells (.slice none 0 0) zeroY) (by rfl) (by rfl) HRW.out rfl Tryz.sizeSty (sty_one _ rfl zeroY) ?_; intro w9 hb9 ho9; have HF := Lib.hid (HERR.out _ _ HRES.out w9 (only_kept HKW.out ho9 hRz)); obtain ⟨⟨r0, r1, r2, r3, r4, r5, r6, r7, r8, r9⟩, rz⟩ := sty_cells hb9; simp only [zeroY] at r0 r1 r2 r3 r4 r5 r6 r7 r8 r9; clear hb9 ho9)
        refine bodyPost_ret (v := .tuple #[styV (.slice none 0 0) zeroY, .int .i64 (k + 1), .int .i64 5]) ?_ rfl HF.out
        simp [results, Tryz.results9, go_sem, r0, r1, r2, r3, r4, r5, r6, r7, r8, r9, rz, styV, styCells, zeroY]
    · have h9' : (9 : Int) ≤ (k : Int) := by omega
      have HAG : Hid (∀ j, j < 9 → hdGood ls j = true) := fun j hj => HN.out j (by omega)
      obtain ⟨hl9, hd8⟩ := hd_eight (HAG.out 8 (by omega))
      have HVC : Hid (∀ j, j < 9 → wr.cell? ⟨V, j, none⟩ = some (.string (bs (hdV ls j)))) := fun j hj => by
        have h := HVK.out.cell j _ (valsK_at ls k j hj)
        rwa [if_pos (by omega)] at h
      have HPY : Hid (parY ls = ⟨hdV ls 0, hdV ls 1 == [121, 101, 115], hdV ls 2, hdV ls 3, hdV ls 4, hdV ls 5, hdV ls 6, hdV ls 7, (dcN (hdV ls 8) : Nat), (ls.drop 9).filterMap entR⟩) := rfl
      have c0 := HVC.out 0 (by omega)
      have c1 := HVC.out 1 (by omega)
      have c2 := HVC.out 2 (by omega)
      have c3 := HVC.out 3 (by omega)
      have c4 := HVC.out 4 (by omega)
      have c5 := HVC.out 5 (by omega)
      have c6 := HVC.out 6 (by omega)
      have c7 := HVC.out 7 (by omega)
      have HC8 := Lib.hid (HVC.out 8 (by omega))
      have zV := HVK.out.lt
      have HATO := Lib.hid (fun w => atoi_any (hdV ls 8) w hd8)
      clear HVC hd8 hlt hk HN
      obtain ⟨a9, cc9, hsl, hst9⟩ := slice9 (HST.out.kept HKR.out) hl9
      have HST9 := Lib.hid hst9
      have HEND := Lib.hid (fun he => parL_end HAG.out he)
      have HENT := Lib.hid (fun i hi he hf => parL_ent (i := i) HAG.out hi he hf)
      have HLD : Hid (∀ x ∈ ls.drop 9, x.length ≤ 9000) := fun x hx => HLM.out x (List.mem_of_mem_drop hx)
      have hdl : (ls.drop 9).length ≤ 9001 := by rw [List.length_drop]; omega
      clear hst9 hl9
      generalize hdV ls 0 = x0 at *
      generalize hdV ls 1 = x1 at *
      generalize hdV ls 2 = x2 at *
      generalize hdV ls 3 = x3 at *
      generalize hdV ls 4 = x4 at *
      generalize hdV ls 5 = x5 at *
      generalize hdV ls 6 = x6 at *
      generalize hdV ls 7 = x7 at *
      generalize hdV ls 8 = x8 at *
      obtain ⟨eb, HEB⟩ : ∃ b, Hid ((x1 == [121, 101, 115]) = b) := ⟨_, rfl⟩
      have heb := HEB.out
      obtain ⟨es9, HES⟩ : ∃ x, Hid (ls.drop 9 = x) := ⟨_, rfl⟩
      rw [HES.out] at HPY HST9 HEND HENT hsl HLD hdl
      rw [HEB.out] at HPY
      obtain ⟨Y, HYY⟩ : ∃ Y, Hid (wr.heap.size = Y) := ⟨_, rfl⟩
      have hYz : wr.heap.size ≤ Y := by rw [HYY.out]; exact Nat.le_refl _
      have HNEW := Lib.hid (Blk.new wr 24 #[.string (bs []), .bool false, .string (bs []), .string (bs []), .string (bs []), .string (bs []), .string (bs []), .string (bs []), .int .i64 0, .slice none 0 0])
      have HKNEW := Lib.hid (kept_alloc wr (.cells #[.string (bs []), .bool false, .string (bs []), .string (bs []), .string (bs []), .string (bs []), .string (bs []), .string (bs []), .int .i64 0, .slice none 0 0] 24))
      have hVY : V < Y := by rw [← HYY.out]; exact zV
      go_wp2_with (refine wpList_store_blk rfl 24 (.tmp 11) (.tmp 88) (by rfl) wr.heap.size _ (styCells (.slice none 0 0) ⟨x0, eb, x2, x3, x4, x5, x6, x7, 0, []⟩) (by rfl) (by rfl) HNEW.out rfl Tryz.sizeSty (sty_one _ rfl _) ?_; intro w10 hb10 ho10; have HB10 := Lib.hid hb10; have HK10 := Lib.hid (only_kept HKNEW.out ho10 (Nat.le_refl _)); have c8 := (HK10.out.cell (p := ⟨V, 8, none⟩) zV).trans HC8.out; have zV10 := Nat.lt_of_lt_of_le zV HK10.out.size; clear hb10 ho10)
      refine (HATO.out _).mono ?_
      rintro e w11 ⟨rfl, hk11⟩
      have HB11 := Lib.hid (HB10.out.kept hk11)
      have HK11 := Lib.hid (HK10.out.trans hk11)
      have y8 : w11.cell? ⟨wr.heap.size, 8, none⟩ = some (.int .i64 0) := HB11.out.cell 8 _ rfl
      have f8 := HB11.out.free 8
      have z8 := HB11.out.lt
      have HB12 : Hid (Blk (w11.setCell ⟨wr.heap.size, 8, none⟩ (.int .i64 (dcN x8 : Nat))) wr.heap.size 24 (styCells (.slice none 0 0) ⟨x0, eb, x2, x3, x4, x5, x6, x7, (dcN x8 : Nat), []⟩)) := HB11.out.set 8 _
      have HK12 := Lib.hid (kept_set HK11.out wr.heap.size 8 (.int .i64 (dcN x8 : Nat)) (Nat.le_refl _))
      clear c0 c1 c2 c3 c4 c5 c6 c7 c8 HC8 zV zV10 hk11 HB10 HK10 HB11 HK11 HNEW HKNEW HATO HVK hVY heb HEB
      generalize (dcN x8 : Nat) = mo at *
      go_wp2_with fail
      rw [HYY.out] at HB12 HK12 ⊢
      generalize World.setCell _ _ _ = w12 at HB12 HK12 ⊢
      clear y8 f8 z8 hsl h9'
      have HOW0 : Hid (w12.ownsRow (Y + 1) 35 2 (.slice none 0 0) 0 (pairC [])) := World.ownsRow_nil _ _ _ _
      (try simp only [mk_bs])
      obtain ⟨wo, rfl⟩ : ∃ wo : World, wo = wr := ⟨_, rfl⟩
      go_loopw [99] (fun i wr => ∃ (k : Nat) (es : List Pr) (vE : Value), k ≤ es9.length ∧ i = .int .i64 k ∧ Hid (es.length = k) ∧ Hid (es = (es9.take k).filterMap entR) ∧ Hid (∀ j, j < k → (entR (es9.getD j [])).isNone = false) ∧ Hid (wr.ownsRow (Y + 1) 35 2 vE es.length (pairC es)) ∧ Hid (Blk wr Y 24 (styCells vE ⟨x0, eb, x2, x3, x4, x5, x6, x7, mo, []⟩)) ∧ Hid (Kept wo wr)) (fun i _ => es9.length - (intOf i).toNat)
      case atStart => exact ⟨0, [], _, Nat.zero_le _, rfl, rfl, rfl, fun j hj => by omega, HOW0.out, HB12.out, HK12.out⟩
      case round =>
        clear HOW0 HB12 HK12
        obtain ⟨k, es, vE, hk, rfl, HEL, HEF, HN, HOWN, HB, HK⟩ := hrel
        have hsz : wo.heap.size ≤ wr.heap.size := HK.out.size
        have hzY := HB.out.lt
        have HKT := Lib.hid (HKW.out.trans HK.out)
        have HR2 := Lib.hid (HRW.out.kept HK.out)
        by_cases hlt : k < es9.length
        · obtain ⟨l, hx⟩ : ∃ l, es9[k]? = some l := ⟨_, List.getElem?_eq_getElem hlt⟩
          obtain ⟨g, o, rfl, hg, d0, -, -⟩ := (HST9.out.kept HK.out).cell_of k l hx
          have hll := HLD.out l (List.mem_of_getElem? hx)
          have HGD : Hid (es9.getD k [] = l) := by show _ = _; rw [List.getD_eq_getElem?_getD, hx]; rfl
          have HBAD : Hid (entR l = none → parL ls = (zeroY, (k : Int) + 10, 5)) := fun h => HENT.out k hlt HN.out (by rw [HGD.out, h]; rfl)
          have HNX : Hid (∀ p, entR l = some p → (es9.take (k + 1)).filterMap entR = es ++ [p] ∧ ∀ j, j < k + 1 → (entR (es9.getD j [])).isNone = false) := fun p hp => by
            refine ⟨by rw [fmap_next es9 k l p hx hp, HEF.out], fun j hj => ?_⟩
            rcases Nat.lt_or_ge j k with q | q
            · exact HN.out j q
            · obtain rfl : j = k := by omega
              rw [HGD.out, hp]; rfl
          clear hx HN HEF
          have HGW := Lib.hid (HG.out.kept HKT.out)
          have hkE : kEntry = [101, 110, 116, 114, 121, 32] := rfl
          cases hc : cutP kEntry l with
          | none =>
            have HRES := Lib.hid (HBAD.out (entR_none hc))
            have HCS := Lib.hid (fun w => cutp_none w hc)
            rw [hkE] at HCS
            have HCU := Lib.hid (fun w h => cut_any l 58 w h (by omega))
            clear hc hkE HNX HBAD
            by_cases hbf : before 58 l < l.length
            · simp only [if_pos hbf] at HCU
              clear hbf
              go_wp2_with fail
              refine (HCS.out _).mono ?_
              rintro e w5 ⟨rfl, rfl⟩
              go_wp2_with fail
              refine (HCU.out _ HGW.out).mono ?_
              rintro e w6 ⟨rfl, n6, rfl⟩
              have HKT6 := Lib.hid (HKT.out.trans (kept_drewN wr n6))
              have HR6 := Lib.hid (HR2.out.kept (kept_drewN wr n6))
              generalize wr.drewN n6 = w6 at *
              go_wp2_with (refine wpList_store_blk rfl 24 (.tmp 2) (.tmp 121) (by rfl) R _ (styCells (.slice none 0 0) zeroY) (by rfl) (by rfl) HR6.out rfl Tryz.sizeSty (sty_one _ rfl zeroY) ?_; intro w9 hb9 ho9; have HF := Lib.hid (HERR.out _ _ HRES.out w9 (only_kept HKT6.out ho9 hRz)); obtain ⟨⟨r0, r1, r2, r3, r4, r5, r6, r7, r8, r9⟩, rz⟩ := sty_cells hb9; simp only [zeroY] at r0 r1 r2 r3 r4 r5 r6 r7 r8 r9; clear hb9 ho9)
              refine bodyPost_ret (v := .tuple #[styV (.slice none 0 0) zeroY, .int .i64 (k + 10), .int .i64 5]) ?_ rfl HF.out
              simp [results, Tryz.results9, go_sem, r0, r1, r2, r3, r4, r5, r6, r7, r8, r9, rz, styV, styCells, zeroY]
            · simp only [if_neg hbf] at HCU
              clear hbf
              go_wp2_with fail
              refine (HCS.out _).mono ?_
              rintro e w5 ⟨rfl, rfl⟩
              go_wp2_with fail
              refine (HCU.out _ HGW.out).mono ?_
              rintro e w6 ⟨rfl, n6, rfl⟩
              have HKT6 := Lib.hid (HKT.out.trans (kept_drewN wr n6))
              have HR6 := Lib.hid (HR2.out.kept (kept_drewN wr n6))
              generalize wr.drewN n6 = w6 at *
              go_wp2_with (refine wpList_store_blk rfl 24 (.tmp 2) (.tmp 121) (by rfl) R _ (styCells (.slice none 0 0) zeroY) (by rfl) (by rfl) HR6.out rfl Tryz.sizeSty (sty_one _ rfl zeroY) ?_; intro w9 hb9 ho9; have HF := Lib.hid (HERR.out _ _ HRES.out w9 (only_kept HKT6.out ho9 hRz)); obtain ⟨⟨r0, r1, r2, r3, r4, r5, r6, r7, r8, r9⟩, rz⟩ := sty_cells hb9; simp only [zeroY] at r0 r1 r2 r3 r4 r5 r6 r7 r8 r9; clear hb9 ho9)
              refine bodyPost_ret (v := .tuple #[styV (.slice none 0 0) zeroY, .int .i64 (k + 10), .int .i64 5]) ?_ rfl HF.out
              simp [results, Tryz.results9, go_sem, r0, r1, r2, r3, r4, r5, r6, r7, r8, r9, rz, styV, styCells, zeroY]
          | some r =>
            have HCS := Lib.hid (fun w => cutp_some w hc)
            rw [hkE] at HCS
            have hrl : r.length ≤ 9000 := by have := (cutP_len hc).1; rw [this, List.length_drop]; omega
            have HCU := Lib.hid (fun w h => cut_any r 58 w h (by omega))
            have HEQ := Lib.hid (entR_cut hc)
            clear hc hkE
            by_cases hbf : before 58 r < r.length
            · simp only [if_pos hbf] at HCU
              rw [if_pos hbf] at HEQ
              obtain ⟨hfm, hnn⟩ := HNX.out _ HEQ.out
              have HFM := Lib.hid hfm
              have HNN := Lib.hid hnn
              clear hbf hfm hnn HEQ HNX HBAD
              generalize r.take (before 58 r) = X at *
              generalize r.drop (before 58 r + 1) = Z at *
              have hes : es.length ≤ 9001 := by rw [HEL.out]; omega
              go_wp2_with fail
              refine (HCS.out _).mono ?_
              rintro e w5 ⟨rfl, rfl⟩
              go_wp2_with fail
              refine (HCU.out _ HGW.out).mono ?_
              rintro e w6 ⟨rfl, n6, rfl⟩
              have HK6 := Lib.hid (HK.out.trans (kept_drewN wr n6))
              have HB6 := Lib.hid (HB.out.kept (kept_drewN wr n6))
              have HO6 := Lib.hid (own_kept HOWN.out (kept_drewN wr n6))
              have hzY6 : Y < (wr.drewN n6).heap.size := HB6.out.lt
              generalize wr.drewN n6 = w6 at *
              have y9 : w6.cell? ⟨Y, 9, none⟩ = some vE := HB6.out.cell 9 _ rfl
              have HBQ := Lib.hid (Blk.new w6 35 #[.string (bs X), .string (bs Z)])
              have HBA := Lib.hid (HB6.out.alloc (.cells #[.string (bs X), .string (bs Z)] 35))
              have HOA := Lib.hid (HO6.out.alloc (.cells #[.string (bs X), .string (bs Z)] 35))
              have HKA := Lib.hid (HK6.out.trans (kept_alloc w6 (.cells #[.string (bs X), .string (bs Z)] 35)))
              have hlt9 : Y < (w6.alloc (.cells #[.string (bs X), .string (bs Z)] 35)).heap.size := HBA.out.lt
              go_wp2_with (at_builtin; refine wpList_append_pr _ (by rfl) (.tmp 125) (.tmp 129) (by rfl) (Y + 1) _ es (by rfl) HOA.out (X, Z) w6.heap.size (by rfl) HBQ.out (by omega) hlt9 ?_; intro v9 w9 hown9 hgrow9; have HB9 : Hid (Blk w9 Y 24 _) := (hgrow9.block Y hlt9 (own_far HOA.out Y (Nat.lt_succ_self _))).trans HBA.out; have HK9 := Lib.hid (HKA.out.trans' (grown_below (own_mono HOA.out (show wo.heap.size ≤ Y + 1 by omega)) hgrow9 HKA.out.size)); have y9' : w9.cell? ⟨Y, 9, none⟩ = some vE := HB9.out.cell 9 _ rfl; have f9 := HB9.out.free 9; have z9 := HB9.out.lt; rw [List.length_append, List.length_singleton] at hown9; have HO9 := Lib.hid hown9; obtain ⟨a5, c5, rfl, -, -, -⟩ := own_cap hown9; clear hown9 hgrow9)
              have HBN : Hid (Blk (w9.setCell ⟨Y, 9, none⟩ (.slice a5 (es.length + 1) c5)) Y 24 (styCells (.slice a5 (es.length + 1) c5) ⟨x0, eb, x2, x3, x4, x5, x6, x7, mo, []⟩)) := HB9.out.set 9 _
              have HON : Hid ((w9.setCell ⟨Y, 9, none⟩ (.slice a5 (es.length + 1) c5)).ownsRow (Y + 1) 35 2 (.slice a5 (es.length + 1) c5) (es.length + 1) (pairC (es ++ [(X, Z)]))) := (Only.setCell Y 9 _).own HO9.out (fun g hg q => own_far HO9.out Y (Nat.lt_succ_self _) (by rw [hg, q]))
              have HKN := Lib.hid (kept_set HK9.out Y 9 (.slice a5 (es.length + 1) c5) hYz)
              go_roundw
              case rel => exact ⟨k + 1, es ++ [(X, Z)], _, by omega, by go_num, (by show _ = _; rw [List.length_append, HEL.out]; rfl), HFM.out.symm, HNN.out, (by show World.ownsRow _ _ _ _ _ _ _; rw [List.length_append]; exact HON.out), HBN.out, HKN.out⟩
              case measure => simp [intOf]; omega
            · simp only [if_neg hbf] at HCU
              rw [if_neg hbf] at HEQ
              have HRES := Lib.hid (HBAD.out HEQ.out)
              clear hbf HEQ HNX HBAD
              go_wp2_with fail
              refine (HCS.out _).mono ?_
              rintro e w5 ⟨rfl, rfl⟩
              go_wp2_with fail
              refine (HCU.out _ HGW.out).mono ?_
              rintro e w6 ⟨rfl, n6, rfl⟩
              have HKT6 := Lib.hid (HKT.out.trans (kept_drewN wr n6))
              have HR6 := Lib.hid (HR2.out.kept (kept_drewN wr n6))
              generalize wr.drewN n6 = w6 at *
              go_wp2_with (refine wpList_store_blk rfl 24 (.tmp 2) (.tmp 121) (by rfl) R _ (styCells (.slice none 0 0) zeroY) (by rfl) (by rfl) HR6.out rfl Tryz.sizeSty (sty_one _ rfl zeroY) ?_; intro w9 hb9 ho9; have HF := Lib.hid (HERR.out _ _ HRES.out w9 (only_kept HKT6.out ho9 hRz)); obtain ⟨⟨r0, r1, r2, r3, r4, r5, r6, r7, r8, r9⟩, rz⟩ := sty_cells hb9; simp only [zeroY] at r0 r1 r2 r3 r4 r5 r6 r7 r8 r9; clear hb9 ho9)
              refine bodyPost_ret (v := .tuple #[styV (.slice none 0 0) zeroY, .int .i64 (k + 10), .int .i64 5]) ?_ rfl HF.out
              simp [results, Tryz.results9, go_sem, r0, r1, r2, r3, r4, r5, r6, r7, r8, r9, rz, styV, styCells, zeroY]
        · obtain ⟨yF, HYF⟩ : ∃ y, Hid (parY ls = y) := ⟨_, rfl⟩
          have HES : Hid (es = yF.entries) := by
            show _ = _
            rw [← HYF.out, HPY.out, HEF.out, List.take_of_length_le (by omega)]
          have HBF : Hid (Blk wr Y 24 (styCells vE yF)) := by
            rw [← HYF.out, HPY.out]; exact HB.out
          have HPR : Hid (Prs wr vE yF.entries) := by rw [← HES.out]; exact Prs.own HOWN.out
          have HOF : Hid (wr.ownsRow (Y + 1) 35 2 vE yF.entries.length (pairC yF.entries)) := by rw [← HES.out]; exact HOWN.out
          have HEND2 := Lib.hid (HEND.out (fun j hj => HN.out j (by omega)))
          rw [HYF.out] at HEND2 HSM
          have HCK := Lib.hid (fun w h h' => scheck_any vE yF w h HSM.out h')
          unfold styV at HCK
          have hone : vE.oneCell' = true := by
            obtain ⟨a5, c5, rfl, -, -, -⟩ := own_cap HOWN.out
            rfl
          have HOC := Lib.hid (sty_one vE hone yF)
          have HGW := Lib.hid (HG.out.kept HKT.out)
          clear hone HENT HEND HPY HB HOWN HN HEF HES HYF
          go_wp2_with (refine wpList_load_blk (by rfl) 24 (.tmp 11) (by rfl) Y (styCells vE yF) (by rfl) HBF.out _ Tryz.underlying24 rfl Tryz.sizeSty ?_)
          refine (HCK.out _ HGW.out HPR.out).mono ?_
          rintro e w7 ⟨rfl, hk7⟩
          have HK7 := Lib.hid (HKT.out.trans hk7)
          have HR7 := Lib.hid (HR2.out.kept hk7)
          have HB7 := Lib.hid (HBF.out.kept hk7)
          have HO7 := Lib.hid (own_kept HOF.out hk7)
          have hRY : R < Y + 1 := by have := HRW.out.lt; omega
          clear hk7 HCK
          by_cases hE : styE yF = 0
          · rw [if_pos hE] at HEND2
            rw [hE]
            clear hE
            go_wp2_with (first
              | (refine wpList_load_blk (by rfl) 24 (.tmp 11) (by rfl) Y (styCells vE yF) (by rfl) HB7.out _ Tryz.underlying24 rfl Tryz.sizeSty ?_)
              | (refine wpList_store_blk rfl 24 (.tmp 2) (.tmp 139) (by rfl) R _ (styCells vE yF) (by rfl) (by rfl) HR7.out rfl Tryz.sizeSty HOC.out ?_; intro w9 hb9 ho9; have HF := Lib.hid (HOKK.out yF HEND2.out vE w9 (Prs.own (ho9.own HO7.out (fun g hg q => own_far HO7.out R hRY (by rw [hg, q])))) (only_kept HK7.out ho9 hRz)); obtain ⟨⟨r0, r1, r2, r3, r4, r5, r6, r7, r8, r9⟩, rz⟩ := sty_cells hb9; clear hb9 ho9))
            refine bodyPost_ret (v := .tuple #[styV vE yF, .int .i64 0, .int .i64 0]) ?_ rfl HF.out
            simp [results, Tryz.results9, go_sem, r0, r1, r2, r3, r4, r5, r6, r7, r8, r9, rz, styV, styCells]
          · rw [if_neg hE] at HEND2
            have HRES := HEND2
            have hE' : (styE yF == 0) = false := by rw [beq_eq_false_iff_ne]; exact hE
            clear hE
            generalize styE yF = E at *
            go_wp2_with (refine wpList_store_blk rfl 24 (.tmp 2) (.tmp 137) (by rfl) R _ (styCells (.slice none 0 0) zeroY) (by rfl) (by rfl) HR7.out rfl Tryz.sizeSty (sty_one _ rfl zeroY) ?_; intro w9 hb9 ho9; have HF := Lib.hid (HERR.out _ _ HRES.out w9 (only_kept HK7.out ho9 hRz)); obtain ⟨⟨r0, r1, r2, r3, r4, r5, r6, r7, r8, r9⟩, rz⟩ := sty_cells hb9; simp only [zeroY] at r0 r1 r2 r3 r4 r5 r6 r7 r8 r9; clear hb9 ho9)
            refine bodyPost_ret (v := .tuple #[styV (.slice none 0 0) zeroY, .int .i64 (0), .int .i64 E]) ?_ rfl HF.out
            simp [results, Tryz.results9, go_sem, r0, r1, r2, r3, r4, r5, r6, r7, r8, r9, rz, styV, styCells, zeroY]
end Go.Proofs.YtafcngdnngpdnaaGreatDoor
