/- publisherref01.Line; publisherref30.persons and fields. Conditions: lengths. -/
import Derived.Test.YtgkgcheegaegnaaGreatDoorT27
import Derived.Test.YtgkgcheegaegnaaGreatDoorT09
import Derived.Test.YtgkgcheegaegnaaGreatDoorT26

set_option linter.all false
namespace Go.Proofs.YtgkgcheegaegnaaGreatDoor
open Go.RowKit

set_option maxRecDepth 100000 in
set_option maxHeartbeats 800000 in
theorem oline_any (l : Bs) (w : World) (hs : l.length ≤ 1000000000) :
    Calls Tryz.prog 81 #[.string (bs l)] w fun e w' => e = .returned (.bool (lineB l)) ∧ Kept w w' := by
  have HV := Lib.hid (fun w => rvalid_any (bs l) w hs)
  have HL : Hid (lineB l = (validB (bs l) && !(l.any (fun b => b == 10)))) := by show _ = _; rw [← contains_any]; rfl
  generalize validB (bs l) = v at *
  go_enter Tryz.func81, Tryz.ntmps81
  go_wp2_with fail
  go_loop [3] (fun i => ∃ k : Nat, k ≤ l.length ∧ i = .int .i64 k ∧ Hid (l.any (fun b => b == 10) = (l.drop k).any (fun b => b == 10))) (fun i => l.length - (intOf i).toNat)
  case atStart => exact ⟨0, Nat.zero_le _, rfl, any_hid _ _⟩
  case round =>
    obtain ⟨k, hk, rfl, HA⟩ := hrel
    by_cases hlt : k < l.length
    · have i0 := run_ix (P := Tryz.prog) (t := 9) Tryz.underlying9 l k hlt k rfl
      have HN := Lib.hid (any_next (fun b => b == 10) l k hlt)
      have HC : Hid (at8 l k = 10 ↔ l[k] = 10) := by show _ ↔ _; rw [at8_get l k hlt]; exact u8_int _ 10 (by decide)
      generalize l[k] = x at *
      generalize at8 l k = b at *
      by_cases hb : b = 10
      · have HX : Hid (x = 10) := HC.out.1 hb
        go_wp2_with fail
        go_ret
        exact ⟨ret_bool (by rw [HL.out, HA.out, HN.out, HX.out]; simp), Kept.refl _⟩
      · have HX : Hid ((x == 10) = false) := by show _ = _; rw [beq_eq_false_iff_ne]; exact fun q => hb (HC.out.2 q)
        have hb' : (b == 10) = false := by simpa using hb
        clear hb
        go_wp2_with fail
        go_round
        case rel => exact ⟨k + 1, by omega, by go_num, by show _ = _; rw [HA.out, HN.out]; simp only [HX.out, Bool.false_or]⟩
        case measure => simp [intOf]; omega
    · have HZ : Hid (l.any (fun b => b == 10) = false) := by show _ = _; rw [HA.out, List.drop_of_length_le (by omega)]; rfl
      go_wp2_with fail
      refine (HV.out _).mono ?_
      rintro e w1 ⟨rfl, hk1⟩
      have HK1 := Lib.hid hk1
      clear hk1
      go_wp2_with fail
      go_ret
      exact ⟨ret_bool (by rw [HL.out, HZ.out]; simp), HK1.out⟩

set_option maxRecDepth 100000 in
set_option maxHeartbeats 1600000 in
theorem rpersons_any (v : Value) (ps : List P4) (w : World) (hv : Perss w v ps) (hs : SmallP ps) (hl : ps.length ≤ 1100000) :
    Calls Tryz.prog 62 #[v] w fun e w' => e = .returned (.int .i64 (persE ps)) ∧ Kept w w' := by
  have HV := Lib.hid hv
  obtain ⟨R, HRR⟩ : ∃ R, Hid (persE ps = R) := ⟨_, rfl⟩
  rw [HRR.out]
  obtain ⟨a, c, rfl, hc, hh⟩ := hv
  clear hh
  go_enter Tryz.func62, Tryz.ntmps62
  go_wp2_with fail
  go_loopw [9] (fun i wr => ∃ k : Nat, k ≤ ps.length ∧ i = .int .i64 k ∧ Hid (R = persE (ps.drop k)) ∧ Hid (Kept w wr)) (fun i _ => ps.length - (intOf i).toNat)
  case atStart => exact ⟨0, Nat.zero_le _, rfl, HRR.out.symm, Kept.refl _⟩
  case round =>
    obtain ⟨k, hk, rfl, HP, HKR⟩ := hrel
    by_cases hlt : k < ps.length
    · obtain ⟨p, hx⟩ : ∃ x, ps[k]? = some x := ⟨_, List.getElem?_eq_getElem hlt⟩
      have HSM := Lib.hid (hs p (List.mem_of_getElem? hx))
      have HAT := Lib.hid (persE_at ps k p hx)
      rw [HAT.out] at HP
      obtain ⟨a', c', hv', hc', h3⟩ := HV.out.kept HKR.out
      obtain ⟨rfl, hdead, rfl⟩ := Value.slice.inj hv'
      clear hdead hc'
      obtain ⟨g, o, rfl, hg', hcc⟩ := h3 (by omega)
      obtain ⟨d0, d1, d2, d3⟩ := hcc k p hx
      obtain ⟨pf, pg, pp, pz⟩ := p
      simp only at d0 d1 d2 d3 HSM HP
      have HT := Lib.hid (fun w => rtext_any pf pg pp pz w (by have := HSM.out; omega))
      clear hcc h3 hv' hx HAT
      generalize textE pf pg pp pz = E at *
      generalize textR pf pg pp pz = X at *
      go_wp2_with fail
      refine (HT.out _).mono ?_
      rintro e w3 ⟨rfl, hk3⟩
      have HK3 := Lib.hid ((HKR.out.trans (kept_alloc _ _)).trans hk3)
      clear hk3 d0 d1 d2 d3 hg'
      by_cases hE : E = 0
      · subst hE
        rw [if_neg (by simp)] at HP
        go_wp2_with fail
        go_roundw
        case rel => exact ⟨k + 1, by omega, by go_num, HP, HK3⟩
        case measure => simp [intOf]; omega
      · rw [if_pos hE] at HP
        go_wp2_with fail
        go_ret
        exact ⟨by rw [HP.out]; rfl, HK3.out⟩
    · obtain rfl : k = ps.length := by omega
      rw [List.drop_length] at HP
      have HZ : Hid (R = 0) := HP.out
      go_wp2_with fail
      go_ret
      exact ⟨by rw [HZ.out]; rfl, HKR.out⟩

theorem field_is (ps : List Pr) (k : Bs) : (fieldL ps k).isSome = hasB ps k := by
  unfold fieldL hasB
  rw [Option.isSome_map, Bool.eq_iff_iff, List.find?_isSome, List.any_eq_true]
theorem hasB_found (fs : List Pr) (x : Bs) (m k : Nat) (q : Pr) (h : fs[m]? = some q) (hm : m < k) (hq : (q.1 == x) = true) : hasB (fs.take k) x = true := by
  unfold hasB
  rw [List.any_eq_true]
  refine ⟨q, ?_, hq⟩
  exact List.mem_of_getElem? (i := m) (by rw [List.getElem?_take, if_pos hm]; exact h)
end Go.Proofs.YtgkgcheegaegnaaGreatDoor

/- fields of publisherref30. Conditions: lengths. -/
set_option linter.all false
namespace Go.Proofs.YtgkgcheegaegnaaGreatDoor
open Go.RowKit

set_option maxRecDepth 100000 in
set_option maxHeartbeats 6400000 in
theorem rfields_any (v : Value) (fs : List Pr) (w : World) (hv : Prs w v fs) (hs : SmallF fs) (hl : fs.length ≤ 1100000) :
    Calls Tryz.prog 63 #[v] w fun e w' => e = .returned (.int .i64 (fldE [] fs)) ∧ Kept w w' := by
  have HV := Lib.hid hv
  obtain ⟨R, HRR⟩ : ∃ R, Hid (fldE [] fs = R) := ⟨_, rfl⟩
  rw [HRR.out]
  obtain ⟨a, c3, rfl, hc, hh⟩ := hv
  clear hh
  go_enter Tryz.func63, Tryz.ntmps63
  go_wp2_with fail
  go_loopw [8] (fun i wr => ∃ k : Nat, k ≤ fs.length ∧ i = .int .i64 k ∧ Hid (R = fldE (fs.take k) (fs.drop k)) ∧ Hid (Kept w wr)) (fun i _ => fs.length - (intOf i).toNat)
  case atStart => exact ⟨0, Nat.zero_le _, rfl, HRR.out.symm, Kept.refl _⟩
  case round =>
    obtain ⟨k, hk, rfl, HP, HKR⟩ := hrel
    by_cases hlt : k < fs.length
    · obtain ⟨p, hx⟩ : ∃ x, fs[k]? = some x := ⟨_, List.getElem?_eq_getElem hlt⟩
      obtain ⟨hsm1, hsm2⟩ := hs p (List.mem_of_getElem? hx)
      have HAT := Lib.hid (fldE_at fs k p hx)
      rw [HAT.out] at HP
      have HPR := Lib.hid (HV.out.kept HKR.out)
      obtain ⟨a', c', hv', hc', h3'⟩ := HPR.out
      obtain ⟨rfl, hdead, rfl⟩ := Value.slice.inj hv'
      clear hdead hc'
      obtain ⟨g, o, rfl, hg', hcc⟩ := h3' (by omega)
      have HCC := Lib.hid hcc
      obtain ⟨d0, d1⟩ := hcc k p hx
      obtain ⟨x, y⟩ := p
      simp only at d0 d1 hsm1 hsm2 HP
      have HN := Lib.hid (fun w => rname_any x w hsm1)
      have HLN := Lib.hid (fun w => oline_any y w (by omega))
      have HT := Lib.hid (fun w => rtrim_any y w hsm2)
      have HBK := Lib.hid (Blk.new wr 47 #[.string (bs x), .string (bs y)])
      have HE1 : Hid (fldE1 (fs.take k) (x, y) = if (nameB x = false ∨ x = [97, 117, 116, 104, 111, 114]) ∨ x = [101, 100, 105, 116, 111, 114] then 6 else if ((y = [] ∨ validB (bs y) = false) ∨ y.contains 10 = true) ∨ trimL y ≠ y then 17 else if hasB (fs.take k) x = true then 7 else 0) := rfl
      have HFO := Lib.hid (fun m q h1 h2 h3 => hasB_found fs x m k q h1 h2 h3)
      have HHT := Lib.hid (fun m q h => hasB_take fs x m q h)
      have HLB : Hid (lineB y = (validB (bs y) && !(y.contains 10))) := rfl
      obtain ⟨E, HE⟩ : ∃ E, Hid (fldE1 (fs.take k) (x, y) = E) := ⟨_, rfl⟩
      rw [HE.out] at HP HE1
      generalize nameB x = nb at *
      generalize trimL y = ty at *
      generalize validB (bs y) = vb at *
      generalize y.contains 10 = cb at *
      generalize lineB y = lb at *
      clear hcc h3' hv' hx HAT HE
      go_wp2_with fail
      refine (HN.out _).mono ?_
      rintro e w7 ⟨rfl, hk7⟩
      have hgr : g < wr.heap.size := hg'
      have HB7 := Lib.hid (HBK.out.kept hk7)
      have HX7 := Lib.hid ((kept_alloc wr _).trans hk7)
      have HK7 := Lib.hid (HKR.out.trans HX7.out)
      generalize hBB : wr.heap.size = B at *
      have HBB := Lib.hid hBB
      clear hBB
      have e0 : w7.cell? ⟨B, 0, none⟩ = some (.string (bs x)) := HB7.out.cell 0 _ rfl
      have z7 := HB7.out.lt
      clear hk7 d0 d1 hg'
      cases nb
      · rw [if_pos (.inl (.inl rfl))] at HE1
        obtain rfl : E = 6 := HE1.out
        rw [if_pos (by decide)] at HP
        go_wp2_with fail
        go_ret
        exact ⟨by rw [HP.out]; rfl, HK7.out⟩
      by_cases hxa : x = [97, 117, 116, 104, 111, 114]
      · rw [if_pos (.inl (.inr hxa))] at HE1
        obtain rfl : E = 6 := HE1.out
        rw [if_pos (by decide)] at HP
        subst hxa
        go_wp2_with fail
        go_ret
        exact ⟨by rw [HP.out]; rfl, HK7.out⟩
      by_cases hxe : x = [101, 100, 105, 116, 111, 114]
      · rw [if_pos (.inr hxe)] at HE1
        obtain rfl : E = 6 := HE1.out
        rw [if_pos (by decide)] at HP
        subst hxe
        go_wp2_with fail
        go_ret
        exact ⟨by rw [HP.out]; rfl, HK7.out⟩
      rw [if_neg (by simp [hxa, hxe])] at HE1
      have hxa' : (x == [97, 117, 116, 104, 111, 114]) = false := by simpa using hxa
      have hxe' : (x == [101, 100, 105, 116, 111, 114]) = false := by simpa using hxe
      clear hxa hxe
      have HC : Hid (∀ w', Kept w7 w' → w'.cell? ⟨B, 1, none⟩ = some (.string (bs y)) ∧ B < w'.heap.size ∧ Kept w7 w') := fun w' h => ⟨(HB7.out.kept h).cell 1 _ rfl, (HB7.out.kept h).lt, h⟩
      have hKd : Kept w7 w7.drew := kept_drewN w7 1
      by_cases hy : y = []
      · rw [if_pos (.inl (.inl (.inl hy)))] at HE1
        obtain rfl : E = 17 := HE1.out
        rw [if_pos (by decide)] at HP
        subst hy
        have e1 : w7.cell? ⟨B, 1, none⟩ = some (.string (bs [])) := HB7.out.cell 1 _ rfl
        go_wp2_with fail
        go_quiet (fail)
        go_wp2_with fail
        go_ret
        exact ⟨by rw [HP.out]; rfl, HK7.out.trans (kept_drewN _ _)⟩
      have hy' : (y == []) = false := by simpa using hy
      cases hlb : lb
      · have hbad : (y = [] ∨ vb = false) ∨ cb = true := by
          have h := HLB.out
          rw [hlb] at h
          cases vb
          · exact .inl (.inr rfl)
          · cases cb
            · cases h
            · exact .inr rfl
        rw [if_pos (.inl hbad)] at HE1
        obtain rfl : E = 17 := HE1.out
        rw [if_pos (by decide)] at HP
        subst hlb
        clear hy HLB hbad
        have e1 : w7.cell? ⟨B, 1, none⟩ = some (.string (bs y)) := HB7.out.cell 1 _ rfl
        go_wp2_with fail
        first | (go_region_with (go_at_call 81; refine (HLN.out _).mono ?_; rintro e w8 ⟨rfl, hk8⟩; have k8 := Kept.trans hKd hk8; clear hk8)) | fail
        all_goals
          go_wp2_with fail
          go_ret
          exact ⟨by rw [HP.out]; rfl, HK7.out.trans k8⟩
      subst hlb
      have hvb : vb = true ∧ cb = false := by
        have h := HLB.out
        cases vb <;> cases cb <;> simp at h ⊢
      obtain ⟨rfl, rfl⟩ := hvb
      by_cases hty : ty = y
      case neg =>
        rw [if_pos (.inr hty)] at HE1
        obtain rfl : E = 17 := HE1.out
        rw [if_pos (by decide)] at HP
        have hty' : (ty == y) = false := by simpa using hty
        have hty2 : (ty != y) = true := by simpa using hty
        clear hty hy HLB
        go_wp2_with fail
        go_region_held3 (fun w' => w'.cell? ⟨B, 1, none⟩ = some (.string (bs y)) ∧ B < w'.heap.size ∧ Kept w7 w')
          ((refine HC.out _ ?_; first | assumption | exact Kept.refl _))
          (first | (go_at_call 81; refine (HLN.out _).mono ?_; rintro e w8 ⟨rfl, hk8⟩; have k8 := Kept.trans hKd hk8; clear hk8) | (go_at_call 17; refine (HT.out _).mono ?_; rintro e w9 ⟨rfl, rfl⟩))
        all_goals
          go_wp2_with fail
          go_ret
          exact ⟨by rw [HP.out]; rfl, HK7.out.trans k8⟩
      subst hty
      rw [if_neg (by simp [hy])] at HE1
      clear hy HLB
      go_wp2_with fail
      go_region_held3 (fun w' => w'.cell? ⟨B, 1, none⟩ = some (.string (bs ty)) ∧ B < w'.heap.size ∧ Kept w7 w')
        ((refine HC.out _ ?_; first | assumption | exact Kept.refl _))
        (first | (go_at_call 81; refine (HLN.out _).mono ?_; rintro e w8 ⟨rfl, hk8⟩; have k8 := Kept.trans hKd hk8; clear hk8) | (go_at_call 17; refine (HT.out _).mono ?_; rintro e w9 ⟨rfl, rfl⟩))
      all_goals
        have HX8 := Lib.hid (HX7.out.trans k8)
        have HK8 := Lib.hid (HK7.out.trans k8)
        have HB8 := Lib.hid (HB7.out.kept k8)
        clear e0 z7 HC hKd k8 HT HLN HN
        go_wp2_with fail
        generalize wr = wo at *
        go_loopw [5] (fun j w2 => ∃ m : Nat, m ≤ k ∧ j = .int .i64 m ∧ Hid (hasB (fs.take m) x = false) ∧ Hid (Kept w8 w2)) (fun j _ => k - (intOf j).toNat)
        case atStart => exact ⟨0, Nat.zero_le _, rfl, rfl, Kept.refl _⟩
        case round =>
          obtain ⟨m, hm, rfl, HA, HKM⟩ := hrel
          by_cases hmk : m < k
          · obtain ⟨q, hq⟩ : ∃ q, fs[m]? = some q := ⟨_, List.getElem?_eq_getElem (by omega)⟩
            obtain ⟨q0, q1⟩ := HCC.out m q hq
            have f0 := ((HX8.out.trans HKM.out).cell (p := ⟨g, _, none⟩) (by have := HBB.out; simp only; omega)).trans q0
            have e0 : wr.cell? ⟨B, 0, none⟩ = some (.string (bs x)) := (HB8.out.kept HKM.out).cell 0 _ rfl
            have HHM := Lib.hid (HHT.out m q hq)
            have HFF := Lib.hid (HFO.out m q hq hmk)
            have i1 : (0 : Int) ≤ (m : Int) := by omega
            have i2 : (m : Int) < (fs.length : Int) := by omega
            have zg : g < wr.heap.size := by have := HBB.out; have := (HX8.out.trans HKM.out).size; omega
            have zB : B < wr.heap.size := (HB8.out.kept HKM.out).lt
            clear q0 q1 hq
            obtain ⟨qa, qb⟩ := q
            simp only at f0 HHM HFF
            cases hqx : (qa == x)
            · have HM1 : Hid (hasB (fs.take (m + 1)) x = false) := by
                show _ = _
                rw [HHM.out, HA.out, hqx]; rfl
              go_wp2_with fail
              go_quiet (fail)
              go_wp2_with fail
              go_roundw
              case rel => exact ⟨m + 1, by omega, by go_num, HM1, HKM.out.trans (kept_drewN _ _)⟩
              case measure => simp [intOf]; omega
            · rw [if_pos (HFF.out hqx)] at HE1
              obtain rfl : E = 7 := HE1.out
              rw [if_pos (by decide)] at HP
              go_wp2_with fail
              go_quiet (fail)
              go_wp2_with fail
              go_ret
              exact ⟨by rw [HP.out]; rfl, (HK8.out.trans HKM.out).trans (kept_drewN _ _)⟩
          · obtain rfl : m = k := by omega
            rw [if_neg (by rw [HA.out]; simp)] at HE1
            obtain rfl : E = 0 := HE1.out
            rw [if_neg (by simp)] at HP
            go_wp2_with fail
            go_roundw
            case rel => exact ⟨m + 1, by omega, by go_num, HP, HK8.out.trans HKM.out⟩
            case measure => simp [intOf]; omega
    · obtain rfl : k = fs.length := by omega
      rw [List.drop_length] at HP
      have HZ : Hid (R = 0) := HP.out
      go_wp2_with fail
      go_ret
      exact ⟨by rw [HZ.out]; rfl, HKR.out⟩
end Go.Proofs.YtgkgcheegaegnaaGreatDoor
