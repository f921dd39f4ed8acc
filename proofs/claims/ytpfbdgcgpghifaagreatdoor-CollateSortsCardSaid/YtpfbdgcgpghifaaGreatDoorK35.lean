/- Initial of publisherref25. Conditions: lengths. -/
import Derived.Test.YtpfbdgcgpghifaaGreatDoorK34
import Derived.Test.YtpfbdgcgpghifaaGreatDoorK28
import Derived.Test.YtpfbdgcgpghifaaGreatDoorK18

set_option linter.all false
namespace Go.Proofs.YtpfbdgcgpghifaaGreatDoor
open Go.RowKit

/-- What is left of the search for the letter that stands for a group. -/
def gnAt (c : ColT) (x : Int) (k : Nat) : Bs := match (c.order.drop k).findIdx? fun s => (ptsL s).contains x with
  | some i => encL ((ptsL (c.order.getD (k + i) [])).headD 0)
  | none => encL x
theorem gnAt_zero (c : ColT) (x : Int) : iniC.iniG c x = gnAt c x 0 := by
  unfold iniC.iniG gnAt grpI
  rw [List.drop_zero]
  cases c.order.findIdx? fun s => (ptsL s).contains x <;> simp
theorem gnAt_hit (c : ColT) (x : Int) (k : Nat) (s : Bs) (h : c.order[k]? = some s) (hc : (ptsL s).contains x = true) : gnAt c x k = encL ((ptsL s).headD 0) := by
  unfold gnAt
  rw [rkAt_drop h, List.findIdx?_cons, if_pos hc]
  simp only [Nat.add_zero]
  rw [List.getD_eq_getElem?_getD, h]; rfl
theorem gnAt_miss (c : ColT) (x : Int) (k : Nat) (s : Bs) (h : c.order[k]? = some s) (hc : (ptsL s).contains x = false) : gnAt c x k = gnAt c x (k + 1) := by
  unfold gnAt
  rw [rkAt_drop h, List.findIdx?_cons, if_neg (by rw [hc]; simp)]
  cases (c.order.drop (k + 1)).findIdx? fun s => (ptsL s).contains x with
  | none => rfl
  | some i => simp only [Option.map_some]; rw [show k + (i + 1) = k + 1 + i from by omega]
theorem gnAt_end (c : ColT) (x : Int) (k : Nat) (h : ¬ k < c.order.length) : gnAt c x k = encL x := by
  unfold gnAt
  rw [List.drop_of_length_le (by omega)]; rfl
/-- The second half of Initial: what its last loop answers, from a world on. -/
theorem iniC_drop {c : ColT} {A : List Int} {k : Nat} {x : Int} (h : A[k]? = some x) : iniC c (A.drop k) = if (ptsL c.ignore).contains x = true then iniC c (A.drop (k + 1)) else match valI c x with
    | some [] => []
    | some (y :: _) => iniC.iniG c y
    | none => iniC.iniG c x := by
  obtain ⟨hk, rfl⟩ := List.getElem?_eq_some_iff.1 h
  rw [List.drop_eq_getElem_cons hk, iniC]; rfl
theorem iniC_drop_end {c : ColT} {A : List Int} {k : Nat} (h : ¬ k < A.length) : iniC c (A.drop k) = [] := by
  rw [List.drop_of_length_le (by omega)]; rfl
set_option maxRecDepth 100000 in
set_option maxHeartbeats 6400000 in
theorem rinitial_any (vR vO : Value) (c : ColT) (s : Bs) (w : World) (hv : Col w vR vO c) (hs : SmallC c) (hl : s.length ≤ 1000) :
    Calls Tryz.prog 20 #[colV vR vO c.ignore, .string (bs s)] w fun e w' => e = .returned (.string (bs (iniC c (ptsL s)))) ∧ Kept w w' := by
  have HV := Lib.hid hv
  have HSM := Lib.hid hs
  have s3 := hs.2.2.1
  have HS4 : Hid (∀ o ∈ c.order, o.length ≤ 1000) := hs.2.2.2.1
  have hn := hs.2.1
  have HLS := Lib.hid (fun w => rletters_any s w (by omega))
  have HLI := Lib.hid (fun w => rletters_any c.ignore w (by omega))
  have hpl := ptsL_len s
  have HPR := Lib.hid (pts_range s)
  have hpi := ptsL_len c.ignore
  have HO := Lib.hid hv.2
  obtain ⟨aR, cR, rfl, lR⟩ := hv.1.form
  obtain ⟨aO, cO, rfl, lO⟩ := hv.2.form
  clear hv hs
  generalize ptsL s = A at *
  have HDR := Lib.hid (fun k x (h : A[k]? = some x) => iniC_drop (c := c) h)
  have HDE := Lib.hid (fun k (h : ¬ k < A.length) => iniC_drop_end (c := c) h)
  generalize ptsL c.ignore = G at *
  have H0 : Hid (iniC c A = iniC c (A.drop 0)) := rfl
  obtain ⟨R, HR⟩ : ∃ R, Hid (iniC c A = R) := ⟨_, rfl⟩
  rw [HR.out] at H0 ⊢
  have HB1 := Lib.hid (Blk.new w 25 #[.slice aR c.ranks.length cR, .slice aO c.order.length cO, .string (bs c.ignore)])
  have HK := Lib.hid (kept_alloc w (.cells #[.slice aR c.ranks.length cR, .slice aO c.order.length cO, .string (bs c.ignore)] 25))
  go_enter Tryz.func20, Tryz.ntmps20
  go_wp2_with fail
  generalize w.alloc (.cells #[.slice aR c.ranks.length cR, .slice aO c.order.length cO, .string (bs c.ignore)] 25) = w0 at *
  generalize w.heap.size = B at *
  have HCC : Hid (∀ w', Kept w0 w' → w'.cell? ⟨B, 2, none⟩ = some (.string (bs c.ignore)) ∧ B < w'.heap.size ∧ Kept w0 w') := fun w' h =>
    ⟨(HB1.out.kept h).cell 2 _ rfl, (HB1.out.kept h).lt, h⟩
  obtain ⟨t2, z0, -⟩ := HCC.out w0 (Kept.refl _)
  have hkd : Kept w0 w0.drew := kept_drewN w0 1
  go_region_held3 (fun w' => w'.cell? ⟨B, 2, none⟩ = some (.string (bs c.ignore)) ∧ B < w'.heap.size ∧ Kept w0 w')
    ((refine HCC.out _ ?_; assumption))
    (first
      | (go_at_call_of 51 (Value.string (bs c.ignore)); refine (HLI.out _).mono ?_; rintro e w4 ⟨v6, rfl, hi6, hk4⟩; have k4 := k3.trans hk4; have HI5 := Lib.hid (HI3.out.kept hk4); have HI6 := Lib.hid hi6; obtain ⟨a6, c6, rfl, l6⟩ := hi6.form; clear hk4 hi6)
      | (go_at_call_of 51 (Value.string (bs s)); refine (HLS.out _).mono ?_; rintro e w3 ⟨v5, rfl, hi5, hk3⟩; have k3 : Kept w0 w3 := hkd.trans hk3; have HI3 := Lib.hid hi5; obtain ⟨a5, c5, rfl, l5⟩ := hi5.form; clear hk3 hi5))
  all_goals
    clear HCC t2 z0 hkd k3 HI3 HLS HLI
    go_wp2_with fail
    have HK4 := Lib.hid k4
    clear k4
    go_loopw [7] (fun i wr => ∃ k : Nat, k ≤ A.length ∧ i = .int .i64 k ∧ Hid (R = iniC c (A.drop k)) ∧ Hid (Kept w0 wr) ∧ Hid (Kept w4 wr)) (fun i _ => A.length - (intOf i).toNat)
    case atStart => exact ⟨0, Nat.zero_le _, rfl, H0.out, HK4.out, Kept.refl _⟩
    case round =>
      obtain ⟨k, hk, rfl, HA, HKR, HKS⟩ := hrel
      by_cases hlt : k < A.length
      · obtain ⟨x, hx⟩ : ∃ z, A[k]? = some z := ⟨_, List.getElem?_eq_getElem hlt⟩
        obtain ⟨g, o, rfl, hg, d0⟩ := (HI5.out.kept HKS.out).cell_of k x hx
        have HXR := Lib.hid (HPR.out x (List.mem_of_getElem? hx))
        have HST : Hid (R = _) := HA.out.trans (HDR.out k x hx)
        have hke : ((k : Int) == A.length) = false := by rw [beq_eq_false_iff_ne]; omega
        clear hx
        go_wp2_with fail
        refine (rin_any _ G x _ (HI6.out.kept HKS.out) (by omega)).mono ?_
        rintro e w5 ⟨rfl, rfl⟩
        cases hc : G.contains x with
        | true =>
          rw [hc, if_pos rfl] at HST
          clear hc
          go_wp2_with fail
          go_roundw
          case rel => exact ⟨k + 1, by omega, by go_num, HST.out, HKR.out, HKS.out⟩
          case measure => simp [intOf]; omega
        | false =>
          rw [hc, if_neg (by simp)] at HST
          have b0 : wr.cell? ⟨B, 0, none⟩ = some (.slice aR c.ranks.length cR) := (HB1.out.kept HKR.out).cell 0 _ rfl
          have b1 : wr.cell? ⟨B, 1, none⟩ = some (.slice aO c.order.length cO) := (HB1.out.kept HKR.out).cell 1 _ rfl
          have b2 : wr.cell? ⟨B, 2, none⟩ = some (.string (bs c.ignore)) := (HB1.out.kept HKR.out).cell 2 _ rfl
          have z1 := (HB1.out.kept HKR.out).lt
          have YR := HXR
          obtain ⟨hx0, hx1⟩ : 0 ≤ x ∧ x ≤ 1114111 := by have := HXR.out; exact ⟨this.1, this.2.1⟩
          have HVA := Lib.hid (rvalue_any (.slice aR c.ranks.length cR) (.slice aO c.order.length cO) c x wr ((HV.out.kept HK.out).kept HKR.out) HSM.out hx0 hx1)
          clear hc
          cases hval : valI c x with
          | none =>
            rw [hval] at HVA HST
            have HG0 : Hid (R = gnAt c x 0) := by
              show _ = _
              rw [← gnAt_zero]; exact HST.out
            clear HST hval HA
            go_wp2_with fail
            refine HVA.out.mono ?_
            rintro e w6 ⟨v6, rfl, hi6, -, hk6⟩
            have HK9 := Lib.hid (HKR.out.trans hk6)
            obtain ⟨a6', c6', rfl, -⟩ := hi6.form
            (try simp only [Option.isSome_none, Option.getD_none, List.length_nil])
            clear hi6 hk6 b0 b1 b2 z1 d0 hg
            go_wp2_with fail
            (try clear b0 b1 b2 z1)
            go_loopw [11] (fun i wr => ∃ k : Nat, k ≤ c.order.length ∧ i = .int .i64 k ∧ Hid (R = gnAt c x k) ∧ Hid (Kept w0 wr)) (fun i _ => c.order.length - (intOf i).toNat)
            case atStart => exact ⟨0, Nat.zero_le _, rfl, HG0.out, HK9.out⟩
            case round =>
              obtain ⟨j, hj, rfl, HA2, HKR2⟩ := hrel
              have b1 : wr.cell? ⟨B, 1, none⟩ = some (.slice aO c.order.length cO) := (HB1.out.kept HKR2.out).cell 1 _ rfl
              have z1 := (HB1.out.kept HKR2.out).lt
              by_cases hlt2 : j < c.order.length
              · obtain ⟨s2, hx2⟩ : ∃ x, c.order[j]? = some x := ⟨_, List.getElem?_eq_getElem hlt2⟩
                obtain ⟨g2, o2, rfl, hg2, d2, -, -⟩ := (HO.out.kept (HK.out.trans HKR2.out)).cell_of j s2 hx2
                have hsl2 := HS4.out s2 (List.mem_of_getElem? hx2)
                have HLT2 := Lib.hid (fun w => rletters_any s2 w (by omega))
                have hpl2 := ptsL_len s2
                have H1 := Lib.hid (gnAt_hit c x j s2 hx2)
                have H2 := Lib.hid (gnAt_miss c x j s2 hx2)
                have HPR2 := Lib.hid (pts_range s2)
                clear hx2
                generalize ptsL s2 = L at *
                go_wp2_with fail
                refine (HLT2.out _).mono ?_
                rintro e w7 ⟨v7, rfl, hi7, hk7⟩
                have HI7 := Lib.hid hi7
                obtain ⟨a7, c7, rfl, -⟩ := hi7.form
                have HK7 := Lib.hid (HKR2.out.trans hk7)
                clear hi7 hk7 b1 z1 d2 hg2
                go_wp2_with fail
                refine (rin_any _ L x _ HI7.out (by omega)).mono ?_
                rintro e w8 ⟨rfl, rfl⟩
                cases hbb : L.contains x with
                | true =>
                  obtain ⟨z, r, rfl⟩ : ∃ z r, L = z :: r := by
                    cases L with
                    | nil => simp at hbb
                    | cons z r => exact ⟨z, r, rfl⟩
                  have HE : Hid (R = encL z) := HA2.out.trans (H1.out hbb)
                  obtain ⟨g8, o8, rfl, hg8, d8⟩ := HI7.out.cell_of 0 z rfl
                  rw [Nat.add_zero] at d8
                  obtain ⟨p0, p1, p2⟩ := HPR2.out z (by simp)
                  have HAP := Lib.hid (fun w => rappend_any [] z w (by simp) p0 p1 p2)
                  have hne : 0 < r.length + 1 := by omega
                  (try simp only [List.length_cons])
                  clear hbb
                  go_wp2_with fail
                  refine (HAP.out _).mono ?_
                  rintro e w9 ⟨rfl, hk9⟩
                  have HK9b := Lib.hid (HK7.out.trans hk9)
                  clear hk9
                  go_wp2_with fail
                  go_ret
                  exact ⟨by rw [HE.out]; rfl, HK.out.trans HK9b.out⟩
                | false =>
                  have HE : Hid (R = gnAt c x (j + 1)) := HA2.out.trans (H2.out hbb)
                  clear hbb
                  go_wp2_with fail
                  go_roundw
                  case rel => exact ⟨j + 1, by omega, by go_num, HE.out, HK7.out⟩
                  case measure => simp [intOf]; omega
              · have HE : Hid (R = encL x) := HA2.out.trans (gnAt_end c x j hlt2)
                have HAP := Lib.hid (fun w => rappend_any [] x w (by simp) YR.out.1 YR.out.2.1 YR.out.2.2)
                go_wp2_with fail
                refine (HAP.out _).mono ?_
                rintro e w9 ⟨rfl, hk9⟩
                have HK9b := Lib.hid (HKR2.out.trans hk9)
                clear hk9
                go_wp2_with fail
                go_ret
                exact ⟨by rw [HE.out]; rfl, HK.out.trans HK9b.out⟩
          | some ys =>
            rw [hval] at HVA HST
            have HYR := Lib.hid (val_range hval)
            cases ys with
            | nil =>
              have HG0 : Hid (R = []) := HST.out
              clear HST hval HA HYR
              go_wp2_with fail
              refine HVA.out.mono ?_
              rintro e w6 ⟨v6, rfl, hi6, -, hk6⟩
              have HK9 := Lib.hid (HKR.out.trans hk6)
              obtain ⟨a6', c6', rfl, -⟩ := hi6.form
              (try simp only [Option.isSome_some, Option.getD_some])
              clear hi6 hk6 b0 b1 b2 z1 d0 hg
              go_wp2_with fail
              go_ret
              exact ⟨by rw [HG0.out]; rfl, HK.out.trans HK9.out⟩
            | cons y rest =>
              have HG0 : Hid (R = gnAt c y 0) := by
                show _ = _
                rw [← gnAt_zero]; exact HST.out
              have YR := Lib.hid (HYR.out y (by simp))
              clear HST hval HA HYR
              go_wp2_with fail
              refine HVA.out.mono ?_
              rintro e w6 ⟨v6, rfl, hi6, -, hk6⟩
              have HK9 := Lib.hid (HKR.out.trans hk6)
              have HI9 := Lib.hid hi6
              obtain ⟨a6', c6', rfl, l9⟩ := hi6.form
              (try simp only [Option.isSome_some, Option.getD_some] at HI9 l9 ⊢)
              obtain ⟨g9, o9, rfl, hg9, d9⟩ := HI9.out.cell_of 0 y rfl
              rw [Nat.add_zero] at d9
              have hne : ((rest.length : Int) + 1 == 0) = false := by rw [beq_eq_false_iff_ne]; omega
              have hne2 : 0 < rest.length + 1 := by omega
              (try simp only [List.length_cons] at l9 ⊢)
              clear hi6 hk6 b0 b1 b2 z1 d0 hg
              go_wp2_with fail
              (try clear b0 b1 b2 z1)
              go_loopw [11] (fun i wr => ∃ k : Nat, k ≤ c.order.length ∧ i = .int .i64 k ∧ Hid (R = gnAt c y k) ∧ Hid (Kept w0 wr)) (fun i _ => c.order.length - (intOf i).toNat)
              case atStart => exact ⟨0, Nat.zero_le _, rfl, HG0.out, HK9.out⟩
              case round =>
                obtain ⟨j, hj, rfl, HA2, HKR2⟩ := hrel
                have b1 : wr.cell? ⟨B, 1, none⟩ = some (.slice aO c.order.length cO) := (HB1.out.kept HKR2.out).cell 1 _ rfl
                have z1 := (HB1.out.kept HKR2.out).lt
                by_cases hlt2 : j < c.order.length
                · obtain ⟨s2, hx2⟩ : ∃ x, c.order[j]? = some x := ⟨_, List.getElem?_eq_getElem hlt2⟩
                  obtain ⟨g2, o2, rfl, hg2, d2, -, -⟩ := (HO.out.kept (HK.out.trans HKR2.out)).cell_of j s2 hx2
                  have hsl2 := HS4.out s2 (List.mem_of_getElem? hx2)
                  have HLT2 := Lib.hid (fun w => rletters_any s2 w (by omega))
                  have hpl2 := ptsL_len s2
                  have H1 := Lib.hid (gnAt_hit c y j s2 hx2)
                  have H2 := Lib.hid (gnAt_miss c y j s2 hx2)
                  have HPR2 := Lib.hid (pts_range s2)
                  clear hx2
                  generalize ptsL s2 = L at *
                  go_wp2_with fail
                  refine (HLT2.out _).mono ?_
                  rintro e w7 ⟨v7, rfl, hi7, hk7⟩
                  have HI7 := Lib.hid hi7
                  obtain ⟨a7, c7, rfl, -⟩ := hi7.form
                  have HK7 := Lib.hid (HKR2.out.trans hk7)
                  clear hi7 hk7 b1 z1 d2 hg2
                  go_wp2_with fail
                  refine (rin_any _ L y _ HI7.out (by omega)).mono ?_
                  rintro e w8 ⟨rfl, rfl⟩
                  cases hbb : L.contains y with
                  | true =>
                    obtain ⟨z, r, rfl⟩ : ∃ z r, L = z :: r := by
                      cases L with
                      | nil => simp at hbb
                      | cons z r => exact ⟨z, r, rfl⟩
                    have HE : Hid (R = encL z) := HA2.out.trans (H1.out hbb)
                    obtain ⟨g8, o8, rfl, hg8, d8⟩ := HI7.out.cell_of 0 z rfl
                    rw [Nat.add_zero] at d8
                    obtain ⟨p0, p1, p2⟩ := HPR2.out z (by simp)
                    have HAP := Lib.hid (fun w => rappend_any [] z w (by simp) p0 p1 p2)
                    have hne : 0 < r.length + 1 := by omega
                    (try simp only [List.length_cons])
                    clear hbb
                    go_wp2_with fail
                    refine (HAP.out _).mono ?_
                    rintro e w9 ⟨rfl, hk9⟩
                    have HK9b := Lib.hid (HK7.out.trans hk9)
                    clear hk9
                    go_wp2_with fail
                    go_ret
                    exact ⟨by rw [HE.out]; rfl, HK.out.trans HK9b.out⟩
                  | false =>
                    have HE : Hid (R = gnAt c y (j + 1)) := HA2.out.trans (H2.out hbb)
                    clear hbb
                    go_wp2_with fail
                    go_roundw
                    case rel => exact ⟨j + 1, by omega, by go_num, HE.out, HK7.out⟩
                    case measure => simp [intOf]; omega
                · have HE : Hid (R = encL y) := HA2.out.trans (gnAt_end c y j hlt2)
                  have HAP := Lib.hid (fun w => rappend_any [] y w (by simp) YR.out.1 YR.out.2.1 YR.out.2.2)
                  go_wp2_with fail
                  refine (HAP.out _).mono ?_
                  rintro e w9 ⟨rfl, hk9⟩
                  have HK9b := Lib.hid (HKR2.out.trans hk9)
                  clear hk9
                  go_wp2_with fail
                  go_ret
                  exact ⟨by rw [HE.out]; rfl, HK.out.trans HK9b.out⟩
      · have HE : Hid (R = []) := HA.out.trans (HDE.out k hlt)
        obtain rfl : k = A.length := by omega
        go_wp2_with fail
        go_ret
        exact ⟨by rw [HE.out]; rfl, HK.out.trans HKR.out⟩
end Go.Proofs.YtpfbdgcgpghifaaGreatDoor

/- light of law25: where it answers true, the collation is small. Conditions: lengths that a machine can tell. -/
set_option linter.all false
namespace Go.Proofs.YtpfbdgcgpghifaaGreatDoor
open Go.RowKit

/-- The answer of light. -/
def LightP (c : ColT) (e : Ending) : Prop := ∃ b : Bool, e = .returned (.bool b) ∧ (b = true → SmallC c)
theorem LightP.no (c : ColT) : LightP c (.returned (.bool false)) := ⟨false, rfl, fun h => by cases h⟩
set_option maxRecDepth 100000 in
set_option maxHeartbeats 3200000 in
theorem light_any (vR vO : Value) (c : ColT) (w : World) (hv : Col w vR vO c) (hf : FitC c) :
    Calls Tryz.prog 12 #[colV vR vO c.ignore] w fun e w' => LightP c e ∧ Kept w w' := by
  obtain ⟨f1, f2, f3, f4, f5⟩ := hf
  have HF4 := Lib.hid f4
  have HF5 := Lib.hid f5
  clear f4 f5
  obtain ⟨hR, hO⟩ := hv
  have HR := Lib.hid hR
  have HO := Lib.hid hO
  obtain ⟨aR, cR, rfl, lR⟩ := hR.form
  obtain ⟨aO, cO, rfl, lO⟩ := hO.form
  clear hR hO
  have HB1 := Lib.hid (Blk.new w 25 #[.slice aR c.ranks.length cR, .slice aO c.order.length cO, .string (bs c.ignore)])
  have HK := Lib.hid (kept_alloc w (.cells #[.slice aR c.ranks.length cR, .slice aO c.order.length cO, .string (bs c.ignore)] 25))
  by_cases q1 : 140 < c.order.length
  · go_enter Tryz.func12, Tryz.ntmps12
    go_wp2_with fail
    go_ret
    exact ⟨.no c, HK.out⟩
  by_cases q2 : 140 < c.ranks.length
  · go_enter Tryz.func12, Tryz.ntmps12
    go_wp2_with fail
    go_ret
    exact ⟨.no c, HK.out⟩
  by_cases q3 : 300 < c.ignore.length
  · go_enter Tryz.func12, Tryz.ntmps12
    go_wp2_with fail
    go_ret
    exact ⟨.no c, HK.out⟩
  go_enter Tryz.func12, Tryz.ntmps12
  go_wp2_with fail
  generalize w.alloc (.cells #[.slice aR c.ranks.length cR, .slice aO c.order.length cO, .string (bs c.ignore)] 25) = w0 at *
  generalize w.heap.size = B at *
  go_loopw [3, 4] (fun n i wr => ∃ (k : Nat) (m : Int), k ≤ c.order.length ∧ i = .int .i64 k ∧ n = .int .i64 m ∧ 0 ≤ m ∧ m ≤ 300 + 300 * k ∧ Hid (∀ s ∈ c.order.take k, s.length ≤ 300) ∧ Hid (Kept w0 wr)) (fun _ i _ => c.order.length - (intOf i).toNat)
  case atStart => exact ⟨0, _, Nat.zero_le _, rfl, rfl, by omega, by omega, by show ∀ s ∈ _, _; simp, Kept.refl _⟩
  case round =>
    obtain ⟨k, m, hk, rfl, rfl, hm0, hm1, HT, HKR⟩ := hrel
    have b1 : wr.cell? ⟨B, 1, none⟩ = some (.slice aO c.order.length cO) := (HB1.out.kept HKR.out).cell 1 _ rfl
    have z1 := (HB1.out.kept HKR.out).lt
    by_cases hlt : k < c.order.length
    · obtain ⟨s, hx⟩ : ∃ x, c.order[k]? = some x := ⟨_, List.getElem?_eq_getElem hlt⟩
      obtain ⟨g, o, rfl, hg, d0, -, -⟩ := (HO.out.kept (HK.out.trans HKR.out)).cell_of k s hx
      have hsf := HF4.out s (List.mem_of_getElem? hx)
      by_cases hs : 300 < s.length
      · clear hx
        go_wp2_with fail
        go_ret
        exact ⟨.no c, HK.out.trans HKR.out⟩
      · have HT2 : Hid (∀ s ∈ c.order.take (k + 1), s.length ≤ 300) := by
          show ∀ s ∈ _, _
          intro t ht
          rw [List.take_succ, hx] at ht
          simp at ht
          rcases ht with h | rfl
          · exact HT.out t h
          · omega
        clear hx
        go_wp2_with fail
        go_roundw
        case rel => exact ⟨k + 1, m + s.length, by omega, by go_num, by go_num, by omega, by omega, HT2, HKR.out⟩
        case measure => simp [intOf]; omega
    · have HT2 : Hid (∀ s ∈ c.order, s.length ≤ 300) := by
        show ∀ s ∈ _, _
        intro t ht
        refine HT.out t ?_
        rw [List.take_of_length_le (by omega)]; exact ht
      go_wp2_with fail
      clear b1 z1 HT hlt
      have hm2 : m ≤ 42300 := by omega
      clear hm1 hk
      go_loopw [3, 5] (fun n i wr2 => ∃ (k : Nat) (m : Int), k ≤ c.ranks.length ∧ i = .int .i64 k ∧ n = .int .i64 m ∧ 0 ≤ m ∧ m ≤ 42300 + 600 * k ∧ Hid (∀ p ∈ c.ranks.take k, p.1.length ≤ 300 ∧ p.2.length ≤ 300) ∧ Hid (Kept w0 wr2)) (fun _ i _ => c.ranks.length - (intOf i).toNat)
      case atStart => exact ⟨0, _, Nat.zero_le _, rfl, rfl, by omega, by omega, by show ∀ s ∈ _, _; simp, HKR.out⟩
      case round =>
        clear HKR hm0 hm2
        obtain ⟨j, m2, hj, rfl, rfl, hm0, hm1, HT, HKR⟩ := hrel
        have b1 : wr.cell? ⟨B, 0, none⟩ = some (.slice aR c.ranks.length cR) := (HB1.out.kept HKR.out).cell 0 _ rfl
        have z1 := (HB1.out.kept HKR.out).lt
        by_cases hlt2 : j < c.ranks.length
        · obtain ⟨p, hx⟩ : ∃ x, c.ranks[j]? = some x := ⟨_, List.getElem?_eq_getElem hlt2⟩
          obtain ⟨g, o, rfl, hg, d0, d1, -, -⟩ := (HR.out.kept (HK.out.trans HKR.out)).cell_of j p hx
          obtain ⟨hp1, hp2⟩ := HF5.out p (List.mem_of_getElem? hx)
          by_cases h1 : 300 < p.1.length
          · clear hx
            go_wp2_with fail
            go_ret
            exact ⟨.no c, HK.out.trans HKR.out⟩
          by_cases h2 : 300 < p.2.length
          · clear hx
            go_wp2_with fail
            go_ret
            exact ⟨.no c, HK.out.trans HKR.out⟩
          have HT3 : Hid (∀ s ∈ c.ranks.take (j + 1), s.1.length ≤ 300 ∧ s.2.length ≤ 300) := by
            show ∀ s ∈ _, _
            intro t ht
            rw [List.take_succ, hx] at ht
            simp at ht
            rcases ht with h | rfl
            · exact HT.out t h
            · exact ⟨by omega, by omega⟩
          clear hx
          go_wp2_with fail
          go_region
          all_goals
            go_wp2_with fail
            go_roundw
            case rel => exact ⟨j + 1, m2 + (p.1.length + p.2.length), by omega, by go_num, by go_num, by omega, by omega, HT3, HKR.out.trans (kept_drewN _ _)⟩
            case measure => simp [intOf]; omega
        · have HT3 : Hid (∀ s ∈ c.ranks, s.1.length ≤ 300 ∧ s.2.length ≤ 300) := by
            show ∀ s ∈ _, _
            intro t ht
            refine HT.out t ?_
            rw [List.take_of_length_le (by omega)]; exact ht
          have HSM : Hid (SmallC c) := ⟨by omega, by omega, by omega, fun s h => by have := HT2.out s h; omega, fun p h => by have := HT3.out p h; exact ⟨by omega, by omega⟩⟩
          clear HT HT2 HT3
          go_wp2_with fail
          go_ret
          exact ⟨⟨_, rfl, fun _ => HSM.out⟩, HK.out.trans HKR.out⟩
end Go.Proofs.YtpfbdgcgpghifaaGreatDoor
