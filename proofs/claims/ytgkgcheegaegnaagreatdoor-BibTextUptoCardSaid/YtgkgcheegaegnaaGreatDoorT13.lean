/- Slices of pairs; bib.hasField, bib.Field. Conditions: lengths. -/
import Derived.Test.YtgkgcheegaegnaaGreatDoorT12
import Derived.Test.YtgkgcheegaegnaaGreatDoorT06
import Derived.Test.YtgkgcheegaegnaaGreatDoorT11

set_option linter.all false
namespace Go.Proofs.YtgkgcheegaegnaaGreatDoor
open Go.RowKit

abbrev Pr := Bs × Bs
/-- The slice value v reads in w as the pairs ps. -/
def Prs (w : World) (v : Value) (ps : List Pr) : Prop :=
  ∃ a c, v = .slice a ps.length c ∧ ps.length ≤ c ∧ (0 < ps.length → ∃ g o, a = some ⟨g, o, none⟩ ∧ g < w.heap.size ∧ ∀ j q, ps[j]? = some q →
    w.cell? ⟨g, o + j * 2, none⟩ = some (.string (bs q.1)) ∧ w.cell? ⟨g, o + j * 2 + 1, none⟩ = some (.string (bs q.2)))
theorem Prs.kept {w w' : World} {v : Value} {ps : List Pr} (h : Prs w v ps) (k : Kept w w') : Prs w' v ps := by
  obtain ⟨a, c, hv, hc, h3⟩ := h
  refine ⟨a, c, hv, hc, fun q => ?_⟩
  obtain ⟨g, o, ha, hg, hcell⟩ := h3 q
  refine ⟨g, o, ha, Nat.lt_of_lt_of_le hg k.size, fun j x hx => ?_⟩
  obtain ⟨c0, c1⟩ := hcell j x hx
  exact ⟨(k.cell (p := ⟨g, o + j * 2, none⟩) hg).trans c0, (k.cell (p := ⟨g, o + j * 2 + 1, none⟩) hg).trans c1⟩
def hasB (ps : List Pr) (k : Bs) : Bool := ps.any fun q => q.1 == k

theorem hasB_take (ps : List Pr) (k : Bs) (n : Nat) (q : Pr) (h : ps[n]? = some q) : hasB (ps.take (n + 1)) k = (hasB (ps.take n) k || q.1 == k) := by
  unfold hasB
  obtain ⟨hk, rfl⟩ := List.getElem?_eq_some_iff.1 h
  rw [List.take_succ_eq_append_getElem hk, List.any_append]; simp only [List.any_cons, List.any_nil, Bool.or_false]
theorem hasB_more (ps : List Pr) (k : Bs) (n : Nat) (h : hasB (ps.take n) k = true) : hasB ps k = true := by
  unfold hasB at h ⊢
  rw [List.any_eq_true] at h ⊢
  obtain ⟨x, hx, e⟩ := h
  exact ⟨x, List.mem_of_mem_take hx, e⟩

set_option maxRecDepth 100000 in
theorem clos_any (x y k : Bs) (b : Nat) (w : World) (hc : w.cell? ⟨b, 0, none⟩ = some (.string (bs k))) :
    Calls Tryz.prog 71 #[.agg #[.string (bs x), .string (bs y)], .pointer (some ⟨b, 0, none⟩)] w fun e w' => e = .returned (.bool (x == k)) ∧ Kept w w' := by
  have hb := World.block_lt_of_cell? w (a := ⟨b, 0, none⟩) hc
  simp only at hb
  by_cases h : x = k
  · subst h
    go_enter Tryz.func71, Tryz.ntmps71
    go_wp2_with fail
    go_ret
    exact ⟨ret_bool (by simp), kept_alloc _ _⟩
  · have h' : (x == k) = false := by simpa using h
    go_enter Tryz.func71, Tryz.ntmps71
    go_wp2_with fail
    go_ret
    exact ⟨ret_bool (by simp [h']), kept_alloc _ _⟩
/-- What IndexFunc answers: some place, or -1. -/
def FoundPost (ps : List Pr) (k : Bs) (w : World) (e : Ending) (w' : World) : Prop := ∃ r : Int, e = .returned (.int .i64 r) ∧ decide (0 ≤ r) = hasB ps k ∧ Kept w w'
set_option maxRecDepth 100000 in
set_option maxHeartbeats 1600000 in
theorem indexFunc_any (v : Value) (ps : List Pr) (k : Bs) (b : Nat) (w : World) (hv : Prs w v ps) (hN : ps.length ≤ 1100000) (hc : w.cell? ⟨b, 0, none⟩ = some (.string (bs k))) :
    Calls Tryz.prog 86 #[v, .func (Fn.func 71) #[] #[.pointer (some ⟨b, 0, none⟩)]] w (FoundPost ps k w) := by
  have HV := Lib.hid hv
  have HC := Lib.hid hc
  have hb := World.block_lt_of_cell? w (a := ⟨b, 0, none⟩) hc
  simp only at hb
  clear hc
  obtain ⟨a, c, rfl, hc, h3⟩ := hv
  clear h3
  go_enter Tryz.func86, Tryz.ntmps86
  go_wp2_with fail
  go_loopw [8] (fun i wr => ∃ n : Nat, n ≤ ps.length ∧ i = .int .i64 n ∧ Hid (hasB (ps.take n) k = false) ∧ Kept w wr) (fun i _ => ps.length - (intOf i).toNat)
  case atStart => exact ⟨0, Nat.zero_le _, rfl, rfl, Kept.refl _⟩
  case round =>
    obtain ⟨n, hn, rfl, HN, hkr⟩ := hrel
    by_cases hlt : n < ps.length
    · obtain ⟨q, hx⟩ : ∃ x, ps[n]? = some x := ⟨_, List.getElem?_eq_getElem hlt⟩
      obtain ⟨a', c', hv', hc', h3⟩ := HV.out.kept hkr
      obtain ⟨rfl, hdead, rfl⟩ := Value.slice.inj hv'
      clear hdead
      obtain ⟨g, o, rfl, hg, hcc⟩ := h3 (by omega)
      obtain ⟨c0, c1⟩ := hcc n q hx
      have HS := Lib.hid (hasB_take ps k n q hx)
      have HM := Lib.hid (hasB_more ps k (n + 1))
      have HCL := Lib.hid (clos_any q.1 q.2 k b wr ((hkr.cell (p := ⟨b, 0, none⟩) hb).trans HC.out))
      have HR := Lib.hid hkr
      rw [HN.out, Bool.false_or] at HS
      clear hkr hcc h3 hv' hc' hx HN
      obtain ⟨x, y⟩ := q
      simp only at c0 c1 HS HCL
      cases hxk : (x == k)
      · rw [hxk] at HS HCL
        go_wp2_with fail
        refine HCL.out.mono ?_
        rintro e w1 ⟨rfl, hk1⟩
        have HR1 := Lib.hid (HR.out.trans hk1)
        clear hk1
        go_wp2_with fail
        go_roundw
        case rel => exact ⟨n + 1, by omega, by go_num, HS.out, HR1.out⟩
        case measure => simp [intOf]; omega
      · rw [hxk] at HS HCL
        go_wp2_with fail
        refine HCL.out.mono ?_
        rintro e w1 ⟨rfl, hk1⟩
        have HR1 := Lib.hid (HR.out.trans hk1)
        clear hk1
        go_wp2_with fail
        go_ret
        exact ⟨n, rfl, by rw [HM.out HS.out]; simp, HR1.out⟩
    · have HE : Hid (hasB ps k = false) := by have h := HN.out; rw [List.take_of_length_le (by omega)] at h; exact h
      have HR := Lib.hid hkr
      clear hkr HN
      go_wp2_with fail
      go_ret
      exact ⟨-1, rfl, by rw [HE.out]; rfl, HR.out⟩

set_option maxRecDepth 100000 in
set_option maxHeartbeats 1600000 in
theorem hasField_any (v : Value) (ps : List Pr) (k : Bs) (w : World) (hv : Prs w v ps) (hN : ps.length ≤ 1100000) :
    Calls Tryz.prog 49 #[v, .string (bs k)] w fun e w' => e = .returned (.bool (hasB ps k)) ∧ Kept w w' := by
  have HCF : Hid (∀ (b : Nat) (w : World), Prs w v ps → w.cell? ⟨b, 0, none⟩ = some (.string (bs k)) → Calls Tryz.prog 70 #[v, .func (Fn.func 71) #[] #[.pointer (some ⟨b, 0, none⟩)]] w fun e w' => e = .returned (.bool (hasB ps k)) ∧ Kept w w') := by
    intro b w hv hc
    have HI := Lib.hid (indexFunc_any v ps k b w hv hN hc)
    obtain ⟨hb, HB⟩ : ∃ hb, Hid (hasB ps k = hb) := ⟨_, rfl⟩
    unfold FoundPost at HI
    rw [HB.out]
    rw [HB.out] at HI
    obtain ⟨a, c, rfl, hcl, h3⟩ := hv
    clear h3 hc
    go_enter Tryz.func70, Tryz.ntmps70
    go_wp2_with fail
    refine HI.out.mono ?_
    rintro e w1 ⟨r, rfl, hr, hk1⟩
    have HK := Lib.hid hk1
    clear hk1
    cases hb
    · go_wp2_with fail
      go_ret
      exact ⟨ret_bool (by simpa using hr), HK.out⟩
    · go_wp2_with fail
      go_ret
      exact ⟨ret_bool (by simpa using hr), HK.out⟩
  have HV := Lib.hid hv
  obtain ⟨a, c, rfl, hc, h3⟩ := hv
  clear h3
  obtain ⟨hb, HB⟩ : ∃ hb, Hid (hasB ps k = hb) := ⟨_, rfl⟩
  rw [HB.out] at HCF ⊢
  go_enter Tryz.func49, Tryz.ntmps49
  go_wp2_with fail
  refine (HCF.out w.heap.size _ (HV.out.kept (kept_alloc _ _)) (by have h := (Blk.new w 9 #[.string (bs k)]).cell 0 _ rfl; exact h)).mono ?_
  rintro e w1 ⟨rfl, hk1⟩
  have HK := Lib.hid ((kept_alloc w _).trans hk1)
  clear hk1
  go_wp2_with fail
  go_ret
  exact ⟨rfl, HK.out⟩

/-- The value of a field. -/
def fieldL (ps : List Pr) (k : Bs) : Option Bs := (ps.find? fun q => q.1 == k).map (·.2)
end Go.Proofs.YtgkgcheegaegnaaGreatDoor

/- Field and Year of package bib and of its reference. Conditions: lengths. -/
set_option linter.all false
namespace Go.Proofs.YtgkgcheegaegnaaGreatDoor
open Go.RowKit

abbrev srcV (k t : Bs) (vA vE vF : Value) : Value := .agg #[.string (bs k), .string (bs t), vA, vE, vF]
theorem fieldL_none (ps : List Pr) (k : Bs) (h : ∀ q ∈ ps, (q.1 == k) = false) : fieldL ps k = none := by
  unfold fieldL
  rw [List.find?_eq_none.2 (fun q hq => by simp [h q hq])]; rfl
theorem fieldL_at (ps : List Pr) (k : Bs) (n : Nat) (q : Pr) (hq : ps[n]? = some q) (h : ∀ x ∈ ps.take n, (x.1 == k) = false) (he : (q.1 == k) = true) : fieldL ps k = some q.2 := by
  unfold fieldL
  obtain ⟨hn, rfl⟩ := List.getElem?_eq_some_iff.1 hq
  have e : ps = ps.take n ++ ps[n] :: ps.drop (n + 1) := by
    rw [← List.drop_eq_getElem_cons hn, List.take_append_drop]
  conv => lhs; rw [e]
  rw [List.find?_append, List.find?_eq_none.2 (fun q hq => by simp [h q hq]), List.find?_cons_of_pos (by simpa using he)]
  rfl
def FieldPost (o : Option Bs) (w : World) (e : Ending) (w' : World) : Prop := e = .returned (.tuple #[.string (bs (o.getD [])), .bool o.isSome]) ∧ Kept w w'

set_option maxRecDepth 100000 in
set_option maxHeartbeats 1600000 in
theorem field_any (sk st : Bs) (vA vE vF : Value) (ps : List Pr) (k : Bs) (w : World) (hv : Prs w vF ps) (hN : ps.length ≤ 1100000) :
    Calls Tryz.prog 21 #[srcV sk st vA vE vF, .string (bs k)] w (FieldPost (fieldL ps k) w) := by
  have HV := Lib.hid hv
  have HA := Lib.hid (fieldL_at ps k)
  have HNO := Lib.hid (fieldL_none ps k)
  obtain ⟨o, HO⟩ : ∃ o, Hid (fieldL ps k = o) := ⟨_, rfl⟩
  rw [HO.out] at HA HNO ⊢
  obtain ⟨a, c, rfl, hc, h3⟩ := hv
  clear h3
  unfold FieldPost
  go_enter Tryz.func21, Tryz.ntmps21
  go_wp2_with fail
  simp only [mk_bs]
  go_loopw [11] (fun i wr => ∃ n : Nat, n ≤ ps.length ∧ i = .int .i64 n ∧ Hid (∀ x ∈ ps.take n, (x.1 == k) = false) ∧ Kept w wr) (fun i _ => ps.length - (intOf i).toNat)
  case atStart => exact ⟨0, Nat.zero_le _, rfl, fun x h => by simp at h, kept_alloc _ _⟩
  case round =>
    obtain ⟨n, hn, rfl, HN, hkr⟩ := hrel
    by_cases hlt : n < ps.length
    · obtain ⟨q, hx⟩ : ∃ x, ps[n]? = some x := ⟨_, List.getElem?_eq_getElem hlt⟩
      obtain ⟨a', c', hv', hc', h3⟩ := HV.out.kept hkr
      obtain ⟨rfl, hdead, rfl⟩ := Value.slice.inj hv'
      clear hdead
      obtain ⟨g, o2, rfl, hg, hcc⟩ := h3 (by omega)
      obtain ⟨c0, c1⟩ := hcc n q hx
      have HR := Lib.hid hkr
      cases hxk : (q.1 == k)
      · have HS : Hid (∀ x ∈ ps.take (n + 1), (x.1 == k) = false) := by
          intro x hxm
          obtain ⟨hk', rfl⟩ := List.getElem?_eq_some_iff.1 hx
          rw [List.take_succ_eq_append_getElem hk'] at hxm
          rcases List.mem_append.1 hxm with h | h
          · exact HN.out x h
          · simp at h; subst h; exact hxk
        clear hkr hcc h3 hv' hc' hx HN
        obtain ⟨x, y⟩ := q
        simp only at c0 c1 hxk
        go_wp2_with fail
        go_roundw
        case rel => exact ⟨n + 1, by omega, by go_num, HS.out, HR.out.trans (kept_alloc _ _)⟩
        case measure => simp [intOf]; omega
      · have HF := Lib.hid (HA.out n q hx HN.out hxk)
        clear hkr hcc h3 hv' hc' hx HN
        obtain ⟨x, y⟩ := q
        simp only at c0 c1 hxk HF
        go_wp2_with fail
        go_ret2
        exact ⟨by rw [HF.out]; rfl, HR.out.trans (kept_alloc _ _)⟩
    · have HF : Hid (o = none) := HNO.out (fun q hq => by
        have h := HN.out
        rw [List.take_of_length_le (by omega)] at h
        exact h q hq)
      have HR := Lib.hid hkr
      clear hkr HN
      go_wp2_with fail
      go_ret2
      exact ⟨by rw [HF.out]; rfl, HR.out⟩

set_option maxRecDepth 100000 in
set_option maxHeartbeats 1600000 in
theorem rfield_any (sk st : Bs) (vA vE vF : Value) (ps : List Pr) (k : Bs) (w : World) (hv : Prs w vF ps) (hN : ps.length ≤ 1100000) :
    Calls Tryz.prog 28 #[srcV sk st vA vE vF, .string (bs k)] w (FieldPost (fieldL ps k) w) := by
  have HV := Lib.hid hv
  have HA := Lib.hid (fieldL_at ps k)
  have HNO := Lib.hid (fieldL_none ps k)
  obtain ⟨o, HO⟩ : ∃ o, Hid (fieldL ps k = o) := ⟨_, rfl⟩
  rw [HO.out] at HA HNO ⊢
  obtain ⟨a, c, rfl, hc, h3⟩ := hv
  clear h3
  unfold FieldPost
  go_enter Tryz.func28, Tryz.ntmps28
  go_wp2_with fail
  simp only [mk_bs]
  go_loopw [11] (fun i wr => ∃ n : Nat, n ≤ ps.length ∧ i = .int .i64 n ∧ Hid (∀ x ∈ ps.take n, (x.1 == k) = false) ∧ Kept w wr) (fun i _ => ps.length - (intOf i).toNat)
  case atStart => exact ⟨0, Nat.zero_le _, rfl, fun x h => by simp at h, kept_alloc _ _⟩
  case round =>
    obtain ⟨n, hn, rfl, HN, hkr⟩ := hrel
    by_cases hlt : n < ps.length
    · obtain ⟨q, hx⟩ : ∃ x, ps[n]? = some x := ⟨_, List.getElem?_eq_getElem hlt⟩
      obtain ⟨a', c', hv', hc', h3⟩ := HV.out.kept hkr
      obtain ⟨rfl, hdead, rfl⟩ := Value.slice.inj hv'
      clear hdead
      obtain ⟨g, o2, rfl, hg, hcc⟩ := h3 (by omega)
      obtain ⟨c0, c1⟩ := hcc n q hx
      have HR := Lib.hid hkr
      cases hxk : (q.1 == k)
      · have HS : Hid (∀ x ∈ ps.take (n + 1), (x.1 == k) = false) := by
          intro x hxm
          obtain ⟨hk', rfl⟩ := List.getElem?_eq_some_iff.1 hx
          rw [List.take_succ_eq_append_getElem hk'] at hxm
          rcases List.mem_append.1 hxm with h | h
          · exact HN.out x h
          · simp at h; subst h; exact hxk
        clear hkr hcc h3 hv' hc' hx HN
        obtain ⟨x, y⟩ := q
        simp only at c0 c1 hxk
        go_wp2_with fail
        go_roundw
        case rel => exact ⟨n + 1, by omega, by go_num, HS.out, HR.out.trans (kept_alloc _ _)⟩
        case measure => simp [intOf]; omega
      · have HF := Lib.hid (HA.out n q hx HN.out hxk)
        clear hkr hcc h3 hv' hc' hx HN
        obtain ⟨x, y⟩ := q
        simp only at c0 c1 hxk HF
        go_wp2_with fail
        go_ret2
        exact ⟨by rw [HF.out]; rfl, HR.out.trans (kept_alloc _ _)⟩
    · have HF : Hid (o = none) := HNO.out (fun q hq => by
        have h := HN.out
        rw [List.take_of_length_le (by omega)] at h
        exact h q hq)
      have HR := Lib.hid hkr
      clear hkr HN
      go_wp2_with fail
      go_ret2
      exact ⟨by rw [HF.out]; rfl, HR.out⟩

end Go.Proofs.YtgkgcheegaegnaaGreatDoor
