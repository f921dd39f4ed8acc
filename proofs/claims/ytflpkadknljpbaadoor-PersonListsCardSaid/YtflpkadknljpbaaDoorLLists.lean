/- The law PersonLists answers true of every list of persons. No condition. -/
import Derived.Test.YtflpkadknljpbaaDoorLTexts
import Derived.Test.YtflpkadknljpbaaDoorRplist
import Derived.Test.YtflpkadknljpbaaDoorOpenL
set_option linter.all false
namespace Go.Proofs.YtflpkadknljpbaaDoor
open Go.RowKit

theorem wf64 {n : Int} (h : (Lit.int .i64 n).wf = true) : -9223372036854775808 ≤ n ∧ n ≤ 9223372036854775807 := by
  have := h
  simp [Lit.wf, IntKind.min, IntKind.max, IntKind.signed, IntKind.bits] at this
  omega

set_option maxRecDepth 100000 in
set_option maxHeartbeats 6400000 in
theorem llists_any (v : Value) (ps : List P4) (l : Bs) (most : Int) (full : Bool) (w : World) (hg : Gnd w) (hv : Perss w v ps) (hps : ps.length ≤ maxLen) (hfit : ∀ q ∈ ps, Fit4 q) (hmr : -9223372036854775808 ≤ most ∧ most ≤ 9223372036854775807) :
    Calls Tryd.prog 6 #[v, .string (bs l), .int .i64 most, .bool full] w fun e w' => e = .returned (.bool true) ∧ Kept w w' := by
  unfold maxLen at hps
  have HG := Lib.hid hg
  have HV := Lib.hid hv
  have HFIT := Lib.hid hfit
  clear hg hfit
  obtain ⟨a, c, rfl, hc, h3⟩ := hv
  clear h3
  by_cases h20 : ps.length ≤ 20
  · have d20 : decide ((20 : Int) < (ps.length : Int)) = false := by simp; omega
    go_enter Tryd.func6, Tryd.ntmps6
    go_wp2_with fail
    go_loopw [9] (fun i wr => ∃ k : Nat, k ≤ ps.length ∧ i = .int .i64 k ∧ Hid (∀ q ∈ ps.take k, fewB q = true) ∧ Kept w wr) (fun i _ => ps.length - (intOf i).toNat)
    case atStart => exact ⟨0, Nat.zero_le _, rfl, fun q h => by simp at h, Kept.refl _⟩
    case round =>
      obtain ⟨k, hk, rfl, HF, hkr⟩ := hrel
      by_cases hlt : k < ps.length
      · obtain ⟨q, hx⟩ : ∃ x, ps[k]? = some x := ⟨_, List.getElem?_eq_getElem hlt⟩
        obtain ⟨a', c', hv', hc', h3⟩ := HV.out.kept hkr
        obtain ⟨rfl, hdead, rfl⟩ := Value.slice.inj hv'
        clear hdead
        obtain ⟨g, o, rfl, hgg, hcc⟩ := h3 (by omega)
        obtain ⟨c0, c1, c2, c3⟩ := hcc k q hx
        have HFW := Lib.hid (fun w => few_any q w (HFIT.out q (List.mem_of_getElem? hx)))
        have HR := Lib.hid hkr
        have HNX : Hid (fewB q = true → ∀ x ∈ ps.take (k + 1), fewB x = true) := by
          intro hq x hxm
          obtain ⟨hk', rfl⟩ := List.getElem?_eq_some_iff.1 hx
          rw [List.take_succ_eq_append_getElem hk'] at hxm
          rcases List.mem_append.1 hxm with h | h
          · exact HF.out x h
          · simp at h; subst h; exact hq
        clear hkr hcc h3 hv' hc' hx
        cases hb : fewB q
        · rw [hb] at HFW
          clear HNX hb
          obtain ⟨qf, qg, qp, qs⟩ := q
          simp only at c0 c1 c2 c3
          go_wp2_with fail
          refine (HFW.out _).mono ?_
          rintro e w1 ⟨rfl, hk1⟩
          have HR1 := Lib.hid (HR.out.trans hk1)
          clear hk1
          go_wp2_with fail
          refine (awake_any _ (HG.out.kept HR1.out)).mono ?_
          rintro e w2 ⟨rfl, hk2⟩
          have HR2 := Lib.hid (HR1.out.trans hk2)
          clear hk2
          go_wp2_with fail
          go_ret
          exact ⟨rfl, HR2.out⟩
        · rw [hb] at HFW
          have HN := Lib.hid (HNX.out hb)
          clear HNX hb
          obtain ⟨qf, qg, qp, qs⟩ := q
          simp only at c0 c1 c2 c3
          go_wp2_with fail
          refine (HFW.out _).mono ?_
          rintro e w1 ⟨rfl, hk1⟩
          have HR1 := Lib.hid (HR.out.trans hk1)
          clear hk1
          go_wp2_with fail
          go_roundw
          case rel => exact ⟨k + 1, by omega, by go_num, HN.out, HR1.out⟩
          case measure => simp [intOf]; omega
      · have HQ : Hid (∀ q ∈ ps, size4 q ≤ 10000) := by
          intro q hq
          have h := HF.out
          rw [List.take_of_length_le (by omega)] at h
          have := few_lens q (h q hq)
          unfold size4; omega
        have HR := Lib.hid hkr
        have HP := Lib.hid (plist_any _ ps l most full wr (HV.out.kept hkr) (by omega) HQ.out hmr)
        have HRP := Lib.hid (fun w' (h : Kept w w') => rplist_any _ ps l most full w' (HV.out.kept h) (by omega) HQ.out hmr)
        generalize plistL ps l most full = pl at *
        clear hkr HF
        go_wp2_with fail
        refine HP.out.mono ?_
        rintro e w1 ⟨rfl, hk1⟩
        have HR1 := Lib.hid (HR.out.trans hk1)
        clear hk1
        go_wp2_with fail
        refine (HRP.out _ HR1.out).mono ?_
        rintro e w2 ⟨rfl, hk2⟩
        have HR2 := Lib.hid (HR1.out.trans hk2)
        clear hk2
        go_wp2_with fail
        refine (awake_any _ (HG.out.kept HR2.out)).mono ?_
        rintro e w3 ⟨rfl, hk3⟩
        have HR3 := Lib.hid (HR2.out.trans hk3)
        clear hk3
        go_wp2_with fail
        go_ret
        exact ⟨rfl, HR3.out⟩
  · have d20 : decide ((20 : Int) < (ps.length : Int)) = true := by simp; omega
    go_enter Tryd.func6, Tryd.ntmps6
    go_wp2_with fail
    refine (awake_any _ HG.out).mono ?_
    rintro e w1 ⟨rfl, hk1⟩
    have HK1 := Lib.hid hk1
    clear hk1
    go_wp2_with fail
    go_ret
    exact ⟨rfl, HK1.out⟩
end Go.Proofs.YtflpkadknljpbaaDoor
