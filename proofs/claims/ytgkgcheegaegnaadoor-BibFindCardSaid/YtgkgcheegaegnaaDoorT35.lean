/- The law BibFind answers true of every bibliography and key. No condition. -/
import Derived.Test.YtgkgcheegaegnaaDoorT26
import Derived.Test.YtgkgcheegaegnaaDoorT27
import Derived.Test.YtgkgcheegaegnaaDoorT34
import Derived.Test.YtgkgcheegaegnaaDoorT17
import Derived.OpenShut
import Derived.ProofKit
import Derived.Lib.SmallJoins

set_option linter.all false
namespace Go.Proofs.YtgkgcheegaegnaaDoor
open Go.RowKit

theorem year_fit (ps : List Pr) (k : Bs) (h : ∀ f ∈ ps, f.1.length ≤ 140737488355328 ∧ f.2.length ≤ 140737488355328) : ((fieldL ps k).getD []).length ≤ 140737488355328 := by
  unfold fieldL
  cases hf : ps.find? fun q => q.1 == k with
  | none => simp
  | some q => exact (h q (List.mem_of_find?_eq_some hf)).2
theorem new_src {w : World} {x : SrcT} {vA vE vF : Value} (hA : Perss w vA x.author) (hE : Perss w vE x.editor) (hF : Prs w vF x.fields) : Srcs (w.alloc (.cells #[.string (bs x.key), .string (bs x.type), vA, vE, vF] 28)) (.slice (some ⟨w.heap.size, 0, none⟩) 1 1) [x] := by
  refine ⟨_, _, rfl, Nat.le_refl _, fun _ => ⟨w.heap.size, 0, rfl, by simp, fun j y hy => ?_⟩⟩
  have hb := Blk.new w 28 #[.string (bs x.key), .string (bs x.type), vA, vE, vF]
  have k := kept_alloc w (.cells #[.string (bs x.key), .string (bs x.type), vA, vE, vF] 28)
  cases j with
  | zero => cases hy; exact ⟨vA, vE, vF, hb.cell 0 _ rfl, hb.cell 1 _ rfl, hb.cell 2 _ rfl, hb.cell 3 _ rfl, hb.cell 4 _ rfl, hA.kept k, hE.kept k, hF.kept k⟩
  | succ j => simp at hy
set_option maxRecDepth 100000 in
set_option maxHeartbeats 6400000 in
theorem lfind_any (v : Value) (ss : List SrcT) (key : Bs) (w : World) (hg : Gnd w) (hv : Srcs w v ss) (hl : ss.length ≤ 140737488355328) (hfit : ∀ s ∈ ss, FitS s) (hk : key.length ≤ 140737488355328) :
    Calls Tryd.prog 3 #[v, .string (bs key)] w fun e w' => e = .returned (.bool true) ∧ Kept w w' := by
  have HG := Lib.hid hg
  have HV := Lib.hid hv
  have HAW : Hid (∀ w', Kept w w' → Calls Tryd.prog 5 #[] w' fun e w2 => e = .returned (.bool true) ∧ Kept w' w2) := fun w' h => bawake_any w' (HG.out.kept h)
  have HSM := Lib.hid (small_any v ss w hv hl hfit)
  unfold SmallPost at HSM
  go_enter Tryd.func3, Tryd.ntmps3
  go_wp2_with fail
  refine HSM.out.mono ?_
  rintro e w1 ⟨b, rfl, hb, hk1⟩
  have HK1 := Lib.hid hk1
  clear hk1
  cases b
  · go_wp2_with fail
    refine (HAW.out _ HK1.out).mono ?_
    rintro e w2 ⟨rfl, hk2⟩
    have HK2 := Lib.hid (HK1.out.trans hk2)
    clear hk2
    go_wp2_with fail
    go_ret
    exact ⟨rfl, HK2.out⟩
  obtain ⟨h30, h1500⟩ := hb rfl
  by_cases hkey : 200 < key.length
  · go_wp2_with fail
    refine (HAW.out _ HK1.out).mono ?_
    rintro e w2 ⟨rfl, hk2⟩
    have HK2 := Lib.hid (HK1.out.trans hk2)
    clear hk2
    go_wp2_with fail
    go_ret
    exact ⟨rfl, HK2.out⟩
  have hlen : ∀ s ∈ ss, s.author.length ≤ 1000000 ∧ s.editor.length ≤ 1000000 ∧ s.fields.length ≤ 1000000 := fun s hs => by have := h1500 s hs; unfold lens at this; omega
  have HF1 := Lib.hid (fun w' (h : Kept w w') => find_any v ss key w' (HV.out.kept h) (by omega) hlen)
  have HF2 := Lib.hid (fun w' (h : Kept w w') => rfind_any v ss key w' (HV.out.kept h) (by omega))
  unfold FindPost at HF1 HF2
  have HSA : Hid (∀ w' v v' x, (x.author.length ≤ 1000000 ∧ x.editor.length ≤ 1000000 ∧ x.fields.length ≤ 1000000) → Srcs w' v [x] → Srcs w' v' [x] → Calls Tryd.prog 8 #[v, v'] w' fun e w2 => e = .returned (.bool true) ∧ Kept w' w2) := fun w' v v' x hx h h' => same_eq v v' [x] w' h h' (by simp) (fun s hs => by simp at hs; subst hs; exact hx)
  have HXL : Hid (((findS ss key).getD zeroS).author.length ≤ 1000000 ∧ ((findS ss key).getD zeroS).editor.length ≤ 1000000 ∧ ((findS ss key).getD zeroS).fields.length ≤ 1000000) := by
    show _ ∧ _
    cases hf : findS ss key with
    | none => exact ⟨by simp [zeroS], by simp [zeroS], by simp [zeroS]⟩
    | some x => exact hlen x (by unfold findS at hf; exact List.mem_of_find?_eq_some hf)
  generalize (findS ss key).isSome = fb at *
  generalize (findS ss key).getD zeroS = xs at *
  go_wp2_with fail
  refine (HF1.out _ HK1.out).mono ?_
  rintro e w2 ⟨vA, vE, vF, rfl, pA, pE, pF, hk2⟩
  have HP2 := Lib.hid (And.intro pA (And.intro pE pF))
  have HK2 := Lib.hid (HK1.out.trans hk2)
  obtain ⟨aA, cA, rfl, y1, y2⟩ := pA
  obtain ⟨aE, cE, rfl, y3, y4⟩ := pE
  obtain ⟨aF, cF, rfl, y5, y6⟩ := pF
  clear y1 y2 y3 y4 y5 y6 hk2
  have HK3 := Lib.hid (HK2.out.trans (kept_alloc w2 (.cells #[.string (bs xs.key), .string (bs xs.type), .slice aA xs.author.length cA, .slice aE xs.editor.length cE, .slice aF xs.fields.length cF] 28)))
  have HBa := Lib.hid (Blk.new w2 28 #[.string (bs xs.key), .string (bs xs.type), .slice aA xs.author.length cA, .slice aE xs.editor.length cE, .slice aF xs.fields.length cF])
  go_wp2_with fail
  refine (HF2.out _ HK3.out).mono ?_
  rintro e w3 ⟨vA, vE, vF, rfl, pA, pE, pF, hk3⟩
  have HP3 := Lib.hid (And.intro pA (And.intro pE pF))
  have HP23 := Lib.hid (And.intro ((HP2.out.1.kept (kept_alloc _ _)).kept hk3) (And.intro ((HP2.out.2.1.kept (kept_alloc _ _)).kept hk3) ((HP2.out.2.2.kept (kept_alloc _ _)).kept hk3)))
  have HK4 := Lib.hid (HK3.out.trans hk3)
  have HBa3 := Lib.hid (HBa.out.kept hk3)
  obtain ⟨bA, dA, rfl, y1, y2⟩ := pA
  obtain ⟨bE, dE, rfl, y3, y4⟩ := pE
  obtain ⟨bF, dF, rfl, y5, y6⟩ := pF
  clear y1 y2 y3 y4 y5 y6 hk3 HBa
  have a0 : w3.cell? ⟨w2.heap.size, 0, none⟩ = some (.string (bs xs.key)) := HBa3.out.cell 0 _ rfl
  have a1 : w3.cell? ⟨w2.heap.size, 1, none⟩ = some (.string (bs xs.type)) := HBa3.out.cell 1 _ rfl
  have a2 : w3.cell? ⟨w2.heap.size, 2, none⟩ = some (.slice aA xs.author.length cA) := HBa3.out.cell 2 _ rfl
  have a3 : w3.cell? ⟨w2.heap.size, 3, none⟩ = some (.slice aE xs.editor.length cE) := HBa3.out.cell 3 _ rfl
  have a4 : w3.cell? ⟨w2.heap.size, 4, none⟩ = some (.slice aF xs.fields.length cF) := HBa3.out.cell 4 _ rfl
  have za := HBa3.out.lt
  have S1 : Srcs (((w3.alloc (.cells #[.string (bs xs.key), .string (bs xs.type), .slice bA xs.author.length dA, .slice bE xs.editor.length dE, .slice bF xs.fields.length dF] 28)).alloc (.cells #[.string (bs xs.key), .string (bs xs.type), .slice aA xs.author.length cA, .slice aE xs.editor.length cE, .slice aF xs.fields.length cF] 28)).alloc (.cells #[.string (bs xs.key), .string (bs xs.type), .slice bA xs.author.length dA, .slice bE xs.editor.length dE, .slice bF xs.fields.length dF] 28)) (.slice (some ⟨w3.heap.size + 1, 0, none⟩) 1 1) [xs] := by
    have h := (new_src (w := (w3.alloc (.cells #[.string (bs xs.key), .string (bs xs.type), .slice bA xs.author.length dA, .slice bE xs.editor.length dE, .slice bF xs.fields.length dF] 28))) (x := xs) (HP23.out.1.kept (kept_alloc _ _)) (HP23.out.2.1.kept (kept_alloc _ _)) (HP23.out.2.2.kept (kept_alloc _ _))).kept (kept_alloc _ (.cells #[.string (bs xs.key), .string (bs xs.type), .slice bA xs.author.length dA, .slice bE xs.editor.length dE, .slice bF xs.fields.length dF] 28))
    rwa [show (w3.alloc (.cells #[.string (bs xs.key), .string (bs xs.type), .slice bA xs.author.length dA, .slice bE xs.editor.length dE, .slice bF xs.fields.length dF] 28)).heap.size = w3.heap.size + 1 from by simp] at h
  have S2 : Srcs (((w3.alloc (.cells #[.string (bs xs.key), .string (bs xs.type), .slice bA xs.author.length dA, .slice bE xs.editor.length dE, .slice bF xs.fields.length dF] 28)).alloc (.cells #[.string (bs xs.key), .string (bs xs.type), .slice aA xs.author.length cA, .slice aE xs.editor.length cE, .slice aF xs.fields.length cF] 28)).alloc (.cells #[.string (bs xs.key), .string (bs xs.type), .slice bA xs.author.length dA, .slice bE xs.editor.length dE, .slice bF xs.fields.length dF] 28)) (.slice (some ⟨w3.heap.size + 1 + 1, 0, none⟩) 1 1) [xs] := by
    have h := (new_src (w := ((w3.alloc (.cells #[.string (bs xs.key), .string (bs xs.type), .slice bA xs.author.length dA, .slice bE xs.editor.length dE, .slice bF xs.fields.length dF] 28)).alloc (.cells #[.string (bs xs.key), .string (bs xs.type), .slice aA xs.author.length cA, .slice aE xs.editor.length cE, .slice aF xs.fields.length cF] 28))) (x := xs) ((HP3.out.1.kept (kept_alloc _ _)).kept (kept_alloc _ _)) ((HP3.out.2.1.kept (kept_alloc _ _)).kept (kept_alloc _ _)) ((HP3.out.2.2.kept (kept_alloc _ _)).kept (kept_alloc _ _)))
    rwa [show ((w3.alloc (.cells #[.string (bs xs.key), .string (bs xs.type), .slice bA xs.author.length dA, .slice bE xs.editor.length dE, .slice bF xs.fields.length dF] 28)).alloc (.cells #[.string (bs xs.key), .string (bs xs.type), .slice aA xs.author.length cA, .slice aE xs.editor.length cE, .slice aF xs.fields.length cF] 28)).heap.size = w3.heap.size + 1 + 1 from by simp] at h
  have HK5 : Hid (Kept w (((w3.alloc (.cells #[.string (bs xs.key), .string (bs xs.type), .slice bA xs.author.length dA, .slice bE xs.editor.length dE, .slice bF xs.fields.length dF] 28)).alloc (.cells #[.string (bs xs.key), .string (bs xs.type), .slice aA xs.author.length cA, .slice aE xs.editor.length cE, .slice aF xs.fields.length cF] 28)).alloc (.cells #[.string (bs xs.key), .string (bs xs.type), .slice bA xs.author.length dA, .slice bE xs.editor.length dE, .slice bF xs.fields.length dF] 28))) := ((HK4.out.trans (kept_alloc _ _)).trans (kept_alloc _ _)).trans (kept_alloc _ _)
  have HCS := Lib.hid (HSA.out _ _ _ xs HXL.out S1 S2)
  clear S1 S2
  go_wp2_with fail
  refine HCS.out.mono ?_
  rintro e w4 ⟨rfl, hk4⟩
  have HK6 := Lib.hid (HK5.out.trans hk4)
  clear hk4 HCS HSA HF1 HF2 HP2 HP3 HP23 HK5 HK4 HK3 HK2 HBa3 a0 a1 a2 a3 a4 za HXL hlen
  obtain ⟨av, cv, hvv, hcv, _⟩ := HV.out
  subst hvv
  clear hv HSM
  go_wp2_with fail
  go_loopw [9] (fun i wr => ∃ k : Nat, k ≤ ss.length ∧ i = .int .i64 k ∧ Hid (Kept w wr)) (fun i _ => ss.length - (intOf i).toNat)
  case atStart => exact ⟨0, Nat.zero_le _, rfl, HK6.out⟩
  case round =>
    obtain ⟨k, hk2, rfl, HKR⟩ := hrel
    by_cases hlt : k < ss.length
    · obtain ⟨x, hx⟩ : ∃ x, ss[k]? = some x := ⟨_, List.getElem?_eq_getElem hlt⟩
      have hxm := List.mem_of_getElem? hx
      have hfl : x.fields.length ≤ 1000000 := by have := h1500 x hxm; unfold lens at this; omega
      have hyf := year_fit x.fields [121, 101, 97, 114] (hfit x hxm).2.2.2.2.2.1
      obtain ⟨a', c', hv', hc', h3⟩ := HV.out.kept HKR.out
      obtain ⟨rfl, hdead, rfl⟩ := Value.slice.inj hv'
      clear hdead hc'
      obtain ⟨g, o, rfl, hg', hcc⟩ := h3 (by omega)
      obtain ⟨vA, vE, vF, d0, d1, d2, d3, d4, pA, pE, pF⟩ := hcc k x hx
      have HC := Lib.hid (fun w' (h : Kept wr w') => And.intro ((h.cell (p := ⟨g, o + k * 5, none⟩) hg').trans d0) (And.intro ((h.cell (p := ⟨g, o + k * 5 + 1, none⟩) hg').trans d1) (And.intro ((h.cell (p := ⟨g, o + k * 5 + 2, none⟩) hg').trans d2) (And.intro ((h.cell (p := ⟨g, o + k * 5 + 3, none⟩) hg').trans d3) ((h.cell (p := ⟨g, o + k * 5 + 4, none⟩) hg').trans d4)))))
      have HFA := Lib.hid (fun w' (h : Kept wr w') => field_any x.key x.type vA vE vF x.fields key w' (pF.kept h) hfl)
      have HFB := Lib.hid (fun w' (h : Kept wr w') => rfield_any x.key x.type vA vE vF x.fields key w' (pF.kept h) hfl)
      unfold FieldPost at HFA HFB
      have HYA := Lib.hid (fun w' (h : Kept wr w') => year_wide x.key x.type vA vE vF x.fields w' (pF.kept h) hfl hyf)
      have HYB := Lib.hid (fun w' (h : Kept wr w') => ryear_wide x.key x.type vA vE vF x.fields w' (pF.kept h) hfl hyf)
      obtain ⟨aA, cA, rfl, zA, zA'⟩ := pA
      obtain ⟨aE, cE, rfl, zE, zE'⟩ := pE
      obtain ⟨aF, cF, rfl, zF, zF'⟩ := pF
      clear zA zA' zE zE' zF zF' hcc h3 hv' hx hxm hyf hfl
      generalize (fieldL x.fields key).isSome = fs at *
      generalize (fieldL x.fields key).getD [] = fv at *
      generalize yearL ((fieldL x.fields [121, 101, 97, 114]).getD []) = yr at *
      go_wp2_with fail
      refine (HFA.out _ (Kept.refl _)).mono ?_
      rintro e wa ⟨rfl, ka⟩
      clear d0 d1 d2 d3 d4
      obtain ⟨d0, d1, d2, d3, d4⟩ := HC.out _ ka
      have hga : g < wa.heap.size := Nat.lt_of_lt_of_le hg' ka.size
      go_wp2_with fail
      refine (HFB.out _ ka).mono ?_
      rintro e wb ⟨rfl, kab⟩
      have kb := ka.trans kab
      clear d0 d1 d2 d3 d4 kab
      obtain ⟨d0, d1, d2, d3, d4⟩ := HC.out _ kb
      have hgb : g < wb.heap.size := Nat.lt_of_lt_of_le hg' kb.size
      have e0 : Kept wr wb.drew := kb.trans (kept_drewN wb 1)
      have HC2 : Hid (∀ w', Kept wr w' → (w'.cell? ⟨g, o + k * 5, none⟩ = some (.string (bs x.key)) ∧ w'.cell? ⟨g, o + k * 5 + 1, none⟩ = some (.string (bs x.type)) ∧ w'.cell? ⟨g, o + k * 5 + 2, none⟩ = some (.slice aA x.author.length cA) ∧ w'.cell? ⟨g, o + k * 5 + 3, none⟩ = some (.slice aE x.editor.length cE) ∧ w'.cell? ⟨g, o + k * 5 + 4, none⟩ = some (.slice aF x.fields.length cF)) ∧ g < w'.heap.size ∧ Kept wr w') := fun w' h => ⟨HC.out w' h, Nat.lt_of_lt_of_le hg' h.size, h⟩
      clear HFA HFB HC
      go_wp2_with fail
      go_region_held3 (fun w' => (w'.cell? ⟨g, o + k * 5, none⟩ = some (.string (bs x.key)) ∧ w'.cell? ⟨g, o + k * 5 + 1, none⟩ = some (.string (bs x.type)) ∧ w'.cell? ⟨g, o + k * 5 + 2, none⟩ = some (.slice aA x.author.length cA) ∧ w'.cell? ⟨g, o + k * 5 + 3, none⟩ = some (.slice aE x.editor.length cE) ∧ w'.cell? ⟨g, o + k * 5 + 4, none⟩ = some (.slice aF x.fields.length cF)) ∧ g < w'.heap.size ∧ Kept wr w')
        ((refine HC2.out _ ?_; assumption))
        (first
          | (go_at_call 12; refine (HYB.out _ e1).mono ?_; rintro e wd ⟨rfl, hk⟩; have e2 := e1.trans hk; clear hk)
          | (go_at_call 11; refine (HYA.out _ e0).mono ?_; rintro e wc ⟨rfl, hk⟩; have e1 := e0.trans hk; clear hk))
      all_goals
        go_wp2_with fail
        go_roundw
        case rel => exact ⟨k + 1, by omega, by go_num, HKR.out.trans e2⟩
        case measure => simp [intOf]; omega
    · go_wp2_with fail
      refine (HAW.out _ HKR.out).mono ?_
      rintro e w5 ⟨rfl, hk5⟩
      have HK7 := Lib.hid (HKR.out.trans hk5)
      clear hk5
      go_wp2_with fail
      go_ret
      exact ⟨rfl, HK7.out⟩
end Go.Proofs.YtgkgcheegaegnaaDoor

/- Arguments opened: a text, a person. No condition. -/
set_option linter.all false
namespace Go.Proofs.YtgkgcheegaegnaaDoor
open Go.ChangeShapes Go.WideShapes Go.ChangeAt Go.RowKit Go.Joins

/-- Each text of a person has a length that a machine can tell. -/
def Fit4 (q : P4) : Prop := q.1.length ≤ maxLen ∧ q.2.1.length ≤ maxLen ∧ q.2.2.1.length ≤ maxLen ∧ q.2.2.2.length ≤ maxLen
theorem Tryd.cellsPers : Tryd.prog.cellsOf 46 = 4 := by kernel_rfl
section
variable {H : Type} {enc : TypeId × Value → H} {w : World} {base : Nat} {spare : Nat → Bool} {held : Bool}
theorem trod_str {n : Nat} {v : Value} {y : DataW H × List MemPlace} (h : DataW.trod enc Tryd.prog w base spare held n 9 [v] = some y) : ∃ l : Bs, v = .string (bs l) ∧ l.length ≤ maxLen := by
  obtain ⟨s, h1, h2, h3⟩ := DataW.trod_string Tryd.underlying9 h
  simp at h1
  exact ⟨s.data.toList, h1, by simpa using h3⟩
set_option maxRecDepth 100000 in
theorem open_pers {r : Reach} {b0 : Nat} {v : Value} {d : DataW H} {p : List MemPlace} (hv : Value.okWide Tryd.prog w r b0 46 v) (h : DataW.Trod enc Tryd.prog w base spare held 46 v d p) :
    ∃ q : P4, v = p4V q ∧ Fit4 q := by
  obtain ⟨v0, v1, v2, v3, y0, y1, y2, y3, n, rfl, _, _, h0, h1, h2, h3⟩ := open_agg4 Tryd.underlying46 (by kernel_rfl) Tryd.cellsPers hv h
  obtain ⟨a, rfl, ha⟩ := trod_str h0
  obtain ⟨b, rfl, hb⟩ := trod_str h1
  obtain ⟨c, rfl, hc⟩ := trod_str h2
  obtain ⟨d, rfl, hd⟩ := trod_str h3
  exact ⟨(a, b, c, d), rfl, ha, hb, hc, hd⟩
end
end Go.Proofs.YtgkgcheegaegnaaDoor
