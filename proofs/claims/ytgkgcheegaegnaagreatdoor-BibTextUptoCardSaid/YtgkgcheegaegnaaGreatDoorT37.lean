/- weight and small of law30. No condition. -/
import Derived.Test.YtgkgcheegaegnaaGreatDoorT36
import Derived.Deep.RegionHeld3

set_option linter.all false
namespace Go.Proofs.YtgkgcheegaegnaaGreatDoor
open Go.RowKit

def lens (s : SrcT) : Nat := s.key.length + s.type.length + s.author.length + s.editor.length + s.fields.length
/-- Each text of a source, and its lists, have lengths that a machine can tell. -/
def FitS (s : SrcT) : Prop := s.key.length ≤ 140737488355328 ∧ s.type.length ≤ 140737488355328 ∧ s.author.length ≤ 140737488355328 ∧ s.editor.length ≤ 140737488355328 ∧ s.fields.length ≤ 140737488355328 ∧
  (∀ f ∈ s.fields, f.1.length ≤ 140737488355328 ∧ f.2.length ≤ 140737488355328) ∧ ∀ q ∈ s.author ++ s.editor, q.1.length ≤ 140737488355328 ∧ q.2.1.length ≤ 140737488355328 ∧ q.2.2.1.length ≤ 140737488355328 ∧ q.2.2.2.length ≤ 140737488355328
def WeightPost (s : SrcT) (w : World) (e : Ending) (w' : World) : Prop := ∃ m : Int, e = .returned (.int .i64 m) ∧ (lens s : Int) ≤ m ∧ Kept w w'
set_option maxRecDepth 100000 in
set_option maxHeartbeats 6400000 in
theorem weight_any (s : SrcT) (vA vE vF : Value) (w : World) (hA : Perss w vA s.author) (hE : Perss w vE s.editor) (hF : Prs w vF s.fields) (hfit : FitS s) :
    Calls Tryz.prog 31 #[srcV s.key s.type vA vE vF] w (WeightPost s w) := by
  have HA := Lib.hid hA
  have HE := Lib.hid hE
  have HF := Lib.hid hF
  obtain ⟨l1, l2, l3, l4, l5, l6, l7⟩ := hfit
  have HL6 := Lib.hid l6
  have HL7 := Lib.hid l7
  clear l6 l7
  obtain ⟨aA, cA, rfl, zA, zA'⟩ := hA
  obtain ⟨aE, cE, rfl, zE, zE'⟩ := hE
  obtain ⟨aF, cF, rfl, zF, zF'⟩ := hF
  clear zA zA' zE zE' zF zF'
  have HLN : Hid ((lens s : Int) = s.key.length + s.type.length + s.author.length + s.editor.length + s.fields.length) := by show _ = _; unfold lens; omega
  have HBK := Lib.hid (Blk.new w 44 #[.string (bs s.key), .string (bs s.type), .slice aA s.author.length cA, .slice aE s.editor.length cE, .slice aF s.fields.length cF])
  by_cases hbig : 400 < lens s
  · have hbig' : (400 : Int) < s.key.length + s.type.length + s.author.length + s.editor.length + s.fields.length := by unfold lens at hbig; omega
    go_enter Tryz.func31, Tryz.ntmps31
    go_wp2_with fail
    go_ret
    exact ⟨_, rfl, by rw [HLN.out]; omega, kept_alloc _ _⟩
  · have hbig' : ¬ (400 : Int) < s.key.length + s.type.length + s.author.length + s.editor.length + s.fields.length := by unfold lens at hbig; omega
    go_enter Tryz.func31, Tryz.ntmps31
    go_wp2_with fail
    have HK0 := Lib.hid (kept_alloc w (.cells #[.string (bs s.key), .string (bs s.type), .slice aA s.author.length cA, .slice aE s.editor.length cE, .slice aF s.fields.length cF] 44))
    have hsz : (w.alloc (.cells #[.string (bs s.key), .string (bs s.type), .slice aA s.author.length cA, .slice aE s.editor.length cE, .slice aF s.fields.length cF] 44)).heap.size = w.heap.size + 1 := by simp
    generalize w.alloc (.cells #[.string (bs s.key), .string (bs s.type), .slice aA s.author.length cA, .slice aE s.editor.length cE, .slice aF s.fields.length cF] 44) = W0 at *
    have hL0 : (0 : Int) ≤ (lens s : Int) := by omega
    have hL1 : (lens s : Int) ≤ 400 := by omega
    have hfl : s.fields.length ≤ 400 := by unfold lens at hbig; omega
    have hal : s.author.length + s.editor.length ≤ 400 := by unfold lens at hbig; omega
    clear hbig hbig'
    obtain ⟨L, HL⟩ : ∃ L : Int, Hid ((lens s : Int) = L) := ⟨_, rfl⟩
    unfold WeightPost
    rw [HL.out] at HLN hL0 hL1 ⊢
    rw [← HLN.out]
    go_loopw [3, 4] (fun n i wr => ∃ (k : Nat) (m : Int), k ≤ s.fields.length ∧ i = .int .i64 k ∧ n = .int .i64 m ∧ L ≤ m ∧ m ≤ L + 2000 * k ∧ Hid (Kept W0 wr)) (fun _ i _ => s.fields.length - (intOf i).toNat)
    case atStart => exact ⟨0, L, Nat.zero_le _, rfl, rfl, by omega, by omega, Kept.refl _⟩
    case round =>
      obtain ⟨k, m, hk, rfl, rfl, hm1, hm2, HKR⟩ := hrel
      have HBR := Lib.hid (HBK.out.kept HKR.out)
      have b4 : wr.cell? ⟨w.heap.size, 4, none⟩ = some (.slice aF s.fields.length cF) := HBR.out.cell 4 _ rfl
      have z4 := HBR.out.lt
      by_cases hlt : k < s.fields.length
      · obtain ⟨q, hx⟩ : ∃ x, s.fields[k]? = some x := ⟨_, List.getElem?_eq_getElem hlt⟩
        have hq := HL6.out q (List.mem_of_getElem? hx)
        obtain ⟨a', c', hv', hc', h3⟩ := HF.out.kept (HK0.out.trans HKR.out)
        obtain ⟨rfl, hdead, rfl⟩ := Value.slice.inj hv'
        clear hdead hc'
        obtain ⟨g, o, rfl, hg', hcc⟩ := h3 (by omega)
        obtain ⟨c0, c1⟩ := hcc k q hx
        obtain ⟨x, y⟩ := q
        simp only at c0 c1 hq
        obtain ⟨hq1, hq2⟩ := hq
        clear hcc h3 hv' hx
        go_wp2_with fail
        go_region
        all_goals
          go_wp2_with fail
          go_roundw
          case rel => exact ⟨k + 1, m + min (x.length : Int) 1000 + min (y.length : Int) 1000, by omega, by go_num, rfl, by omega, by omega, HKR.out.trans (kept_drewN _ _)⟩
          case measure => simp [intOf]; omega
      · clear l1 l2 l3 l4 l5
        have b2 : wr.cell? ⟨w.heap.size, 2, none⟩ = some (.slice aA s.author.length cA) := HBR.out.cell 2 _ rfl
        have b3 : wr.cell? ⟨w.heap.size, 3, none⟩ = some (.slice aE s.editor.length cE) := HBR.out.cell 3 _ rfl
        have HKW := Lib.hid (HK0.out.trans HKR.out)
        have HPA := Lib.hid (HA.out.kept HKW.out)
        have HPE := Lib.hid (HE.out.kept HKW.out)
        have HC : Hid (∀ w', Kept wr w' → w'.cell? ⟨w.heap.size, 2, none⟩ = some (.slice aA s.author.length cA) ∧ w'.cell? ⟨w.heap.size, 3, none⟩ = some (.slice aE s.editor.length cE) ∧ Kept wr w') := fun w' h => ⟨(h.cell (p := ⟨w.heap.size, 2, none⟩) z4).trans b2, (h.cell (p := ⟨w.heap.size, 3, none⟩) z4).trans b3, h⟩
        have k0 : Kept wr (wr.drew.alloc (.cells #[] 36)) := (kept_drewN wr 1).trans (kept_alloc _ _)
        have k00 : Kept wr wr.drew := kept_drewN wr 1
        have HO0 := Lib.hid (World.ownsRow_made (size := 4) (e := 36) wr.drew #[] 0 (Nat.le_refl _) (by unfold maxLen; omega) (by simp))
        go_wp2_with fail
        go_region_held3 (fun w' => w'.cell? ⟨w.heap.size, 2, none⟩ = some (.slice aA s.author.length cA) ∧ w'.cell? ⟨w.heap.size, 3, none⟩ = some (.slice aE s.editor.length cE) ∧ Kept wr w')
          ((refine HC.out _ ?_; assumption))
          (first
            | (refine step_append_pers _ rfl (.tmp 58) (.tmp 60) rfl wr.heap.size v1 s.author (by simp [Act.eval, Act.put]) HO1.out _ s.editor (by simp [Act.eval, Act.put]) (HPE.out.kept k1) (by omega) k1.size ?_; intro v2 w2 hown2 hgrow2; have HO2 := Lib.hid hown2; have k2 : Kept wr w2 := k1.trans' (grown_below HO1.out hgrow2 k1.size); clear hown2 hgrow2)
            | (refine step_append_pers _ rfl (.tmp 55) (.tmp 57) rfl wr.heap.size _ [] (by simp [Act.eval, Act.put]) HO0.out _ s.author (by simp [Act.eval, Act.put]) (HPA.out.kept k0) (by simp; omega) k0.size ?_; intro v1 w1 hown1 hgrow1; have HO1 : Hid (w1.ownsRow wr.heap.size 36 4 v1 s.author.length (persC s.author)) := hown1; have k1 : Kept wr w1 := k0.trans' (grown_below HO0.out hgrow1 k0.size); clear hown1 hgrow1))
        all_goals
          have HV2 := Lib.hid (Perss.own HO2.out)
          obtain ⟨a2, c2, rfl, hc2, _⟩ := HV2.out
          have hln : (s.author ++ s.editor).length ≤ 400 := by rw [List.length_append]; omega
          have hm3 : m ≤ 801000 := by omega
          have HKZ := Lib.hid (HKW.out.trans k2)
          clear k0 k00 k1 k2 HO0 HO1 HO2 b2 b3 b4 z4 hm2
          generalize s.author ++ s.editor = ps at *
          go_wp2_with fail
          go_loopw [3, 6] (fun n i wz => ∃ (j : Nat) (t : Int), j ≤ ps.length ∧ i = .int .i64 j ∧ n = .int .i64 t ∧ L ≤ t ∧ t ≤ 801000 + 4000 * j ∧ Hid (Kept w2 wz)) (fun _ i _ => ps.length - (intOf i).toNat)
          case atStart => exact ⟨0, m, Nat.zero_le _, rfl, rfl, by omega, by omega, Kept.refl _⟩
          case round =>
            obtain ⟨j, t, hj, rfl, rfl, ht1, ht2, HKJ⟩ := hrel
            by_cases hlt2 : j < ps.length
            · obtain ⟨q, hx⟩ : ∃ x, ps[j]? = some x := ⟨_, List.getElem?_eq_getElem hlt2⟩
              have hq := HL7.out q (List.mem_of_getElem? hx)
              obtain ⟨a', c', hv', hc', h3⟩ := HV2.out.kept HKJ.out
              obtain ⟨rfl, hdead, rfl⟩ := Value.slice.inj hv'
              clear hdead hc'
              obtain ⟨g, o, rfl, hg', hcc⟩ := h3 (by omega)
              obtain ⟨c0, c1, e2, e3⟩ := hcc j q hx
              obtain ⟨q1, q2, q3, q4⟩ := q
              simp only at c0 c1 e2 e3 hq
              obtain ⟨hq1, hq2, hq3, hq4⟩ := hq
              clear hcc h3 hv' hx
              go_wp2_with fail
              go_region
              all_goals
                go_wp2_with fail
                go_roundw
                case rel => exact ⟨j + 1, t + min (q1.length : Int) 1000 + min (q2.length : Int) 1000 + min (q3.length : Int) 1000 + min (q4.length : Int) 1000, by omega, by go_num, rfl, by omega, by omega, HKJ.out.trans (kept_drewN _ _)⟩
                case measure => simp [intOf]; omega
            · go_wp2_with fail
              go_ret
              exact ⟨_, rfl, by rw [HL.out]; omega, HKZ.out.trans HKJ.out⟩
end Go.Proofs.YtgkgcheegaegnaaGreatDoor

/- small of law30: where it answers true, the lists are short. No condition. -/
set_option linter.all false
namespace Go.Proofs.YtgkgcheegaegnaaGreatDoor
open Go.RowKit

def SmallPost (ss : List SrcT) (w : World) (e : Ending) (w' : World) : Prop := ∃ b : Bool, e = .returned (.bool b) ∧ (b = true → ss.length ≤ 30 ∧ ∀ s ∈ ss, lens s ≤ 1500) ∧ Kept w w'
theorem small_step (ss : List SrcT) (k : Nat) (s : SrcT) (hx : ss[k]? = some s) (h : ∀ x ∈ ss.take k, lens x ≤ 1500) (hs : lens s ≤ 1500) : ∀ x ∈ ss.take (k + 1), lens x ≤ 1500 := by
  intro x hxm
  obtain ⟨hk', rfl⟩ := List.getElem?_eq_some_iff.1 hx
  rw [List.take_succ_eq_append_getElem hk'] at hxm
  rcases List.mem_append.1 hxm with q | q
  · exact h x q
  · simp at q; subst q; exact hs
set_option maxRecDepth 100000 in
set_option maxHeartbeats 3200000 in
theorem small_any (v : Value) (ss : List SrcT) (w : World) (hv : Srcs w v ss) (hl : ss.length ≤ 140737488355328) (hfit : ∀ s ∈ ss, FitS s) :
    Calls Tryz.prog 10 #[v] w (SmallPost ss w) := by
  have HV := Lib.hid hv
  obtain ⟨a, c, rfl, hc, h3⟩ := hv
  clear h3
  unfold SmallPost
  by_cases hbig : 30 < ss.length
  · go_enter Tryz.func10, Tryz.ntmps10
    go_wp2_with fail
    go_ret
    exact ⟨false, rfl, fun h => by simp at h, Kept.refl _⟩
  · go_enter Tryz.func10, Tryz.ntmps10
    go_wp2_with fail
    go_loopw [3] (fun i wr => ∃ k : Nat, k ≤ ss.length ∧ i = .int .i64 k ∧ Hid (∀ x ∈ ss.take k, lens x ≤ 1500) ∧ Hid (Kept w wr)) (fun i _ => ss.length - (intOf i).toNat)
    case atStart => exact ⟨0, Nat.zero_le _, rfl, (fun x h => by simp at h), Kept.refl _⟩
    case round =>
      obtain ⟨k, hk, rfl, HN, HKR⟩ := hrel
      by_cases hlt : k < ss.length
      · obtain ⟨s, hx⟩ : ∃ x, ss[k]? = some x := ⟨_, List.getElem?_eq_getElem hlt⟩
        have HST := Lib.hid (small_step ss k s hx HN.out)
        have hf := hfit s (List.mem_of_getElem? hx)
        obtain ⟨a', c', hv', hc', h3⟩ := HV.out.kept HKR.out
        obtain ⟨rfl, hdead, rfl⟩ := Value.slice.inj hv'
        clear hdead hc'
        obtain ⟨g, o, rfl, hg', hcc⟩ := h3 (by omega)
        obtain ⟨vA, vE, vF, d0, d1, d2, d3, d4, pA, pE, pF⟩ := hcc k s hx
        have HW := Lib.hid (fun w' (h : Kept wr w') => weight_any s vA vE vF w' (pA.kept h) (pE.kept h) (pF.kept h) hf)
        unfold WeightPost at HW
        obtain ⟨aA, cA, rfl, zA, zA'⟩ := pA
        obtain ⟨aE, cE, rfl, zE, zE'⟩ := pE
        obtain ⟨aF, cF, rfl, zF, zF'⟩ := pF
        clear zA zA' zE zE' zF zF' hcc h3 hv' hx hf
        go_wp2_with fail
        refine (HW.out _ (Kept.refl _)).mono ?_
        rintro e w1 ⟨m, rfl, hm, hk1⟩
        have HK1 := Lib.hid (HKR.out.trans hk1)
        clear hk1 d0 d1 d2 d3 d4 hg'
        by_cases hm2 : 1500 < m
        · go_wp2_with fail
          go_ret
          exact ⟨false, rfl, fun h => by simp at h, HK1.out⟩
        · have HS2 := Lib.hid (HST.out (by omega))
          clear hm
          go_wp2_with fail
          go_roundw
          case rel => exact ⟨k + 1, by omega, by go_num, HS2.out, HK1.out⟩
          case measure => simp [intOf]; omega
      · have HE : Hid (∀ x ∈ ss, lens x ≤ 1500) := by have h := HN.out; rw [List.take_of_length_le (by omega)] at h; exact h
        go_wp2_with fail
        go_ret
        exact ⟨true, rfl, fun _ => ⟨by omega, HE.out⟩, HKR.out⟩
end Go.Proofs.YtgkgcheegaegnaaGreatDoor
