/- persons and same of law30, Pairs of ref04, at equal lists. Conditions: lengths. -/
import Derived.Test.YteflhlbgbgamnaaGreatDoorT25
import Derived.Test.YteflhlbgbgamnaaGreatDoorT33
import Derived.Test.YteflhlbgbgamnaaGreatDoorT43
import Derived.Test.YteflhlbgbgamnaaGreatDoorT44

set_option linter.all false
namespace Go.Proofs.YteflhlbgbgamnaaGreatDoor
open Go.RowKit

set_option maxRecDepth 100000 in
set_option maxHeartbeats 1600000 in
theorem persons_eq (v v' : Value) (ps : List P4) (w : World) (hv : Perss w v ps) (hv' : Perss w v' ps) (hN : ps.length ≤ 1100000) :
    Calls Tryz.prog 18 #[v, v'] w fun e w' => e = .returned (.bool true) ∧ Kept w w' := by
  have HV := Lib.hid hv
  have HV2 := Lib.hid hv'
  obtain ⟨a, c, rfl, hc, h3⟩ := hv
  obtain ⟨b, d, rfl, hd, h4⟩ := hv'
  clear h3 h4
  go_enter Tryz.func18, Tryz.ntmps18
  go_wp2_with fail
  go_loopw [5] (fun i wr => ∃ k : Nat, k ≤ ps.length ∧ i = .int .i64 k ∧ Kept w wr) (fun i _ => ps.length - (intOf i).toNat)
  case atStart => exact ⟨0, Nat.zero_le _, rfl, Kept.refl _⟩
  case round =>
    obtain ⟨k, hk, rfl, hkr⟩ := hrel
    have HR := Lib.hid hkr
    by_cases hlt : k < ps.length
    · obtain ⟨q, hx⟩ : ∃ x, ps[k]? = some x := ⟨_, List.getElem?_eq_getElem hlt⟩
      obtain ⟨a', c', hva, _, h3⟩ := HV.out.kept hkr
      obtain ⟨rfl, hdead, rfl⟩ := Value.slice.inj hva
      clear hdead
      obtain ⟨b', d', hvb, _, h4⟩ := HV2.out.kept hkr
      obtain ⟨rfl, hdead, rfl⟩ := Value.slice.inj hvb
      clear hdead
      obtain ⟨g, o, rfl, hg, hcc⟩ := h3 (by omega)
      obtain ⟨g2, o2, rfl, hg2, hcc2⟩ := h4 (by omega)
      obtain ⟨c0, c1, c2, c3⟩ := hcc k q hx
      obtain ⟨d0, d1, d2, d3⟩ := hcc2 k q hx
      clear hkr hcc hcc2 h3 h4 hva hvb hx
      obtain ⟨q1, q2, q3, q4⟩ := q
      simp only at c0 c1 c2 c3 d0 d1 d2 d3
      go_wp2_with fail
      go_region
      all_goals
        go_wp2_with fail
        go_roundw
        case rel => exact ⟨k + 1, by omega, by go_num, HR.out.trans (kept_drewN _ _)⟩
        case measure => simp [intOf]; omega
    · clear hkr
      go_wp2_with fail
      go_ret
      exact ⟨rfl, HR.out⟩
set_option maxRecDepth 100000 in
set_option maxHeartbeats 1600000 in
theorem pairs_eq (v v' : Value) (ps : List Pr) (w : World) (hv : Prs w v ps) (hv' : Prs w v' ps) (hN : ps.length ≤ 1100000) :
    Calls Tryz.prog 48 #[v, v'] w fun e w' => e = .returned (.bool true) ∧ Kept w w' := by
  have HV := Lib.hid hv
  have HV2 := Lib.hid hv'
  obtain ⟨a, c, rfl, hc, h3⟩ := hv
  obtain ⟨b, d, rfl, hd, h4⟩ := hv'
  clear h3 h4
  go_enter Tryz.func48, Tryz.ntmps48
  go_wp2_with fail
  go_loopw [5] (fun i wr => ∃ k : Nat, k ≤ ps.length ∧ i = .int .i64 k ∧ Kept w wr) (fun i _ => ps.length - (intOf i).toNat)
  case atStart => exact ⟨0, Nat.zero_le _, rfl, Kept.refl _⟩
  case round =>
    obtain ⟨k, hk, rfl, hkr⟩ := hrel
    have HR := Lib.hid hkr
    by_cases hlt : k < ps.length
    · obtain ⟨q, hx⟩ : ∃ x, ps[k]? = some x := ⟨_, List.getElem?_eq_getElem hlt⟩
      obtain ⟨a', c', hva, _, h3⟩ := HV.out.kept hkr
      obtain ⟨rfl, hdead, rfl⟩ := Value.slice.inj hva
      clear hdead
      obtain ⟨b', d', hvb, _, h4⟩ := HV2.out.kept hkr
      obtain ⟨rfl, hdead, rfl⟩ := Value.slice.inj hvb
      clear hdead
      obtain ⟨g, o, rfl, hg, hcc⟩ := h3 (by omega)
      obtain ⟨g2, o2, rfl, hg2, hcc2⟩ := h4 (by omega)
      obtain ⟨c0, c1⟩ := hcc k q hx
      obtain ⟨d0, d1⟩ := hcc2 k q hx
      clear hkr hcc hcc2 h3 h4 hva hvb hx
      obtain ⟨q1, q2⟩ := q
      simp only at c0 c1 d0 d1
      go_wp2_with fail
      go_region
      all_goals
        go_wp2_with fail
        go_roundw
        case rel => exact ⟨k + 1, by omega, by go_num, HR.out.trans (kept_drewN _ _)⟩
        case measure => simp [intOf]; omega
    · clear hkr
      go_wp2_with fail
      go_ret
      exact ⟨rfl, HR.out⟩
theorem two_cells {w w' : World} {g g2 a0 a1 a2 a3 a4 b0 b1 b2 b3 b4 : Nat} {u0 u1 u2 u3 u4 v0 v1 v2 v3 v4 : Option Value} (hg : g < w.heap.size) (hg2 : g2 < w.heap.size) (k : Kept w w')
    (h : w.cell? ⟨g, a0, none⟩ = u0 ∧ w.cell? ⟨g, a1, none⟩ = u1 ∧ w.cell? ⟨g, a2, none⟩ = u2 ∧ w.cell? ⟨g, a3, none⟩ = u3 ∧ w.cell? ⟨g, a4, none⟩ = u4)
    (h2 : w.cell? ⟨g2, b0, none⟩ = v0 ∧ w.cell? ⟨g2, b1, none⟩ = v1 ∧ w.cell? ⟨g2, b2, none⟩ = v2 ∧ w.cell? ⟨g2, b3, none⟩ = v3 ∧ w.cell? ⟨g2, b4, none⟩ = v4) :
    w'.cell? ⟨g, a0, none⟩ = u0 ∧ w'.cell? ⟨g, a1, none⟩ = u1 ∧ w'.cell? ⟨g, a2, none⟩ = u2 ∧ w'.cell? ⟨g, a3, none⟩ = u3 ∧ w'.cell? ⟨g, a4, none⟩ = u4 ∧
    w'.cell? ⟨g2, b0, none⟩ = v0 ∧ w'.cell? ⟨g2, b1, none⟩ = v1 ∧ w'.cell? ⟨g2, b2, none⟩ = v2 ∧ w'.cell? ⟨g2, b3, none⟩ = v3 ∧ w'.cell? ⟨g2, b4, none⟩ = v4 := by
  obtain ⟨h0, h1, h3, h4, h5⟩ := h
  obtain ⟨q0, q1, q3, q4, q5⟩ := h2
  exact ⟨(k.cell (p := ⟨g, a0, none⟩) hg).trans h0, (k.cell (p := ⟨g, a1, none⟩) hg).trans h1, (k.cell (p := ⟨g, a2, none⟩) hg).trans h3, (k.cell (p := ⟨g, a3, none⟩) hg).trans h4, (k.cell (p := ⟨g, a4, none⟩) hg).trans h5, (k.cell (p := ⟨g2, b0, none⟩) hg2).trans q0, (k.cell (p := ⟨g2, b1, none⟩) hg2).trans q1, (k.cell (p := ⟨g2, b2, none⟩) hg2).trans q3, (k.cell (p := ⟨g2, b3, none⟩) hg2).trans q4, (k.cell (p := ⟨g2, b4, none⟩) hg2).trans q5⟩
set_option maxRecDepth 100000 in
set_option maxHeartbeats 6400000 in
theorem same_eq (v v' : Value) (ss : List SrcT) (w : World) (hv : Srcs w v ss) (hv' : Srcs w v' ss) (hN : ss.length ≤ 1100000) (hS : ∀ s ∈ ss, s.author.length ≤ 1100000 ∧ s.editor.length ≤ 1100000 ∧ s.fields.length ≤ 1100000) :
    Calls Tryz.prog 14 #[v, v'] w fun e w' => e = .returned (.bool true) ∧ Kept w w' := by
  have HV := Lib.hid hv
  have HV2 := Lib.hid hv'
  obtain ⟨a, c, rfl, hc, h3⟩ := hv
  obtain ⟨b, d, rfl, hd, h4⟩ := hv'
  clear h3 h4
  go_enter Tryz.func14, Tryz.ntmps14
  go_wp2_with fail
  go_loopw [5] (fun i wr => ∃ k : Nat, k ≤ ss.length ∧ i = .int .i64 k ∧ Kept w wr) (fun i _ => ss.length - (intOf i).toNat)
  case atStart => exact ⟨0, Nat.zero_le _, rfl, Kept.refl _⟩
  case round =>
    obtain ⟨k, hk, rfl, hkr⟩ := hrel
    have HR := Lib.hid hkr
    by_cases hlt : k < ss.length
    · obtain ⟨s, hx⟩ : ∃ x, ss[k]? = some x := ⟨_, List.getElem?_eq_getElem hlt⟩
      obtain ⟨l1, l2, l3⟩ := hS s (List.mem_of_getElem? hx)
      obtain ⟨a', c', hva, _, h3⟩ := HV.out.kept hkr
      obtain ⟨rfl, hdead, rfl⟩ := Value.slice.inj hva
      clear hdead
      obtain ⟨b', d', hvb, _, h4⟩ := HV2.out.kept hkr
      obtain ⟨rfl, hdead, rfl⟩ := Value.slice.inj hvb
      clear hdead
      obtain ⟨g, o, rfl, hg, hcc⟩ := h3 (by omega)
      obtain ⟨g2, o2, rfl, hg2, hcc2⟩ := h4 (by omega)
      obtain ⟨vA, vE, vF, c0, c1, c2, c3, c4, pA, pE, pF⟩ := hcc k s hx
      obtain ⟨uA, uE, uF, d0, d1, d2, d3, d4, qA, qE, qF⟩ := hcc2 k s hx
      have HPA : Hid (∀ w', Kept wr w' → Calls Tryz.prog 18 #[vA, uA] w' fun e w2 => e = .returned (.bool true) ∧ Kept w' w2) := fun w' h => persons_eq vA uA s.author w' (pA.kept h) (qA.kept h) l1
      have HPE : Hid (∀ w', Kept wr w' → Calls Tryz.prog 18 #[vE, uE] w' fun e w2 => e = .returned (.bool true) ∧ Kept w' w2) := fun w' h => persons_eq vE uE s.editor w' (pE.kept h) (qE.kept h) l2
      have HPF : Hid (∀ w', Kept wr w' → Calls Tryz.prog 48 #[vF, uF] w' fun e w2 => e = .returned (.bool true) ∧ Kept w' w2) := fun w' h => pairs_eq vF uF s.fields w' (pF.kept h) (qF.kept h) l3
      have HC := Lib.hid (fun w' (h : Kept wr w') => two_cells hg hg2 h ⟨c0, c1, c2, c3, c4⟩ ⟨d0, d1, d2, d3, d4⟩)
      have e0 : Kept wr wr.drew := kept_drewN wr 1
      clear hkr hcc hcc2 h3 h4 hva hvb hx pA pE pF qA qE qF l1 l2 l3
      obtain ⟨key, type, au, ed, fs⟩ := s
      simp only at c0 c1 d0 d1 HC
      go_wp2_with fail
      simp only [List.append]
      go_region_held3 (fun w' => (w'.cell? ⟨g, o + k * 5, none⟩ = some (.string (bs key)) ∧ w'.cell? ⟨g, o + k * 5 + 1, none⟩ = some (.string (bs type)) ∧ w'.cell? ⟨g, o + k * 5 + 2, none⟩ = some vA ∧ w'.cell? ⟨g, o + k * 5 + 3, none⟩ = some vE ∧ w'.cell? ⟨g, o + k * 5 + 4, none⟩ = some vF ∧
          w'.cell? ⟨g2, o2 + k * 5, none⟩ = some (.string (bs key)) ∧ w'.cell? ⟨g2, o2 + k * 5 + 1, none⟩ = some (.string (bs type)) ∧ w'.cell? ⟨g2, o2 + k * 5 + 2, none⟩ = some uA ∧ w'.cell? ⟨g2, o2 + k * 5 + 3, none⟩ = some uE ∧ w'.cell? ⟨g2, o2 + k * 5 + 4, none⟩ = some uF) ∧ Kept wr w')
        ((refine ⟨HC.out _ ?_, ?_⟩ <;> assumption))
        (first
          | (go_at_call 18; refine (HPE.out _ e1).mono ?_; rintro e w3 ⟨rfl, hk⟩; have e2 := e1.trans hk; clear hk)
          | (go_at_call 18; refine (HPA.out _ e0).mono ?_; rintro e w2 ⟨rfl, hk⟩; have e1 := e0.trans hk; clear hk)
          | (go_at_call 48; refine (HPF.out _ e2).mono ?_; rintro e w4 ⟨rfl, hk⟩; have e3 := e2.trans hk; clear hk))
      all_goals
        go_wp2_with fail
        go_roundw
        case rel => exact ⟨k + 1, by omega, by go_num, HR.out.trans e3⟩
        case measure => simp [intOf]; omega
    · clear hkr
      go_wp2_with fail
      go_ret
      exact ⟨rfl, HR.out⟩
end Go.Proofs.YteflhlbgbgamnaaGreatDoor

/- The law BibParse answers true of every text. No condition. -/
set_option linter.all false
namespace Go.Proofs.YteflhlbgbgamnaaGreatDoor
open Go.RowKit

set_option maxRecDepth 100000 in
set_option maxHeartbeats 6400000 in
theorem lbparse_any (l : Bs) (w : World) (hg : Gnd w) (hfit : l.length ≤ maxLen) : Calls Tryz.prog 3 #[.string (bs l)] w fun e w' => e = .returned (.bool true) ∧ Kept w w' := by
  unfold maxLen at hfit
  have HG := Lib.hid hg
  clear hg
  have HAW : Hid (∀ w', Kept w w' → Calls Tryz.prog 11 #[] w' fun e w2 => e = .returned (.bool true) ∧ Kept w' w2) := fun w' h => bawake_any w' (HG.out.kept h)
  by_cases hlen : 2000 < l.length
  · go_enter Tryz.func3, Tryz.ntmps3
    go_wp2_with fail
    refine (HAW.out _ (Kept.refl _)).mono ?_
    rintro e w2 ⟨rfl, hk⟩
    go_wp2_with fail
    go_ret
    exact ⟨rfl, hk⟩
  · have HP := Lib.hid (bparse_any l w HG.out (by omega))
    have HRP := Lib.hid (fun w => rbparse_any l w (by omega))
    unfold BibPost at HP HRP
    have HRD := Lib.hid (bib_read l)
    have HNL := Lib.hid (bib_nil l)
    obtain ⟨R, HR⟩ : ∃ R, Hid (bibR l = R) := ⟨_, rfl⟩
    rw [HR.out] at HP HRD HNL
    simp only [HR.out] at HRP
    obtain ⟨ss, n, e0⟩ := R
    simp only at HP HRP HRD HNL
    have HSA : Hid (∀ w' v v', Srcs w' v ss → Srcs w' v' ss → Calls Tryz.prog 14 #[v, v'] w' fun e w2 => e = .returned (.bool true) ∧ Kept w' w2) := by
      by_cases he : e0 = 0
      · obtain ⟨hn, hck, hw⟩ := HRD.out he
        have hlw : listW ss ≤ 80000 := by omega
        have hsm := small_of ss (by omega)
        have hsl : ss.length ≤ 256 := (chk_src ss hck).1
        exact fun w' v v' h h' => same_eq v v' ss w' h h' (by omega) (fun s hs => ⟨(hsm s hs).2.2.2.1, (hsm s hs).2.2.2.2.1, (hsm s hs).2.2.2.2.2.1⟩)
      · obtain rfl := HNL.out he
        exact fun w' v v' h h' => same_eq v v' [] w' h h' (by simp) (fun s hs => by cases hs)
    clear HRD HNL hfit
    go_enter Tryz.func3, Tryz.ntmps3
    go_wp2_with fail
    refine HP.out.mono ?_
    rintro e w1 ⟨v1, rfl, hs1, hk1⟩
    have HS1 := Lib.hid hs1
    have HK1 := Lib.hid hk1
    clear hs1 hk1
    go_wp2_with fail
    refine (HRP.out _).mono ?_
    rintro e w2 ⟨v2, rfl, hs2, hk2⟩
    have HS2 := Lib.hid (HS1.out.kept hk2)
    have HT2 := Lib.hid hs2
    have HK2 := Lib.hid (HK1.out.trans hk2)
    clear hk2 hs2
    go_wp2_with fail
    refine (HSA.out _ _ _ HS2.out HT2.out).mono ?_
    rintro e w5 ⟨rfl, hk5⟩
    have HK5 := Lib.hid (HK2.out.trans hk5)
    clear hk5
    go_wp2_with fail
    refine (HAW.out _ HK5.out).mono ?_
    rintro e w6 ⟨rfl, hk6⟩
    have HK6 := Lib.hid (HK5.out.trans hk6)
    clear hk6
    go_wp2_with fail
    go_ret
    exact ⟨rfl, HK6.out⟩
end Go.Proofs.YteflhlbgbgamnaaGreatDoor
