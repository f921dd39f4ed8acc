/- Same of publisherref25 at equal collations. Conditions: lengths. -/
import Derived.Test.YteflhlbgbgamnaaGreatDoorK18
import Derived.Test.YteflhlbgbgamnaaGreatDoorK31
import Derived.Test.YteflhlbgbgamnaaGreatDoorK33

set_option linter.all false
namespace Go.Proofs.YteflhlbgbgamnaaGreatDoor
open Go.RowKit

set_option maxRecDepth 100000 in
set_option maxHeartbeats 3200000 in
theorem csame_eq (vR vO uR uO : Value) (c : ColT) (w : World) (hv : Col w vR vO c) (hu : Col w uR uO c) (h1 : c.ranks.length ≤ 1000000) (h2 : c.order.length ≤ 1000000) :
    Calls Tryz.prog 25 #[colV vR vO c.ignore, colV uR uO c.ignore] w fun e w' => e = .returned (.bool true) ∧ Kept w w' := by
  obtain ⟨hR, hO⟩ := hv
  obtain ⟨gR, gO⟩ := hu
  have HR := Lib.hid hR
  have HO := Lib.hid hO
  have HR2 := Lib.hid gR
  have HO2 := Lib.hid gO
  obtain ⟨aR, cR, rfl, lR⟩ := hR.form
  obtain ⟨aO, cO, rfl, lO⟩ := hO.form
  obtain ⟨aR2, cR2, rfl, lR2⟩ := gR.form
  obtain ⟨aO2, cO2, rfl, lO2⟩ := gO.form
  clear hR hO gR gO
  have HB1 : Hid (Blk ((w.alloc (.cells #[.slice aR c.ranks.length cR, .slice aO c.order.length cO, .string (bs c.ignore)] 42)).alloc (.cells #[.slice aR2 c.ranks.length cR2, .slice aO2 c.order.length cO2, .string (bs c.ignore)] 42)) w.heap.size 42 #[.slice aR c.ranks.length cR, .slice aO c.order.length cO, .string (bs c.ignore)]) := (Blk.new w _ _).alloc _
  have HB2 : Hid (Blk ((w.alloc (.cells #[.slice aR c.ranks.length cR, .slice aO c.order.length cO, .string (bs c.ignore)] 42)).alloc (.cells #[.slice aR2 c.ranks.length cR2, .slice aO2 c.order.length cO2, .string (bs c.ignore)] 42)) (w.heap.size + 1) 42 #[.slice aR2 c.ranks.length cR2, .slice aO2 c.order.length cO2, .string (bs c.ignore)]) := by
    have h := Blk.new (w.alloc (.cells #[.slice aR c.ranks.length cR, .slice aO c.order.length cO, .string (bs c.ignore)] 42)) 42 #[.slice aR2 c.ranks.length cR2, .slice aO2 c.order.length cO2, .string (bs c.ignore)]
    show Blk _ _ _ _
    simpa using h
  have HK : Hid (Kept w ((w.alloc (.cells #[.slice aR c.ranks.length cR, .slice aO c.order.length cO, .string (bs c.ignore)] 42)).alloc (.cells #[.slice aR2 c.ranks.length cR2, .slice aO2 c.order.length cO2, .string (bs c.ignore)] 42))) := (kept_alloc _ _).trans (kept_alloc _ _)
  go_enter Tryz.func25, Tryz.ntmps25
  go_wp2_with fail
  generalize (w.alloc (.cells #[.slice aR c.ranks.length cR, .slice aO c.order.length cO, .string (bs c.ignore)] 42)).alloc (.cells #[.slice aR2 c.ranks.length cR2, .slice aO2 c.order.length cO2, .string (bs c.ignore)] 42) = w0 at *
  go_loopw [5] (fun i wr => ∃ k : Nat, k ≤ c.order.length ∧ i = .int .i64 k ∧ Hid (Kept w0 wr)) (fun i _ => c.order.length - (intOf i).toNat)
  case atStart => exact ⟨0, Nat.zero_le _, rfl, Kept.refl _⟩
  case round =>
    obtain ⟨k, hk, rfl, HKR⟩ := hrel
    have b1 : wr.cell? ⟨w.heap.size, 1, none⟩ = some (.slice aO c.order.length cO) := (HB1.out.kept HKR.out).cell 1 _ rfl
    have b2 : wr.cell? ⟨w.heap.size + 1, 1, none⟩ = some (.slice aO2 c.order.length cO2) := (HB2.out.kept HKR.out).cell 1 _ rfl
    have z1 := (HB1.out.kept HKR.out).lt
    have z2 := (HB2.out.kept HKR.out).lt
    by_cases hlt : k < c.order.length
    · obtain ⟨s, hx⟩ : ∃ x, c.order[k]? = some x := ⟨_, List.getElem?_eq_getElem hlt⟩
      obtain ⟨g, o, rfl, hg, d0, _, _⟩ := (HO.out.kept (HK.out.trans HKR.out)).cell_of k s hx
      obtain ⟨g2, o2, rfl, hg2, d1, _, _⟩ := (HO2.out.kept (HK.out.trans HKR.out)).cell_of k s hx
      clear hx
      go_wp2_with fail
      go_region
      all_goals
        go_wp2_with fail
        go_roundw
        case rel => exact ⟨k + 1, by omega, by go_num, HKR.out.trans (kept_drewN _ _)⟩
        case measure => simp [intOf]; omega
    · go_wp2_with fail
      clear b1 b2 z1 z2
      go_loopw [6] (fun i wr2 => ∃ k : Nat, k ≤ c.ranks.length ∧ i = .int .i64 k ∧ Hid (Kept w0 wr2)) (fun i _ => c.ranks.length - (intOf i).toNat)
      case atStart => exact ⟨0, Nat.zero_le _, rfl, HKR.out⟩
      case round =>
        clear HKR
        obtain ⟨j, hj, rfl, HKR⟩ := hrel
        have b1 : wr.cell? ⟨w.heap.size, 0, none⟩ = some (.slice aR c.ranks.length cR) := (HB1.out.kept HKR.out).cell 0 _ rfl
        have b2 : wr.cell? ⟨w.heap.size + 1, 0, none⟩ = some (.slice aR2 c.ranks.length cR2) := (HB2.out.kept HKR.out).cell 0 _ rfl
        have z1 := (HB1.out.kept HKR.out).lt
        have z2 := (HB2.out.kept HKR.out).lt
        by_cases hlt2 : j < c.ranks.length
        · obtain ⟨p, hx⟩ : ∃ x, c.ranks[j]? = some x := ⟨_, List.getElem?_eq_getElem hlt2⟩
          obtain ⟨g, o, rfl, hg, d0, d1, _, _⟩ := (HR.out.kept (HK.out.trans HKR.out)).cell_of j p hx
          obtain ⟨g2, o2, rfl, hg2, d2, d3, _, _⟩ := (HR2.out.kept (HK.out.trans HKR.out)).cell_of j p hx
          obtain ⟨q1, q2⟩ := p
          simp only at d0 d1 d2 d3
          clear hx
          go_wp2_with fail
          go_region
          all_goals
            go_wp2_with fail
            go_roundw
            case rel => exact ⟨j + 1, by omega, by go_num, HKR.out.trans (kept_drewN _ _)⟩
            case measure => simp [intOf]; omega
        · go_wp2_with fail
          go_ret
          exact ⟨rfl, HK.out.trans HKR.out⟩
end Go.Proofs.YteflhlbgbgamnaaGreatDoor

/- The law CollateParses answers true of every text. No condition. -/
set_option linter.all false
namespace Go.Proofs.YteflhlbgbgamnaaGreatDoor
open Go.RowKit

theorem colR_good : ∀ (ls : List Bs) (n : Nat) (c : ColT), colE c = 0 → colE (colR ls n c).1 = 0
  | [], n, c, h => h
  | l :: ls, n, c, h => by
    rw [colR]
    split
    · exact colR_good ls _ c h
    · split
      · exact colE_zero
      · split
        · exact colE_zero
        · exact colR_good ls _ _ (Classical.not_not.1 (by assumption))
set_option maxRecDepth 100000 in
set_option maxHeartbeats 6400000 in
theorem lcparse_any (l : Bs) (w : World) (hg : Gnd w) (hfit : l.length ≤ maxLen) : Calls Tryz.prog 6 #[.string (bs l)] w fun e w' => e = .returned (.bool true) ∧ Kept w w' := by
  unfold maxLen at hfit
  have HG := Lib.hid hg
  clear hg
  have HAW : Hid (∀ w', Kept w w' → Calls Tryz.prog 20 #[] w' fun e w2 => e = .returned (.bool true) ∧ Kept w' w2) := fun w' h => cawake_any w' (HG.out.kept h)
  by_cases hlen : 600 < l.length
  · go_enter Tryz.func6, Tryz.ntmps6
    go_wp2_with fail
    refine (HAW.out _ (Kept.refl _)).mono ?_
    rintro e w2 ⟨rfl, hk⟩
    go_wp2_with fail
    go_ret
    exact ⟨rfl, hk⟩
  · have HP := Lib.hid (cparse_any l w HG.out (by omega))
    have HRP := Lib.hid (fun w => rcparse_any l w (by omega))
    have HGD := Lib.hid (colR_good (linesL l) 0 zeroC colE_zero)
    generalize colR (linesL l) 0 zeroC = R at *
    obtain ⟨c, n, e0⟩ := R
    have HSM := Lib.hid (colE_small HGD.out)
    simp only at HSM
    have HSA : Hid (∀ w' vR vO uR uO, Col w' vR vO c → Col w' uR uO c → Calls Tryz.prog 25 #[colV vR vO c.ignore, colV uR uO c.ignore] w' fun e w2 => e = .returned (.bool true) ∧ Kept w' w2) :=
      fun w' vR vO uR uO h h' => csame_eq vR vO uR uO c w' h h' (by have := HSM.out.2.1; omega) (by have := HSM.out.1; omega)
    clear HGD HSM hfit
    unfold CParP at HP HRP
    simp only at HP HRP
    go_enter Tryz.func6, Tryz.ntmps6
    go_wp2_with fail
    refine HP.out.mono ?_
    rintro e w1 ⟨vR, vO, rfl, hs1, hk1⟩
    have HS1 := Lib.hid hs1
    have HK1 := Lib.hid hk1
    obtain ⟨⟨aR, cR, rfl, -⟩, ⟨aO, cO, rfl, -⟩⟩ := hs1
    clear hk1
    go_wp2_with fail
    have HB1 := Lib.hid (Blk.new w1 42 #[.slice aR c.ranks.length cR, .slice aO c.order.length cO, .string (bs c.ignore)])
    have HS2 := Lib.hid (HS1.out.kept (kept_alloc w1 (.cells #[.slice aR c.ranks.length cR, .slice aO c.order.length cO, .string (bs c.ignore)] 42)))
    have HK2 := Lib.hid (HK1.out.trans (kept_alloc w1 (.cells #[.slice aR c.ranks.length cR, .slice aO c.order.length cO, .string (bs c.ignore)] 42)))
    generalize w1.alloc (.cells #[.slice aR c.ranks.length cR, .slice aO c.order.length cO, .string (bs c.ignore)] 42) = w2 at *
    generalize w1.heap.size = B at *
    refine (HRP.out _).mono ?_
    rintro e w3 ⟨uR, uO, rfl, hs3, hk3⟩
    have HT3 := Lib.hid hs3
    have HS3 := Lib.hid (HS2.out.kept hk3)
    have HB3 := Lib.hid (HB1.out.kept hk3)
    have HK3 := Lib.hid (HK2.out.trans hk3)
    obtain ⟨⟨bR, dR, rfl, -⟩, ⟨bO, dO, rfl, -⟩⟩ := hs3
    clear hk3 HK1 HK2 HS1 HS2 HB1 HP HRP
    have b0 : w3.cell? ⟨B, 0, none⟩ = some (.slice aR c.ranks.length cR) := HB3.out.cell 0 _ rfl
    have b1 : w3.cell? ⟨B, 1, none⟩ = some (.slice aO c.order.length cO) := HB3.out.cell 1 _ rfl
    have b2 : w3.cell? ⟨B, 2, none⟩ = some (.string (bs c.ignore)) := HB3.out.cell 2 _ rfl
    have z0 := HB3.out.lt
    go_wp2_with fail
    have HA := Lib.hid (kept_alloc w3 (.cells #[.slice bR c.ranks.length dR, .slice bO c.order.length dO, .string (bs c.ignore)] 42))
    refine (HSA.out _ _ _ _ _ (HS3.out.kept HA.out) (HT3.out.kept HA.out)).mono ?_
    rintro e w5 ⟨rfl, hk5⟩
    have HK5 := Lib.hid (HK3.out.trans (HA.out.trans hk5))
    clear hk5 HA
    go_wp2_with fail
    refine (HAW.out _ HK5.out).mono ?_
    rintro e w6 ⟨rfl, hk6⟩
    have HK6 := Lib.hid (HK5.out.trans hk6)
    clear hk6
    go_wp2_with fail
    go_ret
    exact ⟨rfl, HK6.out⟩
end Go.Proofs.YteflhlbgbgamnaaGreatDoor
