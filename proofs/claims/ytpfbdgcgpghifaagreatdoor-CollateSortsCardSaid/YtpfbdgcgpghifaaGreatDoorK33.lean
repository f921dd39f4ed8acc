/- value of publisherref25. Conditions: lengths. -/
import Derived.Test.YtpfbdgcgpghifaaGreatDoorK32

set_option linter.all false
namespace Go.Proofs.YtpfbdgcgpghifaaGreatDoor
open Go.RowKit

/-- What is left of the search for a letter's rule. -/
def vlAt (c : ColT) (x : Int) (k : Nat) : Option (List Int) := ((c.ranks.drop k).find? fun p => ptsL p.1 == [x]).map fun p => ptsL p.2
theorem vlAt_zero (c : ColT) (x : Int) : valI c x = vlAt c x 0 := rfl
theorem vlAt_drop {c : ColT} {k : Nat} {p : Pr} (h : c.ranks[k]? = some p) : c.ranks.drop k = p :: c.ranks.drop (k + 1) := by
  obtain ⟨hk, rfl⟩ := List.getElem?_eq_some_iff.1 h
  exact List.drop_eq_getElem_cons hk
theorem vlAt_hit (c : ColT) (x : Int) (k : Nat) (p : Pr) (h : c.ranks[k]? = some p) (hc : ptsL p.1 = [x]) : vlAt c x k = some (ptsL p.2) := by
  unfold vlAt
  rw [vlAt_drop h, List.find?_cons_of_pos (by simpa using hc)]; rfl
theorem vlAt_miss (c : ColT) (x : Int) (k : Nat) (p : Pr) (h : c.ranks[k]? = some p) (hc : ptsL p.1 ≠ [x]) : vlAt c x k = vlAt c x (k + 1) := by
  unfold vlAt
  rw [vlAt_drop h, List.find?_cons_of_neg (by simpa using hc)]
theorem vlAt_end (c : ColT) (x : Int) (k : Nat) (h : ¬ k < c.ranks.length) : vlAt c x k = none := by
  unfold vlAt
  rw [List.drop_of_length_le (by omega)]; rfl
def ValP (r : Option (List Int)) (w : World) (e : Ending) (w' : World) : Prop := ∃ v, e = .returned (.tuple #[v, .bool r.isSome]) ∧ Ints w' v (r.getD []) ∧ (∀ g, v.ownBlock = .some g → w.heap.size ≤ g) ∧ Kept w w'
theorem ValP.some {xs : List Int} {w w' : World} {v : Value} {r : Option (List Int)} (h : r = .some xs) (hi : Ints w' v xs) (ho : ∀ g, v.ownBlock = .some g → w.heap.size ≤ g) (k : Kept w w') : ValP r w (.returned (.tuple #[v, .bool true])) w' := by
  subst h; exact ⟨v, rfl, hi, ho, k⟩
theorem ValP.none {w w' : World} {r : Option (List Int)} (h : r = .none) (k : Kept w w') : ValP r w (.returned (.tuple #[.slice .none 0 0, .bool false])) w' := by
  subst h; exact ⟨_, rfl, ⟨.none, 0, rfl, Nat.le_refl _, fun q => absurd q (by simp)⟩, (fun g hg => by cases hg), k⟩
set_option maxRecDepth 100000 in
set_option maxHeartbeats 3200000 in
theorem rvalue_any (vR vO : Value) (c : ColT) (x : Int) (w : World) (hv : Col w vR vO c) (hs : SmallC c) (hx0 : 0 ≤ x) (hx1 : x ≤ 1114111) :
    Calls Tryz.prog 53 #[colV vR vO c.ignore, .int .i64 x] w (ValP (valI c x) w) := by
  obtain ⟨hR, hO⟩ := hv
  obtain ⟨s1, s2, s3, s4, s5⟩ := hs
  have HS5 := Lib.hid s5
  clear s4 s5
  have HR := Lib.hid hR
  obtain ⟨aR, cR, rfl, lR⟩ := hR.form
  obtain ⟨aO, cO, rfl, lO⟩ := hO.form
  clear hR hO
  have HB1 := Lib.hid (Blk.new w 25 #[.slice aR c.ranks.length cR, .slice aO c.order.length cO, .string (bs c.ignore)])
  have HK := Lib.hid (kept_alloc w (.cells #[.slice aR c.ranks.length cR, .slice aO c.order.length cO, .string (bs c.ignore)] 25))
  have H0 := Lib.hid (vlAt_zero c x)
  have HHIT := Lib.hid (vlAt_hit c x)
  have HMISS := Lib.hid (vlAt_miss c x)
  have HEND := Lib.hid (vlAt_end c x)
  obtain ⟨R, HRR⟩ : ∃ R, Hid (valI c x = R) := ⟨_, rfl⟩
  rw [HRR.out] at H0 ⊢
  clear HRR
  go_enter Tryz.func53, Tryz.ntmps53
  go_wp2_with fail
  generalize w.alloc (.cells #[.slice aR c.ranks.length cR, .slice aO c.order.length cO, .string (bs c.ignore)] 25) = w0 at *
  generalize w.heap.size = B at *
  go_loopw [6] (fun i wr => ∃ k : Nat, k ≤ c.ranks.length ∧ i = .int .i64 k ∧ Hid (R = vlAt c x k) ∧ Hid (Kept w0 wr)) (fun i _ => c.ranks.length - (intOf i).toNat)
  case atStart => exact ⟨0, Nat.zero_le _, rfl, H0.out, Kept.refl _⟩
  case round =>
    obtain ⟨k, hk, rfl, HA, HKR⟩ := hrel
    have b1 : wr.cell? ⟨B, 0, none⟩ = some (.slice aR c.ranks.length cR) := (HB1.out.kept HKR.out).cell 0 _ rfl
    have z1 := (HB1.out.kept HKR.out).lt
    by_cases hlt : k < c.ranks.length
    · obtain ⟨p, hx⟩ : ∃ x, c.ranks[k]? = some x := ⟨_, List.getElem?_eq_getElem hlt⟩
      obtain ⟨g, o, rfl, hg, d0, d1, -, -⟩ := (HR.out.kept (HK.out.trans HKR.out)).cell_of k p hx
      obtain ⟨hsl1, hsl2⟩ := HS5.out p (List.mem_of_getElem? hx)
      have HLT := Lib.hid (fun w => rletters_any p.1 w (by omega))
      have HLT2 := Lib.hid (fun w => rletters_own p.2 w (by omega))
      have hpl := ptsL_len p.1
      have H1 := Lib.hid (HHIT.out k p hx)
      have H2 := Lib.hid (HMISS.out k p hx)
      have HCC : Hid (∀ w', Kept wr w' → (w'.cell? ⟨B, 0, none⟩ = some (.slice (some ⟨g, o, none⟩) c.ranks.length cR) ∧ B < w'.heap.size) ∧ w'.cell? ⟨g, o + k * 2 + 1, none⟩ = some (.string (bs p.2)) ∧ g < w'.heap.size) := fun w' h =>
        ⟨⟨(h.cell (p := ⟨B, 0, none⟩) z1).trans b1, Nat.lt_of_lt_of_le z1 h.size⟩, (h.cell (p := ⟨g, o + k * 2 + 1, none⟩) hg).trans d1, Nat.lt_of_lt_of_le hg h.size⟩
      clear hx
      generalize ptsL p.1 = L at *
      generalize ptsL p.2 = L2 at *
      go_wp2_with fail
      refine (HLT.out _).mono ?_
      rintro e w2 ⟨v2, rfl, hi2, hk2⟩
      have HI2 := Lib.hid hi2
      obtain ⟨a2, c2, rfl, -⟩ := hi2.form
      have HK2 := Lib.hid (HKR.out.trans hk2)
      obtain ⟨⟨b1', z1'⟩, d1', hg'⟩ := HCC.out _ hk2
      clear hi2 hk2 b1 z1 d0 d1 hg HCC
      match L with
      | [] =>
        have HE : Hid (R = vlAt c x (k + 1)) := HA.out.trans (H2.out (by simp))
        clear b1' z1' d1' hg'
        go_wp2_with fail
        go_roundw
        case rel => exact ⟨k + 1, by omega, by go_num, HE.out, HK2.out⟩
        case measure => simp [intOf]; omega
      | [y] =>
        obtain ⟨g2, o2, rfl, hg2, e0⟩ := HI2.out.cell_of 0 y rfl
        simp only [Nat.add_zero] at e0
        by_cases hy : y = x
        · subst hy
          have HE : Hid (R = some L2) := HA.out.trans (H1.out rfl)
          go_wp2_with fail
          refine (HLT2.out _).mono ?_
          rintro e w3 ⟨v3, rfl, hi3, ho3, hk3⟩
          have HI3 := Lib.hid hi3
          have HO3 := Lib.hid (fun g hg => Nat.le_trans (HK.out.trans HK2.out).size (ho3 g hg))
          obtain ⟨a3, c3, rfl, -⟩ := hi3.form
          have HK3 := Lib.hid (HK2.out.trans hk3)
          clear hi3 ho3 hk3
          go_wp2_with fail
          go_ret2
          exact ValP.some HE.out HI3.out HO3.out (HK.out.trans HK3.out)
        · have hy' : (y == x) = false := by simpa using hy
          have HE : Hid (R = vlAt c x (k + 1)) := HA.out.trans (H2.out (by simpa using hy))
          clear b1' z1' d1' hg'
          go_wp2_with fail
          go_roundw
          case rel => exact ⟨k + 1, by omega, by go_num, HE.out, HK2.out⟩
          case measure => simp [intOf]; omega
      | y :: z :: r =>
        have HE : Hid (R = vlAt c x (k + 1)) := HA.out.trans (H2.out (by simp))
        have hne : ((r.length : Int) + 1 + 1 == 1) = false := by rw [beq_eq_false_iff_ne]; omega
        clear b1' z1' d1' hg'
        simp only [List.length_cons]
        go_wp2_with fail
        go_roundw
        case rel => exact ⟨k + 1, by omega, by go_num, HE.out, HK2.out⟩
        case measure => simp [intOf]; omega
    · have HE : Hid (R = none) := HA.out.trans (HEND.out k hlt)
      go_wp2_with fail
      go_ret2
      exact ValP.none HE.out (HK.out.trans HKR.out)
end Go.Proofs.YtpfbdgcgpghifaaGreatDoor
