/- Check of publisherref25. Conditions: lengths. -/
import Derived.Test.YtpfbdgcgpghifaaGreatDoorK31
import Derived.Test.YtpfbdgcgpghifaaGreatDoorK18
import Derived.Test.YtpfbdgcgpghifaaGreatDoorK20

set_option linter.all false
namespace Go.Proofs.YtpfbdgcgpghifaaGreatDoor
open Go.RowKit

end Go.Proofs.YtpfbdgcgpghifaaGreatDoor

/- rank of publisherref25. Conditions: lengths. -/
set_option linter.all false
namespace Go.Proofs.YtpfbdgcgpghifaaGreatDoor
open Go.RowKit

/-- What is left of the search for a letter's group. -/
def rkAt (c : ColT) (x : Int) (k : Nat) : Int := match (c.order.drop k).findIdx? fun s => (ptsL s).contains x with
  | some i => ((k + i : Nat) : Int) + 1
  | none => (c.order.length : Int) + 1 + x
theorem rkAt_zero (c : ColT) (x : Int) (h : x ≠ 32) : rankI c x = rkAt c x 0 := by
  unfold rankI rkAt grpI
  rw [if_neg h, List.drop_zero]
  cases c.order.findIdx? fun s => (ptsL s).contains x <;> simp
theorem rkAt_drop {c : ColT} {k : Nat} {s : Bs} (h : c.order[k]? = some s) : c.order.drop k = s :: c.order.drop (k + 1) := by
  obtain ⟨hk, rfl⟩ := List.getElem?_eq_some_iff.1 h
  exact List.drop_eq_getElem_cons hk
theorem rkAt_hit (c : ColT) (x : Int) (k : Nat) (s : Bs) (h : c.order[k]? = some s) (hc : (ptsL s).contains x = true) : rkAt c x k = (k : Int) + 1 := by
  unfold rkAt
  rw [rkAt_drop h, List.findIdx?_cons, if_pos hc]; simp
theorem rkAt_miss (c : ColT) (x : Int) (k : Nat) (s : Bs) (h : c.order[k]? = some s) (hc : (ptsL s).contains x = false) : rkAt c x k = rkAt c x (k + 1) := by
  unfold rkAt
  rw [rkAt_drop h, List.findIdx?_cons, if_neg (by rw [hc]; simp)]
  cases (c.order.drop (k + 1)).findIdx? fun s => (ptsL s).contains x with
  | none => rfl
  | some i => simp; omega
theorem rkAt_end (c : ColT) (x : Int) (k : Nat) (h : ¬ k < c.order.length) : rkAt c x k = (c.order.length : Int) + 1 + x := by
  unfold rkAt
  rw [List.drop_of_length_le (by omega)]; rfl
set_option maxRecDepth 100000 in
set_option maxHeartbeats 3200000 in
theorem rrank_any (vR vO : Value) (c : ColT) (x : Int) (w : World) (hv : Col w vR vO c) (hs : SmallC c) (hx0 : 0 ≤ x) (hx1 : x ≤ 1114111) :
    Calls Tryz.prog 95 #[colV vR vO c.ignore, .int .i64 x] w fun e w' => e = .returned (.int .i64 (rankI c x)) ∧ Kept w w' := by
  obtain ⟨hR, hO⟩ := hv
  obtain ⟨s1, s2, s3, s4, s5⟩ := hs
  have HS4 := Lib.hid s4
  clear s4 s5
  have HO := Lib.hid hO
  obtain ⟨aR, cR, rfl, lR⟩ := hR.form
  obtain ⟨aO, cO, rfl, lO⟩ := hO.form
  clear hR hO
  have HB1 := Lib.hid (Blk.new w 25 #[.slice aR c.ranks.length cR, .slice aO c.order.length cO, .string (bs c.ignore)])
  have HK := Lib.hid (kept_alloc w (.cells #[.slice aR c.ranks.length cR, .slice aO c.order.length cO, .string (bs c.ignore)] 25))
  by_cases hx : x = 32
  · have HE : Hid (rankI c x = 0) := by show _ = _; unfold rankI; rw [if_pos hx]
    rw [HE.out]
    subst hx
    clear HE
    go_enter Tryz.func95, Tryz.ntmps95
    go_wp2_with fail
    go_ret
    exact ⟨rfl, HK.out⟩
  have hx' : (x == 32) = false := by simpa using hx
  have H0 := Lib.hid (rkAt_zero c x hx)
  have HHIT := Lib.hid (rkAt_hit c x)
  have HMISS := Lib.hid (rkAt_miss c x)
  have HEND := Lib.hid (rkAt_end c x)
  obtain ⟨R, HR⟩ : ∃ R, Hid (rankI c x = R) := ⟨_, rfl⟩
  rw [HR.out] at H0 ⊢
  clear HR hx
  go_enter Tryz.func95, Tryz.ntmps95
  go_wp2_with fail
  generalize w.alloc (.cells #[.slice aR c.ranks.length cR, .slice aO c.order.length cO, .string (bs c.ignore)] 25) = w0 at *
  generalize w.heap.size = B at *
  go_loopw [5] (fun i wr => ∃ k : Nat, k ≤ c.order.length ∧ i = .int .i64 k ∧ Hid (R = rkAt c x k) ∧ Hid (Kept w0 wr)) (fun i _ => c.order.length - (intOf i).toNat)
  case atStart => exact ⟨0, Nat.zero_le _, rfl, H0.out, Kept.refl _⟩
  case round =>
    obtain ⟨k, hk, rfl, HA, HKR⟩ := hrel
    have b1 : wr.cell? ⟨B, 1, none⟩ = some (.slice aO c.order.length cO) := (HB1.out.kept HKR.out).cell 1 _ rfl
    have z1 := (HB1.out.kept HKR.out).lt
    by_cases hlt : k < c.order.length
    · obtain ⟨s, hx⟩ : ∃ x, c.order[k]? = some x := ⟨_, List.getElem?_eq_getElem hlt⟩
      obtain ⟨g, o, rfl, hg, d0, -, -⟩ := (HO.out.kept (HK.out.trans HKR.out)).cell_of k s hx
      have hsl := HS4.out s (List.mem_of_getElem? hx)
      have HLT := Lib.hid (fun w => rletters_any s w (by omega))
      have hpl := ptsL_len s
      have H1 := Lib.hid (HHIT.out k s hx)
      have H2 := Lib.hid (HMISS.out k s hx)
      clear hx
      generalize ptsL s = L at *
      go_wp2_with fail
      refine (HLT.out _).mono ?_
      rintro e w2 ⟨v2, rfl, hi2, hk2⟩
      have HI2 := Lib.hid hi2
      obtain ⟨a2, c2, rfl, -⟩ := hi2.form
      have HK2 := Lib.hid (HKR.out.trans hk2)
      clear hi2 hk2
      go_wp2_with fail
      refine (rin_any _ L x _ HI2.out (by omega)).mono ?_
      rintro e w3 ⟨rfl, rfl⟩
      generalize L.contains x = bb at *
      cases bb with
      | true =>
        have HE : Hid (R = (k : Int) + 1) := HA.out.trans (H1.out rfl)
        go_wp2_with fail
        go_ret
        exact ⟨ret_int HE.out.symm, HK.out.trans HK2.out⟩
      | false =>
        have HE : Hid (R = rkAt c x (k + 1)) := HA.out.trans (H2.out rfl)
        clear b1 z1
        go_wp2_with fail
        go_roundw
        case rel => exact ⟨k + 1, by omega, by go_num, HE.out, HK2.out⟩
        case measure => simp [intOf]; omega
    · have HE : Hid (R = (c.order.length : Int) + 1 + x) := HA.out.trans (HEND.out k hlt)
      go_wp2_with fail
      go_ret
      exact ⟨ret_int HE.out.symm, HK.out.trans HKR.out⟩
end Go.Proofs.YtpfbdgcgpghifaaGreatDoor
