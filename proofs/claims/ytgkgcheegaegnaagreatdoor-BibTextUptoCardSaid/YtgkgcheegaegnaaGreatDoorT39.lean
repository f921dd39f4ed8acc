/- The reference's Parse answers what person.Parse answers. Conditions: the length of the text. -/
import Derived.Test.YtgkgcheegaegnaaGreatDoorT38
import Derived.Test.YtgkgcheegaegnaaGreatDoorT18
import Derived.OpenShut
import Derived.ProofKit
import Derived.Lib.SmallJoins

set_option linter.all false
namespace Go.Proofs.YtgkgcheegaegnaaGreatDoor
open Go.RowKit

set_option maxRecDepth 100000 in
set_option maxHeartbeats 800000 in
theorem rparse_noline (l : Bs) (w : World) (hs : l.length ≤ 1000000) (hl : lineB l = false) :
    Calls Tryz.prog 16 #[.string (bs l)] w fun e w' => e = .returned (.tuple #[persV [] [] [] [], .int .i64 17]) ∧ Kept w w' := by
  go_enter Tryz.func16, Tryz.ntmps16
  go_wp2_with fail
  refine (rline_any l _ (by omega)).mono ?_
  rintro e w1 ⟨rfl, hk1⟩
  rw [hl]
  have HR := Lib.hid ((Blk.new w 36 #[.string (bs []), .string (bs []), .string (bs []), .string (bs [])]).kept hk1)
  have HK := Lib.hid ((kept_alloc w _).trans hk1)
  clear hk1
  have cR0 := HR.out.cell 0 _ rfl
  have fR0 := HR.out.free 0
  have cR1 := HR.out.cell 1 _ rfl
  have fR1 := HR.out.free 1
  have cR2 := HR.out.cell 2 _ rfl
  have fR2 := HR.out.free 2
  have cR3 := HR.out.cell 3 _ rfl
  have fR3 := HR.out.free 3
  have hzR := HR.out.lt
  go_wp2_with fail
  refine bodyPost_ret (v := .tuple #[persV [] [] [] [], .int .i64 17]) (by simp [results, Tryz.results16, go_sem, cR0, cR1, cR2, cR3, fR0, fR1, fR2, fR3, hzR]) rfl ⟨rfl, ?_⟩
  exact kept_set (kept_set (kept_set (kept_set HK.out _ _ _ (Nat.le_refl _)) _ _ _ (Nat.le_refl _)) _ _ _ (Nat.le_refl _)) _ _ _ (Nat.le_refl _)

theorem rparse_any (l : Bs) (w : World) (hs : l.length ≤ 1000000) :
    Calls Tryz.prog 16 #[.string (bs l)] w (ParsePost l w) := by
  cases hl : lineB l
  · exact (rparse_noline l w hs hl).mono fun e w' ⟨he, hk⟩ => ParsePost.mk (q := zero4) (by unfold parseR; rw [hl]; rfl) he hk
  have hcl := cleanL_le l
  have e0 : parseR l = (match restP (cleanL l) with | none => (5, zero4) | some (p, t) => restR p t) := by unfold parseR; rw [hl]; rfl
  by_cases hb : ∃ r, cleanL l = 123 :: r
  · obtain ⟨r, hr⟩ := hb
    have hrl : r.length ≤ 1000001 := by rw [hr] at hcl; simp at hcl; omega
    by_cases hbr : before 125 r < r.length
    · have e1 : parseR l = restR (cleanL (r.take (before 125 r))) (r.drop (before 125 r + 1)) := by
        rw [e0, hr]; simp only [restP, if_true]; rw [if_pos hbr]
      have hpl : (cleanL (r.take (before 125 r))).length ≤ 1000010 := by have := cleanL_le (r.take (before 125 r)); simp at this; omega
      have htl : (r.drop (before 125 r + 1)).length ≤ 1000001 := by simp; omega
      exact (rparse_b l w hs hl r hr hrl hbr _ _ rfl rfl hpl htl).mono fun e w' ⟨he, hk⟩ => ParsePost.mk (by rw [e1]) he hk
    · exact (rparse_open l w hs hl r hr hrl hbr).mono fun e w' ⟨he, hk⟩ => ParsePost.mk (q := zero4) (by rw [e0, hr]; simp only [restP, if_true]; rw [if_neg hbr]) he hk
  · obtain ⟨t, ht⟩ : ∃ t, cleanL l = t := ⟨_, rfl⟩
    have hnb : ∀ r, t ≠ 123 :: r := fun r q => hb ⟨r, by rw [ht, q]⟩
    have e1 : parseR l = restR [] t := by
      rw [e0, ht]
      cases t with
      | nil => rfl
      | cons x r => simp only [restP]; rw [if_neg (fun q => hnb r (by rw [q]))]
    have htl : t.length ≤ 1000001 := by rw [ht] at hcl; omega
    exact (rparse_n l w hs hl t ht hnb htl).mono fun e w' ⟨he, hk⟩ => ParsePost.mk (by rw [e1]) he hk
end Go.Proofs.YtgkgcheegaegnaaGreatDoor

/- Arguments opened: a text, a person. No condition. -/
set_option linter.all false
namespace Go.Proofs.YtgkgcheegaegnaaGreatDoor
open Go.ChangeShapes Go.WideShapes Go.ChangeAt Go.RowKit Go.Joins

/-- Each text of a person has a length that a machine can tell. -/
def Fit4 (q : P4) : Prop := q.1.length ≤ maxLen ∧ q.2.1.length ≤ maxLen ∧ q.2.2.1.length ≤ maxLen ∧ q.2.2.2.length ≤ maxLen
theorem Tryz.cellsPers : Tryz.prog.cellsOf 36 = 4 := by kernel_rfl
section
variable {H : Type} {enc : TypeId × Value → H} {w : World} {base : Nat} {spare : Nat → Bool} {held : Bool}
theorem trod_str {n : Nat} {v : Value} {y : DataW H × List MemPlace} (h : DataW.trod enc Tryz.prog w base spare held n 9 [v] = some y) : ∃ l : Bs, v = .string (bs l) ∧ l.length ≤ maxLen := by
  obtain ⟨s, h1, h2, h3⟩ := DataW.trod_string Tryz.underlying9 h
  simp at h1
  exact ⟨s.data.toList, h1, by simpa using h3⟩
set_option maxRecDepth 100000 in
theorem open_pers {r : Reach} {b0 : Nat} {v : Value} {d : DataW H} {p : List MemPlace} (hv : Value.okWide Tryz.prog w r b0 36 v) (h : DataW.Trod enc Tryz.prog w base spare held 36 v d p) :
    ∃ q : P4, v = p4V q ∧ Fit4 q := by
  obtain ⟨v0, v1, v2, v3, y0, y1, y2, y3, n, rfl, _, _, h0, h1, h2, h3⟩ := open_agg4 Tryz.underlying36 (by kernel_rfl) Tryz.cellsPers hv h
  obtain ⟨a, rfl, ha⟩ := trod_str h0
  obtain ⟨b, rfl, hb⟩ := trod_str h1
  obtain ⟨c, rfl, hc⟩ := trod_str h2
  obtain ⟨d, rfl, hd⟩ := trod_str h3
  exact ⟨(a, b, c, d), rfl, ha, hb, hc, hd⟩
end
end Go.Proofs.YtgkgcheegaegnaaGreatDoor
