/- Arguments opened: a text, a person. No condition. -/
import Derived.Test.YteflhlbgbgamnaaGreatDoorT17
import Derived.Test.YteflhlbgbgamnaaGreatDoorT40
import Derived.Test.YteflhlbgbgamnaaGreatDoorT27
import Derived.OpenShut
import Derived.ProofKit
import Derived.Lib.SmallJoins

set_option linter.all false
namespace Go.Proofs.YteflhlbgbgamnaaGreatDoor
open Go.ChangeShapes Go.WideShapes Go.ChangeAt Go.RowKit Go.Joins

/-- Each text of a person has a length that a machine can tell. -/
def Fit4 (q : P4) : Prop := q.1.length ≤ maxLen ∧ q.2.1.length ≤ maxLen ∧ q.2.2.1.length ≤ maxLen ∧ q.2.2.2.length ≤ maxLen
theorem Tryz.cellsPers : Tryz.prog.cellsOf 32 = 4 := by kernel_rfl
section
variable {H : Type} {enc : TypeId × Value → H} {w : World} {base : Nat} {spare : Nat → Bool} {held : Bool}
theorem trod_str {n : Nat} {v : Value} {y : DataW H × List MemPlace} (h : DataW.trod enc Tryz.prog w base spare held n 9 [v] = some y) : ∃ l : Bs, v = .string (bs l) ∧ l.length ≤ maxLen := by
  obtain ⟨s, h1, h2, h3⟩ := DataW.trod_string Tryz.underlying9 h
  simp at h1
  exact ⟨s.data.toList, h1, by simpa using h3⟩
set_option maxRecDepth 100000 in
theorem open_pers {r : Reach} {b0 : Nat} {v : Value} {d : DataW H} {p : List MemPlace} (hv : Value.okWide Tryz.prog w r b0 32 v) (h : DataW.Trod enc Tryz.prog w base spare held 32 v d p) :
    ∃ q : P4, v = p4V q ∧ Fit4 q := by
  obtain ⟨v0, v1, v2, v3, y0, y1, y2, y3, n, rfl, _, _, h0, h1, h2, h3⟩ := open_agg4 Tryz.underlying32 (by kernel_rfl) Tryz.cellsPers hv h
  obtain ⟨a, rfl, ha⟩ := trod_str h0
  obtain ⟨b, rfl, hb⟩ := trod_str h1
  obtain ⟨c, rfl, hc⟩ := trod_str h2
  obtain ⟨d, rfl, hd⟩ := trod_str h3
  exact ⟨(a, b, c, d), rfl, ha, hb, hc, hd⟩
end
end Go.Proofs.YteflhlbgbgamnaaGreatDoor

/- The laws PersonTexts and PersonReturns answer true of every person and text. No condition. -/
set_option linter.all false
namespace Go.Proofs.YteflhlbgbgamnaaGreatDoor
open Go.RowKit

/-- Is a person's name short? -/
def fewB (q : P4) : Bool := decide (q.1.length ≤ 100) && (decide (q.2.1.length ≤ 100) && (decide (q.2.2.1.length ≤ 100) && decide (q.2.2.2.length ≤ 100)))
theorem few_lens (q : P4) (h : fewB q = true) : q.1.length ≤ 100 ∧ q.2.1.length ≤ 100 ∧ q.2.2.1.length ≤ 100 ∧ q.2.2.2.length ≤ 100 := by
  unfold fewB at h; simpa using h
theorem Fit4.lens {q : P4} (h : Fit4 q) : q.1.length ≤ 9223372036854775807 ∧ q.2.1.length ≤ 9223372036854775807 ∧ q.2.2.1.length ≤ 9223372036854775807 ∧ q.2.2.2.length ≤ 9223372036854775807 := h

end Go.Proofs.YteflhlbgbgamnaaGreatDoor
