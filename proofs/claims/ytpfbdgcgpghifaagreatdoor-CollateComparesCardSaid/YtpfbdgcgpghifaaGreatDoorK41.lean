/- Arguments opened: an array of three texts. No condition. -/
import Derived.Test.YtpfbdgcgpghifaaGreatDoorK37
import Derived.Laws.IdiomArrays

set_option linter.all false
namespace Go.Proofs.YtpfbdgcgpghifaaGreatDoor
open Go.ChangeShapes Go.WideShapes Go.ChangeAt Go.RowKit Go.Joins

theorem Tryz.cellsArr3 : Tryz.prog.cellsOf 26 = 3 := by kernel_rfl
theorem Tryz.cellsOne : Tryz.prog.cellsOf 9 = 1 := by kernel_rfl
section
variable {H : Type} {enc : TypeId × Value → H} {w : World} {base : Nat} {spare : Nat → Bool} {held : Bool}
set_option maxRecDepth 100000 in
theorem open_strs3 {r : Reach} {b0 : Nat} {v : Value} {d : DataW H} {p : List MemPlace} (hv : Value.okWide Tryz.prog w r b0 26 v) (h : DataW.Trod enc Tryz.prog w base spare held 26 v d p) :
    ∃ a b c : Bs, v = .agg #[.string (bs a), .string (bs b), .string (bs c)] ∧ a.length ≤ maxLen ∧ b.length ≤ maxLen ∧ c.length ≤ maxLen := by
  simp only [Value.okWide, Tryz.underlying26] at hv
  obtain ⟨cs, rfl, hsz, _⟩ := hv
  obtain ⟨c0, c1, c2, rfl⟩ := array3 (hsz.trans Tryz.cellsArr3)
  obtain ⟨fuel, hf⟩ := h
  obtain ⟨y0, y1, y2, n, _, h0, h1, h2⟩ := trod_array3 Tryz.underlying26 Tryz.cellsOne hf
  obtain ⟨a, rfl, ha⟩ := trod_str h0
  obtain ⟨b, rfl, hb⟩ := trod_str h1
  obtain ⟨c, rfl, hc⟩ := trod_str h2
  exact ⟨a, b, c, rfl, ha, hb, hc⟩
end
end Go.Proofs.YtpfbdgcgpghifaaGreatDoor
