/- An argument that is a collation, opened. No condition. -/
import Derived.Test.YtpfbdgcgpghifaaDoorK36
import Derived.Test.YtpfbdgcgpghifaaDoorK17

set_option linter.all false
namespace Go.Proofs.YtpfbdgcgpghifaaDoor
open Go.ChangeShapes Go.WideShapes Go.ChangeAt Go.RowKit Go.Joins

theorem Tryd.cellsCol : Tryd.prog.cellsOf 25 = 3 := by kernel_rfl
section
variable {H : Type} {enc : TypeId × Value → H} {w : World} {base : Nat} {spare : Nat → Bool} {held : Bool}
set_option maxRecDepth 100000 in
theorem open_col {r : Reach} {b0 : Nat} {v : Value} {d : DataW H} {p : List MemPlace} (hv : Value.okWide Tryd.prog w r b0 25 v) (h : DataW.Trod enc Tryd.prog w base spare held 25 v d p) (hli : Light 25 d) :
    ∃ (c : ColT) (vR vO : Value), v = colV vR vO c.ignore ∧ Col w vR vO c ∧ FitC c := by
  obtain ⟨v0, v1, v2, y0, y1, y2, n, rfl, rfl, _, h0, h1, h2⟩ := open_agg3 Tryd.underlying25 (by kernel_rfl) Tryd.cellsCol hv h
  obtain ⟨rs, hR, lR, fR⟩ := cell_pairs h0 (Light.part Tryd.underlying25 hli (j := 0) rfl rfl)
  obtain ⟨os, hO, lO, fO⟩ := cell_strs h1 (Light.part Tryd.underlying25 hli (j := 1) rfl rfl)
  obtain ⟨ig, rfl, li⟩ := trod_str_l h2 (Light.part Tryd.underlying25 hli (j := 2) rfl rfl)
  exact ⟨⟨rs, os, ig⟩, v0, v1, rfl, ⟨hR, hO⟩, lR, lO, li, fO, fR⟩
end
end Go.Proofs.YtpfbdgcgpghifaaDoor
