/- An argument that is a collation, opened. No condition. -/
import Derived.Test.YtnbhpmleboildaaGreatDoorY31
import Derived.Test.YtnbhpmleboildaaGreatDoorY08

set_option linter.all false
namespace Go.Proofs.YtnbhpmleboildaaGreatDoor
open Go.ChangeShapes Go.WideShapes Go.ChangeAt Go.RowKit Go.Joins

theorem Tryz.cellsCol : Tryz.prog.cellsOf 28 = 3 := by kernel_rfl
section
variable {H : Type} {enc : TypeId × Value → H} {w : World} {base : Nat} {spare : Nat → Bool} {held : Bool}
set_option maxRecDepth 100000 in
theorem open_col {r : Reach} {b0 : Nat} {v : Value} {d : DataW H} {p : List MemPlace} (hv : Value.okWide Tryz.prog w r b0 28 v) (h : DataW.Trod enc Tryz.prog w base spare held 28 v d p) (hli : Light 28 d) :
    ∃ (c : ColT) (vR vO : Value), v = colV vR vO c.ignore ∧ Col w vR vO c ∧ FitC c := by
  obtain ⟨v0, v1, v2, y0, y1, y2, n, rfl, rfl, _, h0, h1, h2⟩ := open_agg3 Tryz.underlying28 (by kernel_rfl) Tryz.cellsCol hv h
  obtain ⟨rs, hR, lR, fR⟩ := cell_pairs h0 (Light.part Tryz.underlying28 hli (j := 0) rfl rfl)
  obtain ⟨os, hO, lO, fO⟩ := cell_strs h1 (Light.part Tryz.underlying28 hli (j := 1) rfl rfl)
  obtain ⟨ig, rfl, li⟩ := trod_str_l h2 (Light.part Tryz.underlying28 hli (j := 2) rfl rfl)
  exact ⟨⟨rs, os, ig⟩, v0, v1, rfl, ⟨hR, hO⟩, lR, lO, li, fO, fR⟩
end
end Go.Proofs.YtnbhpmleboildaaGreatDoor
