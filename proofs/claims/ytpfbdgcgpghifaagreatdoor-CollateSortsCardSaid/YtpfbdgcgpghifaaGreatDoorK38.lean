/- Slices of texts, opened. No condition. -/
import Derived.Test.YtpfbdgcgpghifaaGreatDoorK37
import Derived.Test.YtpfbdgcgpghifaaGreatDoorK03
import Derived.Test.YtpfbdgcgpghifaaGreatDoorK17

set_option linter.all false
namespace Go.Proofs.YtpfbdgcgpghifaaGreatDoor
open Go.ChangeShapes Go.WideShapes Go.ChangeAt Go.RowKit Go.Joins

section
variable {H : Type} {enc : TypeId × Value → H} {w : World} {base : Nat} {spare : Nat → Bool} {held : Bool}
set_option maxRecDepth 100000 in
theorem cell_strs {fuel : Nat} {v : Value} {y : DataW H × List MemPlace} (h : DataW.trod enc Tryz.prog w base spare held fuel 23 [v] = some y) (hli : Light 23 y.1) : ∃ xs : List Bs, Strs w v xs ∧ xs.length ≤ 140737488355328 ∧ ∀ x ∈ xs, x.length ≤ 140737488355328 := by
  obtain ⟨xs, a, c, rfl, h1, h2, h3, h4⟩ := open_rows (α := Bs) (fun q f => f 0 = some (.string (bs q)) ∧ q.length ≤ 140737488355328) Tryz.underlying23 Tryz.cellsStr (by omega) (by
    intro n cs z hl ht hz
    match cs, hl with
    | [v0], _ =>
      obtain ⟨q0, rfl, f0⟩ := trod_str_l ht hz
      exact ⟨q0, rfl, f0⟩) (of_decide_eq_true (by kernel_rfl)) h hli
  refine ⟨xs, ⟨a, c, rfl, h1, fun q => ?_⟩, h2, fun q hq => ?_⟩
  · obtain ⟨g, o, ha, hg, hc⟩ := h3 q
    refine ⟨g, o, ha, hg, fun j x hx => ?_⟩
    obtain ⟨f, ⟨p0, _⟩, hcell⟩ := hc j x hx
    have := (hcell 0 (by omega)).trans p0
    simpa using this
  · obtain ⟨f, _, p⟩ := h4 q hq
    exact p
end
end Go.Proofs.YtpfbdgcgpghifaaGreatDoor

/- An argument that is a collation, opened. No condition. -/
set_option linter.all false
namespace Go.Proofs.YtpfbdgcgpghifaaGreatDoor
open Go.ChangeShapes Go.WideShapes Go.ChangeAt Go.RowKit Go.Joins

theorem Tryz.cellsCol : Tryz.prog.cellsOf 25 = 3 := by kernel_rfl
section
variable {H : Type} {enc : TypeId × Value → H} {w : World} {base : Nat} {spare : Nat → Bool} {held : Bool}
set_option maxRecDepth 100000 in
theorem open_col {r : Reach} {b0 : Nat} {v : Value} {d : DataW H} {p : List MemPlace} (hv : Value.okWide Tryz.prog w r b0 25 v) (h : DataW.Trod enc Tryz.prog w base spare held 25 v d p) (hli : Light 25 d) :
    ∃ (c : ColT) (vR vO : Value), v = colV vR vO c.ignore ∧ Col w vR vO c ∧ FitC c := by
  obtain ⟨v0, v1, v2, y0, y1, y2, n, rfl, rfl, _, h0, h1, h2⟩ := open_agg3 Tryz.underlying25 (by kernel_rfl) Tryz.cellsCol hv h
  obtain ⟨rs, hR, lR, fR⟩ := cell_pairs h0 (Light.part Tryz.underlying25 hli (j := 0) rfl rfl)
  obtain ⟨os, hO, lO, fO⟩ := cell_strs h1 (Light.part Tryz.underlying25 hli (j := 1) rfl rfl)
  obtain ⟨ig, rfl, li⟩ := trod_str_l h2 (Light.part Tryz.underlying25 hli (j := 2) rfl rfl)
  exact ⟨⟨rs, os, ig⟩, v0, v1, rfl, ⟨hR, hO⟩, lR, lO, li, fO, fR⟩
end
end Go.Proofs.YtpfbdgcgpghifaaGreatDoor
