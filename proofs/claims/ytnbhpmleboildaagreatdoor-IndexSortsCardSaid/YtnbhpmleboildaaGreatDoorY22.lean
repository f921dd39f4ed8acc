/- gloss.linkTo. Conditions: lengths. -/
import Derived.Test.YtnbhpmleboildaaGreatDoorY21
import Derived.Test.YtnbhpmleboildaaGreatDoorY20
import Derived.Test.YtnbhpmleboildaaGreatDoorY19
import Derived.Test.YtnbhpmleboildaaGreatDoorY13
import Derived.Test.YtnbhpmleboildaaGreatDoorY10
import Derived.BigQuiet
import Derived.Deep.RegionLaw
import Derived.Deep.RegionWith
import Derived.Sort.WalkA
import Derived.Deep.MidRow

set_option linter.all false
namespace Go.Proofs.YtnbhpmleboildaaGreatDoor
open Go.RowKit

/-- A slice of one inline that lies in a block of its own. -/
theorem one_inl {S : Nat → Prop} {n : Nat} {w : World} {g : Nat} {cs : List Value} {x : Inl} (hb : Blk w g 51 cs.toArray) (hl : cs.length = 10) (hS : S g) (hx : InlK n S w cs x) : Lns S (n + 1) w (.slice (some ⟨g, 0, none⟩) 1 1) [x] := by
  show RowR S 10 _ w _ _
  refine ⟨some ⟨g, 0, none⟩, 1, rfl, Nat.le_refl _, fun _ => ⟨g, 0, rfl, hb.lt, hS, fun j y hy => ⟨cs, hl, fun i u hu => ?_, ?_⟩⟩⟩
  · have hj : j = 0 := by
      have := (List.getElem?_eq_some_iff.1 hy).1
      simpa using this
    subst hj
    rw [Nat.zero_mul, Nat.add_zero, Nat.zero_add]
    exact hb.cell i u (by rw [List.getElem?_toArray]; exact hu)
  · have hj : j = 0 := by
      have := (List.getElem?_eq_some_iff.1 hy).1
      simpa using this
    subst hj
    cases hy
    exact hx
end Go.Proofs.YtnbhpmleboildaaGreatDoor

/- What is known of the definitions of a document: the survey in memory. No condition. -/
set_option linter.all false
namespace Go.Proofs.YtnbhpmleboildaaGreatDoor
open Go.RowKit

/-- What a walk of the survey leaves alone: all below its maps, and every block that holds a document's block. -/
structure FrB (B : Nat) (w w' : World) : Prop where
  only : Only (fun i => B + 1 ≤ i) w w'
  blk : ∀ (g : Nat) (cs : Array Value), Blk w g 38 cs → Blk w' g 38 cs
theorem FrB.of_kept {B : Nat} {w w' : World} (h : Kept w w') : FrB B w w' := ⟨Only.of_kept h, fun _ _ q => q.kept h⟩
theorem FrB.trans {B : Nat} {a b c : World} (h : FrB B a b) (k : FrB B b c) : FrB B a c := ⟨h.only.trans k.only, fun g cs q => k.blk g cs (h.blk g cs q)⟩
theorem FrB.size {B : Nat} {w w' : World} (h : FrB B w w') : w.heap.size ≤ w'.heap.size := h.only.size
/-- One row of other elements, and one other block, change. -/
theorem FrB.grown {α : Type} {R : (Nat → Prop) → World → List Value → α → Prop} {k : Nat} {A : Nat → Prop} {base : Nat} {e : TypeId} {v : Value} {xs : List α} {B m : Nat} {w w7 w' : World} (ho : OutG R k A base e w v xs) (hne : e ≠ 38) (hg : w.grownBy w7 v.ownBlock) (ho2 : Only (fun i => i = m) w7 w') (honly : Only (fun i => B + 1 ≤ i) w w') (hm : ∀ cs, ¬ Blk w m 38 cs) : FrB B w w' :=
  ⟨honly, fun g cs q => (q.onl (Only.grown hg) (fun r => ho.ne_blk q hne r.symm)).onl ho2 (fun r => by subst r; exact hm _ q)⟩
/-- What the survey asks of a line: no identifiers, no references. -/
def quietI (x : Inl) : Prop := x.id = [] ∧ x.kind ≠ 14 ∧ x.kind ≠ 9 ∧ x.kind ≠ 12
end Go.Proofs.YtnbhpmleboildaaGreatDoor

/- filler.line: filled copies of inlines. Conditions: lengths. -/
set_option linter.all false
namespace Go.Proofs.YtnbhpmleboildaaGreatDoor
open Go.RowKit

/-- What the walk asks of inlines: the texts of uses are short. -/
def okV (xs : List Inl) : Prop := ∀ x ∈ deepL xs, okU x
end Go.Proofs.YtnbhpmleboildaaGreatDoor

/- slices.insertionSortCmpFunc at blocks. Conditions: what is asked of the comparison. -/
set_option linter.all false
namespace Go.Proofs.YtnbhpmleboildaaGreatDoor
open Go.RowKit Go.Sort

instance : Inhabited Blo := ⟨.mk 0 0 [] [] [] [] [] [] [] [] []⟩
def ltB (cf : Blo → Blo → Int) (x y : Blo) : Bool := decide (cf x y < 0)
end Go.Proofs.YtnbhpmleboildaaGreatDoor
