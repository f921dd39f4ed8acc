/- letters, in, rule, with of publisherref25; Next of publisherref01 at any place. Conditions: lengths. -/
import Derived.Test.YtafcngdnngpdnaaGreatDoorK09
import Derived.Test.YtafcngdnngpdnaaGreatDoorK12
import Derived.Test.YtafcngdnngpdnaaGreatDoorK05
import Derived.Test.YtafcngdnngpdnaaGreatDoorK10
import Derived.Test.YtafcngdnngpdnaaGreatDoorK07
import Derived.Test.YtafcngdnngpdnaaGreatDoorK04
import Derived.BigQuiet

set_option linter.all false
namespace Go.Proofs.YtafcngdnngpdnaaGreatDoor
open Go.RowKit

def IntsP (xs : List Int) (w : World) (e : Ending) (w' : World) : Prop := ∃ v, e = .returned v ∧ Ints w' v xs ∧ Kept w w'
/-- The same, in blocks that the call has made. -/
def IntsO (xs : List Int) (w : World) (e : Ending) (w' : World) : Prop := ∃ v, e = .returned v ∧ Ints w' v xs ∧ (∀ g, v.ownBlock = some g → w.heap.size ≤ g) ∧ Kept w w'
theorem IntsO.weak {xs : List Int} {w w' : World} {e : Ending} (h : IntsO xs w e w') : IntsP xs w e w' := by
  obtain ⟨v, h1, h2, _, h3⟩ := h; exact ⟨v, h1, h2, h3⟩
end Go.Proofs.YtafcngdnngpdnaaGreatDoor

/- letters, ruleString of collate, Count of chars: the letters of a text, rule texts. Conditions: lengths. -/
set_option linter.all false
namespace Go.Proofs.YtafcngdnngpdnaaGreatDoor
open Go.RowKit


end Go.Proofs.YtafcngdnngpdnaaGreatDoor

/- A collation in memory. No condition. -/
set_option linter.all false
namespace Go.Proofs.YtafcngdnngpdnaaGreatDoor
open Go.RowKit

/-- The lists of a collation read in w. -/
def Col (w : World) (vR vO : Value) (c : ColT) : Prop := Prs w vR c.ranks ∧ Strs w vO c.order
theorem Col.kept {w w' : World} {vR vO : Value} {c : ColT} (h : Col w vR vO c) (k : Kept w w') : Col w' vR vO c := ⟨h.1.kept k, h.2.kept k⟩
abbrev colV (vR vO : Value) (ig : Bs) : Value := .agg #[vR, vO, .string (bs ig)]
/-- Lengths that every walk over a collation bears. -/
def SmallC (c : ColT) : Prop := c.ranks.length ≤ 1000 ∧ c.order.length ≤ 1000 ∧ c.ignore.length ≤ 1000 ∧ (∀ s ∈ c.order, s.length ≤ 1000) ∧ ∀ p ∈ c.ranks, p.1.length ≤ 1000 ∧ p.2.length ≤ 1000
/-- Lengths that a machine can tell. -/
def FitC (c : ColT) : Prop := c.ranks.length ≤ 140737488355328 ∧ c.order.length ≤ 140737488355328 ∧ c.ignore.length ≤ 140737488355328 ∧ (∀ s ∈ c.order, s.length ≤ 140737488355328) ∧ ∀ p ∈ c.ranks, p.1.length ≤ 140737488355328 ∧ p.2.length ≤ 140737488355328
theorem SmallC.zero : SmallC zeroC := ⟨by simp [zeroC], by simp [zeroC], by simp [zeroC], by simp [zeroC], by simp [zeroC]⟩
end Go.Proofs.YtafcngdnngpdnaaGreatDoor
