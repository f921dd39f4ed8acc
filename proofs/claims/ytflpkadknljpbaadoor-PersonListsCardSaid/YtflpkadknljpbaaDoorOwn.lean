/- Rows that a call owns, kept over worlds that keep what was there. No condition. -/
import Derived.Test.YtflpkadknljpbaaDoorBase
set_option linter.all false
namespace Go.Proofs.YtflpkadknljpbaaDoor
open Go.RowKit

theorem own_kept {w w' : World} {base : Nat} {e : TypeId} {size : Nat} {v : Value} {n : Nat} {xs : List Value} (h : w.ownsRow base e size v n xs) (k : Kept w w') : w'.ownsRow base e size v n xs := by
  obtain ⟨h1, h2⟩ := h
  refine ⟨h1, ?_⟩
  rcases h2 with h2 | ⟨g, cap, cur, hv, hg, hh, r⟩
  · exact Or.inl h2
  · have hlt : g < w.heap.size := by
      rcases Nat.lt_or_ge g w.heap.size with q | q
      · exact q
      · rw [Array.getElem?_eq_none q] at hh; cases hh
    exact Or.inr ⟨g, cap, cur, hv, hg, by rw [k.block g hlt]; exact hh, r⟩
theorem own_mono {w : World} {base base' : Nat} {e : TypeId} {size : Nat} {v : Value} {n : Nat} {xs : List Value} (h : w.ownsRow base e size v n xs) (k : base' ≤ base) : w.ownsRow base' e size v n xs := by
  obtain ⟨h1, h2⟩ := h
  refine ⟨h1, ?_⟩
  rcases h2 with h2 | ⟨g, cap, cur, hv, hg, r⟩
  · exact Or.inl h2
  · exact Or.inr ⟨g, cap, cur, hv, Nat.le_trans k hg, r⟩
theorem own_cap {w : World} {base : Nat} {e : TypeId} {size : Nat} {v : Value} {n : Nat} {xs : List Value} (h : w.ownsRow base e size v n xs) : ∃ a c, v = .slice a n c ∧ n ≤ c ∧ c ≤ maxLen ∧ (0 < n → ∃ g, a = some ⟨g, 0, none⟩ ∧ base ≤ g ∧ g < w.heap.size ∧ ∀ j u, xs[j]? = some u → w.cell? ⟨g, j, none⟩ = some u) := by
  have hl := h.1
  rcases h.2 with ⟨rfl, rfl⟩ | ⟨g, cap, cur, rfl, hg, hh, hc, hm, r⟩
  · exact ⟨none, 0, rfl, Nat.le_refl _, by unfold maxLen; omega, fun q => by omega⟩
  · refine ⟨_, cap, rfl, hc, hm, fun q => ⟨g, rfl, hg, ?_, fun j u hu => ?_⟩⟩
    · rcases Nat.lt_or_ge g w.heap.size with q | q
      · exact q
      · rw [Array.getElem?_eq_none q] at hh; cases hh
    · have hj : j < n * size := by
        rcases Nat.lt_or_ge j (n * size) with q | q
        · exact q
        · rw [List.getElem?_eq_none (by omega)] at hu; cases hu
      rw [h.cellAt j hj, hu]
/-- Behind an append on a row of the call's own: what lies below the call's first block is as it was, and so is each block that is not the row's. -/
theorem grown_below {w w' : World} {base : Nat} {e : TypeId} {size : Nat} {v : Value} {n : Nat} {xs : List Value} (h : w.ownsRow base e size v n xs) (hg : w.grownBy w' v.ownBlock) (hb : base ≤ w.heap.size) : Below base w w' :=
  Below.grown (Below.refl _ _) hg hb (fun k hk => (h.lt k hk).1)

theorem Kept.trans' {a b c : World} (h : Kept a b) (k : Below a.heap.size b c) : Kept a c := Below.trans h k
theorem new_cells (w : World) (arr : Array Value) (e : TypeId) (g : Nat) (hg : g = w.heap.size) : ∀ j u, arr.toList[j]? = some u → (w.alloc (.cells arr e)).cell? ((⟨g, 0, none⟩ : Addr).add j) = some u := by
  intro j u hu
  have hh : (w.alloc (.cells arr e)).heap[g]? = some (.cells arr e (0, 0)) := by rw [hg]; exact heap_alloc_new w _
  have e1 : ((⟨g, 0, none⟩ : Addr).add j) = ⟨g, j, none⟩ := by unfold Addr.add; split <;> simp_all
  rw [e1]
  simp only [World.cell?, hh]
  rw [Array.getElem?_toList] at hu
  simpa using hu
theorem grown_cell {w w' : World} {row : Option Nat} (hg : w.grownBy w' row) (g o : Nat) (hlt : g < w.heap.size) (hne : some g ≠ row) : w'.cell? ⟨g, o, none⟩ = w.cell? ⟨g, o, none⟩ :=
  World.cell?_of_block (a := ⟨g, o, none⟩) (hg.block g hlt hne)
theorem grown_frozen {w w' : World} {row : Option Nat} (hg : w.grownBy w' row) (g o : Nat) (hlt : g < w.heap.size) (hne : some g ≠ row) : w'.frozen? ⟨g, o, none⟩ = w.frozen? ⟨g, o, none⟩ :=
  World.frozen?_of_block (a := ⟨g, o, none⟩) (hg.block g hlt hne)
theorem own_ne {w : World} {base : Nat} {e : TypeId} {size : Nat} {v : Value} {n : Nat} {xs : List Value} (h : w.ownsRow base e size v n xs) (g : Nat) (hg : w.heap.size ≤ g) : some g ≠ v.ownBlock := fun q => by
  have := (h.lt g q.symm).2; omega
end Go.Proofs.YtflpkadknljpbaaDoor
