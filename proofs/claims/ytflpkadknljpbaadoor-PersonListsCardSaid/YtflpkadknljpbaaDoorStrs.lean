/- Slices of strings; strings.Split and strings.Join by lists of bytes. Conditions: lengths below a thousand million. -/
import Derived.Test.YtflpkadknljpbaaDoorStr
import Derived.Test.YtflpkadknljpbaaDoorShelf
set_option linter.all false
namespace Go.Proofs.YtflpkadknljpbaaDoor
open Go.RowKit

def strCells (xs : List Bs) : List Value := xs.map fun x => .string (bs x)
theorem strCells_length (xs : List Bs) : (strCells xs).length = xs.length := by simp [strCells]
theorem strCells_snoc (xs : List Bs) (x : Bs) : strCells (xs ++ [x]) = strCells xs ++ [.string (bs x)] := by simp [strCells]
theorem strCells_at (xs : List Bs) (j : Nat) (x : Bs) (h : xs[j]? = some x) : (strCells xs)[j]? = some (.string (bs x)) := by simp [strCells, h]

/-- The slice value v reads in w as the strings xs. -/
def Strs (w : World) (v : Value) (xs : List Bs) : Prop :=
  ∃ a c, v = .slice a xs.length c ∧ xs.length ≤ c ∧ (0 < xs.length → ∃ g o, a = some ⟨g, o, none⟩ ∧ g < w.heap.size ∧ ∀ j x, xs[j]? = some x → w.cell? ⟨g, o + j, none⟩ = some (.string (bs x)))
theorem Strs.kept {w w' : World} {v : Value} {xs : List Bs} (h : Strs w v xs) (k : Kept w w') : Strs w' v xs := by
  obtain ⟨a, c, hv, hc, h3⟩ := h
  refine ⟨a, c, hv, hc, fun q => ?_⟩
  obtain ⟨g, o, ha, hg, hcell⟩ := h3 q
  exact ⟨g, o, ha, Nat.lt_of_lt_of_le hg k.size, fun j x hx => (k.cell (p := ⟨g, o + j, none⟩) hg).trans (hcell j x hx)⟩
theorem Strs.own {w : World} {base : Nat} {e : TypeId} {v : Value} {xs : List Bs} (h : w.ownsRow base e 1 v xs.length (strCells xs)) : Strs w v xs := by
  obtain ⟨a, c, hv, hc, _, h3⟩ := own_cap h
  refine ⟨a, c, hv, hc, fun q => ?_⟩
  obtain ⟨g, ha, _, hg, hcell⟩ := h3 q
  exact ⟨g, 0, ha, hg, fun j x hx => by rw [Nat.zero_add]; exact hcell j _ (strCells_at xs j x hx)⟩
theorem Strs.none_ (w : World) : Strs w (.slice none 0 0) [] := ⟨none, 0, rfl, Nat.le_refl _, fun q => absurd q (by simp)⟩

theorem Tryd.infoStr : (Tryd.prog.info? 9).map (fun i => (i.zero, i.size, i.bytes)) = some (some (.string ⟨#[]⟩), 1, 16) := by kernel_rfl

theorem map_bs : ∀ (xs : List ByteArray) (ys : List Bs), xs.map (·.data.toList) = ys → xs = ys.map bs
  | [], ys, h => by subst h; rfl
  | x :: xs, ys, h => by
    subst h
    simp only [List.map_cons]
    rw [← map_bs xs _ rfl]
    rfl

theorem split_any (l : Bs) (c : UInt8) (w : World) (hg : Gnd w) (hl : l.length ≤ 1000000000) :
    Calls Tryd.prog 50 #[.string (bs l), .string (bs [c])] w fun e w' => e = .returned (.slice (some ⟨w.heap.size, 0, none⟩) (splitC c l).length (splitC c l).length) ∧ w' = w.alloc (.cells (strCells (splitC c l)).toArray 9) := by
  obtain ⟨m, hm⟩ := hg
  refine (Tryd.strings_Split (bs l) (bs [c]) m w (by simp; omega) hm (by simp)).mono ?_
  rintro e w' ⟨rfl, rfl⟩
  have e1 : Lib.countB (bs l) (bs [c]) + 1 = (splitC c l).length := by rw [splitC_length]; congr 1; exact countB_one (bs l) c
  have e2 : (Lib.splitB (bs [c]) 0 (Lib.countB (bs l) (bs [c])) (bs l)) = (splitC c l).map bs := map_bs _ _ (splitB_one (bs l) c)
  rw [e1, e2]
  refine ⟨rfl, ?_⟩
  rw [List.map_map]; rfl

theorem join_any (v : Value) (xs : List Bs) (sep : Bs) (w : World) (hv : Strs w v xs) (hN : xs.length ≤ 1000000000) (hlen : (Lib.join xs sep).length ≤ 1000000000) :
    Calls Tryd.prog 62 #[v, .string (bs sep)] w fun e w' => e = .returned (.string (bs (Lib.join xs sep))) ∧ Kept w w' := by
  obtain ⟨a, c, rfl, hc, h3⟩ := hv
  rcases Nat.eq_zero_or_pos xs.length with h0 | h0
  · obtain rfl : xs = [] := List.length_eq_zero_iff.1 h0
    refine (Tryd.strings_Join_none a c (bs sep) w).mono ?_
    rintro e w' ⟨rfl, rfl⟩
    exact ⟨rfl, Kept.refl _⟩
  · obtain ⟨g, o, rfl, hg, hcell⟩ := h3 h0
    have hm : (xs.map bs).map (·.data.toList) = xs := by
      rw [List.map_map]
      exact List.map_id xs
    have h := Tryd.strings_Join g o c (xs.map bs) (bs sep) w (fun j x hx => by
      rw [List.getElem?_map] at hx
      cases hj : xs[j]? with
      | none => rw [hj] at hx; cases hx
      | some y => rw [hj] at hx; cases hx; exact hcell j y hj) hg (by simp; omega) (by simpa using hc) (by rw [hm]; simp; omega)
    rw [hm] at h
    simp only [List.length_map] at h
    exact h
end Go.Proofs.YtflpkadknljpbaaDoor
