/- Slices of persons; person.List. Conditions: lengths. -/
import Derived.Test.YteflhlbgbgamnaaGreatDoorT11
import Derived.Test.YteflhlbgbgamnaaGreatDoorT12
import Derived.Test.YteflhlbgbgamnaaGreatDoorT17
import Derived.Test.YteflhlbgbgamnaaGreatDoorT01

set_option linter.all false
namespace Go.Proofs.YteflhlbgbgamnaaGreatDoor
open Go.RowKit

/-- The slice value v reads in w as the persons ps. -/
def Perss (w : World) (v : Value) (ps : List P4) : Prop :=
  ∃ a c, v = .slice a ps.length c ∧ ps.length ≤ c ∧ (0 < ps.length → ∃ g o, a = some ⟨g, o, none⟩ ∧ g < w.heap.size ∧ ∀ j q, ps[j]? = some q →
    w.cell? ⟨g, o + j * 4, none⟩ = some (.string (bs q.1)) ∧ w.cell? ⟨g, o + j * 4 + 1, none⟩ = some (.string (bs q.2.1)) ∧ w.cell? ⟨g, o + j * 4 + 2, none⟩ = some (.string (bs q.2.2.1)) ∧ w.cell? ⟨g, o + j * 4 + 3, none⟩ = some (.string (bs q.2.2.2)))
theorem Perss.kept {w w' : World} {v : Value} {ps : List P4} (h : Perss w v ps) (k : Kept w w') : Perss w' v ps := by
  obtain ⟨a, c, hv, hc, h3⟩ := h
  refine ⟨a, c, hv, hc, fun q => ?_⟩
  obtain ⟨g, o, ha, hg, hcell⟩ := h3 q
  refine ⟨g, o, ha, Nat.lt_of_lt_of_le hg k.size, fun j x hx => ?_⟩
  obtain ⟨c0, c1, c2, c3⟩ := hcell j x hx
  exact ⟨(k.cell (p := ⟨g, o + j * 4, none⟩) hg).trans c0, (k.cell (p := ⟨g, o + j * 4 + 1, none⟩) hg).trans c1, (k.cell (p := ⟨g, o + j * 4 + 2, none⟩) hg).trans c2, (k.cell (p := ⟨g, o + j * 4 + 3, none⟩) hg).trans c3⟩
theorem Perss.cut {w : World} {a : Option Addr} {c : Nat} {ps : List P4} (h : Perss w (.slice a ps.length c) ps) (n : Nat) (hn : n ≤ ps.length) : Perss w (.slice a n c) (ps.take n) := by
  obtain ⟨a', c', hv, hc, h3⟩ := h
  obtain ⟨rfl, _, rfl⟩ := Value.slice.inj hv
  refine ⟨a, c, by simp; omega, by simp; omega, fun q => ?_⟩
  obtain ⟨g, o, ha, hg, hcell⟩ := h3 (by simp at q; omega)
  refine ⟨g, o, ha, hg, fun j x hx => hcell j x ?_⟩
  rw [List.getElem?_take] at hx
  split at hx
  · exact hx
  · cases hx

/-- The name of a person in a list. -/
def nameOf (full : Bool) (q : P4) : Bs := if full then joinedL [q.2.1, q.2.2.1, q.1, q.2.2.2] else joinedL [q.2.2.1, q.1]
def langOf (l : Bs) : Bs := if (andOf l).isSome then l else lEn
/-- The list of persons. -/
def plistL (ps : List P4) (l : Bs) (most : Int) (full : Bool) : Bs :=
  if 1 ≤ most ∧ most < ps.length then Lib.join ((ps.take most.toNat).map (nameOf full)) sepL ++ [32] ++ (andOf (langOf l)).getD [] ++ [32] ++ (othersOf (langOf l)).getD []
  else listL (langOf l) (ps.map (nameOf full))
def size4 (q : P4) : Nat := q.1.length + q.2.1.length + q.2.2.1.length + q.2.2.2.length
theorem nameOf_le (full : Bool) (q : P4) : (nameOf full q).length ≤ size4 q + 4 := by
  unfold nameOf size4
  cases full
  · have := joinedL_le [q.2.2.1, q.1]; simp [bulk] at this; simp; omega
  · have := joinedL_le [q.2.1, q.2.2.1, q.1, q.2.2.2]; simp [bulk] at this; simp; omega
theorem join_sep_le (m : Nat) : ∀ xs : List Bs, (∀ x ∈ xs, x.length ≤ m) → (Lib.join xs sepL).length ≤ xs.length * (m + 2)
  | [], _ => by rw [Lib.join_nil]; simp
  | x :: xs, h => by
    have ht : ∀ r : List Bs, (∀ x ∈ r, x.length ≤ m) → (Lib.joinTail sepL r).length ≤ r.length * (m + 2) := by
      intro r
      induction r with
      | nil => intro _; simp [Lib.joinTail]
      | cons b r ih =>
        intro hr
        have h1 := ih (fun x hx => hr x (by simp [hx]))
        have h2 := hr b (by simp)
        unfold Lib.joinTail at h1 ⊢
        simp only [List.map_cons, List.flatten_cons, List.length_append, List.length_cons, Nat.add_mul, Nat.one_mul]
        simp only [sepL, List.length_cons, List.length_nil] at h1 ⊢
        omega
    have h1 := ht xs (fun x hx => h x (by simp [hx]))
    have h2 := h x (by simp)
    rw [Lib.join_cons]
    simp only [List.length_append, List.length_cons, Nat.add_mul, Nat.one_mul]
    omega
theorem map_take (f : P4 → Bs) (ps : List P4) (k : Nat) (q : P4) (h : ps[k]? = some q) : (ps.take (k + 1)).map f = (ps.take k).map f ++ [f q] := by
  obtain ⟨hk, rfl⟩ := List.getElem?_eq_some_iff.1 h
  rw [List.take_succ_eq_append_getElem hk, List.map_append]; rfl
theorem names_le (full : Bool) (ps : List P4) (h : ∀ q ∈ ps, size4 q ≤ 10000) : ∀ x ∈ ps.map (nameOf full), x.length ≤ 10004 := by
  intro x hx
  obtain ⟨q, hq, rfl⟩ := List.mem_map.1 hx
  have := nameOf_le full q; have := h q hq; omega
theorem othersOf_len (l : Bs) : ((othersOf l).getD []).length ≤ 6 := by
  unfold othersOf
  by_cases h1 : l = lEn
  · rw [if_pos h1]; decide
  by_cases h2 : l = lDe
  · rw [if_neg h1, if_pos h2]; decide
  by_cases h3 : l = lFr
  · rw [if_neg h1, if_neg h2, if_pos h3]; decide
  by_cases h4 : l = lEs
  · rw [if_neg h1, if_neg h2, if_neg h3, if_pos h4]; decide
  · rw [if_neg h1, if_neg h2, if_neg h3, if_neg h4]; decide

end Go.Proofs.YteflhlbgbgamnaaGreatDoor

/- Worlds that differ at some blocks alone. No condition. -/
set_option linter.all false
namespace Go.Proofs.YteflhlbgbgamnaaGreatDoor
open Go.RowKit

/-- Every block that was there is as it was, but for those of S. -/
structure Only (S : Nat → Prop) (w w' : World) : Prop where
  os : w'.os = w.os
  tape : w'.tape = w.tape
  output : w'.output = w.output
  size : w.heap.size ≤ w'.heap.size
  block : ∀ k, k < w.heap.size → ¬ S k → w'.heap[k]? = w.heap[k]?
theorem Only.of_kept {S : Nat → Prop} {w w' : World} (h : Kept w w') : Only S w w' := ⟨h.os, h.tape, h.output, h.size, fun k hk _ => h.block k hk⟩
theorem Only.trans {S : Nat → Prop} {a b c : World} (h : Only S a b) (k : Only S b c) : Only S a c :=
  ⟨k.os.trans h.os, k.tape.trans h.tape, k.output.trans h.output, Nat.le_trans h.size k.size, fun i hi hs => (k.block i (Nat.lt_of_lt_of_le hi h.size) hs).trans (h.block i hi hs)⟩
theorem Only.mono {S S' : Nat → Prop} {w w' : World} (h : Only S w w') (k : ∀ i, i < w.heap.size → S i → S' i) : Only S' w w' :=
  ⟨h.os, h.tape, h.output, h.size, fun i hi hs => h.block i hi (fun q => hs (k i hi q))⟩
theorem Only.kept_trans {S : Nat → Prop} {a b c : World} (h : Kept a b) (k : Only S b c) : Only S a c := (Only.of_kept h).trans k
theorem Only.grown {w w' : World} {row : Option Nat} (h : w.grownBy w' row) : Only (fun i => some i = row) w w' := ⟨h.os, h.tape, h.output, h.size, fun k hk hs => h.block k hk hs⟩
theorem Only.setCell {w : World} (g o : Nat) (v : Value) : Only (fun i => i = g) w (w.setCell ⟨g, o, none⟩ v) :=
  ⟨rfl, rfl, rfl, by simp [World.setCell], fun k hk hs => by simp [World.setCell, Array.getElem?_modify, Ne.symm hs]⟩
theorem Only.below {S : Nat → Prop} {w w' : World} {B : Nat} (h : Only S w w') (hB : B ≤ w.heap.size) (hS : ∀ i, S i → B ≤ i) : Below B w w' :=
  ⟨h.os, h.tape, h.output, h.size, fun k hk => h.block k (by omega) (fun q => by have := hS k q; omega)⟩
theorem Only.cell {S : Nat → Prop} {w w' : World} (h : Only S w w') (g o : Nat) (hg : g < w.heap.size) (hs : ¬ S g) : w'.cell? ⟨g, o, none⟩ = w.cell? ⟨g, o, none⟩ := World.cell?_of_block (a := ⟨g, o, none⟩) (h.block g hg hs)
theorem Only.own {S : Nat → Prop} {w w' : World} {base : Nat} {e : TypeId} {size : Nat} {v : Value} {n : Nat} {xs : List Value} (h : Only S w w') (ho : w.ownsRow base e size v n xs) (hs : ∀ g, v.ownBlock = some g → ¬ S g) : w'.ownsRow base e size v n xs := by
  obtain ⟨h1, h2⟩ := ho
  refine ⟨h1, ?_⟩
  rcases h2 with h2 | ⟨g, cap, cur, hv, hg, hh, r⟩
  · exact .inl h2
  · have hlt : g < w.heap.size := by
      rcases Nat.lt_or_ge g w.heap.size with q | q
      · exact q
      · rw [Array.getElem?_eq_none q] at hh; cases hh
    exact .inr ⟨g, cap, cur, hv, hg, by rw [h.block g hlt (hs g (by rw [hv]; rfl))]; exact hh, r⟩
end Go.Proofs.YteflhlbgbgamnaaGreatDoor
