/- Plain helpers of this seat's proofs: endings, bytes of a string, worlds that keep what was there. No condition. -/
import Derived.Test.YtnbhpmleboildaaGreatDoorProg
import Derived.WalkKit
import Derived.Deep.QuietTactic
import Derived.BigQuiet
import Derived.Lib.Hide
import Derived.Lib.Split
import Derived.Lib.Join
import Derived.Lib.IndexMore
import Derived.Lib.IndexAny
import Derived.Lib.Bytealg
import Derived.Shelf.Strings.Split

set_option linter.all false
namespace Go.Proofs.YtnbhpmleboildaaGreatDoor
open Go.RowKit

theorem ret_int {k : IntKind} {a b : Int} (h : a = b) : Ending.returned (.int k a) = .returned (.int k b) := by rw [h]
/-- Everything that was there is as it was. -/
abbrev Kept (w w' : World) : Prop := Below w.heap.size w w'
theorem Kept.refl (w : World) : Kept w w := Below.refl _ _
theorem Kept.trans {a b c : World} (h : Kept a b) (k : Kept b c) : Kept a c := Below.trans h (Below.mono k h.size)
theorem kept_drewN (w : World) (n : Nat) : Kept w (w.drewN n) := ⟨rfl, rfl, rfl, Nat.le_refl _, fun _ _ => rfl⟩
theorem kept_alloc (w : World) (o : Obj) : Kept w (w.alloc o) := (Below.refl _ _).alloc (Nat.le_refl _) _

/-- What the library's search asks of a world: its variable MaxLen holds some number. -/
def Gnd (w : World) : Prop := ∃ m, w.cell? ⟨0, 0, none⟩ = some (.int .i64 m)
theorem Gnd.lt {w : World} (h : Gnd w) : 0 < w.heap.size := by
  obtain ⟨m, h⟩ := h
  rcases Nat.lt_or_ge 0 w.heap.size with h' | h'
  · exact h'
  · simp [World.cell?, Array.getElem?_eq_none h'] at h
theorem Gnd.kept {w w' : World} (h : Gnd w) (k : Kept w w') : Gnd w' := by
  have hl := h.lt
  obtain ⟨m, h⟩ := h
  exact ⟨m, (k.cell (p := ⟨0, 0, none⟩) hl).trans h⟩

/-- The byte of a string at a place, as a number. -/
def byteAt (s : ByteArray) (i : Nat) : Int := ((s.data.toList.getD i 0).toNat : Int)
theorem byteAt_lo (s : ByteArray) (i : Nat) : 0 ≤ byteAt s i := by unfold byteAt; omega
theorem byteAt_get (s : ByteArray) (i : Nat) : byteAt s i = ((s.get! i).toNat : Int) := by
  unfold byteAt
  rcases Nat.lt_or_ge i s.size with h | h
  · have h' : i < s.data.toList.length := by simpa using h
    rw [List.getD_eq_getElem?_getD, List.getElem?_eq_getElem h']
    have e : s.get! i = s[i]'h := by
      simp [ByteArray.get!, getElem!_pos, h]
      rfl
    rw [e]; rfl
  · have h' : s.data.toList.length ≤ i := by simpa using h
    rw [List.getD_eq_getElem?_getD, List.getElem?_eq_none h']
    have e : s.get! i = 0 := by
      simp only [ByteArray.get!]
      rw [getElem!_neg]
      · rfl
      · have : s.size = s.data.size := rfl
        omega
    rw [e]; rfl
end Go.Proofs.YtnbhpmleboildaaGreatDoor

/- Rows that a call owns, kept over worlds that keep what was there. No condition. -/
set_option linter.all false
namespace Go.Proofs.YtnbhpmleboildaaGreatDoor
open Go.RowKit

theorem own_kept {w w' : World} {base : Nat} {e : TypeId} {size : Nat} {v : Value} {n : Nat} {xs : List Value} (h : w.ownsRow base e size v n xs) (k : Kept w w') : w'.ownsRow base e size v n xs := by
  obtain ⟨h1, h2⟩ := h
  refine ⟨h1, ?_⟩
  rcases h2 with h2 | ⟨g, cap, cur, hv, hg, hh, r⟩
  · exact Or.inl h2
  · have hlt : g < w.heap.size := by
      rcases Nat.lt_or_ge g w.heap.size with q | q
      · exact q
      · rw [Array.getElem?_eq_none q] at hh; cases hh
    exact Or.inr ⟨g, cap, cur, hv, hg, by rw [k.block g hlt]; exact hh, r⟩
theorem own_mono {w : World} {base base' : Nat} {e : TypeId} {size : Nat} {v : Value} {n : Nat} {xs : List Value} (h : w.ownsRow base e size v n xs) (k : base' ≤ base) : w.ownsRow base' e size v n xs := by
  obtain ⟨h1, h2⟩ := h
  refine ⟨h1, ?_⟩
  rcases h2 with h2 | ⟨g, cap, cur, hv, hg, r⟩
  · exact Or.inl h2
  · exact Or.inr ⟨g, cap, cur, hv, Nat.le_trans k hg, r⟩
theorem own_cap {w : World} {base : Nat} {e : TypeId} {size : Nat} {v : Value} {n : Nat} {xs : List Value} (h : w.ownsRow base e size v n xs) : ∃ a c, v = .slice a n c ∧ n ≤ c ∧ c ≤ maxLen ∧ (0 < n → ∃ g, a = some ⟨g, 0, none⟩ ∧ base ≤ g ∧ g < w.heap.size ∧ ∀ j u, xs[j]? = some u → w.cell? ⟨g, j, none⟩ = some u) := by
  have hl := h.1
  rcases h.2 with ⟨rfl, rfl⟩ | ⟨g, cap, cur, rfl, hg, hh, hc, hm, r⟩
  · exact ⟨none, 0, rfl, Nat.le_refl _, by unfold maxLen; omega, fun q => by omega⟩
  · refine ⟨_, cap, rfl, hc, hm, fun q => ⟨g, rfl, hg, ?_, fun j u hu => ?_⟩⟩
    · rcases Nat.lt_or_ge g w.heap.size with q | q
      · exact q
      · rw [Array.getElem?_eq_none q] at hh; cases hh
    · have hj : j < n * size := by
        rcases Nat.lt_or_ge j (n * size) with q | q
        · exact q
        · rw [List.getElem?_eq_none (by omega)] at hu; cases hu
      rw [h.cellAt j hj, hu]
/-- Behind an append on a row of the call's own: what lies below the call's first block is as it was, and so is each block that is not the row's. -/
theorem grown_below {w w' : World} {base : Nat} {e : TypeId} {size : Nat} {v : Value} {n : Nat} {xs : List Value} (h : w.ownsRow base e size v n xs) (hg : w.grownBy w' v.ownBlock) (hb : base ≤ w.heap.size) : Below base w w' :=
  Below.grown (Below.refl _ _) hg hb (fun k hk => (h.lt k hk).1)

theorem Kept.trans' {a b c : World} (h : Kept a b) (k : Below a.heap.size b c) : Kept a c := Below.trans h k
theorem new_cells (w : World) (arr : Array Value) (e : TypeId) (g : Nat) (hg : g = w.heap.size) : ∀ j u, arr.toList[j]? = some u → (w.alloc (.cells arr e)).cell? ((⟨g, 0, none⟩ : Addr).add j) = some u := by
  intro j u hu
  have hh : (w.alloc (.cells arr e)).heap[g]? = some (.cells arr e (0, 0)) := by rw [hg]; exact heap_alloc_new w _
  have e1 : ((⟨g, 0, none⟩ : Addr).add j) = ⟨g, j, none⟩ := by unfold Addr.add; split <;> simp_all
  rw [e1]
  simp only [World.cell?, hh]
  rw [Array.getElem?_toList] at hu
  simpa using hu
theorem grown_cell {w w' : World} {row : Option Nat} (hg : w.grownBy w' row) (g o : Nat) (hlt : g < w.heap.size) (hne : some g ≠ row) : w'.cell? ⟨g, o, none⟩ = w.cell? ⟨g, o, none⟩ :=
  World.cell?_of_block (a := ⟨g, o, none⟩) (hg.block g hlt hne)
end Go.Proofs.YtnbhpmleboildaaGreatDoor

/- Worlds that differ at some blocks alone. No condition. -/
set_option linter.all false
namespace Go.Proofs.YtnbhpmleboildaaGreatDoor
open Go.RowKit

/-- Every block that was there is as it was, but for those of S. -/
structure Only (S : Nat → Prop) (w w' : World) : Prop where
  os : w'.os = w.os
  tape : w'.tape = w.tape
  output : w'.output = w.output
  size : w.heap.size ≤ w'.heap.size
  block : ∀ k, k < w.heap.size → ¬ S k → w'.heap[k]? = w.heap[k]?
theorem Only.of_kept {S : Nat → Prop} {w w' : World} (h : Kept w w') : Only S w w' := ⟨h.os, h.tape, h.output, h.size, fun k hk _ => h.block k hk⟩
theorem Only.trans {S : Nat → Prop} {a b c : World} (h : Only S a b) (k : Only S b c) : Only S a c :=
  ⟨k.os.trans h.os, k.tape.trans h.tape, k.output.trans h.output, Nat.le_trans h.size k.size, fun i hi hs => (k.block i (Nat.lt_of_lt_of_le hi h.size) hs).trans (h.block i hi hs)⟩
theorem Only.mono {S S' : Nat → Prop} {w w' : World} (h : Only S w w') (k : ∀ i, i < w.heap.size → S i → S' i) : Only S' w w' :=
  ⟨h.os, h.tape, h.output, h.size, fun i hi hs => h.block i hi (fun q => hs (k i hi q))⟩
theorem Only.grown {w w' : World} {row : Option Nat} (h : w.grownBy w' row) : Only (fun i => some i = row) w w' := ⟨h.os, h.tape, h.output, h.size, fun k hk hs => h.block k hk hs⟩
theorem Only.setCell {w : World} (g o : Nat) (v : Value) : Only (fun i => i = g) w (w.setCell ⟨g, o, none⟩ v) :=
  ⟨rfl, rfl, rfl, by simp [World.setCell], fun k hk hs => by simp [World.setCell, Array.getElem?_modify, Ne.symm hs]⟩
theorem Only.below {S : Nat → Prop} {w w' : World} {B : Nat} (h : Only S w w') (hB : B ≤ w.heap.size) (hS : ∀ i, S i → B ≤ i) : Below B w w' :=
  ⟨h.os, h.tape, h.output, h.size, fun k hk => h.block k (by omega) (fun q => by have := hS k q; omega)⟩
theorem Only.cell {S : Nat → Prop} {w w' : World} (h : Only S w w') (g o : Nat) (hg : g < w.heap.size) (hs : ¬ S g) : w'.cell? ⟨g, o, none⟩ = w.cell? ⟨g, o, none⟩ := World.cell?_of_block (a := ⟨g, o, none⟩) (h.block g hg hs)
theorem Only.own {S : Nat → Prop} {w w' : World} {base : Nat} {e : TypeId} {size : Nat} {v : Value} {n : Nat} {xs : List Value} (h : Only S w w') (ho : w.ownsRow base e size v n xs) (hs : ∀ g, v.ownBlock = some g → ¬ S g) : w'.ownsRow base e size v n xs := by
  obtain ⟨h1, h2⟩ := ho
  refine ⟨h1, ?_⟩
  rcases h2 with h2 | ⟨g, cap, cur, hv, hg, hh, r⟩
  · exact .inl h2
  · have hlt : g < w.heap.size := by
      rcases Nat.lt_or_ge g w.heap.size with q | q
      · exact q
      · rw [Array.getElem?_eq_none q] at hh; cases hh
    exact .inr ⟨g, cap, cur, hv, hg, by rw [h.block g hlt (hs g (by rw [hv]; rfl))]; exact hh, r⟩
end Go.Proofs.YtnbhpmleboildaaGreatDoor

/- Plain law: a text divided at a byte, cleaned of spaces; what strings.Split hands back is that division. No condition. -/
set_option linter.all false
namespace Go.Proofs.YtnbhpmleboildaaGreatDoor

abbrev Bs := List UInt8
def stepC (c : UInt8) (st : List Bs × Bs) (b : UInt8) : List Bs × Bs := if b = c then (st.1 ++ [st.2], []) else (st.1, st.2 ++ [b])
def runC (c : UInt8) (l : Bs) : List Bs × Bs := l.foldl (stepC c) ([], [])
def splitC (c : UInt8) (l : Bs) : List Bs := (runC c l).1 ++ [(runC c l).2]

theorem runC_snoc (c : UInt8) (l : Bs) (b : UInt8) : runC c (l ++ [b]) = stepC c (runC c l) b := by simp [runC]
end Go.Proofs.YtnbhpmleboildaaGreatDoor
