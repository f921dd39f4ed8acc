/- Strings by their lists of bytes: one spelling for the walks. No condition. -/
import Derived.Test.YtnbhpmleboildaaGreatDoorY01
import Derived.Test.YtnbhpmleboildaaGreatDoorShelf
import Derived.Lib.Strings
import Derived.Lib.SmallJoins
import Derived.Shelf.Strings.Builder1
import Derived.Shelf.Strings.OnBuilder

set_option linter.all false
namespace Go.Proofs.YtnbhpmleboildaaGreatDoor
open Go.RowKit

/-- The string of a list of bytes. -/
def bs (l : Bs) : ByteArray := ⟨l.toArray⟩
@[simp] theorem mk_bs (l : Bs) : ByteArray.mk l.toArray = bs l := rfl
@[simp] theorem empty_bs : ByteArray.empty = bs [] := rfl
@[simp] theorem bs_data (l : Bs) : (bs l).data.toList = l := rfl
@[simp] theorem bs_size (l : Bs) : (bs l).size = l.length := rfl
@[simp] theorem bs_toList (l : Bs) : (bs l).toList = l := ByteArray.toList_eq _
theorem bs_ext {s : ByteArray} {l : Bs} (h : s.data.toList = l) : s = bs l := by subst h; rfl
@[simp] theorem bs_append (a b : Bs) : bs a ++ bs b = bs (a ++ b) := bs_ext (by rw [Joins.data_append]; rfl)
@[simp] theorem bs_extract (l : Bs) (i j : Nat) : (bs l).extract i j = bs ((l.drop i).take (j - i)) := bs_ext (by rw [Lib.extract_data]; rfl)
@[simp] theorem bs_inj (a b : Bs) : bs a = bs b ↔ a = b := ⟨fun h => by have := congrArg (fun s : ByteArray => s.data.toList) h; simpa using this, fun h => by rw [h]⟩
theorem take_next (l : Bs) (k : Nat) (h : k < l.length) : l.take (k + 1) = l.take k ++ [l[k]] := List.take_succ_eq_append_getElem h
end Go.Proofs.YtnbhpmleboildaaGreatDoor

/- Slices of strings; strings.Split and strings.Join by lists of bytes. Conditions: lengths below a thousand million. -/
set_option linter.all false
namespace Go.Proofs.YtnbhpmleboildaaGreatDoor
open Go.RowKit

def strCells (xs : List Bs) : List Value := xs.map fun x => .string (bs x)
theorem strCells_length (xs : List Bs) : (strCells xs).length = xs.length := by simp [strCells]
theorem strCells_at (xs : List Bs) (j : Nat) (x : Bs) (h : xs[j]? = some x) : (strCells xs)[j]? = some (.string (bs x)) := by simp [strCells, h]

/-- The slice value v reads in w as the strings xs. -/
def Strs (w : World) (v : Value) (xs : List Bs) : Prop :=
  ∃ a c, v = .slice a xs.length c ∧ xs.length ≤ c ∧ (0 < xs.length → ∃ g o, a = some ⟨g, o, none⟩ ∧ g < w.heap.size ∧ ∀ j x, xs[j]? = some x → w.cell? ⟨g, o + j, none⟩ = some (.string (bs x)))
theorem Strs.kept {w w' : World} {v : Value} {xs : List Bs} (h : Strs w v xs) (k : Kept w w') : Strs w' v xs := by
  obtain ⟨a, c, hv, hc, h3⟩ := h
  refine ⟨a, c, hv, hc, fun q => ?_⟩
  obtain ⟨g, o, ha, hg, hcell⟩ := h3 q
  exact ⟨g, o, ha, Nat.lt_of_lt_of_le hg k.size, fun j x hx => (k.cell (p := ⟨g, o + j, none⟩) hg).trans (hcell j x hx)⟩
theorem Strs.own {w : World} {base : Nat} {e : TypeId} {v : Value} {xs : List Bs} (h : w.ownsRow base e 1 v xs.length (strCells xs)) : Strs w v xs := by
  obtain ⟨a, c, hv, hc, _, h3⟩ := own_cap h
  refine ⟨a, c, hv, hc, fun q => ?_⟩
  obtain ⟨g, ha, _, hg, hcell⟩ := h3 q
  exact ⟨g, 0, ha, hg, fun j x hx => by rw [Nat.zero_add]; exact hcell j _ (strCells_at xs j x hx)⟩
theorem Strs.none_ (w : World) : Strs w (.slice none 0 0) [] := ⟨none, 0, rfl, Nat.le_refl _, fun q => absurd q (by simp)⟩

theorem Tryz.infoStr : (Tryz.prog.info? 9).map (fun i => (i.zero, i.size, i.bytes)) = some (some (.string ⟨#[]⟩), 1, 16) := by kernel_rfl

end Go.Proofs.YtnbhpmleboildaaGreatDoor

/- Blocks known whole; the division at a brace; wrappers of the library's Cut, CutPrefix, Count. Conditions: lengths. -/
set_option linter.all false
namespace Go.Proofs.YtnbhpmleboildaaGreatDoor
open Go.RowKit

/-- Block g is just the cells cs of element type t, none frozen. -/
def Blk (w : World) (g : Nat) (t : TypeId) (cs : Array Value) : Prop := w.heap[g]? = some (.cells cs t (0, 0))
theorem Blk.lt {w : World} {g : Nat} {t : TypeId} {cs : Array Value} (h : Blk w g t cs) : g < w.heap.size := by
  rcases Nat.lt_or_ge g w.heap.size with q | q
  · exact q
  · unfold Blk at h; rw [Array.getElem?_eq_none q] at h; cases h
theorem Blk.cell {w : World} {g : Nat} {t : TypeId} {cs : Array Value} (h : Blk w g t cs) (i : Nat) (v : Value) (hi : cs[i]? = some v) : w.cell? ⟨g, i, none⟩ = some v := by
  unfold Blk at h; simp only [World.cell?, h]; simpa using hi
theorem Blk.free {w : World} {g : Nat} {t : TypeId} {cs : Array Value} (h : Blk w g t cs) (i : Nat) : w.frozen? ⟨g, i, none⟩ = false := by
  unfold Blk at h; simp only [World.frozen?, h]; simp
theorem Blk.kept {w w' : World} {g : Nat} {t : TypeId} {cs : Array Value} (h : Blk w g t cs) (k : Kept w w') : Blk w' g t cs := by
  have := h.lt
  unfold Blk at h ⊢; rw [k.block g this]; exact h
theorem Blk.new (w : World) (t : TypeId) (cs : Array Value) : Blk (w.alloc (.cells cs t)) w.heap.size t cs := heap_alloc_new w _
theorem Blk.alloc {w : World} {g : Nat} {t : TypeId} {cs : Array Value} (h : Blk w g t cs) (o : Obj) : Blk (w.alloc o) g t cs := h.kept (kept_alloc w o)
theorem Blk.drewN {w : World} {g : Nat} {t : TypeId} {cs : Array Value} (h : Blk w g t cs) (n : Nat) : Blk (w.drewN n) g t cs := h
theorem Blk.set {w : World} {g : Nat} {t : TypeId} {cs : Array Value} (h : Blk w g t cs) (i : Nat) (v : Value) : Blk (w.setCell ⟨g, i, none⟩ v) g t (cs.setIfInBounds i v) := by
  unfold Blk at h ⊢
  simp only [World.setCell, Array.getElem?_modify, h]
  simp
theorem Blk.other {w : World} {g : Nat} {t : TypeId} {cs : Array Value} (h : Blk w g t cs) (g' i : Nat) (v : Value) (hne : g ≠ g') : Blk (w.setCell ⟨g', i, none⟩ v) g t cs := by
  unfold Blk at h ⊢; rw [Below.heap_setCell _ _ _ _ hne]; exact h
theorem kept_set {a w : World} (h : Kept a w) (g i : Nat) (v : Value) (hg : a.heap.size ≤ g) : Kept a (w.setCell ⟨g, i, none⟩ v) := Below.setCell h hg v
theorem size_setCell (w : World) (a : Addr) (v : Value) : (w.setCell a v).heap.size = w.heap.size := by simp [World.setCell]

/-- How many bytes stand before the first c. -/
def before (c : UInt8) (l : Bs) : Nat := (l.takeWhile (· ≠ c)).length
theorem before_le (c : UInt8) (l : Bs) : before c l ≤ l.length := by unfold before; exact (List.takeWhile_sublist _).length_le
theorem index_before : ∀ (l : Bs) (c : UInt8), (before c l < l.length ∧ Lib.index l [c] = before c l) ∨ (before c l = l.length ∧ Lib.index l [c] = -1)
  | [], c => .inr ⟨rfl, rfl⟩
  | b :: l, c => by
    unfold Lib.index before
    by_cases hb : c = b
    · subst hb
      left
      refine ⟨by simp, ?_⟩
      have e : [c].isPrefixOf (c :: l) = true := by simp [List.isPrefixOf]
      rw [e]; simp
    · have e : [c].isPrefixOf (b :: l) = false := by simp [List.isPrefixOf, hb]
      have e2 : ((b :: l).takeWhile (· ≠ c)).length = before c l + 1 := by
        rw [List.takeWhile_cons, if_pos (by simpa using fun q => hb q.symm)]; rfl
      rw [e, e2]
      simp only [Bool.false_eq_true, if_false, List.length_cons]
      rcases index_before l c with ⟨h1, h2⟩ | ⟨h1, h2⟩
      · left
        have hne : ¬ ((before c l : Int) == -1) = true := by simp only [beq_iff_eq]; omega
        exact ⟨by omega, by rw [h2, if_neg hne]; omega⟩
      · right; exact ⟨by omega, by rw [h2]; rfl⟩
theorem cut_any (l : Bs) (c : UInt8) (w : World) (hg : Gnd w) (hl : l.length ≤ 1000000000) :
    Calls Tryz.prog 41 #[.string (bs l), .string (bs [c])] w fun e w' =>
      e = .returned (.tuple (if before c l < l.length then #[.string (bs (l.take (before c l))), .string (bs (l.drop (before c l + 1))), .bool true] else #[.string (bs l), .string (bs []), .bool false])) ∧ ∃ n, w' = w.drewN n := by
  obtain ⟨m, hm⟩ := hg
  refine (Tryz.strings_Cut (bs l) (bs [c]) m w (by simp; omega) hm).mono ?_
  rintro e w' ⟨rfl, hw⟩
  refine ⟨?_, hw⟩
  simp only [bs_data, mk_bs]
  unfold Lib.cut
  rcases index_before l c with ⟨h1, h2⟩ | ⟨h1, h2⟩
  · rw [if_pos (by rw [h2]; omega), if_pos h1, h2]; simp
  · rw [if_neg (by rw [h2]; omega), if_neg (by omega)]

end Go.Proofs.YtnbhpmleboildaaGreatDoor

/- strings.Builder's WriteString and WriteByte. Conditions: lengths. -/
namespace Go.Proofs
def Tryz.bld166_ren : Go.Shelf.Ren := ⟨fun | 166 => 66 | 240 => 83 | 276 => 106 | n => n, fun | 0 => 0 | 3 => 3 | 4 => 4 | 5 => 5 | 9 => 9 | 20 => 20 | 37 => 112 | 70 => 111 | 72 => 114 | 75 => 123 | 76 => 124 | 80 => 83 | 164 => 163 | n => n, fun | n => n⟩
theorem Tryz.bld166 : Lays.n166 Tryz.prog Tryz.bld166_ren := {
  mixed := by kernel_rfl
  f166 := Tryz.func66.trans (congrArg some (by kernel_rfl))
  f240 := Tryz.func83.trans (congrArg some (by kernel_rfl))
  f276 := Tryz.func106.trans (congrArg some (by kernel_rfl))
  t0 := Tryz.underlying0
  a0 := Tryz.isAgg0
  z0 := Tryz.sizeOf0
  v0 := Tryz.zeroValue0
  t3 := Tryz.underlying3
  a3 := Tryz.isAgg3
  z3 := Tryz.sizeOf3
  v3 := Tryz.zeroValue3
  t4 := Tryz.underlying4
  a4 := Tryz.isAgg4
  z4 := Tryz.sizeOf4
  v4 := Tryz.zeroValue4
  t9 := Tryz.underlying9
  a9 := Tryz.isAgg9
  z9 := Tryz.sizeOf9
  v9 := Tryz.zeroValue9
  t20 := Tryz.underlying20
  a20 := Tryz.isAgg20
  z20 := Tryz.sizeOf20
  v20 := Tryz.zeroValue20
  t37 := Tryz.underlying112
  a37 := Tryz.isAgg112
  z37 := Tryz.sizeOf112
  v37 := Tryz.zeroValue112
  t70 := Tryz.underlying111
  a70 := Tryz.isAgg111
  z70 := Tryz.sizeOf111
  v70 := Tryz.zeroValue111
  t72 := Tryz.underlying114
  a72 := Tryz.isAgg114
  z72 := Tryz.sizeOf114
  v72 := Tryz.zeroValue114
  t75 := Tryz.underlying123
  a75 := Tryz.isAgg123
  z75 := Tryz.sizeOf123
  v75 := Tryz.zeroValue123
  t164 := Tryz.underlying163
  a164 := Tryz.isAgg163
  z164 := Tryz.sizeOf163
  v164 := Tryz.zeroValue163
}
theorem Tryz.bldX166 : Builder.Extra Tryz.prog Tryz.bld166_ren := {
  sizeBuilder := by kernel_rfl
  liesBuilder := by kernel_rfl
  t5 := Tryz.underlying5
  a5 := Tryz.isAgg5
  z5 := Tryz.sizeOf5
  v5 := Tryz.zeroValue5
  infoByte := by kernel_rfl
  cellsByte := by kernel_rfl
  sizeByte := by kernel_rfl
  neB5 := by decide }
def Tryz.bld167_ren : Go.Shelf.Ren := ⟨fun | 167 => 68 | 240 => 83 | 276 => 106 | n => n, fun | 0 => 0 | 3 => 3 | 4 => 4 | 5 => 5 | 9 => 9 | 20 => 20 | 37 => 112 | 70 => 111 | 72 => 114 | 75 => 123 | 76 => 124 | 80 => 83 | 164 => 163 | n => n, fun | n => n⟩
theorem Tryz.bld167 : Lays.n167 Tryz.prog Tryz.bld167_ren := {
  mixed := by kernel_rfl
  f167 := Tryz.func68.trans (congrArg some (by kernel_rfl))
  f240 := Tryz.func83.trans (congrArg some (by kernel_rfl))
  f276 := Tryz.func106.trans (congrArg some (by kernel_rfl))
  t0 := Tryz.underlying0
  a0 := Tryz.isAgg0
  z0 := Tryz.sizeOf0
  v0 := Tryz.zeroValue0
  t4 := Tryz.underlying4
  a4 := Tryz.isAgg4
  z4 := Tryz.sizeOf4
  v4 := Tryz.zeroValue4
  t5 := Tryz.underlying5
  a5 := Tryz.isAgg5
  z5 := Tryz.sizeOf5
  v5 := Tryz.zeroValue5
  t9 := Tryz.underlying9
  a9 := Tryz.isAgg9
  z9 := Tryz.sizeOf9
  v9 := Tryz.zeroValue9
  t20 := Tryz.underlying20
  a20 := Tryz.isAgg20
  z20 := Tryz.sizeOf20
  v20 := Tryz.zeroValue20
  t37 := Tryz.underlying112
  a37 := Tryz.isAgg112
  z37 := Tryz.sizeOf112
  v37 := Tryz.zeroValue112
  t70 := Tryz.underlying111
  a70 := Tryz.isAgg111
  z70 := Tryz.sizeOf111
  v70 := Tryz.zeroValue111
  t72 := Tryz.underlying114
  a72 := Tryz.isAgg114
  z72 := Tryz.sizeOf114
  v72 := Tryz.zeroValue114
  t75 := Tryz.underlying123
  a75 := Tryz.isAgg123
  z75 := Tryz.sizeOf123
  v75 := Tryz.zeroValue123
  t164 := Tryz.underlying163
  a164 := Tryz.isAgg163
  z164 := Tryz.sizeOf163
  v164 := Tryz.zeroValue163
}
theorem Tryz.bldX167 : Builder.Extra Tryz.prog Tryz.bld167_ren := {
  sizeBuilder := by kernel_rfl
  liesBuilder := by kernel_rfl
  t5 := Tryz.underlying5
  a5 := Tryz.isAgg5
  z5 := Tryz.sizeOf5
  v5 := Tryz.zeroValue5
  infoByte := by kernel_rfl
  cellsByte := by kernel_rfl
  sizeByte := by kernel_rfl
  neB5 := by decide }
end Go.Proofs
set_option linter.all false
namespace Go.Proofs.YtnbhpmleboildaaGreatDoor
open Go.RowKit

theorem bld_string (B b : Nat) (cs : List Value) (l : Bs) (w : World) (h : Lib.IsBuilder 114 5 B b cs w) (hl : cs.length + l.length ≤ 140737488355328) (hB : B ≤ w.heap.size) :
    Calls Tryz.prog 66 #[.pointer (some ⟨b, 0, none⟩), .string (bs l)] w fun e w' => e = .returned (.tuple #[.int .i64 l.length, .nilIface]) ∧ (Lib.BuilderAt 114 5 B b (.pointer (some ⟨b, 0, none⟩)) (cs ++ Lib.byteCells l) w' ∧ Below B w w') :=
  Any.Builder_WriteString Tryz.bld166 Tryz.bldX166 B b cs (bs l) w h (by simpa using hl) hB
theorem bld_byte (B b : Nat) (cs : List Value) (c : Int) (w : World) (h : Lib.IsBuilder 114 5 B b cs w) (hl : cs.length + 1 ≤ 140737488355328) (hB : B ≤ w.heap.size) :
    Calls Tryz.prog 68 #[.pointer (some ⟨b, 0, none⟩), .int .u8 c] w fun e w' => e = .returned .nilIface ∧ (Lib.BuilderAt 114 5 B b (.pointer (some ⟨b, 0, none⟩)) (cs ++ [.int .u8 c]) w' ∧ Below B w w') :=
  Any.Builder_WriteByte Tryz.bld167 Tryz.bldX167 B b cs c w h hl hB
end Go.Proofs.YtnbhpmleboildaaGreatDoor
