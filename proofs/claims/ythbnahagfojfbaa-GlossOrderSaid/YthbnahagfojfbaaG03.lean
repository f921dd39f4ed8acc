/- Blocks known whole; the division at a brace; wrappers of the library's Cut, CutPrefix, Count. Conditions: lengths. -/
import Derived.Test.YthbnahagfojfbaaG02
import Derived.Shelf.Strings.Builder1
import Derived.Shelf.Strings.OnBuilder

set_option linter.all false
namespace Go.Proofs.Ythbnahagfojfbaa
open Go.RowKit

/-- Block g is just the cells cs of element type t, none frozen. -/
def Blk (w : World) (g : Nat) (t : TypeId) (cs : Array Value) : Prop := w.heap[g]? = some (.cells cs t (0, 0))
theorem Blk.lt {w : World} {g : Nat} {t : TypeId} {cs : Array Value} (h : Blk w g t cs) : g < w.heap.size := by
  rcases Nat.lt_or_ge g w.heap.size with q | q
  · exact q
  · unfold Blk at h; rw [Array.getElem?_eq_none q] at h; cases h
theorem Blk.cell {w : World} {g : Nat} {t : TypeId} {cs : Array Value} (h : Blk w g t cs) (i : Nat) (v : Value) (hi : cs[i]? = some v) : w.cell? ⟨g, i, none⟩ = some v := by
  unfold Blk at h; simp only [World.cell?, h]; simpa using hi
theorem Blk.free {w : World} {g : Nat} {t : TypeId} {cs : Array Value} (h : Blk w g t cs) (i : Nat) : w.frozen? ⟨g, i, none⟩ = false := by
  unfold Blk at h; simp only [World.frozen?, h]; simp
theorem Blk.kept {w w' : World} {g : Nat} {t : TypeId} {cs : Array Value} (h : Blk w g t cs) (k : Kept w w') : Blk w' g t cs := by
  have := h.lt
  unfold Blk at h ⊢; rw [k.block g this]; exact h
theorem Blk.new (w : World) (t : TypeId) (cs : Array Value) : Blk (w.alloc (.cells cs t)) w.heap.size t cs := heap_alloc_new w _
theorem Blk.alloc {w : World} {g : Nat} {t : TypeId} {cs : Array Value} (h : Blk w g t cs) (o : Obj) : Blk (w.alloc o) g t cs := h.kept (kept_alloc w o)
theorem Blk.drewN {w : World} {g : Nat} {t : TypeId} {cs : Array Value} (h : Blk w g t cs) (n : Nat) : Blk (w.drewN n) g t cs := h
theorem Blk.set {w : World} {g : Nat} {t : TypeId} {cs : Array Value} (h : Blk w g t cs) (i : Nat) (v : Value) : Blk (w.setCell ⟨g, i, none⟩ v) g t (cs.setIfInBounds i v) := by
  unfold Blk at h ⊢
  simp only [World.setCell, Array.getElem?_modify, h]
  simp
theorem Blk.other {w : World} {g : Nat} {t : TypeId} {cs : Array Value} (h : Blk w g t cs) (g' i : Nat) (v : Value) (hne : g ≠ g') : Blk (w.setCell ⟨g', i, none⟩ v) g t cs := by
  unfold Blk at h ⊢; rw [Below.heap_setCell _ _ _ _ hne]; exact h
theorem kept_set {a w : World} (h : Kept a w) (g i : Nat) (v : Value) (hg : a.heap.size ≤ g) : Kept a (w.setCell ⟨g, i, none⟩ v) := Below.setCell h hg v
theorem size_setCell (w : World) (a : Addr) (v : Value) : (w.setCell a v).heap.size = w.heap.size := by simp [World.setCell]

/-- How many bytes stand before the first c. -/
def before (c : UInt8) (l : Bs) : Nat := (l.takeWhile (· ≠ c)).length
theorem before_le (c : UInt8) (l : Bs) : before c l ≤ l.length := by unfold before; exact (List.takeWhile_sublist _).length_le
theorem index_before : ∀ (l : Bs) (c : UInt8), (before c l < l.length ∧ Lib.index l [c] = before c l) ∨ (before c l = l.length ∧ Lib.index l [c] = -1)
  | [], c => .inr ⟨rfl, rfl⟩
  | b :: l, c => by
    unfold Lib.index before
    by_cases hb : c = b
    · subst hb
      left
      refine ⟨by simp, ?_⟩
      have e : [c].isPrefixOf (c :: l) = true := by simp [List.isPrefixOf]
      rw [e]; simp
    · have e : [c].isPrefixOf (b :: l) = false := by simp [List.isPrefixOf, hb]
      have e2 : ((b :: l).takeWhile (· ≠ c)).length = before c l + 1 := by
        rw [List.takeWhile_cons, if_pos (by simpa using fun q => hb q.symm)]; rfl
      rw [e, e2]
      simp only [Bool.false_eq_true, if_false, List.length_cons]
      rcases index_before l c with ⟨h1, h2⟩ | ⟨h1, h2⟩
      · left
        have hne : ¬ ((before c l : Int) == -1) = true := by simp only [beq_iff_eq]; omega
        exact ⟨by omega, by rw [h2, if_neg hne]; omega⟩
      · right; exact ⟨by omega, by rw [h2]; rfl⟩
theorem before_none (c : UInt8) (l : Bs) : ∀ (i : Nat) (_ : i < before c l) (hi : i < l.length), l[i] ≠ c := by
  induction l with
  | nil => intro i _ hi; simp at hi
  | cons b l ih =>
    intro i h hi
    by_cases hb : b = c
    · subst hb
      have e : before b (b :: l) = 0 := by unfold before; simp
      rw [e] at h; omega
    · have e : before c (b :: l) = before c l + 1 := by unfold before; rw [List.takeWhile_cons, if_pos (by simpa using hb)]; rfl
      cases i with
      | zero => exact hb
      | succ i => exact ih i (by rw [e] at h; omega) (by simpa using hi)
theorem before_here (c : UInt8) (l : Bs) (h : before c l < l.length) : l[before c l] = c := by
  induction l with
  | nil => simp at h
  | cons b l ih =>
    by_cases hb : b = c
    · subst hb
      have e : before b (b :: l) = 0 := by unfold before; simp
      simp only [e]; rfl
    · have e : before c (b :: l) = before c l + 1 := by unfold before; rw [List.takeWhile_cons, if_pos (by simpa using hb)]; rfl
      simp only [e]
      exact ih (by rw [e] at h; simpa using h)

end Go.Proofs.Ythbnahagfojfbaa

/- strings.Builder's WriteString and WriteByte. Conditions: lengths. -/
namespace Go.Proofs
def Try.bld166_ren : Go.Shelf.Ren := ⟨fun | 166 => 78 | 240 => 84 | 276 => 86 | n => n, fun | 0 => 0 | 3 => 3 | 4 => 4 | 5 => 5 | 9 => 9 | 20 => 20 | 37 => 33 | 70 => 129 | 72 => 131 | 75 => 145 | 76 => 146 | 80 => 133 | 164 => 152 | n => n, fun | n => n⟩
theorem Try.bld166 : Lays.n166 Try.prog Try.bld166_ren := {
  mixed := by kernel_rfl
  f166 := Try.func78.trans (congrArg some (by kernel_rfl))
  f240 := Try.func84.trans (congrArg some (by kernel_rfl))
  f276 := Try.func86.trans (congrArg some (by kernel_rfl))
  t0 := Try.underlying0
  a0 := Try.isAgg0
  z0 := Try.sizeOf0
  v0 := Try.zeroValue0
  t3 := Try.underlying3
  a3 := Try.isAgg3
  z3 := Try.sizeOf3
  v3 := Try.zeroValue3
  t4 := Try.underlying4
  a4 := Try.isAgg4
  z4 := Try.sizeOf4
  v4 := Try.zeroValue4
  t9 := Try.underlying9
  a9 := Try.isAgg9
  z9 := Try.sizeOf9
  v9 := Try.zeroValue9
  t20 := Try.underlying20
  a20 := Try.isAgg20
  z20 := Try.sizeOf20
  v20 := Try.zeroValue20
  t37 := Try.underlying33
  a37 := Try.isAgg33
  z37 := Try.sizeOf33
  v37 := Try.zeroValue33
  t70 := Try.underlying129
  a70 := Try.isAgg129
  z70 := Try.sizeOf129
  v70 := Try.zeroValue129
  t72 := Try.underlying131
  a72 := Try.isAgg131
  z72 := Try.sizeOf131
  v72 := Try.zeroValue131
  t75 := Try.underlying145
  a75 := Try.isAgg145
  z75 := Try.sizeOf145
  v75 := Try.zeroValue145
  t164 := Try.underlying152
  a164 := Try.isAgg152
  z164 := Try.sizeOf152
  v164 := Try.zeroValue152
}
theorem Try.bldX166 : Builder.Extra Try.prog Try.bld166_ren := {
  sizeBuilder := by kernel_rfl
  liesBuilder := by kernel_rfl
  t5 := Try.underlying5
  a5 := Try.isAgg5
  z5 := Try.sizeOf5
  v5 := Try.zeroValue5
  infoByte := by kernel_rfl
  cellsByte := by kernel_rfl
  sizeByte := by kernel_rfl
  neB5 := by decide }
def Try.bld167_ren : Go.Shelf.Ren := ⟨fun | 167 => 79 | 240 => 84 | 276 => 86 | n => n, fun | 0 => 0 | 3 => 3 | 4 => 4 | 5 => 5 | 9 => 9 | 20 => 20 | 37 => 33 | 70 => 129 | 72 => 131 | 75 => 145 | 76 => 146 | 80 => 133 | 164 => 152 | n => n, fun | n => n⟩
theorem Try.bld167 : Lays.n167 Try.prog Try.bld167_ren := {
  mixed := by kernel_rfl
  f167 := Try.func79.trans (congrArg some (by kernel_rfl))
  f240 := Try.func84.trans (congrArg some (by kernel_rfl))
  f276 := Try.func86.trans (congrArg some (by kernel_rfl))
  t0 := Try.underlying0
  a0 := Try.isAgg0
  z0 := Try.sizeOf0
  v0 := Try.zeroValue0
  t4 := Try.underlying4
  a4 := Try.isAgg4
  z4 := Try.sizeOf4
  v4 := Try.zeroValue4
  t5 := Try.underlying5
  a5 := Try.isAgg5
  z5 := Try.sizeOf5
  v5 := Try.zeroValue5
  t9 := Try.underlying9
  a9 := Try.isAgg9
  z9 := Try.sizeOf9
  v9 := Try.zeroValue9
  t20 := Try.underlying20
  a20 := Try.isAgg20
  z20 := Try.sizeOf20
  v20 := Try.zeroValue20
  t37 := Try.underlying33
  a37 := Try.isAgg33
  z37 := Try.sizeOf33
  v37 := Try.zeroValue33
  t70 := Try.underlying129
  a70 := Try.isAgg129
  z70 := Try.sizeOf129
  v70 := Try.zeroValue129
  t72 := Try.underlying131
  a72 := Try.isAgg131
  z72 := Try.sizeOf131
  v72 := Try.zeroValue131
  t75 := Try.underlying145
  a75 := Try.isAgg145
  z75 := Try.sizeOf145
  v75 := Try.zeroValue145
  t164 := Try.underlying152
  a164 := Try.isAgg152
  z164 := Try.sizeOf152
  v164 := Try.zeroValue152
}
theorem Try.bldX167 : Builder.Extra Try.prog Try.bld167_ren := {
  sizeBuilder := by kernel_rfl
  liesBuilder := by kernel_rfl
  t5 := Try.underlying5
  a5 := Try.isAgg5
  z5 := Try.sizeOf5
  v5 := Try.zeroValue5
  infoByte := by kernel_rfl
  cellsByte := by kernel_rfl
  sizeByte := by kernel_rfl
  neB5 := by decide }
end Go.Proofs
set_option linter.all false
namespace Go.Proofs.Ythbnahagfojfbaa
open Go.RowKit

theorem bld_string (B b : Nat) (cs : List Value) (l : Bs) (w : World) (h : Lib.IsBuilder 131 5 B b cs w) (hl : cs.length + l.length ≤ 140737488355328) (hB : B ≤ w.heap.size) :
    Calls Try.prog 78 #[.pointer (some ⟨b, 0, none⟩), .string (bs l)] w fun e w' => e = .returned (.tuple #[.int .i64 l.length, .nilIface]) ∧ (Lib.BuilderAt 131 5 B b (.pointer (some ⟨b, 0, none⟩)) (cs ++ Lib.byteCells l) w' ∧ Below B w w') :=
  Any.Builder_WriteString Try.bld166 Try.bldX166 B b cs (bs l) w h (by simpa using hl) hB
theorem bld_byte (B b : Nat) (cs : List Value) (c : Int) (w : World) (h : Lib.IsBuilder 131 5 B b cs w) (hl : cs.length + 1 ≤ 140737488355328) (hB : B ≤ w.heap.size) :
    Calls Try.prog 79 #[.pointer (some ⟨b, 0, none⟩), .int .u8 c] w fun e w' => e = .returned .nilIface ∧ (Lib.BuilderAt 131 5 B b (.pointer (some ⟨b, 0, none⟩)) (cs ++ [.int .u8 c]) w' ∧ Below B w w') :=
  Any.Builder_WriteByte Try.bld167 Try.bldX167 B b cs c w h hl hB
end Go.Proofs.Ythbnahagfojfbaa

/- lines.Split, Indent, Trim, Join. Conditions: lengths. -/
set_option linter.all false
namespace Go.Proofs.Ythbnahagfojfbaa
open Go.RowKit

def SliP (xs : List Bs) (w : World) (e : Ending) (w' : World) : Prop := ∃ v, e = .returned v ∧ Strs w' v xs ∧ Kept w w'
/-- The lines of a text. -/
def linesL (s : Bs) : List Bs := (runC 10 s).1 ++ (if (runC 10 s).2 = [] then [] else [(runC 10 s).2])
def LineSt (t : Bs) (k fr : Nat) (xs : List Bs) : Prop := k ≤ t.length ∧ fr ≤ k ∧ xs = (runC 10 (t.take k)).1 ∧ (t.take k).drop fr = (runC 10 (t.take k)).2
theorem LineSt.start (t : Bs) : LineSt t 0 0 [] := ⟨Nat.zero_le _, Nat.le_refl _, by simp [runC], by simp [runC]⟩
theorem LineSt.feed {t : Bs} {k fr : Nat} {xs : List Bs} (h : LineSt t k fr xs) (hk : k < t.length) (hb : t[k] = 10) : LineSt t (k + 1) (k + 1) (xs ++ [(t.drop fr).take (k - fr)]) ∧ fr ≤ k := by
  obtain ⟨h1, h2, h3, h4⟩ := h
  refine ⟨⟨by omega, Nat.le_refl _, ?_, ?_⟩, h2⟩
  · rw [take_next t k hk, runC_snoc, hb]
    rw [show (t.drop fr).take (k - fr) = (t.take k).drop fr from by rw [List.drop_take], h4, h3]
    simp [stepC]
  · rw [take_next t k hk, runC_snoc, hb]
    rw [List.drop_of_length_le (by simp; omega)]
    simp [stepC]
theorem LineSt.other {t : Bs} {k fr : Nat} {xs : List Bs} (h : LineSt t k fr xs) (hk : k < t.length) (hb : t[k] ≠ 10) : LineSt t (k + 1) fr xs ∧ fr ≤ k := by
  obtain ⟨h1, h2, h3, h4⟩ := h
  refine ⟨⟨by omega, by omega, ?_, ?_⟩, h2⟩
  · rw [take_next t k hk, runC_snoc]
    simp [stepC, hb, h3]
  · rw [take_next t k hk, runC_snoc, List.drop_append_of_le_length (by simp; omega), h4]
    simp [stepC, hb]
theorem LineSt.done {t : Bs} {fr : Nat} {xs : List Bs} (h : LineSt t t.length fr xs) : fr ≤ t.length ∧ linesL t = xs ++ (if fr < t.length then [t.drop fr] else []) := by
  obtain ⟨h1, h2, h3, h4⟩ := h
  rw [List.take_of_length_le (Nat.le_refl _)] at h3 h4
  refine ⟨h2, ?_⟩
  unfold linesL
  rw [h3, ← h4]
  congr 1
  by_cases q : fr < t.length
  · rw [if_pos q, if_neg]
    intro e
    have := congrArg List.length e
    simp at this; omega
  · rw [if_neg q, if_pos]
    exact List.drop_of_length_le (by omega)

def indentL (l : Bs) : Nat := (l.takeWhile (· == 32)).length
def trimR (t : Bs) : Bs := (t.reverse.dropWhile (· == 32)).reverse
def trimL (l : Bs) : Bs := trimR (l.drop (indentL l))
theorem indent_le : ∀ l : Bs, indentL l ≤ l.length
  | [] => by simp [indentL]
  | b :: l => by
    have := indent_le l
    unfold indentL at this ⊢
    rw [List.takeWhile_cons]
    split <;> simp at this ⊢; omega
theorem indent_at (l : Bs) (k : Nat) (hk : k ≤ l.length) (h1 : ∀ j (hj : j < l.length), j < k → l[j] = 32) (h2 : ∀ h : k < l.length, l[k] ≠ 32) : indentL l = k := by
  induction l generalizing k with
  | nil => simp at hk; subst hk; rfl
  | cons b l ih =>
    unfold indentL
    cases k with
    | zero =>
      have := h2 (by simp)
      simp at this
      rw [List.takeWhile_cons, if_neg (by simpa using this)]; rfl
    | succ k =>
      have hb := h1 0 (by simp) (by omega)
      simp at hb
      rw [List.takeWhile_cons, if_pos (by simpa using hb), List.length_cons]
      congr 1
      exact ih k (by simpa using hk) (fun j hj hjk => by have := h1 (j + 1) (by simpa using hj) (by omega); simpa using this) (fun h => by have := h2 (by simpa using h); simpa using this)
theorem trimR_at (t : Bs) (n : Nat) (hn : n ≤ t.length) (h1 : ∀ b ∈ t.drop n, b = 32) (h2 : ∀ h : 0 < n, t[n - 1]'(by omega) ≠ 32) : trimR t = t.take n := by
  unfold trimR
  have e : t.reverse = (t.drop n).reverse ++ (t.take n).reverse := by rw [← List.reverse_append, List.take_append_drop]
  have e2 : ∀ (xs ys : Bs), (∀ b ∈ xs, b = 32) → (xs ++ ys).dropWhile (· == 32) = ys.dropWhile (· == 32) := by
    intro xs ys
    induction xs with
    | nil => intro _; rfl
    | cons b xs ih =>
      intro h
      have hb := h b (by simp)
      rw [List.cons_append, List.dropWhile_cons, if_pos (by simpa using hb)]
      exact ih (fun c hc => h c (by simp [hc]))
  rw [e, e2 _ _ (fun b hb => h1 b (by simpa using hb))]
  have e3 : (t.take n).reverse.dropWhile (· == 32) = (t.take n).reverse := by
    by_cases q : n = 0
    · subst q; simp
    · have hlast : t.take n = t.take (n - 1) ++ [t[n - 1]'(by omega)] := by
        have := List.take_succ_eq_append_getElem (l := t) (i := n - 1) (by omega)
        rw [show n - 1 + 1 = n from by omega] at this; exact this
      rw [hlast, List.reverse_append]
      simp only [List.reverse_cons, List.reverse_nil, List.nil_append, List.singleton_append]
      rw [List.dropWhile_cons, if_neg (by simpa using h2 (by omega))]
  rw [e3, List.reverse_reverse]

end Go.Proofs.Ythbnahagfojfbaa
