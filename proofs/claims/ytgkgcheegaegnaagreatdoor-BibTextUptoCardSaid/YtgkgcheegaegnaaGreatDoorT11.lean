/- Blocks known whole; the division at a brace; wrappers of the library's Cut, CutPrefix, Count. Conditions: lengths. -/
import Derived.Test.YtgkgcheegaegnaaGreatDoorT10

set_option linter.all false
namespace Go.Proofs.YtgkgcheegaegnaaGreatDoor
open Go.RowKit

/-- Block g is just the cells cs of element type t, none frozen. -/
def Blk (w : World) (g : Nat) (t : TypeId) (cs : Array Value) : Prop := w.heap[g]? = some (.cells cs t (0, 0))
theorem Blk.lt {w : World} {g : Nat} {t : TypeId} {cs : Array Value} (h : Blk w g t cs) : g < w.heap.size := by
  rcases Nat.lt_or_ge g w.heap.size with q | q
  · exact q
  · unfold Blk at h; rw [Array.getElem?_eq_none q] at h; cases h
theorem Blk.cell {w : World} {g : Nat} {t : TypeId} {cs : Array Value} (h : Blk w g t cs) (i : Nat) (v : Value) (hi : cs[i]? = some v) : w.cell? ⟨g, i, none⟩ = some v := by
  unfold Blk at h; simp only [World.cell?, h]; simpa using hi
theorem Blk.free {w : World} {g : Nat} {t : TypeId} {cs : Array Value} (h : Blk w g t cs) (i : Nat) : w.frozen? ⟨g, i, none⟩ = false := by
  unfold Blk at h; simp only [World.frozen?, h]; simp
theorem Blk.kept {w w' : World} {g : Nat} {t : TypeId} {cs : Array Value} (h : Blk w g t cs) (k : Kept w w') : Blk w' g t cs := by
  have := h.lt
  unfold Blk at h ⊢; rw [k.block g this]; exact h
theorem Blk.new (w : World) (t : TypeId) (cs : Array Value) : Blk (w.alloc (.cells cs t)) w.heap.size t cs := heap_alloc_new w _
theorem Blk.alloc {w : World} {g : Nat} {t : TypeId} {cs : Array Value} (h : Blk w g t cs) (o : Obj) : Blk (w.alloc o) g t cs := h.kept (kept_alloc w o)
theorem Blk.drewN {w : World} {g : Nat} {t : TypeId} {cs : Array Value} (h : Blk w g t cs) (n : Nat) : Blk (w.drewN n) g t cs := h
theorem Blk.set {w : World} {g : Nat} {t : TypeId} {cs : Array Value} (h : Blk w g t cs) (i : Nat) (v : Value) : Blk (w.setCell ⟨g, i, none⟩ v) g t (cs.setIfInBounds i v) := by
  unfold Blk at h ⊢
  simp only [World.setCell, Array.getElem?_modify, h]
  simp
theorem Blk.other {w : World} {g : Nat} {t : TypeId} {cs : Array Value} (h : Blk w g t cs) (g' i : Nat) (v : Value) (hne : g ≠ g') : Blk (w.setCell ⟨g', i, none⟩ v) g t cs := by
  unfold Blk at h ⊢; rw [Below.heap_setCell _ _ _ _ hne]; exact h
theorem kept_set {a w : World} (h : Kept a w) (g i : Nat) (v : Value) (hg : a.heap.size ≤ g) : Kept a (w.setCell ⟨g, i, none⟩ v) := Below.setCell h hg v
theorem size_setCell (w : World) (a : Addr) (v : Value) : (w.setCell a v).heap.size = w.heap.size := by simp [World.setCell]

/-- How many bytes stand before the first c. -/
def before (c : UInt8) (l : Bs) : Nat := (l.takeWhile (· ≠ c)).length
theorem before_le (c : UInt8) (l : Bs) : before c l ≤ l.length := by unfold before; exact (List.takeWhile_sublist _).length_le
theorem index_before : ∀ (l : Bs) (c : UInt8), (before c l < l.length ∧ Lib.index l [c] = before c l) ∨ (before c l = l.length ∧ Lib.index l [c] = -1)
  | [], c => .inr ⟨rfl, rfl⟩
  | b :: l, c => by
    unfold Lib.index before
    by_cases hb : c = b
    · subst hb
      left
      refine ⟨by simp, ?_⟩
      have e : [c].isPrefixOf (c :: l) = true := by simp [List.isPrefixOf]
      rw [e]; simp
    · have e : [c].isPrefixOf (b :: l) = false := by simp [List.isPrefixOf, hb]
      have e2 : ((b :: l).takeWhile (· ≠ c)).length = before c l + 1 := by
        rw [List.takeWhile_cons, if_pos (by simpa using fun q => hb q.symm)]; rfl
      rw [e, e2]
      simp only [Bool.false_eq_true, if_false, List.length_cons]
      rcases index_before l c with ⟨h1, h2⟩ | ⟨h1, h2⟩
      · left
        have hne : ¬ ((before c l : Int) == -1) = true := by simp only [beq_iff_eq]; omega
        exact ⟨by omega, by rw [h2, if_neg hne]; omega⟩
      · right; exact ⟨by omega, by rw [h2]; rfl⟩
theorem before_none (c : UInt8) (l : Bs) : ∀ (i : Nat) (_ : i < before c l) (hi : i < l.length), l[i] ≠ c := by
  induction l with
  | nil => intro i _ hi; simp at hi
  | cons b l ih =>
    intro i h hi
    by_cases hb : b = c
    · subst hb
      have e : before b (b :: l) = 0 := by unfold before; simp
      rw [e] at h; omega
    · have e : before c (b :: l) = before c l + 1 := by unfold before; rw [List.takeWhile_cons, if_pos (by simpa using hb)]; rfl
      cases i with
      | zero => exact hb
      | succ i => exact ih i (by rw [e] at h; omega) (by simpa using hi)
theorem before_here (c : UInt8) (l : Bs) (h : before c l < l.length) : l[before c l] = c := by
  induction l with
  | nil => simp at h
  | cons b l ih =>
    by_cases hb : b = c
    · subst hb
      have e : before b (b :: l) = 0 := by unfold before; simp
      simp only [e]; rfl
    · have e : before c (b :: l) = before c l + 1 := by unfold before; rw [List.takeWhile_cons, if_pos (by simpa using hb)]; rfl
      simp only [e]
      exact ih (by rw [e] at h; simpa using h)

theorem cut_any (l : Bs) (c : UInt8) (w : World) (hg : Gnd w) (hl : l.length ≤ 1000000000) :
    Calls Tryz.prog 68 #[.string (bs l), .string (bs [c])] w fun e w' =>
      e = .returned (.tuple (if before c l < l.length then #[.string (bs (l.take (before c l))), .string (bs (l.drop (before c l + 1))), .bool true] else #[.string (bs l), .string (bs []), .bool false])) ∧ ∃ n, w' = w.drewN n := by
  obtain ⟨m, hm⟩ := hg
  refine (Tryz.strings_Cut (bs l) (bs [c]) m w (by simp; omega) hm).mono ?_
  rintro e w' ⟨rfl, hw⟩
  refine ⟨?_, hw⟩
  simp only [bs_data, mk_bs]
  unfold Lib.cut
  rcases index_before l c with ⟨h1, h2⟩ | ⟨h1, h2⟩
  · rw [if_pos (by rw [h2]; omega), if_pos h1, h2]; simp
  · rw [if_neg (by rw [h2]; omega), if_neg (by omega)]

theorem cutp_no (l : Bs) (c : UInt8) (w : World) (h : ∀ r, l ≠ c :: r) :
    Calls Tryz.prog 66 #[.string (bs l), .string (bs [c])] w fun e w' => e = .returned (.tuple #[.string (bs l), .bool false]) ∧ w = w' := by
  refine (Tryz.strings_CutPrefix (bs l) (bs [c]) w).mono ?_
  rintro e w' ⟨rfl, rfl⟩
  refine ⟨?_, rfl⟩
  simp only [bs_data, mk_bs]
  have e : Lib.hasPrefix l [c] = false := by
    cases l with
    | nil => rfl
    | cons b r =>
      have : b ≠ c := fun q => h r (by rw [q])
      simp [Lib.hasPrefix, List.isPrefixOf]
      exact fun q => this q.symm
  have e2 : Lib.trimPrefix l [c] = l := by unfold Lib.trimPrefix; rw [e]; rfl
  rw [e, e2]
theorem cutp_yes (r : Bs) (c : UInt8) (w : World) :
    Calls Tryz.prog 66 #[.string (bs (c :: r)), .string (bs [c])] w fun e w' => e = .returned (.tuple #[.string (bs r), .bool true]) ∧ w = w' := by
  refine (Tryz.strings_CutPrefix (bs (c :: r)) (bs [c]) w).mono ?_
  rintro e w' ⟨rfl, rfl⟩
  refine ⟨?_, rfl⟩
  simp only [bs_data, mk_bs]
  have e : Lib.hasPrefix (c :: r) [c] = true := by simp [Lib.hasPrefix, List.isPrefixOf]
  have e2 : Lib.trimPrefix (c :: r) [c] = r := by unfold Lib.trimPrefix; rw [e]; rfl
  rw [e, e2]
theorem count_any (l : Bs) (c : UInt8) (w : World) :
    Calls Tryz.prog 98 #[.string (bs l), .string (bs [c])] w fun e w' => e = .returned (.int .i64 (l.count c : Nat)) ∧ w = w' := by
  refine (Tryz.strings_Count_one (bs l) c w).mono ?_
  rintro e w' ⟨rfl, rfl⟩
  exact ⟨rfl, rfl⟩
end Go.Proofs.YtgkgcheegaegnaaGreatDoor

/- strings.Builder's WriteString and WriteByte; lines.Join. Conditions: lengths. -/
namespace Go.Proofs
theorem Tryz.lays166 : Lays.n166 Tryz.prog Tryz.lays156_ren := {
  mixed := Tryz.lays156.mixed
  f166 := Tryz.lays156.f166
  f240 := Tryz.lays156.f240
  f276 := Tryz.lays156.f276
  t0 := Tryz.lays156.t0
  a0 := Tryz.lays156.a0
  z0 := Tryz.lays156.z0
  v0 := Tryz.lays156.v0
  t3 := Tryz.lays156.t3
  a3 := Tryz.lays156.a3
  z3 := Tryz.lays156.z3
  v3 := Tryz.lays156.v3
  t4 := Tryz.lays156.t4
  a4 := Tryz.lays156.a4
  z4 := Tryz.lays156.z4
  v4 := Tryz.lays156.v4
  t9 := Tryz.lays156.t9
  a9 := Tryz.lays156.a9
  z9 := Tryz.lays156.z9
  v9 := Tryz.lays156.v9
  t20 := Tryz.lays156.t20
  a20 := Tryz.lays156.a20
  z20 := Tryz.lays156.z20
  v20 := Tryz.lays156.v20
  t37 := Tryz.lays156.t37
  a37 := Tryz.lays156.a37
  z37 := Tryz.lays156.z37
  v37 := Tryz.lays156.v37
  t70 := Tryz.lays156.t70
  a70 := Tryz.lays156.a70
  z70 := Tryz.lays156.z70
  v70 := Tryz.lays156.v70
  t72 := Tryz.lays156.t72
  a72 := Tryz.lays156.a72
  z72 := Tryz.lays156.z72
  v72 := Tryz.lays156.v72
  t75 := Tryz.lays156.t75
  a75 := Tryz.lays156.a75
  z75 := Tryz.lays156.z75
  v75 := Tryz.lays156.v75
  t164 := Tryz.lays156.t164
  a164 := Tryz.lays156.a164
  z164 := Tryz.lays156.z164
  v164 := Tryz.lays156.v164
}
def Tryz.lays167_ren : Go.Shelf.Ren := ⟨fun | 167 => 58 | n => Tryz.lays156_ren.f n, Tryz.lays156_ren.t, Tryz.lays156_ren.g⟩
theorem Tryz.lays167 : Lays.n167 Tryz.prog Tryz.lays167_ren := {
  mixed := Tryz.lays156.mixed
  f167 := Tryz.func58.trans (congrArg some (by kernel_rfl))
  f240 := Tryz.lays156.f240.trans (congrArg some (by kernel_rfl))
  f276 := Tryz.lays156.f276.trans (congrArg some (by kernel_rfl))
  t0 := Tryz.lays156.t0
  a0 := Tryz.lays156.a0
  z0 := Tryz.lays156.z0
  v0 := Tryz.lays156.v0
  t4 := Tryz.lays156.t4
  a4 := Tryz.lays156.a4
  z4 := Tryz.lays156.z4
  v4 := Tryz.lays156.v4
  t5 := Tryz.underlying5
  a5 := Tryz.isAgg5
  z5 := Tryz.sizeOf5
  v5 := Tryz.zeroValue5
  t9 := Tryz.lays156.t9
  a9 := Tryz.lays156.a9
  z9 := Tryz.lays156.z9
  v9 := Tryz.lays156.v9
  t20 := Tryz.lays156.t20
  a20 := Tryz.lays156.a20
  z20 := Tryz.lays156.z20
  v20 := Tryz.lays156.v20
  t37 := Tryz.lays156.t37
  a37 := Tryz.lays156.a37
  z37 := Tryz.lays156.z37
  v37 := Tryz.lays156.v37
  t70 := Tryz.lays156.t70
  a70 := Tryz.lays156.a70
  z70 := Tryz.lays156.z70
  v70 := Tryz.lays156.v70
  t72 := Tryz.lays156.t72
  a72 := Tryz.lays156.a72
  z72 := Tryz.lays156.z72
  v72 := Tryz.lays156.v72
  t75 := Tryz.lays156.t75
  a75 := Tryz.lays156.a75
  z75 := Tryz.lays156.z75
  v75 := Tryz.lays156.v75
  t164 := Tryz.lays156.t164
  a164 := Tryz.lays156.a164
  z164 := Tryz.lays156.z164
  v164 := Tryz.lays156.v164
}
theorem Tryz.extra167 : Builder.Extra Tryz.prog Tryz.lays167_ren := {
  sizeBuilder := by kernel_rfl
  liesBuilder := by kernel_rfl
  t5 := Tryz.underlying5
  a5 := Tryz.isAgg5
  z5 := Tryz.sizeOf5
  v5 := Tryz.zeroValue5
  infoByte := by kernel_rfl
  cellsByte := by kernel_rfl
  sizeByte := by kernel_rfl
  neB5 := by decide }
end Go.Proofs
set_option linter.all false
namespace Go.Proofs.YtgkgcheegaegnaaGreatDoor
open Go.RowKit

theorem bld_string (B b : Nat) (cs : List Value) (l : Bs) (w : World) (h : Lib.IsBuilder 84 5 B b cs w) (hl : cs.length + l.length ≤ 140737488355328) (hB : B ≤ w.heap.size) :
    Calls Tryz.prog 57 #[.pointer (some ⟨b, 0, none⟩), .string (bs l)] w fun e w' => e = .returned (.tuple #[.int .i64 l.length, .nilIface]) ∧ (Lib.BuilderAt 84 5 B b (.pointer (some ⟨b, 0, none⟩)) (cs ++ Lib.byteCells l) w' ∧ Below B w w') :=
  Any.Builder_WriteString Tryz.lays166 Tryz.Builder_Extra_156 B b cs (bs l) w h (by simpa using hl) hB
theorem bld_byte (B b : Nat) (cs : List Value) (c : Int) (w : World) (h : Lib.IsBuilder 84 5 B b cs w) (hl : cs.length + 1 ≤ 140737488355328) (hB : B ≤ w.heap.size) :
    Calls Tryz.prog 58 #[.pointer (some ⟨b, 0, none⟩), .int .u8 c] w fun e w' => e = .returned .nilIface ∧ (Lib.BuilderAt 84 5 B b (.pointer (some ⟨b, 0, none⟩)) (cs ++ [.int .u8 c]) w' ∧ Below B w w') :=
  Any.Builder_WriteByte Tryz.lays167 Tryz.extra167 B b cs c w h hl hB
end Go.Proofs.YtgkgcheegaegnaaGreatDoor
