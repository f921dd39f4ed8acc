/- The reference's Points and Valid: the code points of any text, and whether it is clean. No condition but the length. -/
import Derived.Test.YthbnahagfojfbaaG08
import Derived.Test.YthbnahagfojfbaaG01
import Derived.Test.YthbnahagfojfbaaG02
import Derived.Lib.OthersKept

set_option linter.all false
namespace Go.Proofs.Ythbnahagfojfbaa
open Go.RowKit

def pointsFrom (s : ByteArray) (i : Nat) : List (Int × Int) :=
  if i < s.size then dec s i :: pointsFrom s (i + (dec s i).2.toNat) else []
termination_by s.size - i
decreasing_by have := (dec_bounds s i (by assumption)).2.2.1; omega
theorem pointsFrom_in (s : ByteArray) (i : Nat) (h : i < s.size) : pointsFrom s i = dec s i :: pointsFrom s (i + (dec s i).2.toNat) := by rw [pointsFrom, if_pos h]
theorem pointsFrom_out (s : ByteArray) (i : Nat) (h : ¬ i < s.size) : pointsFrom s i = [] := by rw [pointsFrom, if_neg h]
def points (s : ByteArray) : List (Int × Int) := pointsFrom s 0
theorem points_start (s : ByteArray) : Hid (points s = [] ++ pointsFrom s 0) := by unfold Hid points; simp
def ptCells (l : List (Int × Int)) : List Value := l.flatMap fun p => [.int .i64 p.1, .int .i64 p.2]
theorem ptCells_length (l : List (Int × Int)) : (ptCells l).length = l.length * 2 := by
  unfold ptCells; induction l with
  | nil => rfl
  | cons a l ih => rw [List.flatMap_cons, List.length_append, ih]; simp; omega
theorem ptCells_snoc (l : List (Int × Int)) (c n : Int) : ptCells (l ++ [(c, n)]) = ptCells l ++ [.int .i64 c, .int .i64 n] := by unfold ptCells; simp
theorem ptCells_at (l : List (Int × Int)) (j : Nat) (p : Int × Int) (h : l[j]? = some p) : (ptCells l)[2 * j]? = some (.int .i64 p.1) ∧ (ptCells l)[2 * j + 1]? = some (.int .i64 p.2) := by
  induction l generalizing j with
  | nil => simp at h
  | cons a l ih =>
    cases j with
    | zero => simp at h; subst h; exact ⟨rfl, rfl⟩
    | succ j =>
      have := ih j (by simpa using h)
      unfold ptCells at this ⊢
      rw [List.flatMap_cons, show 2 * (j + 1) = 2 * j + 2 from by omega, show 2 * j + 2 + 1 = 2 * j + 1 + 2 from by omega]
      exact this

theorem Try.infoPt : (Try.prog.info? 135).map (fun i => (i.zero, i.size, i.bytes)) = some (some (.agg #[.int .i64 0, .int .i64 0]), 2, 16) := by kernel_rfl

theorem pts_len (s : ByteArray) (i : Nat) : (pointsFrom s i).length ≤ s.size - i := by
  rcases Nat.lt_or_ge i s.size with h | h
  · have hb := (dec_bounds s i h)
    have ih := pts_len s (i + (dec s i).2.toNat)
    rw [pointsFrom_in s i h, List.length_cons]
    omega
  · rw [pointsFrom_out s i (by omega)]; simp
termination_by s.size - i
decreasing_by have := (dec_bounds s i (by assumption)).2.2.1; omega

theorem validFrom_points (s : ByteArray) (i : Nat) : validFrom s i = (pointsFrom s i).all goodPt := by
  rcases Nat.lt_or_ge i s.size with h | h
  · have hb := (dec_bounds s i h)
    have ih := validFrom_points s (i + (dec s i).2.toNat)
    rw [pointsFrom_in s i h, validFrom_in s i h, List.all_cons, ih]
  · rw [pointsFrom_out s i (by omega), validFrom_out s i (by omega)]; rfl
termination_by s.size - i
decreasing_by have := (dec_bounds s i (by assumption)).2.2.1; omega
theorem validB_points (s : ByteArray) : validB s = (points s).all goodPt := validFrom_points s 0
end Go.Proofs.Ythbnahagfojfbaa

/- A range over a string, with whatever memory beside its iterator. No condition. -/
set_option linter.all false
namespace Go.Proofs.Ythbnahagfojfbaa
open Go.RowKit

theorem run_next_k {P : Program} (w : World) (k : Nat) (s : ByteArray) (pos : Nat) (ty : TypeId) (hk : w.heap[k]? = some (.stringIter s pos)) (h : pos < s.size) :
    (Instr.next (.pointer (some ⟨k, 0, none⟩)) true ty).run P w = .ok (.tuple #[.bool true, .int .i64 pos, .int .i32 (dec s pos).1]) (w.iterAt k s (pos + (dec s pos).2.toNat)) := by
  rw [dec_eq]
  simp only [Instr.next, getObj, setObj, Sem.run_bind, Sem.run, hk, Result.andThen, h, if_true, World.iterAt, Int.toNat_natCast]
  simp [goInt, Sem.run, hk]
theorem run_next_k_end {P : Program} (w : World) (k : Nat) (s : ByteArray) (pos : Nat) (ty : TypeId) (hk : w.heap[k]? = some (.stringIter s pos)) (h : ¬ pos < s.size) :
    (Instr.next (.pointer (some ⟨k, 0, none⟩)) true ty).run P w = .ok (.tuple #[.bool false]) w := by
  simp [Instr.next, getObj, Sem.run, hk, h]
end Go.Proofs.Ythbnahagfojfbaa

/- strings.ContainsAny at every text and a short set of ASCII letters. Conditions: lengths. -/
set_option linter.all false
namespace Go.Proofs.Ythbnahagfojfbaa
open Go.RowKit

def encL (r : Int) : Bs := (Utf8.encode r).data.toList
theorem encode_bs (r : Int) : Utf8.encode r = bs (encL r) := rfl
theorem ofNat_big (n : Nat) (h : n < 256) (k : 128 ≤ n) : 128 ≤ ((UInt8.ofNat n).toNat : Int) := by
  rw [UInt8.toNat_ofNat', Nat.mod_eq_of_lt h]; omega
theorem encL_big (r : Int) (h : 128 ≤ r) : 2 ≤ (encL r).length ∧ (encL r).length ≤ 4 ∧ ∀ b ∈ encL r, 128 ≤ (b.toNat : Int) := by
  have hc : 128 ≤ (if Utf8.valid r then r.toNat else Utf8.runeError) ∧ (if Utf8.valid r then r.toNat else Utf8.runeError) ≤ 1114111 := by
    split
    · rename_i hv; unfold Utf8.valid at hv; simp only [Bool.or_eq_true, Bool.and_eq_true, decide_eq_true_eq] at hv; omega
    · unfold Utf8.runeError; omega
  unfold encL Utf8.encode
  generalize (if Utf8.valid r then r.toNat else Utf8.runeError) = c at *
  simp only
  rw [if_neg (by omega)]
  split
  · refine ⟨by simp, by simp, ?_⟩
    intro b hb
    simp only [List.mem_cons, List.not_mem_nil, or_false] at hb
    rcases hb with rfl | rfl <;> exact ofNat_big _ (by omega) (by omega)
  split
  · refine ⟨by simp, by simp, ?_⟩
    intro b hb
    simp only [List.mem_cons, List.not_mem_nil, or_false] at hb
    rcases hb with rfl | rfl | rfl <;> exact ofNat_big _ (by omega) (by omega)
  · refine ⟨by simp, by simp, ?_⟩
    intro b hb
    simp only [List.mem_cons, List.not_mem_nil, or_false] at hb
    rcases hb with rfl | rfl | rfl | rfl <;> exact ofNat_big _ (by omega) (by omega)
theorem at8_mem (l : Bs) (j : Nat) (h : j < l.length) : ∃ b ∈ l, at8 l j = (b.toNat : Int) := ⟨l[j], List.getElem_mem h, at8_get l j h⟩
def Ascii (cs : Bs) : Prop := ∀ b ∈ cs, (b.toNat : Int) < 128
theorem indexByte_not (c : UInt8) (l : Bs) (h : c ∉ l) : Lib.indexByte l c = -1 := by
  have h1 := indexByte_contains c l
  have h2 := Lib.indexByte_ge l c
  have h3 : l.contains c = false := by simpa using h
  rw [h3] at h1
  simp at h1; omega

theorem dec_ascii (l : Bs) (i : Nat) (h : at8 l i < 128) : dec (bs l) i = (at8 l i, 1) := by unfold dec; rw [byteAt_bs, if_pos h]
theorem next_iter {P : Program} (w : World) (l : Bs) (pos : Nat) (ty : TypeId) (h : pos < l.length) (c n : Int) (hd : dec (bs l) pos = (c, n)) :
    (Instr.next (.pointer (some ⟨w.heap.size, 0, none⟩)) true ty).run P (w.iter (bs l) pos) = .ok (.tuple #[.bool true, .int .i64 pos, .int .i32 c]) (w.iter (bs l) (pos + n.toNat)) := by
  rw [run_next_any w (bs l) pos ty h]
  rw [dec_eq] at hd
  obtain ⟨h1, h2⟩ := Prod.mk.injEq _ _ _ _ ▸ hd
  rw [h1, ← h2, Int.toNat_natCast]

end Go.Proofs.Ythbnahagfojfbaa
