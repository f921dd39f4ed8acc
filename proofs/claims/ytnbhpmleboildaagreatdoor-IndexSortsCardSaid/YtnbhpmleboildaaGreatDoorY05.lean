/- Contracts of the functions of package chars and of the reference of layer 1 that read one code point. No condition but the length of a string. -/
import Derived.Test.YtnbhpmleboildaaGreatDoorY04
import Derived.Test.YtnbhpmleboildaaGreatDoorY01
import Derived.Test.YtnbhpmleboildaaGreatDoorY02
import Derived.Lib.OthersKept

set_option linter.all false
namespace Go.Proofs.YtnbhpmleboildaaGreatDoor
open Go.RowKit

/-- What the function answers: the code point and its number of bytes, as the model's decoder has them. -/
def NextPost (s : ByteArray) (i : Nat) (w : World) (e : Ending) (w' : World) : Prop := e = .returned (.tuple #[.int .i64 (dec s i).1, .int .i64 (dec s i).2]) ∧ ∃ n, w' = w.drewN n
theorem NextPost.mk {s : ByteArray} {i : Nat} {w : World} {e : Ending} {w' : World} {c n : Int} (h : dec s i = (c, n)) (he : e = .returned (.tuple #[.int .i64 c, .int .i64 n])) (hw : ∃ n, w' = w.drewN n) : NextPost s i w e w' := by
  unfold NextPost; rw [h]; exact ⟨he, hw⟩
end Go.Proofs.YtnbhpmleboildaaGreatDoor

/- chars.Valid and the reference's Valid answer the same of any text: plain law and walks. No condition but the length. -/
set_option linter.all false
namespace Go.Proofs.YtnbhpmleboildaaGreatDoor
open Go.RowKit

theorem moreOf_hi (s : ByteArray) (i : Nat) (l h : Int) (hh : h ≤ 191) : moreOf s i l h ≤ 63 := by unfold moreOf; split <;> omega
theorem dec_bounds (s : ByteArray) (i : Nat) (hi : i < s.size) : 0 ≤ (dec s i).1 ∧ (dec s i).1 ≤ 2000000 ∧ 1 ≤ (dec s i).2 ∧ (dec s i).2 ≤ 4 ∧ (i : Int) + (dec s i).2 ≤ s.size := by
  have h0 := byteAt_lo s i
  have m1 : ∀ k l h, 0 ≤ moreOf s k l h → k < s.size := fun k l h q => (more_yes q).1
  have hh : ∀ k l h, h ≤ 191 → moreOf s k l h ≤ 63 := fun k l h q => moreOf_hi s k l h q
  unfold dec
  split
  · simp only; omega
  split
  · split
    · rename_i q
      have := m1 _ _ _ q
      have := hh (i + 1) 128 191 (by omega)
      simp only; omega
    · simp only; omega
  split
  · unfold three
    split
    · simp only; omega
    · rename_i q
      have a1 := m1 (i + 2) 128 191 (by omega)
      have a2 := hh (i + 1) (low3 (byteAt s i)) (high3 (byteAt s i)) (by unfold high3; split <;> omega)
      have a3 := hh (i + 2) 128 191 (by omega)
      simp only; omega
  split
  · unfold four
    split
    · simp only; omega
    · rename_i q
      have a1 := m1 (i + 3) 128 191 (by omega)
      have a2 := hh (i + 1) (low4 (byteAt s i)) (high4 (byteAt s i)) (by unfold high4; split <;> omega)
      have a3 := hh (i + 2) 128 191 (by omega)
      have a4 := hh (i + 3) 128 191 (by omega)
      simp only; omega
  · simp only; omega

end Go.Proofs.YtnbhpmleboildaaGreatDoor

/- The reference's Points and Valid: the code points of any text, and whether it is clean. No condition but the length. -/
set_option linter.all false
namespace Go.Proofs.YtnbhpmleboildaaGreatDoor
open Go.RowKit

def pointsFrom (s : ByteArray) (i : Nat) : List (Int × Int) :=
  if i < s.size then dec s i :: pointsFrom s (i + (dec s i).2.toNat) else []
termination_by s.size - i
decreasing_by have := (dec_bounds s i (by assumption)).2.2.1; omega
theorem pointsFrom_in (s : ByteArray) (i : Nat) (h : i < s.size) : pointsFrom s i = dec s i :: pointsFrom s (i + (dec s i).2.toNat) := by rw [pointsFrom, if_pos h]
theorem pointsFrom_out (s : ByteArray) (i : Nat) (h : ¬ i < s.size) : pointsFrom s i = [] := by rw [pointsFrom, if_neg h]
def points (s : ByteArray) : List (Int × Int) := pointsFrom s 0
theorem pts_len (s : ByteArray) (i : Nat) : (pointsFrom s i).length ≤ s.size - i := by
  rcases Nat.lt_or_ge i s.size with h | h
  · have hb := (dec_bounds s i h)
    have ih := pts_len s (i + (dec s i).2.toNat)
    rw [pointsFrom_in s i h, List.length_cons]
    omega
  · rw [pointsFrom_out s i (by omega)]; simp
termination_by s.size - i
decreasing_by have := (dec_bounds s i (by assumption)).2.2.1; omega

end Go.Proofs.YtnbhpmleboildaaGreatDoor

/- A range over a string, with whatever memory beside its iterator. No condition. -/
set_option linter.all false
namespace Go.Proofs.YtnbhpmleboildaaGreatDoor
open Go.RowKit

theorem run_next_k {P : Program} (w : World) (k : Nat) (s : ByteArray) (pos : Nat) (ty : TypeId) (hk : w.heap[k]? = some (.stringIter s pos)) (h : pos < s.size) :
    (Instr.next (.pointer (some ⟨k, 0, none⟩)) true ty).run P w = .ok (.tuple #[.bool true, .int .i64 pos, .int .i32 (dec s pos).1]) (w.iterAt k s (pos + (dec s pos).2.toNat)) := by
  rw [dec_eq]
  simp only [Instr.next, getObj, setObj, Sem.run_bind, Sem.run, hk, Result.andThen, h, if_true, World.iterAt, Int.toNat_natCast]
  simp [goInt, Sem.run, hk]
theorem run_next_k_end {P : Program} (w : World) (k : Nat) (s : ByteArray) (pos : Nat) (ty : TypeId) (hk : w.heap[k]? = some (.stringIter s pos)) (h : ¬ pos < s.size) :
    (Instr.next (.pointer (some ⟨k, 0, none⟩)) true ty).run P w = .ok (.tuple #[.bool false]) w := by
  simp [Instr.next, getObj, Sem.run, hk, h]
end Go.Proofs.YtnbhpmleboildaaGreatDoor
