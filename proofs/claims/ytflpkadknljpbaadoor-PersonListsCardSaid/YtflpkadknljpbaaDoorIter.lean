/- A range over a string, with whatever memory beside its iterator. No condition. -/
import Derived.Test.YtflpkadknljpbaaDoorStrs
import Derived.Test.YtflpkadknljpbaaDoorPoints
import Derived.Lib.OthersKept
set_option linter.all false
namespace Go.Proofs.YtflpkadknljpbaaDoor
open Go.RowKit

theorem run_next_k {P : Program} (w : World) (k : Nat) (s : ByteArray) (pos : Nat) (ty : TypeId) (hk : w.heap[k]? = some (.stringIter s pos)) (h : pos < s.size) :
    (Instr.next (.pointer (some ⟨k, 0, none⟩)) true ty).run P w = .ok (.tuple #[.bool true, .int .i64 pos, .int .i32 (dec s pos).1]) (w.iterAt k s (pos + (dec s pos).2.toNat)) := by
  rw [dec_eq]
  simp only [Instr.next, getObj, setObj, Sem.run_bind, Sem.run, hk, Result.andThen, h, if_true, World.iterAt, Int.toNat_natCast]
  simp [goInt, Sem.run, hk]
theorem run_next_k_end {P : Program} (w : World) (k : Nat) (s : ByteArray) (pos : Nat) (ty : TypeId) (hk : w.heap[k]? = some (.stringIter s pos)) (h : ¬ pos < s.size) :
    (Instr.next (.pointer (some ⟨k, 0, none⟩)) true ty).run P w = .ok (.tuple #[.bool false]) w := by
  simp [Instr.next, getObj, Sem.run, hk, h]
end Go.Proofs.YtflpkadknljpbaaDoor
