/- Strings by their lists of bytes: one spelling for the walks. No condition. -/
import Derived.Test.YtflpkadknljpbaaDoorOwn
import Derived.Test.YtflpkadknljpbaaDoorWords
import Derived.Lib.Strings
import Derived.Lib.SmallJoins
set_option linter.all false
namespace Go.Proofs.YtflpkadknljpbaaDoor
open Go.RowKit

/-- The string of a list of bytes. -/
def bs (l : Bs) : ByteArray := ⟨l.toArray⟩
@[simp] theorem mk_bs (l : Bs) : ByteArray.mk l.toArray = bs l := rfl
@[simp] theorem empty_bs : ByteArray.empty = bs [] := rfl
@[simp] theorem bs_data (l : Bs) : (bs l).data.toList = l := rfl
@[simp] theorem bs_size (l : Bs) : (bs l).size = l.length := rfl
@[simp] theorem bs_toList (l : Bs) : (bs l).toList = l := ByteArray.toList_eq _
theorem bs_of (s : ByteArray) : ∃ l, s = bs l := ⟨s.data.toList, rfl⟩
theorem bs_ext {s : ByteArray} {l : Bs} (h : s.data.toList = l) : s = bs l := by subst h; rfl
@[simp] theorem bs_append (a b : Bs) : bs a ++ bs b = bs (a ++ b) := bs_ext (by rw [Joins.data_append]; rfl)
@[simp] theorem bs_extract (l : Bs) (i j : Nat) : (bs l).extract i j = bs ((l.drop i).take (j - i)) := bs_ext (by rw [Lib.extract_data]; rfl)
@[simp] theorem bs_inj (a b : Bs) : bs a = bs b ↔ a = b := ⟨fun h => by have := congrArg (fun s : ByteArray => s.data.toList) h; simpa using this, fun h => by rw [h]⟩
theorem ret_bs {a b : Bs} (h : a = b) : Ending.returned (.string (bs a)) = .returned (.string (bs b)) := by rw [h]

/-- The byte of a list at a place, as a number. -/
def at8 (l : Bs) (i : Nat) : Int := ((l.getD i 0).toNat : Int)
theorem byteAt_bs (l : Bs) (i : Nat) : byteAt (bs l) i = at8 l i := rfl
theorem at8_lo (l : Bs) (i : Nat) : 0 ≤ at8 l i := by unfold at8; omega
theorem at8_hi (l : Bs) (i : Nat) : at8 l i < 256 := byteAt_hi (bs l) i
theorem at8_get (l : Bs) (i : Nat) (h : i < l.length) : at8 l i = ((l[i]'h).toNat : Int) := by unfold at8; rw [List.getD_eq_getElem?_getD, List.getElem?_eq_getElem h]; rfl
theorem run_ix {P : Program} {t : TypeId} (h : P.underlying t = some .string) (l : Bs) (i : Nat) (hi : i < l.length) (j : Int) (hj : j = i) (w : World) :
    (Instr.index t (.string (bs l)) (.int .i64 j)).run P w = .ok (.int .u8 (at8 l i)) w := run_at h (bs l) i hi j hj w
theorem run_sub {P : Program} {t : TypeId} (h : P.underlying t = some .string) (l : Bs) (i j : Nat) (hi : i ≤ j) (hj : j ≤ l.length) (a b : Int) (ha : a = i) (hb : b = j) (x : Bs) (hx : (l.drop i).take (j - i) = x) (w : World) :
    (Instr.slice t (.string (bs l)) (some (.int .i64 a)) (some (.int .i64 b)) none).run P w = .ok (.string (bs x)) w := by
  subst ha hb hx
  rw [run_slice_string w t (bs l) .i64 .i64 i j h (by omega) (by omega) (by simp; omega)]
  simp
theorem run_from {P : Program} {t : TypeId} (h : P.underlying t = some .string) (l : Bs) (i : Nat) (hi : i ≤ l.length) (a : Int) (ha : a = i) (x : Bs) (hx : l.drop i = x) (w : World) :
    (Instr.slice t (.string (bs l)) (some (.int .i64 a)) none none).run P w = .ok (.string (bs x)) w := by
  subst ha hx
  rw [run_slice_string_l w t (bs l) h .i64 i (by omega) (by simp; omega)]
  simp only [bs_size, bs_extract, Int.toNat_natCast]
  rw [List.take_of_length_le (by simp)]
theorem run_upto {P : Program} {t : TypeId} (h : P.underlying t = some .string) (l : Bs) (j : Nat) (hj : j ≤ l.length) (b : Int) (hb : b = j) (x : Bs) (hx : l.take j = x) (w : World) :
    (Instr.slice t (.string (bs l)) none (some (.int .i64 b)) none).run P w = .ok (.string (bs x)) w := by
  subst hb hx
  rw [run_slice_string_h w t (bs l) h .i64 j (by omega) (by simp; omega)]
  simp
theorem take_next (l : Bs) (k : Nat) (h : k < l.length) : l.take (k + 1) = l.take k ++ [l[k]] := List.take_succ_eq_append_getElem h
theorem sub_one (l : Bs) (k : Nat) (h : k < l.length) : (l.drop k).take (k + 1 - k) = [l[k]] := by
  rw [show k + 1 - k = 1 from by omega, List.drop_eq_getElem_cons h]; rfl
theorem u8_int (x : UInt8) (n : Nat) (h : n < 256) : ((x.toNat : Int) = n) ↔ x = UInt8.ofNat n := by
  constructor
  · intro q
    apply UInt8.toNat_inj.1
    rw [UInt8.toNat_ofNat', Nat.mod_eq_of_lt h]; omega
  · rintro rfl
    rw [UInt8.toNat_ofNat', Nat.mod_eq_of_lt h]
end Go.Proofs.YtflpkadknljpbaaDoor
