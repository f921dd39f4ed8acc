/- What the reference's Parse makes of the heads, in plain Lean; set at any head. Conditions: lengths. -/
import Derived.Test.YtafcngdnngpdnaaGreatDoorK29
import Derived.Test.YtafcngdnngpdnaaGreatDoorK06
import Derived.Test.YtafcngdnngpdnaaGreatDoorK05
import Derived.Laws.Cover4

set_option linter.all false
namespace Go.Proofs.YtafcngdnngpdnaaGreatDoor
open Go.RowKit

theorem rset_any (y : StyT) (a : Option Addr) (n c : Nat) (i : Nat) (hi : i < 9) (v : Bs) (w : World) (hv : v.length ≤ 9223372036854775807) : Calls Tryz.prog 28 #[styV (.slice a n c) y, .int .i64 (i : Int), .string (bs v)] w (SetP (.slice a n c) (setY y i v) (vOk i v) w) := by
  match i, hi with
  | 0, _ => exact rset0 y a n c v w
  | 1, _ => exact rset1 y a n c v w
  | 2, _ => exact rset2 y a n c v w
  | 3, _ => exact rset3 y a n c v w
  | 4, _ => exact rset4 y a n c v w
  | 5, _ => exact rset5 y a n c v w
  | 6, _ => exact rset6 y a n c v w
  | 7, _ => exact rset7 y a n c v w
  | 8, _ => exact rset8 y a n c v w hv
/-- The style of the first i heads. -/
def foldY (ls : List Bs) : Nat → StyT
  | 0 => zeroY
  | i + 1 => setY (foldY ls i) i (hdV ls i)
theorem setY_entries (y : StyT) (i : Nat) (v : Bs) : (setY y i v).entries = y.entries := by
  unfold setY
  split <;> rfl
theorem foldY_entries (ls : List Bs) : ∀ i, (foldY ls i).entries = []
  | 0 => rfl
  | i + 1 => by rw [foldY, setY_entries]; exact foldY_entries ls i
theorem foldY_end (ls : List Bs) (h : decB (hdV ls 8) = true) : { foldY ls 9 with entries := (ls.drop 9).filterMap entR } = parY ls := by
  have h1 : decI (hdV ls 8) = (dcN (hdV ls 8) : Int) := by unfold decI; rw [if_pos h]
  simp only [foldY, setY, h1, zeroY, parY]
end Go.Proofs.YtafcngdnngpdnaaGreatDoor

/- The reference's bytes of a code point, Append and Next. Conditions: lengths. -/
set_option linter.all false
namespace Go.Proofs.YtafcngdnngpdnaaGreatDoor
open Go.RowKit

def byteC (l : Bs) : List Value := l.map fun b => .int .u8 (b.toNat : Int)
def BytesPost (l : Bs) (w : World) (e : Ending) (w' : World) : Prop := e = .returned (.slice (some ⟨w.heap.size, 0, none⟩) l.length l.length) ∧ w' = w.alloc (.cells (byteC l).toArray 5)
theorem wrap8 (n : Int) (h : 0 ≤ n ∧ n < 256) : IntKind.u8.wrap n = n := by
  have : IntKind.u8.bits = 8 := rfl
  unfold IntKind.wrap; simp [this, IntKind.signed]; omega
set_option maxRecDepth 100000 in
theorem encL_of (c : Nat) (h : c ≤ 1114111 ∧ ¬ (55296 ≤ c ∧ c ≤ 57343)) : encL c = if c < 128 then [UInt8.ofNat c] else if c < 2048 then [UInt8.ofNat (192 + c / 64), UInt8.ofNat (128 + c % 64)]
    else if c < 65536 then [UInt8.ofNat (224 + c / 4096), UInt8.ofNat (128 + c / 64 % 64), UInt8.ofNat (128 + c % 64)]
    else [UInt8.ofNat (240 + c / 262144), UInt8.ofNat (128 + c / 4096 % 64), UInt8.ofNat (128 + c / 64 % 64), UInt8.ofNat (128 + c % 64)] := by
  have hv : Utf8.valid (c : Int) = true := by
    unfold Utf8.valid
    simp only [Bool.or_eq_true, Bool.and_eq_true, decide_eq_true_eq]; omega
  unfold encL Utf8.encode
  simp only [hv, if_true, Int.toNat_natCast]
  by_cases h1 : c < 128
  · rw [if_pos h1, if_pos h1]
  rw [if_neg h1, if_neg h1]
  by_cases h2 : c < 2048
  · rw [if_pos h2, if_pos h2]
  rw [if_neg h2, if_neg h2]
  by_cases h3 : c < 65536
  · rw [if_pos h3, if_pos h3]
  rw [if_neg h3, if_neg h3]
theorem ofNat_toNat (n : Nat) (h : n < 256) : ((UInt8.ofNat n).toNat : Int) = (n : Int) := by rw [UInt8.toNat_ofNat', Nat.mod_eq_of_lt h]

theorem bytesPost_mk {l : Bs} {w w' : World} {e : Ending} {cs : Array Value} (n : Nat) (hl : l.length = n) (hc : (byteC l).toArray = cs) (he : e = .returned (.slice (some ⟨w.heap.size, 0, none⟩) n n)) (hw : w' = w.alloc (.cells cs 5)) : BytesPost l w e w' := by
  subst hl hc; exact ⟨he, hw⟩
theorem encB1 (c : Int) (h0 : 0 ≤ c) (g : c < 128) : encL c = [UInt8.ofNat c.toNat] := by
  obtain ⟨n, rfl⟩ : ∃ n : Nat, c = n := ⟨c.toNat, by omega⟩
  rw [encL_of n (by omega), if_pos (by omega), Int.toNat_natCast]
theorem encB2 (c : Int) (h0 : 128 ≤ c) (g : c < 2048) : encL c = [UInt8.ofNat (192 + c / 64).toNat, UInt8.ofNat (128 + c % 64).toNat] := by
  obtain ⟨n, rfl⟩ : ∃ n : Nat, c = n := ⟨c.toNat, by omega⟩
  rw [encL_of n (by omega), if_neg (by omega), if_pos (by omega)]
  have e1 : (192 + (n : Int) / 64).toNat = 192 + n / 64 := by omega
  have e2 : (128 + (n : Int) % 64).toNat = 128 + n % 64 := by omega
  rw [e1, e2]
theorem encB3 (c : Int) (h0 : 2048 ≤ c) (g : c < 65536) (h2 : c < 55296 ∨ 57343 < c) : encL c = [UInt8.ofNat (224 + c / 4096).toNat, UInt8.ofNat (128 + c / 64 % 64).toNat, UInt8.ofNat (128 + c % 64).toNat] := by
  obtain ⟨n, rfl⟩ : ∃ n : Nat, c = n := ⟨c.toNat, by omega⟩
  rw [encL_of n (by omega), if_neg (by omega), if_neg (by omega), if_pos (by omega)]
  have e0 : (224 + (n : Int) / 4096).toNat = 224 + n / 4096 := by omega
  have e1 : (128 + (n : Int) / 64 % 64).toNat = 128 + n / 64 % 64 := by omega
  have e2 : (128 + (n : Int) % 64).toNat = 128 + n % 64 := by omega
  rw [e0, e1, e2]
theorem encB4 (c : Int) (h0 : 65536 ≤ c) (g : c ≤ 1114111) : encL c = [UInt8.ofNat (240 + c / 262144).toNat, UInt8.ofNat (128 + c / 4096 % 64).toNat, UInt8.ofNat (128 + c / 64 % 64).toNat, UInt8.ofNat (128 + c % 64).toNat] := by
  obtain ⟨n, rfl⟩ : ∃ n : Nat, c = n := ⟨c.toNat, by omega⟩
  rw [encL_of n (by omega), if_neg (by omega), if_neg (by omega), if_neg (by omega)]
  have e0 : (240 + (n : Int) / 262144).toNat = 240 + n / 262144 := by omega
  have e3 : (128 + (n : Int) / 4096 % 64).toNat = 128 + n / 4096 % 64 := by omega
  have e1 : (128 + (n : Int) / 64 % 64).toNat = 128 + n / 64 % 64 := by omega
  have e2 : (128 + (n : Int) % 64).toNat = 128 + n % 64 := by omega
  rw [e0, e1, e2, e3]
theorem byteN (c : Int) (h : 0 ≤ c ∧ c < 256) : ((UInt8.ofNat c.toNat).toNat : Int) = c := by
  rw [ofNat_toNat _ (by omega)]; omega

end Go.Proofs.YtafcngdnngpdnaaGreatDoor

/- The reference's Append. Conditions: lengths. -/
set_option linter.all false
namespace Go.Proofs.YtafcngdnngpdnaaGreatDoor
open Go.RowKit

theorem encL_len (c : Int) : (encL c).length ≤ 4 := by have := encode_size_le c; exact this
theorem dec_valid (s : ByteArray) (i : Nat) : 0 ≤ (dec s i).1 ∧ (dec s i).1 ≤ 1114111 ∧ ((dec s i).1 < 55296 ∨ 57343 < (dec s i).1) := by
  have h0 := byteAt_lo s i
  have m0 : ∀ k l h, ¬ moreOf s k l h < 0 → 128 ≤ l → l - 128 ≤ moreOf s k l h ∧ moreOf s k l h ≤ h - 128 := by
    intro k l h q hl
    obtain ⟨_, h1, h2, h3⟩ := more_yes (s := s) (i := k) (l := l) (h := h) (by omega)
    omega
  unfold dec
  split
  · simp only; omega
  split
  · split
    · rename_i q
      have := m0 (i + 1) 128 191 (by omega) (by omega)
      simp only; omega
    · simp only; omega
  split
  · rename_i hb
    unfold three
    split
    · simp only; omega
    · rename_i q
      simp only [not_or] at q
      have a := m0 (i + 1) (low3 (byteAt s i)) (high3 (byteAt s i)) q.1 (by unfold low3; split <;> omega)
      have b := m0 (i + 2) 128 191 q.2 (by omega)
      have c : high3 (byteAt s i) ≤ 191 ∧ (byteAt s i = 237 → high3 (byteAt s i) = 159) := by unfold high3; split <;> omega
      have d : 128 ≤ low3 (byteAt s i) := by unfold low3; split <;> omega
      simp only; omega
  split
  · rename_i hb
    unfold four
    split
    · simp only; omega
    · rename_i q
      simp only [not_or] at q
      have a := m0 (i + 1) (low4 (byteAt s i)) (high4 (byteAt s i)) q.1 (by unfold low4; split <;> omega)
      have b := m0 (i + 2) 128 191 q.2.1 (by omega)
      have b2 := m0 (i + 3) 128 191 q.2.2 (by omega)
      have c : high4 (byteAt s i) ≤ 191 ∧ (byteAt s i = 244 → high4 (byteAt s i) = 143) := by unfold high4; split <;> omega
      have d : 128 ≤ low4 (byteAt s i) ∧ (byteAt s i = 240 → low4 (byteAt s i) = 144) := by unfold low4; split <;> omega
      simp only; omega
  · simp only; omega

theorem conv_bytes (w : World) (l : Bs) (n : Nat) (hn : n = l.length) : (convert 72 9 (.slice (some ⟨w.heap.size, 0, none⟩) n n)).run Tryz.prog (w.alloc (.cells (byteC l).toArray 5)) = .ok (.string (bs l)) (w.alloc (.cells (byteC l).toArray 5)) := by
  subst hn
  refine run_convert_bytes_back (P := Tryz.prog) (w.alloc (.cells (byteC l).toArray 5)) 72 9 5 ⟨w.heap.size, 0, none⟩ l.length l Tryz.underlying72 Tryz.underlying5 Tryz.underlying9 ?_
  intro j hj
  exact new_cells w (byteC l).toArray 5 w.heap.size rfl j _ (by simp [byteC, List.getElem?_eq_getElem hj])

end Go.Proofs.YtafcngdnngpdnaaGreatDoor
