/- The reference's bytes of a code point, Append and Next. Conditions: lengths. -/
import Derived.Test.YteflhlbgbgamnaaGreatDoorT13
import Derived.Test.YteflhlbgbgamnaaGreatDoorT06
import Derived.Laws.Cover4

set_option linter.all false
namespace Go.Proofs.YteflhlbgbgamnaaGreatDoor
open Go.RowKit

def byteC (l : Bs) : List Value := l.map fun b => .int .u8 (b.toNat : Int)
def BytesPost (l : Bs) (w : World) (e : Ending) (w' : World) : Prop := e = .returned (.slice (some ⟨w.heap.size, 0, none⟩) l.length l.length) ∧ w' = w.alloc (.cells (byteC l).toArray 5)
theorem wrap8 (n : Int) (h : 0 ≤ n ∧ n < 256) : IntKind.u8.wrap n = n := by
  have : IntKind.u8.bits = 8 := rfl
  unfold IntKind.wrap; simp [this, IntKind.signed]; omega
set_option maxRecDepth 100000 in
theorem encL_of (c : Nat) (h : c ≤ 1114111 ∧ ¬ (55296 ≤ c ∧ c ≤ 57343)) : encL c = if c < 128 then [UInt8.ofNat c] else if c < 2048 then [UInt8.ofNat (192 + c / 64), UInt8.ofNat (128 + c % 64)]
    else if c < 65536 then [UInt8.ofNat (224 + c / 4096), UInt8.ofNat (128 + c / 64 % 64), UInt8.ofNat (128 + c % 64)]
    else [UInt8.ofNat (240 + c / 262144), UInt8.ofNat (128 + c / 4096 % 64), UInt8.ofNat (128 + c / 64 % 64), UInt8.ofNat (128 + c % 64)] := by
  have hv : Utf8.valid (c : Int) = true := by
    unfold Utf8.valid
    simp only [Bool.or_eq_true, Bool.and_eq_true, decide_eq_true_eq]; omega
  unfold encL Utf8.encode
  simp only [hv, if_true, Int.toNat_natCast]
  by_cases h1 : c < 128
  · rw [if_pos h1, if_pos h1]
  rw [if_neg h1, if_neg h1]
  by_cases h2 : c < 2048
  · rw [if_pos h2, if_pos h2]
  rw [if_neg h2, if_neg h2]
  by_cases h3 : c < 65536
  · rw [if_pos h3, if_pos h3]
  rw [if_neg h3, if_neg h3]
theorem ofNat_toNat (n : Nat) (h : n < 256) : ((UInt8.ofNat n).toNat : Int) = (n : Int) := by rw [UInt8.toNat_ofNat', Nat.mod_eq_of_lt h]

theorem bytesPost_mk {l : Bs} {w w' : World} {e : Ending} {cs : Array Value} (n : Nat) (hl : l.length = n) (hc : (byteC l).toArray = cs) (he : e = .returned (.slice (some ⟨w.heap.size, 0, none⟩) n n)) (hw : w' = w.alloc (.cells cs 5)) : BytesPost l w e w' := by
  subst hl hc; exact ⟨he, hw⟩
theorem encB1 (c : Int) (h0 : 0 ≤ c) (g : c < 128) : encL c = [UInt8.ofNat c.toNat] := by
  obtain ⟨n, rfl⟩ : ∃ n : Nat, c = n := ⟨c.toNat, by omega⟩
  rw [encL_of n (by omega), if_pos (by omega), Int.toNat_natCast]
theorem encB2 (c : Int) (h0 : 128 ≤ c) (g : c < 2048) : encL c = [UInt8.ofNat (192 + c / 64).toNat, UInt8.ofNat (128 + c % 64).toNat] := by
  obtain ⟨n, rfl⟩ : ∃ n : Nat, c = n := ⟨c.toNat, by omega⟩
  rw [encL_of n (by omega), if_neg (by omega), if_pos (by omega)]
  have e1 : (192 + (n : Int) / 64).toNat = 192 + n / 64 := by omega
  have e2 : (128 + (n : Int) % 64).toNat = 128 + n % 64 := by omega
  rw [e1, e2]
theorem encB3 (c : Int) (h0 : 2048 ≤ c) (g : c < 65536) (h2 : c < 55296 ∨ 57343 < c) : encL c = [UInt8.ofNat (224 + c / 4096).toNat, UInt8.ofNat (128 + c / 64 % 64).toNat, UInt8.ofNat (128 + c % 64).toNat] := by
  obtain ⟨n, rfl⟩ : ∃ n : Nat, c = n := ⟨c.toNat, by omega⟩
  rw [encL_of n (by omega), if_neg (by omega), if_neg (by omega), if_pos (by omega)]
  have e0 : (224 + (n : Int) / 4096).toNat = 224 + n / 4096 := by omega
  have e1 : (128 + (n : Int) / 64 % 64).toNat = 128 + n / 64 % 64 := by omega
  have e2 : (128 + (n : Int) % 64).toNat = 128 + n % 64 := by omega
  rw [e0, e1, e2]
theorem encB4 (c : Int) (h0 : 65536 ≤ c) (g : c ≤ 1114111) : encL c = [UInt8.ofNat (240 + c / 262144).toNat, UInt8.ofNat (128 + c / 4096 % 64).toNat, UInt8.ofNat (128 + c / 64 % 64).toNat, UInt8.ofNat (128 + c % 64).toNat] := by
  obtain ⟨n, rfl⟩ : ∃ n : Nat, c = n := ⟨c.toNat, by omega⟩
  rw [encL_of n (by omega), if_neg (by omega), if_neg (by omega), if_neg (by omega)]
  have e0 : (240 + (n : Int) / 262144).toNat = 240 + n / 262144 := by omega
  have e3 : (128 + (n : Int) / 4096 % 64).toNat = 128 + n / 4096 % 64 := by omega
  have e1 : (128 + (n : Int) / 64 % 64).toNat = 128 + n / 64 % 64 := by omega
  have e2 : (128 + (n : Int) % 64).toNat = 128 + n % 64 := by omega
  rw [e0, e1, e2, e3]
theorem byteN (c : Int) (h : 0 ≤ c ∧ c < 256) : ((UInt8.ofNat c.toNat).toNat : Int) = c := by
  rw [ofNat_toNat _ (by omega)]; omega

set_option maxRecDepth 100000 in
set_option maxHeartbeats 1600000 in
theorem rbytes_valid (c : Int) (w : World) (h0 : 0 ≤ c) (h1 : c ≤ 1114111) (h2 : c < 55296 ∨ 57343 < c) : Calls Tryz.prog 111 #[.int .i64 c] w (BytesPost (encL c) w) := by
  by_cases g1 : c < 128
  · have HE := Lib.hid (encB1 c h0 g1)
    have HN := Lib.hid (byteN c (by omega))
    have hw := wrap8 c (by omega)
    go_enter Tryz.func111, Tryz.ntmps111
    go_wp2_with fail
    go_ret
    refine bytesPost_mk 1 (by rw [HE.out]; rfl) ?_ rfl rfl
    rw [HE.out]; simp only [byteC, List.map_cons, List.map_nil, HN.out]
  by_cases g2 : c < 2048
  · have HE := Lib.hid (encB2 c (by omega) g2)
    have HN := Lib.hid (byteN (192 + c / 64) (by omega))
    have HM := Lib.hid (byteN (128 + c % 64) (by omega))
    have hw := wrap8 (192 + c / 64) (by omega)
    have hw2 := wrap8 (128 + c % 64) (by omega)
    go_enter Tryz.func111, Tryz.ntmps111
    go_wp2_with fail
    go_ret
    refine bytesPost_mk 2 (by rw [HE.out]; rfl) ?_ rfl rfl
    rw [HE.out]; simp only [byteC, List.map_cons, List.map_nil, HN.out, HM.out]
  by_cases g3 : c < 65536
  · have HE := Lib.hid (encB3 c (by omega) g3 h2)
    have HN := Lib.hid (byteN (224 + c / 4096) (by omega))
    have HP := Lib.hid (byteN (128 + c / 64 % 64) (by omega))
    have HM := Lib.hid (byteN (128 + c % 64) (by omega))
    have hw := wrap8 (224 + c / 4096) (by omega)
    have hw1 := wrap8 (128 + c / 64 % 64) (by omega)
    have hw2 := wrap8 (128 + c % 64) (by omega)
    go_enter Tryz.func111, Tryz.ntmps111
    go_wp2_with fail
    all_goals
      go_ret
      refine bytesPost_mk 3 (by rw [HE.out]; rfl) ?_ rfl rfl
      rw [HE.out]; simp only [byteC, List.map_cons, List.map_nil, HN.out, HM.out, HP.out]
  · have HE := Lib.hid (encB4 c (by omega) h1)
    have HN := Lib.hid (byteN (240 + c / 262144) (by omega))
    have HQ := Lib.hid (byteN (128 + c / 4096 % 64) (by omega))
    have HP := Lib.hid (byteN (128 + c / 64 % 64) (by omega))
    have HM := Lib.hid (byteN (128 + c % 64) (by omega))
    have hw := wrap8 (240 + c / 262144) (by omega)
    have hw0 := wrap8 (128 + c / 4096 % 64) (by omega)
    have hw1 := wrap8 (128 + c / 64 % 64) (by omega)
    have hw2 := wrap8 (128 + c % 64) (by omega)
    go_enter Tryz.func111, Tryz.ntmps111
    go_wp2_with fail
    all_goals
      go_ret
      refine bytesPost_mk 4 (by rw [HE.out]; rfl) ?_ rfl rfl
      rw [HE.out]; simp only [byteC, List.map_cons, List.map_nil, HN.out, HM.out, HP.out, HQ.out]
end Go.Proofs.YteflhlbgbgamnaaGreatDoor

/- The reference's Append. Conditions: lengths. -/
set_option linter.all false
namespace Go.Proofs.YteflhlbgbgamnaaGreatDoor
open Go.RowKit

theorem encL_len (c : Int) : (encL c).length ≤ 4 := by have := encode_size_le c; exact this
theorem dec_valid (s : ByteArray) (i : Nat) : 0 ≤ (dec s i).1 ∧ (dec s i).1 ≤ 1114111 ∧ ((dec s i).1 < 55296 ∨ 57343 < (dec s i).1) := by
  have h0 := byteAt_lo s i
  have m0 : ∀ k l h, ¬ moreOf s k l h < 0 → 128 ≤ l → l - 128 ≤ moreOf s k l h ∧ moreOf s k l h ≤ h - 128 := by
    intro k l h q hl
    obtain ⟨_, h1, h2, h3⟩ := more_yes (s := s) (i := k) (l := l) (h := h) (by omega)
    omega
  unfold dec
  split
  · simp only; omega
  split
  · split
    · rename_i q
      have := m0 (i + 1) 128 191 (by omega) (by omega)
      simp only; omega
    · simp only; omega
  split
  · rename_i hb
    unfold three
    split
    · simp only; omega
    · rename_i q
      simp only [not_or] at q
      have a := m0 (i + 1) (low3 (byteAt s i)) (high3 (byteAt s i)) q.1 (by unfold low3; split <;> omega)
      have b := m0 (i + 2) 128 191 q.2 (by omega)
      have c : high3 (byteAt s i) ≤ 191 ∧ (byteAt s i = 237 → high3 (byteAt s i) = 159) := by unfold high3; split <;> omega
      have d : 128 ≤ low3 (byteAt s i) := by unfold low3; split <;> omega
      simp only; omega
  split
  · rename_i hb
    unfold four
    split
    · simp only; omega
    · rename_i q
      simp only [not_or] at q
      have a := m0 (i + 1) (low4 (byteAt s i)) (high4 (byteAt s i)) q.1 (by unfold low4; split <;> omega)
      have b := m0 (i + 2) 128 191 q.2.1 (by omega)
      have b2 := m0 (i + 3) 128 191 q.2.2 (by omega)
      have c : high4 (byteAt s i) ≤ 191 ∧ (byteAt s i = 244 → high4 (byteAt s i) = 143) := by unfold high4; split <;> omega
      have d : 128 ≤ low4 (byteAt s i) ∧ (byteAt s i = 240 → low4 (byteAt s i) = 144) := by unfold low4; split <;> omega
      simp only; omega
  · simp only; omega

theorem conv_bytes (w : World) (l : Bs) (n : Nat) (hn : n = l.length) : (convert 120 9 (.slice (some ⟨w.heap.size, 0, none⟩) n n)).run Tryz.prog (w.alloc (.cells (byteC l).toArray 5)) = .ok (.string (bs l)) (w.alloc (.cells (byteC l).toArray 5)) := by
  subst hn
  refine run_convert_bytes_back (P := Tryz.prog) (w.alloc (.cells (byteC l).toArray 5)) 120 9 5 ⟨w.heap.size, 0, none⟩ l.length l Tryz.underlying120 Tryz.underlying5 Tryz.underlying9 ?_
  intro j hj
  exact new_cells w (byteC l).toArray 5 w.heap.size rfl j _ (by simp [byteC, List.getElem?_eq_getElem hj])

set_option maxRecDepth 100000 in
set_option maxHeartbeats 800000 in
theorem rappend_any (s : Bs) (c : Int) (w : World) (hs : s.length ≤ 1000000000) (h0 : 0 ≤ c) (h1 : c ≤ 1114111) (h2 : c < 55296 ∨ 57343 < c) :
    Calls Tryz.prog 78 #[.string (bs s), .int .i64 c] w fun e w' => e = .returned (.string (bs (s ++ encL c))) ∧ Kept w w' := by
  have HB := Lib.hid (fun w => rbytes_valid c w h0 h1 h2)
  unfold BytesPost at HB
  have hl := encL_len c
  have HC := Lib.hid (fun w => conv_bytes w (encL c) (encL c).length rfl)
  generalize encL c = x at *
  go_enter Tryz.func78, Tryz.ntmps78
  go_wp2_with fail
  refine (HB.out _).mono ?_
  rintro e w1 ⟨rfl, rfl⟩
  have hc := HC.out w
  generalize (byteC x).toArray = xs at *
  go_wp2_with fail
  go_ret
  exact ⟨rfl, kept_alloc _ _⟩

end Go.Proofs.YteflhlbgbgamnaaGreatDoor
