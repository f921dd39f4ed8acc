/- Slices of strings; strings.Split and strings.Join by lists of bytes. Conditions: lengths below a thousand million. -/
import Derived.Test.YtpfbdgcgpghifaaGreatDoorK02
import Derived.Test.YtpfbdgcgpghifaaGreatDoorShelf
import Derived.Test.YtpfbdgcgpghifaaGreatDoorK01

set_option linter.all false
namespace Go.Proofs.YtpfbdgcgpghifaaGreatDoor
open Go.RowKit

def strCells (xs : List Bs) : List Value := xs.map fun x => .string (bs x)
theorem strCells_length (xs : List Bs) : (strCells xs).length = xs.length := by simp [strCells]
theorem strCells_snoc (xs : List Bs) (x : Bs) : strCells (xs ++ [x]) = strCells xs ++ [.string (bs x)] := by simp [strCells]
theorem strCells_at (xs : List Bs) (j : Nat) (x : Bs) (h : xs[j]? = some x) : (strCells xs)[j]? = some (.string (bs x)) := by simp [strCells, h]

/-- The slice value v reads in w as the strings xs. -/
def Strs (w : World) (v : Value) (xs : List Bs) : Prop :=
  ∃ a c, v = .slice a xs.length c ∧ xs.length ≤ c ∧ (0 < xs.length → ∃ g o, a = some ⟨g, o, none⟩ ∧ g < w.heap.size ∧ ∀ j x, xs[j]? = some x → w.cell? ⟨g, o + j, none⟩ = some (.string (bs x)))
theorem Strs.kept {w w' : World} {v : Value} {xs : List Bs} (h : Strs w v xs) (k : Kept w w') : Strs w' v xs := by
  obtain ⟨a, c, hv, hc, h3⟩ := h
  refine ⟨a, c, hv, hc, fun q => ?_⟩
  obtain ⟨g, o, ha, hg, hcell⟩ := h3 q
  exact ⟨g, o, ha, Nat.lt_of_lt_of_le hg k.size, fun j x hx => (k.cell (p := ⟨g, o + j, none⟩) hg).trans (hcell j x hx)⟩
theorem Strs.own {w : World} {base : Nat} {e : TypeId} {v : Value} {xs : List Bs} (h : w.ownsRow base e 1 v xs.length (strCells xs)) : Strs w v xs := by
  obtain ⟨a, c, hv, hc, _, h3⟩ := own_cap h
  refine ⟨a, c, hv, hc, fun q => ?_⟩
  obtain ⟨g, ha, _, hg, hcell⟩ := h3 q
  exact ⟨g, 0, ha, hg, fun j x hx => by rw [Nat.zero_add]; exact hcell j _ (strCells_at xs j x hx)⟩
theorem Strs.none_ (w : World) : Strs w (.slice none 0 0) [] := ⟨none, 0, rfl, Nat.le_refl _, fun q => absurd q (by simp)⟩

theorem Tryz.infoStr : (Tryz.prog.info? 9).map (fun i => (i.zero, i.size, i.bytes)) = some (some (.string ⟨#[]⟩), 1, 16) := by kernel_rfl

theorem map_bs : ∀ (xs : List ByteArray) (ys : List Bs), xs.map (·.data.toList) = ys → xs = ys.map bs
  | [], ys, h => by subst h; rfl
  | x :: xs, ys, h => by
    subst h
    simp only [List.map_cons]
    rw [← map_bs xs _ rfl]
    rfl

theorem split_any (l : Bs) (c : UInt8) (w : World) (hg : Gnd w) (hl : l.length ≤ 1000000000) :
    Calls Tryz.prog 128 #[.string (bs l), .string (bs [c])] w fun e w' => e = .returned (.slice (some ⟨w.heap.size, 0, none⟩) (splitC c l).length (splitC c l).length) ∧ w' = w.alloc (.cells (strCells (splitC c l)).toArray 9) := by
  obtain ⟨m, hm⟩ := hg
  refine (Tryz.strings_Split (bs l) (bs [c]) m w (by simp; omega) hm (by simp)).mono ?_
  rintro e w' ⟨rfl, rfl⟩
  have e1 : Lib.countB (bs l) (bs [c]) + 1 = (splitC c l).length := by rw [splitC_length]; congr 1; exact countB_one (bs l) c
  have e2 : (Lib.splitB (bs [c]) 0 (Lib.countB (bs l) (bs [c])) (bs l)) = (splitC c l).map bs := map_bs _ _ (splitB_one (bs l) c)
  rw [e1, e2]
  refine ⟨rfl, ?_⟩
  rw [List.map_map]; rfl

theorem join_any (v : Value) (xs : List Bs) (sep : Bs) (w : World) (hv : Strs w v xs) (hN : xs.length ≤ 1000000000) (hlen : (Lib.join xs sep).length ≤ 1000000000) :
    Calls Tryz.prog 88 #[v, .string (bs sep)] w fun e w' => e = .returned (.string (bs (Lib.join xs sep))) ∧ Kept w w' := by
  obtain ⟨a, c, rfl, hc, h3⟩ := hv
  rcases Nat.eq_zero_or_pos xs.length with h0 | h0
  · obtain rfl : xs = [] := List.length_eq_zero_iff.1 h0
    refine (Tryz.strings_Join_none a c (bs sep) w).mono ?_
    rintro e w' ⟨rfl, rfl⟩
    exact ⟨rfl, Kept.refl _⟩
  · obtain ⟨g, o, rfl, hg, hcell⟩ := h3 h0
    have hm : (xs.map bs).map (·.data.toList) = xs := by
      rw [List.map_map]
      exact List.map_id xs
    have h := Tryz.strings_Join g o c (xs.map bs) (bs sep) w (fun j x hx => by
      rw [List.getElem?_map] at hx
      cases hj : xs[j]? with
      | none => rw [hj] at hx; cases hx
      | some y => rw [hj] at hx; cases hx; exact hcell j y hj) hg (by simp; omega) (by simpa using hc) (by rw [hm]; simp; omega)
    rw [hm] at h
    simp only [List.length_map] at h
    exact h
end Go.Proofs.YtpfbdgcgpghifaaGreatDoor

/- The plain law of one code point of a text: what the reference's ranges say is what the model's decoder says. No condition but that the place exists. -/
set_option linter.all false
namespace Go.Proofs.YtpfbdgcgpghifaaGreatDoor
open Go.RowKit

def moreOf (s : ByteArray) (i : Nat) (low high : Int) : Int := if s.size ≤ i ∨ byteAt s i < low ∨ high < byteAt s i then -1 else byteAt s i - 128
def low3 (b : Int) : Int := if b = 224 then 160 else 128
def high3 (b : Int) : Int := if b = 237 then 159 else 191
def low4 (b : Int) : Int := if b = 240 then 144 else 128
def high4 (b : Int) : Int := if b = 244 then 143 else 191
def three (s : ByteArray) (i : Nat) : Int × Int :=
  if moreOf s (i + 1) (low3 (byteAt s i)) (high3 (byteAt s i)) < 0 ∨ moreOf s (i + 2) 128 191 < 0 then (65533, 1)
  else ((byteAt s i - 224) * 4096 + moreOf s (i + 1) (low3 (byteAt s i)) (high3 (byteAt s i)) * 64 + moreOf s (i + 2) 128 191, 3)
def four (s : ByteArray) (i : Nat) : Int × Int :=
  if moreOf s (i + 1) (low4 (byteAt s i)) (high4 (byteAt s i)) < 0 ∨ moreOf s (i + 2) 128 191 < 0 ∨ moreOf s (i + 3) 128 191 < 0 then (65533, 1)
  else ((byteAt s i - 240) * 262144 + moreOf s (i + 1) (low4 (byteAt s i)) (high4 (byteAt s i)) * 4096 + moreOf s (i + 2) 128 191 * 64 + moreOf s (i + 3) 128 191, 4)
def dec (s : ByteArray) (i : Nat) : Int × Int :=
  if byteAt s i < 128 then (byteAt s i, 1)
  else if 194 ≤ byteAt s i ∧ byteAt s i ≤ 223 then
    if 0 ≤ moreOf s (i + 1) 128 191 then ((byteAt s i - 192) * 64 + moreOf s (i + 1) 128 191, 2) else (65533, 1)
  else if 224 ≤ byteAt s i ∧ byteAt s i ≤ 239 then three s i
  else if 240 ≤ byteAt s i ∧ byteAt s i ≤ 244 then four s i
  else (65533, 1)

theorem npair {a b c d : Nat} (h : a = c) (k : b = d) : (a, b) = (c, d) := by rw [h, k]
theorem pair_ext {a b c d : Int} (h : a = c) (k : b = d) : (a, b) = (c, d) := by rw [h, k]
theorem more_no {s : ByteArray} {i : Nat} {l h : Int} (hh : moreOf s i l h < 0) (hl : 128 ≤ l) : s.size ≤ i ∨ byteAt s i < l ∨ h < byteAt s i := by
  unfold moreOf at hh; split at hh
  · assumption
  · omega
theorem more_yes {s : ByteArray} {i : Nat} {l h : Int} (hh : 0 ≤ moreOf s i l h) : i < s.size ∧ l ≤ byteAt s i ∧ byteAt s i ≤ h ∧ moreOf s i l h = byteAt s i - 128 := by
  unfold moreOf at hh ⊢; split at hh
  · omega
  · rw [if_neg (by assumption)]; omega

/-- The decoder over plain numbers: the four bytes, and which of the places exist. -/
def decN (b0 b1 b2 b3 : Nat) (e1 e2 e3 : Bool) : Nat × Nat :=
  let cont (e : Bool) (b : Nat) : Bool := e && b / 64 == 2
  if b0 < 0x80 then (b0, 1)
  else if b0 / 32 == 6 && cont e1 b1 then
    let c := (b0 % 32) * 64 + b1 % 64
    if c ≥ 0x80 then (c, 2) else (Utf8.runeError, 1)
  else if b0 / 16 == 14 && cont e1 b1 && cont e2 b2 then
    let c := (b0 % 16) * 4096 + (b1 % 64) * 64 + b2 % 64
    if c ≥ 0x800 && Utf8.valid c then (c, 3) else (Utf8.runeError, 1)
  else if b0 / 8 == 30 && cont e1 b1 && cont e2 b2 && cont e3 b3 then
    let c := (b0 % 8) * 262144 + (b1 % 64) * 4096 + (b2 % 64) * 64 + b3 % 64
    if c ≥ 0x10000 && Utf8.valid c then (c, 4) else (Utf8.runeError, 1)
  else (Utf8.runeError, 1)
theorem decode_decN (s : ByteArray) (i : Nat) : Utf8.decode s i = decN (s.get! i).toNat (s.get! (i + 1)).toNat (s.get! (i + 2)).toNat (s.get! (i + 3)).toNat (decide (i + 1 < s.size)) (decide (i + 2 < s.size)) (decide (i + 3 < s.size)) := rfl
set_option maxRecDepth 100000 in
theorem decN_two (b0 b1 b2 b3 : Nat) (e1 e2 e3 : Bool) (h : 128 ≤ b0 ∧ b0 < 224) :
    decN b0 b1 b2 b3 e1 e2 e3 = if 194 ≤ b0 ∧ e1 = true ∧ 128 ≤ b1 ∧ b1 < 192 then ((b0 - 192) * 64 + (b1 - 128), 2) else (65533, 1) := by
  unfold decN
  rw [if_neg (by omega)]
  have h3 : (b0 / 16 == 14) = false := by simp; omega
  have h4 : (b0 / 8 == 30) = false := by simp; omega
  simp only [h3, h4, Bool.false_and, Bool.false_eq_true, if_false, Utf8.runeError]
  cases e1 <;> simp
  · by_cases k : b0 / 32 = 6 ∧ b1 / 64 = 2
    · rw [if_pos k]
      by_cases q : 194 ≤ b0
      · rw [if_pos (by omega), if_pos (by omega)]; apply npair <;> omega
      · rw [if_neg (by omega), if_neg (by omega)]
    · rw [if_neg k, if_neg (by omega)]
theorem valid_nat (c : Nat) : Utf8.valid (c : Int) = decide (c < 55296 ∨ (57344 ≤ c ∧ c ≤ 1114111)) := by
  unfold Utf8.valid
  rw [Bool.eq_iff_iff]
  simp only [Bool.or_eq_true, Bool.and_eq_true, decide_eq_true_eq]
  omega
set_option maxRecDepth 100000 in
theorem decN_three (b0 b1 b2 b3 : Nat) (e1 e2 e3 : Bool) (h : 224 ≤ b0 ∧ b0 < 240) :
    decN b0 b1 b2 b3 e1 e2 e3 = if e1 = true ∧ e2 = true ∧ (b0 = 224 → 160 ≤ b1) ∧ 128 ≤ b1 ∧ (b0 = 237 → b1 ≤ 159) ∧ b1 ≤ 191 ∧ 128 ≤ b2 ∧ b2 < 192 then ((b0 - 224) * 4096 + (b1 - 128) * 64 + (b2 - 128), 3) else (65533, 1) := by
  unfold decN
  rw [if_neg (by omega)]
  have h2 : (b0 / 32 == 6) = false := by simp; omega
  have h4 : (b0 / 8 == 30) = false := by simp; omega
  have h3 : b0 / 16 = 14 := by omega
  simp only [h2, h4, h3, Bool.false_and, Bool.false_eq_true, if_false, Utf8.runeError, valid_nat]
  cases e1 <;> cases e2 <;> simp
  by_cases k : b1 / 64 = 2 ∧ b2 / 64 = 2
  · rw [if_pos k]
    split <;> split <;> first | (exfalso; omega) | (apply npair <;> omega)
  · rw [if_neg k, if_neg (by omega)]
set_option maxRecDepth 100000 in
theorem decN_four (b0 b1 b2 b3 : Nat) (e1 e2 e3 : Bool) (h : 240 ≤ b0 ∧ b0 < 256) :
    decN b0 b1 b2 b3 e1 e2 e3 = if b0 ≤ 244 ∧ e1 = true ∧ e2 = true ∧ e3 = true ∧ (b0 = 240 → 144 ≤ b1) ∧ 128 ≤ b1 ∧ (b0 = 244 → b1 ≤ 143) ∧ b1 ≤ 191 ∧ 128 ≤ b2 ∧ b2 < 192 ∧ 128 ≤ b3 ∧ b3 < 192 then ((b0 - 240) * 262144 + (b1 - 128) * 4096 + (b2 - 128) * 64 + (b3 - 128), 4) else (65533, 1) := by
  unfold decN
  rw [if_neg (by omega)]
  have h2 : (b0 / 32 == 6) = false := by simp; omega
  have h3 : (b0 / 16 == 14) = false := by simp; omega
  simp only [h2, h3, Bool.false_and, Bool.false_eq_true, if_false, Utf8.runeError, valid_nat]
  cases e1 <;> cases e2 <;> cases e3 <;> simp
  by_cases k : b0 / 8 = 30 ∧ b1 / 64 = 2 ∧ b2 / 64 = 2 ∧ b3 / 64 = 2
  · rw [if_pos (by simpa [and_assoc] using k)]
    split <;> split <;> first | (exfalso; omega) | (apply npair <;> omega)
  · rw [if_neg (by simpa [and_assoc] using k), if_neg (by omega)]

set_option maxRecDepth 100000 in
theorem dec_eq (s : ByteArray) (i : Nat) : dec s i = (((Utf8.decode s i).1 : Int), ((Utf8.decode s i).2 : Int)) := by
  rw [decode_decN]
  have e0 := byteAt_get s i
  have e1 := byteAt_get s (i + 1)
  have e2 := byteAt_get s (i + 2)
  have e3 := byteAt_get s (i + 3)
  have u0 : (s.get! i).toNat < 256 := (s.get! i).toNat_lt
  generalize (s.get! i).toNat = b0 at *
  generalize (s.get! (i + 1)).toNat = b1 at *
  generalize (s.get! (i + 2)).toNat = b2 at *
  generalize (s.get! (i + 3)).toNat = b3 at *
  unfold dec
  rw [e0]
  by_cases k1 : b0 < 128
  · rw [if_pos (by omega)]; unfold decN; rw [if_pos (by omega)]; rfl
  rw [if_neg (by omega)]
  by_cases k2 : b0 < 224
  · rw [decN_two _ _ _ _ _ _ _ ⟨by omega, k2⟩, if_neg (c := 224 ≤ (b0 : Int) ∧ _) (by omega), if_neg (c := 240 ≤ (b0 : Int) ∧ _) (by omega)]
    simp only [decide_eq_true_eq]
    by_cases c : 194 ≤ b0 ∧ i + 1 < s.size ∧ 128 ≤ b1 ∧ b1 < 192
    · have m1 : moreOf s (i + 1) 128 191 = b1 - 128 := by unfold moreOf; rw [e1, if_neg (by omega)]
      rw [if_pos c, if_pos (by omega), m1, if_pos (by omega)]
      apply pair_ext <;> simp only <;> omega
    · rw [if_neg c]
      by_cases c0 : 194 ≤ (b0 : Int) ∧ (b0 : Int) ≤ 223
      · have m1 : moreOf s (i + 1) 128 191 = -1 := by unfold moreOf; rw [e1, if_pos (by omega)]
        rw [if_pos c0, m1, if_neg (by omega)]; rfl
      · rw [if_neg c0]; rfl
  by_cases k3 : b0 < 240
  · rw [decN_three _ _ _ _ _ _ _ ⟨by omega, k3⟩, if_neg (by omega), if_pos (by omega)]
    simp only [decide_eq_true_eq]
    unfold three
    rw [e0]
    have hl : (b0 = 224 ∧ low3 b0 = 160) ∨ (b0 ≠ 224 ∧ low3 b0 = 128) := by unfold low3; by_cases q : b0 = 224 <;> simp [q]; omega
    have hh : (b0 = 237 ∧ high3 b0 = 159) ∨ (b0 ≠ 237 ∧ high3 b0 = 191) := by unfold high3; by_cases q : b0 = 237 <;> simp [q]; omega
    by_cases c : i + 1 < s.size ∧ i + 2 < s.size ∧ (b0 = 224 → 160 ≤ b1) ∧ 128 ≤ b1 ∧ (b0 = 237 → b1 ≤ 159) ∧ b1 ≤ 191 ∧ 128 ≤ b2 ∧ b2 < 192
    · have m1 : moreOf s (i + 1) (low3 b0) (high3 b0) = b1 - 128 := by unfold moreOf; rw [e1, if_neg (by omega)]
      have m2 : moreOf s (i + 2) 128 191 = b2 - 128 := by unfold moreOf; rw [e2, if_neg (by omega)]
      rw [if_pos c, m1, m2, if_neg (by omega)]
      apply pair_ext <;> simp only <;> omega
    · rw [if_neg c]
      have hn : moreOf s (i + 1) (low3 b0) (high3 b0) < 0 ∨ moreOf s (i + 2) 128 191 < 0 := by
        by_cases q : i + 1 < s.size ∧ low3 b0 ≤ b1 ∧ b1 ≤ high3 b0
        · right; unfold moreOf; rw [e2, if_pos (by omega)]; omega
        · left; unfold moreOf; rw [e1, if_pos (by omega)]; omega
      rw [if_pos hn]; rfl
  · rw [decN_four _ _ _ _ _ _ _ ⟨by omega, u0⟩, if_neg (by omega), if_neg (by omega)]
    simp only [decide_eq_true_eq]
    by_cases c0 : b0 ≤ 244
    · rw [if_pos (by omega)]
      unfold four
      rw [e0]
      have hl : (b0 = 240 ∧ low4 b0 = 144) ∨ (b0 ≠ 240 ∧ low4 b0 = 128) := by unfold low4; by_cases q : b0 = 240 <;> simp [q]; omega
      have hh : (b0 = 244 ∧ high4 b0 = 143) ∨ (b0 ≠ 244 ∧ high4 b0 = 191) := by unfold high4; by_cases q : b0 = 244 <;> simp [q]; omega
      by_cases c : b0 ≤ 244 ∧ i + 1 < s.size ∧ i + 2 < s.size ∧ i + 3 < s.size ∧ (b0 = 240 → 144 ≤ b1) ∧ 128 ≤ b1 ∧ (b0 = 244 → b1 ≤ 143) ∧ b1 ≤ 191 ∧ 128 ≤ b2 ∧ b2 < 192 ∧ 128 ≤ b3 ∧ b3 < 192
      · have m1 : moreOf s (i + 1) (low4 b0) (high4 b0) = b1 - 128 := by unfold moreOf; rw [e1, if_neg (by omega)]
        have m2 : moreOf s (i + 2) 128 191 = b2 - 128 := by unfold moreOf; rw [e2, if_neg (by omega)]
        have m3 : moreOf s (i + 3) 128 191 = b3 - 128 := by unfold moreOf; rw [e3, if_neg (by omega)]
        rw [if_pos c, m1, m2, m3, if_neg (by omega)]
        apply pair_ext <;> simp only <;> omega
      · rw [if_neg c]
        have hn : moreOf s (i + 1) (low4 b0) (high4 b0) < 0 ∨ moreOf s (i + 2) 128 191 < 0 ∨ moreOf s (i + 3) 128 191 < 0 := by
          by_cases q : i + 1 < s.size ∧ low4 b0 ≤ b1 ∧ b1 ≤ high4 b0
          · right
            by_cases q2 : i + 2 < s.size ∧ 128 ≤ b2 ∧ b2 < 192
            · right; unfold moreOf; rw [e3, if_pos (by omega)]; omega
            · left; unfold moreOf; rw [e2, if_pos (by omega)]; omega
          · left; unfold moreOf; rw [e1, if_pos (by omega)]; omega
        rw [if_pos hn]; rfl
    · rw [if_neg (by omega), if_neg (by omega)]; rfl
end Go.Proofs.YtpfbdgcgpghifaaGreatDoor
