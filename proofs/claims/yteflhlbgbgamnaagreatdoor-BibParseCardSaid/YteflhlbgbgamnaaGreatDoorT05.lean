/- Slices of pairs; bib.hasField, bib.Field. Conditions: lengths. -/
import Derived.Test.YteflhlbgbgamnaaGreatDoorT04
import Derived.Test.YteflhlbgbgamnaaGreatDoorT01

set_option linter.all false
namespace Go.Proofs.YteflhlbgbgamnaaGreatDoor
open Go.RowKit

abbrev Pr := Bs × Bs
/-- The slice value v reads in w as the pairs ps. -/
def Prs (w : World) (v : Value) (ps : List Pr) : Prop :=
  ∃ a c, v = .slice a ps.length c ∧ ps.length ≤ c ∧ (0 < ps.length → ∃ g o, a = some ⟨g, o, none⟩ ∧ g < w.heap.size ∧ ∀ j q, ps[j]? = some q →
    w.cell? ⟨g, o + j * 2, none⟩ = some (.string (bs q.1)) ∧ w.cell? ⟨g, o + j * 2 + 1, none⟩ = some (.string (bs q.2)))
theorem Prs.kept {w w' : World} {v : Value} {ps : List Pr} (h : Prs w v ps) (k : Kept w w') : Prs w' v ps := by
  obtain ⟨a, c, hv, hc, h3⟩ := h
  refine ⟨a, c, hv, hc, fun q => ?_⟩
  obtain ⟨g, o, ha, hg, hcell⟩ := h3 q
  refine ⟨g, o, ha, Nat.lt_of_lt_of_le hg k.size, fun j x hx => ?_⟩
  obtain ⟨c0, c1⟩ := hcell j x hx
  exact ⟨(k.cell (p := ⟨g, o + j * 2, none⟩) hg).trans c0, (k.cell (p := ⟨g, o + j * 2 + 1, none⟩) hg).trans c1⟩
def hasB (ps : List Pr) (k : Bs) : Bool := ps.any fun q => q.1 == k

theorem hasB_take (ps : List Pr) (k : Bs) (n : Nat) (q : Pr) (h : ps[n]? = some q) : hasB (ps.take (n + 1)) k = (hasB (ps.take n) k || q.1 == k) := by
  unfold hasB
  obtain ⟨hk, rfl⟩ := List.getElem?_eq_some_iff.1 h
  rw [List.take_succ_eq_append_getElem hk, List.any_append]; simp only [List.any_cons, List.any_nil, Bool.or_false]
theorem hasB_more (ps : List Pr) (k : Bs) (n : Nat) (h : hasB (ps.take n) k = true) : hasB ps k = true := by
  unfold hasB at h ⊢
  rw [List.any_eq_true] at h ⊢
  obtain ⟨x, hx, e⟩ := h
  exact ⟨x, List.mem_of_mem_take hx, e⟩

set_option maxRecDepth 100000 in
theorem clos_any (x y k : Bs) (b : Nat) (w : World) (hc : w.cell? ⟨b, 0, none⟩ = some (.string (bs k))) :
    Calls Tryz.prog 119 #[.agg #[.string (bs x), .string (bs y)], .pointer (some ⟨b, 0, none⟩)] w fun e w' => e = .returned (.bool (x == k)) ∧ Kept w w' := by
  have hb := World.block_lt_of_cell? w (a := ⟨b, 0, none⟩) hc
  simp only at hb
  by_cases h : x = k
  · subst h
    go_enter Tryz.func119, Tryz.ntmps119
    go_wp2_with fail
    go_ret
    exact ⟨ret_bool (by simp), kept_alloc _ _⟩
  · have h' : (x == k) = false := by simpa using h
    go_enter Tryz.func119, Tryz.ntmps119
    go_wp2_with fail
    go_ret
    exact ⟨ret_bool (by simp [h']), kept_alloc _ _⟩
/-- What IndexFunc answers: some place, or -1. -/
def FoundPost (ps : List Pr) (k : Bs) (w : World) (e : Ending) (w' : World) : Prop := ∃ r : Int, e = .returned (.int .i64 r) ∧ decide (0 ≤ r) = hasB ps k ∧ Kept w w'
set_option maxRecDepth 100000 in
set_option maxHeartbeats 1600000 in
theorem indexFunc_any (v : Value) (ps : List Pr) (k : Bs) (b : Nat) (w : World) (hv : Prs w v ps) (hN : ps.length ≤ 1100000) (hc : w.cell? ⟨b, 0, none⟩ = some (.string (bs k))) :
    Calls Tryz.prog 145 #[v, .func (Fn.func 119) #[] #[.pointer (some ⟨b, 0, none⟩)]] w (FoundPost ps k w) := by
  have HV := Lib.hid hv
  have HC := Lib.hid hc
  have hb := World.block_lt_of_cell? w (a := ⟨b, 0, none⟩) hc
  simp only at hb
  clear hc
  obtain ⟨a, c, rfl, hc, h3⟩ := hv
  clear h3
  go_enter Tryz.func145, Tryz.ntmps145
  go_wp2_with fail
  go_loopw [8] (fun i wr => ∃ n : Nat, n ≤ ps.length ∧ i = .int .i64 n ∧ Hid (hasB (ps.take n) k = false) ∧ Kept w wr) (fun i _ => ps.length - (intOf i).toNat)
  case atStart => exact ⟨0, Nat.zero_le _, rfl, rfl, Kept.refl _⟩
  case round =>
    obtain ⟨n, hn, rfl, HN, hkr⟩ := hrel
    by_cases hlt : n < ps.length
    · obtain ⟨q, hx⟩ : ∃ x, ps[n]? = some x := ⟨_, List.getElem?_eq_getElem hlt⟩
      obtain ⟨a', c', hv', hc', h3⟩ := HV.out.kept hkr
      obtain ⟨rfl, hdead, rfl⟩ := Value.slice.inj hv'
      clear hdead
      obtain ⟨g, o, rfl, hg, hcc⟩ := h3 (by omega)
      obtain ⟨c0, c1⟩ := hcc n q hx
      have HS := Lib.hid (hasB_take ps k n q hx)
      have HM := Lib.hid (hasB_more ps k (n + 1))
      have HCL := Lib.hid (clos_any q.1 q.2 k b wr ((hkr.cell (p := ⟨b, 0, none⟩) hb).trans HC.out))
      have HR := Lib.hid hkr
      rw [HN.out, Bool.false_or] at HS
      clear hkr hcc h3 hv' hc' hx HN
      obtain ⟨x, y⟩ := q
      simp only at c0 c1 HS HCL
      cases hxk : (x == k)
      · rw [hxk] at HS HCL
        go_wp2_with fail
        refine HCL.out.mono ?_
        rintro e w1 ⟨rfl, hk1⟩
        have HR1 := Lib.hid (HR.out.trans hk1)
        clear hk1
        go_wp2_with fail
        go_roundw
        case rel => exact ⟨n + 1, by omega, by go_num, HS.out, HR1.out⟩
        case measure => simp [intOf]; omega
      · rw [hxk] at HS HCL
        go_wp2_with fail
        refine HCL.out.mono ?_
        rintro e w1 ⟨rfl, hk1⟩
        have HR1 := Lib.hid (HR.out.trans hk1)
        clear hk1
        go_wp2_with fail
        go_ret
        exact ⟨n, rfl, by rw [HM.out HS.out]; simp, HR1.out⟩
    · have HE : Hid (hasB ps k = false) := by have h := HN.out; rw [List.take_of_length_le (by omega)] at h; exact h
      have HR := Lib.hid hkr
      clear hkr HN
      go_wp2_with fail
      go_ret
      exact ⟨-1, rfl, by rw [HE.out]; rfl, HR.out⟩

set_option maxRecDepth 100000 in
set_option maxHeartbeats 1600000 in
theorem hasField_any (v : Value) (ps : List Pr) (k : Bs) (w : World) (hv : Prs w v ps) (hN : ps.length ≤ 1100000) :
    Calls Tryz.prog 88 #[v, .string (bs k)] w fun e w' => e = .returned (.bool (hasB ps k)) ∧ Kept w w' := by
  have HCF : Hid (∀ (b : Nat) (w : World), Prs w v ps → w.cell? ⟨b, 0, none⟩ = some (.string (bs k)) → Calls Tryz.prog 118 #[v, .func (Fn.func 119) #[] #[.pointer (some ⟨b, 0, none⟩)]] w fun e w' => e = .returned (.bool (hasB ps k)) ∧ Kept w w') := by
    intro b w hv hc
    have HI := Lib.hid (indexFunc_any v ps k b w hv hN hc)
    obtain ⟨hb, HB⟩ : ∃ hb, Hid (hasB ps k = hb) := ⟨_, rfl⟩
    unfold FoundPost at HI
    rw [HB.out]
    rw [HB.out] at HI
    obtain ⟨a, c, rfl, hcl, h3⟩ := hv
    clear h3 hc
    go_enter Tryz.func118, Tryz.ntmps118
    go_wp2_with fail
    refine HI.out.mono ?_
    rintro e w1 ⟨r, rfl, hr, hk1⟩
    have HK := Lib.hid hk1
    clear hk1
    cases hb
    · go_wp2_with fail
      go_ret
      exact ⟨ret_bool (by simpa using hr), HK.out⟩
    · go_wp2_with fail
      go_ret
      exact ⟨ret_bool (by simpa using hr), HK.out⟩
  have HV := Lib.hid hv
  obtain ⟨a, c, rfl, hc, h3⟩ := hv
  clear h3
  obtain ⟨hb, HB⟩ : ∃ hb, Hid (hasB ps k = hb) := ⟨_, rfl⟩
  rw [HB.out] at HCF ⊢
  go_enter Tryz.func88, Tryz.ntmps88
  go_wp2_with fail
  refine (HCF.out w.heap.size _ (HV.out.kept (kept_alloc _ _)) (by have h := (Blk.new w 9 #[.string (bs k)]).cell 0 _ rfl; exact h)).mono ?_
  rintro e w1 ⟨rfl, hk1⟩
  have HK := Lib.hid ((kept_alloc w _).trans hk1)
  clear hk1
  go_wp2_with fail
  go_ret
  exact ⟨rfl, HK.out⟩

/-- The value of a field. -/
def fieldL (ps : List Pr) (k : Bs) : Option Bs := (ps.find? fun q => q.1 == k).map (·.2)
end Go.Proofs.YteflhlbgbgamnaaGreatDoor

/- The plain law of one code point of a text: what the reference's ranges say is what the model's decoder says. No condition but that the place exists. -/
set_option linter.all false
namespace Go.Proofs.YteflhlbgbgamnaaGreatDoor
open Go.RowKit

def moreOf (s : ByteArray) (i : Nat) (low high : Int) : Int := if s.size ≤ i ∨ byteAt s i < low ∨ high < byteAt s i then -1 else byteAt s i - 128
def low3 (b : Int) : Int := if b = 224 then 160 else 128
def high3 (b : Int) : Int := if b = 237 then 159 else 191
def low4 (b : Int) : Int := if b = 240 then 144 else 128
def high4 (b : Int) : Int := if b = 244 then 143 else 191
def three (s : ByteArray) (i : Nat) : Int × Int :=
  if moreOf s (i + 1) (low3 (byteAt s i)) (high3 (byteAt s i)) < 0 ∨ moreOf s (i + 2) 128 191 < 0 then (65533, 1)
  else ((byteAt s i - 224) * 4096 + moreOf s (i + 1) (low3 (byteAt s i)) (high3 (byteAt s i)) * 64 + moreOf s (i + 2) 128 191, 3)
def four (s : ByteArray) (i : Nat) : Int × Int :=
  if moreOf s (i + 1) (low4 (byteAt s i)) (high4 (byteAt s i)) < 0 ∨ moreOf s (i + 2) 128 191 < 0 ∨ moreOf s (i + 3) 128 191 < 0 then (65533, 1)
  else ((byteAt s i - 240) * 262144 + moreOf s (i + 1) (low4 (byteAt s i)) (high4 (byteAt s i)) * 4096 + moreOf s (i + 2) 128 191 * 64 + moreOf s (i + 3) 128 191, 4)
def dec (s : ByteArray) (i : Nat) : Int × Int :=
  if byteAt s i < 128 then (byteAt s i, 1)
  else if 194 ≤ byteAt s i ∧ byteAt s i ≤ 223 then
    if 0 ≤ moreOf s (i + 1) 128 191 then ((byteAt s i - 192) * 64 + moreOf s (i + 1) 128 191, 2) else (65533, 1)
  else if 224 ≤ byteAt s i ∧ byteAt s i ≤ 239 then three s i
  else if 240 ≤ byteAt s i ∧ byteAt s i ≤ 244 then four s i
  else (65533, 1)

theorem npair {a b c d : Nat} (h : a = c) (k : b = d) : (a, b) = (c, d) := by rw [h, k]
theorem pair_ext {a b c d : Int} (h : a = c) (k : b = d) : (a, b) = (c, d) := by rw [h, k]
theorem more_no {s : ByteArray} {i : Nat} {l h : Int} (hh : moreOf s i l h < 0) (hl : 128 ≤ l) : s.size ≤ i ∨ byteAt s i < l ∨ h < byteAt s i := by
  unfold moreOf at hh; split at hh
  · assumption
  · omega
theorem more_yes {s : ByteArray} {i : Nat} {l h : Int} (hh : 0 ≤ moreOf s i l h) : i < s.size ∧ l ≤ byteAt s i ∧ byteAt s i ≤ h ∧ moreOf s i l h = byteAt s i - 128 := by
  unfold moreOf at hh ⊢; split at hh
  · omega
  · rw [if_neg (by assumption)]; omega

/-- The decoder over plain numbers: the four bytes, and which of the places exist. -/
def decN (b0 b1 b2 b3 : Nat) (e1 e2 e3 : Bool) : Nat × Nat :=
  let cont (e : Bool) (b : Nat) : Bool := e && b / 64 == 2
  if b0 < 0x80 then (b0, 1)
  else if b0 / 32 == 6 && cont e1 b1 then
    let c := (b0 % 32) * 64 + b1 % 64
    if c ≥ 0x80 then (c, 2) else (Utf8.runeError, 1)
  else if b0 / 16 == 14 && cont e1 b1 && cont e2 b2 then
    let c := (b0 % 16) * 4096 + (b1 % 64) * 64 + b2 % 64
    if c ≥ 0x800 && Utf8.valid c then (c, 3) else (Utf8.runeError, 1)
  else if b0 / 8 == 30 && cont e1 b1 && cont e2 b2 && cont e3 b3 then
    let c := (b0 % 8) * 262144 + (b1 % 64) * 4096 + (b2 % 64) * 64 + b3 % 64
    if c ≥ 0x10000 && Utf8.valid c then (c, 4) else (Utf8.runeError, 1)
  else (Utf8.runeError, 1)
theorem decode_decN (s : ByteArray) (i : Nat) : Utf8.decode s i = decN (s.get! i).toNat (s.get! (i + 1)).toNat (s.get! (i + 2)).toNat (s.get! (i + 3)).toNat (decide (i + 1 < s.size)) (decide (i + 2 < s.size)) (decide (i + 3 < s.size)) := rfl
set_option maxRecDepth 100000 in
theorem decN_two (b0 b1 b2 b3 : Nat) (e1 e2 e3 : Bool) (h : 128 ≤ b0 ∧ b0 < 224) :
    decN b0 b1 b2 b3 e1 e2 e3 = if 194 ≤ b0 ∧ e1 = true ∧ 128 ≤ b1 ∧ b1 < 192 then ((b0 - 192) * 64 + (b1 - 128), 2) else (65533, 1) := by
  unfold decN
  rw [if_neg (by omega)]
  have h3 : (b0 / 16 == 14) = false := by simp; omega
  have h4 : (b0 / 8 == 30) = false := by simp; omega
  simp only [h3, h4, Bool.false_and, Bool.false_eq_true, if_false, Utf8.runeError]
  cases e1 <;> simp
  · by_cases k : b0 / 32 = 6 ∧ b1 / 64 = 2
    · rw [if_pos k]
      by_cases q : 194 ≤ b0
      · rw [if_pos (by omega), if_pos (by omega)]; apply npair <;> omega
      · rw [if_neg (by omega), if_neg (by omega)]
    · rw [if_neg k, if_neg (by omega)]
theorem valid_nat (c : Nat) : Utf8.valid (c : Int) = decide (c < 55296 ∨ (57344 ≤ c ∧ c ≤ 1114111)) := by
  unfold Utf8.valid
  rw [Bool.eq_iff_iff]
  simp only [Bool.or_eq_true, Bool.and_eq_true, decide_eq_true_eq]
  omega
set_option maxRecDepth 100000 in
theorem decN_three (b0 b1 b2 b3 : Nat) (e1 e2 e3 : Bool) (h : 224 ≤ b0 ∧ b0 < 240) :
    decN b0 b1 b2 b3 e1 e2 e3 = if e1 = true ∧ e2 = true ∧ (b0 = 224 → 160 ≤ b1) ∧ 128 ≤ b1 ∧ (b0 = 237 → b1 ≤ 159) ∧ b1 ≤ 191 ∧ 128 ≤ b2 ∧ b2 < 192 then ((b0 - 224) * 4096 + (b1 - 128) * 64 + (b2 - 128), 3) else (65533, 1) := by
  unfold decN
  rw [if_neg (by omega)]
  have h2 : (b0 / 32 == 6) = false := by simp; omega
  have h4 : (b0 / 8 == 30) = false := by simp; omega
  have h3 : b0 / 16 = 14 := by omega
  simp only [h2, h4, h3, Bool.false_and, Bool.false_eq_true, if_false, Utf8.runeError, valid_nat]
  cases e1 <;> cases e2 <;> simp
  by_cases k : b1 / 64 = 2 ∧ b2 / 64 = 2
  · rw [if_pos k]
    split <;> split <;> first | (exfalso; omega) | (apply npair <;> omega)
  · rw [if_neg k, if_neg (by omega)]
set_option maxRecDepth 100000 in
theorem decN_four (b0 b1 b2 b3 : Nat) (e1 e2 e3 : Bool) (h : 240 ≤ b0 ∧ b0 < 256) :
    decN b0 b1 b2 b3 e1 e2 e3 = if b0 ≤ 244 ∧ e1 = true ∧ e2 = true ∧ e3 = true ∧ (b0 = 240 → 144 ≤ b1) ∧ 128 ≤ b1 ∧ (b0 = 244 → b1 ≤ 143) ∧ b1 ≤ 191 ∧ 128 ≤ b2 ∧ b2 < 192 ∧ 128 ≤ b3 ∧ b3 < 192 then ((b0 - 240) * 262144 + (b1 - 128) * 4096 + (b2 - 128) * 64 + (b3 - 128), 4) else (65533, 1) := by
  unfold decN
  rw [if_neg (by omega)]
  have h2 : (b0 / 32 == 6) = false := by simp; omega
  have h3 : (b0 / 16 == 14) = false := by simp; omega
  simp only [h2, h3, Bool.false_and, Bool.false_eq_true, if_false, Utf8.runeError, valid_nat]
  cases e1 <;> cases e2 <;> cases e3 <;> simp
  by_cases k : b0 / 8 = 30 ∧ b1 / 64 = 2 ∧ b2 / 64 = 2 ∧ b3 / 64 = 2
  · rw [if_pos (by simpa [and_assoc] using k)]
    split <;> split <;> first | (exfalso; omega) | (apply npair <;> omega)
  · rw [if_neg (by simpa [and_assoc] using k), if_neg (by omega)]

set_option maxRecDepth 100000 in
theorem dec_eq (s : ByteArray) (i : Nat) : dec s i = (((Utf8.decode s i).1 : Int), ((Utf8.decode s i).2 : Int)) := by
  rw [decode_decN]
  have e0 := byteAt_get s i
  have e1 := byteAt_get s (i + 1)
  have e2 := byteAt_get s (i + 2)
  have e3 := byteAt_get s (i + 3)
  have u0 : (s.get! i).toNat < 256 := (s.get! i).toNat_lt
  generalize (s.get! i).toNat = b0 at *
  generalize (s.get! (i + 1)).toNat = b1 at *
  generalize (s.get! (i + 2)).toNat = b2 at *
  generalize (s.get! (i + 3)).toNat = b3 at *
  unfold dec
  rw [e0]
  by_cases k1 : b0 < 128
  · rw [if_pos (by omega)]; unfold decN; rw [if_pos (by omega)]; rfl
  rw [if_neg (by omega)]
  by_cases k2 : b0 < 224
  · rw [decN_two _ _ _ _ _ _ _ ⟨by omega, k2⟩, if_neg (c := 224 ≤ (b0 : Int) ∧ _) (by omega), if_neg (c := 240 ≤ (b0 : Int) ∧ _) (by omega)]
    simp only [decide_eq_true_eq]
    by_cases c : 194 ≤ b0 ∧ i + 1 < s.size ∧ 128 ≤ b1 ∧ b1 < 192
    · have m1 : moreOf s (i + 1) 128 191 = b1 - 128 := by unfold moreOf; rw [e1, if_neg (by omega)]
      rw [if_pos c, if_pos (by omega), m1, if_pos (by omega)]
      apply pair_ext <;> simp only <;> omega
    · rw [if_neg c]
      by_cases c0 : 194 ≤ (b0 : Int) ∧ (b0 : Int) ≤ 223
      · have m1 : moreOf s (i + 1) 128 191 = -1 := by unfold moreOf; rw [e1, if_pos (by omega)]
        rw [if_pos c0, m1, if_neg (by omega)]; rfl
      · rw [if_neg c0]; rfl
  by_cases k3 : b0 < 240
  · rw [decN_three _ _ _ _ _ _ _ ⟨by omega, k3⟩, if_neg (by omega), if_pos (by omega)]
    simp only [decide_eq_true_eq]
    unfold three
    rw [e0]
    have hl : (b0 = 224 ∧ low3 b0 = 160) ∨ (b0 ≠ 224 ∧ low3 b0 = 128) := by unfold low3; by_cases q : b0 = 224 <;> simp [q]; omega
    have hh : (b0 = 237 ∧ high3 b0 = 159) ∨ (b0 ≠ 237 ∧ high3 b0 = 191) := by unfold high3; by_cases q : b0 = 237 <;> simp [q]; omega
    by_cases c : i + 1 < s.size ∧ i + 2 < s.size ∧ (b0 = 224 → 160 ≤ b1) ∧ 128 ≤ b1 ∧ (b0 = 237 → b1 ≤ 159) ∧ b1 ≤ 191 ∧ 128 ≤ b2 ∧ b2 < 192
    · have m1 : moreOf s (i + 1) (low3 b0) (high3 b0) = b1 - 128 := by unfold moreOf; rw [e1, if_neg (by omega)]
      have m2 : moreOf s (i + 2) 128 191 = b2 - 128 := by unfold moreOf; rw [e2, if_neg (by omega)]
      rw [if_pos c, m1, m2, if_neg (by omega)]
      apply pair_ext <;> simp only <;> omega
    · rw [if_neg c]
      have hn : moreOf s (i + 1) (low3 b0) (high3 b0) < 0 ∨ moreOf s (i + 2) 128 191 < 0 := by
        by_cases q : i + 1 < s.size ∧ low3 b0 ≤ b1 ∧ b1 ≤ high3 b0
        · right; unfold moreOf; rw [e2, if_pos (by omega)]; omega
        · left; unfold moreOf; rw [e1, if_pos (by omega)]; omega
      rw [if_pos hn]; rfl
  · rw [decN_four _ _ _ _ _ _ _ ⟨by omega, u0⟩, if_neg (by omega), if_neg (by omega)]
    simp only [decide_eq_true_eq]
    by_cases c0 : b0 ≤ 244
    · rw [if_pos (by omega)]
      unfold four
      rw [e0]
      have hl : (b0 = 240 ∧ low4 b0 = 144) ∨ (b0 ≠ 240 ∧ low4 b0 = 128) := by unfold low4; by_cases q : b0 = 240 <;> simp [q]; omega
      have hh : (b0 = 244 ∧ high4 b0 = 143) ∨ (b0 ≠ 244 ∧ high4 b0 = 191) := by unfold high4; by_cases q : b0 = 244 <;> simp [q]; omega
      by_cases c : b0 ≤ 244 ∧ i + 1 < s.size ∧ i + 2 < s.size ∧ i + 3 < s.size ∧ (b0 = 240 → 144 ≤ b1) ∧ 128 ≤ b1 ∧ (b0 = 244 → b1 ≤ 143) ∧ b1 ≤ 191 ∧ 128 ≤ b2 ∧ b2 < 192 ∧ 128 ≤ b3 ∧ b3 < 192
      · have m1 : moreOf s (i + 1) (low4 b0) (high4 b0) = b1 - 128 := by unfold moreOf; rw [e1, if_neg (by omega)]
        have m2 : moreOf s (i + 2) 128 191 = b2 - 128 := by unfold moreOf; rw [e2, if_neg (by omega)]
        have m3 : moreOf s (i + 3) 128 191 = b3 - 128 := by unfold moreOf; rw [e3, if_neg (by omega)]
        rw [if_pos c, m1, m2, m3, if_neg (by omega)]
        apply pair_ext <;> simp only <;> omega
      · rw [if_neg c]
        have hn : moreOf s (i + 1) (low4 b0) (high4 b0) < 0 ∨ moreOf s (i + 2) 128 191 < 0 ∨ moreOf s (i + 3) 128 191 < 0 := by
          by_cases q : i + 1 < s.size ∧ low4 b0 ≤ b1 ∧ b1 ≤ high4 b0
          · right
            by_cases q2 : i + 2 < s.size ∧ 128 ≤ b2 ∧ b2 < 192
            · right; unfold moreOf; rw [e3, if_pos (by omega)]; omega
            · left; unfold moreOf; rw [e2, if_pos (by omega)]; omega
          · left; unfold moreOf; rw [e1, if_pos (by omega)]; omega
        rw [if_pos hn]; rfl
    · rw [if_neg (by omega), if_neg (by omega)]; rfl
end Go.Proofs.YteflhlbgbgamnaaGreatDoor
