/- Maps in memory whose keys are whole numbers: look-up, a key that is new, a key that is put again. No condition. -/
import Derived.Test.YthbnahagfojfbaaG01
import Derived.Test.YthbnahagfojfbaaG03

set_option linter.all false
namespace Go.Proofs.Ythbnahagfojfbaa
open Go.RowKit

def entV (e : Int × Value) (i : Nat) : MapEntry := { key := .int .i64 e.1, val := e.2, born := i }
def entsV (es : List (Int × Value)) : Array MapEntry := (es.mapIdx fun i e => entV e i).toArray
/-- Block m is the map of the entries es. -/
def MapV (w : World) (m : Nat) (es : List (Int × Value)) : Prop := w.heap[m]? = some (.map (entsV es) es.length)
/-- The world with other entries in block m. -/
def putV (w : World) (m : Nat) (es : List (Int × Value)) : World := { w with heap := w.heap.setIfInBounds m (.map (entsV es) es.length) }
def getV (es : List (Int × Value)) (k : Int) : Option Value := (es.find? fun e => e.1 == k).map (·.2)
theorem MapV.lt {w : World} {m : Nat} {es : List (Int × Value)} (h : MapV w m es) : m < w.heap.size := by
  rcases Nat.lt_or_ge m w.heap.size with q | q
  · exact q
  · unfold MapV at h; rw [Array.getElem?_eq_none q] at h; cases h
theorem MapV.only {S : Nat → Prop} {w w' : World} {m : Nat} {es : List (Int × Value)} (h : MapV w m es) (k : Only S w w') (hs : ¬ S m) : MapV w' m es := by
  unfold MapV at h ⊢; rw [k.block m (MapV.lt h) hs]; exact h
theorem MapV.kept {w w' : World} {m : Nat} {es : List (Int × Value)} (h : MapV w m es) (k : Kept w w') : MapV w' m es := h.only (Only.of_kept (S := fun _ => False) k) (fun q => q)
theorem MapV.made (w : World) : MapV (w.alloc (.map #[] 0)) w.heap.size [] := heap_alloc_new w _
theorem putV_map (w : World) (m : Nat) (es : List (Int × Value)) (hm : m < w.heap.size) : MapV (putV w m es) m es := by
  unfold MapV putV; simp [hm]
theorem putV_only (w : World) (m : Nat) (es : List (Int × Value)) : Only (fun i => i = m) w (putV w m es) :=
  ⟨rfl, rfl, rfl, by simp [putV], fun k hk hs => by simp [putV, Array.getElem?_setIfInBounds, Ne.symm hs]⟩
theorem putV_size (w : World) (m : Nat) (es : List (Int × Value)) : (putV w m es).heap.size = w.heap.size := by simp [putV]
theorem entsV_snoc (es : List (Int × Value)) (e : Int × Value) : entsV (es ++ [e]) = (entsV es).push (entV e es.length) := by
  unfold entsV; rw [List.mapIdx_append]; simp
theorem entsV_list (es : List (Int × Value)) : (entsV es).toList = es.mapIdx fun i e => entV e (i + 0) := by simp [entsV]
theorem getV_cons (e : Int × Value) (es : List (Int × Value)) (k : Int) : getV (e :: es) k = if e.1 = k then some e.2 else getV es k := by
  unfold getV
  rw [List.find?_cons]
  by_cases h : e.1 = k
  · rw [if_pos h]; simp [h]
  · rw [if_neg h]
    have : (e.1 == k) = false := by simpa using h
    rw [this]
theorem findV {kd : IntKind} (k : Int) : ∀ (l : List (Int × Value)) (i j : Nat),
    (getV l k = none ∧ Instr.findNow (.int kd) (.int .i64 k) (l.mapIdx fun i' e => entV e (i' + i)) j = some none) ∨
    (∃ (n : Nat) (v : Value), getV l k = some v ∧ l[n]? = some (k, v) ∧ Instr.findNow (.int kd) (.int .i64 k) (l.mapIdx fun i' e => entV e (i' + i)) j = some (some (n + j, v)))
  | [], _, _ => .inl ⟨rfl, rfl⟩
  | e :: l, i, j => by
    rw [List.mapIdx_cons, getV_cons]
    unfold Instr.findNow
    by_cases h : e.1 = k
    · right
      refine ⟨0, e.2, by rw [if_pos h], by rw [← h]; rfl, ?_⟩
      simp [entV, Instr.sameNow, h]
    · have hx : (k == e.1) = false := by rw [beq_eq_false_iff_ne]; exact fun q => h q.symm
      have hm : (l.mapIdx fun i' x => entV x (i' + 1 + i)) = l.mapIdx fun i' x => entV x (i' + (i + 1)) := by
        congr 1; funext a b; congr 1; omega
      rw [if_neg h]
      simp only [entV, Instr.sameNow, hx, if_true] at hm ⊢
      rcases findV (kd := kd) k l (i + 1) (j + 1) with ⟨g1, g2⟩ | ⟨n, v, g1, g2, g3⟩
      · left
        simp only [entV] at g2
        rw [hm]
        exact ⟨g1, g2⟩
      · right
        simp only [entV] at g3
        rw [hm]
        exact ⟨n + 1, v, g1, by simpa using g2, by rw [g3]; congr 3; omega⟩
section
variable {P : Program} {tm ti te : TypeId}
theorem check_int (hi : P.underlying ti = some (.int .i64)) (e : Bool) (k : Int) (w : World) : (Instr.checkKey e 10000 ti (.int .i64 k)).run P w = .ok () w := by
  unfold Instr.checkKey
  simp only [Sem.run_bind, run_underlying hi, Result.andThen]
  rfl
theorem runV (hi : P.underlying ti = some (.int .i64)) (w : World) (es : List (Int × Value)) (k : Int) :
    (getV es k = none ∧ (Instr.findKey ti (.int .i64 k) (entsV es).toList).run P w = .ok none w) ∨
    (∃ n v, getV es k = some v ∧ es[n]? = some (k, v) ∧ (Instr.findKey ti (.int .i64 k) (entsV es).toList).run P w = .ok (some (n, v)) w) := by
  rcases findV (kd := .i64) k es 0 0 with ⟨g1, g2⟩ | ⟨n, v, g1, g2, g3⟩
  · left
    refine ⟨g1, ?_⟩
    unfold Instr.findKey
    simp only [Sem.run_bind, run_underlying hi, Result.andThen, entsV_list, g2]
    simp [Sem.run_pure]
  · right
    refine ⟨n, v, g1, g2, ?_⟩
    unfold Instr.findKey
    simp only [Sem.run_bind, run_underlying hi, Result.andThen, entsV_list, g3]
    simp [Sem.run_pure]
/-- A look-up; z is what the map gives for a key that it has not. -/
theorem lookV (hm : P.underlying tm = some (.map ti te)) (hi : P.underlying ti = some (.int .i64)) (w : World) (m : Nat) (es : List (Int × Value)) (k : Int) (z : Value) (hz : (zeroValue te).run P w = .ok z w) (h : MapV w m es) :
    (Instr.lookup tm (.map (some m)) (.int .i64 k) false).run P w = .ok ((getV es k).getD z) w := by
  unfold MapV at h
  unfold Instr.lookup
  simp only [Sem.run_bind, run_underlying hm, Result.andThen]
  rcases runV hi w es k with ⟨g1, g2⟩ | ⟨n, v, g1, _, g3⟩
  · simp only [getObj, Sem.run_bind, Sem.run, h, Result.andThen, Sem.run_pure, check_int hi, g2, g1, hz]
    simp [Sem.run_pure]
  · simp only [getObj, Sem.run_bind, Sem.run, h, Result.andThen, Sem.run_pure, check_int hi, g3, g1]
    simp [Sem.run_pure]
theorem lookV_ok (hm : P.underlying tm = some (.map ti te)) (hi : P.underlying ti = some (.int .i64)) (w : World) (m : Nat) (es : List (Int × Value)) (k : Int) (z : Value) (hz : (zeroValue te).run P w = .ok z w) (h : MapV w m es) :
    (Instr.lookup tm (.map (some m)) (.int .i64 k) true).run P w = .ok (.tuple #[(getV es k).getD z, .bool (getV es k).isSome]) w := by
  unfold MapV at h
  unfold Instr.lookup
  simp only [Sem.run_bind, run_underlying hm, Result.andThen]
  rcases runV hi w es k with ⟨g1, g2⟩ | ⟨n, v, g1, _, g3⟩
  · simp only [getObj, Sem.run_bind, Sem.run, h, Result.andThen, Sem.run_pure, check_int hi, g2, g1, hz]
    simp [Sem.run_pure]
  · simp only [getObj, Sem.run_bind, Sem.run, h, Result.andThen, Sem.run_pure, check_int hi, g3, g1]
    simp [Sem.run_pure]
theorem insV (hm : P.underlying tm = some (.map ti te)) (hi : P.underlying ti = some (.int .i64)) (w : World) (m : Nat) (es : List (Int × Value)) (k : Int) (v : Value) (h : MapV w m es) (hk : getV es k = none) :
    (Instr.mapUpdate tm (.map (some m)) (.int .i64 k) v).run P w = .ok () (putV w m (es ++ [(k, v)])) := by
  unfold MapV at h
  unfold Instr.mapUpdate
  simp only [Sem.run_bind, run_underlying hm, Result.andThen]
  rcases runV hi w es k with ⟨g1, g2⟩ | ⟨n, v', g1, _, _⟩
  · simp only [getObj, Sem.run_bind, Sem.run, h, Result.andThen, Sem.run_pure, check_int hi, g2, setObj]
    refine congrArg (Result.ok ()) ?_
    unfold putV
    rw [entsV_snoc]
    simp [entV]
  · rw [hk] at g1; cases g1
theorem same_int (k : Int) (w : World) : (Instr.keyThatStays (.int .i64 k) (.int .i64 k)).run P w = .ok (.int .i64 k) w := by
  unfold Instr.keyThatStays
  have e : Instr.sameBits 10000 (.int .i64 k) (.int .i64 k) = true := by
    unfold Instr.sameBits; simp
  rw [e]; rfl
theorem entsV_same (es : List (Int × Value)) (n : Nat) (k : Int) (v : Value) (h : es[n]? = some (k, v)) : ((entsV es).modify n fun e => { e with key := .int .i64 k, val := v }) = entsV es := by
  apply Array.ext_getElem?
  intro i
  rw [Array.getElem?_modify]
  by_cases q : n = i
  · subst q
    rw [if_pos rfl]
    unfold entsV
    simp [h, entV]
  · rw [if_neg q]
theorem entsV_key (es : List (Int × Value)) (n : Nat) (k : Int) (v : Value) (h : es[n]? = some (k, v)) : (entsV es)[n]? = some (entV (k, v) n) := by
  unfold entsV
  simp [h]
/-- A key is put again with what it had. -/
theorem againV (hm : P.underlying tm = some (.map ti te)) (hi : P.underlying ti = some (.int .i64)) (w : World) (m : Nat) (es : List (Int × Value)) (k : Int) (v : Value) (h : MapV w m es) (hk : getV es k = some v) :
    (Instr.mapUpdate tm (.map (some m)) (.int .i64 k) v).run P w = .ok () (putV w m es) := by
  unfold MapV at h
  unfold Instr.mapUpdate
  simp only [Sem.run_bind, run_underlying hm, Result.andThen]
  rcases runV hi w es k with ⟨g1, _⟩ | ⟨n, v', g1, g2, g3⟩
  · rw [hk] at g1; cases g1
  · rw [hk] at g1
    cases g1
    have e1 := entsV_key es n k v g2
    simp only [getObj, Sem.run_bind, Sem.run, h, Result.andThen, Sem.run_pure, check_int hi, g3, setObj, e1, Option.map_some, Option.getD_some, entV, same_int]
    refine congrArg (Result.ok ()) ?_
    unfold putV
    have e2 := entsV_same es n k v g2
    first | rw [e2] | (trace_state; rfl)
end
end Go.Proofs.Ythbnahagfojfbaa

/- lines.Join. Conditions: lengths. -/
set_option linter.all false
namespace Go.Proofs.Ythbnahagfojfbaa
open Go.RowKit

/-- Lines, each followed by a line feed. -/
def joinLn (xs : List Bs) : Bs := xs.flatMap fun x => x ++ [10]
theorem joinLn_snoc (xs : List Bs) (k : Nat) (x : Bs) (h : xs[k]? = some x) : joinLn (xs.take (k + 1)) = joinLn (xs.take k) ++ x ++ [10] := by
  obtain ⟨hk, rfl⟩ := List.getElem?_eq_some_iff.1 h
  unfold joinLn
  rw [List.take_succ_eq_append_getElem hk, List.flatMap_append]
  simp only [List.flatMap_cons, List.flatMap_nil, List.append_nil, List.append_assoc]
theorem joinLn_le (xs : List Bs) (k : Nat) : (joinLn (xs.take k)).length ≤ (joinLn xs).length := by
  unfold joinLn
  conv => rhs; rw [← List.take_append_drop k xs]
  rw [List.flatMap_append, List.length_append]; omega
theorem byteCells_app (a b : Bs) : Lib.byteCells (a ++ b) = Lib.byteCells a ++ Lib.byteCells b := by simp [Lib.byteCells]

end Go.Proofs.Ythbnahagfojfbaa

/- The plain law of one code point of a text: what the reference's ranges say is what the model's decoder says. No condition but that the place exists. -/
set_option linter.all false
namespace Go.Proofs.Ythbnahagfojfbaa
open Go.RowKit

def moreOf (s : ByteArray) (i : Nat) (low high : Int) : Int := if s.size ≤ i ∨ byteAt s i < low ∨ high < byteAt s i then -1 else byteAt s i - 128
def low3 (b : Int) : Int := if b = 224 then 160 else 128
def high3 (b : Int) : Int := if b = 237 then 159 else 191
def low4 (b : Int) : Int := if b = 240 then 144 else 128
def high4 (b : Int) : Int := if b = 244 then 143 else 191
def three (s : ByteArray) (i : Nat) : Int × Int :=
  if moreOf s (i + 1) (low3 (byteAt s i)) (high3 (byteAt s i)) < 0 ∨ moreOf s (i + 2) 128 191 < 0 then (65533, 1)
  else ((byteAt s i - 224) * 4096 + moreOf s (i + 1) (low3 (byteAt s i)) (high3 (byteAt s i)) * 64 + moreOf s (i + 2) 128 191, 3)
def four (s : ByteArray) (i : Nat) : Int × Int :=
  if moreOf s (i + 1) (low4 (byteAt s i)) (high4 (byteAt s i)) < 0 ∨ moreOf s (i + 2) 128 191 < 0 ∨ moreOf s (i + 3) 128 191 < 0 then (65533, 1)
  else ((byteAt s i - 240) * 262144 + moreOf s (i + 1) (low4 (byteAt s i)) (high4 (byteAt s i)) * 4096 + moreOf s (i + 2) 128 191 * 64 + moreOf s (i + 3) 128 191, 4)
def dec (s : ByteArray) (i : Nat) : Int × Int :=
  if byteAt s i < 128 then (byteAt s i, 1)
  else if 194 ≤ byteAt s i ∧ byteAt s i ≤ 223 then
    if 0 ≤ moreOf s (i + 1) 128 191 then ((byteAt s i - 192) * 64 + moreOf s (i + 1) 128 191, 2) else (65533, 1)
  else if 224 ≤ byteAt s i ∧ byteAt s i ≤ 239 then three s i
  else if 240 ≤ byteAt s i ∧ byteAt s i ≤ 244 then four s i
  else (65533, 1)

theorem npair {a b c d : Nat} (h : a = c) (k : b = d) : (a, b) = (c, d) := by rw [h, k]
theorem pair_ext {a b c d : Int} (h : a = c) (k : b = d) : (a, b) = (c, d) := by rw [h, k]
theorem more_no {s : ByteArray} {i : Nat} {l h : Int} (hh : moreOf s i l h < 0) (hl : 128 ≤ l) : s.size ≤ i ∨ byteAt s i < l ∨ h < byteAt s i := by
  unfold moreOf at hh; split at hh
  · assumption
  · omega
theorem more_yes {s : ByteArray} {i : Nat} {l h : Int} (hh : 0 ≤ moreOf s i l h) : i < s.size ∧ l ≤ byteAt s i ∧ byteAt s i ≤ h ∧ moreOf s i l h = byteAt s i - 128 := by
  unfold moreOf at hh ⊢; split at hh
  · omega
  · rw [if_neg (by assumption)]; omega

/-- The decoder over plain numbers: the four bytes, and which of the places exist. -/
def decN (b0 b1 b2 b3 : Nat) (e1 e2 e3 : Bool) : Nat × Nat :=
  let cont (e : Bool) (b : Nat) : Bool := e && b / 64 == 2
  if b0 < 0x80 then (b0, 1)
  else if b0 / 32 == 6 && cont e1 b1 then
    let c := (b0 % 32) * 64 + b1 % 64
    if c ≥ 0x80 then (c, 2) else (Utf8.runeError, 1)
  else if b0 / 16 == 14 && cont e1 b1 && cont e2 b2 then
    let c := (b0 % 16) * 4096 + (b1 % 64) * 64 + b2 % 64
    if c ≥ 0x800 && Utf8.valid c then (c, 3) else (Utf8.runeError, 1)
  else if b0 / 8 == 30 && cont e1 b1 && cont e2 b2 && cont e3 b3 then
    let c := (b0 % 8) * 262144 + (b1 % 64) * 4096 + (b2 % 64) * 64 + b3 % 64
    if c ≥ 0x10000 && Utf8.valid c then (c, 4) else (Utf8.runeError, 1)
  else (Utf8.runeError, 1)
theorem decode_decN (s : ByteArray) (i : Nat) : Utf8.decode s i = decN (s.get! i).toNat (s.get! (i + 1)).toNat (s.get! (i + 2)).toNat (s.get! (i + 3)).toNat (decide (i + 1 < s.size)) (decide (i + 2 < s.size)) (decide (i + 3 < s.size)) := rfl
set_option maxRecDepth 100000 in
theorem decN_two (b0 b1 b2 b3 : Nat) (e1 e2 e3 : Bool) (h : 128 ≤ b0 ∧ b0 < 224) :
    decN b0 b1 b2 b3 e1 e2 e3 = if 194 ≤ b0 ∧ e1 = true ∧ 128 ≤ b1 ∧ b1 < 192 then ((b0 - 192) * 64 + (b1 - 128), 2) else (65533, 1) := by
  unfold decN
  rw [if_neg (by omega)]
  have h3 : (b0 / 16 == 14) = false := by simp; omega
  have h4 : (b0 / 8 == 30) = false := by simp; omega
  simp only [h3, h4, Bool.false_and, Bool.false_eq_true, if_false, Utf8.runeError]
  cases e1 <;> simp
  · by_cases k : b0 / 32 = 6 ∧ b1 / 64 = 2
    · rw [if_pos k]
      by_cases q : 194 ≤ b0
      · rw [if_pos (by omega), if_pos (by omega)]; apply npair <;> omega
      · rw [if_neg (by omega), if_neg (by omega)]
    · rw [if_neg k, if_neg (by omega)]
theorem valid_nat (c : Nat) : Utf8.valid (c : Int) = decide (c < 55296 ∨ (57344 ≤ c ∧ c ≤ 1114111)) := by
  unfold Utf8.valid
  rw [Bool.eq_iff_iff]
  simp only [Bool.or_eq_true, Bool.and_eq_true, decide_eq_true_eq]
  omega
set_option maxRecDepth 100000 in
theorem decN_three (b0 b1 b2 b3 : Nat) (e1 e2 e3 : Bool) (h : 224 ≤ b0 ∧ b0 < 240) :
    decN b0 b1 b2 b3 e1 e2 e3 = if e1 = true ∧ e2 = true ∧ (b0 = 224 → 160 ≤ b1) ∧ 128 ≤ b1 ∧ (b0 = 237 → b1 ≤ 159) ∧ b1 ≤ 191 ∧ 128 ≤ b2 ∧ b2 < 192 then ((b0 - 224) * 4096 + (b1 - 128) * 64 + (b2 - 128), 3) else (65533, 1) := by
  unfold decN
  rw [if_neg (by omega)]
  have h2 : (b0 / 32 == 6) = false := by simp; omega
  have h4 : (b0 / 8 == 30) = false := by simp; omega
  have h3 : b0 / 16 = 14 := by omega
  simp only [h2, h4, h3, Bool.false_and, Bool.false_eq_true, if_false, Utf8.runeError, valid_nat]
  cases e1 <;> cases e2 <;> simp
  by_cases k : b1 / 64 = 2 ∧ b2 / 64 = 2
  · rw [if_pos k]
    split <;> split <;> first | (exfalso; omega) | (apply npair <;> omega)
  · rw [if_neg k, if_neg (by omega)]
set_option maxRecDepth 100000 in
theorem decN_four (b0 b1 b2 b3 : Nat) (e1 e2 e3 : Bool) (h : 240 ≤ b0 ∧ b0 < 256) :
    decN b0 b1 b2 b3 e1 e2 e3 = if b0 ≤ 244 ∧ e1 = true ∧ e2 = true ∧ e3 = true ∧ (b0 = 240 → 144 ≤ b1) ∧ 128 ≤ b1 ∧ (b0 = 244 → b1 ≤ 143) ∧ b1 ≤ 191 ∧ 128 ≤ b2 ∧ b2 < 192 ∧ 128 ≤ b3 ∧ b3 < 192 then ((b0 - 240) * 262144 + (b1 - 128) * 4096 + (b2 - 128) * 64 + (b3 - 128), 4) else (65533, 1) := by
  unfold decN
  rw [if_neg (by omega)]
  have h2 : (b0 / 32 == 6) = false := by simp; omega
  have h3 : (b0 / 16 == 14) = false := by simp; omega
  simp only [h2, h3, Bool.false_and, Bool.false_eq_true, if_false, Utf8.runeError, valid_nat]
  cases e1 <;> cases e2 <;> cases e3 <;> simp
  by_cases k : b0 / 8 = 30 ∧ b1 / 64 = 2 ∧ b2 / 64 = 2 ∧ b3 / 64 = 2
  · rw [if_pos (by simpa [and_assoc] using k)]
    split <;> split <;> first | (exfalso; omega) | (apply npair <;> omega)
  · rw [if_neg (by simpa [and_assoc] using k), if_neg (by omega)]

set_option maxRecDepth 100000 in
theorem dec_eq (s : ByteArray) (i : Nat) : dec s i = (((Utf8.decode s i).1 : Int), ((Utf8.decode s i).2 : Int)) := by
  rw [decode_decN]
  have e0 := byteAt_get s i
  have e1 := byteAt_get s (i + 1)
  have e2 := byteAt_get s (i + 2)
  have e3 := byteAt_get s (i + 3)
  have u0 : (s.get! i).toNat < 256 := (s.get! i).toNat_lt
  generalize (s.get! i).toNat = b0 at *
  generalize (s.get! (i + 1)).toNat = b1 at *
  generalize (s.get! (i + 2)).toNat = b2 at *
  generalize (s.get! (i + 3)).toNat = b3 at *
  unfold dec
  rw [e0]
  by_cases k1 : b0 < 128
  · rw [if_pos (by omega)]; unfold decN; rw [if_pos (by omega)]; rfl
  rw [if_neg (by omega)]
  by_cases k2 : b0 < 224
  · rw [decN_two _ _ _ _ _ _ _ ⟨by omega, k2⟩, if_neg (c := 224 ≤ (b0 : Int) ∧ _) (by omega), if_neg (c := 240 ≤ (b0 : Int) ∧ _) (by omega)]
    simp only [decide_eq_true_eq]
    by_cases c : 194 ≤ b0 ∧ i + 1 < s.size ∧ 128 ≤ b1 ∧ b1 < 192
    · have m1 : moreOf s (i + 1) 128 191 = b1 - 128 := by unfold moreOf; rw [e1, if_neg (by omega)]
      rw [if_pos c, if_pos (by omega), m1, if_pos (by omega)]
      apply pair_ext <;> simp only <;> omega
    · rw [if_neg c]
      by_cases c0 : 194 ≤ (b0 : Int) ∧ (b0 : Int) ≤ 223
      · have m1 : moreOf s (i + 1) 128 191 = -1 := by unfold moreOf; rw [e1, if_pos (by omega)]
        rw [if_pos c0, m1, if_neg (by omega)]; rfl
      · rw [if_neg c0]; rfl
  by_cases k3 : b0 < 240
  · rw [decN_three _ _ _ _ _ _ _ ⟨by omega, k3⟩, if_neg (by omega), if_pos (by omega)]
    simp only [decide_eq_true_eq]
    unfold three
    rw [e0]
    have hl : (b0 = 224 ∧ low3 b0 = 160) ∨ (b0 ≠ 224 ∧ low3 b0 = 128) := by unfold low3; by_cases q : b0 = 224 <;> simp [q]; omega
    have hh : (b0 = 237 ∧ high3 b0 = 159) ∨ (b0 ≠ 237 ∧ high3 b0 = 191) := by unfold high3; by_cases q : b0 = 237 <;> simp [q]; omega
    by_cases c : i + 1 < s.size ∧ i + 2 < s.size ∧ (b0 = 224 → 160 ≤ b1) ∧ 128 ≤ b1 ∧ (b0 = 237 → b1 ≤ 159) ∧ b1 ≤ 191 ∧ 128 ≤ b2 ∧ b2 < 192
    · have m1 : moreOf s (i + 1) (low3 b0) (high3 b0) = b1 - 128 := by unfold moreOf; rw [e1, if_neg (by omega)]
      have m2 : moreOf s (i + 2) 128 191 = b2 - 128 := by unfold moreOf; rw [e2, if_neg (by omega)]
      rw [if_pos c, m1, m2, if_neg (by omega)]
      apply pair_ext <;> simp only <;> omega
    · rw [if_neg c]
      have hn : moreOf s (i + 1) (low3 b0) (high3 b0) < 0 ∨ moreOf s (i + 2) 128 191 < 0 := by
        by_cases q : i + 1 < s.size ∧ low3 b0 ≤ b1 ∧ b1 ≤ high3 b0
        · right; unfold moreOf; rw [e2, if_pos (by omega)]; omega
        · left; unfold moreOf; rw [e1, if_pos (by omega)]; omega
      rw [if_pos hn]; rfl
  · rw [decN_four _ _ _ _ _ _ _ ⟨by omega, u0⟩, if_neg (by omega), if_neg (by omega)]
    simp only [decide_eq_true_eq]
    by_cases c0 : b0 ≤ 244
    · rw [if_pos (by omega)]
      unfold four
      rw [e0]
      have hl : (b0 = 240 ∧ low4 b0 = 144) ∨ (b0 ≠ 240 ∧ low4 b0 = 128) := by unfold low4; by_cases q : b0 = 240 <;> simp [q]; omega
      have hh : (b0 = 244 ∧ high4 b0 = 143) ∨ (b0 ≠ 244 ∧ high4 b0 = 191) := by unfold high4; by_cases q : b0 = 244 <;> simp [q]; omega
      by_cases c : b0 ≤ 244 ∧ i + 1 < s.size ∧ i + 2 < s.size ∧ i + 3 < s.size ∧ (b0 = 240 → 144 ≤ b1) ∧ 128 ≤ b1 ∧ (b0 = 244 → b1 ≤ 143) ∧ b1 ≤ 191 ∧ 128 ≤ b2 ∧ b2 < 192 ∧ 128 ≤ b3 ∧ b3 < 192
      · have m1 : moreOf s (i + 1) (low4 b0) (high4 b0) = b1 - 128 := by unfold moreOf; rw [e1, if_neg (by omega)]
        have m2 : moreOf s (i + 2) 128 191 = b2 - 128 := by unfold moreOf; rw [e2, if_neg (by omega)]
        have m3 : moreOf s (i + 3) 128 191 = b3 - 128 := by unfold moreOf; rw [e3, if_neg (by omega)]
        rw [if_pos c, m1, m2, m3, if_neg (by omega)]
        apply pair_ext <;> simp only <;> omega
      · rw [if_neg c]
        have hn : moreOf s (i + 1) (low4 b0) (high4 b0) < 0 ∨ moreOf s (i + 2) 128 191 < 0 ∨ moreOf s (i + 3) 128 191 < 0 := by
          by_cases q : i + 1 < s.size ∧ low4 b0 ≤ b1 ∧ b1 ≤ high4 b0
          · right
            by_cases q2 : i + 2 < s.size ∧ 128 ≤ b2 ∧ b2 < 192
            · right; unfold moreOf; rw [e3, if_pos (by omega)]; omega
            · left; unfold moreOf; rw [e2, if_pos (by omega)]; omega
          · left; unfold moreOf; rw [e1, if_pos (by omega)]; omega
        rw [if_pos hn]; rfl
    · rw [if_neg (by omega), if_neg (by omega)]; rfl
end Go.Proofs.Ythbnahagfojfbaa
