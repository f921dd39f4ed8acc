/- Blocks known whole; the division at a brace; wrappers of the library's Cut, CutPrefix, Count. Conditions: lengths. -/
import Derived.Test.YtpfbdgcgpghifaaGreatDoorK03
import Derived.Test.YtpfbdgcgpghifaaGreatDoorK06

set_option linter.all false
namespace Go.Proofs.YtpfbdgcgpghifaaGreatDoor
open Go.RowKit

/-- Block g is just the cells cs of element type t, none frozen. -/
def Blk (w : World) (g : Nat) (t : TypeId) (cs : Array Value) : Prop := w.heap[g]? = some (.cells cs t (0, 0))
theorem Blk.lt {w : World} {g : Nat} {t : TypeId} {cs : Array Value} (h : Blk w g t cs) : g < w.heap.size := by
  rcases Nat.lt_or_ge g w.heap.size with q | q
  · exact q
  · unfold Blk at h; rw [Array.getElem?_eq_none q] at h; cases h
theorem Blk.cell {w : World} {g : Nat} {t : TypeId} {cs : Array Value} (h : Blk w g t cs) (i : Nat) (v : Value) (hi : cs[i]? = some v) : w.cell? ⟨g, i, none⟩ = some v := by
  unfold Blk at h; simp only [World.cell?, h]; simpa using hi
theorem Blk.free {w : World} {g : Nat} {t : TypeId} {cs : Array Value} (h : Blk w g t cs) (i : Nat) : w.frozen? ⟨g, i, none⟩ = false := by
  unfold Blk at h; simp only [World.frozen?, h]; simp
theorem Blk.kept {w w' : World} {g : Nat} {t : TypeId} {cs : Array Value} (h : Blk w g t cs) (k : Kept w w') : Blk w' g t cs := by
  have := h.lt
  unfold Blk at h ⊢; rw [k.block g this]; exact h
theorem Blk.new (w : World) (t : TypeId) (cs : Array Value) : Blk (w.alloc (.cells cs t)) w.heap.size t cs := heap_alloc_new w _
theorem Blk.alloc {w : World} {g : Nat} {t : TypeId} {cs : Array Value} (h : Blk w g t cs) (o : Obj) : Blk (w.alloc o) g t cs := h.kept (kept_alloc w o)
theorem Blk.drewN {w : World} {g : Nat} {t : TypeId} {cs : Array Value} (h : Blk w g t cs) (n : Nat) : Blk (w.drewN n) g t cs := h
theorem Blk.set {w : World} {g : Nat} {t : TypeId} {cs : Array Value} (h : Blk w g t cs) (i : Nat) (v : Value) : Blk (w.setCell ⟨g, i, none⟩ v) g t (cs.setIfInBounds i v) := by
  unfold Blk at h ⊢
  simp only [World.setCell, Array.getElem?_modify, h]
  simp
theorem Blk.other {w : World} {g : Nat} {t : TypeId} {cs : Array Value} (h : Blk w g t cs) (g' i : Nat) (v : Value) (hne : g ≠ g') : Blk (w.setCell ⟨g', i, none⟩ v) g t cs := by
  unfold Blk at h ⊢; rw [Below.heap_setCell _ _ _ _ hne]; exact h
theorem kept_set {a w : World} (h : Kept a w) (g i : Nat) (v : Value) (hg : a.heap.size ≤ g) : Kept a (w.setCell ⟨g, i, none⟩ v) := Below.setCell h hg v
theorem size_setCell (w : World) (a : Addr) (v : Value) : (w.setCell a v).heap.size = w.heap.size := by simp [World.setCell]

/-- How many bytes stand before the first c. -/
def before (c : UInt8) (l : Bs) : Nat := (l.takeWhile (· ≠ c)).length
theorem before_le (c : UInt8) (l : Bs) : before c l ≤ l.length := by unfold before; exact (List.takeWhile_sublist _).length_le
theorem index_before : ∀ (l : Bs) (c : UInt8), (before c l < l.length ∧ Lib.index l [c] = before c l) ∨ (before c l = l.length ∧ Lib.index l [c] = -1)
  | [], c => .inr ⟨rfl, rfl⟩
  | b :: l, c => by
    unfold Lib.index before
    by_cases hb : c = b
    · subst hb
      left
      refine ⟨by simp, ?_⟩
      have e : [c].isPrefixOf (c :: l) = true := by simp [List.isPrefixOf]
      rw [e]; simp
    · have e : [c].isPrefixOf (b :: l) = false := by simp [List.isPrefixOf, hb]
      have e2 : ((b :: l).takeWhile (· ≠ c)).length = before c l + 1 := by
        rw [List.takeWhile_cons, if_pos (by simpa using fun q => hb q.symm)]; rfl
      rw [e, e2]
      simp only [Bool.false_eq_true, if_false, List.length_cons]
      rcases index_before l c with ⟨h1, h2⟩ | ⟨h1, h2⟩
      · left
        have hne : ¬ ((before c l : Int) == -1) = true := by simp only [beq_iff_eq]; omega
        exact ⟨by omega, by rw [h2, if_neg hne]; omega⟩
      · right; exact ⟨by omega, by rw [h2]; rfl⟩
theorem before_none (c : UInt8) (l : Bs) : ∀ (i : Nat) (_ : i < before c l) (hi : i < l.length), l[i] ≠ c := by
  induction l with
  | nil => intro i _ hi; simp at hi
  | cons b l ih =>
    intro i h hi
    by_cases hb : b = c
    · subst hb
      have e : before b (b :: l) = 0 := by unfold before; simp
      rw [e] at h; omega
    · have e : before c (b :: l) = before c l + 1 := by unfold before; rw [List.takeWhile_cons, if_pos (by simpa using hb)]; rfl
      cases i with
      | zero => exact hb
      | succ i => exact ih i (by rw [e] at h; omega) (by simpa using hi)
theorem before_here (c : UInt8) (l : Bs) (h : before c l < l.length) : l[before c l] = c := by
  induction l with
  | nil => simp at h
  | cons b l ih =>
    by_cases hb : b = c
    · subst hb
      have e : before b (b :: l) = 0 := by unfold before; simp
      simp only [e]; rfl
    · have e : before c (b :: l) = before c l + 1 := by unfold before; rw [List.takeWhile_cons, if_pos (by simpa using hb)]; rfl
      simp only [e]
      exact ih (by rw [e] at h; simpa using h)

theorem cut_any (l : Bs) (c : UInt8) (w : World) (hg : Gnd w) (hl : l.length ≤ 1000000000) :
    Calls Tryz.prog 65 #[.string (bs l), .string (bs [c])] w fun e w' =>
      e = .returned (.tuple (if before c l < l.length then #[.string (bs (l.take (before c l))), .string (bs (l.drop (before c l + 1))), .bool true] else #[.string (bs l), .string (bs []), .bool false])) ∧ ∃ n, w' = w.drewN n := by
  obtain ⟨m, hm⟩ := hg
  refine (Tryz.strings_Cut (bs l) (bs [c]) m w (by simp; omega) hm).mono ?_
  rintro e w' ⟨rfl, hw⟩
  refine ⟨?_, hw⟩
  simp only [bs_data, mk_bs]
  unfold Lib.cut
  rcases index_before l c with ⟨h1, h2⟩ | ⟨h1, h2⟩
  · rw [if_pos (by rw [h2]; omega), if_pos h1, h2]; simp
  · rw [if_neg (by rw [h2]; omega), if_neg (by omega)]

theorem cutp_no (l : Bs) (c : UInt8) (w : World) (h : ∀ r, l ≠ c :: r) :
    Calls Tryz.prog 62 #[.string (bs l), .string (bs [c])] w fun e w' => e = .returned (.tuple #[.string (bs l), .bool false]) ∧ w = w' := by
  refine (Tryz.strings_CutPrefix (bs l) (bs [c]) w).mono ?_
  rintro e w' ⟨rfl, rfl⟩
  refine ⟨?_, rfl⟩
  simp only [bs_data, mk_bs]
  have e : Lib.hasPrefix l [c] = false := by
    cases l with
    | nil => rfl
    | cons b r =>
      have : b ≠ c := fun q => h r (by rw [q])
      simp [Lib.hasPrefix, List.isPrefixOf]
      exact fun q => this q.symm
  have e2 : Lib.trimPrefix l [c] = l := by unfold Lib.trimPrefix; rw [e]; rfl
  rw [e, e2]
theorem cutp_yes (r : Bs) (c : UInt8) (w : World) :
    Calls Tryz.prog 62 #[.string (bs (c :: r)), .string (bs [c])] w fun e w' => e = .returned (.tuple #[.string (bs r), .bool true]) ∧ w = w' := by
  refine (Tryz.strings_CutPrefix (bs (c :: r)) (bs [c]) w).mono ?_
  rintro e w' ⟨rfl, rfl⟩
  refine ⟨?_, rfl⟩
  simp only [bs_data, mk_bs]
  have e : Lib.hasPrefix (c :: r) [c] = true := by simp [Lib.hasPrefix, List.isPrefixOf]
  have e2 : Lib.trimPrefix (c :: r) [c] = r := by unfold Lib.trimPrefix; rw [e]; rfl
  rw [e, e2]
theorem count_any (l : Bs) (c : UInt8) (w : World) :
    Calls Tryz.prog 198 #[.string (bs l), .string (bs [c])] w fun e w' => e = .returned (.int .i64 (l.count c : Nat)) ∧ w = w' := by
  refine (Tryz.strings_Count_one (bs l) c w).mono ?_
  rintro e w' ⟨rfl, rfl⟩
  exact ⟨rfl, rfl⟩
end Go.Proofs.YtpfbdgcgpghifaaGreatDoor

/- Maps in memory whose keys are whole numbers: look-up, a key that is new, a key that is put again. No condition. -/
set_option linter.all false
namespace Go.Proofs.YtpfbdgcgpghifaaGreatDoor
open Go.RowKit

def entV (e : Int × Value) (i : Nat) : MapEntry := { key := .int .i64 e.1, val := e.2, born := i }
def entsV (es : List (Int × Value)) : Array MapEntry := (es.mapIdx fun i e => entV e i).toArray
/-- Block m is the map of the entries es. -/
def MapV (w : World) (m : Nat) (es : List (Int × Value)) : Prop := w.heap[m]? = some (.map (entsV es) es.length)
/-- The world with other entries in block m. -/
def putV (w : World) (m : Nat) (es : List (Int × Value)) : World := { w with heap := w.heap.setIfInBounds m (.map (entsV es) es.length) }
def getV (es : List (Int × Value)) (k : Int) : Option Value := (es.find? fun e => e.1 == k).map (·.2)
theorem MapV.lt {w : World} {m : Nat} {es : List (Int × Value)} (h : MapV w m es) : m < w.heap.size := by
  rcases Nat.lt_or_ge m w.heap.size with q | q
  · exact q
  · unfold MapV at h; rw [Array.getElem?_eq_none q] at h; cases h
theorem MapV.only {S : Nat → Prop} {w w' : World} {m : Nat} {es : List (Int × Value)} (h : MapV w m es) (k : Only S w w') (hs : ¬ S m) : MapV w' m es := by
  unfold MapV at h ⊢; rw [k.block m (MapV.lt h) hs]; exact h
theorem MapV.kept {w w' : World} {m : Nat} {es : List (Int × Value)} (h : MapV w m es) (k : Kept w w') : MapV w' m es := h.only (Only.of_kept (S := fun _ => False) k) (fun q => q)
theorem MapV.made (w : World) : MapV (w.alloc (.map #[] 0)) w.heap.size [] := heap_alloc_new w _
theorem putV_map (w : World) (m : Nat) (es : List (Int × Value)) (hm : m < w.heap.size) : MapV (putV w m es) m es := by
  unfold MapV putV; simp [hm]
theorem putV_only (w : World) (m : Nat) (es : List (Int × Value)) : Only (fun i => i = m) w (putV w m es) :=
  ⟨rfl, rfl, rfl, by simp [putV], fun k hk hs => by simp [putV, Array.getElem?_setIfInBounds, Ne.symm hs]⟩
theorem putV_size (w : World) (m : Nat) (es : List (Int × Value)) : (putV w m es).heap.size = w.heap.size := by simp [putV]
theorem entsV_snoc (es : List (Int × Value)) (e : Int × Value) : entsV (es ++ [e]) = (entsV es).push (entV e es.length) := by
  unfold entsV; rw [List.mapIdx_append]; simp
theorem entsV_list (es : List (Int × Value)) : (entsV es).toList = es.mapIdx fun i e => entV e (i + 0) := by simp [entsV]
theorem getV_cons (e : Int × Value) (es : List (Int × Value)) (k : Int) : getV (e :: es) k = if e.1 = k then some e.2 else getV es k := by
  unfold getV
  rw [List.find?_cons]
  by_cases h : e.1 = k
  · rw [if_pos h]; simp [h]
  · rw [if_neg h]
    have : (e.1 == k) = false := by simpa using h
    rw [this]
theorem findV {kd : IntKind} (k : Int) : ∀ (l : List (Int × Value)) (i j : Nat),
    (getV l k = none ∧ Instr.findNow (.int kd) (.int .i64 k) (l.mapIdx fun i' e => entV e (i' + i)) j = some none) ∨
    (∃ (n : Nat) (v : Value), getV l k = some v ∧ l[n]? = some (k, v) ∧ Instr.findNow (.int kd) (.int .i64 k) (l.mapIdx fun i' e => entV e (i' + i)) j = some (some (n + j, v)))
  | [], _, _ => .inl ⟨rfl, rfl⟩
  | e :: l, i, j => by
    rw [List.mapIdx_cons, getV_cons]
    unfold Instr.findNow
    by_cases h : e.1 = k
    · right
      refine ⟨0, e.2, by rw [if_pos h], by rw [← h]; rfl, ?_⟩
      simp [entV, Instr.sameNow, h]
    · have hx : (k == e.1) = false := by rw [beq_eq_false_iff_ne]; exact fun q => h q.symm
      have hm : (l.mapIdx fun i' x => entV x (i' + 1 + i)) = l.mapIdx fun i' x => entV x (i' + (i + 1)) := by
        congr 1; funext a b; congr 1; omega
      rw [if_neg h]
      simp only [entV, Instr.sameNow, hx, if_true] at hm ⊢
      rcases findV (kd := kd) k l (i + 1) (j + 1) with ⟨g1, g2⟩ | ⟨n, v, g1, g2, g3⟩
      · left
        simp only [entV] at g2
        rw [hm]
        exact ⟨g1, g2⟩
      · right
        simp only [entV] at g3
        rw [hm]
        exact ⟨n + 1, v, g1, by simpa using g2, by rw [g3]; congr 3; omega⟩
section
variable {P : Program} {tm ti te : TypeId}
theorem check_int (hi : P.underlying ti = some (.int .i64)) (e : Bool) (k : Int) (w : World) : (Instr.checkKey e 10000 ti (.int .i64 k)).run P w = .ok () w := by
  unfold Instr.checkKey
  simp only [Sem.run_bind, run_underlying hi, Result.andThen]
  rfl
theorem runV (hi : P.underlying ti = some (.int .i64)) (w : World) (es : List (Int × Value)) (k : Int) :
    (getV es k = none ∧ (Instr.findKey ti (.int .i64 k) (entsV es).toList).run P w = .ok none w) ∨
    (∃ n v, getV es k = some v ∧ es[n]? = some (k, v) ∧ (Instr.findKey ti (.int .i64 k) (entsV es).toList).run P w = .ok (some (n, v)) w) := by
  rcases findV (kd := .i64) k es 0 0 with ⟨g1, g2⟩ | ⟨n, v, g1, g2, g3⟩
  · left
    refine ⟨g1, ?_⟩
    unfold Instr.findKey
    simp only [Sem.run_bind, run_underlying hi, Result.andThen, entsV_list, g2]
    simp [Sem.run_pure]
  · right
    refine ⟨n, v, g1, g2, ?_⟩
    unfold Instr.findKey
    simp only [Sem.run_bind, run_underlying hi, Result.andThen, entsV_list, g3]
    simp [Sem.run_pure]
/-- A look-up; z is what the map gives for a key that it has not. -/
theorem lookV (hm : P.underlying tm = some (.map ti te)) (hi : P.underlying ti = some (.int .i64)) (w : World) (m : Nat) (es : List (Int × Value)) (k : Int) (z : Value) (hz : (zeroValue te).run P w = .ok z w) (h : MapV w m es) :
    (Instr.lookup tm (.map (some m)) (.int .i64 k) false).run P w = .ok ((getV es k).getD z) w := by
  unfold MapV at h
  unfold Instr.lookup
  simp only [Sem.run_bind, run_underlying hm, Result.andThen]
  rcases runV hi w es k with ⟨g1, g2⟩ | ⟨n, v, g1, _, g3⟩
  · simp only [getObj, Sem.run_bind, Sem.run, h, Result.andThen, Sem.run_pure, check_int hi, g2, g1, hz]
    simp [Sem.run_pure]
  · simp only [getObj, Sem.run_bind, Sem.run, h, Result.andThen, Sem.run_pure, check_int hi, g3, g1]
    simp [Sem.run_pure]
theorem lookV_ok (hm : P.underlying tm = some (.map ti te)) (hi : P.underlying ti = some (.int .i64)) (w : World) (m : Nat) (es : List (Int × Value)) (k : Int) (z : Value) (hz : (zeroValue te).run P w = .ok z w) (h : MapV w m es) :
    (Instr.lookup tm (.map (some m)) (.int .i64 k) true).run P w = .ok (.tuple #[(getV es k).getD z, .bool (getV es k).isSome]) w := by
  unfold MapV at h
  unfold Instr.lookup
  simp only [Sem.run_bind, run_underlying hm, Result.andThen]
  rcases runV hi w es k with ⟨g1, g2⟩ | ⟨n, v, g1, _, g3⟩
  · simp only [getObj, Sem.run_bind, Sem.run, h, Result.andThen, Sem.run_pure, check_int hi, g2, g1, hz]
    simp [Sem.run_pure]
  · simp only [getObj, Sem.run_bind, Sem.run, h, Result.andThen, Sem.run_pure, check_int hi, g3, g1]
    simp [Sem.run_pure]
theorem insV (hm : P.underlying tm = some (.map ti te)) (hi : P.underlying ti = some (.int .i64)) (w : World) (m : Nat) (es : List (Int × Value)) (k : Int) (v : Value) (h : MapV w m es) (hk : getV es k = none) :
    (Instr.mapUpdate tm (.map (some m)) (.int .i64 k) v).run P w = .ok () (putV w m (es ++ [(k, v)])) := by
  unfold MapV at h
  unfold Instr.mapUpdate
  simp only [Sem.run_bind, run_underlying hm, Result.andThen]
  rcases runV hi w es k with ⟨g1, g2⟩ | ⟨n, v', g1, _, _⟩
  · simp only [getObj, Sem.run_bind, Sem.run, h, Result.andThen, Sem.run_pure, check_int hi, g2, setObj]
    refine congrArg (Result.ok ()) ?_
    unfold putV
    rw [entsV_snoc]
    simp [entV]
  · rw [hk] at g1; cases g1
theorem same_int (k : Int) (w : World) : (Instr.keyThatStays (.int .i64 k) (.int .i64 k)).run P w = .ok (.int .i64 k) w := by
  unfold Instr.keyThatStays
  have e : Instr.sameBits 10000 (.int .i64 k) (.int .i64 k) = true := by
    unfold Instr.sameBits; simp
  rw [e]; rfl
theorem entsV_same (es : List (Int × Value)) (n : Nat) (k : Int) (v : Value) (h : es[n]? = some (k, v)) : ((entsV es).modify n fun e => { e with key := .int .i64 k, val := v }) = entsV es := by
  apply Array.ext_getElem?
  intro i
  rw [Array.getElem?_modify]
  by_cases q : n = i
  · subst q
    rw [if_pos rfl]
    unfold entsV
    simp [h, entV]
  · rw [if_neg q]
theorem entsV_key (es : List (Int × Value)) (n : Nat) (k : Int) (v : Value) (h : es[n]? = some (k, v)) : (entsV es)[n]? = some (entV (k, v) n) := by
  unfold entsV
  simp [h]
/-- A key is put again with what it had. -/
theorem againV (hm : P.underlying tm = some (.map ti te)) (hi : P.underlying ti = some (.int .i64)) (w : World) (m : Nat) (es : List (Int × Value)) (k : Int) (v : Value) (h : MapV w m es) (hk : getV es k = some v) :
    (Instr.mapUpdate tm (.map (some m)) (.int .i64 k) v).run P w = .ok () (putV w m es) := by
  unfold MapV at h
  unfold Instr.mapUpdate
  simp only [Sem.run_bind, run_underlying hm, Result.andThen]
  rcases runV hi w es k with ⟨g1, _⟩ | ⟨n, v', g1, g2, g3⟩
  · rw [hk] at g1; cases g1
  · rw [hk] at g1
    cases g1
    have e1 := entsV_key es n k v g2
    simp only [getObj, Sem.run_bind, Sem.run, h, Result.andThen, Sem.run_pure, check_int hi, g3, setObj, e1, Option.map_some, Option.getD_some, entV, same_int]
    refine congrArg (Result.ok ()) ?_
    unfold putV
    have e2 := entsV_same es n k v g2
    first | rw [e2] | (trace_state; rfl)
end
end Go.Proofs.YtpfbdgcgpghifaaGreatDoor
