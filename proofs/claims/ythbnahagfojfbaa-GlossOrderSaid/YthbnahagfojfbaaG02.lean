/- Plain law: a text divided at a byte, cleaned of spaces; what strings.Split hands back is that division. No condition. -/
import Derived.Test.YthbnahagfojfbaaG01
import Derived.Test.YthbnahagfojfbaaShelf
import Derived.Lib.Split
import Derived.Lib.Join
import Derived.Lib.IndexMore
import Derived.Lib.IndexAny
import Derived.Lib.Bytealg
import Derived.Shelf.Strings.Split
import Derived.Lib.Strings
import Derived.Lib.SmallJoins

set_option linter.all false
namespace Go.Proofs.Ythbnahagfojfbaa

abbrev Bs := List UInt8
theorem snoc_ind {α : Type} {P : List α → Prop} (h0 : P []) (h1 : ∀ l b, P l → P (l ++ [b])) (l : List α) : P l := by
  have : ∀ r : List α, P r.reverse := by
    intro r
    induction r with
    | nil => exact h0
    | cons a r ih => rw [List.reverse_cons]; exact h1 _ _ ih
  have := this l.reverse
  rwa [List.reverse_reverse] at this
def stepC (c : UInt8) (st : List Bs × Bs) (b : UInt8) : List Bs × Bs := if b = c then (st.1 ++ [st.2], []) else (st.1, st.2 ++ [b])
def runC (c : UInt8) (l : Bs) : List Bs × Bs := l.foldl (stepC c) ([], [])
def splitC (c : UInt8) (l : Bs) : List Bs := (runC c l).1 ++ [(runC c l).2]

theorem runC_snoc (c : UInt8) (l : Bs) (b : UInt8) : runC c (l ++ [b]) = stepC c (runC c l) b := by simp [runC]
theorem fold_none (c : UInt8) : ∀ (l : Bs) (j : List Bs) (p : Bs), c ∉ l → l.foldl (stepC c) (j, p) = (j, p ++ l)
  | [], j, p, _ => by simp
  | b :: l, j, p, h => by
    have hb : b ≠ c := fun e => h (by simp [e])
    have hl : c ∉ l := fun e => h (by simp [e])
    rw [List.foldl_cons, show stepC c (j, p) b = (j, p ++ [b]) from by simp [stepC, hb], fold_none c l j (p ++ [b]) hl]
    simp
theorem fold_from (c : UInt8) : ∀ (l : Bs) (j : List Bs) (p : Bs), l.foldl (stepC c) (j, p) = (j ++ (l.foldl (stepC c) ([], p)).1, (l.foldl (stepC c) ([], p)).2)
  | [], j, p => by simp
  | b :: l, j, p => by
    by_cases hb : b = c
    · rw [List.foldl_cons, List.foldl_cons, show stepC c (j, p) b = (j ++ [p], []) from by simp [stepC, hb], show stepC c ([], p) b = ([p], []) from by simp [stepC, hb],
        fold_from c l (j ++ [p]) [], fold_from c l [p] []]
      simp
    · rw [List.foldl_cons, List.foldl_cons, show stepC c (j, p) b = (j, p ++ [b]) from by simp [stepC, hb], show stepC c ([], p) b = ([], p ++ [b]) from by simp [stepC, hb],
        fold_from c l j (p ++ [b])]
theorem splitC_none (c : UInt8) (l : Bs) (h : c ∉ l) : splitC c l = [l] := by
  unfold splitC runC; rw [fold_none c l [] [] h]; simp
theorem splitC_at (c : UInt8) (a r : Bs) (h : c ∉ a) : splitC c (a ++ c :: r) = a :: splitC c r := by
  unfold splitC runC
  rw [List.foldl_append, fold_none c a [] [] h, List.foldl_cons, show stepC c ([], [] ++ a) c = ([a], []) from by simp [stepC], fold_from c r [a] []]
  simp

/-- The first place of a byte, as the library says it. -/
theorem index_one : ∀ (l : Bs) (c : UInt8), (Lib.index l [c] = -1 ∧ c ∉ l) ∨ ∃ i : Nat, Lib.index l [c] = i ∧ i < l.length ∧ c ∉ l.take i ∧ l = l.take i ++ c :: l.drop (i + 1)
  | [], c => .inl ⟨rfl, by simp⟩
  | b :: l, c => by
    unfold Lib.index
    by_cases hb : c = b
    · subst hb
      right
      exact ⟨0, by simp, by simp, by simp, by simp⟩
    · have e : [c].isPrefixOf (b :: l) = false := by simp [List.isPrefixOf, hb]
      rw [e]
      simp only [Bool.false_eq_true, if_false]
      rcases index_one l c with ⟨h1, h2⟩ | ⟨i, h1, h2, h3, h4⟩
      · left; exact ⟨by simp [h1], by simp [hb, h2]⟩
      · right
        have hne : ¬ ((i : Int) == -1) = true := by simp only [beq_iff_eq]; omega
        refine ⟨i + 1, by rw [h1, if_neg hne]; omega, by simp; omega, by simp [hb, h3], ?_⟩
        simp only [List.take_succ_cons, List.drop_succ_cons, List.cons_append]
        rw [← h4]
theorem splitK_one (c : UInt8) : ∀ (k : Nat) (l : Bs), l.count c ≤ k → Lib.splitK [c] 0 k l = splitC c l
  | 0, l, h => by
    have h0 : c ∉ l := by intro q; have := List.count_pos_iff.2 q; omega
    rw [splitC_none c l h0]; rfl
  | k + 1, l, h => by
    unfold Lib.splitK
    rcases index_one l c with ⟨h1, h2⟩ | ⟨i, h1, h2, h3, h4⟩
    · rw [h1, splitC_none c l h2]; rfl
    · have hne : ¬ ((i : Int) == -1) = true := by simp only [beq_iff_eq]; omega
      rw [h1, if_neg hne]
      have hc : l.count c = 1 + (l.drop (i + 1)).count c := by
        conv => lhs; rw [h4]
        rw [List.count_append, List.count_cons, List.count_eq_zero.2 h3]; simp; omega
      have := splitK_one c k (l.drop (i + 1)) (by omega)
      simp only [Int.toNat_natCast, Nat.add_zero, List.length_cons, List.length_nil, Nat.zero_add]
      rw [this]
      conv => rhs; rw [h4]
      rw [splitC_at c _ _ h3]
theorem splitC_length (c : UInt8) (l : Bs) : (splitC c l).length = l.count c + 1 := by
  unfold splitC
  have : ∀ (l : Bs) (j : List Bs) (p : Bs), (l.foldl (stepC c) (j, p)).1.length = j.length + l.count c := by
    intro l
    induction l with
    | nil => simp
    | cons b l ih =>
      intro j p
      rw [List.foldl_cons, List.count_cons]
      by_cases hb : b = c
      · rw [show stepC c (j, p) b = (j ++ [p], []) from by simp [stepC, hb], ih]; simp [hb]; omega
      · rw [show stepC c (j, p) b = (j, p ++ [b]) from by simp [stepC, hb], ih]; simp [hb]
  rw [List.length_append]
  have h := this l [] []
  simp only [List.length_nil, Nat.zero_add, List.length_cons] at h ⊢
  unfold runC
  omega

theorem countFrom_one (c : UInt8) : ∀ (f : Nat) (l : Bs), l.length < f → Lib.countFrom [c] f l = l.count c
  | 0, l, h => by omega
  | f + 1, l, h => by
    unfold Lib.countFrom
    rcases index_one l c with ⟨h1, h2⟩ | ⟨i, h1, h2, h3, h4⟩
    · rw [h1, List.count_eq_zero.2 h2]; rfl
    · have hne : ¬ ((i : Int) == -1) = true := by simp only [beq_iff_eq]; omega
      rw [h1, if_neg hne]
      have hc : l.count c = 1 + (l.drop (i + 1)).count c := by
        conv => lhs; rw [h4]
        rw [List.count_append, List.count_cons, List.count_eq_zero.2 h3]; simp; omega
      have := countFrom_one c f (l.drop (i + 1)) (by simp; omega)
      simp only [Int.toNat_natCast, List.length_cons, List.length_nil, Nat.zero_add]
      rw [this, hc]
theorem count_one (l : Bs) (c : UInt8) : Lib.count l [c] = l.count c := countFrom_one c _ _ (by omega)
theorem splitB_one (s : ByteArray) (c : UInt8) : (Lib.splitB ⟨#[c]⟩ 0 (Lib.countB s ⟨#[c]⟩) s).map (·.data.toList) = splitC c s.data.toList := by
  rw [Lib.splitB_data]
  refine splitK_one c _ _ ?_
  show _ ≤ Lib.count s.data.toList [c]
  rw [count_one]; exact Nat.le_refl _
theorem countB_one (s : ByteArray) (c : UInt8) : Lib.countB s ⟨#[c]⟩ = s.data.toList.count c := count_one _ _

/-- The words of a text: its parts between spaces that are not empty; the text, cleaned: its words with one space between them. -/
def wordsOf (l : Bs) : List Bs := (splitC 32 l).filter (fun x => !x.isEmpty)
def cleanL (l : Bs) : Bs := Lib.join (wordsOf l) [32]

/-- What the reference's loop has gathered behind a beginning of the text. -/
def keepStep (out : Bs) (b : UInt8) : Bs := if b = 32 ∧ (out = [] ∨ out.getLast? = some 32) then out else out ++ [b]
def keepRun (l : Bs) : Bs := l.foldl keepStep []
def keepEnd (out : Bs) : Bs := if out.getLast? = some 32 then out.dropLast else out
theorem keepRun_snoc (l : Bs) (b : UInt8) : keepRun (l ++ [b]) = keepStep (keepRun l) b := by simp [keepRun]

theorem join_snoc (xs : List Bs) (x : Bs) : Lib.join (xs ++ [x]) [32] = (if xs = [] then [] else Lib.join xs [32] ++ [32]) ++ x := by
  cases xs with
  | nil => simp [Lib.join_one]
  | cons a r =>
    rw [List.cons_append, Lib.join_cons, Lib.join_cons]
    simp [Lib.joinTail]
theorem runC_last (c : UInt8) (l : Bs) : c ∉ (runC c l).2 := by
  refine snoc_ind (P := fun l => c ∉ (runC c l).2) ?_ ?_ l
  · simp [runC]
  · intro l b ih
    rw [runC_snoc]
    unfold stepC
    split
    · simp
    · rename_i h; simp only [List.mem_append, List.mem_singleton, not_or]; exact ⟨ih, fun e => h e.symm⟩
def preOf (xs : List Bs) : Bs := if xs.filter (fun x => !x.isEmpty) = [] then [] else Lib.join (xs.filter (fun x => !x.isEmpty)) [32] ++ [32]
theorem preOf_snoc (xs : List Bs) (x : Bs) : preOf (xs ++ [x]) = if x = [] then preOf xs else preOf xs ++ x ++ [32] := by
  unfold preOf
  rw [List.filter_append]
  by_cases h : x = []
  · subst h; simp
  · have e : [x].filter (fun x => !x.isEmpty) = [x] := by simp [h]
    rw [e, if_neg h, if_neg (by simp), join_snoc]
theorem preOf_last (xs : List Bs) : preOf xs = [] ∨ (preOf xs).getLast? = some 32 := by
  unfold preOf; split
  · left; rfl
  · right; simp
theorem keepRun_eq (l : Bs) : keepRun l = preOf (runC 32 l).1 ++ (runC 32 l).2 := by
  refine snoc_ind (P := fun l => keepRun l = preOf (runC 32 l).1 ++ (runC 32 l).2) ?_ ?_ l
  · simp [keepRun, runC, preOf]
  · intro l b ih
    rw [keepRun_snoc, runC_snoc, ih]
    have hl := runC_last 32 l
    have e2 : ∀ st : List Bs × Bs, stepC 32 st b = if b = 32 then (st.1 ++ [st.2], []) else (st.1, st.2 ++ [b]) := fun _ => rfl
    rw [e2]
    generalize (runC 32 l).1 = i at *
    generalize (runC 32 l).2 = p at *
    by_cases hb : b = 32
    · subst hb
      rw [if_pos rfl]
      simp only [List.append_nil]
      rw [preOf_snoc]
      unfold keepStep
      by_cases hp : p = []
      · subst hp
        rw [if_pos rfl, List.append_nil, if_pos ⟨rfl, preOf_last i⟩]
      · rw [if_neg hp, if_neg]
        rintro ⟨_, h | h⟩
        · simp [hp] at h
        · have : p.getLast? = some 32 := by
            rw [List.getLast?_append] at h
            cases hpl : p.getLast? with
            | none => exact absurd (List.getLast?_eq_none_iff.1 hpl) hp
            | some x => rw [hpl] at h; simpa using h
          exact hl (List.mem_of_getLast? this)
    · rw [if_neg hb]
      unfold keepStep
      rw [if_neg (by rintro ⟨h, _⟩; exact hb h)]
      simp
theorem keepEnd_eq (l : Bs) : keepEnd (keepRun l) = cleanL l := by
  rw [keepRun_eq]
  unfold cleanL wordsOf splitC keepEnd
  have hl := runC_last 32 l
  generalize (runC 32 l).1 = i at *
  generalize (runC 32 l).2 = p at *
  rw [List.filter_append]
  by_cases hp : p = []
  · subst hp
    simp only [List.append_nil, List.isEmpty_nil, Bool.not_true, Bool.false_eq_true, not_false_eq_true, List.filter_cons_of_neg, List.filter_nil]
    unfold preOf
    split
    · rename_i h; rw [h]; rfl
    · simp
  · have e : [p].filter (fun x => !x.isEmpty) = [p] := by simp [hp]
    rw [e, join_snoc, if_neg]
    · rfl
    · intro h
      have : p.getLast? = some 32 := by
        rw [List.getLast?_append] at h
        cases hpl : p.getLast? with
        | none => exact absurd (List.getLast?_eq_none_iff.1 hpl) hp
        | some x => rw [hpl] at h; simpa using h
      exact hl (List.mem_of_getLast? this)

theorem containsAny_eq (cs : Bs) : ∀ l : Bs, Lib.containsAny l cs = l.any (fun b => cs.contains b)
  | [] => rfl
  | b :: l => by
    have ih := containsAny_eq cs l
    unfold Lib.containsAny at ih ⊢
    unfold Lib.indexAny
    have hg := Lib.indexAny_ge cs l
    rw [List.any_cons]
    by_cases h : cs.contains b = true
    · rw [h]; simp
    · have h' : cs.contains b = false := by simpa using h
      rw [h', ← ih]
      by_cases q : Lib.indexAny l cs = -1
      · rw [q]; rfl
      · have q' : (Lib.indexAny l cs == -1) = false := by simpa using q
        simp only [q', Bool.false_or, Bool.false_eq_true, if_false, decide_eq_decide]
        omega
theorem indexByte_contains (c : UInt8) : ∀ l : Bs, decide (0 ≤ Lib.indexByte l c) = l.contains c
  | [] => rfl
  | b :: l => by
    have ih := indexByte_contains c l
    unfold Lib.indexByte
    have hg := Lib.indexByte_ge l c
    rw [List.contains_cons, ← ih]
    by_cases h : b = c
    · subst h; simp
    · have h1 : (b == c) = false := by simpa using h
      have h2 : (c == b) = false := by simpa using fun e => h e.symm
      rw [h1, h2]
      by_cases q : Lib.indexByte l c = -1
      · rw [q]; rfl
      · have q' : (Lib.indexByte l c == -1) = false := by simpa using q
        simp only [q', Bool.false_or, Bool.false_eq_true, if_false, decide_eq_decide]
        omega
end Go.Proofs.Ythbnahagfojfbaa

/- Strings by their lists of bytes: one spelling for the walks. No condition. -/
set_option linter.all false
namespace Go.Proofs.Ythbnahagfojfbaa
open Go.RowKit

/-- The string of a list of bytes. -/
def bs (l : Bs) : ByteArray := ⟨l.toArray⟩
@[simp] theorem mk_bs (l : Bs) : ByteArray.mk l.toArray = bs l := rfl
@[simp] theorem empty_bs : ByteArray.empty = bs [] := rfl
@[simp] theorem bs_data (l : Bs) : (bs l).data.toList = l := rfl
@[simp] theorem bs_size (l : Bs) : (bs l).size = l.length := rfl
@[simp] theorem bs_toList (l : Bs) : (bs l).toList = l := ByteArray.toList_eq _
theorem bs_of (s : ByteArray) : ∃ l, s = bs l := ⟨s.data.toList, rfl⟩
theorem bs_ext {s : ByteArray} {l : Bs} (h : s.data.toList = l) : s = bs l := by subst h; rfl
@[simp] theorem bs_append (a b : Bs) : bs a ++ bs b = bs (a ++ b) := bs_ext (by rw [Joins.data_append]; rfl)
@[simp] theorem bs_extract (l : Bs) (i j : Nat) : (bs l).extract i j = bs ((l.drop i).take (j - i)) := bs_ext (by rw [Lib.extract_data]; rfl)
@[simp] theorem bs_inj (a b : Bs) : bs a = bs b ↔ a = b := ⟨fun h => by have := congrArg (fun s : ByteArray => s.data.toList) h; simpa using this, fun h => by rw [h]⟩
theorem ret_bs {a b : Bs} (h : a = b) : Ending.returned (.string (bs a)) = .returned (.string (bs b)) := by rw [h]

/-- The byte of a list at a place, as a number. -/
def at8 (l : Bs) (i : Nat) : Int := ((l.getD i 0).toNat : Int)
theorem byteAt_bs (l : Bs) (i : Nat) : byteAt (bs l) i = at8 l i := rfl
theorem at8_lo (l : Bs) (i : Nat) : 0 ≤ at8 l i := by unfold at8; omega
theorem at8_hi (l : Bs) (i : Nat) : at8 l i < 256 := byteAt_hi (bs l) i
theorem at8_get (l : Bs) (i : Nat) (h : i < l.length) : at8 l i = ((l[i]'h).toNat : Int) := by unfold at8; rw [List.getD_eq_getElem?_getD, List.getElem?_eq_getElem h]; rfl
theorem run_ix {P : Program} {t : TypeId} (h : P.underlying t = some .string) (l : Bs) (i : Nat) (hi : i < l.length) (j : Int) (hj : j = i) (w : World) :
    (Instr.index t (.string (bs l)) (.int .i64 j)).run P w = .ok (.int .u8 (at8 l i)) w := run_at h (bs l) i hi j hj w
theorem run_sub {P : Program} {t : TypeId} (h : P.underlying t = some .string) (l : Bs) (i j : Nat) (hi : i ≤ j) (hj : j ≤ l.length) (a b : Int) (ha : a = i) (hb : b = j) (x : Bs) (hx : (l.drop i).take (j - i) = x) (w : World) :
    (Instr.slice t (.string (bs l)) (some (.int .i64 a)) (some (.int .i64 b)) none).run P w = .ok (.string (bs x)) w := by
  subst ha hb hx
  rw [run_slice_string w t (bs l) .i64 .i64 i j h (by omega) (by omega) (by simp; omega)]
  simp
theorem run_from {P : Program} {t : TypeId} (h : P.underlying t = some .string) (l : Bs) (i : Nat) (hi : i ≤ l.length) (a : Int) (ha : a = i) (x : Bs) (hx : l.drop i = x) (w : World) :
    (Instr.slice t (.string (bs l)) (some (.int .i64 a)) none none).run P w = .ok (.string (bs x)) w := by
  subst ha hx
  rw [run_slice_string_l w t (bs l) h .i64 i (by omega) (by simp; omega)]
  simp only [bs_size, bs_extract, Int.toNat_natCast]
  rw [List.take_of_length_le (by simp)]
theorem run_upto {P : Program} {t : TypeId} (h : P.underlying t = some .string) (l : Bs) (j : Nat) (hj : j ≤ l.length) (b : Int) (hb : b = j) (x : Bs) (hx : l.take j = x) (w : World) :
    (Instr.slice t (.string (bs l)) none (some (.int .i64 b)) none).run P w = .ok (.string (bs x)) w := by
  subst hb hx
  rw [run_slice_string_h w t (bs l) h .i64 j (by omega) (by simp; omega)]
  simp
theorem take_next (l : Bs) (k : Nat) (h : k < l.length) : l.take (k + 1) = l.take k ++ [l[k]] := List.take_succ_eq_append_getElem h
theorem sub_one (l : Bs) (k : Nat) (h : k < l.length) : (l.drop k).take (k + 1 - k) = [l[k]] := by
  rw [show k + 1 - k = 1 from by omega, List.drop_eq_getElem_cons h]; rfl
theorem u8_int (x : UInt8) (n : Nat) (h : n < 256) : ((x.toNat : Int) = n) ↔ x = UInt8.ofNat n := by
  constructor
  · intro q
    apply UInt8.toNat_inj.1
    rw [UInt8.toNat_ofNat', Nat.mod_eq_of_lt h]; omega
  · rintro rfl
    rw [UInt8.toNat_ofNat', Nat.mod_eq_of_lt h]
end Go.Proofs.Ythbnahagfojfbaa

/- Slices of strings; strings.Split and strings.Join by lists of bytes. Conditions: lengths below a thousand million. -/
set_option linter.all false
namespace Go.Proofs.Ythbnahagfojfbaa
open Go.RowKit

def strCells (xs : List Bs) : List Value := xs.map fun x => .string (bs x)
theorem strCells_length (xs : List Bs) : (strCells xs).length = xs.length := by simp [strCells]
theorem strCells_snoc (xs : List Bs) (x : Bs) : strCells (xs ++ [x]) = strCells xs ++ [.string (bs x)] := by simp [strCells]
theorem strCells_at (xs : List Bs) (j : Nat) (x : Bs) (h : xs[j]? = some x) : (strCells xs)[j]? = some (.string (bs x)) := by simp [strCells, h]

/-- The slice value v reads in w as the strings xs. -/
def Strs (w : World) (v : Value) (xs : List Bs) : Prop :=
  ∃ a c, v = .slice a xs.length c ∧ xs.length ≤ c ∧ (0 < xs.length → ∃ g o, a = some ⟨g, o, none⟩ ∧ g < w.heap.size ∧ ∀ j x, xs[j]? = some x → w.cell? ⟨g, o + j, none⟩ = some (.string (bs x)))
theorem Strs.kept {w w' : World} {v : Value} {xs : List Bs} (h : Strs w v xs) (k : Kept w w') : Strs w' v xs := by
  obtain ⟨a, c, hv, hc, h3⟩ := h
  refine ⟨a, c, hv, hc, fun q => ?_⟩
  obtain ⟨g, o, ha, hg, hcell⟩ := h3 q
  exact ⟨g, o, ha, Nat.lt_of_lt_of_le hg k.size, fun j x hx => (k.cell (p := ⟨g, o + j, none⟩) hg).trans (hcell j x hx)⟩
theorem Strs.own {w : World} {base : Nat} {e : TypeId} {v : Value} {xs : List Bs} (h : w.ownsRow base e 1 v xs.length (strCells xs)) : Strs w v xs := by
  obtain ⟨a, c, hv, hc, _, h3⟩ := own_cap h
  refine ⟨a, c, hv, hc, fun q => ?_⟩
  obtain ⟨g, ha, _, hg, hcell⟩ := h3 q
  exact ⟨g, 0, ha, hg, fun j x hx => by rw [Nat.zero_add]; exact hcell j _ (strCells_at xs j x hx)⟩
theorem Strs.none_ (w : World) : Strs w (.slice none 0 0) [] := ⟨none, 0, rfl, Nat.le_refl _, fun q => absurd q (by simp)⟩

theorem Try.infoStr : (Try.prog.info? 9).map (fun i => (i.zero, i.size, i.bytes)) = some (some (.string ⟨#[]⟩), 1, 16) := by kernel_rfl

theorem map_bs : ∀ (xs : List ByteArray) (ys : List Bs), xs.map (·.data.toList) = ys → xs = ys.map bs
  | [], ys, h => by subst h; rfl
  | x :: xs, ys, h => by
    subst h
    simp only [List.map_cons]
    rw [← map_bs xs _ rfl]
    rfl

end Go.Proofs.Ythbnahagfojfbaa
