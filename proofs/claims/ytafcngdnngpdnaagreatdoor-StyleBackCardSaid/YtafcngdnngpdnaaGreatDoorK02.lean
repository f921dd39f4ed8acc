/- Strings by their lists of bytes: one spelling for the walks. No condition. -/
import Derived.Test.YtafcngdnngpdnaaGreatDoorK01
import Derived.Test.YtafcngdnngpdnaaGreatDoorShelf
import Derived.Lib.Strings
import Derived.Lib.SmallJoins

set_option linter.all false
namespace Go.Proofs.YtafcngdnngpdnaaGreatDoor
open Go.RowKit

/-- The string of a list of bytes. -/
def bs (l : Bs) : ByteArray := ⟨l.toArray⟩
@[simp] theorem mk_bs (l : Bs) : ByteArray.mk l.toArray = bs l := rfl
@[simp] theorem empty_bs : ByteArray.empty = bs [] := rfl
@[simp] theorem bs_data (l : Bs) : (bs l).data.toList = l := rfl
@[simp] theorem bs_size (l : Bs) : (bs l).size = l.length := rfl
@[simp] theorem bs_toList (l : Bs) : (bs l).toList = l := ByteArray.toList_eq _
theorem bs_of (s : ByteArray) : ∃ l, s = bs l := ⟨s.data.toList, rfl⟩
theorem bs_ext {s : ByteArray} {l : Bs} (h : s.data.toList = l) : s = bs l := by subst h; rfl
@[simp] theorem bs_append (a b : Bs) : bs a ++ bs b = bs (a ++ b) := bs_ext (by rw [Joins.data_append]; rfl)
@[simp] theorem bs_extract (l : Bs) (i j : Nat) : (bs l).extract i j = bs ((l.drop i).take (j - i)) := bs_ext (by rw [Lib.extract_data]; rfl)
@[simp] theorem bs_inj (a b : Bs) : bs a = bs b ↔ a = b := ⟨fun h => by have := congrArg (fun s : ByteArray => s.data.toList) h; simpa using this, fun h => by rw [h]⟩
theorem ret_bs {a b : Bs} (h : a = b) : Ending.returned (.string (bs a)) = .returned (.string (bs b)) := by rw [h]

/-- The byte of a list at a place, as a number. -/
def at8 (l : Bs) (i : Nat) : Int := ((l.getD i 0).toNat : Int)
theorem byteAt_bs (l : Bs) (i : Nat) : byteAt (bs l) i = at8 l i := rfl
theorem at8_lo (l : Bs) (i : Nat) : 0 ≤ at8 l i := by unfold at8; omega
theorem at8_hi (l : Bs) (i : Nat) : at8 l i < 256 := byteAt_hi (bs l) i
theorem at8_get (l : Bs) (i : Nat) (h : i < l.length) : at8 l i = ((l[i]'h).toNat : Int) := by unfold at8; rw [List.getD_eq_getElem?_getD, List.getElem?_eq_getElem h]; rfl
theorem run_ix {P : Program} {t : TypeId} (h : P.underlying t = some .string) (l : Bs) (i : Nat) (hi : i < l.length) (j : Int) (hj : j = i) (w : World) :
    (Instr.index t (.string (bs l)) (.int .i64 j)).run P w = .ok (.int .u8 (at8 l i)) w := run_at h (bs l) i hi j hj w
theorem run_sub {P : Program} {t : TypeId} (h : P.underlying t = some .string) (l : Bs) (i j : Nat) (hi : i ≤ j) (hj : j ≤ l.length) (a b : Int) (ha : a = i) (hb : b = j) (x : Bs) (hx : (l.drop i).take (j - i) = x) (w : World) :
    (Instr.slice t (.string (bs l)) (some (.int .i64 a)) (some (.int .i64 b)) none).run P w = .ok (.string (bs x)) w := by
  subst ha hb hx
  rw [run_slice_string w t (bs l) .i64 .i64 i j h (by omega) (by omega) (by simp; omega)]
  simp
theorem run_from {P : Program} {t : TypeId} (h : P.underlying t = some .string) (l : Bs) (i : Nat) (hi : i ≤ l.length) (a : Int) (ha : a = i) (x : Bs) (hx : l.drop i = x) (w : World) :
    (Instr.slice t (.string (bs l)) (some (.int .i64 a)) none none).run P w = .ok (.string (bs x)) w := by
  subst ha hx
  rw [run_slice_string_l w t (bs l) h .i64 i (by omega) (by simp; omega)]
  simp only [bs_size, bs_extract, Int.toNat_natCast]
  rw [List.take_of_length_le (by simp)]
theorem run_upto {P : Program} {t : TypeId} (h : P.underlying t = some .string) (l : Bs) (j : Nat) (hj : j ≤ l.length) (b : Int) (hb : b = j) (x : Bs) (hx : l.take j = x) (w : World) :
    (Instr.slice t (.string (bs l)) none (some (.int .i64 b)) none).run P w = .ok (.string (bs x)) w := by
  subst hb hx
  rw [run_slice_string_h w t (bs l) h .i64 j (by omega) (by simp; omega)]
  simp
theorem take_next (l : Bs) (k : Nat) (h : k < l.length) : l.take (k + 1) = l.take k ++ [l[k]] := List.take_succ_eq_append_getElem h
theorem sub_one (l : Bs) (k : Nat) (h : k < l.length) : (l.drop k).take (k + 1 - k) = [l[k]] := by
  rw [show k + 1 - k = 1 from by omega, List.drop_eq_getElem_cons h]; rfl
theorem u8_int (x : UInt8) (n : Nat) (h : n < 256) : ((x.toNat : Int) = n) ↔ x = UInt8.ofNat n := by
  constructor
  · intro q
    apply UInt8.toNat_inj.1
    rw [UInt8.toNat_ofNat', Nat.mod_eq_of_lt h]; omega
  · rintro rfl
    rw [UInt8.toNat_ofNat', Nat.mod_eq_of_lt h]
end Go.Proofs.YtafcngdnngpdnaaGreatDoor

/- Slices of strings; strings.Split and strings.Join by lists of bytes. Conditions: lengths below a thousand million. -/
set_option linter.all false
namespace Go.Proofs.YtafcngdnngpdnaaGreatDoor
open Go.RowKit

def strCells (xs : List Bs) : List Value := xs.map fun x => .string (bs x)
theorem strCells_length (xs : List Bs) : (strCells xs).length = xs.length := by simp [strCells]
theorem strCells_snoc (xs : List Bs) (x : Bs) : strCells (xs ++ [x]) = strCells xs ++ [.string (bs x)] := by simp [strCells]
theorem strCells_at (xs : List Bs) (j : Nat) (x : Bs) (h : xs[j]? = some x) : (strCells xs)[j]? = some (.string (bs x)) := by simp [strCells, h]

/-- The slice value v reads in w as the strings xs. -/
def Strs (w : World) (v : Value) (xs : List Bs) : Prop :=
  ∃ a c, v = .slice a xs.length c ∧ xs.length ≤ c ∧ (0 < xs.length → ∃ g o, a = some ⟨g, o, none⟩ ∧ g < w.heap.size ∧ ∀ j x, xs[j]? = some x → w.cell? ⟨g, o + j, none⟩ = some (.string (bs x)))
theorem Strs.kept {w w' : World} {v : Value} {xs : List Bs} (h : Strs w v xs) (k : Kept w w') : Strs w' v xs := by
  obtain ⟨a, c, hv, hc, h3⟩ := h
  refine ⟨a, c, hv, hc, fun q => ?_⟩
  obtain ⟨g, o, ha, hg, hcell⟩ := h3 q
  exact ⟨g, o, ha, Nat.lt_of_lt_of_le hg k.size, fun j x hx => (k.cell (p := ⟨g, o + j, none⟩) hg).trans (hcell j x hx)⟩
theorem Strs.own {w : World} {base : Nat} {e : TypeId} {v : Value} {xs : List Bs} (h : w.ownsRow base e 1 v xs.length (strCells xs)) : Strs w v xs := by
  obtain ⟨a, c, hv, hc, _, h3⟩ := own_cap h
  refine ⟨a, c, hv, hc, fun q => ?_⟩
  obtain ⟨g, ha, _, hg, hcell⟩ := h3 q
  exact ⟨g, 0, ha, hg, fun j x hx => by rw [Nat.zero_add]; exact hcell j _ (strCells_at xs j x hx)⟩
theorem Strs.none_ (w : World) : Strs w (.slice none 0 0) [] := ⟨none, 0, rfl, Nat.le_refl _, fun q => absurd q (by simp)⟩

theorem Tryz.infoStr : (Tryz.prog.info? 9).map (fun i => (i.zero, i.size, i.bytes)) = some (some (.string ⟨#[]⟩), 1, 16) := by kernel_rfl

theorem map_bs : ∀ (xs : List ByteArray) (ys : List Bs), xs.map (·.data.toList) = ys → xs = ys.map bs
  | [], ys, h => by subst h; rfl
  | x :: xs, ys, h => by
    subst h
    simp only [List.map_cons]
    rw [← map_bs xs _ rfl]
    rfl

theorem split_any (l : Bs) (c : UInt8) (w : World) (hg : Gnd w) (hl : l.length ≤ 1000000000) :
    Calls Tryz.prog 58 #[.string (bs l), .string (bs [c])] w fun e w' => e = .returned (.slice (some ⟨w.heap.size, 0, none⟩) (splitC c l).length (splitC c l).length) ∧ w' = w.alloc (.cells (strCells (splitC c l)).toArray 9) := by
  obtain ⟨m, hm⟩ := hg
  refine (Tryz.strings_Split (bs l) (bs [c]) m w (by simp; omega) hm (by simp)).mono ?_
  rintro e w' ⟨rfl, rfl⟩
  have e1 : Lib.countB (bs l) (bs [c]) + 1 = (splitC c l).length := by rw [splitC_length]; congr 1; exact countB_one (bs l) c
  have e2 : (Lib.splitB (bs [c]) 0 (Lib.countB (bs l) (bs [c])) (bs l)) = (splitC c l).map bs := map_bs _ _ (splitB_one (bs l) c)
  rw [e1, e2]
  refine ⟨rfl, ?_⟩
  rw [List.map_map]; rfl

theorem join_any (v : Value) (xs : List Bs) (sep : Bs) (w : World) (hv : Strs w v xs) (hN : xs.length ≤ 1000000000) (hlen : (Lib.join xs sep).length ≤ 1000000000) :
    Calls Tryz.prog 85 #[v, .string (bs sep)] w fun e w' => e = .returned (.string (bs (Lib.join xs sep))) ∧ Kept w w' := by
  obtain ⟨a, c, rfl, hc, h3⟩ := hv
  rcases Nat.eq_zero_or_pos xs.length with h0 | h0
  · obtain rfl : xs = [] := List.length_eq_zero_iff.1 h0
    refine (Tryz.strings_Join_none a c (bs sep) w).mono ?_
    rintro e w' ⟨rfl, rfl⟩
    exact ⟨rfl, Kept.refl _⟩
  · obtain ⟨g, o, rfl, hg, hcell⟩ := h3 h0
    have hm : (xs.map bs).map (·.data.toList) = xs := by
      rw [List.map_map]
      exact List.map_id xs
    have h := Tryz.strings_Join g o c (xs.map bs) (bs sep) w (fun j x hx => by
      rw [List.getElem?_map] at hx
      cases hj : xs[j]? with
      | none => rw [hj] at hx; cases hx
      | some y => rw [hj] at hx; cases hx; exact hcell j y hj) hg (by simp; omega) (by simpa using hc) (by rw [hm]; simp; omega)
    rw [hm] at h
    simp only [List.length_map] at h
    exact h
end Go.Proofs.YtafcngdnngpdnaaGreatDoor

/- Blocks known whole; the division at a brace; wrappers of the library's Cut, CutPrefix, Count. Conditions: lengths. -/
set_option linter.all false
namespace Go.Proofs.YtafcngdnngpdnaaGreatDoor
open Go.RowKit

/-- Block g is just the cells cs of element type t, none frozen. -/
def Blk (w : World) (g : Nat) (t : TypeId) (cs : Array Value) : Prop := w.heap[g]? = some (.cells cs t (0, 0))
theorem Blk.lt {w : World} {g : Nat} {t : TypeId} {cs : Array Value} (h : Blk w g t cs) : g < w.heap.size := by
  rcases Nat.lt_or_ge g w.heap.size with q | q
  · exact q
  · unfold Blk at h; rw [Array.getElem?_eq_none q] at h; cases h
theorem Blk.cell {w : World} {g : Nat} {t : TypeId} {cs : Array Value} (h : Blk w g t cs) (i : Nat) (v : Value) (hi : cs[i]? = some v) : w.cell? ⟨g, i, none⟩ = some v := by
  unfold Blk at h; simp only [World.cell?, h]; simpa using hi
theorem Blk.free {w : World} {g : Nat} {t : TypeId} {cs : Array Value} (h : Blk w g t cs) (i : Nat) : w.frozen? ⟨g, i, none⟩ = false := by
  unfold Blk at h; simp only [World.frozen?, h]; simp
theorem Blk.kept {w w' : World} {g : Nat} {t : TypeId} {cs : Array Value} (h : Blk w g t cs) (k : Kept w w') : Blk w' g t cs := by
  have := h.lt
  unfold Blk at h ⊢; rw [k.block g this]; exact h
theorem Blk.new (w : World) (t : TypeId) (cs : Array Value) : Blk (w.alloc (.cells cs t)) w.heap.size t cs := heap_alloc_new w _
theorem Blk.alloc {w : World} {g : Nat} {t : TypeId} {cs : Array Value} (h : Blk w g t cs) (o : Obj) : Blk (w.alloc o) g t cs := h.kept (kept_alloc w o)
theorem Blk.drewN {w : World} {g : Nat} {t : TypeId} {cs : Array Value} (h : Blk w g t cs) (n : Nat) : Blk (w.drewN n) g t cs := h
theorem Blk.set {w : World} {g : Nat} {t : TypeId} {cs : Array Value} (h : Blk w g t cs) (i : Nat) (v : Value) : Blk (w.setCell ⟨g, i, none⟩ v) g t (cs.setIfInBounds i v) := by
  unfold Blk at h ⊢
  simp only [World.setCell, Array.getElem?_modify, h]
  simp
theorem Blk.other {w : World} {g : Nat} {t : TypeId} {cs : Array Value} (h : Blk w g t cs) (g' i : Nat) (v : Value) (hne : g ≠ g') : Blk (w.setCell ⟨g', i, none⟩ v) g t cs := by
  unfold Blk at h ⊢; rw [Below.heap_setCell _ _ _ _ hne]; exact h
theorem kept_set {a w : World} (h : Kept a w) (g i : Nat) (v : Value) (hg : a.heap.size ≤ g) : Kept a (w.setCell ⟨g, i, none⟩ v) := Below.setCell h hg v
theorem size_setCell (w : World) (a : Addr) (v : Value) : (w.setCell a v).heap.size = w.heap.size := by simp [World.setCell]

/-- How many bytes stand before the first c. -/
def before (c : UInt8) (l : Bs) : Nat := (l.takeWhile (· ≠ c)).length
theorem before_le (c : UInt8) (l : Bs) : before c l ≤ l.length := by unfold before; exact (List.takeWhile_sublist _).length_le
theorem index_before : ∀ (l : Bs) (c : UInt8), (before c l < l.length ∧ Lib.index l [c] = before c l) ∨ (before c l = l.length ∧ Lib.index l [c] = -1)
  | [], c => .inr ⟨rfl, rfl⟩
  | b :: l, c => by
    unfold Lib.index before
    by_cases hb : c = b
    · subst hb
      left
      refine ⟨by simp, ?_⟩
      have e : [c].isPrefixOf (c :: l) = true := by simp [List.isPrefixOf]
      rw [e]; simp
    · have e : [c].isPrefixOf (b :: l) = false := by simp [List.isPrefixOf, hb]
      have e2 : ((b :: l).takeWhile (· ≠ c)).length = before c l + 1 := by
        rw [List.takeWhile_cons, if_pos (by simpa using fun q => hb q.symm)]; rfl
      rw [e, e2]
      simp only [Bool.false_eq_true, if_false, List.length_cons]
      rcases index_before l c with ⟨h1, h2⟩ | ⟨h1, h2⟩
      · left
        have hne : ¬ ((before c l : Int) == -1) = true := by simp only [beq_iff_eq]; omega
        exact ⟨by omega, by rw [h2, if_neg hne]; omega⟩
      · right; exact ⟨by omega, by rw [h2]; rfl⟩
theorem before_none (c : UInt8) (l : Bs) : ∀ (i : Nat) (_ : i < before c l) (hi : i < l.length), l[i] ≠ c := by
  induction l with
  | nil => intro i _ hi; simp at hi
  | cons b l ih =>
    intro i h hi
    by_cases hb : b = c
    · subst hb
      have e : before b (b :: l) = 0 := by unfold before; simp
      rw [e] at h; omega
    · have e : before c (b :: l) = before c l + 1 := by unfold before; rw [List.takeWhile_cons, if_pos (by simpa using hb)]; rfl
      cases i with
      | zero => exact hb
      | succ i => exact ih i (by rw [e] at h; omega) (by simpa using hi)
theorem before_here (c : UInt8) (l : Bs) (h : before c l < l.length) : l[before c l] = c := by
  induction l with
  | nil => simp at h
  | cons b l ih =>
    by_cases hb : b = c
    · subst hb
      have e : before b (b :: l) = 0 := by unfold before; simp
      simp only [e]; rfl
    · have e : before c (b :: l) = before c l + 1 := by unfold before; rw [List.takeWhile_cons, if_pos (by simpa using hb)]; rfl
      simp only [e]
      exact ih (by rw [e] at h; simpa using h)

theorem cut_any (l : Bs) (c : UInt8) (w : World) (hg : Gnd w) (hl : l.length ≤ 1000000000) :
    Calls Tryz.prog 25 #[.string (bs l), .string (bs [c])] w fun e w' =>
      e = .returned (.tuple (if before c l < l.length then #[.string (bs (l.take (before c l))), .string (bs (l.drop (before c l + 1))), .bool true] else #[.string (bs l), .string (bs []), .bool false])) ∧ ∃ n, w' = w.drewN n := by
  obtain ⟨m, hm⟩ := hg
  refine (Tryz.strings_Cut (bs l) (bs [c]) m w (by simp; omega) hm).mono ?_
  rintro e w' ⟨rfl, hw⟩
  refine ⟨?_, hw⟩
  simp only [bs_data, mk_bs]
  unfold Lib.cut
  rcases index_before l c with ⟨h1, h2⟩ | ⟨h1, h2⟩
  · rw [if_pos (by rw [h2]; omega), if_pos h1, h2]; simp
  · rw [if_neg (by rw [h2]; omega), if_neg (by omega)]

theorem cutp_no (l : Bs) (c : UInt8) (w : World) (h : ∀ r, l ≠ c :: r) :
    Calls Tryz.prog 22 #[.string (bs l), .string (bs [c])] w fun e w' => e = .returned (.tuple #[.string (bs l), .bool false]) ∧ w = w' := by
  refine (Tryz.strings_CutPrefix (bs l) (bs [c]) w).mono ?_
  rintro e w' ⟨rfl, rfl⟩
  refine ⟨?_, rfl⟩
  simp only [bs_data, mk_bs]
  have e : Lib.hasPrefix l [c] = false := by
    cases l with
    | nil => rfl
    | cons b r =>
      have : b ≠ c := fun q => h r (by rw [q])
      simp [Lib.hasPrefix, List.isPrefixOf]
      exact fun q => this q.symm
  have e2 : Lib.trimPrefix l [c] = l := by unfold Lib.trimPrefix; rw [e]; rfl
  rw [e, e2]
theorem cutp_yes (r : Bs) (c : UInt8) (w : World) :
    Calls Tryz.prog 22 #[.string (bs (c :: r)), .string (bs [c])] w fun e w' => e = .returned (.tuple #[.string (bs r), .bool true]) ∧ w = w' := by
  refine (Tryz.strings_CutPrefix (bs (c :: r)) (bs [c]) w).mono ?_
  rintro e w' ⟨rfl, rfl⟩
  refine ⟨?_, rfl⟩
  simp only [bs_data, mk_bs]
  have e : Lib.hasPrefix (c :: r) [c] = true := by simp [Lib.hasPrefix, List.isPrefixOf]
  have e2 : Lib.trimPrefix (c :: r) [c] = r := by unfold Lib.trimPrefix; rw [e]; rfl
  rw [e, e2]
theorem count_any (l : Bs) (c : UInt8) (w : World) :
    Calls Tryz.prog 110 #[.string (bs l), .string (bs [c])] w fun e w' => e = .returned (.int .i64 (l.count c : Nat)) ∧ w = w' := by
  refine (Tryz.strings_Count_one (bs l) c w).mono ?_
  rintro e w' ⟨rfl, rfl⟩
  exact ⟨rfl, rfl⟩
end Go.Proofs.YtafcngdnngpdnaaGreatDoor
