/- Terms, marks and entries of an index, in plain Lean. No condition. -/
import Derived.Test.YtnbhpmleboildaaGreatDoorY04
import Derived.Test.YtnbhpmleboildaaGreatDoorY02
import Derived.Test.YtnbhpmleboildaaGreatDoorY09
import Derived.Test.YtnbhpmleboildaaGreatDoorY07
import Derived.Lib.ItoaNum
import Derived.Lib.TrimByte
import Derived.Lib.ItoaLen

set_option linter.all false
namespace Go.Proofs.YtnbhpmleboildaaGreatDoor
open Go.RowKit

def kIndex : Bs := [105, 110, 100, 101, 120]
def kKey : Bs := [107, 101, 121]
def trimI (s : Bs) : Bs := Lib.trimB s 32
def mainOf (s : Bs) : Bs := trimI ((trimI s).take (before 33 (trimI s)))
def subOf (s : Bs) : Bs := trimI ((trimI s).drop (before 33 (trimI s) + 1))
def isMk (x : Inl) : Bool := decide (x.kind = 11) && x.cls.contains kIndex
def termTx (x : Inl) : Bs := (getP x.prs kKey).getD (plainL x.kids)
def mainI (x : Inl) : Bs := match isMk x with | true => mainOf (termTx x) | false => []
def subI (x : Inl) : Bs := match isMk x with | true => subOf (termTx x) | false => []
/-- Is an inline a mark that is not ignored? -/
def okM (x : Inl) : Bool := !(mainI x == [])
theorem trimI_len (s : Bs) : (trimI s).length ≤ s.length := by
  unfold trimI Lib.trimB Lib.trimLeftB Lib.trimRightB
  refine Nat.le_trans (List.dropWhile_sublist _).length_le ?_
  rw [List.length_reverse]
  refine Nat.le_trans (List.dropWhile_sublist _).length_le ?_
  rw [List.length_reverse]; exact Nat.le_refl _
theorem mainOf_len (s : Bs) : (mainOf s).length ≤ s.length := by
  unfold mainOf
  refine Nat.le_trans (trimI_len _) ?_
  rw [List.length_take]
  exact Nat.le_trans (Nat.min_le_right _ _) (trimI_len s)
theorem subOf_len (s : Bs) : (subOf s).length ≤ s.length := by
  unfold subOf
  refine Nat.le_trans (trimI_len _) ?_
  rw [List.length_drop]
  exact Nat.le_trans (Nat.sub_le _ _) (trimI_len s)
theorem mainI_len (x : Inl) : (mainI x).length ≤ (termTx x).length := by
  unfold mainI
  split
  · exact mainOf_len _
  · simp
theorem subI_len (x : Inl) : (subI x).length ≤ (termTx x).length := by
  unfold subI
  split
  · exact subOf_len _
  · simp
/-- Identifier number n. -/
def idN (n : Nat) : Bs := [105, 120, 45] ++ Lib.itoa n
def digV (l : Bs) : Nat := l.foldl (fun a b => a * 10 + (b.toNat - 48)) 0
theorem digV_dec (u : Nat) : digV (Lib.decDigits u) = u := by
  induction u using Nat.strongRecOn with
  | _ u ih =>
    rw [Lib.decDigits]
    by_cases h : u < 10
    · rw [dif_pos h]
      have : ∀ v, v < 10 → digV [UInt8.ofNat (48 + v)] = v := by decide
      exact this u h
    · rw [dif_neg h]
      unfold digV
      rw [List.foldl_append]
      have h1 := ih (u / 10) (by omega)
      unfold digV at h1
      rw [h1]
      have : ∀ v, v < 10 → (UInt8.ofNat (48 + v)).toNat - 48 = v := by decide
      have h2 := this (u % 10) (by omega)
      simp only [List.foldl_cons, List.foldl_nil, h2]
      omega
theorem itoa_nat (n : Nat) : Lib.itoa (n : Int) = Lib.decDigits n := by
  unfold Lib.itoa
  rw [if_neg (by omega)]; simp
theorem idN_inj {m n : Nat} (h : idN m = idN n) : m = n := by
  unfold idN at h
  rw [itoa_nat, itoa_nat] at h
  have h2 := List.append_cancel_left h
  rw [← digV_dec m, h2, digV_dec]
/-- The first number behind n that is free. -/
def nextF (used : List Bs) : Nat → Nat → Nat
  | 0, n => n + 1
  | f + 1, n => if used.contains (idN (n + 1)) = true then nextF used f (n + 1) else n + 1
def nextN (used : List Bs) (n : Nat) : Nat := nextF used used.length n
theorem free_at : ∀ (f : Nat) (used : List Bs), used.length ≤ f → ∀ n, ∃ m, n < m ∧ m ≤ n + used.length + 1 ∧ used.contains (idN m) = false
  | 0, used, h, n => ⟨n + 1, by omega, by omega, by
      obtain rfl : used = [] := List.length_eq_zero_iff.1 (by omega)
      rfl⟩
  | f + 1, used, h, n => by
    by_cases q : used.contains (idN (n + 1)) = true
    · have hm : idN (n + 1) ∈ used := by simpa using q
      have hl := List.length_erase_of_mem hm
      have hp : 0 < used.length := List.length_pos_of_mem hm
      obtain ⟨m, h1, h2, h3⟩ := free_at f (used.filter fun k => k != idN (n + 1)) (by
        have : (used.filter fun k => k != idN (n + 1)).length < used.length := by
          refine Nat.lt_of_le_of_ne (List.length_filter_le _ _) (fun e => ?_)
          have := List.length_filter_eq_length_iff.1 e _ hm
          simp at this
        omega) (n + 1)
      have hlt : (used.filter fun k => k != idN (n + 1)).length < used.length := by
        refine Nat.lt_of_le_of_ne (List.length_filter_le _ _) (fun e => ?_)
        have := List.length_filter_eq_length_iff.1 e _ hm
        simp at this
      refine ⟨m, by omega, by omega, ?_⟩
      have h4 : idN m ∉ used.filter fun k => k != idN (n + 1) := by simpa using h3
      have h5 : idN m ∉ used := fun hmem => h4 (List.mem_filter.2 ⟨hmem, by
        have : idN m ≠ idN (n + 1) := fun e => by have := idN_inj e; omega
        simpa using this⟩)
      simpa using h5
    · exact ⟨n + 1, by omega, by omega, by simpa using q⟩
theorem nextF_spec (used : List Bs) : ∀ (f n : Nat), (∃ m, n < m ∧ m ≤ n + f + 1 ∧ used.contains (idN m) = false) → n < nextF used f n ∧ nextF used f n ≤ n + f + 1 ∧ used.contains (idN (nextF used f n)) = false ∧ ∀ j, n < j → j < nextF used f n → used.contains (idN j) = true
  | 0, n, ⟨m, h1, h2, h3⟩ => by
    obtain rfl : m = n + 1 := by omega
    exact ⟨Nat.lt_succ_self n, by show n + 1 ≤ _; omega, h3, fun j h4 h5 => by
      have h5' : j < n + 1 := h5
      omega⟩
  | f + 1, n, ⟨m, h1, h2, h3⟩ => by
    show n < (if used.contains (idN (n + 1)) = true then nextF used f (n + 1) else n + 1) ∧ (if used.contains (idN (n + 1)) = true then nextF used f (n + 1) else n + 1) ≤ _ ∧ used.contains (idN (if used.contains (idN (n + 1)) = true then nextF used f (n + 1) else n + 1)) = false ∧ ∀ j, n < j → j < (if used.contains (idN (n + 1)) = true then nextF used f (n + 1) else n + 1) → _
    by_cases q : used.contains (idN (n + 1)) = true
    · rw [if_pos q]
      have hm : n + 1 ≠ m := fun e => by rw [e, h3] at q; cases q
      obtain ⟨a, b, c, d⟩ := nextF_spec used f (n + 1) ⟨m, by omega, by omega, h3⟩
      refine ⟨by omega, by omega, c, fun j h4 h5 => ?_⟩
      by_cases e : j = n + 1
      · rw [e]; exact q
      · exact d j (by omega) h5
    · rw [if_neg q]
      exact ⟨by omega, by omega, by simpa using q, fun j h4 h5 => by omega⟩
theorem nextN_spec (used : List Bs) (n : Nat) : n < nextN used n ∧ nextN used n ≤ n + used.length + 1 ∧ used.contains (idN (nextN used n)) = false ∧ ∀ j, n < j → j < nextN used n → used.contains (idN j) = true :=
  nextF_spec used _ n (free_at _ used (Nat.le_refl _) n)
def needI (x : Inl) : Bool := x.id == [] && okM x
def numS (used : List Bs) (n : Nat) (b : Bool) : Nat := match b with | true => nextN used n | false => n
def idS (id : Bs) (m : Nat) (b : Bool) : Bs := match b with | true => idN m | false => id
mutual
/-- A marked copy of an inline, and the last number. -/
def mk1 (used : List Bs) : Nat → Inl → Inl × Nat
  | n, .mk kind text dest title id cls prs args cits kids =>
    (.mk kind text dest title (idS id (numS used n (needI (.mk kind text dest title id cls prs args cits kids))) (needI (.mk kind text dest title id cls prs args cits kids))) cls prs args cits
      (mkL used (numS used n (needI (.mk kind text dest title id cls prs args cits kids))) kids).1, (mkL used (numS used n (needI (.mk kind text dest title id cls prs args cits kids))) kids).2)
def mkL (used : List Bs) : Nat → List Inl → List Inl × Nat
  | n, [] => ([], n)
  | n, x :: xs => ((mk1 used n x).1 :: (mkL used (mk1 used n x).2 xs).1, (mkL used (mk1 used n x).2 xs).2)
end
mutual
/-- A marked copy of a block, and the last number. -/
def mb1 (used : List Bs) : Nat → Blo → Blo × Nat
  | n, .mk kind level info text dest title id cls prs line kids =>
    (.mk kind level info text dest title id cls prs (mkL used n line).1 (mbL used (mkL used n line).2 kids).1, (mbL used (mkL used n line).2 kids).2)
def mbL (used : List Bs) : Nat → List Blo → List Blo × Nat
  | n, [] => ([], n)
  | n, x :: xs => ((mb1 used n x).1 :: (mbL used (mb1 used n x).2 xs).1, (mbL used (mb1 used n x).2 xs).2)
end
theorem mkL_app (used : List Bs) : ∀ (xs ys : List Inl) (n : Nat), mkL used n (xs ++ ys) = ((mkL used n xs).1 ++ (mkL used (mkL used n xs).2 ys).1, (mkL used (mkL used n xs).2 ys).2)
  | [], _, _ => rfl
  | x :: xs, ys, n => by
    show ((mk1 used n x).1 :: (mkL used (mk1 used n x).2 (xs ++ ys)).1, (mkL used (mk1 used n x).2 (xs ++ ys)).2) = _
    rw [mkL_app used xs ys]; rfl
theorem mkL_take {used : List Bs} {n : Nat} {xs : List Inl} {k : Nat} {x : Inl} (h : xs[k]? = some x) : mkL used n (xs.take (k + 1)) = ((mkL used n (xs.take k)).1 ++ [(mk1 used (mkL used n (xs.take k)).2 x).1], (mk1 used (mkL used n (xs.take k)).2 x).2) := by
  rw [take_snoc h, mkL_app]; rfl
theorem mkL_len (used : List Bs) : ∀ (xs : List Inl) (n : Nat), (mkL used n xs).1.length = xs.length
  | [], _ => rfl
  | x :: xs, n => by
    show ((mk1 used n x).1 :: (mkL used (mk1 used n x).2 xs).1).length = _
    rw [List.length_cons, List.length_cons, mkL_len used xs]
theorem mbL_app (used : List Bs) : ∀ (xs ys : List Blo) (n : Nat), mbL used n (xs ++ ys) = ((mbL used n xs).1 ++ (mbL used (mbL used n xs).2 ys).1, (mbL used (mbL used n xs).2 ys).2)
  | [], _, _ => rfl
  | x :: xs, ys, n => by
    show ((mb1 used n x).1 :: (mbL used (mb1 used n x).2 (xs ++ ys)).1, (mbL used (mb1 used n x).2 (xs ++ ys)).2) = _
    rw [mbL_app used xs ys]; rfl
theorem mbL_take {used : List Bs} {n : Nat} {xs : List Blo} {k : Nat} {x : Blo} (h : xs[k]? = some x) : mbL used n (xs.take (k + 1)) = ((mbL used n (xs.take k)).1 ++ [(mb1 used (mbL used n (xs.take k)).2 x).1], (mb1 used (mbL used n (xs.take k)).2 x).2) := by
  rw [take_snoc h, mbL_app]; rfl
theorem mbL_len (used : List Bs) : ∀ (xs : List Blo) (n : Nat), (mbL used n xs).1.length = xs.length
  | [], _ => rfl
  | x :: xs, n => by
    show ((mb1 used n x).1 :: (mbL used (mb1 used n x).2 xs).1).length = _
    rw [List.length_cons, List.length_cons, mbL_len used xs]
theorem numS_le (used : List Bs) (n : Nat) (b : Bool) : n ≤ numS used n b ∧ numS used n b ≤ n + used.length + 1 := by
  have := nextN_spec used n
  cases b <;> simp only [numS] <;> omega
mutual
theorem mk1_bnd (used : List Bs) : ∀ (x : Inl) (n : Nat), n ≤ (mk1 used n x).2 ∧ (mk1 used n x).2 ≤ n + (deep1 x).length * (used.length + 1)
  | .mk kind text dest title id cls prs args cits kids, n => by
    have h1 := numS_le used n (needI (.mk kind text dest title id cls prs args cits kids))
    have h2 := mkL_bnd used kids (numS used n (needI (.mk kind text dest title id cls prs args cits kids)))
    show n ≤ (mkL used (numS used n (needI (.mk kind text dest title id cls prs args cits kids))) kids).2 ∧ (mkL used (numS used n (needI (.mk kind text dest title id cls prs args cits kids))) kids).2 ≤ n + (Inl.mk kind text dest title id cls prs args cits kids :: deepL kids).length * (used.length + 1)
    rw [List.length_cons, Nat.succ_mul]
    omega
theorem mkL_bnd (used : List Bs) : ∀ (xs : List Inl) (n : Nat), n ≤ (mkL used n xs).2 ∧ (mkL used n xs).2 ≤ n + (deepL xs).length * (used.length + 1)
  | [], n => by
    show n ≤ n ∧ n ≤ n + 0 * (used.length + 1)
    omega
  | x :: xs, n => by
    have h1 := mk1_bnd used x n
    have h2 := mkL_bnd used xs (mk1 used n x).2
    show n ≤ (mkL used (mk1 used n x).2 xs).2 ∧ (mkL used (mk1 used n x).2 xs).2 ≤ n + (deep1 x ++ deepL xs).length * (used.length + 1)
    rw [List.length_append, Nat.add_mul]
    omega
end
mutual
theorem mb1_bnd (used : List Bs) : ∀ (x : Blo) (n : Nat), n ≤ (mb1 used n x).2 ∧ (mb1 used n x).2 ≤ n + (inls1 x).length * (used.length + 1)
  | .mk kind level info text dest title id cls prs line kids, n => by
    have h1 := mkL_bnd used line n
    have h2 := mbL_bnd used kids (mkL used n line).2
    show n ≤ (mbL used (mkL used n line).2 kids).2 ∧ (mbL used (mkL used n line).2 kids).2 ≤ n + (deepL line ++ inlsL kids).length * (used.length + 1)
    rw [List.length_append, Nat.add_mul]
    omega
theorem mbL_bnd (used : List Bs) : ∀ (xs : List Blo) (n : Nat), n ≤ (mbL used n xs).2 ∧ (mbL used n xs).2 ≤ n + (inlsL xs).length * (used.length + 1)
  | [], n => by
    show n ≤ n ∧ n ≤ n + 0 * (used.length + 1)
    omega
  | x :: xs, n => by
    have h1 := mb1_bnd used x n
    have h2 := mbL_bnd used xs (mb1 used n x).2
    show n ≤ (mbL used (mb1 used n x).2 xs).2 ∧ (mbL used (mb1 used n x).2 xs).2 ≤ n + (inls1 x ++ inlsL xs).length * (used.length + 1)
    rw [List.length_append, Nat.add_mul]
    omega
end
mutual
/-- The blocks at every depth. -/
def list1 : Blo → List Blo
  | .mk kind level info text dest title id cls prs line kids => .mk kind level info text dest title id cls prs line kids :: listL kids
def listL : List Blo → List Blo
  | [] => []
  | x :: xs => list1 x ++ listL xs
end
theorem list1_eq (b : Blo) : list1 b = b :: listL b.kids := by cases b; rfl
theorem listL_app (xs ys : List Blo) : listL (xs ++ ys) = listL xs ++ listL ys := by
  induction xs with
  | nil => rfl
  | cons x xs ih => show list1 x ++ listL (xs ++ ys) = _; rw [ih]; show _ = (list1 x ++ listL xs) ++ _; rw [List.append_assoc]
end Go.Proofs.YtnbhpmleboildaaGreatDoor

/- Small documents, in plain Lean. No condition. -/
set_option linter.all false
namespace Go.Proofs.YtnbhpmleboildaaGreatDoor
open Go.RowKit

/-- What a machine can tell of a block. -/
def FitK (x : Blo) : Prop := (x.info.length ≤ 140737488355328 ∧ x.text.length ≤ 140737488355328 ∧ x.dest.length ≤ 140737488355328 ∧ x.title.length ≤ 140737488355328) ∧ FitA x.id x.cls x.prs ∧ x.line.length ≤ 140737488355328 ∧ x.kids.length ≤ 140737488355328 ∧ ∀ y ∈ deepL x.line, FitX y
/-- A small block. -/
def okBs (x : Blo) : Prop := (x.text.length + x.info.length + x.dest.length + x.title.length ≤ 300 ∧ okLong x.id x.cls x.prs) ∧ ∀ y ∈ deepL x.line, okXs y
/-- Blocks and inlines, counted. -/
def sumB (xs : List Blo) : Nat := (listL xs).length + (inlsL xs).length
theorem listL_snocH {xs : List Blo} {k : Nat} {x : Blo} (h : xs[k]? = some x) : listL (xs.take (k + 1)) = (listL (xs.take k) ++ [x]) ++ listL x.kids := by
  have e : listL [x] = x :: listL x.kids := by
    show list1 x ++ [] = _
    rw [List.append_nil, list1_eq]
  rw [take_snoc h, listL_app, e]; simp
theorem sumB_tk {xs : List Blo} {k : Nat} {x : Blo} (h : xs[k]? = some x) : sumB (xs.take (k + 1)) = sumB (xs.take k) + 1 + (deepL x.line).length + sumB x.kids := by
  have e : inlsL [x] = deepL x.line ++ inlsL x.kids := by
    show inls1 x ++ [] = _
    rw [List.append_nil, inls1_eq]
  unfold sumB
  rw [listL_snocH h, take_snoc h, inlsL_app, e]
  simp only [List.length_append, List.length_singleton]; omega
theorem listL_at {xs : List Blo} {x : Blo} (h : x ∈ xs) : x ∈ listL xs ∧ ∀ y ∈ listL x.kids, y ∈ listL xs := by
  induction xs with
  | nil => cases h
  | cons z xs ih =>
    show x ∈ list1 z ++ listL xs ∧ ∀ y ∈ listL x.kids, y ∈ list1 z ++ listL xs
    rcases List.mem_cons.1 h with rfl | h
    · rw [list1_eq]
      exact ⟨by simp, fun y hy => by simp [hy]⟩
    · obtain ⟨a, b⟩ := ih h
      exact ⟨by simp [a], fun y hy => by simp [b y hy]⟩
/-- What a machine can tell of a document. -/
def FitD0 (ms : List Pr) (xs : List Blo) : Prop := (ms.length ≤ 140737488355328 ∧ ∀ q ∈ ms, q.1.length ≤ 140737488355328 ∧ q.2.length ≤ 140737488355328) ∧ xs.length ≤ 140737488355328 ∧ ∀ x ∈ listL xs, FitK x
/-- A small document's blocks. -/
def SmB (xs : List Blo) : Prop := sumB xs ≤ 120 ∧ ∀ x ∈ listL xs, okBs x
end Go.Proofs.YtnbhpmleboildaaGreatDoor

/- The plain text of inlines: writePlain and Plain of tree; useName of gloss. Conditions: lengths. -/
set_option linter.all false
namespace Go.Proofs.YtnbhpmleboildaaGreatDoor
open Go.RowKit

theorem byteC_app (a b : Bs) : Lib.byteCells (a ++ b) = Lib.byteCells a ++ Lib.byteCells b := by simp [Lib.byteCells]
theorem plain1_mk (kind : Int) (text dest title id : Bs) (cls : List Bs) (prs : List Pr) (args : List Bs) (cits : List Cit) (kids : List Inl) : plain1 (.mk kind text dest title id cls prs args cits kids) = if kind = 1 ∨ kind = 4 ∨ kind = 5 then text else if kind = 2 ∨ kind = 3 then [32] else if 6 ≤ kind ∧ kind ≤ 11 then plainL kids else if kind = 16 then dest else [] := rfl
/-- What writePlain leaves. -/
def WplP (B b : Nat) (cs : List Value) (l : Bs) (w : World) (e : Ending) (w' : World) : Prop := e = .returned (.tuple #[]) ∧ Lib.IsBuilder 114 5 B b (cs ++ Lib.byteCells l) w' ∧ Below B w w'
set_option maxRecDepth 100000 in
set_option maxHeartbeats 6400000 in
theorem wplain_any : ∀ (n : Nat) (xs : List Inl) (v : Value) (B b : Nat) (cs : List Value) (w : World), Lns (fun g => g < B) n w v xs → xs.length ≤ 1000000 → okIL xs → Lib.IsBuilder 114 5 B b cs w → cs.length + (plainL xs).length ≤ 140737488355328 → B ≤ w.heap.size →
    Calls Tryz.prog 56 #[.pointer (some ⟨b, 0, none⟩), v] w (WplP B b cs (plainL xs) w) := by
  intro n
  induction n with
  | zero =>
    intro xs v B b cs w hv hN hok hb hl hB
    obtain rfl := hv.no
    obtain ⟨a, c, rfl, hc⟩ := hv.form
    have HFIN : WplP B b cs (plainL []) w (.returned (.tuple #[])) w := ⟨rfl, by show Lib.IsBuilder _ _ _ _ (cs ++ []) _; rw [List.append_nil]; exact hb, Below.refl _ _⟩
    clear hv hok hb hl
    go_enter Tryz.func56, Tryz.ntmps56
    go_wp2_with fail
    go_loopw [8] (fun i wr => i = .int .i64 0 ∧ w = wr) (fun i _ => 1)
    case atStart => exact ⟨rfl, rfl⟩
    case round =>
      obtain ⟨rfl, rfl⟩ := hrel
      go_wp2_with fail
      (try simp only [Exit.inBlock, Exit.then]); refine bodyPost_ret (results_none rfl _ _ _) rfl ?_
      exact HFIN
  | succ n ih =>
    intro xs v B b cs w hv hN hok hb hl hB
    have HV := Lib.hid hv
    have HOK := Lib.hid hok
    have HB0 : Hid (Lib.IsBuilder 114 5 B b (cs ++ Lib.byteCells (plainL (xs.take 0))) w) := by
      show Lib.IsBuilder _ _ _ _ (cs ++ []) _; rw [List.append_nil]; exact hb
    have HFIN : Hid (∀ w', Lib.IsBuilder 114 5 B b (cs ++ Lib.byteCells (plainL (xs.take xs.length))) w' → Below B w w' → WplP B b cs (plainL xs) w (.returned (.tuple #[])) w') := fun w' h k => ⟨rfl, by rw [List.take_length] at h; exact h, k⟩
    have HLE := Lib.hid (plainL_le xs)
    have HTK : Hid (∀ (k : Nat) (x : Inl), xs[k]? = some x → plainL (xs.take (k + 1)) = plainL (xs.take k) ++ plain1 x) := fun k x h => plainL_take h
    have HIH := Lib.hid ih
    unfold WplP at HIH
    obtain ⟨a, c, rfl, hc⟩ := hv.form
    generalize hP : WplP B b cs (plainL xs) w = P at *
    clear hP hv hok hb ih
    go_enter Tryz.func56, Tryz.ntmps56
    go_wp2_with fail
    go_loopw [8] (fun i wr => ∃ k : Nat, k ≤ xs.length ∧ i = .int .i64 k ∧ Hid (Lib.IsBuilder 114 5 B b (cs ++ Lib.byteCells (plainL (xs.take k))) wr) ∧ Hid (Below B w wr)) (fun i _ => xs.length - (intOf i).toNat)
    case atStart => exact ⟨0, Nat.zero_le _, rfl, HB0.out, Below.refl _ _⟩
    case round =>
      obtain ⟨k, hk, rfl, HBR, HKR⟩ := hrel
      have hBr : B ≤ wr.heap.size := Nat.le_trans hB HKR.out.size
      by_cases hlt : k < xs.length
      · obtain ⟨x, hx⟩ : ∃ x, xs[k]? = some x := ⟨_, List.getElem?_eq_getElem hlt⟩
        have HVR := Lib.hid (HV.out.sam (Sam.below HKR.out (fun g h => h)) (fun g _ h => h))
        have hfit := (okIL_at HOK.out x (List.mem_of_getElem? hx)).fit
        have hle := HLE.out (k + 1)
        have HT := Lib.hid (HTK.out k x hx)
        rw [HT.out] at hle
        obtain ⟨g, o, vC, vP, vA, vT, vK, rfl, hg, -, -, -, ⟨d0, d1, d2, -, -, -, -, -, -, d9⟩, -, -, -, -, -, hK⟩ := Lns.at_ HVR.out k x hx
        obtain ⟨kind, text, dest, title, id, cls, prs, args, cits, kids⟩ := x
        simp only [Inl.kind, Inl.text, Inl.dest, Inl.kids] at d0 d1 d2 d9 hK hfit
        rw [plain1_mk] at HT hle
        obtain ⟨⟨f1, f2, -, -, -, -, -, -, f9⟩, f10⟩ := hfit
        have HKK := Lib.hid hK
        have HKO := Lib.hid f10
        rw [List.length_append] at hle
        have HNXT : Hid (∀ l w', plainL (xs.take (k + 1)) = plainL (xs.take k) ++ l → Lib.IsBuilder 114 5 B b (cs ++ Lib.byteCells (plainL (xs.take k)) ++ Lib.byteCells l) w' → Lib.IsBuilder 114 5 B b (cs ++ Lib.byteCells (plainL (xs.take (k + 1)))) w') := fun l w' e h => by
          rw [e, byteC_app, ← List.append_assoc]; exact h
        clear hK f10 hx HVR HTK HLE
        have hcl : (cs ++ Lib.byteCells (plainL (xs.take k))).length = cs.length + (plainL (xs.take k)).length := by simp [Lib.byteCells]
        generalize hQ : cs ++ Lib.byteCells (plainL (xs.take k)) = Q at *
        clear hQ
        generalize hp0 : plainL (xs.take k) = p0 at *
        generalize plainL xs = pA at *
        clear hp0
        by_cases hA : kind = 1 ∨ kind = 4 ∨ kind = 5
        · rw [if_pos hA] at HT hle
          have HST := Lib.hid (fun w h h2 => bld_string B b Q text w h (by omega) h2)
          have HN := Lib.hid (HNXT.out text)
          rcases hA with rfl | rfl | rfl
          all_goals
            clear HNXT
            go_wp2_with fail
            refine (HST.out _ HBR.out hBr).mono ?_
            rintro e w2 ⟨rfl, hb2, hk2⟩
            have HB2 := Lib.hid (HN.out w2 HT.out (.inr hb2))
            have HK2 := Lib.hid (Below.trans HKR.out hk2)
            clear hb2 hk2 HN HST
            go_wp2_with fail
            go_roundw
            case rel => exact ⟨k + 1, by omega, by go_num, HB2.out, HK2.out⟩
            case measure => simp [intOf]; omega
        · rw [if_neg hA] at HT hle
          obtain ⟨n1, n4, n5⟩ : kind ≠ 1 ∧ kind ≠ 4 ∧ kind ≠ 5 := ⟨fun e => hA (.inl e), fun e => hA (.inr (.inl e)), fun e => hA (.inr (.inr e))⟩
          by_cases hS : kind = 2 ∨ kind = 3
          · rw [if_pos hS] at HT hle
            have HST := Lib.hid (fun w h h2 => bld_byte B b Q 32 w h (by simp only [List.length_singleton] at hle; omega) h2)
            have HN := Lib.hid (HNXT.out [32])
            rcases hS with rfl | rfl
            all_goals
              clear HNXT n1 n4 n5 hA
              go_wp2_with fail
              refine (HST.out _ HBR.out hBr).mono ?_
              rintro e w2 ⟨rfl, hb2, hk2⟩
              have HB2 := Lib.hid (HN.out w2 HT.out (.inr hb2))
              have HK2 := Lib.hid (Below.trans HKR.out hk2)
              clear hb2 hk2 HN HST
              go_wp2_with fail
              go_roundw
              case rel => exact ⟨k + 1, by omega, by go_num, HB2.out, HK2.out⟩
              case measure => simp [intOf]; omega
          · rw [if_neg hS] at HT hle
            obtain ⟨n2, n3⟩ : kind ≠ 2 ∧ kind ≠ 3 := ⟨fun e => hS (.inl e), fun e => hS (.inr e)⟩
            by_cases hD : 6 ≤ kind ∧ kind ≤ 11
            · rw [if_pos hD] at HT hle
              have HST := Lib.hid (fun w h1 h2 h3 => HIH.out kids vK B b Q w h1 f9 HKO.out h2 (by omega) h3)
              have HN := Lib.hid (HNXT.out (plainL kids))
              obtain rfl | rfl | rfl | rfl | rfl | rfl : kind = 6 ∨ kind = 7 ∨ kind = 8 ∨ kind = 9 ∨ kind = 10 ∨ kind = 11 := by omega
              all_goals
                clear HNXT n1 n2 n3 n4 n5 hA hS hD HIH
                go_wp2_with fail
                refine (HST.out _ HKK.out HBR.out hBr).mono ?_
                rintro e w2 ⟨rfl, hb2, hk2⟩
                have HB2 := Lib.hid (HN.out w2 HT.out hb2)
                have HK2 := Lib.hid (Below.trans HKR.out hk2)
                clear hb2 hk2 HN HST
                go_wp2_with fail
                go_roundw
                case rel => exact ⟨k + 1, by omega, by go_num, HB2.out, HK2.out⟩
                case measure => simp [intOf]; omega
            · rw [if_neg hD] at HT hle
              by_cases h16 : kind = 16
              · rw [if_pos h16] at HT hle
                subst h16
                have HST := Lib.hid (fun w h h2 => bld_string B b Q dest w h (by omega) h2)
                have HN := Lib.hid (HNXT.out dest)
                clear HNXT n1 n2 n3 n4 n5 hA hS hD HIH
                go_wp2_with fail
                refine (HST.out _ HBR.out hBr).mono ?_
                rintro e w2 ⟨rfl, hb2, hk2⟩
                have HB2 := Lib.hid (HN.out w2 HT.out (.inr hb2))
                have HK2 := Lib.hid (Below.trans HKR.out hk2)
                clear hb2 hk2 HN HST
                go_wp2_with fail
                go_roundw
                case rel => exact ⟨k + 1, by omega, by go_num, HB2.out, HK2.out⟩
                case measure => simp [intOf]; omega
              · rw [if_neg h16] at HT hle
                have HB2 := Lib.hid (HNXT.out [] wr HT.out (by show Lib.IsBuilder _ _ _ _ (Q ++ []) _; rw [List.append_nil]; exact HBR.out))
                have q1 : (kind == 1) = false := by simpa using n1
                have q2 : (kind == 2) = false := by simpa using n2
                have q3 : (kind == 3) = false := by simpa using n3
                have q4 : (kind == 4) = false := by simpa using n4
                have q5 : (kind == 5) = false := by simpa using n5
                have q6 : (kind == 6) = false := by rw [beq_eq_false_iff_ne]; omega
                have q7 : (kind == 7) = false := by rw [beq_eq_false_iff_ne]; omega
                have q8 : (kind == 8) = false := by rw [beq_eq_false_iff_ne]; omega
                have q9 : (kind == 9) = false := by rw [beq_eq_false_iff_ne]; omega
                have q10 : (kind == 10) = false := by rw [beq_eq_false_iff_ne]; omega
                have q11 : (kind == 11) = false := by rw [beq_eq_false_iff_ne]; omega
                have q16 : (kind == 16) = false := by simpa using h16
                clear HNXT n1 n2 n3 n4 n5 hA hS hD h16 HIH
                go_wp2_with fail
                go_roundw
                case rel => exact ⟨k + 1, by omega, by go_num, HB2.out, HKR.out⟩
                case measure => simp [intOf]; omega
      · obtain rfl : k = xs.length := by omega
        have HF := Lib.hid (HFIN.out wr HBR.out HKR.out)
        clear HFIN HTK HLE HBR HKR
        go_wp2_with fail
        (try simp only [Exit.inBlock, Exit.then]); refine bodyPost_ret (results_none rfl _ _ _) rfl ?_
        exact HF.out
set_option maxRecDepth 100000 in
set_option maxHeartbeats 1600000 in
theorem plain_any {S : Nat → Prop} (n : Nat) (xs : List Inl) (v : Value) (w : World) (hv : Lns S n w v xs) (hN : xs.length ≤ 1000000) (hok : okIL xs) (hl : (plainL xs).length ≤ 100000000000) :
    Calls Tryz.prog 40 #[v] w fun e w' => e = .returned (.string (bs (plainL xs))) ∧ Kept w w' := by
  have HV := Lib.hid (hv.mono (S' := fun g => g < w.heap.size) (fun g hg _ => hg))
  have hB0 := Lib.fresh_isBuilder 114 5 w
  have HK0 := Lib.hid (kept_alloc w (.cells #[.pointer none, .slice none 0 0] 114))
  have HW := Lib.hid (wplain_any n xs v w.heap.size w.heap.size [] _ (HV.out.kept HK0.out) hN hok hB0 (by simp; omega) HK0.out.size)
  unfold WplP at HW
  obtain ⟨a, c, rfl, hc⟩ := hv.form
  generalize plainL xs = T at *
  clear hv hok
  go_enter Tryz.func40, Tryz.ntmps40
  go_wp2_with fail
  refine HW.out.mono ?_
  rintro e w1 ⟨rfl, hb1, hk1⟩
  have HB1 : Hid (Lib.IsBuilder 114 5 w.heap.size w.heap.size (Lib.byteCells T) w1) := hb1
  have HK1 := Lib.hid (HK0.out.trans' hk1)
  have hsz : w.heap.size ≤ w1.heap.size := HK1.out.size
  clear hb1 hk1 HW hB0
  go_wp2_with fail
  refine (Tryz.Builder_String_any w.heap.size w.heap.size T _ HB1.out hsz).mono ?_
  rintro e w5 ⟨rfl, hb5⟩
  have HK5 := Lib.hid (HK1.out.trans' hb5)
  clear hb5
  go_wp2_with fail
  go_ret
  exact ⟨rfl, HK5.out⟩
end Go.Proofs.YtnbhpmleboildaaGreatDoor

/- What marking keeps, in plain Lean: plain texts, terms, lengths. No condition. -/
set_option linter.all false
namespace Go.Proofs.YtnbhpmleboildaaGreatDoor
open Go.RowKit

mutual
theorem mk1_plain (used : List Bs) : ∀ (x : Inl) (n : Nat), plain1 (mk1 used n x).1 = plain1 x
  | .mk kind text dest title id cls prs args cits kids, n => by
    have h := mkL_plain used kids (numS used n (needI (.mk kind text dest title id cls prs args cits kids)))
    show plain1 (.mk kind text dest title _ cls prs args cits (mkL used _ kids).1) = _
    rw [plain1_mk, plain1_mk, h]
theorem mkL_plain (used : List Bs) : ∀ (xs : List Inl) (n : Nat), plainL (mkL used n xs).1 = plainL xs
  | [], _ => rfl
  | x :: xs, n => by
    have h1 := mk1_plain used x n
    have h2 := mkL_plain used xs (mk1 used n x).2
    show plain1 _ ++ plainL _ = plain1 x ++ plainL xs
    rw [h1, h2]
end
/-- An inline, but for its identifier and its kids', as it was. -/
def SameX (M : Nat) (y x : Inl) : Prop := y.kind = x.kind ∧ y.cls = x.cls ∧ y.prs = x.prs ∧ plainL y.kids = plainL x.kids ∧ (y.id = x.id ∨ ∃ m, m ≤ M ∧ y.id = idN m)
theorem SameX.term {M : Nat} {y x : Inl} (h : SameX M y x) : termTx y = termTx x := by
  unfold termTx; rw [h.2.2.1, h.2.2.2.1]
theorem mk1_shape (used : List Bs) (n : Nat) (kind : Int) (text dest title id : Bs) (cls : List Bs) (prs : List Pr) (args : List Bs) (cits : List Cit) (kids : List Inl) :
    ∃ b, mk1 used n (.mk kind text dest title id cls prs args cits kids) = (.mk kind text dest title (idS id (numS used n b) b) cls prs args cits (mkL used (numS used n b) kids).1, (mkL used (numS used n b) kids).2) := ⟨_, rfl⟩
mutual
theorem mk1_mem (used : List Bs) (M : Nat) : ∀ (x : Inl) (n : Nat), (mk1 used n x).2 ≤ M → ∀ y ∈ deep1 (mk1 used n x).1, ∃ x' ∈ deep1 x, SameX M y x'
  | .mk kind text dest title id cls prs args cits kids, n, hM, y, hy => by
    obtain ⟨b, e⟩ := mk1_shape used n kind text dest title id cls prs args cits kids
    rw [e] at hM hy
    have hb := (mkL_bnd used kids (numS used n b)).1
    have ih := mkL_mem used M kids (numS used n b) hM
    rw [deep1_eq] at hy
    rcases List.mem_cons.1 hy with rfl | q
    · refine ⟨.mk kind text dest title id cls prs args cits kids, (by rw [deep1_eq]; exact List.mem_cons_self ..), rfl, rfl, rfl, mkL_plain used kids _, ?_⟩
      cases b with
      | false => exact .inl rfl
      | true => exact .inr ⟨_, Nat.le_trans hb hM, rfl⟩
    · obtain ⟨x', h1, h2⟩ := ih y q
      exact ⟨x', by rw [deep1_eq]; exact List.mem_cons_of_mem _ h1, h2⟩
theorem mkL_mem (used : List Bs) (M : Nat) : ∀ (xs : List Inl) (n : Nat), (mkL used n xs).2 ≤ M → ∀ y ∈ deepL (mkL used n xs).1, ∃ x' ∈ deepL xs, SameX M y x'
  | [], _, _, y, hy => (List.not_mem_nil hy).elim
  | x :: xs, n, hM, y, hy => by
    have hb := (mkL_bnd used xs (mk1 used n x).2).1
    rcases List.mem_append.1 (show y ∈ deep1 (mk1 used n x).1 ++ deepL (mkL used (mk1 used n x).2 xs).1 from hy) with q | q
    · obtain ⟨x', h1, h2⟩ := mk1_mem used M x n (Nat.le_trans hb hM) y q
      exact ⟨x', List.mem_append.2 (.inl h1), h2⟩
    · obtain ⟨x', h1, h2⟩ := mkL_mem used M xs _ hM y q
      exact ⟨x', List.mem_append.2 (.inr h1), h2⟩
end
mutual
theorem mk1_deep (used : List Bs) : ∀ (x : Inl) (n : Nat), (deep1 (mk1 used n x).1).length = (deep1 x).length
  | .mk kind text dest title id cls prs args cits kids, n => by
    obtain ⟨b, e⟩ := mk1_shape used n kind text dest title id cls prs args cits kids
    have h := mkL_deep used kids (numS used n b)
    rw [e, deep1_eq, deep1_eq, List.length_cons, List.length_cons]
    show (deepL (mkL used (numS used n b) kids).1).length + 1 = (deepL kids).length + 1
    rw [h]
theorem mkL_deep (used : List Bs) : ∀ (xs : List Inl) (n : Nat), (deepL (mkL used n xs).1).length = (deepL xs).length
  | [], _ => rfl
  | x :: xs, n => by
    have h1 := mk1_deep used x n
    have h2 := mkL_deep used xs (mk1 used n x).2
    show (deep1 _ ++ deepL _).length = (deep1 x ++ deepL xs).length
    rw [List.length_append, List.length_append, h1, h2]
end
theorem idN_len {m : Nat} (h : m ≤ 1000000000000000) : (idN m).length ≤ 24 := by
  have := Lib.itoa_length_le (m : Int) (by omega) (by omega)
  unfold idN
  rw [List.length_append]
  simp only [List.length_cons, List.length_nil]
  omega
mutual
theorem mk1_ok (used : List Bs) : ∀ (x : Inl) (n : Nat), (mk1 used n x).2 ≤ 1000000000000000 → okI1 x → okI1 (mk1 used n x).1
  | .mk kind text dest title id cls prs args cits kids, n, hM, hx => by
    obtain ⟨b, e⟩ := mk1_shape used n kind text dest title id cls prs args cits kids
    rw [e] at hM ⊢
    have hb := (mkL_bnd used kids (numS used n b)).1
    have ih := mkL_ok used kids (numS used n b) hM hx.2
    obtain ⟨⟨h1, h2, h3, h4, h5, h6, h7, h8, h9⟩, _⟩ := hx
    refine ⟨⟨h1, h2, h3, ?_, h5, h6, h7, h8, by rw [mkL_len]; exact h9⟩, ih⟩
    cases b with
    | false => exact h4
    | true => exact Nat.le_trans (idN_len (Nat.le_trans hb hM)) (by decide)
theorem mkL_ok (used : List Bs) : ∀ (xs : List Inl) (n : Nat), (mkL used n xs).2 ≤ 1000000000000000 → okIL xs → okIL (mkL used n xs).1
  | [], _, _, h => h
  | x :: xs, n, hM, h => by
    have hb := (mkL_bnd used xs (mk1 used n x).2).1
    exact ⟨mk1_ok used x n (Nat.le_trans hb hM) h.1, mkL_ok used xs _ hM h.2⟩
end
mutual
theorem mb1_mem (used : List Bs) (M : Nat) : ∀ (x : Blo) (n : Nat), (mb1 used n x).2 ≤ M → ∀ y ∈ inls1 (mb1 used n x).1, ∃ x' ∈ inls1 x, SameX M y x'
  | .mk kind level info text dest title id cls prs line kids, n, hM, y, hy => by
    have hb := (mbL_bnd used kids (mkL used n line).2).1
    rcases List.mem_append.1 (show y ∈ deepL (mkL used n line).1 ++ inlsL (mbL used (mkL used n line).2 kids).1 from hy) with q | q
    · obtain ⟨x', h1, h2⟩ := mkL_mem used M line n (Nat.le_trans hb hM) y q
      exact ⟨x', List.mem_append.2 (.inl h1), h2⟩
    · obtain ⟨x', h1, h2⟩ := mbL_mem used M kids _ hM y q
      exact ⟨x', List.mem_append.2 (.inr h1), h2⟩
theorem mbL_mem (used : List Bs) (M : Nat) : ∀ (xs : List Blo) (n : Nat), (mbL used n xs).2 ≤ M → ∀ y ∈ inlsL (mbL used n xs).1, ∃ x' ∈ inlsL xs, SameX M y x'
  | [], _, _, y, hy => (List.not_mem_nil hy).elim
  | x :: xs, n, hM, y, hy => by
    have hb := (mbL_bnd used xs (mb1 used n x).2).1
    rcases List.mem_append.1 (show y ∈ inls1 (mb1 used n x).1 ++ inlsL (mbL used (mb1 used n x).2 xs).1 from hy) with q | q
    · obtain ⟨x', h1, h2⟩ := mb1_mem used M x n (Nat.le_trans hb hM) y q
      exact ⟨x', List.mem_append.2 (.inl h1), h2⟩
    · obtain ⟨x', h1, h2⟩ := mbL_mem used M xs _ hM y q
      exact ⟨x', List.mem_append.2 (.inr h1), h2⟩
end
mutual
theorem mb1_lens (used : List Bs) : ∀ (x : Blo) (n : Nat), (inls1 (mb1 used n x).1).length = (inls1 x).length ∧ (list1 (mb1 used n x).1).length = (list1 x).length
  | .mk kind level info text dest title id cls prs line kids, n => by
    have h1 := mkL_deep used line n
    obtain ⟨h2, h3⟩ := mbL_lens used kids (mkL used n line).2
    refine ⟨?_, ?_⟩
    · show (deepL (mkL used n line).1 ++ inlsL (mbL used (mkL used n line).2 kids).1).length = (deepL line ++ inlsL kids).length
      rw [List.length_append, List.length_append, h1, h2]
    · rw [list1_eq, list1_eq, List.length_cons, List.length_cons]
      show (listL (mbL used (mkL used n line).2 kids).1).length + 1 = (listL kids).length + 1
      rw [h3]
theorem mbL_lens (used : List Bs) : ∀ (xs : List Blo) (n : Nat), (inlsL (mbL used n xs).1).length = (inlsL xs).length ∧ (listL (mbL used n xs).1).length = (listL xs).length
  | [], _ => ⟨rfl, rfl⟩
  | x :: xs, n => by
    obtain ⟨h1, h2⟩ := mb1_lens used x n
    obtain ⟨h3, h4⟩ := mbL_lens used xs (mb1 used n x).2
    refine ⟨?_, ?_⟩
    · show (inls1 _ ++ inlsL _).length = (inls1 x ++ inlsL xs).length
      rw [List.length_append, List.length_append, h1, h3]
    · show (list1 _ ++ listL _).length = (list1 x ++ listL xs).length
      rw [List.length_append, List.length_append, h2, h4]
end
mutual
theorem mb1_ok (used : List Bs) : ∀ (x : Blo) (n : Nat), (mb1 used n x).2 ≤ 1000000000000000 → okB1 x → okB1 (mb1 used n x).1
  | .mk kind level info text dest title id cls prs line kids, n, hM, hx => by
    have hb := (mbL_bnd used kids (mkL used n line).2).1
    obtain ⟨⟨h1, h2, h3, h4, h5, h6, h7, h8, h9⟩, h10, h11⟩ := hx
    exact ⟨⟨h1, h2, h3, h4, h5, h6, h7, by rw [mkL_len]; exact h8, by rw [mbL_len]; exact h9⟩, mkL_ok used line n (Nat.le_trans hb hM) h10, mbL_ok used kids _ hM h11⟩
theorem mbL_ok (used : List Bs) : ∀ (xs : List Blo) (n : Nat), (mbL used n xs).2 ≤ 1000000000000000 → okBL xs → okBL (mbL used n xs).1
  | [], _, _, h => h
  | x :: xs, n, hM, h => by
    have hb := (mbL_bnd used xs (mb1 used n x).2).1
    exact ⟨mb1_ok used x n (Nat.le_trans hb hM) h.1, mbL_ok used xs _ hM h.2⟩
end
end Go.Proofs.YtnbhpmleboildaaGreatDoor
