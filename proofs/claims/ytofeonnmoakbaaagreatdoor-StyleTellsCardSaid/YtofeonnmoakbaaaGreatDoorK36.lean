/- The reference's languages, words and lists. Conditions: lengths. -/
import Derived.Test.YtofeonnmoakbaaaGreatDoorK19
import Derived.Test.YtofeonnmoakbaaaGreatDoorK35
import Derived.Test.YtofeonnmoakbaaaGreatDoorK22

set_option linter.all false
namespace Go.Proofs.YtofeonnmoakbaaaGreatDoor
open Go.RowKit

def langsL : List Bs := [lEn, lDe, lFr, lEs]
def idxL (l : Bs) : Int := if l = lEn then 0 else if l = lDe then 1 else if l = lFr then 2 else if l = lEs then 3 else -1
def langCells : Array Value := #[.string (bs [101, 110]), .string (bs [100, 101]), .string (bs [102, 114]), .string (bs [101, 115])]
set_option maxRecDepth 100000 in
theorem rlangs_any (w : World) : Calls Tryz.prog 103 #[] w fun e w' => e = .returned (.slice (some ⟨w.heap.size, 0, none⟩) 4 4) ∧ w' = w.alloc (.cells langCells 9) := by
  go_enter Tryz.func103, Tryz.ntmps103
  go_wp2_with fail
  go_ret
  exact ⟨rfl, rfl⟩
theorem lang_cases (k : Nat) (h : k < 4) : k = 0 ∨ k = 1 ∨ k = 2 ∨ k = 3 := by omega
set_option maxRecDepth 100000 in
set_option maxHeartbeats 1600000 in
theorem rindex_any (l : Bs) (w : World) : Calls Tryz.prog 131 #[.string (bs l)] w fun e w' => e = .returned (.int .i64 (idxL l)) ∧ Kept w w' := by
  go_enter Tryz.func131, Tryz.ntmps131
  go_wp2_with fail
  refine (rlangs_any _).mono ?_
  rintro e w1 ⟨rfl, rfl⟩
  have HB := Lib.hid (Blk.new w 9 langCells)
  have HK := Lib.hid (kept_alloc w (.cells langCells 9))
  generalize w.alloc (.cells langCells 9) = w1 at *
  have c0 : w1.cell? ⟨w.heap.size, 0, none⟩ = some (.string (bs [101, 110])) := HB.out.cell 0 _ rfl
  have c1 : w1.cell? ⟨w.heap.size, 1, none⟩ = some (.string (bs [100, 101])) := HB.out.cell 1 _ rfl
  have c2 : w1.cell? ⟨w.heap.size, 2, none⟩ = some (.string (bs [102, 114])) := HB.out.cell 2 _ rfl
  have c3 : w1.cell? ⟨w.heap.size, 3, none⟩ = some (.string (bs [101, 115])) := HB.out.cell 3 _ rfl
  have z := HB.out.lt
  go_wp2_with fail
  go_loop [4] (fun i => ∃ k : Nat, k ≤ 4 ∧ i = .int .i64 k ∧ Hid (∀ j, j < k → langsL[j]? ≠ some l)) (fun i => 4 - (intOf i).toNat)
  case atStart => exact ⟨0, Nat.zero_le _, rfl, fun j h => by omega⟩
  case round =>
    obtain ⟨k, hk, rfl, HN⟩ := hrel
    by_cases hlt : k < 4
    · rcases lang_cases k hlt with rfl | rfl | rfl | rfl
      · by_cases hx : [101, 110] = l
        · subst hx
          go_wp2_with fail
          go_ret
          exact ⟨rfl, HK.out⟩
        · have hx' : (([101, 110] : Bs) == l) = false := by simpa using hx
          have HN2 : Hid (∀ j, j < 1 → langsL[j]? ≠ some l) := fun j hj => by
            rcases (show j = 0 ∨ j = 0 by omega) with rfl | rfl
            · intro q; exact hx (by injection q)
            · intro q; exact hx (by injection q)
          go_wp2_with fail
          go_round
          case rel => exact ⟨1, by omega, by go_num, HN2.out⟩
          case measure => simp [intOf]
      · have n0 := HN.out 0 (by omega)
        by_cases hx : [100, 101] = l
        · subst hx
          go_wp2_with fail
          go_ret
          exact ⟨rfl, HK.out⟩
        · have hx' : (([100, 101] : Bs) == l) = false := by simpa using hx
          have HN2 : Hid (∀ j, j < 2 → langsL[j]? ≠ some l) := fun j hj => by
            rcases (show j = 0 ∨ j = 1 by omega) with rfl | rfl
            · exact n0
            · intro q; exact hx (by injection q)
          clear n0
          go_wp2_with fail
          go_round
          case rel => exact ⟨2, by omega, by go_num, HN2.out⟩
          case measure => simp [intOf]
      · by_cases hx : [102, 114] = l
        · subst hx
          go_wp2_with fail
          go_ret
          exact ⟨rfl, HK.out⟩
        · have hx' : (([102, 114] : Bs) == l) = false := by simpa using hx
          have HN2 : Hid (∀ j, j < 3 → langsL[j]? ≠ some l) := fun j hj => by
            rcases (show j < 2 ∨ j = 2 by omega) with h | rfl
            · exact HN.out j h
            · intro q; exact hx (by injection q)
          go_wp2_with fail
          go_round
          case rel => exact ⟨3, by omega, by go_num, HN2.out⟩
          case measure => simp [intOf]
      · by_cases hx : [101, 115] = l
        · subst hx
          go_wp2_with fail
          go_ret
          exact ⟨rfl, HK.out⟩
        · have hx' : (([101, 115] : Bs) == l) = false := by simpa using hx
          have HN2 : Hid (∀ j, j < 4 → langsL[j]? ≠ some l) := fun j hj => by
            rcases (show j < 3 ∨ j = 3 by omega) with h | rfl
            · exact HN.out j h
            · intro q; exact hx (by injection q)
          go_wp2_with fail
          go_round
          case rel => exact ⟨4, by omega, by go_num, HN2.out⟩
          case measure => simp [intOf]
    · have HI : Hid (idxL l = -1) := by
        have h := HN.out
        have h0 := h 0 (by omega)
        have h1 := h 1 (by omega)
        have h2 := h 2 (by omega)
        have h3 := h 3 (by omega)
        show _ = _
        unfold idxL
        rw [if_neg (fun q => h0 (by rw [q]; rfl)), if_neg (fun q => h1 (by rw [q]; rfl)), if_neg (fun q => h2 (by rw [q]; rfl)), if_neg (fun q => h3 (by rw [q]; rfl))]
      clear HN
      go_wp2_with fail
      go_ret
      exact ⟨ret_int HI.out.symm, HK.out⟩
def andCells : Array Value := #[.string (bs [97, 110, 100]), .string (bs [97, 110, 100]), .string (bs [117, 110, 100]), .string (bs [117, 110, 100]), .string (bs [101, 116]), .string (bs [101, 116]), .string (bs [121]), .string (bs [121])]
def othersCells : Array Value := #[.string (bs [111, 116, 104, 101, 114, 115]), .string (bs [111, 116, 104, 101, 114, 115]), .string (bs [97, 110, 100, 101, 114, 101]), .string (bs [97, 110, 100, 101, 114, 101]), .string (bs [97, 117, 116, 114, 101, 115]), .string (bs [97, 117, 116, 114, 101, 115]), .string (bs [111, 116, 114, 111, 115]), .string (bs [111, 116, 114, 111, 115])]
set_option maxRecDepth 100000 in
set_option maxHeartbeats 1600000 in
theorem rwords_and (w : World) : Calls Tryz.prog 132 #[.string (bs [97, 110, 100])] w fun e w' => e = .returned (.slice (some ⟨w.heap.size, 0, none⟩) 4 4) ∧ w' = w.alloc (.cells andCells 149) := by
  go_enter Tryz.func132, Tryz.ntmps132
  go_wp2_with fail
  go_ret
  exact ⟨rfl, rfl⟩
set_option maxRecDepth 100000 in
set_option maxHeartbeats 1600000 in
theorem rwords_others (w : World) : Calls Tryz.prog 132 #[.string (bs [111, 116, 104, 101, 114, 115])] w fun e w' => e = .returned (.slice (some ⟨w.heap.size, 0, none⟩) 4 4) ∧ w' = w.alloc (.cells othersCells 149) := by
  go_enter Tryz.func132, Tryz.ntmps132
  go_wp2_with fail
  go_ret
  exact ⟨rfl, rfl⟩

theorem and_blk {w : World} {g : Nat} (h : Blk w g 149 andCells) (k : Nat) (x : Bs) (hx : [[97, 110, 100], [117, 110, 100], [101, 116], [121]][k]? = some x) : w.cell? ⟨g, k * 2, none⟩ = some (.string (bs x)) ∧ w.cell? ⟨g, k * 2 + 1, none⟩ = some (.string (bs x)) := by
  match k with
  | 0 => cases hx; exact ⟨h.cell 0 _ rfl, h.cell 1 _ rfl⟩
  | 1 => cases hx; exact ⟨h.cell 2 _ rfl, h.cell 3 _ rfl⟩
  | 2 => cases hx; exact ⟨h.cell 4 _ rfl, h.cell 5 _ rfl⟩
  | 3 => cases hx; exact ⟨h.cell 6 _ rfl, h.cell 7 _ rfl⟩
  | k + 4 => cases hx
theorem others_blk {w : World} {g : Nat} (h : Blk w g 149 othersCells) (k : Nat) (x : Bs) (hx : [[111, 116, 104, 101, 114, 115], [97, 110, 100, 101, 114, 101], [97, 117, 116, 114, 101, 115], [111, 116, 114, 111, 115]][k]? = some x) : w.cell? ⟨g, k * 2, none⟩ = some (.string (bs x)) ∧ w.cell? ⟨g, k * 2 + 1, none⟩ = some (.string (bs x)) := by
  match k with
  | 0 => cases hx; exact ⟨h.cell 0 _ rfl, h.cell 1 _ rfl⟩
  | 1 => cases hx; exact ⟨h.cell 2 _ rfl, h.cell 3 _ rfl⟩
  | 2 => cases hx; exact ⟨h.cell 4 _ rfl, h.cell 5 _ rfl⟩
  | 3 => cases hx; exact ⟨h.cell 6 _ rfl, h.cell 7 _ rfl⟩
  | k + 4 => cases hx
/-- A word in a language that there is. -/
theorem rterm_some (key l x : Bs) (k : Nat) (hk : k < 4) (cs : Array Value) (n : Int) (w : World) (hi : idxL l = k)
    (HW : Hid (∀ w, Calls Tryz.prog 132 #[.string (bs key)] w fun e w' => e = .returned (.slice (some ⟨w.heap.size, 0, none⟩) 4 4) ∧ w' = w.alloc (.cells cs 149)))
    (HC : Hid (∀ (w : World) (g : Nat), Blk w g 149 cs → w.cell? ⟨g, k * 2, none⟩ = some (.string (bs x)) ∧ w.cell? ⟨g, k * 2 + 1, none⟩ = some (.string (bs x)))) :
    Calls Tryz.prog 107 #[.string (bs l), .string (bs key), .int .i64 n] w fun e w' => e = .returned (.tuple #[.string (bs x), .bool true]) ∧ Kept w w' := by
  have HI := Lib.hid (fun w => rindex_any l w)
  rw [hi] at HI
  clear hi
  by_cases hn : n = 1
  · subst hn
    go_enter Tryz.func107, Tryz.ntmps107
    go_wp2_with fail
    refine (HI.out _).mono ?_
    rintro e w1 ⟨rfl, hk1⟩
    have HK1 := Lib.hid hk1
    clear hk1
    go_wp2_with fail
    refine (HW.out _).mono ?_
    rintro e w2 ⟨rfl, rfl⟩
    obtain ⟨c0, c1⟩ := HC.out _ _ (Blk.new w1 149 cs)
    have HK2 := Lib.hid (HK1.out.trans (kept_alloc w1 (.cells cs 149)))
    have z := (Blk.new w1 149 cs).lt
    generalize w1.alloc (.cells cs 149) = w2 at *
    go_wp2_with fail
    go_ret2
    exact ⟨rfl, HK2.out⟩
  · have hn' : (n == 1) = false := by simpa using hn
    clear hn
    go_enter Tryz.func107, Tryz.ntmps107
    go_wp2_with fail
    refine (HI.out _).mono ?_
    rintro e w1 ⟨rfl, hk1⟩
    have HK1 := Lib.hid hk1
    clear hk1
    go_wp2_with fail
    refine (HW.out _).mono ?_
    rintro e w2 ⟨rfl, rfl⟩
    obtain ⟨c0, c1⟩ := HC.out _ _ (Blk.new w1 149 cs)
    have HK2 := Lib.hid (HK1.out.trans (kept_alloc w1 (.cells cs 149)))
    have z := (Blk.new w1 149 cs).lt
    generalize w1.alloc (.cells cs 149) = w2 at *
    go_wp2_with fail
    go_ret2
    exact ⟨rfl, HK2.out⟩
theorem rterm_none (key l : Bs) (cs : Array Value) (n : Int) (w : World) (hi : idxL l = -1)
    (HW : Hid (∀ w, Calls Tryz.prog 132 #[.string (bs key)] w fun e w' => e = .returned (.slice (some ⟨w.heap.size, 0, none⟩) 4 4) ∧ w' = w.alloc (.cells cs 149))) :
    Calls Tryz.prog 107 #[.string (bs l), .string (bs key), .int .i64 n] w fun e w' => e = .returned (.tuple #[.string (bs []), .bool false]) ∧ Kept w w' := by
  have HI := Lib.hid (fun w => rindex_any l w)
  rw [hi] at HI
  clear hi
  go_enter Tryz.func107, Tryz.ntmps107
  go_wp2_with fail
  refine (HI.out _).mono ?_
  rintro e w1 ⟨rfl, hk1⟩
  have HK1 := Lib.hid hk1
  clear hk1
  go_wp2_with fail
  refine (HW.out _).mono ?_
  rintro e w2 ⟨rfl, rfl⟩
  have HK2 := Lib.hid (HK1.out.trans (kept_alloc w1 (.cells cs 149)))
  generalize w1.alloc (.cells cs 149) = w2 at *
  go_wp2_with fail
  go_ret2
  exact ⟨rfl, HK2.out⟩
theorem rterm_and (l : Bs) (n : Int) (w : World) : Calls Tryz.prog 107 #[.string (bs l), .string (bs [97, 110, 100]), .int .i64 n] w fun e w' => e = .returned (.tuple #[.string (bs ((andOf l).getD [])), .bool (andOf l).isSome]) ∧ Kept w w' := by
  have HW := Lib.hid rwords_and
  by_cases h1 : l = lEn
  · subst h1; exact rterm_some _ lEn _ 0 (by omega) _ n w rfl HW (fun w g h => and_blk h 0 _ rfl)
  by_cases h2 : l = lDe
  · subst h2; exact rterm_some _ lDe _ 1 (by omega) _ n w rfl HW (fun w g h => and_blk h 1 _ rfl)
  by_cases h3 : l = lFr
  · subst h3; exact rterm_some _ lFr _ 2 (by omega) _ n w rfl HW (fun w g h => and_blk h 2 _ rfl)
  by_cases h4 : l = lEs
  · subst h4; exact rterm_some _ lEs _ 3 (by omega) _ n w rfl HW (fun w g h => and_blk h 3 _ rfl)
  unfold andOf
  rw [if_neg h1, if_neg h2, if_neg h3, if_neg h4]
  exact rterm_none _ l _ n w (by unfold idxL; rw [if_neg h1, if_neg h2, if_neg h3, if_neg h4]) HW
theorem rterm_others (l : Bs) (n : Int) (w : World) : Calls Tryz.prog 107 #[.string (bs l), .string (bs [111, 116, 104, 101, 114, 115]), .int .i64 n] w fun e w' => e = .returned (.tuple #[.string (bs ((othersOf l).getD [])), .bool (othersOf l).isSome]) ∧ Kept w w' := by
  have HW := Lib.hid rwords_others
  by_cases h1 : l = lEn
  · subst h1; exact rterm_some _ lEn _ 0 (by omega) _ n w rfl HW (fun w g h => others_blk h 0 _ rfl)
  by_cases h2 : l = lDe
  · subst h2; exact rterm_some _ lDe _ 1 (by omega) _ n w rfl HW (fun w g h => others_blk h 1 _ rfl)
  by_cases h3 : l = lFr
  · subst h3; exact rterm_some _ lFr _ 2 (by omega) _ n w rfl HW (fun w g h => others_blk h 2 _ rfl)
  by_cases h4 : l = lEs
  · subst h4; exact rterm_some _ lEs _ 3 (by omega) _ n w rfl HW (fun w g h => others_blk h 3 _ rfl)
  unfold othersOf
  rw [if_neg h1, if_neg h2, if_neg h3, if_neg h4]
  exact rterm_none _ l _ n w (by unfold idxL; rw [if_neg h1, if_neg h2, if_neg h3, if_neg h4]) HW
end Go.Proofs.YtofeonnmoakbaaaGreatDoor

/- The reference's Initials and Inverted. Conditions: lengths. -/
set_option linter.all false
namespace Go.Proofs.YtofeonnmoakbaaaGreatDoor
open Go.RowKit

theorem pieces_mem (c : UInt8) (l x : Bs) (h : x ∈ piecesOf c l) : x ≠ [] ∧ x.length ≤ l.length := by
  unfold piecesOf at h
  obtain ⟨h1, h2⟩ := List.mem_filter.1 h
  refine ⟨by simpa [nonE] using h2, ?_⟩
  have hs : ∀ (xs : List Bs) (x : Bs), x ∈ xs → x.length + 1 ≤ (xs.map (fun x => x.length + 1)).sum := by
    intro xs
    induction xs with
    | nil => intro x h; cases h
    | cons a r ih =>
      intro x h
      simp only [List.map_cons, List.sum_cons]
      rcases List.mem_cons.1 h with rfl | h
      · omega
      · have := ih x h; omega
  have := hs _ x h1
  rw [splitC_sum] at this; omega
theorem pieces_count (c : UInt8) (l : Bs) : (piecesOf c l).length ≤ l.length + 1 := by
  unfold piecesOf
  have h1 := List.length_filter_le nonE (splitC c l)
  rw [splitC_length] at h1
  have h2 := List.count_le_length (l := l) (a := c)
  omega
theorem join_snoc2 (sep : Bs) (xs : List Bs) (x : Bs) : Lib.join (xs ++ [x]) sep = (if xs = [] then [] else Lib.join xs sep ++ sep) ++ x := by
  cases xs with
  | nil => simp [Lib.join_one]
  | cons a r =>
    rw [List.cons_append, Lib.join_cons, Lib.join_cons]
    simp [Lib.joinTail]
theorem join_max (sep : Bs) (m : Nat) (xs : List Bs) (h : ∀ x ∈ xs, x.length ≤ m) : (Lib.join xs sep).length ≤ xs.length * (m + sep.length) := by
  refine snoc_ind (P := fun xs => (∀ x ∈ xs, x.length ≤ m) → (Lib.join xs sep).length ≤ xs.length * (m + sep.length)) ?_ ?_ xs h
  · intro _; rw [Lib.join_nil]; simp
  · intro xs x ih hx
    have h1 := ih (fun y hy => hx y (by simp [hy]))
    have h2 := hx x (by simp)
    rw [join_snoc2, List.length_append, List.length_append, Nat.add_mul]
    simp only [List.length_cons, List.length_nil, Nat.zero_add, Nat.one_mul]
    split
    · simp; omega
    · rw [List.length_append]; omega
theorem pieceI_len (x : Bs) : (pieceI x).length ≤ 5 := by unfold pieceI; have := encL_len (dec (bs x) 0).1; simp; omega
theorem iniJ_len (ys : List Bs) : (Lib.join (ys.map pieceI) [45]).length ≤ 6 * ys.length := by
  have := join_max [45] 5 (ys.map pieceI) (fun x hx => by obtain ⟨y, _, rfl⟩ := List.mem_map.1 hx; exact pieceI_len y)
  simp at this; omega
theorem bulk_max (m : Nat) (xs : List Bs) (h : ∀ x ∈ xs, x.length ≤ m) : bulk xs ≤ xs.length * (m + 1) := by
  unfold bulk
  induction xs with
  | nil => simp
  | cons a r ih =>
    have h1 := ih (fun x hx => h x (by simp [hx]))
    have h2 := h a (by simp)
    simp only [List.map_cons, List.sum_cons, List.length_cons, Nat.add_mul, Nat.one_mul]; omega
theorem map_take2 (f : Bs → Bs) (ps : List Bs) (k : Nat) (q : Bs) (h : ps[k]? = some q) : (ps.take (k + 1)).map f = (ps.take k).map f ++ [f q] := by
  obtain ⟨hk, rfl⟩ := List.getElem?_eq_some_iff.1 h
  rw [List.take_succ_eq_append_getElem hk, List.map_append]; rfl

end Go.Proofs.YtofeonnmoakbaaaGreatDoor

/- The reference's enumeration, and its list of persons. Conditions: lengths. -/
set_option linter.all false
namespace Go.Proofs.YtofeonnmoakbaaaGreatDoor
open Go.RowKit

/-- What the enumeration has gathered behind k texts. -/
def accR (l : Bs) (xs : List Bs) (k : Nat) : Bs := if k = xs.length then listL l xs else Lib.join (xs.take k) sepL
theorem accR_zero (l : Bs) (xs : List Bs) : accR l xs 0 = [] := by
  unfold accR
  by_cases h : 0 = xs.length
  · rw [if_pos h]
    obtain rfl : xs = [] := List.length_eq_zero_iff.1 h.symm
    unfold listL; rw [if_pos (.inr (by simp)), Lib.join_nil]
  · rw [if_neg h]; simp [Lib.join_nil]
theorem join_step (xs : List Bs) (k : Nat) (x : Bs) (h : xs[k]? = some x) : Lib.join (xs.take (k + 1)) sepL = (if k = 0 then [] else Lib.join (xs.take k) sepL ++ sepL) ++ x := by
  obtain ⟨hk, rfl⟩ := List.getElem?_eq_some_iff.1 h
  rw [List.take_succ_eq_append_getElem hk, join_snoc2]
  by_cases q : k = 0
  · subst q; simp
  · rw [if_neg q, if_neg]
    intro e
    have := congrArg List.length e
    rw [List.length_take, List.length_nil] at this; omega
theorem accR_before (l : Bs) (xs : List Bs) (k : Nat) (h : k < xs.length) : accR l xs k = Lib.join (xs.take k) sepL := by unfold accR; rw [if_neg (by omega)]
/-- A text that is not the last of several in a known language. -/
theorem accR_plain (l : Bs) (xs : List Bs) (k : Nat) (x : Bs) (h : xs[k]? = some x) (hp : ¬ (0 < k ∧ k = xs.length - 1 ∧ (andOf l).isSome = true)) : accR l xs (k + 1) = (if k = 0 then [] else accR l xs k ++ sepL) ++ x := by
  have hk := (List.getElem?_eq_some_iff.1 h).1
  rw [accR_before l xs k hk, ← join_step xs k x h]
  by_cases q : k + 1 = xs.length
  · have e : accR l xs (k + 1) = listL l xs := by unfold accR; rw [if_pos q]
    rw [e, List.take_of_length_le (by omega)]
    unfold listL
    rw [if_pos]
    by_cases q0 : 0 < k
    · left
      cases hs : (andOf l).isSome
      · rfl
      · exact absurd ⟨q0, by omega, hs⟩ hp
    · right; omega
  · unfold accR; rw [if_neg q]
theorem accR_last (l : Bs) (xs : List Bs) (k : Nat) (x : Bs) (h : xs[k]? = some x) (h0 : 0 < k) (h1 : k = xs.length - 1) (hs : (andOf l).isSome = true) : accR l xs (k + 1) = accR l xs k ++ [32] ++ (andOf l).getD [] ++ [32] ++ x := by
  have hk := (List.getElem?_eq_some_iff.1 h).1
  rw [accR_before l xs k hk]
  have e : accR l xs (k + 1) = listL l xs := by unfold accR; rw [if_pos (by omega)]
  rw [e]
  unfold listL
  rw [if_neg (by rw [hs]; simp; omega)]
  have e1 : xs.dropLast = xs.take k := by rw [List.dropLast_eq_take, h1]
  have e2 : xs.getLastD [] = x := by
    rw [List.getLastD_eq_getLast?, List.getLast?_eq_getElem?, ← h1, h]; rfl
  rw [e1, e2]
theorem accR_len (l : Bs) (xs : List Bs) (m : Nat) (h : ∀ x ∈ xs, x.length ≤ m) (k : Nat) (hk : k < xs.length) : (accR l xs k).length ≤ xs.length * (m + 2) := by
  rw [accR_before l xs k hk]
  have h1 := join_max sepL m (xs.take k) (fun x hx => h x (List.mem_of_mem_take hx))
  have h2 : (xs.take k).length ≤ xs.length := by simp; omega
  have := Nat.mul_le_mul_right (m + 2) h2
  have e : sepL.length = 2 := rfl
  rw [e] at h1
  omega

set_option maxRecDepth 100000 in
set_option maxHeartbeats 3200000 in
theorem rllist_any (l : Bs) (v : Value) (xs : List Bs) (w : World) (hv : Strs w v xs) (hN : xs.length ≤ 900) (hm : ∀ x ∈ xs, x.length ≤ 10004) :
    Calls Tryz.prog 106 #[.string (bs l), v] w fun e w' => e = .returned (.string (bs (listL l xs))) ∧ Kept w w' := by
  have HT := Lib.hid (fun w => rterm_and l 1 w)
  have hal := andOf_len l
  have HM := Lib.hid hm
  have HV := Lib.hid hv
  have HZ := Lib.hid (accR_zero l xs)
  have HP := Lib.hid (accR_plain l xs)
  have HL := Lib.hid (accR_last l xs)
  have HLEN := Lib.hid (fun k hk => accR_len l xs 10004 hm k hk)
  have HEND : Hid (accR l xs xs.length = listL l xs) := by show _ = _; unfold accR; rw [if_pos rfl]
  have HSP : Hid (sepL = [44, 32]) := rfl
  clear hm
  generalize (andOf l).getD [] = an at *
  generalize (andOf l).isSome = ok at *
  obtain ⟨a, c, rfl, hc, h3⟩ := hv
  clear h3
  go_enter Tryz.func106, Tryz.ntmps106
  go_wp2_with fail
  refine (HT.out _).mono ?_
  rintro e w1 ⟨rfl, hk1⟩
  have HK1 := Lib.hid hk1
  clear hk1
  go_wp2_with fail
  simp only [mk_bs]
  go_loop [7, 8] (fun s i => ∃ k : Nat, k ≤ xs.length ∧ i = .int .i64 k ∧ s = .string (bs (accR l xs k))) (fun _ i => xs.length - (intOf i).toNat)
  case atStart => exact ⟨0, Nat.zero_le _, rfl, by rw [HZ.out]⟩
  case round =>
    obtain ⟨k, hk, rfl, rfl⟩ := hrel
    by_cases hlt : k < xs.length
    · obtain ⟨x, hx⟩ : ∃ x, xs[k]? = some x := ⟨_, List.getElem?_eq_getElem hlt⟩
      obtain ⟨a', c', hv', hc', h3⟩ := HV.out.kept HK1.out
      obtain ⟨rfl, hdead, rfl⟩ := Value.slice.inj hv'
      clear hdead hc'
      obtain ⟨g, o, rfl, hg, hcc⟩ := h3 (by omega)
      have c0 := hcc k x hx
      have hxm := HM.out x (List.mem_of_getElem? hx)
      have hjl := HLEN.out k hlt
      have hjl : (accR l xs k).length ≤ 10000000 := by
        have := Nat.mul_le_mul_right (10004 + 2) hN; omega
      have HPX := Lib.hid (HP.out k x hx)
      have HLX := Lib.hid (HL.out k x hx)
      clear hcc h3 hv' hx
      obtain ⟨nx, HNX⟩ : ∃ nx, Hid (accR l xs (k + 1) = nx) := ⟨_, rfl⟩
      rw [HNX.out] at HPX HLX
      generalize hak : accR l xs k = ak at *
      have HAK := Lib.hid hak
      clear hak
      by_cases h0 : k = 0
      · subst h0
        obtain rfl : ak = [] := HAK.out.symm.trans HZ.out
        have HX : Hid (nx = x) := by show _ = _; rw [HPX.out (by omega)]; simp
        clear HPX HLX
        rw [Nat.add_zero] at c0
        go_wp2_with fail
        go_round
        case rel => exact ⟨1, by omega, by go_num, by rw [HNX.out, HX.out]⟩
        case measure => simp [intOf]; omega
      · have hpos : 0 < k := by omega
        by_cases hl : k = xs.length - 1
        · have hb : ((k : Int) == (xs.length : Int) - 1) = true := by rw [beq_iff_eq]; omega
          cases ok
          · have HX : Hid (nx = ak ++ [44, 32] ++ x) := by show _ = _; rw [HPX.out (by simp), if_neg h0]; rfl
            clear HPX HLX hl h0
            go_wp2_with fail
            go_round
            case rel => exact ⟨k + 1, by omega, by go_num, by rw [HNX.out, HX.out]; simp⟩
            case measure => simp [intOf]; omega
          · have HX : Hid (nx = ak ++ [32] ++ an ++ [32] ++ x) := HLX.out hpos hl rfl
            clear HPX HLX hl h0
            go_wp2_with fail
            go_round
            case rel => exact ⟨k + 1, by omega, by go_num, by rw [HNX.out, HX.out]; simp⟩
            case measure => simp [intOf]; omega
        · have hb : ((k : Int) == (xs.length : Int) - 1) = false := by rw [beq_eq_false_iff_ne]; omega
          have HX : Hid (nx = ak ++ [44, 32] ++ x) := by show _ = _; rw [HPX.out (fun q => hl q.2.1), if_neg h0]; rfl
          clear HPX HLX hl h0
          go_wp2_with fail
          go_round
          case rel => exact ⟨k + 1, by omega, by go_num, by rw [HNX.out, HX.out]; simp⟩
          case measure => simp [intOf]; omega
    · obtain rfl : k = xs.length := by omega
      rw [HEND.out]
      go_wp2_with fail
      go_ret
      exact ⟨rfl, HK1.out⟩
end Go.Proofs.YtofeonnmoakbaaaGreatDoor
