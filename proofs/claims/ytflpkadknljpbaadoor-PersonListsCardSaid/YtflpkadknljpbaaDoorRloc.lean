/- The reference's languages, words and lists. Conditions: lengths. -/
import Derived.Test.YtflpkadknljpbaaDoorLList
import Derived.Test.YtflpkadknljpbaaDoorRini
set_option linter.all false
namespace Go.Proofs.YtflpkadknljpbaaDoor
open Go.RowKit

def langsL : List Bs := [lEn, lDe, lFr, lEs]
def idxL (l : Bs) : Int := if l = lEn then 0 else if l = lDe then 1 else if l = lFr then 2 else if l = lEs then 3 else -1
def langCells : Array Value := #[.string (bs [101, 110]), .string (bs [100, 101]), .string (bs [102, 114]), .string (bs [101, 115])]
set_option maxRecDepth 100000 in
theorem rlangs_any (w : World) : Calls Tryd.prog 63 #[] w fun e w' => e = .returned (.slice (some ⟨w.heap.size, 0, none⟩) 4 4) ∧ w' = w.alloc (.cells langCells 9) := by
  go_enter Tryd.func63, Tryd.ntmps63
  go_wp2_with fail
  go_ret
  exact ⟨rfl, rfl⟩
theorem lang_cases (k : Nat) (h : k < 4) : k = 0 ∨ k = 1 ∨ k = 2 ∨ k = 3 := by omega
set_option maxRecDepth 100000 in
set_option maxHeartbeats 1600000 in
theorem rindex_any (l : Bs) (w : World) : Calls Tryd.prog 93 #[.string (bs l)] w fun e w' => e = .returned (.int .i64 (idxL l)) ∧ Kept w w' := by
  go_enter Tryd.func93, Tryd.ntmps93
  go_wp2_with fail
  refine (rlangs_any _).mono ?_
  rintro e w1 ⟨rfl, rfl⟩
  have HB := Lib.hid (Blk.new w 9 langCells)
  have HK := Lib.hid (kept_alloc w (.cells langCells 9))
  generalize w.alloc (.cells langCells 9) = w1 at *
  have c0 : w1.cell? ⟨w.heap.size, 0, none⟩ = some (.string (bs [101, 110])) := HB.out.cell 0 _ rfl
  have c1 : w1.cell? ⟨w.heap.size, 1, none⟩ = some (.string (bs [100, 101])) := HB.out.cell 1 _ rfl
  have c2 : w1.cell? ⟨w.heap.size, 2, none⟩ = some (.string (bs [102, 114])) := HB.out.cell 2 _ rfl
  have c3 : w1.cell? ⟨w.heap.size, 3, none⟩ = some (.string (bs [101, 115])) := HB.out.cell 3 _ rfl
  have z := HB.out.lt
  go_wp2_with fail
  go_loop [4] (fun i => ∃ k : Nat, k ≤ 4 ∧ i = .int .i64 k ∧ Hid (∀ j, j < k → langsL[j]? ≠ some l)) (fun i => 4 - (intOf i).toNat)
  case atStart => exact ⟨0, Nat.zero_le _, rfl, fun j h => by omega⟩
  case round =>
    obtain ⟨k, hk, rfl, HN⟩ := hrel
    by_cases hlt : k < 4
    · rcases lang_cases k hlt with rfl | rfl | rfl | rfl
      · by_cases hx : [101, 110] = l
        · subst hx
          go_wp2_with fail
          go_ret
          exact ⟨rfl, HK.out⟩
        · have hx' : (([101, 110] : Bs) == l) = false := by simpa using hx
          have HN2 : Hid (∀ j, j < 1 → langsL[j]? ≠ some l) := fun j hj => by
            rcases (show j = 0 ∨ j = 0 by omega) with rfl | rfl
            · intro q; exact hx (by injection q)
            · intro q; exact hx (by injection q)
          go_wp2_with fail
          go_round
          case rel => exact ⟨1, by omega, by go_num, HN2.out⟩
          case measure => simp [intOf]
      · have n0 := HN.out 0 (by omega)
        by_cases hx : [100, 101] = l
        · subst hx
          go_wp2_with fail
          go_ret
          exact ⟨rfl, HK.out⟩
        · have hx' : (([100, 101] : Bs) == l) = false := by simpa using hx
          have HN2 : Hid (∀ j, j < 2 → langsL[j]? ≠ some l) := fun j hj => by
            rcases (show j = 0 ∨ j = 1 by omega) with rfl | rfl
            · exact n0
            · intro q; exact hx (by injection q)
          clear n0
          go_wp2_with fail
          go_round
          case rel => exact ⟨2, by omega, by go_num, HN2.out⟩
          case measure => simp [intOf]
      · by_cases hx : [102, 114] = l
        · subst hx
          go_wp2_with fail
          go_ret
          exact ⟨rfl, HK.out⟩
        · have hx' : (([102, 114] : Bs) == l) = false := by simpa using hx
          have HN2 : Hid (∀ j, j < 3 → langsL[j]? ≠ some l) := fun j hj => by
            rcases (show j < 2 ∨ j = 2 by omega) with h | rfl
            · exact HN.out j h
            · intro q; exact hx (by injection q)
          go_wp2_with fail
          go_round
          case rel => exact ⟨3, by omega, by go_num, HN2.out⟩
          case measure => simp [intOf]
      · by_cases hx : [101, 115] = l
        · subst hx
          go_wp2_with fail
          go_ret
          exact ⟨rfl, HK.out⟩
        · have hx' : (([101, 115] : Bs) == l) = false := by simpa using hx
          have HN2 : Hid (∀ j, j < 4 → langsL[j]? ≠ some l) := fun j hj => by
            rcases (show j < 3 ∨ j = 3 by omega) with h | rfl
            · exact HN.out j h
            · intro q; exact hx (by injection q)
          go_wp2_with fail
          go_round
          case rel => exact ⟨4, by omega, by go_num, HN2.out⟩
          case measure => simp [intOf]
    · have HI : Hid (idxL l = -1) := by
        have h := HN.out
        have h0 := h 0 (by omega)
        have h1 := h 1 (by omega)
        have h2 := h 2 (by omega)
        have h3 := h 3 (by omega)
        show _ = _
        unfold idxL
        rw [if_neg (fun q => h0 (by rw [q]; rfl)), if_neg (fun q => h1 (by rw [q]; rfl)), if_neg (fun q => h2 (by rw [q]; rfl)), if_neg (fun q => h3 (by rw [q]; rfl))]
      clear HN
      go_wp2_with fail
      go_ret
      exact ⟨ret_int HI.out.symm, HK.out⟩
def andCells : Array Value := #[.string (bs [97, 110, 100]), .string (bs [97, 110, 100]), .string (bs [117, 110, 100]), .string (bs [117, 110, 100]), .string (bs [101, 116]), .string (bs [101, 116]), .string (bs [121]), .string (bs [121])]
def othersCells : Array Value := #[.string (bs [111, 116, 104, 101, 114, 115]), .string (bs [111, 116, 104, 101, 114, 115]), .string (bs [97, 110, 100, 101, 114, 101]), .string (bs [97, 110, 100, 101, 114, 101]), .string (bs [97, 117, 116, 114, 101, 115]), .string (bs [97, 117, 116, 114, 101, 115]), .string (bs [111, 116, 114, 111, 115]), .string (bs [111, 116, 114, 111, 115])]
set_option maxRecDepth 100000 in
set_option maxHeartbeats 1600000 in
theorem rwords_and (w : World) : Calls Tryd.prog 94 #[.string (bs [97, 110, 100])] w fun e w' => e = .returned (.slice (some ⟨w.heap.size, 0, none⟩) 4 4) ∧ w' = w.alloc (.cells andCells 98) := by
  go_enter Tryd.func94, Tryd.ntmps94
  go_wp2_with fail
  go_ret
  exact ⟨rfl, rfl⟩
set_option maxRecDepth 100000 in
set_option maxHeartbeats 1600000 in
theorem rwords_others (w : World) : Calls Tryd.prog 94 #[.string (bs [111, 116, 104, 101, 114, 115])] w fun e w' => e = .returned (.slice (some ⟨w.heap.size, 0, none⟩) 4 4) ∧ w' = w.alloc (.cells othersCells 98) := by
  go_enter Tryd.func94, Tryd.ntmps94
  go_wp2_with fail
  go_ret
  exact ⟨rfl, rfl⟩

theorem and_blk {w : World} {g : Nat} (h : Blk w g 98 andCells) (k : Nat) (x : Bs) (hx : [[97, 110, 100], [117, 110, 100], [101, 116], [121]][k]? = some x) : w.cell? ⟨g, k * 2, none⟩ = some (.string (bs x)) ∧ w.cell? ⟨g, k * 2 + 1, none⟩ = some (.string (bs x)) := by
  match k with
  | 0 => cases hx; exact ⟨h.cell 0 _ rfl, h.cell 1 _ rfl⟩
  | 1 => cases hx; exact ⟨h.cell 2 _ rfl, h.cell 3 _ rfl⟩
  | 2 => cases hx; exact ⟨h.cell 4 _ rfl, h.cell 5 _ rfl⟩
  | 3 => cases hx; exact ⟨h.cell 6 _ rfl, h.cell 7 _ rfl⟩
  | k + 4 => cases hx
theorem others_blk {w : World} {g : Nat} (h : Blk w g 98 othersCells) (k : Nat) (x : Bs) (hx : [[111, 116, 104, 101, 114, 115], [97, 110, 100, 101, 114, 101], [97, 117, 116, 114, 101, 115], [111, 116, 114, 111, 115]][k]? = some x) : w.cell? ⟨g, k * 2, none⟩ = some (.string (bs x)) ∧ w.cell? ⟨g, k * 2 + 1, none⟩ = some (.string (bs x)) := by
  match k with
  | 0 => cases hx; exact ⟨h.cell 0 _ rfl, h.cell 1 _ rfl⟩
  | 1 => cases hx; exact ⟨h.cell 2 _ rfl, h.cell 3 _ rfl⟩
  | 2 => cases hx; exact ⟨h.cell 4 _ rfl, h.cell 5 _ rfl⟩
  | 3 => cases hx; exact ⟨h.cell 6 _ rfl, h.cell 7 _ rfl⟩
  | k + 4 => cases hx
/-- A word in a language that there is. -/
theorem rterm_some (key l x : Bs) (k : Nat) (hk : k < 4) (cs : Array Value) (n : Int) (w : World) (hi : idxL l = k)
    (HW : Hid (∀ w, Calls Tryd.prog 94 #[.string (bs key)] w fun e w' => e = .returned (.slice (some ⟨w.heap.size, 0, none⟩) 4 4) ∧ w' = w.alloc (.cells cs 98)))
    (HC : Hid (∀ (w : World) (g : Nat), Blk w g 98 cs → w.cell? ⟨g, k * 2, none⟩ = some (.string (bs x)) ∧ w.cell? ⟨g, k * 2 + 1, none⟩ = some (.string (bs x)))) :
    Calls Tryd.prog 65 #[.string (bs l), .string (bs key), .int .i64 n] w fun e w' => e = .returned (.tuple #[.string (bs x), .bool true]) ∧ Kept w w' := by
  have HI := Lib.hid (fun w => rindex_any l w)
  rw [hi] at HI
  clear hi
  by_cases hn : n = 1
  · subst hn
    go_enter Tryd.func65, Tryd.ntmps65
    go_wp2_with fail
    refine (HI.out _).mono ?_
    rintro e w1 ⟨rfl, hk1⟩
    have HK1 := Lib.hid hk1
    clear hk1
    go_wp2_with fail
    refine (HW.out _).mono ?_
    rintro e w2 ⟨rfl, rfl⟩
    obtain ⟨c0, c1⟩ := HC.out _ _ (Blk.new w1 98 cs)
    have HK2 := Lib.hid (HK1.out.trans (kept_alloc w1 (.cells cs 98)))
    have z := (Blk.new w1 98 cs).lt
    generalize w1.alloc (.cells cs 98) = w2 at *
    go_wp2_with fail
    go_ret2
    exact ⟨rfl, HK2.out⟩
  · have hn' : (n == 1) = false := by simpa using hn
    clear hn
    go_enter Tryd.func65, Tryd.ntmps65
    go_wp2_with fail
    refine (HI.out _).mono ?_
    rintro e w1 ⟨rfl, hk1⟩
    have HK1 := Lib.hid hk1
    clear hk1
    go_wp2_with fail
    refine (HW.out _).mono ?_
    rintro e w2 ⟨rfl, rfl⟩
    obtain ⟨c0, c1⟩ := HC.out _ _ (Blk.new w1 98 cs)
    have HK2 := Lib.hid (HK1.out.trans (kept_alloc w1 (.cells cs 98)))
    have z := (Blk.new w1 98 cs).lt
    generalize w1.alloc (.cells cs 98) = w2 at *
    go_wp2_with fail
    go_ret2
    exact ⟨rfl, HK2.out⟩
theorem rterm_none (key l : Bs) (cs : Array Value) (n : Int) (w : World) (hi : idxL l = -1)
    (HW : Hid (∀ w, Calls Tryd.prog 94 #[.string (bs key)] w fun e w' => e = .returned (.slice (some ⟨w.heap.size, 0, none⟩) 4 4) ∧ w' = w.alloc (.cells cs 98))) :
    Calls Tryd.prog 65 #[.string (bs l), .string (bs key), .int .i64 n] w fun e w' => e = .returned (.tuple #[.string (bs []), .bool false]) ∧ Kept w w' := by
  have HI := Lib.hid (fun w => rindex_any l w)
  rw [hi] at HI
  clear hi
  go_enter Tryd.func65, Tryd.ntmps65
  go_wp2_with fail
  refine (HI.out _).mono ?_
  rintro e w1 ⟨rfl, hk1⟩
  have HK1 := Lib.hid hk1
  clear hk1
  go_wp2_with fail
  refine (HW.out _).mono ?_
  rintro e w2 ⟨rfl, rfl⟩
  have HK2 := Lib.hid (HK1.out.trans (kept_alloc w1 (.cells cs 98)))
  generalize w1.alloc (.cells cs 98) = w2 at *
  go_wp2_with fail
  go_ret2
  exact ⟨rfl, HK2.out⟩
theorem rterm_and (l : Bs) (n : Int) (w : World) : Calls Tryd.prog 65 #[.string (bs l), .string (bs [97, 110, 100]), .int .i64 n] w fun e w' => e = .returned (.tuple #[.string (bs ((andOf l).getD [])), .bool (andOf l).isSome]) ∧ Kept w w' := by
  have HW := Lib.hid rwords_and
  by_cases h1 : l = lEn
  · subst h1; exact rterm_some _ lEn _ 0 (by omega) _ n w rfl HW (fun w g h => and_blk h 0 _ rfl)
  by_cases h2 : l = lDe
  · subst h2; exact rterm_some _ lDe _ 1 (by omega) _ n w rfl HW (fun w g h => and_blk h 1 _ rfl)
  by_cases h3 : l = lFr
  · subst h3; exact rterm_some _ lFr _ 2 (by omega) _ n w rfl HW (fun w g h => and_blk h 2 _ rfl)
  by_cases h4 : l = lEs
  · subst h4; exact rterm_some _ lEs _ 3 (by omega) _ n w rfl HW (fun w g h => and_blk h 3 _ rfl)
  unfold andOf
  rw [if_neg h1, if_neg h2, if_neg h3, if_neg h4]
  exact rterm_none _ l _ n w (by unfold idxL; rw [if_neg h1, if_neg h2, if_neg h3, if_neg h4]) HW
theorem rterm_others (l : Bs) (n : Int) (w : World) : Calls Tryd.prog 65 #[.string (bs l), .string (bs [111, 116, 104, 101, 114, 115]), .int .i64 n] w fun e w' => e = .returned (.tuple #[.string (bs ((othersOf l).getD [])), .bool (othersOf l).isSome]) ∧ Kept w w' := by
  have HW := Lib.hid rwords_others
  by_cases h1 : l = lEn
  · subst h1; exact rterm_some _ lEn _ 0 (by omega) _ n w rfl HW (fun w g h => others_blk h 0 _ rfl)
  by_cases h2 : l = lDe
  · subst h2; exact rterm_some _ lDe _ 1 (by omega) _ n w rfl HW (fun w g h => others_blk h 1 _ rfl)
  by_cases h3 : l = lFr
  · subst h3; exact rterm_some _ lFr _ 2 (by omega) _ n w rfl HW (fun w g h => others_blk h 2 _ rfl)
  by_cases h4 : l = lEs
  · subst h4; exact rterm_some _ lEs _ 3 (by omega) _ n w rfl HW (fun w g h => others_blk h 3 _ rfl)
  unfold othersOf
  rw [if_neg h1, if_neg h2, if_neg h3, if_neg h4]
  exact rterm_none _ l _ n w (by unfold idxL; rw [if_neg h1, if_neg h2, if_neg h3, if_neg h4]) HW
end Go.Proofs.YtflpkadknljpbaaDoor
