/- Plain words on the text of a collation, as the reference builds it; what the reference says of rules and letters. No condition. -/
import Derived.Test.YtpfbdgcgpghifaaGreatDoorK14
import Derived.Test.YtpfbdgcgpghifaaGreatDoorK05

set_option linter.all false
namespace Go.Proofs.YtpfbdgcgpghifaaGreatDoor
open Go.RowKit

/-- The first line, as far as it is written. -/
def ordT (xs : List Bs) (k : Nat) : Bs := if k = 0 then [] else kOrder ++ (xs.take k).flatMap fun x => 32 :: x
theorem ordT_next (xs : List Bs) (k : Nat) (x : Bs) (h : xs[k]? = some x) : ordT xs (k + 1) = (if k = 0 then kOrder else ordT xs k) ++ ([32] ++ x) := by
  obtain ⟨hk, rfl⟩ := List.getElem?_eq_some_iff.1 h
  unfold ordT
  rw [if_neg (by omega), List.take_succ_eq_append_getElem hk, List.flatMap_append]
  by_cases q : k = 0
  · subst q; simp
  · rw [if_neg q, if_neg q]; simp
theorem ordT_join (xs : List Bs) (h : xs ≠ []) : ordT xs xs.length = [111, 114, 100, 101, 114, 32] ++ Lib.join xs [32] := by
  have e : ∀ ys : List Bs, ys ≠ [] → (ys.flatMap fun x => 32 :: x) = 32 :: Lib.join ys [32] := by
    intro ys
    induction ys with
    | nil => intro q; exact absurd rfl q
    | cons y r ih =>
      intro _
      cases r with
      | nil => simp [Lib.join_one]
      | cons z r => rw [List.flatMap_cons, ih (by simp), join_2]; simp
  unfold ordT
  have hl : ¬ xs.length = 0 := fun q => h (List.length_eq_zero_iff.1 q)
  rw [if_neg hl, List.take_of_length_le (Nat.le_refl _), e xs h]
  simp [kOrder]
theorem ordT_nil (xs : List Bs) : ordT xs xs.length = [] ↔ xs = [] := by
  constructor
  · intro h
    apply Classical.byContradiction
    intro q
    rw [ordT_join xs q] at h
    simp at h
  · rintro rfl; rfl
/-- The lines of the ranks. -/
def rnkT (ps : List Pr) : Bs := ps.flatMap fun p => [97, 115, 32] ++ p.1 ++ [32] ++ p.2 ++ [10]
theorem rnkT_next (ps : List Pr) (k : Nat) (p : Pr) (h : ps[k]? = some p) : rnkT (ps.take (k + 1)) = rnkT (ps.take k) ++ ([97, 115, 32] ++ p.1 ++ [32] ++ p.2 ++ [10]) := by
  obtain ⟨hk, rfl⟩ := List.getElem?_eq_some_iff.1 h
  unfold rnkT
  rw [List.take_succ_eq_append_getElem hk, List.flatMap_append]
  simp
theorem colS_at (c : ColT) (h : colE c = 0) : colS c = (if c.order = [] then [] else ordT c.order c.order.length ++ [10]) ++ rnkT c.ranks ++ (if c.ignore = [] then [] else [105, 103, 110, 111, 114, 101, 32] ++ c.ignore ++ [10]) := by
  unfold colS colL joinLn rnkT
  rw [if_pos h]
  have e1 : (if c.order = [] then ([] : List Bs) else [[111, 114, 100, 101, 114, 32] ++ Lib.join c.order [32]]).flatMap (fun x => x ++ [10]) = (if c.order = [] then [] else ordT c.order c.order.length ++ [10]) := by
    by_cases q : c.order = []
    · rw [if_pos q, if_pos q]; rfl
    · rw [if_neg q, if_neg q, ordT_join _ q]; simp
  have e2 : (if c.ignore = [] then ([] : List Bs) else [[105, 103, 110, 111, 114, 101, 32] ++ c.ignore]).flatMap (fun x => x ++ [10]) = (if c.ignore = [] then [] else [105, 103, 110, 111, 114, 101, 32] ++ c.ignore ++ [10]) := by
    by_cases q : c.ignore = []
    · rw [if_pos q, if_pos q]; rfl
    · rw [if_neg q, if_neg q]; simp
  rw [List.flatMap_append, List.flatMap_append, e1, e2]
  congr 2
  simp [rankLine, List.flatMap_map]
/-- Letters put to others, one more of them. -/
theorem addA_app : ∀ (xs ys l : List Int), addA l (xs ++ ys) = match addA l xs with
    | none => none
    | some l' => addA l' ys
  | [], ys, l => rfl
  | x :: xs, ys, l => by
    rw [List.cons_append, show addA l (x :: (xs ++ ys)) = (if l.contains x = true then none else addA (l ++ [x]) (xs ++ ys)) from rfl, show addA l (x :: xs) = (if l.contains x = true then none else addA (l ++ [x]) xs) from rfl]
    split
    · rfl
    · exact addA_app xs ys _
theorem addA_one (l : List Int) (x : Int) : addA l [x] = if l.contains x = true then none else some (l ++ [x]) := by
  show (if l.contains x = true then none else addA (l ++ [x]) []) = _
  split <;> rfl
/-- The letters k on of a list are put to what the first k left. -/
theorem addA_take (xs l : List Int) (k : Nat) (h : k < xs.length) : addA l (xs.take (k + 1)) = match addA l (xs.take k) with
    | none => none
    | some l' => if l'.contains xs[k] = true then none else some (l' ++ [xs[k]]) := by
  rw [List.take_succ_eq_append_getElem h, addA_app]
  cases addA l (xs.take k) with
  | none => rfl
  | some l' => exact addA_one l' _
theorem addA_none (xs l : List Int) (k : Nat) (hk : k ≤ xs.length) (h : addA l (xs.take k) = none) : addA l xs = none := by
  rw [← List.take_append_drop k xs, addA_app, h]
end Go.Proofs.YtpfbdgcgpghifaaGreatDoor

/- The reference's Valid of layer 1. No condition but the length. -/
set_option linter.all false
namespace Go.Proofs.YtpfbdgcgpghifaaGreatDoor
open Go.RowKit

theorem all_from {α : Type} (f : α → Bool) (l : List α) (k : Nat) (p : α) (h : l[k]? = some p) : (l.drop k).all f = (f p && (l.drop (k + 1)).all f) := by
  obtain ⟨hk, rfl⟩ := List.getElem?_eq_some_iff.1 h
  rw [List.drop_eq_getElem_cons hk, List.all_cons]
theorem all_start {α : Type} (f : α → Bool) (l : List α) (b : Bool) (h : b = l.all f) : Hid (b = (l.drop 0).all f) := by unfold Hid; simpa using h

set_option maxRecDepth 100000 in
set_option maxHeartbeats 1600000 in
theorem rvalid_any (s : ByteArray) (w : World) (hs : s.size ≤ 1000000000) :
    Calls Tryz.prog 31 #[.string s] w fun e w' => e = .returned (.bool (validB s)) ∧ Kept w w' := by
  have hlen : (points s).length ≤ s.size := by have := pts_len s 0; unfold points; omega
  have HV := validB_points s
  go_enter Tryz.func31, Tryz.ntmps31
  go_wp2_with fail
  refine (points_any s _ hs).mono ?_
  rintro e w1 ⟨v, rfl, hown, hk⟩
  generalize points s = pts at *
  obtain ⟨a, c, rfl, h1, h2, h3⟩ := own_cap hown
  have hat := ptCells_at pts
  have H3 := Lib.hid h3
  have HAT := Lib.hid hat
  have HK := Lib.hid hk
  have HVS := all_start _ _ _ HV
  clear h3 hat hk hown HV
  go_wp2_with fail
  go_loopw [8] (fun i wr => ∃ (k : Nat), k ≤ pts.length ∧ i = .int .i64 k ∧ Hid (validB s = (pts.drop k).all goodPt) ∧ Kept w1 wr) (fun i _ => pts.length - (intOf i).toNat)
  case atStart => exact ⟨0, Nat.zero_le _, rfl, HVS, Kept.refl _⟩
  case round =>
    obtain ⟨k, hkl, rfl, HP, hkr⟩ := hrel
    by_cases hlt : k < pts.length
    · obtain ⟨g, rfl, _, hg, hcell⟩ := H3.out (by omega)
      obtain ⟨p, hp⟩ : ∃ p, pts[k]? = some p := ⟨_, List.getElem?_eq_getElem hlt⟩
      have HA : Hid ((pts.drop k).all goodPt = (goodPt p && (pts.drop (k + 1)).all goodPt)) := all_from goodPt pts k p hp
      obtain ⟨c0, c1⟩ := HAT.out k p hp
      have c0' : wr.cell? ⟨g, k * 2, none⟩ = some (.int .i64 p.1) := (hkr.cell (p := ⟨g, k * 2, none⟩) hg).trans (hcell _ _ (by rw [Nat.mul_comm]; exact c0))
      have c1' : wr.cell? ⟨g, k * 2 + 1, none⟩ = some (.int .i64 p.2) := (hkr.cell (p := ⟨g, k * 2 + 1, none⟩) hg).trans (hcell _ _ (by rw [Nat.mul_comm]; exact c1))
      have HR := Lib.hid hkr
      clear hkr hcell hp c0 c1
      obtain ⟨c, n⟩ := p
      simp only at c0' c1'
      have hgr : g < wr.heap.size := by have := HR.out.size; omega
      have tt : (cleanOf c = false ∧ goodPt (c, n) = false) ∨ (cleanOf c = true ∧ (c == 65533) = false ∧ goodPt (c, n) = true) ∨ (cleanOf c = true ∧ (c == 65533) = true ∧ (n == 1) = false ∧ goodPt (c, n) = true) ∨ (cleanOf c = true ∧ (c == 65533) = true ∧ (n == 1) = true ∧ goodPt (c, n) = false) := by
        unfold goodPt
        cases cleanOf c <;> cases (c == 65533) <;> cases (n == 1) <;> simp
      rcases tt with ⟨t1, t4⟩ | ⟨t1, t2, t4⟩ | ⟨t1, t2, t3, t4⟩ | ⟨t1, t2, t3, t4⟩
      all_goals
        have HG := Lib.hid t4
        clear t4
        go_wp2_with (go_at_call 80; refine (rclean_any _ _).mono ?_; rintro e w' ⟨rfl, rfl⟩)
        first
        | (go_ret
           exact ⟨ret_bool (by rw [HP.out, HA.out, HG.out]; rfl), (HK.out.trans HR.out).trans (kept_alloc _ _)⟩)
        | (go_roundw
           case rel => exact ⟨k + 1, by omega, by go_num, by show _ = _; rw [HP.out, HA.out, HG.out]; simp, HR.out.trans (kept_alloc _ _)⟩
           case measure => simp [intOf]; omega)
    · have HR := Lib.hid hkr
      clear hkr
      go_wp2_with fail
      go_ret
      exact ⟨ret_bool (by rw [HP.out, List.drop_of_length_le (by omega)]; rfl), HK.out.trans HR.out⟩
end Go.Proofs.YtpfbdgcgpghifaaGreatDoor
