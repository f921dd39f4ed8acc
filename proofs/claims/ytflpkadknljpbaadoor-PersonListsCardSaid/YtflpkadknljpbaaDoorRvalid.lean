/- The reference's Valid of layer 1. No condition but the length. -/
import Derived.Test.YtflpkadknljpbaaDoorPoints
set_option linter.all false
namespace Go.Proofs.YtflpkadknljpbaaDoor
open Go.RowKit

theorem all_from {α : Type} (f : α → Bool) (l : List α) (k : Nat) (p : α) (h : l[k]? = some p) : (l.drop k).all f = (f p && (l.drop (k + 1)).all f) := by
  obtain ⟨hk, rfl⟩ := List.getElem?_eq_some_iff.1 h
  rw [List.drop_eq_getElem_cons hk, List.all_cons]
theorem all_start {α : Type} (f : α → Bool) (l : List α) (b : Bool) (h : b = l.all f) : Hid (b = (l.drop 0).all f) := by unfold Hid; simpa using h

set_option maxRecDepth 100000 in
set_option maxHeartbeats 1600000 in
theorem rvalid_any (s : ByteArray) (w : World) (hs : s.size ≤ 1000000000) :
    Calls Tryd.prog 86 #[.string s] w fun e w' => e = .returned (.bool (validB s)) ∧ Kept w w' := by
  have hlen : (points s).length ≤ s.size := by have := pts_len s 0; unfold points; omega
  have HV := validB_points s
  go_enter Tryd.func86, Tryd.ntmps86
  go_wp2_with fail
  refine (points_any s _ hs).mono ?_
  rintro e w1 ⟨v, rfl, hown, hk⟩
  generalize points s = pts at *
  obtain ⟨a, c, rfl, h1, h2, h3⟩ := own_cap hown
  have hat := ptCells_at pts
  have H3 := Lib.hid h3
  have HAT := Lib.hid hat
  have HK := Lib.hid hk
  have HVS := all_start _ _ _ HV
  clear h3 hat hk hown HV
  go_wp2_with fail
  go_loopw [8] (fun i wr => ∃ (k : Nat), k ≤ pts.length ∧ i = .int .i64 k ∧ Hid (validB s = (pts.drop k).all goodPt) ∧ Kept w1 wr) (fun i _ => pts.length - (intOf i).toNat)
  case atStart => exact ⟨0, Nat.zero_le _, rfl, HVS, Kept.refl _⟩
  case round =>
    obtain ⟨k, hkl, rfl, HP, hkr⟩ := hrel
    by_cases hlt : k < pts.length
    · obtain ⟨g, rfl, _, hg, hcell⟩ := H3.out (by omega)
      obtain ⟨p, hp⟩ : ∃ p, pts[k]? = some p := ⟨_, List.getElem?_eq_getElem hlt⟩
      have HA : Hid ((pts.drop k).all goodPt = (goodPt p && (pts.drop (k + 1)).all goodPt)) := all_from goodPt pts k p hp
      obtain ⟨c0, c1⟩ := HAT.out k p hp
      have c0' : wr.cell? ⟨g, k * 2, none⟩ = some (.int .i64 p.1) := (hkr.cell (p := ⟨g, k * 2, none⟩) hg).trans (hcell _ _ (by rw [Nat.mul_comm]; exact c0))
      have c1' : wr.cell? ⟨g, k * 2 + 1, none⟩ = some (.int .i64 p.2) := (hkr.cell (p := ⟨g, k * 2 + 1, none⟩) hg).trans (hcell _ _ (by rw [Nat.mul_comm]; exact c1))
      have HR := Lib.hid hkr
      clear hkr hcell hp c0 c1
      obtain ⟨c, n⟩ := p
      simp only at c0' c1'
      have hgr : g < wr.heap.size := by have := HR.out.size; omega
      have tt : (cleanOf c = false ∧ goodPt (c, n) = false) ∨ (cleanOf c = true ∧ (c == 65533) = false ∧ goodPt (c, n) = true) ∨ (cleanOf c = true ∧ (c == 65533) = true ∧ (n == 1) = false ∧ goodPt (c, n) = true) ∨ (cleanOf c = true ∧ (c == 65533) = true ∧ (n == 1) = true ∧ goodPt (c, n) = false) := by
        unfold goodPt
        cases cleanOf c <;> cases (c == 65533) <;> cases (n == 1) <;> simp
      rcases tt with ⟨t1, t4⟩ | ⟨t1, t2, t4⟩ | ⟨t1, t2, t3, t4⟩ | ⟨t1, t2, t3, t4⟩
      all_goals
        have HG := Lib.hid t4
        clear t4
        go_wp2_with (go_at_call 110; refine (rclean_any _ _).mono ?_; rintro e w' ⟨rfl, rfl⟩)
        first
        | (go_ret
           exact ⟨ret_bool (by rw [HP.out, HA.out, HG.out]; rfl), (HK.out.trans HR.out).trans (kept_alloc _ _)⟩)
        | (go_roundw
           case rel => exact ⟨k + 1, by omega, by go_num, by show _ = _; rw [HP.out, HA.out, HG.out]; simp, HR.out.trans (kept_alloc _ _)⟩
           case measure => simp [intOf]; omega)
    · have HR := Lib.hid hkr
      clear hkr
      go_wp2_with fail
      go_ret
      exact ⟨ret_bool (by rw [HP.out, List.drop_of_length_le (by omega)]; rfl), HK.out.trans HR.out⟩
end Go.Proofs.YtflpkadknljpbaaDoor
