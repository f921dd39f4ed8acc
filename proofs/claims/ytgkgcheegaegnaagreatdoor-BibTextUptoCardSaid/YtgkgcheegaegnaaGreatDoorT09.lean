/- The reference's Valid of layer 1. No condition but the length. -/
import Derived.Test.YtgkgcheegaegnaaGreatDoorT05
import Derived.Test.YtgkgcheegaegnaaGreatDoorT02
import Derived.Test.YtgkgcheegaegnaaGreatDoorShelf

set_option linter.all false
namespace Go.Proofs.YtgkgcheegaegnaaGreatDoor
open Go.RowKit

theorem all_from {α : Type} (f : α → Bool) (l : List α) (k : Nat) (p : α) (h : l[k]? = some p) : (l.drop k).all f = (f p && (l.drop (k + 1)).all f) := by
  obtain ⟨hk, rfl⟩ := List.getElem?_eq_some_iff.1 h
  rw [List.drop_eq_getElem_cons hk, List.all_cons]
theorem all_start {α : Type} (f : α → Bool) (l : List α) (b : Bool) (h : b = l.all f) : Hid (b = (l.drop 0).all f) := by unfold Hid; simpa using h

set_option maxRecDepth 100000 in
set_option maxHeartbeats 1600000 in
theorem rvalid_any (s : ByteArray) (w : World) (hs : s.size ≤ 1000000000) :
    Calls Tryz.prog 26 #[.string s] w fun e w' => e = .returned (.bool (validB s)) ∧ Kept w w' := by
  have hlen : (points s).length ≤ s.size := by have := pts_len s 0; unfold points; omega
  have HV := validB_points s
  go_enter Tryz.func26, Tryz.ntmps26
  go_wp2_with fail
  refine (points_any s _ hs).mono ?_
  rintro e w1 ⟨v, rfl, hown, hk⟩
  generalize points s = pts at *
  obtain ⟨a, c, rfl, h1, h2, h3⟩ := own_cap hown
  have hat := ptCells_at pts
  have H3 := Lib.hid h3
  have HAT := Lib.hid hat
  have HK := Lib.hid hk
  have HVS := all_start _ _ _ HV
  clear h3 hat hk hown HV
  go_wp2_with fail
  go_loopw [8] (fun i wr => ∃ (k : Nat), k ≤ pts.length ∧ i = .int .i64 k ∧ Hid (validB s = (pts.drop k).all goodPt) ∧ Kept w1 wr) (fun i _ => pts.length - (intOf i).toNat)
  case atStart => exact ⟨0, Nat.zero_le _, rfl, HVS, Kept.refl _⟩
  case round =>
    obtain ⟨k, hkl, rfl, HP, hkr⟩ := hrel
    by_cases hlt : k < pts.length
    · obtain ⟨g, rfl, _, hg, hcell⟩ := H3.out (by omega)
      obtain ⟨p, hp⟩ : ∃ p, pts[k]? = some p := ⟨_, List.getElem?_eq_getElem hlt⟩
      have HA : Hid ((pts.drop k).all goodPt = (goodPt p && (pts.drop (k + 1)).all goodPt)) := all_from goodPt pts k p hp
      obtain ⟨c0, c1⟩ := HAT.out k p hp
      have c0' : wr.cell? ⟨g, k * 2, none⟩ = some (.int .i64 p.1) := (hkr.cell (p := ⟨g, k * 2, none⟩) hg).trans (hcell _ _ (by rw [Nat.mul_comm]; exact c0))
      have c1' : wr.cell? ⟨g, k * 2 + 1, none⟩ = some (.int .i64 p.2) := (hkr.cell (p := ⟨g, k * 2 + 1, none⟩) hg).trans (hcell _ _ (by rw [Nat.mul_comm]; exact c1))
      have HR := Lib.hid hkr
      clear hkr hcell hp c0 c1
      obtain ⟨c, n⟩ := p
      simp only at c0' c1'
      have hgr : g < wr.heap.size := by have := HR.out.size; omega
      have tt : (cleanOf c = false ∧ goodPt (c, n) = false) ∨ (cleanOf c = true ∧ (c == 65533) = false ∧ goodPt (c, n) = true) ∨ (cleanOf c = true ∧ (c == 65533) = true ∧ (n == 1) = false ∧ goodPt (c, n) = true) ∨ (cleanOf c = true ∧ (c == 65533) = true ∧ (n == 1) = true ∧ goodPt (c, n) = false) := by
        unfold goodPt
        cases cleanOf c <;> cases (c == 65533) <;> cases (n == 1) <;> simp
      rcases tt with ⟨t1, t4⟩ | ⟨t1, t2, t4⟩ | ⟨t1, t2, t3, t4⟩ | ⟨t1, t2, t3, t4⟩
      all_goals
        have HG := Lib.hid t4
        clear t4
        go_wp2_with (go_at_call 51; refine (rclean_any _ _).mono ?_; rintro e w' ⟨rfl, rfl⟩)
        first
        | (go_ret
           exact ⟨ret_bool (by rw [HP.out, HA.out, HG.out]; rfl), (HK.out.trans HR.out).trans (kept_alloc _ _)⟩)
        | (go_roundw
           case rel => exact ⟨k + 1, by omega, by go_num, by show _ = _; rw [HP.out, HA.out, HG.out]; simp, HR.out.trans (kept_alloc _ _)⟩
           case measure => simp [intOf]; omega)
    · have HR := Lib.hid hkr
      clear hkr
      go_wp2_with fail
      go_ret
      exact ⟨ret_bool (by rw [HP.out, List.drop_of_length_le (by omega)]; rfl), HK.out.trans HR.out⟩
end Go.Proofs.YtgkgcheegaegnaaGreatDoor

/- A text cleaned of spaces: the program's way and the reference's. No condition but the length. -/
set_option linter.all false
namespace Go.Proofs.YtgkgcheegaegnaaGreatDoor
open Go.RowKit


theorem keepStep_sp (o : Bs) (b : UInt8) (hb : b = 32) (h : o = [] ∨ o.getLast? = some 32) : keepStep o b = o := by unfold keepStep; rw [if_pos ⟨hb, h⟩]
theorem keepStep_ad (o : Bs) (b : UInt8) (h : b ≠ 32 ∨ (o ≠ [] ∧ o.getLast? ≠ some 32)) : keepStep o b = o ++ [b] := by
  unfold keepStep; rw [if_neg]; rintro ⟨q, r⟩; rcases h with h | ⟨h1, h2⟩
  · exact h q
  · rcases r with r | r
    · exact h1 r
    · exact h2 r
theorem last_at8 (o : Bs) (h : o ≠ []) : o.getLast? = some 32 ↔ at8 o (o.length - 1) = 32 := by
  have hl : o.length - 1 < o.length := by have := List.length_pos_iff.2 h; omega
  rw [at8_get o _ hl, List.getLast?_eq_getElem?, List.getElem?_eq_getElem hl, Option.some.injEq]
  exact (u8_int _ 32 (by decide)).symm

set_option maxRecDepth 100000 in
set_option maxHeartbeats 1600000 in
theorem rcleaned_any (l : Bs) (w : World) (hs : l.length ≤ 1000000000) :
    Calls Tryz.prog 39 #[.string (bs l)] w fun e w' => e = .returned (.string (bs (cleanL l))) ∧ w = w' := by
  go_enter Tryz.func39, Tryz.ntmps39
  go_wp2
  go_loop [3, 4] (fun v i => ∃ (k : Nat) (o : Bs), k ≤ l.length ∧ i = .int .i64 k ∧ v = .string (bs o) ∧ o.length ≤ k ∧ Hid (o = keepRun (l.take k))) (fun _ i => l.length - (intOf i).toNat)
  case atStart => exact ⟨0, [], Nat.zero_le _, rfl, rfl, Nat.le_refl _, rfl⟩
  case round =>
    obtain ⟨k, o, hk, rfl, rfl, ho, HO⟩ := hrel
    by_cases hlt : k < l.length
    · have i0 := run_ix (P := Tryz.prog) (t := 9) Tryz.underlying9 l k hlt k rfl
      have sl := run_sub (P := Tryz.prog) (t := 9) Tryz.underlying9 l k (k + 1) (by omega) (by omega) k (k + 1) rfl (by omega) _ (sub_one l k hlt)
      have HN : Hid (keepRun (l.take (k + 1)) = keepStep o l[k]) := by show _ = _; rw [take_next l k hlt, keepRun_snoc, ← HO.out]
      have h0 := at8_lo l k
      have h1 := at8_hi l k
      have HC : Hid (at8 l k = 32 ↔ l[k] = 32) := by show _ ↔ _; rw [at8_get l k hlt]; exact u8_int _ 32 (by decide)
      generalize l[k] = x at *
      generalize at8 l k = b at *
      by_cases he : o = []
      · subst he
        by_cases hb : b = 32
        · have HX : Hid (keepStep [] x = []) := keepStep_sp _ _ (HC.out.1 hb) (.inl rfl)
          go_wp2_with fail
          go_round
          case rel => exact ⟨k + 1, [], by omega, by go_num, rfl, by simp, by show _ = _; rw [HN.out, HX.out]⟩
          case measure => simp [intOf]; omega
        · have hb' : (b == 32) = false := by simpa using hb
          have HX : Hid (keepStep [] x = [x]) := keepStep_ad _ _ (.inl fun q => hb (HC.out.2 q))
          clear hb
          go_wp2_with fail
          go_round
          case rel => exact ⟨k + 1, [x], by omega, by go_num, rfl, by simp, by show _ = _; rw [HN.out, HX.out]⟩
          case measure => simp [intOf]; omega
      · have hl : o.length - 1 < o.length := by have := List.length_pos_iff.2 he; omega
        have HL := Lib.hid (last_at8 o he)
        have i1 := run_ix (P := Tryz.prog) (t := 9) Tryz.underlying9 o (o.length - 1) hl (o.length - 1) (by omega)
        have hee : o.isEmpty = false := by simpa using he
        generalize at8 o (o.length - 1) = c at *
        by_cases hb : b = 32 ∧ c = 32
        · obtain ⟨hb, hc⟩ := hb
          have HX : Hid (keepStep o x = o) := keepStep_sp _ _ (HC.out.1 hb) (.inr (HL.out.2 hc))
          go_wp2_with fail
          go_round
          case rel => exact ⟨k + 1, o, by omega, by go_num, rfl, by omega, by show _ = _; rw [HN.out, HX.out]⟩
          case measure => simp [intOf]; omega
        · have HX : Hid (keepStep o x = o ++ [x]) := keepStep_ad _ _ (by
            by_cases q : b = 32
            · exact .inr ⟨he, fun r => hb ⟨q, HL.out.1 r⟩⟩
            · exact .inl fun r => q (HC.out.2 r))
          have tt : (b == 32) = false ∨ (b == 32) = true ∧ (c == 32) = false := by
            simp only [beq_iff_eq, beq_eq_false_iff_ne, ne_eq]; omega
          clear hb
          rcases tt with t1 | ⟨t1, t2⟩
          all_goals
            go_wp2_with fail
            go_round
            case rel => exact ⟨k + 1, o ++ [x], by omega, by go_num, by simp, by simp; omega, by show _ = _; rw [HN.out, HX.out]⟩
            case measure => simp [intOf]; omega
    · have HE : Hid (cleanL l = keepEnd o) := by
        show _ = _
        rw [← keepEnd_eq, HO.out, List.take_of_length_le (by omega)]
      by_cases he : o = []
      · subst he
        go_wp2_with fail
        go_ret
        exact ⟨ret_bs (by rw [HE.out]; rfl), rfl⟩
      · have hl : o.length - 1 < o.length := by have := List.length_pos_iff.2 he; omega
        have HL := Lib.hid (last_at8 o he)
        have i1 := run_ix (P := Tryz.prog) (t := 9) Tryz.underlying9 o (o.length - 1) hl (o.length - 1) (by omega)
        have sl := run_upto (P := Tryz.prog) (t := 9) Tryz.underlying9 o (o.length - 1) (by omega) (o.length - 1) (by omega) o.dropLast (by rw [List.dropLast_eq_take])
        have hee : o.isEmpty = false := by simpa using he
        generalize at8 o (o.length - 1) = c at *
        by_cases hc : c = 32
        · have HX : Hid (keepEnd o = o.dropLast) := by show _ = _; unfold keepEnd; rw [if_pos (HL.out.2 hc)]
          go_wp2_with fail
          go_ret
          exact ⟨ret_bs (by rw [HE.out, HX.out]), rfl⟩
        · have HX : Hid (keepEnd o = o) := by show _ = _; unfold keepEnd; rw [if_neg (fun q => hc (HL.out.1 q))]
          have hc' : (c == 32) = false := by simpa using hc
          clear hc
          go_wp2_with fail
          go_ret
          exact ⟨ret_bs (by rw [HE.out, HX.out]), rfl⟩
end Go.Proofs.YtgkgcheegaegnaaGreatDoor
