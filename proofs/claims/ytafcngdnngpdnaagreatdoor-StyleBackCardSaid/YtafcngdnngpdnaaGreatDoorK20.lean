/- joined, Full, Short of package person and of its reference. Conditions: lengths. -/
import Derived.Test.YtafcngdnngpdnaaGreatDoorK19
import Derived.Test.YtafcngdnngpdnaaGreatDoorK02
import Derived.Test.YtafcngdnngpdnaaGreatDoorShelf

set_option linter.all false
namespace Go.Proofs.YtafcngdnngpdnaaGreatDoor
open Go.RowKit

def joinedL (xs : List Bs) : Bs := Lib.join (xs.filter nonE) [32]
def bulk (xs : List Bs) : Nat := (xs.map (fun x => x.length + 1)).sum
theorem joinedL_le (xs : List Bs) : (joinedL xs).length ≤ bulk xs := Nat.le_trans (join_len_le _) (sum_filter_le _ _)
theorem bulk_len (xs : List Bs) : xs.length ≤ bulk xs := by
  unfold bulk
  induction xs with
  | nil => simp
  | cons a r ih => simp only [List.map_cons, List.sum_cons, List.length_cons]; omega
theorem bulk_take (xs : List Bs) (k : Nat) : bulk (xs.take k) ≤ bulk xs := by
  unfold bulk
  conv => rhs; rw [← List.take_append_drop k xs]
  rw [List.map_append, List.sum_append]; omega
theorem joinedL_snoc (xs : List Bs) (x : Bs) : joinedL (xs ++ [x]) = (if joinedL xs ≠ [] ∧ x ≠ [] then joinedL xs ++ [32] else joinedL xs) ++ x := by
  unfold joinedL
  rw [List.filter_append]
  by_cases hx : x = []
  · subst hx
    simp [nonE]
  · have e : [x].filter nonE = [x] := by simp [nonE, hx]
    rw [e, join_snoc]
    by_cases hf : xs.filter nonE = []
    · rw [hf]; simp [Lib.join_nil]
    · have hne : Lib.join (xs.filter nonE) [32] ≠ [] := by
        cases hq : xs.filter nonE with
        | nil => exact absurd hq hf
        | cons a r =>
          have ha : a ∈ xs.filter nonE := by rw [hq]; simp
          have ha' : a ≠ [] := by have := (List.mem_filter.1 ha).2; simpa [nonE] using this
          rw [Lib.join_cons]; simp [ha']
      rw [if_neg hf, if_pos ⟨hne, hx⟩]

set_option maxRecDepth 100000 in
set_option maxHeartbeats 1600000 in
theorem joined_any (v : Value) (sp : List Bs) (w : World) (hv : Strs w v sp) (hs : bulk sp ≤ 100000000) :
    Calls Tryz.prog 106 #[v] w fun e w' => e = .returned (.string (bs (joinedL sp))) ∧ Kept w w' := by
  obtain ⟨i0, hi, hz0, hz1, hz2⟩ := info_parts Tryz.infoStr
  have HCL : Hid (joinedL sp = Lib.join (sp.filter nonE) [32]) := rfl
  have hlen := joinedL_le sp
  have hsl := bulk_len sp
  obtain ⟨a, c, rfl, hc, h3⟩ := hv
  have H3 := Lib.hid h3
  clear h3
  go_enter Tryz.func106, Tryz.ntmps106
  go_wp2_with fail
  simp only [mk_bs]
  go_loopw [3, 8] (fun v i wr => ∃ (k : Nat), k ≤ sp.length ∧ i = .int .i64 k ∧ wr.ownsRow w.heap.size 9 1 v ((sp.take k).filter nonE).length (strCells ((sp.take k).filter nonE)) ∧ Kept w wr) (fun _ i _ => sp.length - (intOf i).toNat)
  case atStart => exact ⟨0, Nat.zero_le _, rfl, World.ownsRow_nil _ _ _ _, Kept.refl _⟩
  case round =>
    obtain ⟨k, hkl, rfl, hown, hkr⟩ := hrel
    by_cases hlt : k < sp.length
    · obtain ⟨x, hx⟩ : ∃ x, sp[k]? = some x := ⟨_, List.getElem?_eq_getElem hlt⟩
      obtain ⟨g, o, rfl, hg, hcc⟩ := H3.out (by omega)
      have hcell : wr.cell? ⟨g, o + k, none⟩ = some (.string (bs x)) := (hkr.cell (p := ⟨g, o + k, none⟩) hg).trans (hcc k x hx)
      have HF := Lib.hid (filter_take sp k x hx)
      have hfl := filter_le sp k
      generalize (sp.take k).filter nonE = ws at *
      have hsz : w.heap.size ≤ wr.heap.size := hkr.size
      have HR := Lib.hid hkr
      have HW := Lib.hid hown
      clear hkr hx hown hcc
      by_cases he : x = []
      · subst he
        go_wp2_with fail
        go_roundw
        case rel => exact ⟨k + 1, by omega, by go_num, by rw [HF.out]; simpa [nonE] using HW.out, HR.out⟩
        case measure => simp [intOf]; omega
      · have hown := HW.out
        have hee : x.isEmpty = false := by simpa using he
        go_wp2_with (at_builtin; refine wpList_append_own _ rfl _ _ 45 rfl w.heap.size 9 i0 (.string ⟨#[]⟩) 1 16 Tryz.underlying45 hi hz0 hz1 hz2 rfl (by decide) _ _ _ rfl (hown.alloc _) ⟨wr.heap.size, 0, none⟩ 1 1 [.string (bs x)] rfl rfl ?c1 ?c2 ?c3 ?c4 ?c5 ?_)
        case c1 => exact new_cells _ #[.string (bs x)] _ _ (by simp)
        case c2 => intro u hu; simp at hu; subst hu; rfl
        case c3 => unfold maxLen; omega
        case c4 => omega
        case c5 => simp; omega
        intro v' w2 hown2 hgrow _
        have HB2 := Lib.hid ((HR.out.trans (kept_alloc wr _)).trans' (grown_below (hown.alloc _) hgrow (by simp; omega)))
        rw [← strCells_snoc] at hown2
        have HO := Lib.hid hown2
        clear hown2 hgrow hown
        go_wp2_with fail
        go_roundw
        case rel => exact ⟨k + 1, by omega, by go_num, by rw [HF.out]; simpa [nonE, hee] using HO.out, HB2.out⟩
        case measure => simp [intOf]; omega
    · have HW := Lib.hid (Strs.own hown)
      have HR := Lib.hid hkr
      rw [List.take_of_length_le (by omega)] at HW
      have hfl : (sp.filter nonE).length ≤ sp.length := List.length_filter_le _ _
      clear hown hkr
      go_wp2_with fail
      refine (join_any _ _ _ _ HW.out (by omega) (by rw [← HCL.out]; omega)).mono ?_
      rintro e w2 ⟨rfl, hk2⟩
      go_wp2_with fail
      go_ret
      exact ⟨ret_bs HCL.out.symm, HR.out.trans hk2⟩

end Go.Proofs.YtafcngdnngpdnaaGreatDoor

/- Full, Short of package person and of its reference. Conditions: lengths. -/
set_option linter.all false
namespace Go.Proofs.YtafcngdnngpdnaaGreatDoor
open Go.RowKit

/-- A person's value. -/
abbrev persV (f g p s : Bs) : Value := .agg #[.string (bs f), .string (bs g), .string (bs p), .string (bs s)]
theorem strs_lit (w : World) (arr : Array Value) (xs : List Bs) (n : Nat) (hn : n = xs.length) (h : arr.toList = strCells xs) (e : TypeId) (g : Nat) (hg : g = w.heap.size) : Strs (w.alloc (.cells arr e)) (.slice (some ⟨g, 0, none⟩) n n) xs := by
  subst hn hg
  refine ⟨_, _, rfl, Nat.le_refl _, fun _ => ⟨w.heap.size, 0, rfl, by simp, fun j x hx => ?_⟩⟩
  have := new_cells w arr e w.heap.size rfl j (.string (bs x)) (by rw [h]; exact strCells_at xs j x hx)
  have e1 : ((⟨w.heap.size, 0, none⟩ : Addr).add j) = ⟨w.heap.size, j, none⟩ := by unfold Addr.add; split <;> simp_all
  rw [e1] at this
  rw [Nat.zero_add]; exact this

set_option maxRecDepth 100000 in
set_option maxHeartbeats 800000 in
theorem full_any (f g p s : Bs) (w : World) (h : bulk [g, p, f, s] ≤ 100000000) :
    Calls Tryz.prog 82 #[persV f g p s] w fun e w' => e = .returned (.string (bs (joinedL [g, p, f, s]))) ∧ Kept w w' := by
  go_enter Tryz.func82, Tryz.ntmps82
  go_wp2_with fail
  refine (joined_any _ [g, p, f, s] _ (strs_lit _ _ _ _ rfl rfl _ _ (by simp)) h).mono ?_
  rintro e w1 ⟨rfl, hk⟩
  go_wp2_with fail
  go_ret
  exact ⟨rfl, ((kept_alloc _ _).trans (kept_alloc _ _)).trans hk⟩
set_option maxRecDepth 100000 in
set_option maxHeartbeats 800000 in
theorem short_any (f g p s : Bs) (w : World) (h : bulk [p, f] ≤ 100000000) :
    Calls Tryz.prog 83 #[persV f g p s] w fun e w' => e = .returned (.string (bs (joinedL [p, f]))) ∧ Kept w w' := by
  go_enter Tryz.func83, Tryz.ntmps83
  go_wp2_with fail
  refine (joined_any _ [p, f] _ (strs_lit _ _ _ _ rfl rfl _ _ (by simp)) h).mono ?_
  rintro e w1 ⟨rfl, hk⟩
  go_wp2_with fail
  go_ret
  exact ⟨rfl, ((kept_alloc _ _).trans (kept_alloc _ _)).trans hk⟩
end Go.Proofs.YtafcngdnngpdnaaGreatDoor

/- A text cleaned of spaces: the program's way and the reference's. No condition but the length. -/
set_option linter.all false
namespace Go.Proofs.YtafcngdnngpdnaaGreatDoor
open Go.RowKit


theorem keepStep_sp (o : Bs) (b : UInt8) (hb : b = 32) (h : o = [] ∨ o.getLast? = some 32) : keepStep o b = o := by unfold keepStep; rw [if_pos ⟨hb, h⟩]
theorem keepStep_ad (o : Bs) (b : UInt8) (h : b ≠ 32 ∨ (o ≠ [] ∧ o.getLast? ≠ some 32)) : keepStep o b = o ++ [b] := by
  unfold keepStep; rw [if_neg]; rintro ⟨q, r⟩; rcases h with h | ⟨h1, h2⟩
  · exact h q
  · rcases r with r | r
    · exact h1 r
    · exact h2 r
theorem last_at8 (o : Bs) (h : o ≠ []) : o.getLast? = some 32 ↔ at8 o (o.length - 1) = 32 := by
  have hl : o.length - 1 < o.length := by have := List.length_pos_iff.2 h; omega
  rw [at8_get o _ hl, List.getLast?_eq_getElem?, List.getElem?_eq_getElem hl, Option.some.injEq]
  exact (u8_int _ 32 (by decide)).symm

end Go.Proofs.YtafcngdnngpdnaaGreatDoor
