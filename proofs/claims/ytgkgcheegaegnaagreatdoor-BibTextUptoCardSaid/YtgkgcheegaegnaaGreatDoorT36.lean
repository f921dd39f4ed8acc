/- The page's examples of bibliographies: law30's awake answers true. No condition. -/
import Derived.Test.YtgkgcheegaegnaaGreatDoorT35
import Derived.Test.YtgkgcheegaegnaaGreatDoorT26
import Derived.Test.YtgkgcheegaegnaaGreatDoorT31
import Derived.Test.YtgkgcheegaegnaaGreatDoorT20
import Derived.Deep.RegionHeld3
import Derived.Deep.Upon

set_option linter.all false
namespace Go.Proofs.YtgkgcheegaegnaaGreatDoor
open Go.RowKit

abbrev kNg : Bs := [110, 103, 48, 49]
abbrev yNg : Bs := [97, 114, 116, 105, 99, 108, 101]
theorem awk_bparse (w : World) (hg : Gnd w) : Calls Tryz.prog 7 #[.string (bs tNg)] w fun e w' => ∃ g o c aA cA aE cE aF cF, e = .returned (.tuple #[.slice (some ⟨g, o, none⟩) 1 c, .int .i64 0, .int .i64 0]) ∧ 1 ≤ c ∧ g < w'.heap.size ∧
    w'.cell? ⟨g, o, none⟩ = some (.string (bs [110, 103, 48, 49])) ∧ w'.cell? ⟨g, o + 1, none⟩ = some (.string (bs [97, 114, 116, 105, 99, 108, 101])) ∧ w'.cell? ⟨g, o + 2, none⟩ = some (.slice aA 1 cA) ∧ w'.cell? ⟨g, o + 3, none⟩ = some (.slice aE 0 cE) ∧ w'.cell? ⟨g, o + 4, none⟩ = some (.slice aF 2 cF) ∧
    Prs w' (.slice aF 2 cF) sNg.fields ∧ Srcs w' (.slice (some ⟨g, o, none⟩) 1 c) [sNg] ∧ Kept w w' := by
  refine (bparse_any tNg w hg (by decide)).mono ?_
  rintro e w' ⟨v, rfl, hs, hk⟩
  rw [ng_read] at hs ⊢
  have hs' := hs
  obtain ⟨a, c, rfl, hc, h3⟩ := hs
  obtain ⟨g, o, rfl, hg', hcc⟩ := h3 (by decide)
  obtain ⟨vA, vE, vF, h⟩ := hcc 0 sNg rfl
  simp only [Nat.zero_mul, Nat.add_zero] at h
  obtain ⟨c0, c1, c2, c3, c4, pA, pE, pF⟩ := h
  have pF' := pF
  obtain ⟨aA, cA, rfl, _, _⟩ := pA
  obtain ⟨aE, cE, rfl, _, _⟩ := pE
  obtain ⟨aF, cF, rfl, _, _⟩ := pF
  exact ⟨g, o, c, aA, cA, aE, cE, aF, cF, rfl, hc, hg', c0, c1, c2, c3, c4, pF', hs', hk⟩
theorem awk_bno (w : World) (hg : Gnd w) : Calls Tryz.prog 7 #[.string (bs tNo)] w fun e w' => ∃ v, e = .returned (.tuple #[v, .int .i64 2, .int .i64 8]) ∧ Kept w w' := by
  refine (bparse_any tNo w hg (by decide)).mono ?_
  rintro e w' ⟨v, rfl, hs, hk⟩
  rw [no_read]
  exact ⟨v, rfl, hk⟩
theorem small_bk : SmallS sBk := by
  refine ⟨(fun p h => by cases h), (fun p h => by cases h), ?_, by decide, by decide, by decide, by decide, by decide⟩
  intro p h
  simp only [sBk, List.mem_cons, List.mem_nil_iff, or_false] at h
  subst h; decide
theorem small_no : SmallS sNo := by
  refine ⟨(fun p h => by cases h), (fun p h => by cases h), (fun p h => by cases h), by decide, by decide, by decide, by decide, by decide⟩
theorem one_srcs {w : World} {g : Nat} {s : SrcT} {vA vE vF : Value} {t : TypeId} (h : Blk w g t #[.string (bs s.key), .string (bs s.type), vA, vE, vF]) (pA : Perss w vA s.author) (pE : Perss w vE s.editor) (pF : Prs w vF s.fields) : Srcs w (.slice (some ⟨g, 0, none⟩) 1 1) [s] := by
  refine ⟨_, _, rfl, Nat.le_refl _, fun _ => ⟨g, 0, rfl, h.lt, fun j x hx => ?_⟩⟩
  cases j with
  | zero =>
    cases hx
    exact ⟨vA, vE, vF, h.cell 0 _ rfl, h.cell 1 _ rfl, h.cell 2 _ rfl, h.cell 3 _ rfl, h.cell 4 _ rfl, pA, pE, pF⟩
  | succ j => cases hx
theorem awk_btext (w : World) (hg : Gnd w) (v : Value) (hv : Srcs w v [sBk]) : Calls Tryz.prog 11 #[v] w fun e w' => e = .returned (.tuple #[.string (bs [64, 98, 111, 111, 107, 123, 107, 44, 10, 116, 105, 116, 108, 101, 32, 61, 32, 84, 10, 125, 10]), .int .i64 0]) ∧ Kept w w' := by
  have h := btext_any v [sBk] w hg hv (fun s h => by simp only [List.mem_cons, List.mem_nil_iff, or_false] at h; subst h; exact small_bk) (by decide) (by decide +kernel)
  rw [bk_text, bk_check] at h; exact h
theorem awk_bcheck (w : World) (hg : Gnd w) (v : Value) (hv : Srcs w v [sNo]) : Calls Tryz.prog 13 #[v] w fun e w' => e = .returned (.int .i64 8) ∧ Kept w w' := by
  have h := check_any v [sNo] w hg hv (fun s h => by simp only [List.mem_cons, List.mem_nil_iff, or_false] at h; subst h; exact small_no) (by decide)
  rw [no_check] at h; exact h
theorem ng_find : findS [sNg] [110, 103, 48, 49] = some sNg := by
  unfold findS
  rw [List.find?_cons_of_pos (by decide)]
theorem awk_bfind (w : World) (v : Value) (hv : Srcs w v [sNg]) : Calls Tryz.prog 20 #[v, .string (bs [110, 103, 48, 49])] w fun e w' => ∃ aA cA aE cE aF cF, e = .returned (.tuple #[srcV [110, 103, 48, 49] [97, 114, 116, 105, 99, 108, 101] (.slice aA 1 cA) (.slice aE 0 cE) (.slice aF 2 cF), .bool true]) ∧ Prs w' (.slice aF 2 cF) sNg.fields ∧ Kept w w' := by
  refine (find_any v [sNg] _ w hv (by decide) (fun s h => by simp only [List.mem_cons, List.mem_nil_iff, or_false] at h; subst h; decide)).mono ?_
  rintro e w' ⟨vA, vE, vF, rfl, h1, h2, h3, hk⟩
  rw [ng_find] at h1 h2 h3 ⊢
  have h4 := h3
  obtain ⟨aA, cA, rfl, _, _⟩ := h1
  obtain ⟨aE, cE, rfl, _, _⟩ := h2
  obtain ⟨aF, cF, rfl, _, _⟩ := h3
  exact ⟨aA, cA, aE, cE, aF, cF, rfl, h4, hk⟩
theorem awk_bfield (w : World) (vA vE vF : Value) (hv : Prs w vF sNg.fields) : Calls Tryz.prog 21 #[srcV [110, 103, 48, 49] [97, 114, 116, 105, 99, 108, 101] vA vE vF, .string (bs [116, 105, 116, 108, 101])] w fun e w' => e = .returned (.tuple #[.string (bs [79, 110, 32, 98, 111, 120, 101, 115]), .bool true]) ∧ Kept w w' := by
  refine (field_any sNg.key sNg.type vA vE vF sNg.fields _ w hv (by decide)).mono ?_
  rintro e w' ⟨rfl, hk⟩
  rw [ng_title]
  exact ⟨rfl, hk⟩
theorem awk_byear (w : World) (vA vE vF : Value) (hv : Prs w vF sNg.fields) : Calls Tryz.prog 19 #[srcV [110, 103, 48, 49] [97, 114, 116, 105, 99, 108, 101] vA vE vF] w fun e w' => e = .returned (.int .i64 2001) ∧ Kept w w' := by
  have h := year_any sNg.key sNg.type vA vE vF sNg.fields w hv (by decide) (by decide +kernel)
  rw [ng_year] at h; exact h
def cBk (g : Nat) : Array Value := #[.string (bs [107]), .string (bs [98, 111, 111, 107]), .slice none 0 0, .slice none 0 0, .slice (some ⟨g, 0, none⟩) 1 1]
theorem bk_new (w : World) (t t' : TypeId) : Srcs ((w.alloc (.cells #[.string (bs [116, 105, 116, 108, 101]), .string (bs [84])] t)).alloc (.cells (cBk w.heap.size) t')) (.slice (some ⟨w.heap.size + 1, 0, none⟩) 1 1) [sBk] := by
  refine one_srcs (t := t') (Blk.new1 w _ t' (cBk w.heap.size)) (Perss.none_ _) (Perss.none_ _) ?_
  have hb := (Blk.new w t #[.string (bs [116, 105, 116, 108, 101]), .string (bs [84])]).alloc (.cells (cBk w.heap.size) t')
  refine ⟨_, _, rfl, Nat.le_refl _, fun _ => ⟨w.heap.size, 0, rfl, hb.lt, fun j q hj => ?_⟩⟩
  cases j with
  | zero => cases hj; exact ⟨hb.cell 0 _ rfl, hb.cell 1 _ rfl⟩
  | succ j => cases hj
set_option maxRecDepth 100000 in
set_option maxHeartbeats 6400000 in
theorem bawake_any (w : World) (hg : Gnd w) : Calls Tryz.prog 6 #[] w fun e w' => e = .returned (.bool true) ∧ Kept w w' := by
  have HG := Lib.hid hg
  clear hg
  go_enter Tryz.func6, Tryz.ntmps6
  go_wp2_with fail
  refine (awk_bparse _ HG.out).mono ?_
  rintro e w1 ⟨g, o, c, aA, cA, aE, cE, aF, cF, rfl, hc, hg1, c0, c1, c2, c3, c4, pF, hS, hk1⟩
  have HS1 := Lib.hid hS
  have HK1 := Lib.hid hk1
  have HPF := Lib.hid pF
  clear hk1 hS pF
  go_wp2_with fail
  refine (awk_byear _ _ _ _ HPF.out).mono ?_
  rintro e w2 ⟨rfl, hk2⟩
  have HS2 := Lib.hid (HS1.out.kept hk2)
  have HK2 := Lib.hid (HK1.out.trans hk2)
  clear hk2 c0 c1 c2 c3 c4 hg1
  go_wp2_with fail
  refine (awk_bno _ (HG.out.kept HK2.out)).mono ?_
  rintro e w3 ⟨v3, rfl, hk3⟩
  have HS3 := Lib.hid (HS2.out.kept hk3)
  have HK3 := Lib.hid (HK2.out.trans hk3)
  clear hk3
  go_wp2_with fail
  have HKT := Lib.hid ((HK3.out.trans (kept_alloc w3 (.cells #[.string (bs [116, 105, 116, 108, 101]), .string (bs [84])] 47))).trans (kept_alloc _ (.cells (cBk w3.heap.size) 44)))
  have HST := Lib.hid ((HS3.out.kept (kept_alloc w3 (.cells #[.string (bs [116, 105, 116, 108, 101]), .string (bs [84])] 47))).kept (kept_alloc _ (.cells (cBk w3.heap.size) 44)))
  refine (awk_btext _ (HG.out.kept HKT.out) _ (bk_new w3 _ _)).mono ?_
  rintro e w4 ⟨rfl, hk4⟩
  have HS4 := Lib.hid (HST.out.kept hk4)
  have HK4 := Lib.hid (HKT.out.trans hk4)
  clear hk4 HKT HST
  go_wp2_with fail
  refine (awk_bfind _ _ HS4.out).mono ?_
  rintro e w5 ⟨bA, dA, bE, dE, bF, dF, rfl, hp5, hk5⟩
  have HP5 := Lib.hid hp5
  have HK5 := Lib.hid (HK4.out.trans hk5)
  clear hk5 hp5
  go_wp2_with fail
  have HK6 := Lib.hid (HK5.out.trans (kept_alloc w5 (.cells #[.string (bs [110, 103, 48, 49]), .string (bs [97, 114, 116, 105, 99, 108, 101]), .slice bA 1 dA, .slice bE 0 dE, .slice bF 2 dF] 44)))
  refine (awk_bfield _ _ _ _ (HP5.out.kept (kept_alloc w5 _))).mono ?_
  rintro e w7 ⟨rfl, hk7⟩
  have HK7 := Lib.hid (HK6.out.trans hk7)
  clear hk7
  go_wp2_with fail
  have HK8 := Lib.hid (HK7.out.trans (kept_alloc w7 (.cells #[.string (bs [107]), .string (bs [98, 111, 111, 107]), .slice none 0 0, .slice none 0 0, .slice none 0 0] 44)))
  refine (awk_bcheck _ (HG.out.kept HK8.out) _ (one_srcs (s := sNo) (Blk.new w7 44 #[.string (bs [107]), .string (bs [98, 111, 111, 107]), .slice none 0 0, .slice none 0 0, .slice none 0 0]) (Perss.none_ _) (Perss.none_ _) (Prs.none_ _))).mono ?_
  rintro e w9 ⟨rfl, hk9⟩
  have HK9 := Lib.hid (HK8.out.trans hk9)
  clear hk9
  go_wp2_with fail
  go_ret
  exact ⟨rfl, HK9.out⟩
end Go.Proofs.YtgkgcheegaegnaaGreatDoor

/- Persons appended in a region that draws its order. Conditions: lengths. -/
set_option linter.all false
namespace Go.Proofs.YtgkgcheegaegnaaGreatDoor
open Go.RowKit

theorem persC_append (ps qs : List P4) : persC (ps ++ qs) = persC ps ++ persC qs := by simp [persC]
theorem grown_refl (w : World) (row : Option Nat) : w.grownBy w row := World.grownBy.refl _ _
set_option maxRecDepth 100000 in
theorem step_append_pers (w : World) {ops : Array Oper} {o : Oper} {a : Act} {K : Act → World → Prop} {Q : Exit → Act → World → Prop} {E : Prop} (hgd : o.guard = none) (s x : Operand)
    (ho : o.op = .call { callee := .builtin .append, args := #[s, x], argTypes := #[41, 41] })
    (base : Nat) (v : Value) (ps : List P4) (hs : a.eval s = v) (hown : w.ownsRow base 36 4 v ps.length (persC ps)) (u : Value) (qs : List P4) (hx : a.eval x = u) (hu : Perss w u qs)
    (hb : ps.length + qs.length ≤ 1000) (hbase : base ≤ w.heap.size)
    (h : ∀ v' w', w'.ownsRow base 36 4 v' (ps ++ qs).length (persC (ps ++ qs)) → w.grownBy w' v.ownBlock → K (a.put o.dst v') w') :
    if Region.wanted o (yielded ops a.tmps) = true then Oper.wp Tryz.prog o a w K Q else E := by
  obtain ⟨i0, hi, hz0, hz1, hz2⟩ := info_parts Tryz.infoPers
  have hw : Region.wanted o (yielded ops a.tmps) = true := by simp [Region.wanted, hgd]
  rw [if_pos hw]
  by_cases hq : 0 < qs.length
  · have hu' := hu
    obtain ⟨a', c', rfl, hc, h3⟩ := hu
    obtain ⟨g, o2, rfl, _⟩ := h3 hq
    refine wp_append_lies w s x 41 ho base 36 i0 _ 4 64 Tryz.underlying41 hi hz0 hz1 hz2 rfl (by decide) v ps.length (persC ps) hs hown ⟨g, o2, none⟩ qs.length c' (persC qs) hx (persC_len qs) hu'.news (persC_one qs) hq (by unfold maxLen; omega) (by omega) hbase w.heap.size rfl ?_
    intro g' cap w' h1 h2 _ _
    refine h _ _ ?_ h2
    rw [List.length_append, persC_append]; exact h1
  · obtain rfl : qs = [] := List.length_eq_zero_iff.1 (by omega)
    obtain ⟨a', c', rfl, hc, _⟩ := hu
    have hown' := hown
    obtain ⟨a2, c2, rfl, hle, _, _⟩ := own_cap hown
    have hsrc : Src Tryz.prog i0.size 41 (.slice a' 0 c') 0 [] w := by
      refine ⟨.inl ⟨_, Tryz.underlying41⟩, fun w' => ?_, ?_, ?_, by simp, by simp⟩
      · simp [Builtin.lenOf]
      · cases a' <;> simp [Builtin.firstCells, loadCells, loadCellsFrom]
      · cases a' <;> simp [Builtin.firstCells, loadCells, loadCellsFrom]
    have hr := run_append_nothing (P := Tryz.prog) w 41 41 o.type 36 i0 Tryz.underlying41 hi a2 ps.length c2 hle (.slice a' 0 c') hsrc
    unfold Oper.wp execOp
    simp only [ho, resolve, invoke, builtin, Sem.run_bind, Sem.run_pure, Result.andThen_ok, List.map_toArray, List.map_cons, List.map_nil, hs, hx]
    simp only [List.length_nil]
    rw [hr]
    refine h _ _ ?_ (grown_refl _ _)
    rw [List.append_nil]; exact hown'
end Go.Proofs.YtgkgcheegaegnaaGreatDoor
