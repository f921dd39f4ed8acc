/- (*reader).line of package bib, whole, on a reader in memory. Conditions: lengths. -/
import Derived.Test.YtgkgcheegaegnaaGreatDoorT23
import Derived.Test.YtgkgcheegaegnaaGreatDoorT12

set_option linter.all false
namespace Go.Proofs.YtgkgcheegaegnaaGreatDoor
open Go.RowKit

/-- What a reader holds, without the values of its rows. -/
structure ASt where
  done : List SrcT
  keys : List Bs
  src : SrcT
  ins : Bool
def RSt.abs (st : RSt) : ASt := ⟨st.done.map (·.s), st.keys, st.src, st.ins⟩
/-- A line: its error, and what the reader holds behind it. -/
def lineS (st : ASt) (l : Bs) : Int × ASt :=
  if st.ins = false then
    if beginE st.keys st.done.length l ≠ 0 then (beginE st.keys st.done.length l, st)
    else (0, ⟨st.done, st.keys ++ [keyL l], ⟨keyL l, typeL l, [], [], []⟩, true⟩)
  else if l ≠ [125] then ((addS st.src l).1, { st with src := (addS st.src l).2 })
  else if hasB st.src.fields [116, 105, 116, 108, 101] = false then (8, st)
  else (0, ⟨st.done ++ [st.src], st.keys, zeroS, false⟩)
theorem lineS_err (st : ASt) (l : Bs) (h : st.ins = false) (he : beginE st.keys st.done.length l ≠ 0) : lineS st l = (beginE st.keys st.done.length l, st) := by
  unfold lineS; rw [if_pos h, if_pos he]
theorem lineS_beg (st : ASt) (l : Bs) (h : st.ins = false) (he : beginE st.keys st.done.length l = 0) : lineS st l = (0, ⟨st.done, st.keys ++ [keyL l], ⟨keyL l, typeL l, [], [], []⟩, true⟩) := by
  unfold lineS; rw [if_pos h, if_neg (by simpa using he)]
theorem lineS_add (st : ASt) (l : Bs) (h : st.ins = true) (hl : l ≠ [125]) : lineS st l = ((addS st.src l).1, { st with src := (addS st.src l).2 }) := by
  unfold lineS; rw [if_neg (by rw [h]; simp), if_pos hl]
theorem lineS_none (st : ASt) (h : st.ins = true) (ht : hasB st.src.fields [116, 105, 116, 108, 101] = false) : lineS st [125] = (8, st) := by
  unfold lineS; rw [if_neg (by rw [h]; simp), if_neg (by simp), if_pos ht]
theorem lineS_done (st : ASt) (h : st.ins = true) (ht : hasB st.src.fields [116, 105, 116, 108, 101] = true) : lineS st [125] = (0, ⟨st.done ++ [st.src], st.keys, zeroS, false⟩) := by
  unfold lineS; rw [if_neg (by rw [h]; simp), if_neg (by simp), if_neg (by rw [ht]; simp)]
theorem srcRow_nil (w : World) (T : Nat) (k t : Bs) : SrcRow w T ⟨k, t, [], [], []⟩ nilV nilV nilV :=
  ⟨World.ownsRow_nil _ _ _ _, World.ownsRow_nil _ _ _ _, World.ownsRow_nil _ _ _ _, (fun g h => by cases h), (fun g h => by cases h), (fun g h => by cases h)⟩
/-- The lists of a source are short. -/
def Small4 (s : SrcT) : Prop := s.author.length ≤ 32 ∧ s.editor.length ≤ 32 ∧ s.fields.length ≤ 24
theorem addS_small (s : SrcT) (l : Bs) (h : Small4 s) : Small4 (addS s l).2 := by
  unfold addS Small4 at *
  obtain ⟨h1, h2, h3⟩ := h
  split
  · split
    · split
      · exact ⟨h1, h2, h3⟩
      · split
        · exact ⟨h1, h2, h3⟩
        · exact ⟨by simp; omega, h2, h3⟩
    split
    · split
      · exact ⟨h1, h2, h3⟩
      · split
        · exact ⟨h1, h2, h3⟩
        · exact ⟨h1, by simp; omega, h3⟩
    split
    · exact ⟨h1, h2, h3⟩
    split
    · exact ⟨h1, h2, h3⟩
    split
    · exact ⟨h1, h2, h3⟩
    split
    · exact ⟨h1, h2, h3⟩
    · exact ⟨h1, h2, by simp; omega⟩
  · exact ⟨h1, h2, h3⟩
def LinePost (B r m : Nat) (st : RSt) (l : Bs) (w : World) (e : Ending) (w' : World) : Prop :=
  ∃ st', e = .returned (.int .i64 (lineS st.abs l).1) ∧ st'.abs = (lineS st.abs l).2 ∧ RInv B r m st' w' ∧ Only (fun i => B ≤ i ∨ i = r ∨ i = m) w w'
theorem slice_form {w : World} {base : Nat} {e : TypeId} {size : Nat} {v : Value} {n : Nat} {xs : List Value} (h : w.ownsRow base e size v n xs) : ∃ a c, v = .slice a n c := by
  obtain ⟨a, c, hv, _⟩ := own_cap h
  exact ⟨a, c, hv⟩
theorem Below.of_kept {B : Nat} {w w' : World} (h : Kept w w') (hB : B ≤ w.heap.size) : Below B w w' := Below.mono h hB

theorem bline_any (B r m : Nat) (st : RSt) (l : Bs) (w : World) (hg : Gnd w) (hl : l.length ≤ 100000) (hI : RInv B r m st w) (hs : Small4 st.src) (hn : st.done.length ≤ 1100000) :
    Calls Tryz.prog 25 #[.pointer (some ⟨r, 0, none⟩), .string (bs l)] w (LinePost B r m st l w) := by
  have hI0 := hI
  obtain ⟨T, vD, vA, vE, vF, h1, h2, h3, h4, h5, h6, h7, hb, hm, hD, hD2, hR, hS, hz⟩ := hI
  have hBs : B ≤ w.heap.size := by omega
  have hrl := hb.lt
  have elen : st.abs.done.length = st.done.length := by simp [RSt.abs]
  unfold LinePost
  cases hi : st.ins
  · -- a source begins
    have ha : st.abs.ins = false := hi
    obtain ⟨hz1, hz2, hz3, hz4⟩ := hz hi
    rw [hi, hz1, hz2, hz3, hz4] at hb
    obtain ⟨aD, cD, hvD⟩ := slice_form hD
    subst hvD
    refine line_of_begin r l w _ (hb.cell 7 _ rfl) hrl ?_ (fun e w' h => by obtain ⟨st', he, _⟩ := h; exact ⟨_, he⟩)
    by_cases he : beginE st.keys st.done.length l = 0
    · refine (begin_yes r m st.done.length aD cD st.keys l w hg hl hb hm h3 (by omega) he).mono ?_
      rintro e w' ⟨rfl, hb', hm', ho⟩
      refine ⟨⟨st.done, st.keys ++ [keyL l], ⟨keyL l, typeL l, [], [], []⟩, true⟩, ?_, ?_, ?_, ?_⟩
      · rw [lineS_beg st.abs l ha (by rw [elen]; exact he)]
      · rw [lineS_beg st.abs l ha (by rw [elen]; exact he)]; rfl
      · refine ⟨w.heap.size, .slice aD st.done.length cD, nilV, nilV, nilV, h1, h2, h3, by omega, hrl, by omega, ho.size, hb', hm', ?_, ?_, ?_, ?_, fun q => by cases q⟩
        · exact ho.own hD (fun g hg q => by obtain ⟨_, p2, p3⟩ := hD2 g hg; rcases q with q | q; exact p2 q; exact p3 q)
        · intro g hg; obtain ⟨p1, p2, p3⟩ := hD2 g hg; exact ⟨by omega, p2, p3⟩
        · intro d hd
          have hd' := hR d hd
          have := hd'.only ho (fun g p1 p2 p3 p4 q => by rcases q with q | q; exact p2 q; exact p3 q)
          exact ⟨this.a, this.e, this.f, fun g hg => by obtain ⟨p1, p2, p3, p4⟩ := this.away g hg; exact ⟨by omega, p2, p3, p4⟩⟩
        · exact srcRow_nil _ _ _ _
      · exact ho.mono (fun i _ q => .inr q)
    · refine (begin_err r m st.done.length aD cD st.keys l w hg hl hb hm h3 (by omega) he).mono ?_
      rintro e w' ⟨rfl, hk⟩
      refine ⟨st, ?_, ?_, hI0.kept hk, Only.of_kept hk⟩
      · rw [lineS_err st.abs l ha (by rw [elen]; exact he), elen]; rfl
      · rw [lineS_err st.abs l ha (by rw [elen]; exact he)]
  · have ha : st.abs.ins = true := hi
    rw [hi] at hb
    by_cases hq : l = [125]
    · subst hq
      cases ht : hasB st.src.fields [116, 105, 116, 108, 101]
      · refine (line_none r vF st.src.fields w (hb.cell 7 _ rfl) (hb.cell 6 _ rfl) hrl (Prs.own hS.f) (by have := hs.2.2; omega) ht).mono ?_
        rintro e w' ⟨rfl, hk⟩
        refine ⟨st, ?_, ?_, hI0.kept hk, Only.of_kept hk⟩
        · rw [lineS_none st.abs ha ht]
        · rw [lineS_none st.abs ha ht]
      · obtain ⟨aA, cA, hvA⟩ := slice_form hS.a
        obtain ⟨aE, cE, hvE⟩ := slice_form hS.e
        refine (line_done B r m st.done.length (doneC st.done) vD st.src vA vE vF w hb hD (fun q => by have := (hD2 r q.symm).2.1; exact this rfl) hBs (Prs.own hS.f) ⟨_, _, _, hvA⟩ ⟨_, _, _, hvE⟩ (by have := hs.2.2; omega) (by omega) ht).mono ?_
        rintro e w' ⟨rfl, g, cap, hown, hat, hlt, hb', ho⟩
        have hDl := hD.lt
        have hAl := hS.a.lt
        have hEl := hS.e.lt
        have hFl := hS.f.lt
        have hgT : vD.ownBlock = some g → g < T ∧ g ≠ r ∧ g ≠ m := fun q => hD2 g q
        have hgr : g ≠ r ∧ g ≠ m := by
          rcases hat with q | q
          · exact (hD2 g q).2
          · exact ⟨by omega, by omega⟩
        refine ⟨⟨st.done ++ [⟨st.src, vA, vE, vF⟩], st.keys, zeroS, false⟩, ?_, ?_, ?_, ?_⟩
        · rw [lineS_done st.abs ha ht]
        · rw [lineS_done st.abs ha ht]
          simp [RSt.abs]
        · refine ⟨w'.heap.size, .slice (some ⟨g, 0, none⟩) (st.done.length + 1) cap, nilV, nilV, nilV, h1, h2, h3, ?_, hb'.lt, ?_, Nat.le_refl _, hb', ?_, ?_, ?_, ?_, ?_, fun _ => ⟨rfl, rfl, rfl, rfl⟩⟩
          · have := ho.size; omega
          · have := ho.size; omega
          · exact hm.only ho (fun q => by
              rcases q with q | q
              · exact (hD2 m q.symm).2.2 rfl
              · exact h3 q.symm)
          · rw [doneC_snoc]; simpa using hown
          · intro g' hg'
            simp [Value.ownBlock] at hg'
            subst hg'
            exact ⟨hlt, hgr.1, hgr.2⟩
          · intro d hd
            rcases List.mem_append.1 hd with hd | hd
            · have hd' := hR d hd
              have h := hd'.only ho (fun g' p1 p2 p3 p4 q => by
                rcases q with q | q
                · exact p4 q.symm
                · exact p2 q)
              refine ⟨h.a, h.e, h.f, fun g' hg' => ?_⟩
              obtain ⟨p1, p2, p3, p4⟩ := hd'.away g' hg'
              refine ⟨by have := ho.size; omega, p2, p3, ?_⟩
              intro q
              simp [Value.ownBlock] at q
              subst q
              rcases hat with q | q
              · exact p4 q
              · omega
            · simp at hd
              subst hd
              have nS : ∀ g', T ≤ g' → ¬ (some g' = vD.ownBlock ∨ g' = r) := by
                rintro g' p (q | q)
                · have := (hD2 g' q.symm).1; omega
                · omega
              refine ⟨own_mono (ho.own hS.a (fun g' q => nS g' (hAl g' q).1)) h4, own_mono (ho.own hS.e (fun g' q => nS g' (hEl g' q).1)) h4, own_mono (ho.own hS.f (fun g' q => nS g' (hFl g' q).1)) h4, fun g' hg' => ?_⟩
              have hg2 : T ≤ g' ∧ g' < w.heap.size := by
                rcases hg' with q | q | q
                · exact hAl g' q
                · exact hEl g' q
                · exact hFl g' q
              refine ⟨by have := ho.size; omega, by omega, by omega, ?_⟩
              intro q
              simp [Value.ownBlock] at q
              subst q
              rcases hat with q | q
              · have := (hD2 g q).1; omega
              · omega
          · exact srcRow_nil _ _ _ _
        · exact ho.mono (fun i _ q => by
            rcases q with q | q
            · exact .inl (hDl i q.symm).1
            · exact .inr (.inl q))
    · refine line_of_add r l w _ (hb.cell 7 _ rfl) hrl (by simpa using hq) ?_ (fun e w' h => by obtain ⟨st', he, _⟩ := h; exact ⟨_, he⟩)
      refine (add_any r T m vD st.src vA vE vF l w hg hl hb hS h5 h7 (by have := hs.1; omega) (by have := hs.2.1; omega) (by have := hs.2.2; omega)).mono ?_
      rintro e w' ⟨vA', vE', vF', rfl, hb', hS', ho⟩
      refine ⟨⟨st.done, st.keys, (addS st.src l).2, true⟩, ?_, ?_, ?_, ?_⟩
      · rw [lineS_add st.abs l ha hq]; rfl
      · rw [lineS_add st.abs l ha hq]
        show (⟨_, _, _, true⟩ : ASt) = ⟨_, _, _, st.ins⟩
        rw [hi]; rfl
      · refine ⟨T, vD, vA', vE', vF', h1, h2, h3, h4, h5, h6, Nat.le_trans h7 ho.size, hb', ?_, ?_, hD2, ?_, hS', fun q => by cases q⟩
        · exact hm.only ho (fun q => by rcases q with q | q; omega; exact h3 q.symm)
        · exact ho.own hD (fun g hg q => by obtain ⟨p1, p2, p3⟩ := hD2 g hg; rcases q with q | q; omega; exact p2 q)
        · intro d hd
          exact (hR d hd).only ho (fun g p1 p2 p3 p4 q => by rcases q with q | q; omega; exact p2 q)
      · exact ho.mono (fun i _ q => by rcases q with q | q; exact .inl (by omega); exact .inr (.inl q))
end Go.Proofs.YtgkgcheegaegnaaGreatDoor

/- lines.Split once more, with the place of the slice. (Lines' lsplit_any says less and may be dropped.) -/
set_option linter.all false
namespace Go.Proofs.YtgkgcheegaegnaaGreatDoor
open Go.RowKit

def BaseB (B : Nat) (v : Value) (xs : List Bs) : Prop := 0 < xs.length → ∃ g, v.ownBlock = some g ∧ B ≤ g
theorem BaseB.own {w : World} {base : Nat} {e : TypeId} {v : Value} {xs : List Bs} (h : w.ownsRow base e 1 v xs.length (strCells xs)) : BaseB base v xs := by
  obtain ⟨a, c, hv, _, _, h3⟩ := own_cap h
  intro q
  obtain ⟨g, ha, hb, _⟩ := h3 q
  exact ⟨g, by rw [hv, ha]; rfl, hb⟩
def SliQ (xs : List Bs) (w : World) (e : Ending) (w' : World) : Prop := ∃ v, e = .returned v ∧ Strs w' v xs ∧ BaseB w.heap.size v xs ∧ Kept w w'
set_option maxRecDepth 100000 in
set_option maxHeartbeats 3200000 in
theorem lsplit_own (t : Bs) (w : World) (ht : t.length ≤ 1100000) : Calls Tryz.prog 23 #[.string (bs t)] w (SliQ (linesL t) w) := by
  obtain ⟨i0', hi', hz0, hz1, hz2⟩ := info_parts Tryz.infoStr
  go_enter Tryz.func23, Tryz.ntmps23
  go_wp2_with fail
  go_loopw [3, 4, 8] (fun v fv i wr => ∃ (k fr : Nat) (xs : List Bs), k ≤ t.length ∧ i = .int .i64 k ∧ fv = .int .i64 fr ∧ fr ≤ k ∧ xs.length ≤ k ∧ wr.ownsRow w.heap.size 9 1 v xs.length (strCells xs) ∧ Hid (LineSt t k fr xs) ∧ Kept w wr) (fun _ _ i _ => t.length - (intOf i).toNat)
  case atStart => exact ⟨0, 0, [], Nat.zero_le _, rfl, rfl, Nat.zero_le _, Nat.le_refl _, World.ownsRow_nil _ _ _ _, LineSt.start t, Kept.refl _⟩
  case round =>
    obtain ⟨k, fr, xs, hk, rfl, rfl, hfr, hxl, hown, HS, hkr⟩ := hrel
    have hsz : w.heap.size ≤ wr.heap.size := hkr.size
    have HKR := Lib.hid hkr
    have HOWN := Lib.hid hown
    clear hkr hown
    by_cases hlt : k < t.length
    · have i0 := run_ix (P := Tryz.prog) (t := 9) Tryz.underlying9 t k hlt k rfl
      have HC : Hid (at8 t k = 10 ↔ t[k] = 10) := by show _ ↔ _; rw [at8_get t k hlt]; exact u8_int _ 10 (by decide)
      by_cases hb : at8 t k = 10
      · obtain ⟨hst, hfk⟩ := HS.out.feed hlt (HC.out.1 hb)
        have sl := run_sub (P := Tryz.prog) (t := 9) Tryz.underlying9 t fr k hfk (by omega) fr k rfl rfl _ rfl
        have HST := Lib.hid hst
        have hown := HOWN.out
        have hb' : (at8 t k == 10) = true := by simpa using hb
        generalize (t.drop fr).take (k - fr) = y at *
        generalize at8 t k = b at *
        clear hst HC hb
        go_wp2_with (at_builtin; refine wpList_append_own _ rfl _ _ 33 rfl w.heap.size 9 i0' (.string ⟨#[]⟩) 1 16 Tryz.underlying33 hi' hz0 hz1 hz2 rfl (by decide) _ _ _ rfl (hown.alloc _) ⟨wr.heap.size, 0, none⟩ 1 1 [.string (bs y)] rfl rfl ?_ ?_ ?_ ?_ ?_ ?_)
        · exact new_cells _ #[.string (bs y)] _ _ (by simp)
        · intro u hu; simp at hu; subst hu; rfl
        · unfold maxLen; omega
        · omega
        · simp; omega
        intro v' w2 hown2 hgrow _
        have HB2 := Lib.hid ((HKR.out.trans (kept_alloc wr _)).trans' (grown_below (hown.alloc _) hgrow (by simp; omega)))
        rw [← strCells_snoc] at hown2
        have HO := Lib.hid hown2
        clear hown2 hgrow hown
        go_wp2_with fail
        go_roundw
        case rel => exact ⟨k + 1, k + 1, xs ++ [y], by omega, by go_num, by go_num, by omega, by simp; omega, by simpa using HO.out, HST.out, HB2.out⟩
        case measure => simp [intOf]; omega
      · obtain ⟨hst, hfk⟩ := HS.out.other hlt (fun q => hb (HC.out.2 q))
        have HST := Lib.hid hst
        have hb' : (at8 t k == 10) = false := by simpa using hb
        generalize at8 t k = b at *
        clear hst HC hb
        go_wp2_with fail
        go_roundw
        case rel => exact ⟨k + 1, fr, xs, by omega, by go_num, rfl, by omega, by omega, HOWN.out, HST.out, HKR.out⟩
        case measure => simp [intOf]; omega
    · obtain rfl : k = t.length := by omega
      obtain ⟨hfl, hfin⟩ := HS.out.done
      have HFIN := Lib.hid hfin
      clear hfin
      by_cases hq : fr < t.length
      · rw [if_pos hq] at HFIN
        have sl := run_from (P := Tryz.prog) (t := 9) Tryz.underlying9 t fr hfl fr rfl _ rfl
        have hown := HOWN.out
        generalize t.drop fr = y at *
        go_wp2_with (at_builtin; refine wpList_append_own _ rfl _ _ 33 rfl w.heap.size 9 i0' (.string ⟨#[]⟩) 1 16 Tryz.underlying33 hi' hz0 hz1 hz2 rfl (by decide) _ _ _ rfl (hown.alloc _) ⟨wr.heap.size, 0, none⟩ 1 1 [.string (bs y)] rfl rfl ?_ ?_ ?_ ?_ ?_ ?_)
        · exact new_cells _ #[.string (bs y)] _ _ (by simp)
        · intro u hu; simp at hu; subst hu; rfl
        · unfold maxLen; omega
        · omega
        · simp; omega
        intro v' w2 hown2 hgrow _
        have HB2 := Lib.hid ((HKR.out.trans (kept_alloc wr _)).trans' (grown_below (hown.alloc _) hgrow (by simp; omega)))
        rw [← strCells_snoc] at hown2
        have hown3 : w2.ownsRow w.heap.size 9 1 v' (xs ++ [y]).length (strCells (xs ++ [y])) := by simpa using hown2
        have HO : Hid (Strs w2 v' (xs ++ [y]) ∧ BaseB w.heap.size v' (xs ++ [y])) := ⟨Strs.own hown3, BaseB.own hown3⟩
        clear hown3
        clear hown2 hgrow hown
        go_wp2_with fail
        go_ret
        exact ⟨_, rfl, by rw [HFIN.out]; exact HO.out.1, by rw [HFIN.out]; exact HO.out.2, HB2.out⟩
      · rw [if_neg hq, List.append_nil] at HFIN
        have HO := Lib.hid (And.intro (Strs.own HOWN.out) (BaseB.own HOWN.out))
        go_wp2_with fail
        go_ret
        exact ⟨_, rfl, by rw [HFIN.out]; exact HO.out.1, by rw [HFIN.out]; exact HO.out.2, HKR.out⟩

end Go.Proofs.YtgkgcheegaegnaaGreatDoor
