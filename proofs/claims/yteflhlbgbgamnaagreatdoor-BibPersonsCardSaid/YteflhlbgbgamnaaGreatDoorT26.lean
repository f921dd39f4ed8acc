/- Persons appended in a region that draws its order. Conditions: lengths. -/
import Derived.Test.YteflhlbgbgamnaaGreatDoorT19
import Derived.Test.YteflhlbgbgamnaaGreatDoorT25
import Derived.Test.YteflhlbgbgamnaaGreatDoorT17
import Derived.Deep.Upon

set_option linter.all false
namespace Go.Proofs.YteflhlbgbgamnaaGreatDoor
open Go.RowKit

theorem persC_append (ps qs : List P4) : persC (ps ++ qs) = persC ps ++ persC qs := by simp [persC]
theorem grown_refl (w : World) (row : Option Nat) : w.grownBy w row := World.grownBy.refl _ _
set_option maxRecDepth 100000 in
theorem step_append_pers (w : World) {ops : Array Oper} {o : Oper} {a : Act} {K : Act → World → Prop} {Q : Exit → Act → World → Prop} {E : Prop} (hgd : o.guard = none) (s x : Operand)
    (ho : o.op = .call { callee := .builtin .append, args := #[s, x], argTypes := #[37, 37] })
    (base : Nat) (v : Value) (ps : List P4) (hs : a.eval s = v) (hown : w.ownsRow base 32 4 v ps.length (persC ps)) (u : Value) (qs : List P4) (hx : a.eval x = u) (hu : Perss w u qs)
    (hb : ps.length + qs.length ≤ 1000) (hbase : base ≤ w.heap.size)
    (h : ∀ v' w', w'.ownsRow base 32 4 v' (ps ++ qs).length (persC (ps ++ qs)) → w.grownBy w' v.ownBlock → K (a.put o.dst v') w') :
    if Region.wanted o (yielded ops a.tmps) = true then Oper.wp Tryz.prog o a w K Q else E := by
  obtain ⟨i0, hi, hz0, hz1, hz2⟩ := info_parts Tryz.infoPers
  have hw : Region.wanted o (yielded ops a.tmps) = true := by simp [Region.wanted, hgd]
  rw [if_pos hw]
  by_cases hq : 0 < qs.length
  · have hu' := hu
    obtain ⟨a', c', rfl, hc, h3⟩ := hu
    obtain ⟨g, o2, rfl, _⟩ := h3 hq
    refine wp_append_lies w s x 37 ho base 32 i0 _ 4 64 Tryz.underlying37 hi hz0 hz1 hz2 rfl (by decide) v ps.length (persC ps) hs hown ⟨g, o2, none⟩ qs.length c' (persC qs) hx (persC_len qs) hu'.news (persC_one qs) hq (by unfold maxLen; omega) (by omega) hbase w.heap.size rfl ?_
    intro g' cap w' h1 h2 _ _
    refine h _ _ ?_ h2
    rw [List.length_append, persC_append]; exact h1
  · obtain rfl : qs = [] := List.length_eq_zero_iff.1 (by omega)
    obtain ⟨a', c', rfl, hc, _⟩ := hu
    have hown' := hown
    obtain ⟨a2, c2, rfl, hle, _, _⟩ := own_cap hown
    have hsrc : Src Tryz.prog i0.size 37 (.slice a' 0 c') 0 [] w := by
      refine ⟨.inl ⟨_, Tryz.underlying37⟩, fun w' => ?_, ?_, ?_, by simp, by simp⟩
      · simp [Builtin.lenOf]
      · cases a' <;> simp [Builtin.firstCells, loadCells, loadCellsFrom]
      · cases a' <;> simp [Builtin.firstCells, loadCells, loadCellsFrom]
    have hr := run_append_nothing (P := Tryz.prog) w 37 37 o.type 32 i0 Tryz.underlying37 hi a2 ps.length c2 hle (.slice a' 0 c') hsrc
    unfold Oper.wp execOp
    simp only [ho, resolve, invoke, builtin, Sem.run_bind, Sem.run_pure, Result.andThen_ok, List.map_toArray, List.map_cons, List.map_nil, hs, hx]
    simp only [List.length_nil]
    rw [hr]
    refine h _ _ ?_ (grown_refl _ _)
    rw [List.append_nil]; exact hown'
end Go.Proofs.YteflhlbgbgamnaaGreatDoor

/- The reference's Parse of layer 29: the walks. Conditions: lengths. -/
set_option linter.all false
namespace Go.Proofs.YteflhlbgbgamnaaGreatDoor
open Go.RowKit

/-- The state of the loop over the rest: what has been gathered, where the field begins. -/
def FieldSt (t : Bs) (k fr : Nat) (xs : List Bs) : Prop :=
  (k ≤ t.length ∧ fr ≤ k ∧ xs = (runC 44 (t.take k)).1.map cleanL ∧ (t.take k).drop fr = (runC 44 (t.take k)).2) ∨ (k = t.length + 1 ∧ xs = (splitC 44 t).map cleanL)
theorem FieldSt.start (t : Bs) : FieldSt t 0 0 [] := .inl ⟨Nat.zero_le _, Nat.le_refl _, by simp [runC], by simp [runC]⟩
theorem FieldSt.last {t : Bs} {fr : Nat} {xs : List Bs} (h : FieldSt t t.length fr xs) : FieldSt t (t.length + 1) (t.length + 1) (xs ++ [cleanL (t.drop fr)]) ∧ fr ≤ t.length := by
  rcases h with ⟨_, h2, h3, h4⟩ | ⟨h, _⟩
  · rw [List.take_of_length_le (Nat.le_refl _)] at h3 h4
    refine ⟨.inr ⟨rfl, ?_⟩, h2⟩
    unfold splitC
    rw [h3, h4]; simp
  · omega
theorem FieldSt.comma {t : Bs} {k fr : Nat} {xs : List Bs} (h : FieldSt t k fr xs) (hk : k < t.length) (hb : t[k] = 44) : FieldSt t (k + 1) (k + 1) (xs ++ [cleanL ((t.drop fr).take (k - fr))]) ∧ fr ≤ k := by
  rcases h with ⟨h1, h2, h3, h4⟩ | ⟨h, _⟩
  · refine ⟨.inl ⟨by omega, Nat.le_refl _, ?_, ?_⟩, h2⟩
    · rw [take_next t k hk, runC_snoc, hb]
      rw [show (t.drop fr).take (k - fr) = (t.take k).drop fr from by rw [List.drop_take], h4, h3]
      simp [stepC]
    · rw [take_next t k hk, runC_snoc, hb]
      rw [List.drop_of_length_le (by simp; omega)]
      simp [stepC]
  · omega
theorem FieldSt.other {t : Bs} {k fr : Nat} {xs : List Bs} (h : FieldSt t k fr xs) (hk : k < t.length) (hb : t[k] ≠ 44) : FieldSt t (k + 1) fr xs ∧ fr ≤ k := by
  rcases h with ⟨h1, h2, h3, h4⟩ | ⟨h, _⟩
  · refine ⟨.inl ⟨by omega, by omega, ?_, ?_⟩, h2⟩
    · rw [take_next t k hk, runC_snoc]
      simp [stepC, hb, h3]
    · rw [take_next t k hk, runC_snoc, List.drop_append_of_le_length (by simp; omega), h4]
      simp [stepC, hb]
  · omega
theorem FieldSt.done {t : Bs} {k fr : Nat} {xs : List Bs} (h : FieldSt t k fr xs) (hk : ¬ k ≤ t.length) : xs = (splitC 44 t).map cleanL := by
  rcases h with ⟨h1, _⟩ | ⟨_, h⟩
  · omega
  · exact h

set_option maxRecDepth 100000 in
set_option maxHeartbeats 6400000 in
theorem rparse_n (l : Bs) (w : World) (hs : l.length ≤ 1000000) (hl : lineB l = true) (t : Bs) (HC : Hid (cleanL l = t)) (HNB : Hid (∀ r, t ≠ 123 :: r)) (ht : t.length ≤ 1000001) :
    Calls Tryz.prog 16 #[.string (bs l)] w fun e w' => e = .returned (.tuple #[p4V (restR [] t).2, .int .i64 (restR [] t).1]) ∧ Kept w w' := by
  obtain ⟨i0', hi', hz0, hz1, hz2⟩ := info_parts Tryz.infoStr
  have hcl := cleanL_le l
  go_enter Tryz.func16, Tryz.ntmps16
  go_wp2_with fail
  refine (rline_any l _ (by omega)).mono ?_
  rintro e w1 ⟨rfl, hk1⟩
  rw [hl]
  have HR := Lib.hid ((Blk.new w 32 #[Value.string (bs []), Value.string (bs []), Value.string (bs []), Value.string (bs [])]).kept hk1)
  have HK := Lib.hid ((kept_alloc w _).trans hk1)
  clear hk1
  go_wp2_with fail
  refine (rcleaned_any l _ (by omega)).mono ?_
  rintro e w' ⟨rfl, rfl⟩
  rw [HC.out]

  have hno : t = [] ∨ ∃ x r, t = x :: r ∧ x ≠ 123 := by
    cases t with
    | nil => exact .inl rfl
    | cons x r => exact .inr ⟨x, r, rfl, fun q => HNB.out r (by rw [q])⟩
  have hno2 : (t.isEmpty = true ∧ t = []) ∨ (t.isEmpty = false ∧ ¬ t = [] ∧ (at8 t 0 == 123) = false ∧ 0 < t.length) := by
    rcases hno with rfl | ⟨x, r, rfl, hx⟩
    · exact .inl ⟨rfl, rfl⟩
    · refine .inr ⟨rfl, by simp, ?_, by simp⟩
      rw [beq_eq_false_iff_ne, at8_get _ 0 (by simp)]
      exact fun q => hx ((u8_int x 123 (by decide)).1 q)
  clear hno
  have HCUT : Hid ((t.isEmpty = true ∧ t = []) ∨ (t.isEmpty = false ∧ ¬ t = [] ∧ (at8 t 0 == 123) = false ∧ 0 < t.length)) := hno2
  clear hno2
  rcases HCUT.out with ⟨t1, t2⟩ | ⟨t1, t2, t3, t4⟩
  case' inl => have HT2 := Lib.hid t2; clear t2
  case' inr => have i0 := run_ix (P := Tryz.prog) (t := 9) Tryz.underlying9 t 0 t4 0 rfl; generalize at8 t 0 = b0 at *; clear t4
  all_goals clear HCUT
  all_goals
    go_wp2_with fail
    try simp only [mk_bs]
    go_loopw [7, 8, 9] (fun v fv i wr => ∃ (k fr : Nat) (xs : List Bs), k ≤ t.length + 1 ∧ i = .int .i64 k ∧ fv = .int .i64 fr ∧ fr ≤ t.length + 1 ∧ xs.length ≤ k ∧ wr.ownsRow w1.heap.size 9 1 v xs.length (strCells xs) ∧ Hid (FieldSt t k fr xs) ∧ Kept w1 wr) (fun _ _ i _ => t.length + 1 - (intOf i).toNat)
    case atStart => exact ⟨0, 0, [], Nat.zero_le _, rfl, rfl, Nat.zero_le _, Nat.le_refl _, World.ownsRow_nil _ _ _ _, FieldSt.start t, Kept.refl _⟩
    case round =>
      obtain ⟨k, fr, xs, hk, rfl, rfl, hfr, hxl, hown, HS, hkr⟩ := hrel
      have hsz : w1.heap.size ≤ wr.heap.size := hkr.size
      have HKR := Lib.hid hkr
      have HOWN := Lib.hid hown
      clear hkr hown
      by_cases hlt : k < t.length
      · have i0 := run_ix (P := Tryz.prog) (t := 9) Tryz.underlying9 t k hlt k rfl
        have hne : ((k : Int) == (t.length : Int)) = false := by rw [beq_eq_false_iff_ne]; omega
        have HC : Hid (at8 t k = 44 ↔ t[k] = 44) := by show _ ↔ _; rw [at8_get t k hlt]; exact u8_int _ 44 (by decide)
        by_cases hb : at8 t k = 44
        · obtain ⟨hst, hfk⟩ := HS.out.comma hlt (HC.out.1 hb)
          have sl := run_sub (P := Tryz.prog) (t := 9) Tryz.underlying9 t fr k hfk (by omega) fr k rfl rfl _ rfl
          have hcl : ((t.drop fr).take (k - fr)).length ≤ t.length := by simp; omega
          have HST := Lib.hid hst
          have hown := HOWN.out
          generalize (t.drop fr).take (k - fr) = y at *
          generalize at8 t k = b at *
          clear hst HC
          go_wp2_with fail
          refine (rcleaned_any y _ (by omega)).mono ?_
          rintro e w' ⟨rfl, rfl⟩
          go_wp2_with (at_builtin; refine wpList_append_own _ rfl _ _ 29 rfl w1.heap.size 9 i0' (.string ⟨#[]⟩) 1 16 Tryz.underlying29 hi' hz0 hz1 hz2 rfl (by decide) _ _ _ rfl (hown.alloc _) ⟨wr.heap.size, 0, none⟩ 1 1 [.string (bs (cleanL y))] rfl rfl ?_ ?_ ?_ ?_ ?_ ?_)
          · exact new_cells _ #[.string (bs (cleanL y))] _ _ (by simp)
          · intro u hu; simp at hu; subst hu; rfl
          · unfold maxLen; omega
          · omega
          · simp; omega
          intro v' w2 hown2 hgrow _
          have HB2 := Lib.hid ((HKR.out.trans (kept_alloc wr _)).trans' (grown_below (hown.alloc _) hgrow (by simp; omega)))
          rw [← strCells_snoc] at hown2
          have HO := Lib.hid hown2
          clear hown2 hgrow hown
          go_wp2_with fail
          go_roundw
          case rel => exact ⟨k + 1, k + 1, xs ++ [cleanL y], by omega, by go_num, by go_num, by omega, by simp; omega, by simpa using HO.out, HST.out, HB2.out⟩
          case measure => simp [intOf]; omega
        · obtain ⟨hst, hfk⟩ := HS.out.other hlt (fun q => hb (HC.out.2 q))
          have HST := Lib.hid hst
          have hb' : (at8 t k == 44) = false := by simpa using hb
          generalize at8 t k = b at *
          clear hst HC hb
          go_wp2_with fail
          go_roundw
          case rel => exact ⟨k + 1, fr, xs, by omega, by go_num, rfl, by omega, by omega, HOWN.out, HST.out, HKR.out⟩
          case measure => simp [intOf]; omega
      by_cases heq : k = t.length
      · subst heq
        obtain ⟨hst, hfk⟩ := HS.out.last
        have sl := run_sub (P := Tryz.prog) (t := 9) Tryz.underlying9 t fr t.length hfk (by omega) fr t.length rfl rfl (t.drop fr) (List.take_of_length_le (by simp))
        have hcl : (t.drop fr).length ≤ t.length := by simp
        have HST := Lib.hid hst
        have hown := HOWN.out
        generalize hy : t.drop fr = y at *
        clear hst hy
        go_wp2_with fail
        refine (rcleaned_any y _ (by omega)).mono ?_
        rintro e w' ⟨rfl, rfl⟩
        go_wp2_with (at_builtin; refine wpList_append_own _ rfl _ _ 29 rfl w1.heap.size 9 i0' (.string ⟨#[]⟩) 1 16 Tryz.underlying29 hi' hz0 hz1 hz2 rfl (by decide) _ _ _ rfl (hown.alloc _) ⟨wr.heap.size, 0, none⟩ 1 1 [.string (bs (cleanL y))] rfl rfl ?_ ?_ ?_ ?_ ?_ ?_)
        · exact new_cells _ #[.string (bs (cleanL y))] _ _ (by simp)
        · intro u hu; simp at hu; subst hu; rfl
        · unfold maxLen; omega
        · omega
        · simp; omega
        intro v' w2 hown2 hgrow _
        have HB2 := Lib.hid ((HKR.out.trans (kept_alloc wr _)).trans' (grown_below (hown.alloc _) hgrow (by simp; omega)))
        rw [← strCells_snoc] at hown2
        have HO := Lib.hid hown2
        clear hown2 hgrow hown
        go_wp2_with fail
        go_roundw
        case rel => exact ⟨t.length + 1, t.length + 1, xs ++ [cleanL y], by omega, by go_num, by go_num, by omega, by simp; omega, by simpa using HO.out, HST.out, HB2.out⟩
        case measure => simp [intOf]
      · have hx := HS.out.done (by omega)
        have HX := Lib.hid hx
        have HOK : Hid (wr.ownsRow w1.heap.size 9 1 u7 xs.length (strCells xs)) := HOWN.out
        have HR2 := Lib.hid (HR.out.kept HKR.out)
        have HK2 := Lib.hid (HK.out.trans HKR.out)
        clear hx HS HR HK
        obtain ⟨av, cv, rfl, q1, q2, q3⟩ := own_cap HOK.out
        have hxs : xs.length = t.count 44 + 1 := by rw [HX.out]; simp [splitC_length]
        have HXS := Lib.hid hxs
        clear hxs
        have H3 := Lib.hid q3
        clear q3 HOK HOWN
        have HA := Lib.hid (fun w => barred_any [] true w (by simp))
        have HB := Lib.hid (fun w => barred_any t false w (by omega))
        have cR0 := HR2.out.cell 0 _ rfl
        have fR0 := HR2.out.free 0
        have cR1 := HR2.out.cell 1 _ rfl
        have fR1 := HR2.out.free 1
        have cR2 := HR2.out.cell 2 _ rfl
        have fR2 := HR2.out.free 2
        have cR3 := HR2.out.cell 3 _ rfl
        have fR3 := HR2.out.free 3
        have hzR := HR2.out.lt
        by_cases hc : 2 < t.count 44
        · have HE : Hid (restR [] t = (5, zero4)) := by show _ = _; unfold restR; rw [if_pos (.inl hc)]
          have hgt : 3 < xs.length := by have := HXS.out; omega
          go_wp2_with fail
          refine bodyPost_ret (v := .tuple #[persV [] [] [] [], .int .i64 5]) (by simp [results, Tryz.results16, go_sem, cR0, cR1, cR2, cR3, fR0, fR1, fR2, fR3, hzR]) rfl ⟨by rw [HE.out]; first | done | rfl, ?_⟩
          exact kept_set (kept_set (kept_set (kept_set (HK2.out) _ _ _ (Nat.le_refl _)) _ _ _ (Nat.le_refl _)) _ _ _ (Nat.le_refl _)) _ _ _ (Nat.le_refl _)
        have hle : xs.length ≤ 3 := by have := HXS.out; omega
        have ha1 : ([] : Bs).any (inSet setC) = false := rfl
        have HA1 : Hid (∀ w, Calls Tryz.prog 51 #[.string (bs []), .bool true] w fun e w' => e = .returned (.bool false) ∧ w = w') := by intro w; have := HA.out w; rw [show setOf true = setC from rfl, ha1] at this; exact this
        cases ha2 : t.any (inSet setN)
        case true =>
          have HE : Hid (restR [] t = (5, zero4)) := by show _ = _; unfold restR; rw [if_pos (.inr (.inr ha2))]
          have HB1 : Hid (∀ w, Calls Tryz.prog 51 #[.string (bs t), .bool false] w fun e w' => e = .returned (.bool true) ∧ w = w') := by intro w; have := HB.out w; rw [show setOf false = setN from rfl, ha2] at this; exact this
          clear ha1 ha2 HA HB
          go_wp2_with fail
          refine (HA1.out _).mono ?_
          rintro e w' ⟨rfl, rfl⟩
          go_wp2_with fail
          refine (HB1.out _).mono ?_
          rintro e w' ⟨rfl, rfl⟩
          go_wp2_with fail
          refine bodyPost_ret (v := .tuple #[persV [] [] [] [], .int .i64 5]) (by simp [results, Tryz.results16, go_sem, cR0, cR1, cR2, cR3, fR0, fR1, fR2, fR3, hzR]) rfl ⟨by rw [HE.out]; first | done | rfl, ?_⟩
          exact kept_set (kept_set (kept_set (kept_set (HK2.out) _ _ _ (Nat.le_refl _)) _ _ _ (Nat.le_refl _)) _ _ _ (Nat.le_refl _)) _ _ _ (Nat.le_refl _)
        have HB1 : Hid (∀ w, Calls Tryz.prog 51 #[.string (bs t), .bool false] w fun e w' => e = .returned (.bool false) ∧ w = w') := by intro w; have := HB.out w; rw [show setOf false = setN from rfl, ha2] at this; exact this
        have hnb : ¬ badP [] t := by unfold badP; rw [ha1, ha2]; simp; omega
        have he2 : restR [] t = if (fieldsP t).1 = [] then (8, zero4) else (0, ((fieldsP t).1, (fieldsP t).2.1, [], (fieldsP t).2.2)) := by unfold restR; rw [if_neg hnb]
        clear hnb ha1 ha2 HA HB
        rcases split_three t (by omega) with ⟨a, hsp⟩ | ⟨a, b, hsp⟩ | ⟨a, b, c, hsp⟩
        · rw [fields1 t a hsp] at he2
          have hx := HX.out
          rw [hsp] at hx
          simp only [List.map_cons, List.map_nil] at hx
          subst hx
          obtain ⟨g, rfl, _, hgl, hcell⟩ := H3.out (by simp)
          have cS0 := hcell 0 (.string (bs (cleanL a))) rfl
          clear hcell H3 HX hsp HXS hle
          generalize cleanL a = a' at *
          simp only [List.length_cons, List.length_nil, Nat.zero_add, Nat.reduceAdd] at *
          by_cases hf : a' = []
          · subst hf
            have HE : Hid (restR [] t = (8, zero4)) := by show _ = _; rw [he2]; rfl
            clear he2
            go_wp2_with fail
            refine (HA1.out _).mono ?_
            rintro e w' ⟨rfl, rfl⟩
            go_wp2_with fail
            refine (HB1.out _).mono ?_
            rintro e w' ⟨rfl, rfl⟩
            go_wp2_with fail
            refine bodyPost_ret (v := .tuple #[persV [] [] [] [], .int .i64 8]) (by simp [results, Tryz.results16, go_sem, cR0, cR1, cR2, cR3, fR0, fR1, fR2, fR3, hzR]) rfl ⟨by rw [HE.out]; first | done | rfl, ?_⟩
            have HKX := HK2.out
            have hw1 : w.heap.size ≤ w.heap.size := Nat.le_refl _
            exact (kept_set (kept_set (kept_set (kept_set (HKX) _ _ _ hw1) _ _ _ hw1) _ _ _ hw1) _ _ _ hw1).trans (kept_alloc _ _)
          · have hfe : a'.isEmpty = false := by simpa using hf
            have HE : Hid (restR [] t = (0, (a', [], [], []))) := by show _ = _; rw [he2, if_neg hf]
            clear he2
            go_wp2_with fail
            refine (HA1.out _).mono ?_
            rintro e w' ⟨rfl, rfl⟩
            go_wp2_with fail
            refine (HB1.out _).mono ?_
            rintro e w' ⟨rfl, rfl⟩
            go_wp2_with fail
            refine bodyPost_ret (v := .tuple #[persV a' [] [] [], .int .i64 0]) (by simp [results, Tryz.results16, go_sem, cR0, cR1, cR2, cR3, fR0, fR1, fR2, fR3, hzR]) rfl ⟨by rw [HE.out]; first | done | rfl, ?_⟩
            have HKX := HK2.out
            have hw1 : w.heap.size ≤ w.heap.size := Nat.le_refl _
            exact (kept_set (kept_set (kept_set (kept_set (HKX) _ _ _ hw1) _ _ _ hw1) _ _ _ hw1) _ _ _ hw1).trans (kept_alloc _ _)
        · rw [fields2 t a b hsp] at he2
          have hx := HX.out
          rw [hsp] at hx
          simp only [List.map_cons, List.map_nil] at hx
          subst hx
          obtain ⟨g, rfl, _, hgl, hcell⟩ := H3.out (by simp)
          have cS0 := hcell 0 (.string (bs (cleanL a))) rfl
          have cS1 := hcell 1 (.string (bs (cleanL b))) rfl
          clear hcell H3 HX hsp HXS hle
          generalize cleanL a = a' at *
          generalize cleanL b = b' at *
          simp only [List.length_cons, List.length_nil, Nat.zero_add, Nat.reduceAdd] at *
          by_cases hf : a' = []
          · subst hf
            have HE : Hid (restR [] t = (8, zero4)) := by show _ = _; rw [he2]; rfl
            clear he2
            go_wp2_with fail
            refine (HA1.out _).mono ?_
            rintro e w' ⟨rfl, rfl⟩
            go_wp2_with fail
            refine (HB1.out _).mono ?_
            rintro e w' ⟨rfl, rfl⟩
            go_wp2_with fail
            refine bodyPost_ret (v := .tuple #[persV [] [] [] [], .int .i64 8]) (by simp [results, Tryz.results16, go_sem, cR0, cR1, cR2, cR3, fR0, fR1, fR2, fR3, hzR]) rfl ⟨by rw [HE.out]; first | done | rfl, ?_⟩
            have HKX := HK2.out
            have hw1 : w.heap.size ≤ w.heap.size := Nat.le_refl _
            exact (kept_set (kept_set (kept_set (kept_set (HKX) _ _ _ hw1) _ _ _ hw1) _ _ _ hw1) _ _ _ hw1).trans (kept_alloc _ _)
          · have hfe : a'.isEmpty = false := by simpa using hf
            have HE : Hid (restR [] t = (0, (a', b', [], []))) := by show _ = _; rw [he2, if_neg hf]
            clear he2
            go_wp2_with fail
            refine (HA1.out _).mono ?_
            rintro e w' ⟨rfl, rfl⟩
            go_wp2_with fail
            refine (HB1.out _).mono ?_
            rintro e w' ⟨rfl, rfl⟩
            go_wp2_with fail
            refine bodyPost_ret (v := .tuple #[persV a' b' [] [], .int .i64 0]) (by simp [results, Tryz.results16, go_sem, cR0, cR1, cR2, cR3, fR0, fR1, fR2, fR3, hzR]) rfl ⟨by rw [HE.out]; first | done | rfl, ?_⟩
            have HKX := HK2.out
            have hw1 : w.heap.size ≤ w.heap.size := Nat.le_refl _
            exact (kept_set (kept_set (kept_set (kept_set (HKX) _ _ _ hw1) _ _ _ hw1) _ _ _ hw1) _ _ _ hw1).trans (kept_alloc _ _)
        · rw [fields3 t a b c hsp] at he2
          have hx := HX.out
          rw [hsp] at hx
          simp only [List.map_cons, List.map_nil] at hx
          subst hx
          obtain ⟨g, rfl, _, hgl, hcell⟩ := H3.out (by simp)
          have cS0 := hcell 0 (.string (bs (cleanL a))) rfl
          have cS1 := hcell 1 (.string (bs (cleanL b))) rfl
          have cS2 := hcell 2 (.string (bs (cleanL c))) rfl
          clear hcell H3 HX hsp HXS hle
          generalize cleanL a = a' at *
          generalize cleanL b = b' at *
          generalize cleanL c = c' at *
          simp only [List.length_cons, List.length_nil, Nat.zero_add, Nat.reduceAdd] at *
          by_cases hf : a' = []
          · subst hf
            have HE : Hid (restR [] t = (8, zero4)) := by show _ = _; rw [he2]; rfl
            clear he2
            go_wp2_with fail
            refine (HA1.out _).mono ?_
            rintro e w' ⟨rfl, rfl⟩
            go_wp2_with fail
            refine (HB1.out _).mono ?_
            rintro e w' ⟨rfl, rfl⟩
            go_wp2_with fail
            refine bodyPost_ret (v := .tuple #[persV [] [] [] [], .int .i64 8]) (by simp [results, Tryz.results16, go_sem, cR0, cR1, cR2, cR3, fR0, fR1, fR2, fR3, hzR]) rfl ⟨by rw [HE.out]; first | done | rfl, ?_⟩
            have HKX := HK2.out
            have hw1 : w.heap.size ≤ w.heap.size := Nat.le_refl _
            exact (kept_set (kept_set (kept_set (kept_set (HKX) _ _ _ hw1) _ _ _ hw1) _ _ _ hw1) _ _ _ hw1).trans (kept_alloc _ _)
          · have hfe : a'.isEmpty = false := by simpa using hf
            have HE : Hid (restR [] t = (0, (a', c', [], b'))) := by show _ = _; rw [he2, if_neg hf]
            clear he2
            go_wp2_with fail
            refine (HA1.out _).mono ?_
            rintro e w' ⟨rfl, rfl⟩
            go_wp2_with fail
            refine (HB1.out _).mono ?_
            rintro e w' ⟨rfl, rfl⟩
            go_wp2_with fail
            refine bodyPost_ret (v := .tuple #[persV a' c' [] b', .int .i64 0]) (by simp [results, Tryz.results16, go_sem, cR0, cR1, cR2, cR3, fR0, fR1, fR2, fR3, hzR]) rfl ⟨by rw [HE.out]; first | done | rfl, ?_⟩
            have HKX := HK2.out
            have hw1 : w.heap.size ≤ w.heap.size := Nat.le_refl _
            exact (kept_set (kept_set (kept_set (kept_set (HKX) _ _ _ hw1) _ _ _ hw1) _ _ _ hw1) _ _ _ hw1).trans (kept_alloc _ _)

end Go.Proofs.YteflhlbgbgamnaaGreatDoor
