/- A collation that a call builds in memory; what a store of a longer list does to it. No condition. -/
import Derived.Test.YtofeonnmoakbaaaGreatDoorK24
import Derived.Test.YtofeonnmoakbaaaGreatDoorK09
import Derived.Test.YtofeonnmoakbaaaGreatDoorK13
import Derived.Test.YtofeonnmoakbaaaGreatDoorK03

set_option linter.all false
namespace Go.Proofs.YtofeonnmoakbaaaGreatDoor
open Go.RowKit

/-- Two rows that a call owns, of elements of other types, and a block of a third lie apart. -/
theorem own_no_blk {w : World} {base : Nat} {e : TypeId} {size : Nat} {v : Value} {n : Nat} {xs : List Value} {b : Nat} {t : TypeId} {cs : Array Value} (h : w.ownsRow base e size v n xs) (hb : Blk w b t cs) (hne : e ≠ t) : some b ≠ v.ownBlock := by
  rcases h.2 with ⟨rfl, _⟩ | ⟨g, cap, cur, rfl, _, hh, _⟩
  · simp [Value.ownBlock]
  · intro q
    have hg : b = g := by simpa [Value.ownBlock] using q
    subst hg
    unfold Blk at hb
    rw [hb] at hh
    simp only [Option.some.injEq, Obj.cells.injEq] at hh
    exact hne hh.2.1.symm
theorem own_no_own {w : World} {base base' : Nat} {e e' : TypeId} {size size' : Nat} {v v' : Value} {n n' : Nat} {xs xs' : List Value} (h : w.ownsRow base e size v n xs) (h' : w.ownsRow base' e' size' v' n' xs') (hne : e ≠ e') : ∀ g, v.ownBlock = some g → some g ≠ v'.ownBlock := by
  intro g hg
  rcases h.2 with ⟨rfl, _⟩ | ⟨g2, cap, cur, rfl, _, hh, _⟩
  · simp [Value.ownBlock] at hg
  · have hg2 : g2 = g := by simpa [Value.ownBlock] using hg
    subst hg2
    exact own_no_blk h' (show Blk w g2 e cur from hh) (fun q => hne q.symm)
theorem ColSt.col {w : World} {b base : Nat} {c : ColT} {vR vO : Value} (h2 : w.ownsRow base 49 2 vR c.ranks.length (pairC c.ranks)) (h3 : w.ownsRow base 9 1 vO c.order.length (strCells c.order)) : Col w vR vO c := ⟨Prs.own h2, Strs.own h3⟩
/-- A store into block b behind a push on a row. -/
theorem only_push {w w3 : World} {base : Nat} {e : TypeId} {size : Nat} {v : Value} {n : Nat} {xs : List Value} {b o : Nat} {u : Value} (h : w.ownsRow base e size v n xs) (hg : w.grownBy w3 v.ownBlock) : Only (fun i => i = b ∨ base ≤ i) w (w3.setCell ⟨b, o, none⟩ u) :=
  ((Only.grown hg).mono (fun i _ q => .inr (h.lt i q.symm).1)).trans ((Only.setCell b o u).mono (fun i _ q => .inl q))
theorem pairs_src {w : World} {a : Option Addr} {n c : Nat} {qs : List Pr} (h : Prs w (.slice a n c) qs) : n = qs.length ∧ (0 < n → ∃ g o2, a = some ⟨g, o2, none⟩ ∧ ∀ j u, (pairC qs)[j]? = some u → w.cell? ⟨g, o2 + j, none⟩ = some u) := by
  obtain ⟨a', c', hv, _, h3⟩ := h
  obtain ⟨rfl, rfl, rfl⟩ := Value.slice.inj hv
  refine ⟨rfl, fun q => ?_⟩
  obtain ⟨g, o, ha, _, hc⟩ := h3 q
  exact ⟨g, o, ha, fun j u hu => pairC_read w g qs o hc j u hu⟩
set_option maxRecDepth 100000 in
theorem step_append_prs (w : World) {ops : Array Oper} {o : Oper} {a : Act} {K : Act → World → Prop} {Q : Exit → Act → World → Prop} {E : Prop} (hgd : o.guard = none) (s x : Operand)
    (ho : o.op = .call { callee := .builtin .append, args := #[s, x], argTypes := #[22, 22] })
    (base : Nat) (v : Value) (ps : List Pr) (hs : a.eval s = v) (hown : w.ownsRow base 49 2 v ps.length (pairC ps)) (u : Value) (qs : List Pr) (hx : a.eval x = u) (hu : Prs w u qs)
    (hb : ps.length + qs.length ≤ 2000000) (hbase : base ≤ w.heap.size)
    (h : ∀ v' w', w'.ownsRow base 49 2 v' (ps ++ qs).length (pairC (ps ++ qs)) → w.grownBy w' v.ownBlock → K (a.put o.dst v') w') :
    if Region.wanted o (yielded ops a.tmps) = true then Oper.wp Tryz.prog o a w K Q else E := by
  obtain ⟨i0, hi, hz0, hz1, hz2⟩ := info_parts Tryz.infoPair
  have hu' := hu
  obtain ⟨a', c', rfl, hc, _⟩ := hu
  obtain ⟨_, hsrc⟩ := pairs_src hu'
  refine step_append_any w hgd s x 22 ho base 49 i0 (.agg #[.string ⟨#[]⟩, .string ⟨#[]⟩]) 2 32 Tryz.underlying22 hi hz0 hz1 hz2 rfl (by decide) v ps.length (pairC ps) hs hown a' qs.length c' (pairC qs) hx (pairC_len qs) hsrc (pairC_one qs) (by unfold maxLen; omega) (by omega) hbase (fun v' w' h1 h2 => h v' w' ?_ h2)
  rw [List.length_append, pairC_append]; exact h1
theorem new_prs (w : World) (x y : Bs) : Prs (w.alloc (.cells #[.string (bs x), .string (bs y)] 49)) (.slice (some ⟨w.heap.size, 0, none⟩) 1 1) [(x, y)] := by
  refine ⟨_, _, rfl, Nat.le_refl _, fun _ => ⟨w.heap.size, 0, rfl, by simp, fun j q hq => ?_⟩⟩
  have hb := Blk.new w 49 #[.string (bs x), .string (bs y)]
  cases j with
  | zero => cases hq; exact ⟨hb.cell 0 _ rfl, hb.cell 1 _ rfl⟩
  | succ j => simp at hq
theorem Strs.tail {w : World} {g o c n : Nat} {x : Bs} {xs : List Bs} (h : Strs w (.slice (some ⟨g, o, none⟩) n c) (x :: xs)) : Strs w (.slice (some ⟨g, o + 1, none⟩) xs.length (c - 1)) xs := by
  obtain ⟨a, c', hv, hc, h3⟩ := h
  obtain ⟨rfl, rfl, rfl⟩ := Value.slice.inj hv
  obtain ⟨g', o', he, hg, hcell⟩ := h3 (by simp)
  cases he
  refine ⟨_, _, rfl, by simp at hc; omega, fun _ => ⟨g, o + 1, rfl, hg, fun j y hy => ?_⟩⟩
  have := hcell (j + 1) y (by simpa using hy)
  rwa [show o + (j + 1) = o + 1 + j from by omega] at this
end Go.Proofs.YtofeonnmoakbaaaGreatDoor

/- lines.Split once more, with the place of the slice. (Lines' lsplit_any says less and may be dropped.) -/
set_option linter.all false
namespace Go.Proofs.YtofeonnmoakbaaaGreatDoor
open Go.RowKit

def BaseB (B : Nat) (v : Value) (xs : List Bs) : Prop := 0 < xs.length → ∃ g, v.ownBlock = some g ∧ B ≤ g
theorem BaseB.own {w : World} {base : Nat} {e : TypeId} {v : Value} {xs : List Bs} (h : w.ownsRow base e 1 v xs.length (strCells xs)) : BaseB base v xs := by
  obtain ⟨a, c, hv, _, _, h3⟩ := own_cap h
  intro q
  obtain ⟨g, ha, hb, _⟩ := h3 q
  exact ⟨g, by rw [hv, ha]; rfl, hb⟩
def SliQ (xs : List Bs) (w : World) (e : Ending) (w' : World) : Prop := ∃ v, e = .returned v ∧ Strs w' v xs ∧ BaseB w.heap.size v xs ∧ Kept w w'
set_option maxRecDepth 100000 in
set_option maxHeartbeats 3200000 in
theorem lsplit_own (t : Bs) (w : World) (ht : t.length ≤ 1100000) : Calls Tryz.prog 31 #[.string (bs t)] w (SliQ (linesL t) w) := by
  obtain ⟨i0', hi', hz0, hz1, hz2⟩ := info_parts Tryz.infoStr
  go_enter Tryz.func31, Tryz.ntmps31
  go_wp2_with fail
  go_loopw [3, 4, 8] (fun v fv i wr => ∃ (k fr : Nat) (xs : List Bs), k ≤ t.length ∧ i = .int .i64 k ∧ fv = .int .i64 fr ∧ fr ≤ k ∧ xs.length ≤ k ∧ wr.ownsRow w.heap.size 9 1 v xs.length (strCells xs) ∧ Hid (LineSt t k fr xs) ∧ Kept w wr) (fun _ _ i _ => t.length - (intOf i).toNat)
  case atStart => exact ⟨0, 0, [], Nat.zero_le _, rfl, rfl, Nat.zero_le _, Nat.le_refl _, World.ownsRow_nil _ _ _ _, LineSt.start t, Kept.refl _⟩
  case round =>
    obtain ⟨k, fr, xs, hk, rfl, rfl, hfr, hxl, hown, HS, hkr⟩ := hrel
    have hsz : w.heap.size ≤ wr.heap.size := hkr.size
    have HKR := Lib.hid hkr
    have HOWN := Lib.hid hown
    clear hkr hown
    by_cases hlt : k < t.length
    · have i0 := run_ix (P := Tryz.prog) (t := 9) Tryz.underlying9 t k hlt k rfl
      have HC : Hid (at8 t k = 10 ↔ t[k] = 10) := by show _ ↔ _; rw [at8_get t k hlt]; exact u8_int _ 10 (by decide)
      by_cases hb : at8 t k = 10
      · obtain ⟨hst, hfk⟩ := HS.out.feed hlt (HC.out.1 hb)
        have sl := run_sub (P := Tryz.prog) (t := 9) Tryz.underlying9 t fr k hfk (by omega) fr k rfl rfl _ rfl
        have HST := Lib.hid hst
        have hown := HOWN.out
        have hb' : (at8 t k == 10) = true := by simpa using hb
        generalize (t.drop fr).take (k - fr) = y at *
        generalize at8 t k = b at *
        clear hst HC hb
        go_wp2_with (at_builtin; refine wpList_append_own _ rfl _ _ 51 rfl w.heap.size 9 i0' (.string ⟨#[]⟩) 1 16 Tryz.underlying51 hi' hz0 hz1 hz2 rfl (by decide) _ _ _ rfl (hown.alloc _) ⟨wr.heap.size, 0, none⟩ 1 1 [.string (bs y)] rfl rfl ?_ ?_ ?_ ?_ ?_ ?_)
        · exact new_cells _ #[.string (bs y)] _ _ (by simp)
        · intro u hu; simp at hu; subst hu; rfl
        · unfold maxLen; omega
        · omega
        · simp; omega
        intro v' w2 hown2 hgrow _
        have HB2 := Lib.hid ((HKR.out.trans (kept_alloc wr _)).trans' (grown_below (hown.alloc _) hgrow (by simp; omega)))
        rw [← strCells_snoc] at hown2
        have HO := Lib.hid hown2
        clear hown2 hgrow hown
        go_wp2_with fail
        go_roundw
        case rel => exact ⟨k + 1, k + 1, xs ++ [y], by omega, by go_num, by go_num, by omega, by simp; omega, by simpa using HO.out, HST.out, HB2.out⟩
        case measure => simp [intOf]; omega
      · obtain ⟨hst, hfk⟩ := HS.out.other hlt (fun q => hb (HC.out.2 q))
        have HST := Lib.hid hst
        have hb' : (at8 t k == 10) = false := by simpa using hb
        generalize at8 t k = b at *
        clear hst HC hb
        go_wp2_with fail
        go_roundw
        case rel => exact ⟨k + 1, fr, xs, by omega, by go_num, rfl, by omega, by omega, HOWN.out, HST.out, HKR.out⟩
        case measure => simp [intOf]; omega
    · obtain rfl : k = t.length := by omega
      obtain ⟨hfl, hfin⟩ := HS.out.done
      have HFIN := Lib.hid hfin
      clear hfin
      by_cases hq : fr < t.length
      · rw [if_pos hq] at HFIN
        have sl := run_from (P := Tryz.prog) (t := 9) Tryz.underlying9 t fr hfl fr rfl _ rfl
        have hown := HOWN.out
        generalize t.drop fr = y at *
        go_wp2_with (at_builtin; refine wpList_append_own _ rfl _ _ 51 rfl w.heap.size 9 i0' (.string ⟨#[]⟩) 1 16 Tryz.underlying51 hi' hz0 hz1 hz2 rfl (by decide) _ _ _ rfl (hown.alloc _) ⟨wr.heap.size, 0, none⟩ 1 1 [.string (bs y)] rfl rfl ?_ ?_ ?_ ?_ ?_ ?_)
        · exact new_cells _ #[.string (bs y)] _ _ (by simp)
        · intro u hu; simp at hu; subst hu; rfl
        · unfold maxLen; omega
        · omega
        · simp; omega
        intro v' w2 hown2 hgrow _
        have HB2 := Lib.hid ((HKR.out.trans (kept_alloc wr _)).trans' (grown_below (hown.alloc _) hgrow (by simp; omega)))
        rw [← strCells_snoc] at hown2
        have hown3 : w2.ownsRow w.heap.size 9 1 v' (xs ++ [y]).length (strCells (xs ++ [y])) := by simpa using hown2
        have HO : Hid (Strs w2 v' (xs ++ [y]) ∧ BaseB w.heap.size v' (xs ++ [y])) := ⟨Strs.own hown3, BaseB.own hown3⟩
        clear hown3
        clear hown2 hgrow hown
        go_wp2_with fail
        go_ret
        exact ⟨_, rfl, by rw [HFIN.out]; exact HO.out.1, by rw [HFIN.out]; exact HO.out.2, HB2.out⟩
      · rw [if_neg hq, List.append_nil] at HFIN
        have HO := Lib.hid (And.intro (Strs.own HOWN.out) (BaseB.own HOWN.out))
        go_wp2_with fail
        go_ret
        exact ⟨_, rfl, by rw [HFIN.out]; exact HO.out.1, by rw [HFIN.out]; exact HO.out.2, HKR.out⟩

end Go.Proofs.YtofeonnmoakbaaaGreatDoor

/- words of collate and of publisherref25. Conditions: lengths. -/
set_option linter.all false
namespace Go.Proofs.YtofeonnmoakbaaaGreatDoor
open Go.RowKit

def WrdP (xs : List Bs) (w : World) (e : Ending) (w' : World) : Prop := ∃ v, e = .returned v ∧ Strs w' v xs ∧ Kept w w'
theorem wordsB_next (l : Bs) (k : Nat) (x : Bs) (h : (splitC 32 l)[k]? = some x) : ((splitC 32 l).take (k + 1)).filter (fun x => !x.isEmpty) = if x = [] then ((splitC 32 l).take k).filter (fun x => !x.isEmpty) else ((splitC 32 l).take k).filter (fun x => !x.isEmpty) ++ [x] := by
  rw [filter_next _ _ k x h]
  cases x <;> simp
theorem Strs.cell_of2 {w : World} {a : Option Addr} {n c : Nat} {xs : List Bs} (h : Strs w (.slice a n c) xs) (k : Nat) (x : Bs) (hx : xs[k]? = some x) : ∃ g o, a = some ⟨g, o, none⟩ ∧ g < w.heap.size ∧ w.cell? ⟨g, o + k, none⟩ = some (.string (bs x)) := by
  obtain ⟨a', c', hv, hc, h3⟩ := h
  obtain ⟨rfl, rfl, rfl⟩ := Value.slice.inj hv
  obtain ⟨hk, _⟩ := List.getElem?_eq_some_iff.1 hx
  obtain ⟨g, o, ha, hg, hcell⟩ := h3 (by omega)
  exact ⟨g, o, ha, hg, hcell k x hx⟩
theorem strs_made (w : World) (xs : List Bs) : Strs (w.alloc (.cells (strCells xs).toArray 9)) (.slice (some ⟨w.heap.size, 0, none⟩) xs.length xs.length) xs := by
  refine ⟨_, _, rfl, Nat.le_refl _, fun _ => ⟨w.heap.size, 0, rfl, by simp, fun j x hx => ?_⟩⟩
  have hb := Blk.new w 9 (strCells xs).toArray
  refine hb.cell (0 + j) _ ?_
  rw [Nat.zero_add, List.getElem?_toArray]
  exact strCells_at xs j x hx
end Go.Proofs.YtofeonnmoakbaaaGreatDoor
