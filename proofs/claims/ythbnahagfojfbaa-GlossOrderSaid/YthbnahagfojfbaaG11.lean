/- Whole numbers and texts appended in a region that draws its order. Conditions: lengths. -/
import Derived.Test.YthbnahagfojfbaaG10
import Derived.Test.YthbnahagfojfbaaG01
import Derived.Test.YthbnahagfojfbaaG05
import Derived.Test.YthbnahagfojfbaaG06
import Derived.Deep.AppendLies
import Derived.Deep.RegionHeld3
import Derived.Deep.Upon
import Derived.Lib.SliceRun

set_option linter.all false
namespace Go.Proofs.Ythbnahagfojfbaa
open Go.RowKit

theorem Try.infoInt : (Try.prog.info? 3).map (fun i => (i.zero, i.size, i.bytes)) = some (some (.int .i64 0), 1, 8) := by kernel_rfl
theorem addr_at (g o j : Nat) : (⟨g, o, none⟩ : Addr).add j = ⟨g, o + j, none⟩ := by unfold Addr.add; split <;> simp_all
theorem step_append_any {P : Program} (w : World) {ops : Array Oper} {o : Oper} {a : Act} {K : Act → World → Prop} {Q : Exit → Act → World → Prop} {E : Prop} (hgd : o.guard = none) (s x : Operand) (t : TypeId)
    (ho : o.op = .call { callee := .builtin .append, args := #[s, x], argTypes := #[t, t] })
    (base : Nat) (e : TypeId) (i : TypeInfo) (z : Value) (size bytes : Nat) (ht : P.underlying t = some (.slice e)) (hi : P.info? e = some i) (hz : i.zero = some z)
    (hsize : i.size = size) (hby : i.bytes = bytes) (hzs : z.cells.size = size) (hsz : 0 < size)
    (v : Value) (n : Nat) (xs : List Value) (hs : a.eval s = v) (hown : w.ownsRow base e size v n xs)
    (a' : Option Addr) (m c : Nat) (news : List Value) (hx : a.eval x = .slice a' m c) (hl : news.length = m * size)
    (hsrc : 0 < m → ∃ g o2, a' = some ⟨g, o2, none⟩ ∧ ∀ j u, news[j]? = some u → w.cell? ⟨g, o2 + j, none⟩ = some u) (h1 : ∀ u ∈ news, u.oneCell' = true)
    (h63 : n + m ≤ maxLen) (hbytes : (n + m) * bytes ≤ 140737488355328) (hbase : base ≤ w.heap.size)
    (h : ∀ v' w', w'.ownsRow base e size v' (n + m) (xs ++ news) → w.grownBy w' v.ownBlock → K (a.put o.dst v') w') :
    if Region.wanted o (yielded ops a.tmps) = true then Oper.wp P o a w K Q else E := by
  have hw : Region.wanted o (yielded ops a.tmps) = true := by simp [Region.wanted, hgd]
  rw [if_pos hw]
  by_cases hq : 0 < m
  · obtain ⟨g, o2, rfl, hc⟩ := hsrc hq
    refine wp_append_lies w s x t ho base e i z size bytes ht hi hz hsize hby hzs hsz v n xs hs hown ⟨g, o2, none⟩ m c news hx hl (fun j u hu => by rw [addr_at]; exact hc j u hu) h1 hq h63 hbytes hbase w.heap.size rfl ?_
    intro g' cap w' h1 h2 _ _
    exact h _ _ h1 h2
  · obtain rfl : m = 0 := by omega
    obtain rfl : news = [] := List.length_eq_zero_iff.1 (by omega)
    have hown' := hown
    obtain ⟨a2, c2, rfl, hle, _, _⟩ := own_cap hown
    have hsrc : Src P i.size t (.slice a' 0 c) 0 [] w := by
      refine ⟨.inl ⟨_, ht⟩, fun w' => ?_, ?_, ?_, by simp, by simp⟩
      · simp [Builtin.lenOf]
      · cases a' <;> simp [Builtin.firstCells, loadCells, loadCellsFrom]
      · cases a' <;> simp [Builtin.firstCells, loadCells, loadCellsFrom]
    have hr := run_append_nothing (P := P) w t t o.type e i ht hi a2 n c2 hle (.slice a' 0 c) hsrc
    unfold Oper.wp execOp
    simp only [ho, resolve, invoke, builtin, Sem.run_bind, Sem.run_pure, Result.andThen_ok, List.map_toArray, List.map_cons, List.map_nil, hs, hx]
    rw [hr]
    refine h _ _ ?_ (World.grownBy.refl _ _)
    rw [List.append_nil]; exact hown'
theorem intC_one (xs : List Int) : ∀ u ∈ intC xs, u.oneCell' = true := by
  intro u hu
  unfold intC at hu
  rw [List.mem_map] at hu
  obtain ⟨x, _, rfl⟩ := hu; rfl
theorem intC_back (xs : List Int) (j : Nat) (u : Value) (h : (intC xs)[j]? = some u) : ∃ x, xs[j]? = some x ∧ u = .int .i64 x := by
  unfold intC at h
  rw [List.getElem?_map] at h
  cases hx : xs[j]? with
  | none => rw [hx] at h; cases h
  | some x => rw [hx] at h; exact ⟨x, rfl, by simpa using h.symm⟩
theorem strCells_one (xs : List Bs) : ∀ u ∈ strCells xs, u.oneCell' = true := by
  intro u hu
  unfold strCells at hu
  rw [List.mem_map] at hu
  obtain ⟨x, _, rfl⟩ := hu; rfl
theorem strCells_back (xs : List Bs) (j : Nat) (u : Value) (h : (strCells xs)[j]? = some u) : ∃ x, xs[j]? = some x ∧ u = .string (bs x) := by
  unfold strCells at h
  rw [List.getElem?_map] at h
  cases hx : xs[j]? with
  | none => rw [hx] at h; cases h
  | some x => rw [hx] at h; exact ⟨x, rfl, by simpa using h.symm⟩
theorem new_int (w : World) (x : Int) : Ints (w.alloc (.cells #[.int .i64 x] 3)) (.slice (some ⟨w.heap.size, 0, none⟩) 1 1) [x] := by
  refine ⟨_, _, rfl, Nat.le_refl _, fun _ => ⟨w.heap.size, 0, rfl, by simp, fun j y hy => ?_⟩⟩
  have hb := Blk.new w 3 #[.int .i64 x]
  cases j with
  | zero => cases hy; exact hb.cell 0 _ rfl
  | succ j => simp at hy
theorem Ints.onl {S : Nat → Prop} {w w' : World} {g o n c : Nat} {xs : List Int} (h : Ints w (.slice (some ⟨g, o, none⟩) n c) xs) (k : Only S w w') (hs : ¬ S g) : Ints w' (.slice (some ⟨g, o, none⟩) n c) xs :=
  h.only k (fun g' hg' => .inr (fun o' n' c' q => by cases q; exact hs hg'))
set_option maxRecDepth 100000 in
theorem step_append_ints (w : World) {ops : Array Oper} {o : Oper} {a : Act} {K : Act → World → Prop} {Q : Exit → Act → World → Prop} {E : Prop} (hgd : o.guard = none) (s x : Operand)
    (ho : o.op = .call { callee := .builtin .append, args := #[s, x], argTypes := #[62, 62] })
    (base : Nat) (v : Value) (ps : List Int) (hs : a.eval s = v) (hown : w.ownsRow base 3 1 v ps.length (intC ps)) (u : Value) (qs : List Int) (hx : a.eval x = u) (hu : Ints w u qs)
    (hb : ps.length + qs.length ≤ 10000000) (hbase : base ≤ w.heap.size)
    (h : ∀ v' w', w'.ownsRow base 3 1 v' (ps ++ qs).length (intC (ps ++ qs)) → w.grownBy w' v.ownBlock → K (a.put o.dst v') w') :
    if Region.wanted o (yielded ops a.tmps) = true then Oper.wp Try.prog o a w K Q else E := by
  obtain ⟨i0, hi, hz0, hz1, hz2⟩ := info_parts Try.infoInt
  obtain ⟨a', c', rfl, hc, h3⟩ := hu
  refine step_append_any w hgd s x 62 ho base 3 i0 (.int .i64 0) 1 8 Try.underlying62 hi hz0 hz1 hz2 rfl (by decide) v ps.length (intC ps) hs hown a' qs.length c' (intC qs) hx (by simp [intC_length]) (fun hq => ?_) (intC_one qs) (by unfold maxLen; omega) (by omega) hbase (fun v' w' h1 h2 => h v' w' ?_ h2)
  · obtain ⟨g, o2, rfl, _, hcell⟩ := h3 hq
    refine ⟨g, o2, rfl, fun j u hu => ?_⟩
    obtain ⟨y, hy, rfl⟩ := intC_back qs j u hu
    exact hcell j y hy
  · rw [List.length_append, intC_app]; exact h1
set_option maxRecDepth 100000 in
theorem step_append_strs (w : World) {ops : Array Oper} {o : Oper} {a : Act} {K : Act → World → Prop} {Q : Exit → Act → World → Prop} {E : Prop} (hgd : o.guard = none) (s x : Operand)
    (ho : o.op = .call { callee := .builtin .append, args := #[s, x], argTypes := #[24, 24] })
    (base : Nat) (v : Value) (ps : List Bs) (hs : a.eval s = v) (hown : w.ownsRow base 9 1 v ps.length (strCells ps)) (u : Value) (qs : List Bs) (hx : a.eval x = u) (hu : Strs w u qs)
    (hb : ps.length + qs.length ≤ 5000000) (hbase : base ≤ w.heap.size)
    (h : ∀ v' w', w'.ownsRow base 9 1 v' (ps ++ qs).length (strCells (ps ++ qs)) → w.grownBy w' v.ownBlock → K (a.put o.dst v') w') :
    if Region.wanted o (yielded ops a.tmps) = true then Oper.wp Try.prog o a w K Q else E := by
  obtain ⟨i0, hi, hz0, hz1, hz2⟩ := info_parts Try.infoStr
  obtain ⟨a', c', rfl, hc, h3⟩ := hu
  refine step_append_any w hgd s x 24 ho base 9 i0 (.string ⟨#[]⟩) 1 16 Try.underlying24 hi hz0 hz1 hz2 rfl (by decide) v ps.length (strCells ps) hs hown a' qs.length c' (strCells qs) hx (by simp [strCells_length]) (fun hq => ?_) (strCells_one qs) (by unfold maxLen; omega) (by omega) hbase (fun v' w' h1 h2 => h v' w' ?_ h2)
  · obtain ⟨g, o2, rfl, _, hcell⟩ := h3 hq
    refine ⟨g, o2, rfl, fun j u hu => ?_⟩
    obtain ⟨y, hy, rfl⟩ := strCells_back qs j u hu
    exact hcell j y hy
  · rw [List.length_append, show strCells (ps ++ qs) = strCells ps ++ strCells qs from by simp [strCells]]; exact h1
end Go.Proofs.Ythbnahagfojfbaa

/- slices.Clone at texts, pairs and parts of citations; attr.Get and attr.Has. Conditions: lengths. -/
set_option linter.all false
namespace Go.Proofs.Ythbnahagfojfbaa
open Go.RowKit

theorem Try.infoCit : (Try.prog.info? 110).map (fun i => (i.zero, i.size, i.bytes)) = some (some (.agg #[.string ⟨#[]⟩, .string ⟨#[]⟩, .string ⟨#[]⟩, .bool false]), 4, 56) := by kernel_rfl
/-- A copy of n elements in a row of the call's own. -/
def ClnP (e : TypeId) (k : Nat) (n : Nat) (news : List Value) (w : World) (en : Ending) (w' : World) : Prop := ∃ v', en = .returned v' ∧ w'.ownsRow w.heap.size e k v' n news ∧ Kept w w'

set_option maxRecDepth 100000 in
set_option maxHeartbeats 1600000 in
theorem clnS_any (a : Option Addr) (n c : Nat) (news : List Value) (w : World) (hl : news.length = n * 1) (hn : n ≤ 1100000) (hsrc : 0 < n → ∃ g o, a = some ⟨g, o, none⟩ ∧ ∀ j u, news[j]? = some u → w.cell? ⟨g, o + j, none⟩ = some u) (h1 : ∀ u ∈ news, u.oneCell' = true) (hg : ∀ g o, a = some ⟨g, o, none⟩ → 0 < n → g < w.heap.size) :
    Calls Try.prog 50 #[.slice a n c] w (ClnP 9 1 n news w) := by
  obtain ⟨i0, hi, hz0, hz1, hz2⟩ := info_parts Try.infoStr
  have qT : ∀ (w : World) (a : Option Addr) (n c n' c' : Nat), (binOp .eql 24 (.slice a n c) (.slice none n' c')).run Try.prog w = .ok (.bool a.isNone) w := fun w a n c n' c' => Lib.run_eql_slice_nil w _ _ a n c n' c' Try.underlying24
  unfold ClnP
  cases a with
  | none =>
    obtain rfl : n = 0 := by
      rcases Nat.eq_zero_or_pos n with q | q
      · exact q
      · obtain ⟨g, o, e, _⟩ := hsrc q; cases e
    obtain rfl : news = [] := List.length_eq_zero_iff.1 (by omega)
    clear hsrc h1 hg
    go_enter Try.func50, Try.ntmps50
    go_wp2_with fail
    go_ret
    exact ⟨_, rfl, World.ownsRow_nil _ _ _ _, Kept.refl _⟩
  | some ad =>
    have HNEWS : Hid (∀ j u, news[j]? = some u → (w.alloc (.cells #[] 9)).cell? (ad.add j) = some u) := fun j u hu => by
      have hj := (List.getElem?_eq_some_iff.1 hu).1
      have hq : 0 < n := by
        rcases Nat.eq_zero_or_pos n with q | q
        · rw [q] at hl; omega
        · exact q
      obtain ⟨g, o, e, hc⟩ := hsrc hq
      cases e
      rw [addr_plus]
      exact ((kept_alloc w (.cells #[] 9)).cell (p := ⟨g, o + j, none⟩) (hg g o rfl hq)).trans (hc j u hu)
    have HONE := Lib.hid h1
    clear hsrc h1 hg
    go_enter Try.func50, Try.ntmps50
    go_wp2_with (at_builtin; refine wpList_append_own _ rfl _ _ 24 rfl w.heap.size 9 i0 (.string ⟨#[]⟩) 1 16 Try.underlying24 hi hz0 hz1 hz2 rfl (by decide) _ 0 [] rfl (World.ownsRow_made w #[] 0 (Nat.le_refl _) (by unfold maxLen; omega) (by simp)) ad n c news rfl hl HNEWS.out HONE.out ?_ ?_ ?_ ?_)
    · unfold maxLen; omega
    · omega
    · simp
    intro v' w2 hown2 hgrow _
    have HR := Lib.hid hown2
    have HK := Lib.hid ((kept_alloc w (.cells #[] 9)).trans' (grown_below (World.ownsRow_made (size := 1) w #[] 0 (Nat.le_refl _) (by unfold maxLen; omega) (by simp)) hgrow (by simp)))
    clear hown2 hgrow
    go_wp2_with fail
    go_ret
    exact ⟨_, rfl, by simpa using HR.out, HK.out⟩

set_option maxRecDepth 100000 in
set_option maxHeartbeats 1600000 in
theorem clnF_any (a : Option Addr) (n c : Nat) (news : List Value) (w : World) (hl : news.length = n * 2) (hn : n ≤ 1100000) (hsrc : 0 < n → ∃ g o, a = some ⟨g, o, none⟩ ∧ ∀ j u, news[j]? = some u → w.cell? ⟨g, o + j, none⟩ = some u) (h1 : ∀ u ∈ news, u.oneCell' = true) (hg : ∀ g o, a = some ⟨g, o, none⟩ → 0 < n → g < w.heap.size) :
    Calls Try.prog 23 #[.slice a n c] w (ClnP 60 2 n news w) := by
  obtain ⟨i0, hi, hz0, hz1, hz2⟩ := info_parts Try.infoPair
  have qT : ∀ (w : World) (a : Option Addr) (n c n' c' : Nat), (binOp .eql 23 (.slice a n c) (.slice none n' c')).run Try.prog w = .ok (.bool a.isNone) w := fun w a n c n' c' => Lib.run_eql_slice_nil w _ _ a n c n' c' Try.underlying23
  unfold ClnP
  cases a with
  | none =>
    obtain rfl : n = 0 := by
      rcases Nat.eq_zero_or_pos n with q | q
      · exact q
      · obtain ⟨g, o, e, _⟩ := hsrc q; cases e
    obtain rfl : news = [] := List.length_eq_zero_iff.1 (by omega)
    clear hsrc h1 hg
    go_enter Try.func23, Try.ntmps23
    go_wp2_with fail
    go_ret
    exact ⟨_, rfl, World.ownsRow_nil _ _ _ _, Kept.refl _⟩
  | some ad =>
    have HNEWS : Hid (∀ j u, news[j]? = some u → (w.alloc (.cells #[] 60)).cell? (ad.add j) = some u) := fun j u hu => by
      have hj := (List.getElem?_eq_some_iff.1 hu).1
      have hq : 0 < n := by
        rcases Nat.eq_zero_or_pos n with q | q
        · rw [q] at hl; omega
        · exact q
      obtain ⟨g, o, e, hc⟩ := hsrc hq
      cases e
      rw [addr_plus]
      exact ((kept_alloc w (.cells #[] 60)).cell (p := ⟨g, o + j, none⟩) (hg g o rfl hq)).trans (hc j u hu)
    have HONE := Lib.hid h1
    clear hsrc h1 hg
    go_enter Try.func23, Try.ntmps23
    go_wp2_with (at_builtin; refine wpList_append_own _ rfl _ _ 23 rfl w.heap.size 60 i0 (.agg #[.string ⟨#[]⟩, .string ⟨#[]⟩]) 2 32 Try.underlying23 hi hz0 hz1 hz2 rfl (by decide) _ 0 [] rfl (World.ownsRow_made w #[] 0 (Nat.le_refl _) (by unfold maxLen; omega) (by simp)) ad n c news rfl hl HNEWS.out HONE.out ?_ ?_ ?_ ?_)
    · unfold maxLen; omega
    · omega
    · simp
    intro v' w2 hown2 hgrow _
    have HR := Lib.hid hown2
    have HK := Lib.hid ((kept_alloc w (.cells #[] 60)).trans' (grown_below (World.ownsRow_made (size := 2) w #[] 0 (Nat.le_refl _) (by unfold maxLen; omega) (by simp)) hgrow (by simp)))
    clear hown2 hgrow
    go_wp2_with fail
    go_ret
    exact ⟨_, rfl, by simpa using HR.out, HK.out⟩

set_option maxRecDepth 100000 in
set_option maxHeartbeats 1600000 in
theorem clnT_any (a : Option Addr) (n c : Nat) (news : List Value) (w : World) (hl : news.length = n * 4) (hn : n ≤ 1100000) (hsrc : 0 < n → ∃ g o, a = some ⟨g, o, none⟩ ∧ ∀ j u, news[j]? = some u → w.cell? ⟨g, o + j, none⟩ = some u) (h1 : ∀ u ∈ news, u.oneCell' = true) (hg : ∀ g o, a = some ⟨g, o, none⟩ → 0 < n → g < w.heap.size) :
    Calls Try.prog 51 #[.slice a n c] w (ClnP 110 4 n news w) := by
  obtain ⟨i0, hi, hz0, hz1, hz2⟩ := info_parts Try.infoCit
  have qT : ∀ (w : World) (a : Option Addr) (n c n' c' : Nat), (binOp .eql 39 (.slice a n c) (.slice none n' c')).run Try.prog w = .ok (.bool a.isNone) w := fun w a n c n' c' => Lib.run_eql_slice_nil w _ _ a n c n' c' Try.underlying39
  unfold ClnP
  cases a with
  | none =>
    obtain rfl : n = 0 := by
      rcases Nat.eq_zero_or_pos n with q | q
      · exact q
      · obtain ⟨g, o, e, _⟩ := hsrc q; cases e
    obtain rfl : news = [] := List.length_eq_zero_iff.1 (by omega)
    clear hsrc h1 hg
    go_enter Try.func51, Try.ntmps51
    go_wp2_with fail
    go_ret
    exact ⟨_, rfl, World.ownsRow_nil _ _ _ _, Kept.refl _⟩
  | some ad =>
    have HNEWS : Hid (∀ j u, news[j]? = some u → (w.alloc (.cells #[] 110)).cell? (ad.add j) = some u) := fun j u hu => by
      have hj := (List.getElem?_eq_some_iff.1 hu).1
      have hq : 0 < n := by
        rcases Nat.eq_zero_or_pos n with q | q
        · rw [q] at hl; omega
        · exact q
      obtain ⟨g, o, e, hc⟩ := hsrc hq
      cases e
      rw [addr_plus]
      exact ((kept_alloc w (.cells #[] 110)).cell (p := ⟨g, o + j, none⟩) (hg g o rfl hq)).trans (hc j u hu)
    have HONE := Lib.hid h1
    clear hsrc h1 hg
    go_enter Try.func51, Try.ntmps51
    go_wp2_with (at_builtin; refine wpList_append_own _ rfl _ _ 39 rfl w.heap.size 110 i0 (.agg #[.string ⟨#[]⟩, .string ⟨#[]⟩, .string ⟨#[]⟩, .bool false]) 4 56 Try.underlying39 hi hz0 hz1 hz2 rfl (by decide) _ 0 [] rfl (World.ownsRow_made w #[] 0 (Nat.le_refl _) (by unfold maxLen; omega) (by simp)) ad n c news rfl hl HNEWS.out HONE.out ?_ ?_ ?_ ?_)
    · unfold maxLen; omega
    · omega
    · simp
    intro v' w2 hown2 hgrow _
    have HR := Lib.hid hown2
    have HK := Lib.hid ((kept_alloc w (.cells #[] 110)).trans' (grown_below (World.ownsRow_made (size := 4) w #[] 0 (Nat.le_refl _) (by unfold maxLen; omega) (by simp)) hgrow (by simp)))
    clear hown2 hgrow
    go_wp2_with fail
    go_ret
    exact ⟨_, rfl, by simpa using HR.out, HK.out⟩

/-- A copy of texts. -/
def ClnS (xs : List Bs) (w : World) (en : Ending) (w' : World) : Prop := ∃ v', en = .returned v' ∧ Strs w' v' xs ∧ InB (fun g => w.heap.size ≤ g) v' xs.length ∧ Kept w w'
theorem clnS (v : Value) (xs : List Bs) (w : World) (hv : Strs w v xs) (hn : xs.length ≤ 1100000) : Calls Try.prog 50 #[v] w (ClnS xs w) := by
  obtain ⟨a, c, rfl, hc, h3⟩ := hv
  refine (clnS_any a xs.length c (strCells xs) w (by rw [strCells_length, Nat.mul_one]) hn (fun q => ?_) (strCells_one xs) (fun g o e q => ?_)).mono ?_
  · obtain ⟨g, o, e, _, hcell⟩ := h3 q
    refine ⟨g, o, e, fun j u hu => ?_⟩
    obtain ⟨x, hx, rfl⟩ := strCells_back xs j u hu
    exact hcell j x hx
  · obtain ⟨g', o', e', hg, _⟩ := h3 q
    rw [e] at e'; cases e'; exact hg
  · rintro e w' ⟨v', rfl, ho, hk⟩
    exact ⟨v', rfl, Strs.own ho, fun _ g hg => (ho.lt g hg).1, hk⟩
def ClnF (xs : List Pr) (w : World) (en : Ending) (w' : World) : Prop := ∃ v', en = .returned v' ∧ Prs w' v' xs ∧ InB (fun g => w.heap.size ≤ g) v' xs.length ∧ Kept w w'
theorem clnF (v : Value) (xs : List Pr) (w : World) (hv : Prs w v xs) (hn : xs.length ≤ 1100000) : Calls Try.prog 23 #[v] w (ClnF xs w) := by
  obtain ⟨a, c, rfl, hc, h3⟩ := hv
  refine (clnF_any a xs.length c (pairC xs) w (pairC_len xs) hn (fun q => ?_) (pairC_one xs) (fun g o e q => ?_)).mono ?_
  · obtain ⟨g, o, e, _, hcell⟩ := h3 q
    exact ⟨g, o, e, fun j u hu => pairC_read w g xs o hcell j u hu⟩
  · obtain ⟨g', o', e', hg, _⟩ := h3 q
    rw [e] at e'; cases e'; exact hg
  · rintro e w' ⟨v', rfl, ho, hk⟩
    exact ⟨v', rfl, Prs.own ho, fun _ g hg => (ho.lt g hg).1, hk⟩
def ClnT (xs : List Cit) (w : World) (en : Ending) (w' : World) : Prop := ∃ v', en = .returned v' ∧ Cits (fun g => w.heap.size ≤ g) w' v' xs ∧ Kept w w'
theorem citW_one {cs : List Value} {x : Cit} (h : CitW cs x) : ∀ u ∈ cs, u.oneCell' = true := by
  intro u hu
  unfold CitW at h
  rw [h] at hu
  simp only [List.mem_cons, List.not_mem_nil, or_false] at hu
  rcases hu with rfl | rfl | rfl | rfl <;> rfl
theorem clnT {S : Nat → Prop} (v : Value) (xs : List Cit) (w : World) (hv : Cits S w v xs) (hn : xs.length ≤ 1100000) : Calls Try.prog 51 #[v] w (ClnT xs w) := by
  obtain ⟨a, c, rfl, hc⟩ := hv.form
  obtain ⟨css, e1, e2, e3, e4⟩ := RowR.css (by decide) hv
  refine (clnT_any a xs.length c css.flatten w (by rw [flat_len css e2, e1]) hn (fun q => ?_) ?_ (fun g o e q => ?_)).mono ?_
  · obtain ⟨g, o, e, _, _, hcell⟩ := e4 q
    exact ⟨g, o, e, hcell⟩
  · intro u hu
    obtain ⟨cs, hcs, hu⟩ := List.mem_flatten.1 hu
    obtain ⟨j, hj, rfl⟩ := List.getElem_of_mem hcs
    exact citW_one (e3 j _ _ (List.getElem?_eq_getElem hj) (List.getElem?_eq_getElem (by omega))) u hu
  · obtain ⟨g', o', e', hg, _⟩ := e4 q
    rw [e] at e'; cases e'; exact hg
  · rintro e w' ⟨v', rfl, ho, hk⟩
    exact ⟨v', rfl, RowR.own css e2 e1 ho e3 (fun g _ hb => hb), hk⟩

/-- Attributes as a value. -/
abbrev atV (id : Bs) (vC vP : Value) : Value := .agg #[.string (bs id), vC, vP]
theorem getP_none (ps : List Pr) (k : Bs) (h : ∀ q ∈ ps, (q.1 == k) = false) : getP ps k = none := by
  unfold getP
  rw [List.find?_eq_none.2 (fun q hq => by simp [h q hq])]; rfl
theorem getP_at (ps : List Pr) (k : Bs) (n : Nat) (q : Pr) (hq : ps[n]? = some q) (h : ∀ x ∈ ps.take n, (x.1 == k) = false) (he : (q.1 == k) = true) : getP ps k = some q.2 := by
  unfold getP
  obtain ⟨hn, rfl⟩ := List.getElem?_eq_some_iff.1 hq
  have e : ps = ps.take n ++ ps[n] :: ps.drop (n + 1) := by
    rw [← List.drop_eq_getElem_cons hn, List.take_append_drop]
  conv => lhs; rw [e]
  rw [List.find?_append, List.find?_eq_none.2 (fun q hq => by simp [h q hq]), List.find?_cons_of_pos (by simpa using he)]
  rfl
def GetP (o : Option Bs) (w : World) (e : Ending) (w' : World) : Prop := e = .returned (.tuple #[.string (bs (o.getD [])), .bool o.isSome]) ∧ Kept w w'
set_option maxRecDepth 100000 in
set_option maxHeartbeats 1600000 in
theorem aget_any (id : Bs) (vC vP : Value) (ps : List Pr) (k : Bs) (w : World) (hC : vC.oneCell' = true) (hv : Prs w vP ps) (hN : ps.length ≤ 1100000) :
    Calls Try.prog 27 #[atV id vC vP, .string (bs k)] w (GetP (getP ps k) w) := by
  have HV := Lib.hid hv
  have HA := Lib.hid (getP_at ps k)
  have HNO := Lib.hid (getP_none ps k)
  obtain ⟨o, HO⟩ : ∃ o, Hid (getP ps k = o) := ⟨_, rfl⟩
  rw [HO.out] at HA HNO ⊢
  obtain ⟨a, c, rfl, hc, h3⟩ := hv
  clear h3
  unfold GetP
  go_enter Try.func27, Try.ntmps27
  go_wp2_with fail
  simp only [mk_bs]
  go_loopw [11] (fun i wr => ∃ n : Nat, n ≤ ps.length ∧ i = .int .i64 n ∧ Hid (∀ x ∈ ps.take n, (x.1 == k) = false) ∧ Kept w wr) (fun i _ => ps.length - (intOf i).toNat)
  case atStart => exact ⟨0, Nat.zero_le _, rfl, fun x h => by simp at h, kept_alloc _ _⟩
  case round =>
    obtain ⟨n, hn, rfl, HN, hkr⟩ := hrel
    by_cases hlt : n < ps.length
    · obtain ⟨q, hx⟩ : ∃ x, ps[n]? = some x := ⟨_, List.getElem?_eq_getElem hlt⟩
      obtain ⟨a', c', hv', hc', h3⟩ := HV.out.kept hkr
      obtain ⟨rfl, hdead, rfl⟩ := Value.slice.inj hv'
      clear hdead
      obtain ⟨g, o2, rfl, hg, hcc⟩ := h3 (by omega)
      obtain ⟨c0, c1⟩ := hcc n q hx
      have HR := Lib.hid hkr
      cases hxk : (q.1 == k)
      · have HS : Hid (∀ x ∈ ps.take (n + 1), (x.1 == k) = false) := by
          intro x hxm
          obtain ⟨hk', rfl⟩ := List.getElem?_eq_some_iff.1 hx
          rw [List.take_succ_eq_append_getElem hk'] at hxm
          rcases List.mem_append.1 hxm with h | h
          · exact HN.out x h
          · simp at h; subst h; exact hxk
        clear hkr hcc h3 hv' hc' hx HN
        obtain ⟨x, y⟩ := q
        simp only at c0 c1 hxk
        go_wp2_with fail
        go_roundw
        case rel => exact ⟨n + 1, by omega, by go_num, HS.out, HR.out.trans (kept_alloc _ _)⟩
        case measure => simp [intOf]; omega
      · have HF := Lib.hid (HA.out n q hx HN.out hxk)
        clear hkr hcc h3 hv' hc' hx HN
        obtain ⟨x, y⟩ := q
        simp only at c0 c1 hxk HF
        go_wp2_with fail
        go_ret2
        exact ⟨by rw [HF.out]; rfl, HR.out.trans (kept_alloc _ _)⟩
    · have HF : Hid (o = none) := HNO.out (fun q hq => by
        have h := HN.out
        rw [List.take_of_length_le (by omega)] at h
        exact h q hq)
      have HR := Lib.hid hkr
      clear hkr HN
      go_wp2_with fail
      go_ret2
      exact ⟨by rw [HF.out]; rfl, HR.out⟩
theorem contS (xs : List Bs) (k : Bs) : Lib.containsS (xs.map bs) (bs k) = xs.contains k := by
  rw [Bool.eq_iff_iff, Lib.containsS_iff, List.contains_iff_mem, List.mem_map]
  constructor
  · rintro ⟨x, hx, e⟩
    have : x = k := by
      have := congrArg (fun b : ByteArray => b.data.toList) e
      simpa [bs_data] using this
    rw [← this]; exact hx
  · exact fun h => ⟨k, h, rfl⟩
set_option maxRecDepth 100000 in
set_option maxHeartbeats 1600000 in
theorem ahas_any (id : Bs) (vC vP : Value) (xs : List Bs) (k : Bs) (w : World) (hv : Strs w vC xs) (hP : vP.oneCell' = true) (hN : xs.length ≤ 1100000) :
    Calls Try.prog 53 #[atV id vC vP, .string (bs k)] w fun e w' => e = .returned (.bool (xs.contains k)) ∧ Kept w w' := by
  have HK0 := Lib.hid (kept_alloc w (.cells #[.string (bs id), vC, vP] 35))
  have HC : Hid (∀ w, Strs w vC xs → Calls Try.prog 67 #[vC, .string (bs k)] w fun e w' => e = .returned (.bool (xs.contains k)) ∧ w = w') := fun w h => by
    obtain ⟨a, c, rfl, hc, h3⟩ := h
    by_cases q : 0 < xs.length
    · obtain ⟨g, o, rfl, hg, hcell⟩ := h3 q
      refine (Try.slices_Contains_string g o xs.length c (xs.map bs) (bs k) w (by simp) (by omega) (fun j hj => ?_)).mono ?_
      · rw [List.length_map] at hj
        rw [hcell j xs[j] (List.getElem?_eq_getElem hj), List.getD_eq_getElem?_getD, List.getElem?_map, List.getElem?_eq_getElem hj]; rfl
      · rintro e w' ⟨rfl, rfl⟩
        refine ⟨?_, rfl⟩
        rw [List.take_of_length_le (by simp), contS]
    · obtain rfl : xs = [] := List.length_eq_zero_iff.1 (by omega)
      exact (Try.slices_Contains_string_empty a c (bs k) w).mono fun e w' h => ⟨h.1, h.2.symm⟩
  have HV := Lib.hid hv
  have hC : vC.oneCell' = true := by obtain ⟨a, c, rfl, _⟩ := hv; rfl
  clear hv
  generalize xs.contains k = b at *
  go_enter Try.func53, Try.ntmps53
  go_wp2_with fail
  refine (HC.out _ (HV.out.kept HK0.out)).mono ?_
  rintro e w1 ⟨rfl, rfl⟩
  go_wp2_with fail
  go_ret
  exact ⟨rfl, HK0.out⟩
end Go.Proofs.Ythbnahagfojfbaa

/- The small functions of gloss: copies of attributes, kinds and names of blocks and inlines. Conditions: lengths. -/
set_option linter.all false
namespace Go.Proofs.Ythbnahagfojfbaa
open Go.RowKit

theorem Try.sizeAt : (Try.prog.info? 35).map (fun x => x.size) = some 3 := by kernel_rfl
theorem Strs.shape {w : World} {v : Value} {xs : List Bs} (h : Strs w v xs) : ∃ a c, v = .slice a xs.length c ∧ xs.length ≤ c := by obtain ⟨a, c, e, l, _⟩ := h; exact ⟨a, c, e, l⟩
theorem Prs.shape {w : World} {v : Value} {xs : List Pr} (h : Prs w v xs) : ∃ a c, v = .slice a xs.length c ∧ xs.length ≤ c := by obtain ⟨a, c, e, l, _⟩ := h; exact ⟨a, c, e, l⟩
/-- A copy of attributes. -/
def CatP (id : Bs) (cls : List Bs) (prs : List Pr) (w : World) (en : Ending) (w' : World) : Prop := ∃ vC vP, en = .returned (atV id vC vP) ∧ (Strs w' vC cls ∧ InB (fun g => w.heap.size ≤ g) vC cls.length) ∧ (Prs w' vP prs ∧ InB (fun g => w.heap.size ≤ g) vP prs.length) ∧ Kept w w'
set_option maxRecDepth 100000 in
set_option maxHeartbeats 1600000 in
theorem tcat_any (id : Bs) (vC vP : Value) (cls : List Bs) (prs : List Pr) (w : World) (hC : Strs w vC cls) (hP : Prs w vP prs) (hc : cls.length ≤ 1100000) (hp : prs.length ≤ 1100000) :
    Calls Try.prog 49 #[atV id vC vP] w (CatP id cls prs w) := by
  have HC := Lib.hid hC
  have HP := Lib.hid hP
  obtain ⟨aC, cC, rfl, lC⟩ := hC.shape
  obtain ⟨aP, cP, rfl, lP⟩ := hP.shape
  have HCC := Lib.hid (fun v w h => clnS v cls w h hc)
  have HCP := Lib.hid (fun v w h => clnF v prs w h hp)
  unfold ClnS at HCC
  unfold ClnF at HCP
  clear hC hP
  have e1 : (w.alloc (.cells #[.string (bs id), .slice aC cls.length cC, .slice aP prs.length cP] 35)).heap.size = w.heap.size + 1 := by simp
  have HB0 := Lib.hid ((Blk.new w 35 #[.string (bs id), .slice aC cls.length cC, .slice aP prs.length cP]).alloc (.cells #[.string (bs []), .slice none 0 0, .slice none 0 0] 35))
  have HR0 := Blk.new (w.alloc (.cells #[.string (bs id), .slice aC cls.length cC, .slice aP prs.length cP] 35)) 35 #[.string (bs []), .slice none 0 0, .slice none 0 0]
  rw [e1] at HR0
  have HR := Lib.hid HR0
  have HK0 := Lib.hid ((kept_alloc w (.cells #[.string (bs id), .slice aC cls.length cC, .slice aP prs.length cP] 35)).trans (kept_alloc _ (.cells #[.string (bs []), .slice none 0 0, .slice none 0 0] 35)))
  clear HR0 e1
  obtain ⟨B, HBB⟩ : ∃ B, Hid (w.heap.size = B) := ⟨_, rfl⟩
  have hBz : w.heap.size ≤ B := by rw [HBB.out]; exact Nat.le_refl _
  have hBz1 : w.heap.size ≤ B + 1 := by omega
  go_enter Try.func49, Try.ntmps49
  go_wp2_with fail
  generalize World.alloc (World.alloc _ _) _ = w0 at *
  rw [HBB.out] at HB0 HR ⊢
  clear HBB
  have hBw0 : B < w0.heap.size := HB0.out.lt
  have hRw0 : B + 1 < w0.heap.size := HR.out.lt
  refine (HCC.out _ _ (HC.out.kept HK0.out)).mono ?_
  rintro e w1 ⟨v1, rfl, hs1, hi1, hk1⟩
  obtain ⟨a1, c1, rfl, l1⟩ := hs1.shape
  have HS1 := Lib.hid hs1
  have HI1 := Lib.hid hi1
  have HB1 := Lib.hid (HB0.out.kept hk1)
  have HR1 := Lib.hid (HR.out.kept hk1)
  have HK1 := Lib.hid (HK0.out.trans hk1)
  have hz2 : w0.heap.size ≤ (w1.setCell ⟨B, 1, none⟩ (.slice a1 cls.length c1)).heap.size := by rw [size_setCell]; exact hk1.size
  clear hs1 hi1 hk1 HB0 HR HK0 HCC HC
  have b1 : w1.cell? ⟨B, 1, none⟩ = some (.slice aC cls.length cC) := HB1.out.cell 1 _ rfl
  have b2 : w1.cell? ⟨B, 2, none⟩ = some (.slice aP prs.length cP) := HB1.out.cell 2 _ rfl
  have f1 := HB1.out.free 1
  have bz := HB1.out.lt
  have HB2 : Hid (Blk (w1.setCell ⟨B, 1, none⟩ (.slice a1 cls.length c1)) B 35 #[.string (bs id), .slice a1 cls.length c1, .slice aP prs.length cP]) := HB1.out.set 1 _
  have HR2 := Lib.hid (HR1.out.other B 1 (.slice a1 cls.length c1) (by omega))
  have HK2 := Lib.hid (kept_set HK1.out B 1 (.slice a1 cls.length c1) hBz)
  have HS2 := Lib.hid (HS1.out.onlS HI1.out (Only.setCell B 1 (.slice a1 cls.length c1)) (fun g _ hs q => by omega))
  clear HB1 HR1 HK1 HS1
  go_wp2_with fail
  generalize World.setCell _ _ _ = w2 at *
  clear b1 b2 f1 bz
  refine (HCP.out _ _ (HP.out.kept HK2.out)).mono ?_
  rintro e w3 ⟨v2, rfl, hs3, hi3, hk3⟩
  obtain ⟨a3, c3, rfl, l3⟩ := hs3.shape
  have HP3 := Lib.hid hs3
  have HI3 := Lib.hid hi3
  have HB3 := Lib.hid (HB2.out.kept hk3)
  have HR3 := Lib.hid (HR2.out.kept hk3)
  have HK3 := Lib.hid (HK2.out.trans hk3)
  have HS3 := Lib.hid (HS2.out.kept hk3)
  clear hs3 hi3 hk3 HB2 HR2 HK2 HS2 HCP HP
  have b0 : w3.cell? ⟨B, 0, none⟩ = some (.string (bs id)) := HB3.out.cell 0 _ rfl
  have b1 : w3.cell? ⟨B, 1, none⟩ = some (.slice a1 cls.length c1) := HB3.out.cell 1 _ rfl
  have b2 : w3.cell? ⟨B, 2, none⟩ = some (.slice aP prs.length cP) := HB3.out.cell 2 _ rfl
  have f2 := HB3.out.free 2
  have bz := HB3.out.lt
  have HB4 : Hid (Blk (w3.setCell ⟨B, 2, none⟩ (.slice a3 prs.length c3)) B 35 #[.string (bs id), .slice a1 cls.length c1, .slice a3 prs.length c3]) := HB3.out.set 2 _
  have HR4 := Lib.hid (HR3.out.other B 2 (.slice a3 prs.length c3) (by omega))
  have HK4 := Lib.hid (kept_set HK3.out B 2 (.slice a3 prs.length c3) hBz)
  have HS4 := Lib.hid (HS3.out.onlS HI1.out (Only.setCell B 2 (.slice a3 prs.length c3)) (fun g _ hs q => by omega))
  have HP4 := Lib.hid (HP3.out.onlS HI3.out (Only.setCell B 2 (.slice a3 prs.length c3)) (fun g _ hs q => by omega))
  clear HB3 HR3 HK3 HS3 HP3
  go_wp2_with (first
    | (refine wpList_load_blk (by rfl) 35 (.tmp 1) (by rfl) B _ (by rfl) HB4.out _ Try.underlying35 rfl Try.sizeAt ?_)
    | (refine wpList_store_blk rfl 35 (.tmp 2) (.tmp 11) (by rfl) (B + 1) _ #[.string (bs id), .slice a1 cls.length c1, .slice a3 prs.length c3] (by rfl) (by rfl) HR4.out rfl Try.sizeAt (by simp only [List.all_toArray, List.all_cons, List.all_nil]; rfl) ?_; intro w9 hb9 ho9; have r0 : w9.cell? ⟨B + 1, 0, none⟩ = some (.string (bs id)) := hb9.cell 0 _ rfl; have r1 : w9.cell? ⟨B + 1, 1, none⟩ = some (.slice a1 cls.length c1) := hb9.cell 1 _ rfl; have r2 : w9.cell? ⟨B + 1, 2, none⟩ = some (.slice a3 prs.length c3) := hb9.cell 2 _ rfl; have rz := hb9.lt; have HK9 := Lib.hid (HK4.out.trans' (ho9.below HK4.out.size (fun i e => by rw [e]; exact hBz1))); have HS9 := Lib.hid (HS4.out.onlS HI1.out ho9 (fun g _ hs q => by omega)); have HP9 := Lib.hid (HP4.out.onlS HI3.out ho9 (fun g _ hs q => by omega)); clear hb9 ho9))
  have HFIN : CatP id cls prs w (.returned (atV id (.slice a1 cls.length c1) (.slice a3 prs.length c3))) w9 := ⟨_, _, rfl, ⟨HS9.out, HI1.out.mono fun g _ _ q => by omega⟩, ⟨HP9.out, HI3.out.mono fun g _ _ q => by omega⟩, HK9.out⟩
  refine bodyPost_ret (v := atV id (.slice a1 cls.length c1) (.slice a3 prs.length c3)) ?_ rfl HFIN
  simp [results, Try.results49, go_sem, r0, r1, r2, rz]
set_option maxRecDepth 100000 in
set_option maxHeartbeats 1600000 in
theorem gcat_any (id : Bs) (vC vP : Value) (cls : List Bs) (prs : List Pr) (w : World) (hC : Strs w vC cls) (hP : Prs w vP prs) (hc : cls.length ≤ 1100000) (hp : prs.length ≤ 1100000) :
    Calls Try.prog 64 #[atV id vC vP] w (CatP id cls prs w) := by
  have HC := Lib.hid hC
  have HP := Lib.hid hP
  obtain ⟨aC, cC, rfl, lC⟩ := hC.shape
  obtain ⟨aP, cP, rfl, lP⟩ := hP.shape
  have HCC := Lib.hid (fun v w h => clnS v cls w h hc)
  have HCP := Lib.hid (fun v w h => clnF v prs w h hp)
  unfold ClnS at HCC
  unfold ClnF at HCP
  clear hC hP
  have e1 : (w.alloc (.cells #[.string (bs id), .slice aC cls.length cC, .slice aP prs.length cP] 35)).heap.size = w.heap.size + 1 := by simp
  have HB0 := Lib.hid ((Blk.new w 35 #[.string (bs id), .slice aC cls.length cC, .slice aP prs.length cP]).alloc (.cells #[.string (bs []), .slice none 0 0, .slice none 0 0] 35))
  have HR0 := Blk.new (w.alloc (.cells #[.string (bs id), .slice aC cls.length cC, .slice aP prs.length cP] 35)) 35 #[.string (bs []), .slice none 0 0, .slice none 0 0]
  rw [e1] at HR0
  have HR := Lib.hid HR0
  have HK0 := Lib.hid ((kept_alloc w (.cells #[.string (bs id), .slice aC cls.length cC, .slice aP prs.length cP] 35)).trans (kept_alloc _ (.cells #[.string (bs []), .slice none 0 0, .slice none 0 0] 35)))
  clear HR0 e1
  obtain ⟨B, HBB⟩ : ∃ B, Hid (w.heap.size = B) := ⟨_, rfl⟩
  have hBz : w.heap.size ≤ B := by rw [HBB.out]; exact Nat.le_refl _
  have hBz1 : w.heap.size ≤ B + 1 := by omega
  go_enter Try.func64, Try.ntmps64
  go_wp2_with fail
  generalize World.alloc (World.alloc _ _) _ = w0 at *
  rw [HBB.out] at HB0 HR ⊢
  clear HBB
  have hBw0 : B < w0.heap.size := HB0.out.lt
  have hRw0 : B + 1 < w0.heap.size := HR.out.lt
  refine (HCC.out _ _ (HC.out.kept HK0.out)).mono ?_
  rintro e w1 ⟨v1, rfl, hs1, hi1, hk1⟩
  obtain ⟨a1, c1, rfl, l1⟩ := hs1.shape
  have HS1 := Lib.hid hs1
  have HI1 := Lib.hid hi1
  have HB1 := Lib.hid (HB0.out.kept hk1)
  have HR1 := Lib.hid (HR.out.kept hk1)
  have HK1 := Lib.hid (HK0.out.trans hk1)
  have hz2 : w0.heap.size ≤ (w1.setCell ⟨B, 1, none⟩ (.slice a1 cls.length c1)).heap.size := by rw [size_setCell]; exact hk1.size
  clear hs1 hi1 hk1 HB0 HR HK0 HCC HC
  have b1 : w1.cell? ⟨B, 1, none⟩ = some (.slice aC cls.length cC) := HB1.out.cell 1 _ rfl
  have b2 : w1.cell? ⟨B, 2, none⟩ = some (.slice aP prs.length cP) := HB1.out.cell 2 _ rfl
  have f1 := HB1.out.free 1
  have bz := HB1.out.lt
  have HB2 : Hid (Blk (w1.setCell ⟨B, 1, none⟩ (.slice a1 cls.length c1)) B 35 #[.string (bs id), .slice a1 cls.length c1, .slice aP prs.length cP]) := HB1.out.set 1 _
  have HR2 := Lib.hid (HR1.out.other B 1 (.slice a1 cls.length c1) (by omega))
  have HK2 := Lib.hid (kept_set HK1.out B 1 (.slice a1 cls.length c1) hBz)
  have HS2 := Lib.hid (HS1.out.onlS HI1.out (Only.setCell B 1 (.slice a1 cls.length c1)) (fun g _ hs q => by omega))
  clear HB1 HR1 HK1 HS1
  go_wp2_with fail
  generalize World.setCell _ _ _ = w2 at *
  clear b1 b2 f1 bz
  refine (HCP.out _ _ (HP.out.kept HK2.out)).mono ?_
  rintro e w3 ⟨v2, rfl, hs3, hi3, hk3⟩
  obtain ⟨a3, c3, rfl, l3⟩ := hs3.shape
  have HP3 := Lib.hid hs3
  have HI3 := Lib.hid hi3
  have HB3 := Lib.hid (HB2.out.kept hk3)
  have HR3 := Lib.hid (HR2.out.kept hk3)
  have HK3 := Lib.hid (HK2.out.trans hk3)
  have HS3 := Lib.hid (HS2.out.kept hk3)
  clear hs3 hi3 hk3 HB2 HR2 HK2 HS2 HCP HP
  have b0 : w3.cell? ⟨B, 0, none⟩ = some (.string (bs id)) := HB3.out.cell 0 _ rfl
  have b1 : w3.cell? ⟨B, 1, none⟩ = some (.slice a1 cls.length c1) := HB3.out.cell 1 _ rfl
  have b2 : w3.cell? ⟨B, 2, none⟩ = some (.slice aP prs.length cP) := HB3.out.cell 2 _ rfl
  have f2 := HB3.out.free 2
  have bz := HB3.out.lt
  have HB4 : Hid (Blk (w3.setCell ⟨B, 2, none⟩ (.slice a3 prs.length c3)) B 35 #[.string (bs id), .slice a1 cls.length c1, .slice a3 prs.length c3]) := HB3.out.set 2 _
  have HR4 := Lib.hid (HR3.out.other B 2 (.slice a3 prs.length c3) (by omega))
  have HK4 := Lib.hid (kept_set HK3.out B 2 (.slice a3 prs.length c3) hBz)
  have HS4 := Lib.hid (HS3.out.onlS HI1.out (Only.setCell B 2 (.slice a3 prs.length c3)) (fun g _ hs q => by omega))
  have HP4 := Lib.hid (HP3.out.onlS HI3.out (Only.setCell B 2 (.slice a3 prs.length c3)) (fun g _ hs q => by omega))
  clear HB3 HR3 HK3 HS3 HP3
  go_wp2_with (first
    | (refine wpList_load_blk (by rfl) 35 (.tmp 1) (by rfl) B _ (by rfl) HB4.out _ Try.underlying35 rfl Try.sizeAt ?_)
    | (refine wpList_store_blk rfl 35 (.tmp 2) (.tmp 11) (by rfl) (B + 1) _ #[.string (bs id), .slice a1 cls.length c1, .slice a3 prs.length c3] (by rfl) (by rfl) HR4.out rfl Try.sizeAt (by simp only [List.all_toArray, List.all_cons, List.all_nil]; rfl) ?_; intro w9 hb9 ho9; have r0 : w9.cell? ⟨B + 1, 0, none⟩ = some (.string (bs id)) := hb9.cell 0 _ rfl; have r1 : w9.cell? ⟨B + 1, 1, none⟩ = some (.slice a1 cls.length c1) := hb9.cell 1 _ rfl; have r2 : w9.cell? ⟨B + 1, 2, none⟩ = some (.slice a3 prs.length c3) := hb9.cell 2 _ rfl; have rz := hb9.lt; have HK9 := Lib.hid (HK4.out.trans' (ho9.below HK4.out.size (fun i e => by rw [e]; exact hBz1))); have HS9 := Lib.hid (HS4.out.onlS HI1.out ho9 (fun g _ hs q => by omega)); have HP9 := Lib.hid (HP4.out.onlS HI3.out ho9 (fun g _ hs q => by omega)); clear hb9 ho9))
  have HFIN : CatP id cls prs w (.returned (atV id (.slice a1 cls.length c1) (.slice a3 prs.length c3))) w9 := ⟨_, _, rfl, ⟨HS9.out, HI1.out.mono fun g _ _ q => by omega⟩, ⟨HP9.out, HI3.out.mono fun g _ _ q => by omega⟩, HK9.out⟩
  refine bodyPost_ret (v := atV id (.slice a1 cls.length c1) (.slice a3 prs.length c3)) ?_ rfl HFIN
  simp [results, Try.results64, go_sem, r0, r1, r2, rz]
/-- A block as a value. -/
abbrev blV (kind level : Int) (info text dest title id : Bs) (vC vP vL vK : Value) : Value := .agg #[.int .i64 kind, .int .i64 level, .string (bs info), .string (bs text), .string (bs dest), .string (bs title), .string (bs id), vC, vP, vL, vK]
/-- An inline as a value. -/
abbrev inV (kind : Int) (text dest title id : Bs) (vC vP vA vT vK : Value) : Value := .agg #[.int .i64 kind, .string (bs text), .string (bs dest), .string (bs title), .string (bs id), vC, vP, vA, vT, vK]
set_option maxRecDepth 100000 in
set_option maxHeartbeats 1600000 in
theorem isgl_any (kind level : Int) (info text dest title id : Bs) (vC vP vL vK : Value) (w : World) (h1 : vC.oneCell' = true) (h2 : vP.oneCell' = true) (h3 : vL.oneCell' = true) (h4 : vK.oneCell' = true) :
    Calls Try.prog 46 #[blV kind level info text dest title id vC vP vL vK] w fun e w' => e = .returned (.bool (decide (kind = 13) && info == kGlos)) ∧ Kept w w' := by
  have HK0 := Lib.hid (kept_alloc w (.cells #[.int .i64 kind, .int .i64 level, .string (bs info), .string (bs text), .string (bs dest), .string (bs title), .string (bs id), vC, vP, vL, vK] 37))
  unfold kGlos
  by_cases q : kind = 13
  · subst q
    cases q2 : (info == [103, 108, 111, 115, 115, 97, 114, 121])
    · go_enter Try.func46, Try.ntmps46
      go_wp2_with fail
      go_ret
      exact ⟨ret_bool (by simp), HK0.out⟩
    · go_enter Try.func46, Try.ntmps46
      go_wp2_with fail
      go_ret
      exact ⟨ret_bool (by simp), HK0.out⟩
  · have q' : (kind == 13) = false := by simpa using q
    go_enter Try.func46, Try.ntmps46
    go_wp2_with fail
    go_ret
    exact ⟨ret_bool (by simp [q]), HK0.out⟩
set_option maxRecDepth 100000 in
set_option maxHeartbeats 1600000 in
theorem istm_any (kind level : Int) (info text dest title id : Bs) (vC vP vL vK : Value) (w : World) (h1 : vC.oneCell' = true) (h2 : vP.oneCell' = true) (h3 : vL.oneCell' = true) (h4 : vK.oneCell' = true) :
    Calls Try.prog 43 #[blV kind level info text dest title id vC vP vL vK] w fun e w' => e = .returned (.bool (decide (kind = 13) && info == kTerm)) ∧ Kept w w' := by
  have HK0 := Lib.hid (kept_alloc w (.cells #[.int .i64 kind, .int .i64 level, .string (bs info), .string (bs text), .string (bs dest), .string (bs title), .string (bs id), vC, vP, vL, vK] 37))
  unfold kTerm
  by_cases q : kind = 13
  · subst q
    cases q2 : (info == [116, 101, 114, 109])
    · go_enter Try.func43, Try.ntmps43
      go_wp2_with fail
      go_ret
      exact ⟨ret_bool (by simp), HK0.out⟩
    · go_enter Try.func43, Try.ntmps43
      go_wp2_with fail
      go_ret
      exact ⟨ret_bool (by simp), HK0.out⟩
  · have q' : (kind == 13) = false := by simpa using q
    go_enter Try.func43, Try.ntmps43
    go_wp2_with fail
    go_ret
    exact ⟨ret_bool (by simp [q]), HK0.out⟩
set_option maxRecDepth 100000 in
set_option maxHeartbeats 1600000 in
theorem defname_any (kind level : Int) (info text dest title id : Bs) (vC vP vL vK : Value) (ps : List Pr) (w : World) (h1 : vC.oneCell' = true) (hv : Prs w vP ps) (hn : ps.length ≤ 1100000) (h3 : vL.oneCell' = true) (h4 : vK.oneCell' = true) :
    Calls Try.prog 22 #[blV kind level info text dest title id vC vP vL vK] w fun e w' => e = .returned (.string (bs ((getP ps kName).getD []))) ∧ Kept w w' := by
  have HK0 := Lib.hid (kept_alloc w (.cells #[.int .i64 kind, .int .i64 level, .string (bs info), .string (bs text), .string (bs dest), .string (bs title), .string (bs id), vC, vP, vL, vK] 37))
  have HG := Lib.hid (fun w h => aget_any id vC vP ps kName w h1 h hn)
  unfold GetP kName atV at HG
  have HV := Lib.hid hv
  have h2 : vP.oneCell' = true := by obtain ⟨a, c, rfl, _⟩ := hv; rfl
  unfold kName
  clear hv
  generalize (getP ps [110, 97, 109, 101]).getD [] = r at *
  generalize (getP ps [110, 97, 109, 101]).isSome = b at *
  go_enter Try.func22, Try.ntmps22
  go_wp2_with fail
  refine (HG.out _ (HV.out.kept HK0.out)).mono ?_
  rintro e w1 ⟨rfl, hk⟩
  have HK1 := Lib.hid (HK0.out.trans hk)
  clear hk
  go_wp2_with fail
  go_ret
  exact ⟨rfl, HK1.out⟩
set_option maxRecDepth 100000 in
set_option maxHeartbeats 1600000 in
theorem isuse_any (kind : Int) (text dest title id : Bs) (vC vP vA vT vK : Value) (xs : List Bs) (w : World) (hv : Strs w vC xs) (hn : xs.length ≤ 1100000) (h2 : vP.oneCell' = true) (h3 : vA.oneCell' = true) (h4 : vT.oneCell' = true) (h5 : vK.oneCell' = true) :
    Calls Try.prog 31 #[inV kind text dest title id vC vP vA vT vK] w fun e w' => e = .returned (.bool (decide (kind = 11) && xs.contains kTerm)) ∧ Kept w w' := by
  have HK0 := Lib.hid (kept_alloc w (.cells #[.int .i64 kind, .string (bs text), .string (bs dest), .string (bs title), .string (bs id), vC, vP, vA, vT, vK] 41))
  have HG := Lib.hid (fun w h => ahas_any id vC vP xs kTerm w h h2 hn)
  unfold kTerm atV at HG
  have HV := Lib.hid hv
  have h1 : vC.oneCell' = true := by obtain ⟨a, c, rfl, _⟩ := hv; rfl
  unfold kTerm
  clear hv
  generalize xs.contains [116, 101, 114, 109] = b at *
  by_cases q : kind = 11
  · subst q
    go_enter Try.func31, Try.ntmps31
    go_wp2_with fail
    refine (HG.out _ (HV.out.kept HK0.out)).mono ?_
    rintro e w1 ⟨rfl, hk⟩
    have HK1 := Lib.hid (HK0.out.trans hk)
    clear hk
    go_wp2_with fail
    go_ret
    exact ⟨ret_bool (by simp), HK1.out⟩
  · have q' : (kind == 11) = false := by simpa using q
    go_enter Try.func31, Try.ntmps31
    go_wp2_with fail
    go_ret
    exact ⟨ret_bool (by simp [q]), HK0.out⟩
end Go.Proofs.Ythbnahagfojfbaa
