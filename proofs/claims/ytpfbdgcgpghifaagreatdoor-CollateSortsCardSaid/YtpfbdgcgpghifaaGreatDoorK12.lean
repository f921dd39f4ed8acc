/- A range over a text beside a row of the call's own. No condition. -/
import Derived.Test.YtpfbdgcgpghifaaGreatDoorK06
import Derived.Test.YtpfbdgcgpghifaaGreatDoorK11
import Derived.Deep.AppendLies
import Derived.Deep.RegionHeld3
import Derived.Deep.Upon

set_option linter.all false
namespace Go.Proofs.YtpfbdgcgpghifaaGreatDoor
open Go.RowKit

theorem own_iter_ne {w : World} {base : Nat} {e : TypeId} {size : Nat} {v : Value} {n : Nat} {xs : List Value} {k p : Nat} {s : ByteArray} (h : w.ownsRow base e size v n xs) (hit : w.heap[k]? = some (.stringIter s p)) : some k ≠ v.ownBlock := by
  rcases h.2 with ⟨rfl, _⟩ | ⟨g, cap, cur, rfl, _, hh, _⟩
  · simp [Value.ownBlock]
  · intro q
    have : k = g := by simpa [Value.ownBlock] using q
    subst this
    rw [hit] at hh
    cases hh
theorem only_iterAt (w : World) (k : Nat) (s : ByteArray) (p : Nat) : Only (fun i => i = k) w (w.iterAt k s p) :=
  ⟨rfl, rfl, rfl, by simp [World.iterAt], fun i _ hs => by simp [World.iterAt, Array.getElem?_setIfInBounds, Ne.symm hs]⟩
theorem own_iterAt {w : World} {base : Nat} {e : TypeId} {size : Nat} {v : Value} {n : Nat} {xs : List Value} {k p : Nat} {s : ByteArray} (h : w.ownsRow base e size v n xs) (hit : w.heap[k]? = some (.stringIter s p)) (s' : ByteArray) (p' : Nat) : (w.iterAt k s' p').ownsRow base e size v n xs :=
  (only_iterAt w k s' p').own h (fun g hg e => own_iter_ne h hit (by rw [hg, e]))
end Go.Proofs.YtpfbdgcgpghifaaGreatDoor

/- Whole numbers and texts appended in a region that draws its order. Conditions: lengths. -/
set_option linter.all false
namespace Go.Proofs.YtpfbdgcgpghifaaGreatDoor
open Go.RowKit

theorem Tryz.infoInt : (Tryz.prog.info? 3).map (fun i => (i.zero, i.size, i.bytes)) = some (some (.int .i64 0), 1, 8) := by kernel_rfl
theorem addr_at (g o j : Nat) : (⟨g, o, none⟩ : Addr).add j = ⟨g, o + j, none⟩ := by unfold Addr.add; split <;> simp_all
theorem step_append_any {P : Program} (w : World) {ops : Array Oper} {o : Oper} {a : Act} {K : Act → World → Prop} {Q : Exit → Act → World → Prop} {E : Prop} (hgd : o.guard = none) (s x : Operand) (t : TypeId)
    (ho : o.op = .call { callee := .builtin .append, args := #[s, x], argTypes := #[t, t] })
    (base : Nat) (e : TypeId) (i : TypeInfo) (z : Value) (size bytes : Nat) (ht : P.underlying t = some (.slice e)) (hi : P.info? e = some i) (hz : i.zero = some z)
    (hsize : i.size = size) (hby : i.bytes = bytes) (hzs : z.cells.size = size) (hsz : 0 < size)
    (v : Value) (n : Nat) (xs : List Value) (hs : a.eval s = v) (hown : w.ownsRow base e size v n xs)
    (a' : Option Addr) (m c : Nat) (news : List Value) (hx : a.eval x = .slice a' m c) (hl : news.length = m * size)
    (hsrc : 0 < m → ∃ g o2, a' = some ⟨g, o2, none⟩ ∧ ∀ j u, news[j]? = some u → w.cell? ⟨g, o2 + j, none⟩ = some u) (h1 : ∀ u ∈ news, u.oneCell' = true)
    (h63 : n + m ≤ maxLen) (hbytes : (n + m) * bytes ≤ 140737488355328) (hbase : base ≤ w.heap.size)
    (h : ∀ v' w', w'.ownsRow base e size v' (n + m) (xs ++ news) → w.grownBy w' v.ownBlock → K (a.put o.dst v') w') :
    if Region.wanted o (yielded ops a.tmps) = true then Oper.wp P o a w K Q else E := by
  have hw : Region.wanted o (yielded ops a.tmps) = true := by simp [Region.wanted, hgd]
  rw [if_pos hw]
  by_cases hq : 0 < m
  · obtain ⟨g, o2, rfl, hc⟩ := hsrc hq
    refine wp_append_lies w s x t ho base e i z size bytes ht hi hz hsize hby hzs hsz v n xs hs hown ⟨g, o2, none⟩ m c news hx hl (fun j u hu => by rw [addr_at]; exact hc j u hu) h1 hq h63 hbytes hbase w.heap.size rfl ?_
    intro g' cap w' h1 h2 _ _
    exact h _ _ h1 h2
  · obtain rfl : m = 0 := by omega
    obtain rfl : news = [] := List.length_eq_zero_iff.1 (by omega)
    have hown' := hown
    obtain ⟨a2, c2, rfl, hle, _, _⟩ := own_cap hown
    have hsrc : Src P i.size t (.slice a' 0 c) 0 [] w := by
      refine ⟨.inl ⟨_, ht⟩, fun w' => ?_, ?_, ?_, by simp, by simp⟩
      · simp [Builtin.lenOf]
      · cases a' <;> simp [Builtin.firstCells, loadCells, loadCellsFrom]
      · cases a' <;> simp [Builtin.firstCells, loadCells, loadCellsFrom]
    have hr := run_append_nothing (P := P) w t t o.type e i ht hi a2 n c2 hle (.slice a' 0 c) hsrc
    unfold Oper.wp execOp
    simp only [ho, resolve, invoke, builtin, Sem.run_bind, Sem.run_pure, Result.andThen_ok, List.map_toArray, List.map_cons, List.map_nil, hs, hx]
    rw [hr]
    refine h _ _ ?_ (World.grownBy.refl _ _)
    rw [List.append_nil]; exact hown'
theorem intC_one (xs : List Int) : ∀ u ∈ intC xs, u.oneCell' = true := by
  intro u hu
  unfold intC at hu
  rw [List.mem_map] at hu
  obtain ⟨x, _, rfl⟩ := hu; rfl
theorem intC_back (xs : List Int) (j : Nat) (u : Value) (h : (intC xs)[j]? = some u) : ∃ x, xs[j]? = some x ∧ u = .int .i64 x := by
  unfold intC at h
  rw [List.getElem?_map] at h
  cases hx : xs[j]? with
  | none => rw [hx] at h; cases h
  | some x => rw [hx] at h; exact ⟨x, rfl, by simpa using h.symm⟩
theorem strCells_one (xs : List Bs) : ∀ u ∈ strCells xs, u.oneCell' = true := by
  intro u hu
  unfold strCells at hu
  rw [List.mem_map] at hu
  obtain ⟨x, _, rfl⟩ := hu; rfl
theorem strCells_back (xs : List Bs) (j : Nat) (u : Value) (h : (strCells xs)[j]? = some u) : ∃ x, xs[j]? = some x ∧ u = .string (bs x) := by
  unfold strCells at h
  rw [List.getElem?_map] at h
  cases hx : xs[j]? with
  | none => rw [hx] at h; cases h
  | some x => rw [hx] at h; exact ⟨x, rfl, by simpa using h.symm⟩
theorem new_int (w : World) (x : Int) : Ints (w.alloc (.cells #[.int .i64 x] 3)) (.slice (some ⟨w.heap.size, 0, none⟩) 1 1) [x] := by
  refine ⟨_, _, rfl, Nat.le_refl _, fun _ => ⟨w.heap.size, 0, rfl, by simp, fun j y hy => ?_⟩⟩
  have hb := Blk.new w 3 #[.int .i64 x]
  cases j with
  | zero => cases hy; exact hb.cell 0 _ rfl
  | succ j => simp at hy
theorem Ints.onl {S : Nat → Prop} {w w' : World} {g o n c : Nat} {xs : List Int} (h : Ints w (.slice (some ⟨g, o, none⟩) n c) xs) (k : Only S w w') (hs : ¬ S g) : Ints w' (.slice (some ⟨g, o, none⟩) n c) xs :=
  h.only k (fun g' hg' => .inr (fun o' n' c' q => by cases q; exact hs hg'))
set_option maxRecDepth 100000 in
theorem step_append_ints (w : World) {ops : Array Oper} {o : Oper} {a : Act} {K : Act → World → Prop} {Q : Exit → Act → World → Prop} {E : Prop} (hgd : o.guard = none) (s x : Operand)
    (ho : o.op = .call { callee := .builtin .append, args := #[s, x], argTypes := #[31, 31] })
    (base : Nat) (v : Value) (ps : List Int) (hs : a.eval s = v) (hown : w.ownsRow base 3 1 v ps.length (intC ps)) (u : Value) (qs : List Int) (hx : a.eval x = u) (hu : Ints w u qs)
    (hb : ps.length + qs.length ≤ 10000000) (hbase : base ≤ w.heap.size)
    (h : ∀ v' w', w'.ownsRow base 3 1 v' (ps ++ qs).length (intC (ps ++ qs)) → w.grownBy w' v.ownBlock → K (a.put o.dst v') w') :
    if Region.wanted o (yielded ops a.tmps) = true then Oper.wp Tryz.prog o a w K Q else E := by
  obtain ⟨i0, hi, hz0, hz1, hz2⟩ := info_parts Tryz.infoInt
  obtain ⟨a', c', rfl, hc, h3⟩ := hu
  refine step_append_any w hgd s x 31 ho base 3 i0 (.int .i64 0) 1 8 Tryz.underlying31 hi hz0 hz1 hz2 rfl (by decide) v ps.length (intC ps) hs hown a' qs.length c' (intC qs) hx (by simp [intC_length]) (fun hq => ?_) (intC_one qs) (by unfold maxLen; omega) (by omega) hbase (fun v' w' h1 h2 => h v' w' ?_ h2)
  · obtain ⟨g, o2, rfl, _, hcell⟩ := h3 hq
    refine ⟨g, o2, rfl, fun j u hu => ?_⟩
    obtain ⟨y, hy, rfl⟩ := intC_back qs j u hu
    exact hcell j y hy
  · rw [List.length_append, intC_app]; exact h1
set_option maxRecDepth 100000 in
theorem step_append_strs (w : World) {ops : Array Oper} {o : Oper} {a : Act} {K : Act → World → Prop} {Q : Exit → Act → World → Prop} {E : Prop} (hgd : o.guard = none) (s x : Operand)
    (ho : o.op = .call { callee := .builtin .append, args := #[s, x], argTypes := #[23, 23] })
    (base : Nat) (v : Value) (ps : List Bs) (hs : a.eval s = v) (hown : w.ownsRow base 9 1 v ps.length (strCells ps)) (u : Value) (qs : List Bs) (hx : a.eval x = u) (hu : Strs w u qs)
    (hb : ps.length + qs.length ≤ 5000000) (hbase : base ≤ w.heap.size)
    (h : ∀ v' w', w'.ownsRow base 9 1 v' (ps ++ qs).length (strCells (ps ++ qs)) → w.grownBy w' v.ownBlock → K (a.put o.dst v') w') :
    if Region.wanted o (yielded ops a.tmps) = true then Oper.wp Tryz.prog o a w K Q else E := by
  obtain ⟨i0, hi, hz0, hz1, hz2⟩ := info_parts Tryz.infoStr
  obtain ⟨a', c', rfl, hc, h3⟩ := hu
  refine step_append_any w hgd s x 23 ho base 9 i0 (.string ⟨#[]⟩) 1 16 Tryz.underlying23 hi hz0 hz1 hz2 rfl (by decide) v ps.length (strCells ps) hs hown a' qs.length c' (strCells qs) hx (by simp [strCells_length]) (fun hq => ?_) (strCells_one qs) (by unfold maxLen; omega) (by omega) hbase (fun v' w' h1 h2 => h v' w' ?_ h2)
  · obtain ⟨g, o2, rfl, _, hcell⟩ := h3 hq
    refine ⟨g, o2, rfl, fun j u hu => ?_⟩
    obtain ⟨y, hy, rfl⟩ := strCells_back qs j u hu
    exact hcell j y hy
  · rw [List.length_append, show strCells (ps ++ qs) = strCells ps ++ strCells qs from by simp [strCells]]; exact h1
end Go.Proofs.YtpfbdgcgpghifaaGreatDoor
