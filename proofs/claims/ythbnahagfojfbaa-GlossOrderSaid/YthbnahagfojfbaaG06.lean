/- Elements of a row that a call owns: stored anew and loaded; one operation of a region that draws its order, as a list of one. No condition. -/
import Derived.Test.YthbnahagfojfbaaG05
import Derived.Test.YthbnahagfojfbaaG04

set_option linter.all false
namespace Go.Proofs.Ythbnahagfojfbaa
open Go.RowKit

/-- What follows one operation. -/
def QK (Q : Exit → Act → World → Prop) (K : Act → World → Prop) : Exit → Act → World → Prop
  | .normal, a, w => K a w
  | e, a, w => Q e a w
/-- One operation of a region, walked as a list of one. -/
theorem op_list {P : Program} {ops : Array Oper} {Q : Exit → Act → World → Prop} {i : Nat} {o : Oper} {K : Act → World → Prop} {a : Act} {w : World} (ho : ops[i]? = some o) (h : wpList P ops (QK Q K) [o] a w) : wpOp P ops Q i K a w := by
  unfold wpOp
  simp only [ho]
  unfold wpList at h
  have hK : wpList P ops (QK Q K) [] = K := by funext a w; rfl
  rw [hK] at h
  have hu : ∀ r, o.upon P a K (QK Q K) r → o.upon P a K Q r := by
    intro r hr
    unfold Oper.upon at hr ⊢
    revert hr
    split <;> exact fun h => h
  split
  · rename_i hw
    rw [if_pos hw] at h
    rcases h with h | ⟨h1, h2⟩
    · exact .inl (hu _ h)
    · exact .inr ⟨h1, h2⟩
  · rename_i hw
    rw [if_neg hw] at h
    exact h
theorem own_part {w : World} {base g n cap size : Nat} {e : TypeId} {xs : List Value} (h : w.ownsRow base e size (.slice (some ⟨g, 0, none⟩) n cap) n xs) (o : Nat) (vs : List Value) (ho : o + vs.length ≤ n * size) :
    (w.setCells g o vs).ownsRow base e size (.slice (some ⟨g, 0, none⟩) n cap) n (xs.take o ++ (vs ++ xs.drop (o + vs.length))) := by
  obtain ⟨hl, h⟩ := h
  refine ⟨by rw [List.length_append, List.length_append, List.length_take, List.length_drop]; omega, ?_⟩
  rcases h with ⟨hv, _⟩ | ⟨g', cap', cur, hv, hb, hg, hn, hm, hs, hx⟩
  · cases hv
  · obtain ⟨e1, _, e3⟩ := Value.slice.inj hv
    obtain rfl : g = g' := by cases e1; rfl
    subst e3
    have hsz : n * size ≤ cap * size := Nat.mul_le_mul_right _ hn
    refine .inr ⟨g, cap, _, rfl, hb, blk_part (w := w) (R := g) (ty := e) (old := cur) hg o vs (by omega), hn, hm, ?_, ?_⟩
    · unfold putC
      rw [List.size_toArray, List.length_append, List.length_append, List.length_take, List.length_drop, Array.length_toList]; omega
    · unfold putC
      have hll : cur.toList.length = cur.size := Array.length_toList
      show List.take (n * size) (cur.toList.take o ++ (vs ++ cur.toList.drop (o + vs.length))) = _
      rw [← hx, List.take_append, List.take_take, List.take_append, List.length_take, Nat.min_eq_left (show o ≤ cur.toList.length by omega), List.take_take, Nat.min_eq_right (show o ≤ n * size by omega), Nat.min_eq_left (show o ≤ n * size by omega), List.take_of_length_le (show vs.length ≤ n * size - o by omega), List.drop_take]
      rw [show n * size - o - vs.length = n * size - (o + vs.length) by omega]
theorem flat_set {k : Nat} : ∀ (css : List (List Value)), (∀ cs ∈ css, cs.length = k) → ∀ (j : Nat) (cs : List Value), j < css.length → cs.length = k →
    (css.set j cs).flatten = css.flatten.take (j * k) ++ (cs ++ css.flatten.drop (j * k + cs.length))
  | [], _, _, _, h, _ => by cases h
  | c :: css, hl, 0, cs, _, hc => by
    have := hl c (by simp)
    rw [List.set_cons_zero, List.flatten_cons, List.flatten_cons, Nat.zero_mul, List.take_zero, List.nil_append, Nat.zero_add, hc, ← this, List.drop_left]
  | c :: css, hl, j + 1, cs, h, hc => by
    have hk := hl c (by simp)
    have ih := flat_set css (fun x hx => hl x (List.mem_cons_of_mem _ hx)) j cs (by simpa using h) hc
    have a1 : (c ++ css.flatten).take ((j + 1) * k) = c ++ css.flatten.take (j * k) := by
      rw [show (j + 1) * k = c.length + j * k by rw [hk, Nat.succ_mul]; omega, List.take_length_add_append]
    have a2 : (c ++ css.flatten).drop ((j + 1) * k + cs.length) = css.flatten.drop (j * k + cs.length) := by
      rw [show (j + 1) * k + cs.length = c.length + (j * k + cs.length) by rw [hk, Nat.succ_mul]; omega, List.drop_length_add_append]
    rw [List.set_cons_succ, List.flatten_cons, List.flatten_cons, ih, a1, a2, List.append_assoc]
section
variable {α : Type} {R : (Nat → Prop) → World → List Value → α → Prop} {k : Nat} {A : Nat → Prop} {base : Nat} {e : TypeId} {w w' : World} {v : Value} {xs : List α}
/-- Where the element j of an own row lies. -/
theorem OutG.at_ {a : Option Addr} {n cap : Nat} (h : OutG R k A base e w (.slice a n cap) xs) (j : Nat) (x : α) (hx : xs[j]? = some x) : ∃ g cs, a = some ⟨g, 0, none⟩ ∧ base ≤ g ∧ g < w.heap.size ∧ n = xs.length ∧ xs.length ≤ cap ∧ cs.length = k ∧ (∀ i u, cs[i]? = some u → w.cell? ⟨g, j * k + i, none⟩ = some u) ∧ R (fun g' => A g' ∧ g ≠ g') w cs x := by
  obtain ⟨css, h1, h2, ho, h4⟩ := h
  obtain ⟨a', c, hv, hc, _, h3⟩ := own_cap ho
  obtain ⟨rfl, rfl, rfl⟩ := Value.slice.inj hv
  have hj := (List.getElem?_eq_some_iff.1 hx).1
  obtain ⟨g, rfl, hb, hg, hcell⟩ := h3 (by omega)
  have hcs : css[j]? = some (css[j]'(by omega)) := List.getElem?_eq_getElem (by omega)
  have hr := h4 j _ x hcs hx
  have hR : R (fun g' => A g' ∧ g ≠ g') w (css[j]'(by omega)) x := by
    have e1 : (fun g' => A g' ∧ (Value.slice (some ⟨g, 0, none⟩) xs.length cap).ownBlock ≠ some g') = (fun g' => A g' ∧ g ≠ g') := by
      funext g'; simp [Value.ownBlock]
    rw [← e1]; exact hr
  exact ⟨g, _, rfl, hb, hg, rfl, hc, h2 _ (List.getElem_mem _), fun i u hu => hcell _ u (flat_at css h2 j _ hcs i u hu), hR⟩
/-- The element j is put anew. -/
theorem OutG.put {g n cap : Nat} (hR : ReadK R) (h : OutG R k A base e w (.slice (some ⟨g, 0, none⟩) n cap) xs) (j : Nat) (hj : j < xs.length) (cs : List Value) (y : α) (hc : cs.length = k) (hy : R (fun g' => A g' ∧ g ≠ g') w cs y) :
    OutG R k A base e (w.setCells g (j * k) cs) (.slice (some ⟨g, 0, none⟩) n cap) (xs.set j y) := by
  obtain ⟨css, h1, h2, ho, h4⟩ := h
  have hn : n = xs.length := by
    obtain ⟨a', c, hv, _⟩ := own_cap ho
    exact (Value.slice.inj hv).2.1
  subst hn
  have hl : j * k + cs.length ≤ xs.length * k := by
    have : (j + 1) * k ≤ xs.length * k := Nat.mul_le_mul_right _ hj
    rw [Nat.succ_mul] at this; omega
  have hsam : Sam (fun g' => A g' ∧ g ≠ g') w (w.setCells g (j * k) cs) := Sam.only (only_cells cs (j * k) w) (fun g' _ hs q => hs.2 q.symm)
  have e1 : ∀ c, (fun g' => A g' ∧ (Value.slice (some ⟨g, 0, none⟩) c cap).ownBlock ≠ some g') = (fun g' => A g' ∧ g ≠ g') := by
    intro c; funext g'; simp [Value.ownBlock]
  refine ⟨css.set j cs, by simp [h1], fun c hcs => ?_, ?_, fun i c x hci hx => ?_⟩
  · rcases List.mem_or_eq_of_mem_set hcs with q | q
    · exact h2 c q
    · rw [q]; exact hc
  · rw [flat_set css h2 j cs (by omega) hc, List.length_set]
    exact own_part ho (j * k) cs hl
  · rw [e1]
    by_cases q : j = i
    · subst q
      rw [List.getElem?_set_self (by omega)] at hci
      rw [List.getElem?_set_self hj] at hx
      cases hci; cases hx
      exact hR.sam hy hsam (fun _ _ h => h)
    · rw [List.getElem?_set_ne q] at hci hx
      have := h4 i c x hci hx
      rw [e1] at this
      exact hR.sam this hsam (fun _ _ h => h)
theorem OutG.there {g n cap : Nat} (h : OutG R k A base e w (.slice (some ⟨g, 0, none⟩) n cap) xs) (j : Nat) (hj : j < xs.length) : w.there g (j * k) k := by
  obtain ⟨css, h1, h2, ho, h4⟩ := h
  obtain ⟨hl, h⟩ := ho
  rcases h with ⟨hv, _⟩ | ⟨g', cap', cur, hv, hb, hg, hn, hm, hs, hx⟩
  · cases hv
  · obtain ⟨e1, e2, e3⟩ := Value.slice.inj hv
    obtain rfl : g = g' := by cases e1; rfl
    have hB : Blk w g e cur := hg
    have h1 : (j + 1) * k ≤ cap' * k := Nat.mul_le_mul_right _ (by omega)
    rw [Nat.succ_mul] at h1
    exact fun i hi => ⟨by rw [hB.cell (j * k + i) (cur[j * k + i]'(by omega)) (by rw [Array.getElem?_eq_getElem])]; rfl, hB.free _⟩
/-- An element of an own row is stored anew. -/
theorem wpList_store_out {P : Program} (hR : ReadK R) {ops : Array Oper} {rest : List Oper} {o : Oper} {a : Act} {Q : Exit → Act → World → Prop} (hgd : o.guard = none) (x y : Operand) (ho : o.op = .store e x y)
    {g n cap : Nat} (h0 : OutG R k A base e w (.slice (some ⟨g, 0, none⟩) n cap) xs) (j : Nat) (hj : j < xs.length) (cs : List Value) (z : α) (hx : a.eval x = .pointer (some ⟨g, j * k, none⟩)) (hy : a.eval y = .agg cs.toArray) (hc : cs.length = k) (hi : (P.info? e).map (·.size) = some k)
    (hz : R (fun g' => A g' ∧ g ≠ g') w cs z)
    (h : ∀ w', OutG R k A base e w' (.slice (some ⟨g, 0, none⟩) n cap) (xs.set j z) → Only (fun i => i = g) w w' → wpList P ops Q rest (a.put o.dst undef) w') : wpList P ops Q (o :: rest) a w := by
  have ht := h0.there j hj
  refine wpList_store_mid hgd e x y ho g (j * k) cs.toArray hx hy ?_ ?_ (all_oneCell_toArray (hR.one hz)) (h _ ?_ ?_)
  · rw [List.size_toArray, hc]; exact ht
  · rw [List.size_toArray, hc]; exact hi
  · exact OutG.put hR h0 j hj cs z hc hz
  · exact only_cells _ _ _
end
end Go.Proofs.Ythbnahagfojfbaa

/- Definitions and uses of glossaries, in plain Lean. No condition. -/
set_option linter.all false
namespace Go.Proofs.Ythbnahagfojfbaa
open Go.RowKit

def kName : Bs := [110, 97, 109, 101]
def kTerm : Bs := [116, 101, 114, 109]
def kGlos : Bs := [103, 108, 111, 115, 115, 97, 114, 121]
/-- The value of the first pair with a key. -/
def getP (ps : List Pr) (k : Bs) : Option Bs := (ps.find? fun q => q.1 == k).map (·.2)
theorem getP_cons (p : Pr) (ps : List Pr) (k : Bs) : getP (p :: ps) k = if p.1 = k then some p.2 else getP ps k := by
  unfold getP
  rw [List.find?_cons]
  by_cases h : p.1 = k
  · rw [if_pos h]; simp [h]
  · rw [if_neg h]
    have : (p.1 == k) = false := by simpa using h
    rw [this]
mutual
/-- The plain text of an inline. -/
def plain1 : Inl → Bs
  | .mk kind text dest _ _ _ _ _ _ kids =>
    if kind = 1 ∨ kind = 4 ∨ kind = 5 then text else if kind = 2 ∨ kind = 3 then [32] else if 6 ≤ kind ∧ kind ≤ 11 then plainL kids else if kind = 16 then dest else []
/-- The plain text of inlines. -/
def plainL : List Inl → Bs
  | [] => []
  | x :: xs => plain1 x ++ plainL xs
end
def isUse (x : Inl) : Bool := decide (x.kind = 11) && x.cls.contains kTerm
def useName (x : Inl) : Bs := (getP x.prs kName).getD (plainL x.kids)
def isGl (b : Blo) : Bool := decide (b.kind = 13) && b.info == kGlos
def isTm (b : Blo) : Bool := decide (b.kind = 13) && b.info == kTerm
def defName (b : Blo) : Bs := (getP b.prs kName).getD []
mutual
/-- Inlines, and those in them. -/
def deep1 : Inl → List Inl
  | .mk kind text dest title id cls prs args cits kids => .mk kind text dest title id cls prs args cits kids :: deepL kids
def deepL : List Inl → List Inl
  | [] => []
  | x :: xs => deep1 x ++ deepL xs
end
mutual
/-- The inlines of a block, and of those in it. -/
def inls1 : Blo → List Inl
  | .mk _ _ _ _ _ _ _ _ _ line kids => deepL line ++ inlsL kids
def inlsL : List Blo → List Inl
  | [] => []
  | x :: xs => inls1 x ++ inlsL xs
end
mutual
/-- The definitions in a block. -/
def defs1 : Bool → Blo → List Blo
  | inside, .mk kind level info text dest title id cls prs line kids =>
    (if (inside && isTm (.mk kind level info text dest title id cls prs line kids)) = true then [.mk kind level info text dest title id cls prs line kids] else []) ++ defsL (isGl (.mk kind level info text dest title id cls prs line kids)) kids
def defsL : Bool → List Blo → List Blo
  | _, [] => []
  | inside, x :: xs => defs1 inside x ++ defsL inside xs
end
theorem defs1_eq (inside : Bool) (b : Blo) : defs1 inside b = (if (inside && isTm b) = true then [b] else []) ++ defsL (isGl b) b.kids := by
  cases b; rfl
theorem deep1_eq (x : Inl) : deep1 x = x :: deepL x.kids := by cases x; rfl
theorem inls1_eq (b : Blo) : inls1 b = deepL b.line ++ inlsL b.kids := by cases b; rfl
theorem plain1_eq (x : Inl) : plain1 x = if x.kind = 1 ∨ x.kind = 4 ∨ x.kind = 5 then x.text else if x.kind = 2 ∨ x.kind = 3 then [32] else if 6 ≤ x.kind ∧ x.kind ≤ 11 then plainL x.kids else if x.kind = 16 then x.dest else [] := by cases x; rfl
theorem deepL_app (xs ys : List Inl) : deepL (xs ++ ys) = deepL xs ++ deepL ys := by
  induction xs with
  | nil => rfl
  | cons x xs ih => show deep1 x ++ deepL (xs ++ ys) = _; rw [ih]; show _ = (deep1 x ++ deepL xs) ++ _; rw [List.append_assoc]
theorem plainL_app (xs ys : List Inl) : plainL (xs ++ ys) = plainL xs ++ plainL ys := by
  induction xs with
  | nil => rfl
  | cons x xs ih => show plain1 x ++ plainL (xs ++ ys) = _; rw [ih]; show _ = (plain1 x ++ plainL xs) ++ _; rw [List.append_assoc]
theorem inlsL_app (xs ys : List Blo) : inlsL (xs ++ ys) = inlsL xs ++ inlsL ys := by
  induction xs with
  | nil => rfl
  | cons x xs ih => show inls1 x ++ inlsL (xs ++ ys) = _; rw [ih]; show _ = (inls1 x ++ inlsL xs) ++ _; rw [List.append_assoc]
theorem defsL_app (i : Bool) (xs ys : List Blo) : defsL i (xs ++ ys) = defsL i xs ++ defsL i ys := by
  induction xs with
  | nil => rfl
  | cons x xs ih => show defs1 i x ++ defsL i (xs ++ ys) = _; rw [ih]; show _ = (defs1 i x ++ defsL i xs) ++ _; rw [List.append_assoc]
theorem take_snoc {α : Type} {xs : List α} {k : Nat} {x : α} (h : xs[k]? = some x) : xs.take (k + 1) = xs.take k ++ [x] := by
  obtain ⟨hk, rfl⟩ := List.getElem?_eq_some_iff.1 h
  exact List.take_succ_eq_append_getElem hk
end Go.Proofs.Ythbnahagfojfbaa

/- Documents in memory: the cells of an element; sizes of documents. No condition. -/
set_option linter.all false
namespace Go.Proofs.Ythbnahagfojfbaa
open Go.RowKit

theorem Lns.at_ {S : Nat → Prop} {n : Nat} {w : World} {a : Option Addr} {m c : Nat} {xs : List Inl} (h : Lns S (n + 1) w (.slice a m c) xs) (j : Nat) (x : Inl) (hx : xs[j]? = some x) :
    ∃ g o vC vP vA vT vK, a = some ⟨g, o, none⟩ ∧ g < w.heap.size ∧ S g ∧ m = xs.length ∧ xs.length ≤ c ∧
      (w.cell? ⟨g, o + j * 10, none⟩ = some (.int .i64 x.kind) ∧ w.cell? ⟨g, o + j * 10 + 1, none⟩ = some (.string (bs x.text)) ∧ w.cell? ⟨g, o + j * 10 + 2, none⟩ = some (.string (bs x.dest)) ∧ w.cell? ⟨g, o + j * 10 + 3, none⟩ = some (.string (bs x.title)) ∧ w.cell? ⟨g, o + j * 10 + 4, none⟩ = some (.string (bs x.id)) ∧ w.cell? ⟨g, o + j * 10 + 5, none⟩ = some vC ∧ w.cell? ⟨g, o + j * 10 + 6, none⟩ = some vP ∧ w.cell? ⟨g, o + j * 10 + 7, none⟩ = some vA ∧ w.cell? ⟨g, o + j * 10 + 8, none⟩ = some vT ∧ w.cell? ⟨g, o + j * 10 + 9, none⟩ = some vK) ∧
      (∀ i u, (inlC x vC vP vA vT vK)[i]? = some u → w.cell? ⟨g, o + j * 10 + i, none⟩ = some u) ∧ (Strs w vC x.cls ∧ InB S vC x.cls.length) ∧ (Prs w vP x.prs ∧ InB S vP x.prs.length) ∧ (Strs w vA x.args ∧ InB S vA x.args.length) ∧ Cits S w vT x.cits ∧ Lns S n w vK x.kids := by
  obtain ⟨g, o, cs, ha, hg, hS, hl, hc, hR, hm, hle⟩ := RowR.at_ (show RowR S 10 _ _ _ _ from h) j x hx
  obtain ⟨vC, vP, vA, vT, vK, rfl, r1, r2, r3, r4, r5⟩ := hR
  exact ⟨g, o, vC, vP, vA, vT, vK, ha, hg, hS, hm, hle, ⟨by simpa using hc 0 _ rfl, hc 1 _ rfl, hc 2 _ rfl, hc 3 _ rfl, hc 4 _ rfl, hc 5 _ rfl, hc 6 _ rfl, hc 7 _ rfl, hc 8 _ rfl, hc 9 _ rfl⟩, hc, r1, r2, r3, r4, r5⟩
theorem Bls.at_ {S : Nat → Prop} {m0 n : Nat} {w : World} {a : Option Addr} {m c : Nat} {xs : List Blo} (h : Bls S m0 (n + 1) w (.slice a m c) xs) (j : Nat) (x : Blo) (hx : xs[j]? = some x) :
    ∃ g o vC vP vL vK, a = some ⟨g, o, none⟩ ∧ g < w.heap.size ∧ S g ∧ m = xs.length ∧ xs.length ≤ c ∧
      (w.cell? ⟨g, o + j * 11, none⟩ = some (.int .i64 x.kind) ∧ w.cell? ⟨g, o + j * 11 + 1, none⟩ = some (.int .i64 x.level) ∧ w.cell? ⟨g, o + j * 11 + 2, none⟩ = some (.string (bs x.info)) ∧ w.cell? ⟨g, o + j * 11 + 3, none⟩ = some (.string (bs x.text)) ∧ w.cell? ⟨g, o + j * 11 + 4, none⟩ = some (.string (bs x.dest)) ∧ w.cell? ⟨g, o + j * 11 + 5, none⟩ = some (.string (bs x.title)) ∧ w.cell? ⟨g, o + j * 11 + 6, none⟩ = some (.string (bs x.id)) ∧ w.cell? ⟨g, o + j * 11 + 7, none⟩ = some vC ∧ w.cell? ⟨g, o + j * 11 + 8, none⟩ = some vP ∧ w.cell? ⟨g, o + j * 11 + 9, none⟩ = some vL ∧ w.cell? ⟨g, o + j * 11 + 10, none⟩ = some vK) ∧
      (∀ i u, (bloC x vC vP vL vK)[i]? = some u → w.cell? ⟨g, o + j * 11 + i, none⟩ = some u) ∧ (Strs w vC x.cls ∧ InB S vC x.cls.length) ∧ (Prs w vP x.prs ∧ InB S vP x.prs.length) ∧ Lns S m0 w vL x.line ∧ Bls S m0 n w vK x.kids := by
  obtain ⟨g, o, cs, ha, hg, hS, hl, hc, hR, hm, hle⟩ := RowR.at_ (show RowR S 11 _ _ _ _ from h) j x hx
  obtain ⟨vC, vP, vL, vK, rfl, r1, r2, r3, r4⟩ := hR
  exact ⟨g, o, vC, vP, vL, vK, ha, hg, hS, hm, hle, ⟨by simpa using hc 0 _ rfl, hc 1 _ rfl, hc 2 _ rfl, hc 3 _ rfl, hc 4 _ rfl, hc 5 _ rfl, hc 6 _ rfl, hc 7 _ rfl, hc 8 _ rfl, hc 9 _ rfl, hc 10 _ rfl⟩, hc, r1, r2, r3, r4⟩
theorem Lns.no {S : Nat → Prop} {w : World} {v : Value} {xs : List Inl} (h : Lns S 0 w v xs) : xs = [] := h.1
theorem Bls.no {S : Nat → Prop} {m : Nat} {w : World} {v : Value} {xs : List Blo} (h : Bls S m 0 w v xs) : xs = [] := h.1
mutual
/-- No text, no list of an inline is too long. -/
def okI1 : Inl → Prop
  | .mk _ text dest title id cls prs args cits kids => (text.length ≤ 1000000 ∧ dest.length ≤ 1000000 ∧ title.length ≤ 1000000 ∧ id.length ≤ 1000000 ∧ cls.length ≤ 1000000 ∧ prs.length ≤ 1000000 ∧ args.length ≤ 1000000 ∧ cits.length ≤ 1000000 ∧ kids.length ≤ 1000000) ∧ okIL kids
def okIL : List Inl → Prop
  | [] => True
  | x :: xs => okI1 x ∧ okIL xs
end
mutual
def okB1 : Blo → Prop
  | .mk _ _ info text dest title id cls prs line kids => (info.length ≤ 1000000 ∧ text.length ≤ 1000000 ∧ dest.length ≤ 1000000 ∧ title.length ≤ 1000000 ∧ id.length ≤ 1000000 ∧ cls.length ≤ 1000000 ∧ prs.length ≤ 1000000 ∧ line.length ≤ 1000000 ∧ kids.length ≤ 1000000) ∧ okIL line ∧ okBL kids
def okBL : List Blo → Prop
  | [] => True
  | x :: xs => okB1 x ∧ okBL xs
end
theorem okIL_at {xs : List Inl} (h : okIL xs) : ∀ x ∈ xs, okI1 x := by
  induction xs with
  | nil => intro x hx; cases hx
  | cons y ys ih =>
    intro x hx
    rcases List.mem_cons.1 hx with rfl | hx
    · exact h.1
    · exact ih h.2 x hx
theorem okBL_at {xs : List Blo} (h : okBL xs) : ∀ x ∈ xs, okB1 x := by
  induction xs with
  | nil => intro x hx; cases hx
  | cons y ys ih =>
    intro x hx
    rcases List.mem_cons.1 hx with rfl | hx
    · exact h.1
    · exact ih h.2 x hx
theorem okI1.fit {x : Inl} (h : okI1 x) : (x.text.length ≤ 1000000 ∧ x.dest.length ≤ 1000000 ∧ x.title.length ≤ 1000000 ∧ x.id.length ≤ 1000000 ∧ x.cls.length ≤ 1000000 ∧ x.prs.length ≤ 1000000 ∧ x.args.length ≤ 1000000 ∧ x.cits.length ≤ 1000000 ∧ x.kids.length ≤ 1000000) ∧ okIL x.kids := by cases x; exact h
theorem okB1.fit {x : Blo} (h : okB1 x) : (x.info.length ≤ 1000000 ∧ x.text.length ≤ 1000000 ∧ x.dest.length ≤ 1000000 ∧ x.title.length ≤ 1000000 ∧ x.id.length ≤ 1000000 ∧ x.cls.length ≤ 1000000 ∧ x.prs.length ≤ 1000000 ∧ x.line.length ≤ 1000000 ∧ x.kids.length ≤ 1000000) ∧ okIL x.line ∧ okBL x.kids := by cases x; exact h
theorem plainL_take {xs : List Inl} {k : Nat} {x : Inl} (h : xs[k]? = some x) : plainL (xs.take (k + 1)) = plainL (xs.take k) ++ plain1 x := by
  rw [take_snoc h, plainL_app]; show _ ++ (plain1 x ++ []) = _; rw [List.append_nil]
theorem plainL_le (xs : List Inl) (k : Nat) : (plainL (xs.take k)).length ≤ (plainL xs).length := by
  conv => rhs; rw [← List.take_append_drop k xs]
  rw [plainL_app, List.length_append]; omega
theorem deepL_take {xs : List Inl} {k : Nat} {x : Inl} (h : xs[k]? = some x) : deepL (xs.take (k + 1)) = deepL (xs.take k) ++ deep1 x := by
  rw [take_snoc h, deepL_app]; show _ ++ (deep1 x ++ []) = _; rw [List.append_nil]
theorem deepL_le (xs : List Inl) (k : Nat) : (deepL (xs.take k)).length ≤ (deepL xs).length := by
  conv => rhs; rw [← List.take_append_drop k xs]
  rw [deepL_app, List.length_append]; omega
theorem inlsL_take {xs : List Blo} {k : Nat} {x : Blo} (h : xs[k]? = some x) : inlsL (xs.take (k + 1)) = inlsL (xs.take k) ++ inls1 x := by
  rw [take_snoc h, inlsL_app]; show _ ++ (inls1 x ++ []) = _; rw [List.append_nil]
theorem inlsL_le (xs : List Blo) (k : Nat) : (inlsL (xs.take k)).length ≤ (inlsL xs).length := by
  conv => rhs; rw [← List.take_append_drop k xs]
  rw [inlsL_app, List.length_append]; omega
theorem defsL_take {i : Bool} {xs : List Blo} {k : Nat} {x : Blo} (h : xs[k]? = some x) : defsL i (xs.take (k + 1)) = defsL i (xs.take k) ++ defs1 i x := by
  rw [take_snoc h, defsL_app]; show _ ++ (defs1 i x ++ []) = _; rw [List.append_nil]
theorem defsL_le (i : Bool) (xs : List Blo) (k : Nat) : (defsL i (xs.take k)).length ≤ (defsL i xs).length := by
  conv => rhs; rw [← List.take_append_drop k xs]
  rw [defsL_app, List.length_append]; omega
end Go.Proofs.Ythbnahagfojfbaa
