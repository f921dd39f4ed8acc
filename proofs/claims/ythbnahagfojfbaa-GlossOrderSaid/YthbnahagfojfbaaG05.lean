/- Lists of structs that a call makes by appending: what lies in the row that it owns. No condition. -/
import Derived.Test.YthbnahagfojfbaaG04
import Derived.Test.YthbnahagfojfbaaG03
import Derived.Test.YthbnahagfojfbaaG01
import Derived.Deep.AppendLies
import Derived.Deep.MidRow
import Derived.Orders

set_option linter.all false
namespace Go.Proofs.Ythbnahagfojfbaa
open Go.RowKit

theorem addr_plus (g o j : Nat) : (⟨g, o, none⟩ : Addr).add j = ⟨g, o + j, none⟩ := by unfold Addr.add; split <;> simp_all
/-- A reading of cells that stands where only other blocks change. -/
structure ReadK {α : Type} (R : (Nat → Prop) → World → List Value → α → Prop) : Prop where
  sam : ∀ {S S' : Nat → Prop} {w w' : World} {cs : List Value} {x : α}, R S w cs x → Sam S w w' → (∀ g, g < w.heap.size → S g → S' g) → R S' w' cs x
  one : ∀ {S : Nat → Prop} {w : World} {cs : List Value} {x : α}, R S w cs x → ∀ u ∈ cs, u.oneCell' = true
/-- The row of a call's own that holds the elements xs: their trees lie in blocks of A, and not in the row itself. -/
def OutG {α : Type} (R : (Nat → Prop) → World → List Value → α → Prop) (k : Nat) (A : Nat → Prop) (base : Nat) (e : TypeId) (w : World) (v : Value) (xs : List α) : Prop :=
  ∃ css : List (List Value), css.length = xs.length ∧ (∀ cs ∈ css, cs.length = k) ∧ w.ownsRow base e k v xs.length css.flatten ∧
    ∀ (j : Nat) (cs : List Value) (x : α), css[j]? = some cs → xs[j]? = some x → R (fun g => A g ∧ v.ownBlock ≠ some g) w cs x
section
variable {α : Type} {R : (Nat → Prop) → World → List Value → α → Prop} {k : Nat} {A : Nat → Prop} {base : Nat} {e : TypeId} {w w' : World} {v : Value} {xs : List α}
theorem OutG.nil (R : (Nat → Prop) → World → List Value → α → Prop) (k : Nat) (A : Nat → Prop) (base : Nat) (e : TypeId) (w : World) : OutG R k A base e w (.slice none 0 0) [] :=
  ⟨[], rfl, (fun _ h => by cases h), World.ownsRow_nil _ _ _ _, (fun _ _ _ h => by cases h)⟩
theorem OutG.form (h : OutG R k A base e w v xs) : ∃ a c, v = .slice a xs.length c ∧ xs.length ≤ c ∧ c ≤ maxLen := by
  obtain ⟨css, _, _, ho, _⟩ := h
  obtain ⟨a, c, hv, hc, hm, _⟩ := own_cap ho
  exact ⟨a, c, hv, hc, hm⟩
theorem OutG.blk (h : OutG R k A base e w v xs) (g : Nat) (hg : v.ownBlock = some g) : base ≤ g ∧ g < w.heap.size := by
  obtain ⟨css, _, _, ho, _⟩ := h
  exact ho.lt g hg
theorem OutG.only {T : Nat → Prop} (hR : ReadK R) (h : OutG R k A base e w v xs) (q : Only T w w') (hA : ∀ g, g < w.heap.size → A g → v.ownBlock ≠ some g → ¬ T g) (hv : ∀ g, v.ownBlock = some g → ¬ T g) : OutG R k A base e w' v xs := by
  obtain ⟨css, h1, h2, ho, h4⟩ := h
  exact ⟨css, h1, h2, q.own ho hv, fun j cs x hc hx => hR.sam (h4 j cs x hc hx) (Sam.only q (fun g hg hs => hA g hg hs.1 hs.2)) (fun _ _ h => h)⟩
theorem OutG.kept (hR : ReadK R) (h : OutG R k A base e w v xs) (q : Kept w w') : OutG R k A base e w' v xs := h.only hR (Only.of_kept (S := fun _ => False) q) (fun _ _ _ _ h => h) (fun _ _ h => h)
theorem OutG.mono {A' : Nat → Prop} (hR : ReadK R) (h : OutG R k A base e w v xs) (q : ∀ g, g < w.heap.size → A g → A' g) : OutG R k A' base e w v xs := by
  obtain ⟨css, h1, h2, ho, h4⟩ := h
  exact ⟨css, h1, h2, ho, fun j cs x hc hx => hR.sam (h4 j cs x hc hx) (fun _ _ _ => rfl) (fun g hg hs => ⟨q g hg hs.1, hs.2⟩)⟩
theorem OutG.low {base' : Nat} (h : OutG R k A base e w v xs) (q : base' ≤ base) : OutG R k A base' e w v xs := by
  obtain ⟨css, h1, h2, ho, h4⟩ := h
  exact ⟨css, h1, h2, own_mono ho q, h4⟩
/-- The row as a slice. -/
theorem OutG.row {S : Nat → Prop} (hR : ReadK R) (h : OutG R k A base e w v xs) (hA : ∀ g, g < w.heap.size → A g → S g) (hB : ∀ g, base ≤ g → S g) : RowR S k (R S w) w v xs := by
  obtain ⟨css, h1, h2, ho, h4⟩ := h
  exact RowR.own css h2 h1 ho (fun j cs x hc hx => hR.sam (h4 j cs x hc hx) (fun _ _ _ => rfl) (fun g hg hs => hA g hg hs.1)) (fun g _ hb => hB g hb)
theorem flat_back {k : Nat} (hk : 0 < k) (css : List (List Value)) (hl : ∀ cs ∈ css, cs.length = k) (t : Nat) (u : Value) (h : css.flatten[t]? = some u) : ∃ j i cs, t = j * k + i ∧ css[j]? = some cs ∧ cs[i]? = some u := by
  have ht := (List.getElem?_eq_some_iff.1 h).1
  rw [flat_len css hl] at ht
  have hj : t / k < css.length := by rw [Nat.div_lt_iff_lt_mul hk]; exact ht
  have hc : css[t / k]? = some css[t / k] := List.getElem?_eq_getElem hj
  have hcl := hl _ (List.getElem_mem hj)
  have hi : t % k < css[t / k].length := by rw [hcl]; exact Nat.mod_lt _ hk
  have hu : css[t / k][t % k]? = some css[t / k][t % k] := List.getElem?_eq_getElem hi
  have e := flat_at css hl (t / k) _ hc (t % k) _ hu
  have et : t / k * k + t % k = t := by rw [Nat.mul_comm]; exact Nat.div_add_mod t k
  rw [et, h] at e
  exact ⟨t / k, t % k, _, et.symm, hc, by rw [hu, ← e]⟩
/-- The cells of a slice's elements. -/
theorem RowR.css {S : Nat → Prop} {Q : List Value → α → Prop} {a : Option Addr} {n c : Nat} (hk : 0 < k) (h : RowR S k Q w (.slice a n c) xs) : ∃ css : List (List Value), css.length = xs.length ∧ (∀ cs ∈ css, cs.length = k) ∧ (∀ (j : Nat) (cs : List Value) (x : α), css[j]? = some cs → xs[j]? = some x → Q cs x) ∧
    (0 < xs.length → ∃ g o, a = some ⟨g, o, none⟩ ∧ g < w.heap.size ∧ S g ∧ ∀ t u, css.flatten[t]? = some u → w.cell? ⟨g, o + t, none⟩ = some u) := by
  obtain ⟨a', c', hv, hc, h3⟩ := h
  obtain ⟨rfl, rfl, rfl⟩ := Value.slice.inj hv
  by_cases q : 0 < xs.length
  · obtain ⟨g, o, ha, hg, hS, hcell⟩ := h3 q
    have key : ∀ ys : List α, ∀ d : Nat, (∀ j x, ys[j]? = some x → ∃ cs : List Value, cs.length = k ∧ (∀ i u, cs[i]? = some u → w.cell? ⟨g, o + (d + j) * k + i, none⟩ = some u) ∧ Q cs x) →
        ∃ css : List (List Value), css.length = ys.length ∧ (∀ cs ∈ css, cs.length = k) ∧ (∀ (j : Nat) (cs : List Value) (x : α), css[j]? = some cs → ys[j]? = some x → Q cs x) ∧ ∀ (j : Nat) (cs : List Value), css[j]? = some cs → ∀ i u, cs[i]? = some u → w.cell? ⟨g, o + (d + j) * k + i, none⟩ = some u := by
      intro ys
      induction ys with
      | nil => intro d _; exact ⟨[], rfl, (fun _ h => by cases h), (fun _ _ _ h => by cases h), (fun _ _ h => by cases h)⟩
      | cons y ys ih =>
        intro d hy
        obtain ⟨cs0, l0, c0, r0⟩ := hy 0 y rfl
        obtain ⟨css, e1, e2, e3, e4⟩ := ih (d + 1) (fun j x hx => by
          have := hy (j + 1) x (by simpa using hx)
          rw [show d + (j + 1) = d + 1 + j by omega] at this
          exact this)
        refine ⟨cs0 :: css, by simp [e1], ?_, ?_, ?_⟩
        · intro cs hcs
          rcases List.mem_cons.1 hcs with rfl | hcs
          · exact l0
          · exact e2 cs hcs
        · intro j cs x hc hx
          cases j with
          | zero => cases hc; cases hx; exact r0
          | succ j => exact e3 j cs x (by simpa using hc) (by simpa using hx)
        · intro j cs hc i u hu
          cases j with
          | zero => cases hc; exact c0 i u hu
          | succ j =>
            have := e4 j cs (by simpa using hc) i u hu
            rw [show d + (j + 1) = d + 1 + j by omega]
            exact this
    obtain ⟨css, e1, e2, e3, e4⟩ := key xs 0 (fun j x hx => by rw [Nat.zero_add]; exact hcell j x hx)
    refine ⟨css, e1, e2, e3, fun _ => ⟨g, o, ha, hg, hS, fun t u ht => ?_⟩⟩
    obtain ⟨j, i, cs, rfl, hcj, hi⟩ := flat_back hk css e2 t u ht
    have := e4 j cs hcj i u hi
    rw [Nat.zero_add] at this
    rw [← Nat.add_assoc]; exact this
  · obtain rfl : xs = [] := List.length_eq_zero_iff.1 (by omega)
    exact ⟨[], rfl, (fun _ h => by cases h), (fun _ _ _ h => by cases h), (fun h => absurd h (by simp))⟩
theorem css_one {S : Nat → Prop} (hR : ReadK R) (css : List (List Value)) (hl : css.length = xs.length) (h : ∀ (j : Nat) (cs : List Value) (x : α), css[j]? = some cs → xs[j]? = some x → R S w cs x) : ∀ u ∈ css.flatten, u.oneCell' = true := by
  intro u hu
  obtain ⟨cs, hcs, hu⟩ := List.mem_flatten.1 hu
  obtain ⟨j, hj, rfl⟩ := List.getElem_of_mem hcs
  exact hR.one (h j _ _ (List.getElem?_eq_getElem hj) (List.getElem?_eq_getElem (by omega))) u hu
/-- What an append of elements to an own row leaves. -/
theorem OutG.app {ys : List α} {css css2 : List (List Value)} {g cap : Nat} (hR : ReadK R) (h1 : css.length = xs.length) (h2 : ∀ cs ∈ css, cs.length = k) (h4 : ∀ (j : Nat) (cs : List Value) (x : α), css[j]? = some cs → xs[j]? = some x → R (fun g => A g ∧ v.ownBlock ≠ some g) w cs x)
    (k1 : css2.length = ys.length) (k2 : ∀ cs ∈ css2, cs.length = k) (k4 : ∀ (j : Nat) (cs : List Value) (x : α), css2[j]? = some cs → ys[j]? = some x → R (fun g => A g ∧ v.ownBlock ≠ some g) w cs x)
    (ho : w'.ownsRow base e k (.slice (some ⟨g, 0, none⟩) (xs.length + ys.length) cap) (xs.length + ys.length) (css.flatten ++ css2.flatten)) (hg : w.grownBy w' v.ownBlock) (hat : v.ownBlock = some g ∨ g = w.heap.size) : OutG R k A base e w' (.slice (some ⟨g, 0, none⟩) (xs.length + ys.length) cap) (xs ++ ys) := by
  have hst : ∀ cs x, R (fun g => A g ∧ v.ownBlock ≠ some g) w cs x → R (fun g' => A g' ∧ (Value.slice (some ⟨g, 0, none⟩) (xs.length + ys.length) cap).ownBlock ≠ some g') w' cs x := fun cs x hx =>
    hR.sam hx (Sam.only (Only.grown hg) (fun g' _ hs q => hs.2 q.symm)) (fun g' hlt hs => ⟨hs.1, fun q => by
      have e1 : g = g' := by simpa [Value.ownBlock] using q
      rcases hat with q2 | q2
      · exact hs.2 (by rw [q2, e1])
      · omega⟩)
  refine ⟨css ++ css2, by simp [h1, k1], fun cs hcs => (List.mem_append.1 hcs).elim (h2 cs) (k2 cs), ?_, fun j cs x hc hx => ?_⟩
  · rw [List.flatten_append, List.length_append]; exact ho
  · rcases Nat.lt_or_ge j xs.length with q | q
    · rw [List.getElem?_append_left (by omega)] at hc hx
      exact hst cs x (h4 j cs x hc hx)
    · rw [List.getElem?_append_right (by omega)] at hc hx
      rw [h1] at hc
      exact hst cs x (k4 _ cs x hc hx)
/-- An element is appended: at a plain region's list. -/
theorem wpList_append_out {P : Program} (hR : ReadK R) {ops : Array Oper} {rest : List Oper} {o : Oper} {a : Act} {Q : Exit → Act → World → Prop} (hgd : o.guard = none) (s x : Operand) (t : TypeId)
    (ho : o.op = .call { callee := .builtin .append, args := #[s, x], argTypes := #[t, t] })
    (i : TypeInfo) (z : Value) (bytes : Nat) (ht : P.underlying t = some (.slice e)) (hi : P.info? e = some i) (hz : i.zero = some z) (hsize : i.size = k) (hby : i.bytes = bytes) (hzs : z.cells.size = k) (hsz : 0 < k)
    (hs : a.eval s = v) (hown : OutG R k A base e w v xs) (g0 : Nat) (cs : List Value) (y : α) (hx : a.eval x = .slice (some ⟨g0, 0, none⟩) 1 1) (hb : ∀ j u, cs[j]? = some u → w.cell? ⟨g0, j, none⟩ = some u) (hcl : cs.length = k)
    (hy : R (fun g => A g ∧ v.ownBlock ≠ some g) w cs y) (h63 : xs.length + 1 ≤ maxLen) (hbytes : (xs.length + 1) * bytes ≤ 140737488355328) (hbase : base ≤ w.heap.size) (H : Nat) (hH : w.heap.size = H)
    (h : ∀ g cap w', OutG R k A base e w' (.slice (some ⟨g, 0, none⟩) (xs.length + 1) cap) (xs ++ [y]) → w.grownBy w' v.ownBlock → (v.ownBlock = some g ∨ g = H) → g < w'.heap.size → wpList P ops Q rest (a.put o.dst (.slice (some ⟨g, 0, none⟩) (xs.length + 1) cap)) w') : wpList P ops Q (o :: rest) a w := by
  obtain ⟨css, h1, h2, ho2, h4⟩ := hown
  refine wpList_append_lies w hgd s x t ho base e i z k bytes ht hi hz hsize hby hzs hsz v xs.length css.flatten hs ho2 ⟨g0, 0, none⟩ 1 1 cs hx (by rw [hcl, Nat.one_mul]) (fun j u hu => by rw [addr_plus, Nat.zero_add]; exact hb j u hu) (hR.one hy) (by omega) h63 hbytes hbase H hH ?_
  intro g cap w' q1 q2 q3 q4
  refine h g cap w' ?_ q2 q3 q4
  subst hH
  exact OutG.app (ys := [y]) (css2 := [cs]) hR h1 h2 h4 rfl (fun c hc => by simp at hc; subst hc; exact hcl) (fun j c u hc hu => by
    cases j with
    | zero => cases hc; cases hu; exact hy
    | succ j => simp at hc) (by simpa using q1) q2 q3
end
theorem InlW.one {S : Nat → Prop} {L : World → Value → List Inl → Prop} (hL : ∀ w v xs, L w v xs → v.oneCell' = true) {w : World} {cs : List Value} {x : Inl} (h : InlW S L w cs x) : ∀ u ∈ cs, u.oneCell' = true := by
  obtain ⟨vC, vP, vA, vT, vK, rfl, ⟨⟨_, _, rfl, _⟩, _⟩, ⟨⟨_, _, rfl, _⟩, _⟩, ⟨⟨_, _, rfl, _⟩, _⟩, ⟨_, _, rfl, _⟩, kk⟩ := h
  have := hL _ _ _ kk
  intro u hu
  unfold inlC at hu
  simp only [List.mem_cons, List.not_mem_nil, or_false] at hu
  rcases hu with rfl | rfl | rfl | rfl | rfl | rfl | rfl | rfl | rfl | rfl <;> first | rfl | exact this
theorem Lns.one {S : Nat → Prop} {n : Nat} {w : World} {v : Value} {xs : List Inl} (h : Lns S n w v xs) : v.oneCell' = true := by
  obtain ⟨a, c, rfl, _⟩ := h.form; rfl
theorem Bls.one {S : Nat → Prop} {m n : Nat} {w : World} {v : Value} {xs : List Blo} (h : Bls S m n w v xs) : v.oneCell' = true := by
  obtain ⟨a, c, rfl, _⟩ := h.form; rfl
theorem BloW.one {S : Nat → Prop} {m : Nat} {L : World → Value → List Blo → Prop} (hL : ∀ w v xs, L w v xs → v.oneCell' = true) {w : World} {cs : List Value} {x : Blo} (h : BloW S m L w cs x) : ∀ u ∈ cs, u.oneCell' = true := by
  obtain ⟨vC, vP, vL, vK, rfl, ⟨⟨_, _, rfl, _⟩, _⟩, ⟨⟨_, _, rfl, _⟩, _⟩, l, kk⟩ := h
  have h1 := l.one
  have h2 := hL _ _ _ kk
  intro u hu
  unfold bloC at hu
  simp only [List.mem_cons, List.not_mem_nil, or_false] at hu
  rcases hu with rfl | rfl | rfl | rfl | rfl | rfl | rfl | rfl | rfl | rfl | rfl <;> first | rfl | exact h1 | exact h2
/-- How inlines are read. -/
def InlK (n : Nat) (S : Nat → Prop) (w : World) : List Value → Inl → Prop := InlW S (Lns S n) w
def BloK (m n : Nat) (S : Nat → Prop) (w : World) : List Value → Blo → Prop := BloW S m (Bls S m n) w
theorem inlK (n : Nat) : ReadK (InlK n) := ⟨fun h k hS => InlW.sam h k hS (fun _ h => Lns.sam h k hS), fun h => InlW.one (fun _ _ _ h => Lns.one h) h⟩
theorem bloK (m n : Nat) : ReadK (BloK m n) := ⟨fun h k hS => BloW.sam h k hS (fun _ h => Bls.sam h k hS), fun h => BloW.one (fun _ _ _ h => Bls.one h) h⟩
/-- A text in one cell. -/
def StrK (S : Nat → Prop) (w : World) (cs : List Value) (x : Bs) : Prop := cs = [.string (bs x)]
theorem strK : ReadK StrK := ⟨fun h _ _ => h, fun h u hu => by rw [h] at hu; simp at hu; subst hu; rfl⟩
end Go.Proofs.Ythbnahagfojfbaa

/- Whole structs, and parts of structs, into and out of blocks that are known whole. No condition. -/
set_option linter.all false
namespace Go.Proofs.Ythbnahagfojfbaa
open Go.RowKit

theorem blk_cells {R : Nat} {ty : TypeId} : ∀ (vs : List Value) (o : Nat) (w : World) (cs : Array Value), Blk w R ty cs → ∃ cs' : Array Value, Blk (w.setCells R o vs) R ty cs' ∧ cs'.size = cs.size ∧ ∀ j, j < cs.size → cs'[j]? = if o ≤ j ∧ j < o + vs.length then vs[j - o]? else cs[j]?
  | [], o, w, cs, h => ⟨cs, h, rfl, fun j hj => by rw [if_neg (by simp only [List.length_nil]; omega)]⟩
  | v :: vs, o, w, cs, h => by
    obtain ⟨cs', h1, h2, h3⟩ := blk_cells vs (o + 1) _ _ (h.set o v)
    refine ⟨cs', h1, by rw [h2]; simp, fun j hj => ?_⟩
    have := h3 j (by simpa using hj)
    rw [this]
    by_cases q : j = o
    · subst q
      rw [if_neg (by omega), if_pos ⟨Nat.le_refl _, by simp only [List.length_cons]; omega⟩]
      simp [hj]
    · by_cases q2 : o ≤ j ∧ j < o + (v :: vs).length
      · rw [if_pos q2, if_pos (by simp only [List.length_cons] at q2; omega), show j - o = (j - (o + 1)) + 1 by omega, List.getElem?_cons_succ]
      · rw [if_neg q2, if_neg (by simp only [List.length_cons] at q2; omega), Array.getElem?_setIfInBounds_ne (fun e => q e.symm)]
theorem blk_whole {w : World} {R : Nat} {ty : TypeId} {old cells : Array Value} (h : Blk w R ty old) (hs : old.size = cells.size) : Blk (w.setCells R 0 cells.toList) R ty cells := by
  obtain ⟨cs', h1, h2, h3⟩ := blk_cells cells.toList 0 w old h
  have e : cs' = cells := by
    apply Array.ext_getElem?
    intro j
    by_cases hj : j < old.size
    · rw [h3 j hj, if_pos ⟨Nat.zero_le _, by rw [Nat.zero_add, Array.length_toList]; omega⟩, Nat.sub_zero, Array.getElem?_toList]
    · rw [Array.getElem?_eq_none (by omega), Array.getElem?_eq_none (by omega)]
  rwa [e] at h1
theorem only_cells {R : Nat} : ∀ (vs : List Value) (o : Nat) (w : World), Only (fun i => i = R) w (w.setCells R o vs)
  | [], _, w => Only.of_kept (Kept.refl w)
  | v :: vs, o, w => (Only.setCell R o v).trans ((only_cells vs (o + 1) _).mono (fun _ _ q => q))
/-- A whole struct goes into a block that is known whole. -/
theorem wpList_store_blk {P : Program} {ops : Array Oper} {rest : List Oper} {op : Oper} {a : Act} {w : World} {Q : Exit → Act → World → Prop} (hgd : op.guard = none) (ty : TypeId) (x y : Operand) (ho : op.op = .store ty x y)
    (R : Nat) (old cells : Array Value) (hx : a.eval x = .pointer (some ⟨R, 0, none⟩)) (hy : a.eval y = .agg cells) (hb : Blk w R ty old) (hs : old.size = cells.size)
    (hi : (P.info? ty).map (·.size) = some cells.size) (h1 : cells.all (·.oneCell') = true)
    (h : ∀ w', Blk w' R ty cells → Only (fun i => i = R) w w' → wpList P ops Q rest (a.put op.dst undef) w') : wpList P ops Q (op :: rest) a w := by
  refine wpList_store_mid hgd ty x y ho R 0 cells hx hy (fun j hj => ⟨?_, ?_⟩) hi h1 (h _ (blk_whole hb hs) (only_cells _ _ _))
  · rw [Nat.zero_add, hb.cell j (old[j]'(by omega)) (by rw [Array.getElem?_eq_getElem])]; rfl
  · rw [Nat.zero_add]; exact hb.free j
/-- A whole struct comes out of a block that is known whole. -/
theorem wpList_load_blk {P : Program} {ops : Array Oper} {rest : List Oper} {op : Oper} {a : Act} {w : World} {Q : Exit → Act → World → Prop} (hgd : op.guard = none) (ty : TypeId) (x : Operand) (ho : op.op = .load ty x)
    (R : Nat) (cells : Array Value) (hx : a.eval x = .pointer (some ⟨R, 0, none⟩)) (hb : Blk w R ty cells) (d : TypeDesc) (hu : P.underlying ty = some d) (hd : d.isRow = true)
    (hi : (P.info? ty).map (·.size) = some cells.size)
    (h : wpList P ops Q rest (a.put op.dst (.agg cells)) w) : wpList P ops Q (op :: rest) a w := by
  refine wpList_load_mid hgd ty x ho R 0 hx cells.toList d (fun j v hv => ?_) hu hd (by rw [hi, Array.length_toList]) (by rw [Array.toArray_toList]; exact h)
  rw [Nat.zero_add]
  exact hb.cell j v (by rw [← Array.getElem?_toList]; exact hv)
/-- The cells of a block with some of them put anew from a place on. -/
def putC (old : Array Value) (o : Nat) (vs : List Value) : Array Value := (old.toList.take o ++ (vs ++ old.toList.drop (o + vs.length))).toArray
theorem blk_part {w : World} {R : Nat} {ty : TypeId} {old : Array Value} (h : Blk w R ty old) (o : Nat) (vs : List Value) (hs : o + vs.length ≤ old.size) : Blk (w.setCells R o vs) R ty (putC old o vs) := by
  obtain ⟨cs', h1, h2, h3⟩ := blk_cells vs o w old h
  have e : cs' = putC old o vs := by
    apply Array.ext_getElem?
    intro j
    unfold putC
    conv => rhs; rw [List.getElem?_toArray]
    have hl : old.toList.length = old.size := Array.length_toList
    have hm : (old.toList.take o).length = o := by rw [List.length_take]; omega
    by_cases hj : j < old.size
    · rw [h3 j hj]
      by_cases q : o ≤ j ∧ j < o + vs.length
      · rw [if_pos q, List.getElem?_append_right (by omega), hm, List.getElem?_append_left (by omega)]
      · rw [if_neg q]
        by_cases q2 : j < o
        · rw [List.getElem?_append_left (by omega), List.getElem?_take_of_lt q2, Array.getElem?_toList]
        · rw [List.getElem?_append_right (by omega), hm, List.getElem?_append_right (by omega), List.getElem?_drop, show o + vs.length + (j - o - vs.length) = j by omega, Array.getElem?_toList]
    · rw [Array.getElem?_eq_none (by omega), List.getElem?_eq_none (by rw [List.length_append, List.length_append, List.length_drop]; omega)]
  rwa [e] at h1
/-- A struct goes into a part of a block that is known whole. -/
theorem wpList_store_part {P : Program} {ops : Array Oper} {rest : List Oper} {op : Oper} {a : Act} {w : World} {Q : Exit → Act → World → Prop} (hgd : op.guard = none) (ty : TypeId) (x y : Operand) (ho : op.op = .store ty x y)
    (R o : Nat) (te : TypeId) (old cells : Array Value) (hx : a.eval x = .pointer (some ⟨R, o, none⟩)) (hy : a.eval y = .agg cells) (hb : Blk w R te old) (hs : o + cells.size ≤ old.size)
    (hi : (P.info? ty).map (·.size) = some cells.size) (h1 : cells.all (·.oneCell') = true)
    (h : ∀ w', Blk w' R te (putC old o cells.toList) → Only (fun i => i = R) w w' → wpList P ops Q rest (a.put op.dst undef) w') : wpList P ops Q (op :: rest) a w := by
  refine wpList_store_mid hgd ty x y ho R o cells hx hy (fun j hj => ⟨?_, ?_⟩) hi h1 (h _ (blk_part hb o cells.toList (by rw [Array.length_toList]; exact hs)) (only_cells _ _ _))
  · rw [hb.cell (o + j) (old[o + j]'(by omega)) (by rw [Array.getElem?_eq_getElem])]; rfl
  · exact hb.free (o + j)
/-- A struct comes out of a part of a block that is known whole. -/
theorem wpList_load_part {P : Program} {ops : Array Oper} {rest : List Oper} {op : Oper} {a : Act} {w : World} {Q : Exit → Act → World → Prop} (hgd : op.guard = none) (ty : TypeId) (x : Operand) (ho : op.op = .load ty x)
    (R o : Nat) (cs : List Value) (hx : a.eval x = .pointer (some ⟨R, o, none⟩)) (hc : ∀ i u, cs[i]? = some u → w.cell? ⟨R, o + i, none⟩ = some u) (d : TypeDesc) (hu : P.underlying ty = some d) (hd : d.isRow = true)
    (hi : (P.info? ty).map (·.size) = some cs.length)
    (h : wpList P ops Q rest (a.put op.dst (.agg cs.toArray)) w) : wpList P ops Q (op :: rest) a w :=
  wpList_load_mid hgd ty x ho R o hx cs d hc hu hd hi h
end Go.Proofs.Ythbnahagfojfbaa

/- Regions that draw their order, by an invariant over what has been done. No condition. -/
set_option linter.all false
namespace Go.Proofs.Ythbnahagfojfbaa
open Go.RowKit

/-- The operation i has been done. -/
def On (L : Array Bool) (i : Nat) : Prop := L.getD i false = true
theorem on_same {L : Array Bool} {i : Nat} (h : i < L.size) : On (L.setIfInBounds i true) i := by
  unfold On; simp [Array.getD_eq_getD_getElem?, h]
theorem on_ne {L : Array Bool} {i j : Nat} (h : i ≠ j) : On (L.setIfInBounds i true) j ↔ On L j := by
  unfold On; rw [getD_set_ne false h]
theorem on_set {L : Array Bool} {i j : Nat} (h : On (L.setIfInBounds i true) j) : j = i ∨ On L j := by
  by_cases q : i = j
  · exact .inl q.symm
  · exact .inr ((on_ne q).1 h)
theorem on_mono {L : Array Bool} {i j : Nat} (h : On L j) : On (L.setIfInBounds i true) j := getD_set_true h
theorem not_on {L : Array Bool} {i : Nat} (h : L.getD i true = false) : ¬ On L i := by
  unfold On
  intro q
  have hi : i < L.size := by
    rcases Nat.lt_or_ge i L.size with x | x
    · exact x
    · rw [Array.getD_eq_getD_getElem?, Array.getElem?_eq_none x] at h; cases h
  rw [Array.getD_eq_getD_getElem?, Array.getElem?_eq_getElem hi] at h q
  simp only [Option.getD_some] at h q
  rw [h] at q; cases q
def offN (L : Array Bool) : Nat → Nat
  | 0 => 0
  | n + 1 => offN L n + (if L.getD n true = true then 0 else 1)
theorem offN_set (L : Array Bool) (i : Nat) (h : L.getD i true = false) : ∀ n, offN (L.setIfInBounds i true) n + (if i < n then 1 else 0) = offN L n
  | 0 => by simp [offN]
  | n + 1 => by
    have ih := offN_set L i h n
    rw [offN, offN]
    by_cases q : i = n
    · subst q
      rw [if_neg (Nat.lt_irrefl _)] at ih
      have hi : i < L.size := by
        rcases Nat.lt_or_ge i L.size with x | x
        · exact x
        · rw [Array.getD_eq_getD_getElem?, Array.getElem?_eq_none x] at h; cases h
      have e : (L.setIfInBounds i true).getD i true = true := by simp [Array.getD_eq_getD_getElem?, hi]
      rw [e, h]
      simp; omega
    · rw [getD_set_ne true q]
      generalize (if L.getD n true = true then 0 else 1) = z
      by_cases q2 : i < n
      · have q3 : i < n + 1 := by omega
        simp only [q2, q3, if_true] at ih ⊢; omega
      · have q3 : ¬ i < n + 1 := by omega
        simp only [q2, q3, if_false] at ih ⊢; omega
section
variable {P : Program} {ops : Array Oper} {Q : Exit → Act → World → Prop} {md : Region.Mode}
theorem wpAny_inv (I : Array Bool → Act → World → Prop) (hac : ∀ (i : Nat) (o : Oper), ops[i]? = some o → ∀ e ∈ o.after, Region.binds md e = true → e.on < i)
    (hend : ∀ L a w, I L a w → (∀ i, i < ops.size → L.getD i true = true) → Q .normal a w)
    (hstep : ∀ L a w i, I L a w → i < ops.size → L.getD i true = false → (∀ o, ops[i]? = some o → ∀ e ∈ o.after, Region.binds md e = true → On L e.on) → wpOp P ops Q i (I (L.setIfInBounds i true)) a w) :
    ∀ (fuel : Nat) L a w, offN L ops.size ≤ fuel → I L a w → wpAny P md ops Q fuel L a w := by
  have hall : ∀ L, L.size = L.size → Region.ready md ops L = [] → (∀ i, i < ops.size → L.getD i true = true) := by
    intro L _ hr i
    induction i using Nat.strongRecOn with
    | ind i ih =>
      intro hi
      cases hq : L.getD i true with
      | true => rfl
      | false =>
        exfalso
        have : i ∈ Region.ready md ops L := by
          rw [mem_ready]
          refine ⟨hq, ops[i], Array.getElem?_eq_getElem hi, fun e he hb => ?_⟩
          have h1 := hac i ops[i] (Array.getElem?_eq_getElem hi) e he hb
          have h2 := ih e.on h1 (by omega)
          have hlt : e.on < L.size := by
            rcases Nat.lt_or_ge i L.size with x | x
            · omega
            · rw [Array.getD_eq_getD_getElem?, Array.getElem?_eq_none x] at hq; cases hq
          rw [Array.getD_eq_getD_getElem?, Array.getElem?_eq_getElem hlt] at h2 ⊢
          exact h2
        rw [hr] at this; cases this
  intro fuel
  induction fuel with
  | zero =>
    intro L a w hf hI
    have hz : ∀ n, offN L n = 0 → ∀ i, i < n → L.getD i true = true := by
      intro n
      induction n with
      | zero => intro _ i hi; omega
      | succ n ih =>
        intro h i hi
        rw [offN] at h
        by_cases q : i = n
        · subst q
          cases hq : L.getD i true with
          | true => rfl
          | false => rw [hq] at h; simp at h
        · exact ih (by omega) i (by omega)
    have ha := hz ops.size (by omega)
    refine ⟨?_, hend L a w hI ha⟩
    cases hr : Region.ready md ops L with
    | nil => rfl
    | cons i r =>
      exfalso
      have hi : i ∈ Region.ready md ops L := by rw [hr]; exact List.mem_cons_self ..
      rw [mem_ready] at hi
      obtain ⟨h0, o, ho, _⟩ := hi
      have := ha i (Array.getElem?_eq_some_iff.1 ho).1
      rw [this] at h0; cases h0
  | succ fuel ih =>
    intro L a w hf hI
    refine ⟨fun hr => hend L a w hI (hall L rfl hr), fun i hi => ?_⟩
    rw [mem_ready] at hi
    obtain ⟨h0, o, ho, hed⟩ := hi
    have hlt := (Array.getElem?_eq_some_iff.1 ho).1
    have hs := offN_set L i h0 ops.size
    rw [if_pos hlt] at hs
    refine wpOp_mono (fun a' w' hI' => ih _ a' w' (by omega) hI') (hstep L a w i hI hlt h0 (fun o' ho' e he hb => ?_))
    rw [ho] at ho'
    cases ho'
    exact hed e he hb
theorem offN_start (n : Nat) : offN (Array.replicate n false) n ≤ n := by
  have : ∀ (L : Array Bool) m, offN L m ≤ m := by
    intro L m
    induction m with
    | zero => exact Nat.le_refl _
    | succ m ih => rw [offN]; split <;> omega
  exact this _ _
/-- A region that draws its order, by an invariant. -/
theorem wp_region_inv {id : Nat} {a : Act} {w : World} (I : Array Bool → Act → World → Prop) (hm : P.follows .mixedOrders = true) (hac : ∀ (i : Nat) (o : Oper), ops[i]? = some o → ∀ e ∈ o.after, Region.binds .any e = true → e.on < i)
    (h0 : I (Array.replicate ops.size false) a w.drew)
    (hend : ∀ L a w, I L a w → (∀ i, i < ops.size → L.getD i true = true) → Q .normal a w)
    (hstep : ∀ L a w i, I L a w → i < ops.size → L.getD i true = false → (∀ o, ops[i]? = some o → ∀ e ∈ o.after, Region.binds .any e = true → On L e.on) → wpOp P ops Q i (I (L.setIfInBounds i true)) a w) :
    (Code.region id ops true).wp P Q a w :=
  wp_region_any hm (wpAny_inv I hac hend hstep ops.size _ _ _ (offN_start _) h0)
theorem step_value {i : Nat} {o : Oper} {a : Act} {w w' : World} {v : Value} {K : Act → World → Prop} (ho : ops[i]? = some o) (hg : o.guard = none) (hr : (execOp a.eval o).run P w = .ok (.value v) w') (hk : K (a.put o.dst v) w') : wpOp P ops Q i K a w := by
  unfold wpOp
  simp only [ho]
  rw [if_pos (by simp [Region.wanted, hg])]
  left
  unfold Oper.wp
  rw [hr]; exact hk
theorem step_skip {i : Nat} {o : Oper} {a : Act} {w w' : World} {K : Act → World → Prop} (ho : ops[i]? = some o) (hg : o.guard = none) (hr : (execOp a.eval o).run P w = .ok .skip w') (hk : K (a.put o.dst undef) w') : wpOp P ops Q i K a w := by
  unfold wpOp
  simp only [ho]
  rw [if_pos (by simp [Region.wanted, hg])]
  left
  unfold Oper.wp
  rw [hr]; exact hk
theorem step_enter {i : Nat} {o : Oper} {a : Act} {w w' : World} {f : FuncId} {args : Array Value} {K : Act → World → Prop} (ho : ops[i]? = some o) (hg : o.guard = none) (hr : (execOp a.eval o).run P w = .ok (.enter f args) w')
    (hc : Calls P f args w' fun e w'' => ∃ v, e = .returned v ∧ K (a.put o.dst v) w'') : wpOp P ops Q i K a w := by
  unfold wpOp
  simp only [ho]
  rw [if_pos (by simp [Region.wanted, hg])]
  left
  unfold Oper.wp
  rw [hr, Oper.upon_enter]
  refine hc.mono ?_
  rintro e w'' ⟨v, rfl, h⟩
  exact h
end
/-- Every edge points to what stands ahead. -/
def acB (ops : Array Oper) : Bool := (List.range ops.size).all fun i => match ops[i]? with
  | some o => o.after.all fun e => !Region.binds .any e || decide (e.on < i)
  | none => true
theorem ac_of {ops : Array Oper} (h : acB ops = true) : ∀ (i : Nat) (o : Oper), ops[i]? = some o → ∀ e ∈ o.after, Region.binds .any e = true → e.on < i := by
  intro i o ho e he hb
  unfold acB at h
  rw [List.all_eq_true] at h
  have := h i (List.mem_range.2 (Array.getElem?_eq_some_iff.1 ho).1)
  rw [ho] at this
  simp only [Array.all_eq_true_iff_forall_mem] at this
  have := this e he
  rw [hb] at this
  simpa using this
/-- The slots: what has been done has its value, all else is as it was. -/
structure Slots (n : Nat) (D : Nat → Option Nat) (V : Nat → Value) (L : Array Bool) (a0 a : Act) : Prop where
  size : a.tmps.size = a0.tmps.size
  defers : a.defers = a0.defers
  val : ∀ i d, i < n → D i = some d → On L i → a.tmps[d]? = some (V i)
  rest : ∀ s, (∀ i, i < n → D i ≠ some s) → a.tmps[s]? = a0.tmps[s]?
theorem Slots.start (n : Nat) (D : Nat → Option Nat) (V : Nat → Value) (m : Nat) (a : Act) : Slots n D V (Array.replicate m false) a a :=
  ⟨rfl, rfl, (fun i d _ _ h => by
    unfold On at h
    rw [Array.getD_eq_getD_getElem?] at h
    by_cases q : i < m
    · rw [Array.getElem?_eq_getElem (by simpa using q)] at h; simp at h
    · rw [Array.getElem?_eq_none (by simpa using q)] at h; cases h), fun _ _ => rfl⟩
theorem Slots.eval {n : Nat} {D : Nat → Option Nat} {V : Nat → Value} {L : Array Bool} {a0 a : Act} (h : Slots n D V L a0 a) (i d : Nat) (hi : i < n) (hd : D i = some d) (ho : On L i) : a.eval (.tmp d) = V i := by
  show a.tmps.getD d undef = _
  rw [Array.getD_eq_getD_getElem?, h.val i d hi hd ho]; rfl
theorem Slots.ext {n : Nat} {D : Nat → Option Nat} {V : Nat → Value} {L : Array Bool} {a0 a : Act} (h : Slots n D V L a0 a) (s : Nat) (hs : ∀ i, i < n → D i ≠ some s) : a.eval (.tmp s) = a0.eval (.tmp s) := by
  show a.tmps.getD s undef = a0.tmps.getD s undef
  rw [Array.getD_eq_getD_getElem?, Array.getD_eq_getD_getElem?, h.rest s hs]
theorem Slots.put {n : Nat} {D : Nat → Option Nat} {V V' : Nat → Value} {L : Array Bool} {a0 a : Act} (h : Slots n D V L a0 a) (i : Nat) (hi : i < n) (hL : i < L.size) (hinj : ∀ j d, j < n → D i = some d → D j = some d → j = i) (hsz : ∀ d, D i = some d → d < a0.tmps.size)
    (v : Value) (hv : (D i).isSome = true → v = V' i) (hV : ∀ j, j < n → On L j → V j = V' j) : Slots n D V' (L.setIfInBounds i true) a0 (a.put (D i) v) := by
  cases hd : D i with
  | none =>
    refine ⟨h.size, h.defers, fun j d hj hjd ho => ?_, h.rest⟩
    rcases on_set ho with q | q
    · subst q; rw [hd] at hjd; cases hjd
    · rw [← hV j hj q]; exact h.val j d hj hjd q
  | some d =>
    have hv' : v = V' i := hv (by rw [hd]; rfl)
    refine ⟨?_, h.defers, fun j d' hj hjd ho => ?_, fun s hs => ?_⟩
    · show (a.tmps.setIfInBounds d v).size = _
      rw [Array.size_setIfInBounds]; exact h.size
    · show (a.tmps.setIfInBounds d v)[d']? = _
      by_cases q : d = d'
      · subst q
        obtain rfl := hinj j d hj hd hjd
        rw [Array.getElem?_setIfInBounds_self_of_lt (by rw [h.size]; exact hsz d hd), hv']
      · rw [Array.getElem?_setIfInBounds_ne q]
        rcases on_set ho with q2 | q2
        · subst q2; rw [hd] at hjd; cases hjd; exact absurd rfl q
        · rw [← hV j hj q2]; exact h.val j d' hj hjd q2
    · show (a.tmps.setIfInBounds d v)[s]? = _
      rw [Array.getElem?_setIfInBounds_ne (fun e => hs i hi (by rw [hd, e]))]
      exact h.rest s hs
theorem not_on_start (m i : Nat) : ¬ On (Array.replicate m false) i := by
  unfold On
  intro h
  rw [Array.getD_eq_getD_getElem?] at h
  by_cases q : i < m
  · rw [Array.getElem?_eq_getElem (by simpa using q)] at h; simp at h
  · rw [Array.getElem?_eq_none (by simpa using q)] at h; cases h
theorem len_cons {α : Type} {n : Nat} {l : List α} (h : l.length = n + 1) : ∃ x t, l = x :: t ∧ t.length = n := by
  cases l with
  | nil => cases h
  | cons x t => exact ⟨x, t, rfl, by simpa using h⟩
end Go.Proofs.Ythbnahagfojfbaa
