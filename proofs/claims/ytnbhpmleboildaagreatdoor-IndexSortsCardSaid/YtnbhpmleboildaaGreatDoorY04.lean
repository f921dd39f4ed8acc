/- Lists of structs that a call makes by appending: what lies in the row that it owns. No condition. -/
import Derived.Test.YtnbhpmleboildaaGreatDoorY03
import Derived.Test.YtnbhpmleboildaaGreatDoorY01
import Derived.Test.YtnbhpmleboildaaGreatDoorY02
import Derived.Deep.AppendLies

set_option linter.all false
namespace Go.Proofs.YtnbhpmleboildaaGreatDoor
open Go.RowKit

theorem addr_plus (g o j : Nat) : (⟨g, o, none⟩ : Addr).add j = ⟨g, o + j, none⟩ := by unfold Addr.add; split <;> simp_all
/-- A reading of cells that stands where only other blocks change. -/
structure ReadK {α : Type} (R : (Nat → Prop) → World → List Value → α → Prop) : Prop where
  sam : ∀ {S S' : Nat → Prop} {w w' : World} {cs : List Value} {x : α}, R S w cs x → Sam S w w' → (∀ g, g < w.heap.size → S g → S' g) → R S' w' cs x
  one : ∀ {S : Nat → Prop} {w : World} {cs : List Value} {x : α}, R S w cs x → ∀ u ∈ cs, u.oneCell' = true
/-- The row of a call's own that holds the elements xs: their trees lie in blocks of A, and not in the row itself. -/
def OutG {α : Type} (R : (Nat → Prop) → World → List Value → α → Prop) (k : Nat) (A : Nat → Prop) (base : Nat) (e : TypeId) (w : World) (v : Value) (xs : List α) : Prop :=
  ∃ css : List (List Value), css.length = xs.length ∧ (∀ cs ∈ css, cs.length = k) ∧ w.ownsRow base e k v xs.length css.flatten ∧
    ∀ (j : Nat) (cs : List Value) (x : α), css[j]? = some cs → xs[j]? = some x → R (fun g => A g ∧ v.ownBlock ≠ some g) w cs x
section
variable {α : Type} {R : (Nat → Prop) → World → List Value → α → Prop} {k : Nat} {A : Nat → Prop} {base : Nat} {e : TypeId} {w w' : World} {v : Value} {xs : List α}
theorem OutG.nil (R : (Nat → Prop) → World → List Value → α → Prop) (k : Nat) (A : Nat → Prop) (base : Nat) (e : TypeId) (w : World) : OutG R k A base e w (.slice none 0 0) [] :=
  ⟨[], rfl, (fun _ h => by cases h), World.ownsRow_nil _ _ _ _, (fun _ _ _ h => by cases h)⟩
theorem OutG.form (h : OutG R k A base e w v xs) : ∃ a c, v = .slice a xs.length c ∧ xs.length ≤ c ∧ c ≤ maxLen := by
  obtain ⟨css, _, _, ho, _⟩ := h
  obtain ⟨a, c, hv, hc, hm, _⟩ := own_cap ho
  exact ⟨a, c, hv, hc, hm⟩
theorem OutG.blk (h : OutG R k A base e w v xs) (g : Nat) (hg : v.ownBlock = some g) : base ≤ g ∧ g < w.heap.size := by
  obtain ⟨css, _, _, ho, _⟩ := h
  exact ho.lt g hg
theorem OutG.only {T : Nat → Prop} (hR : ReadK R) (h : OutG R k A base e w v xs) (q : Only T w w') (hA : ∀ g, g < w.heap.size → A g → v.ownBlock ≠ some g → ¬ T g) (hv : ∀ g, v.ownBlock = some g → ¬ T g) : OutG R k A base e w' v xs := by
  obtain ⟨css, h1, h2, ho, h4⟩ := h
  exact ⟨css, h1, h2, q.own ho hv, fun j cs x hc hx => hR.sam (h4 j cs x hc hx) (Sam.only q (fun g hg hs => hA g hg hs.1 hs.2)) (fun _ _ h => h)⟩
theorem OutG.kept (hR : ReadK R) (h : OutG R k A base e w v xs) (q : Kept w w') : OutG R k A base e w' v xs := h.only hR (Only.of_kept (S := fun _ => False) q) (fun _ _ _ _ h => h) (fun _ _ h => h)
theorem OutG.mono {A' : Nat → Prop} (hR : ReadK R) (h : OutG R k A base e w v xs) (q : ∀ g, g < w.heap.size → A g → A' g) : OutG R k A' base e w v xs := by
  obtain ⟨css, h1, h2, ho, h4⟩ := h
  exact ⟨css, h1, h2, ho, fun j cs x hc hx => hR.sam (h4 j cs x hc hx) (fun _ _ _ => rfl) (fun g hg hs => ⟨q g hg hs.1, hs.2⟩)⟩
theorem OutG.low {base' : Nat} (h : OutG R k A base e w v xs) (q : base' ≤ base) : OutG R k A base' e w v xs := by
  obtain ⟨css, h1, h2, ho, h4⟩ := h
  exact ⟨css, h1, h2, own_mono ho q, h4⟩
/-- The row as a slice. -/
theorem OutG.row {S : Nat → Prop} (hR : ReadK R) (h : OutG R k A base e w v xs) (hA : ∀ g, g < w.heap.size → A g → S g) (hB : ∀ g, base ≤ g → S g) : RowR S k (R S w) w v xs := by
  obtain ⟨css, h1, h2, ho, h4⟩ := h
  exact RowR.own css h2 h1 ho (fun j cs x hc hx => hR.sam (h4 j cs x hc hx) (fun _ _ _ => rfl) (fun g hg hs => hA g hg hs.1)) (fun g _ hb => hB g hb)
theorem flat_back {k : Nat} (hk : 0 < k) (css : List (List Value)) (hl : ∀ cs ∈ css, cs.length = k) (t : Nat) (u : Value) (h : css.flatten[t]? = some u) : ∃ j i cs, t = j * k + i ∧ css[j]? = some cs ∧ cs[i]? = some u := by
  have ht := (List.getElem?_eq_some_iff.1 h).1
  rw [flat_len css hl] at ht
  have hj : t / k < css.length := by rw [Nat.div_lt_iff_lt_mul hk]; exact ht
  have hc : css[t / k]? = some css[t / k] := List.getElem?_eq_getElem hj
  have hcl := hl _ (List.getElem_mem hj)
  have hi : t % k < css[t / k].length := by rw [hcl]; exact Nat.mod_lt _ hk
  have hu : css[t / k][t % k]? = some css[t / k][t % k] := List.getElem?_eq_getElem hi
  have e := flat_at css hl (t / k) _ hc (t % k) _ hu
  have et : t / k * k + t % k = t := by rw [Nat.mul_comm]; exact Nat.div_add_mod t k
  rw [et, h] at e
  exact ⟨t / k, t % k, _, et.symm, hc, by rw [hu, ← e]⟩
/-- The cells of a slice's elements. -/
theorem RowR.css {S : Nat → Prop} {Q : List Value → α → Prop} {a : Option Addr} {n c : Nat} (hk : 0 < k) (h : RowR S k Q w (.slice a n c) xs) : ∃ css : List (List Value), css.length = xs.length ∧ (∀ cs ∈ css, cs.length = k) ∧ (∀ (j : Nat) (cs : List Value) (x : α), css[j]? = some cs → xs[j]? = some x → Q cs x) ∧
    (0 < xs.length → ∃ g o, a = some ⟨g, o, none⟩ ∧ g < w.heap.size ∧ S g ∧ ∀ t u, css.flatten[t]? = some u → w.cell? ⟨g, o + t, none⟩ = some u) := by
  obtain ⟨a', c', hv, hc, h3⟩ := h
  obtain ⟨rfl, rfl, rfl⟩ := Value.slice.inj hv
  by_cases q : 0 < xs.length
  · obtain ⟨g, o, ha, hg, hS, hcell⟩ := h3 q
    have key : ∀ ys : List α, ∀ d : Nat, (∀ j x, ys[j]? = some x → ∃ cs : List Value, cs.length = k ∧ (∀ i u, cs[i]? = some u → w.cell? ⟨g, o + (d + j) * k + i, none⟩ = some u) ∧ Q cs x) →
        ∃ css : List (List Value), css.length = ys.length ∧ (∀ cs ∈ css, cs.length = k) ∧ (∀ (j : Nat) (cs : List Value) (x : α), css[j]? = some cs → ys[j]? = some x → Q cs x) ∧ ∀ (j : Nat) (cs : List Value), css[j]? = some cs → ∀ i u, cs[i]? = some u → w.cell? ⟨g, o + (d + j) * k + i, none⟩ = some u := by
      intro ys
      induction ys with
      | nil => intro d _; exact ⟨[], rfl, (fun _ h => by cases h), (fun _ _ _ h => by cases h), (fun _ _ h => by cases h)⟩
      | cons y ys ih =>
        intro d hy
        obtain ⟨cs0, l0, c0, r0⟩ := hy 0 y rfl
        obtain ⟨css, e1, e2, e3, e4⟩ := ih (d + 1) (fun j x hx => by
          have := hy (j + 1) x (by simpa using hx)
          rw [show d + (j + 1) = d + 1 + j by omega] at this
          exact this)
        refine ⟨cs0 :: css, by simp [e1], ?_, ?_, ?_⟩
        · intro cs hcs
          rcases List.mem_cons.1 hcs with rfl | hcs
          · exact l0
          · exact e2 cs hcs
        · intro j cs x hc hx
          cases j with
          | zero => cases hc; cases hx; exact r0
          | succ j => exact e3 j cs x (by simpa using hc) (by simpa using hx)
        · intro j cs hc i u hu
          cases j with
          | zero => cases hc; exact c0 i u hu
          | succ j =>
            have := e4 j cs (by simpa using hc) i u hu
            rw [show d + (j + 1) = d + 1 + j by omega]
            exact this
    obtain ⟨css, e1, e2, e3, e4⟩ := key xs 0 (fun j x hx => by rw [Nat.zero_add]; exact hcell j x hx)
    refine ⟨css, e1, e2, e3, fun _ => ⟨g, o, ha, hg, hS, fun t u ht => ?_⟩⟩
    obtain ⟨j, i, cs, rfl, hcj, hi⟩ := flat_back hk css e2 t u ht
    have := e4 j cs hcj i u hi
    rw [Nat.zero_add] at this
    rw [← Nat.add_assoc]; exact this
  · obtain rfl : xs = [] := List.length_eq_zero_iff.1 (by omega)
    exact ⟨[], rfl, (fun _ h => by cases h), (fun _ _ _ h => by cases h), (fun h => absurd h (by simp))⟩
theorem css_one {S : Nat → Prop} (hR : ReadK R) (css : List (List Value)) (hl : css.length = xs.length) (h : ∀ (j : Nat) (cs : List Value) (x : α), css[j]? = some cs → xs[j]? = some x → R S w cs x) : ∀ u ∈ css.flatten, u.oneCell' = true := by
  intro u hu
  obtain ⟨cs, hcs, hu⟩ := List.mem_flatten.1 hu
  obtain ⟨j, hj, rfl⟩ := List.getElem_of_mem hcs
  exact hR.one (h j _ _ (List.getElem?_eq_getElem hj) (List.getElem?_eq_getElem (by omega))) u hu
/-- What an append of elements to an own row leaves. -/
theorem OutG.app {ys : List α} {css css2 : List (List Value)} {g cap : Nat} (hR : ReadK R) (h1 : css.length = xs.length) (h2 : ∀ cs ∈ css, cs.length = k) (h4 : ∀ (j : Nat) (cs : List Value) (x : α), css[j]? = some cs → xs[j]? = some x → R (fun g => A g ∧ v.ownBlock ≠ some g) w cs x)
    (k1 : css2.length = ys.length) (k2 : ∀ cs ∈ css2, cs.length = k) (k4 : ∀ (j : Nat) (cs : List Value) (x : α), css2[j]? = some cs → ys[j]? = some x → R (fun g => A g ∧ v.ownBlock ≠ some g) w cs x)
    (ho : w'.ownsRow base e k (.slice (some ⟨g, 0, none⟩) (xs.length + ys.length) cap) (xs.length + ys.length) (css.flatten ++ css2.flatten)) (hg : w.grownBy w' v.ownBlock) (hat : v.ownBlock = some g ∨ g = w.heap.size) : OutG R k A base e w' (.slice (some ⟨g, 0, none⟩) (xs.length + ys.length) cap) (xs ++ ys) := by
  have hst : ∀ cs x, R (fun g => A g ∧ v.ownBlock ≠ some g) w cs x → R (fun g' => A g' ∧ (Value.slice (some ⟨g, 0, none⟩) (xs.length + ys.length) cap).ownBlock ≠ some g') w' cs x := fun cs x hx =>
    hR.sam hx (Sam.only (Only.grown hg) (fun g' _ hs q => hs.2 q.symm)) (fun g' hlt hs => ⟨hs.1, fun q => by
      have e1 : g = g' := by simpa [Value.ownBlock] using q
      rcases hat with q2 | q2
      · exact hs.2 (by rw [q2, e1])
      · omega⟩)
  refine ⟨css ++ css2, by simp [h1, k1], fun cs hcs => (List.mem_append.1 hcs).elim (h2 cs) (k2 cs), ?_, fun j cs x hc hx => ?_⟩
  · rw [List.flatten_append, List.length_append]; exact ho
  · rcases Nat.lt_or_ge j xs.length with q | q
    · rw [List.getElem?_append_left (by omega)] at hc hx
      exact hst cs x (h4 j cs x hc hx)
    · rw [List.getElem?_append_right (by omega)] at hc hx
      rw [h1] at hc
      exact hst cs x (k4 _ cs x hc hx)
/-- An element is appended: at a plain region's list. -/
theorem wpList_append_out {P : Program} (hR : ReadK R) {ops : Array Oper} {rest : List Oper} {o : Oper} {a : Act} {Q : Exit → Act → World → Prop} (hgd : o.guard = none) (s x : Operand) (t : TypeId)
    (ho : o.op = .call { callee := .builtin .append, args := #[s, x], argTypes := #[t, t] })
    (i : TypeInfo) (z : Value) (bytes : Nat) (ht : P.underlying t = some (.slice e)) (hi : P.info? e = some i) (hz : i.zero = some z) (hsize : i.size = k) (hby : i.bytes = bytes) (hzs : z.cells.size = k) (hsz : 0 < k)
    (hs : a.eval s = v) (hown : OutG R k A base e w v xs) (g0 : Nat) (cs : List Value) (y : α) (hx : a.eval x = .slice (some ⟨g0, 0, none⟩) 1 1) (hb : ∀ j u, cs[j]? = some u → w.cell? ⟨g0, j, none⟩ = some u) (hcl : cs.length = k)
    (hy : R (fun g => A g ∧ v.ownBlock ≠ some g) w cs y) (h63 : xs.length + 1 ≤ maxLen) (hbytes : (xs.length + 1) * bytes ≤ 140737488355328) (hbase : base ≤ w.heap.size) (H : Nat) (hH : w.heap.size = H)
    (h : ∀ g cap w', OutG R k A base e w' (.slice (some ⟨g, 0, none⟩) (xs.length + 1) cap) (xs ++ [y]) → w.grownBy w' v.ownBlock → (v.ownBlock = some g ∨ g = H) → g < w'.heap.size → wpList P ops Q rest (a.put o.dst (.slice (some ⟨g, 0, none⟩) (xs.length + 1) cap)) w') : wpList P ops Q (o :: rest) a w := by
  obtain ⟨css, h1, h2, ho2, h4⟩ := hown
  refine wpList_append_lies w hgd s x t ho base e i z k bytes ht hi hz hsize hby hzs hsz v xs.length css.flatten hs ho2 ⟨g0, 0, none⟩ 1 1 cs hx (by rw [hcl, Nat.one_mul]) (fun j u hu => by rw [addr_plus, Nat.zero_add]; exact hb j u hu) (hR.one hy) (by omega) h63 hbytes hbase H hH ?_
  intro g cap w' q1 q2 q3 q4
  refine h g cap w' ?_ q2 q3 q4
  subst hH
  exact OutG.app (ys := [y]) (css2 := [cs]) hR h1 h2 h4 rfl (fun c hc => by simp at hc; subst hc; exact hcl) (fun j c u hc hu => by
    cases j with
    | zero => cases hc; cases hu; exact hy
    | succ j => simp at hc) (by simpa using q1) q2 q3
end
theorem InlW.one {S : Nat → Prop} {L : World → Value → List Inl → Prop} (hL : ∀ w v xs, L w v xs → v.oneCell' = true) {w : World} {cs : List Value} {x : Inl} (h : InlW S L w cs x) : ∀ u ∈ cs, u.oneCell' = true := by
  obtain ⟨vC, vP, vA, vT, vK, rfl, ⟨⟨_, _, rfl, _⟩, _⟩, ⟨⟨_, _, rfl, _⟩, _⟩, ⟨⟨_, _, rfl, _⟩, _⟩, ⟨_, _, rfl, _⟩, kk⟩ := h
  have := hL _ _ _ kk
  intro u hu
  unfold inlC at hu
  simp only [List.mem_cons, List.not_mem_nil, or_false] at hu
  rcases hu with rfl | rfl | rfl | rfl | rfl | rfl | rfl | rfl | rfl | rfl <;> first | rfl | exact this
theorem Lns.one {S : Nat → Prop} {n : Nat} {w : World} {v : Value} {xs : List Inl} (h : Lns S n w v xs) : v.oneCell' = true := by
  obtain ⟨a, c, rfl, _⟩ := h.form; rfl
theorem Bls.one {S : Nat → Prop} {m n : Nat} {w : World} {v : Value} {xs : List Blo} (h : Bls S m n w v xs) : v.oneCell' = true := by
  obtain ⟨a, c, rfl, _⟩ := h.form; rfl
theorem BloW.one {S : Nat → Prop} {m : Nat} {L : World → Value → List Blo → Prop} (hL : ∀ w v xs, L w v xs → v.oneCell' = true) {w : World} {cs : List Value} {x : Blo} (h : BloW S m L w cs x) : ∀ u ∈ cs, u.oneCell' = true := by
  obtain ⟨vC, vP, vL, vK, rfl, ⟨⟨_, _, rfl, _⟩, _⟩, ⟨⟨_, _, rfl, _⟩, _⟩, l, kk⟩ := h
  have h1 := l.one
  have h2 := hL _ _ _ kk
  intro u hu
  unfold bloC at hu
  simp only [List.mem_cons, List.not_mem_nil, or_false] at hu
  rcases hu with rfl | rfl | rfl | rfl | rfl | rfl | rfl | rfl | rfl | rfl | rfl <;> first | rfl | exact h1 | exact h2
/-- How inlines are read. -/
def InlK (n : Nat) (S : Nat → Prop) (w : World) : List Value → Inl → Prop := InlW S (Lns S n) w
def BloK (m n : Nat) (S : Nat → Prop) (w : World) : List Value → Blo → Prop := BloW S m (Bls S m n) w
theorem inlK (n : Nat) : ReadK (InlK n) := ⟨fun h k hS => InlW.sam h k hS (fun _ h => Lns.sam h k hS), fun h => InlW.one (fun _ _ _ h => Lns.one h) h⟩
theorem bloK (m n : Nat) : ReadK (BloK m n) := ⟨fun h k hS => BloW.sam h k hS (fun _ h => Bls.sam h k hS), fun h => BloW.one (fun _ _ _ h => Bls.one h) h⟩
/-- A text in one cell. -/
def StrK (S : Nat → Prop) (w : World) (cs : List Value) (x : Bs) : Prop := cs = [.string (bs x)]
theorem strK : ReadK StrK := ⟨fun h _ _ => h, fun h u hu => by rw [h] at hu; simp at hu; subst hu; rfl⟩
end Go.Proofs.YtnbhpmleboildaaGreatDoor

/- Definitions and uses of glossaries, in plain Lean. No condition. -/
set_option linter.all false
namespace Go.Proofs.YtnbhpmleboildaaGreatDoor
open Go.RowKit

def kName : Bs := [110, 97, 109, 101]
def kTerm : Bs := [116, 101, 114, 109]
def kGlos : Bs := [103, 108, 111, 115, 115, 97, 114, 121]
/-- The value of the first pair with a key. -/
def getP (ps : List Pr) (k : Bs) : Option Bs := (ps.find? fun q => q.1 == k).map (·.2)
mutual
/-- The plain text of an inline. -/
def plain1 : Inl → Bs
  | .mk kind text dest _ _ _ _ _ _ kids =>
    if kind = 1 ∨ kind = 4 ∨ kind = 5 then text else if kind = 2 ∨ kind = 3 then [32] else if 6 ≤ kind ∧ kind ≤ 11 then plainL kids else if kind = 16 then dest else []
/-- The plain text of inlines. -/
def plainL : List Inl → Bs
  | [] => []
  | x :: xs => plain1 x ++ plainL xs
end
def isUse (x : Inl) : Bool := decide (x.kind = 11) && x.cls.contains kTerm
def isGl (b : Blo) : Bool := decide (b.kind = 13) && b.info == kGlos
def isTm (b : Blo) : Bool := decide (b.kind = 13) && b.info == kTerm
def defName (b : Blo) : Bs := (getP b.prs kName).getD []
mutual
/-- Inlines, and those in them. -/
def deep1 : Inl → List Inl
  | .mk kind text dest title id cls prs args cits kids => .mk kind text dest title id cls prs args cits kids :: deepL kids
def deepL : List Inl → List Inl
  | [] => []
  | x :: xs => deep1 x ++ deepL xs
end
mutual
/-- The inlines of a block, and of those in it. -/
def inls1 : Blo → List Inl
  | .mk _ _ _ _ _ _ _ _ _ line kids => deepL line ++ inlsL kids
def inlsL : List Blo → List Inl
  | [] => []
  | x :: xs => inls1 x ++ inlsL xs
end
mutual
/-- The definitions in a block. -/
def defs1 : Bool → Blo → List Blo
  | inside, .mk kind level info text dest title id cls prs line kids =>
    (if (inside && isTm (.mk kind level info text dest title id cls prs line kids)) = true then [.mk kind level info text dest title id cls prs line kids] else []) ++ defsL (isGl (.mk kind level info text dest title id cls prs line kids)) kids
def defsL : Bool → List Blo → List Blo
  | _, [] => []
  | inside, x :: xs => defs1 inside x ++ defsL inside xs
end
theorem deep1_eq (x : Inl) : deep1 x = x :: deepL x.kids := by cases x; rfl
theorem inls1_eq (b : Blo) : inls1 b = deepL b.line ++ inlsL b.kids := by cases b; rfl
theorem deepL_app (xs ys : List Inl) : deepL (xs ++ ys) = deepL xs ++ deepL ys := by
  induction xs with
  | nil => rfl
  | cons x xs ih => show deep1 x ++ deepL (xs ++ ys) = _; rw [ih]; show _ = (deep1 x ++ deepL xs) ++ _; rw [List.append_assoc]
theorem plainL_app (xs ys : List Inl) : plainL (xs ++ ys) = plainL xs ++ plainL ys := by
  induction xs with
  | nil => rfl
  | cons x xs ih => show plain1 x ++ plainL (xs ++ ys) = _; rw [ih]; show _ = (plain1 x ++ plainL xs) ++ _; rw [List.append_assoc]
theorem inlsL_app (xs ys : List Blo) : inlsL (xs ++ ys) = inlsL xs ++ inlsL ys := by
  induction xs with
  | nil => rfl
  | cons x xs ih => show inls1 x ++ inlsL (xs ++ ys) = _; rw [ih]; show _ = (inls1 x ++ inlsL xs) ++ _; rw [List.append_assoc]
theorem take_snoc {α : Type} {xs : List α} {k : Nat} {x : α} (h : xs[k]? = some x) : xs.take (k + 1) = xs.take k ++ [x] := by
  obtain ⟨hk, rfl⟩ := List.getElem?_eq_some_iff.1 h
  exact List.take_succ_eq_append_getElem hk
end Go.Proofs.YtnbhpmleboildaaGreatDoor

/- Maps in memory whose keys are whole numbers: look-up, a key that is new, a key that is put again. No condition. -/
set_option linter.all false
namespace Go.Proofs.YtnbhpmleboildaaGreatDoor
open Go.RowKit

def entV (e : Int × Value) (i : Nat) : MapEntry := { key := .int .i64 e.1, val := e.2, born := i }
def entsV (es : List (Int × Value)) : Array MapEntry := (es.mapIdx fun i e => entV e i).toArray
/-- Block m is the map of the entries es. -/
def MapV (w : World) (m : Nat) (es : List (Int × Value)) : Prop := w.heap[m]? = some (.map (entsV es) es.length)
/-- The world with other entries in block m. -/
def putV (w : World) (m : Nat) (es : List (Int × Value)) : World := { w with heap := w.heap.setIfInBounds m (.map (entsV es) es.length) }
def getV (es : List (Int × Value)) (k : Int) : Option Value := (es.find? fun e => e.1 == k).map (·.2)
theorem MapV.lt {w : World} {m : Nat} {es : List (Int × Value)} (h : MapV w m es) : m < w.heap.size := by
  rcases Nat.lt_or_ge m w.heap.size with q | q
  · exact q
  · unfold MapV at h; rw [Array.getElem?_eq_none q] at h; cases h
theorem MapV.only {S : Nat → Prop} {w w' : World} {m : Nat} {es : List (Int × Value)} (h : MapV w m es) (k : Only S w w') (hs : ¬ S m) : MapV w' m es := by
  unfold MapV at h ⊢; rw [k.block m (MapV.lt h) hs]; exact h
theorem MapV.kept {w w' : World} {m : Nat} {es : List (Int × Value)} (h : MapV w m es) (k : Kept w w') : MapV w' m es := h.only (Only.of_kept (S := fun _ => False) k) (fun q => q)
theorem MapV.made (w : World) : MapV (w.alloc (.map #[] 0)) w.heap.size [] := heap_alloc_new w _
theorem putV_map (w : World) (m : Nat) (es : List (Int × Value)) (hm : m < w.heap.size) : MapV (putV w m es) m es := by
  unfold MapV putV; simp [hm]
theorem putV_only (w : World) (m : Nat) (es : List (Int × Value)) : Only (fun i => i = m) w (putV w m es) :=
  ⟨rfl, rfl, rfl, by simp [putV], fun k hk hs => by simp [putV, Array.getElem?_setIfInBounds, Ne.symm hs]⟩
theorem entsV_snoc (es : List (Int × Value)) (e : Int × Value) : entsV (es ++ [e]) = (entsV es).push (entV e es.length) := by
  unfold entsV; rw [List.mapIdx_append]; simp
theorem entsV_list (es : List (Int × Value)) : (entsV es).toList = es.mapIdx fun i e => entV e (i + 0) := by simp [entsV]
theorem getV_cons (e : Int × Value) (es : List (Int × Value)) (k : Int) : getV (e :: es) k = if e.1 = k then some e.2 else getV es k := by
  unfold getV
  rw [List.find?_cons]
  by_cases h : e.1 = k
  · rw [if_pos h]; simp [h]
  · rw [if_neg h]
    have : (e.1 == k) = false := by simpa using h
    rw [this]
theorem findV {kd : IntKind} (k : Int) : ∀ (l : List (Int × Value)) (i j : Nat),
    (getV l k = none ∧ Instr.findNow (.int kd) (.int .i64 k) (l.mapIdx fun i' e => entV e (i' + i)) j = some none) ∨
    (∃ (n : Nat) (v : Value), getV l k = some v ∧ l[n]? = some (k, v) ∧ Instr.findNow (.int kd) (.int .i64 k) (l.mapIdx fun i' e => entV e (i' + i)) j = some (some (n + j, v)))
  | [], _, _ => .inl ⟨rfl, rfl⟩
  | e :: l, i, j => by
    rw [List.mapIdx_cons, getV_cons]
    unfold Instr.findNow
    by_cases h : e.1 = k
    · right
      refine ⟨0, e.2, by rw [if_pos h], by rw [← h]; rfl, ?_⟩
      simp [entV, Instr.sameNow, h]
    · have hx : (k == e.1) = false := by rw [beq_eq_false_iff_ne]; exact fun q => h q.symm
      have hm : (l.mapIdx fun i' x => entV x (i' + 1 + i)) = l.mapIdx fun i' x => entV x (i' + (i + 1)) := by
        congr 1; funext a b; congr 1; omega
      rw [if_neg h]
      simp only [entV, Instr.sameNow, hx, if_true] at hm ⊢
      rcases findV (kd := kd) k l (i + 1) (j + 1) with ⟨g1, g2⟩ | ⟨n, v, g1, g2, g3⟩
      · left
        simp only [entV] at g2
        rw [hm]
        exact ⟨g1, g2⟩
      · right
        simp only [entV] at g3
        rw [hm]
        exact ⟨n + 1, v, g1, by simpa using g2, by rw [g3]; congr 3; omega⟩
section
variable {P : Program} {tm ti te : TypeId}
theorem check_int (hi : P.underlying ti = some (.int .i64)) (e : Bool) (k : Int) (w : World) : (Instr.checkKey e 10000 ti (.int .i64 k)).run P w = .ok () w := by
  unfold Instr.checkKey
  simp only [Sem.run_bind, run_underlying hi, Result.andThen]
  rfl
theorem runV (hi : P.underlying ti = some (.int .i64)) (w : World) (es : List (Int × Value)) (k : Int) :
    (getV es k = none ∧ (Instr.findKey ti (.int .i64 k) (entsV es).toList).run P w = .ok none w) ∨
    (∃ n v, getV es k = some v ∧ es[n]? = some (k, v) ∧ (Instr.findKey ti (.int .i64 k) (entsV es).toList).run P w = .ok (some (n, v)) w) := by
  rcases findV (kd := .i64) k es 0 0 with ⟨g1, g2⟩ | ⟨n, v, g1, g2, g3⟩
  · left
    refine ⟨g1, ?_⟩
    unfold Instr.findKey
    simp only [Sem.run_bind, run_underlying hi, Result.andThen, entsV_list, g2]
    simp [Sem.run_pure]
  · right
    refine ⟨n, v, g1, g2, ?_⟩
    unfold Instr.findKey
    simp only [Sem.run_bind, run_underlying hi, Result.andThen, entsV_list, g3]
    simp [Sem.run_pure]
/-- A look-up; z is what the map gives for a key that it has not. -/
theorem lookV (hm : P.underlying tm = some (.map ti te)) (hi : P.underlying ti = some (.int .i64)) (w : World) (m : Nat) (es : List (Int × Value)) (k : Int) (z : Value) (hz : (zeroValue te).run P w = .ok z w) (h : MapV w m es) :
    (Instr.lookup tm (.map (some m)) (.int .i64 k) false).run P w = .ok ((getV es k).getD z) w := by
  unfold MapV at h
  unfold Instr.lookup
  simp only [Sem.run_bind, run_underlying hm, Result.andThen]
  rcases runV hi w es k with ⟨g1, g2⟩ | ⟨n, v, g1, _, g3⟩
  · simp only [getObj, Sem.run_bind, Sem.run, h, Result.andThen, Sem.run_pure, check_int hi, g2, g1, hz]
    simp [Sem.run_pure]
  · simp only [getObj, Sem.run_bind, Sem.run, h, Result.andThen, Sem.run_pure, check_int hi, g3, g1]
    simp [Sem.run_pure]
theorem lookV_ok (hm : P.underlying tm = some (.map ti te)) (hi : P.underlying ti = some (.int .i64)) (w : World) (m : Nat) (es : List (Int × Value)) (k : Int) (z : Value) (hz : (zeroValue te).run P w = .ok z w) (h : MapV w m es) :
    (Instr.lookup tm (.map (some m)) (.int .i64 k) true).run P w = .ok (.tuple #[(getV es k).getD z, .bool (getV es k).isSome]) w := by
  unfold MapV at h
  unfold Instr.lookup
  simp only [Sem.run_bind, run_underlying hm, Result.andThen]
  rcases runV hi w es k with ⟨g1, g2⟩ | ⟨n, v, g1, _, g3⟩
  · simp only [getObj, Sem.run_bind, Sem.run, h, Result.andThen, Sem.run_pure, check_int hi, g2, g1, hz]
    simp [Sem.run_pure]
  · simp only [getObj, Sem.run_bind, Sem.run, h, Result.andThen, Sem.run_pure, check_int hi, g3, g1]
    simp [Sem.run_pure]
theorem insV (hm : P.underlying tm = some (.map ti te)) (hi : P.underlying ti = some (.int .i64)) (w : World) (m : Nat) (es : List (Int × Value)) (k : Int) (v : Value) (h : MapV w m es) (hk : getV es k = none) :
    (Instr.mapUpdate tm (.map (some m)) (.int .i64 k) v).run P w = .ok () (putV w m (es ++ [(k, v)])) := by
  unfold MapV at h
  unfold Instr.mapUpdate
  simp only [Sem.run_bind, run_underlying hm, Result.andThen]
  rcases runV hi w es k with ⟨g1, g2⟩ | ⟨n, v', g1, _, _⟩
  · simp only [getObj, Sem.run_bind, Sem.run, h, Result.andThen, Sem.run_pure, check_int hi, g2, setObj]
    refine congrArg (Result.ok ()) ?_
    unfold putV
    rw [entsV_snoc]
    simp [entV]
  · rw [hk] at g1; cases g1
theorem same_int (k : Int) (w : World) : (Instr.keyThatStays (.int .i64 k) (.int .i64 k)).run P w = .ok (.int .i64 k) w := by
  unfold Instr.keyThatStays
  have e : Instr.sameBits 10000 (.int .i64 k) (.int .i64 k) = true := by
    unfold Instr.sameBits; simp
  rw [e]; rfl
theorem entsV_same (es : List (Int × Value)) (n : Nat) (k : Int) (v : Value) (h : es[n]? = some (k, v)) : ((entsV es).modify n fun e => { e with key := .int .i64 k, val := v }) = entsV es := by
  apply Array.ext_getElem?
  intro i
  rw [Array.getElem?_modify]
  by_cases q : n = i
  · subst q
    rw [if_pos rfl]
    unfold entsV
    simp [h, entV]
  · rw [if_neg q]
theorem entsV_key (es : List (Int × Value)) (n : Nat) (k : Int) (v : Value) (h : es[n]? = some (k, v)) : (entsV es)[n]? = some (entV (k, v) n) := by
  unfold entsV
  simp [h]
/-- A key is put again with what it had. -/
theorem againV (hm : P.underlying tm = some (.map ti te)) (hi : P.underlying ti = some (.int .i64)) (w : World) (m : Nat) (es : List (Int × Value)) (k : Int) (v : Value) (h : MapV w m es) (hk : getV es k = some v) :
    (Instr.mapUpdate tm (.map (some m)) (.int .i64 k) v).run P w = .ok () (putV w m es) := by
  unfold MapV at h
  unfold Instr.mapUpdate
  simp only [Sem.run_bind, run_underlying hm, Result.andThen]
  rcases runV hi w es k with ⟨g1, _⟩ | ⟨n, v', g1, g2, g3⟩
  · rw [hk] at g1; cases g1
  · rw [hk] at g1
    cases g1
    have e1 := entsV_key es n k v g2
    simp only [getObj, Sem.run_bind, Sem.run, h, Result.andThen, Sem.run_pure, check_int hi, g3, setObj, e1, Option.map_some, Option.getD_some, entV, same_int]
    refine congrArg (Result.ok ()) ?_
    unfold putV
    have e2 := entsV_same es n k v g2
    first | rw [e2] | (trace_state; rfl)
end
end Go.Proofs.YtnbhpmleboildaaGreatDoor

/- The plain law of one code point of a text: what the reference's ranges say is what the model's decoder says. No condition but that the place exists. -/
set_option linter.all false
namespace Go.Proofs.YtnbhpmleboildaaGreatDoor
open Go.RowKit

def moreOf (s : ByteArray) (i : Nat) (low high : Int) : Int := if s.size ≤ i ∨ byteAt s i < low ∨ high < byteAt s i then -1 else byteAt s i - 128
def low3 (b : Int) : Int := if b = 224 then 160 else 128
def high3 (b : Int) : Int := if b = 237 then 159 else 191
def low4 (b : Int) : Int := if b = 240 then 144 else 128
def high4 (b : Int) : Int := if b = 244 then 143 else 191
def three (s : ByteArray) (i : Nat) : Int × Int :=
  if moreOf s (i + 1) (low3 (byteAt s i)) (high3 (byteAt s i)) < 0 ∨ moreOf s (i + 2) 128 191 < 0 then (65533, 1)
  else ((byteAt s i - 224) * 4096 + moreOf s (i + 1) (low3 (byteAt s i)) (high3 (byteAt s i)) * 64 + moreOf s (i + 2) 128 191, 3)
def four (s : ByteArray) (i : Nat) : Int × Int :=
  if moreOf s (i + 1) (low4 (byteAt s i)) (high4 (byteAt s i)) < 0 ∨ moreOf s (i + 2) 128 191 < 0 ∨ moreOf s (i + 3) 128 191 < 0 then (65533, 1)
  else ((byteAt s i - 240) * 262144 + moreOf s (i + 1) (low4 (byteAt s i)) (high4 (byteAt s i)) * 4096 + moreOf s (i + 2) 128 191 * 64 + moreOf s (i + 3) 128 191, 4)
def dec (s : ByteArray) (i : Nat) : Int × Int :=
  if byteAt s i < 128 then (byteAt s i, 1)
  else if 194 ≤ byteAt s i ∧ byteAt s i ≤ 223 then
    if 0 ≤ moreOf s (i + 1) 128 191 then ((byteAt s i - 192) * 64 + moreOf s (i + 1) 128 191, 2) else (65533, 1)
  else if 224 ≤ byteAt s i ∧ byteAt s i ≤ 239 then three s i
  else if 240 ≤ byteAt s i ∧ byteAt s i ≤ 244 then four s i
  else (65533, 1)

theorem npair {a b c d : Nat} (h : a = c) (k : b = d) : (a, b) = (c, d) := by rw [h, k]
theorem pair_ext {a b c d : Int} (h : a = c) (k : b = d) : (a, b) = (c, d) := by rw [h, k]
theorem more_yes {s : ByteArray} {i : Nat} {l h : Int} (hh : 0 ≤ moreOf s i l h) : i < s.size ∧ l ≤ byteAt s i ∧ byteAt s i ≤ h ∧ moreOf s i l h = byteAt s i - 128 := by
  unfold moreOf at hh ⊢; split at hh
  · omega
  · rw [if_neg (by assumption)]; omega

/-- The decoder over plain numbers: the four bytes, and which of the places exist. -/
def decN (b0 b1 b2 b3 : Nat) (e1 e2 e3 : Bool) : Nat × Nat :=
  let cont (e : Bool) (b : Nat) : Bool := e && b / 64 == 2
  if b0 < 0x80 then (b0, 1)
  else if b0 / 32 == 6 && cont e1 b1 then
    let c := (b0 % 32) * 64 + b1 % 64
    if c ≥ 0x80 then (c, 2) else (Utf8.runeError, 1)
  else if b0 / 16 == 14 && cont e1 b1 && cont e2 b2 then
    let c := (b0 % 16) * 4096 + (b1 % 64) * 64 + b2 % 64
    if c ≥ 0x800 && Utf8.valid c then (c, 3) else (Utf8.runeError, 1)
  else if b0 / 8 == 30 && cont e1 b1 && cont e2 b2 && cont e3 b3 then
    let c := (b0 % 8) * 262144 + (b1 % 64) * 4096 + (b2 % 64) * 64 + b3 % 64
    if c ≥ 0x10000 && Utf8.valid c then (c, 4) else (Utf8.runeError, 1)
  else (Utf8.runeError, 1)
theorem decode_decN (s : ByteArray) (i : Nat) : Utf8.decode s i = decN (s.get! i).toNat (s.get! (i + 1)).toNat (s.get! (i + 2)).toNat (s.get! (i + 3)).toNat (decide (i + 1 < s.size)) (decide (i + 2 < s.size)) (decide (i + 3 < s.size)) := rfl
set_option maxRecDepth 100000 in
theorem decN_two (b0 b1 b2 b3 : Nat) (e1 e2 e3 : Bool) (h : 128 ≤ b0 ∧ b0 < 224) :
    decN b0 b1 b2 b3 e1 e2 e3 = if 194 ≤ b0 ∧ e1 = true ∧ 128 ≤ b1 ∧ b1 < 192 then ((b0 - 192) * 64 + (b1 - 128), 2) else (65533, 1) := by
  unfold decN
  rw [if_neg (by omega)]
  have h3 : (b0 / 16 == 14) = false := by simp; omega
  have h4 : (b0 / 8 == 30) = false := by simp; omega
  simp only [h3, h4, Bool.false_and, Bool.false_eq_true, if_false, Utf8.runeError]
  cases e1 <;> simp
  · by_cases k : b0 / 32 = 6 ∧ b1 / 64 = 2
    · rw [if_pos k]
      by_cases q : 194 ≤ b0
      · rw [if_pos (by omega), if_pos (by omega)]; apply npair <;> omega
      · rw [if_neg (by omega), if_neg (by omega)]
    · rw [if_neg k, if_neg (by omega)]
theorem valid_nat (c : Nat) : Utf8.valid (c : Int) = decide (c < 55296 ∨ (57344 ≤ c ∧ c ≤ 1114111)) := by
  unfold Utf8.valid
  rw [Bool.eq_iff_iff]
  simp only [Bool.or_eq_true, Bool.and_eq_true, decide_eq_true_eq]
  omega
set_option maxRecDepth 100000 in
theorem decN_three (b0 b1 b2 b3 : Nat) (e1 e2 e3 : Bool) (h : 224 ≤ b0 ∧ b0 < 240) :
    decN b0 b1 b2 b3 e1 e2 e3 = if e1 = true ∧ e2 = true ∧ (b0 = 224 → 160 ≤ b1) ∧ 128 ≤ b1 ∧ (b0 = 237 → b1 ≤ 159) ∧ b1 ≤ 191 ∧ 128 ≤ b2 ∧ b2 < 192 then ((b0 - 224) * 4096 + (b1 - 128) * 64 + (b2 - 128), 3) else (65533, 1) := by
  unfold decN
  rw [if_neg (by omega)]
  have h2 : (b0 / 32 == 6) = false := by simp; omega
  have h4 : (b0 / 8 == 30) = false := by simp; omega
  have h3 : b0 / 16 = 14 := by omega
  simp only [h2, h4, h3, Bool.false_and, Bool.false_eq_true, if_false, Utf8.runeError, valid_nat]
  cases e1 <;> cases e2 <;> simp
  by_cases k : b1 / 64 = 2 ∧ b2 / 64 = 2
  · rw [if_pos k]
    split <;> split <;> first | (exfalso; omega) | (apply npair <;> omega)
  · rw [if_neg k, if_neg (by omega)]
set_option maxRecDepth 100000 in
theorem decN_four (b0 b1 b2 b3 : Nat) (e1 e2 e3 : Bool) (h : 240 ≤ b0 ∧ b0 < 256) :
    decN b0 b1 b2 b3 e1 e2 e3 = if b0 ≤ 244 ∧ e1 = true ∧ e2 = true ∧ e3 = true ∧ (b0 = 240 → 144 ≤ b1) ∧ 128 ≤ b1 ∧ (b0 = 244 → b1 ≤ 143) ∧ b1 ≤ 191 ∧ 128 ≤ b2 ∧ b2 < 192 ∧ 128 ≤ b3 ∧ b3 < 192 then ((b0 - 240) * 262144 + (b1 - 128) * 4096 + (b2 - 128) * 64 + (b3 - 128), 4) else (65533, 1) := by
  unfold decN
  rw [if_neg (by omega)]
  have h2 : (b0 / 32 == 6) = false := by simp; omega
  have h3 : (b0 / 16 == 14) = false := by simp; omega
  simp only [h2, h3, Bool.false_and, Bool.false_eq_true, if_false, Utf8.runeError, valid_nat]
  cases e1 <;> cases e2 <;> cases e3 <;> simp
  by_cases k : b0 / 8 = 30 ∧ b1 / 64 = 2 ∧ b2 / 64 = 2 ∧ b3 / 64 = 2
  · rw [if_pos (by simpa [and_assoc] using k)]
    split <;> split <;> first | (exfalso; omega) | (apply npair <;> omega)
  · rw [if_neg (by simpa [and_assoc] using k), if_neg (by omega)]

set_option maxRecDepth 100000 in
theorem dec_eq (s : ByteArray) (i : Nat) : dec s i = (((Utf8.decode s i).1 : Int), ((Utf8.decode s i).2 : Int)) := by
  rw [decode_decN]
  have e0 := byteAt_get s i
  have e1 := byteAt_get s (i + 1)
  have e2 := byteAt_get s (i + 2)
  have e3 := byteAt_get s (i + 3)
  have u0 : (s.get! i).toNat < 256 := (s.get! i).toNat_lt
  generalize (s.get! i).toNat = b0 at *
  generalize (s.get! (i + 1)).toNat = b1 at *
  generalize (s.get! (i + 2)).toNat = b2 at *
  generalize (s.get! (i + 3)).toNat = b3 at *
  unfold dec
  rw [e0]
  by_cases k1 : b0 < 128
  · rw [if_pos (by omega)]; unfold decN; rw [if_pos (by omega)]; rfl
  rw [if_neg (by omega)]
  by_cases k2 : b0 < 224
  · rw [decN_two _ _ _ _ _ _ _ ⟨by omega, k2⟩, if_neg (c := 224 ≤ (b0 : Int) ∧ _) (by omega), if_neg (c := 240 ≤ (b0 : Int) ∧ _) (by omega)]
    simp only [decide_eq_true_eq]
    by_cases c : 194 ≤ b0 ∧ i + 1 < s.size ∧ 128 ≤ b1 ∧ b1 < 192
    · have m1 : moreOf s (i + 1) 128 191 = b1 - 128 := by unfold moreOf; rw [e1, if_neg (by omega)]
      rw [if_pos c, if_pos (by omega), m1, if_pos (by omega)]
      apply pair_ext <;> simp only <;> omega
    · rw [if_neg c]
      by_cases c0 : 194 ≤ (b0 : Int) ∧ (b0 : Int) ≤ 223
      · have m1 : moreOf s (i + 1) 128 191 = -1 := by unfold moreOf; rw [e1, if_pos (by omega)]
        rw [if_pos c0, m1, if_neg (by omega)]; rfl
      · rw [if_neg c0]; rfl
  by_cases k3 : b0 < 240
  · rw [decN_three _ _ _ _ _ _ _ ⟨by omega, k3⟩, if_neg (by omega), if_pos (by omega)]
    simp only [decide_eq_true_eq]
    unfold three
    rw [e0]
    have hl : (b0 = 224 ∧ low3 b0 = 160) ∨ (b0 ≠ 224 ∧ low3 b0 = 128) := by unfold low3; by_cases q : b0 = 224 <;> simp [q]; omega
    have hh : (b0 = 237 ∧ high3 b0 = 159) ∨ (b0 ≠ 237 ∧ high3 b0 = 191) := by unfold high3; by_cases q : b0 = 237 <;> simp [q]; omega
    by_cases c : i + 1 < s.size ∧ i + 2 < s.size ∧ (b0 = 224 → 160 ≤ b1) ∧ 128 ≤ b1 ∧ (b0 = 237 → b1 ≤ 159) ∧ b1 ≤ 191 ∧ 128 ≤ b2 ∧ b2 < 192
    · have m1 : moreOf s (i + 1) (low3 b0) (high3 b0) = b1 - 128 := by unfold moreOf; rw [e1, if_neg (by omega)]
      have m2 : moreOf s (i + 2) 128 191 = b2 - 128 := by unfold moreOf; rw [e2, if_neg (by omega)]
      rw [if_pos c, m1, m2, if_neg (by omega)]
      apply pair_ext <;> simp only <;> omega
    · rw [if_neg c]
      have hn : moreOf s (i + 1) (low3 b0) (high3 b0) < 0 ∨ moreOf s (i + 2) 128 191 < 0 := by
        by_cases q : i + 1 < s.size ∧ low3 b0 ≤ b1 ∧ b1 ≤ high3 b0
        · right; unfold moreOf; rw [e2, if_pos (by omega)]; omega
        · left; unfold moreOf; rw [e1, if_pos (by omega)]; omega
      rw [if_pos hn]; rfl
  · rw [decN_four _ _ _ _ _ _ _ ⟨by omega, u0⟩, if_neg (by omega), if_neg (by omega)]
    simp only [decide_eq_true_eq]
    by_cases c0 : b0 ≤ 244
    · rw [if_pos (by omega)]
      unfold four
      rw [e0]
      have hl : (b0 = 240 ∧ low4 b0 = 144) ∨ (b0 ≠ 240 ∧ low4 b0 = 128) := by unfold low4; by_cases q : b0 = 240 <;> simp [q]; omega
      have hh : (b0 = 244 ∧ high4 b0 = 143) ∨ (b0 ≠ 244 ∧ high4 b0 = 191) := by unfold high4; by_cases q : b0 = 244 <;> simp [q]; omega
      by_cases c : b0 ≤ 244 ∧ i + 1 < s.size ∧ i + 2 < s.size ∧ i + 3 < s.size ∧ (b0 = 240 → 144 ≤ b1) ∧ 128 ≤ b1 ∧ (b0 = 244 → b1 ≤ 143) ∧ b1 ≤ 191 ∧ 128 ≤ b2 ∧ b2 < 192 ∧ 128 ≤ b3 ∧ b3 < 192
      · have m1 : moreOf s (i + 1) (low4 b0) (high4 b0) = b1 - 128 := by unfold moreOf; rw [e1, if_neg (by omega)]
        have m2 : moreOf s (i + 2) 128 191 = b2 - 128 := by unfold moreOf; rw [e2, if_neg (by omega)]
        have m3 : moreOf s (i + 3) 128 191 = b3 - 128 := by unfold moreOf; rw [e3, if_neg (by omega)]
        rw [if_pos c, m1, m2, m3, if_neg (by omega)]
        apply pair_ext <;> simp only <;> omega
      · rw [if_neg c]
        have hn : moreOf s (i + 1) (low4 b0) (high4 b0) < 0 ∨ moreOf s (i + 2) 128 191 < 0 ∨ moreOf s (i + 3) 128 191 < 0 := by
          by_cases q : i + 1 < s.size ∧ low4 b0 ≤ b1 ∧ b1 ≤ high4 b0
          · right
            by_cases q2 : i + 2 < s.size ∧ 128 ≤ b2 ∧ b2 < 192
            · right; unfold moreOf; rw [e3, if_pos (by omega)]; omega
            · left; unfold moreOf; rw [e2, if_pos (by omega)]; omega
          · left; unfold moreOf; rw [e1, if_pos (by omega)]; omega
        rw [if_pos hn]; rfl
    · rw [if_neg (by omega), if_neg (by omega)]; rfl
end Go.Proofs.YtnbhpmleboildaaGreatDoor
