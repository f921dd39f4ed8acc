/- short of law27: where it answers true, the collation is small. Conditions: lengths that a machine can tell. -/
import Derived.Test.YtnbhpmleboildaaGreatDoorY16
import Derived.Test.YtnbhpmleboildaaGreatDoorY08
import Derived.Test.YtnbhpmleboildaaGreatDoorY09
import Derived.Test.YtnbhpmleboildaaGreatDoorY15
import Derived.Test.YtnbhpmleboildaaGreatDoorY06
import Derived.Test.YtnbhpmleboildaaGreatDoorY24
import Derived.Test.YtnbhpmleboildaaGreatDoorY12
import Derived.Deep.RegionHeld3
import Derived.Laws.Cover1

set_option linter.all false
namespace Go.Proofs.YtnbhpmleboildaaGreatDoor
open Go.RowKit

/-- The answer of short. -/
def ShortP (c : ColT) (e : Ending) : Prop := ∃ b : Bool, e = .returned (.bool b) ∧ (b = true → SmallC c)
theorem ShortP.no (c : ColT) : ShortP c (.returned (.bool false)) := ⟨false, rfl, fun h => by cases h⟩
def MinL (m : Int) (s : Bs) : Prop := min (s.length : Int) 1000 ≤ m
theorem MinL.up {m m' : Int} {s : Bs} (h : MinL m s) (q : m ≤ m') : MinL m' s := Int.le_trans h q
end Go.Proofs.YtnbhpmleboildaaGreatDoor

/- value of publisherref25. Conditions: lengths. -/
set_option linter.all false
namespace Go.Proofs.YtnbhpmleboildaaGreatDoor
open Go.RowKit

def ValP (r : Option (List Int)) (w : World) (e : Ending) (w' : World) : Prop := ∃ v, e = .returned (.tuple #[v, .bool r.isSome]) ∧ Ints w' v (r.getD []) ∧ (∀ g, v.ownBlock = .some g → w.heap.size ≤ g) ∧ Kept w w'
theorem ValP.some {xs : List Int} {w w' : World} {v : Value} {r : Option (List Int)} (h : r = .some xs) (hi : Ints w' v xs) (ho : ∀ g, v.ownBlock = .some g → w.heap.size ≤ g) (k : Kept w w') : ValP r w (.returned (.tuple #[v, .bool true])) w' := by
  subst h; exact ⟨v, rfl, hi, ho, k⟩
theorem ValP.none {w w' : World} {r : Option (List Int)} (h : r = .none) (k : Kept w w') : ValP r w (.returned (.tuple #[.slice .none 0 0, .bool false])) w' := by
  subst h; exact ⟨_, rfl, ⟨.none, 0, rfl, Nat.le_refl _, fun q => absurd q (by simp)⟩, (fun g hg => by cases hg), k⟩
end Go.Proofs.YtnbhpmleboildaaGreatDoor

/- Key of publisherref25. Conditions: lengths. -/
set_option linter.all false
namespace Go.Proofs.YtnbhpmleboildaaGreatDoor
open Go.RowKit

theorem Ints.apart {S : Nat → Prop} {w w' : World} {v : Value} {xs : List Int} (h : Ints w v xs) (k : Only S w w') (hs : ∀ g, v.ownBlock = some g → ¬ S g) : Ints w' v xs := by
  obtain ⟨a, c, hv, hc, h3⟩ := h
  refine ⟨a, c, hv, hc, fun q => ?_⟩
  obtain ⟨g, o, ha, hg, hcell⟩ := h3 q
  have hn : ¬ S g := hs g (by rw [hv, ha]; rfl)
  exact ⟨g, o, ha, Nat.lt_of_lt_of_le hg k.size, fun j x hx => (k.cell g _ hg hn).trans (hcell j x hx)⟩
end Go.Proofs.YtnbhpmleboildaaGreatDoor

/- What the law GlossOrder leans on: its documents in plain Lean; three rows that grow side by side. Conditions: names that differ. -/
set_option linter.all false
namespace Go.Proofs.YtnbhpmleboildaaGreatDoor
open Go.RowKit Go.Sort

section
variable {α : Type} {R : (Nat → Prop) → World → List Value → α → Prop} {k : Nat} {A A' : Nat → Prop} {base : Nat} {e : TypeId} {w w' : World} {vo v vt : Value} {ts xs : List α}
theorem OutG.many {g : Nat} {css : List (List Value)} (hb : Blk w g e css.flatten.toArray) (hk : ∀ cs ∈ css, cs.length = k) (hl : css.length = xs.length) (hm : xs.length ≤ maxLen) (hg : base ≤ g) (hx : ∀ (j : Nat) (cs : List Value) (x : α), css[j]? = some cs → xs[j]? = some x → R (fun i => A i ∧ g ≠ i) w cs x) : OutG R k A base e w (.slice (some ⟨g, 0, none⟩) xs.length xs.length) xs := by
  have hf := flat_len css hk
  refine ⟨css, hl, hk, ⟨by rw [hf, hl], .inr ⟨g, xs.length, css.flatten.toArray, rfl, hg, hb, Nat.le_refl _, hm, ?_, ?_⟩⟩, fun j c y hc hy => ?_⟩
  · rw [List.size_toArray, hf, hl]
  · rw [List.toList_toArray, ← hl, ← hf, List.take_length]
  · have e1 : (fun i => A i ∧ (Value.slice (some ⟨g, 0, none⟩) xs.length xs.length).ownBlock ≠ some i) = (fun i => A i ∧ g ≠ i) := by
      funext i; simp [Value.ownBlock]
    rw [e1]; exact hx j c y hc hy
/-- Elements of another row are appended; where the new row lies. -/
theorem wpList_append_outz {P : Program} (hR : ReadK R) {ops : Array Oper} {rest : List Oper} {o : Oper} {a : Act} {Q : Exit → Act → World → Prop} (hgd : o.guard = none) (s x : Operand) (t : TypeId)
    (ho : o.op = .call { callee := .builtin .append, args := #[s, x], argTypes := #[t, t] })
    (i : TypeInfo) (z : Value) (bytes : Nat) (ht : P.underlying t = some (.slice e)) (hi : P.info? e = some i) (hz : i.zero = some z) (hsize : i.size = k) (hby : i.bytes = bytes) (hzs : z.cells.size = k) (hsz : 0 < k)
    {ys : List α} (hs : a.eval s = v) (hown : OutG R k A base e w v xs) (g0 : Nat) (m0 cap0 : Nat) (hx : a.eval x = .slice (some ⟨g0, 0, none⟩) m0 cap0) (hys : OutG R k (fun g => A g ∧ v.ownBlock ≠ some g) base e w (.slice (some ⟨g0, 0, none⟩) m0 cap0) ys) (hym : 0 < ys.length)
    (h63 : xs.length + ys.length ≤ maxLen) (hbytes : (xs.length + ys.length) * bytes ≤ 140737488355328) (hbase : base ≤ w.heap.size) (H : Nat) (hH : w.heap.size = H)
    (h : ∀ g cap w', OutG R k A base e w' (.slice (some ⟨g, 0, none⟩) (xs.length + ys.length) cap) (xs ++ ys) → w.grownBy w' v.ownBlock → (v.ownBlock = some g ∨ g = H) → wpList P ops Q rest (a.put o.dst (.slice (some ⟨g, 0, none⟩) (xs.length + ys.length) cap)) w') : wpList P ops Q (o :: rest) a w := by
  obtain ⟨css, h1, h2, ho2, h4⟩ := hown
  obtain ⟨css2, k1, k2, ko2, k4⟩ := hys
  have hm : m0 = ys.length := by
    obtain ⟨a', c, hv, _⟩ := own_cap ko2
    exact (Value.slice.inj hv).2.1
  subst hm
  have k4' : ∀ (j : Nat) (cs : List Value) (x : α), css2[j]? = some cs → ys[j]? = some x → R (fun g => A g ∧ v.ownBlock ≠ some g) w cs x := fun j cs x hc hx => hR.sam (k4 j cs x hc hx) (fun _ _ _ => rfl) (fun g _ q => q.1)
  obtain ⟨a', c, hv, _, _, h3⟩ := own_cap ko2
  obtain ⟨e1, _, _⟩ := Value.slice.inj hv
  obtain ⟨g', e2, _, hgg, hcell⟩ := h3 hym
  have : g0 = g' := by rw [e2] at e1; cases e1; rfl
  subst this
  have hone := css_one (S := fun g => A g ∧ v.ownBlock ≠ some g) hR css2 k1 k4'
  subst hH
  refine wpList_append_lies w hgd s x t ho base e i z k bytes ht hi hz hsize hby hzs hsz v xs.length css.flatten hs ho2 ⟨g0, 0, none⟩ ys.length cap0 css2.flatten hx (by rw [flat_len css2 k2, k1]) (fun j u hu => by rw [addr_plus, Nat.zero_add]; exact hcell j u hu) hone hym h63 hbytes hbase _ rfl ?_
  intro g cap w' q1 q2 q3 q4
  exact h g cap w' (OutG.app hR h1 h2 h4 k1 k2 k4' (by simpa using q1) q2 q3) q2 q3
end
/-- Three rows that grow side by side. -/
structure Rel3 (C : Nat) (wr : World) (t b u : Value) (ts : List (Bs × Bs)) (us : List Inl) : Prop where
  T : OutG (BloK 2 0) 11 (fun g => C < g ∧ b.ownBlock ≠ some g ∧ u.ownBlock ≠ some g) (C + 1) 38 wr t (ts.map bT)
  B : OutG (BloK 2 0) 11 (fun g => C < g ∧ t.ownBlock ≠ some g ∧ u.ownBlock ≠ some g) (C + 1) 38 wr b (ts.reverse.map bT)
  U : OutG (InlK 1) 10 (fun g => C < g ∧ t.ownBlock ≠ some g ∧ b.ownBlock ≠ some g) (C + 1) 51 wr u us
  tb : ∀ g, t.ownBlock = some g → b.ownBlock ≠ some g
  tu : ∀ g, t.ownBlock = some g → u.ownBlock ≠ some g
  bu : ∀ g, b.ownBlock = some g → u.ownBlock ≠ some g
  em : b = .slice none 0 0 ∧ ts = [] ∨ 0 < ts.length
theorem Rel3.kept {C : Nat} {wr w' : World} {t b u : Value} {ts : List (Bs × Bs)} {us : List Inl} (h : Rel3 C wr t b u ts us) (k : Kept wr w') : Rel3 C w' t b u ts us :=
  ⟨h.T.kept (bloK 2 0) k, h.B.kept (bloK 2 0) k, h.U.kept (inlK 1) k, h.tb, h.tu, h.bu, h.em⟩
end Go.Proofs.YtnbhpmleboildaaGreatDoor
