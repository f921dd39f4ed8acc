/- Arguments opened: a text. No condition. -/
import Derived.Test.YthbnahagfojfbaaG02
import Derived.Test.YthbnahagfojfbaaG04
import Derived.Test.YthbnahagfojfbaaG31
import Derived.OpenShut
import Derived.ProofKit
import Derived.Lib.SmallJoins
import Derived.Deep.Slices
import Derived.SizedLaws

set_option linter.all false
namespace Go.Proofs.Ythbnahagfojfbaa
open Go.ChangeShapes Go.WideShapes Go.ChangeAt Go.RowKit Go.Joins

section
variable {H : Type} {enc : TypeId × Value → H} {w : World} {base : Nat} {spare : Nat → Bool} {held : Bool}
theorem trod_str {n : Nat} {v : Value} {y : DataW H × List MemPlace} (h : DataW.trod enc Try.prog w base spare held n 9 [v] = some y) : ∃ l : Bs, v = .string (bs l) ∧ l.length ≤ maxLen := by
  obtain ⟨s, h1, h2, h3⟩ := DataW.trod_string Try.underlying9 h
  simp at h1
  exact ⟨s.data.toList, h1, by simpa using h3⟩
end
end Go.Proofs.Ythbnahagfojfbaa

/- Slices of pairs, opened; rows of any kind. No condition. -/
set_option linter.all false
namespace Go.Proofs.Ythbnahagfojfbaa
open Go.ChangeShapes Go.WideShapes Go.ChangeAt Go.RowKit Go.Joins

theorem spot_bare (a : Addr) (w : World) (v : Value) (h : w.cell? a = some v) : a = ⟨a.block, a.off, none⟩ := by
  obtain ⟨b, o, s⟩ := a
  cases s with
  | none => rfl
  | some s =>
    exfalso
    unfold World.cell? at h
    split at h
    · simp at h
    · cases h
theorem add_twice_bare (b o i k : Nat) : ((⟨b, o, none⟩ : Addr).add i).add k = ⟨b, o + i + k, none⟩ := by
  unfold Addr.add
  by_cases h1 : i = 0 <;> by_cases h2 : k = 0 <;> simp [h1, h2]
/-- Each text and each list that is read has a length that a machine can tell. -/
def Light {H : Type} (t : TypeId) (d : DataW H) : Prop := ∀ m ∈ d.weights Try.prog t, m ≤ 140737488355328
theorem weightsAll_mem {H : Type} {e : TypeId} {d : DataW H} {n : Nat} : ∀ {l : List (DataW H)}, d ∈ l → n ∈ d.weights Try.prog e → n ∈ DataW.weightsAll Try.prog e l
  | [], h, _ => by cases h
  | x :: r, h, hn => by
    simp only [DataW.weightsAll, List.mem_append]
    rcases List.mem_cons.1 h with q | q
    · subst q; exact .inl hn
    · exact .inr (weightsAll_mem q hn)
theorem Light.part {H : Type} {t : TypeId} {fs : Array Field} {ps : List (DataW H)} (ht : Try.prog.underlying t = some (.struct fs)) (h : Light t (.agg ps)) {j : Nat} {u : TypeId} {d : DataW H} (hu : (fs.toList.map (·.type))[j]? = some u) (hd : ps[j]? = some d) : Light u d := by
  intro m hm
  apply h
  simp only [DataW.weights, ht]
  exact DataW.weights_mem_each hu hd m hm
theorem Light.str {H : Type} {l : List UInt8} {t : TypeId} (h : Light t (DataW.lit (H := H) (.string l))) : l.length ≤ 140737488355328 := h _ (by simp [DataW.weights])
section
variable {H : Type} {enc : TypeId × Value → H} {w : World} {base : Nat} {spare : Nat → Bool} {held : Bool}
theorem trod_str_l {n : Nat} {v : Value} {y : DataW H × List MemPlace} (h : DataW.trod enc Try.prog w base spare held n 9 [v] = some y) (hl : Light 9 y.1) : ∃ l : Bs, v = .string (bs l) ∧ l.length ≤ 140737488355328 := by
  obtain ⟨s, h1, h2, h3⟩ := DataW.trod_string Try.underlying9 h
  simp at h1
  subst h2
  exact ⟨s.data.toList, h1, hl.str⟩
theorem open_rows {α : Type} [Inhabited α] {t e : TypeId} {k fuel : Nat} {v : Value} {y : DataW H × List MemPlace} (p : α → (Nat → Option Value) → Prop) (ht : Try.prog.underlying t = some (.slice e)) (hk : Try.prog.cellsOf e = k) (hk0 : 0 < k)
    (hel : ∀ n (cs : List Value) (z : DataW H × List MemPlace), cs.length = k → DataW.trod enc Try.prog w base spare held n e cs = some z → Light e z.1 → ∃ x, p x (fun j => cs[j]?)) (hby : 1 ≤ Try.prog.bytesOf e)
    (h : DataW.trod enc Try.prog w base spare held fuel t [v] = some y) (hli : Light t y.1) :
    ∃ (xs : List α) (a : Option Addr) (c : Nat), v = .slice a xs.length c ∧ xs.length ≤ c ∧ xs.length ≤ 140737488355328 ∧ (0 < xs.length → ∃ g o, a = some ⟨g, o, none⟩ ∧ g < w.heap.size ∧ ∀ j x, xs[j]? = some x → ∃ f : Nat → Option Value, p x f ∧ ∀ i, i < k → w.cell? ⟨g, o + j * k + i, none⟩ = f i) ∧ ∀ x ∈ xs, ∃ f, p x f := by
  rcases Go.Deep.open_slice ht h with ⟨h0, _⟩ | ⟨a, len, cap, m, n, D, Pl, hcs, hb, hl, hm, hmm, hx, hi⟩
  · simp at h0
    subst h0
    exact ⟨[], none, 0, rfl, Nat.le_refl _, by simp, fun q => absurd q (by simp), by simp⟩
  · simp at hcs
    subst hcs
    rw [hk] at hi
    subst hx
    have hlen : len ≤ 140737488355328 := by
      have h1 := hli ((((List.range len).map D).length + ((List.range (m - len)).map fun j => D (len + j)).length) * Try.prog.bytesOf e) (by simp [DataW.weights, ht])
      have h2 : len * 1 ≤ (((List.range len).map D).length + ((List.range (m - len)).map fun j => D (len + j)).length) * Try.prog.bytesOf e := Nat.mul_le_mul (by simp) hby
      omega
    have hel2 : ∀ i, i < len → Light e (D i) := by
      intro i hil n hn
      apply hli
      simp only [DataW.weights, ht, List.mem_cons, List.mem_append]
      exact .inr (.inl (weightsAll_mem (List.mem_map.2 ⟨i, List.mem_range.2 hil, rfl⟩) hn))
    have each : ∀ i, i < len → ∃ x : α, ∃ f : Nat → Option Value, p x f ∧ a = ⟨a.block, a.off, none⟩ ∧ ∀ j, j < k → w.cell? ⟨a.block, a.off + i * k + j, none⟩ = f j := by
      have hspot : 0 < len → a = ⟨a.block, a.off, none⟩ := by
        intro hpos
        obtain ⟨cs', hc, _⟩ := hi 0 (by rw [hmm]; split <;> omega)
        obtain ⟨_, hcl, hat⟩ := World.cells?_some hc
        have e : (a.add (0 * k)).add 0 = a := by unfold Addr.add; simp
        have h0 := hat 0 (by omega)
        rw [e, List.getElem?_eq_getElem (by omega)] at h0
        exact spot_bare a w _ h0
      intro i hil
      obtain ⟨cs', hc, htr⟩ := hi i (by rw [hmm]; split <;> omega)
      obtain ⟨_, hcl, hat⟩ := World.cells?_some hc
      obtain ⟨x, hx⟩ := hel n cs' _ hcl htr (hel2 i hil)
      have ha := hspot (by omega)
      refine ⟨x, _, hx, ha, fun j hj => ?_⟩
      have h1 := hat j hj
      have h2 := add_twice_bare a.block a.off (i * k) j
      rw [← ha] at h2
      rw [h2] at h1; exact h1
    obtain ⟨f, hf⟩ := Go.Deep.choose_lt each
    refine ⟨(List.range len).map f, some a, cap, by simp, by simpa using hl, by simpa using hlen, fun hpos => ?_, ?_⟩
    · simp at hpos
      obtain ⟨f0, _, ha, hc0⟩ := hf 0 hpos
      refine ⟨a.block, a.off, by rw [← ha], ?_, fun j x hj => ?_⟩
      · obtain ⟨cs', hc, _⟩ := hi 0 (by rw [hmm]; split <;> omega)
        obtain ⟨_, hcl, hat⟩ := World.cells?_some hc
        have e : (a.add (0 * k)).add 0 = a := by unfold Addr.add; simp
        have h0 := hat 0 (by omega)
        rw [e, List.getElem?_eq_getElem (by omega)] at h0
        exact World.block_lt_of_cell? w (a := a) h0
      · rw [List.getElem?_map, Option.map_eq_some_iff] at hj
        obtain ⟨i, hi1, rfl⟩ := hj
        obtain ⟨hi2, hi3⟩ := List.getElem?_eq_some_iff.1 hi1
        simp at hi2 hi3
        subst hi3
        obtain ⟨g, hg, _, hcell⟩ := hf j hi2
        exact ⟨g, hg, hcell⟩
    · intro x hx
      obtain ⟨i, hi1, rfl⟩ := List.mem_map.1 hx
      obtain ⟨g, hg, _⟩ := hf i (by simpa using hi1)
      exact ⟨g, hg⟩
theorem Try.cellsPair : Try.prog.cellsOf 60 = 2 := by kernel_rfl
theorem Try.cellsStr : Try.prog.cellsOf 9 = 1 := by kernel_rfl
set_option maxRecDepth 100000 in
theorem cell_pairs {fuel : Nat} {v : Value} {y : DataW H × List MemPlace} (h : DataW.trod enc Try.prog w base spare held fuel 23 [v] = some y) (hli : Light 23 y.1) : ∃ ps : List Pr, Prs w v ps ∧ ps.length ≤ 140737488355328 ∧ ∀ q ∈ ps, q.1.length ≤ 140737488355328 ∧ q.2.length ≤ 140737488355328 := by
  obtain ⟨ps, a, c, rfl, h1, h2, h3, h4⟩ := open_rows (α := Pr) (fun q f => f 0 = some (.string (bs q.1)) ∧ f 1 = some (.string (bs q.2)) ∧ q.1.length ≤ 140737488355328 ∧ q.2.length ≤ 140737488355328) Try.underlying23 Try.cellsPair (by omega) (by
    intro n cs z hl ht hz
    obtain ⟨y0, y1, n', hx, _, h0, h1⟩ := Go.ChangeShapes.trod_struct2 Try.underlying60 ht
    match cs, hl with
    | [v0, v1], _ =>
      simp only [Try.cellsStr, List.drop_succ_cons, List.drop_zero, List.take_succ_cons, List.take_zero] at h0 h1
      obtain ⟨q0, rfl, f0⟩ := trod_str_l h0 (Light.part Try.underlying60 (by subst hx; exact hz) (j := 0) rfl rfl)
      obtain ⟨q1, rfl, f1⟩ := trod_str_l h1 (Light.part Try.underlying60 (by subst hx; exact hz) (j := 1) rfl rfl)
      exact ⟨(q0, q1), rfl, rfl, f0, f1⟩) (of_decide_eq_true (by kernel_rfl)) h hli
  refine ⟨ps, ⟨a, c, rfl, h1, fun q => ?_⟩, h2, fun q hq => ?_⟩
  · obtain ⟨g, o, ha, hg, hc⟩ := h3 q
    refine ⟨g, o, ha, hg, fun j x hx => ?_⟩
    obtain ⟨f, ⟨p0, p1, _⟩, hcell⟩ := hc j x hx
    exact ⟨(hcell 0 (by omega)).trans p0, (hcell 1 (by omega)).trans p1⟩
  · obtain ⟨f, _, _, p⟩ := h4 q hq
    exact p
end
end Go.Proofs.Ythbnahagfojfbaa

/- Slices of bytes, and slices of those, opened. No condition. -/
set_option linter.all false
namespace Go.Proofs.Ythbnahagfojfbaa
open Go.ChangeShapes Go.WideShapes Go.ChangeAt Go.RowKit Go.Joins

theorem Try.cellsU8 : Try.prog.cellsOf 5 = 1 := by kernel_rfl
theorem Try.cellsLu : Try.prog.cellsOf 33 = 1 := by kernel_rfl
theorem wf_u8 {n : Int} (h : (Lit.int .u8 n).wf = true) : 0 ≤ n ∧ n ≤ 255 := by
  have := h
  simp [Lit.wf, IntKind.min, IntKind.max, IntKind.signed, IntKind.bits] at this
  omega
section
variable {H : Type} {enc : TypeId × Value → H} {w : World} {base : Nat} {spare : Nat → Bool} {held : Bool}
theorem trod_u8 {n : Nat} {v : Value} {y : DataW H × List MemPlace} (h : DataW.trod enc Try.prog w base spare held n 5 [v] = some y) : ∃ b : UInt8, v = .int .u8 (b.toNat : Int) := by
  obtain ⟨i, h1, _, h3⟩ := DataW.trod_int Try.underlying5 h
  simp at h1
  obtain ⟨h4, h5⟩ := wf_u8 h3
  refine ⟨UInt8.ofNat i.toNat, ?_⟩
  rw [h1, UInt8.toNat_ofNat']
  congr 1
  omega
set_option maxRecDepth 100000 in
theorem cell_bytes {fuel : Nat} {v : Value} {y : DataW H × List MemPlace} (h : DataW.trod enc Try.prog w base spare held fuel 33 [v] = some y) (hli : Light 33 y.1) : ∃ xs : Bs, Byt w v xs ∧ xs.length ≤ 140737488355328 := by
  obtain ⟨xs, a, c, rfl, h1, h2, h3, h4⟩ := open_rows (α := UInt8) (fun q f => f 0 = some (.int .u8 (q.toNat : Int))) Try.underlying33 Try.cellsU8 (by omega) (by
    intro n cs z hl ht hz
    match cs, hl with
    | [v0], _ =>
      obtain ⟨q0, rfl⟩ := trod_u8 ht
      exact ⟨q0, rfl⟩) (of_decide_eq_true (by kernel_rfl)) h hli
  refine ⟨xs, ⟨a, c, rfl, h1, fun q => ?_⟩, h2⟩
  obtain ⟨g, o, ha, hg, hc⟩ := h3 q
  refine ⟨g, o, ha, hg, fun j x hx => ?_⟩
  obtain ⟨f, p0, hcell⟩ := hc j x hx
  have := (hcell 0 (by omega)).trans p0
  simpa using this
set_option maxRecDepth 100000 in
theorem open_byt {r : Reach} {b0 : Nat} {v : Value} {d : DataW H} {p : List MemPlace} (hv : Value.okWide Try.prog w r b0 33 v) (h : DataW.Trod enc Try.prog w base spare held 33 v d p) (hli : Light 33 d) :
    ∃ xs : Bs, Byt w v xs ∧ xs.length ≤ 140737488355328 := by
  obtain ⟨a0, l0, c0, rfl⟩ := okWide_slice Try.underlying33 hv
  obtain ⟨fuel, hf⟩ := h
  simp only [Value.cells] at hf
  exact cell_bytes hf hli
set_option maxRecDepth 100000 in
theorem open_byts {r : Reach} {b0 : Nat} {v : Value} {d : DataW H} {p : List MemPlace} (hv : Value.okWide Try.prog w r b0 22 v) (h : DataW.Trod enc Try.prog w base spare held 22 v d p) (hli : Light 22 d) :
    ∃ ls : List Bs, Bytss w v ls ∧ ∀ l ∈ ls, l.length ≤ 140737488355328 := by
  obtain ⟨a0, l0, c0, rfl⟩ := okWide_slice Try.underlying22 hv
  obtain ⟨fuel, hf⟩ := h
  simp only [Value.cells] at hf
  obtain ⟨xs, a, c, hve, h1, h2, h3, h4⟩ := open_rows (α := Bs) (fun q f => (∃ u, f 0 = some u ∧ Byt w u q) ∧ q.length ≤ 140737488355328) Try.underlying22 Try.cellsLu (by omega) (by
    intro n cs z hl ht hz
    match cs, hl with
    | [v0], _ =>
      obtain ⟨q0, hq, f0⟩ := cell_bytes ht hz
      exact ⟨q0, ⟨v0, rfl, hq⟩, f0⟩) (of_decide_eq_true (by kernel_rfl)) hf hli
  refine ⟨xs, ⟨a, c, hve, h1, fun q => ?_⟩, fun q hq => ?_⟩
  · obtain ⟨g, o, ha, hg, hc⟩ := h3 q
    refine ⟨g, o, ha, hg, trivial, fun j x hx => ?_⟩
    obtain ⟨f, ⟨⟨u, p0, hu⟩, _⟩, hcell⟩ := hc j x hx
    refine ⟨[u], rfl, fun i z hz => ?_, u, rfl, hu⟩
    have hi : i = 0 := by have := (List.getElem?_eq_some_iff.1 hz).1; simpa using this
    subst hi
    cases hz
    exact (hcell 0 (by omega)).trans p0
  · obtain ⟨f, _, p⟩ := h4 q hq
    exact p
end
end Go.Proofs.Ythbnahagfojfbaa
