/- Slices of pairs, persons and sources, opened. No condition. -/
import Derived.Test.YtgkgcheegaegnaaDoorT35
import Derived.Test.YtgkgcheegaegnaaDoorT26
import Derived.Test.YtgkgcheegaegnaaDoorT01
import Derived.Test.YtgkgcheegaegnaaDoorRows
import Derived.Deep.Slices
import Derived.SizedLaws
import Derived.ProofKit
import Derived.OpenShut
import Derived.Carry
import Derived.ChangeSame
import Derived.Deep.DeepHandedRow
import Derived.Lib.LaidTab
import Derived.Shelf.Vars

set_option linter.all false
namespace Go.Proofs.YtgkgcheegaegnaaDoor
open Go.ChangeShapes Go.WideShapes Go.ChangeAt Go.RowKit Go.Joins

theorem spot_bare (a : Addr) (w : World) (v : Value) (h : w.cell? a = some v) : a = ⟨a.block, a.off, none⟩ := by
  obtain ⟨b, o, s⟩ := a
  cases s with
  | none => rfl
  | some s =>
    exfalso
    unfold World.cell? at h
    split at h
    · simp at h
    · cases h
theorem add_twice_bare (b o i k : Nat) : ((⟨b, o, none⟩ : Addr).add i).add k = ⟨b, o + i + k, none⟩ := by
  unfold Addr.add
  by_cases h1 : i = 0 <;> by_cases h2 : k = 0 <;> simp [h1, h2]
instance : Inhabited SrcT := ⟨⟨[], [], [], [], []⟩⟩
def Fit47 (q : P4) : Prop := q.1.length ≤ 140737488355328 ∧ q.2.1.length ≤ 140737488355328 ∧ q.2.2.1.length ≤ 140737488355328 ∧ q.2.2.2.length ≤ 140737488355328
/-- Each text and each list that is read has a length that a machine can tell. -/
def Light {H : Type} (t : TypeId) (d : DataW H) : Prop := ∀ m ∈ d.weights Tryd.prog t, m ≤ 140737488355328
theorem weightsAll_mem {H : Type} {e : TypeId} {d : DataW H} {n : Nat} : ∀ {l : List (DataW H)}, d ∈ l → n ∈ d.weights Tryd.prog e → n ∈ DataW.weightsAll Tryd.prog e l
  | [], h, _ => by cases h
  | x :: r, h, hn => by
    simp only [DataW.weightsAll, List.mem_append]
    rcases List.mem_cons.1 h with q | q
    · subst q; exact .inl hn
    · exact .inr (weightsAll_mem q hn)
theorem Light.part {H : Type} {t : TypeId} {fs : Array Field} {ps : List (DataW H)} (ht : Tryd.prog.underlying t = some (.struct fs)) (h : Light t (.agg ps)) {j : Nat} {u : TypeId} {d : DataW H} (hu : (fs.toList.map (·.type))[j]? = some u) (hd : ps[j]? = some d) : Light u d := by
  intro m hm
  apply h
  simp only [DataW.weights, ht]
  exact DataW.weights_mem_each hu hd m hm
theorem Light.str {H : Type} {l : List UInt8} {t : TypeId} (h : Light t (DataW.lit (H := H) (.string l))) : l.length ≤ 140737488355328 := h _ (by simp [DataW.weights])
section
variable {H : Type} {enc : TypeId × Value → H} {w : World} {base : Nat} {spare : Nat → Bool} {held : Bool}
theorem trod_str_l {n : Nat} {v : Value} {y : DataW H × List MemPlace} (h : DataW.trod enc Tryd.prog w base spare held n 9 [v] = some y) (hl : Light 9 y.1) : ∃ l : Bs, v = .string (bs l) ∧ l.length ≤ 140737488355328 := by
  obtain ⟨s, h1, h2, h3⟩ := DataW.trod_string Tryd.underlying9 h
  simp at h1
  subst h2
  exact ⟨s.data.toList, h1, hl.str⟩
theorem open_rows {α : Type} [Inhabited α] {t e : TypeId} {k fuel : Nat} {v : Value} {y : DataW H × List MemPlace} (p : α → (Nat → Option Value) → Prop) (ht : Tryd.prog.underlying t = some (.slice e)) (hk : Tryd.prog.cellsOf e = k) (hk0 : 0 < k)
    (hel : ∀ n (cs : List Value) (z : DataW H × List MemPlace), cs.length = k → DataW.trod enc Tryd.prog w base spare held n e cs = some z → Light e z.1 → ∃ x, p x (fun j => cs[j]?)) (hby : 1 ≤ Tryd.prog.bytesOf e)
    (h : DataW.trod enc Tryd.prog w base spare held fuel t [v] = some y) (hli : Light t y.1) :
    ∃ (xs : List α) (a : Option Addr) (c : Nat), v = .slice a xs.length c ∧ xs.length ≤ c ∧ xs.length ≤ 140737488355328 ∧ (0 < xs.length → ∃ g o, a = some ⟨g, o, none⟩ ∧ g < w.heap.size ∧ ∀ j x, xs[j]? = some x → ∃ f : Nat → Option Value, p x f ∧ ∀ i, i < k → w.cell? ⟨g, o + j * k + i, none⟩ = f i) ∧ ∀ x ∈ xs, ∃ f, p x f := by
  rcases Go.Deep.open_slice ht h with ⟨h0, _⟩ | ⟨a, len, cap, m, n, D, Pl, hcs, hb, hl, hm, hmm, hx, hi⟩
  · simp at h0
    subst h0
    exact ⟨[], none, 0, rfl, Nat.le_refl _, by simp, fun q => absurd q (by simp), by simp⟩
  · simp at hcs
    subst hcs
    rw [hk] at hi
    subst hx
    have hlen : len ≤ 140737488355328 := by
      have h1 := hli ((((List.range len).map D).length + ((List.range (m - len)).map fun j => D (len + j)).length) * Tryd.prog.bytesOf e) (by simp [DataW.weights, ht])
      have h2 : len * 1 ≤ (((List.range len).map D).length + ((List.range (m - len)).map fun j => D (len + j)).length) * Tryd.prog.bytesOf e := Nat.mul_le_mul (by simp) hby
      omega
    have hel2 : ∀ i, i < len → Light e (D i) := by
      intro i hil n hn
      apply hli
      simp only [DataW.weights, ht, List.mem_cons, List.mem_append]
      exact .inr (.inl (weightsAll_mem (List.mem_map.2 ⟨i, List.mem_range.2 hil, rfl⟩) hn))
    have each : ∀ i, i < len → ∃ x : α, ∃ f : Nat → Option Value, p x f ∧ a = ⟨a.block, a.off, none⟩ ∧ ∀ j, j < k → w.cell? ⟨a.block, a.off + i * k + j, none⟩ = f j := by
      have hspot : 0 < len → a = ⟨a.block, a.off, none⟩ := by
        intro hpos
        obtain ⟨cs', hc, _⟩ := hi 0 (by rw [hmm]; split <;> omega)
        obtain ⟨_, hcl, hat⟩ := World.cells?_some hc
        have e : (a.add (0 * k)).add 0 = a := by unfold Addr.add; simp
        have h0 := hat 0 (by omega)
        rw [e, List.getElem?_eq_getElem (by omega)] at h0
        exact spot_bare a w _ h0
      intro i hil
      obtain ⟨cs', hc, htr⟩ := hi i (by rw [hmm]; split <;> omega)
      obtain ⟨_, hcl, hat⟩ := World.cells?_some hc
      obtain ⟨x, hx⟩ := hel n cs' _ hcl htr (hel2 i hil)
      have ha := hspot (by omega)
      refine ⟨x, _, hx, ha, fun j hj => ?_⟩
      have h1 := hat j hj
      have h2 := add_twice_bare a.block a.off (i * k) j
      rw [← ha] at h2
      rw [h2] at h1; exact h1
    obtain ⟨f, hf⟩ := Go.Deep.choose_lt each
    refine ⟨(List.range len).map f, some a, cap, by simp, by simpa using hl, by simpa using hlen, fun hpos => ?_, ?_⟩
    · simp at hpos
      obtain ⟨f0, _, ha, hc0⟩ := hf 0 hpos
      refine ⟨a.block, a.off, by rw [← ha], ?_, fun j x hj => ?_⟩
      · obtain ⟨cs', hc, _⟩ := hi 0 (by rw [hmm]; split <;> omega)
        obtain ⟨_, hcl, hat⟩ := World.cells?_some hc
        have e : (a.add (0 * k)).add 0 = a := by unfold Addr.add; simp
        have h0 := hat 0 (by omega)
        rw [e, List.getElem?_eq_getElem (by omega)] at h0
        exact World.block_lt_of_cell? w (a := a) h0
      · rw [List.getElem?_map, Option.map_eq_some_iff] at hj
        obtain ⟨i, hi1, rfl⟩ := hj
        obtain ⟨hi2, hi3⟩ := List.getElem?_eq_some_iff.1 hi1
        simp at hi2 hi3
        subst hi3
        obtain ⟨g, hg, _, hcell⟩ := hf j hi2
        exact ⟨g, hg, hcell⟩
    · intro x hx
      obtain ⟨i, hi1, rfl⟩ := List.mem_map.1 hx
      obtain ⟨g, hg, _⟩ := hf i (by simpa using hi1)
      exact ⟨g, hg⟩
theorem Tryd.cellsPair : Tryd.prog.cellsOf 42 = 2 := by kernel_rfl
theorem Tryd.cellsSrc : Tryd.prog.cellsOf 28 = 5 := by kernel_rfl
theorem Tryd.cellsStr : Tryd.prog.cellsOf 9 = 1 := by kernel_rfl
theorem Tryd.cellsLp : Tryd.prog.cellsOf 25 = 1 := by kernel_rfl
theorem Tryd.cellsLf : Tryd.prog.cellsOf 26 = 1 := by kernel_rfl
theorem trod_struct5 {t : TypeId} {f0 f1 f2 f3 f4 : Field} {fuel : Nat} {cs : List Value} {x : DataW H × List MemPlace} (ht : Tryd.prog.underlying t = some (.struct #[f0, f1, f2, f3, f4])) (h : DataW.trod enc Tryd.prog w base spare held fuel t cs = some x) :
    ∃ y0 y1 y2 y3 y4 n, x.1 = .agg [y0.1, y1.1, y2.1, y3.1, y4.1] ∧ DataW.trod enc Tryd.prog w base spare held n f0.type ((cs.drop f0.offset).take (Tryd.prog.cellsOf f0.type)) = some y0 ∧ DataW.trod enc Tryd.prog w base spare held n f1.type ((cs.drop f1.offset).take (Tryd.prog.cellsOf f1.type)) = some y1 ∧ DataW.trod enc Tryd.prog w base spare held n f2.type ((cs.drop f2.offset).take (Tryd.prog.cellsOf f2.type)) = some y2 ∧
      DataW.trod enc Tryd.prog w base spare held n f3.type ((cs.drop f3.offset).take (Tryd.prog.cellsOf f3.type)) = some y3 ∧ DataW.trod enc Tryd.prog w base spare held n f4.type ((cs.drop f4.offset).take (Tryd.prog.cellsOf f4.type)) = some y4 := by
  obtain ⟨xs, n, _, rfl, hl, hlen, hf⟩ := DataW.trod_struct ht h
  match xs, hlen with
  | [y0, y1, y2, y3, y4], _ => exact ⟨y0, y1, y2, y3, y4, n, by simp, by simpa using hf 0 f0 rfl, by simpa using hf 1 f1 rfl, by simpa using hf 2 f2 rfl, by simpa using hf 3 f3 rfl, by simpa using hf 4 f4 rfl⟩
set_option maxRecDepth 100000 in
theorem cell_pairs {fuel : Nat} {v : Value} {y : DataW H × List MemPlace} (h : DataW.trod enc Tryd.prog w base spare held fuel 26 [v] = some y) (hli : Light 26 y.1) : ∃ ps : List Pr, Prs w v ps ∧ ps.length ≤ 140737488355328 ∧ ∀ q ∈ ps, q.1.length ≤ 140737488355328 ∧ q.2.length ≤ 140737488355328 := by
  obtain ⟨ps, a, c, rfl, h1, h2, h3, h4⟩ := open_rows (α := Pr) (fun q f => f 0 = some (.string (bs q.1)) ∧ f 1 = some (.string (bs q.2)) ∧ q.1.length ≤ 140737488355328 ∧ q.2.length ≤ 140737488355328) Tryd.underlying26 Tryd.cellsPair (by omega) (by
    intro n cs z hl ht hz
    obtain ⟨y0, y1, n', hx, _, h0, h1⟩ := Go.ChangeShapes.trod_struct2 Tryd.underlying42 ht
    match cs, hl with
    | [v0, v1], _ =>
      simp only [Tryd.cellsStr, List.drop_succ_cons, List.drop_zero, List.take_succ_cons, List.take_zero] at h0 h1
      obtain ⟨q0, rfl, f0⟩ := trod_str_l h0 (Light.part Tryd.underlying42 (by subst hx; exact hz) (j := 0) rfl rfl)
      obtain ⟨q1, rfl, f1⟩ := trod_str_l h1 (Light.part Tryd.underlying42 (by subst hx; exact hz) (j := 1) rfl rfl)
      exact ⟨(q0, q1), rfl, rfl, f0, f1⟩) (of_decide_eq_true (by kernel_rfl)) h hli
  refine ⟨ps, ⟨a, c, rfl, h1, fun q => ?_⟩, h2, fun q hq => ?_⟩
  · obtain ⟨g, o, ha, hg, hc⟩ := h3 q
    refine ⟨g, o, ha, hg, fun j x hx => ?_⟩
    obtain ⟨f, ⟨p0, p1, _⟩, hcell⟩ := hc j x hx
    exact ⟨(hcell 0 (by omega)).trans p0, (hcell 1 (by omega)).trans p1⟩
  · obtain ⟨f, _, _, p⟩ := h4 q hq
    exact p
set_option maxRecDepth 100000 in
theorem cell_perss {fuel : Nat} {v : Value} {y : DataW H × List MemPlace} (h : DataW.trod enc Tryd.prog w base spare held fuel 25 [v] = some y) (hli : Light 25 y.1) : ∃ ps : List P4, Perss w v ps ∧ ps.length ≤ 140737488355328 ∧ ∀ q ∈ ps, Fit47 q := by
  obtain ⟨ps, a, c, rfl, h1, h2, h3, h4⟩ := open_rows (α := P4) (fun q f => f 0 = some (.string (bs q.1)) ∧ f 1 = some (.string (bs q.2.1)) ∧ f 2 = some (.string (bs q.2.2.1)) ∧ f 3 = some (.string (bs q.2.2.2)) ∧ Fit47 q) Tryd.underlying25 Tryd.cellsPers (by omega) (by
    intro n cs z hl ht hz
    obtain ⟨y0, y1, y2, y3, n', hx, _, h0, h1, h2, h3⟩ := trod_struct4 Tryd.underlying46 ht
    match cs, hl with
    | [v0, v1, v2, v3], _ =>
      simp only [Tryd.cellsStr, List.drop_succ_cons, List.drop_zero, List.take_succ_cons, List.take_zero] at h0 h1 h2 h3
      obtain ⟨q0, rfl, f0⟩ := trod_str_l h0 (Light.part Tryd.underlying46 (by subst hx; exact hz) (j := 0) rfl rfl)
      obtain ⟨q1, rfl, f1⟩ := trod_str_l h1 (Light.part Tryd.underlying46 (by subst hx; exact hz) (j := 1) rfl rfl)
      obtain ⟨q2, rfl, f2⟩ := trod_str_l h2 (Light.part Tryd.underlying46 (by subst hx; exact hz) (j := 2) rfl rfl)
      obtain ⟨q3, rfl, f3⟩ := trod_str_l h3 (Light.part Tryd.underlying46 (by subst hx; exact hz) (j := 3) rfl rfl)
      exact ⟨(q0, q1, q2, q3), rfl, rfl, rfl, rfl, f0, f1, f2, f3⟩) (of_decide_eq_true (by kernel_rfl)) h hli
  refine ⟨ps, ⟨a, c, rfl, h1, fun q => ?_⟩, h2, fun q hq => ?_⟩
  · obtain ⟨g, o, ha, hg, hc⟩ := h3 q
    refine ⟨g, o, ha, hg, fun j x hx => ?_⟩
    obtain ⟨f, ⟨p0, p1, p2, p3, _⟩, hcell⟩ := hc j x hx
    exact ⟨(hcell 0 (by omega)).trans p0, (hcell 1 (by omega)).trans p1, (hcell 2 (by omega)).trans p2, (hcell 3 (by omega)).trans p3⟩
  · obtain ⟨f, _, _, _, _, p⟩ := h4 q hq
    exact p
set_option maxRecDepth 100000 in
theorem open_srcs {r : Reach} {b0 : Nat} {v : Value} {d : DataW H} {p : List MemPlace} (hv : Value.okWide Tryd.prog w r b0 22 v) (h : DataW.Trod enc Tryd.prog w base spare held 22 v d p) (hli : Light 22 d) :
    ∃ ss : List SrcT, Srcs w v ss ∧ ss.length ≤ 140737488355328 ∧ ∀ s ∈ ss, FitS s := by
  obtain ⟨a0, l0, c0, rfl⟩ := okWide_slice Tryd.underlying22 hv
  obtain ⟨fuel, hf⟩ := h
  simp only [Value.cells] at hf
  obtain ⟨ss, a, c, hv2, h1, h2, h3, h4⟩ := open_rows (α := SrcT) (fun s f => (∃ vA vE vF, f 0 = some (.string (bs s.key)) ∧ f 1 = some (.string (bs s.type)) ∧ f 2 = some vA ∧ f 3 = some vE ∧ f 4 = some vF ∧ Perss w vA s.author ∧ Perss w vE s.editor ∧ Prs w vF s.fields) ∧ FitS s) Tryd.underlying22 Tryd.cellsSrc (by omega) (by
    intro n cs z hl ht hz
    obtain ⟨y0, y1, y2, y3, y4, n', hx, h0, h1, h2, h3, h4⟩ := trod_struct5 Tryd.underlying28 ht
    match cs, hl with
    | [v0, v1, v2, v3, v4], _ =>
      simp only [Tryd.cellsStr, Tryd.cellsLp, Tryd.cellsLf, List.drop_succ_cons, List.drop_zero, List.take_succ_cons, List.take_zero] at h0 h1 h2 h3 h4
      obtain ⟨q0, rfl, f0⟩ := trod_str_l h0 (Light.part Tryd.underlying28 (by rw [hx] at hz; exact hz) (j := 0) rfl rfl)
      obtain ⟨q1, rfl, f1⟩ := trod_str_l h1 (Light.part Tryd.underlying28 (by rw [hx] at hz; exact hz) (j := 1) rfl rfl)
      obtain ⟨q2, p2, l2, f2⟩ := cell_perss h2 (Light.part Tryd.underlying28 (by rw [hx] at hz; exact hz) (j := 2) rfl rfl)
      obtain ⟨q3, p3, l3, f3⟩ := cell_perss h3 (Light.part Tryd.underlying28 (by rw [hx] at hz; exact hz) (j := 3) rfl rfl)
      obtain ⟨q4, p4, l4, f4⟩ := cell_pairs h4 (Light.part Tryd.underlying28 (by rw [hx] at hz; exact hz) (j := 4) rfl rfl)
      refine ⟨⟨q0, q1, q2, q3, q4⟩, ⟨v2, v3, v4, rfl, rfl, rfl, rfl, rfl, p2, p3, p4⟩, ?_⟩
      exact ⟨f0, f1, l2, l3, l4, f4, fun q hq => (List.mem_append.1 hq).elim (fun h => f2 q h) (fun h => f3 q h)⟩) (of_decide_eq_true (by kernel_rfl)) hf hli
  refine ⟨ss, ⟨a, c, hv2, h1, fun q => ?_⟩, h2, fun s hs => ?_⟩
  · obtain ⟨g, o, ha, hg, hc⟩ := h3 q
    refine ⟨g, o, ha, hg, fun j x hx => ?_⟩
    obtain ⟨f, ⟨⟨vA, vE, vF, p0, p1, p2, p3, p4, p5⟩, _⟩, hcell⟩ := hc j x hx
    exact ⟨vA, vE, vF, (hcell 0 (by omega)).trans p0, (hcell 1 (by omega)).trans p1, (hcell 2 (by omega)).trans p2, (hcell 3 (by omega)).trans p3, (hcell 4 (by omega)).trans p4, p5⟩
  · obtain ⟨f, _, p⟩ := h4 s hs
    exact p
end
end Go.Proofs.YtgkgcheegaegnaaDoor

/- What every row of this seat needs: the arguments read behind a call that keeps what was there as they did before; the world of the witness; the variable that the library's search reads. No condition. -/
set_option linter.all false
namespace Go.Proofs.YtgkgcheegaegnaaDoor
open Go.ChangeShapes Go.WideShapes Go.ChangeAt Go.RowKit

theorem Tryd.ownNone : ownKnob Tryd.prog.godebug = none := by kernel_rfl
theorem Tryd.laidOut : laidOutB Tryd.prog = true := by kernel_rfl

section
variable {H : Type} {enc : TypeId × Value → H} {P : Program}
theorem trodAll_stays (hl : laidOutB P = true) {W W' : World} {sp : Nat → Bool} : ∀ {ts : List TypeId} {vs : List Value} {ds : List (DataW H)} {p : List MemPlace},
    (∀ t ∈ ts, P.readableRec t = true ∧ t < P.types.size) → DataW.TrodAll enc P W 0 (fun _ => true) true ts vs ds p → (∀ x ∈ p, W.sameAt W' x) → (∀ x ∈ p, sp x.block = true) → DataW.TrodAll enc P W' 0 sp true ts vs ds p
  | [], vs, ds, p, _, h, _, _ => by
    obtain ⟨rfl, rfl, rfl⟩ := trodAll_nil h
    exact trodAll_mk0
  | t :: ts, vs, ds, p, hr, h, hs, hp => by
    obtain ⟨v, vs', d, ds', p1, p2, rfl, rfl, rfl, h0, h1⟩ := trodAll_cons h
    have h0' := WideElems.Trod_stays hl (hr t (by simp)).1 (hr t (by simp)).2 h0 (fun x hx => hs x (by simp [hx])) (sp' := sp) (fun x hx => hp x (by simp [hx]))
    exact trodAll_cons_mk h0' (trodAll_stays hl (fun t ht => hr t (by simp [ht])) h1 (fun x hx => hs x (by simp [hx])) (fun x hx => hp x (by simp [hx])))

/-- The post of a law: it answers true, and what was there is as it was. -/
theorem law_post {f : Func} {s : ChangeSpec} {apart fresh handsOn again : Bool} {W W' : World} {args : Array Value} {ds gs : List (DataW H)} {before : List MemPlace} {bt : TypeId}
    (hl : laidOutB P = true) (hread : ∀ t ∈ f.params.toList, P.readableRec t = true ∧ t < P.types.size) (hr : f.resultTypes = #[bt]) (hbt : P.underlying bt = some .bool) (hsv : s.vars = [])
    (hW : DataW.Whole enc P f.params.toList s.vars apart W args.toList ds gs before) (hs : s.fn H ds = { results := [.lit (.bool true)], args := ds }) (hb : Kept W W') :
    s.post enc P f apart fresh handsOn again W args (.bool true) W' := by
  have hW' := hW
  have hlt : ∀ p ∈ before, p.block < W.heap.size := fun p hp => hW'.lt p hp
  have hold : ∀ p ∈ before, (fun b => decide (b < W.heap.size)) p.block = true := fun p hp => by simpa using hlt p hp
  obtain ⟨pa, pv, hA, hV, hbe, hz, hn⟩ := hW
  rw [hsv] at hV
  obtain ⟨rfl, rfl⟩ := trodVars_none hV
  rw [List.append_nil] at hbe
  subst hbe
  have hs' : s.fn H (ds ++ []) = { results := [.lit (.bool true)], args := ds } := by rw [List.append_nil]; exact hs
  have hres : ∀ (b : Nat) (sp : Nat → Bool) (hd : Bool), DataW.TrodAll enc P W' b sp hd f.resultTypes.toList ((Value.bool true).resultList f.resultTypes.size) (s.fn H (ds ++ [])).results [] := by
    intro b sp hd
    rw [hs', hr]
    exact trodAll_cons_mk (shut_bool hbt _) trodAll_mk0
  have hargs : ∀ sp : Nat → Bool, (∀ p ∈ before, sp p.block = true) → DataW.TrodAll enc P W' 0 sp true f.params.toList args.toList (s.fn H (ds ++ [])).args before := by
    intro sp hsp
    rw [hs']
    exact trodAll_stays hl hread hA (fun x hx => hb.same (hlt x hx)) hsp
  have hvars : ∀ sp : Nat → Bool, DataW.TrodVars enc P W' sp s.vars (s.fn H (ds ++ [])).vars [] := by
    intro sp
    rw [hs', hsv]
    rfl
  have hok := ok_one (P := P) (W' := W') (v := .bool true) hr rfl (okWide_bool_mk hbt _)
  refine ⟨ds, [], before, [], before, [], hW', hres _ _ _, hargs _ hold, hvars _, World.keptBut_mono (fun p hp => ⟨hp, ?_⟩) (hb.frame (· ∈ before)), fun _ => ?_⟩
  · exact Or.inr (Or.inl hp)
  · refine ⟨hok, _, _, ([] ++ before) ++ [], ⟨[] ++ before, [], trodAll_append (hargs _ (fun _ _ => rfl)) (hres _ _ _), hvars _, rfl, ?_, ?_⟩, ?_⟩
    · intro b off hp
      have hin : MemPlace.cell b off ∈ before := by simpa using hp
      rw [hb.frozen (hlt _ hin)]
      exact hz b off hin
    · intro ha
      have := hn ha
      simpa using this
    · intro p hp _
      simpa using hp
end

theorem gnd_of {W : World} (h : W.ShapedOpen Tryd.prog) : Gnd W :=
  Go.Proofs.cell_of_shapedOpen_int (zero := #[.int .i64 0]) (t := 3) h (of_decide_eq_true (by kernel_rfl)) (by kernel_rfl) rfl (by kernel_rfl) (by kernel_rfl) Tryd.underlying3

/-- The cells of the two tables of utf8. -/
def firstCells : Array Value := (Go.Pinned.utf8FirstZ.map fun (n : Nat) => Value.int .u8 (n : Int)).toArray
def acceptCells : Array Value := #[.int .u8 128, .int .u8 191, .int .u8 160, .int .u8 191, .int .u8 128, .int .u8 159, .int .u8 144, .int .u8 191, .int .u8 128, .int .u8 143, .int .u8 0, .int .u8 0, .int .u8 0, .int .u8 0, .int .u8 0, .int .u8 0, .int .u8 0, .int .u8 0, .int .u8 0, .int .u8 0, .int .u8 0, .int .u8 0, .int .u8 0, .int .u8 0, .int .u8 0, .int .u8 0, .int .u8 0, .int .u8 0, .int .u8 0, .int .u8 0, .int .u8 0, .int .u8 0]
def putCells (cs : Array Value) : Obj → Obj
  | .cells _ t frozen => .cells cs t frozen
  | o => o
/-- A world for the witness: the settled one, the two tables holding what their initialisers lay. -/
noncomputable def laidWorld (os : Os) : World :=
  { World.holding Tryd.prog os ⟨#[], #[], []⟩ with heap := ((World.holding Tryd.prog os ⟨#[], #[], []⟩).heap.modify 1 (putCells firstCells)).modify 2 (putCells acceptCells) }
theorem laid_met (os : Os) (args : Array Value) : laidMet Tryd.prog [("unicode/utf8.acceptRanges", Rows.laid_unicode_utf8_acceptRanges), ("unicode/utf8.first", Rows.laid_unicode_utf8_first)] ((laidWorld os).forCall (fun _ _ => 0) ⟨#[], args, []⟩).memory :=
  laidMet_of_run' 8 (by kernel_rfl) (by kernel_rfl)
end Go.Proofs.YtgkgcheegaegnaaDoor
