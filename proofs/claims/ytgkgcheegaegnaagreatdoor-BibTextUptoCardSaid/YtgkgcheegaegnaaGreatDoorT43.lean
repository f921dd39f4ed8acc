/- Slices of pairs, persons and sources of bounded bulk, opened. Conditions: the bulk. -/
import Derived.Test.YtgkgcheegaegnaaGreatDoorT42
import Derived.Test.YtgkgcheegaegnaaGreatDoorT26
import Derived.Test.YtgkgcheegaegnaaGreatDoorRows
import Derived.Test.YtgkgcheegaegnaaGreatDoorT01
import Derived.ProofKit
import Derived.OpenShut
import Derived.Carry
import Derived.ChangeSame
import Derived.Deep.DeepHandedRow
import Derived.Lib.LaidTab
import Derived.Shelf.Vars

set_option linter.all false
namespace Go.Proofs.YtgkgcheegaegnaaGreatDoor
open Go.ChangeShapes Go.WideShapes Go.ChangeAt Go.RowKit Go.Joins

theorem bulk_one {H : Type} (d : DataW H) : 1 ≤ Rows.uptoBulk d := by
  cases d with
  | lit l => cases l <;> simp [Rows.uptoBulk]
  | nil => simp [Rows.uptoBulk]
  | ptr d => simp [Rows.uptoBulk]
  | slice elems spare => simp [Rows.uptoBulk]
  | agg parts => simp [Rows.uptoBulk]
  | iface t d => simp [Rows.uptoBulk]
  | map entries => simp [Rows.uptoBulk]
  | held h => simp [Rows.uptoBulk]
theorem bulk_part {H : Type} {d : DataW H} {l : List (DataW H)} (h : d ∈ l) : Rows.uptoBulk d ≤ Rows.uptoBulkAll l := by
  induction l with
  | nil => cases h
  | cons x r ih =>
    simp only [Rows.uptoBulkAll]
    cases List.mem_cons.1 h with
    | inl e => subst e; omega
    | inr e => have := ih e; omega
theorem bulk_length {H : Type} (l : List (DataW H)) : l.length ≤ Rows.uptoBulkAll l := by
  induction l with
  | nil => simp [Rows.uptoBulkAll]
  | cons x r ih => have := bulk_one x; simp only [Rows.uptoBulkAll, List.length_cons]; omega
theorem bulk_slice {H : Type} (elems spare : List (DataW H)) : elems.length + spare.length + 1 ≤ Rows.uptoBulk (.slice elems spare) := by
  have h1 := bulk_length elems
  have h2 := bulk_length spare
  simp only [Rows.uptoBulk]
  omega
/-- What is read is of bulk at most 1048576. -/
def Lite {H : Type} (_t : TypeId) (d : DataW H) : Prop := Rows.uptoBulk d ≤ 1048576
theorem Lite.part {H : Type} {t : TypeId} {fs : Array Field} {ps : List (DataW H)} (_ht : Tryz.prog.underlying t = some (.struct fs)) (h : Lite t (.agg ps)) {j : Nat} {u : TypeId} {d : DataW H} (_hu : (fs.toList.map (·.type))[j]? = some u) (hd : ps[j]? = some d) : Lite u d := by
  have h1 := bulk_part (List.mem_of_getElem? hd)
  have h2 : Rows.uptoBulk (.agg ps) ≤ 1048576 := h
  simp only [Rows.uptoBulk] at h2
  show Rows.uptoBulk d ≤ 1048576
  omega
theorem Lite.str {H : Type} {l : List UInt8} {t : TypeId} (h : Lite t (DataW.lit (H := H) (.string l))) : l.length ≤ 1048576 := by
  have h2 : Rows.uptoBulk (DataW.lit (H := H) (.string l)) ≤ 1048576 := h
  simp only [Rows.uptoBulk] at h2
  omega
def FitU4 (q : P4) : Prop := q.1.length ≤ 1048576 ∧ q.2.1.length ≤ 1048576 ∧ q.2.2.1.length ≤ 1048576 ∧ q.2.2.2.length ≤ 1048576
def FitU (s : SrcT) : Prop := s.key.length ≤ 1048576 ∧ s.type.length ≤ 1048576 ∧ s.author.length ≤ 1048576 ∧ s.editor.length ≤ 1048576 ∧ s.fields.length ≤ 1048576 ∧
  (∀ f ∈ s.fields, f.1.length ≤ 1048576 ∧ f.2.length ≤ 1048576) ∧ ∀ q ∈ s.author ++ s.editor, q.1.length ≤ 1048576 ∧ q.2.1.length ≤ 1048576 ∧ q.2.2.1.length ≤ 1048576 ∧ q.2.2.2.length ≤ 1048576
theorem FitU.fit {s : SrcT} (h : FitU s) : FitS s := by
  obtain ⟨h1, h2, h3, h4, h5, h6, h7⟩ := h
  refine ⟨by omega, by omega, by omega, by omega, by omega, fun f hf => ?_, fun q hq => ?_⟩
  · have := h6 f hf; omega
  · have := h7 q hq; omega
theorem FitU.small {s : SrcT} (h : FitU s) : SmallS s := by
  obtain ⟨h1, h2, h3, h4, h5, h6, h7⟩ := h
  refine ⟨fun p hp => ?_, fun p hp => ?_, fun p hp => ?_, by omega, by omega, by omega, by omega, by omega⟩
  · have := h7 p (List.mem_append.2 (.inl hp)); omega
  · have := h7 p (List.mem_append.2 (.inr hp)); omega
  · have := h6 p hp; omega
section
variable {H : Type} {enc : TypeId × Value → H} {w : World} {base : Nat} {spare : Nat → Bool} {held : Bool}
theorem trod_str_u {n : Nat} {v : Value} {y : DataW H × List MemPlace} (h : DataW.trod enc Tryz.prog w base spare held n 9 [v] = some y) (hl : Lite 9 y.1) : ∃ l : Bs, v = .string (bs l) ∧ l.length ≤ 1048576 := by
  obtain ⟨s, h1, h2, h3⟩ := DataW.trod_string Tryz.underlying9 h
  simp at h1
  subst h2
  exact ⟨s.data.toList, h1, hl.str⟩
theorem open_rowsU {α : Type} [Inhabited α] {t e : TypeId} {k fuel : Nat} {v : Value} {y : DataW H × List MemPlace} (p : α → (Nat → Option Value) → Prop) (ht : Tryz.prog.underlying t = some (.slice e)) (hk : Tryz.prog.cellsOf e = k) (hk0 : 0 < k)
    (hel : ∀ n (cs : List Value) (z : DataW H × List MemPlace), cs.length = k → DataW.trod enc Tryz.prog w base spare held n e cs = some z → Lite e z.1 → ∃ x, p x (fun j => cs[j]?))
    (h : DataW.trod enc Tryz.prog w base spare held fuel t [v] = some y) (hli : Lite t y.1) :
    ∃ (xs : List α) (a : Option Addr) (c : Nat), v = .slice a xs.length c ∧ xs.length ≤ c ∧ xs.length ≤ 1048576 ∧ (0 < xs.length → ∃ g o, a = some ⟨g, o, none⟩ ∧ g < w.heap.size ∧ ∀ j x, xs[j]? = some x → ∃ f : Nat → Option Value, p x f ∧ ∀ i, i < k → w.cell? ⟨g, o + j * k + i, none⟩ = f i) ∧ ∀ x ∈ xs, ∃ f, p x f := by
  rcases Go.Deep.open_slice ht h with ⟨h0, _⟩ | ⟨a, len, cap, m, n, D, Pl, hcs, hb, hl, hm, hmm, hx, hi⟩
  · simp at h0
    subst h0
    exact ⟨[], none, 0, rfl, Nat.le_refl _, by simp, fun q => absurd q (by simp), by simp⟩
  · simp at hcs
    subst hcs
    rw [hk] at hi
    subst hx
    have hlen : len ≤ 1048576 := by
      have h1 := bulk_slice ((List.range len).map D) ((List.range (m - len)).map fun j => D (len + j))
      have h2 : Rows.uptoBulk (.slice ((List.range len).map D) ((List.range (m - len)).map fun j => D (len + j))) ≤ 1048576 := hli
      simp only [List.length_map, List.length_range] at h1
      omega
    have hel2 : ∀ i, i < len → Lite e (D i) := by
      intro i hil
      have h2 : Rows.uptoBulk (.slice ((List.range len).map D) ((List.range (m - len)).map fun j => D (len + j))) ≤ 1048576 := hli
      have h3 : Rows.uptoBulk (D i) ≤ Rows.uptoBulkAll ((List.range len).map D) := bulk_part (List.mem_map.2 ⟨i, List.mem_range.2 hil, rfl⟩)
      simp only [Rows.uptoBulk] at h2
      show Rows.uptoBulk (D i) ≤ 1048576
      omega
    have each : ∀ i, i < len → ∃ x : α, ∃ f : Nat → Option Value, p x f ∧ a = ⟨a.block, a.off, none⟩ ∧ ∀ j, j < k → w.cell? ⟨a.block, a.off + i * k + j, none⟩ = f j := by
      have hspot : 0 < len → a = ⟨a.block, a.off, none⟩ := by
        intro hpos
        obtain ⟨cs', hc, _⟩ := hi 0 (by rw [hmm]; split <;> omega)
        obtain ⟨_, hcl, hat⟩ := World.cells?_some hc
        have e : (a.add (0 * k)).add 0 = a := by unfold Addr.add; simp
        have h0 := hat 0 (by omega)
        rw [e, List.getElem?_eq_getElem (by omega)] at h0
        exact spot_bare a w _ h0
      intro i hil
      obtain ⟨cs', hc, htr⟩ := hi i (by rw [hmm]; split <;> omega)
      obtain ⟨_, hcl, hat⟩ := World.cells?_some hc
      obtain ⟨x, hx⟩ := hel n cs' _ hcl htr (hel2 i hil)
      have ha := hspot (by omega)
      refine ⟨x, _, hx, ha, fun j hj => ?_⟩
      have h1 := hat j hj
      have h2 := add_twice_bare a.block a.off (i * k) j
      rw [← ha] at h2
      rw [h2] at h1; exact h1
    obtain ⟨f, hf⟩ := Go.Deep.choose_lt each
    refine ⟨(List.range len).map f, some a, cap, by simp, by simpa using hl, by simpa using hlen, fun hpos => ?_, ?_⟩
    · simp at hpos
      obtain ⟨f0, _, ha, hc0⟩ := hf 0 hpos
      refine ⟨a.block, a.off, by rw [← ha], ?_, fun j x hj => ?_⟩
      · obtain ⟨cs', hc, _⟩ := hi 0 (by rw [hmm]; split <;> omega)
        obtain ⟨_, hcl, hat⟩ := World.cells?_some hc
        have e : (a.add (0 * k)).add 0 = a := by unfold Addr.add; simp
        have h0 := hat 0 (by omega)
        rw [e, List.getElem?_eq_getElem (by omega)] at h0
        exact World.block_lt_of_cell? w (a := a) h0
      · rw [List.getElem?_map, Option.map_eq_some_iff] at hj
        obtain ⟨i, hi1, rfl⟩ := hj
        obtain ⟨hi2, hi3⟩ := List.getElem?_eq_some_iff.1 hi1
        simp at hi2 hi3
        subst hi3
        obtain ⟨g, hg, _, hcell⟩ := hf j hi2
        exact ⟨g, hg, hcell⟩
    · intro x hx
      obtain ⟨i, hi1, rfl⟩ := List.mem_map.1 hx
      obtain ⟨g, hg, _⟩ := hf i (by simpa using hi1)
      exact ⟨g, hg⟩
set_option maxRecDepth 100000 in
theorem cell_pairsU {fuel : Nat} {v : Value} {y : DataW H × List MemPlace} (h : DataW.trod enc Tryz.prog w base spare held fuel 42 [v] = some y) (hli : Lite 42 y.1) : ∃ ps : List Pr, Prs w v ps ∧ ps.length ≤ 1048576 ∧ ∀ q ∈ ps, q.1.length ≤ 1048576 ∧ q.2.length ≤ 1048576 := by
  obtain ⟨ps, a, c, rfl, h1, h2, h3, h4⟩ := open_rowsU (α := Pr) (fun q f => f 0 = some (.string (bs q.1)) ∧ f 1 = some (.string (bs q.2)) ∧ q.1.length ≤ 1048576 ∧ q.2.length ≤ 1048576) Tryz.underlying42 Tryz.cellsPair (by omega) (by
    intro n cs z hl ht hz
    obtain ⟨y0, y1, n', hx, _, h0, h1⟩ := Go.ChangeShapes.trod_struct2 Tryz.underlying47 ht
    match cs, hl with
    | [v0, v1], _ =>
      simp only [Tryz.cellsStr, List.drop_succ_cons, List.drop_zero, List.take_succ_cons, List.take_zero] at h0 h1
      obtain ⟨q0, rfl, f0⟩ := trod_str_u h0 (Lite.part Tryz.underlying47 (by subst hx; exact hz) (j := 0) rfl rfl)
      obtain ⟨q1, rfl, f1⟩ := trod_str_u h1 (Lite.part Tryz.underlying47 (by subst hx; exact hz) (j := 1) rfl rfl)
      exact ⟨(q0, q1), rfl, rfl, f0, f1⟩) h hli
  refine ⟨ps, ⟨a, c, rfl, h1, fun q => ?_⟩, h2, fun q hq => ?_⟩
  · obtain ⟨g, o, ha, hg, hc⟩ := h3 q
    refine ⟨g, o, ha, hg, fun j x hx => ?_⟩
    obtain ⟨f, ⟨p0, p1, _⟩, hcell⟩ := hc j x hx
    exact ⟨(hcell 0 (by omega)).trans p0, (hcell 1 (by omega)).trans p1⟩
  · obtain ⟨f, _, _, p⟩ := h4 q hq
    exact p
set_option maxRecDepth 100000 in
theorem cell_perssU {fuel : Nat} {v : Value} {y : DataW H × List MemPlace} (h : DataW.trod enc Tryz.prog w base spare held fuel 41 [v] = some y) (hli : Lite 41 y.1) : ∃ ps : List P4, Perss w v ps ∧ ps.length ≤ 1048576 ∧ ∀ q ∈ ps, FitU4 q := by
  obtain ⟨ps, a, c, rfl, h1, h2, h3, h4⟩ := open_rowsU (α := P4) (fun q f => f 0 = some (.string (bs q.1)) ∧ f 1 = some (.string (bs q.2.1)) ∧ f 2 = some (.string (bs q.2.2.1)) ∧ f 3 = some (.string (bs q.2.2.2)) ∧ FitU4 q) Tryz.underlying41 Tryz.cellsPers (by omega) (by
    intro n cs z hl ht hz
    obtain ⟨y0, y1, y2, y3, n', hx, _, h0, h1, h2, h3⟩ := trod_struct4 Tryz.underlying36 ht
    match cs, hl with
    | [v0, v1, v2, v3], _ =>
      simp only [Tryz.cellsStr, List.drop_succ_cons, List.drop_zero, List.take_succ_cons, List.take_zero] at h0 h1 h2 h3
      obtain ⟨q0, rfl, f0⟩ := trod_str_u h0 (Lite.part Tryz.underlying36 (by subst hx; exact hz) (j := 0) rfl rfl)
      obtain ⟨q1, rfl, f1⟩ := trod_str_u h1 (Lite.part Tryz.underlying36 (by subst hx; exact hz) (j := 1) rfl rfl)
      obtain ⟨q2, rfl, f2⟩ := trod_str_u h2 (Lite.part Tryz.underlying36 (by subst hx; exact hz) (j := 2) rfl rfl)
      obtain ⟨q3, rfl, f3⟩ := trod_str_u h3 (Lite.part Tryz.underlying36 (by subst hx; exact hz) (j := 3) rfl rfl)
      exact ⟨(q0, q1, q2, q3), rfl, rfl, rfl, rfl, f0, f1, f2, f3⟩) h hli
  refine ⟨ps, ⟨a, c, rfl, h1, fun q => ?_⟩, h2, fun q hq => ?_⟩
  · obtain ⟨g, o, ha, hg, hc⟩ := h3 q
    refine ⟨g, o, ha, hg, fun j x hx => ?_⟩
    obtain ⟨f, ⟨p0, p1, p2, p3, _⟩, hcell⟩ := hc j x hx
    exact ⟨(hcell 0 (by omega)).trans p0, (hcell 1 (by omega)).trans p1, (hcell 2 (by omega)).trans p2, (hcell 3 (by omega)).trans p3⟩
  · obtain ⟨f, _, _, _, _, p⟩ := h4 q hq
    exact p
set_option maxRecDepth 100000 in
theorem open_srcsU {r : Reach} {b0 : Nat} {v : Value} {d : DataW H} {p : List MemPlace} (hv : Value.okWide Tryz.prog w r b0 23 v) (h : DataW.Trod enc Tryz.prog w base spare held 23 v d p) (hli : Lite 23 d) :
    ∃ ss : List SrcT, Srcs w v ss ∧ ss.length ≤ 1048576 ∧ ∀ s ∈ ss, FitU s := by
  obtain ⟨a0, l0, c0, rfl⟩ := okWide_slice Tryz.underlying23 hv
  obtain ⟨fuel, hf⟩ := h
  simp only [Value.cells] at hf
  obtain ⟨ss, a, c, hv2, h1, h2, h3, h4⟩ := open_rowsU (α := SrcT) (fun s f => (∃ vA vE vF, f 0 = some (.string (bs s.key)) ∧ f 1 = some (.string (bs s.type)) ∧ f 2 = some vA ∧ f 3 = some vE ∧ f 4 = some vF ∧ Perss w vA s.author ∧ Perss w vE s.editor ∧ Prs w vF s.fields) ∧ FitU s) Tryz.underlying23 Tryz.cellsSrc (by omega) (by
    intro n cs z hl ht hz
    obtain ⟨y0, y1, y2, y3, y4, n', hx, h0, h1, h2, h3, h4⟩ := trod_struct5 Tryz.underlying44 ht
    match cs, hl with
    | [v0, v1, v2, v3, v4], _ =>
      simp only [Tryz.cellsStr, Tryz.cellsLp, Tryz.cellsLf, List.drop_succ_cons, List.drop_zero, List.take_succ_cons, List.take_zero] at h0 h1 h2 h3 h4
      obtain ⟨q0, rfl, f0⟩ := trod_str_u h0 (Lite.part Tryz.underlying44 (by rw [hx] at hz; exact hz) (j := 0) rfl rfl)
      obtain ⟨q1, rfl, f1⟩ := trod_str_u h1 (Lite.part Tryz.underlying44 (by rw [hx] at hz; exact hz) (j := 1) rfl rfl)
      obtain ⟨q2, p2, l2, f2⟩ := cell_perssU h2 (Lite.part Tryz.underlying44 (by rw [hx] at hz; exact hz) (j := 2) rfl rfl)
      obtain ⟨q3, p3, l3, f3⟩ := cell_perssU h3 (Lite.part Tryz.underlying44 (by rw [hx] at hz; exact hz) (j := 3) rfl rfl)
      obtain ⟨q4, p4, l4, f4⟩ := cell_pairsU h4 (Lite.part Tryz.underlying44 (by rw [hx] at hz; exact hz) (j := 4) rfl rfl)
      refine ⟨⟨q0, q1, q2, q3, q4⟩, ⟨v2, v3, v4, rfl, rfl, rfl, rfl, rfl, p2, p3, p4⟩, ?_⟩
      exact ⟨f0, f1, l2, l3, l4, f4, fun q hq => (List.mem_append.1 hq).elim (fun h => f2 q h) (fun h => f3 q h)⟩) hf hli
  refine ⟨ss, ⟨a, c, hv2, h1, fun q => ?_⟩, h2, fun s hs => ?_⟩
  · obtain ⟨g, o, ha, hg, hc⟩ := h3 q
    refine ⟨g, o, ha, hg, fun j x hx => ?_⟩
    obtain ⟨f, ⟨⟨vA, vE, vF, p0, p1, p2, p3, p4, p5⟩, _⟩, hcell⟩ := hc j x hx
    exact ⟨vA, vE, vF, (hcell 0 (by omega)).trans p0, (hcell 1 (by omega)).trans p1, (hcell 2 (by omega)).trans p2, (hcell 3 (by omega)).trans p3, (hcell 4 (by omega)).trans p4, p5⟩
  · obtain ⟨f, _, p⟩ := h4 s hs
    exact p
end
end Go.Proofs.YtgkgcheegaegnaaGreatDoor

/- What every row of this seat needs: the arguments read behind a call that keeps what was there as they did before; the world of the witness; the variable that the library's search reads. No condition. -/
set_option linter.all false
namespace Go.Proofs.YtgkgcheegaegnaaGreatDoor
open Go.ChangeShapes Go.WideShapes Go.ChangeAt Go.RowKit

theorem Tryz.ownNone : ownKnob Tryz.prog.godebug = none := by kernel_rfl
theorem Tryz.laidOut : laidOutB Tryz.prog = true := by kernel_rfl

section
variable {H : Type} {enc : TypeId × Value → H} {P : Program}
theorem trodAll_stays (hl : laidOutB P = true) {W W' : World} {sp : Nat → Bool} : ∀ {ts : List TypeId} {vs : List Value} {ds : List (DataW H)} {p : List MemPlace},
    (∀ t ∈ ts, P.readableRec t = true ∧ t < P.types.size) → DataW.TrodAll enc P W 0 (fun _ => true) true ts vs ds p → (∀ x ∈ p, W.sameAt W' x) → (∀ x ∈ p, sp x.block = true) → DataW.TrodAll enc P W' 0 sp true ts vs ds p
  | [], vs, ds, p, _, h, _, _ => by
    obtain ⟨rfl, rfl, rfl⟩ := trodAll_nil h
    exact trodAll_mk0
  | t :: ts, vs, ds, p, hr, h, hs, hp => by
    obtain ⟨v, vs', d, ds', p1, p2, rfl, rfl, rfl, h0, h1⟩ := trodAll_cons h
    have h0' := WideElems.Trod_stays hl (hr t (by simp)).1 (hr t (by simp)).2 h0 (fun x hx => hs x (by simp [hx])) (sp' := sp) (fun x hx => hp x (by simp [hx]))
    exact trodAll_cons_mk h0' (trodAll_stays hl (fun t ht => hr t (by simp [ht])) h1 (fun x hx => hs x (by simp [hx])) (fun x hx => hp x (by simp [hx])))

/-- The post of a law: it answers true, and what was there is as it was. -/
theorem law_post {f : Func} {s : ChangeSpec} {apart fresh handsOn again : Bool} {W W' : World} {args : Array Value} {ds gs : List (DataW H)} {before : List MemPlace} {bt : TypeId}
    (hl : laidOutB P = true) (hread : ∀ t ∈ f.params.toList, P.readableRec t = true ∧ t < P.types.size) (hr : f.resultTypes = #[bt]) (hbt : P.underlying bt = some .bool) (hsv : s.vars = [])
    (hW : DataW.Whole enc P f.params.toList s.vars apart W args.toList ds gs before) (hs : s.fn H ds = { results := [.lit (.bool true)], args := ds }) (hb : Kept W W') :
    s.post enc P f apart fresh handsOn again W args (.bool true) W' := by
  have hW' := hW
  have hlt : ∀ p ∈ before, p.block < W.heap.size := fun p hp => hW'.lt p hp
  have hold : ∀ p ∈ before, (fun b => decide (b < W.heap.size)) p.block = true := fun p hp => by simpa using hlt p hp
  obtain ⟨pa, pv, hA, hV, hbe, hz, hn⟩ := hW
  rw [hsv] at hV
  obtain ⟨rfl, rfl⟩ := trodVars_none hV
  rw [List.append_nil] at hbe
  subst hbe
  have hs' : s.fn H (ds ++ []) = { results := [.lit (.bool true)], args := ds } := by rw [List.append_nil]; exact hs
  have hres : ∀ (b : Nat) (sp : Nat → Bool) (hd : Bool), DataW.TrodAll enc P W' b sp hd f.resultTypes.toList ((Value.bool true).resultList f.resultTypes.size) (s.fn H (ds ++ [])).results [] := by
    intro b sp hd
    rw [hs', hr]
    exact trodAll_cons_mk (shut_bool hbt _) trodAll_mk0
  have hargs : ∀ sp : Nat → Bool, (∀ p ∈ before, sp p.block = true) → DataW.TrodAll enc P W' 0 sp true f.params.toList args.toList (s.fn H (ds ++ [])).args before := by
    intro sp hsp
    rw [hs']
    exact trodAll_stays hl hread hA (fun x hx => hb.same (hlt x hx)) hsp
  have hvars : ∀ sp : Nat → Bool, DataW.TrodVars enc P W' sp s.vars (s.fn H (ds ++ [])).vars [] := by
    intro sp
    rw [hs', hsv]
    rfl
  have hok := ok_one (P := P) (W' := W') (v := .bool true) hr rfl (okWide_bool_mk hbt _)
  refine ⟨ds, [], before, [], before, [], hW', hres _ _ _, hargs _ hold, hvars _, World.keptBut_mono (fun p hp => ⟨hp, ?_⟩) (hb.frame (· ∈ before)), fun _ => ?_⟩
  · exact Or.inr (Or.inl hp)
  · refine ⟨hok, _, _, ([] ++ before) ++ [], ⟨[] ++ before, [], trodAll_append (hargs _ (fun _ _ => rfl)) (hres _ _ _), hvars _, rfl, ?_, ?_⟩, ?_⟩
    · intro b off hp
      have hin : MemPlace.cell b off ∈ before := by simpa using hp
      rw [hb.frozen (hlt _ hin)]
      exact hz b off hin
    · intro ha
      have := hn ha
      simpa using this
    · intro p hp _
      simpa using hp
end

theorem gnd_of {W : World} (h : W.ShapedOpen Tryz.prog) : Gnd W :=
  Go.Proofs.cell_of_shapedOpen_int (zero := #[.int .i64 0]) (t := 3) h (of_decide_eq_true (by kernel_rfl)) (by kernel_rfl) rfl (by kernel_rfl) (by kernel_rfl) Tryz.underlying3

/-- The cells of the two tables of utf8. -/
def firstCells : Array Value := (Go.Pinned.utf8FirstZ.map fun (n : Nat) => Value.int .u8 (n : Int)).toArray
def acceptCells : Array Value := #[.int .u8 128, .int .u8 191, .int .u8 160, .int .u8 191, .int .u8 128, .int .u8 159, .int .u8 144, .int .u8 191, .int .u8 128, .int .u8 143, .int .u8 0, .int .u8 0, .int .u8 0, .int .u8 0, .int .u8 0, .int .u8 0, .int .u8 0, .int .u8 0, .int .u8 0, .int .u8 0, .int .u8 0, .int .u8 0, .int .u8 0, .int .u8 0, .int .u8 0, .int .u8 0, .int .u8 0, .int .u8 0, .int .u8 0, .int .u8 0, .int .u8 0, .int .u8 0]
def putCells (cs : Array Value) : Obj → Obj
  | .cells _ t frozen => .cells cs t frozen
  | o => o
/-- A world for the witness: the settled one, the two tables holding what their initialisers lay. -/
noncomputable def laidWorld (os : Os) : World :=
  { World.holding Tryz.prog os ⟨#[], #[], []⟩ with heap := ((World.holding Tryz.prog os ⟨#[], #[], []⟩).heap.modify 1 (putCells firstCells)).modify 2 (putCells acceptCells) }
theorem laid_met (os : Os) (args : Array Value) : laidMet Tryz.prog [("unicode/utf8.acceptRanges", Rows.laid_unicode_utf8_acceptRanges), ("unicode/utf8.first", Rows.laid_unicode_utf8_first)] ((laidWorld os).forCall (fun _ _ => 0) ⟨#[], args, []⟩).memory :=
  laidMet_of_run' 8 (by kernel_rfl) (by kernel_rfl)
end Go.Proofs.YtgkgcheegaegnaaGreatDoor
