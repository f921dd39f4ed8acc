/- A slice of persons, opened. No condition. -/
import Derived.Test.YtflpkadknljpbaaDoorOpen
import Derived.Test.YtflpkadknljpbaaDoorPList
import Derived.Deep.Slices
set_option linter.all false
namespace Go.Proofs.YtflpkadknljpbaaDoor
open Go.ChangeShapes Go.WideShapes Go.ChangeAt Go.RowKit Go.Joins

theorem spot_none (a : Addr) (w : World) (v : Value) (h : w.cell? a = some v) : a = ⟨a.block, a.off, none⟩ := by
  obtain ⟨b, o, s⟩ := a
  cases s with
  | none => rfl
  | some s =>
    exfalso
    unfold World.cell? at h
    split at h
    · simp at h
    · cases h
theorem add_two (b o i k : Nat) : ((⟨b, o, none⟩ : Addr).add i).add k = ⟨b, o + i + k, none⟩ := by
  unfold Addr.add
  by_cases h1 : i = 0 <;> by_cases h2 : k = 0 <;> simp [h1, h2]
section
variable {H : Type} {enc : TypeId × Value → H} {w : World} {base : Nat} {spare : Nat → Bool} {held : Bool}
set_option maxRecDepth 100000 in
theorem open_perss {r : Reach} {b0 : Nat} {v : Value} {d : DataW H} {p : List MemPlace} (hv : Value.okWide Tryd.prog w r b0 35 v) (h : DataW.Trod enc Tryd.prog w base spare held 35 v d p) :
    ∃ ps : List P4, Perss w v ps ∧ ps.length ≤ maxLen ∧ ∀ q ∈ ps, Fit4 q := by
  obtain ⟨a0, l0, c0, rfl⟩ := okWide_slice Tryd.underlying35 hv
  obtain ⟨fuel, hf⟩ := h
  rcases Go.Deep.open_slice Tryd.underlying35 hf with ⟨h0, _⟩ | ⟨a, len, cap, m, n, D, Pl, hcs, hb, hl, hm, hmm, hx, hi⟩
  · simp [Value.cells] at h0
    obtain ⟨rfl, rfl, rfl⟩ := h0
    exact ⟨[], ⟨none, 0, rfl, Nat.le_refl _, fun q => absurd q (by simp)⟩, by simp, by simp⟩
  · simp [Value.cells] at hcs
    obtain ⟨rfl, rfl, rfl⟩ := hcs
    have hspot : 0 < l0 → a = ⟨a.block, a.off, none⟩ := by
      intro hpos
      obtain ⟨cs', hc, ht⟩ := hi 0 (by rw [hmm]; split <;> omega)
      rw [Tryd.cellsPers] at hc
      obtain ⟨_, hcl, hat⟩ := World.cells?_some hc
      have e : (a.add (0 * 4)).add 0 = a := by unfold Addr.add; simp
      have h0 := hat 0 (by omega)
      rw [e, List.getElem?_eq_getElem (by omega)] at h0
      exact spot_none a w _ h0
    have each : ∀ i, i < l0 → ∃ q : P4, Fit4 q ∧ a = ⟨a.block, a.off, none⟩ ∧ w.cell? ⟨a.block, a.off + i * 4, none⟩ = some (.string (bs q.1)) ∧ w.cell? ⟨a.block, a.off + i * 4 + 1, none⟩ = some (.string (bs q.2.1)) ∧ w.cell? ⟨a.block, a.off + i * 4 + 2, none⟩ = some (.string (bs q.2.2.1)) ∧ w.cell? ⟨a.block, a.off + i * 4 + 3, none⟩ = some (.string (bs q.2.2.2)) := by
      intro i hil
      have him : i < m := by rw [hmm]; split <;> omega
      obtain ⟨cs', hc, ht⟩ := hi i him
      rw [Tryd.cellsPers] at hc
      obtain ⟨_, hcl, hat⟩ := World.cells?_some hc
      obtain ⟨y0, y1, y2, y3, n', _, _, h0, h1, h2, h3⟩ := trod_struct4 Tryd.underlying24 ht
      match cs', hcl with
      | [v0, v1, v2, v3], _ =>
        have k1 : Tryd.prog.cellsOf 9 = 1 := by kernel_rfl
        simp only [k1, List.drop_succ_cons, List.drop_zero, List.take_succ_cons, List.take_zero] at h0 h1 h2 h3
        obtain ⟨q0, rfl, f0⟩ := trod_str h0
        obtain ⟨q1, rfl, f1⟩ := trod_str h1
        obtain ⟨q2, rfl, f2⟩ := trod_str h2
        obtain ⟨q3, rfl, f3⟩ := trod_str h3
        have e0 : w.cell? ((a.add (i * 4)).add 0) = some (.string (bs q0)) := by rw [hat 0 (by omega)]; rfl
        have e1 : w.cell? ((a.add (i * 4)).add 1) = some (.string (bs q1)) := by rw [hat 1 (by omega)]; rfl
        have e2 : w.cell? ((a.add (i * 4)).add 2) = some (.string (bs q2)) := by rw [hat 2 (by omega)]; rfl
        have e3 : w.cell? ((a.add (i * 4)).add 3) = some (.string (bs q3)) := by rw [hat 3 (by omega)]; rfl
        have ha := hspot (by omega)
        have ad : ∀ k, (a.add (i * 4)).add k = ⟨a.block, a.off + i * 4 + k, none⟩ := by
          intro k
          have h := add_two a.block a.off (i * 4) k
          rw [← ha] at h; exact h
        rw [ad] at e0 e1 e2 e3
        exact ⟨(q0, q1, q2, q3), ⟨f0, f1, f2, f3⟩, ha, e0, e1, e2, e3⟩
    obtain ⟨f, hfq⟩ : ∃ f : Nat → P4, ∀ i, i < l0 → Fit4 (f i) ∧ a = ⟨a.block, a.off, none⟩ ∧ w.cell? ⟨a.block, a.off + i * 4, none⟩ = some (.string (bs (f i).1)) ∧ w.cell? ⟨a.block, a.off + i * 4 + 1, none⟩ = some (.string (bs (f i).2.1)) ∧ w.cell? ⟨a.block, a.off + i * 4 + 2, none⟩ = some (.string (bs (f i).2.2.1)) ∧ w.cell? ⟨a.block, a.off + i * 4 + 3, none⟩ = some (.string (bs (f i).2.2.2)) := by
      refine ⟨fun i => if hil : i < l0 then Classical.choose (each i hil) else zero4, fun i hil => ?_⟩
      simp only [dif_pos hil]
      exact Classical.choose_spec (each i hil)
    refine ⟨(List.range l0).map f, ⟨some a, c0, by simp, by simp; omega, fun hpos => ?_⟩, by simp; omega, ?_⟩
    · simp at hpos
      obtain ⟨_, ha, _⟩ := hfq 0 hpos
      refine ⟨a.block, a.off, by rw [← ha], ?_, fun j q hj => ?_⟩
      · obtain ⟨_, _, e0, _⟩ := hfq 0 hpos
        exact World.block_lt_of_cell? w (a := ⟨a.block, a.off + 0 * 4, none⟩) e0
      · rw [List.getElem?_map, Option.map_eq_some_iff] at hj
        obtain ⟨i, hi1, rfl⟩ := hj
        obtain ⟨hi2, hi3⟩ := List.getElem?_eq_some_iff.1 hi1
        simp at hi2 hi3
        subst hi3
        exact (hfq j hi2).2.2
    · intro q hq
      obtain ⟨i, hi1, rfl⟩ := List.mem_map.1 hq
      exact (hfq i (by simpa using hi1)).1
end
end Go.Proofs.YtflpkadknljpbaaDoor
