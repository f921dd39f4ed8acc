/- The law BibText answers true of every bibliography whose texts have at most 1048576 bytes. Conditions: lengths. -/
import Derived.Test.YtgkgcheegaegnaaGreatDoorT31
import Derived.Test.YtgkgcheegaegnaaGreatDoorT36
import Derived.Test.YtgkgcheegaegnaaGreatDoorT37
import Derived.Test.YtgkgcheegaegnaaGreatDoorT41
import Derived.Test.YtgkgcheegaegnaaGreatDoorT39
import Derived.Deep.Slices
import Derived.SizedLaws

set_option linter.all false
namespace Go.Proofs.YtgkgcheegaegnaaGreatDoor
open Go.RowKit

theorem sum_le {α : Type} (f : α → Nat) (n : Nat) : ∀ l : List α, (∀ x ∈ l, f x ≤ n) → (l.map f).sum ≤ l.length * n
  | [], _ => by simp
  | x :: l, h => by
    have ih := sum_le f n l (fun y hy => h y (by simp [hy]))
    have h1 := h x (by simp)
    rw [List.map_cons, List.sum_cons, List.length_cons, Nat.add_mul]; omega
theorem srcW_le (s : SrcT) (h : SmallS s) (hl : lens s ≤ 1500) : srcW s ≤ 7000000000 := by
  obtain ⟨m1, m2, m3, l1, l2, l3, l4, l5⟩ := h
  unfold lens at hl
  have a1 : persW s.author ≤ s.author.length * 4400020 := sum_le (fun p => size4 p + 20) 4400020 s.author (fun p hp => by have := m1 p hp; simp only [size4]; omega)
  have a2 : persW s.editor ≤ s.editor.length * 4400020 := sum_le (fun p => size4 p + 20) 4400020 s.editor (fun p hp => by have := m2 p hp; simp only [size4]; omega)
  have a3 : fldW s.fields ≤ s.fields.length * 2200005 := sum_le (fun f : Pr => f.1.length + f.2.length + 5) 2200005 s.fields (fun p hp => by have := m3 p hp; omega)
  unfold srcW
  omega
theorem out_le (ss : List SrcT) (h30 : ss.length ≤ 30) (h : ∀ s ∈ ss, SmallS s) (hl : ∀ s ∈ ss, lens s ≤ 1500) : (joinLn (outL ss)).length ≤ 1000000000000 := by
  have h1 := text_weight ss
  have h2 : listW ss ≤ ss.length * 7000000000 := sum_le srcW 7000000000 ss (fun s hs => srcW_le s (h s hs) (hl s hs))
  omega
set_option maxRecDepth 100000 in
set_option maxHeartbeats 6400000 in
theorem lbtext_any (v : Value) (ss : List SrcT) (w : World) (hg : Gnd w) (hv : Srcs w v ss) (hl : ss.length ≤ 140737488355328) (hfit : ∀ s ∈ ss, FitS s) (hsm : ∀ s ∈ ss, SmallS s) :
    Calls Tryz.prog 4 #[v] w fun e w' => e = .returned (.bool true) ∧ Kept w w' := by
  have HG := Lib.hid hg
  have HV := Lib.hid hv
  have HAW : Hid (∀ w', Kept w w' → Calls Tryz.prog 6 #[] w' fun e w2 => e = .returned (.bool true) ∧ Kept w' w2) := fun w' h => bawake_any w' (HG.out.kept h)
  have HSM := Lib.hid (small_any v ss w hv hl hfit)
  unfold SmallPost at HSM
  go_enter Tryz.func4, Tryz.ntmps4
  go_wp2_with fail
  refine HSM.out.mono ?_
  rintro e w1 ⟨b, rfl, hb, hk1⟩
  have HK1 := Lib.hid hk1
  clear hk1
  cases b
  · go_wp2_with fail
    refine (HAW.out _ HK1.out).mono ?_
    rintro e w2 ⟨rfl, hk2⟩
    have HK2 := Lib.hid (HK1.out.trans hk2)
    clear hk2
    go_wp2_with fail
    go_ret
    exact ⟨rfl, HK2.out⟩
  obtain ⟨h30, h1500⟩ := hb rfl
  have HT := Lib.hid (fun w' (h : Kept w w') => btext_any v ss w' (HG.out.kept h) (HV.out.kept h) hsm (by omega) (out_le ss h30 hsm h1500))
  have HRT := Lib.hid (fun w' (h : Kept w w') => rbtext_any v ss w' (HV.out.kept h) hsm (by omega) (out_le ss h30 hsm h1500))
  have HC := Lib.hid (fun w' (h : Kept w w') => check_any v ss w' (HG.out.kept h) (HV.out.kept h) hsm (by omega))
  have HRC := Lib.hid (fun w' (h : Kept w w') => rcheck_any v ss w' (HV.out.kept h) hsm (by omega))
  clear hb h30 h1500 HSM
  generalize textL ss = T at *
  generalize checkE ss = E at *
  go_wp2_with fail
  refine (HT.out _ HK1.out).mono ?_
  rintro e w2 ⟨rfl, hk⟩
  have HK2 := Lib.hid (HK1.out.trans hk)
  clear hk
  go_wp2_with fail
  refine (HRT.out _ HK2.out).mono ?_
  rintro e w3 ⟨rfl, hk⟩
  have HK3 := Lib.hid (HK2.out.trans hk)
  clear hk
  go_wp2_with fail
  refine (HC.out _ HK3.out).mono ?_
  rintro e w4 ⟨rfl, hk⟩
  have HK4 := Lib.hid (HK3.out.trans hk)
  clear hk
  go_wp2_with fail
  refine (HRC.out _ HK4.out).mono ?_
  rintro e w5 ⟨rfl, hk⟩
  have HK5 := Lib.hid (HK4.out.trans hk)
  clear hk
  go_wp2_with fail
  refine (HAW.out _ HK5.out).mono ?_
  rintro e w6 ⟨rfl, hk⟩
  have HK6 := Lib.hid (HK5.out.trans hk)
  clear hk
  go_wp2_with fail
  go_ret
  exact ⟨rfl, HK6.out⟩
end Go.Proofs.YtgkgcheegaegnaaGreatDoor

/- Slices of pairs, persons and sources, opened. No condition. -/
set_option linter.all false
namespace Go.Proofs.YtgkgcheegaegnaaGreatDoor
open Go.ChangeShapes Go.WideShapes Go.ChangeAt Go.RowKit Go.Joins

theorem spot_bare (a : Addr) (w : World) (v : Value) (h : w.cell? a = some v) : a = ⟨a.block, a.off, none⟩ := by
  obtain ⟨b, o, s⟩ := a
  cases s with
  | none => rfl
  | some s =>
    exfalso
    unfold World.cell? at h
    split at h
    · simp at h
    · cases h
theorem add_twice_bare (b o i k : Nat) : ((⟨b, o, none⟩ : Addr).add i).add k = ⟨b, o + i + k, none⟩ := by
  unfold Addr.add
  by_cases h1 : i = 0 <;> by_cases h2 : k = 0 <;> simp [h1, h2]
instance : Inhabited SrcT := ⟨⟨[], [], [], [], []⟩⟩
def Fit47 (q : P4) : Prop := q.1.length ≤ 140737488355328 ∧ q.2.1.length ≤ 140737488355328 ∧ q.2.2.1.length ≤ 140737488355328 ∧ q.2.2.2.length ≤ 140737488355328
/-- Each text and each list that is read has a length that a machine can tell. -/
def Light {H : Type} (t : TypeId) (d : DataW H) : Prop := ∀ m ∈ d.weights Tryz.prog t, m ≤ 140737488355328
theorem weightsAll_mem {H : Type} {e : TypeId} {d : DataW H} {n : Nat} : ∀ {l : List (DataW H)}, d ∈ l → n ∈ d.weights Tryz.prog e → n ∈ DataW.weightsAll Tryz.prog e l
  | [], h, _ => by cases h
  | x :: r, h, hn => by
    simp only [DataW.weightsAll, List.mem_append]
    rcases List.mem_cons.1 h with q | q
    · subst q; exact .inl hn
    · exact .inr (weightsAll_mem q hn)
theorem Light.part {H : Type} {t : TypeId} {fs : Array Field} {ps : List (DataW H)} (ht : Tryz.prog.underlying t = some (.struct fs)) (h : Light t (.agg ps)) {j : Nat} {u : TypeId} {d : DataW H} (hu : (fs.toList.map (·.type))[j]? = some u) (hd : ps[j]? = some d) : Light u d := by
  intro m hm
  apply h
  simp only [DataW.weights, ht]
  exact DataW.weights_mem_each hu hd m hm
theorem Light.str {H : Type} {l : List UInt8} {t : TypeId} (h : Light t (DataW.lit (H := H) (.string l))) : l.length ≤ 140737488355328 := h _ (by simp [DataW.weights])
section
variable {H : Type} {enc : TypeId × Value → H} {w : World} {base : Nat} {spare : Nat → Bool} {held : Bool}
theorem trod_str_l {n : Nat} {v : Value} {y : DataW H × List MemPlace} (h : DataW.trod enc Tryz.prog w base spare held n 9 [v] = some y) (hl : Light 9 y.1) : ∃ l : Bs, v = .string (bs l) ∧ l.length ≤ 140737488355328 := by
  obtain ⟨s, h1, h2, h3⟩ := DataW.trod_string Tryz.underlying9 h
  simp at h1
  subst h2
  exact ⟨s.data.toList, h1, hl.str⟩
theorem open_rows {α : Type} [Inhabited α] {t e : TypeId} {k fuel : Nat} {v : Value} {y : DataW H × List MemPlace} (p : α → (Nat → Option Value) → Prop) (ht : Tryz.prog.underlying t = some (.slice e)) (hk : Tryz.prog.cellsOf e = k) (hk0 : 0 < k)
    (hel : ∀ n (cs : List Value) (z : DataW H × List MemPlace), cs.length = k → DataW.trod enc Tryz.prog w base spare held n e cs = some z → Light e z.1 → ∃ x, p x (fun j => cs[j]?)) (hby : 1 ≤ Tryz.prog.bytesOf e)
    (h : DataW.trod enc Tryz.prog w base spare held fuel t [v] = some y) (hli : Light t y.1) :
    ∃ (xs : List α) (a : Option Addr) (c : Nat), v = .slice a xs.length c ∧ xs.length ≤ c ∧ xs.length ≤ 140737488355328 ∧ (0 < xs.length → ∃ g o, a = some ⟨g, o, none⟩ ∧ g < w.heap.size ∧ ∀ j x, xs[j]? = some x → ∃ f : Nat → Option Value, p x f ∧ ∀ i, i < k → w.cell? ⟨g, o + j * k + i, none⟩ = f i) ∧ ∀ x ∈ xs, ∃ f, p x f := by
  rcases Go.Deep.open_slice ht h with ⟨h0, _⟩ | ⟨a, len, cap, m, n, D, Pl, hcs, hb, hl, hm, hmm, hx, hi⟩
  · simp at h0
    subst h0
    exact ⟨[], none, 0, rfl, Nat.le_refl _, by simp, fun q => absurd q (by simp), by simp⟩
  · simp at hcs
    subst hcs
    rw [hk] at hi
    subst hx
    have hlen : len ≤ 140737488355328 := by
      have h1 := hli ((((List.range len).map D).length + ((List.range (m - len)).map fun j => D (len + j)).length) * Tryz.prog.bytesOf e) (by simp [DataW.weights, ht])
      have h2 : len * 1 ≤ (((List.range len).map D).length + ((List.range (m - len)).map fun j => D (len + j)).length) * Tryz.prog.bytesOf e := Nat.mul_le_mul (by simp) hby
      omega
    have hel2 : ∀ i, i < len → Light e (D i) := by
      intro i hil n hn
      apply hli
      simp only [DataW.weights, ht, List.mem_cons, List.mem_append]
      exact .inr (.inl (weightsAll_mem (List.mem_map.2 ⟨i, List.mem_range.2 hil, rfl⟩) hn))
    have each : ∀ i, i < len → ∃ x : α, ∃ f : Nat → Option Value, p x f ∧ a = ⟨a.block, a.off, none⟩ ∧ ∀ j, j < k → w.cell? ⟨a.block, a.off + i * k + j, none⟩ = f j := by
      have hspot : 0 < len → a = ⟨a.block, a.off, none⟩ := by
        intro hpos
        obtain ⟨cs', hc, _⟩ := hi 0 (by rw [hmm]; split <;> omega)
        obtain ⟨_, hcl, hat⟩ := World.cells?_some hc
        have e : (a.add (0 * k)).add 0 = a := by unfold Addr.add; simp
        have h0 := hat 0 (by omega)
        rw [e, List.getElem?_eq_getElem (by omega)] at h0
        exact spot_bare a w _ h0
      intro i hil
      obtain ⟨cs', hc, htr⟩ := hi i (by rw [hmm]; split <;> omega)
      obtain ⟨_, hcl, hat⟩ := World.cells?_some hc
      obtain ⟨x, hx⟩ := hel n cs' _ hcl htr (hel2 i hil)
      have ha := hspot (by omega)
      refine ⟨x, _, hx, ha, fun j hj => ?_⟩
      have h1 := hat j hj
      have h2 := add_twice_bare a.block a.off (i * k) j
      rw [← ha] at h2
      rw [h2] at h1; exact h1
    obtain ⟨f, hf⟩ := Go.Deep.choose_lt each
    refine ⟨(List.range len).map f, some a, cap, by simp, by simpa using hl, by simpa using hlen, fun hpos => ?_, ?_⟩
    · simp at hpos
      obtain ⟨f0, _, ha, hc0⟩ := hf 0 hpos
      refine ⟨a.block, a.off, by rw [← ha], ?_, fun j x hj => ?_⟩
      · obtain ⟨cs', hc, _⟩ := hi 0 (by rw [hmm]; split <;> omega)
        obtain ⟨_, hcl, hat⟩ := World.cells?_some hc
        have e : (a.add (0 * k)).add 0 = a := by unfold Addr.add; simp
        have h0 := hat 0 (by omega)
        rw [e, List.getElem?_eq_getElem (by omega)] at h0
        exact World.block_lt_of_cell? w (a := a) h0
      · rw [List.getElem?_map, Option.map_eq_some_iff] at hj
        obtain ⟨i, hi1, rfl⟩ := hj
        obtain ⟨hi2, hi3⟩ := List.getElem?_eq_some_iff.1 hi1
        simp at hi2 hi3
        subst hi3
        obtain ⟨g, hg, _, hcell⟩ := hf j hi2
        exact ⟨g, hg, hcell⟩
    · intro x hx
      obtain ⟨i, hi1, rfl⟩ := List.mem_map.1 hx
      obtain ⟨g, hg, _⟩ := hf i (by simpa using hi1)
      exact ⟨g, hg⟩
theorem Tryz.cellsPair : Tryz.prog.cellsOf 47 = 2 := by kernel_rfl
theorem Tryz.cellsSrc : Tryz.prog.cellsOf 44 = 5 := by kernel_rfl
theorem Tryz.cellsStr : Tryz.prog.cellsOf 9 = 1 := by kernel_rfl
theorem Tryz.cellsLp : Tryz.prog.cellsOf 41 = 1 := by kernel_rfl
theorem Tryz.cellsLf : Tryz.prog.cellsOf 42 = 1 := by kernel_rfl
theorem trod_struct5 {t : TypeId} {f0 f1 f2 f3 f4 : Field} {fuel : Nat} {cs : List Value} {x : DataW H × List MemPlace} (ht : Tryz.prog.underlying t = some (.struct #[f0, f1, f2, f3, f4])) (h : DataW.trod enc Tryz.prog w base spare held fuel t cs = some x) :
    ∃ y0 y1 y2 y3 y4 n, x.1 = .agg [y0.1, y1.1, y2.1, y3.1, y4.1] ∧ DataW.trod enc Tryz.prog w base spare held n f0.type ((cs.drop f0.offset).take (Tryz.prog.cellsOf f0.type)) = some y0 ∧ DataW.trod enc Tryz.prog w base spare held n f1.type ((cs.drop f1.offset).take (Tryz.prog.cellsOf f1.type)) = some y1 ∧ DataW.trod enc Tryz.prog w base spare held n f2.type ((cs.drop f2.offset).take (Tryz.prog.cellsOf f2.type)) = some y2 ∧
      DataW.trod enc Tryz.prog w base spare held n f3.type ((cs.drop f3.offset).take (Tryz.prog.cellsOf f3.type)) = some y3 ∧ DataW.trod enc Tryz.prog w base spare held n f4.type ((cs.drop f4.offset).take (Tryz.prog.cellsOf f4.type)) = some y4 := by
  obtain ⟨xs, n, _, rfl, hl, hlen, hf⟩ := DataW.trod_struct ht h
  match xs, hlen with
  | [y0, y1, y2, y3, y4], _ => exact ⟨y0, y1, y2, y3, y4, n, by simp, by simpa using hf 0 f0 rfl, by simpa using hf 1 f1 rfl, by simpa using hf 2 f2 rfl, by simpa using hf 3 f3 rfl, by simpa using hf 4 f4 rfl⟩
set_option maxRecDepth 100000 in
theorem cell_pairs {fuel : Nat} {v : Value} {y : DataW H × List MemPlace} (h : DataW.trod enc Tryz.prog w base spare held fuel 42 [v] = some y) (hli : Light 42 y.1) : ∃ ps : List Pr, Prs w v ps ∧ ps.length ≤ 140737488355328 ∧ ∀ q ∈ ps, q.1.length ≤ 140737488355328 ∧ q.2.length ≤ 140737488355328 := by
  obtain ⟨ps, a, c, rfl, h1, h2, h3, h4⟩ := open_rows (α := Pr) (fun q f => f 0 = some (.string (bs q.1)) ∧ f 1 = some (.string (bs q.2)) ∧ q.1.length ≤ 140737488355328 ∧ q.2.length ≤ 140737488355328) Tryz.underlying42 Tryz.cellsPair (by omega) (by
    intro n cs z hl ht hz
    obtain ⟨y0, y1, n', hx, _, h0, h1⟩ := Go.ChangeShapes.trod_struct2 Tryz.underlying47 ht
    match cs, hl with
    | [v0, v1], _ =>
      simp only [Tryz.cellsStr, List.drop_succ_cons, List.drop_zero, List.take_succ_cons, List.take_zero] at h0 h1
      obtain ⟨q0, rfl, f0⟩ := trod_str_l h0 (Light.part Tryz.underlying47 (by subst hx; exact hz) (j := 0) rfl rfl)
      obtain ⟨q1, rfl, f1⟩ := trod_str_l h1 (Light.part Tryz.underlying47 (by subst hx; exact hz) (j := 1) rfl rfl)
      exact ⟨(q0, q1), rfl, rfl, f0, f1⟩) (of_decide_eq_true (by kernel_rfl)) h hli
  refine ⟨ps, ⟨a, c, rfl, h1, fun q => ?_⟩, h2, fun q hq => ?_⟩
  · obtain ⟨g, o, ha, hg, hc⟩ := h3 q
    refine ⟨g, o, ha, hg, fun j x hx => ?_⟩
    obtain ⟨f, ⟨p0, p1, _⟩, hcell⟩ := hc j x hx
    exact ⟨(hcell 0 (by omega)).trans p0, (hcell 1 (by omega)).trans p1⟩
  · obtain ⟨f, _, _, p⟩ := h4 q hq
    exact p
set_option maxRecDepth 100000 in
theorem cell_perss {fuel : Nat} {v : Value} {y : DataW H × List MemPlace} (h : DataW.trod enc Tryz.prog w base spare held fuel 41 [v] = some y) (hli : Light 41 y.1) : ∃ ps : List P4, Perss w v ps ∧ ps.length ≤ 140737488355328 ∧ ∀ q ∈ ps, Fit47 q := by
  obtain ⟨ps, a, c, rfl, h1, h2, h3, h4⟩ := open_rows (α := P4) (fun q f => f 0 = some (.string (bs q.1)) ∧ f 1 = some (.string (bs q.2.1)) ∧ f 2 = some (.string (bs q.2.2.1)) ∧ f 3 = some (.string (bs q.2.2.2)) ∧ Fit47 q) Tryz.underlying41 Tryz.cellsPers (by omega) (by
    intro n cs z hl ht hz
    obtain ⟨y0, y1, y2, y3, n', hx, _, h0, h1, h2, h3⟩ := trod_struct4 Tryz.underlying36 ht
    match cs, hl with
    | [v0, v1, v2, v3], _ =>
      simp only [Tryz.cellsStr, List.drop_succ_cons, List.drop_zero, List.take_succ_cons, List.take_zero] at h0 h1 h2 h3
      obtain ⟨q0, rfl, f0⟩ := trod_str_l h0 (Light.part Tryz.underlying36 (by subst hx; exact hz) (j := 0) rfl rfl)
      obtain ⟨q1, rfl, f1⟩ := trod_str_l h1 (Light.part Tryz.underlying36 (by subst hx; exact hz) (j := 1) rfl rfl)
      obtain ⟨q2, rfl, f2⟩ := trod_str_l h2 (Light.part Tryz.underlying36 (by subst hx; exact hz) (j := 2) rfl rfl)
      obtain ⟨q3, rfl, f3⟩ := trod_str_l h3 (Light.part Tryz.underlying36 (by subst hx; exact hz) (j := 3) rfl rfl)
      exact ⟨(q0, q1, q2, q3), rfl, rfl, rfl, rfl, f0, f1, f2, f3⟩) (of_decide_eq_true (by kernel_rfl)) h hli
  refine ⟨ps, ⟨a, c, rfl, h1, fun q => ?_⟩, h2, fun q hq => ?_⟩
  · obtain ⟨g, o, ha, hg, hc⟩ := h3 q
    refine ⟨g, o, ha, hg, fun j x hx => ?_⟩
    obtain ⟨f, ⟨p0, p1, p2, p3, _⟩, hcell⟩ := hc j x hx
    exact ⟨(hcell 0 (by omega)).trans p0, (hcell 1 (by omega)).trans p1, (hcell 2 (by omega)).trans p2, (hcell 3 (by omega)).trans p3⟩
  · obtain ⟨f, _, _, _, _, p⟩ := h4 q hq
    exact p
set_option maxRecDepth 100000 in
theorem open_srcs {r : Reach} {b0 : Nat} {v : Value} {d : DataW H} {p : List MemPlace} (hv : Value.okWide Tryz.prog w r b0 23 v) (h : DataW.Trod enc Tryz.prog w base spare held 23 v d p) (hli : Light 23 d) :
    ∃ ss : List SrcT, Srcs w v ss ∧ ss.length ≤ 140737488355328 ∧ ∀ s ∈ ss, FitS s := by
  obtain ⟨a0, l0, c0, rfl⟩ := okWide_slice Tryz.underlying23 hv
  obtain ⟨fuel, hf⟩ := h
  simp only [Value.cells] at hf
  obtain ⟨ss, a, c, hv2, h1, h2, h3, h4⟩ := open_rows (α := SrcT) (fun s f => (∃ vA vE vF, f 0 = some (.string (bs s.key)) ∧ f 1 = some (.string (bs s.type)) ∧ f 2 = some vA ∧ f 3 = some vE ∧ f 4 = some vF ∧ Perss w vA s.author ∧ Perss w vE s.editor ∧ Prs w vF s.fields) ∧ FitS s) Tryz.underlying23 Tryz.cellsSrc (by omega) (by
    intro n cs z hl ht hz
    obtain ⟨y0, y1, y2, y3, y4, n', hx, h0, h1, h2, h3, h4⟩ := trod_struct5 Tryz.underlying44 ht
    match cs, hl with
    | [v0, v1, v2, v3, v4], _ =>
      simp only [Tryz.cellsStr, Tryz.cellsLp, Tryz.cellsLf, List.drop_succ_cons, List.drop_zero, List.take_succ_cons, List.take_zero] at h0 h1 h2 h3 h4
      obtain ⟨q0, rfl, f0⟩ := trod_str_l h0 (Light.part Tryz.underlying44 (by rw [hx] at hz; exact hz) (j := 0) rfl rfl)
      obtain ⟨q1, rfl, f1⟩ := trod_str_l h1 (Light.part Tryz.underlying44 (by rw [hx] at hz; exact hz) (j := 1) rfl rfl)
      obtain ⟨q2, p2, l2, f2⟩ := cell_perss h2 (Light.part Tryz.underlying44 (by rw [hx] at hz; exact hz) (j := 2) rfl rfl)
      obtain ⟨q3, p3, l3, f3⟩ := cell_perss h3 (Light.part Tryz.underlying44 (by rw [hx] at hz; exact hz) (j := 3) rfl rfl)
      obtain ⟨q4, p4, l4, f4⟩ := cell_pairs h4 (Light.part Tryz.underlying44 (by rw [hx] at hz; exact hz) (j := 4) rfl rfl)
      refine ⟨⟨q0, q1, q2, q3, q4⟩, ⟨v2, v3, v4, rfl, rfl, rfl, rfl, rfl, p2, p3, p4⟩, ?_⟩
      exact ⟨f0, f1, l2, l3, l4, f4, fun q hq => (List.mem_append.1 hq).elim (fun h => f2 q h) (fun h => f3 q h)⟩) (of_decide_eq_true (by kernel_rfl)) hf hli
  refine ⟨ss, ⟨a, c, hv2, h1, fun q => ?_⟩, h2, fun s hs => ?_⟩
  · obtain ⟨g, o, ha, hg, hc⟩ := h3 q
    refine ⟨g, o, ha, hg, fun j x hx => ?_⟩
    obtain ⟨f, ⟨⟨vA, vE, vF, p0, p1, p2, p3, p4, p5⟩, _⟩, hcell⟩ := hc j x hx
    exact ⟨vA, vE, vF, (hcell 0 (by omega)).trans p0, (hcell 1 (by omega)).trans p1, (hcell 2 (by omega)).trans p2, (hcell 3 (by omega)).trans p3, (hcell 4 (by omega)).trans p4, p5⟩
  · obtain ⟨f, _, p⟩ := h4 s hs
    exact p
end
end Go.Proofs.YtgkgcheegaegnaaGreatDoor
