/- short of law31: where it answers true, a source is short. No condition. -/
import Derived.Test.YtafcngdnngpdnaaGreatDoorK40
import Derived.Test.YtafcngdnngpdnaaGreatDoorK28
import Derived.BigQuiet

set_option linter.all false
namespace Go.Proofs.YtafcngdnngpdnaaGreatDoor
open Go.RowKit

/-- A source is short. -/
def ShortS (c : FilT) : Prop := c.author.length ≤ 40 ∧ c.editor.length ≤ 40 ∧ c.fields.length ≤ 30 ∧ c.key.length + c.type.length ≤ 200 ∧ (∀ q ∈ c.author ++ c.editor, size4 q ≤ 200) ∧ ∀ p ∈ c.fields, p.1.length + p.2.length ≤ 300
/-- Each text has a length that a machine can tell. -/
def Fit48 (c : FilT) : Prop := c.key.length ≤ 140737488355328 ∧ c.type.length ≤ 140737488355328 ∧ c.author.length ≤ 140737488355328 ∧ c.editor.length ≤ 140737488355328 ∧ c.fields.length ≤ 140737488355328 ∧
  (∀ f ∈ c.fields, f.1.length ≤ 140737488355328 ∧ f.2.length ≤ 140737488355328) ∧ ∀ q ∈ c.author ++ c.editor, q.1.length ≤ 140737488355328 ∧ q.2.1.length ≤ 140737488355328 ∧ q.2.2.1.length ≤ 140737488355328 ∧ q.2.2.2.length ≤ 140737488355328
def ShortP (c : FilT) (w : World) (e : Ending) (w' : World) : Prop := ∃ b : Bool, e = .returned (.bool b) ∧ (b = true → ShortS c) ∧ Kept w w'
theorem ShortP.no {c : FilT} {w w' : World} (k : Kept w w') : ShortP c w (.returned (.bool false)) w' := ⟨false, rfl, (fun h => by cases h), k⟩
theorem take_all {α : Type} {P : α → Prop} {l : List α} {k : Nat} {x : α} (hx : l[k]? = some x) (h : ∀ y ∈ l.take k, P y) (hp : P x) : ∀ y ∈ l.take (k + 1), P y := by
  intro y hy
  obtain ⟨hk', rfl⟩ := List.getElem?_eq_some_iff.1 hx
  rw [List.take_succ_eq_append_getElem hk'] at hy
  rcases List.mem_append.1 hy with q | q
  · exact h y q
  · simp at q; subst q; exact hp
theorem pers_form {w : World} {v : Value} {ps : List P4} (h : Perss w v ps) : ∃ a c, v = .slice a ps.length c ∧ ps.length ≤ c := by
  obtain ⟨a, c, hv, hc, _⟩ := h; exact ⟨a, c, hv, hc⟩
theorem wrap_len (n : Int) (h0 : -9223372036854775808 ≤ n) (h1 : n ≤ 9223372036854775807) : IntKind.i64.wrap n = n := IntWalk.i64_in n (by omega)
end Go.Proofs.YtafcngdnngpdnaaGreatDoor

/- Arguments of the laws of styles, opened: a case, a style. No condition. -/
set_option linter.all false
namespace Go.Proofs.YtafcngdnngpdnaaGreatDoor
open Go.ChangeShapes Go.WideShapes Go.ChangeAt Go.RowKit Go.Joins

def Fit47 (q : P4) : Prop := q.1.length ≤ 140737488355328 ∧ q.2.1.length ≤ 140737488355328 ∧ q.2.2.1.length ≤ 140737488355328 ∧ q.2.2.2.length ≤ 140737488355328
theorem Tryz.cellsPers : Tryz.prog.cellsOf 111 = 4 := by kernel_rfl
theorem Tryz.cellsInt : Tryz.prog.cellsOf 3 = 1 := by kernel_rfl
theorem Tryz.cellsBool : Tryz.prog.cellsOf 4 = 1 := by kernel_rfl
theorem wf_64 {n : Int} (h : (Lit.int .i64 n).wf = true) : -9223372036854775808 ≤ n ∧ n ≤ 9223372036854775807 := by
  have := h
  simp [Lit.wf, IntKind.min, IntKind.max, IntKind.signed, IntKind.bits] at this
  omega
section
variable {H : Type} {enc : TypeId × Value → H} {w : World} {base : Nat} {spare : Nat → Bool} {held : Bool}
theorem Tryz.cellsSrc : Tryz.prog.cellsOf 40 = 5 := by kernel_rfl
theorem Tryz.cellsLp : Tryz.prog.cellsOf 38 = 1 := by kernel_rfl
theorem Tryz.cellsLf : Tryz.prog.cellsOf 22 = 1 := by kernel_rfl
theorem trod_struct5 {t : TypeId} {f0 f1 f2 f3 f4 : Field} {fuel : Nat} {cs : List Value} {x : DataW H × List MemPlace} (ht : Tryz.prog.underlying t = some (.struct #[f0, f1, f2, f3, f4])) (h : DataW.trod enc Tryz.prog w base spare held fuel t cs = some x) :
    ∃ y0 y1 y2 y3 y4 n, x.1 = .agg [y0.1, y1.1, y2.1, y3.1, y4.1] ∧ DataW.trod enc Tryz.prog w base spare held n f0.type ((cs.drop f0.offset).take (Tryz.prog.cellsOf f0.type)) = some y0 ∧ DataW.trod enc Tryz.prog w base spare held n f1.type ((cs.drop f1.offset).take (Tryz.prog.cellsOf f1.type)) = some y1 ∧ DataW.trod enc Tryz.prog w base spare held n f2.type ((cs.drop f2.offset).take (Tryz.prog.cellsOf f2.type)) = some y2 ∧
      DataW.trod enc Tryz.prog w base spare held n f3.type ((cs.drop f3.offset).take (Tryz.prog.cellsOf f3.type)) = some y3 ∧ DataW.trod enc Tryz.prog w base spare held n f4.type ((cs.drop f4.offset).take (Tryz.prog.cellsOf f4.type)) = some y4 := by
  obtain ⟨xs, n, _, rfl, hl, hlen, hf⟩ := DataW.trod_struct ht h
  match xs, hlen with
  | [y0, y1, y2, y3, y4], _ => exact ⟨y0, y1, y2, y3, y4, n, by simp, by simpa using hf 0 f0 rfl, by simpa using hf 1 f1 rfl, by simpa using hf 2 f2 rfl, by simpa using hf 3 f3 rfl, by simpa using hf 4 f4 rfl⟩
set_option maxRecDepth 100000 in
theorem cell_perss {fuel : Nat} {v : Value} {y : DataW H × List MemPlace} (h : DataW.trod enc Tryz.prog w base spare held fuel 38 [v] = some y) (hli : Light 38 y.1) : ∃ ps : List P4, Perss w v ps ∧ ps.length ≤ 140737488355328 ∧ ∀ q ∈ ps, Fit47 q := by
  obtain ⟨ps, a, c, rfl, h1, h2, h3, h4⟩ := open_rows (α := P4) (fun q f => f 0 = some (.string (bs q.1)) ∧ f 1 = some (.string (bs q.2.1)) ∧ f 2 = some (.string (bs q.2.2.1)) ∧ f 3 = some (.string (bs q.2.2.2)) ∧ Fit47 q) Tryz.underlying38 Tryz.cellsPers (by omega) (by
    intro n cs z hl ht hz
    obtain ⟨y0, y1, y2, y3, n', hx, _, h0, h1, h2, h3⟩ := trod_struct4 Tryz.underlying111 ht
    match cs, hl with
    | [v0, v1, v2, v3], _ =>
      simp only [Tryz.cellsStr, List.drop_succ_cons, List.drop_zero, List.take_succ_cons, List.take_zero] at h0 h1 h2 h3
      obtain ⟨q0, rfl, f0⟩ := trod_str_l h0 (Light.part Tryz.underlying111 (by subst hx; exact hz) (j := 0) rfl rfl)
      obtain ⟨q1, rfl, f1⟩ := trod_str_l h1 (Light.part Tryz.underlying111 (by subst hx; exact hz) (j := 1) rfl rfl)
      obtain ⟨q2, rfl, f2⟩ := trod_str_l h2 (Light.part Tryz.underlying111 (by subst hx; exact hz) (j := 2) rfl rfl)
      obtain ⟨q3, rfl, f3⟩ := trod_str_l h3 (Light.part Tryz.underlying111 (by subst hx; exact hz) (j := 3) rfl rfl)
      exact ⟨(q0, q1, q2, q3), rfl, rfl, rfl, rfl, f0, f1, f2, f3⟩) (of_decide_eq_true (by kernel_rfl)) h hli
  refine ⟨ps, ⟨a, c, rfl, h1, fun q => ?_⟩, h2, fun q hq => ?_⟩
  · obtain ⟨g, o, ha, hg, hc⟩ := h3 q
    refine ⟨g, o, ha, hg, fun j x hx => ?_⟩
    obtain ⟨f, ⟨p0, p1, p2, p3, _⟩, hcell⟩ := hc j x hx
    exact ⟨(hcell 0 (by omega)).trans p0, (hcell 1 (by omega)).trans p1, (hcell 2 (by omega)).trans p2, (hcell 3 (by omega)).trans p3⟩
  · obtain ⟨f, _, _, _, _, p⟩ := h4 q hq
    exact p
theorem trod_i64 {n : Nat} {v : Value} {y : DataW H × List MemPlace} (h : DataW.trod enc Tryz.prog w base spare held n 3 [v] = some y) : ∃ i : Int, v = .int .i64 i ∧ -9223372036854775808 ≤ i ∧ i ≤ 9223372036854775807 := by
  obtain ⟨i, h1, _, h3⟩ := DataW.trod_int Tryz.underlying3 h
  simp at h1
  exact ⟨i, h1, wf_64 h3⟩
theorem trod_bl {n : Nat} {v : Value} {y : DataW H × List MemPlace} (h : DataW.trod enc Tryz.prog w base spare held n 4 [v] = some y) : ∃ b : Bool, v = .bool b := by
  obtain ⟨b, h1, _⟩ := DataW.trod_bool Tryz.underlying4 h
  simp at h1
  exact ⟨b, h1⟩
theorem Tryz.cellsSty : Tryz.prog.cellsOf 24 = 10 := by kernel_rfl
/-- The value of a case. -/
abbrev caseV (c : FilT) (vA vE vF : Value) : Value := .agg #[.string (bs c.key), .string (bs c.type), vA, vE, vF, .string (bs c.lang), .string (bs c.suffix), .int .i64 c.number, .int .i64 c.most]
def zeroF : FilT := ⟨[], [], [], [], [], [], [], 0, 0⟩
/-- Bounds of a case. -/
def FitC9 (c : FilT) : Prop := Fit48 c ∧ c.lang.length ≤ 140737488355328 ∧ c.suffix.length ≤ 140737488355328 ∧ (-9223372036854775808 ≤ c.number ∧ c.number ≤ 9223372036854775807) ∧ (-9223372036854775808 ≤ c.most ∧ c.most ≤ 9223372036854775807)
/-- Bounds of a style that is read. -/
def FitY (y : StyT) : Prop := y.name.length ≤ 140737488355328 ∧ y.sort.length ≤ 140737488355328 ∧ y.cite.length ≤ 140737488355328 ∧ y.bare.length ≤ 140737488355328 ∧ y.between.length ≤ 140737488355328 ∧ y.begin_.length ≤ 140737488355328 ∧ y.end_.length ≤ 140737488355328 ∧ (-9223372036854775808 ≤ y.most ∧ y.most ≤ 9223372036854775807) ∧ y.entries.length ≤ 140737488355328 ∧ ∀ p ∈ y.entries, p.1.length ≤ 140737488355328 ∧ p.2.length ≤ 140737488355328
set_option maxRecDepth 100000 in
theorem open_sty {r : Reach} {b0 : Nat} {v : Value} {d : DataW H} {p : List MemPlace} (hv : Value.okWide Tryz.prog w r b0 24 v) (h : DataW.Trod enc Tryz.prog w base spare held 24 v d p) (hli : Light 24 d) :
    ∃ (y : StyT) (vE : Value), v = styV vE y ∧ Prs w vE y.entries ∧ FitY y := by
  obtain ⟨cs, rfl, hsz⟩ := okWide_struct Tryz.underlying24 hv
  rw [Tryz.cellsSty] at hsz
  obtain ⟨l⟩ := cs
  have h0 : l.length = 10 := hsz
  clear hsz
  obtain ⟨x0, l1, rfl, h1⟩ := len_cons h0
  obtain ⟨x1, l2, rfl, h2⟩ := len_cons h1
  obtain ⟨x2, l3, rfl, h3⟩ := len_cons h2
  obtain ⟨x3, l4, rfl, h4⟩ := len_cons h3
  obtain ⟨x4, l5, rfl, h5⟩ := len_cons h4
  obtain ⟨x5, l6, rfl, h6⟩ := len_cons h5
  obtain ⟨x6, l7, rfl, h7⟩ := len_cons h6
  obtain ⟨x7, l8, rfl, h8⟩ := len_cons h7
  obtain ⟨x8, l9, rfl, h9⟩ := len_cons h8
  obtain ⟨x9, l10, rfl, h10⟩ := len_cons h9
  obtain rfl := List.length_eq_zero_iff.1 h10
  clear h0 h1 h2 h3 h4 h5 h6 h7 h8 h9 h10
  obtain ⟨fuel, hf⟩ := h
  simp only [Value.cells] at hf
  obtain ⟨xs, n, _, hx, _, hlen, hp⟩ := DataW.trod_struct Tryz.underlying24 hf
  have hlen' : xs.length = 10 := hlen
  obtain ⟨y0, l1, rfl, h1⟩ := len_cons hlen'
  obtain ⟨y1, l2, rfl, h2⟩ := len_cons h1
  obtain ⟨y2, l3, rfl, h3⟩ := len_cons h2
  obtain ⟨y3, l4, rfl, h4⟩ := len_cons h3
  obtain ⟨y4, l5, rfl, h5⟩ := len_cons h4
  obtain ⟨y5, l6, rfl, h6⟩ := len_cons h5
  obtain ⟨y6, l7, rfl, h7⟩ := len_cons h6
  obtain ⟨y7, l8, rfl, h8⟩ := len_cons h7
  obtain ⟨y8, l9, rfl, h9⟩ := len_cons h8
  obtain ⟨y9, l10, rfl, h10⟩ := len_cons h9
  obtain rfl := List.length_eq_zero_iff.1 h10
  clear h1 h2 h3 h4 h5 h6 h7 h8 h9 h10 hlen hlen'
  have g0 := hp 0 _ rfl
  have g1 := hp 1 _ rfl
  have g2 := hp 2 _ rfl
  have g3 := hp 3 _ rfl
  have g4 := hp 4 _ rfl
  have g5 := hp 5 _ rfl
  have g6 := hp 6 _ rfl
  have g7 := hp 7 _ rfl
  have g8 := hp 8 _ rfl
  have g9 := hp 9 _ rfl
  clear hp
  simp only [Tryz.cellsStr, Tryz.cellsLf, Tryz.cellsInt, Tryz.cellsBool, List.drop_succ_cons, List.drop_zero, List.take_succ_cons, List.take_zero, List.getElem?_cons_zero, List.getElem?_cons_succ] at g0 g1 g2 g3 g4 g5 g6 g7 g8 g9
  simp only [Prod.mk.injEq, List.map_cons, List.map_nil] at hx
  obtain ⟨hx, _⟩ := hx
  subst hx
  obtain ⟨k0, rfl, f0⟩ := trod_str_l g0 (Light.part Tryz.underlying24 hli (j := 0) rfl rfl)
  obtain ⟨k1, rfl⟩ := trod_bl g1
  obtain ⟨k2, rfl, f2⟩ := trod_str_l g2 (Light.part Tryz.underlying24 hli (j := 2) rfl rfl)
  obtain ⟨k3, rfl, f3⟩ := trod_str_l g3 (Light.part Tryz.underlying24 hli (j := 3) rfl rfl)
  obtain ⟨k4, rfl, f4⟩ := trod_str_l g4 (Light.part Tryz.underlying24 hli (j := 4) rfl rfl)
  obtain ⟨k5, rfl, f5⟩ := trod_str_l g5 (Light.part Tryz.underlying24 hli (j := 5) rfl rfl)
  obtain ⟨k6, rfl, f6⟩ := trod_str_l g6 (Light.part Tryz.underlying24 hli (j := 6) rfl rfl)
  obtain ⟨k7, rfl, f7⟩ := trod_str_l g7 (Light.part Tryz.underlying24 hli (j := 7) rfl rfl)
  obtain ⟨k8, rfl, f8⟩ := trod_i64 g8
  obtain ⟨k9, p9, m9, f9⟩ := cell_pairs g9 (Light.part Tryz.underlying24 hli (j := 9) rfl rfl)
  exact ⟨⟨k0, k1, k2, k3, k4, k5, k6, k7, k8, k9⟩, x9, rfl, p9, f0, f2, f3, f4, f5, f6, f7, f8, m9, f9⟩
end
end Go.Proofs.YtafcngdnngpdnaaGreatDoor

/- light, contains and num of law31. Conditions: lengths. -/
set_option linter.all false
namespace Go.Proofs.YtafcngdnngpdnaaGreatDoor
open Go.RowKit

def sumK (ps : List Pr) : Nat := (ps.map fun p => p.1.length + p.2.length).sum
theorem sumK_next (ps : List Pr) (k : Nat) (hk : k < ps.length) : sumK (ps.take (k + 1)) = sumK (ps.take k) + (ps[k].1.length + ps[k].2.length) := by
  unfold sumK
  rw [List.take_succ_eq_append_getElem hk, List.map_append, List.sum_append]; simp
def totY (y : StyT) : Nat := y.name.length + y.sort.length + y.cite.length + y.bare.length + y.between.length + y.begin_.length + y.end_.length
def LightY (y : StyT) : Prop := y.entries.length ≤ 140 ∧ totY y ≤ 800 ∧ (∀ p ∈ y.entries, p.1.length ≤ 300 ∧ p.2.length ≤ 300) ∧ sumK y.entries ≤ 1500
theorem LightY.small {y : StyT} (h : LightY y) : SmallY y := by
  obtain ⟨h1, h2, h3, h4⟩ := h
  unfold totY at h2
  exact ⟨by omega, by omega, by omega, by omega, by omega, by omega, by omega, by omega, fun p hp => by have := h3 p hp; omega⟩
def LightP (y : StyT) (w : World) (e : Ending) (w' : World) : Prop := ∃ b, e = .returned (.bool b) ∧ (b = true → LightY y) ∧ Kept w w'
set_option maxRecDepth 100000 in
set_option maxHeartbeats 6400000 in
theorem slight_any (vE : Value) (y : StyT) (w : World) (hv : Prs w vE y.entries) (hf : FitY y) : Calls Tryz.prog 5 #[styV vE y] w (LightP y w) := by
  obtain ⟨f1, f2, f3, f4, f5, f6, f7, -, f9, f10⟩ := hf
  have HV := Lib.hid hv
  obtain ⟨aE, cE, rfl, lE⟩ := hv.form
  have HNO : Hid (∀ w', Kept w w' → LightP y w (.returned (.bool false)) w') := fun w' h => ⟨false, rfl, (fun q => by cases q), h⟩
  have HYES : Hid (y.entries.length ≤ 140 → totY y ≤ 800 → (∀ j (hj : j < y.entries.length), j < y.entries.length → y.entries[j].1.length ≤ 300 ∧ y.entries[j].2.length ≤ 300) → sumK (y.entries.take y.entries.length) ≤ 1500 → ∀ w', Kept w w' → LightP y w (.returned (.bool true)) w') := fun h1 h2 h3 h4 w' h => ⟨true, rfl, (fun _ => ⟨h1, h2, (fun p hp => by
    obtain ⟨j, hj, e⟩ := List.getElem_of_mem hp
    rw [← e]; exact h3 j hj hj), by rwa [List.take_of_length_le (Nat.le_refl _)] at h4⟩), h⟩
  have HTY : Hid (totY y = y.name.length + y.sort.length + y.cite.length + y.bare.length + y.between.length + y.begin_.length + y.end_.length) := rfl
  have HSN := Lib.hid (sumK_next y.entries)
  have HS0 : Hid (sumK (y.entries.take 0) = 0) := rfl
  have HFE := Lib.hid f10
  have HK0 := Lib.hid (kept_alloc w (.cells (styCells (.slice aE y.entries.length cE) y) 24))
  have HB0 := Lib.hid (Blk.new w 24 (styCells (.slice aE y.entries.length cE) y))
  generalize hLP : LightP y w = P at *
  generalize totY y = tot at *
  clear hv f10 hLP
  unfold styV
  unfold styCells at *
  by_cases h1 : 140 < y.entries.length
  · go_enter Tryz.func5, Tryz.ntmps5
    go_wp2_with fail
    exact HNO.out _ HK0.out
  have hlen : y.entries.length ≤ 140 := by omega
  by_cases h2 : 800 < y.name.length + y.sort.length + y.cite.length + y.bare.length + y.between.length + y.begin_.length + y.end_.length
  · have h2' : (800 : Int) < (y.name.length : Int) + y.sort.length + y.cite.length + y.bare.length + y.between.length + y.begin_.length + y.end_.length := by omega
    go_enter Tryz.func5, Tryz.ntmps5
    go_wp2_with fail
    exact HNO.out _ HK0.out
  have h2' : ¬ (800 : Int) < (y.name.length : Int) + y.sort.length + y.cite.length + y.bare.length + y.between.length + y.begin_.length + y.end_.length := by omega
  have HTOT : Hid (tot ≤ 800) := by show _ ≤ _; rw [HTY.out]; omega
  go_enter Tryz.func5, Tryz.ntmps5
  go_wp2_with fail
  generalize w.alloc _ = w0 at *
  obtain ⟨B, HBB⟩ : ∃ B, Hid (w.heap.size = B) := ⟨_, rfl⟩
  rw [HBB.out] at HB0 ⊢
  clear h1 h2 h2' f1 f2 f3 f4 f5 f6 f7 f9 HTY HBB
  go_loopw [3, 4] (fun s i wr => ∃ k : Nat, k ≤ y.entries.length ∧ i = .int .i64 k ∧ s = .int .i64 (sumK (y.entries.take k)) ∧ Hid (sumK (y.entries.take k) ≤ 600 * k) ∧ Hid (∀ j (hj : j < y.entries.length), j < k → y.entries[j].1.length ≤ 300 ∧ y.entries[j].2.length ≤ 300) ∧ Hid (Kept w0 wr)) (fun _ i _ => y.entries.length - (intOf i).toNat)
  case atStart => exact ⟨0, Nat.zero_le _, rfl, by rw [HS0.out]; rfl, by show _ ≤ _; rw [HS0.out]; omega, fun j hj h => by omega, Kept.refl _⟩
  case round =>
    obtain ⟨k, hk, rfl, rfl, HSL, HN, HKR⟩ := hrel
    have b1 : wr.cell? ⟨B, 9, none⟩ = some (.slice aE y.entries.length cE) := (HB0.out.kept HKR.out).cell 9 _ rfl
    have z1 := (HB0.out.kept HKR.out).lt
    have hsl := HSL.out
    by_cases hlt : k < y.entries.length
    · have hx := List.getElem?_eq_getElem hlt
      obtain ⟨g, o, rfl, hg, d0, d1, -, -⟩ := (HV.out.kept (HK0.out.trans HKR.out)).cell_of k _ hx
      have HSK := Lib.hid (HSN.out k hlt)
      obtain ⟨e1, e2⟩ := HFE.out _ (List.getElem_mem hlt)
      have HNX : Hid (y.entries[k].1.length ≤ 300 → y.entries[k].2.length ≤ 300 → ∀ j (hj : j < y.entries.length), j < k + 1 → y.entries[j].1.length ≤ 300 ∧ y.entries[j].2.length ≤ 300) := fun h1 h2 j hj hjk => by
        rcases Nat.lt_or_ge j k with q | q
        · exact HN.out j hj q
        · obtain rfl : j = k := by omega
          exact ⟨h1, h2⟩
      clear hx HN HSL
      generalize y.entries[k] = p at *
      obtain ⟨x, z⟩ := p
      simp only at d0 d1 HSK HNX e1 e2
      generalize sumK (y.entries.take k) = s0 at *
      by_cases h1 : 300 < x.length
      · go_wp2_with fail
        exact HNO.out _ (HK0.out.trans HKR.out)
      by_cases h2 : 300 < z.length
      · go_wp2_with fail
        exact HNO.out _ (HK0.out.trans HKR.out)
      have HNN := Lib.hid (HNX.out (by omega) (by omega))
      clear HNX
      go_wp2_with fail
      go_quiet (fail)
      all_goals
        have HKZ := Lib.hid (HKR.out.trans (kept_drewN wr nq))
        go_wp2_with fail
        go_roundw
        case rel => exact ⟨k + 1, by omega, by go_num, by rw [HSK.out]; go_num, by show _ ≤ _; rw [HSK.out]; omega, HNN.out, HKZ.out⟩
        case measure => simp [intOf]; omega
    · obtain rfl : k = y.entries.length := by omega
      have HY1 := Lib.hid (fun h => HYES.out hlen HTOT.out HN.out h)
      generalize sumK (y.entries.take y.entries.length) = s0 at *
      by_cases h3 : s0 ≤ 1500
      · have hd : decide ((s0 : Int) ≤ 1500) = true := decide_eq_true (by omega)
        have HFIN : Hid (P (.returned (.bool (decide ((s0 : Int) ≤ 1500)))) wr) := by
          show P _ _
          rw [hd]; exact HY1.out h3 wr (HK0.out.trans HKR.out)
        clear hd
        go_wp2_with fail
        exact HFIN.out
      · have hd : decide ((s0 : Int) ≤ 1500) = false := decide_eq_false (by omega)
        have HFIN : Hid (P (.returned (.bool (decide ((s0 : Int) ≤ 1500)))) wr) := by
          show P _ _
          rw [hd]; exact HNO.out _ (HK0.out.trans HKR.out)
        clear hd
        go_wp2_with fail
        exact HFIN.out
/-- Does t stand in s? -/
def InT (s t : Bs) : Prop := ∃ i, i + t.length ≤ s.length ∧ (s.drop i).take t.length = t
theorem dec_split (N n : Nat) (s : Bs) (h : Lib.decDigits N = (if n < 10 then [] else Lib.decDigits (n / 10)) ++ s) (hn : ¬ n < 10) : Lib.decDigits N = (if n / 10 < 10 then [] else Lib.decDigits (n / 10 / 10)) ++ (UInt8.ofNat (48 + n / 10 % 10) :: s) := by
  rw [h, if_neg hn]
  by_cases q : n / 10 < 10
  · rw [if_pos q, Lib.decDigits_one q, Nat.mod_eq_of_lt q]; rfl
  · rw [if_neg q, decDigits_ten _ q, List.append_assoc]; rfl
end Go.Proofs.YtafcngdnngpdnaaGreatDoor
