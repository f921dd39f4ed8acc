/- short of law31: where it answers true, a source is short. No condition. -/
import Derived.Test.YtofeonnmoakbaaaGreatDoorK29
import Derived.Test.YtofeonnmoakbaaaGreatDoorK27
import Derived.Test.YtofeonnmoakbaaaGreatDoorK28

set_option linter.all false
namespace Go.Proofs.YtofeonnmoakbaaaGreatDoor
open Go.RowKit

/-- A source is short. -/
def ShortS (c : FilT) : Prop := c.author.length ≤ 40 ∧ c.editor.length ≤ 40 ∧ c.fields.length ≤ 30 ∧ c.key.length + c.type.length ≤ 200 ∧ (∀ q ∈ c.author ++ c.editor, size4 q ≤ 200) ∧ ∀ p ∈ c.fields, p.1.length + p.2.length ≤ 300
/-- Each text has a length that a machine can tell. -/
def Fit48 (c : FilT) : Prop := c.key.length ≤ 140737488355328 ∧ c.type.length ≤ 140737488355328 ∧ c.author.length ≤ 140737488355328 ∧ c.editor.length ≤ 140737488355328 ∧ c.fields.length ≤ 140737488355328 ∧
  (∀ f ∈ c.fields, f.1.length ≤ 140737488355328 ∧ f.2.length ≤ 140737488355328) ∧ ∀ q ∈ c.author ++ c.editor, q.1.length ≤ 140737488355328 ∧ q.2.1.length ≤ 140737488355328 ∧ q.2.2.1.length ≤ 140737488355328 ∧ q.2.2.2.length ≤ 140737488355328
def ShortP (c : FilT) (w : World) (e : Ending) (w' : World) : Prop := ∃ b : Bool, e = .returned (.bool b) ∧ (b = true → ShortS c) ∧ Kept w w'
theorem ShortP.no {c : FilT} {w w' : World} (k : Kept w w') : ShortP c w (.returned (.bool false)) w' := ⟨false, rfl, (fun h => by cases h), k⟩
theorem take_all {α : Type} {P : α → Prop} {l : List α} {k : Nat} {x : α} (hx : l[k]? = some x) (h : ∀ y ∈ l.take k, P y) (hp : P x) : ∀ y ∈ l.take (k + 1), P y := by
  intro y hy
  obtain ⟨hk', rfl⟩ := List.getElem?_eq_some_iff.1 hx
  rw [List.take_succ_eq_append_getElem hk'] at hy
  rcases List.mem_append.1 hy with q | q
  · exact h y q
  · simp at q; subst q; exact hp
theorem pers_form {w : World} {v : Value} {ps : List P4} (h : Perss w v ps) : ∃ a c, v = .slice a ps.length c ∧ ps.length ≤ c := by
  obtain ⟨a, c, hv, hc, _⟩ := h; exact ⟨a, c, hv, hc⟩
theorem wrap_len (n : Int) (h0 : -9223372036854775808 ≤ n) (h1 : n ≤ 9223372036854775807) : IntKind.i64.wrap n = n := IntWalk.i64_in n (by omega)
set_option maxRecDepth 100000 in
set_option maxHeartbeats 6400000 in
theorem sshort_any (c : FilT) (vA vE vF : Value) (w : World) (hA : Perss w vA c.author) (hE : Perss w vE c.editor) (hF : Prs w vF c.fields) (hfit : Fit48 c) :
    Calls Tryz.prog 16 #[srcV c.key c.type vA vE vF] w (ShortP c w) := by
  have HA := Lib.hid hA
  have HE := Lib.hid hE
  have HF := Lib.hid hF
  obtain ⟨l1, l2, l3, l4, l5, l6, l7⟩ := hfit
  have HL6 := Lib.hid l6
  have HL7 := Lib.hid l7
  clear l6 l7
  obtain ⟨aA, cA, rfl, zA⟩ := pers_form hA
  obtain ⟨aE, cE, rfl, zE⟩ := pers_form hE
  obtain ⟨aF, cF, rfl, zF⟩ := hF.form
  clear hA hE hF
  have HNO : Hid (∀ w', Kept w w' → ShortP c w (.returned (.bool false)) w') := fun w' k => ShortP.no k
  have HYES : Hid (∀ w', ShortS c → Kept w w' → ShortP c w (.returned (.bool true)) w') := fun w' h k => ⟨true, rfl, (fun _ => h), k⟩
  have HBK := Lib.hid (Blk.new w 36 #[.string (bs c.key), .string (bs c.type), .slice aA c.author.length cA, .slice aE c.editor.length cE, .slice aF c.fields.length cF])
  have HK0 := Lib.hid (kept_alloc w (.cells #[.string (bs c.key), .string (bs c.type), .slice aA c.author.length cA, .slice aE c.editor.length cE, .slice aF c.fields.length cF] 36))
  generalize hP : ShortP c w = P at *
  clear hP
  by_cases g1 : 40 < c.author.length
  · go_enter Tryz.func16, Tryz.ntmps16
    go_wp2_with fail
    exact HNO.out _ HK0.out
  by_cases g2 : 40 < c.editor.length
  · go_enter Tryz.func16, Tryz.ntmps16
    go_wp2_with fail
    exact HNO.out _ HK0.out
  by_cases g3 : 30 < c.fields.length
  · go_enter Tryz.func16, Tryz.ntmps16
    go_wp2_with fail
    exact HNO.out _ HK0.out
  by_cases g4 : 200 < c.key.length + c.type.length
  · have g4' : (200 : Int) < (c.key.length : Int) + (c.type.length : Int) := by omega
    go_enter Tryz.func16, Tryz.ntmps16
    go_wp2_with fail
    exact HNO.out _ HK0.out
  have g4' : ¬ (200 : Int) < (c.key.length : Int) + (c.type.length : Int) := by omega
  go_enter Tryz.func16, Tryz.ntmps16
  go_wp2_with fail
  generalize w.alloc _ = W0 at *
  obtain ⟨B, HBB⟩ : ∃ B, Hid (w.heap.size = B) := ⟨_, rfl⟩
  rw [HBB.out] at HBK ⊢
  have b2 : W0.cell? ⟨B, 2, none⟩ = some (.slice aA c.author.length cA) := HBK.out.cell 2 _ rfl
  have b3 : W0.cell? ⟨B, 3, none⟩ = some (.slice aE c.editor.length cE) := HBK.out.cell 3 _ rfl
  have z4 := HBK.out.lt
  have HPA := Lib.hid (HA.out.kept HK0.out)
  have HPE := Lib.hid (HE.out.kept HK0.out)
  have HC : Hid (∀ w', Kept W0 w' → w'.cell? ⟨B, 2, none⟩ = some (.slice aA c.author.length cA) ∧ w'.cell? ⟨B, 3, none⟩ = some (.slice aE c.editor.length cE) ∧ Kept W0 w') := fun w' h => ⟨(h.cell (p := ⟨B, 2, none⟩) z4).trans b2, (h.cell (p := ⟨B, 3, none⟩) z4).trans b3, h⟩
  have k0 : Kept W0 (W0.alloc (.cells #[] 68)).drew := (kept_alloc W0 _).trans (kept_drewN _ 1)
  have k00 : Kept W0 W0.drew := kept_drewN W0 1
  have HO0 := Lib.hid (World.ownsRow_made (size := 4) (e := 68) W0 #[] 0 (Nat.le_refl _) (by unfold maxLen; omega) (by simp)).drew
  have hsum : c.author.length + c.editor.length ≤ 80 := by omega
  go_region_held3 (fun w' => w'.cell? ⟨B, 2, none⟩ = some (.slice aA c.author.length cA) ∧ w'.cell? ⟨B, 3, none⟩ = some (.slice aE c.editor.length cE) ∧ Kept W0 w')
    ((refine HC.out _ ?_; with_reducible assumption))
    (first
      | (refine step_append_pers _ rfl (.tmp 35) (.tmp 37) rfl W0.heap.size v1 c.author (by simp [Act.eval, Act.put]) HO1.out _ c.editor (by simp [Act.eval, Act.put]) (HPE.out.kept k1) (by omega) k1.size ?_; intro v2 w2 hown2 hgrow2; have HO2 := Lib.hid hown2; have k2 : Kept W0 w2 := k1.trans' (grown_below HO1.out hgrow2 k1.size); clear hown2 hgrow2)
      | (refine step_append_pers _ rfl (.tmp 32) (.tmp 34) rfl W0.heap.size _ [] (by simp [Act.eval, Act.put]) HO0.out _ c.author (by simp [Act.eval, Act.put]) (HPA.out.kept k0) (by simp; omega) k0.size ?_; intro v1 w1 hown1 hgrow1; have HO1 : Hid (w1.ownsRow W0.heap.size 68 4 v1 c.author.length (persC c.author)) := hown1; have k1 : Kept W0 w1 := k0.trans' (grown_below HO0.out hgrow1 k0.size); clear hown1 hgrow1))
  all_goals
    have HV2 := Lib.hid (Perss.own HO2.out)
    obtain ⟨a2, c2, rfl, hc2⟩ := pers_form HV2.out
    have hln : (c.author ++ c.editor).length ≤ 80 := by rw [List.length_append]; omega
    have HKZ := Lib.hid (HK0.out.trans k2)
    have HB2 := Lib.hid (HBK.out.kept k2)
    clear k0 k00 k1 k2 HO0 HO1 HO2 b2 b3 z4 HC hsum
    have HSUM : Hid (c.author ++ c.editor = c.author ++ c.editor) := rfl
    obtain ⟨ps, HPS⟩ : ∃ ps, Hid (c.author ++ c.editor = ps) := ⟨_, rfl⟩
    rw [HPS.out] at HV2 HL7 hln hc2 ⊢
    clear HSUM
    go_wp2_with fail
    go_loopw [4] (fun i wr => ∃ k : Nat, k ≤ ps.length ∧ i = .int .i64 k ∧ Hid (∀ q ∈ ps.take k, size4 q ≤ 200) ∧ Hid (Kept w2 wr)) (fun i _ => ps.length - (intOf i).toNat)
    case atStart => exact ⟨0, Nat.zero_le _, rfl, (fun q h => by simp at h), Kept.refl _⟩
    case round =>
      obtain ⟨k, hk, rfl, HN, HKR⟩ := hrel
      by_cases hlt : k < ps.length
      · obtain ⟨q, hx⟩ : ∃ x, ps[k]? = some x := ⟨_, List.getElem?_eq_getElem hlt⟩
        obtain ⟨q1l, q2l, q3l, q4l⟩ := HL7.out q (List.mem_of_getElem? hx)
        obtain ⟨a', c', hv', hc', h3⟩ := HV2.out.kept HKR.out
        obtain ⟨rfl, hdead, rfl⟩ := Value.slice.inj hv'
        clear hdead hc'
        obtain ⟨g, o, rfl, hg', hcc⟩ := h3 (by omega)
        obtain ⟨d0, d1, d2, d3⟩ := hcc k q hx
        have HST := Lib.hid (fun hp => take_all (P := fun q => size4 q ≤ 200) hx HN.out hp)
        have HSZ : Hid (size4 q = q.1.length + q.2.1.length + q.2.2.1.length + q.2.2.2.length) := rfl
        obtain ⟨p1, p2, p3, p4⟩ := q
        simp only at d0 d1 d2 d3 q1l q2l q3l q4l HSZ
        clear hcc h3 hv' hx
        have hk0 : (0 : Int) ≤ (k : Int) := by omega
        have hk1 : (k : Int) < (ps.length : Int) := by omega
        have hk2 : ((k : Int)).toNat = k := by omega
        obtain ⟨s1, HS1⟩ : ∃ s : Int, Hid ((p1.length : Int) + (p2.length : Int) = s) := ⟨_, rfl⟩
        obtain ⟨s2, HS2⟩ : ∃ s : Int, Hid (s1 + (p3.length : Int) = s) := ⟨_, rfl⟩
        obtain ⟨s3, HS3⟩ : ∃ s : Int, Hid (s2 + (p4.length : Int) = s) := ⟨_, rfl⟩
        have e1 : IntKind.i64.wrap ((p1.length : Int) + (p2.length : Int)) = s1 := by rw [wrap_len _ (by omega) (by omega)]; exact HS1.out
        have e2 : IntKind.i64.wrap (s1 + (p3.length : Int)) = s2 := by have := HS1.out; rw [wrap_len _ (by omega) (by omega)]; exact HS2.out
        have e3 : IntKind.i64.wrap (s2 + (p4.length : Int)) = s3 := by have := HS1.out; have := HS2.out; rw [wrap_len _ (by omega) (by omega)]; exact HS3.out
        by_cases hbig : 200 < s3
        · have hd : decide ((200 : Int) < s3) = true := decide_eq_true hbig
          go_wp2_with fail
          go_quiet (fail)
          go_wp2_with fail
          exact HNO.out _ (HKZ.out.trans (HKR.out.trans (kept_drewN _ _)))
        · have hd : decide ((200 : Int) < s3) = false := decide_eq_false hbig
          have HS5 := Lib.hid (HST.out (by have h1 := HS1.out; have h2 := HS2.out; have h3 := HS3.out; have h4 := HSZ.out; show size4 _ ≤ 200; omega))
          go_wp2_with fail
          go_quiet (fail)
          go_wp2_with fail
          go_roundw
          case rel => exact ⟨k + 1, by omega, by go_num, HS5.out, HKR.out.trans (kept_drewN _ _)⟩
          case measure => simp [intOf]; omega
      · have HPA2 : Hid (∀ q ∈ ps, size4 q ≤ 200) := by have h := HN.out; rw [List.take_of_length_le (by omega)] at h; exact h
        have HKY := Lib.hid (HKZ.out.trans HKR.out)
        have HBY := Lib.hid (HB2.out.kept HKR.out)
        clear HN HKR HKZ HB2
        go_wp2_with fail
        obtain ⟨wo, rfl⟩ : ∃ wo : World, wo = wr := ⟨_, rfl⟩
        go_loopw [5] (fun i wr => ∃ k : Nat, k ≤ c.fields.length ∧ i = .int .i64 k ∧ Hid (∀ q ∈ c.fields.take k, q.1.length + q.2.length ≤ 300) ∧ Hid (Kept wo wr)) (fun i _ => c.fields.length - (intOf i).toNat)
        case atStart => exact ⟨0, Nat.zero_le _, rfl, (fun q h => by simp at h), Kept.refl _⟩
        case round =>
          obtain ⟨k, hk, rfl, HN, HKR⟩ := hrel
          have t4 : wr.cell? ⟨B, 4, none⟩ = some (.slice aF c.fields.length cF) := (HBY.out.kept HKR.out).cell 4 _ rfl
          have zB := (HBY.out.kept HKR.out).lt
          by_cases hlt : k < c.fields.length
          · obtain ⟨q, hx⟩ : ∃ x, c.fields[k]? = some x := ⟨_, List.getElem?_eq_getElem hlt⟩
            obtain ⟨q1l, q2l⟩ := HL6.out q (List.mem_of_getElem? hx)
            obtain ⟨g, o, rfl, hg', d0, d1, -, -⟩ := (HF.out.kept (HKY.out.trans HKR.out)).cell_of k q hx
            have HST := Lib.hid (fun hp => take_all (P := fun q : Pr => q.1.length + q.2.length ≤ 300) hx HN.out hp)
            obtain ⟨p1, p2⟩ := q
            simp only at d0 d1 q1l q2l
            clear hx
            have hk0 : (0 : Int) ≤ (k : Int) := by omega
            have hk1 : (k : Int) < (c.fields.length : Int) := by omega
            have hk2 : ((k : Int)).toNat = k := by omega
            obtain ⟨s1, HS1⟩ : ∃ s : Int, Hid ((p1.length : Int) + (p2.length : Int) = s) := ⟨_, rfl⟩
            have e1 : IntKind.i64.wrap ((p1.length : Int) + (p2.length : Int)) = s1 := by rw [wrap_len _ (by omega) (by omega)]; exact HS1.out
            by_cases hbig : 300 < s1
            · have hd : decide ((300 : Int) < s1) = true := decide_eq_true hbig
              go_wp2_with fail
              go_quiet (fail)
              go_wp2_with fail
              exact HNO.out _ (HKY.out.trans (HKR.out.trans (kept_drewN _ _)))
            · have hd : decide ((300 : Int) < s1) = false := decide_eq_false hbig
              have HS5 := Lib.hid (HST.out (by have h1 := HS1.out; show p1.length + p2.length ≤ 300; omega))
              go_wp2_with fail
              go_quiet (fail)
              go_wp2_with fail
              go_roundw
              case rel => exact ⟨k + 1, by omega, by go_num, HS5.out, HKR.out.trans (kept_drewN _ _)⟩
              case measure => simp [intOf]; omega
          · have HFA : Hid (∀ q ∈ c.fields, q.1.length + q.2.length ≤ 300) := by have h := HN.out; rw [List.take_of_length_le (by omega)] at h; exact h
            have HSS : Hid (ShortS c) := ⟨by omega, by omega, by omega, by omega, by rw [HPS.out]; exact HPA2.out, HFA.out⟩
            go_wp2_with fail
            exact HYES.out _ HSS.out (HKY.out.trans HKR.out)
end Go.Proofs.YtofeonnmoakbaaaGreatDoor

/- Arguments of the laws of styles, opened: a case, a style. No condition. -/
set_option linter.all false
namespace Go.Proofs.YtofeonnmoakbaaaGreatDoor
open Go.ChangeShapes Go.WideShapes Go.ChangeAt Go.RowKit Go.Joins

def Fit47 (q : P4) : Prop := q.1.length ≤ 140737488355328 ∧ q.2.1.length ≤ 140737488355328 ∧ q.2.2.1.length ≤ 140737488355328 ∧ q.2.2.2.length ≤ 140737488355328
theorem Tryz.cellsPers : Tryz.prog.cellsOf 68 = 4 := by kernel_rfl
theorem Tryz.cellsInt : Tryz.prog.cellsOf 3 = 1 := by kernel_rfl
theorem Tryz.cellsBool : Tryz.prog.cellsOf 4 = 1 := by kernel_rfl
theorem wf_64 {n : Int} (h : (Lit.int .i64 n).wf = true) : -9223372036854775808 ≤ n ∧ n ≤ 9223372036854775807 := by
  have := h
  simp [Lit.wf, IntKind.min, IntKind.max, IntKind.signed, IntKind.bits] at this
  omega
section
variable {H : Type} {enc : TypeId × Value → H} {w : World} {base : Nat} {spare : Nat → Bool} {held : Bool}
theorem Tryz.cellsSrc : Tryz.prog.cellsOf 36 = 5 := by kernel_rfl
theorem Tryz.cellsLp : Tryz.prog.cellsOf 34 = 1 := by kernel_rfl
theorem Tryz.cellsLf : Tryz.prog.cellsOf 22 = 1 := by kernel_rfl
theorem trod_struct5 {t : TypeId} {f0 f1 f2 f3 f4 : Field} {fuel : Nat} {cs : List Value} {x : DataW H × List MemPlace} (ht : Tryz.prog.underlying t = some (.struct #[f0, f1, f2, f3, f4])) (h : DataW.trod enc Tryz.prog w base spare held fuel t cs = some x) :
    ∃ y0 y1 y2 y3 y4 n, x.1 = .agg [y0.1, y1.1, y2.1, y3.1, y4.1] ∧ DataW.trod enc Tryz.prog w base spare held n f0.type ((cs.drop f0.offset).take (Tryz.prog.cellsOf f0.type)) = some y0 ∧ DataW.trod enc Tryz.prog w base spare held n f1.type ((cs.drop f1.offset).take (Tryz.prog.cellsOf f1.type)) = some y1 ∧ DataW.trod enc Tryz.prog w base spare held n f2.type ((cs.drop f2.offset).take (Tryz.prog.cellsOf f2.type)) = some y2 ∧
      DataW.trod enc Tryz.prog w base spare held n f3.type ((cs.drop f3.offset).take (Tryz.prog.cellsOf f3.type)) = some y3 ∧ DataW.trod enc Tryz.prog w base spare held n f4.type ((cs.drop f4.offset).take (Tryz.prog.cellsOf f4.type)) = some y4 := by
  obtain ⟨xs, n, _, rfl, hl, hlen, hf⟩ := DataW.trod_struct ht h
  match xs, hlen with
  | [y0, y1, y2, y3, y4], _ => exact ⟨y0, y1, y2, y3, y4, n, by simp, by simpa using hf 0 f0 rfl, by simpa using hf 1 f1 rfl, by simpa using hf 2 f2 rfl, by simpa using hf 3 f3 rfl, by simpa using hf 4 f4 rfl⟩
set_option maxRecDepth 100000 in
theorem cell_perss {fuel : Nat} {v : Value} {y : DataW H × List MemPlace} (h : DataW.trod enc Tryz.prog w base spare held fuel 34 [v] = some y) (hli : Light 34 y.1) : ∃ ps : List P4, Perss w v ps ∧ ps.length ≤ 140737488355328 ∧ ∀ q ∈ ps, Fit47 q := by
  obtain ⟨ps, a, c, rfl, h1, h2, h3, h4⟩ := open_rows (α := P4) (fun q f => f 0 = some (.string (bs q.1)) ∧ f 1 = some (.string (bs q.2.1)) ∧ f 2 = some (.string (bs q.2.2.1)) ∧ f 3 = some (.string (bs q.2.2.2)) ∧ Fit47 q) Tryz.underlying34 Tryz.cellsPers (by omega) (by
    intro n cs z hl ht hz
    obtain ⟨y0, y1, y2, y3, n', hx, _, h0, h1, h2, h3⟩ := trod_struct4 Tryz.underlying68 ht
    match cs, hl with
    | [v0, v1, v2, v3], _ =>
      simp only [Tryz.cellsStr, List.drop_succ_cons, List.drop_zero, List.take_succ_cons, List.take_zero] at h0 h1 h2 h3
      obtain ⟨q0, rfl, f0⟩ := trod_str_l h0 (Light.part Tryz.underlying68 (by subst hx; exact hz) (j := 0) rfl rfl)
      obtain ⟨q1, rfl, f1⟩ := trod_str_l h1 (Light.part Tryz.underlying68 (by subst hx; exact hz) (j := 1) rfl rfl)
      obtain ⟨q2, rfl, f2⟩ := trod_str_l h2 (Light.part Tryz.underlying68 (by subst hx; exact hz) (j := 2) rfl rfl)
      obtain ⟨q3, rfl, f3⟩ := trod_str_l h3 (Light.part Tryz.underlying68 (by subst hx; exact hz) (j := 3) rfl rfl)
      exact ⟨(q0, q1, q2, q3), rfl, rfl, rfl, rfl, f0, f1, f2, f3⟩) (of_decide_eq_true (by kernel_rfl)) h hli
  refine ⟨ps, ⟨a, c, rfl, h1, fun q => ?_⟩, h2, fun q hq => ?_⟩
  · obtain ⟨g, o, ha, hg, hc⟩ := h3 q
    refine ⟨g, o, ha, hg, fun j x hx => ?_⟩
    obtain ⟨f, ⟨p0, p1, p2, p3, _⟩, hcell⟩ := hc j x hx
    exact ⟨(hcell 0 (by omega)).trans p0, (hcell 1 (by omega)).trans p1, (hcell 2 (by omega)).trans p2, (hcell 3 (by omega)).trans p3⟩
  · obtain ⟨f, _, _, _, _, p⟩ := h4 q hq
    exact p
theorem trod_i64 {n : Nat} {v : Value} {y : DataW H × List MemPlace} (h : DataW.trod enc Tryz.prog w base spare held n 3 [v] = some y) : ∃ i : Int, v = .int .i64 i ∧ -9223372036854775808 ≤ i ∧ i ≤ 9223372036854775807 := by
  obtain ⟨i, h1, _, h3⟩ := DataW.trod_int Tryz.underlying3 h
  simp at h1
  exact ⟨i, h1, wf_64 h3⟩
theorem trod_bl {n : Nat} {v : Value} {y : DataW H × List MemPlace} (h : DataW.trod enc Tryz.prog w base spare held n 4 [v] = some y) : ∃ b : Bool, v = .bool b := by
  obtain ⟨b, h1, _⟩ := DataW.trod_bool Tryz.underlying4 h
  simp at h1
  exact ⟨b, h1⟩
theorem Tryz.cellsCase : Tryz.prog.cellsOf 38 = 9 := by kernel_rfl
theorem Tryz.cellsSty : Tryz.prog.cellsOf 24 = 10 := by kernel_rfl
/-- The value of a case. -/
abbrev caseV (c : FilT) (vA vE vF : Value) : Value := .agg #[.string (bs c.key), .string (bs c.type), vA, vE, vF, .string (bs c.lang), .string (bs c.suffix), .int .i64 c.number, .int .i64 c.most]
def zeroF : FilT := ⟨[], [], [], [], [], [], [], 0, 0⟩
/-- Bounds of a case. -/
def FitC9 (c : FilT) : Prop := Fit48 c ∧ c.lang.length ≤ 140737488355328 ∧ c.suffix.length ≤ 140737488355328 ∧ (-9223372036854775808 ≤ c.number ∧ c.number ≤ 9223372036854775807) ∧ (-9223372036854775808 ≤ c.most ∧ c.most ≤ 9223372036854775807)
set_option maxRecDepth 100000 in
theorem open_case {r : Reach} {b0 : Nat} {v : Value} {d : DataW H} {p : List MemPlace} (hv : Value.okWide Tryz.prog w r b0 38 v) (h : DataW.Trod enc Tryz.prog w base spare held 38 v d p) (hli : Light 38 d) :
    ∃ (c : FilT) (vA vE vF : Value), v = caseV c vA vE vF ∧ Perss w vA c.author ∧ Perss w vE c.editor ∧ Prs w vF c.fields ∧ FitC9 c := by
  obtain ⟨cs, rfl, hsz⟩ := okWide_struct Tryz.underlying38 hv
  rw [Tryz.cellsCase] at hsz
  obtain ⟨l⟩ := cs
  have h0 : l.length = 9 := hsz
  clear hsz
  obtain ⟨x0, l1, rfl, h1⟩ := len_cons h0
  obtain ⟨x1, l2, rfl, h2⟩ := len_cons h1
  obtain ⟨x2, l3, rfl, h3⟩ := len_cons h2
  obtain ⟨x3, l4, rfl, h4⟩ := len_cons h3
  obtain ⟨x4, l5, rfl, h5⟩ := len_cons h4
  obtain ⟨x5, l6, rfl, h6⟩ := len_cons h5
  obtain ⟨x6, l7, rfl, h7⟩ := len_cons h6
  obtain ⟨x7, l8, rfl, h8⟩ := len_cons h7
  obtain ⟨x8, l9, rfl, h9⟩ := len_cons h8
  obtain rfl := List.length_eq_zero_iff.1 h9
  clear h0 h1 h2 h3 h4 h5 h6 h7 h8 h9
  obtain ⟨fuel, hf⟩ := h
  simp only [Value.cells] at hf
  obtain ⟨y0, y1, y2, y3, y4, n, hx, g0, g1, g2, g3, g4⟩ := trod_struct5 Tryz.underlying38 hf
  simp only at hx
  simp only [Tryz.cellsStr, Tryz.cellsSrc, Tryz.cellsInt, List.drop_succ_cons, List.drop_zero, List.take_succ_cons, List.take_zero] at g0 g1 g2 g3 g4
  subst hx
  have L0 : Light 36 y0.1 := Light.part Tryz.underlying38 hli (j := 0) rfl rfl
  obtain ⟨z0, z1, z2, z3, z4, n', hz, q0, q1, q2, q3, q4⟩ := trod_struct5 Tryz.underlying36 g0
  simp only [Tryz.cellsStr, Tryz.cellsLp, Tryz.cellsLf, List.drop_succ_cons, List.drop_zero, List.take_succ_cons, List.take_zero] at q0 q1 q2 q3 q4
  rw [hz] at L0
  obtain ⟨k0, rfl, f0⟩ := trod_str_l q0 (Light.part Tryz.underlying36 L0 (j := 0) rfl rfl)
  obtain ⟨k1, rfl, f1⟩ := trod_str_l q1 (Light.part Tryz.underlying36 L0 (j := 1) rfl rfl)
  obtain ⟨k2, p2, m2, f2⟩ := cell_perss q2 (Light.part Tryz.underlying36 L0 (j := 2) rfl rfl)
  obtain ⟨k3, p3, m3, f3⟩ := cell_perss q3 (Light.part Tryz.underlying36 L0 (j := 3) rfl rfl)
  obtain ⟨k4, p4, m4, f4⟩ := cell_pairs q4 (Light.part Tryz.underlying36 L0 (j := 4) rfl rfl)
  obtain ⟨la, rfl, f5⟩ := trod_str_l g1 (Light.part Tryz.underlying38 hli (j := 1) rfl rfl)
  obtain ⟨su, rfl, f6⟩ := trod_str_l g2 (Light.part Tryz.underlying38 hli (j := 2) rfl rfl)
  obtain ⟨nu, rfl, f7⟩ := trod_i64 g3
  obtain ⟨mo, rfl, f8⟩ := trod_i64 g4
  exact ⟨⟨k0, k1, k2, k3, k4, la, su, nu, mo⟩, x2, x3, x4, rfl, p2, p3, p4, ⟨f0, f1, m2, m3, m4, f4, fun q hq => (List.mem_append.1 hq).elim (fun h => f2 q h) (fun h => f3 q h)⟩, f5, f6, f7, f8⟩
/-- Bounds of a style that is read. -/
def FitY (y : StyT) : Prop := y.name.length ≤ 140737488355328 ∧ y.sort.length ≤ 140737488355328 ∧ y.cite.length ≤ 140737488355328 ∧ y.bare.length ≤ 140737488355328 ∧ y.between.length ≤ 140737488355328 ∧ y.begin_.length ≤ 140737488355328 ∧ y.end_.length ≤ 140737488355328 ∧ (-9223372036854775808 ≤ y.most ∧ y.most ≤ 9223372036854775807) ∧ y.entries.length ≤ 140737488355328 ∧ ∀ p ∈ y.entries, p.1.length ≤ 140737488355328 ∧ p.2.length ≤ 140737488355328
set_option maxRecDepth 100000 in
theorem open_sty {r : Reach} {b0 : Nat} {v : Value} {d : DataW H} {p : List MemPlace} (hv : Value.okWide Tryz.prog w r b0 24 v) (h : DataW.Trod enc Tryz.prog w base spare held 24 v d p) (hli : Light 24 d) :
    ∃ (y : StyT) (vE : Value), v = styV vE y ∧ Prs w vE y.entries ∧ FitY y := by
  obtain ⟨cs, rfl, hsz⟩ := okWide_struct Tryz.underlying24 hv
  rw [Tryz.cellsSty] at hsz
  obtain ⟨l⟩ := cs
  have h0 : l.length = 10 := hsz
  clear hsz
  obtain ⟨x0, l1, rfl, h1⟩ := len_cons h0
  obtain ⟨x1, l2, rfl, h2⟩ := len_cons h1
  obtain ⟨x2, l3, rfl, h3⟩ := len_cons h2
  obtain ⟨x3, l4, rfl, h4⟩ := len_cons h3
  obtain ⟨x4, l5, rfl, h5⟩ := len_cons h4
  obtain ⟨x5, l6, rfl, h6⟩ := len_cons h5
  obtain ⟨x6, l7, rfl, h7⟩ := len_cons h6
  obtain ⟨x7, l8, rfl, h8⟩ := len_cons h7
  obtain ⟨x8, l9, rfl, h9⟩ := len_cons h8
  obtain ⟨x9, l10, rfl, h10⟩ := len_cons h9
  obtain rfl := List.length_eq_zero_iff.1 h10
  clear h0 h1 h2 h3 h4 h5 h6 h7 h8 h9 h10
  obtain ⟨fuel, hf⟩ := h
  simp only [Value.cells] at hf
  obtain ⟨xs, n, _, hx, _, hlen, hp⟩ := DataW.trod_struct Tryz.underlying24 hf
  have hlen' : xs.length = 10 := hlen
  obtain ⟨y0, l1, rfl, h1⟩ := len_cons hlen'
  obtain ⟨y1, l2, rfl, h2⟩ := len_cons h1
  obtain ⟨y2, l3, rfl, h3⟩ := len_cons h2
  obtain ⟨y3, l4, rfl, h4⟩ := len_cons h3
  obtain ⟨y4, l5, rfl, h5⟩ := len_cons h4
  obtain ⟨y5, l6, rfl, h6⟩ := len_cons h5
  obtain ⟨y6, l7, rfl, h7⟩ := len_cons h6
  obtain ⟨y7, l8, rfl, h8⟩ := len_cons h7
  obtain ⟨y8, l9, rfl, h9⟩ := len_cons h8
  obtain ⟨y9, l10, rfl, h10⟩ := len_cons h9
  obtain rfl := List.length_eq_zero_iff.1 h10
  clear h1 h2 h3 h4 h5 h6 h7 h8 h9 h10 hlen hlen'
  have g0 := hp 0 _ rfl
  have g1 := hp 1 _ rfl
  have g2 := hp 2 _ rfl
  have g3 := hp 3 _ rfl
  have g4 := hp 4 _ rfl
  have g5 := hp 5 _ rfl
  have g6 := hp 6 _ rfl
  have g7 := hp 7 _ rfl
  have g8 := hp 8 _ rfl
  have g9 := hp 9 _ rfl
  clear hp
  simp only [Tryz.cellsStr, Tryz.cellsLf, Tryz.cellsInt, Tryz.cellsBool, List.drop_succ_cons, List.drop_zero, List.take_succ_cons, List.take_zero, List.getElem?_cons_zero, List.getElem?_cons_succ] at g0 g1 g2 g3 g4 g5 g6 g7 g8 g9
  simp only [Prod.mk.injEq, List.map_cons, List.map_nil] at hx
  obtain ⟨hx, _⟩ := hx
  subst hx
  obtain ⟨k0, rfl, f0⟩ := trod_str_l g0 (Light.part Tryz.underlying24 hli (j := 0) rfl rfl)
  obtain ⟨k1, rfl⟩ := trod_bl g1
  obtain ⟨k2, rfl, f2⟩ := trod_str_l g2 (Light.part Tryz.underlying24 hli (j := 2) rfl rfl)
  obtain ⟨k3, rfl, f3⟩ := trod_str_l g3 (Light.part Tryz.underlying24 hli (j := 3) rfl rfl)
  obtain ⟨k4, rfl, f4⟩ := trod_str_l g4 (Light.part Tryz.underlying24 hli (j := 4) rfl rfl)
  obtain ⟨k5, rfl, f5⟩ := trod_str_l g5 (Light.part Tryz.underlying24 hli (j := 5) rfl rfl)
  obtain ⟨k6, rfl, f6⟩ := trod_str_l g6 (Light.part Tryz.underlying24 hli (j := 6) rfl rfl)
  obtain ⟨k7, rfl, f7⟩ := trod_str_l g7 (Light.part Tryz.underlying24 hli (j := 7) rfl rfl)
  obtain ⟨k8, rfl, f8⟩ := trod_i64 g8
  obtain ⟨k9, p9, m9, f9⟩ := cell_pairs g9 (Light.part Tryz.underlying24 hli (j := 9) rfl rfl)
  exact ⟨⟨k0, k1, k2, k3, k4, k5, k6, k7, k8, k9⟩, x9, rfl, p9, f0, f2, f3, f4, f5, f6, f7, f8, m9, f9⟩
end
end Go.Proofs.YtofeonnmoakbaaaGreatDoor

/- The law StylePlain: a template without fields and groups is its own text. No condition. -/
set_option linter.all false
namespace Go.Proofs.YtofeonnmoakbaaaGreatDoor
open Go.RowKit

theorem runN_all : ∀ l : Bs, (∀ b ∈ l, inSet spSet b = false) → runN l = l.length
  | [], _ => rfl
  | b :: l, h => by
    rw [runN_out (h b (List.mem_cons_self ..)), runN_all l (fun x hx => h x (List.mem_cons_of_mem _ hx))]; rfl
theorem plain_spl {t : Bs} (hv : validB (bs t) = true) (h : ∀ b ∈ t, inSet spSet b = false ∧ b ≠ 10) : splE t = 0 ∧ ∀ c, fillS c t = t := by
  have hl : lnB t = true := by
    unfold lnB
    rw [hv, Bool.true_and, Bool.not_eq_true', Bool.eq_false_iff]
    intro q
    rw [List.contains_iff_mem] at q
    exact (h 10 q).2 rfl
  have hs : splT t = some (if t = [] then [] else [⟨t, false, 0⟩]) := by
    unfold splT
    cases t with
    | nil => rfl
    | cons b r =>
      rw [splP_run _ _ _ (h b (List.mem_cons_self ..)).1, runN_all (b :: r) (fun x hx => (h x hx).1), List.drop_length, List.take_length]
      rw [show (b :: r).length = r.length + 1 from rfl, splP_end]
      rfl
  obtain ⟨e1, e2⟩ := splE_ok hl hs
  refine ⟨e1, fun c => ?_⟩
  unfold fillS
  rw [e2]
  split
  · rename_i q; subst q; rfl
  · unfold fillB dropG fillP
    simp
theorem short_fit {c : FilT} (h : ShortS c) (hf : FitC9 c) (hs : c.suffix.length ≤ 100) : FitV c := by
  obtain ⟨h1, h2, h3, h4, h5, h6⟩ := h
  obtain ⟨_, _, _, n1, n2⟩ := hf
  refine ⟨⟨by omega, by omega, fun q hq => by have := h5 q (List.mem_append.2 (.inl hq)); omega, fun q hq => by have := h5 q (List.mem_append.2 (.inr hq)); omega, n2, by omega, ?_, n1⟩, by omega, by omega, by omega, fun p hp => by have := h6 p hp; omega⟩
  have := field_len (ps := c.fields) (n := 300) (fun p hp => by have := h6 p hp; omega) [121, 101, 97, 114]
  omega
/-- The style that has its number of persons alone. -/
def mostY (n : Int) : StyT := { zeroY with most := n }
set_option maxRecDepth 100000 in
set_option maxHeartbeats 12800000 in
theorem lsplain_any (t : Bs) (c : FilT) (vA vE vF : Value) (w : World) (hg : Gnd w) (hT : TabW w) (ht : t.length ≤ 9223372036854775807) (hA : Perss w vA c.author) (hE : Perss w vE c.editor) (hF : Prs w vF c.fields) (hf : FitC9 c) :
    Calls Tryz.prog 6 #[.string (bs t), caseV c vA vE vF] w fun e w' => e = .returned (.bool true) ∧ Kept w w' := by
  have HG := Lib.hid hg
  have HT := Lib.hid hT
  have HAW := Lib.hid (fun w h1 h2 => sawake_any w h1 h2)
  have HK0 := Lib.hid (kept_alloc w (.cells #[.string (bs c.key), .string (bs c.type), vA, vE, vF, .string (bs c.lang), .string (bs c.suffix), .int .i64 c.number, .int .i64 c.most] 38))
  have HB0 := Lib.hid (Blk.new w 38 #[.string (bs c.key), .string (bs c.type), vA, vE, vF, .string (bs c.lang), .string (bs c.suffix), .int .i64 c.number, .int .i64 c.most])
  have HSH := Lib.hid (fun w h1 h2 h3 => sshort_any c vA vE vF w h1 h2 h3 hf.1)
  unfold ShortP at HSH
  have HFC := Lib.hid hf
  obtain ⟨-, fl, fs, fn, fm⟩ := hf
  have HA := Lib.hid hA
  have HE := Lib.hid hE
  have HF := Lib.hid hF
  clear hg hT hA hE hF
  by_cases g1 : 300 < t.length
  · go_enter Tryz.func6, Tryz.ntmps6
    go_wp2_with fail
    refine (HAW.out _ (HG.out.kept HK0.out) (HT.out.kept HK0.out)).mono ?_
    rintro e w9 ⟨rfl, hk9⟩
    have HK9 := Lib.hid (HK0.out.trans hk9)
    clear hk9
    go_wp2_with fail
    go_ret
    exact ⟨rfl, HK9.out⟩
  go_enter Tryz.func6, Tryz.ntmps6
  go_wp2_with fail
  generalize w.alloc _ = w0 at *
  obtain ⟨B, HBB⟩ : ∃ B, Hid (w.heap.size = B) := ⟨_, rfl⟩
  rw [HBB.out] at HB0 ⊢
  refine (HSH.out _ (HA.out.kept HK0.out) (HE.out.kept HK0.out) (HF.out.kept HK0.out)).mono ?_
  rintro e w1 ⟨b, rfl, hb, hk1⟩
  have HSB := Lib.hid hb
  have HK1 := Lib.hid (HK0.out.trans hk1)
  have HB1 := Lib.hid (HB0.out.kept hk1)
  clear hb hk1 HK0 HB0 HSH
  cases b with
  | false =>
    go_wp2_with fail
    refine (HAW.out _ (HG.out.kept HK1.out) (HT.out.kept HK1.out)).mono ?_
    rintro e w9 ⟨rfl, hk9⟩
    have HK9 := Lib.hid (HK1.out.trans hk9)
    clear hk9
    go_wp2_with fail
    go_ret
    exact ⟨rfl, HK9.out⟩
  | true =>
  have HSS := Lib.hid (HSB.out rfl)
  clear HSB
  have c5 : w1.cell? ⟨B, 5, none⟩ = some (.string (bs c.lang)) := HB1.out.cell 5 _ rfl
  have c6 : w1.cell? ⟨B, 6, none⟩ = some (.string (bs c.suffix)) := HB1.out.cell 6 _ rfl
  have z1 := HB1.out.lt
  by_cases g2 : 100 < c.suffix.length
  · go_wp2_with fail
    refine (HAW.out _ (HG.out.kept HK1.out) (HT.out.kept HK1.out)).mono ?_
    rintro e w9 ⟨rfl, hk9⟩
    have HK9 := Lib.hid (HK1.out.trans hk9)
    clear hk9
    go_wp2_with fail
    go_ret
    exact ⟨rfl, HK9.out⟩
  by_cases g3 : 100 < c.lang.length
  · go_wp2_with fail
    refine (HAW.out _ (HG.out.kept HK1.out) (HT.out.kept HK1.out)).mono ?_
    rintro e w9 ⟨rfl, hk9⟩
    have HK9 := Lib.hid (HK1.out.trans hk9)
    clear hk9
    go_wp2_with fail
    go_ret
    exact ⟨rfl, HK9.out⟩
  have HRV := Lib.hid (fun w => rvalid_any (bs t) w (by simp; omega))
  go_wp2_with fail
  refine (HRV.out _).mono ?_
  rintro e w2 ⟨rfl, hk2⟩
  have HK2 := Lib.hid (HK1.out.trans hk2)
  have HB2 := Lib.hid (HB1.out.kept hk2)
  clear c5 c6 z1 HRV hk2
  cases hval : validB (bs t) with
  | false =>
    go_wp2_with fail
    refine (HAW.out _ (HG.out.kept HK2.out) (HT.out.kept HK2.out)).mono ?_
    rintro e w9 ⟨rfl, hk9⟩
    have HK9 := Lib.hid (HK2.out.trans hk9)
    clear hk9
    go_wp2_with fail
    go_ret
    exact ⟨rfl, HK9.out⟩
  | true =>
  have HPL := Lib.hid (fun h => plain_spl hval h)
  have HFV := Lib.hid (short_fit HSS.out HFC.out (by omega))
  have HFI := Lib.hid (fun w h1 h2 h3 h4 h5 => sfill_any c t vA vE vF (.slice none 0 0) (mostY c.most) w rfl rfl h1 h2 (by omega) HFV.out h3 h4 h5)
  clear hval HFV HFC HSS
  go_wp2_with fail
  go_loopw [5] (fun i wr => ∃ k : Nat, k ≤ t.length ∧ i = .int .i64 k ∧ Hid (∀ j (hj : j < t.length), j < k → inSet spSet t[j] = false ∧ t[j] ≠ 10) ∧ Hid (Kept w wr) ∧ Hid (Kept w2 wr)) (fun i _ => t.length - (intOf i).toNat)
  case atStart => exact ⟨0, Nat.zero_le _, rfl, fun j hj h => by omega, HK2.out, Kept.refl _⟩
  case round =>
    obtain ⟨k, hk, rfl, HN, HKW, HKR⟩ := hrel
    by_cases hlt : k < t.length
    · have i0 := run_ix (P := Tryz.prog) (t := 9) Tryz.underlying9 t k hlt k rfl
      by_cases h123 : at8 t k = 123
      · rw [h123] at i0
        clear h123
        go_wp2_with fail
        refine (HAW.out _ (HG.out.kept HKW.out) (HT.out.kept HKW.out)).mono ?_
        rintro e w9 ⟨rfl, hk9⟩
        have HK9 := Lib.hid (HKW.out.trans hk9)
        clear hk9
        go_wp2_with fail
        go_ret
        exact ⟨rfl, HK9.out⟩
      by_cases h125 : at8 t k = 125
      · rw [h125] at i0
        clear h125
        go_wp2_with fail
        refine (HAW.out _ (HG.out.kept HKW.out) (HT.out.kept HKW.out)).mono ?_
        rintro e w9 ⟨rfl, hk9⟩
        have HK9 := Lib.hid (HKW.out.trans hk9)
        clear hk9
        go_wp2_with fail
        go_ret
        exact ⟨rfl, HK9.out⟩
      by_cases h91 : at8 t k = 91
      · rw [h91] at i0
        clear h91
        go_wp2_with fail
        refine (HAW.out _ (HG.out.kept HKW.out) (HT.out.kept HKW.out)).mono ?_
        rintro e w9 ⟨rfl, hk9⟩
        have HK9 := Lib.hid (HKW.out.trans hk9)
        clear hk9
        go_wp2_with fail
        go_ret
        exact ⟨rfl, HK9.out⟩
      by_cases h93 : at8 t k = 93
      · rw [h93] at i0
        clear h93
        go_wp2_with fail
        refine (HAW.out _ (HG.out.kept HKW.out) (HT.out.kept HKW.out)).mono ?_
        rintro e w9 ⟨rfl, hk9⟩
        have HK9 := Lib.hid (HKW.out.trans hk9)
        clear hk9
        go_wp2_with fail
        go_ret
        exact ⟨rfl, HK9.out⟩
      by_cases h10 : at8 t k = 10
      · rw [h10] at i0
        clear h10
        go_wp2_with fail
        refine (HAW.out _ (HG.out.kept HKW.out) (HT.out.kept HKW.out)).mono ?_
        rintro e w9 ⟨rfl, hk9⟩
        have HK9 := Lib.hid (HKW.out.trans hk9)
        clear hk9
        go_wp2_with fail
        go_ret
        exact ⟨rfl, HK9.out⟩
      have HS : Hid (∀ j (hj : j < t.length), j < k + 1 → inSet spSet t[j] = false ∧ t[j] ≠ 10) := by
        intro j hj hjk
        rcases Nat.lt_or_ge j k with q | q
        · exact HN.out j hj q
        · obtain rfl : j = k := by omega
          have hc : ∀ n : Nat, n < 256 → ¬ at8 t j = (n : Int) → t[j] ≠ UInt8.ofNat n := fun n hn h e => h (by rw [at8_get t j hlt]; exact (u8_int _ n hn).2 e)
          have a1 := hc 123 (by decide) h123
          have a2 := hc 125 (by decide) h125
          have a3 := hc 91 (by decide) h91
          have a4 := hc 93 (by decide) h93
          have a5 := hc 10 (by decide) h10
          refine ⟨?_, a5⟩
          cases hq : inSet spSet t[j] with
          | false => rfl
          | true =>
            exfalso
            rcases spSet_cases hq with q | q | q | q
            · exact a1 q
            · exact a2 q
            · exact a3 q
            · exact a4 q
      have b1 : (at8 t k == 123) = false := by simpa using h123
      have b2 : (at8 t k == 125) = false := by simpa using h125
      have b3 : (at8 t k == 91) = false := by simpa using h91
      have b4 : (at8 t k == 93) = false := by simpa using h93
      have b5 : (at8 t k == 10) = false := by simpa using h10
      clear h123 h125 h91 h93 h10 HN
      generalize at8 t k = b at *
      go_wp2_with fail
      go_roundw
      case rel => exact ⟨k + 1, by omega, by go_num, HS.out, HKW.out, HKR.out⟩
      case measure => simp [intOf]; omega
    · obtain ⟨he, hfs⟩ := HPL.out (fun b hb => by
        obtain ⟨j, hj, e⟩ := List.getElem_of_mem hb
        have := HN.out j hj (by omega)
        rwa [e] at this)
      rw [he, hfs c] at HFI
      have HBR := Lib.hid (HB2.out.kept HKR.out)
      have c0 : wr.cell? ⟨B, 0, none⟩ = some (.string (bs c.key)) := HBR.out.cell 0 _ rfl
      have c1 : wr.cell? ⟨B, 1, none⟩ = some (.string (bs c.type)) := HBR.out.cell 1 _ rfl
      have c2 : wr.cell? ⟨B, 2, none⟩ = some vA := HBR.out.cell 2 _ rfl
      have c3 : wr.cell? ⟨B, 3, none⟩ = some vE := HBR.out.cell 3 _ rfl
      have c4 : wr.cell? ⟨B, 4, none⟩ = some vF := HBR.out.cell 4 _ rfl
      have c5 : wr.cell? ⟨B, 5, none⟩ = some (.string (bs c.lang)) := HBR.out.cell 5 _ rfl
      have c6 : wr.cell? ⟨B, 6, none⟩ = some (.string (bs c.suffix)) := HBR.out.cell 6 _ rfl
      have c7 : wr.cell? ⟨B, 7, none⟩ = some (.int .i64 c.number) := HBR.out.cell 7 _ rfl
      have c8 : wr.cell? ⟨B, 8, none⟩ = some (.int .i64 c.most) := HBR.out.cell 8 _ rfl
      have zB := HBR.out.lt
      clear he hfs HPL HN
      unfold styV at HFI
      go_wp2_with fail
      refine (HFI.out _ (HG.out.kept HKW.out) (HT.out.kept HKW.out) (HA.out.kept HKW.out) (HE.out.kept HKW.out) (HF.out.kept HKW.out)).mono ?_
      rintro e w4 ⟨rfl, hk4⟩
      have HK4 := Lib.hid (HKW.out.trans hk4)
      clear hk4 c0 c1 c2 c3 c4 c5 c6 c7 c8 zB HBR
      go_wp2_with fail
      refine (HAW.out _ (HG.out.kept HK4.out) (HT.out.kept HK4.out)).mono ?_
      rintro e w5 ⟨rfl, hk5⟩
      have HK5 := Lib.hid (HK4.out.trans hk5)
      clear hk5
      go_wp2_with fail
      go_ret
      exact ⟨rfl, HK5.out⟩
end Go.Proofs.YtofeonnmoakbaaaGreatDoor
