/- publisherref04.heavy, Small: where Small answers true, a document is small. Conditions: lengths that a machine can tell. -/
import Derived.Test.YtnbhpmleboildaaGreatDoorY10
import Derived.Test.YtnbhpmleboildaaGreatDoorY29
import Derived.Test.YtnbhpmleboildaaGreatDoorY26
import Derived.Test.YtnbhpmleboildaaGreatDoorY21
import Derived.Test.YtnbhpmleboildaaGreatDoorY28
import Derived.Test.YtnbhpmleboildaaGreatDoorY23
import Derived.Test.YtnbhpmleboildaaGreatDoorY01
import Derived.Test.YtnbhpmleboildaaGreatDoorRows
import Derived.ProofKit
import Derived.OpenShut
import Derived.Carry
import Derived.ChangeSame
import Derived.Deep.DeepHandedRow
import Derived.Lib.LaidTab
import Derived.Shelf.Vars

set_option linter.all false
namespace Go.Proofs.YtnbhpmleboildaaGreatDoor
open Go.RowKit

def hB (dep : Nat) : Int := 1000 + (21 - dep) * 9007199254740992
theorem hB_next {dep : Nat} : hB dep = hB (dep + 1) + 9007199254740992 := by unfold hB; omega
theorem hB_le {dep : Nat} : hB dep ≤ 189151184349561832 := by unfold hB; omega
theorem hB_ge {dep : Nat} (h : dep ≤ 21) : 1000 ≤ hB dep := by unfold hB; omega
def HvyP (xs : List Blo) (dep : Nat) (w : World) (e : Ending) (w' : World) : Prop :=
  ∃ r : Int, e = .returned (.int .i64 r) ∧ 0 ≤ r ∧ r ≤ hB dep ∧ (r < 1000 → (sumB xs : Int) ≤ r ∧ ∀ x ∈ listL xs, okBs x) ∧ Kept w w'
set_option maxRecDepth 100000 in
set_option maxHeartbeats 12800000 in
theorem heavy_any (S : Nat → Prop) (N : Nat) : ∀ (n : Nat) (xs : List Blo) (v : Value) (dep : Nat) (w : World), Bls S N n w v xs → dep ≤ 21 → xs.length ≤ 140737488355328 → (∀ x ∈ listL xs, FitK x) →
    Calls Tryz.prog 13 #[v, .int .i64 dep] w (HvyP xs dep w) := by
  intro n
  induction n with
  | zero =>
    intro xs v dep w hv hd hl hf
    obtain rfl := hv.no
    obtain ⟨a, c, rfl, hc⟩ := hv.form
    have h1 := hB_ge hd
    by_cases q1 : 20 < dep
    · have HFIN : HvyP [] dep w (.returned (.int .i64 1000)) w := ⟨1000, rfl, by omega, h1, fun q => absurd q (by omega), Kept.refl w⟩
      generalize hP : HvyP [] dep w = P at *
      clear hv hP hf
      go_enter Tryz.func13, Tryz.ntmps13
      go_wp2_with fail
      (try go_ret)
      exact HFIN
    · have HFIN : HvyP [] dep w (.returned (.int .i64 0)) w := ⟨0, rfl, by omega, by omega, fun _ => ⟨Int.le_refl _, fun x hx => (List.not_mem_nil hx).elim⟩, Kept.refl w⟩
      generalize hP : HvyP [] dep w = P at *
      clear hv hP hf
      go_enter Tryz.func13, Tryz.ntmps13
      go_wp2_with fail
      go_loopw [5, 6] (fun m i wr => m = .int .i64 0 ∧ i = .int .i64 0 ∧ w = wr) (fun _ i _ => 1)
      case atStart => exact ⟨rfl, rfl, rfl⟩
      case round =>
        obtain ⟨rfl, rfl, rfl⟩ := hrel
        go_wp2_with fail
        (try go_ret)
        exact HFIN
  | succ n ih =>
    intro xs v dep w hv hd hl hf
    have HV := Lib.hid hv
    have HIH := Lib.hid ih
    have HF := Lib.hid hf
    unfold HvyP at HIH
    obtain ⟨a, c, rfl, hc⟩ := hv.form
    have h1 := hB_ge hd
    have HBIG : Hid (∀ w', Kept w w' → HvyP xs dep w (.returned (.int .i64 1000)) w') := fun w' k => ⟨1000, rfl, by omega, h1, fun q => absurd q (by omega), k⟩
    have HFIN : Hid (∀ (r : Int) w', 0 ≤ r → r ≤ hB dep → (r < 1000 → (sumB xs : Int) ≤ r ∧ ∀ x ∈ listL xs, okBs x) → Kept w w' → HvyP xs dep w (.returned (.int .i64 r)) w') := fun r w' k1 k2 k3 k => ⟨r, rfl, k1, k2, k3, k⟩
    generalize hP : HvyP xs dep w = P at *
    clear hv hP hf ih
    by_cases q1 : 20 < dep
    · go_enter Tryz.func13, Tryz.ntmps13
      go_wp2_with fail
      (try go_ret)
      exact HBIG.out w (Kept.refl w)
    by_cases q2 : 200 < xs.length
    · go_enter Tryz.func13, Tryz.ntmps13
      go_wp2_with fail
      (try go_ret)
      exact HBIG.out w (Kept.refl w)
    have hw1 := hB_ge (show dep + 1 ≤ 21 by omega)
    have hw2 := hB_le (dep := dep + 1)
    have hw3 := hB_next (dep := dep)
    generalize hB dep = WD at *
    obtain ⟨WE, HWE⟩ : ∃ z, Hid (hB (dep + 1) = z) := ⟨_, rfl⟩
    rw [HWE.out] at hw1 hw2 hw3
    clear h1
    go_enter Tryz.func13, Tryz.ntmps13
    go_wp2_with fail
    go_loopw [5, 6] (fun m i wr => ∃ (k : Nat) (r : Int), k ≤ xs.length ∧ i = .int .i64 k ∧ m = .int .i64 r ∧ 0 ≤ r ∧ r ≤ WD ∧ Hid (r < 1000 → ((sumB (xs.take k) + (xs.length - k) : Nat) : Int) ≤ r ∧ ∀ x ∈ listL (xs.take k), okBs x) ∧ Hid (Kept w wr)) (fun _ i _ => xs.length - (intOf i).toNat)
    case atStart => exact ⟨0, xs.length, Nat.zero_le _, rfl, rfl, by omega, by omega, fun _ => ⟨by simp [sumB, listL, inlsL], fun x hx => (List.not_mem_nil hx).elim⟩, Kept.refl w⟩
    case round =>
      obtain ⟨k, r, hk, rfl, rfl, hr0, hr1, HR, HKR⟩ := hrel
      by_cases hlt : k < xs.length
      · by_cases hr2 : r < 1000
        · obtain ⟨x, hx⟩ : ∃ x, xs[k]? = some x := ⟨_, List.getElem?_eq_getElem hlt⟩
          have HT := Lib.hid (listL_snocH hx)
          have HTS := Lib.hid (sumB_tk hx)
          have hmx := listL_at (List.mem_of_getElem? hx)
          have hfx := HF.out x hmx.1
          have HFK : Hid (∀ y ∈ listL x.kids, FitK y) := fun y hy => HF.out y (hmx.2 y hy)
          obtain ⟨g, o, vC, vP, vL, vK, rfl, hgg, hgS, -, -, ⟨d0, d1, d2, d3, d4, d5, d6, d7, d8, d9, d10⟩, -, ⟨hC, iC⟩, ⟨hPP, iP⟩, hL, hK⟩ := Bls.at_ (HV.out.kept HKR.out) k x hx
          clear hx hmx
          obtain ⟨X, HX⟩ : ∃ X, Hid (x = X) := ⟨_, rfl⟩
          rw [HX.out] at HT HTS
          obtain ⟨kind, level, info, text, dest, title, id, cls, prs, line, kids⟩ := x
          simp only [Blo.kind, Blo.level, Blo.info, Blo.text, Blo.dest, Blo.title, Blo.id, Blo.cls, Blo.prs, Blo.line, Blo.kids] at d0 d1 d2 d3 d4 d5 d6 hC hPP hL hK
          obtain ⟨⟨f1, f2, f3, f4⟩, f5, f6, f7, f8⟩ := hfx
          simp only [Blo.kind, Blo.level, Blo.info, Blo.text, Blo.dest, Blo.title, Blo.id, Blo.cls, Blo.prs, Blo.line, Blo.kids] at f1 f2 f3 f4 f5 f6 f7 f8
          have HXK : Hid (X.kids = kids ∧ X.line = line) := by show _ ∧ _; rw [← HX.out]; exact ⟨rfl, rfl⟩
          have HXO : Hid (text.length + info.length + dest.length + title.length ≤ 300 → okLong id cls prs → (∀ y ∈ deepL line, okXs y) → okBs X) := by
            show _ → _
            intro a1 a2 a3
            rw [← HX.out]; exact ⟨⟨a1, a2⟩, a3⟩
          replace HFK : Hid (∀ y ∈ listL kids, FitK y) := HFK.out
          rw [HXK.out.1] at HT HTS
          rw [HXK.out.2] at HTS
          clear HX HXK
          have HF5 := Lib.hid f5
          have HF8 := Lib.hid f8
          clear f5 f8
          obtain ⟨aC, cC, rfl, lC⟩ := hC.shape
          obtain ⟨aP, cP, rfl, lP⟩ := hPP.shape
          obtain ⟨aL, cL, rfl, lL⟩ := hL.form
          obtain ⟨aK, cK, rfl, lK⟩ := hK.form
          have hka := kept_alloc wr (.cells #[.int .i64 kind, .int .i64 level, .string (bs info), .string (bs text), .string (bs dest), .string (bs title), .string (bs id), .slice aC cls.length cC, .slice aP prs.length cP, .slice aL line.length cL, .slice aK kids.length cK] 38)
          have HB := Lib.hid (Blk.new wr 38 #[.int .i64 kind, .int .i64 level, .string (bs info), .string (bs text), .string (bs dest), .string (bs title), .string (bs id), .slice aC cls.length cC, .slice aP prs.length cP, .slice aL line.length cL, .slice aK kids.length cK])
          have HKW := Lib.hid (HKR.out.trans hka)
          have HC := Lib.hid (hC.kept hka)
          have HPR := Lib.hid (hPP.kept hka)
          have HL := Lib.hid (hL.kept hka)
          have HKK := Lib.hid (hK.kept hka)
          clear hka hC hPP hL hK iC iP
          by_cases q3 : 300 < text.length + info.length + dest.length + title.length
          · have HE := Lib.hid (HBIG.out _ HKW.out)
            clear HKR
            go_wp2_with fail
            (try go_ret)
            exact HE.out
          go_wp2_with fail
          generalize wr.alloc (.cells #[.int .i64 kind, .int .i64 level, .string (bs info), .string (bs text), .string (bs dest), .string (bs title), .string (bs id), .slice aC cls.length cC, .slice aP prs.length cP, .slice aL line.length cL, .slice aK kids.length cK] 38) = w1 at *
          generalize wr.heap.size = B at *
          refine (long_any id cls prs _ _ w1 HC.out HPR.out HF5.out).mono ?_
          rintro e w2 ⟨b, rfl, hb, hk2⟩
          have HK2 := Lib.hid (HKW.out.trans hk2)
          have HB2 := Lib.hid (HB.out.kept hk2)
          have HL2 := Lib.hid (HL.out.kept hk2)
          have HKK2 := Lib.hid (HKK.out.kept hk2)
          clear hk2 HKW HB HL HKK HC HPR HF5 HKR d0 d1 d2 d3 d4 d5 d6 d7 d8 d9 d10
          cases b with
          | true =>
            have HE := Lib.hid (HBIG.out _ HK2.out)
            go_wp2_with fail
            (try go_ret)
            exact HE.out
          | false =>
            have HLO := Lib.hid (hb rfl)
            clear hb
            have HKD : Hid (Kept w2 w2.drew) := kept_drewN w2 1
            have y9 : w2.drew.cell? ⟨B, 9, none⟩ = some (.slice aL line.length cL) := (HB2.out.kept HKD.out).cell 9 _ rfl
            have y10 : w2.drew.cell? ⟨B, 10, none⟩ = some (.slice aK kids.length cK) := (HB2.out.kept HKD.out).cell 10 _ rfl
            have zB : B < w2.drew.heap.size := (HB2.out.kept HKD.out).lt
            have hwe := wB_le (dep := 0)
            have HWW : Hid (∀ w', Kept w2 w' → Calls Tryz.prog 27 #[.slice aL line.length cL, .int .i64 0] w' (WgtP line 0 w')) := fun w' k => weight_any S N line _ 0 w' (HL2.out.kept k) (by omega) f6 HF8.out
            have HHH : Hid (∀ w', Kept w2 w' → Calls Tryz.prog 13 #[.slice aK kids.length cK, .int .i64 ((dep : Int) + 1)] w' fun e w'' => ∃ r : Int, e = .returned (.int .i64 r) ∧ 0 ≤ r ∧ r ≤ WE ∧ (r < 1000 → (sumB kids : Int) ≤ r ∧ ∀ x ∈ listL kids, okBs x) ∧ Kept w' w'') := fun w' k => by
              have h := HIH.out kids (.slice aK kids.length cK) (dep + 1) w' (HKK2.out.kept k) (by omega) f7 HFK.out
              rw [HWE.out, show (((dep + 1 : Nat)) : Int) = (dep : Int) + 1 by omega] at h
              exact h
            unfold WgtP at HWW
            clear HL2 HKK2 HFK HIH HF8 HF HV
            go_upto_region 10 with fail
            refine hreg10 (.slice aL line.length cL) (.slice aK kids.length cK) B dep r (fun z => (0 ≤ z ∧ z ≤ 5910974510924776) ∧ (z < 1000 → ((deepL line).length : Int) ≤ z ∧ ∀ x ∈ deepL line, okXs x)) (fun z => (0 ≤ z ∧ z ≤ WE) ∧ (z < 1000 → (sumB kids : Int) ≤ z ∧ ∀ x ∈ listL kids, okBs x)) (by kernel_rfl)
              ⟨_, rfl, rfl, rfl, rfl⟩ ⟨_, rfl, rfl, rfl, rfl⟩ ⟨_, rfl, rfl, rfl, rfl⟩ ⟨_, rfl, rfl, rfl, rfl⟩ ⟨_, rfl, rfl, rfl, rfl⟩ ⟨_, rfl, rfl, rfl, rfl⟩ ⟨_, rfl, rfl, rfl, rfl⟩ ⟨_, rfl, rfl, rfl, rfl⟩ ⟨_, rfl, rfl, rfl, rfl⟩ ⟨_, rfl, rfl, rfl, rfl⟩ ⟨_, rfl, rfl, rfl, rfl⟩ ⟨_, rfl, rfl, rfl, rfl⟩
              (by simp) rfl rfl rfl hd ⟨hr0, hr2⟩ HB2.out.lt (HB2.out.cell 9 _ rfl) (HB2.out.cell 10 _ rfl) (fun z h => ⟨h.1.1, by have := h.1.2; omega⟩) (fun z h => ⟨h.1.1, by have := h.1.2; omega⟩)
              (fun w' k => (HWW.out w' k).mono fun e w'' ⟨z, h1, h2, h3, h4, h5⟩ => ⟨z, h1, ⟨⟨h2, by omega⟩, h4⟩, h5⟩)
              (fun w' k => (HHH.out w' k).mono fun e w'' ⟨z, h1, h2, h3, h4, h5⟩ => ⟨z, h1, ⟨⟨h2, h3⟩, h4⟩, h5⟩) ?_
            intro V wz r1 r2 hV ⟨⟨a1, a2⟩, ha⟩ ⟨⟨b1, b2⟩, hb⟩ hkz
            have HA := Lib.hid ha
            have HBB := Lib.hid hb
            have HKZ := Lib.hid hkz
            rw [hV]
            clear ha hb hkz hV
            have HN : Hid (r + (r1 + r2) < 1000 → ((sumB (xs.take (k + 1)) + (xs.length - (k + 1)) : Nat) : Int) ≤ r + (r1 + r2) ∧ ∀ x ∈ listL (xs.take (k + 1)), okBs x) := by
              show _ → _
              intro q
              obtain ⟨c1, c2⟩ := HR.out (by omega)
              obtain ⟨c3, c4⟩ := HA.out (by omega)
              obtain ⟨c5, c6⟩ := HBB.out (by omega)
              rw [HT.out, HTS.out]
              refine ⟨by omega, fun y hy => ?_⟩
              rcases List.mem_append.1 hy with hy | hy
              · rcases List.mem_append.1 hy with hy | hy
                · exact c2 y hy
                · rw [List.mem_singleton.1 hy]
                  exact HXO.out (by omega) HLO.out c4
              · exact c6 y hy
            have HK6 := Lib.hid (HK2.out.trans HKZ.out)
            clear HR HXO HLO HT HTS HWW HHH HA HBB HKZ
            simp only [Act.put, List.setIfInBounds_toArray, List.set_cons_zero, List.set_cons_succ]
            go_wp2_with fail
            go_roundw
            case rel => exact ⟨k + 1, r + (r1 + r2), by omega, by go_num, rfl, by omega, by omega, HN.out, HK6.out⟩
            case measure => simp [intOf]; omega
        · have HE := Lib.hid (HFIN.out r wr hr0 hr1 (fun q => absurd q hr2) HKR.out)
          clear HR HKR
          go_wp2_with fail
          (try go_ret)
          exact HE.out
      · obtain rfl : k = xs.length := by omega
        have HE := Lib.hid (HFIN.out r wr hr0 hr1 (fun q => by have h := HR.out q; rw [List.take_length] at h; exact ⟨by have := h.1; omega, h.2⟩) HKR.out)
        clear HR HKR
        go_wp2_with fail
        (try go_ret)
        exact HE.out
/-- The answer of Small. -/
def SmlP (ms : List Pr) (xs : List Blo) (w : World) (e : Ending) (w' : World) : Prop := ∃ b : Bool, e = .returned (.bool b) ∧ (b = true → ms.length ≤ 70 ∧ (∀ p ∈ ms, p.1.length + p.2.length ≤ 300) ∧ SmB xs) ∧ Kept w w'
set_option maxRecDepth 100000 in
set_option maxHeartbeats 6400000 in
theorem smdoc_any (S : Nat → Prop) (N n : Nat) (vM vB : Value) (ms : List Pr) (xs : List Blo) (w : World) (hM : Prs w vM ms) (hB : Bls S N n w vB xs) (hf : FitD0 ms xs) :
    Calls Tryz.prog 5 #[.agg #[vM, vB]] w (SmlP ms xs w) := by
  obtain ⟨⟨f1, f2⟩, f3, f4⟩ := hf
  have HF2 := Lib.hid f2
  have HM := Lib.hid hM
  obtain ⟨aM, cM, rfl, lM⟩ := hM.shape
  obtain ⟨aB, cB, rfl, lB⟩ := hB.form
  have HB1 := Lib.hid (Blk.new w 25 #[.slice aM ms.length cM, .slice aB xs.length cB])
  have HK := Lib.hid (kept_alloc w (.cells #[.slice aM ms.length cM, .slice aB xs.length cB] 25))
  have HHV := Lib.hid (fun w' (k : Kept w w') => heavy_any S N n xs (.slice aB xs.length cB) 0 w' (hB.kept k) (by omega) f3 f4)
  unfold HvyP at HHV
  have HNO : Hid (∀ w', Kept w w' → SmlP ms xs w (.returned (.bool false)) w') := fun w' k => ⟨false, rfl, (fun h => by cases h), k⟩
  have HYES : Hid (∀ (r : Int) w', ms.length ≤ 70 → (∀ p ∈ ms, p.1.length + p.2.length ≤ 300) → (r < 1000 → (sumB xs : Int) ≤ r ∧ ∀ x ∈ listL xs, okBs x) → Kept w w' → SmlP ms xs w (.returned (.bool (decide (r ≤ 120)))) w') := fun r w' h1 h2 h3 k => ⟨_, rfl, (fun h => by
    have h := of_decide_eq_true h
    obtain ⟨h4, h5⟩ := h3 (by omega)
    exact ⟨h1, h2, by omega, h5⟩), k⟩
  have hbz := hB_le (dep := 0)
  generalize hP : SmlP ms xs w = P at *
  clear hP hM hB f2 f4
  by_cases q1 : 70 < ms.length
  · go_enter Tryz.func5, Tryz.ntmps5
    go_wp2_with fail
    (try go_ret)
    exact HNO.out _ HK.out
  go_enter Tryz.func5, Tryz.ntmps5
  go_wp2_with fail
  generalize w.alloc (.cells #[.slice aM ms.length cM, .slice aB xs.length cB] 25) = w0 at *
  generalize w.heap.size = B at *
  go_loopw [3] (fun i wr => ∃ (k : Nat), k ≤ ms.length ∧ i = .int .i64 k ∧ Hid (∀ p ∈ ms.take k, p.1.length + p.2.length ≤ 300) ∧ Hid (Kept w0 wr)) (fun i _ => ms.length - (intOf i).toNat)
  case atStart => exact ⟨0, Nat.zero_le _, rfl, fun p hp => (List.not_mem_nil hp).elim, Kept.refl _⟩
  case round =>
    obtain ⟨k, hk, rfl, HS, HKR⟩ := hrel
    have b0 : wr.cell? ⟨B, 0, none⟩ = some (.slice aM ms.length cM) := (HB1.out.kept HKR.out).cell 0 _ rfl
    have b1 : wr.cell? ⟨B, 1, none⟩ = some (.slice aB xs.length cB) := (HB1.out.kept HKR.out).cell 1 _ rfl
    have b0d : wr.drew.cell? ⟨B, 0, none⟩ = some (.slice aM ms.length cM) := b0
    have z0 := (HB1.out.kept HKR.out).lt
    by_cases hlt : k < ms.length
    · obtain ⟨x, hx⟩ : ∃ x, ms[k]? = some x := ⟨_, List.getElem?_eq_getElem hlt⟩
      obtain ⟨g, o, rfl, hg, d0, d1, -, -⟩ := (HM.out.kept (HK.out.trans HKR.out)).cell_of k x hx
      obtain ⟨hp1, hp2⟩ := HF2.out x (List.mem_of_getElem? hx)
      have HS2 : Hid (x.1.length + x.2.length ≤ 300 → ∀ p ∈ ms.take (k + 1), p.1.length + p.2.length ≤ 300) := by
        show _ → _
        intro q p hp
        rw [take_snoc hx] at hp
        rcases List.mem_append.1 hp with r | r
        · exact HS.out p r
        · rw [List.mem_singleton.1 r]; exact q
      clear hx HS
      obtain ⟨y, z⟩ := x
      simp only at d0 d1 hp1 hp2 HS2
      by_cases q2 : 300 < y.length + z.length
      · go_wp2_with fail
        go_region
        all_goals
          go_wp2_with fail
          (try go_ret)
          exact HNO.out _ ((HK.out.trans HKR.out).trans (kept_drewN _ _))
      · go_wp2_with fail
        go_region
        all_goals
          go_wp2_with fail
          go_roundw
          case rel => exact ⟨k + 1, by omega, by go_num, HS2.out (by omega), HKR.out.trans (kept_drewN _ _)⟩
          case measure => simp [intOf]; omega
    · obtain rfl : k = ms.length := by omega
      rw [List.take_length] at HS
      go_wp2_with fail
      refine (HHV.out wr (HK.out.trans HKR.out)).mono ?_
      rintro e w5 ⟨r, rfl, k1, k2, hd, hk5⟩
      have HF := Lib.hid (HYES.out r w5 (by omega) HS.out hd ((HK.out.trans HKR.out).trans hk5))
      clear hd hk5 HS HKR HHV
      go_wp2_with fail
      (try go_ret)
      exact HF.out
end Go.Proofs.YtnbhpmleboildaaGreatDoor

/- publisherref04.List: the blocks of a document in one row. Conditions: lengths. -/
set_option linter.all false
namespace Go.Proofs.YtnbhpmleboildaaGreatDoor
open Go.RowKit

theorem Tryz.infoBk5 : (Tryz.prog.info? 38).map (fun i => (i.zero, i.size, i.bytes)) = some (some (.agg #[.int .i64 0, .int .i64 0, .string ⟨#[]⟩, .string ⟨#[]⟩, .string ⟨#[]⟩, .string ⟨#[]⟩, .string ⟨#[]⟩, .slice none 0 0, .slice none 0 0, .slice none 0 0, .slice none 0 0]), 11, 192) := by kernel_rfl
theorem listL_snoc {xs : List Blo} {k : Nat} {x : Blo} (h : xs[k]? = some x) : listL (xs.take (k + 1)) = (listL (xs.take k) ++ [x]) ++ listL x.kids := by
  have e : listL [x] = x :: listL x.kids := by
    show list1 x ++ [] = _
    rw [List.append_nil, list1_eq]
  rw [take_snoc h, listL_app, e]; simp
theorem listL_led {xs : List Blo} {k : Nat} {x : Blo} (h : xs[k]? = some x) : (listL (xs.take k)).length + 1 + (listL x.kids).length ≤ (listL xs).length := by
  obtain ⟨hk, rfl⟩ := List.getElem?_eq_some_iff.1 h
  have e : listL xs = listL (xs.take k) ++ (list1 xs[k] ++ listL (xs.drop (k + 1))) := by
    have h0 : xs = xs.take k ++ (xs[k] :: xs.drop (k + 1)) := by rw [← List.drop_eq_getElem_cons hk, List.take_append_drop]
    conv => lhs; rw [h0]
    rw [listL_app]; rfl
  rw [e, list1_eq]
  simp only [List.length_append, List.length_cons]
  omega
theorem kids_le : ∀ xs : List Blo, xs.length ≤ (listL xs).length
  | [] => Nat.le_refl _
  | x :: xs => by
    have h := kids_le xs
    have e : listL (x :: xs) = (x :: listL x.kids) ++ listL xs := by
      show list1 x ++ listL xs = _
      rw [list1_eq]
    rw [e, List.length_append, List.length_cons, List.length_cons]; omega
def RlP (S : Nat → Prop) (N n : Nat) (xs : List Blo) (w : World) (e : Ending) (w' : World) : Prop := ∃ v, e = .returned v ∧ Bls (fun g => S g ∨ w.heap.size ≤ g) N n w' v (listL xs) ∧ Kept w w'
set_option maxRecDepth 100000 in
set_option maxHeartbeats 6400000 in
theorem rlist_any (S : Nat → Prop) (N : Nat) : ∀ (n : Nat) (xs : List Blo) (v : Value) (w : World), (∀ g, S g → g < w.heap.size) → Bls S N n w v xs → (listL xs).length ≤ 100000000000 → xs.length ≤ 100000000000 →
    Calls Tryz.prog 9 #[v] w (RlP S N n xs w) := by
  intro n
  induction n with
  | zero =>
    intro xs v w hS hv hl hx
    obtain rfl := hv.no
    obtain ⟨a, c, rfl, hc⟩ := hv.form
    have HFIN : RlP S N 0 [] w (.returned (.slice none 0 0)) w := ⟨_, rfl, Bls.none_ _ _ _ _, Kept.refl w⟩
    generalize hP : RlP S N 0 [] w = P at *
    clear hv hP hS
    go_enter Tryz.func9, Tryz.ntmps9
    go_wp2_with fail
    go_loopw [3, 4] (fun o i wr => o = .slice none 0 0 ∧ i = .int .i64 0 ∧ w = wr) (fun _ i _ => 1)
    case atStart => exact ⟨rfl, rfl, rfl⟩
    case round =>
      obtain ⟨rfl, rfl, rfl⟩ := hrel
      go_wp2_with fail
      (try go_ret)
      exact HFIN
  | succ n ih =>
    intro xs v w hS hv hl hxl
    have HV := Lib.hid hv
    have HSL := Lib.hid hS
    have HIH := Lib.hid ih
    unfold RlP at HIH
    have HLE : Hid (∀ k x, xs[k]? = some x → (listL (xs.take k)).length + 1 + (listL x.kids).length ≤ 100000000000) := fun k x h => Nat.le_trans (listL_led h) hl
    have HFIN : Hid (∀ v w', OutG (BloK N n) 11 (fun g => S g ∨ w.heap.size ≤ g) w.heap.size 38 w' v (listL (xs.take xs.length)) → Kept w w' → RlP S N (n + 1) xs w (.returned v) w') := fun v w' h1 h2 => ⟨v, rfl, by
      rw [List.take_length] at h1
      exact OutG.row (S := fun g => S g ∨ w.heap.size ≤ g) (bloK N n) h1 (fun g _ h => h) (fun g h => .inr h), h2⟩
    obtain ⟨i0, hi, hz0, hz1, hz2⟩ := info_parts Tryz.infoBk5
    obtain ⟨a, c, rfl, hc⟩ := hv.form
    generalize hP : RlP S N (n + 1) xs w = P at *
    clear hP hv ih hS hl
    go_enter Tryz.func9, Tryz.ntmps9
    go_wp2_with fail
    go_loopw [3, 4] (fun o i wr => ∃ (k : Nat), k ≤ xs.length ∧ i = .int .i64 k ∧ Hid (OutG (BloK N n) 11 (fun g => S g ∨ w.heap.size ≤ g) w.heap.size 38 wr o (listL (xs.take k))) ∧ Hid (Kept w wr)) (fun _ i _ => xs.length - (intOf i).toNat)
    case atStart => exact ⟨0, Nat.zero_le _, rfl, OutG.nil _ _ _ _ _ _, Kept.refl w⟩
    case round =>
      obtain ⟨k, hk, rfl, HGR, HKR⟩ := hrel
      by_cases hlt : k < xs.length
      · obtain ⟨x, hx⟩ : ∃ x, xs[k]? = some x := ⟨_, List.getElem?_eq_getElem hlt⟩
        have hle := HLE.out k x hx
        have hkl : x.kids.length ≤ (listL x.kids).length := kids_le x.kids
        have HT := Lib.hid (listL_snoc hx)
        obtain ⟨g, o, vC, vP, vL, vK, rfl, hgg, hgS, -, -, ⟨d0, d1, d2, d3, d4, d5, d6, d7, d8, d9, d10⟩, -, ⟨hC, iC⟩, ⟨hPP, iP⟩, hL, hK⟩ := Bls.at_ (HV.out.kept HKR.out) k x hx
        clear hx
        obtain ⟨kind, level, info, text, dest, title, id, cls, prs, line, kids⟩ := x
        simp only [Blo.kind, Blo.level, Blo.info, Blo.text, Blo.dest, Blo.title, Blo.id, Blo.cls, Blo.prs, Blo.line, Blo.kids] at d0 d1 d2 d3 d4 d5 d6 hC hPP hL hK iC iP HT hle hkl
        obtain ⟨aC, cC, rfl, lC⟩ := hC.shape
        obtain ⟨aP, cP, rfl, lP⟩ := hPP.shape
        obtain ⟨aL, cL, rfl, lL⟩ := hL.form
        obtain ⟨aK, cK, rfl, lK⟩ := hK.form
        obtain ⟨ar, cr, rfl, hcr, hmr⟩ := HGR.out.form
        obtain ⟨os, HOS⟩ : ∃ os, Hid (listL (xs.take k) = os) := ⟨_, rfl⟩
        rw [HOS.out] at HGR HT hle
        rw [HOS.out]
        have hwr : w.heap.size ≤ wr.heap.size := HKR.out.size
        have hka := kept_alloc wr (.cells #[.int .i64 kind, .int .i64 level, .string (bs info), .string (bs text), .string (bs dest), .string (bs title), .string (bs id), .slice aC cls.length cC, .slice aP prs.length cP, .slice aL line.length cL, .slice aK kids.length cK] 38)
        have hin : ∀ g, S g → (S g ∨ w.heap.size ≤ g) ∧ (Value.slice ar os.length cr).ownBlock ≠ some g := fun g q => ⟨.inl q, fun r => by have h1 := (HGR.out.blk g r).1; have h2 := HSL.out g q; omega⟩
        have HY := Lib.hid ((bloK N n).sam (show BloK N n (fun g => (S g ∨ w.heap.size ≤ g) ∧ (Value.slice ar os.length cr).ownBlock ≠ some g) wr [.int .i64 kind, .int .i64 level, .string (bs info), .string (bs text), .string (bs dest), .string (bs title), .string (bs id), .slice aC cls.length cC, .slice aP prs.length cP, .slice aL line.length cL, .slice aK kids.length cK] (Blo.mk kind level info text dest title id cls prs line kids) from ⟨_, _, _, _, rfl, ⟨hC, iC.mono (fun g _ _ q => hin g q)⟩, ⟨hPP, iP.mono (fun g _ _ q => hin g q)⟩, hL.mono (fun g _ q => hin g q), hK.mono (fun g _ q => hin g q)⟩) (Sam.kept hka) (fun _ _ q => q))
        have HG1 := Lib.hid (HGR.out.kept (bloK N n) hka)
        have HROW := Lib.hid (Blk.new wr 38 #[.int .i64 kind, .int .i64 level, .string (bs info), .string (bs text), .string (bs dest), .string (bs title), .string (bs id), .slice aC cls.length cC, .slice aP prs.length cP, .slice aL line.length cL, .slice aK kids.length cK])
        have HK1 := Lib.hid (HKR.out.trans hka)
        have HKD := Lib.hid hK
        have HKW := Lib.hid hka
        have hb1 : w.heap.size ≤ (wr.alloc (.cells #[.int .i64 kind, .int .i64 level, .string (bs info), .string (bs text), .string (bs dest), .string (bs title), .string (bs id), .slice aC cls.length cC, .slice aP prs.length cP, .slice aL line.length cL, .slice aK kids.length cK] 38)).heap.size := HK1.out.size
        clear hC hPP hL hK iC iP hin hka HGR HOS
        go_wp2_with (at_builtin; refine holdQ ?_)
        refine Lib.hid ?_
        refine wpList_append_out (bloK N n) rfl (.tmp 11) (.tmp 16) 23 rfl i0 _ 192 Tryz.underlying23 hi hz0 hz1 hz2 rfl (by omega) (by rfl) HG1.out wr.heap.size _ (Blo.mk kind level info text dest title id cls prs line kids) (by rfl) (fun j u hu => HROW.out.cell j u (by rw [← Array.getElem?_toList]; exact hu)) rfl HY.out (by unfold maxLen; omega) (by omega) hb1 _ rfl ?_
        intro g7 c7' w2 hout7 hgrow7 hat7 hlt7
        have HO2 := Lib.hid hout7
        have HK2 : Hid (Kept w w2) := HK1.out.trans' ((Only.grown hgrow7).below HK1.out.size (fun i q => (HG1.out.blk i q.symm).1))
        have hkid : Bls S N n w2 (.slice aK kids.length cK) kids := (HKD.out.kept HKW.out).step (Only.grown hgrow7) (fun g _ q r => by have h1 := (HG1.out.blk g r.symm).1; have h2 := HSL.out g q; omega) (fun _ _ q => q)
        have e10 : w2.cell? ⟨g, o + k * 11 + 10, none⟩ = some (.slice aK kids.length cK) := by
          have h1 : (wr.alloc (.cells #[.int .i64 kind, .int .i64 level, .string (bs info), .string (bs text), .string (bs dest), .string (bs title), .string (bs id), .slice aC cls.length cC, .slice aP prs.length cP, .slice aL line.length cL, .slice aK kids.length cK] 38)).cell? ⟨g, o + k * 11 + 10, none⟩ = some (.slice aK kids.length cK) := by rw [(Only.of_kept (S := fun _ => False) HKW.out).cell g (o + k * 11 + 10) hgg (fun q => q)]; exact d10
          rw [(Only.grown hgrow7).cell g (o + k * 11 + 10) (Nat.lt_of_lt_of_le hgg HKW.out.size) (fun r => by have h1 := (HG1.out.blk g r.symm).1; have h2 := HSL.out g hgS; omega)]
          exact h1
        have hg2 : g < w2.heap.size := Nat.lt_of_lt_of_le (Nat.lt_of_lt_of_le hgg HKW.out.size) (Only.grown hgrow7).size
        have HIX := Lib.hid (HIH.out kids (.slice aK kids.length cK) w2 (fun g q => Nat.lt_of_lt_of_le (HSL.out g q) HK2.out.size) hkid (by omega) (by omega))
        have hown : ∀ i, (Value.slice (some ⟨g7, 0, none⟩) (os.length + 1) c7').ownBlock = some i → w.heap.size ≤ i ∧ i < w2.heap.size := fun i q => HO2.out.blk i q
        have HOWN := Lib.hid hown
        clear hout7 hgrow7 hat7 hlt7 HY HROW HG1 HK1 HKD HKW hkid hown hb1 d0 d1 d2 d3 d4 d5 d6 d7 d8 d9 d10
        go_wp2_with fail
        refine HIX.out.mono ?_
        rintro e w3 ⟨v3, rfl, hb3, hk3⟩
        obtain ⟨a3, c3, rfl, l3⟩ := hb3.form
        have HO3 := Lib.hid (HO2.out.kept (bloK N n) hk3)
        have HK3 := Lib.hid (HK2.out.trans hk3)
        have HBR : Hid (RowR (fun g => S g ∨ w2.heap.size ≤ g) 11 (BloK N n (fun g => S g ∨ w2.heap.size ≤ g) w3) w3 (.slice a3 (listL kids).length c3) (listL kids)) := hb3.up
        have HSS : Hid (∀ i, i < w3.heap.size → (S i ∨ w2.heap.size ≤ i) → (S i ∨ w.heap.size ≤ i) ∧ (Value.slice (some ⟨g7, 0, none⟩) (os.length + 1) c7').ownBlock ≠ some i) := fun i _ q => by
          have hz := HK2.out.size
          rcases q with q | q
          · exact ⟨.inl q, fun r => by have h1 := (HOWN.out i r).1; have h2 := HSL.out i q; omega⟩
          · exact ⟨.inr (by omega), fun r => by have h1 := (HOWN.out i r).2; omega⟩
        have hbz : w.heap.size ≤ w3.heap.size := HK3.out.size
        have hol : (os ++ [Blo.mk kind level info text dest title id cls prs line kids]).length = os.length + 1 := by simp
        have HOL := Lib.hid hol
        clear hb3 hk3 HO2 HK2 HIX e10 hol
        go_wp2_with (at_builtin; refine holdQ ?_)
        refine Lib.hid ?_
        refine wpList_append_row (bloK N n) rfl (.tmp 18) (.tmp 24) 23 rfl i0 _ 192 Tryz.underlying23 hi hz0 hz1 hz2 rfl (by omega) (by rfl) HO3.out _ (by rfl) HBR.out HSS.out (by rw [HOL.out]; unfold maxLen; omega) (by rw [HOL.out]; omega) hbz ?_
        intro v7 w17 hout9 hgrow9
        obtain ⟨a7, c7, rfl, -, -⟩ := hout9.form
        have HO7 : Hid (OutG (BloK N n) 11 (fun g => S g ∨ w.heap.size ≤ g) w.heap.size 38 w17 (.slice a7 (os ++ [Blo.mk kind level info text dest title id cls prs line kids] ++ listL kids).length c7) (listL (xs.take (k + 1)))) := by rw [HT.out]; exact hout9
        have HK17 : Hid (Kept w w17) := HK3.out.trans' ((Only.grown hgrow9).below HK3.out.size (fun i q => (HO3.out.blk i q.symm).1))
        clear hout9 hgrow9 HO3 HBR HSS HK3
        go_wp2_with fail
        go_roundw
        case rel => exact ⟨k + 1, by omega, by go_num, (by have h := HO7.out; rw [show (os ++ [Blo.mk kind level info text dest title id cls prs line kids] ++ listL kids).length = os.length + ((listL kids).length + 1) by rw [List.length_append, HOL.out]; omega] at h; exact h), HK17.out⟩
        case measure => simp [intOf]; omega
      · obtain rfl : k = xs.length := by omega
        obtain ⟨ar, cr, rfl, hcr, hmr⟩ := HGR.out.form
        have HF := Lib.hid (HFIN.out _ wr HGR.out HKR.out)
        clear HGR HKR
        go_wp2_with fail
        (try go_ret)
        exact HF.out
end Go.Proofs.YtnbhpmleboildaaGreatDoor

/- The law IndexGone. Conditions: lengths that a machine can tell; the tables of the library. -/
set_option linter.all false
namespace Go.Proofs.YtnbhpmleboildaaGreatDoor
open Go.RowKit

set_option maxRecDepth 100000 in
set_option maxHeartbeats 12800000 in
theorem ligone_any (N n : Nat) (hN : 2 ≤ N) (vM vB vR vO : Value) (ms : List Pr) (xs : List Blo) (c : ColT) (w : World) (hg : Gnd w) (hT : Lib.TabIs Tryz.prog w "internal/strconv.uint64pow10" .u64 Lib.pow10Tab) (hM : Prs w vM ms) (hB : Bls (fun g => g < w.heap.size) N n w vB xs) (hd : FitD0 ms xs) (hc : Col w vR vO c) (hf : FitC c) :
    Calls Tryz.prog 3 #[.agg #[vM, vB], colV vR vO c.ignore] w fun e w' => e = .returned (.bool true) ∧ Kept w w' := by
  have HG := Lib.hid hg
  have HTB := Lib.hid hT
  have HM := Lib.hid hM
  have HBL := Lib.hid hB
  have HC := Lib.hid hc
  have HFC := Lib.hid hf
  have HFD := Lib.hid hd
  obtain ⟨aM, cM, rfl, lM⟩ := hM.shape
  obtain ⟨aB, cB, rfl, lB⟩ := hB.form
  obtain ⟨aR, cR, rfl, lR⟩ := hc.1.form
  obtain ⟨aO, cO, rfl, lO⟩ := hc.2.form
  have HSM := Lib.hid (fun w' (k : Kept w w') => smdoc_any (fun g => g < w.heap.size) N n (.slice aM ms.length cM) (.slice aB xs.length cB) ms xs w' (hM.kept k) (hB.kept k) hd)
  unfold SmlP at HSM
  have HFW := Lib.hid (fun w' (k : Kept w w') => few_any (.slice aR c.ranks.length cR) (.slice aO c.order.length cO) c w' (hc.kept k) hf)
  unfold ShortP at HFW
  have HAW := Lib.hid (fun w' (k : Kept w w') => awake26_any w' (hg.kept k) (tab_kept hT k))
  have HFL := Lib.hid (fun w' (k : Kept w w') (h1 : ms.length ≤ 70) (h2 : SmB xs) (h3 : SmallC c) => ifill_any N n hN (.slice aM ms.length cM) (.slice aB xs.length cB) (.slice aR c.ranks.length cR) (.slice aO c.order.length cO) ms c xs w' (hg.kept k) (tab_kept hT k) (hM.kept k) (by omega)
    (hB.sam (S' := fun g => g < w'.heap.size) (Sam.kept k) (fun g q _ => Nat.lt_of_lt_of_le q k.size)) (hc.kept k) h3 (Nat.le_trans h2.len (by decide)) h2.okB h2.okW (Nat.le_trans h2.inls (by decide)) (Nat.le_trans h2.list (by decide))
    (h2.all c).1 (h2.all c).2.1 (h2.all c).2.2.1 (h2.all c).2.2.2.1 (h2.all c).2.2.2.2.1 (h2.all c).2.2.2.2.2.1 (h2.all c).2.2.2.2.2.2)
  unfold FilP at HFL
  have HLL : Hid (∀ ys : List Blo, SmB xs → (listL ys).length ≤ (listL (mkdL xs)).length * (3 * (entsD c xs).length + 2) → (listL ys).length ≤ 400000000) := by
    show ∀ ys, _ → _ → _
    intro ys h2 h
    have h3 := (h2.all c).2.2.2.2.2.2
    have h4 : (listL (mkdL xs)).length ≤ 120 := by rw [show mkdL xs = (mbL (usedOf xs) 0 xs).1 from rfl, (mbL_lens (usedOf xs) xs 0).2]; exact h2.list
    have h5 : (listL (mkdL xs)).length * (3 * (entsD c xs).length + 2) ≤ 120 * 3000002 := Nat.mul_le_mul h4 (by omega)
    omega
  have HP := Lib.hid (fun v v' w' h1 h2 (h3 : ms.length ≤ 70) => pairs_eq v v' ms w' h1 h2 (by omega))
  have hb1 := (Blk.new w 25 #[.slice aM ms.length cM, .slice aB xs.length cB]).alloc (.cells #[.slice aR c.ranks.length cR, .slice aO c.order.length cO, .string (bs c.ignore)] 28)
  have hc1 := Blk.new (w.alloc (.cells #[.slice aM ms.length cM, .slice aB xs.length cB] 25)) 28 #[.slice aR c.ranks.length cR, .slice aO c.order.length cO, .string (bs c.ignore)]
  have HK0 := Lib.hid ((kept_alloc w (.cells #[.slice aM ms.length cM, .slice aB xs.length cB] 25)).trans (kept_alloc _ (.cells #[.slice aR c.ranks.length cR, .slice aO c.order.length cO, .string (bs c.ignore)] 28)))
  obtain ⟨B, HBB⟩ : ∃ B, Hid (w.heap.size = B) := ⟨_, rfl⟩
  simp only [World.size_alloc, HBB.out] at hb1 hc1
  have HB1 := Lib.hid hb1
  have HC1 := Lib.hid hc1
  clear hb1 hc1 hM hB hc hf hd hT hg
  go_enter Tryz.func3, Tryz.ntmps3
  go_wp2_with fail
  rw [HBB.out]
  generalize World.alloc (World.alloc w _) _ = w0 at *
  refine (HSM.out w0 HK0.out).mono ?_
  rintro e w1 ⟨b, rfl, hb, hk1⟩
  have HK1 := Lib.hid (HK0.out.trans hk1)
  have HB2 := Lib.hid (HB1.out.kept hk1)
  have HC2 := Lib.hid (HC1.out.kept hk1)
  clear hk1 HSM HK0 HB1 HC1
  cases b with
  | false =>
    go_wp2_with fail
    refine (HAW.out w1 HK1.out).mono ?_
    rintro e w2 ⟨rfl, hk2⟩
    have HK2 := Lib.hid (HK1.out.trans hk2)
    clear hk2
    go_wp2_with fail
    (try go_ret)
    exact ⟨rfl, HK2.out⟩
  | true =>
    obtain ⟨hm70, -, hsm⟩ := hb rfl
    have HSB := Lib.hid hsm
    have q0 := HC2.out.cell 0 _ rfl
    have q1 := HC2.out.cell 1 _ rfl
    have q2 := HC2.out.cell 2 _ rfl
    have qz := HC2.out.lt
    clear hb hsm
    go_wp2_with fail
    refine (HFW.out w1 HK1.out).mono ?_
    rintro e w2 ⟨⟨b, rfl, hb⟩, hk2⟩
    have HK2 := Lib.hid (HK1.out.trans hk2)
    have HB3 := Lib.hid (HB2.out.kept hk2)
    have HC3 := Lib.hid (HC2.out.kept hk2)
    clear hk2 HK1 HB2 HC2 q0 q1 q2 qz HFW
    cases b with
    | false =>
      go_wp2_with fail
      refine (HAW.out w2 HK2.out).mono ?_
      rintro e w3 ⟨rfl, hk3⟩
      have HK3 := Lib.hid (HK2.out.trans hk3)
      clear hk3
      go_wp2_with fail
      (try go_ret)
      exact ⟨rfl, HK3.out⟩
    | true =>
      have HSC := Lib.hid (hb rfl)
      have q0 := HC3.out.cell 0 _ rfl
      have q1 := HC3.out.cell 1 _ rfl
      have q2 := HC3.out.cell 2 _ rfl
      have qz := HC3.out.lt
      have p0 := HB3.out.cell 0 _ rfl
      have p1 := HB3.out.cell 1 _ rfl
      have pz := HB3.out.lt
      clear hb
      go_wp2_with fail
      refine (HFL.out w2 HK2.out hm70 HSB.out HSC.out).mono ?_
      rintro e w3 ⟨v1, v2, ys, rfl, hp3, hb3, hno, -, hbn, hk3⟩
      have HNO := Lib.hid hno
      have hyl := HLL.out ys HSB.out hbn
      have hyl2 : ys.length ≤ 400000000 := Nat.le_trans (listL_kids ys) hyl
      obtain ⟨aM1, cM1, rfl, lM1⟩ := hp3.shape
      obtain ⟨aB1, cB1, rfl, lB1⟩ := hb3.form
      have hka := kept_alloc w3 (.cells #[.slice aM1 ms.length cM1, .slice aB1 ys.length cB1] 25)
      have HD4 := Lib.hid (Blk.new w3 25 #[.slice aM1 ms.length cM1, .slice aB1 ys.length cB1])
      have HP4 := Lib.hid (hp3.kept hka)
      have HB4 : Hid (Bls (fun g => g < (w3.alloc (.cells #[.slice aM1 ms.length cM1, .slice aB1 ys.length cB1] 25)).heap.size) N (n + 5) (w3.alloc (.cells #[.slice aM1 ms.length cM1, .slice aB1 ys.length cB1] 25)) (.slice aB1 ys.length cB1) ys) := hb3.sam (Sam.kept hka) (fun g q _ => Nat.lt_of_lt_of_le q hka.size)
      have HK4 := Lib.hid ((HK2.out.trans hk3).trans hka)
      have HB5 := Lib.hid ((HB3.out.kept hk3).kept hka)
      clear hno hbn hp3 hb3 hk3 hka HK2 HB3 HC3 q0 q1 q2 qz p0 p1 pz HFL HLL HSC HSB
      obtain ⟨X, HX⟩ : ∃ X, Hid (w3.heap.size = X) := ⟨_, rfl⟩
      rw [HX.out] at HD4
      have d0 := HD4.out.cell 0 _ rfl
      have d1 := HD4.out.cell 1 _ rfl
      have dz := HD4.out.lt
      go_wp2_with fail
      rw [HX.out]
      generalize w3.alloc _ = w4 at *
      refine (rlist_any (fun g => g < w4.heap.size) N (n + 5) ys _ w4 (fun g q => q) HB4.out (by omega) (by omega)).mono ?_
      rintro e w5 ⟨vL, rfl, hl5, hk5⟩
      obtain ⟨aL, cL, rfl, lL⟩ := hl5.form
      have HL5 := Lib.hid hl5
      have HK5 := Lib.hid (HK4.out.trans hk5)
      have HP5 := Lib.hid (HP4.out.kept hk5)
      have HD5 := Lib.hid (HD4.out.kept hk5)
      have HB6 := Lib.hid (HB5.out.kept hk5)
      clear hl5 hk5 HK4 HP4 HD4 HB4 HB5 d0 d1 dz
      unfold noIx at HNO
      generalize listL ys = ls at *
      go_wp2_with fail
      go_loopw [7] (fun i wr => ∃ (k : Nat), k ≤ ls.length ∧ i = .int .i64 k ∧ Hid (Kept w5 wr)) (fun i _ => ls.length - (intOf i).toNat)
      case atStart => exact ⟨0, Nat.zero_le _, rfl, Kept.refl _⟩
      case round =>
        obtain ⟨k, hk, rfl, HKR⟩ := hrel
        by_cases hlt : k < ls.length
        · obtain ⟨x, hx⟩ : ∃ x, ls[k]? = some x := ⟨_, List.getElem?_eq_getElem hlt⟩
          have hnx := HNO.out x (List.mem_of_getElem? hx)
          obtain ⟨g, o, vC, vP, vL, vK, rfl, hgg, hgS, -, -, ⟨d0, d1, d2, -, -, -, -, -, -, -, -⟩, -, -, -, -, -⟩ := Bls.at_ ((HL5.out.kept HKR.out).ups (Nat.le_succ _)) k x hx
          obtain ⟨kind, level, info, text, dest, title, id, cls, prs, line, kids⟩ := x
          simp only [Blo.kind, Blo.level, Blo.info] at d0 d1 d2
          clear hx
          by_cases hk13 : kind = 13
          · subst hk13
            have hinb : (info == [105, 110, 100, 101, 120]) = false := by
              rw [beq_eq_false_iff_ne]
              intro q
              exact hnx ⟨rfl, q⟩
            clear hnx
            go_wp2_with fail
            go_roundw
            case rel => exact ⟨k + 1, by omega, by go_num, HKR.out⟩
            case measure => simp [intOf]; omega
          · clear hnx
            go_wp2_with fail
            go_roundw
            case rel => exact ⟨k + 1, by omega, by go_num, HKR.out⟩
            case measure => simp [intOf]; omega
        · obtain rfl : k = ls.length := by omega
          obtain ⟨w6, rfl⟩ : ∃ wo : World, wo = wr := ⟨_, rfl⟩
          have HK6 := Lib.hid (HK5.out.trans HKR.out)
          have p0 := (HB6.out.kept HKR.out).cell 0 _ rfl
          have pz := (HB6.out.kept HKR.out).lt
          have d0 := (HD5.out.kept HKR.out).cell 0 _ rfl
          have dz := (HD5.out.kept HKR.out).lt
          have HP6 := Lib.hid (HP5.out.kept HKR.out)
          clear HKR HB6 HD5 HP5 HK5 HL5 HNO
          go_wp2_with fail
          refine (HP.out _ _ w6 HP6.out (HM.out.kept HK6.out) hm70).mono ?_
          rintro e w7 ⟨rfl, hk7⟩
          have HK7 := Lib.hid (HK6.out.trans hk7)
          clear hk7 HK6 HP6 p0 pz d0 dz
          go_wp2_with fail
          refine (HAW.out w7 HK7.out).mono ?_
          rintro e w8 ⟨rfl, hk8⟩
          have HK8 := Lib.hid (HK7.out.trans hk8)
          clear hk8 HK7
          go_wp2_with fail
          (try go_ret)
          exact ⟨rfl, HK8.out⟩
end Go.Proofs.YtnbhpmleboildaaGreatDoor

/- What every row of this seat needs: the arguments read behind a call that keeps what was there as they did before; the world of the witness; the variable that the library's search reads. No condition. -/
set_option linter.all false
namespace Go.Proofs.YtnbhpmleboildaaGreatDoor
open Go.ChangeShapes Go.WideShapes Go.ChangeAt Go.RowKit

theorem Tryz.ownNone : ownKnob Tryz.prog.godebug = none := by kernel_rfl
theorem Tryz.laidOut : laidOutB Tryz.prog = true := by kernel_rfl

section
variable {H : Type} {enc : TypeId × Value → H} {P : Program}
theorem trodAll_stays (hl : laidOutB P = true) {W W' : World} {sp : Nat → Bool} : ∀ {ts : List TypeId} {vs : List Value} {ds : List (DataW H)} {p : List MemPlace},
    (∀ t ∈ ts, P.readableRec t = true ∧ t < P.types.size) → DataW.TrodAll enc P W 0 (fun _ => true) true ts vs ds p → (∀ x ∈ p, W.sameAt W' x) → (∀ x ∈ p, sp x.block = true) → DataW.TrodAll enc P W' 0 sp true ts vs ds p
  | [], vs, ds, p, _, h, _, _ => by
    obtain ⟨rfl, rfl, rfl⟩ := trodAll_nil h
    exact trodAll_mk0
  | t :: ts, vs, ds, p, hr, h, hs, hp => by
    obtain ⟨v, vs', d, ds', p1, p2, rfl, rfl, rfl, h0, h1⟩ := trodAll_cons h
    have h0' := WideElems.Trod_stays hl (hr t (by simp)).1 (hr t (by simp)).2 h0 (fun x hx => hs x (by simp [hx])) (sp' := sp) (fun x hx => hp x (by simp [hx]))
    exact trodAll_cons_mk h0' (trodAll_stays hl (fun t ht => hr t (by simp [ht])) h1 (fun x hx => hs x (by simp [hx])) (fun x hx => hp x (by simp [hx])))

/-- The post of a law: it answers true, and what was there is as it was. -/
theorem law_post {f : Func} {s : ChangeSpec} {apart fresh handsOn again : Bool} {W W' : World} {args : Array Value} {ds gs : List (DataW H)} {before : List MemPlace} {bt : TypeId}
    (hl : laidOutB P = true) (hread : ∀ t ∈ f.params.toList, P.readableRec t = true ∧ t < P.types.size) (hr : f.resultTypes = #[bt]) (hbt : P.underlying bt = some .bool) (hsv : s.vars = [])
    (hW : DataW.Whole enc P f.params.toList s.vars apart W args.toList ds gs before) (hs : s.fn H ds = { results := [.lit (.bool true)], args := ds }) (hb : Kept W W') :
    s.post enc P f apart fresh handsOn again W args (.bool true) W' := by
  have hW' := hW
  have hlt : ∀ p ∈ before, p.block < W.heap.size := fun p hp => hW'.lt p hp
  have hold : ∀ p ∈ before, (fun b => decide (b < W.heap.size)) p.block = true := fun p hp => by simpa using hlt p hp
  obtain ⟨pa, pv, hA, hV, hbe, hz, hn⟩ := hW
  rw [hsv] at hV
  obtain ⟨rfl, rfl⟩ := trodVars_none hV
  rw [List.append_nil] at hbe
  subst hbe
  have hs' : s.fn H (ds ++ []) = { results := [.lit (.bool true)], args := ds } := by rw [List.append_nil]; exact hs
  have hres : ∀ (b : Nat) (sp : Nat → Bool) (hd : Bool), DataW.TrodAll enc P W' b sp hd f.resultTypes.toList ((Value.bool true).resultList f.resultTypes.size) (s.fn H (ds ++ [])).results [] := by
    intro b sp hd
    rw [hs', hr]
    exact trodAll_cons_mk (shut_bool hbt _) trodAll_mk0
  have hargs : ∀ sp : Nat → Bool, (∀ p ∈ before, sp p.block = true) → DataW.TrodAll enc P W' 0 sp true f.params.toList args.toList (s.fn H (ds ++ [])).args before := by
    intro sp hsp
    rw [hs']
    exact trodAll_stays hl hread hA (fun x hx => hb.same (hlt x hx)) hsp
  have hvars : ∀ sp : Nat → Bool, DataW.TrodVars enc P W' sp s.vars (s.fn H (ds ++ [])).vars [] := by
    intro sp
    rw [hs', hsv]
    rfl
  have hok := ok_one (P := P) (W' := W') (v := .bool true) hr rfl (okWide_bool_mk hbt _)
  refine ⟨ds, [], before, [], before, [], hW', hres _ _ _, hargs _ hold, hvars _, World.keptBut_mono (fun p hp => ⟨hp, ?_⟩) (hb.frame (· ∈ before)), fun _ => ?_⟩
  · exact Or.inr (Or.inl hp)
  · refine ⟨hok, _, _, ([] ++ before) ++ [], ⟨[] ++ before, [], trodAll_append (hargs _ (fun _ _ => rfl)) (hres _ _ _), hvars _, rfl, ?_, ?_⟩, ?_⟩
    · intro b off hp
      have hin : MemPlace.cell b off ∈ before := by simpa using hp
      rw [hb.frozen (hlt _ hin)]
      exact hz b off hin
    · intro ha
      have := hn ha
      simpa using this
    · intro p hp _
      simpa using hp
end

theorem gnd_of {W : World} (h : W.ShapedOpen Tryz.prog) : Gnd W :=
  Go.Proofs.cell_of_shapedOpen_int (zero := #[.int .i64 0]) (t := 3) h (of_decide_eq_true (by kernel_rfl)) (by kernel_rfl) rfl (by kernel_rfl) (by kernel_rfl) Tryz.underlying3

/-- The cells of the two tables of utf8. -/
def firstCells : Array Value := (Go.Pinned.utf8FirstZ.map fun (n : Nat) => Value.int .u8 (n : Int)).toArray
def acceptCells : Array Value := #[.int .u8 128, .int .u8 191, .int .u8 160, .int .u8 191, .int .u8 128, .int .u8 159, .int .u8 144, .int .u8 191, .int .u8 128, .int .u8 143, .int .u8 0, .int .u8 0, .int .u8 0, .int .u8 0, .int .u8 0, .int .u8 0, .int .u8 0, .int .u8 0, .int .u8 0, .int .u8 0, .int .u8 0, .int .u8 0, .int .u8 0, .int .u8 0, .int .u8 0, .int .u8 0, .int .u8 0, .int .u8 0, .int .u8 0, .int .u8 0, .int .u8 0, .int .u8 0]
def putCells (cs : Array Value) : Obj → Obj
  | .cells _ t frozen => .cells cs t frozen
  | o => o
end Go.Proofs.YtnbhpmleboildaaGreatDoor
