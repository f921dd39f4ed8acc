/- The law BibTidy answers true of every text. No condition. -/
import Derived.Test.YtflpkadknljpbaaDoorT34
import Derived.Test.YtflpkadknljpbaaDoorT36
import Derived.Test.YtflpkadknljpbaaDoorT01
import Derived.Test.YtflpkadknljpbaaDoorRows
import Derived.ProofKit
import Derived.OpenShut
import Derived.Carry
import Derived.ChangeSame
import Derived.Deep.DeepHandedRow
import Derived.Lib.LaidTab
import Derived.Shelf.Vars

set_option linter.all false
namespace Go.Proofs.YtflpkadknljpbaaDoor
open Go.RowKit

theorem tidy_parse2 (ss : List SrcT) (w : World) (hg : Gnd w) (h0 : checkE ss = 0) (hw : listW ss ≤ 80000) : Calls Tryd.prog 40 #[.string (bs (textL ss))] w fun e w' => ∃ v, e = .returned (.tuple #[v, .int .i64 0, .int .i64 0]) ∧ Srcs w' v ss ∧ Kept w w' := by
  have hl : (textL ss).length ≤ 80000 := by unfold textL; rw [if_pos h0]; have := text_weight ss; omega
  refine (bparse_any (textL ss) w hg (by omega)).mono ?_
  rintro e w' ⟨v, rfl, hs, hk⟩
  rw [bib_back ss h0 (by omega)] at hs ⊢
  exact ⟨v, rfl, hs, hk⟩
set_option maxRecDepth 100000 in
set_option maxHeartbeats 6400000 in
theorem ltidy_any (l : Bs) (w : World) (hg : Gnd w) (hfit : l.length ≤ maxLen) : Calls Tryd.prog 11 #[.string (bs l)] w fun e w' => e = .returned (.bool true) ∧ Kept w w' := by
  unfold maxLen at hfit
  have HG := Lib.hid hg
  clear hg
  have HAW : Hid (∀ w', Kept w w' → Calls Tryd.prog 32 #[] w' fun e w2 => e = .returned (.bool true) ∧ Kept w' w2) := fun w' h => bawake_any w' (HG.out.kept h)
  by_cases hlen : 2000 < l.length
  · go_enter Tryd.func11, Tryd.ntmps11
    go_wp2_with fail
    refine (HAW.out _ (Kept.refl _)).mono ?_
    rintro e w2 ⟨rfl, hk⟩
    go_wp2_with fail
    go_ret
    exact ⟨rfl, hk⟩
  · have HP := Lib.hid (bparse_any l w HG.out (by omega))
    unfold BibPost at HP
    have HRD := Lib.hid (bib_read l)
    have HNL := Lib.hid (bib_nil l)
    obtain ⟨R, HR⟩ : ∃ R, Hid (bibR l = R) := ⟨_, rfl⟩
    rw [HR.out] at HP HRD HNL
    obtain ⟨ss, n, e0⟩ := R
    simp only at HP HRD HNL
    by_cases he : e0 = 0
    · subst he
      obtain ⟨hn, hck, hw⟩ := HRD.out rfl
      subst hn
      have hlw : listW ss ≤ 80000 := by omega
      have HSM := Lib.hid (small_of ss (by omega))
      have hsl : ss.length ≤ 256 := (chk_src ss hck).1
      have HTX : Hid (∀ w' v, Kept w w' → Srcs w' v ss → Calls Tryd.prog 41 #[v] w' fun e w2 => e = .returned (.tuple #[.string (bs (textL ss)), .int .i64 0]) ∧ Kept w' w2) := by
        intro w' v h hv
        have h2 := btext_any v ss w' (HG.out.kept h) hv HSM.out (by omega) (by have := text_weight ss; omega)
        rw [hck] at h2; exact h2
      have HCK : Hid (∀ w' v, Kept w w' → Srcs w' v ss → Calls Tryd.prog 42 #[v] w' fun e w2 => e = .returned (.int .i64 0) ∧ Kept w' w2) := by
        intro w' v h hv
        have h2 := check_any v ss w' (HG.out.kept h) hv HSM.out (by omega)
        rw [hck] at h2; exact h2
      have HP2 : Hid (∀ w', Kept w w' → Calls Tryd.prog 40 #[.string (bs (textL ss))] w' fun e w2 => ∃ v, e = .returned (.tuple #[v, .int .i64 0, .int .i64 0]) ∧ Srcs w2 v ss ∧ Kept w' w2) := fun w' h => tidy_parse2 ss w' (HG.out.kept h) hck hlw
      have HSA : Hid (∀ w' v v', Srcs w' v ss → Srcs w' v' ss → Calls Tryd.prog 35 #[v, v'] w' fun e w2 => e = .returned (.bool true) ∧ Kept w' w2) := fun w' v v' h h' => same_eq v v' ss w' h h' (by omega) (fun s hs => ⟨(HSM.out s hs).2.2.2.1, (HSM.out s hs).2.2.2.2.1, (HSM.out s hs).2.2.2.2.2.1⟩)
      clear hck hw hlw hfit
      generalize textL ss = T at *
      go_enter Tryd.func11, Tryd.ntmps11
      go_wp2_with fail
      refine HP.out.mono ?_
      rintro e w1 ⟨v1, rfl, hs1, hk1⟩
      have HS1 := Lib.hid hs1
      have HK1 := Lib.hid hk1
      clear hs1 hk1
      go_wp2_with fail
      refine (HTX.out _ _ HK1.out HS1.out).mono ?_
      rintro e w2 ⟨rfl, hk2⟩
      have HS2 := Lib.hid (HS1.out.kept hk2)
      have HK2 := Lib.hid (HK1.out.trans hk2)
      clear hk2
      go_wp2_with fail
      refine (HP2.out _ HK2.out).mono ?_
      rintro e w3 ⟨v3, rfl, hs3, hk3⟩
      have HS3 := Lib.hid (HS2.out.kept hk3)
      have HT3 := Lib.hid hs3
      have HK3 := Lib.hid (HK2.out.trans hk3)
      clear hk3 hs3
      go_wp2_with fail
      refine (HCK.out _ _ HK3.out HS3.out).mono ?_
      rintro e w4 ⟨rfl, hk4⟩
      have HS4 := Lib.hid (HS3.out.kept hk4)
      have HT4 := Lib.hid (HT3.out.kept hk4)
      have HK4 := Lib.hid (HK3.out.trans hk4)
      clear hk4
      go_wp2_with fail
      refine (HSA.out _ _ _ HS4.out HT4.out).mono ?_
      rintro e w5 ⟨rfl, hk5⟩
      have HK5 := Lib.hid (HK4.out.trans hk5)
      clear hk5
      go_wp2_with fail
      refine (HAW.out _ HK5.out).mono ?_
      rintro e w6 ⟨rfl, hk6⟩
      have HK6 := Lib.hid (HK5.out.trans hk6)
      clear hk6
      go_wp2_with fail
      go_ret
      exact ⟨rfl, HK6.out⟩
    · obtain rfl := HNL.out he
      go_enter Tryd.func11, Tryd.ntmps11
      go_wp2_with fail
      refine HP.out.mono ?_
      rintro e w1 ⟨v1, rfl, hs1, hk1⟩
      have HK1 := Lib.hid hk1
      obtain ⟨a1, c1, rfl, y1, y2⟩ := hs1
      clear hk1 y1 y2
      go_wp2_with fail
      refine (HAW.out _ HK1.out).mono ?_
      rintro e w6 ⟨rfl, hk6⟩
      have HK6 := Lib.hid (HK1.out.trans hk6)
      clear hk6
      go_wp2_with fail
      go_ret
      exact ⟨rfl, HK6.out⟩
end Go.Proofs.YtflpkadknljpbaaDoor

/- What every row of this seat needs: the arguments read behind a call that keeps what was there as they did before; the world of the witness; the variable that the library's search reads. No condition. -/
set_option linter.all false
namespace Go.Proofs.YtflpkadknljpbaaDoor
open Go.ChangeShapes Go.WideShapes Go.ChangeAt Go.RowKit

theorem Tryd.ownNone : ownKnob Tryd.prog.godebug = none := by kernel_rfl
theorem Tryd.laidOut : laidOutB Tryd.prog = true := by kernel_rfl

section
variable {H : Type} {enc : TypeId × Value → H} {P : Program}
theorem trodAll_stays (hl : laidOutB P = true) {W W' : World} {sp : Nat → Bool} : ∀ {ts : List TypeId} {vs : List Value} {ds : List (DataW H)} {p : List MemPlace},
    (∀ t ∈ ts, P.readableRec t = true ∧ t < P.types.size) → DataW.TrodAll enc P W 0 (fun _ => true) true ts vs ds p → (∀ x ∈ p, W.sameAt W' x) → (∀ x ∈ p, sp x.block = true) → DataW.TrodAll enc P W' 0 sp true ts vs ds p
  | [], vs, ds, p, _, h, _, _ => by
    obtain ⟨rfl, rfl, rfl⟩ := trodAll_nil h
    exact trodAll_mk0
  | t :: ts, vs, ds, p, hr, h, hs, hp => by
    obtain ⟨v, vs', d, ds', p1, p2, rfl, rfl, rfl, h0, h1⟩ := trodAll_cons h
    have h0' := WideElems.Trod_stays hl (hr t (by simp)).1 (hr t (by simp)).2 h0 (fun x hx => hs x (by simp [hx])) (sp' := sp) (fun x hx => hp x (by simp [hx]))
    exact trodAll_cons_mk h0' (trodAll_stays hl (fun t ht => hr t (by simp [ht])) h1 (fun x hx => hs x (by simp [hx])) (fun x hx => hp x (by simp [hx])))

/-- The post of a law: it answers true, and what was there is as it was. -/
theorem law_post {f : Func} {s : ChangeSpec} {apart fresh handsOn again : Bool} {W W' : World} {args : Array Value} {ds gs : List (DataW H)} {before : List MemPlace} {bt : TypeId}
    (hl : laidOutB P = true) (hread : ∀ t ∈ f.params.toList, P.readableRec t = true ∧ t < P.types.size) (hr : f.resultTypes = #[bt]) (hbt : P.underlying bt = some .bool) (hsv : s.vars = [])
    (hW : DataW.Whole enc P f.params.toList s.vars apart W args.toList ds gs before) (hs : s.fn H ds = { results := [.lit (.bool true)], args := ds }) (hb : Kept W W') :
    s.post enc P f apart fresh handsOn again W args (.bool true) W' := by
  have hW' := hW
  have hlt : ∀ p ∈ before, p.block < W.heap.size := fun p hp => hW'.lt p hp
  have hold : ∀ p ∈ before, (fun b => decide (b < W.heap.size)) p.block = true := fun p hp => by simpa using hlt p hp
  obtain ⟨pa, pv, hA, hV, hbe, hz, hn⟩ := hW
  rw [hsv] at hV
  obtain ⟨rfl, rfl⟩ := trodVars_none hV
  rw [List.append_nil] at hbe
  subst hbe
  have hs' : s.fn H (ds ++ []) = { results := [.lit (.bool true)], args := ds } := by rw [List.append_nil]; exact hs
  have hres : ∀ (b : Nat) (sp : Nat → Bool) (hd : Bool), DataW.TrodAll enc P W' b sp hd f.resultTypes.toList ((Value.bool true).resultList f.resultTypes.size) (s.fn H (ds ++ [])).results [] := by
    intro b sp hd
    rw [hs', hr]
    exact trodAll_cons_mk (shut_bool hbt _) trodAll_mk0
  have hargs : ∀ sp : Nat → Bool, (∀ p ∈ before, sp p.block = true) → DataW.TrodAll enc P W' 0 sp true f.params.toList args.toList (s.fn H (ds ++ [])).args before := by
    intro sp hsp
    rw [hs']
    exact trodAll_stays hl hread hA (fun x hx => hb.same (hlt x hx)) hsp
  have hvars : ∀ sp : Nat → Bool, DataW.TrodVars enc P W' sp s.vars (s.fn H (ds ++ [])).vars [] := by
    intro sp
    rw [hs', hsv]
    rfl
  have hok := ok_one (P := P) (W' := W') (v := .bool true) hr rfl (okWide_bool_mk hbt _)
  refine ⟨ds, [], before, [], before, [], hW', hres _ _ _, hargs _ hold, hvars _, World.keptBut_mono (fun p hp => ⟨hp, ?_⟩) (hb.frame (· ∈ before)), fun _ => ?_⟩
  · exact Or.inr (Or.inl hp)
  · refine ⟨hok, _, _, ([] ++ before) ++ [], ⟨[] ++ before, [], trodAll_append (hargs _ (fun _ _ => rfl)) (hres _ _ _), hvars _, rfl, ?_, ?_⟩, ?_⟩
    · intro b off hp
      have hin : MemPlace.cell b off ∈ before := by simpa using hp
      rw [hb.frozen (hlt _ hin)]
      exact hz b off hin
    · intro ha
      have := hn ha
      simpa using this
    · intro p hp _
      simpa using hp
end

theorem gnd_of {W : World} (h : W.ShapedOpen Tryd.prog) : Gnd W :=
  Go.Proofs.cell_of_shapedOpen_int (zero := #[.int .i64 0]) (t := 3) h (of_decide_eq_true (by kernel_rfl)) (by kernel_rfl) rfl (by kernel_rfl) (by kernel_rfl) Tryd.underlying3

/-- The cells of the two tables of utf8. -/
def firstCells : Array Value := (Go.Pinned.utf8FirstZ.map fun (n : Nat) => Value.int .u8 (n : Int)).toArray
def acceptCells : Array Value := #[.int .u8 128, .int .u8 191, .int .u8 160, .int .u8 191, .int .u8 128, .int .u8 159, .int .u8 144, .int .u8 191, .int .u8 128, .int .u8 143, .int .u8 0, .int .u8 0, .int .u8 0, .int .u8 0, .int .u8 0, .int .u8 0, .int .u8 0, .int .u8 0, .int .u8 0, .int .u8 0, .int .u8 0, .int .u8 0, .int .u8 0, .int .u8 0, .int .u8 0, .int .u8 0, .int .u8 0, .int .u8 0, .int .u8 0, .int .u8 0, .int .u8 0, .int .u8 0]
def putCells (cs : Array Value) : Obj → Obj
  | .cells _ t frozen => .cells cs t frozen
  | o => o
/-- A world for the witness: the settled one, the two tables holding what their initialisers lay. -/
noncomputable def laidWorld (os : Os) : World :=
  { World.holding Tryd.prog os ⟨#[], #[], []⟩ with heap := ((World.holding Tryd.prog os ⟨#[], #[], []⟩).heap.modify 1 (putCells firstCells)).modify 2 (putCells acceptCells) }
theorem laid_met (os : Os) (args : Array Value) : laidMet Tryd.prog [("unicode/utf8.acceptRanges", Rows.laid_unicode_utf8_acceptRanges), ("unicode/utf8.first", Rows.laid_unicode_utf8_first)] ((laidWorld os).forCall (fun _ _ => 0) ⟨#[], args, []⟩).memory :=
  laidMet_of_run' 8 (by kernel_rfl) (by kernel_rfl)
end Go.Proofs.YtflpkadknljpbaaDoor
