/- The law CollateInitials answers true of every collation and text. Conditions: lengths that a machine can tell. -/
import Derived.Test.YtpfbdgcgpghifaaGreatDoorK31
import Derived.Test.YtpfbdgcgpghifaaGreatDoorK35
import Derived.Test.YtpfbdgcgpghifaaGreatDoorK01
import Derived.Test.YtpfbdgcgpghifaaGreatDoorRows
import Derived.Deep.RegionHeld3
import Derived.ProofKit
import Derived.OpenShut
import Derived.Carry
import Derived.ChangeSame
import Derived.Deep.DeepHandedRow
import Derived.Lib.LaidTab
import Derived.Shelf.Vars

set_option linter.all false
namespace Go.Proofs.YtpfbdgcgpghifaaGreatDoor
open Go.RowKit

set_option maxRecDepth 100000 in
set_option maxHeartbeats 6400000 in
theorem lcini_any (vR vO : Value) (c : ColT) (s : Bs) (w : World) (hg : Gnd w) (hv : Col w vR vO c) (hf : FitC c) (hsl : s.length ≤ maxLen) : Calls Tryz.prog 5 #[colV vR vO c.ignore, .string (bs s)] w fun e w' => e = .returned (.bool true) ∧ Kept w w' := by
  have HG := Lib.hid hg
  have HV := Lib.hid hv
  have HL := Lib.hid (fun w h => light_any vR vO c w h hf)
  have HAW : Hid (∀ w', Kept w w' → Calls Tryz.prog 13 #[] w' fun e w2 => e = .returned (.bool true) ∧ Kept w' w2) := fun w' h => cawake_any w' (HG.out.kept h)
  have HC1 := Lib.hid (fun w h hs (hl : s.length ≤ 1000) => initial_any vR vO c s w h hs hl)
  have HC2 := Lib.hid (fun w h hs (hl : s.length ≤ 1000) => rinitial_any vR vO c s w h hs hl)
  obtain ⟨⟨aR, cR, rfl, -⟩, ⟨aO, cO, rfl, -⟩⟩ := hv
  clear hf hg
  unfold maxLen at hsl
  generalize iniC c (ptsL s) = R at *
  go_enter Tryz.func5, Tryz.ntmps5
  go_wp2_with fail
  have HB0 := Lib.hid (Blk.new w 25 #[.slice aR c.ranks.length cR, .slice aO c.order.length cO, .string (bs c.ignore)])
  have HK0 := Lib.hid (kept_alloc w (.cells #[.slice aR c.ranks.length cR, .slice aO c.order.length cO, .string (bs c.ignore)] 25))
  generalize w.alloc (.cells #[.slice aR c.ranks.length cR, .slice aO c.order.length cO, .string (bs c.ignore)] 25) = w0 at *
  generalize w.heap.size = B at *
  refine (HL.out _ (HV.out.kept HK0.out)).mono ?_
  rintro e w1 ⟨⟨b, rfl, hs⟩, hk1⟩
  have HS := Lib.hid hs
  have HK1 := Lib.hid (HK0.out.trans hk1)
  have HB1 := Lib.hid (HB0.out.kept hk1)
  clear hs hk1 HK0 HB0 HL
  cases b with
  | false =>
    go_wp2_with fail
    refine (HAW.out _ HK1.out).mono ?_
    rintro e w2 ⟨rfl, hk⟩
    have HK2 := Lib.hid (HK1.out.trans hk)
    clear hk
    go_wp2_with fail
    go_ret
    exact ⟨rfl, HK2.out⟩
  | true =>
    have HSM := Lib.hid (HS.out rfl)
    by_cases hl2 : 200 < s.length
    · go_wp2_with fail
      refine (HAW.out _ HK1.out).mono ?_
      rintro e w2 ⟨rfl, hk⟩
      have HK2 := Lib.hid (HK1.out.trans hk)
      clear hk
      go_wp2_with fail
      go_ret
      exact ⟨rfl, HK2.out⟩
    have HV1 := Lib.hid (HV.out.kept HK1.out)
    have z0 := HB1.out.lt
    have HCC : Hid (∀ w', Kept w1 w' → (w'.cell? ⟨B, 0, none⟩ = some (.slice aR c.ranks.length cR) ∧ w'.cell? ⟨B, 1, none⟩ = some (.slice aO c.order.length cO) ∧ w'.cell? ⟨B, 2, none⟩ = some (.string (bs c.ignore))) ∧ B < w'.heap.size ∧ Kept w1 w') := fun w' h =>
      ⟨⟨(HB1.out.kept h).cell 0 _ rfl, (HB1.out.kept h).cell 1 _ rfl, (HB1.out.kept h).cell 2 _ rfl⟩, Nat.lt_of_lt_of_le z0 h.size, h⟩
    obtain ⟨⟨t0, t1, t2⟩, -, -⟩ := HCC.out w1 (Kept.refl _)
    have hkd : Kept w1 w1.drew := kept_drewN w1 1
    clear HS HB1 HV
    go_wp2_with fail
    go_region_held3 (fun w' => (w'.cell? ⟨B, 0, none⟩ = some (.slice aR c.ranks.length cR) ∧ w'.cell? ⟨B, 1, none⟩ = some (.slice aO c.order.length cO) ∧ w'.cell? ⟨B, 2, none⟩ = some (.string (bs c.ignore))) ∧ B < w'.heap.size ∧ Kept w1 w')
      ((refine HCC.out _ ?_; assumption))
      (first
        | (go_at_call 13; refine (HAW.out _ (HK1.out.trans k2)).mono ?_; rintro e w5 ⟨rfl, hk⟩; have kZ := k2.trans hk; clear hk)
        | (go_at_call 20; refine (HC2.out _ (HV1.out.kept k1) HSM.out (by omega)).mono ?_; rintro e w4 ⟨rfl, hk⟩; have k2 : Kept w1 w4 := k1.trans hk; clear hk)
        | (go_at_call 19; refine (HC1.out _ (HV1.out.kept hkd) HSM.out (by omega)).mono ?_; rintro e w3 ⟨rfl, hk⟩; have k1 : Kept w1 w3 := hkd.trans hk; clear hk))
    all_goals
      go_wp2_with fail
      go_ret
      exact ⟨rfl, HK1.out.trans kZ⟩
end Go.Proofs.YtpfbdgcgpghifaaGreatDoor

/- What every row of this seat needs: the arguments read behind a call that keeps what was there as they did before; the world of the witness; the variable that the library's search reads. No condition. -/
set_option linter.all false
namespace Go.Proofs.YtpfbdgcgpghifaaGreatDoor
open Go.ChangeShapes Go.WideShapes Go.ChangeAt Go.RowKit

theorem Tryz.ownNone : ownKnob Tryz.prog.godebug = none := by kernel_rfl
theorem Tryz.laidOut : laidOutB Tryz.prog = true := by kernel_rfl

section
variable {H : Type} {enc : TypeId × Value → H} {P : Program}
theorem trodAll_stays (hl : laidOutB P = true) {W W' : World} {sp : Nat → Bool} : ∀ {ts : List TypeId} {vs : List Value} {ds : List (DataW H)} {p : List MemPlace},
    (∀ t ∈ ts, P.readableRec t = true ∧ t < P.types.size) → DataW.TrodAll enc P W 0 (fun _ => true) true ts vs ds p → (∀ x ∈ p, W.sameAt W' x) → (∀ x ∈ p, sp x.block = true) → DataW.TrodAll enc P W' 0 sp true ts vs ds p
  | [], vs, ds, p, _, h, _, _ => by
    obtain ⟨rfl, rfl, rfl⟩ := trodAll_nil h
    exact trodAll_mk0
  | t :: ts, vs, ds, p, hr, h, hs, hp => by
    obtain ⟨v, vs', d, ds', p1, p2, rfl, rfl, rfl, h0, h1⟩ := trodAll_cons h
    have h0' := WideElems.Trod_stays hl (hr t (by simp)).1 (hr t (by simp)).2 h0 (fun x hx => hs x (by simp [hx])) (sp' := sp) (fun x hx => hp x (by simp [hx]))
    exact trodAll_cons_mk h0' (trodAll_stays hl (fun t ht => hr t (by simp [ht])) h1 (fun x hx => hs x (by simp [hx])) (fun x hx => hp x (by simp [hx])))

/-- The post of a law: it answers true, and what was there is as it was. -/
theorem law_post {f : Func} {s : ChangeSpec} {apart fresh handsOn again : Bool} {W W' : World} {args : Array Value} {ds gs : List (DataW H)} {before : List MemPlace} {bt : TypeId}
    (hl : laidOutB P = true) (hread : ∀ t ∈ f.params.toList, P.readableRec t = true ∧ t < P.types.size) (hr : f.resultTypes = #[bt]) (hbt : P.underlying bt = some .bool) (hsv : s.vars = [])
    (hW : DataW.Whole enc P f.params.toList s.vars apart W args.toList ds gs before) (hs : s.fn H ds = { results := [.lit (.bool true)], args := ds }) (hb : Kept W W') :
    s.post enc P f apart fresh handsOn again W args (.bool true) W' := by
  have hW' := hW
  have hlt : ∀ p ∈ before, p.block < W.heap.size := fun p hp => hW'.lt p hp
  have hold : ∀ p ∈ before, (fun b => decide (b < W.heap.size)) p.block = true := fun p hp => by simpa using hlt p hp
  obtain ⟨pa, pv, hA, hV, hbe, hz, hn⟩ := hW
  rw [hsv] at hV
  obtain ⟨rfl, rfl⟩ := trodVars_none hV
  rw [List.append_nil] at hbe
  subst hbe
  have hs' : s.fn H (ds ++ []) = { results := [.lit (.bool true)], args := ds } := by rw [List.append_nil]; exact hs
  have hres : ∀ (b : Nat) (sp : Nat → Bool) (hd : Bool), DataW.TrodAll enc P W' b sp hd f.resultTypes.toList ((Value.bool true).resultList f.resultTypes.size) (s.fn H (ds ++ [])).results [] := by
    intro b sp hd
    rw [hs', hr]
    exact trodAll_cons_mk (shut_bool hbt _) trodAll_mk0
  have hargs : ∀ sp : Nat → Bool, (∀ p ∈ before, sp p.block = true) → DataW.TrodAll enc P W' 0 sp true f.params.toList args.toList (s.fn H (ds ++ [])).args before := by
    intro sp hsp
    rw [hs']
    exact trodAll_stays hl hread hA (fun x hx => hb.same (hlt x hx)) hsp
  have hvars : ∀ sp : Nat → Bool, DataW.TrodVars enc P W' sp s.vars (s.fn H (ds ++ [])).vars [] := by
    intro sp
    rw [hs', hsv]
    rfl
  have hok := ok_one (P := P) (W' := W') (v := .bool true) hr rfl (okWide_bool_mk hbt _)
  refine ⟨ds, [], before, [], before, [], hW', hres _ _ _, hargs _ hold, hvars _, World.keptBut_mono (fun p hp => ⟨hp, ?_⟩) (hb.frame (· ∈ before)), fun _ => ?_⟩
  · exact Or.inr (Or.inl hp)
  · refine ⟨hok, _, _, ([] ++ before) ++ [], ⟨[] ++ before, [], trodAll_append (hargs _ (fun _ _ => rfl)) (hres _ _ _), hvars _, rfl, ?_, ?_⟩, ?_⟩
    · intro b off hp
      have hin : MemPlace.cell b off ∈ before := by simpa using hp
      rw [hb.frozen (hlt _ hin)]
      exact hz b off hin
    · intro ha
      have := hn ha
      simpa using this
    · intro p hp _
      simpa using hp
end

theorem gnd_of {W : World} (h : W.ShapedOpen Tryz.prog) : Gnd W :=
  Go.Proofs.cell_of_shapedOpen_int (zero := #[.int .i64 0]) (t := 3) h (of_decide_eq_true (by kernel_rfl)) (by kernel_rfl) rfl (by kernel_rfl) (by kernel_rfl) Tryz.underlying3

/-- The cells of the two tables of utf8. -/
def firstCells : Array Value := (Go.Pinned.utf8FirstZ.map fun (n : Nat) => Value.int .u8 (n : Int)).toArray
def acceptCells : Array Value := #[.int .u8 128, .int .u8 191, .int .u8 160, .int .u8 191, .int .u8 128, .int .u8 159, .int .u8 144, .int .u8 191, .int .u8 128, .int .u8 143, .int .u8 0, .int .u8 0, .int .u8 0, .int .u8 0, .int .u8 0, .int .u8 0, .int .u8 0, .int .u8 0, .int .u8 0, .int .u8 0, .int .u8 0, .int .u8 0, .int .u8 0, .int .u8 0, .int .u8 0, .int .u8 0, .int .u8 0, .int .u8 0, .int .u8 0, .int .u8 0, .int .u8 0, .int .u8 0]
def putCells (cs : Array Value) : Obj → Obj
  | .cells _ t frozen => .cells cs t frozen
  | o => o
/-- A world for the witness: the settled one, the two tables holding what their initialisers lay. -/
noncomputable def laidWorld (os : Os) : World :=
  { World.holding Tryz.prog os ⟨#[], #[], []⟩ with heap := ((World.holding Tryz.prog os ⟨#[], #[], []⟩).heap.modify 6 (putCells firstCells)).modify 7 (putCells acceptCells) }
theorem laid_met (os : Os) (args : Array Value) : laidMet Tryz.prog [("unicode/utf8.acceptRanges", Rows.laid_unicode_utf8_acceptRanges), ("unicode/utf8.first", Rows.laid_unicode_utf8_first)] ((laidWorld os).forCall (fun _ _ => 0) ⟨#[], args, []⟩).memory :=
  laidMet_of_run' 8 (by kernel_rfl) (by kernel_rfl)
end Go.Proofs.YtpfbdgcgpghifaaGreatDoor
