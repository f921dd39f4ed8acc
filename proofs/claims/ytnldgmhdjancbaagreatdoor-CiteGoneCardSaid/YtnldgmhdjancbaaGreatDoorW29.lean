/- The card of the law CiteGone: whatever the input, the call answers true and leaves its arguments as they were. No condition. -/
import Derived.Test.YtnldgmhdjancbaaGreatDoorW28
import Derived.Test.YtnldgmhdjancbaaGreatDoorCards
import Derived.Test.YtnldgmhdjancbaaGreatDoorTie

namespace Go.Proofs.YtnldgmhdjancbaaGreatDoor.citeGone
open Go.ChangeShapes Go.WideShapes Go.ChangeAt Go.RowKit

set_option maxRecDepth 100000 in
theorem contract(H : Type)(enc : TypeId×Value->H)(W : World)(base : Nat)(args : Array Value)(ds gs : List (DataW H))(zaM : List MemPlace)
    (hval : ∀(j : Nat) t v, Tryz.f3.params[j]? = some t->args[j]? = some v->Value.okWide Tryz.prog W .any base t v)
    (hW : DataW.Whole enc Tryz.prog Tryz.f3.params.toList Rows.citeGoneSpec.vars false W args.toList ds gs zaM) (hg : Gnd W) (hT : TabW W) (Pn : List TypeId) (ny : (DataW.weightsEach Tryz.prog (Tryz.f3.params.toList++Pn) (ds++gs)).all (· <= reachBytes)=true) :
    Calls Tryz.prog 3 args W fun e W' => ∃v, e=.returned v/\Rows.citeGoneSpec.post enc Tryz.prog Tryz.f3 false true false false W args v W' := by
  have hW' := hW
  obtain⟨p, q, L8, hV, rfl, hfz, hnd⟩ := hW
  have hA : DataW.TrodAll enc Tryz.prog W 0 (fun _ => true) true Tryz.f3.params.toList args.toList ds p := L8
  clear L8 hV hfz hnd
  rw[Tryz.params3]at hA hval ny
  obtain⟨v0, RV, d0, ds0, p0, q0, hargs, rfl, rfl, h0, r0⟩ := trodAll_cons hA
  obtain⟨v1, vs1, d1, ds1, p1, q1, rfl, rfl, rfl, h1, r1⟩ := trodAll_cons r0
  obtain⟨v2, vs2, d2, RW, p2, q2, rfl, rfl, rfl, h2, r2⟩ := trodAll_cons r1
  obtain⟨v3, vs3, d3, ds3, p3, q3, rfl, rfl, rfl, h3, r3⟩ := trodAll_cons r2
  obtain⟨rfl, rfl, rfl⟩ := trodAll_nil r3
  obtain rfl : args=#[v0, v1, v2, v3] := by cases args;simp_all
  have hl0 : Light 25 d0 := fun m hm => by
    have h := dn.1 ny m (gl (j := 0) (t := 25) (d := d0) rfl rfl m hm)
    have h2 := reachBytes_lt
    simp at h;omega
  have hl1 : Light 26 d1 := fun m hm => by
    have h := dn.1 ny m (gl (j := 1) (t := 26) (d := d1) rfl rfl m hm)
    have h2 := reachBytes_lt
    simp at h;omega
  have hl2 : Light 28 d2 := fun m hm => by
    have h := dn.1 ny m (gl (j := 2) (t := 28) (d := d2) rfl rfl m hm)
    have h2 := reachBytes_lt
    simp at h;omega
  obtain⟨ms, xs, vM, vB, N, n, rfl, hN, Po, Pp, yi⟩ := zGb (hval 0 25 v0 rfl rfl) h0 hl0
  obtain⟨ss, hss, mh, mI⟩ := zDq (hval 1 26 v1 rfl rfl) h1 hl1
  obtain⟨y, vY, rfl, Pq, ye⟩ := zF5 (hval 2 28 v2 rfl rfl) h2 hl2
  obtain⟨s, rfl, rfl, rfl, hs⟩ := Go.ChangeMaps.open_string aq (hval 3 9 v3 rfl rfl) h3
  obtain⟨l, rfl⟩ := zJ4 s
  refine(zvQ N n hN vM vB v1 vY ms xs ss y l W ⟨hg, hT.1, hT.2⟩ Po Pp yi hss Pq mh mI ye).mono fun e W' ⟨he, hk⟩ => ⟨_, he, ?_⟩
  refine zGa (bt := 4) Tryz.laidOut ?_ (by kernel_rfl) iH rfl hW' rfl hk
  rw[Tryz.params3]
  intro t ht
  simp only[bj, iM, ej]at ht
  rcases ht with rfl|rfl|rfl|rfl
  all_goals exact⟨by kernel_rfl, dG (by kernel_rfl)⟩

theorem reads(os : Os){H : Type}(enc : TypeId×Value->H): ∃places, DataW.whole enc Tryz.prog ((zfS os).forCall (fun _ _ => 0) ⟨#[], #[.agg #[.slice none 0 0, .slice none 0 0], .slice none 0 0, zfA (.slice none 0 0) zrL, .string (bs [])], []⟩).memory Tryz.f3.params.toList Rows.citeGoneSpec.vars false (#[.agg #[.slice none 0 0, .slice none 0 0], .slice none 0 0, zfA (.slice none 0 0) zrL, .string (bs [])] : Array Value).toList 8=some ([.agg [.nil, .nil], .nil, .agg [.lit (.string []), .lit (.bool false), .lit (.string []), .lit (.string []), .lit (.string []), .lit (.string []), .lit (.string []), .lit (.string []), .lit (.int .i64 0), .nil], .lit (.string [])], [], places) :=
  ⟨[], by kernel_rfl⟩

set_option maxRecDepth 100000 in
theorem lifted(os : Os)(started : os.Started)(H : Type)(enc : TypeId×Value->H)(F : Stop.Interp):
    ReturnsInHanded {} Tryz.checked os 3 .any ((OpenSpec.ofChange Rows.citeGoneSpec).preRow enc Tryz.prog Tryz.f3 Rows.citeGoneRow.domain false Rows.citeGoneRow.laid) (((OpenSpec.ofChange Rows.citeGoneSpec).at F).post enc Tryz.prog Tryz.f3 false true false false) := by
  obtain⟨places, hx⟩ := reads os enc
  refine returnsInHanded_of_row (C := Tryz.checked) (s := OpenSpec.ofChange Rows.citeGoneSpec) Tryz.ownNone started (by kernel_rfl) gT
    (witness_row_atRef (enc := enc) (C := Tryz.checked) false (zfS os) #[.agg #[.slice none 0 0, .slice none 0 0], .slice none 0 0, zfA (.slice none 0 0) zrL, .string (bs [])] rfl (zDz os _) (zz7 os _) (by kernel_rfl)
      (OpenSpec.preRow_of_cond 8 hx (by kernel_rfl) (fun k hk => by cases hk) (by kernel_rfl) (zDy os _))) ?_
  intro W base args ds gs zaM hval hW _ _ ny hlm hsh _
  exact contract H enc W base args ds gs zaM hval hW (zJS hsh) (zIL hlm) _ ny

theorem closedF : joinedFacts Tryz.pinned.checked.prog 3 Tryz.f3 (OpenSpec.ofChange Rows.citeGoneSpec).bare Rows.citeGoneRow=true := by kernel_rfl
theorem instF : Tryz.f3.isInstance Tryz.pinned.checked.prog Rows.citeGoneRow.origin Rows.citeGoneRow.targs := dG (by kernel_rfl)
theorem wrapF : Tryz.f3.isWrapper Tryz.pinned.checked.prog Rows.citeGoneRow.wrapper Rows.citeGoneRow.mainSum := by unfold Func.isWrapper;first|(rw[ae (by decide +kernel)];kernel_rfl)|(rw[aa (by decide +kernel)];exact⟨rfl, rfl⟩)
theorem said : Rows.CiteGoneSaid :=
  OpenClaim.holds_of_cond 3 Tryz.f3 rfl rfl rfl rfl rfl rfl rfl ⟨rfl, rfl, rfl, rfl, rfl⟩ rfl rfl rfl rfl rfl (by kernel_rfl) gT closedF instF wrapF
    (fun os started H enc _ F => by rw[OpenClaim.pre_eq_preRow];exact lifted os started H enc F)

theorem plain(f : FuncId)(fn : Func)(hf : Tryz.pinned.checked.prog.funcNamed "publisher/publisherlaw32.CiteGone" = some f) (hfn : Tryz.pinned.checked.prog.funcs[f]? = some fn) :
    false=Tryz.pinned.checked.prog.looks []/\∀(j : Nat) t, fn.params[j]? = some t->Tryz.pinned.checked.prog.wantsStandIn t=false := by
  obtain rfl : f=3 := eG ((show Tryz.prog.funcNamed "publisher/publisherlaw32.CiteGone" = some 3 by kernel_rfl).symm.trans hf) |>.symm
  obtain rfl : fn=Tryz.f3 := (eG (gT.symm.trans hfn)).symm
  refine⟨by kernel_rfl, fun j t ht => ?_⟩
  rw[Tryz.params3]at ht
  have hm := Array.mem_of_getElem? ht
  simp only[List.mem_toArray, bj, iM, ej]at hm
  rcases hm with rfl|rfl|rfl|rfl
  . exact(show Tryz.prog.wantsStandIn 25=false by kernel_rfl)
  . exact(show Tryz.prog.wantsStandIn 26=false by kernel_rfl)
  . exact(show Tryz.prog.wantsStandIn 28=false by kernel_rfl)
  . exact(show Tryz.prog.wantsStandIn 9=false by kernel_rfl)

/-- The card. -/
theorem card : Rows.CiteGoneCardSaid :=
  Claim7.holds_tied_plain_at .later [] _ _ _ _ said (fun _ h => by cases h) (by kernel_rfl) (fun _ h => by cases h) citeGone_row_tie rfl ⟨rfl, rfl⟩ (by kernel_rfl) rfl plain (by kernel_rfl)
end Go.Proofs.YtnldgmhdjancbaaGreatDoor.citeGone
