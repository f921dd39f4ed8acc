/- The card of the law CiteSuffixes: whatever the input, the call answers true and leaves its arguments as they were. No condition. -/
import Derived.Test.YtmcoomlkbgiboaaGreatDoorU45
import Derived.Test.YtmcoomlkbgiboaaGreatDoorU22
import Derived.Test.YtmcoomlkbgiboaaGreatDoorU13
import Derived.Test.YtmcoomlkbgiboaaGreatDoorCards
import Derived.Test.YtmcoomlkbgiboaaGreatDoorTie

namespace Go.Proofs.YtmcoomlkbgiboaaGreatDoor.citeSuffixes
open Go.ChangeShapes Go.WideShapes Go.ChangeAt Go.RowKit

set_option maxRecDepth 100000 in
theorem contract (H : Type) (enc : TypeId × Value -> H) (W : World) (base : Nat) (args : Array Value) (ds gs : List (DataW H)) (zaP : List MemPlace)
    (hval : ∀ (j : Nat) t v, Tryz.f5.params[j]? = some t -> args[j]? = some v -> Value.okWide Tryz.prog W .any base t v)
    (hW : DataW.Whole enc Tryz.prog Tryz.f5.params.toList Rows.citeSuffixesSpec.vars false W args.toList ds gs zaP) (hg : Gnd W) (hT : TabW W) (vts : List TypeId) (hsz : (DataW.weightsEach Tryz.prog (Tryz.f5.params.toList ++ vts) (ds ++ gs)).all (· <= reachBytes) = true) :
    Calls Tryz.prog 5 args W fun e W' => ∃ v, e = .returned v /\ Rows.citeSuffixesSpec.post enc Tryz.prog Tryz.f5 false true false false W args v W' := by
  have hW' := hW
  obtain ⟨p, q, hA0, hV, rfl, hfz, hnd⟩ := hW
  have hA : DataW.TrodAll enc Tryz.prog W 0 (fun _ => true) true Tryz.f5.params.toList args.toList ds p := hA0
  clear hA0 hV hfz hnd
  rw[Tryz.params5] at hA hval hsz
  obtain ⟨v0, vs0, d0, ds0, p0, q0, hargs, rfl, rfl, h0, r0⟩ := trodAll_cons hA
  obtain ⟨v1, vs1, d1, ds1, p1, q1, rfl, rfl, rfl, h1, r1⟩ := trodAll_cons r0
  obtain ⟨v2, vs2, d2, ds2, p2, q2, rfl, rfl, rfl, h2, r2⟩ := trodAll_cons r1
  obtain ⟨rfl, rfl, rfl⟩ := trodAll_nil r2
  obtain rfl : args = #[v0, v1, v2] := by cases args;simp_all
  have hl0 : Light 31 d0 := fun m hm => by
    have h := List.all_eq_true.1 hsz m (DataW.weights_mem_each (j := 0) (t := 31) (d := d0) rfl rfl m hm)
    have h2 := reachBytes_lt
    simp at h;omega
  have hl1 : Light 33 d1 := fun m hm => by
    have h := List.all_eq_true.1 hsz m (DataW.weights_mem_each (j := 1) (t := 33) (d := d1) rfl rfl m hm)
    have h2 := reachBytes_lt
    simp at h;omega
  obtain ⟨ss, hss, hlen, hfit⟩ := zyC (hval 0 31 v0 rfl rfl) h0 hl0
  obtain ⟨y, vY, rfl, hpY, hfy⟩ := zBv (hval 1 33 v1 rfl rfl) h1 hl1
  obtain ⟨s, rfl, rfl, rfl, hs⟩ := Go.ChangeMaps.open_string Tryz.underlying9 (hval 2 9 v2 rfl rfl) h2
  obtain ⟨l, rfl⟩ := zFb s
  refine (ztF ss y v0 vY l W ⟨hg, hT.1, hT.2⟩ hss hpY hlen hfit hfy).mono fun e W' ⟨he, hk⟩ => ⟨_, he, ?_⟩
  refine zCM (bt := 4) Tryz.laidOut ?_ (by kernel_rfl) Tryz.underlying4 rfl hW' rfl hk
  rw[Tryz.params5]
  intro t ht
  simp only[List.mem_cons, List.mem_nil_iff, or_false] at ht
  rcases ht with rfl|rfl|rfl
  all_goals exact ⟨by kernel_rfl, of_decide_eq_true (by kernel_rfl)⟩

theorem reads (os : Os) {H : Type} (enc : TypeId × Value -> H) : ∃ places, DataW.whole enc Tryz.prog ((zfH os).forCall (fun _ _ => 0) ⟨#[], #[.slice none 0 0, zdU (.slice none 0 0) zqW, .string (bs [])], []⟩).memory Tryz.f5.params.toList Rows.citeSuffixesSpec.vars false (#[.slice none 0 0, zdU (.slice none 0 0) zqW, .string (bs [])] : Array Value).toList 8 = some ([.nil, .agg [.lit (.string []), .lit (.bool false), .lit (.string []), .lit (.string []), .lit (.string []), .lit (.string []), .lit (.string []), .lit (.string []), .lit (.int .i64 0), .nil], .lit (.string [])], [], places) :=
  ⟨[], by kernel_rfl⟩

set_option maxRecDepth 100000 in
theorem lifted (os : Os) (started : os.Started) (H : Type) (enc : TypeId × Value -> H) (F : Stop.Interp) :
    ReturnsInHanded {} Tryz.checked os 5 .any ((OpenSpec.ofChange Rows.citeSuffixesSpec).preRow enc Tryz.prog Tryz.f5 Rows.citeSuffixesRow.domain false Rows.citeSuffixesRow.laid) (((OpenSpec.ofChange Rows.citeSuffixesSpec).at F).post enc Tryz.prog Tryz.f5 false true false false) := by
  obtain ⟨places, hx⟩ := reads os enc
  refine returnsInHanded_of_row (C := Tryz.checked) (s := OpenSpec.ofChange Rows.citeSuffixesSpec) Tryz.ownNone started (by kernel_rfl) Tryz.func5
    (witness_row_atRef (enc := enc) (C := Tryz.checked) false (zfH os) #[.slice none 0 0, zdU (.slice none 0 0) zqW, .string (bs [])] rfl (zAL os _) (zwX os _) (by kernel_rfl)
      (OpenSpec.preRow_of_cond 8 hx (by kernel_rfl) (fun k hk => by cases hk) (by kernel_rfl) (zAK os _))) ?_
  intro W base args ds gs zaP hval hW _ _ hsz hlm hsh _
  exact contract H enc W base args ds gs zaP hval hW (zEY hsh) (zEf hlm) _ hsz

theorem closedF : joinedFacts Tryz.pinned.checked.prog 5 Tryz.f5 (OpenSpec.ofChange Rows.citeSuffixesSpec).bare Rows.citeSuffixesRow = true := by kernel_rfl
theorem instF : Tryz.f5.isInstance Tryz.pinned.checked.prog Rows.citeSuffixesRow.origin Rows.citeSuffixesRow.targs := of_decide_eq_true (by kernel_rfl)
theorem wrapF : Tryz.f5.isWrapper Tryz.pinned.checked.prog Rows.citeSuffixesRow.wrapper Rows.citeSuffixesRow.mainSum := by unfold Func.isWrapper;first|(rw[if_pos (by decide +kernel)];kernel_rfl)|(rw[if_neg (by decide +kernel)];exact ⟨rfl, rfl⟩)
theorem said : Rows.CiteSuffixesSaid :=
  OpenClaim.holds_of_cond 5 Tryz.f5 rfl rfl rfl rfl rfl rfl rfl ⟨rfl, rfl, rfl, rfl, rfl⟩ rfl rfl rfl rfl rfl (by kernel_rfl) Tryz.func5 closedF instF wrapF
    (fun os started H enc _ F => by rw[OpenClaim.pre_eq_preRow];exact lifted os started H enc F)

theorem plain (f : FuncId) (fn : Func) (hf : Tryz.pinned.checked.prog.funcNamed "publisher/publisherlaw32.CiteSuffixes" = some f) (hfn : Tryz.pinned.checked.prog.funcs[f]? = some fn) :
    false = Tryz.pinned.checked.prog.looks [] /\ ∀ (j : Nat) t, fn.params[j]? = some t -> Tryz.pinned.checked.prog.wantsStandIn t = false := by
  obtain rfl : f = 5 := Option.some.inj ((show Tryz.prog.funcNamed "publisher/publisherlaw32.CiteSuffixes" = some 5 by kernel_rfl).symm.trans hf) |>.symm
  obtain rfl : fn = Tryz.f5 := (Option.some.inj (Tryz.func5.symm.trans hfn)).symm
  refine ⟨by kernel_rfl, fun j t ht => ?_⟩
  rw[Tryz.params5] at ht
  have hm := Array.mem_of_getElem? ht
  simp only[List.mem_toArray, List.mem_cons, List.mem_nil_iff, or_false] at hm
  rcases hm with rfl|rfl|rfl
  · exact (show Tryz.prog.wantsStandIn 31 = false by kernel_rfl)
  · exact (show Tryz.prog.wantsStandIn 33 = false by kernel_rfl)
  · exact (show Tryz.prog.wantsStandIn 9 = false by kernel_rfl)

/-- The card. -/
theorem card : Rows.CiteSuffixesCardSaid :=
  Claim7.holds_tied_plain_at .later [] _ _ _ _ said (fun _ h => by cases h) (by kernel_rfl) (fun _ h => by cases h) citeSuffixes_row_tie rfl ⟨rfl, rfl⟩ (by kernel_rfl) rfl plain (by kernel_rfl)
end Go.Proofs.YtmcoomlkbgiboaaGreatDoor.citeSuffixes
