/- The card of the law CiteOrders: whatever the input, the call answers true and leaves its arguments as they were. No condition. -/
import Derived.Test.YtmcoomlkbgiboaaGreatDoorV47
import Derived.Test.YtmcoomlkbgiboaaGreatDoorV48
import Derived.Test.YtmcoomlkbgiboaaGreatDoorV22
import Derived.Test.YtmcoomlkbgiboaaGreatDoorV13
import Derived.Test.YtmcoomlkbgiboaaGreatDoorCards
import Derived.Test.YtmcoomlkbgiboaaGreatDoorTie

namespace Go.Proofs.YtmcoomlkbgiboaaGreatDoor.citeOrders
open Go.ChangeShapes Go.WideShapes Go.ChangeAt Go.RowKit

set_option maxRecDepth 100000 in
theorem contract (H : Type) (enc : TypeId × Value -> H) (W : World) (base : Nat) (args : Array Value) (ds gs : List (DataW H)) (zaO : List MemPlace)
    (hval : ∀ (j : Nat) t v, Tryz.f4.params[j]? = some t -> args[j]? = some v -> Value.okWide Tryz.prog W .any base t v)
    (hW : DataW.Whole enc Tryz.prog Tryz.f4.params.toList Rows.citeOrdersSpec.vars false W args.toList ds gs zaO) (hg : Gnd W) (hT : TabW W) (vts : List TypeId) (hsz : (DataW.weightsEach Tryz.prog (Tryz.f4.params.toList ++ vts) (ds ++ gs)).all (· <= reachBytes) = true) :
    Calls Tryz.prog 4 args W fun e W' => ∃ v, e = .returned v /\ Rows.citeOrdersSpec.post enc Tryz.prog Tryz.f4 false true false false W args v W' := by
  have hW' := hW
  obtain ⟨p, q, hA0, hV, rfl, hfz, hnd⟩ := hW
  have hA : DataW.TrodAll enc Tryz.prog W 0 (fun _ => true) true Tryz.f4.params.toList args.toList ds p := hA0
  clear hA0 hV hfz hnd
  rw[Tryz.params4] at hA hval hsz
  obtain ⟨v0, vs0, d0, ds0, p0, q0, hargs, rfl, rfl, h0, r0⟩ := trodAll_cons hA
  obtain ⟨v1, vs1, d1, ds1, p1, q1, rfl, rfl, rfl, h1, r1⟩ := trodAll_cons r0
  obtain ⟨v2, vs2, d2, ds2, p2, q2, rfl, rfl, rfl, h2, r2⟩ := trodAll_cons r1
  obtain ⟨rfl, rfl, rfl⟩ := trodAll_nil r2
  obtain rfl : args = #[v0, v1, v2] := by cases args;simp_all
  have hl0 : Light 31 d0 := fun m hm => by
    have h := List.all_eq_true.1 hsz m (DataW.weights_mem_each (j := 0) (t := 31) (d := d0) rfl rfl m hm)
    have h2 := reachBytes_lt
    simp at h;omega
  have hl1 : Light 33 d1 := fun m hm => by
    have h := List.all_eq_true.1 hsz m (DataW.weights_mem_each (j := 1) (t := 33) (d := d1) rfl rfl m hm)
    have h2 := reachBytes_lt
    simp at h;omega
  obtain ⟨ss, hss, hlen, hfit⟩ := zy1 (hval 0 31 v0 rfl rfl) h0 hl0
  obtain ⟨y, vY, rfl, hpY, hfy⟩ := zB8 (hval 1 33 v1 rfl rfl) h1 hl1
  obtain ⟨s, rfl, rfl, rfl, hs⟩ := Go.ChangeMaps.open_string Tryz.underlying9 (hval 2 9 v2 rfl rfl) h2
  obtain ⟨l, rfl⟩ := zFI s
  refine (zt5 ss y v0 vY l W ⟨hg, hT.1, hT.2⟩ hss hpY hlen hfit hfy).mono fun e W' ⟨he, hk⟩ => ⟨_, he, ?_⟩
  refine zDx (bt := 4) Tryz.laidOut ?_ (by kernel_rfl) Tryz.underlying4 rfl hW' rfl hk
  rw[Tryz.params4]
  intro t ht
  simp only[List.mem_cons, List.mem_nil_iff, or_false] at ht
  rcases ht with rfl|rfl|rfl
  all_goals exact ⟨by kernel_rfl, of_decide_eq_true (by kernel_rfl)⟩

theorem reads (os : Os) {H : Type} (enc : TypeId × Value -> H) : ∃ places, DataW.whole enc Tryz.prog ((zfH os).forCall (fun _ _ => 0) ⟨#[], #[.slice none 0 0, zeJ (.slice none 0 0) zq5, .string (bs [])], []⟩).memory Tryz.f4.params.toList Rows.citeOrdersSpec.vars false (#[.slice none 0 0, zeJ (.slice none 0 0) zq5, .string (bs [])] : Array Value).toList 8 = some ([.nil, .agg [.lit (.string []), .lit (.bool false), .lit (.string []), .lit (.string []), .lit (.string []), .lit (.string []), .lit (.string []), .lit (.string []), .lit (.int .i64 0), .nil], .lit (.string [])], [], places) :=
  ⟨[], by kernel_rfl⟩

set_option maxRecDepth 100000 in
theorem lifted (os : Os) (started : os.Started) (H : Type) (enc : TypeId × Value -> H) (F : Stop.Interp) :
    ReturnsInHanded {} Tryz.checked os 4 .any ((OpenSpec.ofChange Rows.citeOrdersSpec).preRow enc Tryz.prog Tryz.f4 Rows.citeOrdersRow.domain false Rows.citeOrdersRow.laid) (((OpenSpec.ofChange Rows.citeOrdersSpec).at F).post enc Tryz.prog Tryz.f4 false true false false) := by
  obtain ⟨places, hx⟩ := reads os enc
  refine returnsInHanded_of_row (C := Tryz.checked) (s := OpenSpec.ofChange Rows.citeOrdersSpec) Tryz.ownNone started (by kernel_rfl) Tryz.func4
    (witness_row_atRef (enc := enc) (C := Tryz.checked) false (zfH os) #[.slice none 0 0, zeJ (.slice none 0 0) zq5, .string (bs [])] rfl (zBg os _) (zxL os _) (by kernel_rfl)
      (OpenSpec.preRow_of_cond 8 hx (by kernel_rfl) (fun k hk => by cases hk) (by kernel_rfl) (zBf os _))) ?_
  intro W base args ds gs zaO hval hW _ _ hsz hlm hsh _
  exact contract H enc W base args ds gs zaO hval hW (zFw hsh) (zEJ hlm) _ hsz

theorem closedF : joinedFacts Tryz.pinned.checked.prog 4 Tryz.f4 (OpenSpec.ofChange Rows.citeOrdersSpec).bare Rows.citeOrdersRow = true := by kernel_rfl
theorem instF : Tryz.f4.isInstance Tryz.pinned.checked.prog Rows.citeOrdersRow.origin Rows.citeOrdersRow.targs := of_decide_eq_true (by kernel_rfl)
theorem wrapF : Tryz.f4.isWrapper Tryz.pinned.checked.prog Rows.citeOrdersRow.wrapper Rows.citeOrdersRow.mainSum := by unfold Func.isWrapper;first|(rw[if_pos (by decide +kernel)];kernel_rfl)|(rw[if_neg (by decide +kernel)];exact ⟨rfl, rfl⟩)
theorem said : Rows.CiteOrdersSaid :=
  OpenClaim.holds_of_cond 4 Tryz.f4 rfl rfl rfl rfl rfl rfl rfl ⟨rfl, rfl, rfl, rfl, rfl⟩ rfl rfl rfl rfl rfl (by kernel_rfl) Tryz.func4 closedF instF wrapF
    (fun os started H enc _ F => by rw[OpenClaim.pre_eq_preRow];exact lifted os started H enc F)

theorem plain (f : FuncId) (fn : Func) (hf : Tryz.pinned.checked.prog.funcNamed "publisher/publisherlaw32.CiteOrders" = some f) (hfn : Tryz.pinned.checked.prog.funcs[f]? = some fn) :
    false = Tryz.pinned.checked.prog.looks [] /\ ∀ (j : Nat) t, fn.params[j]? = some t -> Tryz.pinned.checked.prog.wantsStandIn t = false := by
  obtain rfl : f = 4 := Option.some.inj ((show Tryz.prog.funcNamed "publisher/publisherlaw32.CiteOrders" = some 4 by kernel_rfl).symm.trans hf) |>.symm
  obtain rfl : fn = Tryz.f4 := (Option.some.inj (Tryz.func4.symm.trans hfn)).symm
  refine ⟨by kernel_rfl, fun j t ht => ?_⟩
  rw[Tryz.params4] at ht
  have hm := Array.mem_of_getElem? ht
  simp only[List.mem_toArray, List.mem_cons, List.mem_nil_iff, or_false] at hm
  rcases hm with rfl|rfl|rfl
  · exact (show Tryz.prog.wantsStandIn 31 = false by kernel_rfl)
  · exact (show Tryz.prog.wantsStandIn 33 = false by kernel_rfl)
  · exact (show Tryz.prog.wantsStandIn 9 = false by kernel_rfl)

/-- The card. -/
theorem card : Rows.CiteOrdersCardSaid :=
  Claim7.holds_tied_plain_at .later [] _ _ _ _ said (fun _ h => by cases h) (by kernel_rfl) (fun _ h => by cases h) citeOrders_row_tie rfl ⟨rfl, rfl⟩ (by kernel_rfl) rfl plain (by kernel_rfl)
end Go.Proofs.YtmcoomlkbgiboaaGreatDoor.citeOrders
