/- The statement GlossOrder: whatever the input, the call answers true and leaves its arguments as they were. No condition. -/
import Derived.Test.YthbnahagfojfbaaG39
import Derived.Test.YthbnahagfojfbaaG31
import Derived.Test.YthbnahagfojfbaaG32

namespace Go.Proofs.Ythbnahagfojfbaa.glossOrder
open Go.ChangeShapes Go.WideShapes Go.ChangeAt Go.RowKit

set_option maxRecDepth 100000 in
theorem contract (H : Type) (enc : TypeId × Value → H) (W : World) (base : Nat) (args : Array Value) (ds gs : List (DataW H)) (before : List MemPlace)
    (hval : ∀ (j : Nat) t v, Try.f3.params[j]? = some t → args[j]? = some v → Value.okWide Try.prog W .any base t v)
    (hW : DataW.Whole enc Try.prog Try.f3.params.toList Rows.glossOrderSpec.vars false W args.toList ds gs before) (vts : List TypeId) (hsz : (DataW.weightsEach Try.prog (Try.f3.params.toList ++ vts) (ds ++ gs)).all (· ≤ reachBytes) = true) :
    Calls Try.prog 3 args W fun e W' => ∃ v, e = .returned v ∧ Rows.glossOrderSpec.post enc Try.prog Try.f3 false true false false W args v W' := by
  have hW' := hW
  obtain ⟨p, q, hA0, hV, rfl, hfz, hnd⟩ := hW
  have hA : DataW.TrodAll enc Try.prog W 0 (fun _ => true) true Try.f3.params.toList args.toList ds p := hA0
  clear hA0 hV hfz hnd
  rw [Try.params3] at hA hval hsz
  obtain ⟨v0, vs0, d0, ds0, p0, q0, hargs, rfl, rfl, h0, r0⟩ := trodAll_cons hA
  obtain ⟨v1, vs1, d1, ds1, p1, q1, rfl, rfl, rfl, h1, r1⟩ := trodAll_cons r0
  obtain ⟨rfl, rfl, rfl⟩ := trodAll_nil r1
  obtain rfl : args = #[v0, v1] := by cases args; simp_all
  have hl0 : Light 22 d0 := fun m hm => by
    have h := List.all_eq_true.1 hsz m (DataW.weights_mem_each (j := 0) (t := 22) (d := d0) rfl rfl m hm)
    have h2 := reachBytes_lt
    simp at h; omega
  have hl1 : Light 26 d1 := fun m hm => by
    have h := List.all_eq_true.1 hsz m (DataW.weights_mem_each (j := 1) (t := 26) (d := d1) rfl rfl m hm)
    have h2 := reachBytes_lt
    simp at h; omega
  obtain ⟨ls, hls, hll⟩ := open_byts (hval 0 22 v0 rfl rfl) h0 hl0
  obtain ⟨c, vR, vO, rfl, hcol, hfit⟩ := open_col (hval 1 26 v1 rfl rfl) h1 hl1
  refine (lgorder_any v0 vR vO ls c W hls hll hcol hfit).mono fun e W' ⟨he, hk⟩ => ⟨_, he, ?_⟩
  refine law_post (bt := 4) Try.laidOut ?_ (by kernel_rfl) Try.underlying4 rfl hW' rfl hk
  rw [Try.params3]
  intro t ht
  simp only [List.mem_cons, List.mem_nil_iff, or_false] at ht
  rcases ht with rfl | rfl
  all_goals exact ⟨by kernel_rfl, of_decide_eq_true (by kernel_rfl)⟩

theorem reads (os : Os) {H : Type} (enc : TypeId × Value → H) : ∃ places, DataW.whole enc Try.prog ((World.holding Try.prog os ⟨#[], #[], []⟩).forCall (fun _ _ => 0) ⟨#[], #[.slice none 0 0, colV (.slice none 0 0) (.slice none 0 0) []], []⟩).memory Try.f3.params.toList Rows.glossOrderSpec.vars false (#[.slice none 0 0, colV (.slice none 0 0) (.slice none 0 0) []] : Array Value).toList 8 = some ([.nil, .agg [.nil, .nil, .lit (.string [])]], [], places) :=
  ⟨[], by kernel_rfl⟩

set_option maxRecDepth 100000 in
theorem lifted (os : Os) (started : os.Started) (H : Type) (enc : TypeId × Value → H) (F : Stop.Interp) :
    ReturnsInHanded {} Try.checked os 3 .any ((OpenSpec.ofChange Rows.glossOrderSpec).preRow enc Try.prog Try.f3 Rows.glossOrderRow.domain false Rows.glossOrderRow.laid) (((OpenSpec.ofChange Rows.glossOrderSpec).at F).post enc Try.prog Try.f3 false true false false) := by
  obtain ⟨places, hx⟩ := reads os enc
  refine returnsInHanded_of_row (C := Try.checked) (s := OpenSpec.ofChange Rows.glossOrderSpec) Try.ownNone started (by kernel_rfl) Try.func3
    (witness_row_at (enc := enc) (C := Try.checked) false (World.holding Try.prog os ⟨#[], #[], []⟩) #[.slice none 0 0, colV (.slice none 0 0) (.slice none 0 0) []] rfl (by kernel_rfl) (by kernel_rfl) (by kernel_rfl)
      (OpenSpec.preRow_of_cond 8 hx (by kernel_rfl) (fun k hk => by cases hk) (by kernel_rfl) (laidMet_nil _ _))) ?_
  intro W base args ds gs before hval hW _ _ hsz _ hsh _
  exact contract H enc W base args ds gs before hval hW _ hsz

theorem said : Rows.GlossOrderSaid :=
  OpenClaim.holds_of_cond 3 Try.f3 rfl rfl rfl rfl rfl rfl rfl ⟨rfl, rfl, rfl, rfl, rfl⟩ rfl rfl rfl rfl rfl (by kernel_rfl) Try.func3 (by kernel_rfl)
    (of_decide_eq_true (by kernel_rfl)) (by unfold Func.isWrapper; first | (rw [if_pos (by decide +kernel)]; kernel_rfl) | (rw [if_neg (by decide +kernel)]; exact ⟨rfl, rfl⟩))
    (fun os started H enc _ F => by rw [OpenClaim.pre_eq_preRow]; exact lifted os started H enc F)
end Go.Proofs.Ythbnahagfojfbaa.glossOrder
