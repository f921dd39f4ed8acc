/- Full, Short of package person and of its reference. Conditions: lengths. -/
import Derived.Test.YtflpkadknljpbaaDoorJoined
set_option linter.all false
namespace Go.Proofs.YtflpkadknljpbaaDoor
open Go.RowKit

/-- A person's value. -/
abbrev persV (f g p s : Bs) : Value := .agg #[.string (bs f), .string (bs g), .string (bs p), .string (bs s)]
theorem strs_lit (w : World) (arr : Array Value) (xs : List Bs) (n : Nat) (hn : n = xs.length) (h : arr.toList = strCells xs) (e : TypeId) (g : Nat) (hg : g = w.heap.size) : Strs (w.alloc (.cells arr e)) (.slice (some ⟨g, 0, none⟩) n n) xs := by
  subst hn hg
  refine ⟨_, _, rfl, Nat.le_refl _, fun _ => ⟨w.heap.size, 0, rfl, by simp, fun j x hx => ?_⟩⟩
  have := new_cells w arr e w.heap.size rfl j (.string (bs x)) (by rw [h]; exact strCells_at xs j x hx)
  have e1 : ((⟨w.heap.size, 0, none⟩ : Addr).add j) = ⟨w.heap.size, j, none⟩ := by unfold Addr.add; split <;> simp_all
  rw [e1] at this
  rw [Nat.zero_add]; exact this

set_option maxRecDepth 100000 in
set_option maxHeartbeats 800000 in
theorem full_any (f g p s : Bs) (w : World) (h : bulk [g, p, f, s] ≤ 100000000) :
    Calls Tryd.prog 18 #[persV f g p s] w fun e w' => e = .returned (.string (bs (joinedL [g, p, f, s]))) ∧ Kept w w' := by
  go_enter Tryd.func18, Tryd.ntmps18
  go_wp2_with fail
  refine (joined_any _ [g, p, f, s] _ (strs_lit _ _ _ _ rfl rfl _ _ (by simp)) h).mono ?_
  rintro e w1 ⟨rfl, hk⟩
  go_wp2_with fail
  go_ret
  exact ⟨rfl, ((kept_alloc _ _).trans (kept_alloc _ _)).trans hk⟩
set_option maxRecDepth 100000 in
set_option maxHeartbeats 800000 in
theorem rfull_any (f g p s : Bs) (w : World) (h : bulk [g, p, f, s] ≤ 100000000) :
    Calls Tryd.prog 19 #[persV f g p s] w fun e w' => e = .returned (.string (bs (joinedL [g, p, f, s]))) ∧ Kept w w' := by
  go_enter Tryd.func19, Tryd.ntmps19
  go_wp2_with fail
  refine (rjoined_any _ [g, p, f, s] _ (strs_lit _ _ _ _ rfl rfl _ _ (by simp)) h).mono ?_
  rintro e w1 ⟨rfl, rfl⟩
  go_wp2_with fail
  go_ret
  exact ⟨rfl, (kept_alloc _ _).trans (kept_alloc _ _)⟩
set_option maxRecDepth 100000 in
set_option maxHeartbeats 800000 in
theorem short_any (f g p s : Bs) (w : World) (h : bulk [p, f] ≤ 100000000) :
    Calls Tryd.prog 20 #[persV f g p s] w fun e w' => e = .returned (.string (bs (joinedL [p, f]))) ∧ Kept w w' := by
  go_enter Tryd.func20, Tryd.ntmps20
  go_wp2_with fail
  refine (joined_any _ [p, f] _ (strs_lit _ _ _ _ rfl rfl _ _ (by simp)) h).mono ?_
  rintro e w1 ⟨rfl, hk⟩
  go_wp2_with fail
  go_ret
  exact ⟨rfl, ((kept_alloc _ _).trans (kept_alloc _ _)).trans hk⟩
set_option maxRecDepth 100000 in
set_option maxHeartbeats 800000 in
theorem rshort_any (f g p s : Bs) (w : World) (h : bulk [p, f] ≤ 100000000) :
    Calls Tryd.prog 21 #[persV f g p s] w fun e w' => e = .returned (.string (bs (joinedL [p, f]))) ∧ Kept w w' := by
  go_enter Tryd.func21, Tryd.ntmps21
  go_wp2_with fail
  refine (rjoined_any _ [p, f] _ (strs_lit _ _ _ _ rfl rfl _ _ (by simp)) h).mono ?_
  rintro e w1 ⟨rfl, rfl⟩
  go_wp2_with fail
  go_ret
  exact ⟨rfl, (kept_alloc _ _).trans (kept_alloc _ _)⟩
end Go.Proofs.YtflpkadknljpbaaDoor
