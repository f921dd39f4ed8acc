/- locale.Term at the two keys that lists use, in any language; locale.List. Conditions: lengths. -/
import Derived.Test.YtflpkadknljpbaaDoorWordsL
import Derived.Test.YtflpkadknljpbaaDoorPclean
import Derived.Deep.RegionWith
set_option linter.all false
namespace Go.Proofs.YtflpkadknljpbaaDoor
open Go.RowKit

/-- The word for 'and' in a language, and for 'others'. -/
def andOf (l : Bs) : Option Bs := if l = lEn then some [97, 110, 100] else if l = lDe then some [117, 110, 100] else if l = lFr then some [101, 116] else if l = lEs then some [121] else none
def othersOf (l : Bs) : Option Bs := if l = lEn then some [111, 116, 104, 101, 114, 115] else if l = lDe then some [97, 110, 100, 101, 114, 101] else if l = lFr then some [97, 117, 116, 114, 101, 115] else if l = lEs then some [111, 116, 114, 111, 115] else none
theorem beq_no {l m : Bs} (h : ¬ l = m) : (l == m) = false := by simpa using h

theorem term_and (l : Bs) (n : Int) (w : World) : Calls Tryd.prog 61 #[.string (bs l), .string (bs [97, 110, 100]), .int .i64 n] w fun e w' => e = .returned (.tuple #[.string (bs ((andOf l).getD [])), .bool (andOf l).isSome]) ∧ Kept w w' := by
  unfold andOf
  by_cases h1 : l = lEn
  · rw [if_pos h1, h1]; exact term_en_and n w
  by_cases h2 : l = lDe
  · rw [if_neg h1, if_pos h2, h2]; exact term_de_and n w
  by_cases h3 : l = lFr
  · rw [if_neg h1, if_neg h2, if_pos h3, h3]; exact term_fr_and n w
  by_cases h4 : l = lEs
  · rw [if_neg h1, if_neg h2, if_neg h3, if_pos h4, h4]; exact term_es_and n w
  · rw [if_neg h1, if_neg h2, if_neg h3, if_neg h4]; exact term_no l _ n w (beq_no h1) (beq_no h2) (beq_no h3) (beq_no h4)
theorem term_others (l : Bs) (n : Int) (w : World) : Calls Tryd.prog 61 #[.string (bs l), .string (bs [111, 116, 104, 101, 114, 115]), .int .i64 n] w fun e w' => e = .returned (.tuple #[.string (bs ((othersOf l).getD [])), .bool (othersOf l).isSome]) ∧ Kept w w' := by
  unfold othersOf
  by_cases h1 : l = lEn
  · rw [if_pos h1, h1]; exact term_en_others n w
  by_cases h2 : l = lDe
  · rw [if_neg h1, if_pos h2, h2]; exact term_de_others n w
  by_cases h3 : l = lFr
  · rw [if_neg h1, if_neg h2, if_pos h3, h3]; exact term_fr_others n w
  by_cases h4 : l = lEs
  · rw [if_neg h1, if_neg h2, if_neg h3, if_pos h4, h4]; exact term_es_others n w
  · rw [if_neg h1, if_neg h2, if_neg h3, if_neg h4]; exact term_no l _ n w (beq_no h1) (beq_no h2) (beq_no h3) (beq_no h4)

def sepL : Bs := [44, 32]
/-- An enumeration. -/
def listL (l : Bs) (xs : List Bs) : Bs := if (andOf l).isSome = false ∨ xs.length < 2 then Lib.join xs sepL else Lib.join xs.dropLast sepL ++ [32] ++ (andOf l).getD [] ++ [32] ++ xs.getLastD []
theorem andOf_len (l : Bs) : ((andOf l).getD []).length ≤ 3 := by
  unfold andOf
  by_cases h1 : l = lEn
  · rw [if_pos h1]; decide
  by_cases h2 : l = lDe
  · rw [if_neg h1, if_pos h2]; decide
  by_cases h3 : l = lFr
  · rw [if_neg h1, if_neg h2, if_pos h3]; decide
  by_cases h4 : l = lEs
  · rw [if_neg h1, if_neg h2, if_neg h3, if_pos h4]; decide
  · rw [if_neg h1, if_neg h2, if_neg h3, if_neg h4]; decide

theorem slice_strs {w : World} {a : Option Addr} {c : Nat} {xs : List Bs} (h : Strs w (.slice a xs.length c) xs) (n : Nat) (hn : n ≤ xs.length) : Strs w (.slice a n c) (xs.take n) := by
  obtain ⟨a', c', hv, hc, h3⟩ := h
  obtain ⟨rfl, _, rfl⟩ := Value.slice.inj hv
  refine ⟨a, c, by simp; omega, by simp; omega, fun q => ?_⟩
  obtain ⟨g, o, ha, hg, hcell⟩ := h3 (by simp at q; omega)
  refine ⟨g, o, ha, hg, fun j x hx => hcell j x ?_⟩
  rw [List.getElem?_take] at hx
  split at hx
  · exact hx
  · cases hx

set_option maxRecDepth 100000 in
set_option maxHeartbeats 3200000 in
theorem llist_any (l : Bs) (v : Value) (xs : List Bs) (w : World) (hv : Strs w v xs) (hN : xs.length ≤ 1000000) (hlen : (Lib.join xs sepL).length ≤ 10000000) (hlen2 : (Lib.join xs.dropLast sepL).length ≤ 10000000) (hlast : (xs.getLastD []).length ≤ 10000000) :
    Calls Tryd.prog 30 #[.string (bs l), v] w fun e w' => e = .returned (.string (bs (listL l xs))) ∧ Kept w w' := by
  have HL : Hid (listL l xs = if (andOf l).isSome = false ∨ xs.length < 2 then Lib.join xs sepL else Lib.join xs.dropLast sepL ++ [32] ++ (andOf l).getD [] ++ [32] ++ xs.getLastD []) := rfl
  have HT := Lib.hid (fun w => term_and l 1 w)
  have hal := andOf_len l
  have HV := Lib.hid hv
  have HSP : Hid (sepL = [44, 32]) := rfl
  generalize (andOf l).getD [] = an at *
  generalize (andOf l).isSome = ok at *
  obtain ⟨a, c, rfl, hc, h3⟩ := hv
  have H3 := Lib.hid h3
  clear h3
  cases ok
  · go_enter Tryd.func30, Tryd.ntmps30
    go_wp2_with fail
    refine (HT.out _).mono ?_
    rintro e w1 ⟨rfl, hk1⟩
    have HK1 := Lib.hid hk1
    clear hk1
    go_wp2_with fail
    rw [← HSP.out]
    refine (join_any _ xs _ _ (HV.out.kept HK1.out) (by omega) (by omega)).mono ?_
    rintro e w2 ⟨rfl, hk2⟩
    have HK2 := Lib.hid (HK1.out.trans hk2)
    clear hk2
    go_wp2_with fail
    go_ret
    exact ⟨ret_bs (by rw [HL.out, if_pos (.inl (by first | rfl | trivial))]), HK2.out⟩
  by_cases h2 : xs.length < 2
  · go_enter Tryd.func30, Tryd.ntmps30
    go_wp2_with fail
    refine (HT.out _).mono ?_
    rintro e w1 ⟨rfl, hk1⟩
    have HK1 := Lib.hid hk1
    clear hk1
    go_wp2_with fail
    rw [← HSP.out]
    refine (join_any _ xs _ _ (HV.out.kept HK1.out) (by omega) (by omega)).mono ?_
    rintro e w2 ⟨rfl, hk2⟩
    have HK2 := Lib.hid (HK1.out.trans hk2)
    clear hk2
    go_wp2_with fail
    go_ret
    exact ⟨ret_bs (by rw [HL.out, if_pos (.inr h2)]), HK2.out⟩
  · obtain ⟨g, o, rfl, hg, hcell⟩ := H3.out (by omega)
    have hx : xs[xs.length - 1]? = some (xs.getLastD []) := by
      rw [List.getLastD_eq_getLast?, List.getLast?_eq_getElem?, List.getElem?_eq_getElem (by omega)]; rfl
    have hcl := hcell (xs.length - 1) _ hx
    have HE : Hid (listL l xs = Lib.join xs.dropLast sepL ++ [32] ++ an ++ [32] ++ xs.getLastD []) := by show _ = _; rw [HL.out, if_neg (by simp; omega)]
    have HD : Hid (xs.dropLast = xs.take (xs.length - 1)) := by show _ = _; rw [List.dropLast_eq_take]
    generalize xs.getLastD [] = la at *
    have HC := Lib.hid hcl
    clear hcl hx hcell
    go_enter Tryd.func30, Tryd.ntmps30
    go_wp2_with fail
    refine (HT.out _).mono ?_
    rintro e w1 ⟨rfl, hk1⟩
    have HK1 := Lib.hid hk1
    have c1 : w1.cell? ⟨g, o + (xs.length - 1), none⟩ = some (.string (bs la)) := (hk1.cell (p := ⟨g, o + (xs.length - 1), none⟩) hg).trans HC.out
    have hg1 : g < w1.heap.size := by have := hk1.size; omega
    clear hk1
    go_wp2_with fail
    have HJ : Hid (∀ w2, Kept w1 w2 → Calls Tryd.prog 62 #[.slice (some ⟨g, o, none⟩) (xs.length - 1) c, .string (bs [44, 32])] w2 fun e w' => e = .returned (.string (bs (Lib.join xs.dropLast sepL))) ∧ Kept w2 w') := by
      intro w2 hk
      have hst := slice_strs (HV.out.kept (HK1.out.trans hk)) (xs.length - 1) (by omega)
      rw [← HD.out] at hst
      exact join_any _ xs.dropLast sepL w2 hst (by simp; omega) (by omega)
    have HC2 : Hid (∀ {w2 : World}, Kept w1.drew w2 → w2.cell? ⟨g, o + (xs.length - 1), none⟩ = some (.string (bs la)) ∧ g < w2.heap.size ∧ Kept w w2) := by
      intro w2 hk
      have hk : Kept w1 w2 := (kept_drewN w1 1).trans hk
      exact ⟨(hk.cell (p := ⟨g, o + (xs.length - 1), none⟩) hg1).trans c1, by have := hk.size; omega, HK1.out.trans hk⟩
    generalize hjl : Lib.join xs.dropLast sepL = jl at *
    have hsum : IntKind.i64.wrap ((xs.length : Int) - 1) = (xs.length : Int) - 1 := IntWalk.i64_in _ (by omega)
    go_region_with (go_at_call 62; refine (HJ.out _ (kept_drewN w1 1)).mono ?_; rintro e w2 ⟨rfl, hk2⟩; obtain ⟨q1, q2, q3⟩ := HC2.out hk2; have HQ := Lib.hid q3; clear q3 hk2)
    all_goals
      go_wp2_with fail
      go_ret
      exact ⟨ret_bs (by rw [HE.out]; simp), HQ.out⟩
end Go.Proofs.YtflpkadknljpbaaDoor
