/- The reference's enumeration, and its list of persons. Conditions: lengths. -/
import Derived.Test.YtflpkadknljpbaaDoorRloc
import Derived.Test.YtflpkadknljpbaaDoorPList
import Derived.Test.YtflpkadknljpbaaDoorRini2
set_option linter.all false
namespace Go.Proofs.YtflpkadknljpbaaDoor
open Go.RowKit

/-- What the enumeration has gathered behind k texts. -/
def accR (l : Bs) (xs : List Bs) (k : Nat) : Bs := if k = xs.length then listL l xs else Lib.join (xs.take k) sepL
theorem accR_zero (l : Bs) (xs : List Bs) : accR l xs 0 = [] := by
  unfold accR
  by_cases h : 0 = xs.length
  · rw [if_pos h]
    obtain rfl : xs = [] := List.length_eq_zero_iff.1 h.symm
    unfold listL; rw [if_pos (.inr (by simp)), Lib.join_nil]
  · rw [if_neg h]; simp [Lib.join_nil]
theorem join_step (xs : List Bs) (k : Nat) (x : Bs) (h : xs[k]? = some x) : Lib.join (xs.take (k + 1)) sepL = (if k = 0 then [] else Lib.join (xs.take k) sepL ++ sepL) ++ x := by
  obtain ⟨hk, rfl⟩ := List.getElem?_eq_some_iff.1 h
  rw [List.take_succ_eq_append_getElem hk, join_snoc2]
  by_cases q : k = 0
  · subst q; simp
  · rw [if_neg q, if_neg]
    intro e
    have := congrArg List.length e
    rw [List.length_take, List.length_nil] at this; omega
theorem accR_before (l : Bs) (xs : List Bs) (k : Nat) (h : k < xs.length) : accR l xs k = Lib.join (xs.take k) sepL := by unfold accR; rw [if_neg (by omega)]
/-- A text that is not the last of several in a known language. -/
theorem accR_plain (l : Bs) (xs : List Bs) (k : Nat) (x : Bs) (h : xs[k]? = some x) (hp : ¬ (0 < k ∧ k = xs.length - 1 ∧ (andOf l).isSome = true)) : accR l xs (k + 1) = (if k = 0 then [] else accR l xs k ++ sepL) ++ x := by
  have hk := (List.getElem?_eq_some_iff.1 h).1
  rw [accR_before l xs k hk, ← join_step xs k x h]
  by_cases q : k + 1 = xs.length
  · have e : accR l xs (k + 1) = listL l xs := by unfold accR; rw [if_pos q]
    rw [e, List.take_of_length_le (by omega)]
    unfold listL
    rw [if_pos]
    by_cases q0 : 0 < k
    · left
      cases hs : (andOf l).isSome
      · rfl
      · exact absurd ⟨q0, by omega, hs⟩ hp
    · right; omega
  · unfold accR; rw [if_neg q]
theorem accR_last (l : Bs) (xs : List Bs) (k : Nat) (x : Bs) (h : xs[k]? = some x) (h0 : 0 < k) (h1 : k = xs.length - 1) (hs : (andOf l).isSome = true) : accR l xs (k + 1) = accR l xs k ++ [32] ++ (andOf l).getD [] ++ [32] ++ x := by
  have hk := (List.getElem?_eq_some_iff.1 h).1
  rw [accR_before l xs k hk]
  have e : accR l xs (k + 1) = listL l xs := by unfold accR; rw [if_pos (by omega)]
  rw [e]
  unfold listL
  rw [if_neg (by rw [hs]; simp; omega)]
  have e1 : xs.dropLast = xs.take k := by rw [List.dropLast_eq_take, h1]
  have e2 : xs.getLastD [] = x := by
    rw [List.getLastD_eq_getLast?, List.getLast?_eq_getElem?, ← h1, h]; rfl
  rw [e1, e2]
theorem accR_len (l : Bs) (xs : List Bs) (m : Nat) (h : ∀ x ∈ xs, x.length ≤ m) (k : Nat) (hk : k < xs.length) : (accR l xs k).length ≤ xs.length * (m + 2) := by
  rw [accR_before l xs k hk]
  have h1 := join_max sepL m (xs.take k) (fun x hx => h x (List.mem_of_mem_take hx))
  have h2 : (xs.take k).length ≤ xs.length := by simp; omega
  have := Nat.mul_le_mul_right (m + 2) h2
  have e : sepL.length = 2 := rfl
  rw [e] at h1
  omega

set_option maxRecDepth 100000 in
set_option maxHeartbeats 3200000 in
theorem rllist_any (l : Bs) (v : Value) (xs : List Bs) (w : World) (hv : Strs w v xs) (hN : xs.length ≤ 900) (hm : ∀ x ∈ xs, x.length ≤ 10004) :
    Calls Tryd.prog 64 #[.string (bs l), v] w fun e w' => e = .returned (.string (bs (listL l xs))) ∧ Kept w w' := by
  have HT := Lib.hid (fun w => rterm_and l 1 w)
  have hal := andOf_len l
  have HM := Lib.hid hm
  have HV := Lib.hid hv
  have HZ := Lib.hid (accR_zero l xs)
  have HP := Lib.hid (accR_plain l xs)
  have HL := Lib.hid (accR_last l xs)
  have HLEN := Lib.hid (fun k hk => accR_len l xs 10004 hm k hk)
  have HEND : Hid (accR l xs xs.length = listL l xs) := by show _ = _; unfold accR; rw [if_pos rfl]
  have HSP : Hid (sepL = [44, 32]) := rfl
  clear hm
  generalize (andOf l).getD [] = an at *
  generalize (andOf l).isSome = ok at *
  obtain ⟨a, c, rfl, hc, h3⟩ := hv
  clear h3
  go_enter Tryd.func64, Tryd.ntmps64
  go_wp2_with fail
  refine (HT.out _).mono ?_
  rintro e w1 ⟨rfl, hk1⟩
  have HK1 := Lib.hid hk1
  clear hk1
  go_wp2_with fail
  simp only [mk_bs]
  go_loop [7, 8] (fun s i => ∃ k : Nat, k ≤ xs.length ∧ i = .int .i64 k ∧ s = .string (bs (accR l xs k))) (fun _ i => xs.length - (intOf i).toNat)
  case atStart => exact ⟨0, Nat.zero_le _, rfl, by rw [HZ.out]⟩
  case round =>
    obtain ⟨k, hk, rfl, rfl⟩ := hrel
    by_cases hlt : k < xs.length
    · obtain ⟨x, hx⟩ : ∃ x, xs[k]? = some x := ⟨_, List.getElem?_eq_getElem hlt⟩
      obtain ⟨a', c', hv', hc', h3⟩ := HV.out.kept HK1.out
      obtain ⟨rfl, hdead, rfl⟩ := Value.slice.inj hv'
      clear hdead hc'
      obtain ⟨g, o, rfl, hg, hcc⟩ := h3 (by omega)
      have c0 := hcc k x hx
      have hxm := HM.out x (List.mem_of_getElem? hx)
      have hjl := HLEN.out k hlt
      have hjl : (accR l xs k).length ≤ 10000000 := by
        have := Nat.mul_le_mul_right (10004 + 2) hN; omega
      have HPX := Lib.hid (HP.out k x hx)
      have HLX := Lib.hid (HL.out k x hx)
      clear hcc h3 hv' hx
      obtain ⟨nx, HNX⟩ : ∃ nx, Hid (accR l xs (k + 1) = nx) := ⟨_, rfl⟩
      rw [HNX.out] at HPX HLX
      generalize hak : accR l xs k = ak at *
      have HAK := Lib.hid hak
      clear hak
      by_cases h0 : k = 0
      · subst h0
        obtain rfl : ak = [] := HAK.out.symm.trans HZ.out
        have HX : Hid (nx = x) := by show _ = _; rw [HPX.out (by omega)]; simp
        clear HPX HLX
        rw [Nat.add_zero] at c0
        go_wp2_with fail
        go_round
        case rel => exact ⟨1, by omega, by go_num, by rw [HNX.out, HX.out]⟩
        case measure => simp [intOf]; omega
      · have hpos : 0 < k := by omega
        by_cases hl : k = xs.length - 1
        · have hb : ((k : Int) == (xs.length : Int) - 1) = true := by rw [beq_iff_eq]; omega
          cases ok
          · have HX : Hid (nx = ak ++ [44, 32] ++ x) := by show _ = _; rw [HPX.out (by simp), if_neg h0]; rfl
            clear HPX HLX hl h0
            go_wp2_with fail
            go_round
            case rel => exact ⟨k + 1, by omega, by go_num, by rw [HNX.out, HX.out]; simp⟩
            case measure => simp [intOf]; omega
          · have HX : Hid (nx = ak ++ [32] ++ an ++ [32] ++ x) := HLX.out hpos hl rfl
            clear HPX HLX hl h0
            go_wp2_with fail
            go_round
            case rel => exact ⟨k + 1, by omega, by go_num, by rw [HNX.out, HX.out]; simp⟩
            case measure => simp [intOf]; omega
        · have hb : ((k : Int) == (xs.length : Int) - 1) = false := by rw [beq_eq_false_iff_ne]; omega
          have HX : Hid (nx = ak ++ [44, 32] ++ x) := by show _ = _; rw [HPX.out (fun q => hl q.2.1), if_neg h0]; rfl
          clear HPX HLX hl h0
          go_wp2_with fail
          go_round
          case rel => exact ⟨k + 1, by omega, by go_num, by rw [HNX.out, HX.out]; simp⟩
          case measure => simp [intOf]; omega
    · obtain rfl : k = xs.length := by omega
      rw [HEND.out]
      go_wp2_with fail
      go_ret
      exact ⟨rfl, HK1.out⟩
end Go.Proofs.YtflpkadknljpbaaDoor
