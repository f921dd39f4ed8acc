/- Plain law: indices of texts, sorted by insertion under a collation. No condition. -/
import Derived.Test.YtpfbdgcgpghifaaGreatDoorK21
import Derived.Test.YtpfbdgcgpghifaaGreatDoorK15
import Derived.Test.YtpfbdgcgpghifaaGreatDoorK11

set_option linter.all false
namespace Go.Proofs.YtpfbdgcgpghifaaGreatDoor
open Go.RowKit

def txt (l : List Bs) (i : Nat) : Bs := l.getD i []
def ltC (c : ColT) (l : List Bs) (i k : Nat) : Bool := decide (cmpC c (txt l i) (txt l k) < 0)
/-- Where i is put among indices that are sorted. -/
def atC (c : ColT) (l : List Bs) (i : Nat) (out : List Nat) : Nat := out.length - (out.reverse.takeWhile (ltC c l i)).length
def insC (c : ColT) (l : List Bs) (out : List Nat) (i : Nat) : List Nat := out.take (atC c l i out) ++ i :: out.drop (atC c l i out)
def sortN (c : ColT) (l : List Bs) (n : Nat) : List Nat := (List.range n).foldl (insC c l) []
def sortC (c : ColT) (l : List Bs) : List Nat := sortN c l l.length
theorem sortN_succ (c : ColT) (l : List Bs) (n : Nat) : sortN c l (n + 1) = insC c l (sortN c l n) n := by
  unfold sortN
  rw [List.range_succ, List.foldl_append]; rfl
theorem atC_le (c : ColT) (l : List Bs) (i : Nat) (out : List Nat) : atC c l i out ≤ out.length := by unfold atC; omega
theorem insC_perm (c : ColT) (l : List Bs) (out : List Nat) (i : Nat) : (insC c l out i).Perm (i :: out) := by
  unfold insC
  have h := List.perm_middle (a := i) (l₁ := out.take (atC c l i out)) (l₂ := out.drop (atC c l i out))
  rwa [List.take_append_drop] at h
theorem sortN_perm (c : ColT) (l : List Bs) : ∀ n, (sortN c l n).Perm (List.range n)
  | 0 => .refl _
  | n + 1 => by
    rw [sortN_succ, List.range_succ]
    refine (insC_perm c l _ n).trans ?_
    refine (List.Perm.cons n (sortN_perm c l n)).trans ?_
    exact (List.perm_append_comm (l₁ := [n]) (l₂ := List.range n))
theorem sortN_len (c : ColT) (l : List Bs) (n : Nat) : (sortN c l n).length = n := by
  rw [(sortN_perm c l n).length_eq, List.length_range]
theorem sortN_mem (c : ColT) (l : List Bs) (n i : Nat) (h : i ∈ sortN c l n) : i < n := by
  have := (sortN_perm c l n).mem_iff.1 h
  simpa using this
/-- The place, found from behind: what the loops count. -/
theorem atC_stop (c : ColT) (l : List Bs) (i : Nat) (out : List Nat) (a : Nat) (ha : a ≤ out.length) (h1 : ∀ k ∈ out.drop a, ltC c l i k = true) (h2 : ∀ h : 0 < a, ltC c l i (out[a - 1]'(by omega)) = false) : atC c l i out = a := by
  unfold atC
  have e : out.reverse = (out.drop a).reverse ++ (out.take a).reverse := by
    rw [← List.reverse_append, List.take_append_drop]
  rw [e, List.takeWhile_append_of_pos (fun k hk => h1 k (List.mem_reverse.1 hk))]
  have e2 : (out.take a).reverse.takeWhile (ltC c l i) = [] := by
    rcases Nat.eq_zero_or_pos a with rfl | hp
    · simp
    · have e3 : out.take a = out.take (a - 1) ++ [out[a - 1]'(by omega)] := by
        have := List.take_succ_eq_append_getElem (l := out) (i := a - 1) (by omega)
        rwa [Nat.sub_add_cancel hp] at this
      rw [e3, List.reverse_append]
      simp [h2 hp]
  rw [e2]
  simp
  omega
theorem atC_parts_n (c : ColT) (l : List Bs) (i : Nat) : ∀ (n : Nat) (out : List Nat), out.length = n → (∀ k ∈ out.drop (atC c l i out), ltC c l i k = true) ∧ ∀ k, 0 < atC c l i out → out[atC c l i out - 1]? = some k → ltC c l i k = false := by
  intro n
  induction n with
  | zero =>
    intro out hn
    obtain rfl := List.length_eq_zero_iff.1 hn
    exact ⟨by simp, fun k h => by simp [atC] at h⟩
  | succ n ih =>
    intro out hn
    obtain ⟨o, x, rfl⟩ : ∃ o x, out = o ++ [x] := ⟨out.dropLast, out.getLast (by intro q; subst q; cases hn), (List.dropLast_concat_getLast _).symm⟩
    have hl : o.length = n := by simpa using hn
    cases hx : ltC c l i x
    · have e : atC c l i (o ++ [x]) = o.length + 1 := by
        unfold atC
        rw [List.reverse_append]
        simp [hx]
      rw [e]
      refine ⟨by simp, fun k _ hk => ?_⟩
      simp at hk
      subst hk; exact hx
    · have e : atC c l i (o ++ [x]) = atC c l i o := by
        unfold atC
        rw [List.reverse_append]
        simp [hx]
      obtain ⟨h1, h2⟩ := ih o hl
      have hle := atC_le c l i o
      rw [e]
      refine ⟨fun k hk => ?_, fun k h hk => ?_⟩
      · rw [List.drop_append_of_le_length hle] at hk
        rcases List.mem_append.1 hk with q | q
        · exact h1 k q
        · simp at q; subst q; exact hx
      · rw [List.getElem?_append_left (by omega)] at hk
        exact h2 k h hk
theorem atC_parts (c : ColT) (l : List Bs) (i : Nat) (out : List Nat) : (∀ k ∈ out.drop (atC c l i out), ltC c l i k = true) ∧ ∀ k, 0 < atC c l i out → out[atC c l i out - 1]? = some k → ltC c l i k = false := atC_parts_n c l i _ out rfl
def LeC (c : ColT) (l : List Bs) (a b : Nat) : Prop := cmpC c (txt l a) (txt l b) ≤ 0
theorem insC_sorted (c : ColT) (l : List Bs) (out : List Nat) (i : Nat) (h : out.Pairwise (LeC c l)) : (insC c l out i).Pairwise (LeC c l) := by
  obtain ⟨h1, h2⟩ := atC_parts c l i out
  have hle := atC_le c l i out
  unfold insC
  generalize atC c l i out = a at *
  have hp := h
  rw [← List.take_append_drop a out, List.pairwise_append] at hp
  obtain ⟨p1, p2, p3⟩ := hp
  have hd : ∀ k ∈ out.drop a, LeC c l i k := fun k hk => by
    have := h1 k hk
    unfold ltC at this
    simp only [decide_eq_true_eq] at this
    exact Int.le_of_lt this
  have ht : ∀ k ∈ out.take a, LeC c l k i := fun k hk => by
    have hpos : 0 < a := by
      rcases Nat.eq_zero_or_pos a with rfl | q
      · simp at hk
      · exact q
    have hz := h2 _ hpos (List.getElem?_eq_getElem (by omega))
    unfold ltC at hz
    simp only [decide_eq_false_iff_not] at hz
    have hl : LeC c l (out[a - 1]'(by omega)) i := by
      unfold LeC
      have := cmpC_neg c (txt l i) (txt l (out[a - 1]'(by omega)))
      omega
    have e3 : out.take a = out.take (a - 1) ++ [out[a - 1]'(by omega)] := by
      have := List.take_succ_eq_append_getElem (l := out) (i := a - 1) (by omega)
      rwa [Nat.sub_add_cancel hpos] at this
    rw [e3] at hk p1
    rcases List.mem_append.1 hk with q | q
    · have := (List.pairwise_append.1 p1).2.2 k q (out[a - 1]'(by omega)) (by simp)
      exact cmpC_trans c _ _ _ this hl
    · simp at q; rw [q]; exact hl
  rw [List.pairwise_append]
  refine ⟨p1, List.pairwise_cons.2 ⟨hd, p2⟩, fun x hx y hy => ?_⟩
  rcases List.mem_cons.1 hy with rfl | hy
  · exact ht x hx
  · exact p3 x hx y hy
theorem sortN_sorted (c : ColT) (l : List Bs) : ∀ n, (sortN c l n).Pairwise (LeC c l)
  | 0 => .nil
  | n + 1 => by rw [sortN_succ]; exact insC_sorted c l _ n (sortN_sorted c l n)
/-- Neighbours in what is sorted. -/
theorem sortC_next (c : ColT) (l : List Bs) (i : Nat) (h : i + 1 < (sortC c l).length) : cmpC c (txt l ((sortC c l)[i]'(by omega))) (txt l (sortC c l)[i + 1]) ≤ 0 :=
  (List.pairwise_iff_getElem.1 (sortN_sorted c l l.length)) i (i + 1) (by unfold sortC at h; omega) h (by omega)
end Go.Proofs.YtpfbdgcgpghifaaGreatDoor

/- The page's examples of collations, in plain Lean. No condition. -/
set_option linter.all false
namespace Go.Proofs.YtpfbdgcgpghifaaGreatDoor
open Go.RowKit

theorem ptsF_ascii (l : Bs) (h : ∀ b ∈ l, b.toNat < 128) : ∀ (n k : Nat), l.length - k ≤ n → ptsF l k = (l.drop k).map fun b => (b.toNat : Int)
  | 0, k, hk => by rw [ptsF_out l k (by omega), List.drop_of_length_le (by omega)]; rfl
  | n + 1, k, hk => by
    by_cases q : k < l.length
    · have ha : at8 l k < 128 := by rw [at8_get l k q]; have := h l[k] (List.getElem_mem q); omega
      rw [ptsF_in l k q, dec_ascii l k ha, List.drop_eq_getElem_cons q, List.map_cons, at8_get l k q]
      have := ptsF_ascii l h n (k + 1) (by omega)
      simp only [Int.toNat_one]
      rw [this]
    · rw [ptsF_out l k q, List.drop_of_length_le (by omega)]; rfl
theorem pts_ascii (l : Bs) (h : ∀ b ∈ l, b.toNat < 128) : ptsL l = l.map fun b => (b.toNat : Int) := by
  rw [← ptsF_zero, ptsF_ascii l h _ 0 (Nat.le_refl _), List.drop_zero]
theorem rule_ascii (l : Bs) (h0 : 1 ≤ l.length) (h1 : l.length ≤ 200) (h : ∀ b ∈ l, 33 ≤ b.toNat ∧ b.toNat < 127) : ruleB l = true := by
  unfold ruleB
  have hv : validB (bs l) = true := line_vis l (line_asc l (fun b hb => by have := h b hb; omega))
  have hn : l.any (fun b => b == 32 || b == 10) = false := by
    rw [List.any_eq_false]
    intro b hb
    have := h b hb
    have e1 : (b == 32) = false := by rw [beq_eq_false_iff_ne]; rintro rfl; simp at this
    have e2 : (b == 10) = false := by rw [beq_eq_false_iff_ne]; rintro rfl; simp at this
    rw [e1, e2]; simp
  rw [hv, hn, decide_eq_true h0, decide_eq_true h1]; rfl
def eaA : Bs := [97, 65]
def ebB : Bs := [98, 66]
def eb : Bs := [98]
def ea : Bs := [97]
def ex : Bs := [120]
def eaa : Bs := [97, 97]
theorem r_aA : ruleB [97, 65] = true := rule_ascii _ (by decide) (by decide) (by decide)
theorem r_bB : ruleB [98, 66] = true := rule_ascii _ (by decide) (by decide) (by decide)
theorem r_A : ruleB [65] = true := rule_ascii _ (by decide) (by decide) (by decide)
theorem r_a : ruleB [97] = true := rule_ascii _ (by decide) (by decide) (by decide)
theorem r_x : ruleB [120] = true := rule_ascii _ (by decide) (by decide) (by decide)
theorem r_aa : ruleB [97, 97] = true := rule_ascii _ (by decide) (by decide) (by decide)
theorem p_nil : ptsL [] = [] := pts_ascii _ (by decide)
theorem p_aA : ptsL [97, 65] = [97, 65] := pts_ascii _ (by decide)
theorem p_bB : ptsL [98, 66] = [98, 66] := pts_ascii _ (by decide)
theorem p_A : ptsL [65] = [65] := pts_ascii _ (by decide)
theorem p_a : ptsL [97] = [97] := pts_ascii _ (by decide)
theorem p_b : ptsL [98] = [98] := pts_ascii _ (by decide)
theorem p_c : ptsL [99] = [99] := pts_ascii _ (by decide)
theorem p_x : ptsL [120] = [120] := pts_ascii _ (by decide)
theorem p_aa : ptsL [97, 97] = [97, 97] := pts_ascii _ (by decide)
theorem p_Ab : ptsL [65, 98] = [65, 98] := pts_ascii _ (by decide)
/-- What the first example describes. -/
def cEx : ColT := ⟨[([120], [97, 97])], [[97, 65], [98, 66]], []⟩
def cAB : ColT := ⟨[], [[97, 65], [98]], []⟩
def cA1 : ColT := ⟨[], [[97]], []⟩
def cBA : ColT := ⟨[], [[98], [97]], []⟩
def cTw : ColT := ⟨[], [[97, 65], [65]], []⟩
theorem ex_order : colE ⟨[], [[97, 65], [98, 66]], []⟩ = 0 := by
  simp [colE, ordC, rnkC, ignC, addA, r_aA, r_bB, p_aA, p_bB]
theorem ex_ok : colE cEx = 0 := by
  simp [colE, cEx, ordC, rnkC, ignC, addA, r_aA, r_bB, r_x, r_aa, p_aA, p_bB, p_x, p_aa]
theorem ex_a1 : colE cA1 = 0 := by
  simp [colE, cA1, ordC, rnkC, ignC, addA, r_a, p_a]
theorem ex_tw : colE cTw = 7 := by
  simp [colE, cTw, ordC, addA, r_aA, r_A, p_aA, p_A]
def tEx : Bs := [111, 114, 100, 101, 114, 32, 97, 65, 32, 98, 66, 10, 97, 115, 32, 120, 32, 97, 97]
theorem ex_read : colR (linesL tEx) 0 zeroC = (cEx, 0, 0) := by
  have e1 : linesL tEx = [[111, 114, 100, 101, 114, 32, 97, 65, 32, 98, 66], [97, 115, 32, 120, 32, 97, 97]] := by decide +kernel
  have e2 : wordsB [111, 114, 100, 101, 114, 32, 97, 65, 32, 98, 66] = [[111, 114, 100, 101, 114], [97, 65], [98, 66]] := by decide +kernel
  have e3 : wordsB [97, 115, 32, 120, 32, 97, 97] = [[97, 115], [120], [97, 97]] := by decide +kernel
  rw [e1]
  rw [colR_step _ _ 0 zeroC ⟨[], [[97, 65], [98, 66]], []⟩ _ e2 (by simp) (by simp [addW, kOrder, zeroC]) ex_order]
  rw [colR_step _ _ 1 _ cEx _ e3 (by simp) (by simp [addW, kOrder, kAs, cEx]) ex_ok]
  rfl
theorem ex_no : colR (linesL [97, 115, 32, 120]) 0 zeroC = (zeroC, 1, 5) := by
  have e1 : linesL [97, 115, 32, 120] = [[97, 115, 32, 120]] := by decide +kernel
  have e2 : wordsB [97, 115, 32, 120] = [[97, 115], [120]] := by decide +kernel
  rw [e1, colR, e2, if_neg (by simp)]
  have e3 : addW zeroC [[97, 115], [120]] = none := by simp [addW, kOrder, kIgnore]
  rw [e3]; rfl
theorem ex_text : colS cA1 = [111, 114, 100, 101, 114, 32, 97, 10] := by
  rw [colS, ex_a1, if_pos rfl]; decide +kernel
theorem ex_keyAb : keyI cAB [65, 98] = [1, 2] := by
  simp [keyI, keyI1, valI, rankI, grpI, List.findIdx?_cons, cAB, p_nil, p_aA, p_b, p_Ab]
theorem ex_keyc : keyI cAB [99] = [102] := by
  simp [keyI, keyI1, valI, rankI, grpI, List.findIdx?_cons, cAB, p_nil, p_aA, p_b, p_c]
theorem ex_keyA : keyI cAB [65] = [1] := by
  simp [keyI, keyI1, valI, rankI, grpI, List.findIdx?_cons, cAB, p_nil, p_aA, p_A]
theorem ex_keya : keyI cAB [97] = [1] := by
  simp [keyI, keyI1, valI, rankI, grpI, List.findIdx?_cons, cAB, p_nil, p_aA, p_a]
theorem ex_cmp : cmpC cAB [65] [97] = -1 := by
  unfold cmpC
  rw [ex_keyA, ex_keya, if_neg (by decide)]; decide
theorem ex_ini : iniC cAB (ptsL [65, 98]) = [97] := by
  rw [p_Ab]
  simp [iniC, iniC.iniG, valI, grpI, List.findIdx?_cons, cAB, p_nil, p_aA]
  decide +kernel
theorem ex_kb : keyI cBA [97] = [2] := by
  simp [keyI, keyI1, valI, rankI, grpI, List.findIdx?_cons, cBA, p_nil, p_a, p_b]
theorem ex_kc : keyI cBA [98] = [1] := by
  simp [keyI, keyI1, valI, rankI, grpI, List.findIdx?_cons, cBA, p_nil, p_b]
theorem ex_sort : sortC cBA [[97], [98]] = [1, 0] := by
  have h : ltC cBA [[97], [98]] 1 0 = true := by
    unfold ltC cmpC txt
    simp [ex_kb, ex_kc, cmpI]
  unfold sortC sortN
  simp [List.range, List.range.loop, insC, atC, h]
end Go.Proofs.YtpfbdgcgpghifaaGreatDoor
