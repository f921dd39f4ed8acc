/- Plain law: how texts compare under a collation is a total order. No condition. -/
import Derived.Test.YtpfbdgcgpghifaaGreatDoorK10
import Derived.Lib.Bytealg

set_option linter.all false
namespace Go.Proofs.YtpfbdgcgpghifaaGreatDoor
open Go.RowKit

theorem cmpI_self : ∀ x : List Int, cmpI x x = 0
  | [] => rfl
  | a :: x => by rw [cmpI, if_neg (by omega), if_neg (by omega), cmpI_self x]
theorem cmpI_neg : ∀ x y : List Int, cmpI y x = - cmpI x y
  | [], [] => rfl
  | [], b :: y => rfl
  | a :: x, [] => rfl
  | a :: x, b :: y => by
    rw [cmpI, cmpI]
    by_cases h : a < b
    · rw [if_neg (show ¬ b < a by omega), if_pos h, if_pos h]; rfl
    · by_cases h2 : b < a
      · rw [if_pos h2, if_neg h, if_pos h2]
      · rw [if_neg h2, if_neg h, if_neg h, if_neg h2, cmpI_neg x y]
theorem cmpI_range : ∀ x y : List Int, cmpI x y = -1 ∨ cmpI x y = 0 ∨ cmpI x y = 1
  | [], [] => .inr (.inl rfl)
  | [], b :: y => .inl rfl
  | a :: x, [] => .inr (.inr rfl)
  | a :: x, b :: y => by
    rw [cmpI]
    split
    · exact .inl rfl
    split
    · exact .inr (.inr rfl)
    · exact cmpI_range x y
theorem cmpI_zero : ∀ x y : List Int, cmpI x y = 0 → x = y
  | [], [], _ => rfl
  | [], b :: y, h => by cases h
  | a :: x, [], h => by cases h
  | a :: x, b :: y, h => by
    rw [cmpI] at h
    split at h
    · cases h
    split at h
    · cases h
    · rw [cmpI_zero x y h, show a = b from by omega]
theorem cmpI_trans : ∀ x y z : List Int, cmpI x y ≤ 0 → cmpI y z ≤ 0 → cmpI x z ≤ 0
  | [], _, [], _, _ => by simp [cmpI]
  | [], _, c :: z, _, _ => by simp [cmpI]
  | a :: x, [], _, h, _ => by simp [cmpI] at h
  | a :: x, b :: y, [], _, h => by simp [cmpI] at h
  | a :: x, b :: y, c :: z, h1, h2 => by
    rw [cmpI] at h1 h2 ⊢
    by_cases p1 : a < b
    · by_cases p2 : b < c
      · rw [if_pos (by omega)]; omega
      · rw [if_neg p2] at h2
        by_cases p3 : c < b
        · rw [if_pos p3] at h2; omega
        · rw [if_pos (by omega)]; omega
    · rw [if_neg p1] at h1
      by_cases p4 : b < a
      · rw [if_pos p4] at h1; omega
      · rw [if_neg p4] at h1
        by_cases p2 : b < c
        · rw [if_pos (by omega)]; omega
        · rw [if_neg p2] at h2
          by_cases p3 : c < b
          · rw [if_pos p3] at h2; omega
          · rw [if_neg p3] at h2
            rw [if_neg (by omega), if_neg (by omega)]
            exact cmpI_trans x y z h1 h2
theorem bytes_inj : ∀ a b : Bs, (a.map fun x => (x.toNat : Int)) = (b.map fun x => (x.toNat : Int)) → a = b
  | [], [], _ => rfl
  | [], b :: y, h => by cases h
  | a :: x, [], h => by cases h
  | a :: x, b :: y, h => by
    simp only [List.map_cons, List.cons.injEq] at h
    rw [bytes_inj x y h.2, UInt8.toNat_inj.1 (Int.ofNat.inj h.1)]
theorem cmpC_self (c : ColT) (a : Bs) : cmpC c a a = 0 := by unfold cmpC cmpB; rw [cmpI_self, if_neg (by simp), cmpI_self]
theorem cmpC_neg (c : ColT) (a b : Bs) : cmpC c b a = - cmpC c a b := by
  unfold cmpC cmpB
  rw [cmpI_neg (keyI c a) (keyI c b), cmpI_neg (a.map fun x => (x.toNat : Int)) (b.map fun x => (x.toNat : Int))]
  by_cases h : cmpI (keyI c a) (keyI c b) = 0
  · rw [if_neg (by omega), if_neg (by omega)]
  · rw [if_pos (by omega), if_pos (by omega)]
theorem cmpC_zero (c : ColT) (a b : Bs) : cmpC c a b = 0 ↔ a = b := by
  constructor
  · intro h
    unfold cmpC at h
    split at h
    · rename_i q; exact absurd h q
    · exact bytes_inj a b (cmpI_zero _ _ h)
  · rintro rfl; exact cmpC_self c a
theorem cmpC_range (c : ColT) (a b : Bs) : cmpC c a b = -1 ∨ cmpC c a b = 0 ∨ cmpC c a b = 1 := by
  unfold cmpC
  split
  · exact cmpI_range _ _
  · exact cmpI_range _ _
theorem cmpC_trans (c : ColT) (a b d : Bs) (h1 : cmpC c a b ≤ 0) (h2 : cmpC c b d ≤ 0) : cmpC c a d ≤ 0 := by
  unfold cmpC at h1 h2 ⊢
  have t1 := cmpI_trans (keyI c a) (keyI c b) (keyI c d)
  have t2 := cmpI_trans (a.map fun x => (x.toNat : Int)) (b.map fun x => (x.toNat : Int)) (d.map fun x => (x.toNat : Int))
  by_cases k1 : cmpI (keyI c a) (keyI c b) = 0
  · rw [if_neg (by simpa using k1)] at h1
    have e1 := cmpI_zero _ _ k1
    rw [e1]
    by_cases k2 : cmpI (keyI c b) (keyI c d) = 0
    · rw [if_neg (by simpa using k2)] at h2 ⊢
      exact t2 h1 h2
    · rw [if_pos k2] at h2 ⊢
      exact h2
  · rw [if_pos k1] at h1
    by_cases k2 : cmpI (keyI c b) (keyI c d) = 0
    · have e2 := cmpI_zero _ _ k2
      rw [← e2, if_pos k1]
      exact h1
    · rw [if_pos k2] at h2
      have h3 := t1 h1 h2
      by_cases k3 : cmpI (keyI c a) (keyI c d) = 0
      · exfalso
        have e3 := cmpI_zero _ _ k3
        rw [e3] at h1
        have := cmpI_neg (keyI c b) (keyI c d)
        omega
      · rw [if_pos k3]; exact h3
/-- Lists that begin alike compare as their rests do. -/
theorem cmpI_app : ∀ p x y : List Int, cmpI (p ++ x) (p ++ y) = cmpI x y
  | [], _, _ => rfl
  | a :: p, x, y => by rw [List.cons_append, List.cons_append, cmpI, if_neg (by omega), if_neg (by omega), cmpI_app p x y]
theorem cmpI_at (x y : List Int) (k : Nat) (hx : k < x.length) (hy : k < y.length) : cmpI (x.drop k) (y.drop k) = if x[k] < y[k] then -1 else if y[k] < x[k] then 1 else cmpI (x.drop (k + 1)) (y.drop (k + 1)) := by
  rw [List.drop_eq_getElem_cons hx, List.drop_eq_getElem_cons hy, cmpI]
theorem cmpI_end (x y : List Int) (k : Nat) (hk : k ≤ x.length) (hk2 : k ≤ y.length) (h : ¬ (k < x.length ∧ k < y.length)) : cmpI (x.drop k) (y.drop k) = if x.length < y.length then -1 else if y.length < x.length then 1 else 0 := by
  by_cases h1 : k < x.length
  · have h2 : y.length = k := by omega
    rw [List.drop_of_length_le (l := y) (by omega), List.drop_eq_getElem_cons h1, if_neg (by omega), if_pos (by omega)]; rfl
  · rw [List.drop_of_length_le (l := x) (by omega)]
    by_cases h2 : k < y.length
    · rw [List.drop_eq_getElem_cons h2, if_pos (by omega)]; rfl
    · rw [List.drop_of_length_le (l := y) (by omega), if_neg (by omega), if_neg (by omega)]; rfl
end Go.Proofs.YtpfbdgcgpghifaaGreatDoor

/- How texts compare: the library's word and the plain one. No condition. -/
set_option linter.all false
namespace Go.Proofs.YtpfbdgcgpghifaaGreatDoor
open Go.RowKit

theorem u8_lt (a b : UInt8) : a < b ↔ (a.toNat : Int) < (b.toNat : Int) := by rw [UInt8.lt_iff_toNat_lt]; omega
theorem cmpB_lib : ∀ a b : Bs, Lib.compareBytes a b = cmpB a b
  | [], [] => rfl
  | [], _ :: _ => rfl
  | _ :: _, [] => rfl
  | a :: x, b :: y => by
    have ih := cmpB_lib x y
    unfold cmpB at ih ⊢
    rw [Lib.compareBytes, List.map_cons, List.map_cons, cmpI, ih]
    simp only [u8_lt]
theorem less_cmp : ∀ a b : Bs, Op.bytesLess a b = decide (cmpB a b < 0)
  | [], [] => rfl
  | [], _ :: _ => rfl
  | _ :: _, [] => rfl
  | a :: x, b :: y => by
    have ih := less_cmp x y
    unfold cmpB at ih ⊢
    rw [Op.bytesLess, List.map_cons, List.map_cons, cmpI, ih]
    by_cases h : a < b
    · have h2 := (u8_lt a b).1 h
      rw [if_pos h2]; simp [h]
    · have h2 : ¬ (a.toNat : Int) < (b.toNat : Int) := fun q => h ((u8_lt a b).2 q)
      rw [if_neg h2]
      by_cases h3 : b < a
      · have h4 := (u8_lt b a).1 h3
        have h5 : ¬ a = b := by rintro rfl; omega
        rw [if_pos h4]; simp [h, h5]
      · have h4 : ¬ (b.toNat : Int) < (a.toNat : Int) := fun q => h3 ((u8_lt b a).2 q)
        have h5 : a = b := UInt8.toNat_inj.1 (by omega)
        rw [if_neg h4]; simp [h, h5]
theorem cmpB_neg (a b : Bs) : cmpB b a = - cmpB a b := cmpI_neg _ _
theorem cmpB_range (a b : Bs) : cmpB a b = -1 ∨ cmpB a b = 0 ∨ cmpB a b = 1 := cmpI_range _ _
theorem cmpB_zero (a b : Bs) (h : cmpB a b = 0) : a = b := bytes_inj a b (cmpI_zero _ _ h)
theorem cmpB_self (a : Bs) : cmpB a a = 0 := cmpI_self _
/-- What a string's order says, in the walk's tests. -/
theorem run_less {P : Program} (a b : Bs) (w : World) : (Op.stringOp .lss (bs a) (bs b)).run P w = .ok (.bool (decide (cmpB a b < 0))) w := by
  unfold Op.stringOp
  simp only [bs_toList, less_cmp]
  rfl
theorem run_more {P : Program} (a b : Bs) (w : World) : (Op.stringOp .gtr (bs a) (bs b)).run P w = .ok (.bool (decide (0 < cmpB a b))) w := by
  unfold Op.stringOp
  simp only [bs_toList, less_cmp]
  have e : (!(decide (cmpB a b < 0) || a == b)) = decide (0 < cmpB a b) := by
    rcases cmpB_range a b with h | h | h
    · rw [h]; simp
    · have := cmpB_zero a b h
      subst this
      rw [h]; simp
    · have hne : ¬ a = b := by
        rintro rfl
        rw [cmpB_self] at h
        cases h
      rw [h]; simp [hne]
  rw [e]; rfl
end Go.Proofs.YtpfbdgcgpghifaaGreatDoor
