/- begin of publisherref30. Conditions: lengths. -/
import Derived.Test.YteflhlbgbgamnaaGreatDoorT28
import Derived.Test.YteflhlbgbgamnaaGreatDoorT29
import Derived.Test.YteflhlbgbgamnaaGreatDoorT24

set_option linter.all false
namespace Go.Proofs.YteflhlbgbgamnaaGreatDoor
open Go.RowKit

theorem pfxB_head (l : Bs) (h : 0 < l.length) : pfxB l = (l[0] == 64) := by
  match l, h with
  | b :: t, _ =>
    simp [pfxB, Lib.hasPrefix, List.isPrefixOf]
    exact Bool.beq_comm
theorem form_not0 (l : Bs) (h : 0 < l.length) (h0 : l[0] ≠ 64) : formB l = false := by
  unfold formB
  rw [pfxB_head l h]
  simp [h0]
theorem sfxB_snoc (m : Bs) (b : UInt8) : sfxB (m ++ [b]) = (b == 44) := by
  unfold sfxB Lib.hasSuffix List.isSuffixOf
  rw [Bool.eq_iff_iff]
  simp
  exact eq_comm
theorem snoc_of (t : Bs) (h : 0 < t.length) : t = t.take (t.length - 1) ++ [t[t.length - 1]] := by
  conv => lhs; rw [← List.take_append_drop (t.length - 1) t]
  rw [List.drop_eq_getElem_cons (by omega), List.drop_of_length_le (by omega)]
theorem pfxS_head (t : Bs) : pfxS (64 :: t) = t := by simp [pfxS, Lib.trimPrefix, Lib.hasPrefix, List.isPrefixOf]
theorem form_notL (l : Bs) (h : 0 < l.length) (h0 : l[0] = 64) (hL : l[l.length - 1] ≠ 44) : formB l = false := by
  match l, h with
  | b :: t, _ =>
    simp at h0
    subst h0
    unfold formB
    rw [pfxS_head]
    by_cases ht : t = []
    · subst ht; simp [sfxB, Lib.hasSuffix, List.isSuffixOf]
    · have hp : 0 < t.length := List.length_pos_iff.2 ht
      have hl2 : t[t.length - 1] ≠ 44 := by
        intro q
        apply hL
        simp only [List.length_cons]
        rw [List.getElem_cons]
        rw [dif_neg (by omega)]
        rw [← q]
        congr 1
      rw [snoc_of t hp, sfxB_snoc]
      simp [hl2]
theorem shape_of (l : Bs) (h : 0 < l.length) (h0 : l[0] = 64) (hL : l[l.length - 1] = 44) : ∃ m, l = 64 :: (m ++ [44]) := by
  match l, h with
  | b :: t, _ =>
    simp at h0
    subst h0
    by_cases ht : t = []
    · subst ht; simp at hL
    · have hp : 0 < t.length := List.length_pos_iff.2 ht
      refine ⟨t.take (t.length - 1), ?_⟩
      have e := snoc_of t hp
      have hl2 : t[t.length - 1] = 44 := by
        rw [← hL]
        simp only [List.length_cons]
        rw [List.getElem_cons, dif_neg (by omega)]
        congr 1
      rw [hl2] at e
      rw [← e]
theorem inner_shape (m : Bs) : innerL (64 :: (m ++ [44])) = m := by
  unfold innerL
  rw [pfxS_head]
  unfold sfxS Lib.trimSuffix
  have : Lib.hasSuffix (m ++ [44]) [44] = true := sfxB_snoc m 44
  rw [if_pos this]
  simp
theorem form_shape (m : Bs) : formB (64 :: (m ++ [44])) = decide (before 123 m < m.length) := by
  unfold formB
  rw [pfxB_head _ (by simp), pfxS_head, sfxB_snoc, inner_shape]
  simp
theorem before_cons (c b : UInt8) (t : Bs) (h : b ≠ c) : before c (b :: t) = before c t + 1 := by
  unfold before
  rw [List.takeWhile_cons_of_pos (by simpa using h)]; rfl
theorem before_snoc (c b : UInt8) (m : Bs) (h : b ≠ c) : before c (m ++ [b]) = if before c m < m.length then before c m else m.length + 1 := by
  induction m with
  | nil => unfold before; rw [List.nil_append, List.takeWhile_cons_of_pos (by simpa using h)]; simp
  | cons x t ih =>
    by_cases hx : x = c
    · subst hx; simp [before]
    · rw [List.cons_append, before_cons _ _ _ hx, before_cons _ _ _ hx, ih]
      simp only [List.length_cons]
      split <;> split <;> omega
theorem idx_shape (m : Bs) : idxI 123 (64 :: (m ++ [44])) = if before 123 m < m.length then ((before 123 m + 1 : Nat) : Int) else -1 := by
  unfold idxI
  have hb := before_le 123 m
  rw [before_cons _ _ _ (by decide), before_snoc _ _ _ (by decide)]
  by_cases h : before 123 m < m.length
  · rw [if_pos h, if_pos h, if_pos (by simp; omega)]
  · rw [if_neg h, if_neg h, if_neg (by simp)]
theorem type_shape (m : Bs) : typeL (64 :: (m ++ [44])) = m.take (before 123 m) := by unfold typeL; rw [inner_shape]
theorem key_shape (m : Bs) : keyL (64 :: (m ++ [44])) = m.drop (before 123 m + 1) := by unfold keyL; rw [inner_shape]
theorem type_slice (m : Bs) (k : Nat) (h : k < m.length) : ((64 :: (m ++ [44])).drop 1).take (k + 1 - 1) = m.take k := by
  simp only [List.drop_succ_cons, List.drop_zero, Nat.add_sub_cancel]
  rw [List.take_append_of_le_length (by omega)]
theorem key_slice (m : Bs) (k : Nat) (h : k < m.length) : ((64 :: (m ++ [44])).drop (k + 2)).take (m.length + 1 - (k + 2)) = m.drop (k + 1) := by
  simp only [List.drop_succ_cons]
  rw [List.drop_append_of_le_length (by omega), List.take_append_of_le_length (by simp <;> omega), List.take_of_length_le (by simp <;> omega)]
theorem find_keys (ss : List SrcT) (k : Bs) : (findS ss k).isSome = (ss.map (·.key)).contains k := by
  unfold findS
  rw [Bool.eq_iff_iff, List.find?_isSome, List.contains_iff_mem]
  simp only [List.mem_map, beq_iff_eq]
def RbegPost (ss : List SrcT) (l : Bs) (w : World) (e : Ending) (w' : World) : Prop :=
  ∃ k t, e = .returned (.tuple #[srcV k t nilV nilV nilV, .int .i64 (beginE (ss.map (·.key)) ss.length l)]) ∧ (beginE (ss.map (·.key)) ss.length l = 0 → k = keyL l ∧ t = typeL l) ∧ Kept w w'
theorem beginE_form (ks : List Bs) (nd : Nat) (l : Bs) (h : formB l = false) : beginE ks nd l = 5 := by unfold beginE; rw [if_pos h]
set_option maxRecDepth 100000 in
set_option maxHeartbeats 3200000 in
theorem rbegin_bad (v : Value) (ss : List SrcT) (l : Bs) (w : World) (hl : l.length ≤ 1100000) (hp : 0 < l.length) (hf : formB l = false) :
    Calls Tryz.prog 45 #[.string (bs l), v] w (RbegPost ss l w) := by
  have HE := Lib.hid (beginE_form (ss.map (·.key)) ss.length l hf)
  unfold RbegPost
  rw [HE.out]
  have HIX := Lib.hid (fun w => rindex_any l 123 123 rfl w hl)
  have HF0 : Hid (l[0] = 64 → l[l.length - 1] = 44 → idxI 123 l = -1) := by
    intro h0 h1
    obtain ⟨m, rfl⟩ := shape_of l hp h0 h1
    rw [form_shape, decide_eq_false_iff_not] at hf
    rw [idx_shape, if_neg hf]
  have HC0 : Hid (at8 l 0 = 64 ↔ l[0] = 64) := by show _ ↔ _; rw [at8_get l 0 hp]; exact u8_int _ 64 (by decide)
  have HCL : Hid (at8 l (l.length - 1) = 44 ↔ l[l.length - 1] = 44) := by show _ ↔ _; rw [at8_get l _ (by omega)]; exact u8_int _ 44 (by decide)
  have i0 := run_ix (P := Tryz.prog) (t := 9) Tryz.underlying9 l 0 hp 0 rfl
  have i1 := run_ix (P := Tryz.prog) (t := 9) Tryz.underlying9 l (l.length - 1) (by omega) (l.length - 1) (by omega)
  clear hf
  generalize at8 l 0 = b0 at *
  generalize at8 l (l.length - 1) = b1 at *
  have hix : idxI 123 l = -1 ∨ 0 ≤ idxI 123 l := by unfold idxI; split <;> omega
  generalize idxI 123 l = ix at *
  by_cases h0 : b0 = 64
  · by_cases h1 : b1 = 44
    · obtain rfl := HF0.out (HC0.out.1 h0) (HCL.out.1 h1)
      clear HF0 HC0 HCL hix
      subst h0 h1
      go_enter Tryz.func45, Tryz.ntmps45
      go_wp2_with fail
      refine (HIX.out _).mono ?_
      rintro e w1 ⟨rfl, rfl⟩
      go_wp2_with fail
      refine bodyPost_ret (v := .tuple #[srcV [] [] nilV nilV nilV, .int .i64 5]) (by simp [results, Tryz.results45, go_sem]) rfl ?_
      exact ⟨[], [], rfl, fun h => by simp at h, kept_alloc _ _⟩
    · clear HF0 HC0 HCL
      have h1' : (b1 == 44) = false := by simpa using h1
      have h1'' : (b1 != 44) = true := by simpa using h1
      subst h0
      go_enter Tryz.func45, Tryz.ntmps45
      go_wp2_with fail
      refine (HIX.out _).mono ?_
      rintro e w1 ⟨rfl, rfl⟩
      go_wp2_with fail
      refine bodyPost_ret (v := .tuple #[srcV [] [] nilV nilV nilV, .int .i64 5]) (by simp [results, Tryz.results45, go_sem]) rfl ?_
      exact ⟨[], [], rfl, fun h => by simp at h, kept_alloc _ _⟩
  · clear HF0 HC0 HCL
    have h0' : (b0 == 64) = false := by simpa using h0
    have h0'' : (b0 != 64) = true := by simpa using h0
    go_enter Tryz.func45, Tryz.ntmps45
    go_wp2_with fail
    refine (HIX.out _).mono ?_
    rintro e w1 ⟨rfl, rfl⟩
    go_wp2_with fail
    refine bodyPost_ret (v := .tuple #[srcV [] [] nilV nilV nilV, .int .i64 5]) (by simp [results, Tryz.results45, go_sem]) rfl ?_
    exact ⟨[], [], rfl, fun h => by simp at h, kept_alloc _ _⟩
set_option maxRecDepth 100000 in
set_option maxHeartbeats 3200000 in
theorem rbegin_good (v : Value) (ss : List SrcT) (l : Bs) (w : World) (hv : Srcs w v ss) (hN : ss.length ≤ 1100000) (hl : l.length ≤ 1100000) (hp : 0 < l.length) (hf : formB l = true) :
    Calls Tryz.prog 45 #[.string (bs l), v] w (RbegPost ss l w) := by
  have HE : Hid (beginE (ss.map (·.key)) ss.length l = if nameB (typeL l) = false ∨ nameB (keyL l) = false then 6 else if (findS ss (keyL l)).isSome = true then 7 else if 256 ≤ ss.length then 3 else 0) := by
    show _ = _
    unfold beginE; rw [if_neg (by rw [hf]; simp), find_keys]
  have HIX := Lib.hid (fun w => rindex_any l 123 123 rfl w hl)
  have g0 : l[0] = 64 := Classical.byContradiction fun q => by rw [form_not0 l hp q] at hf; cases hf
  have gL : l[l.length - 1] = 44 := Classical.byContradiction fun q => by rw [form_notL l hp g0 q] at hf; cases hf
  obtain ⟨m, hm⟩ := shape_of l hp g0 gL
  have hk : before 123 m < m.length := by rw [hm, form_shape, decide_eq_true_iff] at hf; exact hf
  have hlen : l.length = m.length + 2 := by rw [hm]; simp
  obtain ⟨K, hK⟩ : ∃ K : Int, K = ((before 123 m + 1 : Nat) : Int) := ⟨_, rfl⟩
  have hix : idxI 123 l = K := by rw [hm, idx_shape, if_pos hk, hK]
  rw [hix] at HIX
  have hT : typeL l = (l.drop 1).take (before 123 m + 1 - 1) := by rw [hm, type_slice m _ hk, type_shape]
  have hY : keyL l = (l.drop (before 123 m + 2)).take (m.length + 1 - (before 123 m + 2)) := by rw [hm, key_slice m _ hk, key_shape]
  have i0 := run_ix (P := Tryz.prog) (t := 9) Tryz.underlying9 l 0 hp 0 rfl
  have i1 := run_ix (P := Tryz.prog) (t := 9) Tryz.underlying9 l (l.length - 1) (by omega) (l.length - 1) (by omega)
  have e0 : at8 l 0 = 64 := by rw [at8_get l 0 hp]; exact (u8_int _ 64 (by decide)).2 g0
  have e1 : at8 l (l.length - 1) = 44 := by rw [at8_get l _ (by omega)]; exact (u8_int _ 44 (by decide)).2 gL
  rw [e0] at i0
  rw [e1] at i1
  have sT := run_sub (P := Tryz.prog) (t := 9) Tryz.underlying9 l 1 (before 123 m + 1) (by omega) (by omega) 1 K rfl hK _ hT.symm
  have sY := run_sub (P := Tryz.prog) (t := 9) Tryz.underlying9 l (before 123 m + 2) (m.length + 1) (by omega) (by omega) (K + 1) (l.length - 1) (by omega) (by omega) _ hY.symm
  have hK0 : 0 ≤ K := by omega
  have hK1 : K ≤ 1100000 := by omega
  have hTl : (typeL l).length ≤ 1100000 := by rw [hT]; simp; omega
  have hYl : (keyL l).length ≤ 1100000 := by rw [hY]; simp; omega
  clear hf hm hk hlen hK hix hT hY e0 e1 g0 gL
  unfold RbegPost
  obtain ⟨E, HEE⟩ : ∃ E, Hid (beginE (ss.map (·.key)) ss.length l = E) := ⟨_, rfl⟩
  rw [HEE.out] at HE ⊢
  obtain ⟨ty, HTY⟩ : ∃ ty, Hid (typeL l = ty) := ⟨_, rfl⟩
  obtain ⟨ky, HKY⟩ : ∃ ky, Hid (keyL l = ky) := ⟨_, rfl⟩
  rw [HTY.out] at HE sT hTl ⊢
  rw [HKY.out] at HE sY hYl ⊢
  have HN1 := Lib.hid (fun w => rname_any ty w hTl)
  have HN2 := Lib.hid (fun w => rname_any ky w hYl)
  have HFD := Lib.hid (fun w' (h : Kept w w') => rfind_any v ss ky w' (hv.kept h) hN)
  unfold FindPost at HFD
  obtain ⟨av, cv, rfl, hcv, _⟩ := hv
  go_enter Tryz.func45, Tryz.ntmps45
  go_wp2_with fail
  refine (HIX.out _).mono ?_
  rintro e w1 ⟨rfl, rfl⟩
  go_wp2_with fail
  go_region
  have HB0 : Hid (Blk ((w.alloc (.cells #[.string (bs []), .string (bs []), .slice none 0 0, .slice none 0 0, .slice none 0 0] 40)).alloc (.cells #[.string (bs ky), .string (bs ty), .slice none 0 0, .slice none 0 0, .slice none 0 0] 40)).drew w.heap.size 40 #[.string (bs []), .string (bs []), .slice none 0 0, .slice none 0 0, .slice none 0 0]) := Lib.hid (((Blk.new w 40 #[.string (bs []), .string (bs []), .slice none 0 0, .slice none 0 0, .slice none 0 0]).kept (kept_alloc _ (.cells #[.string (bs ky), .string (bs ty), .slice none 0 0, .slice none 0 0, .slice none 0 0] 40))).kept (kept_drewN _ 1))
  have HB1 : Hid (Blk ((w.alloc (.cells #[.string (bs []), .string (bs []), .slice none 0 0, .slice none 0 0, .slice none 0 0] 40)).alloc (.cells #[.string (bs ky), .string (bs ty), .slice none 0 0, .slice none 0 0, .slice none 0 0] 40)).drew (w.heap.size + 1) 40 #[.string (bs ky), .string (bs ty), .slice none 0 0, .slice none 0 0, .slice none 0 0]) := by
    show Blk _ _ _ _
    have h := (Blk.new (w.alloc (.cells #[.string (bs []), .string (bs []), .slice none 0 0, .slice none 0 0, .slice none 0 0] 40)) 40 #[.string (bs ky), .string (bs ty), .slice none 0 0, .slice none 0 0, .slice none 0 0]).kept (kept_drewN _ 1)
    rwa [show (w.alloc (.cells #[.string (bs []), .string (bs []), .slice none 0 0, .slice none 0 0, .slice none 0 0] 40)).heap.size = w.heap.size + 1 from by simp] at h
  have HK2 : Hid (Kept w ((w.alloc (.cells #[.string (bs []), .string (bs []), .slice none 0 0, .slice none 0 0, .slice none 0 0] 40)).alloc (.cells #[.string (bs ky), .string (bs ty), .slice none 0 0, .slice none 0 0, .slice none 0 0] 40)).drew) := Lib.hid (((kept_alloc w (.cells #[.string (bs []), .string (bs []), .slice none 0 0, .slice none 0 0, .slice none 0 0] 40)).trans (kept_alloc _ (.cells #[.string (bs ky), .string (bs ty), .slice none 0 0, .slice none 0 0, .slice none 0 0] 40))).trans (kept_drewN _ 1))
  generalize ((w.alloc (.cells #[.string (bs []), .string (bs []), .slice none 0 0, .slice none 0 0, .slice none 0 0] 40)).alloc (.cells #[.string (bs ky), .string (bs ty), .slice none 0 0, .slice none 0 0, .slice none 0 0] 40)).drew = w2 at *
  have d0 : w2.cell? ⟨w.heap.size + 1, 0, none⟩ = some (.string (bs ky)) := HB1.out.cell 0 _ rfl
  have d1 : w2.cell? ⟨w.heap.size + 1, 1, none⟩ = some (.string (bs ty)) := HB1.out.cell 1 _ rfl
  have z1 := HB1.out.lt
  clear sT sY i0 i1
  go_wp2_with fail
  have HB02 := HB0
  have HB12 := HB1
  refine (HN1.out _).mono ?_
  rintro e w3 ⟨rfl, hk3⟩
  have HK3 := Lib.hid (HK2.out.trans hk3)
  have HB03 := Lib.hid (HB02.out.kept hk3)
  have HB13 := Lib.hid (HB12.out.kept hk3)
  clear hk3
  clear d0 d1 z1
  cases hn1 : nameB ty
  · obtain rfl : E = 6 := by have h := HE.out; rw [if_pos (.inl hn1)] at h; exact h
    have b0 : w3.cell? ⟨w.heap.size, 0, none⟩ = some (.string (bs [])) := HB03.out.cell 0 _ rfl
    have b1 : w3.cell? ⟨w.heap.size, 1, none⟩ = some (.string (bs [])) := HB03.out.cell 1 _ rfl
    have b2 : w3.cell? ⟨w.heap.size, 2, none⟩ = some (.slice none 0 0) := HB03.out.cell 2 _ rfl
    have b3 : w3.cell? ⟨w.heap.size, 3, none⟩ = some (.slice none 0 0) := HB03.out.cell 3 _ rfl
    have b4 : w3.cell? ⟨w.heap.size, 4, none⟩ = some (.slice none 0 0) := HB03.out.cell 4 _ rfl
    have f0 := HB03.out.free 0
    have f1 := HB03.out.free 1
    have f2 := HB03.out.free 2
    have f3 := HB03.out.free 3
    have f4 := HB03.out.free 4
    have z0 := HB03.out.lt
    go_wp2_with fail
    have hK := kept5 HK3.out (v0 := .string (bs [])) (v1 := .string (bs [])) (v2 := .slice none 0 0) (v3 := .slice none 0 0) (v4 := .slice none 0 0)
    refine bodyPost_ret (v := .tuple #[srcV [] [] nilV nilV nilV, .int .i64 6]) (by simp [results, Tryz.results45, go_sem, b0, b1, b2, b3, b4, z0]) rfl ?_
    exact ⟨[], [], rfl, fun h => by simp at h, hK⟩
  have d0 : w3.cell? ⟨w.heap.size + 1, 0, none⟩ = some (.string (bs ky)) := HB13.out.cell 0 _ rfl
  have z1 := HB13.out.lt
  go_wp2_with fail
  refine (HN2.out _).mono ?_
  rintro e w4 ⟨rfl, hk4⟩
  have HK4 := Lib.hid (HK3.out.trans hk4)
  have HB04 := Lib.hid (HB03.out.kept hk4)
  have HB14 := Lib.hid (HB13.out.kept hk4)
  clear hk4
  clear d0 z1
  cases hn2 : nameB ky
  · obtain rfl : E = 6 := by have h := HE.out; rw [if_pos (.inr hn2)] at h; exact h
    have b0 : w4.cell? ⟨w.heap.size, 0, none⟩ = some (.string (bs [])) := HB04.out.cell 0 _ rfl
    have b1 : w4.cell? ⟨w.heap.size, 1, none⟩ = some (.string (bs [])) := HB04.out.cell 1 _ rfl
    have b2 : w4.cell? ⟨w.heap.size, 2, none⟩ = some (.slice none 0 0) := HB04.out.cell 2 _ rfl
    have b3 : w4.cell? ⟨w.heap.size, 3, none⟩ = some (.slice none 0 0) := HB04.out.cell 3 _ rfl
    have b4 : w4.cell? ⟨w.heap.size, 4, none⟩ = some (.slice none 0 0) := HB04.out.cell 4 _ rfl
    have f0 := HB04.out.free 0
    have f1 := HB04.out.free 1
    have f2 := HB04.out.free 2
    have f3 := HB04.out.free 3
    have f4 := HB04.out.free 4
    have z0 := HB04.out.lt
    go_wp2_with fail
    have hK := kept5 HK4.out (v0 := .string (bs [])) (v1 := .string (bs [])) (v2 := .slice none 0 0) (v3 := .slice none 0 0) (v4 := .slice none 0 0)
    refine bodyPost_ret (v := .tuple #[srcV [] [] nilV nilV nilV, .int .i64 6]) (by simp [results, Tryz.results45, go_sem, b0, b1, b2, b3, b4, z0]) rfl ?_
    exact ⟨[], [], rfl, fun h => by simp at h, hK⟩
  rw [if_neg (by rw [hn1, hn2]; simp)] at HE
  have d0 : w4.cell? ⟨w.heap.size + 1, 0, none⟩ = some (.string (bs ky)) := HB14.out.cell 0 _ rfl
  have z1 := HB14.out.lt
  generalize (findS ss ky).isSome = fb at *
  generalize (findS ss ky).getD zeroS = xs at *
  go_wp2_with fail
  refine (HFD.out _ HK4.out).mono ?_
  rintro e w5 ⟨vA, vE, vF, rfl, pA, pE, pF, hk5⟩
  have HK5 := Lib.hid (HK4.out.trans hk5)
  have HB05 := Lib.hid (HB04.out.kept hk5)
  have HB15 := Lib.hid (HB14.out.kept hk5)
  clear hk5
  clear d0 z1
  obtain ⟨aA, cA, rfl, y1, y2⟩ := pA
  obtain ⟨aE, cE, rfl, y3, y4⟩ := pE
  obtain ⟨aF, cF, rfl, y5, y6⟩ := pF
  clear y1 y2 y3 y4 y5 y6
  clear HN1 HN2 HFD HIX
  have hw6 := kept_alloc w5 (.cells #[.string (bs xs.key), .string (bs xs.type), .slice aA xs.author.length cA, .slice aE xs.editor.length cE, .slice aF xs.fields.length cF] 40)
  have HK6 := Lib.hid (HK5.out.trans hw6)
  have HB06 := Lib.hid (HB05.out.kept hw6)
  have HB16 := Lib.hid (HB15.out.kept hw6)
  clear hw6
  cases fb
  · rw [if_neg (by simp)] at HE
    by_cases h256 : 256 ≤ ss.length
    · obtain rfl : E = 3 := by have h := HE.out; rw [if_pos h256] at h; exact h
      have b0 : w5.cell? ⟨w.heap.size, 0, none⟩ = some (.string (bs [])) := HB05.out.cell 0 _ rfl
      have b1 : w5.cell? ⟨w.heap.size, 1, none⟩ = some (.string (bs [])) := HB05.out.cell 1 _ rfl
      have b2 : w5.cell? ⟨w.heap.size, 2, none⟩ = some (.slice none 0 0) := HB05.out.cell 2 _ rfl
      have b3 : w5.cell? ⟨w.heap.size, 3, none⟩ = some (.slice none 0 0) := HB05.out.cell 3 _ rfl
      have b4 : w5.cell? ⟨w.heap.size, 4, none⟩ = some (.slice none 0 0) := HB05.out.cell 4 _ rfl
      have f0 := HB05.out.free 0
      have f1 := HB05.out.free 1
      have f2 := HB05.out.free 2
      have f3 := HB05.out.free 3
      have f4 := HB05.out.free 4
      have z0 := HB05.out.lt
      go_wp2_with fail
      have hK := (kept5 HK5.out (v0 := .string (bs [])) (v1 := .string (bs [])) (v2 := .slice none 0 0) (v3 := .slice none 0 0) (v4 := .slice none 0 0)).trans (kept_alloc _ (.cells #[.string (bs xs.key), .string (bs xs.type), .slice aA xs.author.length cA, .slice aE xs.editor.length cE, .slice aF xs.fields.length cF] 40))
      refine bodyPost_ret (v := .tuple #[srcV [] [] nilV nilV nilV, .int .i64 3]) (by simp [results, Tryz.results45, go_sem, b0, b1, b2, b3, b4, z0]) rfl ?_
      exact ⟨[], [], rfl, fun h => by simp at h, hK⟩
    · obtain rfl : E = 0 := by have h := HE.out; rw [if_neg h256] at h; exact h
      have b0 : w5.cell? ⟨w.heap.size, 0, none⟩ = some (.string (bs [])) := HB05.out.cell 0 _ rfl
      have b1 : w5.cell? ⟨w.heap.size, 1, none⟩ = some (.string (bs [])) := HB05.out.cell 1 _ rfl
      have b2 : w5.cell? ⟨w.heap.size, 2, none⟩ = some (.slice none 0 0) := HB05.out.cell 2 _ rfl
      have b3 : w5.cell? ⟨w.heap.size, 3, none⟩ = some (.slice none 0 0) := HB05.out.cell 3 _ rfl
      have b4 : w5.cell? ⟨w.heap.size, 4, none⟩ = some (.slice none 0 0) := HB05.out.cell 4 _ rfl
      have f0 := HB05.out.free 0
      have f1 := HB05.out.free 1
      have f2 := HB05.out.free 2
      have f3 := HB05.out.free 3
      have f4 := HB05.out.free 4
      have z0 := HB05.out.lt
      have d0 : w5.cell? ⟨w.heap.size + 1, 0, none⟩ = some (.string (bs ky)) := HB15.out.cell 0 _ rfl
      have d1 : w5.cell? ⟨w.heap.size + 1, 1, none⟩ = some (.string (bs ty)) := HB15.out.cell 1 _ rfl
      have d2 : w5.cell? ⟨w.heap.size + 1, 2, none⟩ = some (.slice none 0 0) := HB15.out.cell 2 _ rfl
      have d3 : w5.cell? ⟨w.heap.size + 1, 3, none⟩ = some (.slice none 0 0) := HB15.out.cell 3 _ rfl
      have d4 : w5.cell? ⟨w.heap.size + 1, 4, none⟩ = some (.slice none 0 0) := HB15.out.cell 4 _ rfl
      have z1 := HB15.out.lt
      go_wp2_with fail
      have hK := (kept5 HK5.out (v0 := .string (bs ky)) (v1 := .string (bs ty)) (v2 := .slice none 0 0) (v3 := .slice none 0 0) (v4 := .slice none 0 0)).trans (kept_alloc _ (.cells #[.string (bs xs.key), .string (bs xs.type), .slice aA xs.author.length cA, .slice aE xs.editor.length cE, .slice aF xs.fields.length cF] 40))
      refine bodyPost_ret (v := .tuple #[srcV ky ty nilV nilV nilV, .int .i64 0]) (by simp [results, Tryz.results45, go_sem, b0, b1, b2, b3, b4, z0]) rfl ?_
      refine ⟨ky, ty, rfl, ?_, hK⟩
      first | exact ⟨rfl, rfl⟩ | exact fun _ => ⟨rfl, rfl⟩
  · obtain rfl : E = 7 := by have h := HE.out; rw [if_pos rfl] at h; exact h
    have b0 : w5.cell? ⟨w.heap.size, 0, none⟩ = some (.string (bs [])) := HB05.out.cell 0 _ rfl
    have b1 : w5.cell? ⟨w.heap.size, 1, none⟩ = some (.string (bs [])) := HB05.out.cell 1 _ rfl
    have b2 : w5.cell? ⟨w.heap.size, 2, none⟩ = some (.slice none 0 0) := HB05.out.cell 2 _ rfl
    have b3 : w5.cell? ⟨w.heap.size, 3, none⟩ = some (.slice none 0 0) := HB05.out.cell 3 _ rfl
    have b4 : w5.cell? ⟨w.heap.size, 4, none⟩ = some (.slice none 0 0) := HB05.out.cell 4 _ rfl
    have f0 := HB05.out.free 0
    have f1 := HB05.out.free 1
    have f2 := HB05.out.free 2
    have f3 := HB05.out.free 3
    have f4 := HB05.out.free 4
    have z0 := HB05.out.lt
    go_wp2_with fail
    have hK := (kept5 HK5.out (v0 := .string (bs [])) (v1 := .string (bs [])) (v2 := .slice none 0 0) (v3 := .slice none 0 0) (v4 := .slice none 0 0)).trans (kept_alloc _ (.cells #[.string (bs xs.key), .string (bs xs.type), .slice aA xs.author.length cA, .slice aE xs.editor.length cE, .slice aF xs.fields.length cF] 40))
    refine bodyPost_ret (v := .tuple #[srcV [] [] nilV nilV nilV, .int .i64 7]) (by simp [results, Tryz.results45, go_sem, b0, b1, b2, b3, b4, z0]) rfl ?_
    exact ⟨[], [], rfl, fun h => by simp at h, hK⟩
end Go.Proofs.YteflhlbgbgamnaaGreatDoor

/- Split, Indent and Trim of publisherref02. Conditions: lengths. -/
set_option linter.all false
namespace Go.Proofs.YteflhlbgbgamnaaGreatDoor
open Go.RowKit

set_option maxRecDepth 100000 in
set_option maxHeartbeats 3200000 in
theorem rsplit_own (t : Bs) (w : World) (ht : t.length ≤ 1100000) : Calls Tryz.prog 15 #[.string (bs t)] w (SliQ (linesL t) w) := by
  obtain ⟨i0', hi', hz0, hz1, hz2⟩ := info_parts Tryz.infoStr
  go_enter Tryz.func15, Tryz.ntmps15
  go_wp2_with fail
  go_loopw [3, 4, 5] (fun v fv i wr => ∃ (k fr : Nat) (xs : List Bs), k ≤ t.length ∧ i = .int .i64 k ∧ fv = .int .i64 fr ∧ fr ≤ k ∧ xs.length ≤ k ∧ wr.ownsRow w.heap.size 9 1 v xs.length (strCells xs) ∧ Hid (LineSt t k fr xs) ∧ Kept w wr) (fun _ _ i _ => t.length - (intOf i).toNat)
  case atStart => exact ⟨0, 0, [], Nat.zero_le _, rfl, rfl, Nat.zero_le _, Nat.le_refl _, World.ownsRow_nil _ _ _ _, LineSt.start t, Kept.refl _⟩
  case round =>
    obtain ⟨k, fr, xs, hk, rfl, rfl, hfr, hxl, hown, HS, hkr⟩ := hrel
    have hsz : w.heap.size ≤ wr.heap.size := hkr.size
    have HKR := Lib.hid hkr
    have HOWN := Lib.hid hown
    clear hkr hown
    by_cases hlt : k < t.length
    · have i0 := run_ix (P := Tryz.prog) (t := 9) Tryz.underlying9 t k hlt k rfl
      have HC : Hid (at8 t k = 10 ↔ t[k] = 10) := by show _ ↔ _; rw [at8_get t k hlt]; exact u8_int _ 10 (by decide)
      by_cases hb : at8 t k = 10
      · obtain ⟨hst, hfk⟩ := HS.out.feed hlt (HC.out.1 hb)
        have sl := run_sub (P := Tryz.prog) (t := 9) Tryz.underlying9 t fr k hfk (by omega) fr k rfl rfl _ rfl
        have HST := Lib.hid hst
        have hown := HOWN.out
        have hb' : (at8 t k == 10) = true := by simpa using hb
        generalize (t.drop fr).take (k - fr) = y at *
        generalize at8 t k = b at *
        clear hst HC hb
        go_wp2_with (at_builtin; refine wpList_append_own _ rfl _ _ 29 rfl w.heap.size 9 i0' (.string ⟨#[]⟩) 1 16 Tryz.underlying29 hi' hz0 hz1 hz2 rfl (by decide) _ _ _ rfl (hown.alloc _) ⟨wr.heap.size, 0, none⟩ 1 1 [.string (bs y)] rfl rfl ?_ ?_ ?_ ?_ ?_ ?_)
        · exact new_cells _ #[.string (bs y)] _ _ (by simp)
        · intro u hu; simp at hu; subst hu; rfl
        · unfold maxLen; omega
        · omega
        · simp; omega
        intro v' w2 hown2 hgrow _
        have HB2 := Lib.hid ((HKR.out.trans (kept_alloc wr _)).trans' (grown_below (hown.alloc _) hgrow (by simp; omega)))
        rw [← strCells_snoc] at hown2
        have HO := Lib.hid hown2
        clear hown2 hgrow hown
        go_wp2_with fail
        go_roundw
        case rel => exact ⟨k + 1, k + 1, xs ++ [y], by omega, by go_num, by go_num, by omega, by simp; omega, by simpa using HO.out, HST.out, HB2.out⟩
        case measure => simp [intOf]; omega
      · obtain ⟨hst, hfk⟩ := HS.out.other hlt (fun q => hb (HC.out.2 q))
        have HST := Lib.hid hst
        have hb' : (at8 t k == 10) = false := by simpa using hb
        generalize at8 t k = b at *
        clear hst HC hb
        go_wp2_with fail
        go_roundw
        case rel => exact ⟨k + 1, fr, xs, by omega, by go_num, rfl, by omega, by omega, HOWN.out, HST.out, HKR.out⟩
        case measure => simp [intOf]; omega
    · obtain rfl : k = t.length := by omega
      obtain ⟨hfl, hfin⟩ := HS.out.done
      have HFIN := Lib.hid hfin
      clear hfin
      by_cases hq : fr < t.length
      · rw [if_pos hq] at HFIN
        have sl := run_from (P := Tryz.prog) (t := 9) Tryz.underlying9 t fr hfl fr rfl _ rfl
        have hown := HOWN.out
        generalize t.drop fr = y at *
        go_wp2_with (at_builtin; refine wpList_append_own _ rfl _ _ 29 rfl w.heap.size 9 i0' (.string ⟨#[]⟩) 1 16 Tryz.underlying29 hi' hz0 hz1 hz2 rfl (by decide) _ _ _ rfl (hown.alloc _) ⟨wr.heap.size, 0, none⟩ 1 1 [.string (bs y)] rfl rfl ?_ ?_ ?_ ?_ ?_ ?_)
        · exact new_cells _ #[.string (bs y)] _ _ (by simp)
        · intro u hu; simp at hu; subst hu; rfl
        · unfold maxLen; omega
        · omega
        · simp; omega
        intro v' w2 hown2 hgrow _
        have HB2 := Lib.hid ((HKR.out.trans (kept_alloc wr _)).trans' (grown_below (hown.alloc _) hgrow (by simp; omega)))
        rw [← strCells_snoc] at hown2
        have hown3 : w2.ownsRow w.heap.size 9 1 v' (xs ++ [y]).length (strCells (xs ++ [y])) := by simpa using hown2
        have HO : Hid (Strs w2 v' (xs ++ [y]) ∧ BaseB w.heap.size v' (xs ++ [y])) := ⟨Strs.own hown3, BaseB.own hown3⟩
        clear hown3
        clear hown2 hgrow hown
        go_wp2_with fail
        go_ret
        exact ⟨_, rfl, by rw [HFIN.out]; exact HO.out.1, by rw [HFIN.out]; exact HO.out.2, HB2.out⟩
      · rw [if_neg hq, List.append_nil] at HFIN
        have HO := Lib.hid (And.intro (Strs.own HOWN.out) (BaseB.own HOWN.out))
        go_wp2_with fail
        go_ret
        exact ⟨_, rfl, by rw [HFIN.out]; exact HO.out.1, by rw [HFIN.out]; exact HO.out.2, HKR.out⟩

set_option maxRecDepth 100000 in
set_option maxHeartbeats 1600000 in
theorem rindent_any (l : Bs) (w : World) (hs : l.length ≤ 1100000) : Calls Tryz.prog 52 #[.string (bs l)] w fun e w' => e = .returned (.int .i64 (indentL l)) ∧ w = w' := by
  go_enter Tryz.func52, Tryz.ntmps52
  go_wp2_with fail
  go_loop [3] (fun i => ∃ k : Nat, k ≤ l.length ∧ i = .int .i64 k ∧ Hid (∀ j (hj : j < l.length), j < k → l[j] = 32)) (fun i => l.length - (intOf i).toNat)
  case atStart => exact ⟨0, Nat.zero_le _, rfl, fun j hj h => by omega⟩
  case round =>
    obtain ⟨k, hk, rfl, HA⟩ := hrel
    by_cases hlt : k < l.length
    · have i0 := run_ix (P := Tryz.prog) (t := 9) Tryz.underlying9 l k hlt k rfl
      have HC : Hid (at8 l k = 32 ↔ l[k] = 32) := by show _ ↔ _; rw [at8_get l k hlt]; exact u8_int _ 32 (by decide)
      by_cases hb : at8 l k = 32
      · have HN : Hid (∀ j (hj : j < l.length), j < k + 1 → l[j] = 32) := by
          intro j hj hjk
          by_cases q : j < k
          · exact HA.out j hj q
          · obtain rfl : j = k := by omega
            exact HC.out.1 hb
        have hb' : (at8 l k == 32) = true := by simpa using hb
        generalize at8 l k = b at *
        clear hb HC HA
        go_wp2_with fail
        go_round
        case rel => exact ⟨k + 1, by omega, by go_num, HN.out⟩
        case measure => simp [intOf]; omega
      · have HF : Hid (indentL l = k) := indent_at l k hk HA.out (fun _ q => hb (HC.out.2 q))
        have hb' : (at8 l k == 32) = false := by simpa using hb
        generalize at8 l k = b at *
        clear hb HC HA
        go_wp2_with fail
        go_ret
        exact ⟨ret_int (by rw [HF.out]), rfl⟩
    · have HF : Hid (indentL l = k) := indent_at l k hk HA.out (fun h => absurd h hlt)
      clear HA
      go_wp2_with fail
      go_ret
      exact ⟨ret_int (by rw [HF.out]), rfl⟩

set_option maxRecDepth 100000 in
set_option maxHeartbeats 1600000 in
theorem rtrim_any (l : Bs) (w : World) (hs : l.length ≤ 1100000) : Calls Tryz.prog 17 #[.string (bs l)] w fun e w' => e = .returned (.string (bs (trimL l))) ∧ w = w' := by
  have hil := indent_le l
  have HI := Lib.hid (fun w => rindent_any l w hs)
  have sl := run_from (P := Tryz.prog) (t := 9) Tryz.underlying9 l (indentL l) hil (indentL l) rfl _ rfl
  have HT : Hid (trimL l = trimR (l.drop (indentL l))) := rfl
  have htl : (l.drop (indentL l)).length ≤ 1100000 := by simp; omega
  generalize l.drop (indentL l) = t at *
  generalize indentL l = n0 at *
  go_enter Tryz.func17, Tryz.ntmps17
  go_wp2_with fail
  refine (HI.out _).mono ?_
  rintro e w' ⟨rfl, rfl⟩
  go_wp2_with fail
  clear sl
  simp only [mk_bs]
  go_loop [0] (fun s => ∃ n : Nat, n ≤ t.length ∧ s = .string (bs (t.take n)) ∧ Hid (∀ b ∈ t.drop n, b = 32)) (fun s => match s with | .string b => b.size | _ => 0)
  case atStart => exact ⟨t.length, Nat.le_refl _, by rw [List.take_of_length_le (Nat.le_refl _)], fun b hb => by rw [List.drop_of_length_le (Nat.le_refl _)] at hb; cases hb⟩
  case round =>
    obtain ⟨n, hn, rfl, HA⟩ := hrel
    have hlen : (t.take n).length = n := by simp; omega
    have HLEN := Lib.hid hlen
    by_cases h0 : n = 0
    · subst h0
      have HF : Hid (trimR t = t.take 0) := trimR_at t 0 (by omega) HA.out (fun h => by omega)
      clear HA hlen
      simp only [List.take_zero]
      go_wp2_with fail
      go_ret
      exact ⟨ret_bs (by rw [HT.out, HF.out]; rfl), rfl⟩
    · have hlt : n - 1 < (t.take n).length := by omega
      have i0 := run_ix (P := Tryz.prog) (t := 9) Tryz.underlying9 (t.take n) (n - 1) hlt ((t.take n).length - 1) (by omega)
      have su := run_upto (P := Tryz.prog) (t := 9) Tryz.underlying9 (t.take n) (n - 1) (by omega) ((t.take n).length - 1) (by omega) (t.take (n - 1)) (by rw [List.take_take]; congr 1; omega)
      have hn1 : n - 1 < t.length := by omega
      have HC : Hid (at8 (t.take n) (n - 1) = 32 ↔ t[n - 1]'hn1 = 32) := by
        show _ ↔ _
        rw [at8_get _ _ hlt, List.getElem_take]
        exact u8_int _ 32 (by decide)
      have hpos : 0 < (t.take n).length := by omega
      have hne : ¬ t.take n = [] := by intro q; rw [q] at hpos; simp at hpos
      have hle : (t.take n).length ≤ 1100000 := by omega
      generalize hx : at8 (t.take n) (n - 1) = b at *
      clear hx hlen
      by_cases hb : b = 32
      · have HN : Hid (∀ b ∈ t.drop (n - 1), b = 32) := by
          intro c hc
          have e : t.drop (n - 1) = t[n - 1]'(by omega) :: t.drop n := by
            rw [List.drop_eq_getElem_cons (by omega)]; congr 2; omega
          rw [e] at hc
          rcases List.mem_cons.1 hc with h | h
          · rw [h]; exact HC.out.1 hb
          · exact HA.out c h
        have HM : Hid ((t.take (n - 1)).length < (t.take n).length) := by show _ < _; simp; omega
        have hb' : (b == 32) = true := by simpa using hb
        clear hb HC HA
        generalize hx : t.take n = s at *
        clear hx
        have hy1 : (s == []) = false := by simpa using hne
        have hy2 : (s != []) = true := by simpa using hne
        have hy3 : (List.length s == 0) = false := by simpa using hne
        go_wp2_with fail
        go_round
        case rel => exact ⟨n - 1, by omega, rfl, HN.out⟩
        case measure => simpa using HM.out
      · have HF : Hid (trimR t = t.take n) := trimR_at t n hn HA.out (fun _ q => hb (HC.out.2 q))
        have hb' : (b == 32) = false := by simpa using hb
        clear hb HC HA
        generalize hx : t.take n = s at *
        clear hx
        have hy1 : (s == []) = false := by simpa using hne
        have hy2 : (s != []) = true := by simpa using hne
        have hy3 : (List.length s == 0) = false := by simpa using hne
        go_wp2_with fail
        go_ret
        exact ⟨ret_bs (by rw [HT.out, HF.out]), rfl⟩
end Go.Proofs.YteflhlbgbgamnaaGreatDoor
