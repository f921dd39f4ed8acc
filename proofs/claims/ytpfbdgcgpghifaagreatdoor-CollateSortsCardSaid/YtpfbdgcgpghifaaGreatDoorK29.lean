/- The closure of collate.Sort: how indices compare. Conditions: lengths. -/
import Derived.Test.YtpfbdgcgpghifaaGreatDoorK22
import Derived.Test.YtpfbdgcgpghifaaGreatDoorK28
import Derived.BigQuiet
import Derived.Shelf.SlSortCmp.Small

set_option linter.all false
namespace Go.Proofs.YtpfbdgcgpghifaaGreatDoor
open Go.RowKit

/-- The keys of texts in memory: a slice of slices. -/
structure Keys (w : World) (c : ColT) (l : List Bs) (g o cap : Nat) : Prop where
  lt : g < w.heap.size
  cap : l.length ≤ cap
  at_ : ∀ i x, l[i]? = some x → ∃ v, w.cell? ⟨g, o + i, none⟩ = some v ∧ Ints w v (keyI c x)
theorem cmpN_parts (c : ColT) (l : List Bs) (i j : Nat) (x y : Bs) (hx : l[i]? = some x) (hy : l[j]? = some y) : cmpN c l i j = if cmpI (keyI c x) (keyI c y) ≠ 0 then cmpI (keyI c x) (keyI c y) else if Lib.compareBytes x y ≠ 0 then Lib.compareBytes x y else Lib.compareInt i j := by
  have e1 : txt l i = x := by unfold txt; rw [List.getD_eq_getElem?_getD, hx]; rfl
  have e2 : txt l j = y := by unfold txt; rw [List.getD_eq_getElem?_getD, hy]; rfl
  unfold cmpN
  rw [e1, e2, cmpC_lib]
  unfold Lib.compareInt
  have e3 : (if i < j then (-1 : Int) else if j < i then 1 else 0) = if (i : Int) < (j : Int) then -1 else if (i : Int) > (j : Int) then 1 else 0 := by
    simp only [gt_iff_lt, Int.ofNat_lt]
  rw [e3]
  generalize cmpI (keyI c x) (keyI c y) = D
  generalize Lib.compareBytes x y = S
  by_cases h : D = 0
  · subst h
    by_cases h2 : S = 0
    · subst h2; simp
    · simp [h2]
  · simp [h]
set_option maxRecDepth 100000 in
set_option maxHeartbeats 3200000 in
theorem clo_sort (c : ColT) (l : List Bs) (g o cap gl ol cl KB LB : Nat) (i j : Nat) (w : World) (hs : SmallC c) (hl : l.length ≤ 1000) (hll : ∀ x ∈ l, x.length ≤ 1000) (hk : Keys w c l g o cap) (hv : Strs w (.slice (some ⟨gl, ol, none⟩) l.length cl) l)
    (hkb : w.cell? ⟨KB, 0, none⟩ = some (.slice (some ⟨g, o, none⟩) l.length cap)) (hlb : w.cell? ⟨LB, 0, none⟩ = some (.slice (some ⟨gl, ol, none⟩) l.length cl)) (hi : i < l.length) (hj : j < l.length) :
    Calls Tryz.prog 47 #[.int .i64 i, .int .i64 j, .pointer (some ⟨KB, 0, none⟩), .pointer (some ⟨LB, 0, none⟩)] w fun e w' => e = .returned (.int .i64 (cmpN c l i j)) ∧ ∃ q, w' = w.drewN q := by
  obtain ⟨x, hx⟩ : ∃ x, l[i]? = some x := ⟨_, List.getElem?_eq_getElem hi⟩
  obtain ⟨y, hy⟩ : ∃ y, l[j]? = some y := ⟨_, List.getElem?_eq_getElem hj⟩
  obtain ⟨vx, kx, ix⟩ := hk.at_ i x hx
  obtain ⟨vy, ky, iy⟩ := hk.at_ j y hy
  obtain ⟨g1, o1, e1, hgl, sx, _, hcl⟩ := hv.cell_of i x hx
  obtain ⟨g2, o2, e2, _, sy, _, _⟩ := hv.cell_of j y hy
  cases e1
  cases e2
  have HR := Lib.hid (cmpN_parts c l i j x y hx hy)
  have hlx := keyI_len hs x
  have hly := keyI_len hs y
  have hxl := hll x (List.mem_of_getElem? hx)
  have hyl := hll y (List.mem_of_getElem? hy)
  have HC : Hid (∀ n, Calls Tryz.prog 42 #[vx, vy] (w.drewN n) fun e w' => e = .returned (.int .i64 (cmpI (keyI c x) (keyI c y))) ∧ w' = w.drewN n) := fun n =>
    (slcmp_any vx vy (keyI c x) (keyI c y) (w.drewN n) (ix.kept (kept_drewN _ _)) (iy.kept (kept_drewN _ _)) (by omega) (by omega)).mono fun _ _ ⟨h1, h2⟩ => ⟨h1, h2.symm⟩
  have HD : Hid (∀ w, Calls Tryz.prog 44 #[.string (bs x), .string (bs y)] w fun e w' => e = .returned (.int .i64 (Lib.compareBytes x y)) ∧ w' = w) := fun w => by
    have h := Tryz.strings_Compare (bs x) (bs y) w
    simpa only [bs_data] using h
  have HE := Lib.hid (fun w => Tryz.cmp_Compare_int (i : Int) (j : Int) w)
  obtain ⟨ax, cx, rfl, _⟩ := ix.form
  obtain ⟨ay, cy, rfl, _⟩ := iy.form
  have hgk := hk.lt
  have hck := hk.cap
  have zk := World.block_lt_of_cell? w (a := ⟨KB, 0, none⟩) hkb
  have zl := World.block_lt_of_cell? w (a := ⟨LB, 0, none⟩) hlb
  simp only at zk zl
  clear hx hy ix iy hk hv hll
  generalize cmpN c l i j = R at *
  generalize keyI c x = kx' at *
  generalize keyI c y = ky' at *
  generalize cmpI kx' ky' = D at *
  generalize Lib.compareBytes x y = S at *
  generalize Lib.compareInt (i : Int) (j : Int) = T at *
  go_enter Tryz.func47, Tryz.ntmps47
  go_wp2_with fail
  go_quiet ((go_at_call 42; exact Calls.quiet_of_same (HC.out _)))
  obtain ⟨w1, HW⟩ : ∃ w1, Hid (w.drewN nq = w1) := ⟨_, rfl⟩
  have lb1 : w1.cell? ⟨LB, 0, none⟩ = some (.slice (some ⟨gl, ol, none⟩) l.length cl) := by rw [← HW.out]; exact hlb
  have sx1 : w1.cell? ⟨gl, ol + i, none⟩ = some (.string (bs x)) := by rw [← HW.out]; exact sx
  have sy1 : w1.cell? ⟨gl, ol + j, none⟩ = some (.string (bs y)) := by rw [← HW.out]; exact sy
  have zl1 : LB < w1.heap.size := by rw [← HW.out]; exact zl
  have zg1 : gl < w1.heap.size := by rw [← HW.out]; exact hgl
  rw [HW.out]
  clear hkb hlb sx sy zk zl hgl kx ky HC hgk
  by_cases hD : D = 0
  · subst hD
    rw [if_neg (by simp)] at HR
    go_wp2_with fail
    go_quiet ((go_at_call 44; exact Calls.quiet_of_same (HD.out _)))
    by_cases hS : S = 0
    · subst hS
      rw [if_neg (by simp)] at HR
      go_wp2_with fail
      refine (HE.out _).mono ?_
      rintro e w6 ⟨rfl, rfl⟩
      go_wp2_with fail
      go_ret
      exact ⟨ret_int HR.out.symm, _, by rw [← HW.out, World.drewN_drewN]⟩
    · rw [if_pos hS] at HR
      have hS' : (S == 0) = false := by simpa using hS
      go_wp2_with fail
      go_ret
      exact ⟨ret_int HR.out.symm, _, by rw [← HW.out, World.drewN_drewN]⟩
  · rw [if_pos hD] at HR
    have hD' : (D == 0) = false := by simpa using hD
    go_wp2_with fail
    go_ret
    exact ⟨ret_int HR.out.symm, _, HW.out.symm⟩
end Go.Proofs.YtpfbdgcgpghifaaGreatDoor

/- slices.SortFunc at the indices of texts, twelve at most. Conditions: lengths; at least one text. -/
set_option linter.all false
namespace Go.Proofs.YtpfbdgcgpghifaaGreatDoor
open Go.RowKit Go.Sort

theorem only_sortWorld {α : Type} [Inhabited α] (enc : α → Value) (w : World) (blk off m : Nat) (dk : Array α) (os : Array Obj) : Only (fun i => i = blk) w (sortWorld enc w blk off m dk os) := by
  unfold sortWorld putRow mapBlock grow
  refine ⟨rfl, rfl, rfl, ?_, fun k hk hs => ?_⟩
  · simp
  · simp only
    rw [Array.getElem?_append_left (by simpa using hk), Array.getElem?_modify, if_neg (fun q => hs q.symm)]; rfl
theorem Ints.onl2 {S : Nat → Prop} {w w' : World} {v : Value} {xs : List Int} (h : Ints w v xs) (k : Only S w w') (hs : 0 < xs.length → ∀ g, v.ownBlock = some g → ¬ S g) : Ints w' v xs := by
  obtain ⟨a, c, hv, hc, h3⟩ := h
  refine ⟨a, c, hv, hc, fun q => ?_⟩
  obtain ⟨g, o, ha, hg, hcell⟩ := h3 q
  have hn : ¬ S g := hs q g (by rw [hv, ha]; rfl)
  exact ⟨g, o, ha, Nat.lt_of_lt_of_le hg k.size, fun j x hx => (k.cell g _ hg hn).trans (hcell j x hx)⟩
theorem Strs.onl3 {S : Nat → Prop} {w w' : World} {v : Value} {xs : List Bs} (h : Strs w v xs) (k : Only S w w') (hs : ∀ g, v.ownBlock = some g → 0 < xs.length → ¬ S g) : Strs w' v xs := by
  obtain ⟨a, c, hv, hc, h3⟩ := h
  refine ⟨a, c, hv, hc, fun q => ?_⟩
  obtain ⟨g, o, ha, hg, hcell⟩ := h3 q
  have hn : ¬ S g := hs g (by rw [hv, ha]; rfl) q
  exact ⟨g, o, ha, Nat.lt_of_lt_of_le hg k.size, fun j x hx => (k.cell g _ hg hn).trans (hcell j x hx)⟩
theorem sortC_perm (c : ColT) (l : List Bs) : (sortC c l).Perm (List.range l.length) := sortN_perm c l l.length
set_option maxRecDepth 100000 in
set_option maxHeartbeats 3200000 in
theorem sortfn_any (c : ColT) (l : List Bs) (g o cap gl ol cl KB LB O cO base : Nat) (w : World) (hs : SmallC c) (hn : 0 < l.length) (h12 : l.length ≤ 12) (hll : ∀ x ∈ l, x.length ≤ 1000) (hk : Keys w c l g o cap) (hv : Strs w (.slice (some ⟨gl, ol, none⟩) l.length cl) l)
    (hkb : w.cell? ⟨KB, 0, none⟩ = some (.slice (some ⟨g, o, none⟩) l.length cap)) (hlb : w.cell? ⟨LB, 0, none⟩ = some (.slice (some ⟨gl, ol, none⟩) l.length cl))
    (hO : w.ownsRow base 3 1 (.slice (some ⟨O, 0, none⟩) l.length cO) l.length (intC ((List.range l.length).map fun i : Nat => (i : Int))))
    (n1 : g ≠ O) (n2 : gl ≠ O) (n3 : KB ≠ O) (n4 : LB ≠ O) (n5 : ∀ i x v, l[i]? = some x → w.cell? ⟨g, o + i, none⟩ = some v → ∀ g', v.ownBlock = some g' → g' ≠ O) :
    Calls Tryz.prog 46 #[.slice (some ⟨O, 0, none⟩) l.length cO, .func (.func 47) #[] #[.pointer (some ⟨KB, 0, none⟩), .pointer (some ⟨LB, 0, none⟩)]] w fun e w' =>
      e = .returned (.tuple #[]) ∧ Ints w' (.slice (some ⟨O, 0, none⟩) l.length cO) ((sortC c l).map fun i : Nat => (i : Int)) ∧ Only (fun i => i = O) w w' := by
  obtain ⟨m, hm⟩ : ∃ m, l.length = m + 1 := ⟨l.length - 1, by omega⟩
  obtain ⟨enc, henc⟩ : ∃ enc : Fin (m + 1) → Value, enc = fun x => .int .i64 (x.val : Int) := ⟨_, rfl⟩
  obtain ⟨cf, hcf⟩ : ∃ cf : Fin (m + 1) → Fin (m + 1) → Int, cf = fun x y => cmpN c l x.val y.val := ⟨_, rfl⟩
  obtain ⟨d, hd⟩ : ∃ d : Array (Fin (m + 1)), d = Array.ofFn id := ⟨_, rfl⟩
  have hds : d.size = l.length := by rw [hd, hm]; simp
  have hdj : ∀ j (h : j < d.size), (d[j]).val = j := fun j h => by subst hd; simp
  have hOl := own_cap hO
  obtain ⟨_, _, hvv, hcO, hmx, hcells⟩ := hOl
  cases hvv
  obtain ⟨gO, e0, hbO, hgO, hcl⟩ := hcells hn
  cases e0
  have hfr : ∀ j, j < l.length → w.frozen? ⟨O, j, none⟩ = false := by
    intro j hj
    rcases hO.2 with ⟨h, _⟩ | ⟨g2, cap2, cur, h, _, hh, _, _, hlen, _⟩
    · cases h
    · cases h
      simp only [World.frozen?, hh]
      simp
  have hH : Holds enc w O 0 d := fun j hj => by
    have hj' : j < l.length := by omega
    refine ⟨?_, by rw [Nat.zero_add]; exact hfr j hj'⟩
    rw [Nat.zero_add, getElem!_pos d j hj, henc]
    simp only
    rw [hdj j hj]
    exact hcl j _ (intC_at _ j _ (by simp [hj']))
  have hcmp : CmpReads Tryz.prog 47 #[.pointer (some ⟨KB, 0, none⟩), .pointer (some ⟨LB, 0, none⟩)] enc cf O 0 d.size w := by
    intro m' os dk _ x y
    have hon := only_sortWorld enc w O 0 m' dk os
    have hx := x.isLt
    have hy := y.isLt
    subst henc hcf
    refine clo_sort c l g o cap gl ol cl KB LB x.val y.val _ hs (by omega) hll ⟨?_, hk.cap, fun i z hz => ?_⟩ ?_ ?_ ?_ (by omega) (by omega)
    · exact Nat.lt_of_lt_of_le hk.lt hon.size
    · obtain ⟨v, h1, h2⟩ := hk.at_ i z hz
      exact ⟨v, (hon.cell g _ hk.lt n1).trans h1, h2.onl2 hon (fun _ g' hg' q => n5 i z v hz h1 g' hg' q)⟩
    · exact Strs.onl3 hv hon (fun g' hg' _ q => n2 (by cases hg'; exact q))
    · exact (hon.cell KB 0 (World.block_lt_of_cell? w (a := ⟨KB, 0, none⟩) hkb) n3).trans hkb
    · exact (hon.cell LB 0 (World.block_lt_of_cell? w (a := ⟨LB, 0, none⟩) hlb) n4).trans hlb
  have hsw : SWO (ltOf cf) := by
    subst hcf
    refine ⟨fun x => ?_, fun x y z h1 h2 => ?_, fun x y z h1 h2 => ?_⟩
    · have := cmpN_neg c l x.val x.val
      unfold ltOf; simp only [decide_eq_false_iff_not]; omega
    · unfold ltOf at h1 h2 ⊢
      simp only [decide_eq_true_eq] at h1 h2 ⊢
      have h3 := cmpN_trans c l x.val y.val z.val (by omega) (by omega)
      by_cases h4 : cmpN c l x.val z.val = 0
      · exfalso
        have e := cmpN_zero c l _ _ h4
        have h5 := cmpN_neg c l x.val y.val
        rw [e] at h1 h5
        omega
      · omega
    · unfold ltOf at h1 h2 ⊢
      simp only [decide_eq_false_iff_not] at h1 h2 ⊢
      have a1 := cmpN_neg c l x.val y.val
      have a2 := cmpN_neg c l y.val z.val
      have a3 := cmpN_neg c l x.val z.val
      have h3 := cmpN_trans c l z.val y.val x.val (by omega) (by omega)
      omega
  have eg : ∀ args w, (callFunc 47 args).run Tryz.prog w = .ok (.enter 47 args) w := enters_of Tryz.func47 (by kernel_rfl) rfl
  have hbl : ∀ (n : Nat) (W : World), n ≤ 12 → Calls Tryz.prog 97 #[.int .u64 n] W fun e w' => (∃ l : Int, e = .returned (.int .i64 l)) ∧ w' = W := fun n W h =>
    (Tryz.bits_Len n W (by omega) (by omega)).mono fun _ _ ⟨he, hw⟩ => ⟨⟨_, he⟩, hw⟩
  have hcon := Tryz.slices_SortFunc_small_sorted enc (by subst henc; exact fun _ => rfl) cf hsw 47 #[.pointer (some ⟨KB, 0, none⟩), .pointer (some ⟨LB, 0, none⟩)] O 0 cO d w eg hcmp hH (by omega) hbl
  rw [hds] at hcon
  refine hcon.mono ?_
  rintro e w' ⟨he, d', n, hp, hsd, rfl⟩
  have hon : Only (fun i => i = O) w ((putRow enc w O 0 d').drewN n) := by
    have h := only_sortWorld enc w O 0 n d' #[]
    rw [sortWorld_none] at h
    exact h
  have hsz : d'.size = d.size := hp.1
  have hperm : (d'.toList.map Fin.val).Perm (List.range l.length) := by
    have h := hp.2.2
    have e1 : d'.extract 0 l.length = d' := by rw [← hds, ← hsz]; simp
    have e2 : d.extract 0 l.length = d := by rw [← hds]; simp
    rw [e1, e2] at h
    refine (h.map Fin.val).trans ?_
    have e3 : d.toList.map Fin.val = List.range l.length := by
      apply List.ext_getElem
      · simp [hds]
      · intro j h1 h2
        have hj : j < d.size := by simpa using h1
        simp only [List.getElem_map, Array.getElem_toList, List.getElem_range]
        exact hdj j hj
    rw [e3]
  have hpair : (d'.toList.map Fin.val).Pairwise fun a b => ¬ cmpN c l b a < 0 := by
    rw [List.pairwise_map, List.pairwise_iff_getElem]
    intro i j hi hj hij
    have hi' : i < d'.size := by simpa using hi
    have hj' : j < d'.size := by simpa using hj
    have h := hsd i j (Nat.zero_le _) hij (by omega)
    rw [getElem!_pos d' j hj', getElem!_pos d' i hi'] at h
    subst hcf
    unfold ltOf at h
    simpa using h
  have hsort := sort_one c l _ hperm hpair
  refine ⟨he, ?_, hon⟩
  have hlen : (sortC c l).length = l.length := by rw [← hsort]; simp; omega
  refine ⟨some ⟨O, 0, none⟩, cO, by simp [hlen], by simpa [hlen] using hcO, fun _ => ⟨O, 0, rfl, Nat.lt_of_lt_of_le hgO hon.size, fun j x hx => ?_⟩⟩
  have hj : j < d'.size := by
    have := (List.getElem?_eq_some_iff.1 hx).1
    simp [hlen] at this; omega
  have hcell := (holds_putRow enc w O 0 d d' hH hsz j hj).1
  have hx2 : x = ((d'[j]).val : Int) := by
    rw [← hsort] at hx
    simp [hj] at hx
    exact hx.symm
  rw [getElem!_pos d' j hj] at hcell
  rw [hx2]
  have e : enc d'[j] = .int .i64 ((d'[j]).val : Int) := by rw [henc]
  rw [e] at hcell
  exact hcell
end Go.Proofs.YtpfbdgcgpghifaaGreatDoor
