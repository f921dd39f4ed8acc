/- slices.SortFunc at the indices of texts, however many; collate.Sort. Conditions: lengths. -/
import Derived.Test.YtnbhpmleboildaaGreatDoorY17
import Derived.Test.YtnbhpmleboildaaGreatDoorY10
import Derived.Test.YtnbhpmleboildaaGreatDoorY13
import Derived.Test.YtnbhpmleboildaaGreatDoorY11
import Derived.Test.YtnbhpmleboildaaGreatDoorY09
import Derived.Shelf.SlSortCmp.Whole1
import Derived.BigQuiet
import Derived.Deep.RegionWith
import Derived.Deep.RegionHeld3
import Derived.Laws.EntriesVeiled

set_option linter.all false
namespace Go.Proofs.YtnbhpmleboildaaGreatDoor
open Go.RowKit Go.Sort

theorem sortWorld_heap {α : Type} [Inhabited α] (enc : α → Value) (w : World) (blk off n : Nat) (d : Array α) (os : Array Obj) (h : blk < w.heap.size) : (sortWorld enc w blk off n d os).heap[blk]? = (putRow enc w blk off d).heap[blk]? := by
  unfold sortWorld grow
  show ((putRow enc w blk off d).heap ++ os)[blk]? = _
  rw [Array.getElem?_append_left (by unfold putRow mapBlock; simpa using h)]
set_option maxRecDepth 100000 in
set_option maxHeartbeats 3200000 in
theorem sortfn_wide (c : ColT) (l : List Bs) (g o cap gl ol cl KB LB O cO base : Nat) (w : World) (hs : SmallC c) (hn : 0 < l.length) (h12 : l.length ≤ 1000) (hll : ∀ x ∈ l, x.length ≤ 100000) (hk : Keys w c l g o cap) (hv : Strs w (.slice (some ⟨gl, ol, none⟩) l.length cl) l)
    (hkb : w.cell? ⟨KB, 0, none⟩ = some (.slice (some ⟨g, o, none⟩) l.length cap)) (hlb : w.cell? ⟨LB, 0, none⟩ = some (.slice (some ⟨gl, ol, none⟩) l.length cl))
    (hO : w.ownsRow base 3 1 (.slice (some ⟨O, 0, none⟩) l.length cO) l.length (intC ((List.range l.length).map fun i : Nat => (i : Int))))
    (n1 : g ≠ O) (n2 : gl ≠ O) (n3 : KB ≠ O) (n4 : LB ≠ O) (n5 : ∀ i x v, l[i]? = some x → w.cell? ⟨g, o + i, none⟩ = some v → ∀ g', v.ownBlock = some g' → g' ≠ O) :
    Calls Tryz.prog 60 #[.slice (some ⟨O, 0, none⟩) l.length cO, .func (.func 61) #[] #[.pointer (some ⟨KB, 0, none⟩), .pointer (some ⟨LB, 0, none⟩)]] w fun e w' =>
      e = .returned (.tuple #[]) ∧ Ints w' (.slice (some ⟨O, 0, none⟩) l.length cO) ((sortC c l).map fun i : Nat => (i : Int)) ∧ Only (fun i => i = O) w w' := by
  obtain ⟨m, hm⟩ : ∃ m, l.length = m + 1 := ⟨l.length - 1, by omega⟩
  obtain ⟨enc, henc⟩ : ∃ enc : Fin (m + 1) → Value, enc = fun x => .int .i64 (x.val : Int) := ⟨_, rfl⟩
  obtain ⟨cf, hcf⟩ : ∃ cf : Fin (m + 1) → Fin (m + 1) → Int, cf = fun x y => cmpN c l x.val y.val := ⟨_, rfl⟩
  obtain ⟨d, hd⟩ : ∃ d : Array (Fin (m + 1)), d = Array.ofFn id := ⟨_, rfl⟩
  have hds : d.size = l.length := by rw [hd, hm]; simp
  have hdj : ∀ j (h : j < d.size), (d[j]).val = j := fun j h => by subst hd; simp
  have hOl := own_cap hO
  obtain ⟨_, _, hvv, hcO, hmx, hcells⟩ := hOl
  cases hvv
  obtain ⟨gO, e0, hbO, hgO, hcl⟩ := hcells hn
  cases e0
  have hfr : ∀ j, j < l.length → w.frozen? ⟨O, j, none⟩ = false := by
    intro j hj
    rcases hO.2 with ⟨h, _⟩ | ⟨g2, cap2, cur, h, _, hh, _, _, hlen, _⟩
    · cases h
    · cases h
      simp only [World.frozen?, hh]
      simp
  have hH : Holds enc w O 0 d := fun j hj => by
    have hj' : j < l.length := by omega
    refine ⟨?_, by rw [Nat.zero_add]; exact hfr j hj'⟩
    rw [Nat.zero_add, getElem!_pos d j hj, henc]
    simp only
    rw [hdj j hj]
    exact hcl j _ (intC_at _ j _ (by simp [hj']))
  have hcmp : CmpReads Tryz.prog 61 #[.pointer (some ⟨KB, 0, none⟩), .pointer (some ⟨LB, 0, none⟩)] enc cf O 0 d.size w := by
    intro m' os dk _ x y
    have hon := only_sortWorld enc w O 0 m' dk os
    have hx := x.isLt
    have hy := y.isLt
    subst henc hcf
    refine clo_sort c l g o cap gl ol cl KB LB x.val y.val _ hs (by omega) hll ⟨?_, hk.cap, fun i z hz => ?_⟩ ?_ ?_ ?_ (by omega) (by omega)
    · exact Nat.lt_of_lt_of_le hk.lt hon.size
    · obtain ⟨v, h1, h2⟩ := hk.at_ i z hz
      exact ⟨v, (hon.cell g _ hk.lt n1).trans h1, h2.onl2 hon (fun _ g' hg' q => n5 i z v hz h1 g' hg' q)⟩
    · exact Strs.onl3 hv hon (fun g' hg' _ q => n2 (by cases hg'; exact q))
    · exact (hon.cell KB 0 (World.block_lt_of_cell? w (a := ⟨KB, 0, none⟩) hkb) n3).trans hkb
    · exact (hon.cell LB 0 (World.block_lt_of_cell? w (a := ⟨LB, 0, none⟩) hlb) n4).trans hlb
  have hsw : SWO (ltOf cf) := by
    subst hcf
    refine ⟨fun x => ?_, fun x y z h1 h2 => ?_, fun x y z h1 h2 => ?_⟩
    · have := cmpN_neg c l x.val x.val
      unfold ltOf; simp only [decide_eq_false_iff_not]; omega
    · unfold ltOf at h1 h2 ⊢
      simp only [decide_eq_true_eq] at h1 h2 ⊢
      have h3 := cmpN_trans c l x.val y.val z.val (by omega) (by omega)
      by_cases h4 : cmpN c l x.val z.val = 0
      · exfalso
        have e := cmpN_zero c l _ _ h4
        have h5 := cmpN_neg c l x.val y.val
        rw [e] at h1 h5
        omega
      · omega
    · unfold ltOf at h1 h2 ⊢
      simp only [decide_eq_false_iff_not] at h1 h2 ⊢
      have a1 := cmpN_neg c l x.val y.val
      have a2 := cmpN_neg c l y.val z.val
      have a3 := cmpN_neg c l x.val z.val
      have h3 := cmpN_trans c l z.val y.val x.val (by omega) (by omega)
      omega
  have eg : ∀ args w, (callFunc 61 args).run Tryz.prog w = .ok (.enter 61 args) w := enters_of Tryz.func61 (by kernel_rfl) rfl
  have hcon := Any.slices_SortFunc Tryz.laysSlF6_f60 enc (by subst henc; exact fun _ => rfl) cf hsw 61 #[.pointer (some ⟨KB, 0, none⟩), .pointer (some ⟨LB, 0, none⟩)] O 0 cO d w eg hcmp.lays hH hgO (by omega)
  rw [hds] at hcon
  refine hcon.mono ?_
  rintro e w' ⟨he, d', n, os, hp, hsd, rfl⟩
  have hon : Only (fun i => i = O) w (sortWorld enc w O 0 n d' os) := only_sortWorld enc w O 0 n d' os
  have hsz : d'.size = d.size := hp.1
  have hperm : (d'.toList.map Fin.val).Perm (List.range l.length) := by
    have h := hp.2.2
    have e1 : d'.extract 0 l.length = d' := by rw [← hds, ← hsz]; simp
    have e2 : d.extract 0 l.length = d := by rw [← hds]; simp
    rw [e1, e2] at h
    refine (h.map Fin.val).trans ?_
    have e3 : d.toList.map Fin.val = List.range l.length := by
      apply List.ext_getElem
      · simp [hds]
      · intro j h1 h2
        have hj : j < d.size := by simpa using h1
        simp only [List.getElem_map, Array.getElem_toList, List.getElem_range]
        exact hdj j hj
    rw [e3]
  have hpair : (d'.toList.map Fin.val).Pairwise fun a b => ¬ cmpN c l b a < 0 := by
    rw [List.pairwise_map, List.pairwise_iff_getElem]
    intro i j hi hj hij
    have hi' : i < d'.size := by simpa using hi
    have hj' : j < d'.size := by simpa using hj
    have h := hsd i j (Nat.zero_le _) hij (by omega)
    rw [getElem!_pos d' j hj', getElem!_pos d' i hi'] at h
    subst hcf
    unfold ltOf at h
    simpa using h
  have hsort := sort_one c l _ hperm hpair
  refine ⟨he, ?_, hon⟩
  have hlen : (sortC c l).length = l.length := by rw [← hsort]; simp; omega
  refine ⟨some ⟨O, 0, none⟩, cO, by simp [hlen], by simpa [hlen] using hcO, fun _ => ⟨O, 0, rfl, Nat.lt_of_lt_of_le hgO hon.size, fun j x hx => ?_⟩⟩
  have hj : j < d'.size := by
    have := (List.getElem?_eq_some_iff.1 hx).1
    simp [hlen] at this; omega
  have hcell : (sortWorld enc w O 0 n d' os).cell? ⟨O, 0 + j, none⟩ = some (enc (d'[j]!)) := (World.cell?_of_block (a := ⟨O, 0 + j, none⟩) (sortWorld_heap enc w O 0 n d' os hgO)).trans (holds_putRow enc w O 0 d d' hH hsz j hj).1
  have hx2 : x = ((d'[j]).val : Int) := by
    rw [← hsort] at hx
    simp [hj] at hx
    exact hx.symm
  rw [getElem!_pos d' j hj] at hcell
  rw [hx2]
  have e : enc d'[j] = .int .i64 ((d'[j]).val : Int) := by rw [henc]
  rw [e] at hcell
  exact hcell


set_option maxRecDepth 100000 in
set_option maxHeartbeats 6400000 in
theorem sort_wide0 (vR vO vL : Value) (c : ColT) (l : List Bs) (w : World) (hv : Col w vR vO c) (hL : Strs w vL l) (hs : SmallC c) (hn : 0 < l.length) (h12 : l.length ≤ 1000) (hll : ∀ x ∈ l, x.length ≤ 100000) :
    Calls Tryz.prog 43 #[colV vR vO c.ignore, vL] w (IntsQ ((sortC c l).map fun i : Nat => (i : Int)) w) := by
  obtain ⟨i0, hi, hz0, hz1, hz2⟩ := info_parts Tryz.infoInt
  obtain ⟨j0, hj, hy0, hy1, hy2⟩ := info_parts Tryz.infoInts
  have HV := Lib.hid hv
  have HL := Lib.hid hL
  have HT := Lib.hid (fun w h => tables_any vR vO c w h hs)
  obtain ⟨aR, cR, rfl, lR⟩ := hv.1.form
  obtain ⟨aO, cO, rfl, lO⟩ := hv.2.form
  obtain ⟨aL, cL, rfl, lL⟩ := hL.form
  obtain ⟨gl, ol, rfl, hgl⟩ : ∃ g o, aL = some ⟨g, o, none⟩ ∧ g < w.heap.size := by
    obtain ⟨x, hx⟩ : ∃ x, l[0]? = some x := ⟨_, List.getElem?_eq_getElem hn⟩
    obtain ⟨g, o, e, hg, _⟩ := hL.cell_of 0 x hx
    exact ⟨g, o, e, hg⟩
  clear hv hL
  have HB0 : Hid (Blk ((w.alloc (.cells #[.slice aR c.ranks.length cR, .slice aO c.order.length cO, .string (bs c.ignore)] 28)).alloc (.cells #[.slice (some ⟨gl, ol, none⟩) l.length cL] 26)) (w.heap.size + 1) 26 #[.slice (some ⟨gl, ol, none⟩) l.length cL]) := by
    have h := Blk.new (w.alloc (.cells #[.slice aR c.ranks.length cR, .slice aO c.order.length cO, .string (bs c.ignore)] 28)) 26 #[.slice (some ⟨gl, ol, none⟩) l.length cL]
    show Blk _ _ _ _
    simpa using h
  have HK0 : Hid (Kept w ((w.alloc (.cells #[.slice aR c.ranks.length cR, .slice aO c.order.length cO, .string (bs c.ignore)] 28)).alloc (.cells #[.slice (some ⟨gl, ol, none⟩) l.length cL] 26))) := (kept_alloc _ _).trans (kept_alloc _ _)
  unfold IntsQ
  go_enter Tryz.func43, Tryz.ntmps43
  go_wp2_with fail
  generalize (w.alloc (.cells #[.slice aR c.ranks.length cR, .slice aO c.order.length cO, .string (bs c.ignore)] 28)).alloc (.cells #[.slice (some ⟨gl, ol, none⟩) l.length cL] 26) = w0 at *
  refine (HT.out _ (HV.out.kept HK0.out)).mono ?_
  rintro e w1 ⟨v1, rfl, ht1, hk1⟩
  have HK1 := Lib.hid (HK0.out.trans hk1)
  have HB1 := Lib.hid (HB0.out.kept hk1)
  obtain ⟨m1, m2, m3, es, rfl, hm1, hm2, hm3, hm4⟩ := ht1
  have HTR := Lib.hid (show TabR w1 _ c from ⟨m1, m2, m3, es, rfl, hm1, hm2, hm3, hm4⟩)
  clear hk1 hm1 hm2 hm3 hm4
  have HY2 := Lib.hid (Blk.new w1 70 #[.map (some m1), .map (some m2), .map (some m3), .int .i64 c.order.length])
  have HK2 := Lib.hid (HK1.out.trans (kept_alloc w1 (.cells #[.map (some m1), .map (some m2), .map (some m3), .int .i64 c.order.length] 70)))
  have HB2 := Lib.hid (HB1.out.kept (kept_alloc w1 (.cells #[.map (some m1), .map (some m2), .map (some m3), .int .i64 c.order.length] 70)))
  have b2 : (w1.alloc (.cells #[.map (some m1), .map (some m2), .map (some m3), .int .i64 c.order.length] 70)).cell? ⟨w.heap.size + 1, 0, none⟩ = some (.slice (some ⟨gl, ol, none⟩) l.length cL) := HB2.out.cell 0 _ rfl
  have b1 : w1.cell? ⟨w.heap.size + 1, 0, none⟩ = some (.slice (some ⟨gl, ol, none⟩) l.length cL) := HB1.out.cell 0 _ rfl
  have zz1 := HB1.out.lt
  have hw01 : w.heap.size + 1 < w1.heap.size := HB1.out.lt
  go_wp2_with (first
    | (at_make; refine wpList_make_own _ rfl _ _ 117 rfl w1.heap.size 73 j0 (.slice none 0 0) 1 Tryz.underlying117 hj hy0 hy1 .i64 .i64 l.length l.length rfl rfl rfl (by rw [hy2]; omega) (by unfold maxLen; omega) (kept_alloc w1 _).size ?_; intro w3 hown3 hgrow3; have hb3 : w3.cell? ⟨w.heap.size + 1, 0, none⟩ = some (.slice (some ⟨gl, ol, none⟩) l.length cL) := (grown_cell hgrow3 _ 0 (by simp; omega) (by simp)).trans b2; have hz3 : w1.heap.size < w3.heap.size := (by have := hgrow3.size; simp at this; omega); have hlt3 : w.heap.size + 1 < w3.heap.size := (by omega))
    | (at_make; refine wpList_make_own _ rfl _ _ 73 rfl w1.heap.size 3 i0 (.int .i64 0) 1 Tryz.underlying73 hi hz0 hz1 .i64 .i64 l.length l.length rfl rfl rfl (by rw [hz2]; omega) (by unfold maxLen; omega) (Nat.le_trans (Nat.le_of_lt hz3) (kept_alloc w3 _).size) ?_; intro w5 hown5 hgrow5; have b5 : w5.cell? ⟨w.heap.size + 1, 0, none⟩ = some (.slice (some ⟨gl, ol, none⟩) l.length cL) := (grown_cell hgrow5 _ 0 (Nat.lt_of_lt_of_le hlt3 (kept_alloc w3 _).size) (by simp)).trans (((kept_alloc w3 _).cell (p := ⟨w.heap.size + 1, 0, none⟩) hlt3).trans hb3); have hlt5 : w.heap.size + 1 < w5.heap.size := Nat.lt_of_lt_of_le (Nat.lt_of_lt_of_le hlt3 (kept_alloc w3 _).size) hgrow5.size))
  have hkr : (w1.alloc (.cells #[.map (some m1), .map (some m2), .map (some m3), .int .i64 c.order.length] 70)).heap.size = w1.heap.size + 1 := by simp
  rw [hkr] at hown3
  have hk13 : Kept w1 w3 := (kept_alloc w1 (.cells #[.map (some m1), .map (some m2), .map (some m3), .int .i64 c.order.length] 70)).trans (Below.grown (Below.refl _ _) hgrow3 (Nat.le_refl _) (fun j hj => by cases hj))
  have hY3 : Blk w3 w1.heap.size 70 #[.map (some m1), .map (some m2), .map (some m3), .int .i64 c.order.length] := (hgrow3.block _ (by simp) (by simp)).trans HY2.out
  have hk34 := kept_alloc w3 (.cells #[.slice (some ⟨w1.heap.size + 1, 0, none⟩) 0 l.length] 117)
  have hk45 : Kept (w3.alloc (.cells #[.slice (some ⟨w1.heap.size + 1, 0, none⟩) 0 l.length] 117)) w5 := Below.grown (Below.refl _ _) hgrow5 (Nat.le_refl _) (fun j hj => by cases hj)
  have hk35 : Kept w3 w5 := hk34.trans hk45
  have HX5 := Lib.hid ((Blk.new w3 117 #[.slice (some ⟨w1.heap.size + 1, 0, none⟩) 0 l.length]).kept hk45)
  have HY5 := Lib.hid (hY3.kept hk35)
  have HO5 := Lib.hid (own_kept hown3 hk35)
  have HK5 := Lib.hid (hk13.trans hk35)
  have hk4z : (w3.alloc (.cells #[.slice (some ⟨w1.heap.size + 1, 0, none⟩) 0 l.length] 117)).heap.size = w3.heap.size + 1 := by simp
  rw [hk4z] at hown5
  have HP5 := Lib.hid hown5
  have hwO : w.heap.size + 1 < w1.heap.size := hw01
  clear hown5 hgrow5 hk45 hk35 hk34 hk4z hown3 hgrow3 hb3 hY3 hk13 hkr b1 b2 HY2 HK2 HB2 zz1 hw01
  have HKY := Lib.hid (fun v x w h hx => key_row v c x w h hs hx)
  have hz31 : w1.heap.size + 1 < w3.heap.size + 1 := by omega
  generalize w3.heap.size = KB at *
  go_loopw [7, 20] (fun ov i wr => ∃ (k : Nat) (kv : Value) (ks : List Value), k ≤ l.length ∧ i = .int .i64 k ∧ ks.length = k ∧ wr.ownsRow w1.heap.size 3 1 ov k (intC ((List.range k).map fun i : Nat => (i : Int))) ∧ wr.ownsRow w1.heap.size 73 1 kv k ks ∧ Hid (Blk wr KB 117 #[kv]) ∧ Hid (KV wr c l ks ov) ∧ Hid (Blk wr w1.heap.size 70 #[.map (some m1), .map (some m2), .map (some m3), .int .i64 c.order.length]) ∧ Hid (Kept w1 wr)) (fun _ i _ => l.length - (intOf i).toNat)
  case atStart => exact ⟨0, _, [], Nat.zero_le _, rfl, rfl, HP5.out, HO5.out, HX5.out, fun j v x h => by simp at h, HY5.out, HK5.out⟩
  case round =>
    clear HP5 HO5 HX5 HY5 HK5 b5 hlt5
    obtain ⟨k, kv, ks, hk, rfl, hkl, hov, hkr, HX, HKV, HY, HK⟩ := hrel
    have hws : w1.heap.size < wr.heap.size := HY.out.lt
    obtain ⟨ao, co, hvo, hco, _, _⟩ := own_cap hov
    obtain ⟨ak, ck, hvk, hck, _, _⟩ := own_cap hkr
    subst hvo hvk
    by_cases hlt : k < l.length
    · obtain ⟨x, hx⟩ : ∃ x, l[k]? = some x := ⟨_, List.getElem?_eq_getElem hlt⟩
      have hxl := hll x (List.mem_of_getElem? hx)
      obtain ⟨g2, o2, e2, hg2, d0, _, _⟩ := (HL.out.kept (HK1.out.trans HK.out)).cell_of k x hx
      cases e2
      have x0 : wr.cell? ⟨KB, 0, none⟩ = some (.slice ak k ck) := HX.out.cell 0 _ rfl
      have zx := HX.out.lt
      have t0 : wr.cell? ⟨w1.heap.size, 0, none⟩ = some (.map (some m1)) := HY.out.cell 0 _ rfl
      have t1 : wr.cell? ⟨w1.heap.size, 1, none⟩ = some (.map (some m2)) := HY.out.cell 1 _ rfl
      have t2 : wr.cell? ⟨w1.heap.size, 2, none⟩ = some (.map (some m3)) := HY.out.cell 2 _ rfl
      have t3 : wr.cell? ⟨w1.heap.size, 3, none⟩ = some (.int .i64 c.order.length) := HY.out.cell 3 _ rfl
      have HKX := Lib.hid (HKY.out (.agg #[.map (some m1), .map (some m2), .map (some m3), .int .i64 c.order.length]) x wr.drew (HTR.out.kept (HK.out.trans (kept_drewN wr 1))) hxl)
      unfold RowQ at HKX
      have HOV := Lib.hid hov
      have HKR := Lib.hid hkr
      clear hov hkr
      go_wp2_with fail
      go_region_law (first
        | (go_simp; go_at_call 24; refine HKX.out.mono ?_; rintro e w6 ⟨vk, rfl, hr6, hk6⟩; have k06 : Kept wr w6 := (kept_drewN wr 1).trans hk6; have HR6 := Lib.hid hr6; have x6 : w6.cell? ⟨KB, 0, none⟩ = some (.slice ak k ck) := (k06.cell (p := ⟨KB, 0, none⟩) zx).trans x0; have zx6 : KB < w6.heap.size := Nat.lt_of_lt_of_le zx k06.size; obtain ⟨av, cv, rfl, _, _, _⟩ := own_cap hr6; have HKA6 := Lib.hid ((own_kept HKR.out k06).alloc (.cells #[.slice av (keyI c x).length cv] 73)); have HXA6 := Lib.hid ((HX.out.kept k06).alloc (.cells #[.slice av (keyI c x).length cv] 73)); have HBS6 : Hid (w1.heap.size ≤ (w6.alloc (.cells #[.slice av (keyI c x).length cv] 73)).heap.size) := Nat.le_trans (Nat.le_trans (Nat.le_of_lt hws) k06.size) (kept_alloc w6 _).size; have HSRC : Hid (0 < 1 → ∃ g o2, (some ⟨w6.heap.size, 0, none⟩ : Option Addr) = some ⟨g, o2, none⟩ ∧ ∀ (j : Nat) u, [Value.slice av (keyI c x).length cv][j]? = some u → (w6.alloc (.cells #[.slice av (keyI c x).length cv] 73)).cell? ⟨g, o2 + j, none⟩ = some u) := (fun _ => ⟨_, _, rfl, fun j u hu => (by cases j with | zero => cases hu; exact (Blk.new w6 73 #[.slice av (keyI c x).length cv]).cell 0 _ rfl | succ j => simp at hu)⟩); have HK06 := Lib.hid k06; clear hr6 hk6 k06)
        | (refine step_append_any _ rfl (.tmp 25) (.tmp 29) 117 rfl w1.heap.size 73 j0 (.slice none 0 0) 1 24 Tryz.underlying117 hj hy0 hy1 hy2 rfl (by decide) (.slice ak k ck) k ks (by simp [Act.eval, Act.put]) HKA6.out (some ⟨w6.heap.size, 0, none⟩) 1 1 [.slice av (keyI c x).length cv] (by simp [Act.eval, Act.put]) rfl HSRC.out (by simp [Value.oneCell']) (by unfold maxLen; omega) (by omega) HBS6.out ?_; intro kv' wz hown7 hgrow7; have hbz := (hgrow7.block KB HXA6.out.lt (own_no_blk HKA6.out HXA6.out (by decide))).trans HXA6.out; have xz : wz.cell? ⟨KB, 0, none⟩ = some (.slice ak k ck) := (show Blk wz KB 117 _ from hbz).cell 0 _ rfl; have fz : wz.frozen? ⟨KB, 0, none⟩ = false := (show Blk wz KB 117 _ from hbz).free 0; have zz : KB < wz.heap.size := (show Blk wz KB 117 _ from hbz).lt; have HG7 := Lib.hid hgrow7; have HO7 := Lib.hid hown7; obtain ⟨ak7, ck7, rfl, _, _, _⟩ := own_cap hown7; clear hown7 hgrow7 hbz))
      all_goals
        have HS := srt_key HX.out HKR.out HOV.out HKV.out HY.out (by omega) (by omega) HK06.out HR6.out hx hkl HG7.out HO7.out
        have hOn := HS.2.2.2.2.2
        have HS7 := Lib.hid HS
        have HK7 := Lib.hid (HK.out.trans' (hOn.below (Nat.le_of_lt hws) (fun i h => h)))
        have hov := HS.2.2.1
        have hws7 : wr.heap.size ≤ (wz.setCell ⟨KB, 0, none⟩ (Value.slice ak7 (k + 1) ck7)).heap.size := hOn.size
        clear HS hOn HG7 HO7 xz fz zz HSRC HBS6 HXA6 HKA6 x6 zx6 HR6 HK06 x0 zx t0 t1 t2 t3 HKX HOV HKR HX HKV HY HK
        generalize wz.setCell ⟨KB, 0, none⟩ (Value.slice ak7 (k + 1) ck7) = W at *
        go_wp2_with (at_builtin; refine wpList_append_lies _ rfl _ _ 73 rfl w1.heap.size 3 i0 (.int .i64 0) 1 8 Tryz.underlying73 hi hz0 hz1 hz2 rfl (by decide) _ _ _ rfl (hov.alloc _) ⟨W.heap.size, 0, none⟩ 1 1 [.int .i64 k] rfl rfl (new_cells _ #[.int .i64 k] _ _ (by simp)) (by simp [Value.oneCell']) (by omega) (by unfold maxLen; omega) (by omega) (by simp; omega) (W.heap.size + 1) (by simp) ?_; intro g8 cap8 w8 hown8 hgrow8 hat8 hlt8)
        have HS8 := Lib.hid (srt_out (cap := cap8) HS7.out.1 HS7.out.2.1 HS7.out.2.2.1 HS7.out.2.2.2.1 HS7.out.2.2.2.2.1 hgrow8 hat8)
        have HK8 := Lib.hid (HK7.out.trans' (HS8.out.2.2.2.2.below HK7.out.size (fun i h => h)))
        have hO8 : w8.ownsRow w1.heap.size 3 1 (.slice (some ⟨g8, 0, none⟩) (k + 1) cap8) (k + 1) (intC ((List.range (k + 1)).map fun i : Nat => (i : Int))) := by
          rw [List.range_succ, List.map_append, intC_app]; exact hown8
        have HO8 := Lib.hid hO8
        clear hown8 hgrow8 hat8 hlt8 hov hO8 HS7 HK7
        go_wp2_with fail
        go_roundw
        case rel => exact ⟨k + 1, _, _, by omega, by go_num, by simp; omega, HO8.out, HS8.out.2.1, HS8.out.1, HS8.out.2.2.1, HS8.out.2.2.2.1, HK8.out⟩
        case measure => simp [intOf]; omega
    · obtain rfl : k = l.length := by omega
      obtain ⟨_, _, e1, _, _, hcO⟩ := own_cap hov
      cases e1
      obtain ⟨gO, rfl, hO1, hO2, _⟩ := hcO hn
      obtain ⟨_, _, e2, _, _, hcK⟩ := own_cap hkr
      cases e2
      obtain ⟨gK, rfl, _, hK2, hKc⟩ := hcK hn
      have x0 : wr.cell? ⟨KB, 0, none⟩ = some (.slice (some ⟨gK, 0, none⟩) l.length ck) := HX.out.cell 0 _ rfl
      have l0 : wr.cell? ⟨w.heap.size + 1, 0, none⟩ = some (.slice (some ⟨gl, ol, none⟩) l.length cL) := (HB1.out.kept HK.out).cell 0 _ rfl
      have hat : ∀ i x, l[i]? = some x → ∃ v, ks[i]? = some v ∧ wr.cell? ⟨gK, 0 + i, none⟩ = some v := fun i x hx => by
        have hi : i < ks.length := by have := (List.getElem?_eq_some_iff.1 hx).1; omega
        exact ⟨ks[i], List.getElem?_eq_getElem hi, by rw [Nat.zero_add]; exact hKc i _ (List.getElem?_eq_getElem hi)⟩
      have HF := Lib.hid (sortfn_wide c l gK 0 ck gl ol cL KB (w.heap.size + 1) gO co w1.heap.size wr hs hn h12 hll
        ⟨hK2, hck, fun i x hx => by
          obtain ⟨v, hv, hc⟩ := hat i x hx
          obtain ⟨B, h1, _⟩ := HKV.out i v x hv hx
          exact ⟨v, hc, Ints.own h1⟩⟩
        (HL.out.kept (HK1.out.trans HK.out)) x0 l0 hov
        (fun q => own_no_own hkr hov (by decide) gK rfl (by rw [q]; rfl)) (by omega) (fun q => own_no_blk hov HX.out (by decide) (by rw [q]; rfl)) (by omega)
        (fun i x v hx hc g' hg' q => by
          obtain ⟨v2, hv2, hc2⟩ := hat i x hx
          rw [hc] at hc2
          obtain rfl : v = v2 := Option.some.inj hc2
          obtain ⟨B, _, h2⟩ := HKV.out i v x hv2 hx
          exact h2 g' hg' (by rw [q]; rfl)))
      have hmf : ∀ (fn : Fn) (first cap : Array Value) (w : World), (Instr.makeFunc fn first cap).run Tryz.prog w = .ok (.func fn first cap) w := fun _ _ _ _ => rfl
      clear hov hkr x0 l0 hat hKc hcO hcK
      go_wp2_with fail
      refine HF.out.mono ?_
      rintro e w9 ⟨rfl, hi9, ho9⟩
      have HI9 := Lib.hid hi9
      have HK9 : Hid (Kept w w9) := (HK1.out.trans HK.out).trans' (ho9.below (HK1.out.trans HK.out).size (fun i e => by omega))
      clear hi9 ho9
      go_wp2_with fail
      go_ret
      exact ⟨_, rfl, HI9.out, (fun g hg => by have h1 := hO1; have h2 := HK1.out.size; cases hg; show w.heap.size ≤ gO; omega), HK9.out⟩


def IntsB (xs : List Int) (w : World) (e : Ending) (w' : World) : Prop := ∃ v, e = .returned v ∧ Ints w' v xs ∧ (0 < xs.length → ∀ g, v.ownBlock = some g → w.heap.size ≤ g) ∧ Kept w w'
theorem sort_wide (vR vO vL : Value) (c : ColT) (l : List Bs) (w : World) (hv : Col w vR vO c) (hL : Strs w vL l) (hs : SmallC c) (h12 : l.length ≤ 1000) (hll : ∀ x ∈ l, x.length ≤ 100000) :
    Calls Tryz.prog 43 #[colV vR vO c.ignore, vL] w (IntsB ((sortC c l).map fun i : Nat => (i : Int)) w) := by
  by_cases hn : 0 < l.length
  · exact (sort_wide0 vR vO vL c l w hv hL hs hn h12 hll).mono fun e w' ⟨v, h1, h2, h3, h4⟩ => ⟨v, h1, h2, fun _ => h3, h4⟩
  · obtain rfl : l = [] := List.length_eq_zero_iff.1 (by omega)
    exact (sort_nil vR vO vL c w hv hL hs).mono fun e w' ⟨v, h1, h2, h4⟩ => ⟨v, h1, h2, fun q => absurd q (by have h := (sortC_perm c []).length_eq; simp only [List.length_range, List.length_nil] at h; rw [List.length_map, h]; exact Nat.lt_irrefl 0), h4⟩
end Go.Proofs.YtnbhpmleboildaaGreatDoor

/- tree.Inlines: all inlines of blocks. Conditions: lengths. -/
set_option linter.all false
namespace Go.Proofs.YtnbhpmleboildaaGreatDoor
open Go.RowKit

/-- The function that goes through a line. -/
abbrev inF (O F : Nat) : Value := .func (.func 33) #[] #[.pointer (some ⟨O, 0, none⟩), .pointer (some ⟨F, 0, none⟩)]
/-- What it leaves: the list is longer, all else from below its rows is as it was. -/
def In1P (A : Nat → Prop) (N O F base : Nat) (ys zs : List Inl) (w : World) (e : Ending) (w' : World) : Prop := e = .returned (.tuple #[]) ∧ ∃ vO, Blk w' O 36 #[vO] ∧ OutG (InlK N) 10 A base 51 w' vO (ys ++ zs) ∧ Only (fun g => g = O ∨ base ≤ g) w w'
set_option maxRecDepth 100000 in
set_option maxHeartbeats 12800000 in
theorem inline1_any (A : Nat → Prop) (N B O F base : Nat) (hAO : ∀ g, A g → g ≠ O) (hAB : ∀ g, g < B → A g) (hAb : ∀ g, base ≤ g → A g) (hBO : B ≤ O) (hBF : B ≤ F) (hOF : O ≠ F) (hOb : O < base) (hFb : F < base) : ∀ (n : Nat) (xs : List Inl) (v : Value) (ys : List Inl) (vO : Value) (w : World), n ≤ N → Lns (fun g => g < B) n w v xs → xs.length ≤ 1000000 → okIL xs → base ≤ w.heap.size → Blk w O 36 #[vO] → Blk w F 86 #[inF O F] → OutG (InlK N) 10 A base 51 w vO ys → ys.length + (deepL xs).length ≤ 1000000 →
    Calls Tryz.prog 33 #[v, .pointer (some ⟨O, 0, none⟩), .pointer (some ⟨F, 0, none⟩)] w (In1P A N O F base ys (deepL xs) w) := by
  intro n
  induction n with
  | zero =>
    intro xs v ys vO w hN hv hl hok hb hO hF hout hlen
    obtain rfl := hv.no
    obtain ⟨a, c, rfl, hc⟩ := hv.form
    have HFIN : In1P A N O F base ys (deepL []) w (.returned (.tuple #[])) w := ⟨rfl, vO, hO, by show OutG _ _ _ _ _ _ _ (ys ++ []); rw [List.append_nil]; exact hout, Only.of_kept (Kept.refl w)⟩
    clear hv hok hO hF hout hlen
    go_enter Tryz.func33, Tryz.ntmps33
    go_wp2_with fail
    go_loopw [8] (fun i wr => i = .int .i64 0 ∧ w = wr) (fun i _ => 1)
    case atStart => exact ⟨rfl, rfl⟩
    case round =>
      obtain ⟨rfl, rfl⟩ := hrel
      go_wp2_with fail
      (try simp only [Exit.inBlock, Exit.then]); refine bodyPost_ret (results_none rfl _ _ _) rfl ?_
      exact HFIN
  | succ n ih =>
    intro xs v ys vO w hN hv hl hok hb hO hF hout hlen
    have HV := Lib.hid hv
    have HOK := Lib.hid hok
    have HO0 := Lib.hid hO
    have HF0 := Lib.hid hF
    have HG0 : Hid (OutG (InlK N) 10 A base 51 w vO (ys ++ deepL (xs.take 0))) := by show OutG _ _ _ _ _ _ _ (ys ++ []); rw [List.append_nil]; exact hout
    have HFIN : Hid (∀ vO w', Blk w' O 36 #[vO] → OutG (InlK N) 10 A base 51 w' vO (ys ++ deepL (xs.take xs.length)) → Only (fun g => g = O ∨ base ≤ g) w w' → In1P A N O F base ys (deepL xs) w (.returned (.tuple #[])) w') := fun vO w' h1 h2 h3 => ⟨rfl, vO, h1, by rw [List.take_length] at h2; exact h2, h3⟩
    have HLE := Lib.hid (deepL_le xs)
    have HTK : Hid (∀ (k : Nat) (x : Inl), xs[k]? = some x → deepL (xs.take (k + 1)) = deepL (xs.take k) ++ (x :: deepL x.kids)) := fun k x h => by rw [deepL_take h, deep1_eq]
    have HIH := Lib.hid ih
    unfold In1P at HIH
    obtain ⟨a, c, rfl, hc⟩ := hv.form
    generalize hP : In1P A N O F base ys (deepL xs) w = P at *
    clear hP hv hok hO hF hout ih
    go_enter Tryz.func33, Tryz.ntmps33
    go_wp2_with fail
    go_loopw [8] (fun i wr => ∃ (k : Nat) (vr : Value), k ≤ xs.length ∧ i = .int .i64 k ∧ Hid (Blk wr O 36 #[vr]) ∧ Hid (OutG (InlK N) 10 A base 51 wr vr (ys ++ deepL (xs.take k))) ∧ Hid (Only (fun g => g = O ∨ base ≤ g) w wr)) (fun i _ => xs.length - (intOf i).toNat)
    case atStart => exact ⟨0, vO, Nat.zero_le _, rfl, HO0.out, HG0.out, Only.of_kept (Kept.refl w)⟩
    case round =>
      obtain ⟨k, vr, hk, rfl, HOR, HGR, HKR⟩ := hrel
      have hbr : base ≤ wr.heap.size := Nat.le_trans hb HKR.out.size
      by_cases hlt : k < xs.length
      · obtain ⟨x, hx⟩ : ∃ x, xs[k]? = some x := ⟨_, List.getElem?_eq_getElem hlt⟩
        have HVR := Lib.hid (HV.out.sam (Sam.only HKR.out (fun g _ h q => by omega)) (fun g _ h => h))
        have HFR : Hid (Blk wr F 86 #[inF O F]) := by
          show wr.heap[F]? = _
          rw [HKR.out.block F HF0.out.lt (by omega)]; exact HF0.out
        have hfit := (okIL_at HOK.out x (List.mem_of_getElem? hx)).fit
        have hle := HLE.out (k + 1)
        have HT := Lib.hid (HTK.out k x hx)
        rw [HT.out, List.length_append, List.length_cons] at hle
        obtain ⟨g, o, vC, vP, vA, vT, vK, rfl, hg, hgB, -, -, ⟨d0, d1, d2, d3, d4, d5, d6, d7, d8, d9⟩, -, ⟨hC, -⟩, ⟨hPP, -⟩, ⟨hA, -⟩, hTT, hK⟩ := Lns.at_ HVR.out k x hx
        obtain ⟨kind, text, dest, title, id, cls, prs, args, cits, kids⟩ := x
        simp only [Inl.kind, Inl.text, Inl.dest, Inl.title, Inl.id, Inl.cls, Inl.prs, Inl.args, Inl.cits, Inl.kids] at d0 d1 d2 d3 d4 hC hPP hA hTT hK hfit HT hle
        obtain ⟨⟨f1, f2, f3, f4, f5, f6, f7, f8, f9⟩, f10⟩ := hfit
        have HC := Lib.hid hC
        have HPP := Lib.hid hPP
        have HA := Lib.hid hA
        have HTT := Lib.hid hTT
        have HKK := Lib.hid hK
        have HKO := Lib.hid f10
        obtain ⟨aC, cC, rfl, lC⟩ := hC.shape
        obtain ⟨aP, cP, rfl, lP⟩ := hPP.shape
        obtain ⟨aA, cA, rfl, lA⟩ := hA.shape
        obtain ⟨aT, cT, rfl, lT⟩ := hTT.form
        obtain ⟨aK, cK, rfl, lK⟩ := hK.form
        clear hC hPP hA hTT hK f10 hx HTK HLE HV HFIN
        have HI0 := Lib.hid (Blk.new wr 51 #[.int .i64 kind, .string (bs text), .string (bs dest), .string (bs title), .string (bs id), (.slice aC cls.length cC), (.slice aP prs.length cP), (.slice aA args.length cA), (.slice aT cits.length cT), (.slice aK kids.length cK)])
        have HKI := Lib.hid (kept_alloc wr (.cells #[.int .i64 kind, .string (bs text), .string (bs dest), .string (bs title), .string (bs id), (.slice aC cls.length cC), (.slice aP prs.length cP), (.slice aA args.length cA), (.slice aT cits.length cT), (.slice aK kids.length cK)] 51))
        have HCA := Lib.hid (fun vC vP w h1 h2 => tcat_any id vC vP cls prs w h1 h2 (by omega) (by omega))
        unfold CatP at HCA
        have HCS := Lib.hid (fun v w h => clnS v args w h (by omega))
        unfold ClnS at HCS
        have HCT := Lib.hid (fun (S : Nat → Prop) v w h => clnT (S := S) v cits w h (by omega))
        unfold ClnT at HCT
        obtain ⟨I, HII⟩ : ∃ I, Hid (wr.heap.size = I) := ⟨_, rfl⟩
        have hIz : wr.heap.size ≤ I := by rw [HII.out]; exact Nat.le_refl _
        go_wp2_with fail
        generalize wr.alloc _ = w0 at *
        rw [HII.out] at HI0 ⊢
        have hIw0 : I < w0.heap.size := HI0.out.lt
        clear d0 d1 d2 d3 d4 d5 d6 d7 d8
        refine (HCA.out _ _ _ (HC.out.kept HKI.out) (HPP.out.kept HKI.out)).mono ?_
        rintro e w1 ⟨vC1, vP1, rfl, ⟨hc1, ic1⟩, ⟨hp1, ip1⟩, hk1⟩
        obtain ⟨aC1, cC1, rfl, lC1⟩ := hc1.shape
        obtain ⟨aP1, cP1, rfl, lP1⟩ := hp1.shape
        have HC1 := Lib.hid hc1
        have HIC1 := Lib.hid ic1
        have HP1 := Lib.hid hp1
        have HIP1 := Lib.hid ip1
        have HI1 := Lib.hid (HI0.out.kept hk1)
        have HK1 := Lib.hid (HKI.out.trans hk1)
        have hz1 : w0.heap.size ≤ w1.heap.size := hk1.size
        clear hc1 ic1 hp1 ip1 hk1 HI0 HCA HC HPP
        go_wp2_with (refine wpList_store_part rfl 35 (.tmp 18) (.tmp 17) (by rfl) I 4 51 _ #[.string (bs id), .slice aC1 cls.length cC1, .slice aP1 prs.length cP1] (by rfl) (by rfl) HI1.out (by show 4 + 3 ≤ 10; omega) Tryz.sizeAt (by simp only [List.all_toArray, List.all_cons, List.all_nil]; rfl) ?_; intro w2 hb2 ho2; have HI2 : Hid (Blk w2 I 51 #[.int .i64 kind, .string (bs text), .string (bs dest), .string (bs title), .string (bs id), (.slice aC1 cls.length cC1), (.slice aP1 prs.length cP1), (.slice aA args.length cA), (.slice aT cits.length cT), (.slice aK kids.length cK)]) := hb2; have HK2 := Lib.hid (HK1.out.trans' (ho2.below HK1.out.size (fun i e => by rw [e]; exact hIz))); have HC2 := Lib.hid (HC1.out.onlS HIC1.out ho2 (fun g _ hs q => by omega)); have HP2 := Lib.hid (HP1.out.onlS HIP1.out ho2 (fun g _ hs q => by omega)); have hz2 := Nat.le_trans hz1 ho2.size; have b7 : w2.cell? ⟨I, 7, none⟩ = some (.slice aA args.length cA) := HI2.out.cell 7 _ rfl; have zI := HI2.out.lt; clear hb2 ho2 HI1 HK1 HC1 HP1)
        clear b7 zI
        refine (HCS.out _ _ (HA.out.kept HK2.out)).mono ?_
        rintro e w3 ⟨vA1, rfl, ha1, ia1, hk3⟩
        obtain ⟨aA1, cA1, rfl, lA1⟩ := ha1.shape
        have HA3 := Lib.hid ha1
        have HIA3 : Hid (InB (fun g => w0.heap.size ≤ g) (.slice aA1 args.length cA1) args.length) := ia1.mono (fun g _ _ q => Nat.le_trans hz2 q)
        have HI3 := Lib.hid (HI2.out.kept hk3)
        have HK3 := Lib.hid (HK2.out.trans hk3)
        have HC3 := Lib.hid (HC2.out.kept hk3)
        have HP3 := Lib.hid (HP2.out.kept hk3)
        have hz3 : w0.heap.size ≤ w3.heap.size := Nat.le_trans hz2 hk3.size
        clear ha1 ia1 hk3 HI2 HK2 HC2 HP2 HCS HA
        have b7 : w3.cell? ⟨I, 7, none⟩ = some (.slice aA args.length cA) := HI3.out.cell 7 _ rfl
        have b8 : w3.cell? ⟨I, 8, none⟩ = some (.slice aT cits.length cT) := HI3.out.cell 8 _ rfl
        have f7 := HI3.out.free 7
        have zI := HI3.out.lt
        have HI4 : Hid (Blk (w3.setCell ⟨I, 7, none⟩ (.slice aA1 args.length cA1)) I 51 #[.int .i64 kind, .string (bs text), .string (bs dest), .string (bs title), .string (bs id), (.slice aC1 cls.length cC1), (.slice aP1 prs.length cP1), (.slice aA1 args.length cA1), (.slice aT cits.length cT), (.slice aK kids.length cK)]) := HI3.out.set 7 _
        have HO4 := Lib.hid (Only.setCell (w := w3) I 7 (.slice aA1 args.length cA1))
        have HK4 := Lib.hid (kept_set HK3.out I 7 (.slice aA1 args.length cA1) hIz)
        have HC4 := Lib.hid (HC3.out.onlS HIC1.out HO4.out (fun g _ hs q => by omega))
        have HP4 := Lib.hid (HP3.out.onlS HIP1.out HO4.out (fun g _ hs q => by omega))
        have HA4 := Lib.hid (HA3.out.onlS HIA3.out HO4.out (fun g _ hs q => by omega))
        have hz4 : w0.heap.size ≤ (w3.setCell ⟨I, 7, none⟩ (.slice aA1 args.length cA1)).heap.size := by rw [size_setCell]; exact hz3
        go_wp2_with fail
        generalize World.setCell _ _ _ = w4 at *
        clear b7 b8 f7 zI HI3 HK3 HC3 HP3 HA3 HO4
        refine (HCT.out _ _ _ (HTT.out.sam (Sam.kept HK4.out) (fun _ _ q => q))).mono ?_
        rintro e w5 ⟨vT1, rfl, ht1, hk5⟩
        obtain ⟨aT1, cT1, rfl, lT1⟩ := ht1.form
        have HT5 : Hid (Cits (fun g => w0.heap.size ≤ g) w5 (.slice aT1 cits.length cT1) cits) := ht1.sam (fun _ _ _ => rfl) (fun g _ q => Nat.le_trans hz4 q)
        have HI5 := Lib.hid (HI4.out.kept hk5)
        have HK5 := Lib.hid (HK4.out.trans hk5)
        have HC5 := Lib.hid (HC4.out.kept hk5)
        have HP5 := Lib.hid (HP4.out.kept hk5)
        have HA5 := Lib.hid (HA4.out.kept hk5)
        clear ht1 hk5 HI4 HK4 HC4 HP4 HA4 HCT HTT
        have b8 : w5.cell? ⟨I, 8, none⟩ = some (.slice aT cits.length cT) := HI5.out.cell 8 _ rfl
        have f8 := HI5.out.free 8
        have zI := HI5.out.lt
        have HI6 : Hid (Blk (w5.setCell ⟨I, 8, none⟩ (.slice aT1 cits.length cT1)) I 51 #[.int .i64 kind, .string (bs text), .string (bs dest), .string (bs title), .string (bs id), (.slice aC1 cls.length cC1), (.slice aP1 prs.length cP1), (.slice aA1 args.length cA1), (.slice aT1 cits.length cT1), (.slice aK kids.length cK)]) := HI5.out.set 8 _
        have HO6 := Lib.hid (Only.setCell (w := w5) I 8 (.slice aT1 cits.length cT1))
        have HK6 := Lib.hid (kept_set HK5.out I 8 (.slice aT1 cits.length cT1) hIz)
        have HC6 := Lib.hid (HC5.out.onlS HIC1.out HO6.out (fun g _ hs q => by omega))
        have HP6 := Lib.hid (HP5.out.onlS HIP1.out HO6.out (fun g _ hs q => by omega))
        have HA6 := Lib.hid (HA5.out.onlS HIA3.out HO6.out (fun g _ hs q => by omega))
        have HT6 := Lib.hid (HT5.out.sam (S' := fun g => w0.heap.size ≤ g) (Sam.only HO6.out (fun g _ hs q => by omega)) (fun _ _ q => q))
        go_wp2_with fail
        generalize World.setCell _ _ _ = w6 at *
        clear b8 f8 zI HI5 HK5 HC5 HP5 HA5 HT5 HO6
        have HGR0 := Lib.hid HGR.out
        have HOO := Lib.hid (HOR.out.kept HK6.out)
        have HFF := Lib.hid (HFR.out.kept HK6.out)
        have HGG := Lib.hid (HGR.out.kept (inlK N) HK6.out)
        have HKK6 := Lib.hid (HKK.out.kept HK6.out)
        clear HOR HFR HGR HKK
        obtain ⟨ar, cr, rfl, hcr, hmr⟩ := HGG.out.form
        have HCL := Lib.hid (HKK6.out.kept (Kept.refl _))
        have hvO : (Value.slice ar (ys ++ deepL (xs.take k)).length cr).ownBlock ≠ some O := fun q => by have := HGG.out.blk O q; omega
        have hvI : (Value.slice ar (ys ++ deepL (xs.take k)).length cr).ownBlock ≠ some I := fun q => by have := HGR0.out.blk I q; omega
        have HY : Hid (InlK N (fun g => A g ∧ (Value.slice ar (ys ++ deepL (xs.take k)).length cr).ownBlock ≠ some g) w6 ([.int .i64 kind, .string (bs text), .string (bs dest), .string (bs title), .string (bs id), (.slice aC1 cls.length cC1), (.slice aP1 prs.length cP1), (.slice aA1 args.length cA1), (.slice aT1 cits.length cT1), (.slice aK kids.length cK)] : List Value) (.mk kind text dest title id cls prs args cits kids)) := by
          have hin : ∀ g, w0.heap.size ≤ g → A g ∧ (Value.slice ar (ys ++ deepL (xs.take k)).length cr).ownBlock ≠ some g := fun g hg => ⟨hAb g (by omega), fun q => by have := HGR0.out.blk g q; omega⟩
          exact ⟨_, _, _, _, _, rfl, ⟨HC6.out, HIC1.out.mono (fun g _ _ q => hin g q)⟩, ⟨HP6.out, HIP1.out.mono (fun g _ _ q => hin g q)⟩, ⟨HA6.out, HIA3.out.mono (fun g _ _ q => hin g q)⟩, HT6.out.step (fun _ _ _ => rfl) (fun g _ q => hin g q) (fun _ _ _ q => q), (HKK6.out.sam (fun _ _ _ => rfl) (fun g _ q => ⟨hAB g q, fun q2 => by have := HGG.out.blk g q2; omega⟩)).ups (by omega)⟩
        have hzl : (ys ++ deepL (xs.take k)).length + 1 ≤ 1000001 := by rw [List.length_append]; omega
        refine push_region (A := A) (N := N) (O := O) (I := I) (base := base) (xs := ys ++ deepL (xs.take k)) (cells := ([.int .i64 kind, .string (bs text), .string (bs dest), .string (bs title), .string (bs id), (.slice aC1 cls.length cC1), (.slice aP1 prs.length cP1), (.slice aA1 args.length cA1), (.slice aT1 cits.length cT1), (.slice aK kids.length cK)] : List Value)) (x := .mk kind text dest title id cls prs args cits kids) rfl rfl rfl rfl rfl rfl rfl rfl rfl rfl rfl rfl rfl rfl rfl rfl rfl rfl rfl rfl rfl rfl rfl rfl (by kernel_rfl) (by kernel_rfl) (by simp) (by simp) (by simp) (by simp) (by simp) (by simp) (by simp) (by simp) (by simp) (by simp) (by simp) (by simp) rfl rfl rfl HOO.out HI6.out HGG.out hAO hvO hvI (by omega) hOb (by omega) HY.out hzl ?_
        intro u0 u1 u2 u3 u4 u5 g7 c7 w7 hout7 hO7 hon7
        have HOUT := Lib.hid hout7
        have HO7 := Lib.hid hO7
        have HON : Hid (Only (fun i => i = O ∨ base ≤ i) w w7) := HKR.out.trans (((Only.of_kept HK6.out)).trans hon7)
        have HF7 : Hid (Blk w7 F 86 #[inF O F]) := by
          show w7.heap[F]? = _
          rw [hon7.block F HFF.out.lt (by omega)]; exact HFF.out
        have HKS : Hid (Lns (fun g => g < B) n w7 (.slice aK kids.length cK) kids) := HKK6.out.sam (Sam.only hon7 (fun g _ q r => by omega)) (fun _ _ q => q)
        have hw7 : base ≤ w7.heap.size := Nat.le_trans hb HON.out.size
        have t9 : w7.cell? ⟨g, o + k * 10 + 9, none⟩ = some (.slice aK kids.length cK) := by
          have hg6 : g < w6.heap.size := Nat.lt_of_lt_of_le hg HK6.out.size
          rw [hon7.cell g _ hg6 (by omega), HK6.out.cell (p := ⟨g, _, none⟩) hg]; exact d9
        have tF : w7.cell? ⟨F, 0, none⟩ = some (inF O F) := HF7.out.cell 0 _ rfl
        have zF := HF7.out.lt
        have hl7 : (ys ++ deepL (xs.take k) ++ [(Inl.mk kind text dest title id cls prs args cits kids)]).length + (deepL kids).length ≤ 1000000 := by
          rw [List.length_append, List.length_append, List.length_singleton]; omega
        have heq : ys ++ deepL (xs.take k) ++ [(Inl.mk kind text dest title id cls prs args cits kids)] ++ deepL kids = ys ++ deepL (xs.take (k + 1)) := by
          rw [HT.out]; simp
        have HEQ := Lib.hid heq
        clear heq hout7 hO7 hon7 HOO HI6 HGG HY HIC1 HIP1 HIA3 HT6 HKK6 HC6 HP6 HA6 HF0 HO0 HCL HGR0 hvO hvI
        simp only [Act.put, List.setIfInBounds_toArray, List.set_cons_succ, List.set_cons_zero]
        go_wp2_with fail
        have t9' : w7.drew.cell? ⟨g, o + k * 10 + 9, none⟩ = some (.slice aK kids.length cK) := t9
        have tF' : w7.drew.cell? ⟨F, 0, none⟩ = some (inF O F) := tF
        have HCALL := Lib.hid (HIH.out _ _ _ _ _ (by omega) (HKS.out.kept (kept_drewN w7 1)) f9 HKO.out hw7 (HO7.out.kept (kept_drewN w7 1)) (HF7.out.kept (kept_drewN w7 1)) (HOUT.out.kept (inlK N) (kept_drewN w7 1)) hl7)
        clear HIH HKS HO7 HF7 HOUT
        go_region_with (go_at_call 33; refine HCALL.out.mono ?_; rintro e w8 ⟨rfl, v8, hO8, hout8, hon8⟩)
        all_goals
          have HO8 := Lib.hid hO8
          have HOUT8 : Hid (OutG (InlK N) 10 A base 51 w8 v8 (ys ++ deepL (xs.take (k + 1)))) := by rw [HEQ.out] at hout8; exact hout8
          have HON8 : Hid (Only (fun g => g = O ∨ base ≤ g) w w8) := HON.out.trans ((Only.of_kept (kept_drewN w7 1)).trans hon8)
          clear hO8 hout8 hon8 HEQ HCALL t9 t9' tF tF' zF HON
          go_wp2_with fail
          go_roundw
          case rel => exact ⟨k + 1, v8, by omega, by go_num, HO8.out, HOUT8.out, HON8.out⟩
          case measure => simp [intOf]; omega
      · obtain rfl : k = xs.length := by omega
        have HF := Lib.hid (HFIN.out vr wr HOR.out HGR.out HKR.out)
        clear HFIN HTK HLE HIH HOR HGR HKR HV HOK HO0 HF0 HG0
        go_wp2_with fail
        (try simp only [Exit.inBlock, Exit.then]); refine bodyPost_ret (results_none rfl _ _ _) rfl ?_
        exact HF.out
/-- What the second closure leaves. -/
abbrev blF (F G : Nat) : Value := .func (.func 37) #[] #[.pointer (some ⟨F, 0, none⟩), .pointer (some ⟨G, 0, none⟩)]
set_option maxRecDepth 100000 in
set_option maxHeartbeats 12800000 in
theorem inline2_any (A : Nat → Prop) (N B O F G base : Nat) (hAO : ∀ g, A g → g ≠ O) (hAB : ∀ g, g < B → A g) (hAb : ∀ g, base ≤ g → A g) (hBO : B ≤ O) (hBF : B ≤ F) (hBG : B ≤ G) (hOF : O ≠ F) (hOG : O ≠ G) (hOb : O < base) (hFb : F < base) (hGb : G < base) : ∀ (m : Nat) (xs : List Blo) (v : Value) (ys : List Inl) (vO : Value) (w : World), Bls (fun g => g < B) N m w v xs → xs.length ≤ 1000000 → okBL xs → base ≤ w.heap.size → Blk w O 36 #[vO] → Blk w F 86 #[inF O F] → Blk w G 92 #[blF F G] → OutG (InlK N) 10 A base 51 w vO ys → ys.length + (inlsL xs).length ≤ 1000000 →
    Calls Tryz.prog 37 #[v, .pointer (some ⟨F, 0, none⟩), .pointer (some ⟨G, 0, none⟩)] w (In1P A N O F base ys (inlsL xs) w) := by
  intro m
  induction m with
  | zero =>
    intro xs v ys vO w hv hl hok hb hO hF hG hout hlen
    obtain rfl := hv.no
    obtain ⟨a, c, rfl, hc⟩ := hv.form
    have HFIN : In1P A N O F base ys (inlsL []) w (.returned (.tuple #[])) w := ⟨rfl, vO, hO, by show OutG _ _ _ _ _ _ _ (ys ++ []); rw [List.append_nil]; exact hout, Only.of_kept (Kept.refl w)⟩
    clear hv hok hO hF hG hout hlen
    go_enter Tryz.func37, Tryz.ntmps37
    go_wp2_with fail
    go_loopw [7] (fun i wr => i = .int .i64 0 ∧ w = wr) (fun i _ => 1)
    case atStart => exact ⟨rfl, rfl⟩
    case round =>
      obtain ⟨rfl, rfl⟩ := hrel
      go_wp2_with fail
      (try simp only [Exit.inBlock, Exit.then]); refine bodyPost_ret (results_none rfl _ _ _) rfl ?_
      exact HFIN
  | succ m ih =>
    intro xs v ys vO w hv hl hok hb hO hF hG hout hlen
    have HV := Lib.hid hv
    have HOK := Lib.hid hok
    have HO0 := Lib.hid hO
    have HF0 := Lib.hid hF
    have HG00 := Lib.hid hG
    have HG0 : Hid (OutG (InlK N) 10 A base 51 w vO (ys ++ inlsL (xs.take 0))) := by show OutG _ _ _ _ _ _ _ (ys ++ []); rw [List.append_nil]; exact hout
    have HFIN : Hid (∀ vO w', Blk w' O 36 #[vO] → OutG (InlK N) 10 A base 51 w' vO (ys ++ inlsL (xs.take xs.length)) → Only (fun g => g = O ∨ base ≤ g) w w' → In1P A N O F base ys (inlsL xs) w (.returned (.tuple #[])) w') := fun vO w' h1 h2 h3 => ⟨rfl, vO, h1, by rw [List.take_length] at h2; exact h2, h3⟩
    have HLE := Lib.hid (inlsL_le xs)
    have HTK : Hid (∀ (k : Nat) (x : Blo), xs[k]? = some x → inlsL (xs.take (k + 1)) = inlsL (xs.take k) ++ (deepL x.line ++ inlsL x.kids)) := fun k x h => by rw [inlsL_take h, inls1_eq]
    have HIH := Lib.hid ih
    unfold In1P at HIH
    have HI1 := Lib.hid (fun xs v ys vO w => inline1_any A N B O F base hAO hAB hAb hBO hBF hOF hOb hFb N xs v ys vO w (Nat.le_refl _))
    unfold In1P at HI1
    obtain ⟨a, c, rfl, hc⟩ := hv.form
    generalize hP : In1P A N O F base ys (inlsL xs) w = P at *
    clear hP hv hok hO hF hG hout ih
    go_enter Tryz.func37, Tryz.ntmps37
    go_wp2_with fail
    go_loopw [7] (fun i wr => ∃ (k : Nat) (vr : Value), k ≤ xs.length ∧ i = .int .i64 k ∧ Hid (Blk wr O 36 #[vr]) ∧ Hid (OutG (InlK N) 10 A base 51 wr vr (ys ++ inlsL (xs.take k))) ∧ Hid (Only (fun g => g = O ∨ base ≤ g) w wr)) (fun i _ => xs.length - (intOf i).toNat)
    case atStart => exact ⟨0, vO, Nat.zero_le _, rfl, HO0.out, HG0.out, Only.of_kept (Kept.refl w)⟩
    case round =>
      obtain ⟨k, vr, hk, rfl, HOR, HGR, HKR⟩ := hrel
      have hbr : base ≤ wr.heap.size := Nat.le_trans hb HKR.out.size
      by_cases hlt : k < xs.length
      · obtain ⟨x, hx⟩ : ∃ x, xs[k]? = some x := ⟨_, List.getElem?_eq_getElem hlt⟩
        have HVR := Lib.hid (HV.out.sam (Sam.only HKR.out (fun g _ h q => by omega)) (fun g _ h => h))
        have HFR : Hid (Blk wr F 86 #[inF O F]) := by
          show wr.heap[F]? = _
          rw [HKR.out.block F HF0.out.lt (by omega)]; exact HF0.out
        have HGGR : Hid (Blk wr G 92 #[blF F G]) := by
          show wr.heap[G]? = _
          rw [HKR.out.block G HG00.out.lt (by omega)]; exact HG00.out
        have hfit := (okBL_at HOK.out x (List.mem_of_getElem? hx)).fit
        have hle := HLE.out (k + 1)
        have HT := Lib.hid (HTK.out k x hx)
        rw [HT.out, List.length_append, List.length_append] at hle
        obtain ⟨g, o, vC, vP, vL, vK, rfl, hg, hgB, -, -, ⟨-, -, -, -, -, -, -, -, -, d9, d10⟩, -, -, -, hL, hK⟩ := Bls.at_ HVR.out k x hx
        obtain ⟨kind, level, info, text, dest, title, id, cls, prs, line, kids⟩ := x
        simp only [Blo.line, Blo.kids] at hL hK hfit HT hle
        obtain ⟨⟨-, -, -, -, -, -, -, f8, f9⟩, f10, f11⟩ := hfit
        obtain ⟨aL, cL, rfl, lL⟩ := hL.form
        obtain ⟨aK, cK, rfl, lK⟩ := hK.form
        have HLL := Lib.hid hL
        have HKK := Lib.hid hK
        have HKO := Lib.hid f10
        have HKO2 := Lib.hid f11
        have d9' : wr.drew.cell? ⟨g, o + k * 11 + 9, none⟩ = some (.slice aL line.length cL) := d9
        have tF : wr.cell? ⟨F, 0, none⟩ = some (inF O F) := HFR.out.cell 0 _ rfl
        have tF' : wr.drew.cell? ⟨F, 0, none⟩ = some (inF O F) := HFR.out.cell 0 _ rfl
        have hl1 : (ys ++ inlsL (xs.take k)).length + (deepL line).length ≤ 1000000 := by rw [List.length_append]; omega
        have HCALL := Lib.hid (HI1.out _ _ _ _ _ (HLL.out.kept (kept_drewN wr 1)) f8 HKO.out hbr (HOR.out.kept (kept_drewN wr 1)) (HFR.out.kept (kept_drewN wr 1)) (HGR.out.kept (inlK N) (kept_drewN wr 1)) hl1)
        clear hL hK f10 f11 hx HTK HLE HFIN HI1
        go_wp2_with fail
        go_region_with (go_at_call 33; refine HCALL.out.mono ?_; rintro e w7 ⟨rfl, v7, hO7, hout7, hon7⟩)
        all_goals
          have HON : Hid (Only (fun i => i = O ∨ base ≤ i) w w7) := HKR.out.trans ((Only.of_kept (kept_drewN wr 1)).trans hon7)
          have HO7 := Lib.hid (hO7.kept (kept_drewN w7 1))
          have hF7 : Blk w7 F 86 #[inF O F] := by
            show w7.heap[F]? = _
            rw [hon7.block F HFR.out.lt (by omega)]; exact HFR.out
          have hG7 : Blk w7 G 92 #[blF F G] := by
            show w7.heap[G]? = _
            rw [hon7.block G HGGR.out.lt (by omega)]; exact HGGR.out
          have hKS : Bls (fun g => g < B) N m w7.drew (.slice aK kids.length cK) kids := ((HKK.out.kept (kept_drewN wr 1)).sam (Sam.only hon7 (fun g _ q r => by omega)) (fun _ _ q => q)).kept (kept_drewN w7 1)
          have hw7 : base ≤ w7.drew.heap.size := Nat.le_trans hb HON.out.size
          have t10 : w7.cell? ⟨g, o + k * 11 + 10, none⟩ = some (.slice aK kids.length cK) := by
            rw [hon7.cell g _ hg (by omega)]; exact d10
          have t10' : w7.drew.cell? ⟨g, o + k * 11 + 10, none⟩ = some (.slice aK kids.length cK) := t10
          have tG : w7.cell? ⟨G, 0, none⟩ = some (blF F G) := hG7.cell 0 _ rfl
          have tG' : w7.drew.cell? ⟨G, 0, none⟩ = some (blF F G) := hG7.cell 0 _ rfl
          have hl7 : (ys ++ inlsL (xs.take k) ++ deepL line).length + (inlsL kids).length ≤ 1000000 := by
            rw [List.length_append, List.length_append]; omega
          have HCALL2 := Lib.hid (HIH.out _ _ _ _ _ hKS f9 HKO2.out hw7 HO7.out (hF7.kept (kept_drewN w7 1)) (hG7.kept (kept_drewN w7 1)) (hout7.kept (inlK N) (kept_drewN w7 1)) hl7)
          have heq : ys ++ inlsL (xs.take k) ++ deepL line ++ inlsL kids = ys ++ inlsL (xs.take (k + 1)) := by
            rw [HT.out]; simp
          have HEQ := Lib.hid heq
          clear heq hO7 hout7 hon7 hF7 hG7 hKS HCALL d9' tF tF' HO7 HIH HOR HFR HGR HGGR HLL HKK HKO HKO2 HO0 HF0 HG00 HG0 HVR HV HT
          go_wp2_with fail
          go_region_with (go_at_call 37; refine HCALL2.out.mono ?_; rintro e w8 ⟨rfl, v8, hO8, hout8, hon8⟩)
        all_goals
          have HO8 := Lib.hid hO8
          have HOUT8 : Hid (OutG (InlK N) 10 A base 51 w8 v8 (ys ++ inlsL (xs.take (k + 1)))) := by rw [HEQ.out] at hout8; exact hout8
          have HON8 : Hid (Only (fun g => g = O ∨ base ≤ g) w w8) := HON.out.trans ((Only.of_kept (kept_drewN w7 1)).trans hon8)
          clear hO8 hout8 hon8 HEQ HCALL2 t10 t10' tG tG' HON
          go_wp2_with fail
          go_roundw
          case rel => exact ⟨k + 1, v8, by omega, by go_num, HO8.out, HOUT8.out, HON8.out⟩
          case measure => simp [intOf]; omega
      · obtain rfl : k = xs.length := by omega
        have HF := Lib.hid (HFIN.out vr wr HOR.out HGR.out HKR.out)
        clear HFIN HTK HLE HIH HOR HGR HKR HV HOK HO0 HF0 HG0 HI1
        go_wp2_with fail
        (try simp only [Exit.inBlock, Exit.then]); refine bodyPost_ret (results_none rfl _ _ _) rfl ?_
        exact HF.out
end Go.Proofs.YtnbhpmleboildaaGreatDoor

/- tree.Inlines: all inlines of blocks. Conditions: lengths. -/
set_option linter.all false
namespace Go.Proofs.YtnbhpmleboildaaGreatDoor
open Go.RowKit

/-- What tree.Inlines gives: a new slice of all inlines. -/
def InlsP (D N : Nat) (xs : List Inl) (w : World) (e : Ending) (w' : World) : Prop := ∃ v, e = .returned v ∧ Lns (fun g => g < D ∨ w.heap.size ≤ g) (N + 1) w' v xs ∧ Kept w w'
set_option maxRecDepth 100000 in
set_option maxHeartbeats 3200000 in
theorem inlines_any (m N D : Nat) (v : Value) (xs : List Blo) (w : World) (hD : D ≤ w.heap.size) (hv : Bls (fun g => g < D) N m w v xs) (hl : xs.length ≤ 1000000) (hok : okBL xs) (hn : (inlsL xs).length ≤ 1000000) :
    Calls Tryz.prog 19 #[v] w (InlsP D N (inlsL xs) w) := by
  obtain ⟨a, c, rfl, hc⟩ := hv.form
  obtain ⟨B, HB⟩ : ∃ B, Hid (w.heap.size = B) := ⟨_, rfl⟩
  rw [HB.out] at hD
  have HV := Lib.hid hv
  have HCALL := Lib.hid (fun vO w' => inline2_any (fun g => g < D ∨ B + 3 ≤ g) N D B (B + 1) (B + 2) (B + 3) (fun g h => by omega) (fun g h => .inl h) (fun g h => .inr h) hD (by omega) (by omega) (by omega) (by omega) (by omega) (by omega) (by omega) m xs (.slice a xs.length c) [] vO w')
  unfold In1P at HCALL
  unfold InlsP
  clear hv
  go_enter Tryz.func19, Tryz.ntmps19
  go_wp2_with fail
  rw [HB.out]
  have b0 := Blk.new w 36 #[.slice none 0 0]
  have b1 := Blk.new (w.alloc (.cells #[.slice none 0 0] 36)) 86 #[inF B (B + 1)]
  have k1 := kept_alloc (w.alloc (.cells #[.slice none 0 0] 36)) (.cells #[inF B (B + 1)] 86)
  have e1 : (w.alloc (.cells #[.slice none 0 0] 36)).heap.size = B + 1 := by rw [← HB.out]; simp
  have k0 := kept_alloc w (.cells #[.slice none 0 0] 36)
  rw [HB.out] at b0
  rw [e1] at b1
  have e2 : ((w.alloc (.cells #[.slice none 0 0] 36)).alloc (.cells #[inF B (B + 1)] 86)).heap.size = B + 2 := by simp; rw [← HB.out]
  have b2 := Blk.new ((w.alloc (.cells #[.slice none 0 0] 36)).alloc (.cells #[inF B (B + 1)] 86)) 92 #[blF (B + 1) (B + 2)]
  have k2 := kept_alloc ((w.alloc (.cells #[.slice none 0 0] 36)).alloc (.cells #[inF B (B + 1)] 86)) (.cells #[blF (B + 1) (B + 2)] 92)
  have e3 : (((w.alloc (.cells #[.slice none 0 0] 36)).alloc (.cells #[inF B (B + 1)] 86)).alloc (.cells #[blF (B + 1) (B + 2)] 92)).heap.size = B + 3 := by simp; rw [← HB.out]
  rw [e2] at b2
  have c0 := (b0.kept k1).kept k2
  have c1 := b1.kept k2
  have K := Lib.hid ((k0.trans k1).trans k2)
  generalize World.alloc _ (.cells #[blF (B + 1) (B + 2)] 92) = w3 at *
  have hin := (HCALL.out (.slice none 0 0) w3 (HV.out.kept K.out) hl hok (Nat.le_of_eq e3.symm) c0 c1 b2 (OutG.nil _ _ _ _ _ _) (by simpa using hn))
  have HIN := Lib.hid hin
  clear hin b0 b1 b2 c0 c1 k0 k1 k2 e1 e2 HCALL
  refine HIN.out.mono ?_
  rintro e w4 ⟨rfl, vO, hO, hout, hon⟩
  have t := hO.cell 0 _ rfl
  have hsz := HB.out
  have hR : Lns (fun g => g < D ∨ w.heap.size ≤ g) (N + 1) w4 vO (inlsL xs) := OutG.row (S := fun g => g < D ∨ w.heap.size ≤ g) (inlK N) hout (fun g _ h => by omega) (fun g h => .inr (by omega))
  have HR := Lib.hid hR
  have HKK : Hid (Kept w w4) := K.out.trans' (hon.below K.out.size (fun i h => by omega))
  clear hR hO hout hon
  go_wp2_with fail
  go_ret
  exact ⟨vO, rfl, HR.out, HKK.out⟩
end Go.Proofs.YtnbhpmleboildaaGreatDoor

/- gloss.Terms, where no definition is wrong. Conditions: lengths. -/
set_option linter.all false
namespace Go.Proofs.YtnbhpmleboildaaGreatDoor
open Go.RowKit

def entD (d : Blo) : Bs × Bs := (defName d, d.id)
/-- Definitions without errors. -/
def goodD (ds : List Blo) : Prop := (∀ d ∈ ds, getP d.prs kName = some (defName d) ∧ defName d ≠ [] ∧ d.id ≠ []) ∧ (ds.map defName).Nodup
end Go.Proofs.YtnbhpmleboildaaGreatDoor
