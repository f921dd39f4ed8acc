/- slices.SortFunc at the indices of texts, twelve at most. Conditions: lengths; at least one text. -/
import Derived.Test.YtnbhpmleboildaaGreatDoorY16
import Derived.Test.YtnbhpmleboildaaGreatDoorY03
import Derived.Test.YtnbhpmleboildaaGreatDoorY06
import Derived.Test.YtnbhpmleboildaaGreatDoorY08
import Derived.Shelf.SlSortCmp.Small
import Derived.Deep.RegionLaw
import Derived.Deep.RegionHeld3

set_option linter.all false
namespace Go.Proofs.YtnbhpmleboildaaGreatDoor
open Go.RowKit Go.Sort

theorem only_sortWorld {α : Type} [Inhabited α] (enc : α → Value) (w : World) (blk off m : Nat) (dk : Array α) (os : Array Obj) : Only (fun i => i = blk) w (sortWorld enc w blk off m dk os) := by
  unfold sortWorld putRow mapBlock grow
  refine ⟨rfl, rfl, rfl, ?_, fun k hk hs => ?_⟩
  · simp
  · simp only
    rw [Array.getElem?_append_left (by simpa using hk), Array.getElem?_modify, if_neg (fun q => hs q.symm)]; rfl
theorem Ints.onl2 {S : Nat → Prop} {w w' : World} {v : Value} {xs : List Int} (h : Ints w v xs) (k : Only S w w') (hs : 0 < xs.length → ∀ g, v.ownBlock = some g → ¬ S g) : Ints w' v xs := by
  obtain ⟨a, c, hv, hc, h3⟩ := h
  refine ⟨a, c, hv, hc, fun q => ?_⟩
  obtain ⟨g, o, ha, hg, hcell⟩ := h3 q
  have hn : ¬ S g := hs q g (by rw [hv, ha]; rfl)
  exact ⟨g, o, ha, Nat.lt_of_lt_of_le hg k.size, fun j x hx => (k.cell g _ hg hn).trans (hcell j x hx)⟩
theorem Strs.onl3 {S : Nat → Prop} {w w' : World} {v : Value} {xs : List Bs} (h : Strs w v xs) (k : Only S w w') (hs : ∀ g, v.ownBlock = some g → 0 < xs.length → ¬ S g) : Strs w' v xs := by
  obtain ⟨a, c, hv, hc, h3⟩ := h
  refine ⟨a, c, hv, hc, fun q => ?_⟩
  obtain ⟨g, o, ha, hg, hcell⟩ := h3 q
  have hn : ¬ S g := hs g (by rw [hv, ha]; rfl) q
  exact ⟨g, o, ha, Nat.lt_of_lt_of_le hg k.size, fun j x hx => (k.cell g _ hg hn).trans (hcell j x hx)⟩
theorem sortC_perm (c : ColT) (l : List Bs) : (sortC c l).Perm (List.range l.length) := sortN_perm c l l.length
end Go.Proofs.YtnbhpmleboildaaGreatDoor

/- A collation that a call builds in memory; what a store of a longer list does to it. No condition. -/
set_option linter.all false
namespace Go.Proofs.YtnbhpmleboildaaGreatDoor
open Go.RowKit

/-- Two rows that a call owns, of elements of other types, and a block of a third lie apart. -/
theorem own_no_blk {w : World} {base : Nat} {e : TypeId} {size : Nat} {v : Value} {n : Nat} {xs : List Value} {b : Nat} {t : TypeId} {cs : Array Value} (h : w.ownsRow base e size v n xs) (hb : Blk w b t cs) (hne : e ≠ t) : some b ≠ v.ownBlock := by
  rcases h.2 with ⟨rfl, _⟩ | ⟨g, cap, cur, rfl, _, hh, _⟩
  · simp [Value.ownBlock]
  · intro q
    have hg : b = g := by simpa [Value.ownBlock] using q
    subst hg
    unfold Blk at hb
    rw [hb] at hh
    simp only [Option.some.injEq, Obj.cells.injEq] at hh
    exact hne hh.2.1.symm
theorem own_no_own {w : World} {base base' : Nat} {e e' : TypeId} {size size' : Nat} {v v' : Value} {n n' : Nat} {xs xs' : List Value} (h : w.ownsRow base e size v n xs) (h' : w.ownsRow base' e' size' v' n' xs') (hne : e ≠ e') : ∀ g, v.ownBlock = some g → some g ≠ v'.ownBlock := by
  intro g hg
  rcases h.2 with ⟨rfl, _⟩ | ⟨g2, cap, cur, rfl, _, hh, _⟩
  · simp [Value.ownBlock] at hg
  · have hg2 : g2 = g := by simpa [Value.ownBlock] using hg
    subst hg2
    exact own_no_blk h' (show Blk w g2 e cur from hh) (fun q => hne q.symm)
/-- Block b is a collation whose lists the call owns. -/
def ColSt (w : World) (b base : Nat) (c : ColT) : Prop := ∃ vR vO, Blk w b 28 #[vR, vO, .string (bs c.ignore)] ∧ w.ownsRow base 47 2 vR c.ranks.length (pairC c.ranks) ∧ w.ownsRow base 9 1 vO c.order.length (strCells c.order)
theorem ColSt.kept {w w' : World} {b base : Nat} {c : ColT} (h : ColSt w b base c) (k : Kept w w') : ColSt w' b base c := by
  obtain ⟨vR, vO, h1, h2, h3⟩ := h
  exact ⟨vR, vO, h1.kept k, own_kept h2 k, own_kept h3 k⟩
theorem Strs.tail {w : World} {g o c n : Nat} {x : Bs} {xs : List Bs} (h : Strs w (.slice (some ⟨g, o, none⟩) n c) (x :: xs)) : Strs w (.slice (some ⟨g, o + 1, none⟩) xs.length (c - 1)) xs := by
  obtain ⟨a, c', hv, hc, h3⟩ := h
  obtain ⟨rfl, rfl, rfl⟩ := Value.slice.inj hv
  obtain ⟨g', o', he, hg, hcell⟩ := h3 (by simp)
  cases he
  refine ⟨_, _, rfl, by simp at hc; omega, fun _ => ⟨g, o + 1, rfl, hg, fun j y hy => ?_⟩⟩
  have := hcell (j + 1) y (by simpa using hy)
  rwa [show o + (j + 1) = o + 1 + j from by omega] at this
end Go.Proofs.YtnbhpmleboildaaGreatDoor

/- Sort of collate, at one text or more. Conditions: lengths; twelve texts at most. -/
set_option linter.all false
namespace Go.Proofs.YtnbhpmleboildaaGreatDoor
open Go.RowKit

theorem Tryz.infoInts : (Tryz.prog.info? 73).map (fun i => (i.zero, i.size, i.bytes)) = some (some (.slice none 0 0), 1, 24) := by kernel_rfl
/-- The keys gathered so far. -/
def KV (w : World) (c : ColT) (l : List Bs) (ks : List Value) (ov : Value) : Prop := ∀ (j : Nat) (v : Value) (x : Bs), ks[j]? = some v → l[j]? = some x → ∃ B, w.ownsRow B 3 1 v (keyI c x).length (intC (keyI c x)) ∧ ∀ g, v.ownBlock = some g → some g ≠ ov.ownBlock
theorem KV.only {S : Nat → Prop} {w w' : World} {c : ColT} {l : List Bs} {ks : List Value} {ov : Value} (h : KV w c l ks ov) (k : Only S w w') (hs : ∀ (j : Nat) (v : Value) (x : Bs), ks[j]? = some v → l[j]? = some x → ∀ B, w.ownsRow B 3 1 v (keyI c x).length (intC (keyI c x)) → (∀ g, v.ownBlock = some g → some g ≠ ov.ownBlock) → ∀ g, v.ownBlock = some g → ¬ S g) : KV w' c l ks ov := fun j v x hv hx => by
  obtain ⟨B, h1, h2⟩ := h j v x hv hx
  exact ⟨B, k.own h1 (hs j v x hv hx B h1 h2), h2⟩
theorem srt_key {wr w6 wz : World} {c : ColT} {l : List Bs} {ks xs : List Value} {base KB TB k : Nat} {x : Bs} {kv kv' ov vk : Value} {tb : Array Value}
    (hX : Blk wr KB 117 #[kv]) (hKR : wr.ownsRow base 73 1 kv k ks) (hOV : wr.ownsRow base 3 1 ov k xs) (hKV : KV wr c l ks ov) (hY : Blk wr TB 70 tb) (hTK : TB ≠ KB) (hKB : base ≤ KB)
    (k06 : Kept wr w6) (hR6 : w6.ownsRow wr.heap.size 3 1 vk (keyI c x).length (intC (keyI c x))) (hx : l[k]? = some x) (hkl : ks.length = k)
    (hG : (w6.alloc (.cells #[vk] 73)).grownBy wz kv.ownBlock) (hO7 : wz.ownsRow base 73 1 kv' (k + 1) (ks ++ [vk])) :
    Blk (wz.setCell ⟨KB, 0, none⟩ kv') KB 117 #[kv'] ∧ (wz.setCell ⟨KB, 0, none⟩ kv').ownsRow base 73 1 kv' (k + 1) (ks ++ [vk]) ∧ (wz.setCell ⟨KB, 0, none⟩ kv').ownsRow base 3 1 ov k xs ∧ KV (wz.setCell ⟨KB, 0, none⟩ kv') c l (ks ++ [vk]) ov ∧ Blk (wz.setCell ⟨KB, 0, none⟩ kv') TB 70 tb ∧ Only (fun i => base ≤ i) wr (wz.setCell ⟨KB, 0, none⟩ kv') := by
  have k6 : Kept wr (w6.alloc (.cells #[vk] 73)) := k06.trans (kept_alloc _ _)
  have hK6 := own_kept hKR k6
  have hX6 := hX.kept k6
  have hXz : Blk wz KB 117 #[kv] := (hG.block KB hX6.lt (own_no_blk hK6 hX6 (by decide))).trans hX6
  have o2 : Only (fun i => i = KB ∨ some i = kv.ownBlock) (w6.alloc (.cells #[vk] 73)) (wz.setCell ⟨KB, 0, none⟩ kv') := ((Only.grown hG).mono (fun i _ q => .inr q)).trans ((Only.setCell KB 0 kv').mono (fun i _ q => .inl q))
  have o1 : Only (fun i => i = KB ∨ some i = kv.ownBlock) wr (wz.setCell ⟨KB, 0, none⟩ kv') := (Only.of_kept k6).trans o2
  have aw : ∀ {w : World} {B : Nat} {v : Value} {n : Nat} {ys : List Value}, w.ownsRow B 3 1 v n ys → Blk w KB 117 #[kv] → w.ownsRow base 73 1 kv k ks → ∀ g, v.ownBlock = some g → ¬ (g = KB ∨ some g = kv.ownBlock) := by
    intro w B v n ys h hb hr g hg q
    rcases q with q | q
    · exact own_no_blk h hb (by decide) (by rw [hg, q])
    · exact own_no_own h hr (by decide) g hg q
  refine ⟨hXz.set 0 kv', (Only.setCell KB 0 kv').own hO7 (fun g hg q => own_no_blk hO7 hXz (by decide) (by rw [hg, q])), o1.own hOV (aw hOV hX hKR), ?_, ?_, o1.mono (fun i _ q => ?_)⟩
  · intro j v y hv hy
    by_cases hj : j < ks.length
    · rw [List.getElem?_append_left hj] at hv
      obtain ⟨B, h1, h2⟩ := hKV j v y hv hy
      exact ⟨B, o1.own h1 (aw h1 hX hKR), h2⟩
    · have hj2 : j = k := by
        have := (List.getElem?_eq_some_iff.1 hv).1
        simp at this; omega
      subst hj2
      rw [List.getElem?_append_right (by omega)] at hv
      have hv2 : v = vk := by
        rw [show j - ks.length = 0 by omega] at hv
        simpa using hv.symm
      subst hv2
      rw [hx] at hy
      cases hy
      have h6 := hR6.alloc (.cells #[v] 73)
      refine ⟨_, o2.own h6 (aw h6 hX6 hK6), fun g hg q => ?_⟩
      have := (hR6.lt g hg).1
      have := (hOV.lt g q.symm).2
      omega
  · refine hY.onl o1 (fun q => ?_)
    rcases q with q | q
    · exact hTK q
    · exact own_no_blk hKR hY (by decide) q
  · rcases q with q | q
    · omega
    · exact (hKR.lt i q.symm).1
theorem srt_out {W w8 : World} {c : ColT} {l : List Bs} {ks xs : List Value} {base KB TB k gO cap : Nat} {kv ov u : Value} {tb : Array Value}
    (hX : Blk W KB 117 #[kv]) (hKR : W.ownsRow base 73 1 kv (k + 1) ks) (hOV : W.ownsRow base 3 1 ov k xs) (hKV : KV W c l ks ov) (hY : Blk W TB 70 tb)
    (hG : (W.alloc (.cells #[u] 3)).grownBy w8 ov.ownBlock) (hat : ov.ownBlock = some gO ∨ gO = W.heap.size + 1) :
    Blk w8 KB 117 #[kv] ∧ w8.ownsRow base 73 1 kv (k + 1) ks ∧ KV w8 c l ks (.slice (some ⟨gO, 0, none⟩) (k + 1) cap) ∧ Blk w8 TB 70 tb ∧ Only (fun i => base ≤ i) W w8 := by
  have k1 := kept_alloc W (.cells #[u] 3)
  have o1 : Only (fun i => some i = ov.ownBlock) W w8 := (Only.of_kept k1).trans (Only.grown hG)
  refine ⟨hX.onl o1 (fun q => own_no_blk hOV hX (by decide) q), o1.own hKR (fun g hg q => own_no_own hKR hOV (by decide) g hg q), ?_, hY.onl o1 (fun q => own_no_blk hOV hY (by decide) q), o1.mono (fun i _ q => (hOV.lt i q.symm).1)⟩
  intro j v y hv hy
  obtain ⟨B, h1, h2⟩ := hKV j v y hv hy
  refine ⟨B, o1.own h1 (fun g hg q => h2 g hg q), fun g hg q => ?_⟩
  have hq : g = gO := by simpa [Value.ownBlock] using q
  rcases hat with h | h
  · exact h2 g hg (by rw [h, hq])
  · have := (h1.lt g hg).2
    omega
end Go.Proofs.YtnbhpmleboildaaGreatDoor

/- Sort of collate at no text. Conditions: lengths. -/
set_option linter.all false
namespace Go.Proofs.YtnbhpmleboildaaGreatDoor
open Go.RowKit

set_option maxRecDepth 100000 in
set_option maxHeartbeats 1600000 in
theorem ins0_any (v f : Value) (w : World) : Calls Tryz.prog 92 #[v, .int .i64 0, .int .i64 0, f] w fun e w' => e = .returned (.tuple #[]) ∧ Kept w w' := by
  go_enter Tryz.func92, Tryz.ntmps92
  go_wp2_with fail
  go_loopw [8] (fun i wr => i = .int .i64 1 ∧ Hid (Kept w wr)) (fun _ _ => 0)
  case atStart => exact ⟨rfl, Kept.refl _⟩
  case round =>
    obtain ⟨rfl, HK⟩ := hrel
    go_wp2_with fail
    go_end0
    exact ⟨rfl, HK.out⟩
set_option maxRecDepth 100000 in
set_option maxHeartbeats 3200000 in
theorem pdq0_any (v f n : Value) (w : World) : Calls Tryz.prog 77 #[v, .int .i64 0, .int .i64 0, n, f] w fun e w' => e = .returned (.tuple #[]) ∧ Kept w w' := by
  have HI := Lib.hid (fun w => ins0_any v f w)
  go_enter Tryz.func77, Tryz.ntmps77
  go_wp2_with fail
  go_loopw [1, 2, 3, 10, 11] (fun a b c d e wr => a = .int .i64 0 ∧ b = .int .i64 0 ∧ Hid (Kept w wr)) (fun _ _ _ _ _ _ => 0)
  case atStart => exact ⟨rfl, rfl, Kept.refl _⟩
  case round =>
    obtain ⟨rfl, rfl, HK⟩ := hrel
    go_wp2_with fail
    refine (HI.out _).mono ?_
    rintro e w1 ⟨rfl, hk1⟩
    have HK1 := Lib.hid (HK.out.trans hk1)
    clear hk1
    go_wp2_with fail
    (try simp only [Exit.inBlock, Exit.then]); refine bodyPost_ret (results_none rfl _ _ _) rfl ?_
    exact ⟨rfl, HK1.out⟩
set_option maxRecDepth 100000 in
set_option maxHeartbeats 1600000 in
theorem sortfn0_any (a : Option Addr) (c : Nat) (f : Value) (w : World) : Calls Tryz.prog 60 #[.slice a 0 c, f] w fun e w' => e = .returned (.tuple #[]) ∧ Kept w w' := by
  have HP := Lib.hid (fun n w => pdq0_any (.slice a 0 c) f n w)
  have HB := Lib.hid (fun w => Tryz.bits_Len 0 w (by omega) (by omega))
  go_enter Tryz.func60, Tryz.ntmps60
  go_wp2_with fail
  refine (HB.out _).mono ?_
  rintro e w1 ⟨rfl, rfl⟩
  go_wp2_with fail
  refine (HP.out _ _).mono ?_
  rintro e w2 ⟨rfl, hk2⟩
  have HK2 := Lib.hid hk2
  clear hk2
  go_wp2_with fail
  go_end0
  exact ⟨rfl, HK2.out⟩
set_option maxRecDepth 100000 in
set_option maxHeartbeats 6400000 in
theorem sort_nil (vR vO vL : Value) (c : ColT) (w : World) (hv : Col w vR vO c) (hL : Strs w vL []) (hs : SmallC c) :
    Calls Tryz.prog 43 #[colV vR vO c.ignore, vL] w (IntsP [] w) := by
  obtain ⟨i0, hi, hz0, hz1, hz2⟩ := info_parts Tryz.infoInt
  obtain ⟨j0, hj, hy0, hy1, hy2⟩ := info_parts Tryz.infoInts
  have HV := Lib.hid hv
  have HT := Lib.hid (fun w h => tables_any vR vO c w h hs)
  obtain ⟨aR, cR, rfl, lR⟩ := hv.1.form
  obtain ⟨aO, cO, rfl, lO⟩ := hv.2.form
  obtain ⟨aL, cL, rfl, lL⟩ := hL.form
  clear hv hL
  have HB0 : Hid (Blk ((w.alloc (.cells #[.slice aR c.ranks.length cR, .slice aO c.order.length cO, .string (bs c.ignore)] 28)).alloc (.cells #[.slice aL 0 cL] 26)) (w.heap.size + 1) 26 #[.slice aL 0 cL]) := by
    have h := Blk.new (w.alloc (.cells #[.slice aR c.ranks.length cR, .slice aO c.order.length cO, .string (bs c.ignore)] 28)) 26 #[.slice aL 0 cL]
    show Blk _ _ _ _
    simpa using h
  have HK0 : Hid (Kept w ((w.alloc (.cells #[.slice aR c.ranks.length cR, .slice aO c.order.length cO, .string (bs c.ignore)] 28)).alloc (.cells #[.slice aL 0 cL] 26))) := (kept_alloc _ _).trans (kept_alloc _ _)
  have HSF := Lib.hid (fun a c f w => sortfn0_any a c f w)
  unfold IntsP
  simp only [List.length_nil] at lL ⊢
  go_enter Tryz.func43, Tryz.ntmps43
  go_wp2_with fail
  generalize (w.alloc (.cells #[.slice aR c.ranks.length cR, .slice aO c.order.length cO, .string (bs c.ignore)] 28)).alloc (.cells #[.slice aL 0 cL] 26) = w0 at *
  refine (HT.out _ (HV.out.kept HK0.out)).mono ?_
  rintro e w1 ⟨v1, rfl, ht1, hk1⟩
  have HK1 := Lib.hid (HK0.out.trans hk1)
  have HB1 := Lib.hid (HB0.out.kept hk1)
  obtain ⟨m1, m2, m3, es, rfl, hm1, hm2, hm3, hm4⟩ := ht1
  clear hk1 hm1 hm2 hm3 hm4
  have HK2 := Lib.hid (HK1.out.trans (kept_alloc w1 (.cells #[.map (some m1), .map (some m2), .map (some m3), .int .i64 c.order.length] 70)))
  have HB2 := Lib.hid (HB1.out.kept (kept_alloc w1 (.cells #[.map (some m1), .map (some m2), .map (some m3), .int .i64 c.order.length] 70)))
  have b2 : (w1.alloc (.cells #[.map (some m1), .map (some m2), .map (some m3), .int .i64 c.order.length] 70)).cell? ⟨w.heap.size + 1, 0, none⟩ = some (.slice aL 0 cL) := HB2.out.cell 0 _ rfl
  have b1 : w1.cell? ⟨w.heap.size + 1, 0, none⟩ = some (.slice aL 0 cL) := HB1.out.cell 0 _ rfl
  have zz1 := HB1.out.lt
  go_wp2_with (first
    | (at_make; refine wpList_make_own _ rfl _ _ 117 rfl w1.heap.size 73 j0 (.slice none 0 0) 1 Tryz.underlying117 hj hy0 hy1 .i64 .i64 0 0 rfl rfl rfl (by rw [hy2]; omega) (by unfold maxLen; omega) (kept_alloc w1 _).size ?_; intro w3 hown3 hgrow3; have hb3 : w3.cell? ⟨w.heap.size + 1, 0, none⟩ = some (.slice aL 0 cL) := (grown_cell hgrow3 _ 0 (by simp; omega) (by simp)).trans b2; have hz3 : w1.heap.size < w3.heap.size := (by have := hgrow3.size; simp at this; omega); have hlt3 : w.heap.size + 1 < w3.heap.size := (by omega))
    | (at_make; refine wpList_make_own _ rfl _ _ 73 rfl w1.heap.size 3 i0 (.int .i64 0) 1 Tryz.underlying73 hi hz0 hz1 .i64 .i64 0 0 rfl rfl rfl (by rw [hz2]; omega) (by unfold maxLen; omega) (Nat.le_trans (Nat.le_of_lt hz3) (kept_alloc w3 _).size) ?_; intro w5 hown5 hgrow5; have b5 : w5.cell? ⟨w.heap.size + 1, 0, none⟩ = some (.slice aL 0 cL) := (grown_cell hgrow5 _ 0 (Nat.lt_of_lt_of_le hlt3 (kept_alloc w3 _).size) (by simp)).trans (((kept_alloc w3 _).cell (p := ⟨w.heap.size + 1, 0, none⟩) hlt3).trans hb3); have hlt5 : w.heap.size + 1 < w5.heap.size := Nat.lt_of_lt_of_le (Nat.lt_of_lt_of_le hlt3 (kept_alloc w3 _).size) hgrow5.size))
  have HK3 := Lib.hid (HK2.out.trans (Below.grown (Below.refl _ _) hgrow3 (Nat.le_refl _) (fun j hj => by cases hj)))
  have HK5 := Lib.hid ((HK3.out.trans (kept_alloc w3 _)).trans (Below.grown (Below.refl _ _) hgrow5 (Nat.le_refl _) (fun j hj => by cases hj)))
  clear hown5 hgrow5 hown3 hgrow3 b5 b1 b2 hb3 hz3 hlt3 hlt5 zz1
  go_loopw [7, 20] (fun ov i wr => i = .int .i64 0 ∧ (∃ a d, ov = .slice a 0 d) ∧ Hid (Kept w wr)) (fun _ _ _ => 0)
  case atStart => exact ⟨rfl, ⟨_, _, rfl⟩, HK5.out⟩
  case round =>
    obtain ⟨rfl, ⟨a, d, rfl⟩, HK⟩ := hrel
    have hmf : ∀ (fn : Fn) (first cap : Array Value) (w : World), (Instr.makeFunc fn first cap).run Tryz.prog w = .ok (.func fn first cap) w := fun _ _ _ _ => rfl
    go_wp2_with fail
    refine (HSF.out _ _ _ _).mono ?_
    rintro e w9 ⟨rfl, hk9⟩
    have HK9 := Lib.hid (HK.out.trans hk9)
    clear hk9
    go_wp2_with fail
    go_ret
    exact ⟨_, rfl, ⟨a, d, rfl, Nat.zero_le _, fun q => absurd q (by simp)⟩, HK9.out⟩
end Go.Proofs.YtnbhpmleboildaaGreatDoor
