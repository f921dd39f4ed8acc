/- Sort of collate, at one text or more. Conditions: lengths; twelve texts at most. -/
import Derived.Test.YtpfbdgcgpghifaaGreatDoorK29
import Derived.Test.YtpfbdgcgpghifaaGreatDoorK24
import Derived.Deep.RegionLaw
import Derived.Deep.RegionHeld3

set_option linter.all false
namespace Go.Proofs.YtpfbdgcgpghifaaGreatDoor
open Go.RowKit

theorem Tryz.infoInts : (Tryz.prog.info? 31).map (fun i => (i.zero, i.size, i.bytes)) = some (some (.slice none 0 0), 1, 24) := by kernel_rfl
theorem own_away {w : World} {base : Nat} {e : TypeId} {size : Nat} {v : Value} {n : Nat} {xs : List Value} (h : w.ownsRow base e size v n xs) (g : Nat) (hg : v.ownBlock = some g) : base ≤ g ∧ g < w.heap.size := h.lt g hg
/-- The keys gathered so far. -/
def KV (w : World) (c : ColT) (l : List Bs) (ks : List Value) (ov : Value) : Prop := ∀ (j : Nat) (v : Value) (x : Bs), ks[j]? = some v → l[j]? = some x → ∃ B, w.ownsRow B 3 1 v (keyI c x).length (intC (keyI c x)) ∧ ∀ g, v.ownBlock = some g → some g ≠ ov.ownBlock
theorem KV.only {S : Nat → Prop} {w w' : World} {c : ColT} {l : List Bs} {ks : List Value} {ov : Value} (h : KV w c l ks ov) (k : Only S w w') (hs : ∀ (j : Nat) (v : Value) (x : Bs), ks[j]? = some v → l[j]? = some x → ∀ B, w.ownsRow B 3 1 v (keyI c x).length (intC (keyI c x)) → (∀ g, v.ownBlock = some g → some g ≠ ov.ownBlock) → ∀ g, v.ownBlock = some g → ¬ S g) : KV w' c l ks ov := fun j v x hv hx => by
  obtain ⟨B, h1, h2⟩ := h j v x hv hx
  exact ⟨B, k.own h1 (hs j v x hv hx B h1 h2), h2⟩
theorem srt_key {wr w6 wz : World} {c : ColT} {l : List Bs} {ks xs : List Value} {base KB TB k : Nat} {x : Bs} {kv kv' ov vk : Value} {tb : Array Value}
    (hX : Blk wr KB 77 #[kv]) (hKR : wr.ownsRow base 31 1 kv k ks) (hOV : wr.ownsRow base 3 1 ov k xs) (hKV : KV wr c l ks ov) (hY : Blk wr TB 72 tb) (hTK : TB ≠ KB) (hKB : base ≤ KB)
    (k06 : Kept wr w6) (hR6 : w6.ownsRow wr.heap.size 3 1 vk (keyI c x).length (intC (keyI c x))) (hx : l[k]? = some x) (hkl : ks.length = k)
    (hG : (w6.alloc (.cells #[vk] 31)).grownBy wz kv.ownBlock) (hO7 : wz.ownsRow base 31 1 kv' (k + 1) (ks ++ [vk])) :
    Blk (wz.setCell ⟨KB, 0, none⟩ kv') KB 77 #[kv'] ∧ (wz.setCell ⟨KB, 0, none⟩ kv').ownsRow base 31 1 kv' (k + 1) (ks ++ [vk]) ∧ (wz.setCell ⟨KB, 0, none⟩ kv').ownsRow base 3 1 ov k xs ∧ KV (wz.setCell ⟨KB, 0, none⟩ kv') c l (ks ++ [vk]) ov ∧ Blk (wz.setCell ⟨KB, 0, none⟩ kv') TB 72 tb ∧ Only (fun i => base ≤ i) wr (wz.setCell ⟨KB, 0, none⟩ kv') := by
  have k6 : Kept wr (w6.alloc (.cells #[vk] 31)) := k06.trans (kept_alloc _ _)
  have hK6 := own_kept hKR k6
  have hX6 := hX.kept k6
  have hXz : Blk wz KB 77 #[kv] := (hG.block KB hX6.lt (own_no_blk hK6 hX6 (by decide))).trans hX6
  have o2 : Only (fun i => i = KB ∨ some i = kv.ownBlock) (w6.alloc (.cells #[vk] 31)) (wz.setCell ⟨KB, 0, none⟩ kv') := ((Only.grown hG).mono (fun i _ q => .inr q)).trans ((Only.setCell KB 0 kv').mono (fun i _ q => .inl q))
  have o1 : Only (fun i => i = KB ∨ some i = kv.ownBlock) wr (wz.setCell ⟨KB, 0, none⟩ kv') := (Only.of_kept k6).trans o2
  have aw : ∀ {w : World} {B : Nat} {v : Value} {n : Nat} {ys : List Value}, w.ownsRow B 3 1 v n ys → Blk w KB 77 #[kv] → w.ownsRow base 31 1 kv k ks → ∀ g, v.ownBlock = some g → ¬ (g = KB ∨ some g = kv.ownBlock) := by
    intro w B v n ys h hb hr g hg q
    rcases q with q | q
    · exact own_no_blk h hb (by decide) (by rw [hg, q])
    · exact own_no_own h hr (by decide) g hg q
  refine ⟨hXz.set 0 kv', (Only.setCell KB 0 kv').own hO7 (fun g hg q => own_no_blk hO7 hXz (by decide) (by rw [hg, q])), o1.own hOV (aw hOV hX hKR), ?_, ?_, o1.mono (fun i _ q => ?_)⟩
  · intro j v y hv hy
    by_cases hj : j < ks.length
    · rw [List.getElem?_append_left hj] at hv
      obtain ⟨B, h1, h2⟩ := hKV j v y hv hy
      exact ⟨B, o1.own h1 (aw h1 hX hKR), h2⟩
    · have hj2 : j = k := by
        have := (List.getElem?_eq_some_iff.1 hv).1
        simp at this; omega
      subst hj2
      rw [List.getElem?_append_right (by omega)] at hv
      have hv2 : v = vk := by
        rw [show j - ks.length = 0 by omega] at hv
        simpa using hv.symm
      subst hv2
      rw [hx] at hy
      cases hy
      have h6 := hR6.alloc (.cells #[v] 31)
      refine ⟨_, o2.own h6 (aw h6 hX6 hK6), fun g hg q => ?_⟩
      have := (hR6.lt g hg).1
      have := (hOV.lt g q.symm).2
      omega
  · refine hY.onl o1 (fun q => ?_)
    rcases q with q | q
    · exact hTK q
    · exact own_no_blk hKR hY (by decide) q
  · rcases q with q | q
    · omega
    · exact (hKR.lt i q.symm).1
theorem srt_out {W w8 : World} {c : ColT} {l : List Bs} {ks xs : List Value} {base KB TB k gO cap : Nat} {kv ov u : Value} {tb : Array Value}
    (hX : Blk W KB 77 #[kv]) (hKR : W.ownsRow base 31 1 kv (k + 1) ks) (hOV : W.ownsRow base 3 1 ov k xs) (hKV : KV W c l ks ov) (hY : Blk W TB 72 tb)
    (hG : (W.alloc (.cells #[u] 3)).grownBy w8 ov.ownBlock) (hat : ov.ownBlock = some gO ∨ gO = W.heap.size + 1) :
    Blk w8 KB 77 #[kv] ∧ w8.ownsRow base 31 1 kv (k + 1) ks ∧ KV w8 c l ks (.slice (some ⟨gO, 0, none⟩) (k + 1) cap) ∧ Blk w8 TB 72 tb ∧ Only (fun i => base ≤ i) W w8 := by
  have k1 := kept_alloc W (.cells #[u] 3)
  have o1 : Only (fun i => some i = ov.ownBlock) W w8 := (Only.of_kept k1).trans (Only.grown hG)
  refine ⟨hX.onl o1 (fun q => own_no_blk hOV hX (by decide) q), o1.own hKR (fun g hg q => own_no_own hKR hOV (by decide) g hg q), ?_, hY.onl o1 (fun q => own_no_blk hOV hY (by decide) q), o1.mono (fun i _ q => (hOV.lt i q.symm).1)⟩
  intro j v y hv hy
  obtain ⟨B, h1, h2⟩ := hKV j v y hv hy
  refine ⟨B, o1.own h1 (fun g hg q => h2 g hg q), fun g hg q => ?_⟩
  have hq : g = gO := by simpa [Value.ownBlock] using q
  rcases hat with h | h
  · exact h2 g hg (by rw [h, hq])
  · have := (h1.lt g hg).2
    omega
set_option maxRecDepth 100000 in
set_option maxHeartbeats 6400000 in
theorem sort_any (vR vO vL : Value) (c : ColT) (l : List Bs) (w : World) (hv : Col w vR vO c) (hL : Strs w vL l) (hs : SmallC c) (hn : 0 < l.length) (h12 : l.length ≤ 12) (hll : ∀ x ∈ l, x.length ≤ 1000) :
    Calls Tryz.prog 16 #[colV vR vO c.ignore, vL] w (IntsP ((sortC c l).map fun i : Nat => (i : Int)) w) := by
  obtain ⟨i0, hi, hz0, hz1, hz2⟩ := info_parts Tryz.infoInt
  obtain ⟨j0, hj, hy0, hy1, hy2⟩ := info_parts Tryz.infoInts
  have HV := Lib.hid hv
  have HL := Lib.hid hL
  have HT := Lib.hid (fun w h => tables_any vR vO c w h hs)
  obtain ⟨aR, cR, rfl, lR⟩ := hv.1.form
  obtain ⟨aO, cO, rfl, lO⟩ := hv.2.form
  obtain ⟨aL, cL, rfl, lL⟩ := hL.form
  obtain ⟨gl, ol, rfl, hgl⟩ : ∃ g o, aL = some ⟨g, o, none⟩ ∧ g < w.heap.size := by
    obtain ⟨x, hx⟩ : ∃ x, l[0]? = some x := ⟨_, List.getElem?_eq_getElem hn⟩
    obtain ⟨g, o, e, hg, _⟩ := hL.cell_of 0 x hx
    exact ⟨g, o, e, hg⟩
  clear hv hL
  have HB0 : Hid (Blk ((w.alloc (.cells #[.slice aR c.ranks.length cR, .slice aO c.order.length cO, .string (bs c.ignore)] 25)).alloc (.cells #[.slice (some ⟨gl, ol, none⟩) l.length cL] 23)) (w.heap.size + 1) 23 #[.slice (some ⟨gl, ol, none⟩) l.length cL]) := by
    have h := Blk.new (w.alloc (.cells #[.slice aR c.ranks.length cR, .slice aO c.order.length cO, .string (bs c.ignore)] 25)) 23 #[.slice (some ⟨gl, ol, none⟩) l.length cL]
    show Blk _ _ _ _
    simpa using h
  have HK0 : Hid (Kept w ((w.alloc (.cells #[.slice aR c.ranks.length cR, .slice aO c.order.length cO, .string (bs c.ignore)] 25)).alloc (.cells #[.slice (some ⟨gl, ol, none⟩) l.length cL] 23))) := (kept_alloc _ _).trans (kept_alloc _ _)
  unfold IntsP
  go_enter Tryz.func16, Tryz.ntmps16
  go_wp2_with fail
  generalize (w.alloc (.cells #[.slice aR c.ranks.length cR, .slice aO c.order.length cO, .string (bs c.ignore)] 25)).alloc (.cells #[.slice (some ⟨gl, ol, none⟩) l.length cL] 23) = w0 at *
  refine (HT.out _ (HV.out.kept HK0.out)).mono ?_
  rintro e w1 ⟨v1, rfl, ht1, hk1⟩
  have HK1 := Lib.hid (HK0.out.trans hk1)
  have HB1 := Lib.hid (HB0.out.kept hk1)
  obtain ⟨m1, m2, m3, es, rfl, hm1, hm2, hm3, hm4⟩ := ht1
  have HTR := Lib.hid (show TabR w1 _ c from ⟨m1, m2, m3, es, rfl, hm1, hm2, hm3, hm4⟩)
  clear hk1 hm1 hm2 hm3 hm4
  have HY2 := Lib.hid (Blk.new w1 72 #[.map (some m1), .map (some m2), .map (some m3), .int .i64 c.order.length])
  have HK2 := Lib.hid (HK1.out.trans (kept_alloc w1 (.cells #[.map (some m1), .map (some m2), .map (some m3), .int .i64 c.order.length] 72)))
  have HB2 := Lib.hid (HB1.out.kept (kept_alloc w1 (.cells #[.map (some m1), .map (some m2), .map (some m3), .int .i64 c.order.length] 72)))
  have b2 : (w1.alloc (.cells #[.map (some m1), .map (some m2), .map (some m3), .int .i64 c.order.length] 72)).cell? ⟨w.heap.size + 1, 0, none⟩ = some (.slice (some ⟨gl, ol, none⟩) l.length cL) := HB2.out.cell 0 _ rfl
  have b1 : w1.cell? ⟨w.heap.size + 1, 0, none⟩ = some (.slice (some ⟨gl, ol, none⟩) l.length cL) := HB1.out.cell 0 _ rfl
  have zz1 := HB1.out.lt
  have hw01 : w.heap.size + 1 < w1.heap.size := HB1.out.lt
  go_wp2_with (first
    | (at_make; refine wpList_make_own _ rfl _ _ 77 rfl w1.heap.size 31 j0 (.slice none 0 0) 1 Tryz.underlying77 hj hy0 hy1 .i64 .i64 l.length l.length rfl rfl rfl (by rw [hy2]; omega) (by unfold maxLen; omega) (kept_alloc w1 _).size ?_; intro w3 hown3 hgrow3; have hb3 : w3.cell? ⟨w.heap.size + 1, 0, none⟩ = some (.slice (some ⟨gl, ol, none⟩) l.length cL) := (grown_cell hgrow3 _ 0 (by simp; omega) (by simp)).trans b2; have hz3 : w1.heap.size < w3.heap.size := (by have := hgrow3.size; simp at this; omega); have hlt3 : w.heap.size + 1 < w3.heap.size := (by omega))
    | (at_make; refine wpList_make_own _ rfl _ _ 31 rfl w1.heap.size 3 i0 (.int .i64 0) 1 Tryz.underlying31 hi hz0 hz1 .i64 .i64 l.length l.length rfl rfl rfl (by rw [hz2]; omega) (by unfold maxLen; omega) (Nat.le_trans (Nat.le_of_lt hz3) (kept_alloc w3 _).size) ?_; intro w5 hown5 hgrow5; have b5 : w5.cell? ⟨w.heap.size + 1, 0, none⟩ = some (.slice (some ⟨gl, ol, none⟩) l.length cL) := (grown_cell hgrow5 _ 0 (Nat.lt_of_lt_of_le hlt3 (kept_alloc w3 _).size) (by simp)).trans (((kept_alloc w3 _).cell (p := ⟨w.heap.size + 1, 0, none⟩) hlt3).trans hb3); have hlt5 : w.heap.size + 1 < w5.heap.size := Nat.lt_of_lt_of_le (Nat.lt_of_lt_of_le hlt3 (kept_alloc w3 _).size) hgrow5.size))
  have hkr : (w1.alloc (.cells #[.map (some m1), .map (some m2), .map (some m3), .int .i64 c.order.length] 72)).heap.size = w1.heap.size + 1 := by simp
  rw [hkr] at hown3
  have hk13 : Kept w1 w3 := (kept_alloc w1 (.cells #[.map (some m1), .map (some m2), .map (some m3), .int .i64 c.order.length] 72)).trans (Below.grown (Below.refl _ _) hgrow3 (Nat.le_refl _) (fun j hj => by cases hj))
  have hY3 : Blk w3 w1.heap.size 72 #[.map (some m1), .map (some m2), .map (some m3), .int .i64 c.order.length] := (hgrow3.block _ (by simp) (by simp)).trans HY2.out
  have hk34 := kept_alloc w3 (.cells #[.slice (some ⟨w1.heap.size + 1, 0, none⟩) 0 l.length] 77)
  have hk45 : Kept (w3.alloc (.cells #[.slice (some ⟨w1.heap.size + 1, 0, none⟩) 0 l.length] 77)) w5 := Below.grown (Below.refl _ _) hgrow5 (Nat.le_refl _) (fun j hj => by cases hj)
  have hk35 : Kept w3 w5 := hk34.trans hk45
  have HX5 := Lib.hid ((Blk.new w3 77 #[.slice (some ⟨w1.heap.size + 1, 0, none⟩) 0 l.length]).kept hk45)
  have HY5 := Lib.hid (hY3.kept hk35)
  have HO5 := Lib.hid (own_kept hown3 hk35)
  have HK5 := Lib.hid (hk13.trans hk35)
  have hk4z : (w3.alloc (.cells #[.slice (some ⟨w1.heap.size + 1, 0, none⟩) 0 l.length] 77)).heap.size = w3.heap.size + 1 := by simp
  rw [hk4z] at hown5
  have HP5 := Lib.hid hown5
  have hwO : w.heap.size + 1 < w1.heap.size := hw01
  clear hown5 hgrow5 hk45 hk35 hk34 hk4z hown3 hgrow3 hb3 hY3 hk13 hkr b1 b2 HY2 HK2 HB2 zz1 hw01
  have HKY := Lib.hid (fun v x w h hx => key_row v c x w h hs hx)
  have hz31 : w1.heap.size + 1 < w3.heap.size + 1 := by omega
  generalize w3.heap.size = KB at *
  go_loopw [7, 20] (fun ov i wr => ∃ (k : Nat) (kv : Value) (ks : List Value), k ≤ l.length ∧ i = .int .i64 k ∧ ks.length = k ∧ wr.ownsRow w1.heap.size 3 1 ov k (intC ((List.range k).map fun i : Nat => (i : Int))) ∧ wr.ownsRow w1.heap.size 31 1 kv k ks ∧ Hid (Blk wr KB 77 #[kv]) ∧ Hid (KV wr c l ks ov) ∧ Hid (Blk wr w1.heap.size 72 #[.map (some m1), .map (some m2), .map (some m3), .int .i64 c.order.length]) ∧ Hid (Kept w1 wr)) (fun _ i _ => l.length - (intOf i).toNat)
  case atStart => exact ⟨0, _, [], Nat.zero_le _, rfl, rfl, HP5.out, HO5.out, HX5.out, fun j v x h => by simp at h, HY5.out, HK5.out⟩
  case round =>
    clear HP5 HO5 HX5 HY5 HK5 b5 hlt5
    obtain ⟨k, kv, ks, hk, rfl, hkl, hov, hkr, HX, HKV, HY, HK⟩ := hrel
    have hws : w1.heap.size < wr.heap.size := HY.out.lt
    obtain ⟨ao, co, hvo, hco, _, _⟩ := own_cap hov
    obtain ⟨ak, ck, hvk, hck, _, _⟩ := own_cap hkr
    subst hvo hvk
    by_cases hlt : k < l.length
    · obtain ⟨x, hx⟩ : ∃ x, l[k]? = some x := ⟨_, List.getElem?_eq_getElem hlt⟩
      have hxl := hll x (List.mem_of_getElem? hx)
      obtain ⟨g2, o2, e2, hg2, d0, _, _⟩ := (HL.out.kept (HK1.out.trans HK.out)).cell_of k x hx
      cases e2
      have x0 : wr.cell? ⟨KB, 0, none⟩ = some (.slice ak k ck) := HX.out.cell 0 _ rfl
      have zx := HX.out.lt
      have t0 : wr.cell? ⟨w1.heap.size, 0, none⟩ = some (.map (some m1)) := HY.out.cell 0 _ rfl
      have t1 : wr.cell? ⟨w1.heap.size, 1, none⟩ = some (.map (some m2)) := HY.out.cell 1 _ rfl
      have t2 : wr.cell? ⟨w1.heap.size, 2, none⟩ = some (.map (some m3)) := HY.out.cell 2 _ rfl
      have t3 : wr.cell? ⟨w1.heap.size, 3, none⟩ = some (.int .i64 c.order.length) := HY.out.cell 3 _ rfl
      have HKX := Lib.hid (HKY.out (.agg #[.map (some m1), .map (some m2), .map (some m3), .int .i64 c.order.length]) x wr.drew (HTR.out.kept (HK.out.trans (kept_drewN wr 1))) hxl)
      unfold RowQ at HKX
      have HOV := Lib.hid hov
      have HKR := Lib.hid hkr
      clear hov hkr
      go_wp2_with fail
      go_region_law (first
        | (go_simp; go_at_call 43; refine HKX.out.mono ?_; rintro e w6 ⟨vk, rfl, hr6, hk6⟩; have k06 : Kept wr w6 := (kept_drewN wr 1).trans hk6; have HR6 := Lib.hid hr6; have x6 : w6.cell? ⟨KB, 0, none⟩ = some (.slice ak k ck) := (k06.cell (p := ⟨KB, 0, none⟩) zx).trans x0; have zx6 : KB < w6.heap.size := Nat.lt_of_lt_of_le zx k06.size; obtain ⟨av, cv, rfl, _, _, _⟩ := own_cap hr6; have HKA6 := Lib.hid ((own_kept HKR.out k06).alloc (.cells #[.slice av (keyI c x).length cv] 31)); have HXA6 := Lib.hid ((HX.out.kept k06).alloc (.cells #[.slice av (keyI c x).length cv] 31)); have HBS6 : Hid (w1.heap.size ≤ (w6.alloc (.cells #[.slice av (keyI c x).length cv] 31)).heap.size) := Nat.le_trans (Nat.le_trans (Nat.le_of_lt hws) k06.size) (kept_alloc w6 _).size; have HSRC : Hid (0 < 1 → ∃ g o2, (some ⟨w6.heap.size, 0, none⟩ : Option Addr) = some ⟨g, o2, none⟩ ∧ ∀ (j : Nat) u, [Value.slice av (keyI c x).length cv][j]? = some u → (w6.alloc (.cells #[.slice av (keyI c x).length cv] 31)).cell? ⟨g, o2 + j, none⟩ = some u) := (fun _ => ⟨_, _, rfl, fun j u hu => (by cases j with | zero => cases hu; exact (Blk.new w6 31 #[.slice av (keyI c x).length cv]).cell 0 _ rfl | succ j => simp at hu)⟩); have HK06 := Lib.hid k06; clear hr6 hk6 k06)
        | (refine step_append_any _ rfl (.tmp 25) (.tmp 29) 77 rfl w1.heap.size 31 j0 (.slice none 0 0) 1 24 Tryz.underlying77 hj hy0 hy1 hy2 rfl (by decide) (.slice ak k ck) k ks (by simp [Act.eval, Act.put]) HKA6.out (some ⟨w6.heap.size, 0, none⟩) 1 1 [.slice av (keyI c x).length cv] (by simp [Act.eval, Act.put]) rfl HSRC.out (by simp [Value.oneCell']) (by unfold maxLen; omega) (by omega) HBS6.out ?_; intro kv' wz hown7 hgrow7; have hbz := (hgrow7.block KB HXA6.out.lt (own_no_blk HKA6.out HXA6.out (by decide))).trans HXA6.out; have xz : wz.cell? ⟨KB, 0, none⟩ = some (.slice ak k ck) := (show Blk wz KB 77 _ from hbz).cell 0 _ rfl; have fz : wz.frozen? ⟨KB, 0, none⟩ = false := (show Blk wz KB 77 _ from hbz).free 0; have zz : KB < wz.heap.size := (show Blk wz KB 77 _ from hbz).lt; have HG7 := Lib.hid hgrow7; have HO7 := Lib.hid hown7; obtain ⟨ak7, ck7, rfl, _, _, _⟩ := own_cap hown7; clear hown7 hgrow7 hbz))
      all_goals
        have HS := srt_key HX.out HKR.out HOV.out HKV.out HY.out (by omega) (by omega) HK06.out HR6.out hx hkl HG7.out HO7.out
        have hOn := HS.2.2.2.2.2
        have HS7 := Lib.hid HS
        have HK7 := Lib.hid (HK.out.trans' (hOn.below (Nat.le_of_lt hws) (fun i h => h)))
        have hov := HS.2.2.1
        have hws7 : wr.heap.size ≤ (wz.setCell ⟨KB, 0, none⟩ (Value.slice ak7 (k + 1) ck7)).heap.size := hOn.size
        clear HS hOn HG7 HO7 xz fz zz HSRC HBS6 HXA6 HKA6 x6 zx6 HR6 HK06 x0 zx t0 t1 t2 t3 HKX HOV HKR HX HKV HY HK
        generalize wz.setCell ⟨KB, 0, none⟩ (Value.slice ak7 (k + 1) ck7) = W at *
        go_wp2_with (at_builtin; refine wpList_append_lies _ rfl _ _ 31 rfl w1.heap.size 3 i0 (.int .i64 0) 1 8 Tryz.underlying31 hi hz0 hz1 hz2 rfl (by decide) _ _ _ rfl (hov.alloc _) ⟨W.heap.size, 0, none⟩ 1 1 [.int .i64 k] rfl rfl (new_cells _ #[.int .i64 k] _ _ (by simp)) (by simp [Value.oneCell']) (by omega) (by unfold maxLen; omega) (by omega) (by simp; omega) (W.heap.size + 1) (by simp) ?_; intro g8 cap8 w8 hown8 hgrow8 hat8 hlt8)
        have HS8 := Lib.hid (srt_out (cap := cap8) HS7.out.1 HS7.out.2.1 HS7.out.2.2.1 HS7.out.2.2.2.1 HS7.out.2.2.2.2.1 hgrow8 hat8)
        have HK8 := Lib.hid (HK7.out.trans' (HS8.out.2.2.2.2.below HK7.out.size (fun i h => h)))
        have hO8 : w8.ownsRow w1.heap.size 3 1 (.slice (some ⟨g8, 0, none⟩) (k + 1) cap8) (k + 1) (intC ((List.range (k + 1)).map fun i : Nat => (i : Int))) := by
          rw [List.range_succ, List.map_append, intC_app]; exact hown8
        have HO8 := Lib.hid hO8
        clear hown8 hgrow8 hat8 hlt8 hov hO8 HS7 HK7
        go_wp2_with fail
        go_roundw
        case rel => exact ⟨k + 1, _, _, by omega, by go_num, by simp; omega, HO8.out, HS8.out.2.1, HS8.out.1, HS8.out.2.2.1, HS8.out.2.2.2.1, HK8.out⟩
        case measure => simp [intOf]; omega
    · obtain rfl : k = l.length := by omega
      obtain ⟨_, _, e1, _, _, hcO⟩ := own_cap hov
      cases e1
      obtain ⟨gO, rfl, hO1, hO2, _⟩ := hcO hn
      obtain ⟨_, _, e2, _, _, hcK⟩ := own_cap hkr
      cases e2
      obtain ⟨gK, rfl, _, hK2, hKc⟩ := hcK hn
      have x0 : wr.cell? ⟨KB, 0, none⟩ = some (.slice (some ⟨gK, 0, none⟩) l.length ck) := HX.out.cell 0 _ rfl
      have l0 : wr.cell? ⟨w.heap.size + 1, 0, none⟩ = some (.slice (some ⟨gl, ol, none⟩) l.length cL) := (HB1.out.kept HK.out).cell 0 _ rfl
      have hat : ∀ i x, l[i]? = some x → ∃ v, ks[i]? = some v ∧ wr.cell? ⟨gK, 0 + i, none⟩ = some v := fun i x hx => by
        have hi : i < ks.length := by have := (List.getElem?_eq_some_iff.1 hx).1; omega
        exact ⟨ks[i], List.getElem?_eq_getElem hi, by rw [Nat.zero_add]; exact hKc i _ (List.getElem?_eq_getElem hi)⟩
      have HF := Lib.hid (sortfn_any c l gK 0 ck gl ol cL KB (w.heap.size + 1) gO co w1.heap.size wr hs hn h12 hll
        ⟨hK2, hck, fun i x hx => by
          obtain ⟨v, hv, hc⟩ := hat i x hx
          obtain ⟨B, h1, _⟩ := HKV.out i v x hv hx
          exact ⟨v, hc, Ints.own h1⟩⟩
        (HL.out.kept (HK1.out.trans HK.out)) x0 l0 hov
        (fun q => own_no_own hkr hov (by decide) gK rfl (by rw [q]; rfl)) (by omega) (fun q => own_no_blk hov HX.out (by decide) (by rw [q]; rfl)) (by omega)
        (fun i x v hx hc g' hg' q => by
          obtain ⟨v2, hv2, hc2⟩ := hat i x hx
          rw [hc] at hc2
          obtain rfl : v = v2 := Option.some.inj hc2
          obtain ⟨B, _, h2⟩ := HKV.out i v x hv2 hx
          exact h2 g' hg' (by rw [q]; rfl)))
      have hmf : ∀ (fn : Fn) (first cap : Array Value) (w : World), (Instr.makeFunc fn first cap).run Tryz.prog w = .ok (.func fn first cap) w := fun _ _ _ _ => rfl
      clear hov hkr x0 l0 hat hKc hcO hcK
      go_wp2_with fail
      refine HF.out.mono ?_
      rintro e w9 ⟨rfl, hi9, ho9⟩
      have HI9 := Lib.hid hi9
      have HK9 : Hid (Kept w w9) := (HK1.out.trans HK.out).trans' (ho9.below (HK1.out.trans HK.out).size (fun i e => by omega))
      clear hi9 ho9
      go_wp2_with fail
      go_ret
      exact ⟨_, rfl, HI9.out, HK9.out⟩
end Go.Proofs.YtpfbdgcgpghifaaGreatDoor
