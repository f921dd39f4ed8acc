/- Sort of collate at no text. Conditions: lengths. -/
import Derived.Test.YtpfbdgcgpghifaaGreatDoorK30
import Derived.Test.YtpfbdgcgpghifaaGreatDoorK40
import Derived.Test.YtpfbdgcgpghifaaGreatDoorK23

set_option linter.all false
namespace Go.Proofs.YtpfbdgcgpghifaaGreatDoor
open Go.RowKit

set_option maxRecDepth 100000 in
set_option maxHeartbeats 1600000 in
theorem ins0_any (v f : Value) (w : World) : Calls Tryz.prog 133 #[v, .int .i64 0, .int .i64 0, f] w fun e w' => e = .returned (.tuple #[]) ∧ Kept w w' := by
  go_enter Tryz.func133, Tryz.ntmps133
  go_wp2_with fail
  go_loopw [8] (fun i wr => i = .int .i64 1 ∧ Hid (Kept w wr)) (fun _ _ => 0)
  case atStart => exact ⟨rfl, Kept.refl _⟩
  case round =>
    obtain ⟨rfl, HK⟩ := hrel
    go_wp2_with fail
    go_end0
    exact ⟨rfl, HK.out⟩
set_option maxRecDepth 100000 in
set_option maxHeartbeats 3200000 in
theorem pdq0_any (v f n : Value) (w : World) : Calls Tryz.prog 96 #[v, .int .i64 0, .int .i64 0, n, f] w fun e w' => e = .returned (.tuple #[]) ∧ Kept w w' := by
  have HI := Lib.hid (fun w => ins0_any v f w)
  go_enter Tryz.func96, Tryz.ntmps96
  go_wp2_with fail
  go_loopw [1, 2, 3, 10, 11] (fun a b c d e wr => a = .int .i64 0 ∧ b = .int .i64 0 ∧ Hid (Kept w wr)) (fun _ _ _ _ _ _ => 0)
  case atStart => exact ⟨rfl, rfl, Kept.refl _⟩
  case round =>
    obtain ⟨rfl, rfl, HK⟩ := hrel
    go_wp2_with fail
    refine (HI.out _).mono ?_
    rintro e w1 ⟨rfl, hk1⟩
    have HK1 := Lib.hid (HK.out.trans hk1)
    clear hk1
    go_wp2_with fail
    (try simp only [Exit.inBlock, Exit.then]); refine bodyPost_ret (results_none rfl _ _ _) rfl ?_
    exact ⟨rfl, HK1.out⟩
set_option maxRecDepth 100000 in
set_option maxHeartbeats 1600000 in
theorem sortfn0_any (a : Option Addr) (c : Nat) (f : Value) (w : World) : Calls Tryz.prog 46 #[.slice a 0 c, f] w fun e w' => e = .returned (.tuple #[]) ∧ Kept w w' := by
  have HP := Lib.hid (fun n w => pdq0_any (.slice a 0 c) f n w)
  have HB := Lib.hid (fun w => Tryz.bits_Len 0 w (by omega) (by omega))
  go_enter Tryz.func46, Tryz.ntmps46
  go_wp2_with fail
  refine (HB.out _).mono ?_
  rintro e w1 ⟨rfl, rfl⟩
  go_wp2_with fail
  refine (HP.out _ _).mono ?_
  rintro e w2 ⟨rfl, hk2⟩
  have HK2 := Lib.hid hk2
  clear hk2
  go_wp2_with fail
  go_end0
  exact ⟨rfl, HK2.out⟩
set_option maxRecDepth 100000 in
set_option maxHeartbeats 6400000 in
theorem sort_nil (vR vO vL : Value) (c : ColT) (w : World) (hv : Col w vR vO c) (hL : Strs w vL []) (hs : SmallC c) :
    Calls Tryz.prog 16 #[colV vR vO c.ignore, vL] w (IntsP [] w) := by
  obtain ⟨i0, hi, hz0, hz1, hz2⟩ := info_parts Tryz.infoInt
  obtain ⟨j0, hj, hy0, hy1, hy2⟩ := info_parts Tryz.infoInts
  have HV := Lib.hid hv
  have HT := Lib.hid (fun w h => tables_any vR vO c w h hs)
  obtain ⟨aR, cR, rfl, lR⟩ := hv.1.form
  obtain ⟨aO, cO, rfl, lO⟩ := hv.2.form
  obtain ⟨aL, cL, rfl, lL⟩ := hL.form
  clear hv hL
  have HB0 : Hid (Blk ((w.alloc (.cells #[.slice aR c.ranks.length cR, .slice aO c.order.length cO, .string (bs c.ignore)] 25)).alloc (.cells #[.slice aL 0 cL] 23)) (w.heap.size + 1) 23 #[.slice aL 0 cL]) := by
    have h := Blk.new (w.alloc (.cells #[.slice aR c.ranks.length cR, .slice aO c.order.length cO, .string (bs c.ignore)] 25)) 23 #[.slice aL 0 cL]
    show Blk _ _ _ _
    simpa using h
  have HK0 : Hid (Kept w ((w.alloc (.cells #[.slice aR c.ranks.length cR, .slice aO c.order.length cO, .string (bs c.ignore)] 25)).alloc (.cells #[.slice aL 0 cL] 23))) := (kept_alloc _ _).trans (kept_alloc _ _)
  have HSF := Lib.hid (fun a c f w => sortfn0_any a c f w)
  unfold IntsP
  simp only [List.length_nil] at lL ⊢
  go_enter Tryz.func16, Tryz.ntmps16
  go_wp2_with fail
  generalize (w.alloc (.cells #[.slice aR c.ranks.length cR, .slice aO c.order.length cO, .string (bs c.ignore)] 25)).alloc (.cells #[.slice aL 0 cL] 23) = w0 at *
  refine (HT.out _ (HV.out.kept HK0.out)).mono ?_
  rintro e w1 ⟨v1, rfl, ht1, hk1⟩
  have HK1 := Lib.hid (HK0.out.trans hk1)
  have HB1 := Lib.hid (HB0.out.kept hk1)
  obtain ⟨m1, m2, m3, es, rfl, hm1, hm2, hm3, hm4⟩ := ht1
  clear hk1 hm1 hm2 hm3 hm4
  have HK2 := Lib.hid (HK1.out.trans (kept_alloc w1 (.cells #[.map (some m1), .map (some m2), .map (some m3), .int .i64 c.order.length] 72)))
  have HB2 := Lib.hid (HB1.out.kept (kept_alloc w1 (.cells #[.map (some m1), .map (some m2), .map (some m3), .int .i64 c.order.length] 72)))
  have b2 : (w1.alloc (.cells #[.map (some m1), .map (some m2), .map (some m3), .int .i64 c.order.length] 72)).cell? ⟨w.heap.size + 1, 0, none⟩ = some (.slice aL 0 cL) := HB2.out.cell 0 _ rfl
  have b1 : w1.cell? ⟨w.heap.size + 1, 0, none⟩ = some (.slice aL 0 cL) := HB1.out.cell 0 _ rfl
  have zz1 := HB1.out.lt
  go_wp2_with (first
    | (at_make; refine wpList_make_own _ rfl _ _ 77 rfl w1.heap.size 31 j0 (.slice none 0 0) 1 Tryz.underlying77 hj hy0 hy1 .i64 .i64 0 0 rfl rfl rfl (by rw [hy2]; omega) (by unfold maxLen; omega) (kept_alloc w1 _).size ?_; intro w3 hown3 hgrow3; have hb3 : w3.cell? ⟨w.heap.size + 1, 0, none⟩ = some (.slice aL 0 cL) := (grown_cell hgrow3 _ 0 (by simp; omega) (by simp)).trans b2; have hz3 : w1.heap.size < w3.heap.size := (by have := hgrow3.size; simp at this; omega); have hlt3 : w.heap.size + 1 < w3.heap.size := (by omega))
    | (at_make; refine wpList_make_own _ rfl _ _ 31 rfl w1.heap.size 3 i0 (.int .i64 0) 1 Tryz.underlying31 hi hz0 hz1 .i64 .i64 0 0 rfl rfl rfl (by rw [hz2]; omega) (by unfold maxLen; omega) (Nat.le_trans (Nat.le_of_lt hz3) (kept_alloc w3 _).size) ?_; intro w5 hown5 hgrow5; have b5 : w5.cell? ⟨w.heap.size + 1, 0, none⟩ = some (.slice aL 0 cL) := (grown_cell hgrow5 _ 0 (Nat.lt_of_lt_of_le hlt3 (kept_alloc w3 _).size) (by simp)).trans (((kept_alloc w3 _).cell (p := ⟨w.heap.size + 1, 0, none⟩) hlt3).trans hb3); have hlt5 : w.heap.size + 1 < w5.heap.size := Nat.lt_of_lt_of_le (Nat.lt_of_lt_of_le hlt3 (kept_alloc w3 _).size) hgrow5.size))
  have HK3 := Lib.hid (HK2.out.trans (Below.grown (Below.refl _ _) hgrow3 (Nat.le_refl _) (fun j hj => by cases hj)))
  have HK5 := Lib.hid ((HK3.out.trans (kept_alloc w3 _)).trans (Below.grown (Below.refl _ _) hgrow5 (Nat.le_refl _) (fun j hj => by cases hj)))
  clear hown5 hgrow5 hown3 hgrow3 b5 b1 b2 hb3 hz3 hlt3 hlt5 zz1
  go_loopw [7, 20] (fun ov i wr => i = .int .i64 0 ∧ (∃ a d, ov = .slice a 0 d) ∧ Hid (Kept w wr)) (fun _ _ _ => 0)
  case atStart => exact ⟨rfl, ⟨_, _, rfl⟩, HK5.out⟩
  case round =>
    obtain ⟨rfl, ⟨a, d, rfl⟩, HK⟩ := hrel
    have hmf : ∀ (fn : Fn) (first cap : Array Value) (w : World), (Instr.makeFunc fn first cap).run Tryz.prog w = .ok (.func fn first cap) w := fun _ _ _ _ => rfl
    go_wp2_with fail
    refine (HSF.out _ _ _ _).mono ?_
    rintro e w9 ⟨rfl, hk9⟩
    have HK9 := Lib.hid (HK.out.trans hk9)
    clear hk9
    go_wp2_with fail
    go_ret
    exact ⟨_, rfl, ⟨a, d, rfl, Nat.zero_le _, fun q => absurd q (by simp)⟩, HK9.out⟩
theorem sort_all (vR vO vL : Value) (c : ColT) (l : List Bs) (w : World) (hv : Col w vR vO c) (hL : Strs w vL l) (hs : SmallC c) (h12 : l.length ≤ 12) (hll : ∀ x ∈ l, x.length ≤ 1000) :
    Calls Tryz.prog 16 #[colV vR vO c.ignore, vL] w (IntsP ((sortC c l).map fun i : Nat => (i : Int)) w) := by
  by_cases hn : 0 < l.length
  · exact sort_any vR vO vL c l w hv hL hs hn h12 hll
  · obtain rfl : l = [] := List.length_eq_zero_iff.1 (by omega)
    exact sort_nil vR vO vL c w hv hL hs
end Go.Proofs.YtpfbdgcgpghifaaGreatDoor

/- Sort of publisherref25. Conditions: lengths; twelve texts at most. -/
set_option linter.all false
namespace Go.Proofs.YtpfbdgcgpghifaaGreatDoor
open Go.RowKit

theorem wp_append_any {P : Program} (w : World) {o : Oper} {a : Act} {K : Act → World → Prop} {Q : Exit → Act → World → Prop} (s x : Operand) (t : TypeId)
    (ho : o.op = .call { callee := .builtin .append, args := #[s, x], argTypes := #[t, t] })
    (base : Nat) (e : TypeId) (i : TypeInfo) (z : Value) (size bytes : Nat) (ht : P.underlying t = some (.slice e)) (hi : P.info? e = some i) (hz : i.zero = some z)
    (hsize : i.size = size) (hby : i.bytes = bytes) (hzs : z.cells.size = size) (hsz : 0 < size)
    (v : Value) (n : Nat) (xs : List Value) (hs : a.eval s = v) (hown : w.ownsRow base e size v n xs)
    (a' : Option Addr) (m c : Nat) (news : List Value) (hx : a.eval x = .slice a' m c) (hl : news.length = m * size)
    (hsrc : 0 < m → ∃ g o2, a' = some ⟨g, o2, none⟩ ∧ ∀ j u, news[j]? = some u → w.cell? ⟨g, o2 + j, none⟩ = some u) (h1 : ∀ u ∈ news, u.oneCell' = true)
    (h63 : n + m ≤ maxLen) (hbytes : (n + m) * bytes ≤ 140737488355328) (hbase : base ≤ w.heap.size)
    (h : ∀ v' w', w'.ownsRow base e size v' (n + m) (xs ++ news) → w.grownBy w' v.ownBlock → (∀ g, v'.ownBlock = some g → v.ownBlock = some g ∨ g = w.heap.size) → K (a.put o.dst v') w') : Oper.wp P o a w K Q := by
  by_cases hq : 0 < m
  · obtain ⟨g, o2, rfl, hc⟩ := hsrc hq
    refine wp_append_lies w s x t ho base e i z size bytes ht hi hz hsize hby hzs hsz v n xs hs hown ⟨g, o2, none⟩ m c news hx hl (fun j u hu => by rw [addr_at]; exact hc j u hu) h1 hq h63 hbytes hbase w.heap.size rfl ?_
    intro g' cap w' h1 h2 h4 _
    exact h _ _ h1 h2 (fun g hg => by cases hg; exact h4)
  · obtain rfl : m = 0 := by omega
    obtain rfl : news = [] := List.length_eq_zero_iff.1 (by omega)
    have hown' := hown
    obtain ⟨a2, c2, rfl, hle, _, _⟩ := own_cap hown
    have hsrc : Src P i.size t (.slice a' 0 c) 0 [] w := by
      refine ⟨.inl ⟨_, ht⟩, fun w' => ?_, ?_, ?_, by simp, by simp⟩
      · simp [Builtin.lenOf]
      · cases a' <;> simp [Builtin.firstCells, loadCells, loadCellsFrom]
      · cases a' <;> simp [Builtin.firstCells, loadCells, loadCellsFrom]
    have hr := run_append_nothing (P := P) w t t o.type e i ht hi a2 n c2 hle (.slice a' 0 c) hsrc
    unfold Oper.wp execOp
    simp only [ho, resolve, invoke, builtin, Sem.run_bind, Sem.run_pure, Result.andThen_ok, List.map_toArray, List.map_cons, List.map_nil, hs, hx]
    rw [hr]
    refine h _ _ ?_ (World.grownBy.refl _ _) (fun g hg => .inl hg)
    rw [List.append_nil]; exact hown'
set_option maxRecDepth 100000 in
theorem wpList_append_ints (w : World) {ops : Array Oper} {rest : List Oper} {o : Oper} {a : Act} {Q : Exit → Act → World → Prop} (hgd : o.guard = none) (s x : Operand)
    (ho : o.op = .call { callee := .builtin .append, args := #[s, x], argTypes := #[31, 31] })
    (base : Nat) (v : Value) (ps : List Int) (hs : a.eval s = v) (hown : w.ownsRow base 3 1 v ps.length (intC ps)) (u : Value) (qs : List Int) (hx : a.eval x = u) (hu : Ints w u qs)
    (hb : ps.length + qs.length ≤ 10000000) (hbase : base ≤ w.heap.size)
    (h : ∀ v' w', w'.ownsRow base 3 1 v' (ps ++ qs).length (intC (ps ++ qs)) → w.grownBy w' v.ownBlock → (∀ g, v'.ownBlock = some g → v.ownBlock = some g ∨ g = w.heap.size) → wpList Tryz.prog ops Q rest (a.put o.dst v') w') :
    wpList Tryz.prog ops Q (o :: rest) a w := by
  obtain ⟨i0, hi, hz0, hz1, hz2⟩ := info_parts Tryz.infoInt
  obtain ⟨a', c', rfl, hc, h3⟩ := hu
  refine wpList_plain hgd fun _ hK => wp_append_any w s x 31 ho base 3 i0 (.int .i64 0) 1 8 Tryz.underlying31 hi hz0 hz1 hz2 rfl (by decide) v ps.length (intC ps) hs hown a' qs.length c' (intC qs) hx (by simp [intC_length]) (fun hq => ?_) (intC_one qs) (by unfold maxLen; omega) (by omega) hbase (fun v' w' h1 h2 h4 => hK _ _ (h v' w' ?_ h2 h4))
  · obtain ⟨g, o2, rfl, _, hcell⟩ := h3 hq
    refine ⟨g, o2, rfl, fun j u hu => ?_⟩
    obtain ⟨y, hy, rfl⟩ := intC_back qs j u hu
    exact hcell j y hy
  · rw [List.length_append, intC_app]; exact h1
theorem own_prefix {w : World} {base g n cap a : Nat} {e : TypeId} {xs : List Value} (h : w.ownsRow base e 1 (.slice (some ⟨g, 0, none⟩) n cap) n xs) (ha : a ≤ n) : w.ownsRow base e 1 (.slice (some ⟨g, 0, none⟩) a cap) a (xs.take a) := by
  obtain ⟨h1, h2⟩ := h
  rcases h2 with ⟨q, _⟩ | ⟨g', cap', cur, q, hb, hg, hn, hc, hs, ht⟩
  · cases q
  · cases q
    refine ⟨by rw [List.length_take]; omega, .inr ⟨g, cap, cur, rfl, hb, hg, by omega, hc, hs, ?_⟩⟩
    rw [← ht, List.take_take]; congr 1; omega
/-- The forms of a row that a call owns. -/
theorem own_shape {w : World} {base n : Nat} {e : TypeId} {v : Value} {xs : List Value} (h : w.ownsRow base e 1 v n xs) : ∃ a c, v = .slice a n c ∧ n ≤ c ∧ c ≤ maxLen ∧ ((a = none ∧ n = 0 ∧ c = 0) ∨ ∃ g, a = some ⟨g, 0, none⟩) := by
  rcases h.2 with ⟨rfl, rfl⟩ | ⟨g, cap, cur, rfl, hb, hg, hn, hc, hs, ht⟩
  · exact ⟨none, 0, rfl, Nat.le_refl _, by unfold maxLen; omega, .inl ⟨rfl, rfl, rfl⟩⟩
  · exact ⟨_, cap, rfl, hn, hc, .inr ⟨g, rfl⟩⟩
theorem Ints.suffix {w : World} {g n c : Nat} {xs : List Int} (h : Ints w (.slice (some ⟨g, 0, none⟩) n c) xs) (a : Nat) (ha : a ≤ n) : Ints w (.slice (if c = a then some ⟨g, 0, none⟩ else some ⟨g, a, none⟩) (n - a) (c - a)) (xs.drop a) := by
  obtain ⟨a', c', hv, hc, h3⟩ := h
  obtain ⟨rfl, rfl, rfl⟩ := Value.slice.inj hv
  refine ⟨_, _, by rw [List.length_drop], by rw [List.length_drop]; omega, fun q => ?_⟩
  rw [List.length_drop] at q
  obtain ⟨g', o', he, hg, hcell⟩ := h3 (by omega)
  cases he
  refine ⟨g, a, by rw [if_neg (by omega)], hg, fun j x hx => ?_⟩
  have := hcell (a + j) x (by rw [List.getElem?_drop] at hx; exact hx)
  rwa [Nat.zero_add] at this
def natI (o : List Nat) : List Int := o.map fun i : Nat => (i : Int)
theorem natI_at {o : List Nat} {j m : Nat} (h : o[j]? = some m) : (natI o)[j]? = some (m : Int) := by unfold natI; rw [List.getElem?_map, h]; rfl
theorem natI_take (o : List Nat) (a : Nat) : intC (natI (o.take a)) = (intC (natI o)).take a := by unfold natI intC; simp only [List.map_take]
theorem natI_drop (o : List Nat) (a : Nat) : natI (o.drop a) = (natI o).drop a := by unfold natI; rw [List.map_drop]
theorem natI_len (o : List Nat) : (natI o).length = o.length := by unfold natI; rw [List.length_map]
theorem sort_row {w : World} {base : Nat} {e : TypeId} {v : Value} {c : ColT} {l : List Bs} {o : List Nat} {a k : Nat} (h : w.ownsRow base e 1 v (natI (o.take a) ++ [(k : Int)] ++ natI (o.drop a)).length (intC (natI (o.take a) ++ [(k : Int)] ++ natI (o.drop a)))) (hn : natI (sortN c l (k + 1)) = natI (o.take a) ++ [(k : Int)] ++ natI (o.drop a)) (hd : o.length = k ∧ a ≤ k) :
    w.ownsRow base e 1 v (k + 1) (intC (natI (sortN c l (k + 1)))) := by
  have e : (natI (o.take a) ++ [(k : Int)] ++ natI (o.drop a)).length = k + 1 := by
    rw [List.length_append, List.length_append, natI_len, natI_len, List.length_take, List.length_drop]
    simp only [List.length_cons, List.length_nil]
    omega
  rw [hn, ← e]; exact h
theorem row_aside {w w8 : World} {base n m c : Nat} {e : TypeId} {a : Option Addr} {xs : List Value} {o : Obj} (h : w.ownsRow base e 1 (.slice a n c) m xs) (hg : (w.alloc o).grownBy w8 (Value.slice (some ⟨w.heap.size, 0, none⟩) 0 0).ownBlock) : w8.ownsRow base e 1 (.slice a n c) m xs :=
  (Only.grown hg).own (h.alloc _) (fun g hg q => by
    have h1 := (h.lt g hg).2
    have h2 : g = w.heap.size := by simpa [Value.ownBlock] using q
    omega)
theorem row_front {w : World} {base n g a cap : Nat} {e : TypeId} {o : List Nat} (h : w.ownsRow base e 1 (.slice (some ⟨g, 0, none⟩) n cap) (natI o).length (intC (natI o))) (hd : o.length = n ∧ a ≤ n) : w.ownsRow base e 1 (.slice (some ⟨g, 0, none⟩) a cap) (natI (o.take a)).length (intC (natI (o.take a))) := by
  rw [natI_take, natI_len, List.length_take, Nat.min_eq_left (by omega)]
  rw [natI_len, hd.1] at h
  exact own_prefix h hd.2
theorem row_none {e : TypeId} {b : Nat} (o : List Nat) (hd : o.length = 0 ∧ 0 ≤ 0) (w : World) : w.ownsRow b e 1 (.slice none 0 0) (natI (o.take 0)).length (intC (natI (o.take 0))) := World.ownsRow_nil _ _ _ _
theorem txt_at {l : List Bs} {i : Nat} {x : Bs} (h : l[i]? = some x) : txt l i = x := by unfold txt; rw [List.getD_eq_getElem?_getD, h]; rfl
set_option maxRecDepth 100000 in
set_option maxHeartbeats 6400000 in
theorem rsort_any (vR vO vL : Value) (c : ColT) (l : List Bs) (w : World) (hv : Col w vR vO c) (hL : Strs w vL l) (hs : SmallC c) (h12 : l.length ≤ 12) (hll : ∀ x ∈ l, x.length ≤ 1000) :
    Calls Tryz.prog 18 #[colV vR vO c.ignore, vL] w (IntsP (natI (sortC c l)) w) := by
  have HV := Lib.hid hv
  have HL := Lib.hid hL
  have HLL := Lib.hid hll
  have HCR := Lib.hid (fun a b w h (ha : a.length ≤ 1000) (hb : b.length ≤ 1000) => rcompare_any vR vO c a b w h hs ha hb)
  have HSN := Lib.hid (sortN_succ c l)
  have HSL := Lib.hid (sortN_len c l)
  have HSM := Lib.hid (sortN_mem c l)
  have HSC : Hid (sortC c l = sortN c l l.length) := rfl
  obtain ⟨aR, cR, rfl, lR⟩ := hv.1.form
  obtain ⟨aO, cO, rfl, lO⟩ := hv.2.form
  obtain ⟨aL, cL, rfl, lL⟩ := hL.form
  clear hv hL hs hll
  have HK0 := Lib.hid (kept_alloc w (.cells #[.slice aR c.ranks.length cR, .slice aO c.order.length cO, .string (bs c.ignore)] 25))
  have HB0 := Lib.hid (Blk.new w 25 #[.slice aR c.ranks.length cR, .slice aO c.order.length cO, .string (bs c.ignore)])
  unfold IntsP
  go_enter Tryz.func18, Tryz.ntmps18
  go_wp2_with fail
  generalize w.alloc (.cells #[.slice aR c.ranks.length cR, .slice aO c.order.length cO, .string (bs c.ignore)] 25) = w0 at *
  generalize w.heap.size = B at *
  go_loopw [5, 6] (fun v i wr => ∃ k : Nat, k ≤ l.length ∧ i = .int .i64 k ∧ Hid (wr.ownsRow w0.heap.size 3 1 v k (intC (natI (sortN c l k)))) ∧ Hid (Kept w0 wr)) (fun _ i _ => l.length - (intOf i).toNat)
  case atStart => exact ⟨0, Nat.zero_le _, rfl, World.ownsRow_nil _ _ _ _, Kept.refl _⟩
  case round =>
    obtain ⟨k, hk, rfl, HOWN, HKW⟩ := hrel
    by_cases hlt : k < l.length
    · obtain ⟨W, rfl⟩ : ∃ a, a = wr := ⟨_, rfl⟩
      obtain ⟨x, hx⟩ : ∃ z, l[k]? = some z := ⟨_, List.getElem?_eq_getElem hlt⟩
      obtain ⟨gl, ol, rfl, hgl, dk, -, -⟩ := (HL.out.kept (HK0.out.trans HKW.out)).cell_of k x hx
      have HTX := Lib.hid (txt_at hx)
      have hxl := HLL.out x (List.mem_of_getElem? hx)
      have HNX : Hid (sortN c l (k + 1) = insC c l (sortN c l k) k) := HSN.out k
      have hol := HSL.out k
      have HOM := Lib.hid (HSM.out k)
      obtain ⟨o, HO⟩ : ∃ o, Hid (sortN c l k = o) := ⟨_, rfl⟩
      rw [HO.out] at HNX hol HOWN HOM
      obtain ⟨av, cv, rfl, hcv, hcm, hvn⟩ := own_shape HOWN.out
      have HVN := Lib.hid hvn
      have HOWNQ : Hid (W.ownsRow w0.heap.size 3 1 (.slice av k cv) (natI o).length (intC (natI o))) := by
        show World.ownsRow _ _ _ _ _ _ _
        rw [natI_len, hol]; exact HOWN.out
      have HOL := Lib.hid hol
      clear hx hvn hol
      go_wp2_with fail
      go_loopw [7] (fun i wr => ∃ a : Nat, a ≤ k ∧ i = .int .i64 a ∧ Hid (∀ m ∈ o.drop a, ltC c l k m = true) ∧ Hid (Kept W wr)) (fun i _ => (intOf i).toNat)
      case atStart => exact ⟨k, Nat.le_refl _, rfl, (by show ∀ m ∈ o.drop k, _; rw [List.drop_of_length_le (by rw [HOL.out]; exact Nat.le_refl _)]; intro m hm; cases hm), Kept.refl _⟩
      case round =>
        obtain ⟨a, ha, rfl, HDR, HKR⟩ := hrel
        by_cases h0 : 0 < a
        · obtain ⟨b, rfl⟩ : ∃ b, a = b + 1 := ⟨a - 1, by omega⟩
          obtain ⟨m, hm⟩ : ∃ m, o[b]? = some m := ⟨_, List.getElem?_eq_getElem (by rw [HOL.out]; omega)⟩
          obtain ⟨gv, ov, hav, hgv, dv⟩ := (Ints.own (own_kept (HOWNQ.out) HKR.out)).cell_of b (m : Int) (natI_at hm)
          obtain ⟨y, hy⟩ : ∃ z, l[m]? = some z := ⟨_, List.getElem?_eq_getElem (Nat.lt_trans (HOM.out m (List.mem_of_getElem? hm)) hlt)⟩
          obtain ⟨gv, rfl⟩ : ∃ g, av = some ⟨g, 0, none⟩ := by
            rcases HVN.out with ⟨q, _⟩ | q
            · rw [q] at hav; cases hav
            · exact q
          cases hav
          rw [Nat.zero_add] at dv
          obtain ⟨gl', ol', he, -, dm, -, -⟩ := (HL.out.kept (HK0.out.trans (HKW.out.trans HKR.out))).cell_of m y hy
          cases he
          have hyl := HLL.out y (List.mem_of_getElem? hy)
          have hml : m < l.length := (List.getElem?_eq_some_iff.1 hy).1
          have HTY := Lib.hid (txt_at hy)
          have HLT : Hid (ltC c l k m = decide (cmpC c x y < 0)) := by
            show _ = _
            unfold ltC; rw [HTX.out, HTY.out]
          have dkr : wr.cell? ⟨gl, ol + k, none⟩ = some (.string (bs x)) := (HKR.out.cell (p := ⟨gl, ol + k, none⟩) hgl).trans dk
          have hglr : gl < wr.heap.size := Nat.lt_of_lt_of_le hgl HKR.out.size
          have HCC : Hid (∀ w', Kept wr w' → (w'.cell? ⟨B, 0, none⟩ = some (.slice aR c.ranks.length cR) ∧ w'.cell? ⟨B, 1, none⟩ = some (.slice aO c.order.length cO) ∧ w'.cell? ⟨B, 2, none⟩ = some (.string (bs c.ignore)) ∧ w'.cell? ⟨gl, ol + k, none⟩ = some (.string (bs x)) ∧ w'.cell? ⟨gv, b, none⟩ = some (.int .i64 m) ∧ w'.cell? ⟨gl, ol + m, none⟩ = some (.string (bs y))) ∧ (B < w'.heap.size ∧ gl < w'.heap.size ∧ gv < w'.heap.size) ∧ Kept W w') := fun w' h =>
            ⟨⟨(HB0.out.kept (HKW.out.trans (HKR.out.trans h))).cell 0 _ rfl, (HB0.out.kept (HKW.out.trans (HKR.out.trans h))).cell 1 _ rfl, (HB0.out.kept (HKW.out.trans (HKR.out.trans h))).cell 2 _ rfl, (h.cell (p := ⟨gl, ol + k, none⟩) hglr).trans dkr, (h.cell (p := ⟨gv, b, none⟩) hgv).trans dv, (h.cell (p := ⟨gl, ol + m, none⟩) hglr).trans dm⟩, ⟨(HB0.out.kept (HKW.out.trans (HKR.out.trans h))).lt, Nat.lt_of_lt_of_le hglr h.size, Nat.lt_of_lt_of_le hgv h.size⟩, HKR.out.trans h⟩
          obtain ⟨⟨t0, t1, t2, -, -, -⟩, ⟨z0, -, -⟩, -⟩ := HCC.out wr (Kept.refl _)
          have hkd : Kept wr wr.drew := kept_drewN wr 1
          have HCX := Lib.hid (fun w h => HCR.out x y w h hxl hyl)
          have HVR := Lib.hid (HV.out.kept (HK0.out.trans (HKW.out.trans HKR.out)))
          have HDR2 : Hid (cmpC c x y < 0 → ∀ m ∈ o.drop b, ltC c l k m = true) := fun h m' hm' => by
            obtain ⟨hb, rfl⟩ := List.getElem?_eq_some_iff.1 hm
            rw [List.drop_eq_getElem_cons hb] at hm'
            rcases List.mem_cons.1 hm' with rfl | q
            · rw [HLT.out]; simpa using h
            · exact HDR.out m' q
          have HST : Hid (¬ cmpC c x y < 0 → atC c l k o = b + 1) := fun h =>
            atC_stop c l k o (b + 1) (by rw [HOL.out]; omega) HDR.out (fun _ => by
              obtain ⟨hb, e⟩ := List.getElem?_eq_some_iff.1 hm
              simp only [Nat.add_sub_cancel]
              rw [e, HLT.out]; simpa using h)
          generalize cmpC c x y = R at *
          have hbk : b < k := by omega
          have hbe : ((b + 1 : Nat) : Int) - 1 = (b : Int) := by omega
          have hgd : decide ((0 : Int) < (b : Int) + 1) = true := by simpa using (by omega : (0 : Int) < (b : Int) + 1)
          simp only [Int.natCast_add, Int.natCast_one] at hbe ⊢
          have hw1 : IntKind.i64.wrap (b : Int) = (b : Int) := IntWalk.i64_in _ (by omega)
          have hw2 : IntKind.i64.wrap ((b : Int) + 1 - 1) = (b : Int) := by rw [hbe]; exact hw1
          have hb0 : (0 : Int) ≤ (b : Int) := by omega
          have hb1 : (b : Int) < (k : Int) := by omega
          have hm0 : (0 : Int) ≤ (m : Int) := by omega
          have hm1 : (m : Int) < (l.length : Int) := by omega
          have hk0 : (0 : Int) ≤ (k : Int) := by omega
          have hk1 : (k : Int) < (l.length : Int) := by omega
          clear hm hy HTX HTY HLT
          by_cases hR : R < 0
          · have HDR3 := Lib.hid (HDR2.out hR)
            go_wp2_with fail
            go_region_held3 (fun w' => (w'.cell? ⟨B, 0, none⟩ = some (.slice aR c.ranks.length cR) ∧ w'.cell? ⟨B, 1, none⟩ = some (.slice aO c.order.length cO) ∧ w'.cell? ⟨B, 2, none⟩ = some (.string (bs c.ignore)) ∧ w'.cell? ⟨gl, ol + k, none⟩ = some (.string (bs x)) ∧ w'.cell? ⟨gv, b, none⟩ = some (.int .i64 m) ∧ w'.cell? ⟨gl, ol + m, none⟩ = some (.string (bs y))) ∧ (B < w'.heap.size ∧ gl < w'.heap.size ∧ gv < w'.heap.size) ∧ Kept W w')
              ((refine HCC.out _ ?_; assumption))
              (first
                | (go_at_call 15; refine (HCX.out _ (HVR.out.kept hkd)).mono ?_; rintro e w7 ⟨rfl, hk7⟩; have k7 : Kept wr w7 := hkd.trans hk7; clear hk7))
            all_goals
              have HK7 := Lib.hid (HKR.out.trans k7)
              clear HCC t0 t1 t2 z0 hkd HDR2 HST HCX HVR dkr dm dv
              go_wp2_with fail
              go_roundw
              case rel => exact ⟨b, by omega, by go_num, HDR3.out, HK7.out⟩
              case measure => simp [intOf]
          · have HATC := Lib.hid (HST.out hR)
            have HAK : Hid (b + 1 ≤ k) := ha
            go_wp2_with fail
            go_region_held3 (fun w' => (w'.cell? ⟨B, 0, none⟩ = some (.slice aR c.ranks.length cR) ∧ w'.cell? ⟨B, 1, none⟩ = some (.slice aO c.order.length cO) ∧ w'.cell? ⟨B, 2, none⟩ = some (.string (bs c.ignore)) ∧ w'.cell? ⟨gl, ol + k, none⟩ = some (.string (bs x)) ∧ w'.cell? ⟨gv, b, none⟩ = some (.int .i64 m) ∧ w'.cell? ⟨gl, ol + m, none⟩ = some (.string (bs y))) ∧ (B < w'.heap.size ∧ gl < w'.heap.size ∧ gv < w'.heap.size) ∧ Kept W w')
              ((refine HCC.out _ ?_; assumption))
              (first
                | (go_at_call 15; refine (HCX.out _ (HVR.out.kept hkd)).mono ?_; rintro e w7 ⟨rfl, hk7⟩; have k7 : Kept wr w7 := hkd.trans hk7; clear hk7))
            all_goals
              have HKT := Lib.hid (HKR.out.trans k7)
              have hbk2 : (b : Int) + 1 ≤ (k : Int) := by omega
              have hkc2 : (k : Int) ≤ (cv : Int) := by omega
              clear HCC t0 t1 t2 z0 hkd HDR2 HST HCX HVR dkr dm dv
              have HOT : Hid (w7.ownsRow w0.heap.size 3 1 (.slice (some ⟨gv, 0, none⟩) k cv) (natI o).length (intC (natI o))) := own_kept HOWNQ.out HKT.out
              have HNEW : Hid (natI (sortN c l (k + 1)) = natI (o.take (b + 1)) ++ [((k : Nat) : Int)] ++ natI (o.drop (b + 1))) := by
                show _ = _
                rw [HNX.out, insC, HATC.out]
                unfold natI
                simp
              have hol : o.length = k := HOL.out
              have hdl : o.length = k ∧ (b + 1) ≤ k := ⟨hol, by omega⟩
              have hd12 : (natI (o.drop (b + 1))).length ≤ 12 := by rw [natI_len, List.length_drop]; omega
              have ht12 : (natI (o.take (b + 1))).length = (b + 1) := by rw [natI_len, List.length_take]; omega
              have hsz7 : w0.heap.size ≤ w7.heap.size := (HKW.out.trans HKT.out).size
              have HMD := Lib.hid (World.ownsRow_made (size := 1) (e := 3) (base := w7.heap.size) w7 #[] 0 (Nat.le_refl _) (by unfold maxLen; omega) (by simp))
              have HIU : Hid (Ints (w7.alloc (.cells #[] 3)) (.slice (if cv = b + 1 then some ⟨gv, 0, none⟩ else some ⟨gv, b + 1, none⟩) (k - (b + 1)) (cv - (b + 1))) (natI (o.drop (b + 1)))) := (by show Ints _ _ _; rw [natI_drop]; exact (((Ints.own HOT.out)).kept (kept_alloc w7 _)).suffix (b + 1) (by omega))
              go_wp2_with (at_builtin; first
                | (refine wpList_append_ints _ rfl _ _ rfl w0.heap.size v9 (natI (o.take (b + 1)) ++ [((k : Nat) : Int)]) rfl HO9.out _ (natI (o.drop (b + 1))) rfl HI9.out (by rw [List.length_append]; simp only [List.length_cons, List.length_nil]; omega) HK9.out.size ?_; intro v10 w10 hown10 hgrow10 hloc10; have HO10 := Lib.hid hown10; have HK10 := Lib.hid (HK9.out.trans' (grown_below HO9.out hgrow10 HK9.out.size)); have HO11 := Lib.hid (sort_row HO10.out HNEW.out hdl); obtain ⟨a10, c10, rfl, -, -, -⟩ := own_shape HO11.out; clear hown10 hgrow10 hloc10 HO10)
                | (refine wpList_append_ints _ rfl _ _ rfl w0.heap.size (.slice (some ⟨gv, 0, none⟩) (b + 1) cv) (natI (o.take (b + 1))) rfl HP8.out _ [((k : Nat) : Int)] rfl (new_int w8 k) (by simp only [List.length_cons, List.length_nil]; omega) (by simp; omega) ?_; intro v9 w9 hown9 hgrow9 hloc9; have HO9 := Lib.hid hown9; have HI9 := Lib.hid ((HI8.out.kept (kept_alloc w8 (.cells #[.int .i64 k] 3))).apart (Only.grown hgrow9) (fun g hg q => absurd (HOT.out.lt g q.symm).2 (Nat.not_lt.2 (HL8.out g hg)))); have HK9 := Lib.hid ((HK8.out.trans (kept_alloc w8 (.cells #[.int .i64 k] 3))).trans' (grown_below HP8.out hgrow9 (by simp; omega))); clear hown9 hgrow9 hloc9)
                | (refine wpList_append_ints _ rfl _ _ rfl w7.heap.size (.slice (some ⟨w7.heap.size, 0, none⟩) 0 0) [] rfl HMD.out (.slice (if cv = b + 1 then some ⟨gv, 0, none⟩ else some ⟨gv, b + 1, none⟩) (k - (b + 1)) (cv - (b + 1))) (natI (o.drop (b + 1))) rfl HIU.out (by simp only [List.length_nil]; omega) (by simp) ?_; intro v8 w8 hown8 hgrow8 hloc8; have HO8 := Lib.hid hown8; have HOT8 := Lib.hid (row_aside HOT.out hgrow8); have HK8 := Lib.hid (((HKW.out.trans HKT.out).trans (kept_alloc w7 (.cells #[] 3))).trans' ((grown_below HMD.out hgrow8 (by simp)).mono hsz7)); have HI8 := Lib.hid (Ints.own HO8.out); have HL8 := Lib.hid (fun g hg => (HO8.out.lt g hg).1); have HP8 := Lib.hid ((row_front HOT8.out hdl).alloc (.cells #[.int .i64 k] 3)); have hsz8 := HK8.out.size; simp only [List.nil_append] at HI8; obtain ⟨a8, c8, rfl, -, -, -⟩ := own_shape HO8.out; simp only [List.nil_append]; clear hown8 hgrow8 hloc8 HO8))
              clear HO9 HI9 HK9 HP8 HI8 HL8 HK8 HOT8 ht12 hd12 hsz7 hsz8 HMD HIU
              go_wp2_with fail
              go_roundw
              case rel => exact ⟨k + 1, by omega, by go_num, HO11.out, HK10.out⟩
              case measure => simp [intOf]; omega
        · obtain rfl : a = 0 := by omega
          have HATC := Lib.hid (atC_stop c l k o 0 (Nat.zero_le _) HDR.out (fun h => absurd h (by omega)))
          have HAK : Hid (0 ≤ k) := Nat.zero_le _
          go_wp2_with fail
          first | (go_quiet (fail)) | fail
          all_goals
            have HKT := Lib.hid (HKR.out.trans (kept_drewN wr nq))
            generalize wr.drewN nq = w7 at *
            rcases HVN.out with ⟨rfl, rfl, rfl⟩ | ⟨gv, rfl⟩
            · skip
              have HOT : Hid (w7.ownsRow w0.heap.size 3 1 (.slice none 0 0) (natI o).length (intC (natI o))) := own_kept HOWNQ.out HKT.out
              have HNEW : Hid (natI (sortN c l (0 + 1)) = natI (o.take 0) ++ [((0 : Nat) : Int)] ++ natI (o.drop 0)) := by
                show _ = _
                rw [HNX.out, insC, HATC.out]
                unfold natI
                simp
              have hol : o.length = 0 := HOL.out
              have hdl : o.length = 0 ∧ 0 ≤ 0 := ⟨hol, by omega⟩
              have hd12 : (natI (o.drop 0)).length ≤ 12 := by rw [natI_len, List.length_drop]; omega
              have ht12 : (natI (o.take 0)).length = 0 := by rw [natI_len, List.length_take]; omega
              have hsz7 : w0.heap.size ≤ w7.heap.size := (HKW.out.trans HKT.out).size
              have HMD := Lib.hid (World.ownsRow_made (size := 1) (e := 3) (base := w7.heap.size) w7 #[] 0 (Nat.le_refl _) (by unfold maxLen; omega) (by simp))
              have HIU : Hid (Ints (w7.alloc (.cells #[] 3)) (.slice none 0 0) (natI (o.drop 0))) := (by show Ints _ _ _; obtain rfl := List.length_eq_zero_iff.1 hol; exact Ints.none_ _)
              go_wp2_with (at_builtin; first
                | (refine wpList_append_ints _ rfl _ _ rfl w0.heap.size v9 (natI (o.take 0) ++ [((0 : Nat) : Int)]) rfl HO9.out _ (natI (o.drop 0)) rfl HI9.out (by rw [List.length_append]; simp only [List.length_cons, List.length_nil]; omega) HK9.out.size ?_; intro v10 w10 hown10 hgrow10 hloc10; have HO10 := Lib.hid hown10; have HK10 := Lib.hid (HK9.out.trans' (grown_below HO9.out hgrow10 HK9.out.size)); have HO11 := Lib.hid (sort_row HO10.out HNEW.out hdl); obtain ⟨a10, c10, rfl, -, -, -⟩ := own_shape HO11.out; clear hown10 hgrow10 hloc10 HO10)
                | (refine wpList_append_ints _ rfl _ _ rfl w0.heap.size (.slice none 0 0) (natI (o.take 0)) rfl HP8.out _ [((0 : Nat) : Int)] rfl (new_int w8 0) (by simp only [List.length_cons, List.length_nil]; omega) (by simp; omega) ?_; intro v9 w9 hown9 hgrow9 hloc9; have HO9 := Lib.hid hown9; have HI9 := Lib.hid ((HI8.out.kept (kept_alloc w8 (.cells #[.int .i64 0] 3))).apart (Only.grown hgrow9) (fun g hg q => absurd (HOT.out.lt g q.symm).2 (Nat.not_lt.2 (HL8.out g hg)))); have HK9 := Lib.hid ((HK8.out.trans (kept_alloc w8 (.cells #[.int .i64 0] 3))).trans' (grown_below HP8.out hgrow9 (by simp; omega))); clear hown9 hgrow9 hloc9)
                | (refine wpList_append_ints _ rfl _ _ rfl w7.heap.size (.slice (some ⟨w7.heap.size, 0, none⟩) 0 0) [] rfl HMD.out (.slice none 0 0) (natI (o.drop 0)) rfl HIU.out (by simp only [List.length_nil]; omega) (by simp) ?_; intro v8 w8 hown8 hgrow8 hloc8; have HO8 := Lib.hid hown8; have HOT8 := Lib.hid (row_aside HOT.out hgrow8); have HK8 := Lib.hid (((HKW.out.trans HKT.out).trans (kept_alloc w7 (.cells #[] 3))).trans' ((grown_below HMD.out hgrow8 (by simp)).mono hsz7)); have HI8 := Lib.hid (Ints.own HO8.out); have HL8 := Lib.hid (fun g hg => (HO8.out.lt g hg).1); have HP8 := Lib.hid ((row_none (e := 3) (b := w0.heap.size) o hdl w8).alloc (.cells #[.int .i64 0] 3)); have hsz8 := HK8.out.size; simp only [List.nil_append] at HI8; obtain ⟨a8, c8, rfl, -, -, -⟩ := own_shape HO8.out; simp only [List.nil_append]; clear hown8 hgrow8 hloc8 HO8))
              clear HO9 HI9 HK9 HP8 HI8 HL8 HK8 HOT8 ht12 hd12 hsz7 hsz8 HMD HIU
              go_wp2_with fail
              go_roundw
              case rel => exact ⟨0 + 1, by omega, by go_num, HO11.out, HK10.out⟩
              case measure => simp [intOf]; omega
            · have hkc2 : (k : Int) ≤ (cv : Int) := by omega
              have HOT : Hid (w7.ownsRow w0.heap.size 3 1 (.slice (some ⟨gv, 0, none⟩) k cv) (natI o).length (intC (natI o))) := own_kept HOWNQ.out HKT.out
              have HNEW : Hid (natI (sortN c l (k + 1)) = natI (o.take 0) ++ [((k : Nat) : Int)] ++ natI (o.drop 0)) := by
                show _ = _
                rw [HNX.out, insC, HATC.out]
                unfold natI
                simp
              have hol : o.length = k := HOL.out
              have hdl : o.length = k ∧ 0 ≤ k := ⟨hol, by omega⟩
              have hd12 : (natI (o.drop 0)).length ≤ 12 := by rw [natI_len, List.length_drop]; omega
              have ht12 : (natI (o.take 0)).length = 0 := by rw [natI_len, List.length_take]; omega
              have hsz7 : w0.heap.size ≤ w7.heap.size := (HKW.out.trans HKT.out).size
              have HMD := Lib.hid (World.ownsRow_made (size := 1) (e := 3) (base := w7.heap.size) w7 #[] 0 (Nat.le_refl _) (by unfold maxLen; omega) (by simp))
              have HIU : Hid (Ints (w7.alloc (.cells #[] 3)) (.slice (some ⟨gv, 0, none⟩) k cv) (natI (o.drop 0))) := (by show Ints _ _ _; rw [List.drop_zero]; exact ((Ints.own HOT.out)).kept (kept_alloc w7 _))
              go_wp2_with (at_builtin; first
                | (refine wpList_append_ints _ rfl _ _ rfl w0.heap.size v9 (natI (o.take 0) ++ [((k : Nat) : Int)]) rfl HO9.out _ (natI (o.drop 0)) rfl HI9.out (by rw [List.length_append]; simp only [List.length_cons, List.length_nil]; omega) HK9.out.size ?_; intro v10 w10 hown10 hgrow10 hloc10; have HO10 := Lib.hid hown10; have HK10 := Lib.hid (HK9.out.trans' (grown_below HO9.out hgrow10 HK9.out.size)); have HO11 := Lib.hid (sort_row HO10.out HNEW.out hdl); obtain ⟨a10, c10, rfl, -, -, -⟩ := own_shape HO11.out; clear hown10 hgrow10 hloc10 HO10)
                | (refine wpList_append_ints _ rfl _ _ rfl w0.heap.size (.slice (some ⟨gv, 0, none⟩) 0 cv) (natI (o.take 0)) rfl HP8.out _ [((k : Nat) : Int)] rfl (new_int w8 k) (by simp only [List.length_cons, List.length_nil]; omega) (by simp; omega) ?_; intro v9 w9 hown9 hgrow9 hloc9; have HO9 := Lib.hid hown9; have HI9 := Lib.hid ((HI8.out.kept (kept_alloc w8 (.cells #[.int .i64 k] 3))).apart (Only.grown hgrow9) (fun g hg q => absurd (HOT.out.lt g q.symm).2 (Nat.not_lt.2 (HL8.out g hg)))); have HK9 := Lib.hid ((HK8.out.trans (kept_alloc w8 (.cells #[.int .i64 k] 3))).trans' (grown_below HP8.out hgrow9 (by simp; omega))); clear hown9 hgrow9 hloc9)
                | (refine wpList_append_ints _ rfl _ _ rfl w7.heap.size (.slice (some ⟨w7.heap.size, 0, none⟩) 0 0) [] rfl HMD.out (.slice (some ⟨gv, 0, none⟩) k cv) (natI (o.drop 0)) rfl HIU.out (by simp only [List.length_nil]; omega) (by simp) ?_; intro v8 w8 hown8 hgrow8 hloc8; have HO8 := Lib.hid hown8; have HOT8 := Lib.hid (row_aside HOT.out hgrow8); have HK8 := Lib.hid (((HKW.out.trans HKT.out).trans (kept_alloc w7 (.cells #[] 3))).trans' ((grown_below HMD.out hgrow8 (by simp)).mono hsz7)); have HI8 := Lib.hid (Ints.own HO8.out); have HL8 := Lib.hid (fun g hg => (HO8.out.lt g hg).1); have HP8 := Lib.hid ((row_front HOT8.out hdl).alloc (.cells #[.int .i64 k] 3)); have hsz8 := HK8.out.size; simp only [List.nil_append] at HI8; obtain ⟨a8, c8, rfl, -, -, -⟩ := own_shape HO8.out; simp only [List.nil_append]; clear hown8 hgrow8 hloc8 HO8))
              clear HO9 HI9 HK9 HP8 HI8 HL8 HK8 HOT8 ht12 hd12 hsz7 hsz8 HMD HIU
              go_wp2_with fail
              go_roundw
              case rel => exact ⟨k + 1, by omega, by go_num, HO11.out, HK10.out⟩
              case measure => simp [intOf]; omega
    · obtain rfl : k = l.length := by omega
      have HI : Hid (Ints wr u5 (natI (sortC c l))) := by
        show Ints _ _ _
        refine Ints.own (base := w0.heap.size) (e := 3) ?_
        rw [HSC.out, natI_len, HSL.out]; exact HOWN.out
      go_wp2_with fail
      go_ret
      exact ⟨_, rfl, HI.out, HK0.out.trans HKW.out⟩
end Go.Proofs.YtpfbdgcgpghifaaGreatDoor
