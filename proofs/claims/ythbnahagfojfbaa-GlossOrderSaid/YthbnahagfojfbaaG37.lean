/- The region of GlossOrder that makes a term: it draws its order. Conditions: what the walk knows ahead of it. -/
import Derived.Test.YthbnahagfojfbaaG36
import Derived.Deep.AppendLies

set_option linter.all false
namespace Go.Proofs.Ythbnahagfojfbaa
open Go.RowKit Go.Sort

section
variable {P : Program} {ops : Array Oper} {Q : Exit → Act → World → Prop}
theorem opAt_dst {i : Nat} {op : Op} {d : Option Nat} (h : OpAt ops i op d) : dstB ops i = d := by
  obtain ⟨o, ho, -, -, hd⟩ := h; unfold dstB; rw [ho]; exact hd
theorem opAt_value {i : Nat} {op : Op} {d : Option Nat} {a : Act} {w w' : World} {v : Value} {K : Act → World → Prop} (h : OpAt ops i op d) (hr : ∀ o : Oper, o.op = op → (execOp a.eval o).run P w = .ok (.value v) w') (hk : K (a.put (dstB ops i) v) w') : wpOp P ops Q i K a w := by
  rw [opAt_dst h] at hk
  obtain ⟨o, ho, hop, hg, hd⟩ := h
  exact step_value ho hg (hr o hop) (by rw [hd]; exact hk)
theorem opAt_enter {i : Nat} {op : Op} {d : Option Nat} {a : Act} {w w' : World} {f : FuncId} {args : Array Value} {K : Act → World → Prop} (h : OpAt ops i op d) (hr : ∀ o : Oper, o.op = op → (execOp a.eval o).run P w = .ok (.enter f args) w')
    (hc : Calls P f args w' fun e w'' => ∃ v, e = .returned v ∧ K (a.put (dstB ops i) v) w'') : wpOp P ops Q i K a w := by
  rw [opAt_dst h] at hc
  obtain ⟨o, ho, hop, hg, hd⟩ := h
  exact step_enter ho hg (hr o hop) (by rw [hd]; exact hc)
theorem opAt_list {i : Nat} {op : Op} {d : Option Nat} {a : Act} {w : World} {K : Act → World → Prop} (h : OpAt ops i op d) (hl : ∀ o : Oper, o.op = op → o.guard = none → o.dst = dstB ops i → wpList P ops (QK Q K) [o] a w) : wpOp P ops Q i K a w := by
  have e := opAt_dst h
  obtain ⟨o, ho, hop, hg, hd⟩ := h
  exact op_list ho (hl o hop hg (by rw [hd, e]))
theorem op_move {i : Nat} {x : Operand} {d : Option Nat} {a : Act} {w : World} {K : Act → World → Prop} (h : OpAt ops i (.move x) d) {v : Value} (hx : a.eval x = v) (hk : K (a.put (dstB ops i) v) w) : wpOp P ops Q i K a w :=
  opAt_value h (fun o ho => by simp only [execOp, ho, hx]; simp [go_sem]) hk
theorem op_assign {i : Nat} {x : Operand} {d : Option Nat} {a : Act} {w : World} {K : Act → World → Prop} (h : OpAt ops i (.assign x) d) {v : Value} (hx : a.eval x = v) (hk : K (a.put (dstB ops i) v) w) : wpOp P ops Q i K a w :=
  opAt_value h (fun o ho => by simp only [execOp, ho, hx]; simp [go_sem]) hk
end
def tmC (P : Nat) (nm : Bs) : Array Value := #[.int .i64 13, .int .i64 0, .string (bs kTerm), .string (bs []), .string (bs []), .string (bs []), .string (bs (105 :: nm)), .slice none 0 0, .slice (some ⟨P, 0, none⟩) 1 1, .slice none 0 0, .slice none 0 0]
def zbC : Array Value := #[.int .i64 0, .int .i64 0, .string (bs []), .string (bs []), .string (bs []), .string (bs []), .string (bs []), .slice none 0 0, .slice none 0 0, .slice none 0 0, .slice none 0 0]
def f13 (vL vX : Value) (g o m : Nat) (nm : Bs) (n0 : Nat) : Nat → (Nat → Value) → World → Prop
  | 0, V, _ => V 0 = vL
  | 1, V, _ => V 1 = .int .i64 m
  | 2, V, _ => V 2 = .pointer (some ⟨g, o + m, none⟩)
  | 3, V, _ => V 3 = vX
  | 4, V, _ => V 4 = .string (bs nm)
  | 5, V, _ => V 5 = vL
  | 6, V, _ => V 6 = .int .i64 m
  | 7, V, _ => V 7 = .pointer (some ⟨g, o + m, none⟩)
  | 8, V, _ => V 8 = vX
  | 9, V, _ => V 9 = .string (bs nm)
  | 10, V, _ => V 10 = .string (bs (105 :: nm))
  | 11, V, w => ∃ P : Nat, V 11 = .agg (tmC P nm) ∧ n0 ≤ P ∧ Blk w P 60 #[.string (bs kName), .string (bs nm)]
  | 12, V, w => ∃ Z : Nat, V 12 = .pointer (some ⟨Z, 0, none⟩) ∧ n0 ≤ Z ∧ Blk w Z 37 zbC
  | _, _, _ => True
theorem Try.sizeBl1 : (Try.prog.info? 37).map (·.size) = some 11 := by kernel_rfl
theorem Try.size22 : (Try.prog.info? 33).map (·.size) = some 1 := by kernel_rfl
set_option maxRecDepth 100000 in
set_option maxHeartbeats 3200000 in
theorem reg13 {ops : Array Oper} {id : Nat} {a : Act} {wr : World} {Q : Exit → Act → World → Prop} (vX : Value) (g o n cL m : Nat) (nm : Bs)
    (hc : facB ops 14 13 #[[0, 1, 2, 3, 4, 5, 6, 7, 8, 9, 10, 11, 12]] #[[], [], [0, 1], [2], [3], [], [], [5, 6], [7], [8], [9], [4, 10], [], [11, 12]] 67 = true)
    (p0 : OpAt ops 0 (.move (.tmp 0)) (some 55)) (p1 : OpAt ops 1 (.move (.tmp 8)) (some 56)) (p2 : OpAt ops 2 (.indexAddr 22 (.tmp 55) (.tmp 56)) (some 57)) (p3 : OpAt ops 3 (.load 33 (.tmp 57)) (some 58))
    (p4 : OpAt ops 4 (.call { callee := .value (.func 8), args := #[.tmp 58], argTypes := #[33] }) (some 59))
    (p5 : OpAt ops 5 (.move (.tmp 0)) (some 60)) (p6 : OpAt ops 6 (.move (.tmp 8)) (some 61)) (p7 : OpAt ops 7 (.indexAddr 22 (.tmp 60) (.tmp 61)) (some 62)) (p8 : OpAt ops 8 (.load 33 (.tmp 62)) (some 63))
    (p9 : OpAt ops 9 (.call { callee := .value (.func 8), args := #[.tmp 63], argTypes := #[33] }) (some 64))
    (p10 : OpAt ops 10 (.binOp .add 9 (.const (.string ⟨#[105]⟩)) (.tmp 64) 9) (some 65))
    (p11 : OpAt ops 11 (.call { callee := .value (.func 9), args := #[.tmp 59, .tmp 65, .const (.slice none 0 0)], argTypes := #[9, 9, 29] }) (some 66))
    (p12 : OpAt ops 12 (.alloc 37) (some 10)) (p13 : OpAt ops 13 (.store 37 (.tmp 10) (.tmp 66)) none)
    (hz : 67 ≤ a.tmps.size) (h0 : a.eval (.tmp 0) = .slice (some ⟨g, o, none⟩) n cL) (h8 : a.eval (.tmp 8) = .int .i64 m) (hmn : m < n) (hn : n ≤ 12) (hg : g < wr.heap.size) (hcx : wr.cell? ⟨g, o + m, none⟩ = some vX)
    (HW : Hid (∀ w', Kept wr w' → Calls Try.prog 8 #[vX] w' fun e w'' => e = .returned (.string (bs nm)) ∧ Kept w' w''))
    (hnm : nm.length ≤ 1000)
    (hend : ∀ (V : Nat → Value) w' TB P, V 12 = .pointer (some ⟨TB, 0, none⟩) → Blk w' TB 37 (tmC P nm) → Blk w' P 60 #[.string (bs kName), .string (bs nm)] → wr.heap.size ≤ P → wr.heap.size ≤ TB → Kept wr w' → Q .normal ((((((((((((((a.put (some 55) (V 0)).put (some 56) (V 1)).put (some 57) (V 2)).put (some 58) (V 3)).put (some 59) (V 4)).put (some 60) (V 5)).put (some 61) (V 6)).put (some 62) (V 7)).put (some 63) (V 8)).put (some 64) (V 9)).put (some 65) (V 10)).put (some 66) (V 11)).put (some 10) (V 12)).put none (V 13)) w') :
    (Code.region id ops true).wp Try.prog Q a wr := by
  obtain ⟨hadd, -⟩ := add_bsG (P := Try.prog) [105] nm (105 :: nm) 1 1000 rfl (by simp) hnm (by omega)
  have e0 := opAt_dst p0
  have e1 := opAt_dst p1
  have e2 := opAt_dst p2
  have e3 := opAt_dst p3
  have e4 := opAt_dst p4
  have e5 := opAt_dst p5
  have e6 := opAt_dst p6
  have e7 := opAt_dst p7
  have e8 := opAt_dst p8
  have e9 := opAt_dst p9
  have e10 := opAt_dst p10
  have e11 := opAt_dst p11
  have e12 := opAt_dst p12
  have e13 := opAt_dst p13
  have hout : ∀ t, t < 10 → ∀ j, j < 14 → dstB ops j ≠ some t := by
    intro t ht j hj
    obtain rfl | rfl | rfl | rfl | rfl | rfl | rfl | rfl | rfl | rfl | rfl | rfl | rfl | rfl : j = 0 ∨ j = 1 ∨ j = 2 ∨ j = 3 ∨ j = 4 ∨ j = 5 ∨ j = 6 ∨ j = 7 ∨ j = 8 ∨ j = 9 ∨ j = 10 ∨ j = 11 ∨ j = 12 ∨ j = 13 := by omega
    all_goals simp [e0, e1, e2, e3, e4, e5, e6, e7, e8, e9, e10, e11, e12, e13]
    all_goals omega
  refine wp_region_facts 14 13 67 _ _ hc (by rfl) hz (f13 (.slice (some ⟨g, o, none⟩) n cL) vX g o m nm wr.heap.size) (fun w => Kept wr w) Kept
    (fun V w => ∃ TB P : Nat, V 12 = .pointer (some ⟨TB, 0, none⟩) ∧ Blk w TB 37 (tmC P nm) ∧ Blk w P 60 #[.string (bs kName), .string (bs nm)] ∧ wr.heap.size ≤ P ∧ wr.heap.size ≤ TB ∧ Kept wr w) ?_ ?_ ?_ ?_ ?_ ?_ ?_ ?_ ?_
  · intro j hj V V' w hV h
    have hjj := hV j (.inl rfl)
    obtain rfl | rfl | rfl | rfl | rfl | rfl | rfl | rfl | rfl | rfl | rfl | rfl | rfl | rfl : j = 0 ∨ j = 1 ∨ j = 2 ∨ j = 3 ∨ j = 4 ∨ j = 5 ∨ j = 6 ∨ j = 7 ∨ j = 8 ∨ j = 9 ∨ j = 10 ∨ j = 11 ∨ j = 12 ∨ j = 13 := by omega
    all_goals (simp only [f13] at h ⊢; try (rw [← hjj]; exact h))
  · intro V V' w hV h
    rw [← hV 12 (.inr (by simp))]; exact h
  · intro j hj hne V w w' h k
    obtain rfl | rfl | rfl | rfl | rfl | rfl | rfl | rfl | rfl | rfl | rfl | rfl | rfl : j = 0 ∨ j = 1 ∨ j = 2 ∨ j = 3 ∨ j = 4 ∨ j = 5 ∨ j = 6 ∨ j = 7 ∨ j = 8 ∨ j = 9 ∨ j = 10 ∨ j = 11 ∨ j = 12 := by omega
    iterate 11 exact h
    · obtain ⟨P, h1, h2, h3⟩ := h
      exact ⟨P, h1, h2, h3.kept k⟩
    · obtain ⟨P, h1, h2, h3⟩ := h
      exact ⟨P, h1, h2, h3.kept k⟩
  · intro j hj hne hni
    exfalso; apply hni
    have : j < 13 := by omega
    simp only [Array.getD, List.size_toArray]
    obtain rfl | rfl | rfl | rfl | rfl | rfl | rfl | rfl | rfl | rfl | rfl | rfl | rfl : j = 0 ∨ j = 1 ∨ j = 2 ∨ j = 3 ∨ j = 4 ∨ j = 5 ∨ j = 6 ∨ j = 7 ∨ j = 8 ∨ j = 9 ∨ j = 10 ∨ j = 11 ∨ j = 12 := by omega
    all_goals simp
  · exact kept_drewN wr 1
  · intro i hi hne V a' w' hG hF hR K hK
    have t0 := (hR 0 (hout 0 (by omega))).trans h0
    have t8 := (hR 8 (hout 8 (by omega))).trans h8
    have cx : w'.cell? ⟨g, o + m, none⟩ = some vX := (hG.cell (p := ⟨g, o + m, none⟩) hg).trans hcx
    have same : ∀ v, f13 (.slice (some ⟨g, o, none⟩) n cL) vX g o m nm wr.heap.size i (upd V i v) w' → K (a'.put (dstB ops i) v) w' := fun v h => hK v w' (Kept.refl _) hG h
    obtain rfl | rfl | rfl | rfl | rfl | rfl | rfl | rfl | rfl | rfl | rfl | rfl | rfl : i = 0 ∨ i = 1 ∨ i = 2 ∨ i = 3 ∨ i = 4 ∨ i = 5 ∨ i = 6 ∨ i = 7 ∨ i = 8 ∨ i = 9 ∨ i = 10 ∨ i = 11 ∨ i = 12 := by omega
    · exact op_move p0 t0 (same _ (upd_same _ _ _))
    · exact op_move p1 t8 (same _ (upd_same _ _ _))
    · have z0 := ((hF 0 (by simp)).2 _ e0).trans (hF 0 (by simp)).1
      have z1 := ((hF 1 (by simp)).2 _ e1).trans (hF 1 (by simp)).1
      refine opAt_value p2 (v := .pointer (some ⟨g, o + m, none⟩)) (w' := w') (fun o1 ho => ?_) (same _ (upd_same _ _ _))
      simp only [execOp, ho, z0, z1]; simp [go_sem, Try.underlying22, Try.size22]; intro hh; omega
    · have z0 := ((hF 2 (by simp)).2 _ e2).trans (hF 2 (by simp)).1
      refine opAt_value p3 (v := vX) (w' := w') (fun o1 ho => ?_) (same _ (upd_same _ _ _))
      simp only [execOp, ho, z0]; simp [go_sem, cx, Try.underlying33]
    · have z0 := ((hF 3 (by simp)).2 _ e3).trans (hF 3 (by simp)).1
      refine opAt_enter p4 (f := 8) (args := #[vX]) (w' := w') (fun o1 ho => ?_) ((HW.out w' hG).mono fun e w'' ⟨he, hk⟩ => ⟨_, he, hK _ w'' hk (hG.trans hk) (upd_same _ _ _)⟩)
      simp only [execOp, ho, resolve, List.map_toArray, List.map_cons, List.map_nil, z0]; simp [go_sem]
    · exact op_move p5 t0 (same _ (upd_same _ _ _))
    · exact op_move p6 t8 (same _ (upd_same _ _ _))
    · have z0 := ((hF 5 (by simp)).2 _ e5).trans (hF 5 (by simp)).1
      have z1 := ((hF 6 (by simp)).2 _ e6).trans (hF 6 (by simp)).1
      refine opAt_value p7 (v := .pointer (some ⟨g, o + m, none⟩)) (w' := w') (fun o1 ho => ?_) (same _ (upd_same _ _ _))
      simp only [execOp, ho, z0, z1]; simp [go_sem, Try.underlying22, Try.size22]; intro hh; omega
    · have z0 := ((hF 7 (by simp)).2 _ e7).trans (hF 7 (by simp)).1
      refine opAt_value p8 (v := vX) (w' := w') (fun o1 ho => ?_) (same _ (upd_same _ _ _))
      simp only [execOp, ho, z0]; simp [go_sem, cx, Try.underlying33]
    · have z0 := ((hF 8 (by simp)).2 _ e8).trans (hF 8 (by simp)).1
      refine opAt_enter p9 (f := 8) (args := #[vX]) (w' := w') (fun o1 ho => ?_) ((HW.out w' hG).mono fun e w'' ⟨he, hk⟩ => ⟨_, he, hK _ w'' hk (hG.trans hk) (upd_same _ _ _)⟩)
      simp only [execOp, ho, resolve, List.map_toArray, List.map_cons, List.map_nil, z0]; simp [go_sem]
    · have z0 := ((hF 9 (by simp)).2 _ e9).trans (hF 9 (by simp)).1
      refine opAt_value p10 (v := .string (bs (105 :: nm))) (w' := w') (fun o1 ho => ?_) (same _ (upd_same _ _ _))
      have := hadd w'
      simp only [execOp, ho, z0]; simp [go_sem, this]
    · have z0 := ((hF 4 (by simp)).2 _ e4).trans (hF 4 (by simp)).1
      have z1 := ((hF 10 (by simp)).2 _ e10).trans (hF 10 (by simp)).1
      refine opAt_enter p11 (f := 9) (args := #[.string (bs nm), .string (bs (105 :: nm)), .slice none 0 0]) (w' := w') (fun o1 ho => ?_) ((term_any nm (105 :: nm) none 0 0 w').mono fun e w'' ⟨P, he, hP, hb, hk⟩ => ⟨_, he, hK _ w'' hk (hG.trans hk) ⟨P, (upd_same _ _ _), Nat.le_trans hG.size hP, hb⟩⟩)
      simp only [execOp, ho, resolve, List.map_toArray, List.map_cons, List.map_nil, z0, z1]; simp [go_sem]
    · obtain ⟨i0, hi, hz0, hz1, hz2⟩ := info_parts Try.infoBl
      refine opAt_value p12 (v := .pointer (some ⟨w'.heap.size, 0, none⟩)) (w' := w'.alloc (.cells zbC 37)) (fun o1 ho => ?_) (hK _ _ (kept_alloc _ _) (hG.trans (kept_alloc _ _)) ⟨w'.heap.size, upd_same _ _ _, hG.size, Blk.new _ _ _⟩)
      simp only [execOp, ho]; simp [go_sem, hi, hz0, zbC]
  · intro V a' w' hG hF hR K hK
    obtain ⟨⟨P, q1, q2, q3⟩, q4⟩ := hF 11 (by simp)
    obtain ⟨⟨Z, r1, r2, r3⟩, r4⟩ := hF 12 (by simp)
    have z0 := (q4 _ e11).trans q1
    have z1 := (r4 _ e12).trans r1
    refine opAt_list p13 fun o1 ho hg' hd' => ?_
    refine wpList_store_blk hg' 37 (.tmp 10) (.tmp 66) ho Z zbC (tmC P nm) z1 z0 r3 rfl Try.sizeBl1 (by simp [tmC, Value.oneCell']) ?_
    intro w2 hb2 ho2
    rw [hd']
    have hne : P ≠ Z := fun e => by
      subst e
      have h1 := q3.cell 0 _ rfl
      have h2 := r3.cell 0 _ rfl
      rw [h1] at h2; cases h2
    exact hK _ _ ⟨Z, P, (upd_ne (by omega)).trans r1, hb2, q3.onl ho2 hne, q2, r2, hG.trans' (ho2.below hG.size (fun i e => by rw [e]; exact r2))⟩
  · intro i hi hne hni
    exfalso; apply hni
    have : i < 13 := by omega
    obtain rfl | rfl | rfl | rfl | rfl | rfl | rfl | rfl | rfl | rfl | rfl | rfl | rfl : i = 0 ∨ i = 1 ∨ i = 2 ∨ i = 3 ∨ i = 4 ∨ i = 5 ∨ i = 6 ∨ i = 7 ∨ i = 8 ∨ i = 9 ∨ i = 10 ∨ i = 11 ∨ i = 12 := by omega
    all_goals simp
  · intro V w' ⟨TB, P, h1, h2, h3, h4, h5, h6⟩ _
    have := hend V w' TB P h1 h2 h3 h4 h5 h6
    simp only [putAll, e0, e1, e2, e3, e4, e5, e6, e7, e8, e9, e10, e11, e12, e13]
    exact this
end Go.Proofs.Ythbnahagfojfbaa

/- Three rows that grow side by side, one after another. No condition. -/
set_option linter.all false
namespace Go.Proofs.Ythbnahagfojfbaa
open Go.RowKit Go.Sort

structure R3 (C : Nat) (wr : World) (t b u : Value) (xt xb : List Blo) (us : List Inl) : Prop where
  T : OutG (BloK 2 0) 11 (fun g => C < g ∧ b.ownBlock ≠ some g ∧ u.ownBlock ≠ some g) (C + 1) 37 wr t xt
  B : OutG (BloK 2 0) 11 (fun g => C < g ∧ t.ownBlock ≠ some g ∧ u.ownBlock ≠ some g) (C + 1) 37 wr b xb
  U : OutG (InlK 1) 10 (fun g => C < g ∧ t.ownBlock ≠ some g ∧ b.ownBlock ≠ some g) (C + 1) 41 wr u us
  tb : ∀ g, t.ownBlock = some g → b.ownBlock ≠ some g
  tu : ∀ g, t.ownBlock = some g → u.ownBlock ≠ some g
  bu : ∀ g, b.ownBlock = some g → u.ownBlock ≠ some g
  em : b = .slice none 0 0 ∧ xb = [] ∨ 0 < xb.length
theorem Rel3.r3 {C : Nat} {wr : World} {t b u : Value} {ts : List (Bs × Bs)} {us : List Inl} (h : Rel3 C wr t b u ts us) : R3 C wr t b u (ts.map bT) (ts.reverse.map bT) us :=
  ⟨h.T, h.B, h.U, h.tb, h.tu, h.bu, h.em.elim (fun q => .inl ⟨q.1, by rw [q.2]; rfl⟩) (fun q => .inr (by rw [List.length_map, List.length_reverse]; exact q))⟩
theorem Rel3.of {C : Nat} {wr : World} {t b u : Value} {ts : List (Bs × Bs)} {us : List Inl} (h : R3 C wr t b u (ts.map bT) (ts.reverse.map bT) us) (hl : 0 < ts.length) : Rel3 C wr t b u ts us :=
  ⟨h.T, h.B, h.U, h.tb, h.tu, h.bu, .inr hl⟩
variable {C : Nat} {w w' : World} {t b u : Value} {xt xb xt' xb' : List Blo} {us us' : List Inl} {g m c : Nat}
theorem R3.kept (h : R3 C w t b u xt xb us) (k : Kept w w') : R3 C w' t b u xt xb us :=
  ⟨h.T.kept (bloK 2 0) k, h.B.kept (bloK 2 0) k, h.U.kept (inlK 1) k, h.tb, h.tu, h.bu, h.em⟩
theorem R3.afterT (h : R3 C w t b u xt xb us) (hg : w.grownBy w' t.ownBlock) (hat : t.ownBlock = some g ∨ g = w.heap.size)
    (hT : OutG (BloK 2 0) 11 (fun g => C < g ∧ b.ownBlock ≠ some g ∧ u.ownBlock ≠ some g) (C + 1) 37 w' (.slice (some ⟨g, 0, none⟩) m c) xt') : R3 C w' (.slice (some ⟨g, 0, none⟩) m c) b u xt' xb us := by
  refine ⟨hT, h.B.others (bloK 2 0) hg (fun i q => q.2.1) (fun i q q2 => h.tb i q2 q) (fun i hlt q => ⟨q.1, fun q2 => (new_own hat q2).elim q.2.1 (fun q3 => by omega), q.2.2⟩),
    h.U.others (inlK 1) hg (fun i q => q.2.1) (fun i q q2 => h.tu i q2 q) (fun i hlt q => ⟨q.1, fun q2 => (new_own hat q2).elim q.2.1 (fun q3 => by omega), q.2.2⟩), fun i q q2 => ?_, fun i q q2 => ?_, h.bu, h.em⟩
  · rcases new_own hat q with q3 | q3
    · exact h.tb i q3 q2
    · have := (h.B.blk i q2).2; omega
  · rcases new_own hat q with q3 | q3
    · exact h.tu i q3 q2
    · have := (h.U.blk i q2).2; omega
theorem R3.afterU (h : R3 C w t b u xt xb us) (hg : w.grownBy w' u.ownBlock) (hat : u.ownBlock = some g ∨ g = w.heap.size)
    (hU : OutG (InlK 1) 10 (fun g => C < g ∧ t.ownBlock ≠ some g ∧ b.ownBlock ≠ some g) (C + 1) 41 w' (.slice (some ⟨g, 0, none⟩) m c) us') : R3 C w' t b (.slice (some ⟨g, 0, none⟩) m c) xt xb us' := by
  refine ⟨h.T.others (bloK 2 0) hg (fun i q => q.2.2) (fun i q q2 => h.tu i q q2) (fun i hlt q => ⟨q.1, q.2.1, fun q2 => (new_own hat q2).elim q.2.2 (fun q3 => by omega)⟩),
    h.B.others (bloK 2 0) hg (fun i q => q.2.2) (fun i q q2 => h.bu i q q2) (fun i hlt q => ⟨q.1, q.2.1, fun q2 => (new_own hat q2).elim q.2.2 (fun q3 => by omega)⟩), hU, h.tb, fun i q q2 => ?_, fun i q q2 => ?_, h.em⟩
  · rcases new_own hat q2 with q3 | q3
    · exact h.tu i q q3
    · have := (h.T.blk i q).2; omega
  · rcases new_own hat q2 with q3 | q3
    · exact h.bu i q q3
    · have := (h.B.blk i q).2; omega
/-- The second row is made anew, in a block that is new. -/
theorem R3.newB (h : R3 C w t b u xt xb us) (hk : Kept w w') (hg : w.heap.size ≤ g)
    (hB : OutG (BloK 2 0) 11 (fun g => C < g ∧ t.ownBlock ≠ some g ∧ u.ownBlock ≠ some g) (C + 1) 37 w' (.slice (some ⟨g, 0, none⟩) m c) xb') (hl : 0 < xb'.length) : R3 C w' t (.slice (some ⟨g, 0, none⟩) m c) u xt xb' us := by
  have ho : ∀ i, (Value.slice (some ⟨g, 0, none⟩) m c).ownBlock = some i → g = i := fun i q => own_some _ _ _ _ q
  refine ⟨(h.T.mono (bloK 2 0) (fun i hi q => ⟨q.1, fun q2 => by have := ho i q2; omega, q.2.2⟩)).kept (bloK 2 0) hk, hB,
    (h.U.mono (inlK 1) (fun i hi q => ⟨q.1, q.2.1, fun q2 => by have := ho i q2; omega⟩)).kept (inlK 1) hk, fun i q q2 => ?_, h.tu, fun i q q2 => ?_, .inr hl⟩
  · have := ho i q2; have := (h.T.blk i q).2; omega
  · have := ho i q; have := (h.U.blk i q2).2; omega
/-- What the second row holds, as seen from a row in a block that is new. -/
theorem R3.B_new (h : R3 C w t b u xt xb us) (hk : Kept w w') (hg : w.heap.size ≤ g) : OutG (BloK 2 0) 11 (fun i => (C < i ∧ t.ownBlock ≠ some i ∧ u.ownBlock ≠ some i) ∧ (Value.slice (some ⟨g, 0, none⟩) m c).ownBlock ≠ some i) (C + 1) 37 w' b xb :=
  (h.B.mono (bloK 2 0) (fun i hi q => ⟨q, fun q2 => by have := own_some _ _ _ _ q2; omega⟩)).kept (bloK 2 0) hk
theorem R3.size_T (h : R3 C w t b u xt xb us) {i : Nat} (hi : w.heap.size ≤ i) : t.ownBlock ≠ some i := fun q => by have := (h.T.blk i q).2; omega
theorem R3.size_B (h : R3 C w t b u xt xb us) {i : Nat} (hi : w.heap.size ≤ i) : b.ownBlock ≠ some i := fun q => by have := (h.B.blk i q).2; omega
theorem R3.size_U (h : R3 C w t b u xt xb us) {i : Nat} (hi : w.heap.size ≤ i) : u.ownBlock ≠ some i := fun q => by have := (h.U.blk i q).2; omega
theorem term_bT {S : Nat → Prop} {P : Nat} {nm : Bs} (hP : S P) (h : Blk w P 60 #[.string (bs kName), .string (bs nm)]) : BloK 2 0 S w (tmC P nm).toList (bT (nm, 105 :: nm)) :=
  term_blo hP h (Bls.none_ _ _ _ _)
end Go.Proofs.Ythbnahagfojfbaa

/- A new row of one and the second row behind it, which may be nil. Conditions: lengths. -/
set_option linter.all false
namespace Go.Proofs.Ythbnahagfojfbaa
open Go.RowKit Go.Sort

theorem wpList_append_back {C : Nat} {w0 w : World} {t b u : Value} {xt xb : List Blo} {us : List Inl} {ops : Array Oper} {rest : List Oper} {o : Oper} {a : Act} {Q : Exit → Act → World → Prop} (hgd : o.guard = none) (s x : Operand)
    (ho : o.op = .call { callee := .builtin .append, args := #[s, x], argTypes := #[29, 29] }) (g0 : Nat) (hs : a.eval s = .slice (some ⟨g0, 0, none⟩) 1 1) (hx : a.eval x = b)
    (h : R3 C w0 t b u xt xb us) (hk : Kept w0 w) (hg0 : w0.heap.size ≤ g0) (hC : C < w0.heap.size) (cs : List Value) (hb : Blk w g0 37 cs.toArray) (hcl : cs.length = 11) (y : Blo)
    (hy : BloK 2 0 (fun i => (C < i ∧ t.ownBlock ≠ some i ∧ u.ownBlock ≠ some i) ∧ g0 ≠ i) w cs y) (hl : xb.length ≤ 20)
    (H : ∀ g cap w', R3 C w' t (.slice (some ⟨g, 0, none⟩) (1 + xb.length) cap) u xt (y :: xb) us → Kept w0 w' → Only (fun i => i = g0) w w' → wpList Try.prog ops Q rest (a.put o.dst (.slice (some ⟨g, 0, none⟩) (1 + xb.length) cap)) w') : wpList Try.prog ops Q (o :: rest) a w := by
  obtain ⟨i0, hi, hz0, hz1, hz2⟩ := info_parts Try.infoBl
  have one : OutG (BloK 2 0) 11 (fun i => C < i ∧ t.ownBlock ≠ some i ∧ u.ownBlock ≠ some i) (C + 1) 37 w (.slice (some ⟨g0, 0, none⟩) 1 1) [y] := OutG.one_ hb hcl (by omega) hy
  rcases h.em with ⟨rfl, rfl⟩ | hpos
  · have hr := H g0 1 w (h.newB hk hg0 one (by simp)) hk (Only.of_kept (Kept.refl _))
    obtain ⟨css, k1, k2, ko, k4⟩ := one
    refine wpList_plain hgd fun K hK => ?_
    have hsrc : Src Try.prog i0.size 29 (.slice none 0 0) 0 [] w := by
      refine ⟨.inl ⟨_, Try.underlying29⟩, fun w' => ?_, ?_, ?_, by simp, by simp⟩
      · simp [Builtin.lenOf]
      · simp [Builtin.firstCells, loadCells, loadCellsFrom]
      · simp [Builtin.firstCells, loadCells, loadCellsFrom]
    have hn := run_append_nothing (P := Try.prog) w 29 29 o.type 37 i0 Try.underlying29 hi (some ⟨g0, 0, none⟩) 1 1 (Nat.le_refl _) (.slice none 0 0) hsrc
    unfold Oper.wp execOp
    simp only [ho, resolve, invoke, builtin, Sem.run_bind, Sem.run_pure, Result.andThen_ok, List.map_toArray, List.map_cons, List.map_nil, hs, hx]
    rw [hn]
    exact hK _ _ hr
  · obtain ⟨css2, k1, k2, ko2, k4⟩ := id h.B
    obtain ⟨a2, c2, hb2, _, _, h3⟩ := own_cap ko2
    obtain ⟨g1, e2, _⟩ := h3 hpos
    subst hb2
    subst e2
    refine wpList_append_outz (bloK 2 0) hgd s x 29 ho i0 _ 192 Try.underlying29 hi hz0 hz1 hz2 rfl (by omega) hs one g1 _ _ hx (h.B_new (g := g0) hk hg0) hpos (by unfold maxLen; simp; omega) (by simp; omega) (by have := hk.size; omega) _ rfl ?_
    intro g cap w' hout hgr hat
    have hg : w0.heap.size ≤ g := by
      rcases hat with q | q
      · have := own_some _ _ _ _ q; omega
      · have := hk.size; omega
    have hk' : Kept w0 w' := hk.trans' ((Only.grown hgr).below hk.size (fun i e => by have := own_some _ _ _ _ e.symm; omega))
    exact H g cap w' (h.newB hk' hg hout (by simp)) hk' ((Only.grown hgr).mono (fun i _ e => (own_some _ _ _ _ e.symm).symm))
/-- .. the first row with one block more. -/
theorem wpList_append_fore {C : Nat} {w0 w : World} {t b u : Value} {xt xb : List Blo} {us : List Inl} {ops : Array Oper} {rest : List Oper} {o : Oper} {a : Act} {Q : Exit → Act → World → Prop} (hgd : o.guard = none) (s x : Operand)
    (ho : o.op = .call { callee := .builtin .append, args := #[s, x], argTypes := #[29, 29] }) (g0 : Nat) (hs : a.eval s = t) (hx : a.eval x = .slice (some ⟨g0, 0, none⟩) 1 1)
    (h : R3 C w0 t b u xt xb us) (hk : Kept w0 w) (hC : C < w0.heap.size) (cs : List Value) (hb : Blk w g0 37 cs.toArray) (hcl : cs.length = 11) (y : Blo)
    (hy : BloK 2 0 (fun i => (C < i ∧ b.ownBlock ≠ some i ∧ u.ownBlock ≠ some i) ∧ t.ownBlock ≠ some i) w cs y) (hl : xt.length ≤ 20)
    (H : ∀ g cap w', R3 C w' (.slice (some ⟨g, 0, none⟩) (xt.length + 1) cap) b u (xt ++ [y]) xb us → w.grownBy w' t.ownBlock → (t.ownBlock = some g ∨ g = w.heap.size) → wpList Try.prog ops Q rest (a.put o.dst (.slice (some ⟨g, 0, none⟩) (xt.length + 1) cap)) w') : wpList Try.prog ops Q (o :: rest) a w := by
  obtain ⟨i0, hi, hz0, hz1, hz2⟩ := info_parts Try.infoBl
  have h' := h.kept hk
  refine wpList_append_out (bloK 2 0) hgd s x 29 ho i0 _ 192 Try.underlying29 hi hz0 hz1 hz2 rfl (by omega) hs h'.T g0 cs y hx (fun j v hv => hb.cell j v (by rw [List.getElem?_toArray]; exact hv)) hcl hy (by unfold maxLen; omega) (by omega) (by have := hk.size; omega) _ rfl ?_
  intro g cap w' hout hgr hat _
  exact H g cap w' (h'.afterT hgr hat hout) hgr hat
/-- .. the third row with two inlines more. -/
theorem wpList_append_two {C : Nat} {w0 w : World} {t b u : Value} {xt xb : List Blo} {us : List Inl} {ops : Array Oper} {rest : List Oper} {o : Oper} {a : Act} {Q : Exit → Act → World → Prop} (hgd : o.guard = none) (s x : Operand)
    (ho : o.op = .call { callee := .builtin .append, args := #[s, x], argTypes := #[30, 30] }) (g0 n : Nat) (hs : a.eval s = u) (hx : a.eval x = .slice (some ⟨g0, 0, none⟩) n n)
    (h : R3 C w0 t b u xt xb us) (hk : Kept w0 w) (hC : C < w0.heap.size) (hg0 : w0.heap.size ≤ g0) (css : List (List Value)) (ys : List Inl) (hn : ys.length = n) (hb : Blk w g0 41 css.flatten.toArray) (hcl : ∀ cs ∈ css, cs.length = 10) (hcy : css.length = ys.length) (h0 : 0 < n) (hn2 : n ≤ 20)
    (hy : ∀ (j : Nat) (cs : List Value) (y : Inl), css[j]? = some cs → ys[j]? = some y → InlK 1 (fun i => C < i ∧ t.ownBlock ≠ some i ∧ b.ownBlock ≠ some i ∧ u.ownBlock ≠ some i ∧ g0 ≠ i) w cs y) (hl : us.length ≤ 60)
    (H : ∀ g cap w', R3 C w' t b (.slice (some ⟨g, 0, none⟩) (us.length + n) cap) xt xb (us ++ ys) → w.grownBy w' u.ownBlock → wpList Try.prog ops Q rest (a.put o.dst (.slice (some ⟨g, 0, none⟩) (us.length + n) cap)) w') : wpList Try.prog ops Q (o :: rest) a w := by
  obtain ⟨i0, hi, hz0, hz1, hz2⟩ := info_parts Try.infoIn
  have h' := h.kept hk
  subst hn
  have many : OutG (InlK 1) 10 (fun i => (C < i ∧ t.ownBlock ≠ some i ∧ b.ownBlock ≠ some i) ∧ u.ownBlock ≠ some i) (C + 1) 41 w (.slice (some ⟨g0, 0, none⟩) ys.length ys.length) ys :=
    OutG.many hb hcl hcy (by unfold maxLen; omega) (by omega) (fun j cs y h1 h2 => (inlK 1).sam (hy j cs y h1 h2) (fun _ _ _ => rfl) (fun i _ q => ⟨⟨⟨q.1, q.2.1, q.2.2.1⟩, q.2.2.2.1⟩, q.2.2.2.2⟩))
  refine wpList_append_outz (inlK 1) hgd s x 30 ho i0 _ 192 Try.underlying30 hi hz0 hz1 hz2 rfl (by omega) hs h'.U g0 _ _ hx many h0 (by unfold maxLen; omega) (by omega) (by have := hk.size; omega) _ rfl ?_
  intro g cap w' hout hgr hat
  exact H g cap w' (h'.afterU hgr hat hout) hgr
end Go.Proofs.Ythbnahagfojfbaa
