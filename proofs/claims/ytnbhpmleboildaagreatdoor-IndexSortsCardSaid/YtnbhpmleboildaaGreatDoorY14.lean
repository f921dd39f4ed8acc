/- index.copyAttr: a copy of attributes. Conditions: lengths. -/
import Derived.Test.YtnbhpmleboildaaGreatDoorY12
import Derived.Test.YtnbhpmleboildaaGreatDoorY13
import Derived.Test.YtnbhpmleboildaaGreatDoorY07
import Derived.Test.YtnbhpmleboildaaGreatDoorY11
import Derived.Test.YtnbhpmleboildaaGreatDoorY08
import Derived.Test.YtnbhpmleboildaaGreatDoorY09
import Derived.Deep.RegionLaw
import Derived.Deep.RegionHeld3
import Derived.BigQuiet

set_option linter.all false
namespace Go.Proofs.YtnbhpmleboildaaGreatDoor
open Go.RowKit

def fCat (id : Bs) (cls : List Bs) (prs : List Pr) (vC vP : Value) (B n0 : Nat) : Nat → (Nat → Value) → World → Prop
  | 0, V, _ => V 0 = .pointer (some ⟨B, 0, none⟩)
  | 1, V, _ => V 1 = .string (bs id)
  | 2, V, _ => V 2 = .pointer (some ⟨B, 1, none⟩)
  | 3, V, _ => V 3 = vC
  | 4, V, w => Strs w (V 4) cls ∧ InB (fun g => n0 ≤ g) (V 4) cls.length
  | 5, V, _ => V 5 = .pointer (some ⟨B, 2, none⟩)
  | 6, V, _ => V 6 = vP
  | 7, V, w => Prs w (V 7) prs ∧ InB (fun g => n0 ≤ g) (V 7) prs.length
  | 8, V, w => ∃ c p, V 8 = atV id c p ∧ (Strs w c cls ∧ InB (fun g => n0 ≤ g) c cls.length) ∧ (Prs w p prs ∧ InB (fun g => n0 ≤ g) p prs.length)
  | _, _, _ => True
theorem Tryz.infoAt3 : (Tryz.prog.info? 35).map (fun i => (i.zero, i.size, i.bytes)) = some (some (.agg #[.string ⟨#[]⟩, .slice none 0 0, .slice none 0 0]), 3, 64) := by kernel_rfl
theorem Tryz.sizeAt1 : (Tryz.prog.info? 35).map (·.size) = some 3 := by kernel_rfl
set_option maxRecDepth 100000 in
set_option maxHeartbeats 3200000 in
theorem catreg {ops : Array Oper} {rid : Nat} {a : Act} {wr : World} {Q : Exit → Act → World → Prop} (id : Bs) (cls : List Bs) (prs : List Pr) (vC vP : Value) (B R n0 : Nat) (old : Array Value)
    (hc : facB ops 10 9 #[[0, 1, 2, 3, 4, 5, 6, 7, 8]] #[[], [0], [], [2], [3], [], [5], [6], [1, 4, 7], [8]] 12 = true)
    (p0 : OpAt ops 0 (.fieldAddr 35 (.tmp 1) 0) (some 3)) (p1 : OpAt ops 1 (.load 9 (.tmp 3)) (some 4)) (p2 : OpAt ops 2 (.fieldAddr 35 (.tmp 1) 1) (some 5)) (p3 : OpAt ops 3 (.load 26 (.tmp 5)) (some 6))
    (p4 : OpAt ops 4 (.call { callee := .builtin .append, args := #[.const (.slice none 0 0), .tmp 6], argTypes := #[26, 26] }) (some 7))
    (p5 : OpAt ops 5 (.fieldAddr 35 (.tmp 1) 2) (some 8)) (p6 : OpAt ops 6 (.load 22 (.tmp 8)) (some 9))
    (p7 : OpAt ops 7 (.call { callee := .builtin .append, args := #[.const (.slice none 0 0), .tmp 9], argTypes := #[22, 22] }) (some 10))
    (p8 : OpAt ops 8 (.build 35 #[(0, .tmp 4), (1, .tmp 7), (2, .tmp 10)]) (some 11)) (p9 : OpAt ops 9 (.store 35 (.tmp 2) (.tmp 11)) none)
    (hz : 12 ≤ a.tmps.size) (h1 : a.eval (.tmp 1) = .pointer (some ⟨B, 0, none⟩)) (h2 : a.eval (.tmp 2) = .pointer (some ⟨R, 0, none⟩)) (hB : Blk wr B 35 #[.string (bs id), vC, vP]) (hR : Blk wr R 35 old) (hold : old.size = 3) (hRn : n0 ≤ R) (hn0 : wr.heap.size = n0 + 2) (hR2 : R < n0 + 2)
    (HC : Hid (Strs wr vC cls)) (HP : Hid (Prs wr vP prs)) (hcl : cls.length ≤ 1100000) (hpl : prs.length ≤ 1100000)
    (hend : ∀ (V : Nat → Value) w' c p, Blk w' R 35 #[.string (bs id), c, p] → (Strs w' c cls ∧ InB (fun g => n0 ≤ g) c cls.length) → (Prs w' p prs ∧ InB (fun g => n0 ≤ g) p prs.length) → Only (fun i => i = R) wr w' →
      Q .normal ((((((((((a.put (some 3) (V 0)).put (some 4) (V 1)).put (some 5) (V 2)).put (some 6) (V 3)).put (some 7) (V 4)).put (some 8) (V 5)).put (some 9) (V 6)).put (some 10) (V 7)).put (some 11) (V 8)).put none (V 9)) w') :
    (Code.region rid ops true).wp Tryz.prog Q a wr := by
  have e0 := opAt_dst p0
  have e1 := opAt_dst p1
  have e2 := opAt_dst p2
  have e3 := opAt_dst p3
  have e4 := opAt_dst p4
  have e5 := opAt_dst p5
  have e6 := opAt_dst p6
  have e7 := opAt_dst p7
  have e8 := opAt_dst p8
  have e9 := opAt_dst p9
  have hout : ∀ t, t < 3 → ∀ j, j < 10 → dstB ops j ≠ some t := by
    intro t ht j hj
    obtain rfl | rfl | rfl | rfl | rfl | rfl | rfl | rfl | rfl | rfl : j = 0 ∨ j = 1 ∨ j = 2 ∨ j = 3 ∨ j = 4 ∨ j = 5 ∨ j = 6 ∨ j = 7 ∨ j = 8 ∨ j = 9 := by omega
    all_goals simp [e0, e1, e2, e3, e4, e5, e6, e7, e8, e9]
    all_goals omega
  refine wp_region_facts 10 9 12 _ _ hc (by rfl) hz (fCat id cls prs vC vP B (n0 + 2)) (fun w => Kept wr w) Kept
    (fun V w => ∃ c p, Blk w R 35 #[.string (bs id), c, p] ∧ (Strs w c cls ∧ InB (fun g => n0 ≤ g) c cls.length) ∧ (Prs w p prs ∧ InB (fun g => n0 ≤ g) p prs.length) ∧ Only (fun i => i = R) wr w) ?_ ?_ ?_ ?_ ?_ ?_ ?_ ?_ ?_
  · intro j hj V V' w hV h
    have hjj := hV j (.inl rfl)
    obtain rfl | rfl | rfl | rfl | rfl | rfl | rfl | rfl | rfl | rfl : j = 0 ∨ j = 1 ∨ j = 2 ∨ j = 3 ∨ j = 4 ∨ j = 5 ∨ j = 6 ∨ j = 7 ∨ j = 8 ∨ j = 9 := by omega
    all_goals (simp only [fCat] at h ⊢; try (rw [← hjj]; exact h))
  · intro V V' w hV h
    exact h
  · intro j hj hne V w w' h k
    obtain rfl | rfl | rfl | rfl | rfl | rfl | rfl | rfl | rfl : j = 0 ∨ j = 1 ∨ j = 2 ∨ j = 3 ∨ j = 4 ∨ j = 5 ∨ j = 6 ∨ j = 7 ∨ j = 8 := by omega
    iterate 4 exact h
    · exact ⟨h.1.kept k, h.2⟩
    iterate 2 exact h
    · exact ⟨h.1.kept k, h.2⟩
    · obtain ⟨c, p, h1, ⟨h2, h3⟩, h4, h5⟩ := h
      exact ⟨c, p, h1, ⟨h2.kept k, h3⟩, h4.kept k, h5⟩
  · intro j hj hne hni
    exfalso; apply hni
    have : j < 9 := by omega
    simp only [Array.getD, List.size_toArray]
    obtain rfl | rfl | rfl | rfl | rfl | rfl | rfl | rfl | rfl : j = 0 ∨ j = 1 ∨ j = 2 ∨ j = 3 ∨ j = 4 ∨ j = 5 ∨ j = 6 ∨ j = 7 ∨ j = 8 := by omega
    all_goals simp
  · exact kept_drewN wr 1
  · intro i hi hne V a' w' hG hF hR' K hK
    have t1 := (hR' 1 (hout 1 (by omega))).trans h1
    have hB' := hB.kept hG
    have c0 : w'.cell? ⟨B, 0, none⟩ = some (.string (bs id)) := hB'.cell 0 _ rfl
    have c1 : w'.cell? ⟨B, 1, none⟩ = some vC := hB'.cell 1 _ rfl
    have c2 : w'.cell? ⟨B, 2, none⟩ = some vP := hB'.cell 2 _ rfl
    have same : ∀ v, fCat id cls prs vC vP B (n0 + 2) i (upd V i v) w' → K (a'.put (dstB ops i) v) w' := fun v h => hK v w' (Kept.refl _) hG h
    have hsz : n0 + 2 ≤ w'.heap.size := by rw [← hn0]; exact hG.size
    obtain rfl | rfl | rfl | rfl | rfl | rfl | rfl | rfl | rfl : i = 0 ∨ i = 1 ∨ i = 2 ∨ i = 3 ∨ i = 4 ∨ i = 5 ∨ i = 6 ∨ i = 7 ∨ i = 8 := by omega
    · refine opAt_value p0 (v := .pointer (some ⟨B, 0, none⟩)) (w' := w') (fun o1 ho => ?_) (same _ (upd_same _ _ _))
      simp only [execOp, ho, t1]; simp [go_sem, Tryz.underlying35]
    · have z0 := ((hF 0 (by simp)).2 _ e0).trans (hF 0 (by simp)).1
      refine opAt_value p1 (v := .string (bs id)) (w' := w') (fun o1 ho => ?_) (same _ (upd_same _ _ _))
      simp only [execOp, ho, z0]; simp [go_sem, c0, Tryz.underlying9]
    · refine opAt_value p2 (v := .pointer (some ⟨B, 1, none⟩)) (w' := w') (fun o1 ho => ?_) (same _ (upd_same _ _ _))
      simp only [execOp, ho, t1]; simp [go_sem, Tryz.underlying35]
    · have z0 := ((hF 2 (by simp)).2 _ e2).trans (hF 2 (by simp)).1
      refine opAt_value p3 (v := vC) (w' := w') (fun o1 ho => ?_) (same _ (upd_same _ _ _))
      simp only [execOp, ho, z0]; simp [go_sem, c1, Tryz.underlying26]
    · have z0 := ((hF 3 (by simp)).2 _ e3).trans (hF 3 (by simp)).1
      refine opAt_list p4 fun o1 ho hg' hd' => ?_
      refine wpList_copyS hg' (.tmp 6) ho vC cls z0 (HC.out.kept hG) hcl (fun v' w2 hn => ?_)
      rw [hd']
      exact hK _ _ hn.2.2 (hG.trans hn.2.2) (by show Strs w2 (upd V 4 v' 4) cls ∧ InB _ (upd V 4 v' 4) _; rw [upd_same]; exact ⟨hn.1, hn.2.1.mono fun g _ _ q => Nat.le_trans hsz q⟩)
    · refine opAt_value p5 (v := .pointer (some ⟨B, 2, none⟩)) (w' := w') (fun o1 ho => ?_) (same _ (upd_same _ _ _))
      simp only [execOp, ho, t1]; simp [go_sem, Tryz.underlying35]
    · have z0 := ((hF 5 (by simp)).2 _ e5).trans (hF 5 (by simp)).1
      refine opAt_value p6 (v := vP) (w' := w') (fun o1 ho => ?_) (same _ (upd_same _ _ _))
      simp only [execOp, ho, z0]; simp [go_sem, c2, Tryz.underlying22]
    · have z0 := ((hF 6 (by simp)).2 _ e6).trans (hF 6 (by simp)).1
      refine opAt_list p7 fun o1 ho hg' hd' => ?_
      refine wpList_copyF hg' (.tmp 9) ho vP prs z0 (HP.out.kept hG) hpl (fun v' w2 hn => ?_)
      rw [hd']
      exact hK _ _ hn.2.2 (hG.trans hn.2.2) (by show Prs w2 (upd V 7 v' 7) prs ∧ InB _ (upd V 7 v' 7) _; rw [upd_same]; exact ⟨hn.1, hn.2.1.mono fun g _ _ q => Nat.le_trans hsz q⟩)
    · obtain ⟨i1, hi1, hy0, hy1, hy2⟩ := info_parts Tryz.infoAt3
      have z0 := ((hF 1 (by simp)).2 _ e1).trans (hF 1 (by simp)).1
      have z1 := (hF 4 (by simp)).2 _ e4
      have z2 := (hF 7 (by simp)).2 _ e7
      have g1 := (hF 4 (by simp)).1
      have g2 := (hF 7 (by simp)).1
      obtain ⟨aC, nC, cC, hvC⟩ : ∃ a n c, V 4 = .slice a n c := by
        obtain ⟨a, c, h, _⟩ := g1.1; exact ⟨_, _, _, h⟩
      obtain ⟨aP, nP, cP, hvP⟩ : ∃ a n c, V 7 = .slice a n c := by
        obtain ⟨a, c, h, _⟩ := g2.1; exact ⟨_, _, _, h⟩
      refine opAt_value p8 (v := atV id (V 4) (V 7)) (w' := w') (fun o1 ho => ?_) (same _ ⟨V 4, V 7, upd_same _ _ _, g1, g2⟩)
      simp only [execOp, ho, List.map_toArray, List.map_cons, List.map_nil, z0, z1, z2, hvC, hvP]; simp [go_sem, hi1, hy0]
  · intro V a' w' hG hF hR' K hK
    obtain ⟨⟨c, p, q1, ⟨q2, q3⟩, q4, q5⟩, q6⟩ := hF 8 (by simp)
    have t2 := (hR' 2 (hout 2 (by omega))).trans h2
    have z0 := (q6 _ e8).trans q1
    refine opAt_list p9 fun o1 ho hg' hd' => ?_
    have hc1 : c.oneCell' = true := by obtain ⟨a, c, rfl, _⟩ := q2; rfl
    have hp1 : p.oneCell' = true := by obtain ⟨a, c, rfl, _⟩ := q4; rfl
    refine wpList_store_blk hg' 35 (.tmp 2) (.tmp 11) ho R old #[.string (bs id), c, p] t2 z0 (hR.kept hG) hold Tryz.sizeAt1 (by simp only [List.all_toArray, List.all_cons, List.all_nil, hc1, hp1]; rfl) ?_
    intro w2 hb2 ho2
    rw [hd']
    exact hK _ _ ⟨c, p, hb2, ⟨q2.onlS q3 ho2 (fun g _ hs q => by omega), q3.mono fun g _ _ q => by omega⟩, ⟨q4.onlS q5 ho2 (fun g _ hs q => by omega), q5.mono fun g _ _ q => by omega⟩, (Only.of_kept hG).trans ho2⟩
  · intro i hi hne hni
    exfalso; apply hni
    obtain rfl | rfl | rfl | rfl | rfl | rfl | rfl | rfl | rfl : i = 0 ∨ i = 1 ∨ i = 2 ∨ i = 3 ∨ i = 4 ∨ i = 5 ∨ i = 6 ∨ i = 7 ∨ i = 8 := by omega
    all_goals simp
  · intro V w' ⟨c, p, h1, h2, h3, h4⟩ _
    have := hend V w' c p h1 h2 h3 h4
    simp only [putAll, e0, e1, e2, e3, e4, e5, e6, e7, e8, e9]
    exact this
set_option maxRecDepth 100000 in
set_option maxHeartbeats 1600000 in
theorem icat_any (id : Bs) (vC vP : Value) (cls : List Bs) (prs : List Pr) (w : World) (hC : Strs w vC cls) (hP : Prs w vP prs) (hc : cls.length ≤ 1100000) (hp : prs.length ≤ 1100000) :
    Calls Tryz.prog 51 #[atV id vC vP] w (CatP id cls prs w) := by
  have HC := Lib.hid hC
  have HP := Lib.hid hP
  obtain ⟨aC, cC, rfl, lC⟩ := hC.shape
  obtain ⟨aP, cP, rfl, lP⟩ := hP.shape
  clear hC hP
  have e1 : (w.alloc (.cells #[.string (bs id), .slice aC cls.length cC, .slice aP prs.length cP] 35)).heap.size = w.heap.size + 1 := by simp
  have HB0 := Lib.hid ((Blk.new w 35 #[.string (bs id), .slice aC cls.length cC, .slice aP prs.length cP]).alloc (.cells #[.string (bs []), .slice none 0 0, .slice none 0 0] 35))
  have HR0 := Blk.new (w.alloc (.cells #[.string (bs id), .slice aC cls.length cC, .slice aP prs.length cP] 35)) 35 #[.string (bs []), .slice none 0 0, .slice none 0 0]
  rw [e1] at HR0
  have HR := Lib.hid HR0
  have HK0 := Lib.hid ((kept_alloc w (.cells #[.string (bs id), .slice aC cls.length cC, .slice aP prs.length cP] 35)).trans (kept_alloc _ (.cells #[.string (bs []), .slice none 0 0, .slice none 0 0] 35)))
  have hsz : ((w.alloc (.cells #[.string (bs id), .slice aC cls.length cC, .slice aP prs.length cP] 35)).alloc (.cells #[.string (bs []), .slice none 0 0, .slice none 0 0] 35)).heap.size = w.heap.size + 2 := by simp
  have HSZ := Lib.hid hsz
  clear HR0 e1 hsz
  go_enter Tryz.func51, Tryz.ntmps51
  go_wp2_with fail
  generalize World.alloc (World.alloc _ _) _ = w0 at *
  refine catreg id cls prs (.slice aC cls.length cC) (.slice aP prs.length cP) w.heap.size (w.heap.size + 1) w.heap.size _ (by kernel_rfl) ⟨_, rfl, rfl, rfl, rfl⟩ ⟨_, rfl, rfl, rfl, rfl⟩ ⟨_, rfl, rfl, rfl, rfl⟩ ⟨_, rfl, rfl, rfl, rfl⟩ ⟨_, rfl, rfl, rfl, rfl⟩ ⟨_, rfl, rfl, rfl, rfl⟩ ⟨_, rfl, rfl, rfl, rfl⟩ ⟨_, rfl, rfl, rfl, rfl⟩ ⟨_, rfl, rfl, rfl, rfl⟩ ⟨_, rfl, rfl, rfl, rfl⟩ (by simp) rfl rfl HB0.out HR.out rfl (by omega) HSZ.out (by omega) (HC.out.kept HK0.out) (HP.out.kept HK0.out) hc hp ?_
  intro V w9 c p hb9 hc9 hp9 ho9
  have HFIN : CatP id cls prs w (.returned (atV id c p)) w9 := ⟨_, _, rfl, hc9, hp9, HK0.out.trans' (ho9.below HK0.out.size (fun i e => by omega))⟩
  have r0 : w9.cell? ⟨w.heap.size + 1, 0, none⟩ = some (.string (bs id)) := hb9.cell 0 _ rfl
  have r1 : w9.cell? ⟨w.heap.size + 1, 1, none⟩ = some c := hb9.cell 1 _ rfl
  have r2 : w9.cell? ⟨w.heap.size + 1, 2, none⟩ = some p := hb9.cell 2 _ rfl
  have rz := hb9.lt
  have HFF := Lib.hid HFIN
  clear HFIN hc9 hp9 ho9 hb9 HC HP HB0 HR HK0 HSZ
  simp only [Act.put, List.setIfInBounds_toArray, List.set_cons_zero, List.set_cons_succ]
  go_wp2_with fail
  refine bodyPost_ret (v := atV id c p) ?_ rfl HFF.out
  simp [results, Tryz.results51, go_sem, r0, r1, r2, rz]
end Go.Proofs.YtnbhpmleboildaaGreatDoor

/- index.markedLine: marked copies of inlines. Conditions: lengths. -/
set_option linter.all false
namespace Go.Proofs.YtnbhpmleboildaaGreatDoor
open Go.RowKit

theorem Only.step {S T : Nat → Prop} {a b c : World} (h : Only S a b) (k : Only T b c) (hT : ∀ i, T i → a.heap.size ≤ i ∨ S i) : Only S a c :=
  ⟨k.os.trans h.os, k.tape.trans h.tape, k.output.trans h.output, Nat.le_trans h.size k.size, fun i hi hs => (k.block i (Nat.lt_of_lt_of_le hi h.size) (fun q => by
    rcases hT i q with r | r
    · omega
    · exact hs r)).trans (h.block i hi hs)⟩
/-- What the walks ask of an inline: its text as a term is short. -/
def okX (x : Inl) : Prop := (plainL x.kids).length ≤ 1000000 ∧ ∀ v, getP x.prs kKey = some v → v.length ≤ 1000000
def okW (xs : List Inl) : Prop := ∀ x ∈ deepL xs, okX x
theorem deepL_mem2 {xs : List Inl} {x : Inl} (h : x ∈ xs) : x ∈ deepL xs ∧ ∀ y ∈ deepL x.kids, y ∈ deepL xs := by
  induction xs with
  | nil => cases h
  | cons z xs ih =>
    show x ∈ deep1 z ++ deepL xs ∧ ∀ y ∈ deepL x.kids, y ∈ deep1 z ++ deepL xs
    rcases List.mem_cons.1 h with rfl | h
    · rw [deep1_eq]
      exact ⟨by simp, fun y hy => by simp [hy]⟩
    · obtain ⟨a, b⟩ := ih h
      exact ⟨List.mem_append.2 (.inr a), fun y hy => List.mem_append.2 (.inr (b y hy))⟩
theorem deep_take {xs : List Inl} {k : Nat} {x : Inl} (h : xs[k]? = some x) : (deepL (xs.take k)).length + (1 + (deepL x.kids).length) ≤ (deepL xs).length := by
  obtain ⟨hk, rfl⟩ := List.getElem?_eq_some_iff.1 h
  have e : xs = xs.take k ++ (xs[k] :: xs.drop (k + 1)) := by
    rw [← List.drop_eq_getElem_cons hk, List.take_append_drop]
  have e2 : deepL xs = deepL (xs.take k) ++ (deep1 xs[k] ++ deepL (xs.drop (k + 1))) := by
    conv => lhs; rw [e]
    rw [deepL_app]; rfl
  rw [e2, deep1_eq]
  simp only [List.length_append, List.length_cons]
  omega
theorem mk1_mk (used : List Bs) (n : Nat) (kind : Int) (text dest title id : Bs) (cls : List Bs) (prs : List Pr) (args : List Bs) (cits : List Cit) (kids : List Inl) (b : Bool) (h : needI (.mk kind text dest title id cls prs args cits kids) = b) :
    mk1 used n (.mk kind text dest title id cls prs args cits kids) = (.mk kind text dest title (idS id (numS used n b) b) cls prs args cits (mkL used (numS used n b) kids).1, (mkL used (numS used n b) kids).2) := by
  subst h; rfl
/-- The closure next as a value. -/
abbrev nxV (L U : Nat) : Value := .func (.func 29) #[] #[.pointer (some ⟨L, 0, none⟩), .pointer (some ⟨U, 0, none⟩)]
def MkP (W0 : World) (L M U : Nat) (used : List Bs) (n : Nat) (r : List Inl × Nat) (w : World) (e : Ending) (w' : World) : Prop :=
  ∃ v, e = .returned v ∧ Lns (fun g => w.heap.size ≤ g) n w' v r.1 ∧ NextS W0 L M U used r.2 w' ∧ Only (fun g => g = L) w w'
theorem Tryz.infoIn3 : (Tryz.prog.info? 51).map (fun i => (i.zero, i.size, i.bytes)) = some (some (.agg #[.int .i64 0, .string ⟨#[]⟩, .string ⟨#[]⟩, .string ⟨#[]⟩, .string ⟨#[]⟩, .slice none 0 0, .slice none 0 0, .slice none 0 0, .slice none 0 0, .slice none 0 0]), 10, 192) := by kernel_rfl
set_option maxRecDepth 100000 in
set_option maxHeartbeats 12800000 in
theorem mkline_any (W0 : World) (hG0 : Gnd W0) (S : Nat → Prop) (L M U : Nat) (hSL : ∀ g, S g → g ≠ L) (used : List Bs) : ∀ (n : Nat) (xs : List Inl) (v : Value) (m : Nat) (w : World), Lns S n w v xs → xs.length ≤ 1000000 → okIL xs → okW xs → NextS W0 L M U used m w → m + (deepL xs).length * (used.length + 1) ≤ 1000000000000000 →
    Calls Tryz.prog 52 #[v, nxV L U] w (MkP W0 L M U used n (mkL used m xs) w) := by
  intro n
  induction n with
  | zero =>
    intro xs v m w hv hl hok how hn hb
    obtain rfl := hv.no
    obtain ⟨a, c, rfl, hc⟩ := hv.form
    have HFIN : MkP W0 L M U used 0 (mkL used m []) w (.returned (.slice none 0 0)) w := ⟨_, rfl, Lns.none_ _ _ _, hn, Only.of_kept (Kept.refl w)⟩
    generalize hP : MkP W0 L M U used 0 (mkL used m []) w = P at *
    clear hv hok how hn hP hb hG0 hSL
    go_enter Tryz.func52, Tryz.ntmps52
    go_wp2_with fail
    go_loopw [5, 12] (fun o i wr => o = .slice none 0 0 ∧ i = .int .i64 0 ∧ w = wr) (fun _ i _ => 1)
    case atStart => exact ⟨rfl, rfl, rfl⟩
    case round =>
      obtain ⟨rfl, rfl, rfl⟩ := hrel
      go_wp2_with fail
      (try go_ret)
      exact HFIN
  | succ n ih =>
    intro xs v m w hv hl hok how hn hb
    have HV := Lib.hid hv
    have HOK := Lib.hid hok
    have HOW : Hid (∀ x ∈ xs, okX x ∧ okW x.kids) := fun x hx => ⟨how x (deepL_mem2 hx).1, fun y hy => how y ((deepL_mem2 hx).2 y hy)⟩
    have HN0 := Lib.hid hn
    have HSL := Lib.hid hSL
    have HG0 := Lib.hid hG0
    have HTK := Lib.hid (fun (k : Nat) (x : Inl) h => mkL_take (used := used) (n := m) (xs := xs) (k := k) (x := x) h)
    have HTL := Lib.hid (fun k => mkL_len used (xs.take k) m)
    have HBK : Hid (∀ k x, xs[k]? = some x → (mkL used m (xs.take k)).2 + (1 + (deepL x.kids).length) * (used.length + 1) ≤ 1000000000000000) := fun k x hx => by
      have h1 := (mkL_bnd used (xs.take k) m).2
      have h2 := Nat.mul_le_mul_right (used.length + 1) (deep_take hx)
      rw [Nat.add_mul] at h2
      omega
    have HFIN : Hid (∀ v w', OutG (InlK n) 10 (fun g => w.heap.size ≤ g) w.heap.size 51 w' v (mkL used m (xs.take xs.length)).1 → NextS W0 L M U used (mkL used m (xs.take xs.length)).2 w' → Only (fun g => g = L) w w' → MkP W0 L M U used (n + 1) (mkL used m xs) w (.returned v) w') := fun v w' h1 h2 h3 => ⟨v, rfl, by
      rw [List.take_length] at h1
      exact OutG.row (S := fun g => w.heap.size ≤ g) (inlK n) h1 (fun g _ h => h) (fun g h => h), by rw [List.take_length] at h2; exact h2, h3⟩
    have HIH := Lib.hid ih
    unfold MkP at HIH
    obtain ⟨i0, hi, hz0, hz1, hz2⟩ := info_parts Tryz.infoIn3
    obtain ⟨a, c, rfl, hc⟩ := hv.form
    have hLw : L < w.heap.size := hn.cell.lt
    have HNW : Hid (W0.heap.size ≤ w.heap.size ∧ M < w.heap.size ∧ U < w.heap.size) := ⟨hn.kept.size, hn.map.lt, hn.ucell.lt⟩
    generalize hP : MkP W0 L M U used (n + 1) (mkL used m xs) w = P at *
    clear hP hv hok ih how hn hb hG0 hSL
    go_enter Tryz.func52, Tryz.ntmps52
    go_wp2_with fail
    go_loopw [5, 12] (fun o i wr => ∃ (k : Nat), k ≤ xs.length ∧ i = .int .i64 k ∧ Hid (OutG (InlK n) 10 (fun g => w.heap.size ≤ g) w.heap.size 51 wr o (mkL used m (xs.take k)).1) ∧ Hid (NextS W0 L M U used (mkL used m (xs.take k)).2 wr) ∧ Hid (Only (fun g => g = L) w wr)) (fun _ i _ => xs.length - (intOf i).toNat)
    case atStart => exact ⟨0, Nat.zero_le _, rfl, OutG.nil _ _ _ _ _ _, HN0.out, Only.of_kept (Kept.refl w)⟩
    case round =>
      obtain ⟨k, hk, rfl, HGR, HNR, HKR⟩ := hrel
      have hbr : w.heap.size ≤ wr.heap.size := HKR.out.size
      clear HN0
      by_cases hlt : k < xs.length
      · obtain ⟨x, hx⟩ : ∃ x, xs[k]? = some x := ⟨_, List.getElem?_eq_getElem hlt⟩
        have HVR := Lib.hid (HV.out.step (S' := S) HKR.out (fun g _ hs q => HSL.out g hs q) (fun _ _ q => q))
        have hfit := (okIL_at HOK.out x (List.mem_of_getElem? hx)).fit
        obtain ⟨⟨hou1, hou2⟩, hov2⟩ := HOW.out x (List.mem_of_getElem? hx)
        have HO1 := Lib.hid hou1
        have HO2 := Lib.hid hou2
        have HOV2 := Lib.hid hov2
        have HT := Lib.hid (HTK.out k x hx)
        have HBX := Lib.hid (HBK.out k x hx)
        have hzl := HTL.out k
        rw [List.length_take] at hzl
        have HZL := Lib.hid hzl
        clear hzl
        obtain ⟨g, o, vC, vP, vA, vT, vK, rfl, hgg, hgS, -, -, ⟨d0, d1, d2, d3, d4, d5, d6, d7, d8, d9⟩, -, ⟨hC, iC⟩, ⟨hPP, iP⟩, ⟨hA, iA⟩, hTT, hK⟩ := Lns.at_ HVR.out k x hx
        obtain ⟨kind, text, dest, title, id, cls, prs, args, cits, kids⟩ := x
        simp only [Inl.kind, Inl.text, Inl.dest, Inl.title, Inl.id, Inl.cls, Inl.prs, Inl.args, Inl.cits, Inl.kids] at d0 d1 d2 d3 d4 hC hPP hA hTT hK hfit iC iP iA HO1 HO2 HOV2 HBX
        obtain ⟨⟨f1, f2, f3, f4, f5, f6, f7, f8, f9⟩, f10⟩ := hfit
        have HC : Hid (∀ w', Only (fun g => g = L) wr w' → Strs w' vC cls) := fun w' q => hC.onlS iC q (fun g _ hs r => HSL.out g hs r)
        have HPP : Hid (∀ w', Only (fun g => g = L) wr w' → Prs w' vP prs) := fun w' q => hPP.onlS iP q (fun g _ hs r => HSL.out g hs r)
        have HA : Hid (∀ w', Only (fun g => g = L) wr w' → Strs w' vA args) := fun w' q => hA.onlS iA q (fun g _ hs r => HSL.out g hs r)
        have HTT : Hid (∀ w', Only (fun g => g = L) wr w' → Cits S w' vT cits) := fun w' q => hTT.sam (Sam.only q (fun g _ hs r => HSL.out g hs r)) (fun _ _ q => q)
        have HKK : Hid (∀ w', Only (fun g => g = L) wr w' → Lns S n w' vK kids) := fun w' q => hK.step q (fun g _ hs r => HSL.out g hs r) (fun _ _ q => q)
        have HKO := Lib.hid f10
        obtain ⟨aC, cC, rfl, lC⟩ := hC.shape
        obtain ⟨aP, cP, rfl, lP⟩ := hPP.shape
        obtain ⟨aA, cA, rfl, lA⟩ := hA.shape
        obtain ⟨aT, cT, rfl, lT⟩ := hTT.form
        obtain ⟨aK, cK, rfl, lK⟩ := hK.form
        have HB0 := Lib.hid (Blk.new wr 51 #[.int .i64 kind, .string (bs text), .string (bs dest), .string (bs title), .string (bs id), .slice aC cls.length cC, .slice aP prs.length cP, .slice aA args.length cA, .slice aT cits.length cT, .slice aK kids.length cK])
        have HKI := Lib.hid (kept_alloc wr (.cells #[.int .i64 kind, .string (bs text), .string (bs dest), .string (bs title), .string (bs id), .slice aC cls.length cC, .slice aP prs.length cP, .slice aA args.length cA, .slice aT cits.length cT, .slice aK kids.length cK] 51))
        obtain ⟨m0, HM0⟩ : ∃ m0, Hid ((mkL used m (xs.take k)).2 = m0) := ⟨_, rfl⟩
        rw [HM0.out] at HNR HT HBX
        have HMK := Lib.hid (fun b h => mk1_mk used m0 kind text dest title id cls prs args cits kids b h)
        have HND : Hid (needI (Inl.mk kind text dest title id cls prs args cits kids) = (id == [] && okM (Inl.mk kind text dest title id cls prs args cits kids))) := rfl
        have hLr : L < wr.heap.size := HNR.out.cell.lt
        have hMr : M < wr.heap.size := HNR.out.map.lt
        have hUr : U < wr.heap.size := HNR.out.ucell.lt
        have hW0 : W0.heap.size ≤ wr.heap.size := HNR.out.kept.size
        clear hC iC hPP iP hA iA hTT hK f10 hx HTK HTL HVR hov2 hou1 hou2 HBK HM0
        obtain ⟨I, HI⟩ : ∃ I, Hid (wr.heap.size = I) := ⟨_, rfl⟩
        go_wp2_with fail
        generalize wr.alloc _ = w1 at *
        rw [HI.out] at HB0 ⊢
        have hI1 : wr.heap.size ≤ I := by rw [HI.out]; exact Nat.le_refl _
        have HIL : Hid (I ≠ L ∧ I ≠ M ∧ I ≠ U ∧ W0.heap.size ≤ I ∧ L < I) := ⟨by omega, by omega, by omega, by omega, by omega⟩
        have HO1' := Lib.hid (Only.of_kept (S := fun g => g = L) HKI.out)
        have HN1 := Lib.hid (HNR.out.keptW HKI.out)
        clear d0 d1 d2 d3 d4 d5 d6 d7 d8 d9 HKI hLr hMr hUr hW0
        refine (icat_any id _ _ cls prs w1 (HC.out _ HO1'.out) (HPP.out _ HO1'.out) (by omega) (by omega)).mono ?_
        rintro e w4 ⟨vC1, vP1, rfl, ⟨hc1, ic1⟩, ⟨hp1, ip1⟩, hk4⟩
        obtain ⟨aC1, cC1, rfl, lC1⟩ := hc1.shape
        obtain ⟨aP1, cP1, rfl, lP1⟩ := hp1.shape
        have HC4 := Lib.hid hc1
        have HP4 := Lib.hid hp1
        have hz3 : I < w1.heap.size := HB0.out.lt
        have HIC : Hid (InB (fun g => I < g) (.slice aC1 cls.length cC1) cls.length) := ic1.mono (fun g _ _ q => Nat.lt_of_lt_of_le hz3 q)
        have HIP : Hid (InB (fun g => I < g) (.slice aP1 prs.length cP1) prs.length) := ip1.mono (fun g _ _ q => Nat.lt_of_lt_of_le hz3 q)
        have HB4 := Lib.hid (HB0.out.kept hk4)
        have HO4 := Lib.hid (HO1'.out.trans (Only.of_kept hk4))
        have HN4 := Lib.hid (HN1.out.keptW hk4)
        clear hc1 hp1 ic1 ip1 hk4 HB0 HO1' HN1 hz3
        by_cases hid : id = []
        · subst hid
          have HTM := Lib.hid (fun w' (h : Only (fun g => g = L) wr w') (hg : Gnd w') (h1 : Strs w' (.slice aC1 cls.length cC1) cls) (h2 : Prs w' (.slice aP1 prs.length cP1) prs) => termof_any (S := S) n kind text dest title [] cls prs args cits kids (.slice aC1 cls.length cC1) (.slice aP1 prs.length cP1) (.slice aA args.length cA) (.slice aT cits.length cT) (.slice aK kids.length cK) w' hg h1 h2 rfl rfl (HKK.out _ h) (by omega) (by omega) (by omega) HKO.out HO1.out HO2.out)
          unfold TermP at HTM
          generalize mainI (Inl.mk kind text dest title [] cls prs args cits kids) = mm at *
          generalize subI (Inl.mk kind text dest title [] cls prs args cits kids) = ms at *
          go_wp2_with (first
            | (refine wpList_store_part rfl 35 (.tmp 19) (.tmp 18) (by rfl) I 4 51 _ #[.string (bs []), .slice aC1 cls.length cC1, .slice aP1 prs.length cP1] (by rfl) (by rfl) HB4.out (by show 4 + 3 ≤ 10; omega) Tryz.sizeAt (by simp only [List.all_toArray, List.all_cons, List.all_nil]; rfl) ?_
               intro w5 hb5 ho5
               have HB5 : Hid (Blk w5 I 51 #[.int .i64 kind, .string (bs text), .string (bs dest), .string (bs title), .string (bs []), .slice aC1 cls.length cC1, .slice aP1 prs.length cP1, .slice aA args.length cA, .slice aT cits.length cT, .slice aK kids.length cK]) := hb5
               have i4 : w5.cell? ⟨I, 4, none⟩ = some (.string (bs [])) := HB5.out.cell 4 _ rfl
               have ha5 : w5.cell? ⟨I, 7, none⟩ = some (.slice aA args.length cA) := HB5.out.cell 7 _ rfl
               have j0 : w5.cell? ⟨I, 0, none⟩ = some (.int .i64 kind) := HB5.out.cell 0 _ rfl
               have j1 : w5.cell? ⟨I, 1, none⟩ = some (.string (bs text)) := HB5.out.cell 1 _ rfl
               have j2 : w5.cell? ⟨I, 2, none⟩ = some (.string (bs dest)) := HB5.out.cell 2 _ rfl
               have j3 : w5.cell? ⟨I, 3, none⟩ = some (.string (bs title)) := HB5.out.cell 3 _ rfl
               have j5 : w5.cell? ⟨I, 5, none⟩ = some (.slice aC1 cls.length cC1) := HB5.out.cell 5 _ rfl
               have j6 : w5.cell? ⟨I, 6, none⟩ = some (.slice aP1 prs.length cP1) := HB5.out.cell 6 _ rfl
               have j8 : w5.cell? ⟨I, 8, none⟩ = some (.slice aT cits.length cT) := HB5.out.cell 8 _ rfl
               have j9 : w5.cell? ⟨I, 9, none⟩ = some (.slice aK kids.length cK) := HB5.out.cell 9 _ rfl
               have jz := HB5.out.lt
               have HS5 := Lib.hid (HO4.out.step ho5 (fun i e => by left; rw [e]; exact hI1))
               have HN5 := Lib.hid (HN4.out.only ho5 (fun i e => by have := HIL.out; rw [e]; exact ⟨this.2.2.2.1, this.1, this.2.1, this.2.2.1⟩))
               have HC5 := Lib.hid (HC4.out.onlS HIC.out ho5 (fun g _ hs q => by omega))
               have HP5 := Lib.hid (HP4.out.onlS HIP.out ho5 (fun g _ hs q => by omega))
               clear HB4 HO4 HN4 HC4 HP4 hb5 ho5))
          clear j0 j1 j2 j3 j5 j6 j8 j9 jz i4 ha5
          refine (HTM.out w5 HS5.out (HG0.out.kept HN5.out.kept) HC5.out HP5.out).mono ?_
          rintro e w5t ⟨rfl, hk5⟩
          have HB5t := Lib.hid (HB5.out.kept hk5)
          have HS5t := Lib.hid (HS5.out.trans (Only.of_kept hk5))
          have HN5t := Lib.hid (HN5.out.keptW hk5)
          have HC5t := Lib.hid (HC5.out.kept hk5)
          have HP5t := Lib.hid (HP5.out.kept hk5)
          clear hk5 HB5 HS5 HN5 HC5 HP5 HTM
          have hka := kept_alloc w5t (.cells #[.string (bs mm), .string (bs ms)] 62)
          have HB5 := Lib.hid (HB5t.out.kept hka)
          have HS5 := Lib.hid (HS5t.out.trans (Only.of_kept hka))
          have HN5 := Lib.hid (HN5t.out.keptW hka)
          have HC5 := Lib.hid (HC5t.out.kept hka)
          have HP5 := Lib.hid (HP5t.out.kept hka)
          clear hka HB5t HS5t HN5t HC5t HP5t
          cases hmk : okM (Inl.mk kind text dest title [] cls prs args cits kids) with
          | false =>
            have HX := Lib.hid (HMK.out false (by rw [HND.out, hmk]; rfl))
            have hn1 : numS used m0 false = m0 := rfl
            have hn2 : idS [] (numS used m0 false) false = [] := rfl
            rw [hn1] at HX hn2
            rw [hn2] at HX
            clear hn1 hn2
            have ha5 : (w5t.alloc (.cells #[.string (bs mm), .string (bs ms)] 62)).cell? ⟨I, 7, none⟩ = some (.slice aA args.length cA) := HB5.out.cell 7 _ rfl
            have jz := HB5.out.lt
            go_wp2_with (first
              | (refine wpList_copyS rfl (.tmp 35) (by rfl) _ args (by rfl) (HA.out _ HS5.out) (by omega) ?_
                 intro vA1 w6 hn6
                 obtain ⟨aA1, cA1, rfl, lA1⟩ := hn6.1.shape
                 have hk6 := hn6.2.2
                 have hb6 := HB5.out.kept hk6
                 have a6 : w6.cell? ⟨I, 7, none⟩ = some (.slice aA args.length cA) := hb6.cell 7 _ rfl
                 have f6 := hb6.free 7
                 have z6 := hb6.lt
                 have HIA : Hid (InB (fun g => I < g) (.slice aA1 args.length cA1) args.length) := hn6.2.1.mono (fun g _ _ q => Nat.lt_of_lt_of_le HB5.out.lt q)
                 have ho7 := Only.setCell (w := w6) I 7 (.slice aA1 args.length cA1)
                 have HB7 : Hid (Blk (w6.setCell ⟨I, 7, none⟩ (.slice aA1 args.length cA1)) I 51 #[.int .i64 kind, .string (bs text), .string (bs dest), .string (bs title), .string (bs []), .slice aC1 cls.length cC1, .slice aP1 prs.length cP1, .slice aA1 args.length cA1, .slice aT cits.length cT, .slice aK kids.length cK]) := hb6.set 7 _
                 have t6 : (w6.setCell ⟨I, 7, none⟩ (.slice aA1 args.length cA1)).cell? ⟨I, 8, none⟩ = some (.slice aT cits.length cT) := HB7.out.cell 8 _ rfl
                 have HS7 := Lib.hid ((HS5.out.trans (Only.of_kept hk6)).step ho7 (fun i e => by left; rw [e]; exact hI1))
                 have HN7 := Lib.hid ((HN5.out.keptW hk6).only ho7 (fun i e => by have := HIL.out; rw [e]; exact ⟨this.2.2.2.1, this.1, this.2.1, this.2.2.1⟩))
                 have HC7 := Lib.hid ((HC5.out.kept hk6).onlS HIC.out ho7 (fun g _ hs q => by omega))
                 have HP7 := Lib.hid ((HP5.out.kept hk6).onlS HIP.out ho7 (fun g _ hs q => by omega))
                 have HA7 := Lib.hid (hn6.1.onlS HIA.out ho7 (fun g _ hs q => by omega))
                 clear hk6 ho7 hb6 hn6 HB5 HS5 HN5 HC5 HP5)
              | (refine wpList_copyT rfl (.tmp 39) (by rfl) _ cits (by rfl) (HTT.out _ HS7.out) (by omega) ?_
                 intro vT1 w8 hn8
                 obtain ⟨aT1, cT1, rfl, lT1⟩ := hn8.1.form
                 have hk8 := hn8.2
                 have hb8 := HB7.out.kept hk8
                 have a8 : w8.cell? ⟨I, 8, none⟩ = some (.slice aT cits.length cT) := hb8.cell 8 _ rfl
                 have f8' := hb8.free 8
                 have z8 := hb8.lt
                 have ht8 : Cits (fun g => I < g) w8 (.slice aT1 cits.length cT1) cits := hn8.1.sam (fun _ _ _ => rfl) (fun g _ q => Nat.lt_of_lt_of_le HB7.out.lt q)
                 have ho9 := Only.setCell (w := w8) I 8 (.slice aT1 cits.length cT1)
                 have HB9 : Hid (Blk (w8.setCell ⟨I, 8, none⟩ (.slice aT1 cits.length cT1)) I 51 #[.int .i64 kind, .string (bs text), .string (bs dest), .string (bs title), .string (bs []), .slice aC1 cls.length cC1, .slice aP1 prs.length cP1, .slice aA1 args.length cA1, .slice aT1 cits.length cT1, .slice aK kids.length cK]) := hb8.set 8 _
                 have t8 : (w8.setCell ⟨I, 8, none⟩ (.slice aT1 cits.length cT1)).cell? ⟨I, 9, none⟩ = some (.slice aK kids.length cK) := HB9.out.cell 9 _ rfl
                 have HS9 := Lib.hid ((HS7.out.trans (Only.of_kept hk8)).step ho9 (fun i e => by left; rw [e]; exact hI1))
                 have HN9 := Lib.hid ((HN7.out.keptW hk8).only ho9 (fun i e => by have := HIL.out; rw [e]; exact ⟨this.2.2.2.1, this.1, this.2.1, this.2.2.1⟩))
                 have HC9 := Lib.hid ((HC7.out.kept hk8).onlS HIC.out ho9 (fun g _ hs q => by omega))
                 have HP9 := Lib.hid ((HP7.out.kept hk8).onlS HIP.out ho9 (fun g _ hs q => by omega))
                 have HA9 := Lib.hid ((HA7.out.kept hk8).onlS HIA.out ho9 (fun g _ hs q => by omega))
                 have HT9 := Lib.hid (ht8.sam (S' := fun g => I < g) (Sam.only ho9 (fun g _ hs q => by omega)) (fun _ _ q => q))
                 clear hk8 ho9 ht8 hb8 hn8 HB7 HS7 HN7 HC7 HP7 HA7 t6))
            have HNS : Hid (W0.heap.size ≤ w.heap.size ∧ M < w.heap.size ∧ U < w.heap.size) := HNW.out
            clear a8 f8' z8
            generalize w8.setCell ⟨I, 8, none⟩ (.slice aT1 cits.length cT1) = w9 at *
            have z9 := HB9.out.lt
            refine (HIH.out kids (.slice aK kids.length cK) m0 w9 (HKK.out _ HS9.out) f9 HKO.out HOV2.out HN9.out (by have := HBX.out; rw [Nat.add_mul] at this; omega)).mono ?_
            rintro e w10 ⟨vK1, rfl, hk1, hn10, ho10⟩
            obtain ⟨aK1, cK1, rfl, lK1⟩ := hk1.form
            have hb10 := HB9.out.onl ho10 HIL.out.1
            have ho11 := Only.setCell (w := w10) I 9 (.slice aK1 (mkL used m0 kids).1.length cK1)
            have x9 : w10.cell? ⟨I, 9, none⟩ = some (.slice aK kids.length cK) := hb10.cell 9 _ rfl
            have f9' := hb10.free 9
            have zJ := hb10.lt
            have HJ11 : Hid (Blk (w10.setCell ⟨I, 9, none⟩ (.slice aK1 (mkL used m0 kids).1.length cK1)) I 51 #[.int .i64 kind, .string (bs text), .string (bs dest), .string (bs title), .string (bs []), .slice aC1 cls.length cC1, .slice aP1 prs.length cP1, .slice aA1 args.length cA1, .slice aT1 cits.length cT1, .slice aK1 (mkL used m0 kids).1.length cK1]) := hb10.set 9 _
            have HS11 := Lib.hid ((HS9.out.trans ho10).step ho11 (fun i e => by left; rw [e]; exact hI1))
            have HN11 := Lib.hid (hn10.only ho11 (fun i e => by have := HIL.out; rw [e]; exact ⟨this.2.2.2.1, this.1, this.2.1, this.2.2.1⟩))
            have hne : ∀ g, I < g → g ≠ L := fun g q r => by have := HIL.out; omega
            have HC11 := Lib.hid ((HC9.out.onlS HIC.out ho10 (fun g _ hs q => hne g hs q)).onlS HIC.out ho11 (fun g _ hs q => by omega))
            have HP11 := Lib.hid ((HP9.out.onlS HIP.out ho10 (fun g _ hs q => hne g hs q)).onlS HIP.out ho11 (fun g _ hs q => by omega))
            have HA11 := Lib.hid ((HA9.out.onlS HIA.out ho10 (fun g _ hs q => hne g hs q)).onlS HIA.out ho11 (fun g _ hs q => by omega))
            have HT11 := Lib.hid ((HT9.out.sam (S' := fun g => I < g) (Sam.only ho10 (fun g _ hs q => hne g hs q)) (fun _ _ q => q)).sam (S' := fun g => I < g) (Sam.only ho11 (fun g _ hs q => by omega)) (fun _ _ q => q))
            have HKK11 := Lib.hid (hk1.sam (S' := fun g => I < g) (Sam.only ho11 (fun g _ hs q => by omega)) (fun g _ q => by omega))
            clear hk1 hn10 ho10 hb10 ho11 HB9 HS9 HN9 HC9 HP9 HA9 HT9 hne t8
            obtain ⟨ar, cr, rfl, hcr, hmr⟩ := HGR.out.form
            have hin : ∀ g, I < g → w.heap.size ≤ g ∧ (Value.slice ar (mkL used m (xs.take k)).1.length cr).ownBlock ≠ some g := fun g hg => ⟨by omega, fun q => by have := HGR.out.blk g q; omega⟩
            have HYY : Hid (InlK n (fun g => w.heap.size ≤ g ∧ (Value.slice ar (mkL used m (xs.take k)).1.length cr).ownBlock ≠ some g) (w10.setCell ⟨I, 9, none⟩ (.slice aK1 (mkL used m0 kids).1.length cK1)) [.int .i64 kind, .string (bs text), .string (bs dest), .string (bs title), .string (bs []), .slice aC1 cls.length cC1, .slice aP1 prs.length cP1, .slice aA1 args.length cA1, .slice aT1 cits.length cT1, .slice aK1 (mkL used m0 kids).1.length cK1] (.mk kind text dest title [] cls prs args cits (mkL used m0 kids).1)) :=
              ⟨_, _, _, _, _, rfl, ⟨HC11.out, HIC.out.mono (fun g _ _ q => hin g q)⟩, ⟨HP11.out, HIP.out.mono (fun g _ _ q => hin g q)⟩, ⟨HA11.out, HIA.out.mono (fun g _ _ q => hin g q)⟩, HT11.out.sam (fun _ _ _ => rfl) (fun g _ q => hin g q), (HKK11.out.sam (fun _ _ _ => rfl) (fun g _ q => hin g q))⟩
            have hog : ∀ g, (Value.slice ar (mkL used m (xs.take k)).1.length cr).ownBlock = some g → g ≠ L := fun g q r => by have := HGR.out.blk g q; omega
            have HG1 := Lib.hid (HGR.out.only (inlK n) HS11.out (fun g _ q _ r => by omega) hog)
            have HKA := Lib.hid (kept_alloc (w10.setCell ⟨I, 9, none⟩ (.slice aK1 (mkL used m0 kids).1.length cK1)) (.cells #[.int .i64 kind, .string (bs text), .string (bs dest), .string (bs title), .string (bs []), .slice aC1 cls.length cC1, .slice aP1 prs.length cP1, .slice aA1 args.length cA1, .slice aT1 cits.length cT1, .slice aK1 (mkL used m0 kids).1.length cK1] 51))
            have HG2 := Lib.hid (HG1.out.kept (inlK n) HKA.out)
            have HROW := Lib.hid (Blk.new (w10.setCell ⟨I, 9, none⟩ (.slice aK1 (mkL used m0 kids).1.length cK1)) 51 #[.int .i64 kind, .string (bs text), .string (bs dest), .string (bs title), .string (bs []), .slice aC1 cls.length cC1, .slice aP1 prs.length cP1, .slice aA1 args.length cA1, .slice aT1 cits.length cT1, .slice aK1 (mkL used m0 kids).1.length cK1])
            (try rw [size_setCell] at HROW)
            have HYZ := Lib.hid ((inlK n).sam HYY.out (Sam.kept HKA.out) (fun _ _ q => q))
            have hbz : w.heap.size ≤ ((w10.setCell ⟨I, 9, none⟩ (.slice aK1 (mkL used m0 kids).1.length cK1)).alloc (.cells #[.int .i64 kind, .string (bs text), .string (bs dest), .string (bs title), .string (bs []), .slice aC1 cls.length cC1, .slice aP1 prs.length cP1, .slice aA1 args.length cA1, .slice aT1 cits.length cT1, .slice aK1 (mkL used m0 kids).1.length cK1] 51)).heap.size := Nat.le_trans hbr (Nat.le_trans HS11.out.size HKA.out.size)
            have jc0 : (w10.setCell ⟨I, 9, none⟩ (.slice aK1 (mkL used m0 kids).1.length cK1)).cell? ⟨I, 0, none⟩ = some (.int .i64 kind) := (HJ11.out).cell 0 _ rfl
            have jc1 : (w10.setCell ⟨I, 9, none⟩ (.slice aK1 (mkL used m0 kids).1.length cK1)).cell? ⟨I, 1, none⟩ = some (.string (bs text)) := (HJ11.out).cell 1 _ rfl
            have jc2 : (w10.setCell ⟨I, 9, none⟩ (.slice aK1 (mkL used m0 kids).1.length cK1)).cell? ⟨I, 2, none⟩ = some (.string (bs dest)) := (HJ11.out).cell 2 _ rfl
            have jc3 : (w10.setCell ⟨I, 9, none⟩ (.slice aK1 (mkL used m0 kids).1.length cK1)).cell? ⟨I, 3, none⟩ = some (.string (bs title)) := (HJ11.out).cell 3 _ rfl
            have jc4 : (w10.setCell ⟨I, 9, none⟩ (.slice aK1 (mkL used m0 kids).1.length cK1)).cell? ⟨I, 4, none⟩ = some (.string (bs [])) := (HJ11.out).cell 4 _ rfl
            have jc5 : (w10.setCell ⟨I, 9, none⟩ (.slice aK1 (mkL used m0 kids).1.length cK1)).cell? ⟨I, 5, none⟩ = some (.slice aC1 cls.length cC1) := (HJ11.out).cell 5 _ rfl
            have jc6 : (w10.setCell ⟨I, 9, none⟩ (.slice aK1 (mkL used m0 kids).1.length cK1)).cell? ⟨I, 6, none⟩ = some (.slice aP1 prs.length cP1) := (HJ11.out).cell 6 _ rfl
            have jc7 : (w10.setCell ⟨I, 9, none⟩ (.slice aK1 (mkL used m0 kids).1.length cK1)).cell? ⟨I, 7, none⟩ = some (.slice aA1 args.length cA1) := (HJ11.out).cell 7 _ rfl
            have jc8 : (w10.setCell ⟨I, 9, none⟩ (.slice aK1 (mkL used m0 kids).1.length cK1)).cell? ⟨I, 8, none⟩ = some (.slice aT1 cits.length cT1) := (HJ11.out).cell 8 _ rfl
            have jc9 : (w10.setCell ⟨I, 9, none⟩ (.slice aK1 (mkL used m0 kids).1.length cK1)).cell? ⟨I, 9, none⟩ = some (.slice aK1 (mkL used m0 kids).1.length cK1) := (HJ11.out).cell 9 _ rfl
            go_wp2_with (refine wpList_append_out (inlK n) rfl (.tmp 47) (.tmp 49) 36 rfl i0 _ 192 Tryz.underlying36 hi hz0 hz1 hz2 rfl (by omega) (by rfl) HG2.out _ _ (.mk kind text dest title [] cls prs args cits (mkL used m0 kids).1) (by rfl) (fun j u hu => HROW.out.cell j u (by rw [← Array.getElem?_toList]; exact hu)) rfl HYZ.out (by have := HZL.out; unfold maxLen; omega) (by have := HZL.out; omega) hbz _ rfl ?_; intro g7 c7' w17 hout7 hgrow7 hat7 hlt7; have HG7 := Lib.hid hgrow7; have HO7 := Lib.hid hout7; clear hgrow7 hat7 hout7)
            have hgr7 := Only.grown HG7.out
            have HOUT : Hid (OutG (InlK n) 10 (fun g => w.heap.size ≤ g) w.heap.size 51 w17 (.slice (some ⟨g7, 0, none⟩) ((mkL used m (xs.take k)).1.length + 1) c7') (mkL used m (xs.take (k + 1))).1) := by rw [HT.out, HX.out]; exact HO7.out
            have HNZ : Hid (NextS W0 L M U used (mkL used m (xs.take (k + 1))).2 w17) := by
              rw [HT.out, HX.out]
              exact (HN11.out.keptW HKA.out).only hgr7 (fun i q => by
                have h1 := HGR.out.blk i q.symm
                have h2 := HN11.out.kept.size
                have h3 := HN11.out.map.lt
                have h4 := HN11.out.ucell.lt
                have h5 := hog i q.symm
                have h6 := HNS.out
                refine ⟨by omega, h5, ?_, ?_⟩
                · omega
                · omega)
            have HKZ : Hid (Only (fun g => g = L) w w17) := HKR.out.trans ((HS11.out.trans (Only.of_kept HKA.out)).mono (fun i _ q => q)) |>.step hgr7 (fun i q => by left; exact (HGR.out.blk i q.symm).1)
            clear hin HYY HG1 HG2 HROW HYZ hbz HG7 HO7 HT HGR HKR x9 f9' zJ HJ11 HC11 HP11 HA11 HT11 HKK11 HIC HIP HIA HIH HPP HC HA HTT HKK jc0 jc1 jc2 jc3 jc4 jc5 jc6 jc7 jc8 jc9 hgr7 HN11 HS11 HKA
            go_wp2_with fail
            go_roundw
            case rel => exact ⟨k + 1, by omega, by go_num, HOUT.out, HNZ.out, HKZ.out⟩
            case measure => simp [intOf]; omega
          | true =>
            have HX := Lib.hid (HMK.out true (by rw [HND.out, hmk]; rfl))
            have hn1 : numS used m0 true = nextN used m0 := rfl
            have hn2 : idS [] (numS used m0 true) true = idN (numS used m0 true) := rfl
            rw [hn1] at HX hn2
            rw [hn2] at HX
            clear hn1 hn2
            have HNB := Lib.hid (nextN_spec used m0).2.1
            go_wp2_with fail
            refine (inext_any W0 L M U used m0 _ HN5.out (by have := HBX.out; rw [Nat.add_mul] at this; omega)).mono ?_
            rintro e w5n ⟨rfl, hn5, ho5⟩
            have HB5n := Lib.hid (HB5.out.onl ho5 HIL.out.1)
            have HS5n := Lib.hid (HS5.out.trans ho5)
            have hne : ∀ g, I < g → g ≠ L := fun g q r => by have := HIL.out; omega
            have HC5n := Lib.hid (HC5.out.onlS HIC.out ho5 (fun g _ hs q => hne g hs q))
            have HP5n := Lib.hid (HP5.out.onlS HIP.out ho5 (fun g _ hs q => hne g hs q))
            have HN5n := Lib.hid hn5
            clear HB5 HS5 HN5 HC5 HP5 hn5 ho5 hne
            obtain ⟨m1, HM1⟩ : ∃ m1, Hid (nextN used m0 = m1) := ⟨_, rfl⟩
            rw [HM1.out] at HX HNB HN5n ⊢
            have ho4 := Only.setCell (w := w5n) I 4 (.string (bs (idN m1)))
            have HB5 : Hid (Blk (w5n.setCell ⟨I, 4, none⟩ (.string (bs (idN m1)))) I 51 #[.int .i64 kind, .string (bs text), .string (bs dest), .string (bs title), .string (bs (idN m1)), .slice aC1 cls.length cC1, .slice aP1 prs.length cP1, .slice aA args.length cA, .slice aT cits.length cT, .slice aK kids.length cK]) := HB5n.out.set 4 _
            have HS5 := Lib.hid (HS5n.out.step ho4 (fun i e => by left; rw [e]; exact hI1))
            have HN5 := Lib.hid (HN5n.out.only ho4 (fun i e => by have := HIL.out; rw [e]; exact ⟨this.2.2.2.1, this.1, this.2.1, this.2.2.1⟩))
            have HC5 := Lib.hid (HC5n.out.onlS HIC.out ho4 (fun g _ hs q => by omega))
            have HP5 := Lib.hid (HP5n.out.onlS HIP.out ho4 (fun g _ hs q => by omega))
            have n4 : w5n.cell? ⟨I, 4, none⟩ = some (.string (bs [])) := HB5n.out.cell 4 _ rfl
            have nf := HB5n.out.free 4
            have nz := HB5n.out.lt
            have ha5 : (w5n.setCell ⟨I, 4, none⟩ (.string (bs (idN m1)))).cell? ⟨I, 7, none⟩ = some (.slice aA args.length cA) := HB5.out.cell 7 _ rfl
            have jz := HB5.out.lt
            clear ho4 HB5n HS5n HN5n HC5n HP5n
            go_wp2_with (first
              | (refine wpList_copyS rfl (.tmp 35) (by rfl) _ args (by rfl) (HA.out _ HS5.out) (by omega) ?_
                 intro vA1 w6 hn6
                 obtain ⟨aA1, cA1, rfl, lA1⟩ := hn6.1.shape
                 have hk6 := hn6.2.2
                 have hb6 := HB5.out.kept hk6
                 have a6 : w6.cell? ⟨I, 7, none⟩ = some (.slice aA args.length cA) := hb6.cell 7 _ rfl
                 have f6 := hb6.free 7
                 have z6 := hb6.lt
                 have HIA : Hid (InB (fun g => I < g) (.slice aA1 args.length cA1) args.length) := hn6.2.1.mono (fun g _ _ q => Nat.lt_of_lt_of_le HB5.out.lt q)
                 have ho7 := Only.setCell (w := w6) I 7 (.slice aA1 args.length cA1)
                 have HB7 : Hid (Blk (w6.setCell ⟨I, 7, none⟩ (.slice aA1 args.length cA1)) I 51 #[.int .i64 kind, .string (bs text), .string (bs dest), .string (bs title), .string (bs (idN m1)), .slice aC1 cls.length cC1, .slice aP1 prs.length cP1, .slice aA1 args.length cA1, .slice aT cits.length cT, .slice aK kids.length cK]) := hb6.set 7 _
                 have t6 : (w6.setCell ⟨I, 7, none⟩ (.slice aA1 args.length cA1)).cell? ⟨I, 8, none⟩ = some (.slice aT cits.length cT) := HB7.out.cell 8 _ rfl
                 have HS7 := Lib.hid ((HS5.out.trans (Only.of_kept hk6)).step ho7 (fun i e => by left; rw [e]; exact hI1))
                 have HN7 := Lib.hid ((HN5.out.keptW hk6).only ho7 (fun i e => by have := HIL.out; rw [e]; exact ⟨this.2.2.2.1, this.1, this.2.1, this.2.2.1⟩))
                 have HC7 := Lib.hid ((HC5.out.kept hk6).onlS HIC.out ho7 (fun g _ hs q => by omega))
                 have HP7 := Lib.hid ((HP5.out.kept hk6).onlS HIP.out ho7 (fun g _ hs q => by omega))
                 have HA7 := Lib.hid (hn6.1.onlS HIA.out ho7 (fun g _ hs q => by omega))
                 clear hk6 ho7 hb6 hn6 HB5 HS5 HN5 HC5 HP5)
              | (refine wpList_copyT rfl (.tmp 39) (by rfl) _ cits (by rfl) (HTT.out _ HS7.out) (by omega) ?_
                 intro vT1 w8 hn8
                 obtain ⟨aT1, cT1, rfl, lT1⟩ := hn8.1.form
                 have hk8 := hn8.2
                 have hb8 := HB7.out.kept hk8
                 have a8 : w8.cell? ⟨I, 8, none⟩ = some (.slice aT cits.length cT) := hb8.cell 8 _ rfl
                 have f8' := hb8.free 8
                 have z8 := hb8.lt
                 have ht8 : Cits (fun g => I < g) w8 (.slice aT1 cits.length cT1) cits := hn8.1.sam (fun _ _ _ => rfl) (fun g _ q => Nat.lt_of_lt_of_le HB7.out.lt q)
                 have ho9 := Only.setCell (w := w8) I 8 (.slice aT1 cits.length cT1)
                 have HB9 : Hid (Blk (w8.setCell ⟨I, 8, none⟩ (.slice aT1 cits.length cT1)) I 51 #[.int .i64 kind, .string (bs text), .string (bs dest), .string (bs title), .string (bs (idN m1)), .slice aC1 cls.length cC1, .slice aP1 prs.length cP1, .slice aA1 args.length cA1, .slice aT1 cits.length cT1, .slice aK kids.length cK]) := hb8.set 8 _
                 have t8 : (w8.setCell ⟨I, 8, none⟩ (.slice aT1 cits.length cT1)).cell? ⟨I, 9, none⟩ = some (.slice aK kids.length cK) := HB9.out.cell 9 _ rfl
                 have HS9 := Lib.hid ((HS7.out.trans (Only.of_kept hk8)).step ho9 (fun i e => by left; rw [e]; exact hI1))
                 have HN9 := Lib.hid ((HN7.out.keptW hk8).only ho9 (fun i e => by have := HIL.out; rw [e]; exact ⟨this.2.2.2.1, this.1, this.2.1, this.2.2.1⟩))
                 have HC9 := Lib.hid ((HC7.out.kept hk8).onlS HIC.out ho9 (fun g _ hs q => by omega))
                 have HP9 := Lib.hid ((HP7.out.kept hk8).onlS HIP.out ho9 (fun g _ hs q => by omega))
                 have HA9 := Lib.hid ((HA7.out.kept hk8).onlS HIA.out ho9 (fun g _ hs q => by omega))
                 have HT9 := Lib.hid (ht8.sam (S' := fun g => I < g) (Sam.only ho9 (fun g _ hs q => by omega)) (fun _ _ q => q))
                 clear hk8 ho9 ht8 hb8 hn8 HB7 HS7 HN7 HC7 HP7 HA7 t6))
            have HNS : Hid (W0.heap.size ≤ w.heap.size ∧ M < w.heap.size ∧ U < w.heap.size) := HNW.out
            clear a8 f8' z8
            generalize w8.setCell ⟨I, 8, none⟩ (.slice aT1 cits.length cT1) = w9 at *
            have z9 := HB9.out.lt
            refine (HIH.out kids (.slice aK kids.length cK) m1 w9 (HKK.out _ HS9.out) f9 HKO.out HOV2.out HN9.out (by have := HBX.out; have := HNB.out; rw [Nat.add_mul] at *; omega)).mono ?_
            rintro e w10 ⟨vK1, rfl, hk1, hn10, ho10⟩
            obtain ⟨aK1, cK1, rfl, lK1⟩ := hk1.form
            have hb10 := HB9.out.onl ho10 HIL.out.1
            have ho11 := Only.setCell (w := w10) I 9 (.slice aK1 (mkL used m1 kids).1.length cK1)
            have x9 : w10.cell? ⟨I, 9, none⟩ = some (.slice aK kids.length cK) := hb10.cell 9 _ rfl
            have f9' := hb10.free 9
            have zJ := hb10.lt
            have HJ11 : Hid (Blk (w10.setCell ⟨I, 9, none⟩ (.slice aK1 (mkL used m1 kids).1.length cK1)) I 51 #[.int .i64 kind, .string (bs text), .string (bs dest), .string (bs title), .string (bs (idN m1)), .slice aC1 cls.length cC1, .slice aP1 prs.length cP1, .slice aA1 args.length cA1, .slice aT1 cits.length cT1, .slice aK1 (mkL used m1 kids).1.length cK1]) := hb10.set 9 _
            have HS11 := Lib.hid ((HS9.out.trans ho10).step ho11 (fun i e => by left; rw [e]; exact hI1))
            have HN11 := Lib.hid (hn10.only ho11 (fun i e => by have := HIL.out; rw [e]; exact ⟨this.2.2.2.1, this.1, this.2.1, this.2.2.1⟩))
            have hne : ∀ g, I < g → g ≠ L := fun g q r => by have := HIL.out; omega
            have HC11 := Lib.hid ((HC9.out.onlS HIC.out ho10 (fun g _ hs q => hne g hs q)).onlS HIC.out ho11 (fun g _ hs q => by omega))
            have HP11 := Lib.hid ((HP9.out.onlS HIP.out ho10 (fun g _ hs q => hne g hs q)).onlS HIP.out ho11 (fun g _ hs q => by omega))
            have HA11 := Lib.hid ((HA9.out.onlS HIA.out ho10 (fun g _ hs q => hne g hs q)).onlS HIA.out ho11 (fun g _ hs q => by omega))
            have HT11 := Lib.hid ((HT9.out.sam (S' := fun g => I < g) (Sam.only ho10 (fun g _ hs q => hne g hs q)) (fun _ _ q => q)).sam (S' := fun g => I < g) (Sam.only ho11 (fun g _ hs q => by omega)) (fun _ _ q => q))
            have HKK11 := Lib.hid (hk1.sam (S' := fun g => I < g) (Sam.only ho11 (fun g _ hs q => by omega)) (fun g _ q => by omega))
            clear hk1 hn10 ho10 hb10 ho11 HB9 HS9 HN9 HC9 HP9 HA9 HT9 hne t8
            obtain ⟨ar, cr, rfl, hcr, hmr⟩ := HGR.out.form
            have hin : ∀ g, I < g → w.heap.size ≤ g ∧ (Value.slice ar (mkL used m (xs.take k)).1.length cr).ownBlock ≠ some g := fun g hg => ⟨by omega, fun q => by have := HGR.out.blk g q; omega⟩
            have HYY : Hid (InlK n (fun g => w.heap.size ≤ g ∧ (Value.slice ar (mkL used m (xs.take k)).1.length cr).ownBlock ≠ some g) (w10.setCell ⟨I, 9, none⟩ (.slice aK1 (mkL used m1 kids).1.length cK1)) [.int .i64 kind, .string (bs text), .string (bs dest), .string (bs title), .string (bs (idN m1)), .slice aC1 cls.length cC1, .slice aP1 prs.length cP1, .slice aA1 args.length cA1, .slice aT1 cits.length cT1, .slice aK1 (mkL used m1 kids).1.length cK1] (.mk kind text dest title (idN m1) cls prs args cits (mkL used m1 kids).1)) :=
              ⟨_, _, _, _, _, rfl, ⟨HC11.out, HIC.out.mono (fun g _ _ q => hin g q)⟩, ⟨HP11.out, HIP.out.mono (fun g _ _ q => hin g q)⟩, ⟨HA11.out, HIA.out.mono (fun g _ _ q => hin g q)⟩, HT11.out.sam (fun _ _ _ => rfl) (fun g _ q => hin g q), (HKK11.out.sam (fun _ _ _ => rfl) (fun g _ q => hin g q))⟩
            have hog : ∀ g, (Value.slice ar (mkL used m (xs.take k)).1.length cr).ownBlock = some g → g ≠ L := fun g q r => by have := HGR.out.blk g q; omega
            have HG1 := Lib.hid (HGR.out.only (inlK n) HS11.out (fun g _ q _ r => by omega) hog)
            have HKA := Lib.hid (kept_alloc (w10.setCell ⟨I, 9, none⟩ (.slice aK1 (mkL used m1 kids).1.length cK1)) (.cells #[.int .i64 kind, .string (bs text), .string (bs dest), .string (bs title), .string (bs (idN m1)), .slice aC1 cls.length cC1, .slice aP1 prs.length cP1, .slice aA1 args.length cA1, .slice aT1 cits.length cT1, .slice aK1 (mkL used m1 kids).1.length cK1] 51))
            have HG2 := Lib.hid (HG1.out.kept (inlK n) HKA.out)
            have HROW := Lib.hid (Blk.new (w10.setCell ⟨I, 9, none⟩ (.slice aK1 (mkL used m1 kids).1.length cK1)) 51 #[.int .i64 kind, .string (bs text), .string (bs dest), .string (bs title), .string (bs (idN m1)), .slice aC1 cls.length cC1, .slice aP1 prs.length cP1, .slice aA1 args.length cA1, .slice aT1 cits.length cT1, .slice aK1 (mkL used m1 kids).1.length cK1])
            (try rw [size_setCell] at HROW)
            have HYZ := Lib.hid ((inlK n).sam HYY.out (Sam.kept HKA.out) (fun _ _ q => q))
            have hbz : w.heap.size ≤ ((w10.setCell ⟨I, 9, none⟩ (.slice aK1 (mkL used m1 kids).1.length cK1)).alloc (.cells #[.int .i64 kind, .string (bs text), .string (bs dest), .string (bs title), .string (bs (idN m1)), .slice aC1 cls.length cC1, .slice aP1 prs.length cP1, .slice aA1 args.length cA1, .slice aT1 cits.length cT1, .slice aK1 (mkL used m1 kids).1.length cK1] 51)).heap.size := Nat.le_trans hbr (Nat.le_trans HS11.out.size HKA.out.size)
            have jc0 : (w10.setCell ⟨I, 9, none⟩ (.slice aK1 (mkL used m1 kids).1.length cK1)).cell? ⟨I, 0, none⟩ = some (.int .i64 kind) := (HJ11.out).cell 0 _ rfl
            have jc1 : (w10.setCell ⟨I, 9, none⟩ (.slice aK1 (mkL used m1 kids).1.length cK1)).cell? ⟨I, 1, none⟩ = some (.string (bs text)) := (HJ11.out).cell 1 _ rfl
            have jc2 : (w10.setCell ⟨I, 9, none⟩ (.slice aK1 (mkL used m1 kids).1.length cK1)).cell? ⟨I, 2, none⟩ = some (.string (bs dest)) := (HJ11.out).cell 2 _ rfl
            have jc3 : (w10.setCell ⟨I, 9, none⟩ (.slice aK1 (mkL used m1 kids).1.length cK1)).cell? ⟨I, 3, none⟩ = some (.string (bs title)) := (HJ11.out).cell 3 _ rfl
            have jc4 : (w10.setCell ⟨I, 9, none⟩ (.slice aK1 (mkL used m1 kids).1.length cK1)).cell? ⟨I, 4, none⟩ = some (.string (bs (idN m1))) := (HJ11.out).cell 4 _ rfl
            have jc5 : (w10.setCell ⟨I, 9, none⟩ (.slice aK1 (mkL used m1 kids).1.length cK1)).cell? ⟨I, 5, none⟩ = some (.slice aC1 cls.length cC1) := (HJ11.out).cell 5 _ rfl
            have jc6 : (w10.setCell ⟨I, 9, none⟩ (.slice aK1 (mkL used m1 kids).1.length cK1)).cell? ⟨I, 6, none⟩ = some (.slice aP1 prs.length cP1) := (HJ11.out).cell 6 _ rfl
            have jc7 : (w10.setCell ⟨I, 9, none⟩ (.slice aK1 (mkL used m1 kids).1.length cK1)).cell? ⟨I, 7, none⟩ = some (.slice aA1 args.length cA1) := (HJ11.out).cell 7 _ rfl
            have jc8 : (w10.setCell ⟨I, 9, none⟩ (.slice aK1 (mkL used m1 kids).1.length cK1)).cell? ⟨I, 8, none⟩ = some (.slice aT1 cits.length cT1) := (HJ11.out).cell 8 _ rfl
            have jc9 : (w10.setCell ⟨I, 9, none⟩ (.slice aK1 (mkL used m1 kids).1.length cK1)).cell? ⟨I, 9, none⟩ = some (.slice aK1 (mkL used m1 kids).1.length cK1) := (HJ11.out).cell 9 _ rfl
            go_wp2_with (refine wpList_append_out (inlK n) rfl (.tmp 47) (.tmp 49) 36 rfl i0 _ 192 Tryz.underlying36 hi hz0 hz1 hz2 rfl (by omega) (by rfl) HG2.out _ _ (.mk kind text dest title (idN m1) cls prs args cits (mkL used m1 kids).1) (by rfl) (fun j u hu => HROW.out.cell j u (by rw [← Array.getElem?_toList]; exact hu)) rfl HYZ.out (by have := HZL.out; unfold maxLen; omega) (by have := HZL.out; omega) hbz _ rfl ?_; intro g7 c7' w17 hout7 hgrow7 hat7 hlt7; have HG7 := Lib.hid hgrow7; have HO7 := Lib.hid hout7; clear hgrow7 hat7 hout7)
            have hgr7 := Only.grown HG7.out
            have HOUT : Hid (OutG (InlK n) 10 (fun g => w.heap.size ≤ g) w.heap.size 51 w17 (.slice (some ⟨g7, 0, none⟩) ((mkL used m (xs.take k)).1.length + 1) c7') (mkL used m (xs.take (k + 1))).1) := by rw [HT.out, HX.out]; exact HO7.out
            have HNZ : Hid (NextS W0 L M U used (mkL used m (xs.take (k + 1))).2 w17) := by
              rw [HT.out, HX.out]
              exact (HN11.out.keptW HKA.out).only hgr7 (fun i q => by
                have h1 := HGR.out.blk i q.symm
                have h2 := HN11.out.kept.size
                have h3 := HN11.out.map.lt
                have h4 := HN11.out.ucell.lt
                have h5 := hog i q.symm
                have h6 := HNS.out
                refine ⟨by omega, h5, ?_, ?_⟩
                · omega
                · omega)
            have HKZ : Hid (Only (fun g => g = L) w w17) := HKR.out.trans ((HS11.out.trans (Only.of_kept HKA.out)).mono (fun i _ q => q)) |>.step hgr7 (fun i q => by left; exact (HGR.out.blk i q.symm).1)
            clear hin HYY HG1 HG2 HROW HYZ hbz HG7 HO7 HT HGR HKR x9 f9' zJ HJ11 HC11 HP11 HA11 HT11 HKK11 HIC HIP HIA HIH HPP HC HA HTT HKK jc0 jc1 jc2 jc3 jc4 jc5 jc6 jc7 jc8 jc9 hgr7 HN11 HS11 HKA
            go_wp2_with fail
            go_roundw
            case rel => exact ⟨k + 1, by omega, by go_num, HOUT.out, HNZ.out, HKZ.out⟩
            case measure => simp [intOf]; omega
        · have hq : (id == []) = false := by simpa using hid
          have HX := Lib.hid (HMK.out false (by rw [HND.out, hq]; rfl))
          have hn1 : numS used m0 false = m0 := rfl
          have hn2 : idS id (numS used m0 false) false = id := rfl
          rw [hn1] at HX hn2
          rw [hn2] at HX
          clear hn1 hn2
          go_wp2_with (first
            | (refine wpList_store_part rfl 35 (.tmp 19) (.tmp 18) (by rfl) I 4 51 _ #[.string (bs id), .slice aC1 cls.length cC1, .slice aP1 prs.length cP1] (by rfl) (by rfl) HB4.out (by show 4 + 3 ≤ 10; omega) Tryz.sizeAt (by simp only [List.all_toArray, List.all_cons, List.all_nil]; rfl) ?_
               intro w5 hb5 ho5
               have HB5 : Hid (Blk w5 I 51 #[.int .i64 kind, .string (bs text), .string (bs dest), .string (bs title), .string (bs id), .slice aC1 cls.length cC1, .slice aP1 prs.length cP1, .slice aA args.length cA, .slice aT cits.length cT, .slice aK kids.length cK]) := hb5
               have i4 : w5.cell? ⟨I, 4, none⟩ = some (.string (bs id)) := HB5.out.cell 4 _ rfl
               have ha5 : w5.cell? ⟨I, 7, none⟩ = some (.slice aA args.length cA) := HB5.out.cell 7 _ rfl
               have j0 : w5.cell? ⟨I, 0, none⟩ = some (.int .i64 kind) := HB5.out.cell 0 _ rfl
               have j1 : w5.cell? ⟨I, 1, none⟩ = some (.string (bs text)) := HB5.out.cell 1 _ rfl
               have j2 : w5.cell? ⟨I, 2, none⟩ = some (.string (bs dest)) := HB5.out.cell 2 _ rfl
               have j3 : w5.cell? ⟨I, 3, none⟩ = some (.string (bs title)) := HB5.out.cell 3 _ rfl
               have j5 : w5.cell? ⟨I, 5, none⟩ = some (.slice aC1 cls.length cC1) := HB5.out.cell 5 _ rfl
               have j6 : w5.cell? ⟨I, 6, none⟩ = some (.slice aP1 prs.length cP1) := HB5.out.cell 6 _ rfl
               have j8 : w5.cell? ⟨I, 8, none⟩ = some (.slice aT cits.length cT) := HB5.out.cell 8 _ rfl
               have j9 : w5.cell? ⟨I, 9, none⟩ = some (.slice aK kids.length cK) := HB5.out.cell 9 _ rfl
               have jz := HB5.out.lt
               have HS5 := Lib.hid (HO4.out.step ho5 (fun i e => by left; rw [e]; exact hI1))
               have HN5 := Lib.hid (HN4.out.only ho5 (fun i e => by have := HIL.out; rw [e]; exact ⟨this.2.2.2.1, this.1, this.2.1, this.2.2.1⟩))
               have HC5 := Lib.hid (HC4.out.onlS HIC.out ho5 (fun g _ hs q => by omega))
               have HP5 := Lib.hid (HP4.out.onlS HIP.out ho5 (fun g _ hs q => by omega))
               clear HB4 HO4 HN4 HC4 HP4 hb5 ho5)
            | (refine wpList_copyS rfl (.tmp 35) (by rfl) _ args (by rfl) (HA.out _ HS5.out) (by omega) ?_
               intro vA1 w6 hn6
               obtain ⟨aA1, cA1, rfl, lA1⟩ := hn6.1.shape
               have hk6 := hn6.2.2
               have hb6 := HB5.out.kept hk6
               have a6 : w6.cell? ⟨I, 7, none⟩ = some (.slice aA args.length cA) := hb6.cell 7 _ rfl
               have f6 := hb6.free 7
               have z6 := hb6.lt
               have HIA : Hid (InB (fun g => I < g) (.slice aA1 args.length cA1) args.length) := hn6.2.1.mono (fun g _ _ q => Nat.lt_of_lt_of_le HB5.out.lt q)
               have ho7 := Only.setCell (w := w6) I 7 (.slice aA1 args.length cA1)
               have HB7 : Hid (Blk (w6.setCell ⟨I, 7, none⟩ (.slice aA1 args.length cA1)) I 51 #[.int .i64 kind, .string (bs text), .string (bs dest), .string (bs title), .string (bs id), .slice aC1 cls.length cC1, .slice aP1 prs.length cP1, .slice aA1 args.length cA1, .slice aT cits.length cT, .slice aK kids.length cK]) := hb6.set 7 _
               have t6 : (w6.setCell ⟨I, 7, none⟩ (.slice aA1 args.length cA1)).cell? ⟨I, 8, none⟩ = some (.slice aT cits.length cT) := HB7.out.cell 8 _ rfl
               have HS7 := Lib.hid ((HS5.out.trans (Only.of_kept hk6)).step ho7 (fun i e => by left; rw [e]; exact hI1))
               have HN7 := Lib.hid ((HN5.out.keptW hk6).only ho7 (fun i e => by have := HIL.out; rw [e]; exact ⟨this.2.2.2.1, this.1, this.2.1, this.2.2.1⟩))
               have HC7 := Lib.hid ((HC5.out.kept hk6).onlS HIC.out ho7 (fun g _ hs q => by omega))
               have HP7 := Lib.hid ((HP5.out.kept hk6).onlS HIP.out ho7 (fun g _ hs q => by omega))
               have HA7 := Lib.hid (hn6.1.onlS HIA.out ho7 (fun g _ hs q => by omega))
               clear hk6 ho7 hb6 hn6 HB5 HS5 HN5 HC5 HP5)
            | (refine wpList_copyT rfl (.tmp 39) (by rfl) _ cits (by rfl) (HTT.out _ HS7.out) (by omega) ?_
               intro vT1 w8 hn8
               obtain ⟨aT1, cT1, rfl, lT1⟩ := hn8.1.form
               have hk8 := hn8.2
               have hb8 := HB7.out.kept hk8
               have a8 : w8.cell? ⟨I, 8, none⟩ = some (.slice aT cits.length cT) := hb8.cell 8 _ rfl
               have f8' := hb8.free 8
               have z8 := hb8.lt
               have ht8 : Cits (fun g => I < g) w8 (.slice aT1 cits.length cT1) cits := hn8.1.sam (fun _ _ _ => rfl) (fun g _ q => Nat.lt_of_lt_of_le HB7.out.lt q)
               have ho9 := Only.setCell (w := w8) I 8 (.slice aT1 cits.length cT1)
               have HB9 : Hid (Blk (w8.setCell ⟨I, 8, none⟩ (.slice aT1 cits.length cT1)) I 51 #[.int .i64 kind, .string (bs text), .string (bs dest), .string (bs title), .string (bs id), .slice aC1 cls.length cC1, .slice aP1 prs.length cP1, .slice aA1 args.length cA1, .slice aT1 cits.length cT1, .slice aK kids.length cK]) := hb8.set 8 _
               have t8 : (w8.setCell ⟨I, 8, none⟩ (.slice aT1 cits.length cT1)).cell? ⟨I, 9, none⟩ = some (.slice aK kids.length cK) := HB9.out.cell 9 _ rfl
               have HS9 := Lib.hid ((HS7.out.trans (Only.of_kept hk8)).step ho9 (fun i e => by left; rw [e]; exact hI1))
               have HN9 := Lib.hid ((HN7.out.keptW hk8).only ho9 (fun i e => by have := HIL.out; rw [e]; exact ⟨this.2.2.2.1, this.1, this.2.1, this.2.2.1⟩))
               have HC9 := Lib.hid ((HC7.out.kept hk8).onlS HIC.out ho9 (fun g _ hs q => by omega))
               have HP9 := Lib.hid ((HP7.out.kept hk8).onlS HIP.out ho9 (fun g _ hs q => by omega))
               have HA9 := Lib.hid ((HA7.out.kept hk8).onlS HIA.out ho9 (fun g _ hs q => by omega))
               have HT9 := Lib.hid (ht8.sam (S' := fun g => I < g) (Sam.only ho9 (fun g _ hs q => by omega)) (fun _ _ q => q))
               clear hk8 ho9 ht8 hb8 hn8 HB7 HS7 HN7 HC7 HP7 HA7 t6))
          have HNS : Hid (W0.heap.size ≤ w.heap.size ∧ M < w.heap.size ∧ U < w.heap.size) := HNW.out
          clear a8 f8' z8
          generalize w8.setCell ⟨I, 8, none⟩ (.slice aT1 cits.length cT1) = w9 at *
          have z9 := HB9.out.lt
          refine (HIH.out kids (.slice aK kids.length cK) m0 w9 (HKK.out _ HS9.out) f9 HKO.out HOV2.out HN9.out (by have := HBX.out; rw [Nat.add_mul] at this; omega)).mono ?_
          rintro e w10 ⟨vK1, rfl, hk1, hn10, ho10⟩
          obtain ⟨aK1, cK1, rfl, lK1⟩ := hk1.form
          have hb10 := HB9.out.onl ho10 HIL.out.1
          have ho11 := Only.setCell (w := w10) I 9 (.slice aK1 (mkL used m0 kids).1.length cK1)
          have x9 : w10.cell? ⟨I, 9, none⟩ = some (.slice aK kids.length cK) := hb10.cell 9 _ rfl
          have f9' := hb10.free 9
          have zJ := hb10.lt
          have HJ11 : Hid (Blk (w10.setCell ⟨I, 9, none⟩ (.slice aK1 (mkL used m0 kids).1.length cK1)) I 51 #[.int .i64 kind, .string (bs text), .string (bs dest), .string (bs title), .string (bs id), .slice aC1 cls.length cC1, .slice aP1 prs.length cP1, .slice aA1 args.length cA1, .slice aT1 cits.length cT1, .slice aK1 (mkL used m0 kids).1.length cK1]) := hb10.set 9 _
          have HS11 := Lib.hid ((HS9.out.trans ho10).step ho11 (fun i e => by left; rw [e]; exact hI1))
          have HN11 := Lib.hid (hn10.only ho11 (fun i e => by have := HIL.out; rw [e]; exact ⟨this.2.2.2.1, this.1, this.2.1, this.2.2.1⟩))
          have hne : ∀ g, I < g → g ≠ L := fun g q r => by have := HIL.out; omega
          have HC11 := Lib.hid ((HC9.out.onlS HIC.out ho10 (fun g _ hs q => hne g hs q)).onlS HIC.out ho11 (fun g _ hs q => by omega))
          have HP11 := Lib.hid ((HP9.out.onlS HIP.out ho10 (fun g _ hs q => hne g hs q)).onlS HIP.out ho11 (fun g _ hs q => by omega))
          have HA11 := Lib.hid ((HA9.out.onlS HIA.out ho10 (fun g _ hs q => hne g hs q)).onlS HIA.out ho11 (fun g _ hs q => by omega))
          have HT11 := Lib.hid ((HT9.out.sam (S' := fun g => I < g) (Sam.only ho10 (fun g _ hs q => hne g hs q)) (fun _ _ q => q)).sam (S' := fun g => I < g) (Sam.only ho11 (fun g _ hs q => by omega)) (fun _ _ q => q))
          have HKK11 := Lib.hid (hk1.sam (S' := fun g => I < g) (Sam.only ho11 (fun g _ hs q => by omega)) (fun g _ q => by omega))
          clear hk1 hn10 ho10 hb10 ho11 HB9 HS9 HN9 HC9 HP9 HA9 HT9 hne t8
          obtain ⟨ar, cr, rfl, hcr, hmr⟩ := HGR.out.form
          have hin : ∀ g, I < g → w.heap.size ≤ g ∧ (Value.slice ar (mkL used m (xs.take k)).1.length cr).ownBlock ≠ some g := fun g hg => ⟨by omega, fun q => by have := HGR.out.blk g q; omega⟩
          have HYY : Hid (InlK n (fun g => w.heap.size ≤ g ∧ (Value.slice ar (mkL used m (xs.take k)).1.length cr).ownBlock ≠ some g) (w10.setCell ⟨I, 9, none⟩ (.slice aK1 (mkL used m0 kids).1.length cK1)) [.int .i64 kind, .string (bs text), .string (bs dest), .string (bs title), .string (bs id), .slice aC1 cls.length cC1, .slice aP1 prs.length cP1, .slice aA1 args.length cA1, .slice aT1 cits.length cT1, .slice aK1 (mkL used m0 kids).1.length cK1] (.mk kind text dest title id cls prs args cits (mkL used m0 kids).1)) :=
            ⟨_, _, _, _, _, rfl, ⟨HC11.out, HIC.out.mono (fun g _ _ q => hin g q)⟩, ⟨HP11.out, HIP.out.mono (fun g _ _ q => hin g q)⟩, ⟨HA11.out, HIA.out.mono (fun g _ _ q => hin g q)⟩, HT11.out.sam (fun _ _ _ => rfl) (fun g _ q => hin g q), (HKK11.out.sam (fun _ _ _ => rfl) (fun g _ q => hin g q))⟩
          have hog : ∀ g, (Value.slice ar (mkL used m (xs.take k)).1.length cr).ownBlock = some g → g ≠ L := fun g q r => by have := HGR.out.blk g q; omega
          have HG1 := Lib.hid (HGR.out.only (inlK n) HS11.out (fun g _ q _ r => by omega) hog)
          have HKA := Lib.hid (kept_alloc (w10.setCell ⟨I, 9, none⟩ (.slice aK1 (mkL used m0 kids).1.length cK1)) (.cells #[.int .i64 kind, .string (bs text), .string (bs dest), .string (bs title), .string (bs id), .slice aC1 cls.length cC1, .slice aP1 prs.length cP1, .slice aA1 args.length cA1, .slice aT1 cits.length cT1, .slice aK1 (mkL used m0 kids).1.length cK1] 51))
          have HG2 := Lib.hid (HG1.out.kept (inlK n) HKA.out)
          have HROW := Lib.hid (Blk.new (w10.setCell ⟨I, 9, none⟩ (.slice aK1 (mkL used m0 kids).1.length cK1)) 51 #[.int .i64 kind, .string (bs text), .string (bs dest), .string (bs title), .string (bs id), .slice aC1 cls.length cC1, .slice aP1 prs.length cP1, .slice aA1 args.length cA1, .slice aT1 cits.length cT1, .slice aK1 (mkL used m0 kids).1.length cK1])
          (try rw [size_setCell] at HROW)
          have HYZ := Lib.hid ((inlK n).sam HYY.out (Sam.kept HKA.out) (fun _ _ q => q))
          have hbz : w.heap.size ≤ ((w10.setCell ⟨I, 9, none⟩ (.slice aK1 (mkL used m0 kids).1.length cK1)).alloc (.cells #[.int .i64 kind, .string (bs text), .string (bs dest), .string (bs title), .string (bs id), .slice aC1 cls.length cC1, .slice aP1 prs.length cP1, .slice aA1 args.length cA1, .slice aT1 cits.length cT1, .slice aK1 (mkL used m0 kids).1.length cK1] 51)).heap.size := Nat.le_trans hbr (Nat.le_trans HS11.out.size HKA.out.size)
          have jc0 : (w10.setCell ⟨I, 9, none⟩ (.slice aK1 (mkL used m0 kids).1.length cK1)).cell? ⟨I, 0, none⟩ = some (.int .i64 kind) := (HJ11.out).cell 0 _ rfl
          have jc1 : (w10.setCell ⟨I, 9, none⟩ (.slice aK1 (mkL used m0 kids).1.length cK1)).cell? ⟨I, 1, none⟩ = some (.string (bs text)) := (HJ11.out).cell 1 _ rfl
          have jc2 : (w10.setCell ⟨I, 9, none⟩ (.slice aK1 (mkL used m0 kids).1.length cK1)).cell? ⟨I, 2, none⟩ = some (.string (bs dest)) := (HJ11.out).cell 2 _ rfl
          have jc3 : (w10.setCell ⟨I, 9, none⟩ (.slice aK1 (mkL used m0 kids).1.length cK1)).cell? ⟨I, 3, none⟩ = some (.string (bs title)) := (HJ11.out).cell 3 _ rfl
          have jc4 : (w10.setCell ⟨I, 9, none⟩ (.slice aK1 (mkL used m0 kids).1.length cK1)).cell? ⟨I, 4, none⟩ = some (.string (bs id)) := (HJ11.out).cell 4 _ rfl
          have jc5 : (w10.setCell ⟨I, 9, none⟩ (.slice aK1 (mkL used m0 kids).1.length cK1)).cell? ⟨I, 5, none⟩ = some (.slice aC1 cls.length cC1) := (HJ11.out).cell 5 _ rfl
          have jc6 : (w10.setCell ⟨I, 9, none⟩ (.slice aK1 (mkL used m0 kids).1.length cK1)).cell? ⟨I, 6, none⟩ = some (.slice aP1 prs.length cP1) := (HJ11.out).cell 6 _ rfl
          have jc7 : (w10.setCell ⟨I, 9, none⟩ (.slice aK1 (mkL used m0 kids).1.length cK1)).cell? ⟨I, 7, none⟩ = some (.slice aA1 args.length cA1) := (HJ11.out).cell 7 _ rfl
          have jc8 : (w10.setCell ⟨I, 9, none⟩ (.slice aK1 (mkL used m0 kids).1.length cK1)).cell? ⟨I, 8, none⟩ = some (.slice aT1 cits.length cT1) := (HJ11.out).cell 8 _ rfl
          have jc9 : (w10.setCell ⟨I, 9, none⟩ (.slice aK1 (mkL used m0 kids).1.length cK1)).cell? ⟨I, 9, none⟩ = some (.slice aK1 (mkL used m0 kids).1.length cK1) := (HJ11.out).cell 9 _ rfl
          go_wp2_with (refine wpList_append_out (inlK n) rfl (.tmp 47) (.tmp 49) 36 rfl i0 _ 192 Tryz.underlying36 hi hz0 hz1 hz2 rfl (by omega) (by rfl) HG2.out _ _ (.mk kind text dest title id cls prs args cits (mkL used m0 kids).1) (by rfl) (fun j u hu => HROW.out.cell j u (by rw [← Array.getElem?_toList]; exact hu)) rfl HYZ.out (by have := HZL.out; unfold maxLen; omega) (by have := HZL.out; omega) hbz _ rfl ?_; intro g7 c7' w17 hout7 hgrow7 hat7 hlt7; have HG7 := Lib.hid hgrow7; have HO7 := Lib.hid hout7; clear hgrow7 hat7 hout7)
          have hgr7 := Only.grown HG7.out
          have HOUT : Hid (OutG (InlK n) 10 (fun g => w.heap.size ≤ g) w.heap.size 51 w17 (.slice (some ⟨g7, 0, none⟩) ((mkL used m (xs.take k)).1.length + 1) c7') (mkL used m (xs.take (k + 1))).1) := by rw [HT.out, HX.out]; exact HO7.out
          have HNZ : Hid (NextS W0 L M U used (mkL used m (xs.take (k + 1))).2 w17) := by
            rw [HT.out, HX.out]
            exact (HN11.out.keptW HKA.out).only hgr7 (fun i q => by
              have h1 := HGR.out.blk i q.symm
              have h2 := HN11.out.kept.size
              have h3 := HN11.out.map.lt
              have h4 := HN11.out.ucell.lt
              have h5 := hog i q.symm
              have h6 := HNS.out
              refine ⟨by omega, h5, ?_, ?_⟩
              · omega
              · omega)
          have HKZ : Hid (Only (fun g => g = L) w w17) := HKR.out.trans ((HS11.out.trans (Only.of_kept HKA.out)).mono (fun i _ q => q)) |>.step hgr7 (fun i q => by left; exact (HGR.out.blk i q.symm).1)
          clear hin HYY HG1 HG2 HROW HYZ hbz HG7 HO7 HT HGR HKR x9 f9' zJ HJ11 HC11 HP11 HA11 HT11 HKK11 HIC HIP HIA HIH HPP HC HA HTT HKK jc0 jc1 jc2 jc3 jc4 jc5 jc6 jc7 jc8 jc9 hgr7 HN11 HS11 HKA
          go_wp2_with fail
          go_roundw
          case rel => exact ⟨k + 1, by omega, by go_num, HOUT.out, HNZ.out, HKZ.out⟩
          case measure => simp [intOf]; omega
      · obtain rfl : k = xs.length := by omega
        obtain ⟨ar, cr, rfl, hcr, hmr⟩ := HGR.out.form
        have HFF := Lib.hid (HFIN.out _ _ HGR.out HNR.out HKR.out)
        clear HGR HNR HKR
        go_wp2_with fail
        (try go_ret)
        exact HFF.out
end Go.Proofs.YtnbhpmleboildaaGreatDoor

/- index.marked: marked copies of blocks. Conditions: lengths. -/
set_option linter.all false
namespace Go.Proofs.YtnbhpmleboildaaGreatDoor
open Go.RowKit

def okWB (xs : List Blo) : Prop := ∀ x ∈ inlsL xs, okX x
theorem inlsL_mem2 {xs : List Blo} {x : Blo} (h : x ∈ xs) : (∀ y ∈ deepL x.line, y ∈ inlsL xs) ∧ ∀ y ∈ inlsL x.kids, y ∈ inlsL xs := by
  induction xs with
  | nil => cases h
  | cons z xs ih =>
    show (∀ y ∈ deepL x.line, y ∈ inls1 z ++ inlsL xs) ∧ ∀ y ∈ inlsL x.kids, y ∈ inls1 z ++ inlsL xs
    rcases List.mem_cons.1 h with rfl | h
    · rw [inls1_eq]
      exact ⟨fun y hy => by simp [hy], fun y hy => by simp [hy]⟩
    · obtain ⟨a, b⟩ := ih h
      exact ⟨fun y hy => List.mem_append.2 (.inr (a y hy)), fun y hy => List.mem_append.2 (.inr (b y hy))⟩
theorem inls_take {xs : List Blo} {k : Nat} {x : Blo} (h : xs[k]? = some x) : (inlsL (xs.take k)).length + ((deepL x.line).length + (inlsL x.kids).length) ≤ (inlsL xs).length := by
  obtain ⟨hk, rfl⟩ := List.getElem?_eq_some_iff.1 h
  have e : xs = xs.take k ++ (xs[k] :: xs.drop (k + 1)) := by
    rw [← List.drop_eq_getElem_cons hk, List.take_append_drop]
  have e2 : inlsL xs = inlsL (xs.take k) ++ (inls1 xs[k] ++ inlsL (xs.drop (k + 1))) := by
    conv => lhs; rw [e]
    rw [inlsL_app]; rfl
  rw [e2, inls1_eq]
  simp only [List.length_append]
  omega
theorem mb1_mk (used : List Bs) (n : Nat) (kind level : Int) (info text dest title id : Bs) (cls : List Bs) (prs : List Pr) (line : List Inl) (kids : List Blo) :
    mb1 used n (.mk kind level info text dest title id cls prs line kids) = (.mk kind level info text dest title id cls prs (mkL used n line).1 (mbL used (mkL used n line).2 kids).1, (mbL used (mkL used n line).2 kids).2) := rfl
def MbP (W0 : World) (L M U : Nat) (used : List Bs) (N n : Nat) (r : List Blo × Nat) (w : World) (e : Ending) (w' : World) : Prop :=
  ∃ v, e = .returned v ∧ Bls (fun g => w.heap.size ≤ g) N n w' v r.1 ∧ NextS W0 L M U used r.2 w' ∧ Only (fun g => g = L) w w'
theorem Tryz.infoBl3 : (Tryz.prog.info? 38).map (fun i => (i.zero, i.size, i.bytes)) = some (some (.agg #[.int .i64 0, .int .i64 0, .string ⟨#[]⟩, .string ⟨#[]⟩, .string ⟨#[]⟩, .string ⟨#[]⟩, .string ⟨#[]⟩, .slice none 0 0, .slice none 0 0, .slice none 0 0, .slice none 0 0]), 11, 192) := by kernel_rfl
set_option maxRecDepth 100000 in
set_option maxHeartbeats 12800000 in
theorem mkblks_any (W0 : World) (hG0 : Gnd W0) (S : Nat → Prop) (L M U : Nat) (hSL : ∀ g, S g → g ≠ L) (used : List Bs) (N : Nat) : ∀ (n : Nat) (xs : List Blo) (v : Value) (m : Nat) (w : World), Bls S N n w v xs → xs.length ≤ 1000000 → okBL xs → okWB xs → NextS W0 L M U used m w → m + (inlsL xs).length * (used.length + 1) ≤ 1000000000000000 →
    Calls Tryz.prog 31 #[v, nxV L U] w (MbP W0 L M U used N n (mbL used m xs) w) := by
  intro n
  induction n with
  | zero =>
    intro xs v m w hv hl hok how hn hb
    obtain rfl := hv.1
    obtain ⟨a, c, rfl, hc⟩ := hv.form
    have HFIN : MbP W0 L M U used N 0 (mbL used m []) w (.returned (.slice none 0 0)) w := ⟨_, rfl, Bls.none_ _ _ _ _, hn, Only.of_kept (Kept.refl w)⟩
    generalize hP : MbP W0 L M U used N 0 (mbL used m []) w = P at *
    clear hv hok how hn hP hb hG0 hSL
    go_enter Tryz.func31, Tryz.ntmps31
    go_wp2_with fail
    go_loopw [5, 10] (fun o i wr => o = .slice none 0 0 ∧ i = .int .i64 0 ∧ w = wr) (fun _ i _ => 1)
    case atStart => exact ⟨rfl, rfl, rfl⟩
    case round =>
      obtain ⟨rfl, rfl, rfl⟩ := hrel
      go_wp2_with fail
      (try go_ret)
      exact HFIN
  | succ n ih =>
    intro xs v m w hv hl hok how hn hb
    have HV := Lib.hid hv
    have HOK := Lib.hid hok
    have HOW : Hid (∀ x ∈ xs, okW x.line ∧ okWB x.kids) := fun x hx => ⟨fun y hy => how y ((inlsL_mem2 hx).1 y hy), fun y hy => how y ((inlsL_mem2 hx).2 y hy)⟩
    have HN0 := Lib.hid hn
    have HSL := Lib.hid hSL
    have HG0 := Lib.hid hG0
    have HTK := Lib.hid (fun (k : Nat) (x : Blo) h => mbL_take (used := used) (n := m) (xs := xs) (k := k) (x := x) h)
    have HTL := Lib.hid (fun k => mbL_len used (xs.take k) m)
    have HBK : Hid (∀ k x, xs[k]? = some x → (mbL used m (xs.take k)).2 + ((deepL x.line).length + (inlsL x.kids).length) * (used.length + 1) ≤ 1000000000000000) := fun k x hx => by
      have h1 := (mbL_bnd used (xs.take k) m).2
      have h2 := Nat.mul_le_mul_right (used.length + 1) (inls_take hx)
      rw [Nat.add_mul] at h2
      omega
    have HFIN : Hid (∀ v w', OutG (BloK N n) 11 (fun g => w.heap.size ≤ g) w.heap.size 38 w' v (mbL used m (xs.take xs.length)).1 → NextS W0 L M U used (mbL used m (xs.take xs.length)).2 w' → Only (fun g => g = L) w w' → MbP W0 L M U used N (n + 1) (mbL used m xs) w (.returned v) w') := fun v w' h1 h2 h3 => ⟨v, rfl, by
      rw [List.take_length] at h1
      exact OutG.row (S := fun g => w.heap.size ≤ g) (bloK N n) h1 (fun g _ h => h) (fun g h => h), by rw [List.take_length] at h2; exact h2, h3⟩
    have HIH := Lib.hid ih
    unfold MbP at HIH
    obtain ⟨i0, hi, hz0, hz1, hz2⟩ := info_parts Tryz.infoBl3
    obtain ⟨a, c, rfl, hc⟩ := hv.form
    have hLw : L < w.heap.size := hn.cell.lt
    have HNW : Hid (W0.heap.size ≤ w.heap.size ∧ M < w.heap.size ∧ U < w.heap.size) := ⟨hn.kept.size, hn.map.lt, hn.ucell.lt⟩
    generalize hP : MbP W0 L M U used N (n + 1) (mbL used m xs) w = P at *
    clear hP hv hok ih how hn hb hG0 hSL
    go_enter Tryz.func31, Tryz.ntmps31
    go_wp2_with fail
    go_loopw [5, 10] (fun o i wr => ∃ (k : Nat), k ≤ xs.length ∧ i = .int .i64 k ∧ Hid (OutG (BloK N n) 11 (fun g => w.heap.size ≤ g) w.heap.size 38 wr o (mbL used m (xs.take k)).1) ∧ Hid (NextS W0 L M U used (mbL used m (xs.take k)).2 wr) ∧ Hid (Only (fun g => g = L) w wr)) (fun _ i _ => xs.length - (intOf i).toNat)
    case atStart => exact ⟨0, Nat.zero_le _, rfl, OutG.nil _ _ _ _ _ _, HN0.out, Only.of_kept (Kept.refl w)⟩
    case round =>
      obtain ⟨k, hk, rfl, HGR, HNR, HKR⟩ := hrel
      have hbr : w.heap.size ≤ wr.heap.size := HKR.out.size
      clear HN0
      by_cases hlt : k < xs.length
      · obtain ⟨x, hx⟩ : ∃ x, xs[k]? = some x := ⟨_, List.getElem?_eq_getElem hlt⟩
        have HVR := Lib.hid (HV.out.step (S' := S) HKR.out (fun g _ hs q => HSL.out g hs q) (fun _ _ q => q))
        have hfit := (okBL_at HOK.out x (List.mem_of_getElem? hx)).fit
        obtain ⟨how1, how2⟩ := HOW.out x (List.mem_of_getElem? hx)
        have HOW1 := Lib.hid how1
        have HOW2 := Lib.hid how2
        have HT := Lib.hid (HTK.out k x hx)
        have HBX := Lib.hid (HBK.out k x hx)
        have hzl := HTL.out k
        rw [List.length_take] at hzl
        have HZL := Lib.hid hzl
        clear hzl
        obtain ⟨g, o, vC, vP, vL, vK, rfl, hgg, hgS, -, -, ⟨d0, d1, d2, d3, d4, d5, d6, d7, d8, d9, d10⟩, -, ⟨hC, iC⟩, ⟨hPP, iP⟩, hL, hK⟩ := Bls.at_ HVR.out k x hx
        obtain ⟨kind, level, info, text, dest, title, id, cls, prs, line, kids⟩ := x
        simp only [Blo.kind, Blo.level, Blo.info, Blo.text, Blo.dest, Blo.title, Blo.id, Blo.cls, Blo.prs, Blo.line, Blo.kids] at d0 d1 d2 d3 d4 d5 d6 hC hPP hL hK hfit iC iP HOW1 HOW2 HBX
        obtain ⟨⟨f1, f2, f3, f4, f5, f6, f7, f8, f9⟩, f10, f11⟩ := hfit
        have HC : Hid (∀ w', Only (fun g => g = L) wr w' → Strs w' vC cls) := fun w' q => hC.onlS iC q (fun g _ hs r => HSL.out g hs r)
        have HPP : Hid (∀ w', Only (fun g => g = L) wr w' → Prs w' vP prs) := fun w' q => hPP.onlS iP q (fun g _ hs r => HSL.out g hs r)
        have HLL : Hid (∀ w', Only (fun g => g = L) wr w' → Lns S N w' vL line) := fun w' q => hL.step q (fun g _ hs r => HSL.out g hs r) (fun _ _ q => q)
        have HKK : Hid (∀ w', Only (fun g => g = L) wr w' → Bls S N n w' vK kids) := fun w' q => hK.step q (fun g _ hs r => HSL.out g hs r) (fun _ _ q => q)
        have HLO := Lib.hid f10
        have HKO := Lib.hid f11
        obtain ⟨aC, cC, rfl, lC⟩ := hC.shape
        obtain ⟨aP, cP, rfl, lP⟩ := hPP.shape
        obtain ⟨aL, cL, rfl, lL⟩ := hL.form
        obtain ⟨aK, cK, rfl, lK⟩ := hK.form
        have HB0 := Lib.hid (Blk.new wr 38 #[.int .i64 kind, .int .i64 level, .string (bs info), .string (bs text), .string (bs dest), .string (bs title), .string (bs id), .slice aC cls.length cC, .slice aP prs.length cP, .slice aL line.length cL, .slice aK kids.length cK])
        have HKI := Lib.hid (kept_alloc wr (.cells #[.int .i64 kind, .int .i64 level, .string (bs info), .string (bs text), .string (bs dest), .string (bs title), .string (bs id), .slice aC cls.length cC, .slice aP prs.length cP, .slice aL line.length cL, .slice aK kids.length cK] 38))
        obtain ⟨m0, HM0⟩ : ∃ m0, Hid ((mbL used m (xs.take k)).2 = m0) := ⟨_, rfl⟩
        rw [HM0.out] at HNR HT HBX
        have HX := Lib.hid (mb1_mk used m0 kind level info text dest title id cls prs line kids)
        have HMB := Lib.hid (mkL_bnd used line m0).2
        obtain ⟨m1, HM1⟩ : ∃ m1, Hid ((mkL used m0 line).2 = m1) := ⟨_, rfl⟩
        rw [HM1.out] at HX HMB
        have hLr : L < wr.heap.size := HNR.out.cell.lt
        have hMr : M < wr.heap.size := HNR.out.map.lt
        have hUr : U < wr.heap.size := HNR.out.ucell.lt
        have hW0 : W0.heap.size ≤ wr.heap.size := HNR.out.kept.size
        clear hC iC hPP iP hL hK f10 f11 hx HTK HTL HVR how1 how2 HBK HM0
        obtain ⟨I, HI⟩ : ∃ I, Hid (wr.heap.size = I) := ⟨_, rfl⟩
        have hI1 : wr.heap.size ≤ I := by rw [HI.out]; exact Nat.le_refl _
        have HIL : Hid (I ≠ L ∧ I ≠ M ∧ I ≠ U ∧ W0.heap.size ≤ I ∧ L < I) := ⟨by have := HI.out; omega, by have := HI.out; omega, by have := HI.out; omega, by have := HI.out; omega, by have := HI.out; omega⟩
        have HS1 := Lib.hid (Only.of_kept (S := fun g => g = L) HKI.out)
        have HN1 := Lib.hid (HNR.out.keptW HKI.out)
        rw [HI.out] at HB0
        have HML : Hid (∀ w', Only (fun g => g = L) wr w' → NextS W0 L M U used m0 w' → Calls Tryz.prog 52 #[.slice aL line.length cL, nxV L U] w' (MkP W0 L M U used N (mkL used m0 line) w')) := fun w' h1 h2 =>
          mkline_any W0 HG0.out S L M U HSL.out used N line _ m0 w' (HLL.out w' h1) (by omega) HLO.out HOW1.out h2 (by have := HBX.out; rw [Nat.add_mul] at this; omega)
        unfold MkP at HML
        rw [HM1.out] at HML
        clear hLr hMr hUr hW0 HKI HLL HLO HOW1
        go_wp2_with fail
        rw [HI.out]
        generalize wr.alloc _ = w1 at *
        clear d0 d1 d2 d3 d4 d5 d6 d7 d8 d9 d10
        have q6 : w1.drew.cell? ⟨I, 6, none⟩ = some (.string (bs id)) := HB0.out.cell 6 _ rfl
        have q7 : w1.drew.cell? ⟨I, 7, none⟩ = some (.slice aC cls.length cC) := HB0.out.cell 7 _ rfl
        have q8 : w1.drew.cell? ⟨I, 8, none⟩ = some (.slice aP prs.length cP) := HB0.out.cell 8 _ rfl
        have q9 : w1.drew.cell? ⟨I, 9, none⟩ = some (.slice aL line.length cL) := HB0.out.cell 9 _ rfl
        have qz : I < w1.drew.heap.size := HB0.out.lt
        have HKD := kept_drewN w1 1
        go_region_law (first
          | (go_simp; go_at_call 51; refine (icat_any id _ _ cls prs w1.drew (HC.out _ (HS1.out.trans (Only.of_kept HKD))) (HPP.out _ (HS1.out.trans (Only.of_kept HKD))) (by omega) (by omega)).mono ?_; rintro e w4 ⟨vC1, vP1, rfl, hc1, hp1, hk4⟩; obtain ⟨aC1, cC1, rfl, lC1⟩ := hc1.1.shape; obtain ⟨aP1, cP1, rfl, lP1⟩ := hp1.1.shape; have k4 : Kept w1 w4 := HKD.trans hk4; have q94 : w4.cell? ⟨I, 9, none⟩ = some (.slice aL line.length cL) := (HB0.out.kept k4).cell 9 _ rfl; have qz4 : I < w4.heap.size := (HB0.out.kept k4).lt; have HC4 := Lib.hid hc1; have HP4 := Lib.hid hp1; have HK4 := Lib.hid k4; clear hc1 hp1 hk4 k4)
          | (go_simp; go_at_call 52; refine (HML.out _ (HS1.out.trans (Only.of_kept HK4.out)) (HN1.out.keptW HK4.out)).mono ?_; rintro e w5 ⟨vL1, rfl, hl5, hn5, ho5⟩; obtain ⟨aL1, cL1, rfl, lL1⟩ := hl5.form; have HB5 := Lib.hid ((HB0.out.kept HK4.out).onl ho5 HIL.out.1); have HL5 := Lib.hid hl5; have HN5 := Lib.hid hn5; have HO5 := Lib.hid ho5; have q65 : w5.cell? ⟨I, 6, none⟩ = some (.string (bs id)) := HB5.out.cell 6 _ rfl; have q75 : w5.cell? ⟨I, 7, none⟩ = some (.slice aC cls.length cC) := HB5.out.cell 7 _ rfl; have q85 : w5.cell? ⟨I, 8, none⟩ = some (.slice aP prs.length cP) := HB5.out.cell 8 _ rfl; have q95 : w5.cell? ⟨I, 9, none⟩ = some (.slice aL line.length cL) := HB5.out.cell 9 _ rfl; have ff6 := HB5.out.free 6; have ff7 := HB5.out.free 7; have ff8 := HB5.out.free 8; have ff9 := HB5.out.free 9; have qz5 := HB5.out.lt; clear hl5 hn5 ho5))
        all_goals
          have HIC : Hid (InB (fun g => I < g) (.slice aC1 cls.length cC1) cls.length) := HC4.out.2.mono (fun g _ _ q => Nat.lt_of_lt_of_le (show I < w1.drew.heap.size from HB0.out.lt) q)
          have HIP : Hid (InB (fun g => I < g) (.slice aP1 prs.length cP1) prs.length) := HP4.out.2.mono (fun g _ _ q => Nat.lt_of_lt_of_le (show I < w1.drew.heap.size from HB0.out.lt) q)
          have hz4 := (HB0.out.kept HK4.out).lt
          have hne : ∀ g, I < g → g ≠ L := fun g q r => by have := HIL.out; omega
          have hoZ : Only (fun i => i = I) w5 ((((w5.setCell ⟨I, 6, none⟩ (.string (bs id))).setCell ⟨I, 7, none⟩ (.slice aC1 cls.length cC1)).setCell ⟨I, 8, none⟩ (.slice aP1 prs.length cP1)).setCell ⟨I, 9, none⟩ (.slice aL1 (mkL used m0 line).1.length cL1)) := (((Only.setCell I 6 _).trans (Only.setCell I 7 _)).trans (Only.setCell I 8 _)).trans (Only.setCell I 9 _)
          have HB9 : Hid (Blk ((((w5.setCell ⟨I, 6, none⟩ (.string (bs id))).setCell ⟨I, 7, none⟩ (.slice aC1 cls.length cC1)).setCell ⟨I, 8, none⟩ (.slice aP1 prs.length cP1)).setCell ⟨I, 9, none⟩ (.slice aL1 (mkL used m0 line).1.length cL1)) I 38 #[.int .i64 kind, .int .i64 level, .string (bs info), .string (bs text), .string (bs dest), .string (bs title), .string (bs id), .slice aC1 cls.length cC1, .slice aP1 prs.length cP1, .slice aL1 (mkL used m0 line).1.length cL1, .slice aK kids.length cK]) := (((HB5.out.set 6 _).set 7 _).set 8 _).set 9 _
          have HS5 := HS1.out.trans (Only.of_kept HK4.out)
          have HS9 := Lib.hid ((HS5.trans HO5.out).step hoZ (fun i e => by left; rw [e]; exact hI1))
          have HN9 := Lib.hid (HN5.out.only hoZ (fun i e => by have := HIL.out; rw [e]; exact ⟨this.2.2.2.1, this.1, this.2.1, this.2.2.1⟩))
          have HC9 := Lib.hid ((HC4.out.1.onlS HIC.out HO5.out (fun g _ hs q => hne g hs q)).onlS HIC.out hoZ (fun g _ hs q => by omega))
          have HP9 := Lib.hid ((HP4.out.1.onlS HIP.out HO5.out (fun g _ hs q => hne g hs q)).onlS HIP.out hoZ (fun g _ hs q => by omega))
          have HL9 := Lib.hid (HL5.out.sam (S' := fun g => I < g) (Sam.only hoZ (fun g _ hs q => by omega)) (fun g _ q => by omega))
          have r10 : ((((w5.setCell ⟨I, 6, none⟩ (.string (bs id))).setCell ⟨I, 7, none⟩ (.slice aC1 cls.length cC1)).setCell ⟨I, 8, none⟩ (.slice aP1 prs.length cP1)).setCell ⟨I, 9, none⟩ (.slice aL1 (mkL used m0 line).1.length cL1)).cell? ⟨I, 10, none⟩ = some (.slice aK kids.length cK) := HB9.out.cell 10 _ rfl
          have rz := HB9.out.lt
          clear hoZ HS5 HC4 HP4 HL5 HN5 HO5 HB5 HK4 HS1 HN1 HB0 q6 q7 q8 q9 qz q94 qz4 q65 q75 q85 q95 ff6 ff7 ff8 ff9 qz5 HKD hz4 HML HC HPP
          generalize ((((w5.setCell ⟨I, 6, none⟩ (.string (bs id))).setCell ⟨I, 7, none⟩ (.slice aC1 cls.length cC1)).setCell ⟨I, 8, none⟩ (.slice aP1 prs.length cP1)).setCell ⟨I, 9, none⟩ (.slice aL1 (mkL used m0 line).1.length cL1)) = w9 at *
          go_wp2_with fail
          refine (HIH.out kids (.slice aK kids.length cK) m1 w9 (HKK.out _ HS9.out) (by omega) HKO.out HOW2.out HN9.out (by have := HBX.out; have := HMB.out; rw [Nat.add_mul] at *; omega)).mono ?_
          rintro e w10 ⟨vK1, rfl, hk1, hn10, ho10⟩
          obtain ⟨aK1, cK1, rfl, lK1⟩ := hk1.form
          have hb10 := HB9.out.onl ho10 HIL.out.1
          have ho11 := Only.setCell (w := w10) I 10 (.slice aK1 (mbL used m1 kids).1.length cK1)
          have x9 : w10.cell? ⟨I, 10, none⟩ = some (.slice aK kids.length cK) := hb10.cell 10 _ rfl
          have f9' := hb10.free 10
          have zJ := hb10.lt
          have HJ11 : Hid (Blk (w10.setCell ⟨I, 10, none⟩ (.slice aK1 (mbL used m1 kids).1.length cK1)) I 38 #[.int .i64 kind, .int .i64 level, .string (bs info), .string (bs text), .string (bs dest), .string (bs title), .string (bs id), .slice aC1 cls.length cC1, .slice aP1 prs.length cP1, .slice aL1 (mkL used m0 line).1.length cL1, .slice aK1 (mbL used m1 kids).1.length cK1]) := hb10.set 10 _
          have HS11 := Lib.hid ((HS9.out.trans ho10).step ho11 (fun i e => by left; rw [e]; exact hI1))
          have HN11 := Lib.hid (hn10.only ho11 (fun i e => by have := HIL.out; rw [e]; exact ⟨this.2.2.2.1, this.1, this.2.1, this.2.2.1⟩))
          have HC11 := Lib.hid ((HC9.out.onlS HIC.out ho10 (fun g _ hs q => hne g hs q)).onlS HIC.out ho11 (fun g _ hs q => by omega))
          have HP11 := Lib.hid ((HP9.out.onlS HIP.out ho10 (fun g _ hs q => hne g hs q)).onlS HIP.out ho11 (fun g _ hs q => by omega))
          have HL11 := Lib.hid ((HL9.out.sam (S' := fun g => I < g) (Sam.only ho10 (fun g _ hs q => hne g hs q)) (fun _ _ q => q)).sam (S' := fun g => I < g) (Sam.only ho11 (fun g _ hs q => by omega)) (fun _ _ q => q))
          have HKK11 := Lib.hid (hk1.sam (S' := fun g => I < g) (Sam.only ho11 (fun g _ hs q => by omega)) (fun g _ q => by omega))
          clear hk1 hn10 ho10 hb10 ho11 HB9 HS9 HN9 HC9 HP9 HL9 hne r10 rz
          obtain ⟨ar, cr, rfl, hcr, hmr⟩ := HGR.out.form
          have hin : ∀ g, I < g → w.heap.size ≤ g ∧ (Value.slice ar (mbL used m (xs.take k)).1.length cr).ownBlock ≠ some g := fun g hg => ⟨by omega, fun q => by have := HGR.out.blk g q; omega⟩
          have HYY : Hid (BloK N n (fun g => w.heap.size ≤ g ∧ (Value.slice ar (mbL used m (xs.take k)).1.length cr).ownBlock ≠ some g) (w10.setCell ⟨I, 10, none⟩ (.slice aK1 (mbL used m1 kids).1.length cK1)) [.int .i64 kind, .int .i64 level, .string (bs info), .string (bs text), .string (bs dest), .string (bs title), .string (bs id), .slice aC1 cls.length cC1, .slice aP1 prs.length cP1, .slice aL1 (mkL used m0 line).1.length cL1, .slice aK1 (mbL used m1 kids).1.length cK1] (.mk kind level info text dest title id cls prs (mkL used m0 line).1 (mbL used m1 kids).1)) :=
            ⟨_, _, _, _, rfl, ⟨HC11.out, HIC.out.mono (fun g _ _ q => hin g q)⟩, ⟨HP11.out, HIP.out.mono (fun g _ _ q => hin g q)⟩, HL11.out.sam (fun _ _ _ => rfl) (fun g _ q => hin g q), (HKK11.out.sam (fun _ _ _ => rfl) (fun g _ q => hin g q))⟩
          have hog : ∀ g, (Value.slice ar (mbL used m (xs.take k)).1.length cr).ownBlock = some g → g ≠ L := fun g q r => by have := HGR.out.blk g q; omega
          have HG1 := Lib.hid (HGR.out.only (bloK N n) HS11.out (fun g _ q _ r => by omega) hog)
          have HKA := Lib.hid (kept_alloc (w10.setCell ⟨I, 10, none⟩ (.slice aK1 (mbL used m1 kids).1.length cK1)) (.cells #[.int .i64 kind, .int .i64 level, .string (bs info), .string (bs text), .string (bs dest), .string (bs title), .string (bs id), .slice aC1 cls.length cC1, .slice aP1 prs.length cP1, .slice aL1 (mkL used m0 line).1.length cL1, .slice aK1 (mbL used m1 kids).1.length cK1] 38))
          have HG2 := Lib.hid (HG1.out.kept (bloK N n) HKA.out)
          have HROW := Lib.hid (Blk.new (w10.setCell ⟨I, 10, none⟩ (.slice aK1 (mbL used m1 kids).1.length cK1)) 38 #[.int .i64 kind, .int .i64 level, .string (bs info), .string (bs text), .string (bs dest), .string (bs title), .string (bs id), .slice aC1 cls.length cC1, .slice aP1 prs.length cP1, .slice aL1 (mkL used m0 line).1.length cL1, .slice aK1 (mbL used m1 kids).1.length cK1])
          (try rw [size_setCell] at HROW)
          have HYZ := Lib.hid ((bloK N n).sam HYY.out (Sam.kept HKA.out) (fun _ _ q => q))
          have hbz : w.heap.size ≤ ((w10.setCell ⟨I, 10, none⟩ (.slice aK1 (mbL used m1 kids).1.length cK1)).alloc (.cells #[.int .i64 kind, .int .i64 level, .string (bs info), .string (bs text), .string (bs dest), .string (bs title), .string (bs id), .slice aC1 cls.length cC1, .slice aP1 prs.length cP1, .slice aL1 (mkL used m0 line).1.length cL1, .slice aK1 (mbL used m1 kids).1.length cK1] 38)).heap.size := Nat.le_trans hbr (Nat.le_trans HS11.out.size HKA.out.size)
          have jc0 : (w10.setCell ⟨I, 10, none⟩ (.slice aK1 (mbL used m1 kids).1.length cK1)).cell? ⟨I, 0, none⟩ = some (.int .i64 kind) := (HJ11.out).cell 0 _ rfl
          have jc1 : (w10.setCell ⟨I, 10, none⟩ (.slice aK1 (mbL used m1 kids).1.length cK1)).cell? ⟨I, 1, none⟩ = some (.int .i64 level) := (HJ11.out).cell 1 _ rfl
          have jc2 : (w10.setCell ⟨I, 10, none⟩ (.slice aK1 (mbL used m1 kids).1.length cK1)).cell? ⟨I, 2, none⟩ = some (.string (bs info)) := (HJ11.out).cell 2 _ rfl
          have jc3 : (w10.setCell ⟨I, 10, none⟩ (.slice aK1 (mbL used m1 kids).1.length cK1)).cell? ⟨I, 3, none⟩ = some (.string (bs text)) := (HJ11.out).cell 3 _ rfl
          have jc4 : (w10.setCell ⟨I, 10, none⟩ (.slice aK1 (mbL used m1 kids).1.length cK1)).cell? ⟨I, 4, none⟩ = some (.string (bs dest)) := (HJ11.out).cell 4 _ rfl
          have jc5 : (w10.setCell ⟨I, 10, none⟩ (.slice aK1 (mbL used m1 kids).1.length cK1)).cell? ⟨I, 5, none⟩ = some (.string (bs title)) := (HJ11.out).cell 5 _ rfl
          have jc6 : (w10.setCell ⟨I, 10, none⟩ (.slice aK1 (mbL used m1 kids).1.length cK1)).cell? ⟨I, 6, none⟩ = some (.string (bs id)) := (HJ11.out).cell 6 _ rfl
          have jc7 : (w10.setCell ⟨I, 10, none⟩ (.slice aK1 (mbL used m1 kids).1.length cK1)).cell? ⟨I, 7, none⟩ = some (.slice aC1 cls.length cC1) := (HJ11.out).cell 7 _ rfl
          have jc8 : (w10.setCell ⟨I, 10, none⟩ (.slice aK1 (mbL used m1 kids).1.length cK1)).cell? ⟨I, 8, none⟩ = some (.slice aP1 prs.length cP1) := (HJ11.out).cell 8 _ rfl
          have jc9 : (w10.setCell ⟨I, 10, none⟩ (.slice aK1 (mbL used m1 kids).1.length cK1)).cell? ⟨I, 9, none⟩ = some (.slice aL1 (mkL used m0 line).1.length cL1) := (HJ11.out).cell 9 _ rfl
          have jc10 : (w10.setCell ⟨I, 10, none⟩ (.slice aK1 (mbL used m1 kids).1.length cK1)).cell? ⟨I, 10, none⟩ = some (.slice aK1 (mbL used m1 kids).1.length cK1) := (HJ11.out).cell 10 _ rfl
          go_wp2_with (refine wpList_append_out (bloK N n) rfl (.tmp 28) (.tmp 30) 23 rfl i0 _ 192 Tryz.underlying23 hi hz0 hz1 hz2 rfl (by omega) (by rfl) HG2.out _ _ (.mk kind level info text dest title id cls prs (mkL used m0 line).1 (mbL used m1 kids).1) (by rfl) (fun j u hu => HROW.out.cell j u (by rw [← Array.getElem?_toList]; exact hu)) rfl HYZ.out (by have := HZL.out; unfold maxLen; omega) (by have := HZL.out; omega) hbz _ rfl ?_; intro g7 c7' w17 hout7 hgrow7 hat7 hlt7; have HG7 := Lib.hid hgrow7; have HO7 := Lib.hid hout7; clear hgrow7 hat7 hout7)
          have hgr7 := Only.grown HG7.out
          have HOUT : Hid (OutG (BloK N n) 11 (fun g => w.heap.size ≤ g) w.heap.size 38 w17 (.slice (some ⟨g7, 0, none⟩) ((mbL used m (xs.take k)).1.length + 1) c7') (mbL used m (xs.take (k + 1))).1) := by rw [HT.out, HX.out]; exact HO7.out
          have HNZ : Hid (NextS W0 L M U used (mbL used m (xs.take (k + 1))).2 w17) := by
            rw [HT.out, HX.out]
            exact (HN11.out.keptW HKA.out).only hgr7 (fun i q => by
              have h1 := HGR.out.blk i q.symm
              have h5 := hog i q.symm
              have h6 := HNW.out
              refine ⟨by omega, h5, ?_, ?_⟩
              · omega
              · omega)
          have HKZ : Hid (Only (fun g => g = L) w w17) := HKR.out.trans (HS11.out.trans (Only.of_kept HKA.out)) |>.step hgr7 (fun i q => by left; exact (HGR.out.blk i q.symm).1)
          clear hin HYY HG1 HG2 HROW HYZ hbz HG7 HO7 HT HGR HKR x9 f9' zJ HJ11 HC11 HP11 HL11 HKK11 HIC HIP HIH HKK jc0 jc1 jc2 jc3 jc4 jc5 jc6 jc7 jc8 jc9 jc10 hgr7 HN11 HS11 HKA
          go_wp2_with fail
          go_roundw
          case rel => exact ⟨k + 1, by omega, by go_num, HOUT.out, HNZ.out, HKZ.out⟩
          case measure => simp [intOf]; omega
      · obtain rfl : k = xs.length := by omega
        obtain ⟨ar, cr, rfl, hcr, hmr⟩ := HGR.out.form
        have HFF := Lib.hid (HFIN.out _ _ HGR.out HNR.out HKR.out)
        clear HGR HNR HKR
        go_wp2_with fail
        (try go_ret)
        exact HFF.out
end Go.Proofs.YtnbhpmleboildaaGreatDoor

/- tablesOf of collate. Conditions: lengths. -/
set_option linter.all false
namespace Go.Proofs.YtnbhpmleboildaaGreatDoor
open Go.RowKit

def IntsQ (xs : List Int) (w : World) (e : Ending) (w' : World) : Prop := ∃ v, e = .returned v ∧ Ints w' v xs ∧ (∀ g, v.ownBlock = some g → w.heap.size ≤ g) ∧ Kept w w'
set_option maxRecDepth 100000 in
set_option maxHeartbeats 1600000 in
theorem letters_own (l : Bs) (w : World) (hl : l.length ≤ 1100000) : Calls Tryz.prog 44 #[.string (bs l)] w (IntsQ (ptsL l) w) := by
  obtain ⟨i0, hi, hz0, hz1, hz2⟩ := info_parts Tryz.infoInt
  have H0 : Hid (ptsL l = [] ++ ptsF l 0) := by show _ = _; rw [ptsF_zero]; rfl
  unfold IntsQ
  go_enter Tryz.func44, Tryz.ntmps44
  go_wp2_with (at_make; refine wpList_make_own _ rfl _ _ 73 rfl w.heap.size 3 i0 (.int .i64 0) 1 Tryz.underlying73 hi hz0 hz1 .i64 .i64 l.length l.length rfl rfl rfl (by rw [hz2]; omega) (by unfold maxLen; omega) (by simp) ?_; intro w1 hown hgrow)
  have HK1 : Kept w w1 := Below.grown (Below.refl _ _) hgrow (Nat.le_refl _) (fun j hj => by cases hj)
  have hs1 : w.heap.size ≤ w1.heap.size := HK1.size
  go_loopw [3] (fun v wr => ∃ (pos : Nat) (xs : List Int), pos ≤ l.length ∧ wr.heap[w1.heap.size]? = some (.stringIter (bs l) pos) ∧ wr.ownsRow w.heap.size 3 1 v xs.length (intC xs) ∧ Hid (ptsL l = xs ++ ptsF l pos) ∧ xs.length ≤ pos ∧ Kept w wr) (fun _ wr => l.length - wr.iterPos w1.heap.size)
  case atStart => exact ⟨0, [], Nat.zero_le _, World.iter_heap _ _ _, own_kept hown (kept_alloc _ _), H0, Nat.le_refl _, HK1.trans (kept_alloc _ _)⟩
  case round =>
    clear hown hgrow
    obtain ⟨pos, xs, hp, hit, hown, HA, hxl, hk⟩ := hrel
    have hip : wr.iterPos w1.heap.size = pos := by simp [World.iterPos, hit]
    have hsz : w1.heap.size < wr.heap.size := by
      rcases Nat.lt_or_ge w1.heap.size wr.heap.size with q | q
      · exact q
      · rw [Array.getElem?_eq_none q] at hit; cases hit
    by_cases hlt : pos < l.length
    · have nx := fun ty => run_next_k (P := Tryz.prog) wr w1.heap.size (bs l) pos ty hit hlt
      have hb := dec_bounds (bs l) pos hlt
      have HP := Lib.hid (ptsF_in l pos hlt)
      have hitW : (wr.iterAt w1.heap.size (bs l) (pos + (dec (bs l) pos).2.toNat)).heap[w1.heap.size]? = some (.stringIter (bs l) (pos + (dec (bs l) pos).2.toNat)) := Lib.iterAt_heap wr w1.heap.size (bs l) pos _ hit
      have hkW : Kept w (wr.iterAt w1.heap.size (bs l) (pos + (dec (bs l) pos).2.toNat)) := Lib.below_iterAt hk hs1 (bs l) _
      have hoW := own_iterAtC hown hit (bs l) (pos + (dec (bs l) pos).2.toNat)
      have hne := own_iter_ne hown hit
      have hzW : (wr.iterAt w1.heap.size (bs l) (pos + (dec (bs l) pos).2.toNat)).heap.size = wr.heap.size := Lib.iterAt_size ..
      obtain ⟨c, n, hd⟩ : ∃ c n, dec (bs l) pos = (c, n) := ⟨(dec (bs l) pos).1, (dec (bs l) pos).2, rfl⟩
      rw [hd] at nx hb HP hitW hkW hoW hzW
      simp only at nx hb HP hitW hkW hoW hzW
      obtain ⟨b1, b2, b3, b4, b5⟩ := hb
      simp only [bs_size] at b5
      obtain ⟨W, HW⟩ : ∃ W, Hid (wr.iterAt w1.heap.size (bs l) (pos + n.toNat) = W) := ⟨_, rfl⟩
      simp only [HW.out] at nx hitW hkW hoW hzW
      have HITW := Lib.hid hitW
      have HKW := Lib.hid hkW
      have HNE := Lib.hid hne
      have HIP := Lib.hid hip
      have hszW : w1.heap.size < W.heap.size := by omega
      have hwW : w.heap.size ≤ W.heap.size := by omega
      clear hitW hkW hd hip hit hk hown hne hzW
      go_wp2_with (at_builtin; refine wpList_append_own _ rfl _ _ 73 rfl w.heap.size 3 i0 (.int .i64 0) 1 8 Tryz.underlying73 hi hz0 hz1 hz2 rfl (by decide) _ _ _ rfl (hoW.alloc _) ⟨W.heap.size, 0, none⟩ 1 1 [.int .i64 c] rfl rfl ?_ ?_ ?_ ?_ ?_ ?_)
      · exact new_cells _ #[.int .i64 c] _ _ (by simp)
      · intro u hu; simp at hu; subst hu; rfl
      · unfold maxLen; omega
      · omega
      · simp; omega
      intro v' w2 hown2 hgrow2 _
      have HB2 := Lib.hid ((HKW.out.trans (kept_alloc W _)).trans' (grown_below (hoW.alloc _) hgrow2 (by simp; omega)))
      have hit2 : w2.heap[w1.heap.size]? = some (.stringIter (bs l) (pos + n.toNat)) := by
        rw [hgrow2.block w1.heap.size (by simp; omega) HNE.out, Below.heap_alloc _ _ _ hszW]
        exact HITW.out
      have HIT2 := Lib.hid hit2
      rw [← intC_snoc] at hown2
      have HO := Lib.hid hown2
      clear hown2 hgrow2 hoW hit2
      go_wp2_with fail
      go_roundw
      case rel => exact ⟨pos + n.toNat, xs ++ [c], by omega, HIT2.out, by simpa using HO.out, by show _ = _; rw [HA.out, HP.out]; simp, by simp; omega, HB2.out⟩
      case measure => rw [HIP.out]; have := HIT2.out; simp [World.iterPos, this]; omega
    · have nx := fun ty => run_next_k_end (P := Tryz.prog) wr w1.heap.size (bs l) pos ty hit hlt
      have HI := Lib.hid (Ints.own hown)
      have HBS := Lib.hid (fun g h => (hown.lt g h).1)
      have HL : Hid (ptsL l = xs) := by
        show _ = _
        rw [HA.out, ptsF_out l pos hlt, List.append_nil]
      have HK := Lib.hid hk
      clear hown hk
      go_wp2_with fail
      go_ret
      exact ⟨_, rfl, by rw [HL.out]; exact HI.out, HBS.out, HK.out⟩

theorem Tryz.zeroInt (w : World) : (zeroValue 3).run Tryz.prog w = .ok (.int .i64 0) w := by kernel_rfl
theorem Tryz.zeroInts (w : World) : (zeroValue 73).run Tryz.prog w = .ok (.slice none 0 0) w := by kernel_rfl
theorem ValsR.onl {w w' : World} {es es' : List (Int × Value)} {c : ColT} {m : Nat} (h : ValsR w es c) (hm : MapV w m es') (k : Only (fun i => i = m) w w') : ValsR w' es c := fun x => by
  have := h x
  cases hv : valI c x with
  | none => rw [hv] at this; exact this
  | some ys =>
    rw [hv] at this
    obtain ⟨v, h1, h2⟩ := this
    exact ⟨v, h1, h2.map hm k⟩
theorem vals_same {w : World} {es : List (Int × Value)} {c c' : ColT} (h : ValsR w es c) (he : ∀ x, valI c' x = valI c x) : ValsR w es c' := fun x => by rw [he x]; exact h x
theorem vals_skip {w : World} {es : List (Int × Value)} {rs : List Pr} {o : List Bs} {i : Bs} (h : ValsR w es ⟨rs, o, i⟩) (p : Pr) (hp : (ptsL p.1).length ≠ 1) : ValsR w es ⟨rs ++ [p], o, i⟩ :=
  vals_same h fun x => by
    rw [valI_snoc]
    cases valI ⟨rs, o, i⟩ x with
    | some ys => rfl
    | none =>
      simp only
      rw [if_neg (fun q => hp (by rw [q]; rfl))]
theorem vals_old {w : World} {es : List (Int × Value)} {rs : List Pr} {o : List Bs} {i : Bs} (h : ValsR w es ⟨rs, o, i⟩) (p : Pr) (x : Int) (u : Value) (hp : ptsL p.1 = [x]) (hx : getV es x = some u) : ValsR w es ⟨rs ++ [p], o, i⟩ :=
  vals_same h fun y => by
    rw [valI_snoc]
    cases hv : valI ⟨rs, o, i⟩ y with
    | some ys => rfl
    | none =>
      simp only
      rw [if_neg]
      intro q
      rw [hp] at q
      obtain rfl : x = y := by simpa using q
      have := h x
      rw [hv] at this
      rw [hx] at this; cases this
theorem vals_new {w : World} {es : List (Int × Value)} {rs : List Pr} {o : List Bs} {i : Bs} (h : ValsR w es ⟨rs, o, i⟩) (p : Pr) (x : Int) (v : Value) (hp : ptsL p.1 = [x]) (hx : getV es x = none) (hv : Ints w v (ptsL p.2)) : ValsR w (es ++ [(x, v)]) ⟨rs ++ [p], o, i⟩ := fun y => by
  have hy := h y
  rw [valI_snoc, getV_snoc]
  cases hw : valI ⟨rs, o, i⟩ y with
  | some ys =>
    rw [hw] at hy
    obtain ⟨u, h1, h2⟩ := hy
    exact ⟨u, by rw [h1], h2⟩
  | none =>
    rw [hw] at hy
    simp only at hy ⊢
    rw [hy, hp]
    by_cases q : x = y
    · subst q; rw [if_pos rfl, if_pos rfl]; exact ⟨v, rfl, hv⟩
    · rw [if_neg (by simpa using q), if_neg q]
abbrev zTab : Array Value := #[.map none, .map none, .map none, .int .i64 0]
/-- The values lie in blocks from B on. -/
def ValsF (es : List (Int × Value)) (B : Nat) : Prop := ∀ x v, getV es x = some v → ∀ g, v.ownBlock = some g → B ≤ g
theorem ValsF.nil (B : Nat) : ValsF [] B := fun x v h => by
  have e : getV [] x = none := rfl
  rw [e] at h; cases h
theorem ValsF.push {es : List (Int × Value)} {B : Nat} (h : ValsF es B) (x : Int) (v : Value) (hv : ∀ g, v.ownBlock = some g → B ≤ g) : ValsF (es ++ [(x, v)]) B := fun y u hu => by
  rw [getV_snoc] at hu
  cases hy : getV es y with
  | some u' => rw [hy] at hu; cases hu; exact h y u hy
  | none =>
    rw [hy] at hu
    simp only at hu
    split at hu
    · cases hu; exact hv
    · cases hu
theorem ValsR.blk {w w' : World} {es : List (Int × Value)} {c : ColT} {b B : Nat} (h : ValsR w es c) (hf : ValsF es B) (hb : b < B) (k : Only (fun i => i = b) w w') : ValsR w' es c := fun x => by
  have := h x
  cases hv : valI c x with
  | none => rw [hv] at this; exact this
  | some ys =>
    rw [hv] at this
    obtain ⟨v, h1, h2⟩ := this
    have hg := hf x v h1
    refine ⟨v, h1, h2.only k (fun g e => .inr (fun o n cc q => ?_))⟩
    have := hg g (by rw [q]; rfl)
    omega
/-- The tables under construction: the boxed collation, the result's block, three maps, the table's block. -/
structure TS (w : World) (B : Nat) (vR vO : Value) (ig : Bs) (n : Nat) (e1 e2 e3 : List (Int × Value)) : Prop where
  box : Blk w B 28 #[vR, vO, .string (bs ig)]
  res : Blk w (B + 1) 70 zTab
  m1 : MapV w (B + 1 + 1) e1
  m2 : MapV w (B + 1 + 1 + 1) e2
  m3 : MapV w (B + 1 + 1 + 1 + 1) e3
  tab : Blk w (B + 1 + 1 + 1 + 1 + 1) 70 #[.map (some (B + 1 + 1)), .map (some (B + 1 + 1 + 1)), .map (some (B + 1 + 1 + 1 + 1)), .int .i64 n]
theorem TS.kept {w w' : World} {B : Nat} {vR vO : Value} {ig : Bs} {n : Nat} {e1 e2 e3 : List (Int × Value)} (h : TS w B vR vO ig n e1 e2 e3) (k : Kept w w') : TS w' B vR vO ig n e1 e2 e3 :=
  ⟨h.box.kept k, h.res.kept k, h.m1.kept k, h.m2.kept k, h.m3.kept k, h.tab.kept k⟩
theorem TS.put1 {w : World} {B : Nat} {vR vO : Value} {ig : Bs} {n : Nat} {e1 e2 e3 : List (Int × Value)} (h : TS w B vR vO ig n e1 e2 e3) (e : List (Int × Value)) : TS (putV w (B + 1 + 1) e) B vR vO ig n e e2 e3 :=
  have o := putV_only w (B + 1 + 1) e
  ⟨h.box.onl o (by omega), h.res.onl o (by omega), putV_map w _ e h.m1.lt, h.m2.only o (by omega), h.m3.only o (by omega), h.tab.onl o (by omega)⟩
theorem TS.put2 {w : World} {B : Nat} {vR vO : Value} {ig : Bs} {n : Nat} {e1 e2 e3 : List (Int × Value)} (h : TS w B vR vO ig n e1 e2 e3) (e : List (Int × Value)) : TS (putV w (B + 1 + 1 + 1) e) B vR vO ig n e1 e e3 :=
  have o := putV_only w (B + 1 + 1 + 1) e
  ⟨h.box.onl o (by omega), h.res.onl o (by omega), h.m1.only o (by omega), putV_map w _ e h.m2.lt, h.m3.only o (by omega), h.tab.onl o (by omega)⟩
theorem TS.put3 {w : World} {B : Nat} {vR vO : Value} {ig : Bs} {n : Nat} {e1 e2 e3 : List (Int × Value)} (h : TS w B vR vO ig n e1 e2 e3) (e : List (Int × Value)) : TS (putV w (B + 1 + 1 + 1 + 1) e) B vR vO ig n e1 e2 e :=
  have o := putV_only w (B + 1 + 1 + 1 + 1) e
  ⟨h.box.onl o (by omega), h.res.onl o (by omega), h.m1.only o (by omega), h.m2.only o (by omega), putV_map w _ e h.m3.lt, h.tab.onl o (by omega)⟩
/-- The tables of c, as a value. -/
def TabR (w : World) (v : Value) (c : ColT) : Prop := ∃ m1 m2 m3 es, v = .agg #[.map (some m1), .map (some m2), .map (some m3), .int .i64 c.order.length] ∧ MapV w m1 (setV (ptsL c.ignore)) ∧ MapV w m2 es ∧ ValsR w es c ∧ MapV w m3 (grpV c)
theorem TabR.kept {w w' : World} {v : Value} {c : ColT} (h : TabR w v c) (k : Kept w w') : TabR w' v c := by
  obtain ⟨m1, m2, m3, es, hv, h1, h2, h3, h4⟩ := h
  exact ⟨m1, m2, m3, es, hv, h1.kept k, h2.kept k, h3.kept k, h4.kept k⟩
theorem ts_start (w : World) (vR vO : Value) (ig : Bs) (n : Nat) :
    TS ((((((w.alloc (.cells #[vR, vO, .string (bs ig)] 28)).alloc (.cells zTab 70)).alloc (.map #[] 0)).alloc (.map #[] 0)).alloc (.map #[] 0)).alloc (.cells #[.map (some (w.heap.size + 1 + 1)), .map (some (w.heap.size + 1 + 1 + 1)), .map (some (w.heap.size + 1 + 1 + 1 + 1)), .int .i64 n] 70)) w.heap.size vR vO ig n [] [] [] := by
  have k : ∀ (w : World) (o : Obj), Kept w (w.alloc o) := kept_alloc
  have s : ∀ (w : World) (o : Obj), (w.alloc o).heap.size = w.heap.size + 1 := fun w o => by simp
  refine ⟨?_, ?_, ?_, ?_, ?_, ?_⟩
  · exact (((((Blk.new w _ _).alloc _).alloc _).alloc _).alloc _).alloc _
  · have h := Blk.new (w.alloc (.cells #[vR, vO, .string (bs ig)] 28)) 70 zTab
    rw [s] at h
    exact (((h.alloc _).alloc _).alloc _).alloc _
  · have h := MapV.made ((w.alloc (.cells #[vR, vO, .string (bs ig)] 28)).alloc (.cells zTab 70))
    rw [s, s] at h
    exact ((h.kept (k _ _)).kept (k _ _)).kept (k _ _)
  · have h := MapV.made (((w.alloc (.cells #[vR, vO, .string (bs ig)] 28)).alloc (.cells zTab 70)).alloc (.map #[] 0))
    rw [s, s, s] at h
    exact (h.kept (k _ _)).kept (k _ _)
  · have h := MapV.made ((((w.alloc (.cells #[vR, vO, .string (bs ig)] 28)).alloc (.cells zTab 70)).alloc (.map #[] 0)).alloc (.map #[] 0))
    rw [s, s, s, s] at h
    exact h.kept (k _ _)
  · have h := Blk.new (((((w.alloc (.cells #[vR, vO, .string (bs ig)] 28)).alloc (.cells zTab 70)).alloc (.map #[] 0)).alloc (.map #[] 0)).alloc (.map #[] 0)) 70 #[.map (some (w.heap.size + 1 + 1)), .map (some (w.heap.size + 1 + 1 + 1)), .map (some (w.heap.size + 1 + 1 + 1 + 1)), .int .i64 n]
    rw [s, s, s, s, s] at h
    exact h
theorem ts_kept (w : World) (o1 o2 o3 o4 o5 o6 : Obj) : Kept w ((((((w.alloc o1).alloc o2).alloc o3).alloc o4).alloc o5).alloc o6) :=
  (((((kept_alloc _ _).trans (kept_alloc _ _)).trans (kept_alloc _ _)).trans (kept_alloc _ _)).trans (kept_alloc _ _)).trans (kept_alloc _ _)
set_option maxRecDepth 100000 in
set_option maxHeartbeats 6400000 in
theorem tables_any (vR vO : Value) (c : ColT) (w : World) (hv : Col w vR vO c) (hs : SmallC c) :
    Calls Tryz.prog 22 #[colV vR vO c.ignore] w fun e w' => ∃ v, e = .returned v ∧ TabR w' v c ∧ Kept w w' := by
  obtain ⟨s1, s2, s3, s4, s5⟩ := hs
  have HV := Lib.hid hv
  obtain ⟨aR, cR, rfl, lR⟩ := hv.1.form
  obtain ⟨aO, cO, rfl, lO⟩ := hv.2.form
  have HS4 := Lib.hid s4
  have HS5 := Lib.hid s5
  clear hv s4 s5
  have mk1 := fun w => run_makeMap (P := Tryz.prog) 66 w
  have mk2 := fun w => run_makeMap (P := Tryz.prog) 67 w
  have mk3 := fun w => run_makeMap (P := Tryz.prog) 68 w
  have HTS := Lib.hid (ts_start w (.slice aR c.ranks.length cR) (.slice aO c.order.length cO) c.ignore c.order.length)
  have HKS := Lib.hid (ts_kept w (.cells #[.slice aR c.ranks.length cR, .slice aO c.order.length cO, .string (bs c.ignore)] 28) (.cells zTab 70) (.map #[] 0) (.map #[] 0) (.map #[] 0) (.cells #[.map (some (w.heap.size + 1 + 1)), .map (some (w.heap.size + 1 + 1 + 1)), .map (some (w.heap.size + 1 + 1 + 1 + 1)), .int .i64 c.order.length] 70))
  have HL0 := Lib.hid (fun w => letters_any c.ignore w (by omega))
  unfold IntsP at HL0
  have hig := ptsL_len c.ignore
  go_enter Tryz.func22, Tryz.ntmps22
  go_wp2_with fail
  generalize (((((w.alloc (.cells #[.slice aR c.ranks.length cR, .slice aO c.order.length cO, .string (bs c.ignore)] 28)).alloc (.cells zTab 70)).alloc (.map #[] 0)).alloc (.map #[] 0)).alloc (.map #[] 0)).alloc (.cells #[.map (some (w.heap.size + 1 + 1)), .map (some (w.heap.size + 1 + 1 + 1)), .map (some (w.heap.size + 1 + 1 + 1 + 1)), .int .i64 c.order.length] 70) = w0 at *
  refine (HL0.out _).mono ?_
  rintro e w1 ⟨v1, rfl, hv1, hk1⟩
  have HV1 := Lib.hid hv1
  have HT1 := Lib.hid (HTS.out.kept hk1)
  have HK1 := Lib.hid (HKS.out.trans hk1)
  obtain ⟨a1, c1, rfl, hc1⟩ := hv1.form
  obtain ⟨xs, HXE⟩ : ∃ xs, Hid (ptsL c.ignore = xs) := ⟨_, rfl⟩
  rw [HXE.out] at HV1 hc1 hig ⊢
  have HXS : Hid (setV xs = setV (xs.take xs.length)) := by
    show _ = _; rw [List.take_of_length_le (Nat.le_refl _)]
  clear hv1 hk1 HTS HKS HL0
  go_wp2_with fail
  go_loopw [28] (fun i wr => ∃ k : Nat, k ≤ xs.length ∧ i = .int .i64 k ∧ Hid (TS wr w.heap.size (.slice aR c.ranks.length cR) (.slice aO c.order.length cO) c.ignore c.order.length (setV (xs.take k)) [] []) ∧ Hid (Only (fun i => i = w.heap.size + 1 + 1) w1 wr)) (fun i _ => xs.length - (intOf i).toNat)
  case atStart => exact ⟨0, Nat.zero_le _, rfl, HT1.out, Only.of_kept (Kept.refl _)⟩
  case round =>
    obtain ⟨k, hk, rfl, HT, HO⟩ := hrel
    have HKW : Hid (Kept w wr) := only_kept HK1.out HO.out (by omega)
    by_cases hlt : k < xs.length
    · obtain ⟨y, hx⟩ : ∃ y, xs[k]? = some y := ⟨_, List.getElem?_eq_getElem hlt⟩
      obtain ⟨g, o, rfl, hg, d0⟩ := (HV1.out.map HT1.out.m1 HO.out).cell_of k y hx
      have t0 : wr.cell? ⟨w.heap.size + 1 + 1 + 1 + 1 + 1, 0, none⟩ = some (.map (some (w.heap.size + 1 + 1))) := HT.out.tab.cell 0 _ rfl
      have zt := HT.out.tab.lt
      have HNX : Hid (setV (xs.take (k + 1)) = if (getV (setV (xs.take k)) y).isSome = true then setV (xs.take k) else setV (xs.take k) ++ [(y, .bool true)]) := by
        show _ = _
        obtain ⟨hk', rfl⟩ := List.getElem?_eq_some_iff.1 hx
        rw [List.take_succ_eq_append_getElem hk', setV_snoc]
      have up : (Instr.mapUpdate 66 (.map (some (w.heap.size + 1 + 1))) (.int .i64 y) (.bool true)).run Tryz.prog wr = .ok () (putV wr (w.heap.size + 1 + 1) (setV (xs.take (k + 1)))) := by
        cases hgv : getV (setV (xs.take k)) y with
        | none =>
          rw [HNX.out, hgv]
          exact insV (P := Tryz.prog) Tryz.underlying66 Tryz.underlying3 wr _ _ y (.bool true) HT.out.m1 hgv
        | some u =>
          have hu : u = .bool true := by
            have := setV_is (xs.take k) y
            rw [hgv] at this
            split at this
            · exact Option.some.inj this
            · cases this
          subst hu
          rw [HNX.out, hgv]
          exact againV (P := Tryz.prog) Tryz.underlying66 Tryz.underlying3 wr _ _ y (.bool true) HT.out.m1 hgv
      have HT2 := Lib.hid (HT.out.put1 (setV (xs.take (k + 1))))
      have HO2 := Lib.hid (HO.out.trans (putV_only wr (w.heap.size + 1 + 1) (setV (xs.take (k + 1)))))
      generalize putV wr (w.heap.size + 1 + 1) (setV (xs.take (k + 1))) = w5 at *
      clear hx
      go_wp2_with fail
      go_roundw
      case rel => exact ⟨k + 1, by omega, by go_num, HT2.out, HO2.out⟩
      case measure => simp [intOf]; omega
    · obtain rfl : k = xs.length := by omega
      rw [← HXS.out] at HT
      have b0 : wr.cell? ⟨w.heap.size, 0, none⟩ = some (.slice aR c.ranks.length cR) := HT.out.box.cell 0 _ rfl
      have z0 := HT.out.box.lt
      obtain ⟨E1, HE1⟩ : ∃ E1, Hid (setV xs = E1) := ⟨_, rfl⟩
      rw [HE1.out] at HT
      clear HXS HO HV1 HT1 HK1 hlt
      go_wp2_with fail
      clear b0 z0
      go_loopw [39] (fun i wr => ∃ (k : Nat) (es : List (Int × Value)), k ≤ c.ranks.length ∧ i = .int .i64 k ∧ Hid (TS wr w.heap.size (.slice aR c.ranks.length cR) (.slice aO c.order.length cO) c.ignore c.order.length E1 es []) ∧ Hid (ValsR wr es ⟨c.ranks.take k, c.order, c.ignore⟩) ∧ Hid (ValsF es (w.heap.size + 1 + 1)) ∧ Hid (Kept w wr)) (fun i _ => c.ranks.length - (intOf i).toNat)
      case atStart => exact ⟨0, [], Nat.zero_le _, rfl, HT.out, ValsR.nil _ _ _, ValsF.nil _, HKW.out⟩
      case round =>
        clear HT HKW
        obtain ⟨j, es, hj, rfl, HT, HVR, HVF, HKW⟩ := hrel
        have hwr2 : w.heap.size + 1 + 1 ≤ wr.heap.size := by have := HT.out.tab.lt; omega
        by_cases hlt2 : j < c.ranks.length
        · obtain ⟨p, hx⟩ : ∃ x, c.ranks[j]? = some x := ⟨_, List.getElem?_eq_getElem hlt2⟩
          obtain ⟨hp1, hp2⟩ := HS5.out p (List.mem_of_getElem? hx)
          obtain ⟨g, o, rfl, hg, d0, d1, _, _⟩ := (HV.out.1.kept HKW.out).cell_of j p hx
          have HTK : Hid (c.ranks.take (j + 1) = c.ranks.take j ++ [p]) := by
            obtain ⟨hk', rfl⟩ := List.getElem?_eq_some_iff.1 hx
            exact List.take_succ_eq_append_getElem hk'
          obtain ⟨x, y⟩ := p
          simp only at hp1 hp2 d0 d1
          have HLX := Lib.hid (fun w => letters_any x w (by omega))
          have HLY := Lib.hid (fun w => letters_own y w (by omega))
          unfold IntsP at HLX
          unfold IntsQ at HLY
          have hxl := ptsL_len x
          have HBX := Lib.hid (Blk.new wr 47 #[.string (bs x), .string (bs y)])
          have HKX := Lib.hid (kept_alloc wr (.cells #[.string (bs x), .string (bs y)] 47))
          have HSK := Lib.hid (fun w' (h : ValsR w' es ⟨c.ranks.take j, c.order, c.ignore⟩) hp => vals_skip h (x, y) hp)
          have HOLD := Lib.hid (fun w' (h : ValsR w' es ⟨c.ranks.take j, c.order, c.ignore⟩) z u hp hu => vals_old h (x, y) z u hp hu)
          have HNEW := Lib.hid (fun w' (h : ValsR w' es ⟨c.ranks.take j, c.order, c.ignore⟩) z u hp hu hv => vals_new h (x, y) z u hp hu hv)
          rw [← HTK.out] at HSK HOLD HNEW
          simp only at HSK HOLD HNEW
          clear hx HTK
          generalize ptsL x = px at *
          generalize ptsL y = py at *
          go_wp2_with fail
          refine (HLX.out _).mono ?_
          rintro e w3 ⟨v3, rfl, hi3, hk3⟩
          have HKA := Lib.hid (HKX.out.trans hk3)
          have HI3 := Lib.hid hi3
          have HT3 := Lib.hid (HT.out.kept HKA.out)
          have HV3 := Lib.hid (HVR.out.kept HKA.out)
          have HK3 := Lib.hid (HKW.out.trans HKA.out)
          have HBX3 := Lib.hid (HBX.out.kept hk3)
          obtain ⟨a3, c3, rfl, hc3⟩ := hi3.form
          clear hk3 hi3 d0 d1 hg
          by_cases hpx : px.length = 1
          case neg =>
            have hpx' : ((px.length : Int) == 1) = false := by rw [beq_eq_false_iff_ne]; omega
            have HVN := Lib.hid (HSK.out w3 HV3.out hpx)
            clear HSK HOLD HNEW
            go_wp2_with fail
            go_roundw
            case rel => exact ⟨j + 1, es, by omega, by go_num, HT3.out, HVN.out, HVF.out, HK3.out⟩
            case measure => simp [intOf]; omega
          obtain ⟨z, rfl⟩ : ∃ z, px = [z] := List.length_eq_one_iff.1 hpx
          obtain ⟨g3, o3, rfl, hg3, q0⟩ := HI3.out.cell_of 0 z rfl
          rw [Nat.add_zero] at q0
          have t1 : w3.cell? ⟨w.heap.size + 1 + 1 + 1 + 1 + 1, 1, none⟩ = some (.map (some (w.heap.size + 1 + 1 + 1))) := HT3.out.tab.cell 1 _ rfl
          have zt := HT3.out.tab.lt
          have lk := fun w' (h : MapV w' (w.heap.size + 1 + 1 + 1) es) => lookV_ok (P := Tryz.prog) Tryz.underlying67 Tryz.underlying3 w' (w.heap.size + 1 + 1 + 1) es z (.slice none 0 0) (Tryz.zeroInts w') h
          simp only [List.length_cons, List.length_nil, Nat.zero_add] at hc3 HI3 ⊢
          cases hgv : getV es z with
          | some u =>
            have HVN := Lib.hid (HOLD.out w3 HV3.out z u rfl hgv)
            simp only [hgv] at lk
            have lkq := fun n => lk (w3.drewN n) (HT3.out.kept (kept_drewN w3 n)).m2
            clear HSK HOLD HNEW lk hgv
            go_wp2_with fail
            go_quiet (fail)
            go_wp2_with fail
            go_roundw
            case rel => exact ⟨j + 1, es, by omega, by go_num, HT3.out.kept (kept_drewN _ _), HVN.out.kept (kept_drewN _ _), HVF.out, HK3.out.trans (kept_drewN _ _)⟩
            case measure => simp [intOf]; omega
          | none =>
            simp only [hgv] at lk
            have lkq := fun n => lk (w3.drewN n) (HT3.out.kept (kept_drewN w3 n)).m2
            have HGV := Lib.hid hgv
            clear HSK HOLD lk hgv
            go_wp2_with fail
            go_quiet (fail)
            have HT4 := Lib.hid (HT3.out.kept (kept_drewN w3 nq))
            have HV4 := Lib.hid (HV3.out.kept (kept_drewN w3 nq))
            have HK4 := Lib.hid (HK3.out.trans (kept_drewN w3 nq))
            have HBX4 := Lib.hid (HBX3.out.kept (kept_drewN w3 nq))
            have HI4 := Lib.hid (HI3.out.kept (kept_drewN w3 nq))
            clear q0 t1 zt lkq hg3 HT3 HV3 HK3 HBX3 HI3 HKA
            generalize w3.drewN nq = w4 at *
            go_wp2_with fail
            obtain ⟨g4, o4, he4, hg3, q0⟩ := HI4.out.cell_of 0 z rfl
            obtain ⟨rfl, rfl⟩ : g4 = g3 ∧ o4 = o3 := by cases he4; exact ⟨rfl, rfl⟩
            rw [Nat.add_zero] at q0
            have t1 : w4.cell? ⟨w.heap.size + 1 + 1 + 1 + 1 + 1, 1, none⟩ = some (.map (some (w.heap.size + 1 + 1 + 1))) := HT4.out.tab.cell 1 _ rfl
            have zt := HT4.out.tab.lt
            have p1 : w4.cell? ⟨wr.heap.size, 1, none⟩ = some (.string (bs y)) := HBX4.out.cell 1 _ rfl
            have zp := HBX4.out.lt
            have hnp : ¬ wr.heap.size = w.heap.size + 1 + 1 + 1 := HBX4.out.no_map HT4.out.m2
            have hng : ¬ g4 = w.heap.size + 1 + 1 + 1 := by
              rintro rfl
              rw [HT4.out.m2.no_cell] at q0
              cases q0
            have HCC : Hid (∀ w', Only (fun i => i = w.heap.size + 1 + 1 + 1) w4 w' → (w'.cell? ⟨w.heap.size + 1 + 1 + 1 + 1 + 1, 1, none⟩ = some (.map (some (w.heap.size + 1 + 1 + 1))) ∧ w'.cell? ⟨wr.heap.size, 1, none⟩ = some (.string (bs y)) ∧ w'.cell? ⟨g4, o4, none⟩ = some (.int .i64 z)) ∧ (w.heap.size + 1 + 1 + 1 + 1 + 1 < w'.heap.size ∧ wr.heap.size < w'.heap.size ∧ g4 < w'.heap.size) ∧ Only (fun i => i = w.heap.size + 1 + 1 + 1) w4 w') := fun w' h =>
              ⟨⟨(h.cell _ 1 zt (by omega)).trans t1, (h.cell _ 1 zp hnp).trans p1, (h.cell g4 o4 hg3 hng).trans q0⟩, ⟨Nat.lt_of_lt_of_le zt h.size, Nat.lt_of_lt_of_le zp h.size, Nat.lt_of_lt_of_le hg3 h.size⟩, h⟩
            have HUP : Hid (∀ w' v, Kept w4 w' → (Instr.mapUpdate 67 (.map (some (w.heap.size + 1 + 1 + 1))) (.int .i64 z) v).run Tryz.prog w' = .ok () (putV w' (w.heap.size + 1 + 1 + 1) (es ++ [(z, v)]))) := fun w' v h =>
              insV (P := Tryz.prog) Tryz.underlying67 Tryz.underlying3 w' _ es z v (HT4.out.kept h).m2 HGV.out
            have hkd : Kept w4 w4.drew := kept_drewN w4 1
            have okd : Only (fun i => i = w.heap.size + 1 + 1 + 1) w4 w4.drew := Only.of_kept hkd
            go_region_held3 (fun w' => (w'.cell? ⟨w.heap.size + 1 + 1 + 1 + 1 + 1, 1, none⟩ = some (.map (some (w.heap.size + 1 + 1 + 1))) ∧ w'.cell? ⟨wr.heap.size, 1, none⟩ = some (.string (bs y)) ∧ w'.cell? ⟨g4, o4, none⟩ = some (.int .i64 z)) ∧ (w.heap.size + 1 + 1 + 1 + 1 + 1 < w'.heap.size ∧ wr.heap.size < w'.heap.size ∧ g4 < w'.heap.size) ∧ Only (fun i => i = w.heap.size + 1 + 1 + 1) w4 w')
              ((refine HCC.out _ ?_; assumption))
              (first
                | (go_at_call 44; refine (HLY.out _).mono ?_; rintro e w5 ⟨v5, rfl, hi5, hf5, hk5⟩; have k5 : Kept w4 w5 := hkd.trans hk5; have HF5 := Lib.hid hf5; have HI5 := Lib.hid hi5; have up5 := HUP.out w5 v5 k5; have o5 : Only (fun i => i = w.heap.size + 1 + 1 + 1) w4 w5 := Only.of_kept k5; have o6 := o5.trans (putV_only w5 (w.heap.size + 1 + 1 + 1) (es ++ [(z, v5)])); obtain ⟨a5, c5, rfl, hc5⟩ := hi5.form; clear hk5 hi5 hf5))
            all_goals
              have HF5 : ∀ g, (Value.slice a5 py.length c5).ownBlock = some g → w.heap.size + 1 + 1 ≤ g := fun g h => by
                have := HF5.out g h
                have h8 : w4.heap.size ≤ g := this
                have := HT4.out.tab.lt
                omega
              have HT5 := Lib.hid ((HT4.out.kept k5).put2 (es ++ [(z, Value.slice a5 py.length c5)]))
              have HM5 := Lib.hid (HT4.out.kept k5).m2
              have HO5 := Lib.hid (putV_only w5 (w.heap.size + 1 + 1 + 1) (es ++ [(z, Value.slice a5 py.length c5)]))
              have HV5 := Lib.hid (HNEW.out _ ((HV4.out.kept k5).onl HM5.out HO5.out) z (Value.slice a5 py.length c5) rfl HGV.out (HI5.out.map HM5.out HO5.out))
              have HK5 := Lib.hid (only_kept (HK4.out.trans k5) HO5.out (by omega))
              clear HUP HCC up5 o5 o6 okd hkd
              generalize putV w5 (w.heap.size + 1 + 1 + 1) (es ++ [(z, Value.slice a5 py.length c5)]) = w6 at *
              go_wp2_with fail
              go_roundw
              case rel => exact ⟨j + 1, es ++ [(z, Value.slice a5 py.length c5)], by omega, by go_num, HT5.out, HV5.out, HVF.out.push z _ HF5, HK5.out⟩
              case measure => simp [intOf]; omega
        · obtain rfl : j = c.ranks.length := by omega
          rw [List.take_of_length_le (Nat.le_refl _)] at HVR
          have HVRC : Hid (ValsR wr es c) := HVR.out
          have b1 : wr.cell? ⟨w.heap.size, 1, none⟩ = some (.slice aO c.order.length cO) := HT.out.box.cell 1 _ rfl
          have z1 := HT.out.box.lt
          have H00 : Hid (([] : List (Int × Value)) = grpN (c.order.take 0) 0 []) := rfl
          clear HVR hlt2
          go_wp2_with fail
          clear b1 z1
          go_loopw [72] (fun i wr2 => ∃ k : Nat, k ≤ c.order.length ∧ i = .int .i64 k ∧ Hid (TS wr2 w.heap.size (.slice aR c.ranks.length cR) (.slice aO c.order.length cO) c.ignore c.order.length E1 es (grpN (c.order.take k) 0 [])) ∧ Hid (ValsR wr2 es c) ∧ Hid (Kept w wr2)) (fun i _ => c.order.length - (intOf i).toNat)
          case atStart => exact ⟨0, Nat.zero_le _, rfl, HT.out, HVRC.out, HKW.out⟩
          case round =>
            clear HT HVRC HKW
            obtain ⟨k, hk, rfl, HT, HVR, HKW⟩ := hrel
            by_cases hlt3 : k < c.order.length
            · obtain ⟨s, hx⟩ : ∃ x, c.order[k]? = some x := ⟨_, List.getElem?_eq_getElem hlt3⟩
              have hsl := HS4.out s (List.mem_of_getElem? hx)
              obtain ⟨g, o, rfl, hg, d0, _, _⟩ := (HV.out.2.kept HKW.out).cell_of k s hx
              have HGN : Hid (grpN (c.order.take (k + 1)) 0 [] = grpA k (grpN (c.order.take k) 0 []) (ptsL s)) := by
                show _ = _
                obtain ⟨hk', rfl⟩ := List.getElem?_eq_some_iff.1 hx
                rw [List.take_succ_eq_append_getElem hk', grpN_snoc]
                congr 1; simp; omega
              have HLS := Lib.hid (fun w => letters_any s w (by omega))
              unfold IntsP at HLS
              have hpl := ptsL_len s
              clear hx
              generalize ptsL s = ps at *
              generalize grpN (c.order.take k) 0 [] = e3 at *
              go_wp2_with fail
              refine (HLS.out _).mono ?_
              rintro e w3 ⟨v3, rfl, hi3, hk3⟩
              have HI3 := Lib.hid hi3
              have HT3 := Lib.hid (HT.out.kept hk3)
              have HV3 := Lib.hid (HVR.out.kept hk3)
              have HK3 := Lib.hid (HKW.out.trans hk3)
              obtain ⟨a3, c3, rfl, hc3⟩ := hi3.form
              clear hk3 hi3 d0 hg HT HVR HKW
              go_wp2_with fail
              go_loopw [80] (fun i wr3 => ∃ n : Nat, n ≤ ps.length ∧ i = .int .i64 n ∧ Hid (TS wr3 w.heap.size (.slice aR c.ranks.length cR) (.slice (some ⟨g, o, none⟩) c.order.length cO) c.ignore c.order.length E1 es (grpA k e3 (ps.take n))) ∧ Hid (Only (fun i => i = w.heap.size + 1 + 1 + 1 + 1) w3 wr3)) (fun i _ => ps.length - (intOf i).toNat)
              case atStart => exact ⟨0, Nat.zero_le _, rfl, HT3.out, Only.of_kept (Kept.refl _)⟩
              case round =>
                obtain ⟨n, hn, rfl, HT, HO⟩ := hrel
                have HVR : Hid (ValsR wr es c) := HV3.out.onl HT3.out.m3 HO.out
                have HKW : Hid (Kept w wr) := only_kept HK3.out HO.out (by omega)
                by_cases hlt4 : n < ps.length
                · obtain ⟨y, hx⟩ : ∃ y, ps[n]? = some y := ⟨_, List.getElem?_eq_getElem hlt4⟩
                  obtain ⟨g, o, rfl, hg, d0⟩ := (HI3.out.map HT3.out.m3 HO.out).cell_of n y hx
                  have t2 : wr.cell? ⟨w.heap.size + 1 + 1 + 1 + 1 + 1, 2, none⟩ = some (.map (some (w.heap.size + 1 + 1 + 1 + 1))) := HT.out.tab.cell 2 _ rfl
                  have zt := HT.out.tab.lt
                  have HNX : Hid (grpA k e3 (ps.take (n + 1)) = if (getV (grpA k e3 (ps.take n)) y).isSome = true then grpA k e3 (ps.take n) else grpA k e3 (ps.take n) ++ [(y, .int .i64 k)]) := by
                    show _ = _
                    obtain ⟨hk', rfl⟩ := List.getElem?_eq_some_iff.1 hx
                    rw [List.take_succ_eq_append_getElem hk', grpA_snoc]
                  have lk := lookV_ok (P := Tryz.prog) Tryz.underlying68 Tryz.underlying3 wr (w.heap.size + 1 + 1 + 1 + 1) (grpA k e3 (ps.take n)) y (.int .i64 0) (Tryz.zeroInt wr) HT.out.m3
                  clear hx
                  cases hgv : getV (grpA k e3 (ps.take n)) y with
                  | some u =>
                    rw [hgv] at HNX lk
                    rw [if_pos (by rfl)] at HNX
                    simp only [Option.getD_some, Option.isSome_some] at lk
                    rw [← HNX.out] at HT
                    go_wp2_with fail
                    go_roundw
                    case rel => exact ⟨n + 1, by omega, by go_num, HT.out, HO.out⟩
                    case measure => simp [intOf]; omega
                  | none =>
                    rw [hgv] at HNX lk
                    rw [if_neg (by simp)] at HNX
                    simp only [Option.getD_none, Option.isSome_none] at lk
                    have up := insV (P := Tryz.prog) Tryz.underlying68 Tryz.underlying3 wr _ _ y (.int .i64 k) HT.out.m3 hgv
                    rw [← HNX.out] at up
                    have HT2 := Lib.hid (HT.out.put3 (grpA k e3 (ps.take (n + 1))))
                    have HO2 := Lib.hid (HO.out.trans (putV_only wr (w.heap.size + 1 + 1 + 1 + 1) (grpA k e3 (ps.take (n + 1)))))
                    generalize putV wr (w.heap.size + 1 + 1 + 1 + 1) (grpA k e3 (ps.take (n + 1))) = w5 at *
                    clear hgv HNX
                    go_wp2_with fail
                    go_roundw
                    case rel => exact ⟨n + 1, by omega, by go_num, HT2.out, HO2.out⟩
                    case measure => simp [intOf]; omega
                · obtain rfl : n = ps.length := by omega
                  rw [List.take_of_length_le (Nat.le_refl _), ← HGN.out] at HT
                  go_wp2_with fail
                  go_roundw
                  case rel => exact ⟨k + 1, by omega, by go_num, HT.out, HVR.out, HKW.out⟩
                  case measure => simp [intOf]; omega
            · obtain rfl : k = c.order.length := by omega
              rw [List.take_of_length_le (Nat.le_refl _)] at HT
              have t0 : wr.cell? ⟨w.heap.size + 1 + 1 + 1 + 1 + 1, 0, none⟩ = some (.map (some (w.heap.size + 1 + 1))) := HT.out.tab.cell 0 _ rfl
              have t1 : wr.cell? ⟨w.heap.size + 1 + 1 + 1 + 1 + 1, 1, none⟩ = some (.map (some (w.heap.size + 1 + 1 + 1))) := HT.out.tab.cell 1 _ rfl
              have t2 : wr.cell? ⟨w.heap.size + 1 + 1 + 1 + 1 + 1, 2, none⟩ = some (.map (some (w.heap.size + 1 + 1 + 1 + 1))) := HT.out.tab.cell 2 _ rfl
              have t3 : wr.cell? ⟨w.heap.size + 1 + 1 + 1 + 1 + 1, 3, none⟩ = some (.int .i64 c.order.length) := HT.out.tab.cell 3 _ rfl
              have zt := HT.out.tab.lt
              have r0 : wr.cell? ⟨w.heap.size + 1, 0, none⟩ = some (.map none) := HT.out.res.cell 0 _ rfl
              have r1 : wr.cell? ⟨w.heap.size + 1, 1, none⟩ = some (.map none) := HT.out.res.cell 1 _ rfl
              have r2 : wr.cell? ⟨w.heap.size + 1, 2, none⟩ = some (.map none) := HT.out.res.cell 2 _ rfl
              have r3 : wr.cell? ⟨w.heap.size + 1, 3, none⟩ = some (.int .i64 0) := HT.out.res.cell 3 _ rfl
              have f0 := HT.out.res.free 0
              have f1 := HT.out.res.free 1
              have f2 := HT.out.res.free 2
              have f3 := HT.out.res.free 3
              have zr := HT.out.res.lt
              go_wp2_with fail
              have hO : Only (fun i => i = w.heap.size + 1) wr ((((wr.setCell ⟨w.heap.size + 1, 0, none⟩ (.map (some (w.heap.size + 1 + 1)))).setCell ⟨w.heap.size + 1, 1, none⟩ (.map (some (w.heap.size + 1 + 1 + 1)))).setCell ⟨w.heap.size + 1, 2, none⟩ (.map (some (w.heap.size + 1 + 1 + 1 + 1)))).setCell ⟨w.heap.size + 1, 3, none⟩ (.int .i64 c.order.length)) :=
                ((((Only.setCell _ 0 _).trans (Only.setCell _ 1 _)).trans (Only.setCell _ 2 _)).trans (Only.setCell _ 3 _))
              refine bodyPost_ret (v := .agg #[.map (some (w.heap.size + 1 + 1)), .map (some (w.heap.size + 1 + 1 + 1)), .map (some (w.heap.size + 1 + 1 + 1 + 1)), .int .i64 c.order.length]) (by simp [results, Tryz.results22, go_sem, r0, r1, r2, r3, zr]) rfl ?_
              refine ⟨_, rfl, ⟨_, _, _, es, rfl, ?_, HT.out.m2.only hO (by omega), HVR.out.blk HVF.out (by omega) hO, HT.out.m3.only hO (by omega)⟩, only_kept HKW.out hO (by omega)⟩
              rw [HXE.out, HE1.out]
              exact HT.out.m1.only hO (by omega)
end Go.Proofs.YtnbhpmleboildaaGreatDoor
