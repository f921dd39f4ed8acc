/- filler.block: a filled copy of a block. Conditions: lengths; what is asked of blocks. -/
import Derived.Test.YthbnahagfojfbaaG21
import Derived.Test.YthbnahagfojfbaaG22
import Derived.Test.YthbnahagfojfbaaG24
import Derived.Test.YthbnahagfojfbaaG20

set_option linter.all false
namespace Go.Proofs.Ythbnahagfojfbaa
open Go.RowKit

mutual
/-- A filled copy of a block. -/
def blk1 (ids : Bs → Bs) (ks : List Bs) (cf : Blo → Blo → Int) : Blo → Blo
  | .mk kind level info text dest title id cls prs line kids =>
    .mk kind level info text dest title id cls prs (lineL ids false line) (blkO ids ks cf (isGl (.mk kind level info text dest title id cls prs line kids)) kids ++ srtL cf (blkT ids ks cf (isGl (.mk kind level info text dest title id cls prs line kids)) kids))
def blkO (ids : Bs → Bs) (ks : List Bs) (cf : Blo → Blo → Int) (ins : Bool) : List Blo → List Blo
  | [] => []
  | x :: xs => selB (!(ins && isTm x)) (blk1 ids ks cf x) ++ blkO ids ks cf ins xs
def blkT (ids : Bs → Bs) (ks : List Bs) (cf : Blo → Blo → Int) (ins : Bool) : List Blo → List Blo
  | [] => []
  | x :: xs => selB ((ins && isTm x) && ks.contains (defName x)) (blk1 ids ks cf x) ++ blkT ids ks cf ins xs
end
/-- Filled copies of blocks. -/
def blkL (ids : Bs → Bs) (ks : List Bs) (cf : Blo → Blo → Int) (ins : Bool) (xs : List Blo) : List Blo := blkO ids ks cf ins xs ++ srtL cf (blkT ids ks cf ins xs)
def cfN (c : ColT) (x y : Blo) : Int := cmpC c (defName x) (defName y)
mutual
/-- What the walk asks of blocks. -/
def okT1 : Blo → Prop
  | .mk _ _ _ _ _ _ _ _ prs line kids => okV line ∧ ((getP prs kName).getD []).length ≤ 1000 ∧ (kids.filter isTm).length ≤ 19 ∧ okTL kids
def okTL : List Blo → Prop
  | [] => True
  | x :: xs => okT1 x ∧ okTL xs
end
theorem okTL_at : ∀ {xs : List Blo} (_ : okTL xs), ∀ x ∈ xs, okT1 x
  | [], _, _, h => by cases h
  | y :: ys, h, x, hx => by
    have h' : okT1 y ∧ okTL ys := h
    rcases List.mem_cons.1 hx with rfl | hx
    · exact h'.1
    · exact okTL_at h'.2 x hx
/-- A filler and the collation of its comparison in memory. -/
structure FilD (F Mi Mn C : Nat) (vR vO : Value) (c : ColT) (esI : List (Bs × Value)) (ks : List Bs) (ids : Bs → Bs) (w : World) : Prop where
  fil : FilC F Mi Mn (.func (.func 20) #[] #[.pointer (some ⟨C, 0, none⟩)]) esI ks ids w
  clo : Blk w C 26 #[vR, vO, .string (bs c.ignore)]
  col : Col w vR vO c
theorem FilD.kept {F Mi Mn C : Nat} {vR vO : Value} {c : ColT} {esI : List (Bs × Value)} {ks : List Bs} {ids : Bs → Bs} {w w' : World} (h : FilD F Mi Mn C vR vO c esI ks ids w) (k : Kept w w') : FilD F Mi Mn C vR vO c esI ks ids w' :=
  ⟨h.fil.kept k, h.clo.kept k, h.col.kept k⟩
def BksP (N n : Nat) (zs : List Blo) (w : World) (e : Ending) (w' : World) : Prop := ∃ v, e = .returned v ∧ Bls (fun g => w.heap.size ≤ g) (3 * N + 1) n w' v zs ∧ Kept w w'
/-- The contract of filler.blocks at blocks n deep. -/
def BksC (S : Nat → Prop) (F Mi Mn C : Nat) (vR vO : Value) (c : ColT) (esI : List (Bs × Value)) (ks : List Bs) (ids : Bs → Bs) (N n : Nat) : Prop :=
  ∀ (xs : List Blo) (v : Value) (ins : Bool) (w : World), Bls S N n w v xs → xs.length ≤ 1000000 → okBL xs → okTL xs → (ins = true → (xs.filter isTm).length ≤ 19) → FilD F Mi Mn C vR vO c esI ks ids w →
    Calls Try.prog 24 #[.pointer (some ⟨F, 0, none⟩), v, .bool ins] w (BksP N n (blkL ids ks (cfN c) ins xs) w)
def BkP (N n : Nat) (z : Blo) (w : World) (e : Ending) (w' : World) : Prop := ∃ cs : List Value, e = .returned (.agg cs.toArray) ∧ cs.length = 11 ∧ BloK (3 * N + 1) n (fun g => w.heap.size ≤ g) w' cs z ∧ Kept w w'
set_option maxRecDepth 100000 in
set_option maxHeartbeats 6400000 in
theorem fblk_any (S : Nat → Prop) (F Mi Mn C : Nat) (vR vO : Value) (c : ColT) (esI : List (Bs × Value)) (ks : List Bs) (ids : Bs → Bs) (N n : Nat) (IH : BksC S F Mi Mn C vR vO c esI ks ids N n) (x : Blo) (cs : List Value) (w : World) (hx : BloK N n S w cs x) (hok : okB1 x) (hot : okT1 x) (hf : FilD F Mi Mn C vR vO c esI ks ids w) :
    Calls Try.prog 44 #[.pointer (some ⟨F, 0, none⟩), .agg cs.toArray] w (BkP N n (blk1 ids ks (cfN c) x) w) := by
  obtain ⟨vC, vP, vL, vK, rfl, ⟨hC, -⟩, ⟨hPP, -⟩, hL, hK⟩ := hx
  have hfit := hok.fit
  obtain ⟨kind, level, info, text, dest, title, id, cls, prs, line, kids⟩ := x
  simp only [Blo.kind, Blo.level, Blo.info, Blo.text, Blo.dest, Blo.title, Blo.id, Blo.cls, Blo.prs, Blo.line, Blo.kids] at hC hPP hL hK hfit
  obtain ⟨⟨f1, f2, f3, f4, f5, f6, f7, f8, f9⟩, f10, f11⟩ := hfit
  have hot' : okV line ∧ ((getP prs kName).getD []).length ≤ 1000 ∧ (kids.filter isTm).length ≤ 19 ∧ okTL kids := hot
  obtain ⟨t1, -, t3, t4⟩ := hot'
  have HC := Lib.hid hC
  have HPP := Lib.hid hPP
  have HLL := Lib.hid hL
  have HKK := Lib.hid hK
  have HKO := Lib.hid f10
  have HKO2 := Lib.hid f11
  have HT1 := Lib.hid t1
  have HT4 := Lib.hid t4
  have HF := Lib.hid hf
  obtain ⟨aC, cC, rfl, lC⟩ := hC.shape
  obtain ⟨aP, cP, rfl, lP⟩ := hPP.shape
  obtain ⟨aL, cL, rfl, lL⟩ := hL.form
  obtain ⟨aK, cK, rfl, lK⟩ := hK.form
  obtain ⟨I, HI⟩ : ∃ I, Hid (w.heap.size = I) := ⟨_, rfl⟩
  have hI0 := Blk.new w 37 #[.int .i64 kind, .int .i64 level, .string (bs info), .string (bs text), .string (bs dest), .string (bs title), .string (bs id), .slice aC cls.length cC, .slice aP prs.length cP, .slice aL line.length cL, .slice aK kids.length cK]
  rw [HI.out] at hI0
  have hK0 := kept_alloc w (.cells #[.int .i64 kind, .int .i64 level, .string (bs info), .string (bs text), .string (bs dest), .string (bs title), .string (bs id), .slice aC cls.length cC, .slice aP prs.length cP, .slice aL line.length cL, .slice aK kids.length cK] 37)
  have he1 : (w.alloc (.cells #[.int .i64 kind, .int .i64 level, .string (bs info), .string (bs text), .string (bs dest), .string (bs title), .string (bs id), .slice aC cls.length cC, .slice aP prs.length cP, .slice aL line.length cL, .slice aK kids.length cK] 37)).heap.size = I + 1 := by rw [← HI.out]; simp
  have HI0 := Lib.hid hI0
  have HK0 := Lib.hid hK0
  have HE1 := Lib.hid he1
  have HBK : Hid (blk1 ids ks (cfN c) (.mk kind level info text dest title id cls prs line kids) = .mk kind level info text dest title id cls prs (lineL ids false line) (blkL ids ks (cfN c) (isGl (.mk kind level info text dest title id cls prs line kids)) kids)) := rfl
  rw [HBK.out]
  obtain ⟨GG, HGG⟩ : ∃ t, Hid (isGl (Blo.mk kind level info text dest title id cls prs line kids) = t) := ⟨_, Lib.hid rfl⟩
  rw [HGG.out]
  have hgl := HGG.out
  rw [isGl_mk] at hgl
  have HGL := Lib.hid hgl
  have HIH := Lib.hid IH
  unfold BksC BksP at HIH
  have HFIN : Hid (∀ vC vP vL vK w', BloK (3 * N + 1) n (fun g => w.heap.size ≤ g) w' [.int .i64 kind, .int .i64 level, .string (bs info), .string (bs text), .string (bs dest), .string (bs title), .string (bs id), vC, vP, vL, vK] (.mk kind level info text dest title id cls prs (lineL ids false line) (blkL ids ks (cfN c) GG kids)) → Kept w w' → BkP N n (.mk kind level info text dest title id cls prs (lineL ids false line) (blkL ids ks (cfN c) GG kids)) w (.returned (blV kind level info text dest title id vC vP vL vK)) w') := fun vC vP vL vK w' h1 h2 => ⟨_, rfl, rfl, h1, h2⟩
  generalize hP : BkP N n (.mk kind level info text dest title id cls prs (lineL ids false line) (blkL ids ks (cfN c) GG kids)) w = P at *
  clear hC hPP hL hK hok hot hf f10 f11 t1 t4 hI0 hK0 he1 hgl HBK IH hP HGG
  unfold bloC
  simp only [Blo.kind, Blo.level, Blo.info, Blo.text, Blo.dest, Blo.title, Blo.id]
  go_enter Try.func44, Try.ntmps44
  go_wp2_with fail
  generalize w.alloc _ = w0 at *
  have HR1 := Lib.hid (Blk.new w0 37 #[.int .i64 0, .int .i64 0, .string (bs []), .string (bs []), .string (bs []), .string (bs []), .string (bs []), .slice none 0 0, .slice none 0 0, .slice none 0 0, .slice none 0 0])
  have HKR := Lib.hid (kept_alloc w0 (.cells #[.int .i64 0, .int .i64 0, .string (bs []), .string (bs []), .string (bs []), .string (bs []), .string (bs []), .slice none 0 0, .slice none 0 0, .slice none 0 0, .slice none 0 0] 37))
  rw [HE1.out] at HR1
  rw [HI.out] at ⊢
  generalize w0.alloc _ = w1 at *
  have HK1 := Lib.hid (HK0.out.trans HKR.out)
  have HI1 := Lib.hid (HI0.out.kept HKR.out)
  clear HKR HI0 HK0 HE1
  refine ((gcat_any id _ _ cls prs w1 (HC.out.kept HK1.out) (HPP.out.kept HK1.out) (by omega) (by omega))).mono ?_
  rintro e w4 ⟨vC1, vP1, rfl, ⟨hc1, ic1⟩, ⟨hp1, ip1⟩, hk4⟩
  obtain ⟨aC1, cC1, rfl, lC1⟩ := hc1.shape
  obtain ⟨aP1, cP1, rfl, lP1⟩ := hp1.shape
  have HC4 := Lib.hid hc1
  have HP4 := Lib.hid hp1
  have hz1 : I + 1 < w1.heap.size := HR1.out.lt
  have hwI : w.heap.size ≤ I := by have := HI.out; omega
  have HIC : Hid (InB (fun g => I + 1 < g) (.slice aC1 cls.length cC1) cls.length) := ic1.mono (fun g _ _ q => Nat.lt_of_lt_of_le hz1 q)
  have HIP : Hid (InB (fun g => I + 1 < g) (.slice aP1 prs.length cP1) prs.length) := ip1.mono (fun g _ _ q => Nat.lt_of_lt_of_le hz1 q)
  have HI4 := Lib.hid (HI1.out.kept hk4)
  have HR4 := Lib.hid (HR1.out.kept hk4)
  have HK4 := Lib.hid (HK1.out.trans hk4)
  clear hc1 hp1 ic1 ip1 hk4 HI1 HR1 HK1 hz1
  go_wp2_with (refine wpList_store_part rfl 35 (.tmp 8) (.tmp 7) (by rfl) I 6 37 _ #[.string (bs id), .slice aC1 cls.length cC1, .slice aP1 prs.length cP1] (by rfl) (by rfl) HI4.out (by show 6 + 3 ≤ 11; omega) Try.sizeAt (by simp only [List.all_toArray, List.all_cons, List.all_nil]; rfl) ?_; intro w5 hb5 ho5; have HI5 : Hid (Blk w5 I 37 #[.int .i64 kind, .int .i64 level, .string (bs info), .string (bs text), .string (bs dest), .string (bs title), .string (bs id), .slice aC1 cls.length cC1, .slice aP1 prs.length cP1, .slice aL line.length cL, .slice aK kids.length cK]) := hb5; have HO5 := Lib.hid ho5; have b9 : w5.cell? ⟨I, 9, none⟩ = some (.slice aL line.length cL) := HI5.out.cell 9 _ rfl; clear hb5 ho5)
  have HK5 := Lib.hid (HK4.out.trans' (HO5.out.below HK4.out.size (fun i e => by rw [e]; exact hwI)))
  have HR5 := Lib.hid (HR4.out.onl HO5.out (by omega))
  have HC5 := Lib.hid (HC4.out.onlS HIC.out HO5.out (fun g _ hs q => by omega))
  have HP5 := Lib.hid (HP4.out.onlS HIP.out HO5.out (fun g _ hs q => by omega))
  clear HI4 HR4 HK4 HC4 HP4 HO5 b9
  refine (fline_any S F Mi Mn _ esI ks ids N line (.slice aL line.length cL) false w5 (HLL.out.kept HK5.out) f8 HKO.out HT1.out (HF.out.kept HK5.out).fil).mono ?_
  rintro e w6 ⟨vL1, rfl, hl6, hk6⟩
  obtain ⟨aL1, cL1, rfl, lL1⟩ := hl6.form
  have hz5 : I + 1 < w5.heap.size := HR5.out.lt
  have hl6' : Lns (fun g => I + 1 < g) (3 * N + 1) w6 (.slice aL1 (lineL ids false line).length cL1) (lineL ids false line) := hl6.sam (fun _ _ _ => rfl) (fun g _ q => Nat.lt_of_lt_of_le hz5 q)
  have hb6 := HI5.out.kept hk6
  have k6 := HK5.out.trans hk6
  have ho7 := Only.setCell (w := w6) I 9 (.slice aL1 (lineL ids false line).length cL1)
  have x9 : w6.cell? ⟨I, 9, none⟩ = some (.slice aL line.length cL) := hb6.cell 9 _ rfl
  have f9' := hb6.free 9
  have zI := hb6.lt
  have HI7 : Hid (Blk (w6.setCell ⟨I, 9, none⟩ (.slice aL1 (lineL ids false line).length cL1)) I 37 #[.int .i64 kind, .int .i64 level, .string (bs info), .string (bs text), .string (bs dest), .string (bs title), .string (bs id), .slice aC1 cls.length cC1, .slice aP1 prs.length cP1, .slice aL1 (lineL ids false line).length cL1, .slice aK kids.length cK]) := hb6.set 9 _
  have HR7 := Lib.hid ((HR5.out.kept hk6).onl ho7 (by omega))
  have HK7 := Lib.hid (kept_set k6 I 9 (.slice aL1 (lineL ids false line).length cL1) hwI)
  have HC7 := Lib.hid ((HC5.out.kept hk6).onlS HIC.out ho7 (fun g _ hs q => by omega))
  have HP7 := Lib.hid ((HP5.out.kept hk6).onlS HIP.out ho7 (fun g _ hs q => by omega))
  have HL7 := Lib.hid (hl6'.sam (S' := fun g => I + 1 < g) (Sam.only ho7 (fun g _ hs q => by omega)) (fun _ _ q => q))
  clear hl6 hl6' hk6 hb6 k6 ho7 HI5 HR5 HK5 HC5 HP5 hz5
  go_wp2_with fail
  generalize World.setCell _ _ _ = w7 at *
  clear x9 f9' zI
  have zI : I < w7.heap.size := HI7.out.lt
  have ci0 : w7.cell? ⟨I, 0, none⟩ = some (.int .i64 kind) := (HI7.out).cell 0 _ rfl
  have ci1 : w7.cell? ⟨I, 1, none⟩ = some (.int .i64 level) := (HI7.out).cell 1 _ rfl
  have ci2 : w7.cell? ⟨I, 2, none⟩ = some (.string (bs info)) := (HI7.out).cell 2 _ rfl
  have ci3 : w7.cell? ⟨I, 3, none⟩ = some (.string (bs text)) := (HI7.out).cell 3 _ rfl
  have ci4 : w7.cell? ⟨I, 4, none⟩ = some (.string (bs dest)) := (HI7.out).cell 4 _ rfl
  have ci5 : w7.cell? ⟨I, 5, none⟩ = some (.string (bs title)) := (HI7.out).cell 5 _ rfl
  have ci6 : w7.cell? ⟨I, 6, none⟩ = some (.string (bs id)) := (HI7.out).cell 6 _ rfl
  have ci7 : w7.cell? ⟨I, 7, none⟩ = some (.slice aC1 cls.length cC1) := (HI7.out).cell 7 _ rfl
  have ci8 : w7.cell? ⟨I, 8, none⟩ = some (.slice aP1 prs.length cP1) := (HI7.out).cell 8 _ rfl
  have ci9 : w7.cell? ⟨I, 9, none⟩ = some (.slice aL1 (lineL ids false line).length cL1) := (HI7.out).cell 9 _ rfl
  have ci10 : w7.cell? ⟨I, 10, none⟩ = some (.slice aK kids.length cK) := (HI7.out).cell 10 _ rfl
  have cd0 : w7.drew.cell? ⟨I, 0, none⟩ = some (.int .i64 kind) := (HI7.out).cell 0 _ rfl
  have cd1 : w7.drew.cell? ⟨I, 1, none⟩ = some (.int .i64 level) := (HI7.out).cell 1 _ rfl
  have cd2 : w7.drew.cell? ⟨I, 2, none⟩ = some (.string (bs info)) := (HI7.out).cell 2 _ rfl
  have cd3 : w7.drew.cell? ⟨I, 3, none⟩ = some (.string (bs text)) := (HI7.out).cell 3 _ rfl
  have cd4 : w7.drew.cell? ⟨I, 4, none⟩ = some (.string (bs dest)) := (HI7.out).cell 4 _ rfl
  have cd5 : w7.drew.cell? ⟨I, 5, none⟩ = some (.string (bs title)) := (HI7.out).cell 5 _ rfl
  have cd6 : w7.drew.cell? ⟨I, 6, none⟩ = some (.string (bs id)) := (HI7.out).cell 6 _ rfl
  have cd7 : w7.drew.cell? ⟨I, 7, none⟩ = some (.slice aC1 cls.length cC1) := (HI7.out).cell 7 _ rfl
  have cd8 : w7.drew.cell? ⟨I, 8, none⟩ = some (.slice aP1 prs.length cP1) := (HI7.out).cell 8 _ rfl
  have cd9 : w7.drew.cell? ⟨I, 9, none⟩ = some (.slice aL1 (lineL ids false line).length cL1) := (HI7.out).cell 9 _ rfl
  have cd10 : w7.drew.cell? ⟨I, 10, none⟩ = some (.slice aK kids.length cK) := (HI7.out).cell 10 _ rfl
  apply cut_region1 (R := fun vK w' => ∃ wx, Kept w7 wx ∧ Bls (fun g => I + 1 < g) (3 * N + 1) n wx vK (blkL ids ks (cfN c) GG kids) ∧ w' = wx.setCell ⟨I, 10, none⟩ vK)
  · intro HCC
    go_region_with (first
      | (go_at_call 46; refine (isgl_any kind level info text dest title id (.slice aC1 cls.length cC1) (.slice aP1 prs.length cP1) (.slice aL1 (lineL ids false line).length cL1) (.slice aK kids.length cK) _ rfl rfl rfl rfl).mono ?_; rw [HGL.out]; rintro e wa ⟨rfl, hka⟩; have KA : Hid (Kept w7 wa) := (kept_drewN w7 1).trans hka; have ya10 : wa.cell? ⟨I, 10, none⟩ = some (.slice aK kids.length cK) := (HI7.out.kept KA.out).cell 10 _ rfl; clear hka)
      | (go_at_call 24; refine (HIH.out kids (.slice aK kids.length cK) GG _ (HKK.out.kept (HK7.out.trans KA.out)) f9 HKO2.out HT4.out (fun _ => t3) (HF.out.kept (HK7.out.trans KA.out))).mono ?_; rintro e wb ⟨vK1, rfl, hb, hkb⟩; obtain ⟨aK1, cK1, rfl, lK1⟩ := hb.form; have KB : Hid (Kept w7 wb) := KA.out.trans hkb; have yb10 : wb.cell? ⟨I, 10, none⟩ = some (.slice aK kids.length cK) := (HI7.out.kept KB.out).cell 10 _ rfl; have zb : I < wb.heap.size := (HI7.out.kept KB.out).lt; have fb := (HI7.out.kept KB.out).free 10; have HBB := Lib.hid hb; have hza : I + 1 < w7.heap.size := HR7.out.lt; have hzb := KA.out.size; clear hkb hb))
    all_goals
      have hR : ∃ wx, Kept w7 wx ∧ Bls (fun g => I + 1 < g) (3 * N + 1) n wx (.slice aK1 (blkL ids ks (cfN c) GG kids).length cK1) (blkL ids ks (cfN c) GG kids) ∧ wb.setCell ⟨I, 10, none⟩ (.slice aK1 (blkL ids ks (cfN c) GG kids).length cK1) = wx.setCell ⟨I, 10, none⟩ (.slice aK1 (blkL ids ks (cfN c) GG kids).length cK1) := ⟨wb, KB.out, HBB.out.sam (fun _ _ _ => rfl) (fun g hg q => Nat.lt_of_lt_of_le (Nat.lt_of_lt_of_le hza hzb) q), rfl⟩
      generalize (Value.slice aK1 (blkL ids ks (cfN c) GG kids).length cK1) = vK at hR ⊢
      exact HCC vK _ hR
  · intro vK w15 hR
    obtain ⟨wx, hkx, hlx, rfl⟩ := hR
    obtain ⟨aK1, cK1, rfl, lK2⟩ := hlx.form
    have hox := Only.setCell (w := wx) I 10 (.slice aK1 (blkL ids ks (cfN c) GG kids).length cK1)
    have HI8 : Hid (Blk (wx.setCell ⟨I, 10, none⟩ (.slice aK1 (blkL ids ks (cfN c) GG kids).length cK1)) I 37 #[.int .i64 kind, .int .i64 level, .string (bs info), .string (bs text), .string (bs dest), .string (bs title), .string (bs id), .slice aC1 cls.length cC1, .slice aP1 prs.length cP1, .slice aL1 (lineL ids false line).length cL1, .slice aK1 (blkL ids ks (cfN c) GG kids).length cK1]) := (HI7.out.kept hkx).set 10 _
    have HR8 := Lib.hid ((HR7.out.kept hkx).onl hox (by omega))
    have HK8 := Lib.hid (kept_set (HK7.out.trans hkx) I 10 (.slice aK1 (blkL ids ks (cfN c) GG kids).length cK1) hwI)
    have HC8 := Lib.hid ((HC7.out.kept hkx).onlS HIC.out hox (fun g _ hs q => by omega))
    have HP8 := Lib.hid ((HP7.out.kept hkx).onlS HIP.out hox (fun g _ hs q => by omega))
    have HL8 := Lib.hid ((HL7.out.kept hkx).sam (S' := fun g => I + 1 < g) (Sam.only hox (fun g _ hs q => by omega)) (fun _ _ q => q))
    have HB8 := Lib.hid (hlx.sam (S' := fun g => I + 1 < g) (Sam.only hox (fun g _ hs q => by omega)) (fun _ _ q => q))
    clear hkx hlx hox HI7 HR7 HK7 HC7 HP7 HL7 zI ci0 cd0 ci1 cd1 ci2 cd2 ci3 cd3 ci4 cd4 ci5 cd5 ci6 cd6 ci7 cd7 ci8 cd8 ci9 cd9 ci10 cd10
    generalize World.setCell _ _ _ = w8 at *
    go_wp2_with (first
      | (refine wpList_load_blk (by rfl) 37 (.tmp 3) (by rfl) I _ (by rfl) HI8.out _ Try.underlying37 rfl Try.sizeBl ?_)
      | (refine wpList_store_blk rfl 37 (.tmp 4) (.tmp 21) (by rfl) (I + 1) _ #[.int .i64 kind, .int .i64 level, .string (bs info), .string (bs text), .string (bs dest), .string (bs title), .string (bs id), .slice aC1 cls.length cC1, .slice aP1 prs.length cP1, .slice aL1 (lineL ids false line).length cL1, .slice aK1 (blkL ids ks (cfN c) GG kids).length cK1] (by rfl) (by rfl) HR8.out rfl Try.sizeBl (by simp only [List.all_toArray, List.all_cons, List.all_nil]; rfl) ?_; intro w9 hb9 ho9; have HR9 := Lib.hid hb9; have HO9 := Lib.hid ho9; clear hb9 ho9))
    have r0 : w9.cell? ⟨I + 1, 0, none⟩ = some (.int .i64 kind) := (HR9.out).cell 0 _ rfl
    have r1 : w9.cell? ⟨I + 1, 1, none⟩ = some (.int .i64 level) := (HR9.out).cell 1 _ rfl
    have r2 : w9.cell? ⟨I + 1, 2, none⟩ = some (.string (bs info)) := (HR9.out).cell 2 _ rfl
    have r3 : w9.cell? ⟨I + 1, 3, none⟩ = some (.string (bs text)) := (HR9.out).cell 3 _ rfl
    have r4 : w9.cell? ⟨I + 1, 4, none⟩ = some (.string (bs dest)) := (HR9.out).cell 4 _ rfl
    have r5 : w9.cell? ⟨I + 1, 5, none⟩ = some (.string (bs title)) := (HR9.out).cell 5 _ rfl
    have r6 : w9.cell? ⟨I + 1, 6, none⟩ = some (.string (bs id)) := (HR9.out).cell 6 _ rfl
    have r7 : w9.cell? ⟨I + 1, 7, none⟩ = some (.slice aC1 cls.length cC1) := (HR9.out).cell 7 _ rfl
    have r8 : w9.cell? ⟨I + 1, 8, none⟩ = some (.slice aP1 prs.length cP1) := (HR9.out).cell 8 _ rfl
    have r9 : w9.cell? ⟨I + 1, 9, none⟩ = some (.slice aL1 (lineL ids false line).length cL1) := (HR9.out).cell 9 _ rfl
    have r10 : w9.cell? ⟨I + 1, 10, none⟩ = some (.slice aK1 (blkL ids ks (cfN c) GG kids).length cK1) := (HR9.out).cell 10 _ rfl
    have rz := HR9.out.lt
    have hbk : BloK (3 * N + 1) n (fun g => w.heap.size ≤ g) w9 [.int .i64 kind, .int .i64 level, .string (bs info), .string (bs text), .string (bs dest), .string (bs title), .string (bs id), .slice aC1 cls.length cC1, .slice aP1 prs.length cP1, .slice aL1 (lineL ids false line).length cL1, .slice aK1 (blkL ids ks (cfN c) GG kids).length cK1] (.mk kind level info text dest title id cls prs (lineL ids false line) (blkL ids ks (cfN c) GG kids)) :=
      ⟨_, _, _, _, rfl, ⟨HC8.out.onlS HIC.out HO9.out (fun g _ hs q => by omega), HIC.out.mono fun g _ _ q => by omega⟩, ⟨HP8.out.onlS HIP.out HO9.out (fun g _ hs q => by omega), HIP.out.mono fun g _ _ q => by omega⟩, HL8.out.sam (Sam.only HO9.out (fun g _ hs q => by omega)) (fun g _ q => by omega), HB8.out.sam (Sam.only HO9.out (fun g _ hs q => by omega)) (fun g _ q => by omega)⟩
    have hfin := HFIN.out _ _ _ _ w9 hbk (HK8.out.trans' (HO9.out.below HK8.out.size (fun i e => by rw [e]; omega)))
    refine bodyPost_ret (v := .agg #[.int .i64 kind, .int .i64 level, .string (bs info), .string (bs text), .string (bs dest), .string (bs title), .string (bs id), .slice aC1 cls.length cC1, .slice aP1 prs.length cP1, .slice aL1 (lineL ids false line).length cL1, .slice aK1 (blkL ids ks (cfN c) GG kids).length cK1]) ?_ rfl hfin
    simp [results, Try.results44, go_sem, r0, r1, r2, r3, r4, r5, r6, r7, r8, r9, r10, rz]
end Go.Proofs.Ythbnahagfojfbaa

/- filler.blocks: what its walk leans on. No condition. -/
set_option linter.all false
namespace Go.Proofs.Ythbnahagfojfbaa
open Go.RowKit

section
variable (ids : Bs → Bs) (ks : List Bs) (cf : Blo → Blo → Int) (ins : Bool)
theorem blkO_app : ∀ xs ys, blkO ids ks cf ins (xs ++ ys) = blkO ids ks cf ins xs ++ blkO ids ks cf ins ys
  | [], _ => by simp [blkO]
  | x :: xs, ys => by show selB _ _ ++ blkO ids ks cf ins (xs ++ ys) = _; rw [blkO_app xs ys, ← List.append_assoc]; rfl
theorem blkT_app : ∀ xs ys, blkT ids ks cf ins (xs ++ ys) = blkT ids ks cf ins xs ++ blkT ids ks cf ins ys
  | [], _ => by simp [blkT]
  | x :: xs, ys => by show selB _ _ ++ blkT ids ks cf ins (xs ++ ys) = _; rw [blkT_app xs ys, ← List.append_assoc]; rfl
theorem blkO_one (x : Blo) : blkO ids ks cf ins [x] = selB (!(ins && isTm x)) (blk1 ids ks cf x) := by show selB _ _ ++ blkO ids ks cf ins [] = _; unfold blkO; rw [List.append_nil]
theorem blkT_one (x : Blo) : blkT ids ks cf ins [x] = selB ((ins && isTm x) && ks.contains (defName x)) (blk1 ids ks cf x) := by show selB _ _ ++ blkT ids ks cf ins [] = _; unfold blkT; rw [List.append_nil]
theorem blkO_take {xs : List Blo} {k : Nat} {x : Blo} (h : xs[k]? = some x) : blkO ids ks cf ins (xs.take (k + 1)) = blkO ids ks cf ins (xs.take k) ++ selB (!(ins && isTm x)) (blk1 ids ks cf x) := by
  rw [take_snoc h, blkO_app, blkO_one]
theorem blkT_take {xs : List Blo} {k : Nat} {x : Blo} (h : xs[k]? = some x) : blkT ids ks cf ins (xs.take (k + 1)) = blkT ids ks cf ins (xs.take k) ++ selB ((ins && isTm x) && ks.contains (defName x)) (blk1 ids ks cf x) := by
  rw [take_snoc h, blkT_app, blkT_one]
theorem selB_len (b : Bool) (x : Blo) : (selB b x).length ≤ 1 := by cases b <;> simp [selB]
theorem blkO_len : ∀ xs, (blkO ids ks cf ins xs).length ≤ xs.length
  | [] => by simp [blkO]
  | x :: xs => by
    show (selB _ _ ++ blkO ids ks cf ins xs).length ≤ _
    have := blkO_len xs
    have := selB_len (!(ins && isTm x)) (blk1 ids ks cf x)
    rw [List.length_append, List.length_cons]; omega
theorem blkT_len : ∀ xs, (blkT ids ks cf ins xs).length ≤ (xs.filter isTm).length
  | [] => by simp [blkT]
  | x :: xs => by
    show (selB _ _ ++ blkT ids ks cf ins xs).length ≤ _
    have := blkT_len xs
    rw [List.length_append]
    cases h : isTm x with
    | false => rw [List.filter_cons_of_neg (by rw [h]; decide)]; rw [Bool.and_false, Bool.false_and]; show 0 + _ ≤ _; omega
    | true =>
      rw [List.filter_cons_of_pos h, List.length_cons]
      have := selB_len ((ins && true) && ks.contains (defName x)) (blk1 ids ks cf x)
      omega
theorem blkT_out (xs : List Blo) (h : ins = false) : blkT ids ks cf ins xs = [] := by
  subst h
  induction xs with
  | nil => simp [blkT]
  | cons x xs ih => show selB _ _ ++ blkT ids ks cf false xs = _; rw [ih]; rfl
theorem blkT_mem : ∀ xs, ∀ z ∈ blkT ids ks cf ins xs, ∃ x ∈ xs, z = blk1 ids ks cf x
  | [], z, h => by simp [blkT] at h
  | x :: xs, z, h => by
    have h' : z ∈ selB ((ins && isTm x) && ks.contains (defName x)) (blk1 ids ks cf x) ++ blkT ids ks cf ins xs := h
    rcases List.mem_append.1 h' with h | h
    · cases hb : ((ins && isTm x) && ks.contains (defName x)) with
      | false => rw [hb] at h; simp [selB] at h
      | true => rw [hb] at h; simp [selB] at h; exact ⟨x, List.mem_cons_self .., h⟩
    · obtain ⟨y, hy, e⟩ := blkT_mem xs z h
      exact ⟨y, List.mem_cons_of_mem _ hy, e⟩
theorem blk1_prs (x : Blo) : (blk1 ids ks cf x).prs = x.prs := by cases x; rfl
theorem blk1_name (x : Blo) : defName (blk1 ids ks cf x) = defName x := by unfold defName; rw [blk1_prs]
end
theorem okT1.name {x : Blo} (h : okT1 x) : (defName x).length ≤ 1000 := by cases x; exact h.2.1
def goodB (x : Blo) : Prop := x.prs.length ≤ 1000000 ∧ (defName x).length ≤ 1000
theorem blkT_good {ids : Bs → Bs} {ks : List Bs} {cf : Blo → Blo → Int} {ins : Bool} {xs : List Blo} (h1 : okBL xs) (h2 : okTL xs) : ∀ z ∈ blkT ids ks cf ins xs, goodB z := by
  intro z hz
  obtain ⟨x, hx, rfl⟩ := blkT_mem ids ks cf ins xs z hz
  exact ⟨by rw [blk1_prs]; exact (okBL_at h1 x hx).fit.1.2.2.2.2.2.2.1, by rw [blk1_name]; exact (okTL_at h2 x hx).name⟩
section
variable {α : Type} {R : (Nat → Prop) → World → List Value → α → Prop} {k : Nat} {base B : Nat} {e : TypeId} {w w' : World} {vo vo' vt : Value} {ts : List α}
/-- A row beside one that grew. -/
theorem OutG.two (hR : ReadK R) (h : OutG R k (fun g => B ≤ g ∧ vo.ownBlock ≠ some g) base e w vt ts) (hg : w.grownBy w' vo.ownBlock) (hat : ∀ g', vo'.ownBlock = some g' → vo.ownBlock = some g' ∨ g' = w.heap.size) (hne : ∀ g, vt.ownBlock = some g → vo.ownBlock ≠ some g) :
    OutG R k (fun g => B ≤ g ∧ vo'.ownBlock ≠ some g) base e w' vt ts :=
  (OutG.mono (A' := fun g => B ≤ g ∧ vo'.ownBlock ≠ some g ∧ vo.ownBlock ≠ some g) hR h (fun g hlt q => ⟨q.1, fun q2 => (hat g q2).elim q.2 (fun q3 => by omega), q.2⟩)).only hR (Only.grown hg) (fun g _ q _ q2 => q.2.2 q2.symm) (fun g q q2 => hne g q q2.symm)
    |>.mono hR (fun g _ q => ⟨q.1, q.2.1⟩)
/-- Elements are appended: those of another row. -/
theorem wpList_append_outs {P : Program} (hR : ReadK R) {ops : Array Oper} {rest : List Oper} {o : Oper} {a : Act} {Q : Exit → Act → World → Prop} (hgd : o.guard = none) (s x : Operand) (t : TypeId)
    (ho : o.op = .call { callee := .builtin .append, args := #[s, x], argTypes := #[t, t] })
    (i : TypeInfo) (z : Value) (bytes : Nat) (ht : P.underlying t = some (.slice e)) (hi : P.info? e = some i) (hz : i.zero = some z) (hsize : i.size = k) (hby : i.bytes = bytes) (hzs : z.cells.size = k) (hsz : 0 < k)
    {A : Nat → Prop} {v : Value} {xs ys : List α} (hs : a.eval s = v) (hown : OutG R k A base e w v xs) (g0 m0 cap0 : Nat) (hx : a.eval x = .slice (some ⟨g0, 0, none⟩) m0 cap0) (hys : OutG R k (fun g => A g ∧ v.ownBlock ≠ some g) base e w (.slice (some ⟨g0, 0, none⟩) m0 cap0) ys) (hym : 0 < ys.length)
    (h63 : xs.length + ys.length ≤ maxLen) (hbytes : (xs.length + ys.length) * bytes ≤ 140737488355328) (hbase : base ≤ w.heap.size)
    (h : ∀ v' w', OutG R k A base e w' v' (xs ++ ys) → w.grownBy w' v.ownBlock → wpList P ops Q rest (a.put o.dst v') w') : wpList P ops Q (o :: rest) a w := by
  obtain ⟨css, h1, h2, ho2, h4⟩ := hown
  obtain ⟨css2, k1, k2, ko2, k4⟩ := hys
  have hm : m0 = ys.length := by
    obtain ⟨a', c, hv, _⟩ := own_cap ko2
    exact (Value.slice.inj hv).2.1
  subst hm
  have k4' : ∀ (j : Nat) (cs : List Value) (x : α), css2[j]? = some cs → ys[j]? = some x → R (fun g => A g ∧ v.ownBlock ≠ some g) w cs x := fun j cs x hc hx => hR.sam (k4 j cs x hc hx) (fun _ _ _ => rfl) (fun g _ q => q.1)
  obtain ⟨a', c, hv, _, _, h3⟩ := own_cap ko2
  obtain ⟨e1, _, _⟩ := Value.slice.inj hv
  obtain ⟨g', e2, _, hgg, hcell⟩ := h3 hym
  have : g0 = g' := by rw [e2] at e1; cases e1; rfl
  subst this
  have hone := css_one (S := fun g => A g ∧ v.ownBlock ≠ some g) hR css2 k1 k4'
  refine wpList_append_lies w hgd s x t ho base e i z k bytes ht hi hz hsize hby hzs hsz v xs.length css.flatten hs ho2 ⟨g0, 0, none⟩ ys.length cap0 css2.flatten hx (by rw [flat_len css2 k2, k1]) (fun j u hu => by rw [addr_plus, Nat.zero_add]; exact hcell j u hu) hone hym h63 hbytes hbase _ rfl ?_
  intro g cap w' q1 q2 q3 q4
  exact h _ w' (OutG.app hR h1 h2 h4 k1 k2 k4' (by simpa using q1) q2 q3) q2
end
end Go.Proofs.Ythbnahagfojfbaa

/- filler.blocks. Conditions: lengths; what is asked of blocks. -/
set_option linter.all false
namespace Go.Proofs.Ythbnahagfojfbaa
open Go.RowKit

theorem BloK.kept {N n : Nat} {S : Nat → Prop} {w w' : World} {cs : List Value} {x : Blo} (h : BloK N n S w cs x) (k : Kept w w') : BloK N n S w' cs x := (bloK N n).sam h (Sam.kept k) (fun _ _ q => q)
/-- Two rows that grow side by side: what stays, and the definitions. -/
def RelB (N n B : Nat) (wr : World) (o t : Value) (zs ts : List Blo) : Prop :=
  OutG (BloK N n) 11 (fun g => B ≤ g ∧ t.ownBlock ≠ some g) B 37 wr o zs ∧ OutG (BloK N n) 11 (fun g => B ≤ g ∧ o.ownBlock ≠ some g) B 37 wr t ts ∧ (∀ g, t.ownBlock = some g → o.ownBlock ≠ some g) ∧ (t = .slice none 0 0 ∨ 0 < ts.length)
theorem RelB.kept {N n B : Nat} {wr w' : World} {o t : Value} {zs ts : List Blo} (h : RelB N n B wr o t zs ts) (k : Kept wr w') : RelB N n B w' o t zs ts := ⟨h.1.kept (bloK N n) k, h.2.1.kept (bloK N n) k, h.2.2⟩
theorem own_some (g m c g' : Nat) (h : (Value.slice (some ⟨g, 0, none⟩) m c).ownBlock = some g') : g = g' := by simpa [Value.ownBlock] using h
theorem RelB.pushO {N n B g7 m c7 : Nat} {w6 w7 : World} {o t : Value} {zs ts zs' : List Blo} (h : RelB N n B w6 o t zs ts) (hout : OutG (BloK N n) 11 (fun g => B ≤ g ∧ t.ownBlock ≠ some g) B 37 w7 (.slice (some ⟨g7, 0, none⟩) m c7) zs') (hg : w6.grownBy w7 o.ownBlock) (hat : o.ownBlock = some g7 ∨ g7 = w6.heap.size) :
    RelB N n B w7 (.slice (some ⟨g7, 0, none⟩) m c7) t zs' ts := by
  obtain ⟨h1, h2, h3, h4⟩ := h
  refine ⟨hout, h2.two (bloK N n) hg (fun g' q => by rw [← own_some _ _ _ _ q]; exact hat) h3, fun g q q2 => ?_, h4⟩
  have e := own_some _ _ _ _ q2
  subst e
  rcases hat with hat | hat
  · exact h3 g7 q hat
  · have := (h2.blk g7 q).2; omega
theorem RelB.pushT {N n B g7 m c7 : Nat} {w6 w7 : World} {o t : Value} {zs ts : List Blo} {y : Blo} (h : RelB N n B w6 o t zs ts) (hout : OutG (BloK N n) 11 (fun g => B ≤ g ∧ o.ownBlock ≠ some g) B 37 w7 (.slice (some ⟨g7, 0, none⟩) m c7) (ts ++ [y])) (hg : w6.grownBy w7 t.ownBlock) (hat : t.ownBlock = some g7 ∨ g7 = w6.heap.size) :
    RelB N n B w7 o (.slice (some ⟨g7, 0, none⟩) m c7) zs (ts ++ [y]) := by
  obtain ⟨h1, h2, h3, h4⟩ := h
  refine ⟨h1.two (bloK N n) hg (fun g' q => by rw [← own_some _ _ _ _ q]; exact hat) (fun g q q2 => h3 g q2 q), hout, fun g q q2 => ?_, .inr (by simp)⟩
  have e := own_some _ _ _ _ q
  subst e
  rcases hat with hat | hat
  · exact h3 g7 hat q2
  · have := (h1.blk g7 q2).2; omega
theorem sorts_nil (C : Nat) (w : World) : Calls Try.prog 45 #[.slice none 0 0, .func (.func 20) #[] #[.pointer (some ⟨C, 0, none⟩)]] w fun e w' => e = .returned (.tuple #[]) ∧ Kept w w' := by
  refine (sorts_any 0 0 C 0 (fun _ => True) (fun _ _ => 0) (fun _ => False) (.slice none 0 0) [] w (OutG.nil _ _ _ _ _ _) (fun _ h => by cases h) (by simp) (fun _ _ _ _ _ _ h => h.elim)).mono ?_
  rintro e w' ⟨rfl, -, h3⟩
  exact ⟨rfl, h3.below (Nat.le_refl _) (fun i h => by cases h)⟩
set_option maxRecDepth 100000 in
set_option maxHeartbeats 12800000 in
theorem fblks_any (S : Nat → Prop) (F Mi Mn C : Nat) (vR vO : Value) (c : ColT) (hsc : SmallC c) (esI : List (Bs × Value)) (ks : List Bs) (ids : Bs → Bs) (N : Nat) : ∀ n : Nat, BksC S F Mi Mn C vR vO c esI ks ids N n := by
  intro n
  induction n with
  | zero =>
    intro xs v ins w hv hl hok hot h19 hf
    obtain rfl := hv.no
    obtain ⟨a, c', rfl, hc⟩ := hv.form
    have HFIN : Hid (∀ w', Kept w w' → BksP N 0 (blkL ids ks (cfN c) ins []) w (.returned (.slice none 0 0)) w') := fun w' k => ⟨_, rfl, by
      have : blkL ids ks (cfN c) ins [] = [] := by unfold blkL blkO blkT; rw [srtL_nil]; rfl
      rw [this]; exact Bls.none_ _ _ _ _, k⟩
    have HF := Lib.hid hf
    have y2 : w.cell? ⟨F, 2, none⟩ = some (.func (.func 20) #[] #[.pointer (some ⟨C, 0, none⟩)]) := hf.fil.blk.cell 2 _ rfl
    generalize hP : BksP N 0 (blkL ids ks (cfN c) ins []) w = P at *
    clear hv hok hot h19 hf hP
    go_enter Try.func24, Try.ntmps24
    go_wp2_with fail
    go_loopw [7, 8, 13] (fun o t i wr => o = .slice none 0 0 ∧ t = .slice none 0 0 ∧ i = .int .i64 0 ∧ w = wr) (fun _ _ _ _ => 1)
    case atStart => exact ⟨rfl, rfl, rfl, rfl⟩
    case round =>
      obtain ⟨rfl, rfl, rfl, rfl⟩ := hrel
      go_wp2_with fail
      refine (sorts_nil C w).mono ?_
      rintro e w1 ⟨rfl, hk1⟩
      have HK := Lib.hid hk1
      clear hk1
      go_wp2_with fail
      (try go_ret)
      exact HFIN.out _ HK.out
  | succ n ih =>
    intro xs v ins w hv hl hok hot h19 hf
    have HV := Lib.hid hv
    have HOK := Lib.hid hok
    have HOT := Lib.hid hot
    have HF := Lib.hid hf
    have H19 : Hid ((blkT ids ks (cfN c) ins xs).length ≤ 19) := by
      cases ins with
      | false => rw [blkT_out _ _ _ _ _ rfl]; exact Nat.zero_le _
      | true => exact Nat.le_trans (blkT_len _ _ _ _ _) (h19 rfl)
    have HGD : Hid (∀ z ∈ blkT ids ks (cfN c) ins xs, goodB z) := blkT_good hok hot
    have HLO := Lib.hid (fun k => Nat.le_trans (blkO_len ids ks (cfN c) ins (xs.take k)) (by rw [List.length_take]; exact Nat.min_le_right _ _))
    have HLT := Lib.hid (fun k => Nat.le_trans (Nat.le_trans (blkT_len ids ks (cfN c) ins (xs.take k)) (List.length_filter_le _ _)) (by rw [List.length_take]; exact Nat.min_le_right _ _))
    have HTKO := Lib.hid (fun (k : Nat) (x : Blo) h => blkO_take ids ks (cfN c) ins (xs := xs) (k := k) (x := x) h)
    have HTKT := Lib.hid (fun (k : Nat) (x : Blo) h => blkT_take ids ks (cfN c) ins (xs := xs) (k := k) (x := x) h)
    have HFIN : Hid (∀ v w', OutG (BloK (3 * N + 1) n) 11 (fun g => w.heap.size ≤ g) w.heap.size 37 w' v (blkL ids ks (cfN c) ins xs) → Kept w w' → BksP N (n + 1) (blkL ids ks (cfN c) ins xs) w (.returned v) w') := fun v w' h1 h2 => ⟨v, rfl, OutG.row (S := fun g => w.heap.size ≤ g) (bloK (3 * N + 1) n) h1 (fun g _ h => h) (fun g h => h), h2⟩
    have HIH := Lib.hid ih
    obtain ⟨i0, hi, hz0, hz1, hz2⟩ := info_parts Try.infoBl
    obtain ⟨a, ca, rfl, hc⟩ := hv.form
    have HBL : Hid (blkL ids ks (cfN c) ins xs = blkO ids ks (cfN c) ins (xs.take xs.length) ++ srtL (cfN c) (blkT ids ks (cfN c) ins (xs.take xs.length))) := by rw [List.take_length]; rfl
    generalize hP : BksP N (n + 1) (blkL ids ks (cfN c) ins xs) w = P at *
    clear hP hv hok hot ih hf h19
    go_enter Try.func24, Try.ntmps24
    go_wp2_with fail
    go_loopw [7, 8, 13] (fun o t i wr => ∃ (k : Nat) (vo vt : Value), k ≤ xs.length ∧ vo = o ∧ vt = t ∧ i = .int .i64 k ∧ Hid (RelB (3 * N + 1) n w.heap.size wr vo vt (blkO ids ks (cfN c) ins (xs.take k)) (blkT ids ks (cfN c) ins (xs.take k))) ∧ Hid (Kept w wr)) (fun _ _ i _ => xs.length - (intOf i).toNat)
    case atStart => exact ⟨0, _, _, Nat.zero_le _, rfl, rfl, rfl, ⟨OutG.nil _ _ _ _ _ _, OutG.nil _ _ _ _ _ _, (fun g q => by cases q), .inl rfl⟩, Kept.refl w⟩
    case round =>
      obtain ⟨k, vo, vt, hk, rfl, rfl, rfl, HRB, HKR⟩ := hrel
      have hbr : w.heap.size ≤ wr.heap.size := HKR.out.size
      by_cases hlt : k < xs.length
      · obtain ⟨x, hx⟩ : ∃ x, xs[k]? = some x := ⟨_, List.getElem?_eq_getElem hlt⟩
        have HVR := Lib.hid (HV.out.kept HKR.out)
        have hokx := okBL_at HOK.out x (List.mem_of_getElem? hx)
        have HOK1 := Lib.hid hokx
        have HOT1 := Lib.hid (okTL_at HOT.out x (List.mem_of_getElem? hx))
        have hfit := hokx.fit
        have HTO := Lib.hid (HTKO.out k x hx)
        have HTT := Lib.hid (HTKT.out k x hx)
        have HLEN : Hid ((blkO ids ks (cfN c) ins (xs.take k)).length ≤ 1000000 ∧ (blkT ids ks (cfN c) ins (xs.take k)).length ≤ 1000000) := ⟨Nat.le_trans (HLO.out k) hl, Nat.le_trans (HLT.out k) hl⟩
        obtain ⟨g, o, vC, vP, vL, vK, rfl, hgg, hgS, -, -, ⟨d0, d1, d2, d3, d4, d5, d6, d7, d8, d9, d10⟩, -, ⟨hC, iC⟩, ⟨hPP, iP⟩, hL, hK⟩ := Bls.at_ HVR.out k x hx
        have HBX : Hid (BloK N n S wr (bloC x vC vP vL vK) x) := ⟨_, _, _, _, rfl, ⟨hC, iC⟩, ⟨hPP, iP⟩, hL, hK⟩
        obtain ⟨kind, level, info, text, dest, title, id, cls, prs, line, kids⟩ := x
        simp only [Blo.kind, Blo.level, Blo.info, Blo.text, Blo.dest, Blo.title, Blo.id, Blo.cls, Blo.prs, Blo.line, Blo.kids] at d0 d1 d2 d3 d4 d5 d6 hC hPP hL hK hfit
        obtain ⟨⟨f1, f2, f3, f4, f5, f6, f7, f8, f9⟩, f10, f11⟩ := hfit
        obtain ⟨aC, cC, rfl, lC⟩ := hC.shape
        obtain ⟨aP, cP, rfl, lP⟩ := hPP.shape
        obtain ⟨aL, cL, rfl, lL⟩ := hL.form
        obtain ⟨aK, cK, rfl, lK⟩ := hK.form
        unfold bloC at HBX
        simp only [Blo.kind, Blo.level, Blo.info, Blo.text, Blo.dest, Blo.title, Blo.id] at HBX
        have HPP := Lib.hid hPP
        have HBK : Hid (blk1 ids ks (cfN c) (Blo.mk kind level info text dest title id cls prs line kids) = .mk kind level info text dest title id cls prs (lineL ids false line) (blkL ids ks (cfN c) (isGl (Blo.mk kind level info text dest title id cls prs line kids)) kids)) := rfl
        obtain ⟨GG, HGG⟩ : ∃ t, Hid (isGl (Blo.mk kind level info text dest title id cls prs line kids) = t) := ⟨_, Lib.hid rfl⟩
        rw [HGG.out] at HBK
        rw [HBK.out] at HTO HTT
        have HB0 := Lib.hid (Blk.new wr 37 #[.int .i64 kind, .int .i64 level, .string (bs info), .string (bs text), .string (bs dest), .string (bs title), .string (bs id), .slice aC cls.length cC, .slice aP prs.length cP, .slice aL line.length cL, .slice aK kids.length cK])
        have HKI := Lib.hid (kept_alloc wr (.cells #[.int .i64 kind, .int .i64 level, .string (bs info), .string (bs text), .string (bs dest), .string (bs title), .string (bs id), .slice aC cls.length cC, .slice aP prs.length cP, .slice aL line.length cL, .slice aK kids.length cK] 37))
        have HTMC := Lib.hid (fun w => istm_any kind level info text dest title id (.slice aC cls.length cC) (.slice aP prs.length cP) (.slice aL line.length cL) (.slice aK kids.length cK) w rfl rfl rfl rfl)
        rw [← isTm_mk kind level info text dest title id cls prs line kids] at HTMC
        have HDN := Lib.hid (fun w h => defname_any kind level info text dest title id (.slice aC cls.length cC) (.slice aP prs.length cP) (.slice aL line.length cL) (.slice aK kids.length cK) prs w rfl h (by omega) rfl rfl)
        have HDF : Hid (defName (Blo.mk kind level info text dest title id cls prs line kids) = (getP prs kName).getD []) := rfl
        obtain ⟨nm, HNM⟩ : ∃ nm, Hid ((getP prs kName).getD [] = nm) := ⟨_, rfl⟩
        rw [HNM.out] at HDF HDN
        rw [HDF.out] at HTT
        obtain ⟨I, HI⟩ : ∃ I, Hid (wr.heap.size = I) := ⟨_, rfl⟩
        rw [HI.out] at HB0
        obtain ⟨TT, HTM⟩ : ∃ t, Hid (isTm (Blo.mk kind level info text dest title id cls prs line kids) = t) := ⟨_, Lib.hid rfl⟩
        rw [HTM.out] at HTMC
        obtain ⟨ZZ, HZ⟩ : ∃ t, Hid (ks.contains nm = t) := ⟨_, Lib.hid rfl⟩
        clear hC iC hPP iP hL hK f10 f11 hx HTKO HTKT HV HVR HFIN HOK HOT hokx HGD HBL HLO HLT H19
        cases ins with
        | false =>
          go_wp2_with fail
          generalize wr.alloc _ = w1 at *
          have HKW := Lib.hid HKI.out
          clear d0 d1 d2 d3 d4 d5 d6 d7 d8 d9 d10 HB0 HKI HTMC HDN
          refine (fblk_any S F Mi Mn C vR vO c esI ks ids N n HIH.out _ [.int .i64 kind, .int .i64 level, .string (bs info), .string (bs text), .string (bs dest), .string (bs title), .string (bs id), .slice aC cls.length cC, .slice aP prs.length cP, .slice aL line.length cL, .slice aK kids.length cK] w1 (HBX.out.kept HKW.out) HOK1.out HOT1.out (HF.out.kept (HKR.out.trans HKW.out))).mono ?_
          rintro e w5 ⟨cs5, rfl, hl5, hbk5, hk5⟩
          rw [HBK.out] at hbk5
          have HBK5 := Lib.hid hbk5
          obtain ⟨vC5, vP5, vL5, vK5, rfl, ⟨hC5, -⟩, ⟨hP5, -⟩, hL5, hK5⟩ := hbk5
          unfold bloC at HBK5
          simp only [Blo.kind, Blo.level, Blo.info, Blo.text, Blo.dest, Blo.title, Blo.id] at HBK5
          obtain ⟨aC5, cC5, rfl, lC5⟩ := hC5.shape
          obtain ⟨aP5, cP5, rfl, lP5⟩ := hP5.shape
          obtain ⟨aL5, cL5, rfl, lL5⟩ := hL5.form
          obtain ⟨aK5, cK5, rfl, lK5⟩ := hK5.form
          unfold bloC
          simp only [Blo.kind, Blo.level, Blo.info, Blo.text, Blo.dest, Blo.title, Blo.id]
          have HNW := Lib.hid (Blk.new w5 37 #[.int .i64 kind, .int .i64 level, .string (bs info), .string (bs text), .string (bs dest), .string (bs title), .string (bs id), .slice aC5 cls.length cC5, .slice aP5 prs.length cP5, .slice aL5 (lineL ids false line).length cL5, .slice aK5 (blkL ids ks (cfN c) GG kids).length cK5])
          have HKA := Lib.hid (kept_alloc w5 (.cells #[.int .i64 kind, .int .i64 level, .string (bs info), .string (bs text), .string (bs dest), .string (bs title), .string (bs id), .slice aC5 cls.length cC5, .slice aP5 prs.length cP5, .slice aL5 (lineL ids false line).length cL5, .slice aK5 (blkL ids ks (cfN c) GG kids).length cK5] 37))
          have HK5 := Lib.hid ((HKW.out.trans hk5).trans HKA.out)
          have HR5 := Lib.hid (HRB.out.kept HK5.out)
          have hWz : wr.heap.size ≤ w1.heap.size := HKW.out.size
          have HY5 : Hid (BloK (3 * N + 1) n (fun g => (w.heap.size ≤ g ∧ vt.ownBlock ≠ some g) ∧ vo.ownBlock ≠ some g) (w5.alloc (.cells #[.int .i64 kind, .int .i64 level, .string (bs info), .string (bs text), .string (bs dest), .string (bs title), .string (bs id), .slice aC5 cls.length cC5, .slice aP5 prs.length cP5, .slice aL5 (lineL ids false line).length cL5, .slice aK5 (blkL ids ks (cfN c) GG kids).length cK5] 37)) [.int .i64 kind, .int .i64 level, .string (bs info), .string (bs text), .string (bs dest), .string (bs title), .string (bs id), .slice aC5 cls.length cC5, .slice aP5 prs.length cP5, .slice aL5 (lineL ids false line).length cL5, .slice aK5 (blkL ids ks (cfN c) GG kids).length cK5] (Blo.mk kind level info text dest title id cls prs (lineL ids false line) (blkL ids ks (cfN c) GG kids))) :=
            (bloK (3 * N + 1) n).sam (HBK5.out.kept HKA.out) (fun _ _ _ => rfl) (fun g _ q => ⟨⟨by omega, fun q2 => by have := (HRB.out.2.1.blk g q2).2; omega⟩, fun q2 => by have := (HRB.out.1.blk g q2).2; omega⟩)
          have hbz : w.heap.size ≤ (w5.alloc (.cells #[.int .i64 kind, .int .i64 level, .string (bs info), .string (bs text), .string (bs dest), .string (bs title), .string (bs id), .slice aC5 cls.length cC5, .slice aP5 prs.length cP5, .slice aL5 (lineL ids false line).length cL5, .slice aK5 (blkL ids ks (cfN c) GG kids).length cK5] 37)).heap.size := Nat.le_trans hbr HK5.out.size
          clear hC5 hP5 hL5 hK5 HBK5 hl5 hk5
          obtain ⟨aV, cV, hV, hcV, hmV⟩ := (show OutG _ _ _ _ _ _ _ _ from HR5.out.1).form
          subst hV
          go_wp2_with (refine wpList_append_out (bloK (3 * N + 1) n) rfl (.tmp 25) (.tmp 29) 29 rfl i0 _ 192 Try.underlying29 hi hz0 hz1 hz2 rfl (by omega) (by rfl) HR5.out.1 _ [.int .i64 kind, .int .i64 level, .string (bs info), .string (bs text), .string (bs dest), .string (bs title), .string (bs id), .slice aC5 cls.length cC5, .slice aP5 prs.length cP5, .slice aL5 (lineL ids false line).length cL5, .slice aK5 (blkL ids ks (cfN c) GG kids).length cK5] (Blo.mk kind level info text dest title id cls prs (lineL ids false line) (blkL ids ks (cfN c) GG kids)) (by rfl) (fun j u hu => HNW.out.cell j u (by rw [← Array.getElem?_toList]; exact hu)) rfl HY5.out (by have := HLEN.out; unfold maxLen; omega) (by have := HLEN.out; omega) hbz _ rfl ?_; intro g7 c7' w7 hout7 hgrow7 hat7 hlt7; have HR7 := Lib.hid (HR5.out.pushO hout7 hgrow7 hat7); have HK7 : Hid (Kept w w7) := (HKR.out.trans HK5.out).trans' ((Only.grown hgrow7).below hbz (fun i h => (HR5.out.1.blk i h.symm).1)); clear hgrow7 hat7 hout7)
          have HR8 : Hid (RelB (3 * N + 1) n w.heap.size w7 (.slice (some ⟨g7, 0, none⟩) ((blkO ids ks (cfN c) false (xs.take k)).length + 1) c7') vt (blkO ids ks (cfN c) false (xs.take (k + 1))) (blkT ids ks (cfN c) false (xs.take (k + 1)))) := by
            have h1 := HTO.out
            have h2 := HTT.out
            rw [h1, h2]
            simp only [Bool.false_and, Bool.not_false, selB, List.append_nil]
            exact HR7.out
          clear HR7 HR5 HY5 HNW HKA HK5 hbz HTO HTT HBK HRB HKR HBX HOK1 HOT1 HKW
          go_wp2_with fail
          go_roundw
          case rel => exact ⟨k + 1, _, _, by omega, rfl, rfl, by go_num, HR8.out, HK7.out⟩
          case measure => simp [intOf]; omega
        | true =>
          go_wp2_with fail
          generalize wr.alloc _ = w1 at *
          refine (HTMC.out w1).mono ?_
          rintro e w2 ⟨rfl, hk2⟩
          have HKW := Lib.hid (HKI.out.trans hk2)
          have HB2 := Lib.hid (HB0.out.kept hk2)
          clear d0 d1 d2 d3 d4 d5 d6 d7 d8 d9 d10 HB0 HKI HTMC hk2
          rw [HI.out]
          have zI : I < w2.heap.size := HB2.out.lt
          have n0 : w2.cell? ⟨I, 0, none⟩ = some (.int .i64 kind) := (HB2.out).cell 0 _ rfl
          have n1 : w2.cell? ⟨I, 1, none⟩ = some (.int .i64 level) := (HB2.out).cell 1 _ rfl
          have n2 : w2.cell? ⟨I, 2, none⟩ = some (.string (bs info)) := (HB2.out).cell 2 _ rfl
          have n3 : w2.cell? ⟨I, 3, none⟩ = some (.string (bs text)) := (HB2.out).cell 3 _ rfl
          have n4 : w2.cell? ⟨I, 4, none⟩ = some (.string (bs dest)) := (HB2.out).cell 4 _ rfl
          have n5 : w2.cell? ⟨I, 5, none⟩ = some (.string (bs title)) := (HB2.out).cell 5 _ rfl
          have n6 : w2.cell? ⟨I, 6, none⟩ = some (.string (bs id)) := (HB2.out).cell 6 _ rfl
          have n7 : w2.cell? ⟨I, 7, none⟩ = some (.slice aC cls.length cC) := (HB2.out).cell 7 _ rfl
          have n8 : w2.cell? ⟨I, 8, none⟩ = some (.slice aP prs.length cP) := (HB2.out).cell 8 _ rfl
          have n9 : w2.cell? ⟨I, 9, none⟩ = some (.slice aL line.length cL) := (HB2.out).cell 9 _ rfl
          have n10 : w2.cell? ⟨I, 10, none⟩ = some (.slice aK kids.length cK) := (HB2.out).cell 10 _ rfl
          cases TT with
          | false =>
            clear HDN
            go_wp2_with fail
            clear HB2 zI n0 n1 n2 n3 n4 n5 n6 n7 n8 n9 n10
            refine (fblk_any S F Mi Mn C vR vO c esI ks ids N n HIH.out _ [.int .i64 kind, .int .i64 level, .string (bs info), .string (bs text), .string (bs dest), .string (bs title), .string (bs id), .slice aC cls.length cC, .slice aP prs.length cP, .slice aL line.length cL, .slice aK kids.length cK] w2 (HBX.out.kept HKW.out) HOK1.out HOT1.out (HF.out.kept (HKR.out.trans HKW.out))).mono ?_
            rintro e w5 ⟨cs5, rfl, hl5, hbk5, hk5⟩
            rw [HBK.out] at hbk5
            have HBK5 := Lib.hid hbk5
            obtain ⟨vC5, vP5, vL5, vK5, rfl, ⟨hC5, -⟩, ⟨hP5, -⟩, hL5, hK5⟩ := hbk5
            unfold bloC at HBK5
            simp only [Blo.kind, Blo.level, Blo.info, Blo.text, Blo.dest, Blo.title, Blo.id] at HBK5
            obtain ⟨aC5, cC5, rfl, lC5⟩ := hC5.shape
            obtain ⟨aP5, cP5, rfl, lP5⟩ := hP5.shape
            obtain ⟨aL5, cL5, rfl, lL5⟩ := hL5.form
            obtain ⟨aK5, cK5, rfl, lK5⟩ := hK5.form
            unfold bloC
            simp only [Blo.kind, Blo.level, Blo.info, Blo.text, Blo.dest, Blo.title, Blo.id]
            have HNW := Lib.hid (Blk.new w5 37 #[.int .i64 kind, .int .i64 level, .string (bs info), .string (bs text), .string (bs dest), .string (bs title), .string (bs id), .slice aC5 cls.length cC5, .slice aP5 prs.length cP5, .slice aL5 (lineL ids false line).length cL5, .slice aK5 (blkL ids ks (cfN c) GG kids).length cK5])
            have HKA := Lib.hid (kept_alloc w5 (.cells #[.int .i64 kind, .int .i64 level, .string (bs info), .string (bs text), .string (bs dest), .string (bs title), .string (bs id), .slice aC5 cls.length cC5, .slice aP5 prs.length cP5, .slice aL5 (lineL ids false line).length cL5, .slice aK5 (blkL ids ks (cfN c) GG kids).length cK5] 37))
            have HK5 := Lib.hid ((HKW.out.trans hk5).trans HKA.out)
            have HR5 := Lib.hid (HRB.out.kept HK5.out)
            have hWz : wr.heap.size ≤ w2.heap.size := HKW.out.size
            have HY5 : Hid (BloK (3 * N + 1) n (fun g => (w.heap.size ≤ g ∧ vt.ownBlock ≠ some g) ∧ vo.ownBlock ≠ some g) (w5.alloc (.cells #[.int .i64 kind, .int .i64 level, .string (bs info), .string (bs text), .string (bs dest), .string (bs title), .string (bs id), .slice aC5 cls.length cC5, .slice aP5 prs.length cP5, .slice aL5 (lineL ids false line).length cL5, .slice aK5 (blkL ids ks (cfN c) GG kids).length cK5] 37)) [.int .i64 kind, .int .i64 level, .string (bs info), .string (bs text), .string (bs dest), .string (bs title), .string (bs id), .slice aC5 cls.length cC5, .slice aP5 prs.length cP5, .slice aL5 (lineL ids false line).length cL5, .slice aK5 (blkL ids ks (cfN c) GG kids).length cK5] (Blo.mk kind level info text dest title id cls prs (lineL ids false line) (blkL ids ks (cfN c) GG kids))) :=
              (bloK (3 * N + 1) n).sam (HBK5.out.kept HKA.out) (fun _ _ _ => rfl) (fun g _ q => ⟨⟨by omega, fun q2 => by have := (HRB.out.2.1.blk g q2).2; omega⟩, fun q2 => by have := (HRB.out.1.blk g q2).2; omega⟩)
            have hbz : w.heap.size ≤ (w5.alloc (.cells #[.int .i64 kind, .int .i64 level, .string (bs info), .string (bs text), .string (bs dest), .string (bs title), .string (bs id), .slice aC5 cls.length cC5, .slice aP5 prs.length cP5, .slice aL5 (lineL ids false line).length cL5, .slice aK5 (blkL ids ks (cfN c) GG kids).length cK5] 37)).heap.size := Nat.le_trans hbr HK5.out.size
            clear hC5 hP5 hL5 hK5 HBK5 hl5 hk5
            obtain ⟨aV, cV, hV, hcV, hmV⟩ := (show OutG _ _ _ _ _ _ _ _ from HR5.out.1).form
            subst hV
            go_wp2_with (refine wpList_append_out (bloK (3 * N + 1) n) rfl (.tmp 25) (.tmp 29) 29 rfl i0 _ 192 Try.underlying29 hi hz0 hz1 hz2 rfl (by omega) (by rfl) HR5.out.1 _ [.int .i64 kind, .int .i64 level, .string (bs info), .string (bs text), .string (bs dest), .string (bs title), .string (bs id), .slice aC5 cls.length cC5, .slice aP5 prs.length cP5, .slice aL5 (lineL ids false line).length cL5, .slice aK5 (blkL ids ks (cfN c) GG kids).length cK5] (Blo.mk kind level info text dest title id cls prs (lineL ids false line) (blkL ids ks (cfN c) GG kids)) (by rfl) (fun j u hu => HNW.out.cell j u (by rw [← Array.getElem?_toList]; exact hu)) rfl HY5.out (by have := HLEN.out; unfold maxLen; omega) (by have := HLEN.out; omega) hbz _ rfl ?_; intro g7 c7' w7 hout7 hgrow7 hat7 hlt7; have HR7 := Lib.hid (HR5.out.pushO hout7 hgrow7 hat7); have HK7 : Hid (Kept w w7) := (HKR.out.trans HK5.out).trans' ((Only.grown hgrow7).below hbz (fun i h => (HR5.out.1.blk i h.symm).1)); clear hgrow7 hat7 hout7)
            have HR8 : Hid (RelB (3 * N + 1) n w.heap.size w7 (.slice (some ⟨g7, 0, none⟩) ((blkO ids ks (cfN c) true (xs.take k)).length + 1) c7') vt (blkO ids ks (cfN c) true (xs.take (k + 1))) (blkT ids ks (cfN c) true (xs.take (k + 1)))) := by
              have h1 := HTO.out
              have h2 := HTT.out
              rw [h1, h2]
              rw [HTM.out]; simp only [Bool.and_false, Bool.false_and, Bool.not_false, selB, List.append_nil]
              exact HR7.out
            clear HR7 HR5 HY5 HNW HKA HK5 hbz HTO HTT HBK HRB HKR HBX HOK1 HOT1 HKW
            go_wp2_with fail
            go_roundw
            case rel => exact ⟨k + 1, _, _, by omega, rfl, rfl, by go_num, HR8.out, HK7.out⟩
            case measure => simp [intOf]; omega
          | true =>
            have HF2 := Lib.hid (HF.out.kept (HKR.out.trans HKW.out))
            have y1 : w2.cell? ⟨F, 1, none⟩ = some (.map (some Mn)) := HF2.out.fil.blk.cell 1 _ rfl
            have zF : F < w2.heap.size := HF2.out.fil.blk.lt
            have HCC : Hid (∀ w', Kept w2 w' → (w'.cell? ⟨I, 0, none⟩ = some (.int .i64 kind) ∧ w'.cell? ⟨I, 1, none⟩ = some (.int .i64 level) ∧ w'.cell? ⟨I, 2, none⟩ = some (.string (bs info)) ∧ w'.cell? ⟨I, 3, none⟩ = some (.string (bs text)) ∧ w'.cell? ⟨I, 4, none⟩ = some (.string (bs dest)) ∧ w'.cell? ⟨I, 5, none⟩ = some (.string (bs title)) ∧ w'.cell? ⟨I, 6, none⟩ = some (.string (bs id)) ∧ w'.cell? ⟨I, 7, none⟩ = some (.slice aC cls.length cC) ∧ w'.cell? ⟨I, 8, none⟩ = some (.slice aP prs.length cP) ∧ w'.cell? ⟨I, 9, none⟩ = some (.slice aL line.length cL) ∧ w'.cell? ⟨I, 10, none⟩ = some (.slice aK kids.length cK)) ∧ w'.cell? ⟨F, 1, none⟩ = some (.map (some Mn)) ∧ (I < w'.heap.size ∧ F < w'.heap.size) ∧ Kept w2 w') := fun w' h => ⟨⟨(h.cell (p := ⟨I, 0, none⟩) zI).trans n0, (h.cell (p := ⟨I, 1, none⟩) zI).trans n1, (h.cell (p := ⟨I, 2, none⟩) zI).trans n2, (h.cell (p := ⟨I, 3, none⟩) zI).trans n3, (h.cell (p := ⟨I, 4, none⟩) zI).trans n4, (h.cell (p := ⟨I, 5, none⟩) zI).trans n5, (h.cell (p := ⟨I, 6, none⟩) zI).trans n6, (h.cell (p := ⟨I, 7, none⟩) zI).trans n7, (h.cell (p := ⟨I, 8, none⟩) zI).trans n8, (h.cell (p := ⟨I, 9, none⟩) zI).trans n9, (h.cell (p := ⟨I, 10, none⟩) zI).trans n10⟩, (h.cell (p := ⟨F, 1, none⟩) zF).trans y1, ⟨Nat.lt_of_lt_of_le zI h.size, Nat.lt_of_lt_of_le zF h.size⟩, h⟩
            have hkd : Kept w2 w2.drew := kept_drewN w2 1
            go_wp2_with fail
            go_region_held3 (fun w' => (w'.cell? ⟨I, 0, none⟩ = some (.int .i64 kind) ∧ w'.cell? ⟨I, 1, none⟩ = some (.int .i64 level) ∧ w'.cell? ⟨I, 2, none⟩ = some (.string (bs info)) ∧ w'.cell? ⟨I, 3, none⟩ = some (.string (bs text)) ∧ w'.cell? ⟨I, 4, none⟩ = some (.string (bs dest)) ∧ w'.cell? ⟨I, 5, none⟩ = some (.string (bs title)) ∧ w'.cell? ⟨I, 6, none⟩ = some (.string (bs id)) ∧ w'.cell? ⟨I, 7, none⟩ = some (.slice aC cls.length cC) ∧ w'.cell? ⟨I, 8, none⟩ = some (.slice aP prs.length cP) ∧ w'.cell? ⟨I, 9, none⟩ = some (.slice aL line.length cL) ∧ w'.cell? ⟨I, 10, none⟩ = some (.slice aK kids.length cK)) ∧ w'.cell? ⟨F, 1, none⟩ = some (.map (some Mn)) ∧ (I < w'.heap.size ∧ F < w'.heap.size) ∧ Kept w2 w')
              ((refine HCC.out _ ?_; assumption))
              (first | (go_at_call 22; refine (HDN.out _ (HPP.out.kept (HKW.out.trans (by assumption)))).mono ?_; rintro e w3 ⟨rfl, hk3⟩; have kz : Kept w2 w3 := Kept.trans (by assumption) hk3; have KZ := Lib.hid kz; have lk := lookK w3 Mn ks nm (HF2.out.kept kz).fil.mn; rw [HZ.out] at lk; clear hk3))
            clear HCC lk y1 zF hkd zI n0 n1 n2 n3 n4 n5 n6 n7 n8 n9 n10
            have HKW3 := Lib.hid (HKW.out.trans KZ.out)
            clear HKW
            have HKW := Lib.hid HKW3.out
            have HB3 := Lib.hid (HB2.out.kept KZ.out)
            clear HB2
            cases ZZ with
            | true =>
              have n0 : w3.cell? ⟨I, 0, none⟩ = some (.int .i64 kind) := (HB3.out).cell 0 _ rfl
              have n1 : w3.cell? ⟨I, 1, none⟩ = some (.int .i64 level) := (HB3.out).cell 1 _ rfl
              have n2 : w3.cell? ⟨I, 2, none⟩ = some (.string (bs info)) := (HB3.out).cell 2 _ rfl
              have n3 : w3.cell? ⟨I, 3, none⟩ = some (.string (bs text)) := (HB3.out).cell 3 _ rfl
              have n4 : w3.cell? ⟨I, 4, none⟩ = some (.string (bs dest)) := (HB3.out).cell 4 _ rfl
              have n5 : w3.cell? ⟨I, 5, none⟩ = some (.string (bs title)) := (HB3.out).cell 5 _ rfl
              have n6 : w3.cell? ⟨I, 6, none⟩ = some (.string (bs id)) := (HB3.out).cell 6 _ rfl
              have n7 : w3.cell? ⟨I, 7, none⟩ = some (.slice aC cls.length cC) := (HB3.out).cell 7 _ rfl
              have n8 : w3.cell? ⟨I, 8, none⟩ = some (.slice aP prs.length cP) := (HB3.out).cell 8 _ rfl
              have n9 : w3.cell? ⟨I, 9, none⟩ = some (.slice aL line.length cL) := (HB3.out).cell 9 _ rfl
              have n10 : w3.cell? ⟨I, 10, none⟩ = some (.slice aK kids.length cK) := (HB3.out).cell 10 _ rfl
              go_wp2_with fail
              clear n0 n1 n2 n3 n4 n5 n6 n7 n8 n9 n10
              refine (fblk_any S F Mi Mn C vR vO c esI ks ids N n HIH.out _ [.int .i64 kind, .int .i64 level, .string (bs info), .string (bs text), .string (bs dest), .string (bs title), .string (bs id), .slice aC cls.length cC, .slice aP prs.length cP, .slice aL line.length cL, .slice aK kids.length cK] w3 (HBX.out.kept HKW.out) HOK1.out HOT1.out (HF.out.kept (HKR.out.trans HKW.out))).mono ?_
              rintro e w5 ⟨cs5, rfl, hl5, hbk5, hk5⟩
              rw [HBK.out] at hbk5
              have HBK5 := Lib.hid hbk5
              obtain ⟨vC5, vP5, vL5, vK5, rfl, ⟨hC5, -⟩, ⟨hP5, -⟩, hL5, hK5⟩ := hbk5
              unfold bloC at HBK5
              simp only [Blo.kind, Blo.level, Blo.info, Blo.text, Blo.dest, Blo.title, Blo.id] at HBK5
              obtain ⟨aC5, cC5, rfl, lC5⟩ := hC5.shape
              obtain ⟨aP5, cP5, rfl, lP5⟩ := hP5.shape
              obtain ⟨aL5, cL5, rfl, lL5⟩ := hL5.form
              obtain ⟨aK5, cK5, rfl, lK5⟩ := hK5.form
              unfold bloC
              simp only [Blo.kind, Blo.level, Blo.info, Blo.text, Blo.dest, Blo.title, Blo.id]
              have HNW := Lib.hid (Blk.new w5 37 #[.int .i64 kind, .int .i64 level, .string (bs info), .string (bs text), .string (bs dest), .string (bs title), .string (bs id), .slice aC5 cls.length cC5, .slice aP5 prs.length cP5, .slice aL5 (lineL ids false line).length cL5, .slice aK5 (blkL ids ks (cfN c) GG kids).length cK5])
              have HKA := Lib.hid (kept_alloc w5 (.cells #[.int .i64 kind, .int .i64 level, .string (bs info), .string (bs text), .string (bs dest), .string (bs title), .string (bs id), .slice aC5 cls.length cC5, .slice aP5 prs.length cP5, .slice aL5 (lineL ids false line).length cL5, .slice aK5 (blkL ids ks (cfN c) GG kids).length cK5] 37))
              have HK5 := Lib.hid ((HKW.out.trans hk5).trans HKA.out)
              have HR5 := Lib.hid (HRB.out.kept HK5.out)
              have hWz : wr.heap.size ≤ w3.heap.size := HKW.out.size
              have HY5 : Hid (BloK (3 * N + 1) n (fun g => (w.heap.size ≤ g ∧ vo.ownBlock ≠ some g) ∧ vt.ownBlock ≠ some g) (w5.alloc (.cells #[.int .i64 kind, .int .i64 level, .string (bs info), .string (bs text), .string (bs dest), .string (bs title), .string (bs id), .slice aC5 cls.length cC5, .slice aP5 prs.length cP5, .slice aL5 (lineL ids false line).length cL5, .slice aK5 (blkL ids ks (cfN c) GG kids).length cK5] 37)) [.int .i64 kind, .int .i64 level, .string (bs info), .string (bs text), .string (bs dest), .string (bs title), .string (bs id), .slice aC5 cls.length cC5, .slice aP5 prs.length cP5, .slice aL5 (lineL ids false line).length cL5, .slice aK5 (blkL ids ks (cfN c) GG kids).length cK5] (Blo.mk kind level info text dest title id cls prs (lineL ids false line) (blkL ids ks (cfN c) GG kids))) :=
                (bloK (3 * N + 1) n).sam (HBK5.out.kept HKA.out) (fun _ _ _ => rfl) (fun g _ q => ⟨⟨by omega, fun q2 => by have := (HRB.out.1.blk g q2).2; omega⟩, fun q2 => by have := (HRB.out.2.1.blk g q2).2; omega⟩)
              have hbz : w.heap.size ≤ (w5.alloc (.cells #[.int .i64 kind, .int .i64 level, .string (bs info), .string (bs text), .string (bs dest), .string (bs title), .string (bs id), .slice aC5 cls.length cC5, .slice aP5 prs.length cP5, .slice aL5 (lineL ids false line).length cL5, .slice aK5 (blkL ids ks (cfN c) GG kids).length cK5] 37)).heap.size := Nat.le_trans hbr HK5.out.size
              clear hC5 hP5 hL5 hK5 HBK5 hl5 hk5
              obtain ⟨aV, cV, hV, hcV, hmV⟩ := (show OutG _ _ _ _ _ _ _ _ from HR5.out.2.1).form
              subst hV
              go_wp2_with (refine wpList_append_out (bloK (3 * N + 1) n) rfl (.tmp 39) (.tmp 43) 29 rfl i0 _ 192 Try.underlying29 hi hz0 hz1 hz2 rfl (by omega) (by rfl) HR5.out.2.1 _ [.int .i64 kind, .int .i64 level, .string (bs info), .string (bs text), .string (bs dest), .string (bs title), .string (bs id), .slice aC5 cls.length cC5, .slice aP5 prs.length cP5, .slice aL5 (lineL ids false line).length cL5, .slice aK5 (blkL ids ks (cfN c) GG kids).length cK5] (Blo.mk kind level info text dest title id cls prs (lineL ids false line) (blkL ids ks (cfN c) GG kids)) (by rfl) (fun j u hu => HNW.out.cell j u (by rw [← Array.getElem?_toList]; exact hu)) rfl HY5.out (by have := HLEN.out; unfold maxLen; omega) (by have := HLEN.out; omega) hbz _ rfl ?_; intro g7 c7' w7 hout7 hgrow7 hat7 hlt7; have HR7 := Lib.hid (HR5.out.pushT hout7 hgrow7 hat7); have HK7 : Hid (Kept w w7) := (HKR.out.trans HK5.out).trans' ((Only.grown hgrow7).below hbz (fun i h => (HR5.out.2.1.blk i h.symm).1)); clear hgrow7 hat7 hout7)
              have HR8 : Hid (RelB (3 * N + 1) n w.heap.size w7 vo (.slice (some ⟨g7, 0, none⟩) ((blkT ids ks (cfN c) true (xs.take k)).length + 1) c7') (blkO ids ks (cfN c) true (xs.take (k + 1))) (blkT ids ks (cfN c) true (xs.take (k + 1)))) := by
                have h1 := HTO.out
                have h2 := HTT.out
                rw [h1, h2]
                rw [HTM.out, HZ.out]; simp only [Bool.and_self, Bool.true_and, Bool.not_true, selB, List.append_nil]
                exact HR7.out
              clear HR7 HR5 HY5 HNW HKA HK5 hbz HTO HTT HBK HRB HKR HBX HOK1 HOT1 HKW
              go_wp2_with fail
              go_roundw
              case rel => exact ⟨k + 1, _, _, by omega, rfl, rfl, by go_num, HR8.out, HK7.out⟩
              case measure => simp [intOf]; omega
            | false =>
              have HR8 : Hid (RelB (3 * N + 1) n w.heap.size w3 vo vt (blkO ids ks (cfN c) true (xs.take (k + 1))) (blkT ids ks (cfN c) true (xs.take (k + 1)))) := by
                have h1 := HTO.out
                have h2 := HTT.out
                rw [h1, h2, HTM.out, HZ.out]
                simp only [Bool.and_true, Bool.and_false, Bool.not_true, selB, List.append_nil]
                exact HRB.out.kept HKW.out
              have HK7 := Lib.hid (HKR.out.trans HKW.out)
              clear HRB HKR HKW HTO HTT HBK
              go_wp2_with fail
              go_roundw
              case rel => exact ⟨k + 1, _, _, by omega, rfl, rfl, by go_num, HR8.out, HK7.out⟩
              case measure => simp [intOf]; omega
      · obtain rfl : k = xs.length := by omega
        have HFR := Lib.hid (HF.out.kept HKR.out)
        have y2 : wr.cell? ⟨F, 2, none⟩ = some (.func (.func 20) #[] #[.pointer (some ⟨C, 0, none⟩)]) := HFR.out.fil.blk.cell 2 _ rfl
        have hgd : ∀ z ∈ blkT ids ks (cfN c) ins (xs.take xs.length), goodB z := by rw [List.take_length]; exact HGD.out
        have h19 : (blkT ids ks (cfN c) ins (xs.take xs.length)).length ≤ 19 := by rw [List.take_length]; exact H19.out
        have HSO := Lib.hid (sorts_any (3 * N + 1) n C w.heap.size _ (cfN c) goodB vt _ wr HRB.out.2.1 hgd h19 (fun w' cs ds x y hon gx gy hx hy => by
          have hfw := HF.out.kept (HKR.out.trans' (hon.below hbr (fun i h => (HRB.out.2.1.blk i h).1)))
          exact fill1_any _ (3 * N + 1) n C vR vO c x y cs ds w' hfw.clo hfw.col hsc hx hy gx.1 gy.1 gx.2 gy.2))
        unfold SrsP at HSO
        rw [HBL.out] at HFIN
        generalize hzs : blkO ids ks (cfN c) ins (xs.take xs.length) = zs at *
        have hl1 : zs.length ≤ 1000000 := by rw [← hzs]; exact Nat.le_trans (HLO.out _) hl
        generalize hts : blkT ids ks (cfN c) ins (xs.take xs.length) = ts at *
        have hl2 : (srtL (cfN c) ts).length ≤ 19 := by rw [srtL_len]; exact h19
        have hl3 : 0 < ts.length → 0 < (srtL (cfN c) ts).length := fun h => by rw [srtL_len]; exact h
        have hl4 : ts = [] → srtL (cfN c) ts = [] := fun h => by rw [h]; exact srtL_nil _
        generalize srtL (cfN c) ts = ss at *
        have HL1 := Lib.hid hl1
        have HL2 := Lib.hid hl2
        clear hzs hts hgd h19 HTKO HTKT HIH HV HOK HOT HF HGD HBL HLO HLT H19 hl1 hl2
        go_wp2_with fail
        refine HSO.out.mono ?_
        rintro e w8 ⟨rfl, ht8, hon8⟩
        have ho8 : OutG (BloK (3 * N + 1) n) 11 (fun g => w.heap.size ≤ g) w.heap.size 37 w8 vo zs := (HRB.out.1.only (bloK _ _) hon8 (fun g _ q _ => q.2) (fun g q q2 => HRB.out.2.2.1 g q2 q)).mono (bloK _ _) (fun g _ q => q.1)
        have HO8 := Lib.hid ho8
        have HT8 := Lib.hid ht8
        have HK8 : Hid (Kept w w8) := HKR.out.trans' (hon8.below hbr (fun i h => (HRB.out.2.1.blk i h).1))
        have hcase := HRB.out.2.2.2
        have hb8 : w.heap.size ≤ w8.heap.size := HK8.out.size
        clear HSO HRB HKR ht8 ho8 hon8 HFR y2
        obtain ⟨aV, cV, hV, hcV, hmV⟩ := (show OutG _ _ _ _ _ _ _ _ from HO8.out).form
        subst hV
        rcases hcase with rfl | hpos
        · have e0 : ss = [] := by
            obtain ⟨a', c'', hv', _⟩ := HT8.out.form
            have := (Value.slice.inj hv').2.1
            exact List.length_eq_zero_iff.1 this.symm
          subst e0
          rw [List.append_nil] at HFIN
          have HFF := Lib.hid (HFIN.out _ _ HO8.out HK8.out)
          cases aV with
          | none =>
            go_wp2_with fail
            (try go_ret)
            exact HFF.out
          | some aV =>
            go_wp2_with fail
            go_wp2_with fail
            (try go_ret)
            exact HFF.out
        · have hp2 := hl3 hpos
          obtain ⟨aT, cT, hT, hcT, hmT⟩ := (show OutG _ _ _ _ _ _ _ _ from HT8.out).form
          subst hT
          obtain ⟨gT, csT, eT, -⟩ := HT8.out.at_ 0 ss[0] (List.getElem?_eq_getElem hp2)
          cases eT
          go_wp2_with (refine wpList_append_outs (bloK (3 * N + 1) n) rfl (.tmp 52) (.tmp 53) 29 rfl i0 _ 192 Try.underlying29 hi hz0 hz1 hz2 rfl (by omega) (by rfl) HO8.out gT _ _ (by rfl) HT8.out hp2 (by have := HL1.out; have := HL2.out; unfold maxLen; omega) (by have := HL1.out; have := HL2.out; omega) hb8 ?_; intro v9 w9 ho9 hg9; have HO9 := Lib.hid ho9; have HK9 : Hid (Kept w w9) := HK8.out.trans' ((Only.grown hg9).below hb8 (fun i h => (HO8.out.blk i h.symm).1)); clear ho9 hg9)
          (try go_ret)
          exact HFIN.out _ _ HO9.out HK9.out
end Go.Proofs.Ythbnahagfojfbaa
