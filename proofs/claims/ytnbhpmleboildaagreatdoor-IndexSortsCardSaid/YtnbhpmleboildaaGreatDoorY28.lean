/- index.Marks: a document in which each mark has an identifier. Conditions: lengths. -/
import Derived.Test.YtnbhpmleboildaaGreatDoorY27
import Derived.Test.YtnbhpmleboildaaGreatDoorY14
import Derived.Test.YtnbhpmleboildaaGreatDoorY18
import Derived.Test.YtnbhpmleboildaaGreatDoorY10
import Derived.Test.YtnbhpmleboildaaGreatDoorY20
import Derived.Test.YtnbhpmleboildaaGreatDoorY26
import Derived.Test.YtnbhpmleboildaaGreatDoorY24
import Derived.Deep.RegionLaw

set_option linter.all false
namespace Go.Proofs.YtnbhpmleboildaaGreatDoor
open Go.RowKit Go.Shelf

attribute [local go_sem] Oper.semAt_some

theorem KpC.put {n0 : Nat} {W : World} {l : Nat} {o : Obj} (o' : Obj) (hn : n0 ≤ l) (h : W.heap[l]? = some o) (hc : o.isCells = false) : KpC n0 W (W.putObj l o') :=
  ⟨rfl, rfl, rfl, by simp, fun k hk hs => World.putObj_heap_other (fun e => hs ⟨by omega, fun o2 ho2 => by rw [e, h] at ho2; cases ho2; exact hc⟩)⟩
theorem step_copyF {w : World} {ops : Array Oper} {o : Oper} {a : Act} {K : Act → World → Prop} {Q : Exit → Act → World → Prop} {E : Prop} (hgd : o.guard = none) (x : Operand)
    (ho : o.op = .call { callee := .builtin .append, args := #[.const (.slice none 0 0), x], argTypes := #[22, 22] })
    (v : Value) (xs : List Pr) (hx : a.eval x = v) (hv : Prs w v xs) (hn : xs.length ≤ 1100000)
    (h : ∀ v' w', NewF xs w v' w' → K (a.put o.dst v') w') : if Region.wanted o (yielded ops a.tmps) = true then Oper.wp Tryz.prog o a w K Q else E := by
  obtain ⟨i0, hi, hz0, hz1, hz2⟩ := info_parts Tryz.infoPair
  obtain ⟨ad, c, rfl, hc, h3⟩ := hv
  refine step_append_any w hgd (.const (.slice none 0 0)) x 22 ho w.heap.size 47 i0 _ 2 32 Tryz.underlying22 hi hz0 hz1 hz2 rfl (by decide) (.slice none 0 0) 0 [] rfl (World.ownsRow_nil _ _ _ _) ad xs.length c (pairC xs) hx (pairC_len xs) (fun q => ?_) (pairC_one xs) (by unfold maxLen; omega) (by omega) (Nat.le_refl _) (fun v' w' q1 q2 => h v' w' ?_)
  · obtain ⟨g, o, e, _, hcell⟩ := h3 q
    exact ⟨g, o, e, fun j u hu => pairC_read w g xs o hcell j u hu⟩
  · rw [Nat.zero_add, List.nil_append] at q1
    exact ⟨Prs.own q1, fun _ g hg => (q1.lt g hg).1, Below.grown (Below.refl _ _) q2 (Nat.le_refl _) (fun j hj => by cases hj)⟩
/-- What never panics asks nothing of a panic. -/
theorem wp_calm {P : Program} {c : Code} {K : Act → World → Prop} {Q : Exit → Act → World → Prop} {a : Act} {w : World} (h : c.wp P (Exit.then K (fun _ _ _ => False)) a w) : c.wp P (Exit.then K Q) a w :=
  wp_mono h (fun e a w q => by cases e <;> first | exact q | exact q.elim)
/-- A document whose blocks are marked. -/
def MksP (N n : Nat) (meta_ : List Pr) (xs : List Blo) (w : World) (e : Ending) (w' : World) : Prop :=
  ∃ v1 v2, e = .returned (.agg #[v1, v2]) ∧ (Prs w' v1 meta_ ∧ InB (fun g => w.heap.size ≤ g) v1 meta_.length) ∧ Bls (fun g => w.heap.size ≤ g) N n w' v2 (mbL (usedOf xs) 0 xs).1 ∧ Kept w w'
set_option maxRecDepth 100000 in
set_option maxHeartbeats 12800000 in
theorem marks_any (N n : Nat) (vM v : Value) (meta_ : List Pr) (xs : List Blo) (w : World) (hg : Gnd w) (hT : Lib.TabIs Tryz.prog w "internal/strconv.uint64pow10" .u64 Lib.pow10Tab) (hM : Prs w vM meta_) (hml : meta_.length ≤ 1000000) (hv : Bls (fun g => g < w.heap.size) N n w v xs) (hl : xs.length ≤ 1000000) (hok : okBL xs) (how : okWB xs) (hni : (inlsL xs).length ≤ 1000000) (hnl : (listL xs).length ≤ 1000000) :
    Calls Tryz.prog 15 #[.agg #[vM, v]] w (MksP N n meta_ xs w) := by
  have HM := Lib.hid hM
  have HV := Lib.hid hv
  have HOK := Lib.hid hok
  have HOW := Lib.hid how
  have HG := Lib.hid hg
  have HT := Lib.hid hT
  obtain ⟨aM, cM, rfl, lM⟩ := hM.shape
  obtain ⟨a, c, rfl, hc⟩ := hv.form
  clear hM hv hok how hg hT
  have mk := run_makeMap (P := Tryz.prog) 78 ((w.alloc (.cells #[.slice aM meta_.length cM, .slice a xs.length c] 25)).alloc (.cells #[.slice none 0 0, .slice none 0 0] 25))
  refine (callsIn_wide (n := 5)).1 (callsIn_of_wp_marks Tryz.func15 rfl trivial ?_ rfl)
  rw [wpIn_wide]
  simp only [Tryz.ntmps15, List.size_toArray, List.length_cons, List.length_nil, Nat.reduceAdd, Nat.reduceSub, Array.replicate_succ, Array.replicate_zero, List.push_toArray, List.append_toArray, List.nil_append, List.cons_append]
  go_wp2_with fail
  refine (each_any (.slice a xs.length c) _ rfl).mono ?_
  rintro e w1' ⟨rfl, rfl⟩
  have HD := Lib.hid ((((Blk.new w 25 #[.slice aM meta_.length cM, .slice a xs.length c]).alloc (.cells #[.slice none 0 0, .slice none 0 0] 25)).alloc (.map #[] 0)).alloc (.cells #[.map (some (w.heap.size + 1 + 1))] 78))
  have hr0 := ((Blk.new (w.alloc (.cells #[.slice aM meta_.length cM, .slice a xs.length c] 25)) 25 #[.slice none 0 0, .slice none 0 0]).alloc (.map #[] 0)).alloc (.cells #[.map (some (w.heap.size + 1 + 1))] 78)
  have hm0 := MapK_made ((w.alloc (.cells #[.slice aM meta_.length cM, .slice a xs.length c] 25)).alloc (.cells #[.slice none 0 0, .slice none 0 0] 25))
  have hu0 := Blk.new (((w.alloc (.cells #[.slice aM meta_.length cM, .slice a xs.length c] 25)).alloc (.cells #[.slice none 0 0, .slice none 0 0] 25)).alloc (.map #[] 0)) 78 #[.map (some (w.heap.size + 1 + 1))]
  simp only [World.size_alloc] at hr0 hm0 hu0
  have HRB := Lib.hid hr0
  have HMP := Lib.hid (MapK_kept hm0 (kept_alloc _ (.cells #[.map (some (w.heap.size + 1 + 1))] 78)))
  have HU := Lib.hid hu0
  have HK0 := Lib.hid ((((kept_alloc w (.cells #[.slice aM meta_.length cM, .slice a xs.length c] 25)).trans (kept_alloc _ (.cells #[.slice none 0 0, .slice none 0 0] 25))).trans (kept_alloc _ (.map #[] 0))).trans (kept_alloc _ (.cells #[.map (some (w.heap.size + 1 + 1))] 78)))
  have hsz : ((((w.alloc (.cells #[.slice aM meta_.length cM, .slice a xs.length c] 25)).alloc (.cells #[.slice none 0 0, .slice none 0 0] 25)).alloc (.map #[] 0)).alloc (.cells #[.map (some (w.heap.size + 1 + 1))] 78)).heap.size = w.heap.size + 4 := by simp
  clear hr0 hm0 hu0 mk
  go_wp2_with fail
  generalize World.alloc (World.alloc (World.alloc (World.alloc _ _) _) _) _ = w0 at *
  have HSZ := Lib.hid hsz
  clear hsz
  have HLB := Blk.new w0 23 #[.slice a xs.length c]
  rw [HSZ.out] at HLB
  have hk01 := kept_alloc w0 (.cells #[.slice a xs.length c] 23)
  have HD1 := Lib.hid (HD.out.kept hk01)
  have HR1 := Lib.hid (HRB.out.kept hk01)
  have HM1 := Lib.hid (MapK_kept HMP.out hk01)
  have HU1 := Lib.hid (HU.out.kept hk01)
  have HK1 := Lib.hid (HK0.out.trans hk01)
  have hs1 : (w0.alloc (.cells #[.slice a xs.length c] 23)).heap.size = w.heap.size + 5 := by have := HSZ.out; simp; omega
  have HLB1 := Lib.hid HLB
  clear HLB HD HRB HMP HU HK0 hk01
  generalize w0.alloc (.cells #[.slice a xs.length c] 23) = w1 at *
  have HS1 := Lib.hid hs1
  clear hs1 HSZ
  have HSEQ : SeqStopsK Fence.wide (5 - 1) Tryz.prog 48 #[.pointer (some ⟨w.heap.size + 4, 0, none⟩)] EBlo.enc (KpC w.heap.size) (fun ys => ys.map (fun x : EBlo => x.b) = listL xs) (fun _ => True) (listL xs).length w1 := fun l J Jx W hW hJ _ hY h0 =>
    each1_in l w.heap.size N n (5 - 1) (w.heap.size + 4) J Jx xs _ W hJ (fun pre x W1 hj hlen => hY pre x W1 hj hlen) (HV.out.sam (S' := fun g => g < w.heap.size) (Sam.kept (HK1.out.trans hW)) (fun _ _ q => q)) hl HOK.out (Nat.le_trans HK1.out.size hW.size) (HLB1.out.kept hW) h0
  rw [← wpIn_wide (n := 5)]
  refine wpIn_rangeFunc_ownH (F := Fence.wide) rfl (by omega) (gf := 48) (lb := #[.pointer (some ⟨w.heap.size + 4, 0, none⟩)]) rfl trivial (enters_of Tryz.func48 (by kernel_rfl) rfl) HSEQ (fun h k => h.trans k)
    (fun W l o o' hB hl' hc' _ => KpC.put o' (by have := HS1.out; omega) hl' hc') (Below.refl _ _) (fun x => rfl)
    (fun pre W => MapK W (w.heap.size + 1 + 1) (addsK [] (pre.map (fun x : EBlo => x.b.id))) ∧ Only (fun g => g = w.heap.size + 1 + 1) w1 W) (fun _ _ _ => False)
    (fun s X Y row ⟨hm, ho⟩ hg' hr => ⟨hm.only (Only.grown hg') (fun q => by have h1 := (hr _ q.symm).1; have h2 := HS1.out; omega), ho.step (Only.grown hg') (fun i q => .inl (hr i q.symm).1)⟩)
    (fun _ _ _ _ _ hs _ _ => hs) ⟨HM1.out, Only.of_kept (Kept.refl w1)⟩
    (fun x a' W => ∃ Bx, w1.heap.size ≤ Bx ∧ Blk W Bx 38 (bloC x.b x.vC x.vP x.vL x.vK).toArray ∧ a' = { tmps := #[Value.agg #[Value.slice aM meta_.length cM, Value.slice a xs.length c], Value.pointer (some ⟨w.heap.size, 0, none⟩), Value.pointer (some ⟨w.heap.size + 1, 0, none⟩), Value.pointer (some ⟨w.heap.size + 1 + 1 + 1, 0, none⟩), Value.pointer (some ⟨Bx, 0, none⟩), undef, undef, undef, undef, Value.map (some (w.heap.size + 1 + 1)), Value.pointer (some ⟨w.heap.size, 1, none⟩), Value.slice a xs.length c, Value.func (.func 48) #[] #[Value.pointer (some ⟨w.heap.size + 4, 0, none⟩)], Value.agg (bloC x.b x.vC x.vP x.vL x.vK).toArray, undef, undef, undef, undef, undef, undef, undef, undef, undef, undef, undef, undef, undef, undef, undef, undef, undef, undef, undef, undef, undef, undef, undef, undef, undef, undef], defers := [] })
    (fun x a' _ X Y row ⟨Bx, h1, h2, h3⟩ hg' hr => ⟨Bx, h1, h2.onl (Only.grown hg') (fun q => by
      obtain ⟨_, o, ho, hc'⟩ := hr _ q.symm
      rw [show X.heap[Bx]? = _ from h2] at ho
      cases ho; cases hc'), h3⟩) ?assign ?body ?done ?stop
  case assign =>
    rintro l pre x W K ⟨hm, ho⟩ hK
    obtain ⟨⟨kind, level, info, text, dest, title, id, cls, prs, line, kids⟩, vC, vP, vL, vK, hC1, hP1, hL1, hK1⟩ := x
    obtain ⟨aC, nC, cC, rfl⟩ := hC1
    obtain ⟨aP, nP, cP, rfl⟩ := hP1
    obtain ⟨aL, nL, cL, rfl⟩ := hL1
    obtain ⟨aK, nK, cK, rfl⟩ := hK1
    have hka := kept_alloc W (.cells #[.int .i64 kind, .int .i64 level, .string (bs info), .string (bs text), .string (bs dest), .string (bs title), .string (bs id), Value.slice aC nC cC, .slice aP nP cP, .slice aL nL cL, .slice aK nK cK] 38)
    have HKF := Lib.hid (hK _ _ ((KeepsOthers.alloc W (.cells #[.int .i64 kind, .int .i64 level, .string (bs info), .string (bs text), .string (bs dest), .string (bs title), .string (bs id), Value.slice aC nC cC, .slice aP nP cP, .slice aL nL cL, .slice aK nK cK] 38)).from _) (KpC.of_kept hka) ⟨MapK_kept hm hka, ho.trans (Only.of_kept hka)⟩ ⟨W.heap.size, ho.size, Blk.new W _ _, rfl⟩)
    clear hK hm ho hka HSEQ
    dsimp only [EBlo.enc, bloC, Blo.kind, Blo.level, Blo.info, Blo.text, Blo.dest, Blo.title, Blo.id]
    gi_wp2
    exact HKF.out
  case body =>
    rintro l pre x a' W hl' - ⟨hm, ho⟩ ⟨Bx, hBx, bX, rfl⟩ hlt
    obtain ⟨⟨kind, level, info, text, dest, title, id, cls, prs, line, kids⟩, vC, vP, vL, vK, hC1, hP1, hL1, hK1⟩ := x
    have hs1 := HS1.out
    have hU := HU1.out.onl ho (by omega)
    have u0 : W.cell? ⟨w.heap.size + 1 + 1 + 1, 0, none⟩ = some (.map (some (w.heap.size + 1 + 1))) := hU.cell 0 _ rfl
    have uz := hU.lt
    have x6 : W.cell? ⟨Bx, 6, none⟩ = some (.string (bs id)) := bX.cell 6 _ rfl
    have xz := bX.lt
    have up := updK W (w.heap.size + 1 + 1) _ id hm
    have HOP := Lib.hid (putK_only W (w.heap.size + 1 + 1) (addK (addsK [] (pre.map (fun x : EBlo => x.b.id))) id))
    have HMN := Lib.hid (putK_map W (w.heap.size + 1 + 1) (addK (addsK [] (pre.map (fun x : EBlo => x.b.id))) id) hm.lt)
    have hne : ∀ o, W.heap[w.heap.size + 1 + 1]? = some o → o.isCells = false := fun o ho' => by
      have h1 := hm
      unfold MapK at h1
      rw [h1] at ho'; cases ho'; rfl
    have HF : Hid (KeepsFrom w1.heap.size W (putK W (w.heap.size + 1 + 1) (addK (addsK [] (pre.map (fun x : EBlo => x.b.id))) id)) ∧ KpC w.heap.size W (putK W (w.heap.size + 1 + 1) (addK (addsK [] (pre.map (fun x : EBlo => x.b.id))) id)) ∧ MapK (putK W (w.heap.size + 1 + 1) (addK (addsK [] (pre.map (fun x : EBlo => x.b.id))) id)) (w.heap.size + 1 + 1) (addsK [] ((pre ++ [(⟨.mk kind level info text dest title id cls prs line kids, vC, vP, vL, vK, hC1, hP1, hL1, hK1⟩ : EBlo)]).map (fun x : EBlo => x.b.id))) ∧ Only (fun g => g = w.heap.size + 1 + 1) w1 (putK W (w.heap.size + 1 + 1) (addK (addsK [] (pre.map (fun x : EBlo => x.b.id))) id))) :=
      ⟨⟨HOP.out.size, fun k o hk h1 _ => (HOP.out.block k (Array.getElem?_eq_some_iff.1 h1).1 (by omega)).trans h1⟩, HOP.out.mono (fun i _ q => by subst q; exact ⟨by omega, hne⟩), by rw [List.map_append, List.map_singleton, addsK_snoc]; exact HMN.out, ho.trans HOP.out⟩
    clear HOP HMN hne hU bX hm ho HSEQ hs1
    generalize putK W _ _ = W2 at *
    gi_wp2
    exact HF.out
  case stop =>
    rintro D c' pre W _ _ h _
    exact h.elim
  case done =>
    rintro D ys W hD hS ⟨hm, ho⟩ hK
    have hs1 := HS1.out
    have hkW : Kept w W := HK1.out.trans' (ho.below (show w.heap.size ≤ w1.heap.size by omega) (fun i e => by omega))
    have HKW := Lib.hid hkW
    have HDW := Lib.hid (HD1.out.onl ho (by omega))
    have HRW := Lib.hid (HR1.out.onl ho (by omega))
    have HUW := Lib.hid (HU1.out.onl ho (by omega))
    have HMW : Hid (MapK W (w.heap.size + 1 + 1) (addsK [] ((listL xs).map (·.id)))) := by
      have e : ys.map (fun x : EBlo => x.b.id) = (listL xs).map (·.id) := by rw [← hS, List.map_map]; rfl
      rw [← e]; exact hm
    have HKD := Lib.hid hK
    have hDs : w1.heap.size ≤ D := hD
    have HSW : Hid (w1.heap.size ≤ W.heap.size) := ho.size
    clear hm ho hK hS HD1 HR1 HU1 HM1 HLB1 HSEQ hkW hs1
    dsimp only
    have x0 : W.cell? ⟨w.heap.size, 1, none⟩ = some (.slice a xs.length c) := HDW.out.cell 1 _ rfl
    have xz := HDW.out.lt
    have HIN := Lib.hid (inlines_any n N w.heap.size (.slice a xs.length c) xs W (HKW.out.size) (HV.out.sam (S' := fun g => g < w.heap.size) (Sam.kept HKW.out) (fun _ _ q => q)) hl HOK.out hni)
    unfold InlsP at HIN
    go_wp2_with fail
    refine HIN.out.mono ?_
    rintro e w2 ⟨v2, rfl, hR, hk2⟩
    obtain ⟨a2, c2, rfl, hc2⟩ := hR.form
    have HR2 := Lib.hid hR
    have HK2 := Lib.hid (HKW.out.trans hk2)
    have HD2 := Lib.hid (HDW.out.kept hk2)
    have HRB2 := Lib.hid (HRW.out.kept hk2)
    have HU2 := Lib.hid (HUW.out.kept hk2)
    have HM2 := Lib.hid (MapK_kept HMW.out hk2)
    have hDlt : D < W.heap.size := (Array.getElem?_eq_some_iff.1 HKD.out).1
    have HKD2 : Hid (w2.heap[D]? = some (.deferred (some []))) := (hk2.block D hDlt).trans HKD.out
    have HSW2 : Hid (w1.heap.size ≤ w2.heap.size ∧ W.heap.size ≤ w2.heap.size ∧ D < W.heap.size) := ⟨Nat.le_trans HSW.out hk2.size, hk2.size, hDlt⟩
    clear hR hk2 HKW HDW HRW HUW HMW HKD HIN x0 xz hDlt
    go_wp2_with fail
    obtain ⟨ks0, HKS⟩ : ∃ ks0, Hid (addsK [] ((listL xs).map (·.id)) = ks0) := ⟨_, rfl⟩
    rw [HKS.out] at HM2
    obtain ⟨ds, HDS⟩ : ∃ ds, Hid (inlsL xs = ds) := ⟨_, rfl⟩
    rw [HDS.out] at HR2 hc2 ⊢
    have hdl : ds.length ≤ 1000000 := by rw [← HDS.out]; exact hni
    obtain ⟨ids, HIDS⟩ : ∃ ids, Hid (ds.map (·.id) = ids) := ⟨_, rfl⟩
    go_loopw [22] (fun i wr => ∃ (k : Nat), k ≤ ds.length ∧ i = .int .i64 k ∧ Hid (MapK wr (w.heap.size + 1 + 1) (addsK ks0 (ids.take k))) ∧ Hid (Only (fun g => g = w.heap.size + 1 + 1) w2 wr)) (fun i _ => ds.length - (intOf i).toNat)
    case atStart => exact ⟨0, Nat.zero_le _, rfl, HM2.out, Only.of_kept (Kept.refl w2)⟩
    case round =>
      obtain ⟨k, hk, rfl, HMR, HKR⟩ := hrel
      have hs2 := HSW2.out
      have hs1 := HS1.out
      by_cases hlt : k < ds.length
      · obtain ⟨x, hx⟩ : ∃ x, ds[k]? = some x := ⟨_, List.getElem?_eq_getElem hlt⟩
        have HVR := Lib.hid (HR2.out.step (S' := fun g => g < w.heap.size ∨ W.heap.size ≤ g) HKR.out (fun g _ hs q => by omega) (fun _ _ q => q))
        have htk : ids.take (k + 1) = ids.take k ++ [x.id] := take_snoc (by rw [← HIDS.out, List.getElem?_map, hx]; rfl)
        obtain ⟨xid, hxid⟩ : ∃ xid, x.id = xid := ⟨_, rfl⟩
        have HTK : Hid (addsK ks0 (ids.take (k + 1)) = addK (addsK ks0 (ids.take k)) xid) := by show _ = _; rw [htk, addsK_snoc, hxid]
        clear htk
        obtain ⟨g, o, vC, vP, vA, vT, vK, rfl, hgg, hgS, -, -, ⟨d0, d1, d2, d3, d4, d5, d6, d7, d8, d9⟩, -, ⟨hC, iC⟩, ⟨hPP, iP⟩, ⟨hA, iA⟩, hTT, hK⟩ := Lns.at_ HVR.out k x hx
        obtain ⟨kind, text, dest, title, id, cls, prs, args, cits, kids⟩ := x
        simp only [Inl.kind, Inl.text, Inl.dest, Inl.title, Inl.id, Inl.cls, Inl.prs, Inl.args, Inl.cits, Inl.kids] at d0 d1 d2 d3 d4 hC hPP hA hTT hK hxid
        subst hxid
        obtain ⟨aC, cC, rfl, lC⟩ := hC.shape
        obtain ⟨aP, cP, rfl, lP⟩ := hPP.shape
        obtain ⟨aA, cA, rfl, lA⟩ := hA.shape
        obtain ⟨aT, cT, rfl, lT⟩ := hTT.form
        obtain ⟨aK, cK, rfl, lK⟩ := hK.form
        have hka := kept_alloc wr (.cells #[.int .i64 kind, .string (bs text), .string (bs dest), .string (bs title), .string (bs id), .slice aC cls.length cC, .slice aP prs.length cP, .slice aA args.length cA, .slice aT cits.length cT, .slice aK kids.length cK] 51)
        have hma := MapK_kept HMR.out hka
        have up := updK _ (w.heap.size + 1 + 1) _ id hma
        have hU := (HU2.out.onl HKR.out (by omega)).kept hka
        have u0 : (wr.alloc (.cells #[.int .i64 kind, .string (bs text), .string (bs dest), .string (bs title), .string (bs id), .slice aC cls.length cC, .slice aP prs.length cP, .slice aA args.length cA, .slice aT cits.length cT, .slice aK kids.length cK] 51)).cell? ⟨w.heap.size + 1 + 1 + 1, 0, none⟩ = some (.map (some (w.heap.size + 1 + 1))) := hU.cell 0 _ rfl
        have uz := hU.lt
        have HMN : Hid (MapK (putK (wr.alloc (.cells #[.int .i64 kind, .string (bs text), .string (bs dest), .string (bs title), .string (bs id), .slice aC cls.length cC, .slice aP prs.length cP, .slice aA args.length cA, .slice aT cits.length cT, .slice aK kids.length cK] 51)) (w.heap.size + 1 + 1) (addK (addsK ks0 (ids.take k)) id)) (w.heap.size + 1 + 1) (addsK ks0 (ids.take (k + 1)))) := by rw [HTK.out]; exact putK_map _ _ _ hma.lt
        have HON := Lib.hid ((HKR.out.trans (Only.of_kept hka)).trans (putK_only (wr.alloc (.cells #[.int .i64 kind, .string (bs text), .string (bs dest), .string (bs title), .string (bs id), .slice aC cls.length cC, .slice aP prs.length cP, .slice aA args.length cA, .slice aT cits.length cT, .slice aK kids.length cK] 51)) (w.heap.size + 1 + 1) (addK (addsK ks0 (ids.take k)) id)))
        clear hC iC hPP iP hA iA hTT hK hx HVR hka hma hU HTK HMR HKR hs2 hs1
        go_wp2_with fail
        go_roundw
        case rel => exact ⟨k + 1, by omega, by go_num, HMN.out, HON.out⟩
        case measure => simp [intOf]; omega
      · obtain rfl : k = ds.length := by omega
        have HUS : Hid (addsK ks0 (ids.take ds.length) = usedOf xs) := by
          show _ = _
          have e : ids.take ds.length = ids := by rw [← HIDS.out]; exact List.take_of_length_le (by simp)
          rw [e, ← HIDS.out, ← HDS.out, ← HKS.out]; rfl
        rw [HUS.out] at HMR
        have hkr : Kept w wr := HK2.out.trans' (HKR.out.below (show w.heap.size ≤ w2.heap.size by omega) (fun i e => by omega))
        have hka := kept_alloc wr (.cells #[.int .i64 0] 3)
        have HKA := Lib.hid (hkr.trans hka)
        have HDA := Lib.hid ((HD2.out.onl HKR.out (by omega)).kept hka)
        have HRA := Lib.hid ((HRB2.out.onl HKR.out (by omega)).kept hka)
        have HUA := Lib.hid ((HU2.out.onl HKR.out (by omega)).kept hka)
        have HMA := Lib.hid (MapK_kept HMR.out hka)
        have hDr : D < wr.heap.size := Nat.lt_of_lt_of_le (Nat.lt_of_lt_of_le hs2.2.2 hs2.2.1) HKR.out.size
        have hKDr : wr.heap[D]? = some (.deferred (some [])) := (HKR.out.block D (by omega) (by omega)).trans HKD2.out
        have HKDA : Hid ((wr.alloc (.cells #[.int .i64 0] 3)).heap[D]? = some (.deferred (some []))) := (hka.block D hDr).trans hKDr
        have HLA := Lib.hid (Blk.new wr 3 #[.int .i64 0])
        have HLs : Hid (w1.heap.size ≤ wr.heap.size ∧ D < wr.heap.size) := ⟨Nat.le_trans hs2.1 HKR.out.size, hDr⟩
        clear hkr hka hDr hKDr HMR HKR HK2 HD2 HRB2 HU2 HM2 HKD2 HR2 HUS hs2 hs1
        go_wp2_with fail
        obtain ⟨L, HL⟩ : ∃ L, Hid (wr.heap.size = L) := ⟨_, rfl⟩
        rw [HL.out] at HLA HLs ⊢
        have HNX : Hid (∀ w', Kept (wr.alloc (.cells #[.int .i64 0] 3)) w' → NextS w L (w.heap.size + 1 + 1) (w.heap.size + 1 + 1 + 1) (usedOf xs) 0 w') := fun w' h =>
          NextS.keptW (w := wr.alloc (.cells #[.int .i64 0] 3)) ⟨HKA.out, HT.out, by have h1 := HLs.out; have h2 := HS1.out; omega, by omega, by omega, HLA.out, HUA.out, HMA.out⟩ h
        have HMB : Hid (∀ w', Kept (wr.alloc (.cells #[.int .i64 0] 3)) w' → Calls Tryz.prog 31 #[.slice a xs.length c, nxV L (w.heap.size + 1 + 1 + 1)] w' (MbP w L (w.heap.size + 1 + 1) (w.heap.size + 1 + 1 + 1) (usedOf xs) N n (mbL (usedOf xs) 0 xs) w')) := fun w' h =>
          mkblks_any w HG.out (fun g => g < w.heap.size) L (w.heap.size + 1 + 1) (w.heap.size + 1 + 1 + 1) (fun g hg q => by have h1 := HLs.out; have h2 := HS1.out; omega) (usedOf xs) N n xs _ 0 w' (HV.out.sam (S' := fun g => g < w.heap.size) (Sam.kept (HKA.out.trans h)) (fun _ _ q => q)) hl HOK.out HOW.out (HNX.out w' h) (by
            have h1 := usedOf_len xs
            have h2 := Nat.mul_le_mul hni (show (usedOf xs).length + 1 ≤ 2000001 by omega)
            omega)
        unfold MbP at HMB
        generalize wr.alloc (.cells #[.int .i64 0] 3) = wa at *
        have q0 : wa.drew.cell? ⟨w.heap.size, 0, none⟩ = some (.slice aM meta_.length cM) := HDA.out.cell 0 _ rfl
        have q1 : wa.drew.cell? ⟨w.heap.size, 1, none⟩ = some (.slice a xs.length c) := HDA.out.cell 1 _ rfl
        have qz : w.heap.size < wa.drew.heap.size := HDA.out.lt
        have HKDr := kept_drewN wa 1
        refine wp_calm ?_
        go_region_law (first
          | (refine step_copyF rfl (.tmp 33) (by rfl) (.slice aM meta_.length cM) meta_ (by simp [Act.eval, Act.put]) (HM.out.kept (HKA.out.trans HKDr)) (by omega) ?_; intro vM1 w3 hn3; obtain ⟨aM1, cM1, rfl, lM1⟩ := hn3.1.shape; have HN3 := Lib.hid hn3; have HK3 := Lib.hid (HKDr.trans hn3.2.2); have q13 : w3.cell? ⟨w.heap.size, 1, none⟩ = some (.slice a xs.length c) := (HDA.out.kept HK3.out).cell 1 _ rfl; have qz3 : w.heap.size < w3.heap.size := (HDA.out.kept HK3.out).lt; clear hn3)
          | (go_simp; go_at_call 31; refine (HMB.out w3 HK3.out).mono ?_; rintro e w4 ⟨vB1, rfl, hb4, hn4, ho4⟩; obtain ⟨aB1, cB1, rfl, lB1⟩ := hb4.form; have HBB := Lib.hid hb4; have HO4 := Lib.hid ho4; have HR4 := Lib.hid ((HRA.out.kept HK3.out).onl ho4 (by have h1 := HLs.out; have h2 := HS1.out; omega)); have r40 : w4.cell? ⟨w.heap.size + 1, 0, none⟩ = some (.slice none 0 0) := HR4.out.cell 0 _ rfl; have r41 : w4.cell? ⟨w.heap.size + 1, 1, none⟩ = some (.slice none 0 0) := HR4.out.cell 1 _ rfl; have rf0 := HR4.out.free 0; have rf1 := HR4.out.free 1; have rzz := HR4.out.lt; clear hb4 hn4 ho4))
        all_goals
          have hZ : Blk ((w4.setCell ⟨w.heap.size + 1, 0, none⟩ (.slice aM1 meta_.length cM1)).setCell ⟨w.heap.size + 1, 1, none⟩ (.slice aB1 (mbL (usedOf xs) 0 xs).1.length cB1)) (w.heap.size + 1) 25 #[.slice aM1 meta_.length cM1, .slice aB1 (mbL (usedOf xs) 0 xs).1.length cB1] := (HR4.out.set 0 _).set 1 _
          have hoZ : Only (fun i => i = w.heap.size + 1) w4 ((w4.setCell ⟨w.heap.size + 1, 0, none⟩ (.slice aM1 meta_.length cM1)).setCell ⟨w.heap.size + 1, 1, none⟩ (.slice aB1 (mbL (usedOf xs) 0 xs).1.length cB1)) := (Only.setCell _ 0 _).trans (Only.setCell _ 1 _)
          have hZZ := Lib.hid hZ
          have HOZ := Lib.hid hoZ
          clear hZ hoZ
          generalize (w4.setCell ⟨w.heap.size + 1, 0, none⟩ (.slice aM1 meta_.length cM1)).setCell ⟨w.heap.size + 1, 1, none⟩ (.slice aB1 (mbL (usedOf xs) 0 xs).1.length cB1) = w9 at *
          have hls := HLs.out
          have hs1 := HS1.out
          have hwa : wr.heap.size + 1 ≤ wa.heap.size := by
            have := HLA.out.lt
            have := HL.out
            omega
          have hw3 := HK3.out.size
          have hka := HKA.out.size
          have hLa := HLA.out.lt
          have hLR : L ≠ w.heap.size + 1 := by omega
          have hk9 : Kept w w9 := (HKA.out.trans HK3.out).trans' (((HO4.out.mono (S' := fun g => g = L ∨ g = w.heap.size + 1) (fun _ _ q => .inl q)).trans (HOZ.out.mono (S' := fun g => g = L ∨ g = w.heap.size + 1) (fun _ _ q => .inr q))).below (show w.heap.size ≤ w3.heap.size by omega) (fun i e => by omega))
          have hD3 : w3.heap[D]? = some (.deferred (some [])) := (HK3.out.block D (by omega)).trans HKDA.out
          have hD9 : w9.heap[D]? = some (.deferred (some [])) := (HOZ.out.block D (by have := HO4.out.size; omega) (by omega)).trans ((HO4.out.block D (by omega) (by omega)).trans hD3)
          have hoD : Only (fun i => i = D) w9 (w9.putObj D (.deferred none)) := ⟨rfl, rfl, rfl, by simp, fun k _ hk => World.putObj_heap_other hk⟩
          have hwd : wa.drew.heap.size = wa.heap.size := rfl
          have hIB : ∀ g, wa.drew.heap.size ≤ g → g ≠ L ∧ g ≠ w.heap.size + 1 ∧ g ≠ D := fun g q => by omega
          have hP9 : Prs (w9.putObj D (.deferred none)) (.slice aM1 meta_.length cM1) meta_ := ((HN3.out.1.onlS HN3.out.2.1 HO4.out (fun g _ hs q => (hIB g hs).1 q)).onlS HN3.out.2.1 HOZ.out (fun g _ hs q => (hIB g hs).2.1 q)).onlS HN3.out.2.1 hoD (fun g _ hs q => (hIB g hs).2.2 q)
          have hB9 : Bls (fun g => w3.heap.size ≤ g) N n (w9.putObj D (.deferred none)) (.slice aB1 (mbL (usedOf xs) 0 xs).1.length cB1) (mbL (usedOf xs) 0 xs).1 := (HBB.out.sam (S' := fun g => w3.heap.size ≤ g) (Sam.only HOZ.out (fun g _ hs q => by omega)) (fun _ _ q => q)).sam (S' := fun g => w3.heap.size ≤ g) (Sam.only hoD (fun g _ hs q => by omega)) (fun _ _ q => q)
          have HFIN : MksP N n meta_ xs w (.returned (.agg #[.slice aM1 meta_.length cM1, .slice aB1 (mbL (usedOf xs) 0 xs).1.length cB1])) (w9.putObj D (.deferred none)) :=
            ⟨_, _, rfl, ⟨hP9, HN3.out.2.1.mono (fun g _ _ q => by omega)⟩, hB9.sam (fun _ _ _ => rfl) (fun g _ q => by omega), hk9.trans' (hoD.below (show w.heap.size ≤ w9.heap.size from hk9.size) (fun i e => by omega))⟩
          have hZD := hZZ.out.onl hoD (by omega)
          have r0 : (w9.putObj D (.deferred none)).cell? ⟨w.heap.size + 1, 0, none⟩ = some (.slice aM1 meta_.length cM1) := hZD.cell 0 _ rfl
          have r1 : (w9.putObj D (.deferred none)).cell? ⟨w.heap.size + 1, 1, none⟩ = some (.slice aB1 (mbL (usedOf xs) 0 xs).1.length cB1) := hZD.cell 1 _ rfl
          have rz := hZD.lt
          have HFF := Lib.hid HFIN
          have HD9 := Lib.hid hD9
          clear HFIN hD9 hZD hB9 hP9 hIB hwd hoD hD3 hk9 hLR hka hLa hw3 hwa hs1 hls r40 r41 rf0 rf1 rzz q0 q1 qz q13 qz3
          go_wp2_with fail
          refine ⟨by simp, .inl ⟨_, _, rfl, run_takeDeferred HD9.out, ?_⟩⟩
          refine ⟨.agg #[.slice aM1 meta_.length cM1, .slice aB1 (mbL (usedOf xs) 0 xs).1.length cB1], ?_, HFF.out⟩
          simp [results, Tryz.results15, go_sem, r0, r1, rz]
end Go.Proofs.YtnbhpmleboildaaGreatDoor

/- index.Fill: what it gives. Conditions: lengths. -/
set_option linter.all false
namespace Go.Proofs.YtnbhpmleboildaaGreatDoor
open Go.RowKit

set_option maxRecDepth 100000 in
set_option maxHeartbeats 3200000 in
theorem by_any {S : Nat → Prop} (E : Nat) (es : List Ent) (vE : Value) (w : World) (ht : Lib.TabIs Tryz.prog w "internal/strconv.uint64pow10" .u64 Lib.pow10Tab) (hb : Blk w E 41 #[vE]) (hv : RowR S 5 (EntK S w) w vE es) (hok : okE es) (hl : es.length ≤ 1000000) :
    Calls Tryz.prog 17 #[.pointer (some ⟨E, 0, none⟩)] w (ListP es w) := by
  have HL := Lib.hid (list_any es vE w ht hv hok hl)
  obtain ⟨a, c, rfl, hc⟩ := hv.form
  have x0 := hb.cell 0 _ rfl
  have xz := hb.lt
  unfold ListP at HL
  have HFIN : Hid (∀ v ys w', Bls (fun g => w.heap.size ≤ g) 2 5 w' v ys → listB es ys → Kept w w' → ListP es w (.returned v) w') := fun v ys w' h1 h2 h3 => ⟨v, ys, rfl, h1, h2, h3⟩
  generalize hP : ListP es w = P at *
  clear hP ht hb hv hok
  go_enter Tryz.func17, Tryz.ntmps17
  go_wp2_with fail
  refine HL.out.mono ?_
  rintro e w1 ⟨v, ys, rfl, h1, h2, h3⟩
  have HF := Lib.hid (HFIN.out v ys w1 h1 h2 h3)
  clear h1 h2 h3 HFIN HL
  go_wp2_with fail
  (try go_ret)
  exact HF.out
theorem Tryz.sizeDo5 : (Tryz.prog.info? 25).map (fun x => x.size) = some 2 := by kernel_rfl
/-- The marked blocks, and the entries of their index. -/
abbrev mkdL (xs : List Blo) : List Blo := (mbL (usedOf xs) 0 xs).1
abbrev entsD (c : ColT) (xs : List Blo) : List Ent := entsIx c (ofAll (inlsL (mkdL xs)))
def FilP (c : ColT) (N n : Nat) (meta_ : List Pr) (xs : List Blo) (w : World) (e : Ending) (w' : World) : Prop :=
  ∃ v1 v2 ys, e = .returned (.agg #[v1, v2]) ∧ Prs w' v1 meta_ ∧ Bls (fun g => w.heap.size ≤ g) N (n + 5) w' v2 ys ∧ noIx ys ∧ Sig ys (sigL (entsD c xs) (mkdL xs)) ∧ (listL ys).length ≤ (listL (mkdL xs)).length * (3 * (entsD c xs).length + 2) ∧ Kept w w'
set_option maxRecDepth 100000 in
set_option maxHeartbeats 12800000 in
theorem ifill_any (N n : Nat) (hN : 2 ≤ N) (vM v vR vO : Value) (meta_ : List Pr) (c : ColT) (xs : List Blo) (w : World) (hg : Gnd w) (hT : Lib.TabIs Tryz.prog w "internal/strconv.uint64pow10" .u64 Lib.pow10Tab) (hM : Prs w vM meta_) (hml : meta_.length ≤ 1000000) (hv : Bls (fun g => g < w.heap.size) N n w v xs) (hc : Col w vR vO c) (hs : SmallC c)
    (hl : xs.length ≤ 1000000) (hok : okBL xs) (how : okWB xs) (hni : (inlsL xs).length ≤ 500) (hnl : (listL xs).length ≤ 1000000)
    (ml : (mkdL xs).length ≤ 1000000) (mok : okBL (mkdL xs)) (mow : okWB (mkdL xs)) (msh : okS (inlsL (mkdL xs))) (mni : (inlsL (mkdL xs)).length ≤ 500) (hoe : okE (entsD c xs)) (hel : (entsD c xs).length ≤ 1000000) :
    Calls Tryz.prog 8 #[.agg #[vM, v], colV vR vO c.ignore] w (FilP c N n meta_ xs w) := by
  have HG := Lib.hid hg
  have HTB := Lib.hid hT
  have HC := Lib.hid hc
  have HOE := Lib.hid hoe
  have HM := Lib.hid hM
  have HV := Lib.hid hv
  obtain ⟨aM, cM, rfl, lM⟩ := hM.shape
  obtain ⟨a, c0, rfl, l0⟩ := hv.form
  obtain ⟨aR, cR, rfl, lR⟩ := hc.1.form
  obtain ⟨aO, cO, rfl, lO⟩ := hc.2.form
  have HMK := Lib.hid (fun w' (h1 : Gnd w') h2 h3 h4 => marks_any N n (.slice aM meta_.length cM) (.slice a xs.length c0) meta_ xs w' h1 h2 h3 hml h4 hl hok how (by omega) hnl)
  unfold MksP at HMK
  have HOF := Lib.hid (fun (aM' : Option Addr) nM cM' v' w' (h1 : Gnd w') h2 h3 => of_any N n aM' nM cM' v' (.slice aR c.ranks.length cR) (.slice aO c.order.length cO) c (mkdL xs) w' h1 h2 h3 hs ml mok mow msh mni)
  unfold OfPo at HOF
  have HFI := Lib.hid (fun W0 S h1 E h2 v' w' h3 h4 => filled_any W0 S h1 E (entsD c xs) h2 N hN n (mkdL xs) v' w' h3 ml mok h4)
  unfold FiP at HFI
  have HBY := Lib.hid (fun (S : Nat → Prop) E vE w' h1 h2 h3 => by_any (S := S) E (entsD c xs) vE w' h1 h2 h3 hoe hel)
  have HFIN : Hid (∀ v1 v2 ys w', Prs w' v1 meta_ → Bls (fun g => w.heap.size ≤ g) N (n + 5) w' v2 ys → noIx ys → Sig ys (sigL (entsD c xs) (mkdL xs)) → (listL ys).length ≤ (listL (mkdL xs)).length * (3 * (entsD c xs).length + 2) → Kept w w' → FilP c N n meta_ xs w (.returned (.agg #[v1, v2])) w') := fun v1 v2 ys w' h1 h2 h3 h4 h6 h5 => ⟨v1, v2, ys, rfl, h1, h2, h3, h4, h6, h5⟩
  have HB0 := ((Blk.new w 25 #[.slice aM meta_.length cM, .slice a xs.length c0]).alloc (.cells #[.slice aR c.ranks.length cR, .slice aO c.order.length cO, .string (bs c.ignore)] 28)).alloc (.cells #[.slice none 0 0, .slice none 0 0] 25)
  have HC0 := (Blk.new (w.alloc (.cells #[.slice aM meta_.length cM, .slice a xs.length c0] 25)) 28 #[.slice aR c.ranks.length cR, .slice aO c.order.length cO, .string (bs c.ignore)]).alloc (.cells #[.slice none 0 0, .slice none 0 0] 25)
  have HR0 := Blk.new ((w.alloc (.cells #[.slice aM meta_.length cM, .slice a xs.length c0] 25)).alloc (.cells #[.slice aR c.ranks.length cR, .slice aO c.order.length cO, .string (bs c.ignore)] 28)) 25 #[.slice none 0 0, .slice none 0 0]
  have HK0 := Lib.hid (((kept_alloc w (.cells #[.slice aM meta_.length cM, .slice a xs.length c0] 25)).trans (kept_alloc _ (.cells #[.slice aR c.ranks.length cR, .slice aO c.order.length cO, .string (bs c.ignore)] 28))).trans (kept_alloc _ (.cells #[.slice none 0 0, .slice none 0 0] 25)))
  obtain ⟨B, HBB⟩ : ∃ B, Hid (w.heap.size = B) := ⟨_, rfl⟩
  simp only [World.size_alloc, HBB.out] at HB0 HC0 HR0
  have HB1 := Lib.hid HB0
  have HC1 := Lib.hid HC0
  have HR1 := Lib.hid HR0
  have hwB : w.heap.size ≤ B := by rw [HBB.out]; exact Nat.le_refl _
  clear HB0 HC0 HR0 hM hv hc hs hok how mok mow msh hoe hT hg
  generalize hP : FilP c N n meta_ xs w = P at *
  clear hP
  go_enter Tryz.func8, Tryz.ntmps8
  go_wp2_with fail
  rw [HBB.out]
  generalize (World.alloc (World.alloc (World.alloc w _) _) _) = w0 at *
  have hB3 : B + 1 + 1 < w0.heap.size := HR1.out.lt
  refine (HMK.out w0 (HG.out.kept HK0.out) (tab_kept HTB.out HK0.out) (HM.out.kept HK0.out) (HV.out.sam (S' := fun g => g < w0.heap.size) (Sam.kept HK0.out) (fun g q _ => Nat.lt_of_lt_of_le q HK0.out.size))).mono ?_
  rintro e w1 ⟨v1, v2, rfl, ⟨hp1, hi1⟩, hb1, hk1⟩
  obtain ⟨aM1, cM1, rfl, lM1⟩ := hp1.shape
  obtain ⟨aB1, cB1, rfl, lB1⟩ := hb1.form
  have HP1 := Lib.hid hp1
  have HI1 := Lib.hid hi1
  have HBL1 := Lib.hid hb1
  have HBd1 := Lib.hid (HB1.out.kept hk1)
  have HCd1 := Lib.hid (HC1.out.kept hk1)
  have HRd1 := Lib.hid (HR1.out.kept hk1)
  have HK1 := Lib.hid (HK0.out.trans hk1)
  have hz1 := hk1.size
  clear hp1 hi1 hb1 hk1 HB1 HC1 HR1 HMK HV HM
  go_wp2_with (refine wpList_store_blk rfl 25 (.tmp 2) (.tmp 7) (by rfl) B _ #[.slice aM1 meta_.length cM1, .slice aB1 (mbL (usedOf xs) 0 xs).1.length cB1] (by rfl) (by rfl) HBd1.out rfl Tryz.sizeDo5 (by simp only [List.all_toArray, List.all_cons, List.all_nil]; rfl) ?_; intro w2 hb2 ho2; refine holdQ ?_)
  refine Lib.hid ?_
  have HBd2 := Lib.hid hb2
  have HCd2 := Lib.hid (HCd1.out.onl ho2 (by omega))
  have HRd2 := Lib.hid (HRd1.out.onl ho2 (by omega))
  have HP2 := Lib.hid (HP1.out.onlS HI1.out ho2 (fun g _ hs q => by omega))
  have HBL2 := Lib.hid (HBL1.out.sam (S' := fun g => w0.heap.size ≤ g) (Sam.only ho2 (fun g _ hs q => by omega)) (fun _ _ q => q))
  have HK2 := Lib.hid (HK1.out.trans' (ho2.below HK1.out.size (fun i e => by rw [e]; exact hwB)))
  have hz2 : w0.heap.size ≤ w2.heap.size := Nat.le_trans hz1 ho2.size
  have b0 := hb2.cell 0 _ rfl
  have b1 := hb2.cell 1 _ rfl
  have bz := hb2.lt
  have c0' := HCd2.out.cell 0 _ rfl
  have c1' := HCd2.out.cell 1 _ rfl
  have c2' := HCd2.out.cell 2 _ rfl
  have cz := HCd2.out.lt
  clear hb2 ho2 HBd1 HCd1 HRd1 HP1 HBL1 HK1
  have HOX := Lib.hid (HOF.out aM1 meta_.length cM1 (.slice aB1 (mbL (usedOf xs) 0 xs).1.length cB1) w2 (HG.out.kept HK2.out) (HBL2.out.sam (S' := fun g => g < w2.heap.size) (fun _ _ _ => rfl) (fun g q _ => q)) (HC.out.kept HK2.out))
  go_wp2_with fail
  refine HOX.out.mono ?_
  rintro e w3 ⟨vE, rfl, hE3, hk3⟩
  obtain ⟨aE, cE, rfl, lE⟩ := hE3.form
  have hka := kept_alloc w3 (.cells #[.slice aE (entsD c xs).length cE] 41)
  have HE4 := Lib.hid (Blk.new w3 41 #[.slice aE (entsD c xs).length cE])
  have HEN := Lib.hid (hE3.kept5 hka)
  have HBd4 := Lib.hid ((HBd2.out.kept hk3).kept hka)
  have HRd4 := Lib.hid ((HRd2.out.kept hk3).kept hka)
  have HP4 := Lib.hid ((HP2.out.kept hk3).kept hka)
  have HBL4 := Lib.hid ((HBL2.out.kept hk3).kept hka)
  have HK4 := Lib.hid ((HK2.out.trans hk3).trans hka)
  have hz4 : w0.heap.size ≤ (w3.alloc (.cells #[.slice aE (entsD c xs).length cE] 41)).heap.size := Nat.le_trans hz2 (hk3.trans hka).size
  have e1 : (w3.alloc (.cells #[.slice aE (entsD c xs).length cE] 41)).cell? ⟨B, 1, none⟩ = some (.slice aB1 (mbL (usedOf xs) 0 xs).1.length cB1) := HBd4.out.cell 1 _ rfl
  have ez := HBd4.out.lt
  clear hka hk3 hE3 HBd2 HRd2 HCd2 HP2 HBL2 HK2 b0 b1 bz c0' c1' c2' cz HOX HOF
  obtain ⟨E, HEE⟩ : ∃ E, Hid (w3.heap.size = E) := ⟨_, rfl⟩
  have HBX := Lib.hid (fun w' (k : Kept (w3.alloc (.cells #[.slice aE (entsD c xs).length cE] 41)) w') => HBY.out (fun g => w2.heap.size ≤ g) E (.slice aE (entsD c xs).length cE) w' (tab_kept HTB.out (HK4.out.trans k)) (by rw [← HEE.out]; exact HE4.out.kept k) (HEN.out.kept5 k))
  have HFX := Lib.hid (HFI.out (w3.alloc (.cells #[.slice aE (entsD c xs).length cE] 41)) (fun g => w0.heap.size ≤ g ∧ g < (w3.alloc (.cells #[.slice aE (entsD c xs).length cE] 41)).heap.size) (fun g q => q.2) E HBX.out (.slice aB1 (mbL (usedOf xs) 0 xs).1.length cB1) _ (HBL4.out.sam (S' := fun g => w0.heap.size ≤ g ∧ g < (w3.alloc (.cells #[.slice aE (entsD c xs).length cE] 41)).heap.size) (fun _ _ _ => rfl) (fun g q r => ⟨r, q⟩)) (Kept.refl _))
  clear HBX HBY HFI HBL4 HEN HE4
  go_wp2_with fail
  rw [HEE.out]
  refine HFX.out.mono ?_
  rintro e w5 ⟨v5, ys, rfl, hb5, hno, hsg, hbn, hk5⟩
  obtain ⟨a5, c5, rfl, l5⟩ := hb5.form
  have hwz : w.heap.size ≤ w0.heap.size := HK0.out.size
  have hB5 := HBd4.out.kept hk5
  have x1 : w5.cell? ⟨B, 1, none⟩ = some (.slice aB1 (mbL (usedOf xs) 0 xs).1.length cB1) := hB5.cell 1 _ rfl
  have f1 := hB5.free 1
  have bz := hB5.lt
  have ho6 := Only.setCell (w := w5) B 1 (.slice a5 ys.length c5)
  have HBd6 : Hid (Blk (w5.setCell ⟨B, 1, none⟩ (.slice a5 ys.length c5)) B 25 #[.slice aM1 meta_.length cM1, .slice a5 ys.length c5]) := hB5.set 1 _
  have HRd6 := Lib.hid ((HRd4.out.kept hk5).onl ho6 (by omega))
  have HP6 := Lib.hid ((HP4.out.kept hk5).onlS HI1.out ho6 (fun g _ hs q => by omega))
  have HBL6 := Lib.hid ((hb5.mono (S' := fun g => w0.heap.size ≤ g) (fun g _ q => q.elim (fun q => q.1) (fun q => Nat.le_trans hz4 q))).sam (S' := fun g => w0.heap.size ≤ g) (Sam.only ho6 (fun g _ hs q => by omega)) (fun _ _ q => q))
  have HK6 := Lib.hid ((HK4.out.trans hk5).trans' (ho6.below (HK4.out.trans hk5).size (fun i e => by rw [e]; exact hwB)))
  have HNO := Lib.hid hno
  have HSG := Lib.hid hsg
  have HBN := Lib.hid hbn
  clear hb5 hno hsg hbn hk5 hB5 ho6 HBd4 HRd4 HP4 HK4 HFX e1 ez
  go_wp2_with (first
    | (refine wpList_load_blk (by rfl) 25 (.tmp 2) (by rfl) B _ (by rfl) HBd6.out _ Tryz.underlying25 rfl Tryz.sizeDo5 ?_)
    | (refine wpList_store_blk rfl 25 (.tmp 4) (.tmp 16) (by rfl) (B + 1 + 1) _ #[.slice aM1 meta_.length cM1, .slice a5 ys.length c5] (by rfl) (by rfl) HRd6.out rfl Tryz.sizeDo5 (by simp only [List.all_toArray, List.all_cons, List.all_nil]; rfl) ?_; intro w9 hb9 ho9; refine holdQ ?_))
  refine Lib.hid ?_
  have r0 := hb9.cell 0 _ rfl
  have r1 := hb9.cell 1 _ rfl
  have rz := hb9.lt
  have HF := Lib.hid (HFIN.out (.slice aM1 meta_.length cM1) (.slice a5 ys.length c5) ys w9 (HP6.out.onlS HI1.out ho9 (fun g _ hs q => by omega)) ((HBL6.out.sam (S' := fun g => w0.heap.size ≤ g) (Sam.only ho9 (fun g _ hs q => by omega)) (fun _ _ q => q)).mono (fun g _ q => Nat.le_trans hwz q)) HNO.out HSG.out HBN.out (HK6.out.trans' (ho9.below HK6.out.size (fun i e => by rw [e]; omega))))
  clear hb9 ho9
  go_wp2_with fail
  refine bodyPost_ret (v := .agg #[.slice aM1 meta_.length cM1, .slice a5 ys.length c5]) ?_ rfl HF.out
  simp [results, Tryz.results8, go_sem, r0, r1, rz]
end Go.Proofs.YtnbhpmleboildaaGreatDoor

/- Small documents meet what the walks of index ask. No condition. -/
set_option linter.all false
namespace Go.Proofs.YtnbhpmleboildaaGreatDoor
open Go.RowKit

theorem deepL_kids : ∀ xs : List Inl, xs.length ≤ (deepL xs).length
  | [] => Nat.le_refl _
  | x :: xs => by
    have h := deepL_kids xs
    show xs.length + 1 ≤ (deep1 x ++ deepL xs).length
    rw [deep1_eq, List.length_append, List.length_cons]; omega
theorem listL_kids : ∀ xs : List Blo, xs.length ≤ (listL xs).length
  | [] => Nat.le_refl _
  | x :: xs => by
    have h := listL_kids xs
    show xs.length + 1 ≤ (list1 x ++ listL xs).length
    rw [list1_eq, List.length_append, List.length_cons]; omega
theorem okLong_id {id : Bs} {cls : List Bs} {prs : List Pr} (h : okLong id cls prs) : id.length ≤ 600 := by have := h.2.2; omega
theorem okLong_prs {id : Bs} {cls : List Bs} {prs : List Pr} (h : okLong id cls prs) {p : Pr} (hp : p ∈ prs) : p.1.length + p.2.length ≤ 600 := by have := h.2.2; have := sumP_mem hp; omega
mutual
theorem okI1_small : ∀ x : Inl, (∀ y ∈ deep1 x, okXs y) → (deep1 x).length ≤ 120 → okI1 x
  | .mk kind text dest title id cls prs args cits kids, h, hl => by
    rw [deep1_eq] at h hl
    rw [List.length_cons] at hl
    obtain ⟨h1, h2, h3, h4, _, _⟩ := h _ (List.mem_cons_self ..)
    have hk := deepL_kids kids
    have h5 := okLong_id h2
    have hl' : (deepL kids).length + 1 ≤ 120 := hl
    have h1' : text.length + dest.length + title.length ≤ 300 := h1
    have h2' : okLong id cls prs := h2
    have h3' : args.length ≤ 9 := h3
    have h4' : cits.length ≤ 9 := h4
    obtain ⟨c1, c2, _⟩ := h2'
    have h5' : id.length ≤ 600 := h5
    exact ⟨⟨by omega, by omega, by omega, by omega, by omega, by omega, by omega, by omega, by omega⟩, okIL_small kids (fun y hy => h y (List.mem_cons_of_mem _ hy)) (by omega)⟩
theorem okIL_small : ∀ xs : List Inl, (∀ y ∈ deepL xs, okXs y) → (deepL xs).length ≤ 120 → okIL xs
  | [], _, _ => trivial
  | x :: xs, h, hl => by
    have hl' : (deep1 x ++ deepL xs).length ≤ 120 := hl
    rw [List.length_append] at hl'
    exact ⟨okI1_small x (fun y hy => h y (List.mem_append.2 (.inl hy))) (by omega), okIL_small xs (fun y hy => h y (List.mem_append.2 (.inr hy))) (by omega)⟩
end
mutual
theorem okB1_small : ∀ x : Blo, (∀ y ∈ list1 x, okBs y) → (list1 x).length + (inls1 x).length ≤ 120 → okB1 x
  | .mk kind level info text dest title id cls prs line kids, h, hl => by
    rw [list1_eq] at h hl
    rw [List.length_cons] at hl
    obtain ⟨⟨h1, h2⟩, h3⟩ := h _ (List.mem_cons_self ..)
    have hl' : (listL kids).length + 1 + (deepL line ++ inlsL kids).length ≤ 120 := hl
    rw [List.length_append] at hl'
    have hk := listL_kids kids
    have hd := deepL_kids line
    have h1' : text.length + info.length + dest.length + title.length ≤ 300 := h1
    have h2' : okLong id cls prs := h2
    have h5' : id.length ≤ 600 := okLong_id h2'
    obtain ⟨c1, c2, _⟩ := h2'
    exact ⟨⟨by omega, by omega, by omega, by omega, by omega, by omega, by omega, by omega, by omega⟩, okIL_small line h3 (by omega), okBL_small kids (fun y hy => h y (List.mem_cons_of_mem _ hy)) (by omega)⟩
theorem okBL_small : ∀ xs : List Blo, (∀ x ∈ listL xs, okBs x) → (listL xs).length + (inlsL xs).length ≤ 120 → okBL xs
  | [], _, _ => trivial
  | x :: xs, h, hl => by
    have hl' : (list1 x ++ listL xs).length + (inls1 x ++ inlsL xs).length ≤ 120 := hl
    rw [List.length_append, List.length_append] at hl'
    exact ⟨okB1_small x (fun y hy => h y (List.mem_append.2 (.inl hy))) (by omega), okBL_small xs (fun y hy => h y (List.mem_append.2 (.inr hy))) (by omega)⟩
end
mutual
theorem inls1_okXs : ∀ x : Blo, (∀ y ∈ list1 x, okBs y) → ∀ y ∈ inls1 x, okXs y
  | .mk kind level info text dest title id cls prs line kids, h, y, hy => by
    rw [list1_eq] at h
    have hy' : y ∈ deepL line ++ inlsL kids := hy
    rcases List.mem_append.1 hy' with q | q
    · exact (h _ (List.mem_cons_self ..)).2 y q
    · exact inlsL_okXs kids (fun y hy => h y (List.mem_cons_of_mem _ hy)) y q
theorem inlsL_okXs : ∀ xs : List Blo, (∀ x ∈ listL xs, okBs x) → ∀ y ∈ inlsL xs, okXs y
  | [], _, _, hy => (List.not_mem_nil hy).elim
  | x :: xs, h, y, hy => by
    rcases List.mem_append.1 (show y ∈ inls1 x ++ inlsL xs from hy) with q | q
    · exact inls1_okXs x (fun y hy => h y (List.mem_append.2 (.inl hy))) y q
    · exact inlsL_okXs xs (fun y hy => h y (List.mem_append.2 (.inr hy))) y q
end
mutual
theorem deep1_sub : ∀ x : Inl, ∀ y ∈ deep1 x, (deepL y.kids).length ≤ (deep1 x).length ∧ ∀ z ∈ deepL y.kids, z ∈ deep1 x
  | .mk kind text dest title id cls prs args cits kids, y, hy => by
    rw [deep1_eq] at hy ⊢
    rcases List.mem_cons.1 hy with rfl | q
    · exact ⟨by rw [List.length_cons]; omega, fun z hz => List.mem_cons_of_mem _ hz⟩
    · obtain ⟨a, b⟩ := deepL_sub kids y q
      exact ⟨by rw [List.length_cons]; exact Nat.le_succ_of_le a, fun z hz => List.mem_cons_of_mem _ (b z hz)⟩
theorem deepL_sub : ∀ xs : List Inl, ∀ y ∈ deepL xs, (deepL y.kids).length ≤ (deepL xs).length ∧ ∀ z ∈ deepL y.kids, z ∈ deepL xs
  | [], _, hy => (List.not_mem_nil hy).elim
  | x :: xs, y, hy => by
    have e : (deepL (x :: xs)).length = (deep1 x).length + (deepL xs).length := by show (deep1 x ++ deepL xs).length = _; rw [List.length_append]
    rcases List.mem_append.1 (show y ∈ deep1 x ++ deepL xs from hy) with q | q
    · obtain ⟨a, b⟩ := deep1_sub x y q
      exact ⟨by omega, fun z hz => List.mem_append.2 (.inl (b z hz))⟩
    · obtain ⟨a, b⟩ := deepL_sub xs y q
      exact ⟨by omega, fun z hz => List.mem_append.2 (.inr (b z hz))⟩
end
mutual
theorem inls1_sub : ∀ x : Blo, ∀ y ∈ inls1 x, (deepL y.kids).length ≤ (inls1 x).length ∧ ∀ z ∈ deepL y.kids, z ∈ inls1 x
  | .mk kind level info text dest title id cls prs line kids, y, hy => by
    have e : (inls1 (.mk kind level info text dest title id cls prs line kids)).length = (deepL line).length + (inlsL kids).length := by show (deepL line ++ inlsL kids).length = _; rw [List.length_append]
    rcases List.mem_append.1 (show y ∈ deepL line ++ inlsL kids from hy) with q | q
    · obtain ⟨a, b⟩ := deepL_sub line y q
      exact ⟨by omega, fun z hz => List.mem_append.2 (.inl (b z hz))⟩
    · obtain ⟨a, b⟩ := inlsL_sub kids y q
      exact ⟨by omega, fun z hz => List.mem_append.2 (.inr (b z hz))⟩
theorem inlsL_sub : ∀ xs : List Blo, ∀ y ∈ inlsL xs, (deepL y.kids).length ≤ (inlsL xs).length ∧ ∀ z ∈ deepL y.kids, z ∈ inlsL xs
  | [], _, hy => (List.not_mem_nil hy).elim
  | x :: xs, y, hy => by
    have e : (inlsL (x :: xs)).length = (inls1 x).length + (inlsL xs).length := by show (inls1 x ++ inlsL xs).length = _; rw [List.length_append]
    rcases List.mem_append.1 (show y ∈ inls1 x ++ inlsL xs from hy) with q | q
    · obtain ⟨a, b⟩ := inls1_sub x y q
      exact ⟨by omega, fun z hz => List.mem_append.2 (.inl (b z hz))⟩
    · obtain ⟨a, b⟩ := inlsL_sub xs y q
      exact ⟨by omega, fun z hz => List.mem_append.2 (.inr (b z hz))⟩
end
mutual
theorem plain1_len : ∀ x : Inl, (∀ y ∈ deep1 x, okXs y) → (plain1 x).length ≤ 300 * (deep1 x).length
  | .mk kind text dest title id cls prs args cits kids, h => by
    rw [deep1_eq] at h ⊢
    have h1 : text.length + dest.length + title.length ≤ 300 := (h _ (List.mem_cons_self ..)).1
    have hk := plainL_len kids (fun y hy => h y (List.mem_cons_of_mem _ hy))
    rw [List.length_cons, plain1_mk]
    show _ ≤ 300 * ((deepL kids).length + 1)
    repeat' split
    all_goals first | omega | (simp only [List.length_cons, List.length_nil]; omega)
theorem plainL_len : ∀ xs : List Inl, (∀ y ∈ deepL xs, okXs y) → (plainL xs).length ≤ 300 * (deepL xs).length
  | [], _ => by show 0 ≤ _; omega
  | x :: xs, h => by
    have h1 := plain1_len x (fun y hy => h y (List.mem_append.2 (.inl hy)))
    have h2 := plainL_len xs (fun y hy => h y (List.mem_append.2 (.inr hy)))
    show (plain1 x ++ plainL xs).length ≤ 300 * (deep1 x ++ deepL xs).length
    rw [List.length_append, List.length_append]; omega
end
theorem getP_in {ps : List Pr} {k v : Bs} (h : getP ps k = some v) : ∃ p ∈ ps, p.2 = v := by
  unfold getP at h
  cases hf : ps.find? (fun q => q.1 == k) with
  | none => rw [hf] at h; cases h
  | some p =>
    rw [hf] at h
    exact ⟨p, List.mem_of_find?_eq_some hf, by simpa using h⟩
theorem SmB.inls {xs : List Blo} (h : SmB xs) : (inlsL xs).length ≤ 120 := by have := h.1; unfold sumB at this; omega
theorem SmB.list {xs : List Blo} (h : SmB xs) : (listL xs).length ≤ 120 := by have := h.1; unfold sumB at this; omega
theorem SmB.len {xs : List Blo} (h : SmB xs) : xs.length ≤ 120 := Nat.le_trans (listL_kids xs) h.list
theorem SmB.okX {xs : List Blo} (h : SmB xs) : ∀ y ∈ inlsL xs, okXs y := inlsL_okXs xs h.2
theorem SmB.plain {xs : List Blo} (h : SmB xs) : ∀ y ∈ inlsL xs, (plainL y.kids).length ≤ 36000 := fun y hy => by
  obtain ⟨a, b⟩ := inlsL_sub xs y hy
  have h1 := plainL_len y.kids (fun z hz => h.okX z (b z hz))
  have h2 := h.inls
  omega
theorem SmB.key {xs : List Blo} (h : SmB xs) (k : Bs) : ∀ y ∈ inlsL xs, ∀ v, getP y.prs k = some v → v.length ≤ 600 := fun y hy v hv => by
  obtain ⟨p, hp, rfl⟩ := getP_in hv
  have := okLong_prs (h.okX y hy).2.1 hp
  omega
theorem SmB.okB {xs : List Blo} (h : SmB xs) : okBL xs := okBL_small xs h.2 h.1
theorem SmB.okW {xs : List Blo} (h : SmB xs) : okWB xs := fun y hy => ⟨Nat.le_trans (h.plain y hy) (by decide), fun v hv => Nat.le_trans (h.key _ y hy v hv) (by decide)⟩
theorem SmB.okS {xs : List Blo} (h : SmB xs) : okS (inlsL xs) := fun y hy => by
  unfold termTx
  cases hg : getP y.prs kKey with
  | none => exact Nat.le_trans (h.plain y hy) (by decide)
  | some v => exact Nat.le_trans (h.key _ y hy v hg) (by decide)
theorem SmB.id {xs : List Blo} (h : SmB xs) : ∀ x ∈ inlsL xs, x.id.length ≤ 900000 := fun y hy => Nat.le_trans (okLong_id (h.okX y hy).2.1) (by decide)
theorem SmB.mark {xs : List Blo} (h : SmB xs) : (mbL (usedOf xs) 0 xs).2 ≤ 1000000000000000 := by
  have h1 := (mbL_bnd (usedOf xs) xs 0).2
  have h2 := usedOf_len xs
  have h3 := h.1
  unfold sumB at h3
  have h4 := h.inls
  have h5 : (inlsL xs).length * ((usedOf xs).length + 1) ≤ 120 * 121 := Nat.mul_le_mul h4 (by omega)
  omega
/-- All that index.Fill asks of a small document. -/
theorem SmB.all {xs : List Blo} (h : SmB xs) (c : ColT) : (mkdL xs).length ≤ 1000000 ∧ okBL (mkdL xs) ∧ okWB (mkdL xs) ∧ _root_.Go.Proofs.YtnbhpmleboildaaGreatDoor.okS (inlsL (mkdL xs)) ∧ (inlsL (mkdL xs)).length ≤ 500 ∧ okE (entsD c xs) ∧ (entsD c xs).length ≤ 1000000 := by
  obtain ⟨l1, l2⟩ := mbL_lens (usedOf xs) xs 0
  have hi : (inlsL (mkdL xs)).length ≤ 120 := by rw [show mkdL xs = (mbL (usedOf xs) 0 xs).1 from rfl, l1]; exact h.inls
  have hs : Go.Proofs.YtnbhpmleboildaaGreatDoor.okS (inlsL (mkdL xs)) := mkd_okS (usedOf xs) xs h.okS
  have hid := mkd_ids (usedOf xs) xs 900000 (by decide) h.mark h.id
  obtain ⟨e1, e2⟩ := ents_okE c (inlsL (mkdL xs)) (by omega) hs hid
  refine ⟨?_, mbL_ok (usedOf xs) xs 0 h.mark h.okB, mkd_okWB (usedOf xs) xs h.okW, hs, by omega, e1, e2⟩
  rw [show (mkdL xs).length = xs.length from mbL_len _ _ _]
  have := h.len; omega
end Go.Proofs.YtnbhpmleboildaaGreatDoor

/- The example of law26, in plain Lean. No condition. -/
set_option linter.all false
namespace Go.Proofs.YtnbhpmleboildaaGreatDoor
open Go.RowKit

def markI (t id : Bs) : Inl := .mk 11 [] [] [] id [kIndex] [] [] [] [textI t]
def ixB : Blo := .mk 13 0 kIndex [] [] [] [] [] [] [] []
def ix1 : Bs := [105, 120, 45, 49]
def dA : List Blo := [bloP [markI [98] [], markI [97, 33, 120] [], markI [97] ix1], ixB]
theorem idN1 : idN 1 = ix1 := by
  show [105, 120, 45] ++ Lib.itoa ((1 : Nat) : Int) = _
  rw [itoa_nat, Lib.decDigits, dif_pos (by decide)]; rfl
theorem idN2 : idN 2 = [105, 120, 45, 50] := by
  show [105, 120, 45] ++ Lib.itoa ((2 : Nat) : Int) = _
  rw [itoa_nat, Lib.decDigits, dif_pos (by decide)]; rfl
theorem idN3 : idN 3 = [105, 120, 45, 51] := by
  show [105, 120, 45] ++ Lib.itoa ((3 : Nat) : Int) = _
  rw [itoa_nat, Lib.decDigits, dif_pos (by decide)]; rfl
theorem usedA : usedOf dA = [[], ix1] ∨ usedOf dA = [ix1] := by decide
def dB : List Blo := [bloP [markI [98] [105, 120, 45, 50], markI [97, 33, 120] [105, 120, 45, 51], markI [97] ix1], ixB]
theorem mkdA : mkdL dA = dB := by
  have n2 : nextN (usedOf dA) 0 = 2 := by
    rcases usedA with q | q <;> rw [q] <;> simp [nextN, nextF, idN1, idN2, ix1]
  have n3 : nextN (usedOf dA) 2 = 3 := by
    rcases usedA with q | q <;> rw [q] <;> simp [nextN, nextF, idN3, ix1]
  have k1 : needI (markI [98] []) = true := by decide
  have k2 : needI (markI [97, 33, 120] []) = true := by decide
  have k3 : needI (markI [97] ix1) = false := by decide
  have kt : ∀ s, needI (textI s) = false := fun s => by
    show (true && !(mainI (textI s) == [])) = false
    rfl
  have m1 : ∀ n s id, mk1 (usedOf dA) n (markI s id) = (markI s (idS id (numS (usedOf dA) n (needI (markI s id))) (needI (markI s id))), numS (usedOf dA) n (needI (markI s id))) := fun n s id => by
    have h : mk1 (usedOf dA) (numS (usedOf dA) n (needI (markI s id))) (textI s) = (textI s, numS (usedOf dA) n (needI (markI s id))) := by
      show ((Inl.mk 1 s [] [] (idS [] (numS (usedOf dA) _ (needI (textI s))) (needI (textI s))) [] [] [] [] [] : Inl), numS (usedOf dA) _ (needI (textI s))) = _
      rw [kt]; rfl
    show (Inl.mk 11 [] [] [] _ [kIndex] [] [] [] [(mk1 (usedOf dA) (numS (usedOf dA) n (needI (markI s id))) (textI s)).1], (mk1 (usedOf dA) (numS (usedOf dA) n (needI (markI s id))) (textI s)).2) = _
    rw [h]; rfl
  have h : (mkL (usedOf dA) 0 [markI [98] [], markI [97, 33, 120] [], markI [97] ix1]).1 = [markI [98] [105, 120, 45, 50], markI [97, 33, 120] [105, 120, 45, 51], markI [97] ix1] := by
    show [(mk1 (usedOf dA) 0 (markI [98] [])).1, (mk1 (usedOf dA) (mk1 (usedOf dA) 0 (markI [98] [])).2 (markI [97, 33, 120] [])).1, (mk1 (usedOf dA) (mk1 (usedOf dA) (mk1 (usedOf dA) 0 (markI [98] [])).2 (markI [97, 33, 120] [])).2 (markI [97] ix1)).1] = _
    rw [m1, m1, m1, k1, k2, k3]
    simp only [numS, idS, n2, n3, idN2, idN3]
  show [bloP (mkL (usedOf dA) 0 [markI [98] [], markI [97, 33, 120] [], markI [97] ix1]).1, ixB] = _
  rw [h]; rfl
theorem entsA : entsIx zeroC (ofAll (inlsL dB)) = [⟨1, [97], [ix1]⟩, ⟨2, [120], [[105, 120, 45, 51]]⟩, ⟨1, [98], [[105, 120, 45, 50]]⟩] := by
  kernel_rfl
theorem smA : SmB dA := by
  refine ⟨by decide, fun x hx => ?_⟩
  have hx' : x ∈ [bloP [markI [98] [], markI [97, 33, 120] [], markI [97] ix1], ixB] := hx
  simp only [List.mem_cons, List.not_mem_nil, or_false] at hx'
  rcases hx' with rfl | rfl
  · refine ⟨⟨by decide, by decide, by decide, by decide⟩, fun y hy => ?_⟩
    have hy' : y ∈ [markI [98] [], textI [98], markI [97, 33, 120] [], textI [97, 33, 120], markI [97] ix1, textI [97]] := hy
    simp only [List.mem_cons, List.not_mem_nil, or_false] at hy'
    rcases hy' with rfl | rfl | rfl | rfl | rfl | rfl <;> exact ⟨by decide, ⟨by decide, by decide, by decide⟩, by decide, by decide, fun s hs => (List.not_mem_nil hs).elim, fun s hs => (List.not_mem_nil hs).elim⟩
  · exact ⟨⟨by decide, by decide, by decide, by decide⟩, fun y hy => (List.not_mem_nil hy).elim⟩
theorem smAB : dB.length ≤ 1000000 ∧ okBL dB ∧ okWB dB ∧ okS (inlsL dB) ∧ (inlsL dB).length ≤ 500 := by
  have h := smA.all zeroC
  rw [mkdA] at h
  exact ⟨h.1, h.2.1, h.2.2.1, h.2.2.2.1, h.2.2.2.2.1⟩
theorem sigA : sigL (entsD zeroC dA) (mkdL dA) = [(1, 0), (7, 2)] := by
  show sigL (entsIx zeroC (ofAll (inlsL (mkdL dA)))) (mkdL dA) = _
  rw [mkdA, entsA]
  decide
end Go.Proofs.YtnbhpmleboildaaGreatDoor
