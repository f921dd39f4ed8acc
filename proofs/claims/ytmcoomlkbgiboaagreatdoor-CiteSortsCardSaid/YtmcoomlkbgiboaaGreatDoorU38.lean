/- cite.Suffixes: its memory. No condition. -/
import Derived.Test.YtmcoomlkbgiboaaGreatDoorU31
import Derived.Test.YtmcoomlkbgiboaaGreatDoorU25
import Derived.Test.YtmcoomlkbgiboaaGreatDoorU37
import Derived.Test.YtmcoomlkbgiboaaGreatDoorU11
import Derived.Test.YtmcoomlkbgiboaaGreatDoorU18
import Derived.Test.YtmcoomlkbgiboaaGreatDoorU17
import Derived.Test.YtmcoomlkbgiboaaGreatDoorU30
import Derived.Test.YtmcoomlkbgiboaaGreatDoorU33
import Derived.Test.YtmcoomlkbgiboaaGreatDoorU22
import Derived.Test.YtmcoomlkbgiboaaGreatDoorU24
import Derived.Test.YtmcoomlkbgiboaaGreatDoorU32
import Derived.Test.YtmcoomlkbgiboaaGreatDoorU29

set_option linter.all false
namespace Go.Proofs.YtmcoomlkbgiboaaGreatDoor
open Go.RowKit

theorem OutG.strs0 {base:Nat} {w:World} {v:Value} {n:Nat} (h:w.ownsRow base 9 1 v n (List.replicate n (.string (bs [])))):OutG StrK 1 (fun _=>False) base 9 w v (List.replicate n []):=by
 refine ⟨List.replicate n [.string (bs [])],by simp,fun cs h=>by rw [(List.mem_replicate.1 h).2]; rfl,?_,fun j cs x hc hx=>?_⟩
 ·have e:(List.replicate n ([.string (bs [])]:List Value)).flatten=List.replicate n (.string (bs [])):=by
   clear h
   induction n with
   | zero=>rfl
   | succ n ih=>rw [List.replicate_succ,List.flatten_cons,ih,List.replicate_succ]; rfl
  rw [e,List.length_replicate]; exact h
 ·have h1:=List.mem_replicate.1 (List.mem_of_getElem? hc)
  have h2:=List.mem_replicate.1 (List.mem_of_getElem? hx)
  rw [h1.2,h2.2]; exact rfl
section
variable {A:Nat→Prop} {base g n cap:Nat} {w:World} {xs:List Bs}
theorem outS_at (h:OutG StrK 1 A base 9 w (.slice (some ⟨g,0,none⟩) n cap) xs) (j:Nat) (x:Bs) (hx:xs[j]? = some x) :
  w.cell? ⟨g,j,none⟩=some (.string (bs x))∧w.frozen? ⟨g,j,none⟩=false∧g<w.heap.size∧base≤g:=by
 obtain ⟨g',cs,he,h1,h2,-,-,-,hc,hr⟩:=h.at_ j x hx
 cases he
 obtain ⟨hj,_⟩:=List.getElem?_eq_some_iff.1 hx
 have ht:=h.there j hj 0 (by omega)
 have h3:=hc 0 (.string (bs x)) (by rw [show cs=[.string (bs x)] from hr]; rfl)
 rw [Nat.mul_one,Nat.add_zero] at h3 ht
 exact ⟨h3,ht.2,h2,h1⟩
theorem outS_put (h:OutG StrK 1 A base 9 w (.slice (some ⟨g,0,none⟩) n cap) xs) (j:Nat) (hj:j<xs.length) (y:Bs) :
  OutG StrK 1 A base 9 (w.setCell ⟨g,j,none⟩ (.string (bs y))) (.slice (some ⟨g,0,none⟩) n cap) (xs.set j y):=by
 have:=OutG.put strK h j hj [.string (bs y)] y rfl rfl
 rw [Nat.mul_one] at this
 exact this
end
theorem set_mid {α:Type} (a:List α) (u y:α) (b:List α):(a ++ u :: b).set a.length y=a ++ y :: b:=by
 rw [List.set_append_right _ _ (Nat.le_refl _),Nat.sub_self]; rfl
theorem fill_set (a:List Bs) (n:Nat) (hn:0<n) (y:Bs):(a ++ List.replicate n []).set a.length y=(a ++ [y]) ++ List.replicate (n - 1) []:=by
 obtain ⟨m,rfl⟩:∃ m,n=m+1:=⟨n - 1,by omega⟩
 rw [List.replicate_succ,set_mid,Nat.add_sub_cancel,List.append_assoc]; rfl
/-- What Suffixes keeps in memory besides its maps. -/
structure SuA (Y:Nat) (yc:Array Value) (lang:Bs) (O PL n:Nat) (os pl:List Bs) (w:World):Prop where
 yb:Blk w Y 33 yc
 lb:Blk w (Y+1) 9 #[.string (bs lang)]
 out:OutG StrK 1 (fun _=>False) O 9 w (.slice (some ⟨O,0,none⟩) n n) os
 pla:OutG StrK 1 (fun _=>False) PL 9 w (.slice (some ⟨PL,0,none⟩) n n) pl
section
variable {Y O PL n:Nat} {yc:Array Value} {lang:Bs} {os pl:List Bs} {w w':World}
theorem SuA.only {T:Nat→Prop} (h:SuA Y yc lang O PL n os pl w) (k:Only T w w') (h1:¬ T Y) (h2:¬ T (Y+1)) (h3:¬ T O) (h4:¬ T PL):SuA Y yc lang O PL n os pl w' :=
 ⟨h.yb.onl k h1,h.lb.onl k h2,h.out.only strK k (fun _ _ q=>q.elim) (fun g q=>by cases q; exact h3),h.pla.only strK k (fun _ _ q=>q.elim) (fun g q=>by cases q; exact h4)⟩
theorem SuA.kept (h:SuA Y yc lang O PL n os pl w) (k:Kept w w'):SuA Y yc lang O PL n os pl w' :=
 ⟨h.yb.kept k,h.lb.kept k,h.out.kept strK k,h.pla.kept strK k⟩
theorem SuA.setO (h:SuA Y yc lang O PL n os pl w) (j:Nat) (hj:j<os.length) (y:Bs) (h1:Y+1<O) (h2:O<PL):SuA Y yc lang O PL n (os.set j y) pl (w.setCell ⟨O,j,none⟩ (.string (bs y))) :=
 have k:=Only.setCell (w:=w) O j (.string (bs y))
 ⟨h.yb.onl k (by omega),h.lb.onl k (by omega),outS_put h.out j hj y,h.pla.only strK k (fun _ _ q=>q.elim) (fun g q=>by cases q; exact (show ¬ (PL=O) from by omega))⟩
theorem SuA.setP (h:SuA Y yc lang O PL n os pl w) (j:Nat) (hj:j<pl.length) (y:Bs) (h1:Y+1<O) (h2:O<PL):SuA Y yc lang O PL n os (pl.set j y) (w.setCell ⟨PL,j,none⟩ (.string (bs y))) :=
 have k:=Only.setCell (w:=w) PL j (.string (bs y))
 ⟨h.yb.onl k (by omega),h.lb.onl k (by omega),h.out.only strK k (fun _ _ q=>q.elim) (fun g q=>by cases q; exact (show ¬ (O=PL) from by omega)),outS_put h.pla j hj y⟩
end
theorem Tryz.keyShape (te tm:TypeId) (hm:Tryz.prog.underlying tm=some (.map 102 te)):∃ fs,KeyP Tryz.prog tm 102 te fs:=by
 refine ⟨_,hm,Tryz.underlying102,fun a b w=>?_,fun e a w=>?_,fun a w=>same_kyP a w _⟩
 ·have h:(Op.equal 102 (kyP a) (kyP b)).run Tryz.prog w=if a.1=b.1 then if a.2=b.2 then Result.ok true w else Result.ok false w else Result.ok false w:=by
   simp [Op.equal,Op.maxDepth,kyP,go_sem,Tryz.underlying102]
  rw [h]
  obtain ⟨a1,a2⟩:=a
  obtain ⟨b1,b2⟩:=b
  by_cases q1:a1=b1
  ·by_cases q2:a2=b2
   ·simp [q1,q2]
   ·simp [q1,q2]
  ·simp [q1]
 ·have hin:∀ s w,(Instr.checkKey e (9998+1) 9 (.string s)).run Tryz.prog w=.ok () w:=fun s w=>by
   rw [Instr.checkKey]
   simp only [Sem.run_bind,run_underlying Tryz.underlying9,Result.andThen]
   simp [Sem.run_pure]
  show (Instr.checkKey e (9998+1+1) 102 (kyP a)).run Tryz.prog w=.ok () w
  rw [Instr.checkKey]
  simp only [Sem.run_bind,run_underlying Tryz.underlying102,Result.andThen,kyP]
  generalize 9998+1=N at *
  simp [go_sem,hin]
theorem zero_int (w:World):(zeroValue 3).run Tryz.prog w=.ok (.int .i64 0) w:=by kernel_rfl
end Go.Proofs.YtmcoomlkbgiboaaGreatDoor

/- cite.Suffixes: its regions that draw their order. Conditions: what the walk knows ahead of it. -/
set_option linter.all false
namespace Go.Proofs.YtmcoomlkbgiboaaGreatDoor
open Go.RowKit

theorem Tryz.infoSh:(Tryz.prog.info? 102).map (fun i=>(i.zero,i.size,i.bytes))=some (some (.agg #[.string ⟨#[]⟩,.string ⟨#[]⟩]),2,32):=by kernel_rfl
theorem Tryz.sizeSh:(Tryz.prog.info? 102).map (·.size)=some 2:=by kernel_rfl
theorem Tryz.sizeSt1:(Tryz.prog.info? 9).map (·.size)=some 1:=by kernel_rfl
def reg_suf28_f (s:SrcT) (vA vE vF:Value) (Y L I:Nat) (t1 t2:Bs) (n0:Nat):Nat→(Nat→Value)→World→Prop
 | 0,V,_=>V 0=.func (.func 49) #[] #[.pointer (some ⟨Y,0,none⟩),.pointer (some ⟨L,0,none⟩)]
 | 1,V,_=>V 1=.agg #[.string (bs s.key),.string (bs s.type),vA,vE,vF]
 | 2,V,_=>V 2=.string (bs t1)
 | 3,V,_=>V 3=.func (.func 49) #[] #[.pointer (some ⟨Y,0,none⟩),.pointer (some ⟨L,0,none⟩)]
 | 4,V,_=>V 4=.agg #[.string (bs s.key),.string (bs s.type),vA,vE,vF]
 | 5,V,_=>V 5=.string (bs t2)
 | 6,V,_=>V 6=.agg #[.string (bs t1),.string (bs t2)]
 | 7,V,w=>∃ Z:Nat,V 7=.pointer (some ⟨Z,0,none⟩)∧n0≤Z∧Blk w Z 102 #[.string (bs []),.string (bs [])]
 | _,_,_=>True
set_option maxRecDepth 100000 in
set_option maxHeartbeats 6400000 in
theorem reg_suf28 {ops:Array Oper} {id:Nat} {a:Act} {wr:World} {Q:Exit→Act→World→Prop} (s:SrcT) (vA vE vF:Value) (Y L I:Nat) (t1 t2:Bs)
  (hc:facB ops 9 8 #[[0,1,2,3,4,5,6,7]] #[[],[],[0,1],[],[],[3,4],[2,5],[],[6,7]] 124=true)
  (p0:OpAt ops 0 (.move (.tmp 10)) (some 89))
  (p1:OpAt ops 1 (.load 50 (.tmp 20)) (some 90))
  (p2:OpAt ops 2 (.call { callee:=.value (.tmp 89),args:=#[.tmp 90,.const (.string ⟨#[97]⟩)],argTypes:=#[50,9] }) (some 91))
  (p3:OpAt ops 3 (.move (.tmp 10)) (some 92))
  (p4:OpAt ops 4 (.load 50 (.tmp 20)) (some 93))
  (p5:OpAt ops 5 (.call { callee:=.value (.tmp 92),args:=#[.tmp 93,.const (.string ⟨#[98]⟩)],argTypes:=#[50,9] }) (some 94))
  (p6:OpAt ops 6 (.build 102 #[(0,.tmp 91),(1,.tmp 94)]) (some 95))
  (p7:OpAt ops 7 (.alloc 102) (some 21))
  (p8:OpAt ops 8 (.store 102 (.tmp 21) (.tmp 95)) none)
  (hz:124≤a.tmps.size) (h10:a.eval (.tmp 10)=.func (.func 49) #[] #[.pointer (some ⟨Y,0,none⟩),.pointer (some ⟨L,0,none⟩)]) (h20:a.eval (.tmp 20)=.pointer (some ⟨I,0,none⟩))
  (HB:Hid (Blk wr I 50 #[.string (bs s.key),.string (bs s.type),vA,vE,vF])) (HA:Hid (∀ w',Kept wr w'→Calls Tryz.prog 49 #[.agg #[.string (bs s.key),.string (bs s.type),vA,vE,vF],.string (bs [97]),.pointer (some ⟨Y,0,none⟩),.pointer (some ⟨L,0,none⟩)] w' fun e w''=>e=.returned (.string (bs t1))∧Kept w' w'')) (HC:Hid (∀ w',Kept wr w'→Calls Tryz.prog 49 #[.agg #[.string (bs s.key),.string (bs s.type),vA,vE,vF],.string (bs [98]),.pointer (some ⟨Y,0,none⟩),.pointer (some ⟨L,0,none⟩)] w' fun e w''=>e=.returned (.string (bs t2))∧Kept w' w''))
  (hend:∀ (V:Nat→Value) w' TB,V 7=.pointer (some ⟨TB,0,none⟩)→wr.heap.size≤TB→Blk w' TB 102 #[.string (bs t1),.string (bs t2)]→Kept wr w'→Q .normal (((((((((a.put (some 89) (V 0)).put (some 90) (V 1)).put (some 91) (V 2)).put (some 92) (V 3)).put (some 93) (V 4)).put (some 94) (V 5)).put (some 95) (V 6)).put (some 21) (V 7)).put none (V 8)) w') :
  (Code.region id ops true).wp Tryz.prog Q a wr:=by
 have e0:=opAt_dst p0
 have e1:=opAt_dst p1
 have e2:=opAt_dst p2
 have e3:=opAt_dst p3
 have e4:=opAt_dst p4
 have e5:=opAt_dst p5
 have e6:=opAt_dst p6
 have e7:=opAt_dst p7
 have e8:=opAt_dst p8
 have hout:∀ t,(t=10∨t=20)→∀ j,j<9→dstB ops j≠some t:=by
  intro t ht j hj
  obtain rfl | rfl | rfl | rfl | rfl | rfl | rfl | rfl | rfl:j=0∨j=1∨j=2∨j=3∨j=4∨j=5∨j=6∨j=7∨j=8:=by omega
  all_goals simp [e0,e1,e2,e3,e4,e5,e6,e7,e8]
  all_goals omega
 refine wp_region_factsL 9 8 124 _ _ hc (by rfl) hz (reg_suf28_f s vA vE vF Y L I t1 t2 wr.heap.size) (fun w=>Kept wr w) Kept
  (fun V w=>∃ TB:Nat,V 7=.pointer (some ⟨TB,0,none⟩)∧wr.heap.size≤TB∧Blk w TB 102 #[.string (bs t1),.string (bs t2)]∧Kept wr w) ?_ ?_ ?_ ?_ ?_ ?_ ?_ ?_ ?_
 ·intro j hj V V' w hV h
  have hjj:=hV j (.inl rfl)
  obtain rfl | rfl | rfl | rfl | rfl | rfl | rfl | rfl | rfl:j=0∨j=1∨j=2∨j=3∨j=4∨j=5∨j=6∨j=7∨j=8:=by omega
  all_goals (simp only [reg_suf28_f] at h ⊢; try (rw [← hjj]; exact h))
 ·intro V V' w hV h
  rw [← hV 7 (.inr (by simp))]; exact h
 ·intro j hj hne V w w' h k
  obtain rfl | rfl | rfl | rfl | rfl | rfl | rfl | rfl:j=0∨j=1∨j=2∨j=3∨j=4∨j=5∨j=6∨j=7:=by omega
  ·exact h
  ·exact h
  ·exact h
  ·exact h
  ·exact h
  ·exact h
  ·exact h
  ·obtain ⟨Z,h1,h2,h3⟩:=h
   exact ⟨Z,h1,h2,h3.kept k⟩
 ·intro j hj hne hni
  exfalso; apply hni
  have:j<8:=by omega
  simp only [Array.getD,List.size_toArray]
  obtain rfl | rfl | rfl | rfl | rfl | rfl | rfl | rfl:j=0∨j=1∨j=2∨j=3∨j=4∨j=5∨j=6∨j=7:=by omega
  all_goals simp
 ·exact kept_drewN wr 1
 ·intro i hi hne V a' w' hG hF hR hS K hK
  have o10:=(hR 10 (hout 10 (by omega))).trans h10
  have o20:=(hR 20 (hout 20 (by omega))).trans h20
  have hb:=HB.out.kept hG
  have same:∀ v,reg_suf28_f s vA vE vF Y L I t1 t2 wr.heap.size i (upd V i v) w'→K (a'.put (dstB ops i) v) w':=fun v h=>hK v w' (Kept.refl _) hG h
  obtain rfl | rfl | rfl | rfl | rfl | rfl | rfl | rfl:i=0∨i=1∨i=2∨i=3∨i=4∨i=5∨i=6∨i=7:=by omega
  ·exact op_move p0 o10 (same _ (upd_same _ _ _))
  ·refine opAt_list p1 fun o1 ho hg' hd'=>?_
   refine wpList_load_blk hg' 50 (.tmp 20) ho _ #[.string (bs s.key),.string (bs s.type),vA,vE,vF] o20 hb _ Tryz.underlying50 rfl Tryz.sizeS5 ?_
   rw [hd']
   exact same _ (upd_same _ _ _)
  ·have z0:=((hF 0 (by simp)).2 _ e0).trans (hF 0 (by simp)).1
   have z1:=((hF 1 (by simp)).2 _ e1).trans (hF 1 (by simp)).1
   refine opAt_enter p2 (f:=49) (args:=#[.agg #[.string (bs s.key),.string (bs s.type),vA,vE,vF],.string (bs [97]),.pointer (some ⟨Y,0,none⟩),.pointer (some ⟨L,0,none⟩)]) (w':=w') (fun o1 ho=>?_) ((HA.out w' hG).mono fun e w'' ⟨he,hk⟩=>⟨_,he,hK _ w'' hk (hG.trans hk) (upd_same _ _ _)⟩)
   simp only [execOp,ho,resolve,List.map_toArray,List.map_cons,List.map_nil,z0,z1]; simp [go_sem]
  ·exact op_move p3 o10 (same _ (upd_same _ _ _))
  ·refine opAt_list p4 fun o1 ho hg' hd'=>?_
   refine wpList_load_blk hg' 50 (.tmp 20) ho _ #[.string (bs s.key),.string (bs s.type),vA,vE,vF] o20 hb _ Tryz.underlying50 rfl Tryz.sizeS5 ?_
   rw [hd']
   exact same _ (upd_same _ _ _)
  ·have z3:=((hF 3 (by simp)).2 _ e3).trans (hF 3 (by simp)).1
   have z4:=((hF 4 (by simp)).2 _ e4).trans (hF 4 (by simp)).1
   refine opAt_enter p5 (f:=49) (args:=#[.agg #[.string (bs s.key),.string (bs s.type),vA,vE,vF],.string (bs [98]),.pointer (some ⟨Y,0,none⟩),.pointer (some ⟨L,0,none⟩)]) (w':=w') (fun o1 ho=>?_) ((HC.out w' hG).mono fun e w'' ⟨he,hk⟩=>⟨_,he,hK _ w'' hk (hG.trans hk) (upd_same _ _ _)⟩)
   simp only [execOp,ho,resolve,List.map_toArray,List.map_cons,List.map_nil,z3,z4]; simp [go_sem]
  ·have z2:=((hF 2 (by simp)).2 _ e2).trans (hF 2 (by simp)).1
   have z5:=((hF 5 (by simp)).2 _ e5).trans (hF 5 (by simp)).1
   refine opAt_value p6 (v:=.agg #[.string (bs t1),.string (bs t2)]) (w':=w') (fun o1 ho=>?_) (same _ (upd_same _ _ _))
   have y91:=z2
   simp only [Act.eval,Array.getD_eq_getD_getElem?] at y91
   have y94:=z5
   simp only [Act.eval,Array.getD_eq_getD_getElem?] at y94
   simp only [execOp,ho]; simp [go_sem,y91,y94]
  ·obtain ⟨i0,hi,hz0,hz1,hz2⟩:=info_parts Tryz.infoSh
   refine opAt_value p7 (v:=.pointer (some ⟨w'.heap.size,0,none⟩)) (w':=w'.alloc (.cells #[.string (bs []),.string (bs [])] 102)) (fun o1 ho=>?_) (hK _ _ (kept_alloc _ _) (hG.trans (kept_alloc _ _)) ⟨w'.heap.size,upd_same _ _ _,hG.size,Blk.new _ _ _⟩)
   simp only [execOp,ho]; simp [go_sem,hi,hz0]
 ·intro V a' w' hG hF hR K hK
  obtain ⟨⟨Z,r1,r2,r3⟩,r4⟩:=hF 7 (by simp)
  have z1:=(r4 _ e7).trans r1
  have z0:=((hF 6 (by simp)).2 _ e6).trans (hF 6 (by simp)).1
  refine opAt_list p8 fun o1 ho hg' hd'=>?_
  refine wpList_store_blk hg' 102 (.tmp 21) (.tmp 95) ho Z #[.string (bs []),.string (bs [])] #[.string (bs t1),.string (bs t2)] z1 z0 r3 rfl Tryz.sizeSh (by simp [Value.oneCell']) ?_
  intro w2 hb2 ho2
  rw [hd']
  exact hK _ _ ⟨Z,(upd_ne (by omega)).trans r1,r2,hb2,hG.trans' (ho2.below hG.size (fun i e=>by rw [e]; exact r2))⟩
 ·intro i hi hne hni
  exfalso; apply hni
  have:i<8:=by omega
  obtain rfl | rfl | rfl | rfl | rfl | rfl | rfl | rfl:i=0∨i=1∨i=2∨i=3∨i=4∨i=5∨i=6∨i=7:=by omega
  all_goals simp
 ·intro V w' ⟨TB,g1,g2,g3,g4⟩ _
  have:=hend V w' TB g1 g2 g3 g4
  simp only [putAll,e0,e1,e2,e3,e4,e5,e6,e7,e8]
  exact this
def reg_suf31_f (s:SrcT) (vA vE vF:Value) (Y L I O n ix:Nat) (t1 t2:Bs) (n0:Nat):Nat→(Nat→Value)→World→Prop
 | 0,V,_=>V 0=.func (.func 49) #[] #[.pointer (some ⟨Y,0,none⟩),.pointer (some ⟨L,0,none⟩)]
 | 1,V,_=>V 1=.agg #[.string (bs s.key),.string (bs s.type),vA,vE,vF]
 | 2,V,_=>V 2=.slice (some ⟨O,0,none⟩) n n
 | 3,V,_=>V 3=.int .i64 ix
 | 4,V,_=>V 4=.pointer (some ⟨O,ix,none⟩)
 | 5,V,_=>V 5=.string (bs t1)
 | 6,V,_=>V 6=.string (bs t2)
 | _,_,_=>True
set_option maxRecDepth 100000 in
set_option maxHeartbeats 6400000 in
theorem reg_suf31 {ops:Array Oper} {id:Nat} {a:Act} {wr:World} {Q:Exit→Act→World→Prop} (s:SrcT) (vA vE vF:Value) (Y L I O n ix:Nat) (t1 t2:Bs)
  (hc:facB ops 8 7 #[[0,1,2,3,4,5,6]] #[[],[],[],[],[2,3],[4],[0,1,5],[6]] 124=true)
  (p0:OpAt ops 0 (.move (.tmp 10)) (some 109))
  (p1:OpAt ops 1 (.load 50 (.tmp 20)) (some 110))
  (p2:OpAt ops 2 (.move (.tmp 9)) (some 111))
  (p3:OpAt ops 3 (.move (.tmp 19)) (some 112))
  (p4:OpAt ops 4 (.indexAddr 29 (.tmp 111) (.tmp 112)) (some 113))
  (p5:OpAt ops 5 (.load 9 (.tmp 113)) (some 114))
  (p6:OpAt ops 6 (.call { callee:=.value (.tmp 109),args:=#[.tmp 110,.tmp 114],argTypes:=#[50,9] }) (some 115))
  (p7:OpAt ops 7 (.assign (.tmp 115)) (some 22))
  (hz:124≤a.tmps.size) (h9:a.eval (.tmp 9)=.slice (some ⟨O,0,none⟩) n n) (h10:a.eval (.tmp 10)=.func (.func 49) #[] #[.pointer (some ⟨Y,0,none⟩),.pointer (some ⟨L,0,none⟩)]) (h19:a.eval (.tmp 19)=.int .i64 ix) (h20:a.eval (.tmp 20)=.pointer (some ⟨I,0,none⟩))
  (HB:Hid (Blk wr I 50 #[.string (bs s.key),.string (bs s.type),vA,vE,vF])) (HCO:Hid (O<wr.heap.size∧wr.cell? ⟨O,ix,none⟩=some (.string (bs t1)))) (hin:ix<n) (hn:n≤100) (HA:Hid (∀ w',Kept wr w'→Calls Tryz.prog 49 #[.agg #[.string (bs s.key),.string (bs s.type),vA,vE,vF],.string (bs t1),.pointer (some ⟨Y,0,none⟩),.pointer (some ⟨L,0,none⟩)] w' fun e w''=>e=.returned (.string (bs t2))∧Kept w' w''))
  (hend:∀ (V:Nat→Value) w',V 7=.string (bs t2)→Kept wr w'→Q .normal ((((((((a.put (some 109) (V 0)).put (some 110) (V 1)).put (some 111) (V 2)).put (some 112) (V 3)).put (some 113) (V 4)).put (some 114) (V 5)).put (some 115) (V 6)).put (some 22) (V 7)) w') :
  (Code.region id ops true).wp Tryz.prog Q a wr:=by
 have e0:=opAt_dst p0
 have e1:=opAt_dst p1
 have e2:=opAt_dst p2
 have e3:=opAt_dst p3
 have e4:=opAt_dst p4
 have e5:=opAt_dst p5
 have e6:=opAt_dst p6
 have e7:=opAt_dst p7
 have hout:∀ t,(t=9∨t=10∨t=19∨t=20)→∀ j,j<8→dstB ops j≠some t:=by
  intro t ht j hj
  obtain rfl | rfl | rfl | rfl | rfl | rfl | rfl | rfl:j=0∨j=1∨j=2∨j=3∨j=4∨j=5∨j=6∨j=7:=by omega
  all_goals simp [e0,e1,e2,e3,e4,e5,e6,e7]
  all_goals omega
 refine wp_region_factsL 8 7 124 _ _ hc (by rfl) hz (reg_suf31_f s vA vE vF Y L I O n ix t1 t2 wr.heap.size) (fun w=>Kept wr w) Kept
  (fun V w=>V 7=.string (bs t2)∧Kept wr w) ?_ ?_ ?_ ?_ ?_ ?_ ?_ ?_ ?_
 ·intro j hj V V' w hV h
  have hjj:=hV j (.inl rfl)
  obtain rfl | rfl | rfl | rfl | rfl | rfl | rfl | rfl:j=0∨j=1∨j=2∨j=3∨j=4∨j=5∨j=6∨j=7:=by omega
  all_goals (simp only [reg_suf31_f] at h ⊢; try (rw [← hjj]; exact h))
 ·intro V V' w hV h
  rw [← hV 7 (.inl rfl)]; exact h
 ·intro j hj hne V w w' h k
  obtain rfl | rfl | rfl | rfl | rfl | rfl | rfl:j=0∨j=1∨j=2∨j=3∨j=4∨j=5∨j=6:=by omega
  all_goals exact h
 ·intro j hj hne hni
  exfalso; apply hni
  have:j<7:=by omega
  simp only [Array.getD,List.size_toArray]
  obtain rfl | rfl | rfl | rfl | rfl | rfl | rfl:j=0∨j=1∨j=2∨j=3∨j=4∨j=5∨j=6:=by omega
  all_goals simp
 ·exact kept_drewN wr 1
 ·intro i hi hne V a' w' hG hF hR hS K hK
  have o9:=(hR 9 (hout 9 (by omega))).trans h9
  have o10:=(hR 10 (hout 10 (by omega))).trans h10
  have o19:=(hR 19 (hout 19 (by omega))).trans h19
  have o20:=(hR 20 (hout 20 (by omega))).trans h20
  have hb:=HB.out.kept hG
  have c0:w'.cell? ⟨O,ix,none⟩=some (.string (bs t1)):=(hG.cell (p:=⟨O,ix,none⟩) HCO.out.1).trans HCO.out.2
  have same:∀ v,reg_suf31_f s vA vE vF Y L I O n ix t1 t2 wr.heap.size i (upd V i v) w'→K (a'.put (dstB ops i) v) w':=fun v h=>hK v w' (Kept.refl _) hG h
  obtain rfl | rfl | rfl | rfl | rfl | rfl | rfl:i=0∨i=1∨i=2∨i=3∨i=4∨i=5∨i=6:=by omega
  ·exact op_move p0 o10 (same _ (upd_same _ _ _))
  ·refine opAt_list p1 fun o1 ho hg' hd'=>?_
   refine wpList_load_blk hg' 50 (.tmp 20) ho _ #[.string (bs s.key),.string (bs s.type),vA,vE,vF] o20 hb _ Tryz.underlying50 rfl Tryz.sizeS5 ?_
   rw [hd']
   exact same _ (upd_same _ _ _)
  ·exact op_move p2 o9 (same _ (upd_same _ _ _))
  ·exact op_move p3 o19 (same _ (upd_same _ _ _))
  ·have z2:=((hF 2 (by simp)).2 _ e2).trans (hF 2 (by simp)).1
   have z3:=((hF 3 (by simp)).2 _ e3).trans (hF 3 (by simp)).1
   have z2:=((hF 2 (by simp)).2 _ e2).trans (hF 2 (by simp)).1
   have z3:=((hF 3 (by simp)).2 _ e3).trans (hF 3 (by simp)).1
   refine opAt_value p4 (v:=.pointer (some ⟨O,ix,none⟩)) (w':=w') (fun o1 ho=>?_) (same _ (upd_same _ _ _))
   simp only [execOp,ho,z2,z3]; simp [go_sem,Tryz.underlying29,Tryz.sizeSt1]; intro hh; omega
  ·have z4:=((hF 4 (by simp)).2 _ e4).trans (hF 4 (by simp)).1
   refine opAt_value p5 (v:=.string (bs t1)) (w':=w') (fun o1 ho=>?_) (same _ (upd_same _ _ _))
   simp only [execOp,ho,z4]; simp [go_sem,Tryz.underlying9,c0]
  ·have z0:=((hF 0 (by simp)).2 _ e0).trans (hF 0 (by simp)).1
   have z1:=((hF 1 (by simp)).2 _ e1).trans (hF 1 (by simp)).1
   have z5:=((hF 5 (by simp)).2 _ e5).trans (hF 5 (by simp)).1
   refine opAt_enter p6 (f:=49) (args:=#[.agg #[.string (bs s.key),.string (bs s.type),vA,vE,vF],.string (bs t1),.pointer (some ⟨Y,0,none⟩),.pointer (some ⟨L,0,none⟩)]) (w':=w') (fun o1 ho=>?_) ((HA.out w' hG).mono fun e w'' ⟨he,hk⟩=>⟨_,he,hK _ w'' hk (hG.trans hk) (upd_same _ _ _)⟩)
   simp only [execOp,ho,resolve,List.map_toArray,List.map_cons,List.map_nil,z0,z1,z5]; simp [go_sem]
 ·intro V a' w' hG hF hR K hK
  have z0:=((hF 6 (by simp)).2 _ e6).trans (hF 6 (by simp)).1
  exact op_assign p7 z0 (hK _ _ ⟨upd_same _ _ _,hG⟩)
 ·intro i hi hne hni
  exfalso; apply hni
  have:i<7:=by omega
  obtain rfl | rfl | rfl | rfl | rfl | rfl | rfl:i=0∨i=1∨i=2∨i=3∨i=4∨i=5∨i=6:=by omega
  all_goals simp
 ·intro V w' ⟨g1,g2⟩ _
  have:=hend V w' g1 g2
  simp only [putAll,e0,e1,e2,e3,e4,e5,e6,e7]
  exact this
end Go.Proofs.YtmcoomlkbgiboaaGreatDoor

/- cite.letters at 26 or less; slices.Reverse at one byte. Conditions: the number. -/
set_option linter.all false
namespace Go.Proofs.YtmcoomlkbgiboaaGreatDoor
open Go.RowKit

theorem Tryz.infoU8:(Tryz.prog.info? 5).map (fun i=>(i.zero,i.size,i.bytes))=some (some (.int .u8 0),1,1):=by kernel_rfl
def U8K (S:Nat→Prop) (w:World) (cs:List Value) (x:UInt8):Prop:=cs=[.int .u8 (x.toNat:Int)]
theorem u8K:ReadK U8K:=⟨fun h _ _=>h,fun h u hu=>by rw [h] at hu; simp at hu; subst hu; rfl⟩
set_option maxRecDepth 100000 in
theorem rev1_any (a:Option Addr) (c:Nat) (w:World):Calls Tryz.prog 106 #[.slice a 1 c] w fun e w'=>e=.returned (.tuple #[])∧w'=w:=by
 go_enter Tryz.func106,Tryz.ntmps106
 go_wp2_with fail
 go_loopw [2,3] (fun i j wr=>i=.int .i64 0∧j=.int .i64 0∧w=wr) (fun _ _ _=>0)
 case atStart=>exact ⟨rfl,rfl,rfl⟩
 case round =>
  obtain ⟨rfl,rfl,rfl⟩:=hrel
  go_wp2_with fail
  go_end0
  exact ⟨rfl,rfl⟩
theorem letL_small {n:Nat} (h1:1≤n) (h2:n≤26):letL n=[UInt8.ofNat (96+n)]:=by
 unfold letL
 rw [letR_pos (by omega),show (n - 1) / 26=0 by omega,letR_zero,show 97+(n - 1) % 26=96+n by omega]; rfl
set_option maxRecDepth 100000 in
set_option maxHeartbeats 3200000 in
theorem ciletters_any (n:Nat) (h1:1≤n) (h2:n≤26) (w:World):Calls Tryz.prog 50 #[.int .i64 n] w fun e w'=>e=.returned (.string (bs (letL n)))∧Kept w w':=by
 obtain ⟨i0,hi,hz0,hz1,hz2⟩:=info_parts Tryz.infoU8
 rw [letL_small h1 h2]
 obtain ⟨b,HB⟩:∃ b,Hid (UInt8.ofNat (96+n)=b):=⟨_,rfl⟩
 have hbn:Hid (((b.toNat:Nat):Int)=(n:Int)+96):=by
  show _=_
  rw [← HB.out,UInt8.toNat_ofNat']; omega
 rw [HB.out]
 have w1:(IntKind.u8).wrap ((n:Int) - 1)=(n:Int) - 1:=by simp [IntKind.wrap,IntKind.signed,IntKind.bits]; omega
 have w2:(IntKind.u8).wrap (97+((n:Int) - 1))=(n:Int)+96:=by simp [IntKind.wrap,IntKind.signed,IntKind.bits]; omega
 have w3:((n:Int) - 1) % 26=(n:Int) - 1:=by omega
 have w4:((n:Int) - 1) / 26=0:=by omega
 go_enter Tryz.func50,Tryz.ntmps50
 go_wp2_with fail
 simp only [mk_bs]
 go_loopw [0,3] (fun m o wr=>(m=.int .i64 n∧o=.slice none 0 0∧w=wr)∨(m=.int .i64 0∧∃ g c,o=.slice (some ⟨g,0,none⟩) 1 c∧g<wr.heap.size∧wr.cell? ⟨g,0,none⟩=some (.int .u8 (b.toNat:Int))∧Hid (Kept w wr))) (fun m _ _=>(intOf m).toNat)
 case atStart=>exact .inl ⟨rfl,rfl,rfl⟩
 case round =>
  rcases hrel with ⟨rfl,rfl,rfl⟩ | ⟨rfl,g,c,rfl,hg,hc,HK⟩
  ·have hn0:(0:Int)<(n:Int):=by omega
   have HROW:=Lib.hid (Blk.new w 5 #[.int .u8 ((n:Int)+96)])
   have HK6:=Lib.hid (kept_alloc w (.cells #[.int .u8 ((n:Int)+96)] 5))
   have HG6:=Lib.hid (OutG.nil U8K 1 (fun _=>False) w.heap.size 5 (w.alloc (.cells #[.int .u8 ((n:Int)+96)] 5)))
   have hb6:w.heap.size≤(w.alloc (.cells #[.int .u8 ((n:Int)+96)] 5)).heap.size:=HK6.out.size
   go_wp2_with (at_builtin; refine holdC ?_)
   refine Lib.hid ?_
   refine wpList_append_out u8K rfl (.tmp 9) (.tmp 15) 120 rfl i0 _ 1 Tryz.underlying120 hi hz0 hz1 hz2 rfl (by omega) (by rfl) HG6.out _ [.int .u8 ((n:Int)+96)] b (by rfl) (fun j u hu=>HROW.out.cell j u (by rw [← Array.getElem?_toList]; exact hu)) rfl (by show _=_; rw [hbn.out]) (by unfold maxLen; simp) (by simp) hb6 _ rfl ?_
   intro g7 c7' w7 hout7 hgrow7 hat7 hlt7
   obtain ⟨g8,cs8,e8,-,-,-,-,hl8,hc8,hr8⟩:=hout7.at_ 0 b rfl
   have hcs:cs8=[.int .u8 (b.toNat:Int)]:=hr8
   subst hcs
   cases e8
   have c0:w7.cell? ⟨g7,0,none⟩=some (.int .u8 (b.toNat:Int)):=hc8 0 _ rfl
   have HK7:Hid (Kept w w7):=HK6.out.trans' ((Only.grown hgrow7).below HK6.out.size (fun i q=>by cases q))
   clear hout7 hgrow7 hat7 hl8 hc8 hr8 HROW HG6 HK6
   go_wp2_with fail
   go_roundw
   case rel=>exact .inr ⟨by first | rfl | (congr 1; omega) | congr 1,g7,c7',rfl,hlt7,c0,HK7.out⟩
   case measure=>first | (simp [intOf]; done) | (simp [intOf]; omega)
  ·have hcv:(convert 120 9 (.slice (some ⟨g,0,none⟩) 1 c)).run Tryz.prog wr=.ok (.string (bs [b])) wr:=by
    refine run_convert_bytes_back (P:=Tryz.prog) wr 120 9 5 ⟨g,0,none⟩ c [b] Tryz.underlying120 Tryz.underlying5 Tryz.underlying9 ?_
    intro j hj
    have:j=0:=by simpa using hj
    subst this
    exact hc
   go_wp2_with fail
   refine (rev1_any (some ⟨g,0,none⟩) c wr).mono ?_
   rintro e w8 ⟨rfl,rfl⟩
   go_wp2_with fail
   (try go_ret)
   exact ⟨rfl,HK.out⟩
end Go.Proofs.YtmcoomlkbgiboaaGreatDoor

/- cite.Suffixes: the suffixes of sources, or the error. Conditions: lengths, the listed variables. -/
set_option linter.all false
namespace Go.Proofs.YtmcoomlkbgiboaaGreatDoor
open Go.RowKit

def SufPo (r:Int × List Bs) (w:World) (e:Ending) (w':World):Prop:=∃ v,e=.returned (.tuple #[v,.int .i64 r.1])∧Strs w' v r.2∧Kept w w'
theorem map_nil_rep (l:List SrcT):(l.map fun _=>([]:Bs))=List.replicate l.length []:=by
 induction l with
 | nil=>rfl
 | cons x l ih=>rw [List.map_cons,ih,List.length_cons,List.replicate_succ]
theorem filterT_take {l:List Bs} {f:Bs→Bool} {k:Nat} {p:Bs} (h:l[k]? = some p):(l.take (k+1)).filter f=(l.take k).filter f ++ (if f p=true then [p] else []):=by
 rw [List.take_succ,h,List.filter_append]
 congr 1
 show [p].filter f=_
 rw [List.filter_cons,List.filter_nil]
theorem once_take {l:List Bs} {k:Nat} {p:Bs} (h:l[k]? = some p) (h1:l.count p=1):p ∉ l.take k:=by
 intro q
 obtain ⟨hk,e⟩:=List.getElem?_eq_some_iff.1 h
 have e1:l=l.take k ++ l.drop k:=(List.take_append_drop k l).symm
 rw [e1,List.count_append] at h1
 have h2:1≤(l.take k).count p:=List.one_le_count_iff.2 q
 have h3:1≤(l.drop k).count p:=List.one_le_count_iff.2 (by rw [List.drop_eq_getElem_cons hk,e]; exact List.mem_cons_self ..)
 omega
set_option maxRecDepth 100000 in
set_option maxHeartbeats 25600000 in
theorem cisuf_any (v vE:Value) (l:List SrcT) (y:StyT) (lang:Bs) (w:World) (hen:EnvC w) (hv:Srcs w v l) (hl:l.length≤8) (hfit:∀ s∈l,FitL s) (hE:Prs w vE y.entries) (hy:SmallY y) (hym : -9223372036854775808≤y.most∧y.most≤9223372036854775807) :
  Calls Tryz.prog 18 #[v,styV vE y,.string (bs lang)] w (SufPo (sufR y lang l) w):=by
 obtain ⟨i0,hi,hz0,hz1,hz2⟩:=info_parts Tryz.infoStr
 obtain ⟨a,c,rfl,hc⟩:=(show ∃ a c,v=.slice a l.length c∧l.length≤c by obtain ⟨a,c,e,q,_⟩:=hv; exact ⟨a,c,e,q⟩)
 obtain ⟨aE,cE,rfl,lE⟩:=(show ∃ a c,vE=.slice a y.entries.length c∧y.entries.length≤c by obtain ⟨a,c,e,q,_⟩:=hE; exact ⟨a,c,e,q⟩)
 have HK0:=Lib.hid ((kept_alloc w (.cells (styCells (.slice aE y.entries.length cE) y) 33)).trans (kept_alloc _ (.cells #[.string (bs lang)] 9)))
 have HY0:=Lib.hid ((Blk.new w 33 (styCells (.slice aE y.entries.length cE) y)).alloc (.cells #[.string (bs lang)] 9))
 have HL0:=Lib.hid (Blk.new (w.alloc (.cells (styCells (.slice aE y.entries.length cE) y) 33)) 9 #[.string (bs lang)])
 have HCH:=Lib.hid (fun w' (k:Kept w w')=>scheck_any (.slice aE y.entries.length cE) y w' (hen.gnd.kept k) hy (hE.kept k))
 have HEN:=Lib.hid hen
 have HV:=Lib.hid hv
 have HFT:=Lib.hid hfit
 have HYC:Hid (y.cite.length≤100000):=hy.2.2.1
 have HYM:=Lib.hid hym
 have HFIN0:Hid (styE y≠0→∀ w',Kept w w'→SufPo (sufR y lang l) w (.returned (.tuple #[.slice none 0 0,.int .i64 (styE y)])) w'):=fun h w' k=>by
  unfold sufR; rw [if_neg h]
  exact ⟨_,rfl,Strs.none_ _,k⟩
 have HFIN1:Hid (styE y=0→y.numeric=true→∀ u w',Strs w' u (List.replicate l.length [])→Kept w w'→SufPo (sufR y lang l) w (.returned (.tuple #[u,.int .i64 0])) w'):=fun h hn u w' h1 k=>by
  unfold sufR; rw [if_pos h,if_pos hn,map_nil_rep]
  exact ⟨_,rfl,h1,k⟩
 have HFIN2:Hid (styE y=0→y.numeric=false→∀ u w',Strs w' u ((sufN (l.map (citX y lang))).map letL)→Kept w w'→SufPo (sufR y lang l) w (.returned (.tuple #[u,.int .i64 0])) w'):=fun h hn u w' h1 k=>by
  unfold sufR; rw [if_pos h,if_neg (by rw [hn]; simp)]
  exact ⟨_,rfl,h1,k⟩
 generalize SufPo (sufR y lang l) w=P at *
 clear hen hv hfit hE hy hym
 obtain ⟨B,HBB⟩:∃ B,Hid (w.heap.size=B):=⟨_,rfl⟩
 have hwB:w.heap.size≤B:=by rw [HBB.out]; exact Nat.le_refl _
 rw [World.size_alloc] at HL0
 rw [HBB.out] at HY0 HL0
 have HYC9:Hid ((Value.slice aE y.entries.length cE).oneCell'=true):=rfl
 obtain ⟨YC,HYE⟩:∃ YC,Hid (styCells (.slice aE y.entries.length cE) y=YC):=⟨_,rfl⟩
 have HB10:=Lib.hid (sty_cells HY0.out)
 unfold styV styCells at HCH
 unfold styCells at HK0 HB10 HL0
 unfold styV styCells
 go_enter Tryz.func18,Tryz.ntmps18
 go_upto_region 1 with fail
 rw [HBB.out]
 have hY0:=HY0.out
 unfold styCells at hY0
 have HY1:=Lib.hid hY0
 clear hY0 HY0
 generalize World.alloc (World.alloc w _) _=w0 at *
 have hBw0:B+1<w0.heap.size:=HL0.out.lt
 obtain ⟨⟨b0,b1,b2,b3,b4,b5,b6,b7,b8,b9⟩,bz⟩:=HB10.out
 have HCX:=Lib.hid (HCH.out w0 HK0.out)
 clear HCH
 go_wp2_with fail
 refine HCX.out.mono ?_
 rintro e w1 ⟨rfl,hk1⟩
 have HK1:=Lib.hid (HK0.out.trans hk1)
 have HYB:Hid (Blk w1 B 33 YC):=by rw [← HYE.out]; exact HY1.out.kept hk1
 have HLB:=Lib.hid (HL0.out.kept hk1)
 clear hk1 HCX HY1 HL0 HK0 HB10 b0 b1 b2 b3 b4 b5 b6 b7 b8 b9 bz
 by_cases he:¬ styE y=0
 ·have hne:(styE y == 0)=false:=by rw [beq_eq_false_iff_ne]; exact he
  have hnb:(styE y != 0)=true:=by rw [bne_iff_ne]; exact he
  have HF:=Lib.hid (HFIN0.out he w1 HK1.out)
  generalize styE y=E at *
  go_wp2_with fail
  (try go_ret2)
  exact HF.out
 ·have he:styE y=0:=Decidable.not_not.1 he
  have HFN1:=Lib.hid (HFIN1.out he)
  have HFN2:=Lib.hid (HFIN2.out he)
  have HSE:=Lib.hid he
  rw [he]
  clear HFIN0 HFIN1 HFIN2 he
  obtain ⟨n,HN⟩:∃ n,Hid (l.length=n):=⟨_,rfl⟩
  obtain ⟨w2,mkS,own2,gr2⟩:=run_makeSlice_full (P:=Tryz.prog) (w:=w1) w1.heap.size 29 9 i0 _ 1 Tryz.underlying29 hi hz0 hz1 .i64 .i64 l.length (by omega) (by rw [hz2]; omega) (by unfold maxLen; omega) (Nat.le_refl _)
  have hcl:Value.cells (.string ⟨#[]⟩)=#[.string (bs [])]:=rfl
  rw [hcl,Nat.mul_one,toList_madeCells_one] at own2
  have hk2:Kept w1 w2:=(Only.grown gr2).below (Nat.le_refl _) (fun i h=>by cases h)
  have HO2:=Lib.hid (OutG.strs0 own2)
  have HK2:=Lib.hid (HK1.out.trans hk2)
  have HYB2:=Lib.hid (HYB.out.kept hk2)
  have HLB2:=Lib.hid (HLB.out.kept hk2)
  have HB1:Hid (B+1<w1.heap.size):=HLB.out.lt
  have hy2:=HYB2.out
  rw [← HYE.out] at hy2
  obtain ⟨⟨-,b1,-,-,-,-,-,-,-,-⟩,bz⟩:=sty_cells hy2
  clear own2 gr2 hk2 hy2 HYB HLB
  cases hnum:y.numeric with
  | true =>
   have HF:=Lib.hid (HFN1.out hnum _ w2 (Strs.outO HO2.out) HK2.out)
   rw [hnum] at b1
   go_wp2_with fail
   (try go_ret2)
   exact HF.out
  | false =>
   have HF:=Lib.hid (HFN2.out hnum)
   have HNU:=Lib.hid hnum
   rw [hnum] at b1
   obtain ⟨O,HOE⟩:∃ O,Hid (w1.heap.size=O):=⟨_,rfl⟩
   rw [HOE.out] at HO2 HB1 mkS
   obtain ⟨w3,mkT,own3,gr3⟩:=run_makeSlice_full (P:=Tryz.prog) (w:=w2) w2.heap.size 29 9 i0 _ 1 Tryz.underlying29 hi hz0 hz1 .i64 .i64 l.length (by omega) (by rw [hz2]; omega) (by unfold maxLen; omega) (Nat.le_refl _)
   rw [hcl,Nat.mul_one,toList_madeCells_one] at own3
   have hk3:Kept w2 w3:=(Only.grown gr3).below (Nat.le_refl _) (fun i h=>by cases h)
   have HP3:=Lib.hid (OutG.strs0 own3)
   have HOP:Hid (O<w2.heap.size):=(HO2.out.blk O rfl).2
   have mkM:=run_makeMap (P:=Tryz.prog) 99 w3
   have HKM:=Lib.hid ((HK2.out.trans hk3).trans (kept_alloc w3 (.map #[] 0)))
   have HMT:Hid (MapT (w3.alloc (.map #[] 0)) w3.heap.size []):=MapT.made w3
   have HPT:Hid (w2.heap.size<w3.heap.size):=(HP3.out.blk w2.heap.size rfl).2
   have HSA:Hid (SuA B YC lang O w2.heap.size l.length (List.replicate l.length []) (List.replicate l.length []) (w3.alloc (.map #[] 0))) :=
    ⟨(HYB2.out.kept hk3).kept (kept_alloc _ _),(HLB2.out.kept hk3).kept (kept_alloc _ _),(HO2.out.kept strK hk3).kept strK (kept_alloc _ _),HP3.out.kept strK (kept_alloc _ _)⟩
   obtain ⟨PL,HPE⟩:∃ PL,Hid (w2.heap.size=PL):=⟨_,rfl⟩
   obtain ⟨TM,HTE⟩:∃ TM,Hid (w3.heap.size=TM):=⟨_,rfl⟩
   rw [HPE.out] at HOP HPT HSA mkT
   rw [HTE.out] at HPT HMT
   have HTZ:Hid (TM<(w3.alloc (.map #[] 0)).heap.size):=HMT.out.lt
   obtain ⟨ps,HPS⟩:∃ ps,Hid ((l.map (citX y lang)).map (·.1)=ps):=⟨_,rfl⟩
   have HPA:Hid (∀ (k:Nat) x,l[k]? = some x→ps[k]? = some (citS x y lang [])):=fun k x h=>by
    rw [← HPS.out,List.getElem?_map,List.getElem?_map,h]; rfl
   have HPL:Hid (ps.length=l.length):=by show _=_; rw [← HPS.out,List.length_map,List.length_map]
   clear own3 gr3 hk3 HP3 HYB2 HLB2 HO2 HK2 HK1 HN
   go_upto_region 10 with fail
   rw [HTE.out]
   try rw [HOE.out]
   try rw [HPE.out]
   clear mkM mkS mkT b1 bz HOE HPE HTE
   generalize w3.alloc _=w4 at *
   go_wp2_with fail
   go_loopw [41] (fun i wr=>∃ (k:Nat) (es:List (Bs × Value)),k≤l.length∧i=.int .i64 k∧Hid (SuA B YC lang O PL l.length (List.replicate l.length []) (ps.take k ++ List.replicate (l.length - k) []) wr)∧Hid (MapT wr TM es)∧Hid (∀ t,(getT es t).getD (.int .i64 0)=.int .i64 ((ps.take k).count t:Nat))∧Hid (Kept w wr)∧Hid (TM<wr.heap.size)) (fun i _=>l.length - (intOf i).toNat)
   case atStart=>exact ⟨0,[],Nat.zero_le _,rfl,(by rw [List.take_zero,List.nil_append,Nat.sub_zero]; exact HSA.out),HMT.out,(fun t=>by rw [List.take_zero]; rfl),HKM.out,HTZ.out⟩
   case round =>
    clear HSA HMT HKM HTZ
    obtain ⟨k,es,hk,rfl,HSA,HMT,HCV,HKR,HTZ⟩:=hrel
    by_cases hlt:k<l.length
    ·obtain ⟨x,hx⟩:∃ x,l[k]? = some x:=⟨_,List.getElem?_eq_getElem hlt⟩
     have hft:=HFT.out x (List.mem_of_getElem? hx)
     have hpx:=HPA.out k x hx
     obtain ⟨g,o,vA,vE,vF,rfl,hg,c0,c1,c2,c3,c4,pA,pE,pF⟩:=Srcs.at_ (HV.out.kept HKR.out) k x hx
     obtain ⟨aA,cA,rfl,lA⟩:=pA.shape
     obtain ⟨aS,cS,rfl,lS⟩:=pE.shape
     obtain ⟨aF,cF,rfl,lF⟩:=(show ∃ a c,vF=.slice a x.fields.length c∧x.fields.length≤c by obtain ⟨a,c,e,l,_⟩:=pF; exact ⟨a,c,e,l⟩)
     have HKA:=Lib.hid (kept_alloc wr (.cells #[.string (bs x.key),.string (bs x.type),.slice aA x.author.length cA,.slice aS x.editor.length cS,.slice aF x.fields.length cF] 50))
     have HSA2:=Lib.hid (HSA.out.kept HKA.out)
     have HCT:=Lib.hid (cicited_any B (B+1) (.slice aA x.author.length cA) (.slice aS x.editor.length cS) (.slice aF x.fields.length cF) (.slice aE y.entries.length cE) x y lang [] _ (HEN.out.kept (HKR.out.trans HKA.out)) (by rw [HYE.out]; exact HSA2.out.yb) HSA2.out.lb HYC9.out HYC.out HYM.out (pA.kept HKA.out) (pE.kept HKA.out) (pF.kept HKA.out) hft (by simp))
     obtain ⟨p,HPP⟩:∃ p,Hid (citS x y lang []=p):=⟨_,rfl⟩
     rw [HPP.out] at hpx HCT
     have HTK:Hid (ps.take (k+1)=ps.take k ++ [p]):=by show _=_; rw [List.take_succ,hpx]; rfl
     have HTL:Hid ((ps.take k).length=k):=by show _=_; rw [List.length_take,HPL.out]; omega
     have HCN:=Lib.hid (fun t=>count_take (x:=t) hpx)
     clear pA pE pF hx hft hpx HPP
     go_wp2_with fail
     refine HCT.out.mono ?_
     rintro e w5 ⟨rfl,hk5⟩
     have HK5:=Lib.hid ((HKR.out.trans HKA.out).trans hk5)
     have HSA5:=Lib.hid (HSA2.out.kept hk5)
     have HMT5:=Lib.hid ((HMT.out.kept HKA.out).kept hk5)
     have hz5:TM<w5.heap.size:=HMT5.out.lt
     have hget:(ps.take k ++ List.replicate (l.length - k) ([]:Bs))[k]? = some []:=by
      rw [List.getElem?_append_right (by rw [HTL.out]; exact Nat.le_refl _),HTL.out,Nat.sub_self,List.getElem?_replicate,if_pos (by omega)]
     obtain ⟨q0,q1,q2,-⟩:=outS_at HSA5.out.pla k [] hget
     have hop:=HOP.out
     have hpt:=HPT.out
     have hb1:=HB1.out
     have hlen:k<(ps.take k ++ List.replicate (l.length - k) ([]:Bs)).length:=by rw [List.length_append,HTL.out,List.length_replicate]; omega
     have HSA6:=Lib.hid (HSA5.out.setP k hlen p hb1 hop)
     have hset:(ps.take k ++ List.replicate (l.length - k) ([]:Bs)).set k p=ps.take (k+1) ++ List.replicate (l.length - (k+1)) []:=by
      have:=fill_set (ps.take k) (l.length - k) (by omega) p
      rw [HTL.out] at this
      rw [this,HTK.out,Nat.sub_sub]
     rw [hset] at HSA6
     have ho6:=Only.setCell (w:=w5) PL k (.string (bs p))
     have HMT6:=Lib.hid (HMT5.out.only ho6 (by omega))
     have HK6:=Lib.hid (HK5.out.trans' (ho6.below HK5.out.size (fun i e=>by omega)))
     have hnext:(ps.take (k+1) ++ List.replicate (l.length - (k+1)) ([]:Bs))[k]? = some p:=by
      rw [List.getElem?_append_left (by rw [HTK.out,List.length_append,HTL.out]; simp),HTK.out,List.getElem?_append_right (by rw [HTL.out]; exact Nat.le_refl _),HTL.out,Nat.sub_self]; rfl
     obtain ⟨r0,-,r2,-⟩:=outS_at HSA6.out.pla k p hnext
     have lk:=lookT (P:=Tryz.prog) (tm:=99) (te:=3) Tryz.underlying99 Tryz.underlying9 (w5.setCell ⟨PL,k,none⟩ (.string (bs p))) TM es p (.int .i64 0) (zero_int _) HMT6.out
     rw [HCV.out p] at lk
     obtain ⟨m,HMC⟩:∃ m,Hid ((ps.take k).count p=m):=⟨_,rfl⟩
     have hm8:m≤8:=by
      rw [← HMC.out]
      have:=List.count_le_length (a:=p) (l:=ps.take k)
      rw [HTL.out] at this
      omega
     rw [HMC.out] at lk
     obtain ⟨es',hes,up⟩:=upT (P:=Tryz.prog) (tm:=99) (te:=3) Tryz.underlying99 Tryz.underlying9 (w5.setCell ⟨PL,k,none⟩ (.string (bs p))) TM es p (.int .i64 ((m:Int)+1)) HMT6.out
     have ho7:=putT_only (w5.setCell ⟨PL,k,none⟩ (.string (bs p))) TM es'
     have HSA7:=Lib.hid (HSA6.out.only ho7 (by omega) (by omega) (by omega) (by omega))
     have HMT7:=Lib.hid (putT_map (w5.setCell ⟨PL,k,none⟩ (.string (bs p))) TM es' HMT6.out.lt)
     have HK7:=Lib.hid (HK6.out.trans' (ho7.below HK6.out.size (fun i e=>by omega)))
     have HCV7:Hid (∀ t,(getT es' t).getD (.int .i64 0)=.int .i64 ((ps.take (k+1)).count t:Nat)):=fun t=>by
      rw [hes t,HCN.out t]
      by_cases q:t=p
      ·subst q
       rw [if_pos rfl,HMC.out,if_pos (by simp)]; rfl
      ·rw [if_neg q,HCV.out t,if_neg (by simp; exact fun e=>q e.symm)]; rfl
     have HTZ7:Hid (TM<(putT (w5.setCell ⟨PL,k,none⟩ (.string (bs p))) TM es').heap.size):=HMT7.out.lt
     clear hget hlen hset hnext ho6 ho7 hes HSA6 HSA5 HSA2 HSA HMT6 HMT5 HMT HK6 HK5 HCV HCN HKA HCT HTK HTL HMC hk5 hop hpt hb1 HTZ
     go_wp2_with fail
     go_roundw
     case rel=>exact ⟨k+1,es',by omega,by go_num,HSA7.out,HMT7.out,HCV7.out,HK7.out,HTZ7.out⟩
     case measure=>simp [intOf]; omega
    ·obtain rfl:k=l.length:=by omega
     have hpt:ps.take l.length=ps:=by rw [← HPL.out,List.take_length]
     rw [hpt,Nat.sub_self,List.replicate_zero,List.append_nil] at HSA
     rw [hpt] at HCV
     have mkN:=run_makeMap (P:=Tryz.prog) 73 wr
     have hka:=kept_alloc wr (.map #[] 0)
     have HKB:Hid (MapK (wr.alloc (.map #[] 0)) wr.heap.size []):=MapK_made wr
     have HSB:=Lib.hid (HSA.out.kept hka)
     have HMB:=Lib.hid (HMT.out.kept hka)
     have HKC:=Lib.hid (HKR.out.trans hka)
     obtain ⟨TK,HTE⟩:∃ TK,Hid (wr.heap.size=TK):=⟨_,rfl⟩
     rw [HTE.out] at HKB HTZ
     clear hpt hka HSA HMT HKR
     go_upto_region 17 with fail
     rw [HTE.out]
     clear mkN HTE
     generalize wr.alloc _=w5 at *
     go_wp2_with fail
     obtain ⟨wo,rfl⟩:∃ wo:World,wo=wr:=⟨_,rfl⟩
     go_loopw [63] (fun i wr=>∃ (k:Nat),k≤l.length∧i=.int .i64 k∧Hid (SuA B YC lang O PL l.length (List.replicate l.length []) ps wr)∧Hid (MapT wr TM es)∧Hid (MapK wr TK ((ps.take k).filter (aloneB ps)))∧Hid (Kept w wr)) (fun i _=>l.length - (intOf i).toNat)
     case atStart=>exact ⟨0,Nat.zero_le _,rfl,HSB.out,HMB.out,(by rw [List.take_zero]; exact HKB.out),HKC.out⟩
     case round =>
      clear HSB HMB HKB HKC
      obtain ⟨k,hk,rfl,HSA,HMT,HMK,HKR⟩:=hrel
      by_cases hlt:k<l.length
      ·obtain ⟨p,hx⟩:∃ x,ps[k]? = some x:=⟨_,List.getElem?_eq_getElem (by rw [HPL.out]; exact hlt)⟩
       obtain ⟨q0,-,q2,-⟩:=outS_at HSA.out.pla k p hx
       have hmz:=HMT.out.lt
       have lk:=lookT (P:=Tryz.prog) (tm:=99) (te:=3) Tryz.underlying99 Tryz.underlying9 wr TM es p (.int .i64 0) (zero_int _) HMT.out
       rw [HCV.out p] at lk
       obtain ⟨m,HMC⟩:∃ m,Hid (ps.count p=m):=⟨_,rfl⟩
       rw [HMC.out] at lk
       have HTK:=Lib.hid (filterT_take (f:=aloneB ps) hx)
       by_cases hm1:m=1
       ·have hal:aloneB ps p=true:=by unfold aloneB; rw [HMC.out,hm1]; rfl
        have hmb:((m:Int) == 1)=true:=by rw [hm1]; rfl
        have hmi:(m:Int)=1:=by rw [hm1]; rfl
        rw [hal] at HTK
        have hnot:p ∉ (ps.take k).filter (aloneB ps):=fun q=>once_take hx (by rw [HMC.out]; exact hm1) (List.mem_filter.1 q).1
        obtain ⟨us,HUS⟩:∃ us,Hid ((ps.take k).filter (aloneB ps)=us):=⟨_,rfl⟩
        rw [HUS.out] at HMK HTK hnot
        have up:=insK wr TK us p HMK.out hnot
        have ho7:=putK_only wr TK (us ++ [p])
        have hb1:=HB1.out
        have hop:=HOP.out
        have hpt:=HPT.out
        have htz:=HTZ.out
        have HSA7:=Lib.hid (HSA.out.only ho7 (by omega) (by omega) (by omega) (by omega))
        have HMT7:=Lib.hid (HMT.out.only ho7 (by omega))
        have HMK7:Hid (MapK (putK wr TK (us ++ [p])) TK ((ps.take (k+1)).filter (aloneB ps))):=by rw [HTK.out]; exact putK_map wr TK (us ++ [p]) HMK.out.lt
        have HK7:=Lib.hid (HKR.out.trans' (ho7.below HKR.out.size (fun i e=>by omega)))
        clear ho7 hnot hal hx HTK HUS HSA HMT HMK HKR HMC hb1 hop hpt htz
        go_wp2_with fail
        go_roundw
        case rel=>exact ⟨k+1,by omega,by go_num,HSA7.out,HMT7.out,HMK7.out,HK7.out⟩
        case measure=>simp [intOf]; omega
       ·have hal:aloneB ps p=false:=by unfold aloneB; rw [HMC.out,beq_eq_false_iff_ne]; exact hm1
        have hmb:((m:Int) == 1)=false:=by rw [beq_eq_false_iff_ne]; omega
        have hmi:¬ (m:Int)=1:=by omega
        rw [hal] at HTK
        have HMK7:Hid (MapK wr TK ((ps.take (k+1)).filter (aloneB ps))):=by rw [HTK.out]; simp only [Bool.false_eq_true,if_false,List.append_nil]; exact HMK.out
        clear hal hx HTK HMK HMC
        go_wp2_with fail
        go_roundw
        case rel=>exact ⟨k+1,by omega,by go_num,HSA.out,HMT.out,HMK7.out,HKR.out⟩
        case measure=>simp [intOf]; omega
      ·obtain rfl:k=l.length:=by omega
       have hpt:ps.take l.length=ps:=by rw [← HPL.out,List.take_length]
       rw [hpt] at HMK
       have mkN:=run_makeMap (P:=Tryz.prog) 100 wr
       have hka:=kept_alloc wr (.map #[] 0)
       have HQB:Hid (MapQ (wr.alloc (.map #[] 0)) wr.heap.size []):=MapQ.made wr
       have HSB:=Lib.hid (HSA.out.kept hka)
       have HMB:=Lib.hid (HMT.out.kept hka)
       have HKB:=Lib.hid (MapK_kept HMK.out hka)
       have HKC:=Lib.hid (HKR.out.trans hka)
       have HKZ:Hid (TK<wr.heap.size):=HMK.out.lt
       obtain ⟨NX,HTE⟩:∃ NX,Hid (wr.heap.size=NX):=⟨_,rfl⟩
       rw [HTE.out] at HQB HKZ
       clear hpt hka HSA HMT HKR HMK
       go_upto_region 24 with fail
       rw [HTE.out]
       clear mkN HTE
       generalize wr.alloc _=w6 at *
       go_wp2_with fail
       obtain ⟨xs,HXS⟩:∃ xs,Hid (l.map (citX y lang)=xs):=⟨_,rfl⟩
       have HXA:Hid (∀ (k:Nat) x,l[k]? = some x→xs[k]? = some (citX y lang x)):=fun k x h=>by rw [← HXS.out,List.getElem?_map,h]; rfl
       have HXL:Hid (xs.length=l.length):=by show _=_; rw [← HXS.out,List.length_map]
       have HHO:Hid (∀ z∈xs,none∈z.2):=fun z hz=>by
        rw [← HXS.out] at hz
        obtain ⟨t,-,rfl⟩:=List.mem_map.1 hz
        exact citX_hole HSE.out HNU.out lang t
       rw [HXS.out] at HF HPS
       have HINV:Hid (∀ k:Nat,SufI ps (xs.take k) (sufAll ps (xs.take k))):=fun k=>by
        have:=sufI_all xs HHO.out (xs.take k) (xs.drop k) (List.take_append_drop k xs)
        rw [HPS.out] at this; exact this
       have HSN:Hid (sufN xs=(sufAll ps (xs.take xs.length)).out):=by show _=_; rw [List.take_length]; unfold sufN; rw [HPS.out]
       rw [HSN.out,HXL.out] at HF
       clear HXS HSN
       obtain ⟨wo2,rfl⟩:∃ wo:World,wo=wr:=⟨_,rfl⟩
       go_loopw [77] (fun i wr=>∃ (k:Nat) (esq:List (KyP × Value)),k≤l.length∧i=.int .i64 k∧Hid (SuA B YC lang O PL l.length ((sufAll ps (xs.take k)).out.map letL ++ List.replicate (l.length - k) []) ps wr)∧Hid (MapT wr TM es)∧Hid (MapK wr TK (sufAll ps (xs.take k)).taken)∧Hid (MapQ wr NX esq)∧Hid (∀ q,(getQ esq q).getD (.int .i64 0)=.int .i64 ((sufAll ps (xs.take k)).next q:Nat))∧Hid (Kept w wr)) (fun i _=>l.length - (intOf i).toNat)
       case atStart=>exact ⟨0,[],Nat.zero_le _,rfl,HSB.out,HMB.out,HKB.out,HQB.out,(fun q=>rfl),HKC.out⟩
       case round =>
        clear HSB HMB HKB HQB HKC
        obtain ⟨k,esq,hk,rfl,HSA,HMT,HMK,HMQ,HNV,HKR⟩:=hrel
        by_cases hlt:k<l.length
        ·obtain ⟨x,hx⟩:∃ x,l[k]? = some x:=⟨_,List.getElem?_eq_getElem hlt⟩
         have hft:=HFT.out x (List.mem_of_getElem? hx)
         have hpx:=HPA.out k x hx
         have hxx:=HXA.out k x hx
         have HHX:=Lib.hid (HHO.out _ (List.mem_of_getElem? hxx))
         have HIV:=Lib.hid (HINV.out k)
         have HNXT:Hid (sufAll ps (xs.take (k+1))=sufStep ps (sufAll ps (xs.take k)) (citX y lang x)):=by
          show _=_
          rw [List.take_succ,hxx]; exact sufAll_snoc _ _ _
         have HOL:Hid ((sufAll ps (xs.take k)).out.length=k):=by
          show _=_
          rw [HIV.out.len,List.length_take,HXL.out]; omega
         have HTL:Hid ((sufAll ps (xs.take k)).taken.length≤16):=by
          show _≤_
          have:=taken_le HIV.out (by rw [List.length_take,HPL.out]; omega)
          rw [HPL.out] at this; omega
         obtain ⟨st,HST⟩:∃ st,Hid (sufAll ps (xs.take k)=st):=⟨_,rfl⟩
         rw [HST.out] at HSA HMK HNV HIV HNXT HOL HTL
         clear HST
         obtain ⟨g,o,vA,vE,vF,rfl,hg0,e0,e1,e2,e3,e4,pA,pE,pF⟩:=Srcs.at_ HV.out k x hx
         have c0:=(HKR.out.cell (p:=⟨g,o+k * 5,none⟩) hg0).trans e0
         have c1:=(HKR.out.cell (p:=⟨g,o+k * 5+1,none⟩) hg0).trans e1
         have c2:=(HKR.out.cell (p:=⟨g,o+k * 5+2,none⟩) hg0).trans e2
         have c3:=(HKR.out.cell (p:=⟨g,o+k * 5+3,none⟩) hg0).trans e3
         have c4:=(HKR.out.cell (p:=⟨g,o+k * 5+4,none⟩) hg0).trans e4
         have hg:g<wr.heap.size:=Nat.lt_of_lt_of_le hg0 HKR.out.size
         obtain ⟨aA,cA,rfl,lA⟩:=pA.shape
         obtain ⟨aS,cS,rfl,lS⟩:=pE.shape
         obtain ⟨aF,cF,rfl,lF⟩:=(show ∃ a c,vF=.slice a x.fields.length c∧x.fields.length≤c by obtain ⟨a,c,e,l,_⟩:=pF; exact ⟨a,c,e,l⟩)
         have HPA2:=Lib.hid pA
         have HPE2:=Lib.hid pE
         have HPF2:=Lib.hid pF
         have HFT2:=Lib.hid hft
         have hka:=kept_alloc wr (.cells #[.string (bs x.key),.string (bs x.type),.slice aA x.author.length cA,.slice aS x.editor.length cS,.slice aF x.fields.length cF] 50)
         have HIB:=Lib.hid (Blk.new wr 50 #[.string (bs x.key),.string (bs x.type),.slice aA x.author.length cA,.slice aS x.editor.length cS,.slice aF x.fields.length cF])
         have HSA2:=Lib.hid (HSA.out.kept hka)
         have HMT2:=Lib.hid (HMT.out.kept hka)
         have HMK2:=Lib.hid (MapK_kept HMK.out hka)
         have HMQ2:=Lib.hid (HMQ.out.kept hka)
         have HKR2:=Lib.hid (HKR.out.trans hka)
         have HKO:=Lib.hid (show Kept wr _ from hka)
         have HPAW:=Lib.hid pA
         have HPEW:=Lib.hid pE
         have HPFW:=Lib.hid pF
         have HNZ:Hid (NX<wr.heap.size):=HMQ.out.lt
         obtain ⟨I,HIE⟩:∃ I,Hid (wr.heap.size=I):=⟨_,rfl⟩
         rw [HIE.out] at HIB HNZ
         obtain ⟨X,HXX⟩:∃ X,Hid (citX y lang x=X):=⟨_,rfl⟩
         have HCX:Hid (∀ n:Nat,citS x y lang (letL n)=citN X n):=fun n=>by rw [← HXX.out]; exact citX_n HSE.out HNU.out lang x n
         rw [HXX.out] at HNXT HHX
         have HX1:Hid (X.1=citS x y lang []):=by show _=_; rw [← HXX.out]; rfl
         obtain ⟨p,HPP⟩:∃ p,Hid (citS x y lang []=p):=⟨_,rfl⟩
         rw [HPP.out] at hpx HX1
         clear pA pE pF hft hx hxx hka HPA2 HPE2 HPF2 e0 e1 e2 e3 e4 hg0 HXX HPP HSA HMT HMK HMQ HKR
         go_upto_region 27 with fail
         rw [HIE.out]
         clear c0 c1 c2 c3 c4 hg HIE HKO
         generalize wr.alloc _=w7 at *
         obtain ⟨q0,-,q2,-⟩:=outS_at HSA2.out.pla k p hpx
         have hmz:=HMT2.out.lt
         have lk:=lookT (P:=Tryz.prog) (tm:=99) (te:=3) Tryz.underlying99 Tryz.underlying9 w7 TM es p (.int .i64 0) (zero_int _) HMT2.out
         rw [HCV.out p] at lk
         obtain ⟨m,HMC⟩:∃ m,Hid (ps.count p=m):=⟨_,rfl⟩
         rw [HMC.out] at lk
         by_cases hm1:m=1
         ·have hal:aloneB ps X.1=true:=by rw [HX1.out]; unfold aloneB; rw [HMC.out,hm1]; rfl
          have hmb:((m:Int) == 1)=true:=by rw [hm1]; rfl
          have hmi:(m:Int)=1:=by rw [hm1]; rfl
          have HS:Hid (sufAll ps (xs.take (k+1))={ st with out:=st.out ++ [0] }):=by
           show _=_
           rw [HNXT.out]; unfold sufStep; rw [if_pos hal]
          have hos:st.out.map letL ++ List.replicate (l.length - k) []=(st.out ++ [0]).map letL ++ List.replicate (l.length - (k+1)) []:=by
           rw [List.map_append,List.append_assoc]
           congr 1
           have e0:letL 0=[]:=by unfold letL; rw [letR_zero]; rfl
           obtain ⟨r,hr⟩:∃ r,l.length - k=r+1:=⟨l.length - k - 1,by omega⟩
           rw [hr,show l.length - (k+1)=r from by omega,List.replicate_succ,List.map_cons,List.map_nil,e0]; rfl
          rw [hos] at HSA2
          have HA9:Hid (SuA B YC lang O PL l.length ((sufAll ps (xs.take (k+1))).out.map letL ++ List.replicate (l.length - (k+1)) []) ps w7):=by rw [HS.out]; exact HSA2.out
          have HK9:Hid (MapK w7 TK (sufAll ps (xs.take (k+1))).taken):=by rw [HS.out]; exact HMK2.out
          have HN9:Hid (∀ q,(getQ esq q).getD (.int .i64 0)=.int .i64 ((sufAll ps (xs.take (k+1))).next q:Nat)):=by rw [HS.out]; exact HNV.out
          clear hal hos HS HSA2 HMK2 HNV HNXT HIV HHX HX1 HCX hpx HMC HOL HTL HIB
          go_wp2_with fail
          go_roundw
          case rel=>exact ⟨k+1,esq,by omega,by go_num,HA9.out,HMT2.out,HK9.out,HMQ2.out,HN9.out,HKR2.out⟩
          case measure=>simp [intOf]; omega
         ·have hal:¬ aloneB ps X.1=true:=by rw [HX1.out]; unfold aloneB; rw [HMC.out,beq_iff_eq]; exact hm1
          have hmb:((m:Int) == 1)=false:=by rw [beq_eq_false_iff_ne]; omega
          have hmi:¬ (m:Int)=1:=by omega
          obtain ⟨old1,old2,old3⟩:=HIV.out.old HHX.out
          have hf17:=frs_le HIV.out HHX.out
          have hnx:=HNXT.out
          unfold sufStep at hnx
          rw [if_neg hal] at hnx
          obtain ⟨fr,HFR⟩:∃ fr,Hid (frsN st.taken X st.taken.length (st.next (shpX X))=fr):=⟨_,rfl⟩
          rw [HFR.out] at old1 old2 old3 hf17 hnx
          have HNX2:=Lib.hid hnx
          have HOLD2:=Lib.hid old2
          have HOLD3:=Lib.hid old3
          have hfr17:fr≤17:=by have:=HTL.out; omega
          have HC1:Hid (citS x y lang [97]=(shpX X).1):=by have h:=HCX.out 1; rw [letL_one] at h; exact h
          have HC2:Hid (citS x y lang [98]=(shpX X).2):=by have h:=HCX.out 2; rw [letL_two] at h; exact h
          obtain ⟨⟨t1,t2⟩,HSH⟩:∃ q,Hid (shpX X=q):=⟨_,rfl⟩
          rw [HSH.out] at HC1 HC2 HNX2 old1
          have HCL:Hid (∀ (suf:Bs),suf.length≤1000→∀ w',Kept w w'→Blk w' B 33 YC→Blk w' (B+1) 9 #[.string (bs lang)]→Calls Tryz.prog 49 #[.agg #[.string (bs x.key),.string (bs x.type),.slice aA x.author.length cA,.slice aS x.editor.length cS,.slice aF x.fields.length cF],.string (bs suf),.pointer (some ⟨B,0,none⟩),.pointer (some ⟨B+1,0,none⟩)] w' fun e w''=>e=.returned (.string (bs (citS x y lang suf)))∧Kept w' w''):=fun suf hs w' kk hyb hlb =>
           cicited_any B (B+1) (.slice aA x.author.length cA) (.slice aS x.editor.length cS) (.slice aF x.fields.length cF) (.slice aE y.entries.length cE) x y lang suf w' (HEN.out.kept kk) (by rw [HYE.out]; exact hyb) hlb HYC9.out HYC.out HYM.out (HPAW.out.kept kk) (HPEW.out.kept kk) (HPFW.out.kept kk) HFT2.out hs
          have HCA:Hid (∀ w',Kept w7 w'→Calls Tryz.prog 49 #[.agg #[.string (bs x.key),.string (bs x.type),.slice aA x.author.length cA,.slice aS x.editor.length cS,.slice aF x.fields.length cF],.string (bs [97]),.pointer (some ⟨B,0,none⟩),.pointer (some ⟨B+1,0,none⟩)] w' fun e w''=>e=.returned (.string (bs t1))∧Kept w' w''):=fun w' kk=>by
           have h:=HCL.out [97] (by simp) w' (HKR2.out.trans kk) (HSA2.out.yb.kept kk) (HSA2.out.lb.kept kk)
           rw [HC1.out] at h; exact h
          have HCB:Hid (∀ w',Kept w7 w'→Calls Tryz.prog 49 #[.agg #[.string (bs x.key),.string (bs x.type),.slice aA x.author.length cA,.slice aS x.editor.length cS,.slice aF x.fields.length cF],.string (bs [98]),.pointer (some ⟨B,0,none⟩),.pointer (some ⟨B+1,0,none⟩)] w' fun e w''=>e=.returned (.string (bs t2))∧Kept w' w''):=fun w' kk=>by
           have h:=HCL.out [98] (by simp) w' (HKR2.out.trans kk) (HSA2.out.yb.kept kk) (HSA2.out.lb.kept kk)
           rw [HC2.out] at h; exact h
          have hos:st.out.map letL ++ List.replicate (l.length - k) []=st.out.map letL ++ ([]:Bs) :: List.replicate (l.length - (k+1)) []:=by
           obtain ⟨r,hr⟩:∃ r,l.length - k=r+1:=⟨l.length - k - 1,by omega⟩
           rw [hr,show l.length - (k+1)=r from by omega,List.replicate_succ]
          rw [hos] at HSA2
          clear old2 old3 hnx hal hos HNXT HMC hpx HX1 HC1 HC2 HIV HHX HFR hf17
          go_upto_region 28 with fail
          refine reg_suf28 x (.slice aA x.author.length cA) (.slice aS x.editor.length cS) (.slice aF x.fields.length cF) B (B+1) I t1 t2 (by kernel_rfl) ⟨_,rfl,rfl,rfl,rfl⟩ ⟨_,rfl,rfl,rfl,rfl⟩ ⟨_,rfl,rfl,rfl,rfl⟩ ⟨_,rfl,rfl,rfl,rfl⟩ ⟨_,rfl,rfl,rfl,rfl⟩ ⟨_,rfl,rfl,rfl,rfl⟩ ⟨_,rfl,rfl,rfl,rfl⟩ ⟨_,rfl,rfl,rfl,rfl⟩ ⟨_,rfl,rfl,rfl,rfl⟩
           (by simp) rfl rfl HIB HCA HCB ?_
          intro V w8 J hV hJ hJb hk8
          simp only [Act.put,List.setIfInBounds_toArray,List.set_cons_zero,List.set_cons_succ]
          rw [hV]
          have HJB:=Lib.hid hJb
          have HIB8:=Lib.hid (HIB.out.kept hk8)
          have HSA8:=Lib.hid (HSA2.out.kept hk8)
          have HMT8:=Lib.hid (HMT2.out.kept hk8)
          have HMK8:=Lib.hid (MapK_kept HMK2.out hk8)
          have HMQ8:=Lib.hid (HMQ2.out.kept hk8)
          have HKR8:=Lib.hid (HKR2.out.trans hk8)
          have hIw:=HIB.out.lt
          have HIJ:Hid (I<J):=by show _<_; omega
          clear hV hJ hJb hk8 HIB HSA2 HMT2 HMK2 HMQ2 HKR2 HCA HCB hIw q0 q2 lk hmz hmb hmi
          go_wp2_with fail
          obtain ⟨wo3,rfl⟩:∃ wo:World,wo=wr:=⟨_,rfl⟩
          go_loopg [22] (fr - st.next (t1,t2)) (fun gk t wr=>∃ (m:Nat) (esq:List (KyP × Value)) (u:Bs),gk=fr - m∧m<fr∧Hid (SuA B YC lang O PL l.length (st.out.map letL ++ u :: List.replicate (l.length - (k+1)) []) ps wr)∧Hid (MapT wr TM es)∧Hid (MapK wr TK st.taken)∧Hid (MapQ wr NX esq)∧Hid (∀ q,(getQ esq q).getD (.int .i64 0)=.int .i64 ((if q=(t1,t2) then m else st.next q:Nat):Int))∧Hid (Blk wr I 50 #[.string (bs x.key),.string (bs x.type),.slice aA x.author.length cA,.slice aS x.editor.length cS,.slice aF x.fields.length cF])∧Hid (Blk wr J 102 #[.string (bs t1),.string (bs t2)])∧Hid (Kept w wr))
          case atStart =>
           refine ⟨st.next (t1,t2),esq,[],rfl,old1,HSA8.out,HMT8.out,HMK8.out,HMQ8.out,fun q=>?_,HIB8.out,HJB.out,HKR8.out⟩
           rw [HNV.out q]
           by_cases e:q=(t1,t2)
           ·rw [if_pos e,e]
           ·rw [if_neg e]
          case round =>
           clear HSA8 HMT8 HMK8 HMQ8 HIB8 HJB HKR8 HNV
           obtain ⟨m,esq',u,hgk,hmf,HSA,HMT,HMK,HMQ,HNV,HIB,HJB,HKR⟩:=hrel
           obtain ⟨fs,hky⟩:=Tryz.keyShape 3 100 Tryz.underlying100
           have HKY:=Lib.hid hky
           have hmqd:MapQ wr.drew NX esq':=HMQ.out.kept (kept_drewN wr 1)
           obtain ⟨es2,n2,hn2,hset,hget,em⟩:=entryQ hky wr.drew NX esq' (t1,t2) (.int .i64 0) zero_int hmqd
           have hv:(getQ esq' (t1,t2)).getD (.int .i64 0)=.int .i64 ((m:Nat):Int):=by rw [HNV.out]; rw [if_pos rfl]
           rw [hv] at hn2 em
           have lkA:=lookQ hky wr.drew NX esq' (t1,t2) (.int .i64 0) (zero_int _) hmqd
           rw [hv] at lkA
           have lkB:=lookQ hky (putQ wr.drew NX es2) NX es2 (t1,t2) (.int .i64 0) (zero_int _) (putQ_map _ _ _ hmqd.lt)
           rw [hget,hv] at lkB
           have stq:=storeQ (P:=Tryz.prog) (tm:=100) (putQ wr.drew NX es2) NX es2 n2 (t1,t2) _ (.int .i64 ((m:Int)+1)) (putQ_map _ _ _ hmqd.lt) hn2
           change Sem.run _ (Instr.mapEntry _ _ (.agg #[.string (bs t1),.string (bs t2)])) _=_ at em
           change Sem.run _ (Instr.lookup _ _ (.agg #[.string (bs t1),.string (bs t2)]) _) _=_ at lkA
           change Sem.run _ (Instr.lookup _ _ (.agg #[.string (bs t1),.string (bs t2)]) _) _=_ at lkB
           have hm17:m<17:=by omega
           have j0:=HJB.out.cell 0 _ rfl
           have j1:=HJB.out.cell 1 _ rfl
           have jz:=HJB.out.lt
           have HSET:=Lib.hid hset
           have HMZ:=Lib.hid hmqd.lt
           clear hky hmqd hv hn2 hset hget
           go_upto_region 29 with fail
           go_region
           obtain ⟨es3,HE3⟩:∃ es3,Hid (es2.set n2 ((t1,t2),.int .i64 ((m:Int)+1))=es3):=⟨_,rfl⟩
           have HNV3:Hid (∀ q,(getQ es3 q).getD (.int .i64 0)=.int .i64 ((if q=(t1,t2) then m+1 else st.next q:Nat):Int)):=fun q=>by
            rw [← HE3.out,HSET.out]
            by_cases e:q=(t1,t2)
            ·rw [if_pos e,if_pos e]; rfl
            ·rw [if_neg e,if_neg e,HNV.out,if_neg e]
           rw [HE3.out]
           have kd:=kept_drewN wr 1
           have hoq:Only (fun g=>g=NX) wr.drew (putQ (putQ wr.drew NX es2) NX es3):=(putQ_only wr.drew NX es2).trans (putQ_only _ NX es3)
           have hb1:=HB1.out
           have hop:=HOP.out
           have hpt:=HPT.out
           have htz:=HTZ.out
           have hkz:=HKZ.out
           have hnz:=HNZ.out
           have hij:=HIJ.out
           have HSA3:=Lib.hid ((HSA.out.kept kd).only hoq (by omega) (by omega) (by omega) (by omega))
           have HMT3:=Lib.hid ((HMT.out.kept kd).only hoq (by omega))
           have HMK3:=Lib.hid ((MapK_kept HMK.out kd).only hoq (by omega))
           have HMQ3:Hid (MapQ (putQ (putQ wr.drew NX es2) NX es3) NX es3):=putQ_map _ _ _ (by rw [putQ_size]; exact HMZ.out)
           have HIB3:=Lib.hid ((HIB.out.kept kd).onl hoq (by omega))
           have HJB3:=Lib.hid ((HJB.out.kept kd).onl hoq (by omega))
           have HKR3:=Lib.hid ((HKR.out.trans kd).trans' (hoq.below (HKR.out.trans kd).size (fun i e=>by omega)))
           generalize putQ (putQ wr.drew NX es2) NX es3=w9 at *
           clear kd hoq em lkA lkB stq j0 j1 jz HSA HMT HMK HMQ HNV HIB HJB HKR HE3 HSET HMZ
           have j0:=HJB3.out.cell 0 _ rfl
           have j1:=HJB3.out.cell 1 _ rfl
           have jz:=HJB3.out.lt
           have lkC:=lookQ HKY.out w9 NX es3 (t1,t2) (.int .i64 0) (zero_int _) HMQ3.out
           rw [HNV3.out,if_pos rfl,show ((m+1:Nat):Int)=(m:Int)+1 from rfl] at lkC
           change Sem.run _ (Instr.lookup _ _ (.agg #[.string (bs t1),.string (bs t2)]) _) _=_ at lkC
           have HLT:=Lib.hid (ciletters_any (m+1) (by omega) (by omega) w9)
           rw [show ((m+1:Nat):Int)=(m:Int)+1 from rfl] at HLT
           have hll:=letL_len (m+1)
           have HCM:=Lib.hid (HCX.out (m+1))
           obtain ⟨lt,HLTE⟩:∃ lt,Hid (letL (m+1)=lt):=⟨_,rfl⟩
           rw [HLTE.out] at HLT hll HCM
           go_wp2_with fail
           refine HLT.out.mono ?_
           rintro e w10 ⟨rfl,hk10⟩
           have HSA10:=Lib.hid (HSA3.out.kept hk10)
           have HMT10:=Lib.hid (HMT3.out.kept hk10)
           have HMK10:=Lib.hid (MapK_kept HMK3.out hk10)
           have HMQ10:=Lib.hid (HMQ3.out.kept hk10)
           have HIB10:=Lib.hid (HIB3.out.kept hk10)
           have HJB10:=Lib.hid (HJB3.out.kept hk10)
           have HKR10:=Lib.hid (HKR3.out.trans hk10)
           clear hk10 HLT HSA3 HMT3 HMK3 HMQ3 HIB3 HJB3 HKR3 j0 j1 jz lkC HKY
           have hol:(st.out.map letL).length=k:=by rw [List.length_map,HOL.out]
           have hgk2:(st.out.map letL ++ u :: List.replicate (l.length - (k+1)) ([]:Bs))[k]? = some u:=by
            rw [List.getElem?_append_right (by omega),hol,Nat.sub_self]; rfl
           obtain ⟨q0,q1,q2,-⟩:=outS_at HSA10.out.out k u hgk2
           have hsl:k<(st.out.map letL ++ u :: List.replicate (l.length - (k+1)) ([]:Bs)).length:=by rw [List.length_append,hol,List.length_cons]; omega
           have hsa11:=HSA10.out.setO k hsl lt hb1 hop
           have hsm:(st.out.map letL ++ u :: List.replicate (l.length - (k+1)) ([]:Bs)).set k lt=st.out.map letL ++ lt :: List.replicate (l.length - (k+1)) []:=by
            have:=set_mid (st.out.map letL) u lt (List.replicate (l.length - (k+1)) ([]:Bs))
            rw [hol] at this; exact this
           rw [hsm] at hsa11
           have HSA11:=Lib.hid hsa11
           have ho11:=Only.setCell (w:=w10) O k (.string (bs lt))
           have HMT11:=Lib.hid (HMT10.out.only ho11 (by omega))
           have HMK11:=Lib.hid (HMK10.out.only ho11 (by omega))
           have HMQ11:=Lib.hid (HMQ10.out.only ho11 (by omega))
           have HIB11:=Lib.hid (HIB10.out.onl ho11 (by omega))
           have HJB11:=Lib.hid (HJB10.out.onl ho11 (by omega))
           have HKR11:=Lib.hid (HKR10.out.trans' (ho11.below HKR10.out.size (fun i e=>by omega)))
           have HCO:Hid (O<(w10.setCell ⟨O,k,none⟩ (.string (bs lt))).heap.size∧(w10.setCell ⟨O,k,none⟩ (.string (bs lt))).cell? ⟨O,k,none⟩=some (.string (bs lt))):=by
            obtain ⟨h1,-,h2,-⟩:=outS_at HSA11.out.out k lt (by rw [List.getElem?_append_right (by omega),hol,Nat.sub_self]; rfl)
            exact ⟨h2,h1⟩
           clear hol hgk2 hsl hsa11 hsm ho11 HSA10 HMT10 HMK10 HMQ10 HIB10 HJB10 HKR10
           go_upto_region 31 with fail
           generalize w10.setCell _ _=w11 at *
           obtain ⟨t,HTE⟩:∃ t,Hid (citS x y lang lt=t):=⟨_,rfl⟩
           refine reg_suf31 x (.slice aA x.author.length cA) (.slice aS x.editor.length cS) (.slice aF x.fields.length cF) B (B+1) I O l.length k lt t (by kernel_rfl) ⟨_,rfl,rfl,rfl,rfl⟩ ⟨_,rfl,rfl,rfl,rfl⟩ ⟨_,rfl,rfl,rfl,rfl⟩ ⟨_,rfl,rfl,rfl,rfl⟩ ⟨_,rfl,rfl,rfl,rfl⟩ ⟨_,rfl,rfl,rfl,rfl⟩ ⟨_,rfl,rfl,rfl,rfl⟩ ⟨_,rfl,rfl,rfl,rfl⟩
            (by simp) rfl rfl rfl rfl HIB11 HCO hlt (by omega) (fun w' kk=>by
             have h:=HCL.out lt (by omega) w' (HKR11.out.trans kk) (HSA11.out.yb.kept kk) (HSA11.out.lb.kept kk)
             rw [HTE.out] at h; exact h) ?_
           intro V w12 hV hk12
           simp only [Act.put,List.setIfInBounds_toArray,List.set_cons_zero,List.set_cons_succ]
           rw [hV]
           have HTC:Hid (t=citN X (m+1)):=by rw [← HTE.out]; exact HCM.out
           have HSA12:=Lib.hid (HSA11.out.kept hk12)
           have HMT12:=Lib.hid (HMT11.out.kept hk12)
           have HMK12:=Lib.hid (MapK_kept HMK11.out hk12)
           have HMQ12:=Lib.hid (HMQ11.out.kept hk12)
           have HIB12:=Lib.hid (HIB11.out.kept hk12)
           have HJB12:=Lib.hid (HJB11.out.kept hk12)
           have HKR12:=Lib.hid (HKR11.out.trans hk12)
           have lkT:=lookK w12 TK st.taken t HMK12.out
           clear hV hk12 HSA11 HMT11 HMK11 HMQ11 HIB11 HJB11 HKR11 HCO HTE HCM
           cases hct:st.taken.contains t with
           | true =>
            rw [hct] at lkT
            have hmn:m+1<fr:=by
             rcases Nat.lt_or_ge (m+1) fr with q | q
             ·exact q
             ·have e:m+1=fr:=by omega
              have h1:=HOLD2.out
              rw [← e,← HTC.out] at h1
              exact absurd (by simpa using hct) h1
            clear hct HTC
            go_wp2_with fail
            go_roundg (fr - (m+1))
            case rel=>exact ⟨m+1,es3,lt,rfl,hmn,HSA12.out,HMT12.out,HMK12.out,HMQ12.out,HNV3.out,HIB12.out,HJB12.out,HKR12.out⟩
            case measure=>omega
           | false =>
            rw [hct] at lkT
            have hnot:t ∉ st.taken:=by simpa using hct
            have hme:m+1=fr:=by
             rcases Nat.lt_or_ge (m+1) fr with q | q
             ·have h1:=HOLD3.out (m+1) (by omega) q
              rw [← HTC.out] at h1
              exact absurd h1 hnot
             ·omega
            have up:=insK w12 TK st.taken t HMK12.out hnot
            have ho13:=putK_only w12 TK (st.taken ++ [t])
            have HSA13:=Lib.hid (HSA12.out.only ho13 (by omega) (by omega) (by omega) (by omega))
            have HMT13:=Lib.hid (HMT12.out.only ho13 (by omega))
            have HMK13:=Lib.hid (putK_map w12 TK (st.taken ++ [t]) HMK12.out.lt)
            have HMQ13:=Lib.hid (HMQ12.out.only ho13 (by omega))
            have HKR13:=Lib.hid (HKR12.out.trans' (ho13.below HKR12.out.size (fun i e=>by omega)))
            have hos:st.out.map letL ++ lt :: List.replicate (l.length - (k+1)) []=(sufAll ps (xs.take (k+1))).out.map letL ++ List.replicate (l.length - (k+1)) []:=by
             rw [HNX2.out,← hme]
             show _=(st.out ++ [m+1]).map letL ++ _
             rw [List.map_append,List.append_assoc,List.map_cons,HLTE.out]; rfl
            rw [hos] at HSA13
            have HK14:Hid (MapK (putK w12 TK (st.taken ++ [t])) TK (sufAll ps (xs.take (k+1))).taken):=by
             rw [HNX2.out,← hme]
             show MapK _ TK (st.taken ++ [citN X (m+1)])
             rw [← HTC.out]; exact HMK13.out
            have HNV14:Hid (∀ q,(getQ es3 q).getD (.int .i64 0)=.int .i64 ((sufAll ps (xs.take (k+1))).next q:Nat)):=fun q=>by
             rw [HNV3.out q,HNX2.out,← hme]
            clear hct hnot ho13 hos HTC hme HSA12 HMT12 HMK12 HMQ12 HIB12 HJB12 HKR12 HMK13 HNV3 HNX2 HOLD2 HOLD3
            go_wp2_with fail
            go_roundw
            case rel=>exact ⟨k+1,es3,by omega,by go_num,HSA13.out,HMT13.out,HK14.out,HMQ13.out,HNV14.out,HKR13.out⟩
            case measure=>simp [intOf]; omega
        ·obtain rfl:k=l.length:=by omega
         rw [Nat.sub_self,List.replicate_zero,List.append_nil] at HSA
         have HFX:=Lib.hid (HF.out _ wr (Strs.outO HSA.out.out) HKR.out)
         clear HF HSA HMT HMK HMQ HNV
         go_wp2_with fail
         (try go_ret2)
         exact HFX.out
end Go.Proofs.YtmcoomlkbgiboaaGreatDoor
