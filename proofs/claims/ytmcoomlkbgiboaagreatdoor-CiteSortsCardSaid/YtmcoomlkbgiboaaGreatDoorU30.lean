/- An inline appended behind a pointer, in a region that draws its order. Conditions: lengths. -/
import Derived.Test.YtmcoomlkbgiboaaGreatDoorU25
import Derived.Great.BuildSlice

set_option linter.all false
namespace Go.Proofs.YtmcoomlkbgiboaaGreatDoor
open Go.RowKit

theorem Tryz.sizeIn:(Tryz.prog.info? 71).map (fun x=>x.size)=some 10:=by kernel_rfl
theorem Tryz.infoIn:(Tryz.prog.info? 71).map (fun i=>(i.zero,i.size,i.bytes))=some (some (.agg #[.int .i64 0,.string ⟨#[]⟩,.string ⟨#[]⟩,.string ⟨#[]⟩,.string ⟨#[]⟩,.slice none 0 0,.slice none 0 0,.slice none 0 0,.slice none 0 0,.slice none 0 0]),10,192):=by kernel_rfl
/-- The cells of an inline that is zero. -/
def zeroIn:List Value:=[.int .i64 0,.string ⟨#[]⟩,.string ⟨#[]⟩,.string ⟨#[]⟩,.string ⟨#[]⟩,.slice none 0 0,.slice none 0 0,.slice none 0 0,.slice none 0 0,.slice none 0 0]
theorem zero_in (n:Nat) (S:Nat→Prop) (w:World):InlK n S w zeroIn (.mk 0 [] [] [] [] [] [] [] [] []) :=
 ⟨_,_,_,_,_,rfl,⟨Strs.none_ w,InB.nil _ _⟩,⟨Prs.none_ w,InB.nil _ _⟩,⟨Strs.none_ w,InB.nil _ _⟩,RowR.none_ _ _ _ _,Lns.none_ _ _ _⟩
theorem put_at (a:Act) (d:Nat) (v:Value) (s:Nat) (h:d<a.tmps.size):(a.put (some d) v).tmps[s]? = if s=d then some v else a.tmps[s]?:=by
 show (a.tmps.setIfInBounds d v)[s]? = _
 by_cases q:s=d
 ·subst q; rw [if_pos rfl,Array.getElem?_setIfInBounds_self_of_lt h]
 ·rw [if_neg q,Array.getElem?_setIfInBounds_ne (fun e=>q e.symm)]
theorem put_size (a:Act) (d:Nat) (v:Value):(a.put (some d) v).tmps.size=a.tmps.size:=by
 show (a.tmps.setIfInBounds d v).size=_
 rw [Array.size_setIfInBounds]
theorem act_ext {a b:Act} (h1:a.defers=b.defers) (h2:∀ s:Nat,a.tmps[s]? = b.tmps[s]?):a=b:=by
 obtain ⟨t,d⟩:=a
 obtain ⟨t',d'⟩:=b
 obtain rfl:t=t':=Array.ext_getElem? h2
 obtain rfl:d=d':=h1
 rfl
theorem slots6 {D:Nat→Option Nat} {V:Nat→Value} {L:Array Bool} {a0 a:Act} (S:Slots 8 D V L a0 a) (hD:∀ i,D i=if i<6 then some (27+i) else none) (hon:∀ i,i<8→On L i) (hz:33≤a0.tmps.size):a=(((((a0.put (some 27) (V 0)).put (some 28) (V 1)).put (some 29) (V 2)).put (some 30) (V 3)).put (some 31) (V 4)).put (some 32) (V 5):=by
 have hdf:∀ (b:Act) (d:Nat) (u:Value),(b.put (some d) u).defers=b.defers:=fun _ _ _=>rfl
 refine act_ext (by rw [hdf,hdf,hdf,hdf,hdf,hdf]; exact S.defers) (fun s=>?_)
 have v (i:Nat) (h:i<6):=S.val i (27+i) (by omega) (by rw [hD,if_pos h]) (hon i (by omega))
 rw [put_at _ _ _ _ (by simp only [put_size]; omega)]
 by_cases q5:s=32
 ·subst q5; rw [if_pos rfl]; exact v 5 (by omega)
 rw [if_neg q5,put_at _ _ _ _ (by simp only [put_size]; omega)]
 by_cases q4:s=31
 ·subst q4; rw [if_pos rfl]; exact v 4 (by omega)
 rw [if_neg q4,put_at _ _ _ _ (by simp only [put_size]; omega)]
 by_cases q3:s=30
 ·subst q3; rw [if_pos rfl]; exact v 3 (by omega)
 rw [if_neg q3,put_at _ _ _ _ (by simp only [put_size]; omega)]
 by_cases q2:s=29
 ·subst q2; rw [if_pos rfl]; exact v 2 (by omega)
 rw [if_neg q2,put_at _ _ _ _ (by simp only [put_size]; omega)]
 by_cases q1:s=28
 ·subst q1; rw [if_pos rfl]; exact v 1 (by omega)
 rw [if_neg q1,put_at _ _ _ _ (by omega)]
 by_cases q0:s=27
 ·subst q0; rw [if_pos rfl]; exact v 0 (by omega)
 rw [if_neg q0]
 refine S.rest s (fun i hi h=>?_)
 rw [hD] at h
 by_cases q:i<6
 ·rw [if_pos q] at h
  have:=Option.some.inj h; omega
 ·rw [if_neg q] at h; cases h
def puD (i:Nat):Option Nat:=if i<6 then some (27+i) else none
def puV (v:Value) (cells:List Value) (m Z g cap:Nat):Nat→Value
 | 0=>v
 | 1=>.agg cells.toArray
 | 2=>.int .i64 m
 | 3=>.slice (some ⟨Z,0,none⟩) 1 1
 | 4=>.slice (some ⟨g,0,none⟩) (m+1) cap
 | _=>.pointer (some ⟨g,m * 10,none⟩)
theorem puV_eq (v:Value) (cells:List Value) (m Z g cap g' cap':Nat) (j:Nat) (h:j<4):puV v cells m Z g cap j=puV v cells m Z g' cap' j:=by
 match j,h with
 | 0,_ | 1,_ | 2,_ | 3,_=>rfl
open Classical in
theorem ifc {α:Type} {p q:Prop} (h:p↔q) (a b:α):(if p then a else b)=if q then a else b:=by
 by_cases r:p
 ·rw [if_pos r,if_pos (h.1 r)]
 ·rw [if_neg r,if_neg (fun s=>r (h.2 s))]
open Classical in
/-- What is known between the operations. -/
structure PuJ (A:Nat→Prop) (N O I Z base:Nat) (v:Value) (xs:List Inl) (cells:List Value) (x:Inl) (w6:World) (a0:Act) (L:Array Bool) (a:Act) (w:World) (g cap:Nat):Prop where
 size:L.size=8
 slots:Slots 8 puD (puV v cells xs.length Z g cap) L a0 a
 c4:On L 4→∀ j,j<4→On L j
 c5:On L 5→On L 4
 c6:On L 6→On L 4
 c7:On L 7→On L 4
 lo:¬ On L 4→Kept w6 w∧(¬ On L 3→w.heap.size=Z)∧(On L 3→Blk w Z 71 zeroIn.toArray)
 hi:On L 4→OutG (InlK N) 10 A base 71 w (.slice (some ⟨g,0,none⟩) (xs.length+1) cap) (xs ++ [if On L 6 then x else .mk 0 [] [] [] [] [] [] [] [] []])∧Blk w O 57 #[if On L 7 then .slice (some ⟨g,0,none⟩) (xs.length+1) cap else v]∧Blk w I 71 cells.toArray∧InlK N (fun g'=>A g'∧g≠g') w cells x∧Only (fun i=>i=O∨base≤i) w6 w∧g≠I
def PuI (A:Nat→Prop) (N O I Z base:Nat) (v:Value) (xs:List Inl) (cells:List Value) (x:Inl) (w6:World) (a0:Act) (L:Array Bool) (a:Act) (w:World):Prop:=∃ g cap,PuJ A N O I Z base v xs cells x w6 a0 L a w g cap
theorem puD_inj (i:Nat):∀ j d,j<8→puD i=some d→puD j=some d→j=i:=by
 intro j d _ h1 h2
 unfold puD at h1 h2
 split at h1 <;> split at h2 <;> simp_all
 omega
theorem puD_lt (n i:Nat) (hz:33≤n):∀ d,puD i=some d→d<n:=by
 intro d h1
 unfold puD at h1
 split at h1 <;> simp at h1
 omega
theorem pu_quiet {A:Nat→Prop} {N O I Z base:Nat} {v:Value} {xs:List Inl} {cells:List Value} {x:Inl} {w6:World} {a0:Act} {L:Array Bool} {a:Act} {w:World} {g cap:Nat} (h:PuJ A N O I Z base v xs cells x w6 a0 L a w g cap) (hz:33≤a0.tmps.size) (i:Nat) (hi:i<8) (h3:i≠3) (h4:i≠4) (h6:i≠6) (h7:i≠7) (h5:i=5→On L 4) :
  PuI A N O I Z base v xs cells x w6 a0 (L.setIfInBounds i true) (a.put (puD i) (puV v cells xs.length Z g cap i)) w:=by
 refine ⟨g,cap,?_,h.slots.put i hi (by rw [h.size]; exact hi) (puD_inj i) (puD_lt _ i hz) _ (fun _=>rfl) (fun _ _ _=>rfl),?_,?_,?_,?_,?_,?_⟩
 ·rw [Array.size_setIfInBounds]; exact h.size
 ·intro q j hj
  exact on_mono (h.c4 ((on_ne h4).1 q) j hj)
 ·intro q
  rcases on_set q with q | q
  ·exact on_mono (h5 q.symm)
  ·exact on_mono (h.c5 q)
 ·intro q; exact on_mono (h.c6 ((on_ne h6).1 q))
 ·intro q; exact on_mono (h.c7 ((on_ne h7).1 q))
 ·intro q
  obtain ⟨k1,k2,k3⟩:=h.lo (fun r=>q (on_mono r))
  exact ⟨k1,fun r=>k2 (fun r'=>r (on_mono r')),fun r=>k3 ((on_ne h3).1 r)⟩
 ·intro q
  have:=h.hi ((on_ne h4).1 q)
  rw [ifc (on_ne h6),ifc (on_ne h7)]
  exact this
set_option maxRecDepth 100000 in
set_option maxHeartbeats 3200000 in
theorem push_region {A:Nat→Prop} {N O I base:Nat} {v:Value} {xs:List Inl} {cells:List Value} {x:Inl} {w:World} {a:Act} {Q:Exit→Act→World→Prop} {id:Nat} {o0 o1 o2 o3 o4 o5 o6 o7:Oper}
  (p0:o0.op=.load 57 (.tmp 1)) (p1:o1.op=.load 71 (.tmp 5)) (p2:o2.op=.call { callee:=.builtin .len,args:=#[.tmp 27],argTypes:=#[57] })
  (p3:o3.op=.buildSlice 57 1 #[(0,.const (.agg zeroIn.toArray))]) (p4:o4.op=.call { callee:=.builtin .append,args:=#[.tmp 27,.tmp 30],argTypes:=#[57,57] })
  (p5:o5.op=.indexAddr 57 (.tmp 31) (.tmp 29)) (p6:o6.op=.store 71 (.tmp 32) (.tmp 28)) (p7:o7.op=.store 57 (.tmp 1) (.tmp 31))
  (q0:o0.guard=none) (q1:o1.guard=none) (q2:o2.guard=none) (q3:o3.guard=none) (q4:o4.guard=none) (q5:o5.guard=none) (q6:o6.guard=none) (q7:o7.guard=none)
  (d0:o0.dst=some 27) (d1:o1.dst=some 28) (d2:o2.dst=some 29) (d3:o3.dst=some 30) (d4:o4.dst=some 31) (d5:o5.dst=some 32) (d6:o6.dst=none) (d7:o7.dst=none)
  (hm:Tryz.prog.follows .mixedOrders=true) (hac:acB #[o0,o1,o2,o3,o4,o5,o6,o7]=true)
  (e2:⟨0,.data⟩∈o2.after) (e40:⟨0,.data⟩∈o4.after) (e43:⟨3,.data⟩∈o4.after) (e41:⟨1,.phase⟩∈o4.after) (e42:⟨2,.phase⟩∈o4.after) (e54:⟨4,.data⟩∈o5.after) (e52:⟨2,.data⟩∈o5.after) (e65:⟨5,.data⟩∈o6.after) (e61:⟨1,.data⟩∈o6.after) (e64:⟨4,.chain⟩∈o6.after) (e74:⟨4,.data⟩∈o7.after)
  (hz:33≤a.tmps.size) (hx1:a.eval (.tmp 1)=.pointer (some ⟨O,0,none⟩)) (hx5:a.eval (.tmp 5)=.pointer (some ⟨I,0,none⟩))
  (hcl:cells.length=10) (hO:Blk w O 57 #[v]) (hI:Blk w I 71 cells.toArray) (hv:OutG (InlK N) 10 A base 71 w v xs)
  (hAO:∀ g,A g→g≠O) (hvO:v.ownBlock≠some O) (hvI:v.ownBlock≠some I) (hOI:O≠I) (hOb:O<base) (hbI:base≤I) (hy:InlK N (fun g=>A g∧v.ownBlock≠some g) w cells x) (hlen:xs.length+1≤1000001)
  (h:∀ u0 u1 u2 u3 u4 u5 g cap w',OutG (InlK N) 10 A base 71 w' (.slice (some ⟨g,0,none⟩) (xs.length+1) cap) (xs ++ [x])→Blk w' O 57 #[.slice (some ⟨g,0,none⟩) (xs.length+1) cap]→Only (fun i=>i=O∨base≤i) w w' →
   Q .normal ((((((a.put (some 27) u0).put (some 28) u1).put (some 29) u2).put (some 30) u3).put (some 31) u4).put (some 32) u5) w') :
  (Code.region id #[o0,o1,o2,o3,o4,o5,o6,o7] true).wp Tryz.prog Q a w:=by
 obtain ⟨i0,hi,hz0,hz1,hz2⟩:=info_parts Tryz.infoIn
 have hbase:base≤w.heap.size:=by have:=hI.lt; omega
 refine wp_region_inv (PuI A N O I w.heap.size base v xs cells x w a) hm (ac_of hac) ?_ ?_ ?_
 ·have hno:∀ i,¬ On (Array.replicate 8 false) i:=fun i=>not_on_start 8 i
  exact ⟨0,0,rfl,Slots.start 8 puD _ 8 a,fun q=>absurd q (hno _),fun q=>absurd q (hno _),fun q=>absurd q (hno _),fun q=>absurd q (hno _),fun _=>⟨kept_drewN w 1,fun _=>rfl,fun q=>absurd q (hno _)⟩,fun q=>absurd q (hno _)⟩
 ·intro L a1 w1 hI hall
  obtain ⟨g,cap,J⟩:=hI
  have hon:∀ i,i<8→On L i:=fun i hi=>by
   have:=hall i hi
   have hlt:i<L.size:=by have:=J.size; omega
   unfold On
   rw [Array.getD_eq_getD_getElem?,Array.getElem?_eq_getElem hlt] at this ⊢
   exact this
  obtain ⟨r1,r2,_,_,r5,_⟩:=J.hi (hon 4 (by omega))
  rw [if_pos (hon 6 (by omega))] at r1
  rw [if_pos (hon 7 (by omega))] at r2
  rw [slots6 J.slots (fun i=>rfl) hon hz]
  exact h _ _ _ _ _ _ g cap w1 r1 r2 r5
 ·intro L a1 w1 i hII hi8 hn hed
  obtain ⟨g,cap,J⟩:=hII
  have S:=J.slots
  have n0:=not_on hn
  have sx1:=(S.ext 1 (by intro i _; unfold puD; split <;> simp; omega)).trans hx1
  have sx5:=(S.ext 5 (by intro i _; unfold puD; split <;> simp; omega)).trans hx5
  replace hi8:i<8:=hi8
  obtain rfl | rfl | rfl | rfl | rfl | rfl | rfl | rfl:i=0∨i=1∨i=2∨i=3∨i=4∨i=5∨i=6∨i=7:=by omega
  · -- load of the list
   have n4:¬ On L 4:=fun q=>n0 (J.c4 q 0 (by omega))
   obtain ⟨hk,-,-⟩:=J.lo n4
   have t:=(hO.kept hk).cell 0 _ rfl
   refine step_value (o:=o0) rfl q0 (v:=v) (w':=w1) ?_ ?_
   ·simp only [execOp,p0,sx1]; simp [go_sem,t,Tryz.underlying57]
   ·rw [d0]; exact pu_quiet J hz 0 (by omega) (by omega) (by omega) (by omega) (by omega) (by omega)
  · -- load of the element
   have n4:¬ On L 4:=fun q=>n0 (J.c4 q 1 (by omega))
   obtain ⟨hk,-,-⟩:=J.lo n4
   refine op_list (o:=o1) rfl ?_
   refine wpList_load_blk q1 71 (.tmp 5) p1 I cells.toArray sx5 (hI.kept hk) _ Tryz.underlying71 rfl ?_ ?_
   ·rw [List.size_toArray,hcl]; exact Tryz.sizeIn
   ·rw [d1]; exact pu_quiet J hz 1 (by omega) (by omega) (by omega) (by omega) (by omega) (by omega)
  · -- its length
   have z:a1.eval (.tmp 27)=v:=S.eval 0 27 (by omega) rfl (hed _ rfl _ e2 rfl)
   obtain ⟨av,cv,hvv,_,_⟩:=hv.form
   refine step_value (o:=o2) rfl q2 (v:=.int .i64 xs.length) (w':=w1) ?_ ?_
   ·simp only [execOp,p2,resolve,invoke,builtin,Sem.run_bind,Sem.run_pure,Result.andThen_ok,List.map_toArray,List.map_cons,List.map_nil,z,hvv]; simp [go_sem,Tryz.underlying57]
   ·rw [d2]; exact pu_quiet J hz 2 (by omega) (by omega) (by omega) (by omega) (by omega) (by omega)
  · -- a row of one
   have n4:¬ On L 4:=fun q=>n0 (J.c4 q 3 (by omega))
   obtain ⟨hk,hsz,-⟩:=J.lo n4
   replace hsz:=hsz n0
   refine op_list (o:=o3) rfl ?_
   refine wpList_buildSlice q3 57 71 1 _ p3 zeroIn.toArray i0 _ Tryz.underlying57 hi hz0 (by rw [hz1]; decide) (by rw [hz1]; decide) (by rw [hz1]; kernel_rfl) ?_
   rw [d3,hsz]
   refine ⟨g,cap,by rw [Array.size_setIfInBounds]; exact J.size,S.put 3 (by omega) (by rw [J.size]; omega) (puD_inj 3) (puD_lt _ 3 hz) _ (fun _=>rfl) (fun _ _ _=>rfl),fun q=>absurd ((on_ne (by omega)).1 q) n4,fun q=>absurd (J.c5 ((on_ne (by omega)).1 q)) n4,fun q=>absurd (J.c6 ((on_ne (by omega)).1 q)) n4,fun q=>absurd (J.c7 ((on_ne (by omega)).1 q)) n4,fun _=>⟨hk.trans (kept_alloc _ _),fun q=>absurd (on_same (by rw [J.size]; omega)) q,fun _=>?_⟩,fun q=>absurd ((on_ne (by omega)).1 q) n4⟩
   have:=Blk.new w1 71 zeroIn.toArray
   rw [hsz] at this
   exact this
  · -- the append
   have f0:=hed _ rfl _ e40 rfl
   have f1:=hed _ rfl _ e41 rfl
   have f2:=hed _ rfl _ e42 rfl
   have f3:=hed _ rfl _ e43 rfl
   obtain ⟨hk,-,hzb⟩:=J.lo n0
   have hzb:=hzb f3
   have z0:a1.eval (.tmp 27)=v:=S.eval 0 27 (by omega) rfl f0
   have z3:a1.eval (.tmp 30)=.slice (some ⟨w.heap.size,0,none⟩) 1 1:=S.eval 3 30 (by omega) rfl f3
   have hv1:=hv.kept (inlK N) hk
   refine op_list (o:=o4) rfl ?_
   refine wpList_append_out (inlK N) q4 (.tmp 27) (.tmp 30) 57 p4 i0 _ 192 Tryz.underlying57 hi hz0 hz1 hz2 rfl (by omega) z0 hv1 w.heap.size zeroIn (.mk 0 [] [] [] [] [] [] [] [] []) z3 (fun j u hu=>hzb.cell j u (by rw [List.getElem?_toArray]; exact hu)) rfl (zero_in _ _ _) (by unfold maxLen; omega) (by omega) (Nat.le_trans hbase hk.size) _ rfl ?_
   intro g2 cap2 w2 hout hgrow hat hlt
   have hon:=Only.grown hgrow
   have hg2:g2≠I∧∀ g',v.ownBlock≠some g'→g'<w.heap.size→g2≠g':=by
    refine ⟨?_,fun g' hne hl=>?_⟩
    ·rcases hat with q | q
     ·intro e; exact hvI (by rw [q,e])
     ·have:=hI.lt; have:=hk.size; omega
    ·rcases hat with q | q
     ·intro e; exact hne (by rw [q,e])
     ·have:=hk.size; omega
   have n6:¬ On L 6:=fun q=>n0 (J.c6 q)
   have n7:¬ On L 7:=fun q=>n0 (J.c7 q)
   show PuI _ _ _ _ _ _ _ _ _ _ _ _ _ _ _
   rw [d4]
   refine ⟨g2,cap2,by rw [Array.size_setIfInBounds]; exact J.size,S.put 4 (by omega) (by rw [J.size]; omega) (puD_inj 4) (puD_lt _ 4 hz) _ (fun _=>rfl) (fun j hj ho=>?_),fun _ j hj=>on_mono ?_,fun q=>absurd (J.c5 ((on_ne (by omega)).1 q)) n0,fun q=>absurd (J.c6 ((on_ne (by omega)).1 q)) n0,fun q=>absurd (J.c7 ((on_ne (by omega)).1 q)) n0,fun q=>absurd (on_same (by rw [J.size]; omega)) q,fun _=>?_⟩
   ·refine puV_eq _ _ _ _ _ _ _ _ j ?_
    rcases Nat.lt_or_ge j 4 with q | q
    ·exact q
    ·exfalso
     obtain rfl | rfl | rfl | rfl:j=4∨j=5∨j=6∨j=7:=by omega
     ·exact n0 ho
     ·exact n0 (J.c5 ho)
     ·exact n6 ho
     ·exact n7 ho
   ·obtain rfl | rfl | rfl | rfl:j=0∨j=1∨j=2∨j=3:=by omega
    ·exact f0
    ·exact f1
    ·exact f2
    ·exact f3
   ·rw [if_neg (fun q=>n6 ((on_ne (by omega)).1 q)),if_neg (fun q=>n7 ((on_ne (by omega)).1 q))]
    have hO1:=hO.kept hk
    have hI1:=hI.kept hk
    refine ⟨hout,?_,?_,?_,?_,hg2.1⟩
    ·show w2.heap[O]? = _
     rw [hon.block O hO1.lt (fun q=>hvO q.symm)]; exact hO1
    ·show w2.heap[I]? = _
     rw [hon.block I hI1.lt (fun q=>hvI q.symm)]; exact hI1
    ·have hy1:=(inlK N).sam hy (Sam.kept hk) (fun _ _ q=>q)
     have hy2:InlK N (fun g=>g<w.heap.size∧A g∧v.ownBlock≠some g) w cells x:=(inlK N).sam hy (fun _ _ _=>rfl) (fun g hg q=>⟨hg,q⟩)
     exact (inlK N).sam ((inlK N).sam hy2 (Sam.kept hk) (fun _ _ q=>q)) (Sam.only hon (fun g _ q r=>q.2.2 r.symm)) (fun g' _ q=>⟨q.2.1,hg2.2 g' q.2.2 q.1⟩)
    ·refine (Only.of_kept hk).trans (hon.mono (fun i _ q=>.inr (hv.blk i q.symm).1))
  · -- the new element's place
   have f4:=hed _ rfl _ e54 rfl
   have z4:=S.eval 4 31 (by omega) rfl f4
   have z2:=S.eval 2 29 (by omega) rfl (hed _ rfl _ e52 rfl)
   obtain ⟨hout,-⟩:=J.hi f4
   obtain ⟨_,_,hvv,hcap,hmax⟩:=hout.form
   refine step_value (o:=o5) rfl q5 (v:=.pointer (some ⟨g,xs.length * 10,none⟩)) (w':=w1) ?_ ?_
   ·simp only [execOp,p5,z4,z2,puV]; simp [go_sem,Tryz.underlying57,Tryz.sizeIn]; intro hh; omega
   ·rw [d5]; exact pu_quiet J hz 5 (by omega) (by omega) (by omega) (by omega) (by omega) (fun _=>f4)
  · -- the element is stored
   have f5:=hed _ rfl _ e65 rfl
   have f4:=J.c5 f5
   have z5:=S.eval 5 32 (by omega) rfl f5
   have z1:=S.eval 1 28 (by omega) rfl (hed _ rfl _ e61 rfl)
   obtain ⟨hout,hO1,hI1,hy1,hon,hgI⟩:=J.hi f4
   rw [if_neg n0] at hout
   have hgb:=hout.blk g rfl
   refine op_list (o:=o6) rfl ?_
   refine wpList_store_out (inlK N) q6 (.tmp 32) (.tmp 28) p6 hout xs.length (by simp) cells x z5 z1 hcl Tryz.sizeIn hy1 ?_
   intro w2 hout2 hon2
   rw [List.set_append_right _ _ (Nat.le_refl _),Nat.sub_self,List.set_cons_zero] at hout2
   show PuI _ _ _ _ _ _ _ _ _ _ _ _ _ _ _
   rw [d6]
   refine ⟨g,cap,by rw [Array.size_setIfInBounds]; exact J.size,S.put 6 (by omega) (by rw [J.size]; omega) (puD_inj 6) (puD_lt _ 6 hz) _ (fun q=>by cases q) (fun _ _ _=>rfl),fun _ j hj=>on_mono (J.c4 f4 j hj),fun _=>on_mono f4,fun _=>on_mono f4,fun _=>on_mono f4,fun q=>absurd (on_mono f4) q,fun _=>?_⟩
   rw [if_pos (on_same (by rw [J.size]; omega)),ifc (on_ne (by omega))]
   refine ⟨hout2,?_,?_,(inlK N).sam hy1 (Sam.only hon2 (fun g' _ q r=>q.2 r.symm)) (fun _ _ q=>q),hon.trans (hon2.mono (fun i _ q=>.inr (by omega))),hgI⟩
   ·show w2.heap[O]? = _
    rw [hon2.block O hO1.lt (by omega)]; exact hO1
   ·show w2.heap[I]? = _
    rw [hon2.block I hI1.lt (fun q=>hgI q.symm)]; exact hI1
  · -- the list is stored
   have f4:=hed _ rfl _ e74 rfl
   have z4:=S.eval 4 31 (by omega) rfl f4
   obtain ⟨hout,hO1,hI1,hy1,hon,hgI⟩:=J.hi f4
   rw [if_neg n0] at hO1
   have hgb:=hout.blk g rfl
   have t:=hO1.cell 0 _ rfl
   have fr:=hO1.free 0
   have on2:=Only.setCell (w:=w1) O 0 (.slice (some ⟨g,0,none⟩) (xs.length+1) cap)
   refine step_skip (o:=o7) rfl q7 (w':=w1.setCell ⟨O,0,none⟩ (.slice (some ⟨g,0,none⟩) (xs.length+1) cap)) ?_ ?_
   ·simp only [execOp,p7,sx1,z4,puV]; simp [go_sem,t,fr,Tryz.underlying57]
   ·rw [d7]
    refine ⟨g,cap,by rw [Array.size_setIfInBounds]; exact J.size,S.put 7 (by omega) (by rw [J.size]; omega) (puD_inj 7) (puD_lt _ 7 hz) _ (fun q=>by cases q) (fun _ _ _=>rfl),fun _ j hj=>on_mono (J.c4 f4 j hj),fun _=>on_mono f4,fun _=>on_mono f4,fun _=>on_mono f4,fun q=>absurd (on_mono f4) q,fun _=>?_⟩
    rw [ifc (on_ne (by omega)),if_pos (on_same (by rw [J.size]; omega))]
    refine ⟨hout.only (inlK N) on2 (fun g' _ q _ r=>hAO g' q r) (fun g' q r=>by have e:g=g':=(by simpa [Value.ownBlock] using q); omega),hO1.set 0 _,?_,(inlK N).sam hy1 (Sam.only on2 (fun g' _ q r=>hAO g' q.1 r)) (fun _ _ q=>q),hon.trans (on2.mono (fun i _ q=>.inl q)),hgI⟩
    show (w1.setCell _ _).heap[I]? = _
    rw [on2.block I hI1.lt (fun q=>hOI q.symm)]; exact hI1
end Go.Proofs.YtmcoomlkbgiboaaGreatDoor

/- Regions that draw their order, by facts about the values that have been made, each of which stands while others are made; one last store. No condition. -/
set_option linter.all false
namespace Go.Proofs.YtmcoomlkbgiboaaGreatDoor
open Go.RowKit

def upd (V:Nat→Value) (i:Nat) (v:Value):Nat→Value:=fun j=>if j=i then v else V j
theorem upd_same (V:Nat→Value) (i:Nat) (v:Value):upd V i v i=v:=if_pos rfl
theorem upd_ne {V:Nat→Value} {i j:Nat} {v:Value} (h:j≠i):upd V i v j=V j:=if_neg h
/-- The act in which all slots have their values. -/
def putAll (D:Nat→Option Nat) (V:Nat→Value):Nat→Act→Act
 | 0,a=>a
 | n+1,a=>(putAll D V n a).put (D n) (V n)
theorem putAll_defers (D:Nat→Option Nat) (V:Nat→Value):∀ (n:Nat) (a:Act),(putAll D V n a).defers=a.defers
 | 0,_=>rfl
 | n+1,a=>by
  show ((putAll D V n a).put (D n) (V n)).defers=_
  rw [← putAll_defers D V n a]; cases D n <;> rfl
theorem put_size' (a:Act) (d:Option Nat) (v:Value):(a.put d v).tmps.size=a.tmps.size:=by cases d <;> simp [Act.put]
theorem putAll_size (D:Nat→Option Nat) (V:Nat→Value):∀ (n:Nat) (a:Act),(putAll D V n a).tmps.size=a.tmps.size
 | 0,_=>rfl
 | n+1,a=>by show ((putAll D V n a).put (D n) (V n)).tmps.size=_; rw [put_size',putAll_size D V n a]
theorem putAll_at {D:Nat→Option Nat} {V:Nat→Value}:∀ (n:Nat) (a:Act) (i d:Nat),i<n→D i=some d→(∀ j,j<n→D j=some d→j=i)→d<a.tmps.size→(putAll D V n a).tmps[d]? = some (V i)
 | 0,_,_,_,h,_,_,_=>absurd h (Nat.not_lt_zero _)
 | n+1,a,i,d,h,hd,hu,hs=>by
  show ((putAll D V n a).put (D n) (V n)).tmps[d]? = _
  by_cases q:i=n
  ·subst q
   rw [hd,put_at _ _ _ _ (by rw [putAll_size]; exact hs),if_pos rfl]
  ·have ih:=putAll_at (V:=V) n a i d (by omega) hd (fun j hj=>hu j (by omega)) hs
   cases hn:D n with
   | none=>exact ih
   | some e =>
    have hne:d≠e:=fun x=>q (hu n (by omega) (by rw [hn,x])).symm
    by_cases he:e<(putAll D V n a).tmps.size
    ·rw [put_at _ _ _ _ he,if_neg hne]; exact ih
    ·show ((putAll D V n a).tmps.setIfInBounds e (V n))[d]? = _
     rw [Array.getElem?_setIfInBounds_ne (fun x=>hne x.symm)]; exact ih
theorem putAll_rest {D:Nat→Option Nat} {V:Nat→Value}:∀ (n:Nat) (a:Act) (s:Nat),(∀ j,j<n→D j≠some s)→(putAll D V n a).tmps[s]? = a.tmps[s]?
 | 0,_,_,_=>rfl
 | n+1,a,s,h=>by
  show ((putAll D V n a).put (D n) (V n)).tmps[s]? = _
  have ih:=putAll_rest (V:=V) n a s (fun j hj=>h j (by omega))
  cases hn:D n with
  | none=>exact ih
  | some e =>
   have hne:s≠e:=fun x=>h n (by omega) (by rw [hn,x])
   show ((putAll D V n a).tmps.setIfInBounds e (V n))[s]? = _
   rw [Array.getElem?_setIfInBounds_ne (fun x=>hne x.symm)]; exact ih
theorem slots_all {n:Nat} {D:Nat→Option Nat} {V:Nat→Value} {L:Array Bool} {a0 a:Act} (S:Slots n D V L a0 a) (hinj:∀ i j d,i<n→j<n→D i=some d→D j=some d→j=i) (hlt:∀ i d,i<n→D i=some d→d<a0.tmps.size) (hon:∀ i,i<n→On L i):a=putAll D V n a0:=by
 refine act_ext (by rw [putAll_defers]; exact S.defers) (fun s=>?_)
 by_cases h:∃ i,i<n∧D i=some s
 ·obtain ⟨i,hi,hd⟩:=h
  rw [S.val i s hi hd (hon i hi),putAll_at n a0 i s hi hd (fun j hj e=>hinj i j s hi hj hd e) (hlt i s hi hd)]
 ·rw [S.rest s (fun i hi e=>h ⟨i,hi,e⟩),putAll_rest n a0 s (fun i hi e=>h ⟨i,hi,e⟩)]
section
variable {P:Program} {ops:Array Oper} {Q:Exit→Act→World→Prop}
/-- What an operation does, where it puts it. -/
def OpAt (ops:Array Oper) (i:Nat) (op:Op) (d:Option Nat):Prop:=∃ o,ops[i]? = some o∧o.op=op∧o.guard=none∧o.dst=d
/-- The slots of a region, one for each operation. -/
def dstB (ops:Array Oper) (i:Nat):Option Nat:=(ops[i]?).bind (·.dst)
def edgB (o:Oper) (j:Nat):Bool:=o.after.any fun e=>Region.binds .any e && e.on == j
/-- A region's edges and slots as the law wants them: s its last store, `ea` what goes ahead of it, `dep` what each leans on. -/
def facB (ops:Array Oper) (n s:Nat) (ea dep:Array (List Nat)) (m:Nat):Bool :=
 ops.size == n && decide (s<n) && acB ops &&
 ((
    List.range n).all fun i=>match ops[i]? with
    | none=>false
    | some o=>((dep.getD i []).all fun j=>j != i && decide (j<n) && o.after.any fun e=>Region.binds .any e && (e.on == j || (dep.getD e.on []).contains j)) &&
     (match o.dst with | none=>true | some d=>decide (d<m) && (List.range n).all fun j=>j == i || dstB ops j != some d)) &&
 ((ea.getD 0 []).all fun i=>decide (i<s) && (match ops[s]? with | none=>false | some o=>edgB o i))
theorem facB_ac {n s m:Nat} {ea dep:Array (List Nat)} (h:facB ops n s ea dep m=true):ops.size=n∧s<n∧acB ops=true:=by
 unfold facB at h
 simp only [Bool.and_eq_true,beq_iff_eq,decide_eq_true_eq] at h
 exact ⟨h.1.1.1.1,h.1.1.1.2,h.1.1.2⟩
theorem facB_ops {n s m:Nat} {ea dep:Array (List Nat)} (h:facB ops n s ea dep m=true) {i:Nat} {o:Oper} (ho:ops[i]? = some o) :
  (∀ j∈dep.getD i [],j≠i∧j<n∧∃ e∈o.after,Region.binds .any e=true∧(e.on=j∨j∈dep.getD e.on []))∧(∀ d,o.dst=some d→d<m∧∀ j,j<n→dstB ops j=some d→j=i):=by
 have hn:=(facB_ac h).1
 unfold facB at h
 simp only [Bool.and_eq_true] at h
 have h1:=List.all_eq_true.1 h.1.2 i (List.mem_range.2 (by rw [← hn]; exact (Array.getElem?_eq_some_iff.1 ho).1))
 rw [ho] at h1
 simp only [Bool.and_eq_true] at h1
 obtain ⟨h2,h3⟩:=h1
 refine ⟨fun j hj=>?_,fun d hd=>?_⟩
 ·have:=List.all_eq_true.1 h2 j hj
  simp only [Bool.and_eq_true,bne_iff_ne,decide_eq_true_eq] at this
  obtain ⟨⟨q1,q2⟩,q3⟩:=this
  obtain ⟨k,hk,q⟩:=Array.any_eq_true.1 q3
  simp only [Bool.and_eq_true,Bool.or_eq_true,beq_iff_eq,List.contains_iff_mem] at q
  exact ⟨q1,q2,_,Array.getElem_mem hk,q.1,q.2⟩
 ·rw [hd] at h3
  simp only [Bool.and_eq_true,decide_eq_true_eq] at h3
  refine ⟨h3.1,fun j hj hdj=>?_⟩
  have:=List.all_eq_true.1 h3.2 j (List.mem_range.2 hj)
  simp only [Bool.or_eq_true,beq_iff_eq,bne_iff_ne] at this
  rcases this with q | q
  ·exact q
  ·exact absurd hdj q
theorem facB_ea {n s m:Nat} {ea dep:Array (List Nat)} (h:facB ops n s ea dep m=true) {i:Nat} (hi:i∈ea.getD 0 []) {o:Oper} (ho:ops[s]? = some o):i<s∧∃ e∈o.after,Region.binds .any e=true∧e.on=i:=by
 unfold facB at h
 simp only [Bool.and_eq_true] at h
 have h1:=List.all_eq_true.1 h.2 i hi
 rw [ho] at h1
 simp only [Bool.and_eq_true,decide_eq_true_eq] at h1
 obtain ⟨q1,q2⟩:=h1
 unfold edgB at q2
 obtain ⟨k,hk,q⟩:=Array.any_eq_true.1 q2
 simp only [Bool.and_eq_true,beq_iff_eq] at q
 exact ⟨q1,_,Array.getElem_mem hk,q.1,q.2⟩
end
end Go.Proofs.YtmcoomlkbgiboaaGreatDoor

/- Regions that draw their order, by facts, where the last operation's slot is read before. No condition. -/
set_option linter.all false
namespace Go.Proofs.YtmcoomlkbgiboaaGreatDoor
open Go.RowKit

/-- The slots of what has not been done are as they were. -/
def Late (n:Nat) (D:Nat→Option Nat) (L:Array Bool) (a0 a:Act):Prop:=∀ i d,i<n→D i=some d→¬ On L i→a.tmps[d]? = a0.tmps[d]?
theorem Late.eval {n:Nat} {D:Nat→Option Nat} {L:Array Bool} {a0 a:Act} (h:Late n D L a0 a) (i d:Nat) (hi:i<n) (hd:D i=some d) (ho:¬ On L i):a.eval (.tmp d)=a0.eval (.tmp d):=by
 show a.tmps.getD d undef=a0.tmps.getD d undef
 rw [Array.getD_eq_getD_getElem?,Array.getD_eq_getD_getElem?,h i d hi hd ho]
theorem Late.put {n:Nat} {D:Nat→Option Nat} {L:Array Bool} {a0 a:Act} (h:Late n D L a0 a) (i:Nat) (hi:i<n) (hinj:∀ j d,j<n→D i=some d→D j=some d→j=i) (hL:i<L.size) (v:Value):Late n D (L.setIfInBounds i true) a0 (a.put (D i) v):=by
 intro j d hj hd ho
 have hji:j≠i:=fun e=>ho (by rw [e]; exact on_same hL)
 have h0:=h j d hj hd (fun q=>ho (on_mono q))
 cases hdi:D i with
 | none=>exact h0
 | some e =>
  have hne:e≠d:=fun q=>hji (hinj j d hj (by rw [hdi,q]) hd)
  show (a.tmps.setIfInBounds e v)[d]? = _
  rw [Array.getElem?_setIfInBounds_ne hne]; exact h0
section
variable {P:Program} {ops:Array Oper} {Q:Exit→Act→World→Prop}
/-- Between the operations: the values that have been made, and what is known of them. -/
def FacIL (n s:Nat) (D:Nat→Option Nat) (ea:List Nat) (dep:Nat→List Nat) (F:Nat→(Nat→Value)→World→Prop) (G:World→Prop) (Fin:(Nat→Value)→World→Prop) (a0:Act) (L:Array Bool) (a:Act) (w:World):Prop :=
 L.size=n∧∃ V,Slots n D V L a0 a∧Late n D L a0 a∧(∀ j,j<n→On L j→∀ i∈dep j,On L i)∧(¬ On L s→G w∧∀ j,j<n→On L j→F j V w)∧(On L s→Fin V w∧(∀ i∈ea,On L i)∧∀ j,j<n→On L j→j≠s→j ∉ ea→F j V w)
/-- A region that draws its order: s is its last store; what need not go ahead of it makes values alone. -/
theorem wp_region_factsL {id:Nat} {a:Act} {w:World} (n s m:Nat) (ea dep:Array (List Nat)) (hc:facB ops n s ea dep m=true) (hm:P.follows .mixedOrders=true) (hz:m≤a.tmps.size)
  (F:Nat→(Nat→Value)→World→Prop) (G:World→Prop) (St:World→World→Prop) (Fin:(Nat→Value)→World→Prop)
  (hloc:∀ j,j<n→∀ V V' w,(∀ i,i=j∨i∈dep.getD j []→V i=V' i)→F j V w→F j V' w)
  (hfin:∀ V V' w,(∀ i,i=s∨i∈ea.getD 0 []→V i=V' i)→Fin V w→Fin V' w)
  (hst:∀ j,j<n→j≠s→∀ V w w',F j V w→St w w'→F j V w')
  (hfree:∀ j,j<n→j≠s→j ∉ ea.getD 0 []→∀ V w w',F j V w→F j V w')
  (hG0:G w.drew)
  (hstep:∀ i,i<n→i≠s→∀ V a' w',G w'→(∀ j∈dep.getD i [],F j V w'∧∀ d,dstB ops j=some d→a'.eval (.tmp d)=V j)→(∀ t,(∀ j,j<n→dstB ops j≠some t)→a'.eval (.tmp t)=a.eval (.tmp t))→(∀ d,dstB ops s=some d→a'.eval (.tmp d)=a.eval (.tmp d)) →
   ∀ K:Act→World→Prop,(∀ v w'',St w' w''→G w''→F i (upd V i v) w''→K (a'.put (dstB ops i) v) w'')→wpOp P ops Q i K a' w')
  (hlast:∀ V a' w',G w'→(∀ j∈ea.getD 0 [],F j V w'∧∀ d,dstB ops j=some d→a'.eval (.tmp d)=V j)→(∀ t,(∀ j,j<n→dstB ops j≠some t)→a'.eval (.tmp t)=a.eval (.tmp t)) →
   ∀ K:Act→World→Prop,(∀ v w'',Fin (upd V s v) w''→K (a'.put (dstB ops s) v) w'')→wpOp P ops Q s K a' w')
  (hafter:∀ i,i<n→i≠s→i ∉ ea.getD 0 []→∀ V a' w',Fin V w'→(∀ j∈dep.getD i [],(j≠s→j ∉ ea.getD 0 []→F j V w')∧∀ d,dstB ops j=some d→a'.eval (.tmp d)=V j) →
   ∀ K:Act→World→Prop,(∀ v,F i (upd V i v) w'→K (a'.put (dstB ops i) v) w')→wpOp P ops Q i K a' w')
  (hend:∀ V w',Fin V w'→(∀ j,j<n→j≠s→j ∉ ea.getD 0 []→F j V w')→Q .normal (putAll (dstB ops) V n a) w') :
  (Code.region id ops true).wp P Q a w:=by
 obtain ⟨hn,hs,hac⟩:=facB_ac hc
 have hO:∀ i,i<n→∃ o,ops[i]? = some o:=fun i hi=>⟨_,Array.getElem?_eq_getElem (by rw [hn]; exact hi)⟩
 have hdo:∀ {i:Nat} {o:Oper},ops[i]? = some o→dstB ops i=o.dst:=fun h=>by unfold dstB; rw [h]; rfl
 have hinj:∀ i j d,i<n→j<n→dstB ops i=some d→dstB ops j=some d→j=i:=fun i j d hi hj h1 h2=>by
  obtain ⟨o,ho⟩:=hO i hi
  exact ((facB_ops hc ho).2 d (by rw [← hdo ho]; exact h1)).2 j hj h2
 have hlt:∀ i d,i<n→dstB ops i=some d→d<a.tmps.size:=fun i d hi h1=>by
  obtain ⟨o,ho⟩:=hO i hi
  exact Nat.lt_of_lt_of_le ((facB_ops hc ho).2 d (by rw [← hdo ho]; exact h1)).1 hz
 subst hn
 generalize hD:dstB ops=D at *
 generalize hE:ea.getD 0 []=E at *
 refine wp_region_inv (FacIL ops.size s D E (fun i=>dep.getD i []) F G Fin a) hm (ac_of hac) ?_ ?_ ?_
 ·have hno:∀ i,¬ On (Array.replicate ops.size false) i:=fun i=>not_on_start ops.size i
  exact ⟨by simp,fun _=>undef,Slots.start _ _ _ _ _,fun _ _ _ _ _=>rfl,fun j _ h=>absurd h (hno j),fun _=>⟨hG0,fun j _ h=>absurd h (hno j)⟩,fun h=>absurd h (hno s)⟩
 ·intro L a1 w1 ⟨hsz,V,S,_,_,_,h4⟩ hall
  have hon:∀ i,i<ops.size→On L i:=fun i hi=>by
   have:=hall i hi
   unfold On
   rw [Array.getD_eq_getD_getElem?,Array.getElem?_eq_getElem (by omega)] at this ⊢
   exact this
  rw [slots_all S hinj hlt hon]
  exact hend V w1 (h4 (hon s hs)).1 fun j hj q1 q2=>(h4 (hon s hs)).2.2 j hj (hon j hj) q1 q2
 ·intro L a1 w1 i ⟨hsz,V,S,SL,h2,h3,h4⟩ hi hn hed
  obtain ⟨o,ho⟩:=hO i hi
  have n0:=not_on hn
  have hdon:∀ j∈dep.getD i [],On L j∧j≠i∧j<ops.size:=fun j hj=>by
   obtain ⟨q1,q0,e,he,hb,q⟩:=(facB_ops hc ho).1 j hj
   have h5:=hed o ho e he hb
   refine ⟨?_,q1,q0⟩
   rcases q with rfl | q
   ·exact h5
   ·have hlt2:e.on<ops.size:=by
     have:=ac_of hac i o ho e he hb; omega
    exact h2 e.on hlt2 h5 j q
  have hev:∀ j,j<ops.size→On L j→∀ d,D j=some d→a1.eval (.tmp d)=V j:=fun j hj h d hd=>S.eval j d hj hd h
  have hrest:∀ t,(∀ j,j<ops.size→D j≠some t)→a1.eval (.tmp t)=a.eval (.tmp t):=fun t ht=>S.ext t ht
  have hput:∀ v,Slots ops.size D (upd V i v) (L.setIfInBounds i true) a (a1.put (D i) v):=fun v=>S.put i hi (by omega) (fun j d hj h5 h6=>hinj i j d hi hj h5 h6) (fun d hd=>hlt i d hi hd) v (fun _=>(upd_same V i v).symm) (fun j _ hj=>(upd_ne (fun e=>n0 (by rw [← e]; exact hj))).symm)
  have hlate:∀ v,Late ops.size D (L.setIfInBounds i true) a (a1.put (D i) v):=fun v=>SL.put i hi (fun j d hj h5 h6=>hinj i j d hi hj h5 h6) (by omega) v
  have hcl:∀ j,j<ops.size→On (L.setIfInBounds i true) j→∀ k∈dep.getD j [],On (L.setIfInBounds i true) k:=fun j hj h k hk=>by
   rcases on_set h with rfl | q
   ·exact on_mono (hdon k hk).1
   ·exact on_mono (h2 j hj q k hk)
  have hFl:∀ v w2 j,j<ops.size→On L j→F j V w2→F j (upd V i v) w2:=fun v w2 j hj q h6=>by
   refine hloc j hj V (upd V i v) w2 (fun k hk=>(upd_ne ?_).symm) h6
   rintro rfl
   rcases hk with rfl | hk
   ·exact n0 q
   ·exact n0 (h2 j hj q k hk)
  by_cases his:i=s
  ·subst his
   obtain ⟨hG,hFs⟩:=h3 n0
   have hall:∀ j∈E,j<ops.size∧On L j∧j≠i:=fun j hj=>by
    obtain ⟨q,e,he,hb,rfl⟩:=facB_ea hc (by rw [hE]; exact hj) ho
    exact ⟨by omega,hed o ho e he hb,by omega⟩
   refine hlast V a1 w1 hG (fun j hj=>⟨hFs j (hall j hj).1 (hall j hj).2.1,hev j (hall j hj).1 (hall j hj).2.1⟩) hrest _ (fun v w2 k1=>?_)
   refine ⟨by rw [Array.size_setIfInBounds]; exact hsz,upd V i v,hput v,hlate v,hcl,fun h=>absurd (on_same (by omega)) h,fun _=>⟨k1,fun j hj=>on_mono (hall j hj).2.1,fun j hj h q1 q2=>?_⟩⟩
   rcases on_set h with q | q
   ·exact absurd q q1
   ·exact hFl v w2 j hj q (hfree j hj q1 q2 V w1 w2 (hFs j hj q))
  ·have hso:On (L.setIfInBounds i true) s→On L s:=fun h=>by
    rcases on_set h with q | q
    ·exact absurd q.symm his
    ·exact q
   by_cases hos:On L s
   ·obtain ⟨hF,hEa,hFr⟩:=h4 hos
    have hiE:i ∉ E:=fun q=>n0 (hEa i q)
    refine hafter i hi his hiE V a1 w1 hF (fun j hj=>⟨fun q1 q2=>hFr j (hdon j hj).2.2 (hdon j hj).1 q1 q2,hev j (hdon j hj).2.2 (hdon j hj).1⟩) _ (fun v k1=>?_)
    refine ⟨by rw [Array.size_setIfInBounds]; exact hsz,upd V i v,hput v,hlate v,hcl,fun h=>absurd (on_mono hos) h,fun _=>⟨hfin V _ w1 (fun k hk=>(upd_ne ?_).symm) hF,fun j hj=>on_mono (hEa j hj),fun j hj h q1 q2=>?_⟩⟩
    ·rintro rfl
     rcases hk with q | q
     ·exact his q
     ·exact hiE q
    ·rcases on_set h with rfl | q
     ·exact k1
     ·exact hFl v w1 j hj q (hFr j hj q q1 q2)
   ·obtain ⟨hG,hFs⟩:=h3 hos
    refine hstep i hi his V a1 w1 hG (fun j hj=>⟨hFs j (hdon j hj).2.2 (hdon j hj).1,hev j (hdon j hj).2.2 (hdon j hj).1⟩) hrest (fun d hd=>SL.eval s d hs hd hos) _ (fun v w2 k1 k2 k3=>?_)
    refine ⟨by rw [Array.size_setIfInBounds]; exact hsz,upd V i v,hput v,hlate v,hcl,fun _=>⟨k2,fun j hj h=>?_⟩,fun h=>absurd (hso h) hos⟩
    rcases on_set h with rfl | q
    ·exact k3
    ·exact hFl v w2 j hj q (hst j hj (fun e=>hos (e ▸ q)) V w1 w2 (hFs j hj q) k1)
end
end Go.Proofs.YtmcoomlkbgiboaaGreatDoor

/- The operations of a drawn region, one by one. No condition. -/
set_option linter.all false
namespace Go.Proofs.YtmcoomlkbgiboaaGreatDoor
open Go.RowKit

section
variable {P:Program} {ops:Array Oper} {Q:Exit→Act→World→Prop}
theorem opAt_dst {i:Nat} {op:Op} {d:Option Nat} (h:OpAt ops i op d):dstB ops i=d:=by
 obtain ⟨o,ho,-,-,hd⟩:=h; unfold dstB; rw [ho]; exact hd
theorem opAt_value {i:Nat} {op:Op} {d:Option Nat} {a:Act} {w w':World} {v:Value} {K:Act→World→Prop} (h:OpAt ops i op d) (hr:∀ o:Oper,o.op=op→(execOp a.eval o).run P w=.ok (.value v) w') (hk:K (a.put (dstB ops i) v) w'):wpOp P ops Q i K a w:=by
 rw [opAt_dst h] at hk
 obtain ⟨o,ho,hop,hg,hd⟩:=h
 exact step_value ho hg (hr o hop) (by rw [hd]; exact hk)
theorem opAt_enter {i:Nat} {op:Op} {d:Option Nat} {a:Act} {w w':World} {f:FuncId} {args:Array Value} {K:Act→World→Prop} (h:OpAt ops i op d) (hr:∀ o:Oper,o.op=op→(execOp a.eval o).run P w=.ok (.enter f args) w')
  (hc:Calls P f args w' fun e w''=>∃ v,e=.returned v∧K (a.put (dstB ops i) v) w''):wpOp P ops Q i K a w:=by
 rw [opAt_dst h] at hc
 obtain ⟨o,ho,hop,hg,hd⟩:=h
 exact step_enter ho hg (hr o hop) (by rw [hd]; exact hc)
theorem opAt_list {i:Nat} {op:Op} {d:Option Nat} {a:Act} {w:World} {K:Act→World→Prop} (h:OpAt ops i op d) (hl:∀ o:Oper,o.op=op→o.guard=none→o.dst=dstB ops i→wpList P ops (QK Q K) [o] a w):wpOp P ops Q i K a w:=by
 have e:=opAt_dst h
 obtain ⟨o,ho,hop,hg,hd⟩:=h
 exact op_list ho (hl o hop hg (by rw [hd,e]))
theorem op_move {i:Nat} {x:Operand} {d:Option Nat} {a:Act} {w:World} {K:Act→World→Prop} (h:OpAt ops i (.move x) d) {v:Value} (hx:a.eval x=v) (hk:K (a.put (dstB ops i) v) w):wpOp P ops Q i K a w :=
 opAt_value h (fun o ho=>by simp only [execOp,ho,hx]; simp [go_sem]) hk
theorem op_assign {i:Nat} {x:Operand} {d:Option Nat} {a:Act} {w:World} {K:Act→World→Prop} (h:OpAt ops i (.assign x) d) {v:Value} (hx:a.eval x=v) (hk:K (a.put (dstB ops i) v) w):wpOp P ops Q i K a w :=
 opAt_value h (fun o ho=>by simp only [execOp,ho,hx]; simp [go_sem]) hk
end
end Go.Proofs.YtmcoomlkbgiboaaGreatDoor
