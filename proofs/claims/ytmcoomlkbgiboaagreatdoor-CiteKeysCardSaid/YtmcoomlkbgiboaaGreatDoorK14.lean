/- Regions that draw their order, by facts, where the last operation's slot is read before. No condition. -/
import Derived.Test.YtmcoomlkbgiboaaGreatDoorK13
import Derived.Test.YtmcoomlkbgiboaaGreatDoorK11
import Derived.Test.YtmcoomlkbgiboaaGreatDoorK12

set_option linter.all false
namespace Go.Proofs.YtmcoomlkbgiboaaGreatDoor
open Go.RowKit

/-- The slots of what has not been done are as they were. -/
def Late (n:Nat) (D:Nat→Option Nat) (L:Array Bool) (a0 a:Act):Prop:=∀ i d,i<n→D i=some d→¬ On L i→a.tmps[d]? = a0.tmps[d]?
theorem Late.eval {n:Nat} {D:Nat→Option Nat} {L:Array Bool} {a0 a:Act} (h:Late n D L a0 a) (i d:Nat) (hi:i<n) (hd:D i=some d) (ho:¬ On L i):a.eval (.tmp d)=a0.eval (.tmp d):=by
 show a.tmps.getD d undef=a0.tmps.getD d undef
 rw [Array.getD_eq_getD_getElem?,Array.getD_eq_getD_getElem?,h i d hi hd ho]
theorem Late.put {n:Nat} {D:Nat→Option Nat} {L:Array Bool} {a0 a:Act} (h:Late n D L a0 a) (i:Nat) (hi:i<n) (hinj:∀ j d,j<n→D i=some d→D j=some d→j=i) (hL:i<L.size) (v:Value):Late n D (L.setIfInBounds i true) a0 (a.put (D i) v):=by
 intro j d hj hd ho
 have hji:j≠i:=fun e=>ho (by rw [e]; exact on_same hL)
 have h0:=h j d hj hd (fun q=>ho (on_mono q))
 cases hdi:D i with
 | none=>exact h0
 | some e =>
  have hne:e≠d:=fun q=>hji (hinj j d hj (by rw [hdi,q]) hd)
  show (a.tmps.setIfInBounds e v)[d]? = _
  rw [Array.getElem?_setIfInBounds_ne hne]; exact h0
section
variable {P:Program} {ops:Array Oper} {Q:Exit→Act→World→Prop}
/-- Between the operations: the values that have been made, and what is known of them. -/
def FacIL (n s:Nat) (D:Nat→Option Nat) (ea:List Nat) (dep:Nat→List Nat) (F:Nat→(Nat→Value)→World→Prop) (G:World→Prop) (Fin:(Nat→Value)→World→Prop) (a0:Act) (L:Array Bool) (a:Act) (w:World):Prop :=
 L.size=n∧∃ V,Slots n D V L a0 a∧Late n D L a0 a∧(∀ j,j<n→On L j→∀ i∈dep j,On L i)∧(¬ On L s→G w∧∀ j,j<n→On L j→F j V w)∧(On L s→Fin V w∧(∀ i∈ea,On L i)∧∀ j,j<n→On L j→j≠s→j ∉ ea→F j V w)
/-- A region that draws its order: s is its last store; what need not go ahead of it makes values alone. -/
theorem wp_region_factsL {id:Nat} {a:Act} {w:World} (n s m:Nat) (ea dep:Array (List Nat)) (hc:facB ops n s ea dep m=true) (hm:P.follows .mixedOrders=true) (hz:m≤a.tmps.size)
  (F:Nat→(Nat→Value)→World→Prop) (G:World→Prop) (St:World→World→Prop) (Fin:(Nat→Value)→World→Prop)
  (hloc:∀ j,j<n→∀ V V' w,(∀ i,i=j∨i∈dep.getD j []→V i=V' i)→F j V w→F j V' w)
  (hfin:∀ V V' w,(∀ i,i=s∨i∈ea.getD 0 []→V i=V' i)→Fin V w→Fin V' w)
  (hst:∀ j,j<n→j≠s→∀ V w w',F j V w→St w w'→F j V w')
  (hfree:∀ j,j<n→j≠s→j ∉ ea.getD 0 []→∀ V w w',F j V w→F j V w')
  (hG0:G w.drew)
  (hstep:∀ i,i<n→i≠s→∀ V a' w',G w'→(∀ j∈dep.getD i [],F j V w'∧∀ d,dstB ops j=some d→a'.eval (.tmp d)=V j)→(∀ t,(∀ j,j<n→dstB ops j≠some t)→a'.eval (.tmp t)=a.eval (.tmp t))→(∀ d,dstB ops s=some d→a'.eval (.tmp d)=a.eval (.tmp d)) →
   ∀ K:Act→World→Prop,(∀ v w'',St w' w''→G w''→F i (upd V i v) w''→K (a'.put (dstB ops i) v) w'')→wpOp P ops Q i K a' w')
  (hlast:∀ V a' w',G w'→(∀ j∈ea.getD 0 [],F j V w'∧∀ d,dstB ops j=some d→a'.eval (.tmp d)=V j)→(∀ t,(∀ j,j<n→dstB ops j≠some t)→a'.eval (.tmp t)=a.eval (.tmp t)) →
   ∀ K:Act→World→Prop,(∀ v w'',Fin (upd V s v) w''→K (a'.put (dstB ops s) v) w'')→wpOp P ops Q s K a' w')
  (hafter:∀ i,i<n→i≠s→i ∉ ea.getD 0 []→∀ V a' w',Fin V w'→(∀ j∈dep.getD i [],(j≠s→j ∉ ea.getD 0 []→F j V w')∧∀ d,dstB ops j=some d→a'.eval (.tmp d)=V j) →
   ∀ K:Act→World→Prop,(∀ v,F i (upd V i v) w'→K (a'.put (dstB ops i) v) w')→wpOp P ops Q i K a' w')
  (hend:∀ V w',Fin V w'→(∀ j,j<n→j≠s→j ∉ ea.getD 0 []→F j V w')→Q .normal (putAll (dstB ops) V n a) w') :
  (Code.region id ops true).wp P Q a w:=by
 obtain ⟨hn,hs,hac⟩:=facB_ac hc
 have hO:∀ i,i<n→∃ o,ops[i]? = some o:=fun i hi=>⟨_,Array.getElem?_eq_getElem (by rw [hn]; exact hi)⟩
 have hdo:∀ {i:Nat} {o:Oper},ops[i]? = some o→dstB ops i=o.dst:=fun h=>by unfold dstB; rw [h]; rfl
 have hinj:∀ i j d,i<n→j<n→dstB ops i=some d→dstB ops j=some d→j=i:=fun i j d hi hj h1 h2=>by
  obtain ⟨o,ho⟩:=hO i hi
  exact ((facB_ops hc ho).2 d (by rw [← hdo ho]; exact h1)).2 j hj h2
 have hlt:∀ i d,i<n→dstB ops i=some d→d<a.tmps.size:=fun i d hi h1=>by
  obtain ⟨o,ho⟩:=hO i hi
  exact Nat.lt_of_lt_of_le ((facB_ops hc ho).2 d (by rw [← hdo ho]; exact h1)).1 hz
 subst hn
 generalize hD:dstB ops=D at *
 generalize hE:ea.getD 0 []=E at *
 refine wp_region_inv (FacIL ops.size s D E (fun i=>dep.getD i []) F G Fin a) hm (ac_of hac) ?_ ?_ ?_
 ·have hno:∀ i,¬ On (Array.replicate ops.size false) i:=fun i=>not_on_start ops.size i
  exact ⟨by simp,fun _=>undef,Slots.start _ _ _ _ _,fun _ _ _ _ _=>rfl,fun j _ h=>absurd h (hno j),fun _=>⟨hG0,fun j _ h=>absurd h (hno j)⟩,fun h=>absurd h (hno s)⟩
 ·intro L a1 w1 ⟨hsz,V,S,_,_,_,h4⟩ hall
  have hon:∀ i,i<ops.size→On L i:=fun i hi=>by
   have:=hall i hi
   unfold On
   rw [Array.getD_eq_getD_getElem?,Array.getElem?_eq_getElem (by omega)] at this ⊢
   exact this
  rw [slots_all S hinj hlt hon]
  exact hend V w1 (h4 (hon s hs)).1 fun j hj q1 q2=>(h4 (hon s hs)).2.2 j hj (hon j hj) q1 q2
 ·intro L a1 w1 i ⟨hsz,V,S,SL,h2,h3,h4⟩ hi hn hed
  obtain ⟨o,ho⟩:=hO i hi
  have n0:=not_on hn
  have hdon:∀ j∈dep.getD i [],On L j∧j≠i∧j<ops.size:=fun j hj=>by
   obtain ⟨q1,q0,e,he,hb,q⟩:=(facB_ops hc ho).1 j hj
   have h5:=hed o ho e he hb
   refine ⟨?_,q1,q0⟩
   rcases q with rfl | q
   ·exact h5
   ·have hlt2:e.on<ops.size:=by
     have:=ac_of hac i o ho e he hb; omega
    exact h2 e.on hlt2 h5 j q
  have hev:∀ j,j<ops.size→On L j→∀ d,D j=some d→a1.eval (.tmp d)=V j:=fun j hj h d hd=>S.eval j d hj hd h
  have hrest:∀ t,(∀ j,j<ops.size→D j≠some t)→a1.eval (.tmp t)=a.eval (.tmp t):=fun t ht=>S.ext t ht
  have hput:∀ v,Slots ops.size D (upd V i v) (L.setIfInBounds i true) a (a1.put (D i) v):=fun v=>S.put i hi (by omega) (fun j d hj h5 h6=>hinj i j d hi hj h5 h6) (fun d hd=>hlt i d hi hd) v (fun _=>(upd_same V i v).symm) (fun j _ hj=>(upd_ne (fun e=>n0 (by rw [← e]; exact hj))).symm)
  have hlate:∀ v,Late ops.size D (L.setIfInBounds i true) a (a1.put (D i) v):=fun v=>SL.put i hi (fun j d hj h5 h6=>hinj i j d hi hj h5 h6) (by omega) v
  have hcl:∀ j,j<ops.size→On (L.setIfInBounds i true) j→∀ k∈dep.getD j [],On (L.setIfInBounds i true) k:=fun j hj h k hk=>by
   rcases on_set h with rfl | q
   ·exact on_mono (hdon k hk).1
   ·exact on_mono (h2 j hj q k hk)
  have hFl:∀ v w2 j,j<ops.size→On L j→F j V w2→F j (upd V i v) w2:=fun v w2 j hj q h6=>by
   refine hloc j hj V (upd V i v) w2 (fun k hk=>(upd_ne ?_).symm) h6
   rintro rfl
   rcases hk with rfl | hk
   ·exact n0 q
   ·exact n0 (h2 j hj q k hk)
  by_cases his:i=s
  ·subst his
   obtain ⟨hG,hFs⟩:=h3 n0
   have hall:∀ j∈E,j<ops.size∧On L j∧j≠i:=fun j hj=>by
    obtain ⟨q,e,he,hb,rfl⟩:=facB_ea hc (by rw [hE]; exact hj) ho
    exact ⟨by omega,hed o ho e he hb,by omega⟩
   refine hlast V a1 w1 hG (fun j hj=>⟨hFs j (hall j hj).1 (hall j hj).2.1,hev j (hall j hj).1 (hall j hj).2.1⟩) hrest _ (fun v w2 k1=>?_)
   refine ⟨by rw [Array.size_setIfInBounds]; exact hsz,upd V i v,hput v,hlate v,hcl,fun h=>absurd (on_same (by omega)) h,fun _=>⟨k1,fun j hj=>on_mono (hall j hj).2.1,fun j hj h q1 q2=>?_⟩⟩
   rcases on_set h with q | q
   ·exact absurd q q1
   ·exact hFl v w2 j hj q (hfree j hj q1 q2 V w1 w2 (hFs j hj q))
  ·have hso:On (L.setIfInBounds i true) s→On L s:=fun h=>by
    rcases on_set h with q | q
    ·exact absurd q.symm his
    ·exact q
   by_cases hos:On L s
   ·obtain ⟨hF,hEa,hFr⟩:=h4 hos
    have hiE:i ∉ E:=fun q=>n0 (hEa i q)
    refine hafter i hi his hiE V a1 w1 hF (fun j hj=>⟨fun q1 q2=>hFr j (hdon j hj).2.2 (hdon j hj).1 q1 q2,hev j (hdon j hj).2.2 (hdon j hj).1⟩) _ (fun v k1=>?_)
    refine ⟨by rw [Array.size_setIfInBounds]; exact hsz,upd V i v,hput v,hlate v,hcl,fun h=>absurd (on_mono hos) h,fun _=>⟨hfin V _ w1 (fun k hk=>(upd_ne ?_).symm) hF,fun j hj=>on_mono (hEa j hj),fun j hj h q1 q2=>?_⟩⟩
    ·rintro rfl
     rcases hk with q | q
     ·exact his q
     ·exact hiE q
    ·rcases on_set h with rfl | q
     ·exact k1
     ·exact hFl v w1 j hj q (hFr j hj q q1 q2)
   ·obtain ⟨hG,hFs⟩:=h3 hos
    refine hstep i hi his V a1 w1 hG (fun j hj=>⟨hFs j (hdon j hj).2.2 (hdon j hj).1,hev j (hdon j hj).2.2 (hdon j hj).1⟩) hrest (fun d hd=>SL.eval s d hs hd hos) _ (fun v w2 k1 k2 k3=>?_)
    refine ⟨by rw [Array.size_setIfInBounds]; exact hsz,upd V i v,hput v,hlate v,hcl,fun _=>⟨k2,fun j hj h=>?_⟩,fun h=>absurd (hso h) hos⟩
    rcases on_set h with rfl | q
    ·exact k3
    ·exact hFl v w2 j hj q (hst j hj (fun e=>hos (e ▸ q)) V w1 w2 (hFs j hj q) k1)
end
end Go.Proofs.YtmcoomlkbgiboaaGreatDoor

/- The operations of a drawn region, one by one. No condition. -/
set_option linter.all false
namespace Go.Proofs.YtmcoomlkbgiboaaGreatDoor
open Go.RowKit

section
variable {P:Program} {ops:Array Oper} {Q:Exit→Act→World→Prop}
theorem opAt_dst {i:Nat} {op:Op} {d:Option Nat} (h:OpAt ops i op d):dstB ops i=d:=by
 obtain ⟨o,ho,-,-,hd⟩:=h; unfold dstB; rw [ho]; exact hd
theorem opAt_value {i:Nat} {op:Op} {d:Option Nat} {a:Act} {w w':World} {v:Value} {K:Act→World→Prop} (h:OpAt ops i op d) (hr:∀ o:Oper,o.op=op→(execOp a.eval o).run P w=.ok (.value v) w') (hk:K (a.put (dstB ops i) v) w'):wpOp P ops Q i K a w:=by
 rw [opAt_dst h] at hk
 obtain ⟨o,ho,hop,hg,hd⟩:=h
 exact step_value ho hg (hr o hop) (by rw [hd]; exact hk)
theorem opAt_enter {i:Nat} {op:Op} {d:Option Nat} {a:Act} {w w':World} {f:FuncId} {args:Array Value} {K:Act→World→Prop} (h:OpAt ops i op d) (hr:∀ o:Oper,o.op=op→(execOp a.eval o).run P w=.ok (.enter f args) w')
  (hc:Calls P f args w' fun e w''=>∃ v,e=.returned v∧K (a.put (dstB ops i) v) w''):wpOp P ops Q i K a w:=by
 rw [opAt_dst h] at hc
 obtain ⟨o,ho,hop,hg,hd⟩:=h
 exact step_enter ho hg (hr o hop) (by rw [hd]; exact hc)
theorem opAt_list {i:Nat} {op:Op} {d:Option Nat} {a:Act} {w:World} {K:Act→World→Prop} (h:OpAt ops i op d) (hl:∀ o:Oper,o.op=op→o.guard=none→o.dst=dstB ops i→wpList P ops (QK Q K) [o] a w):wpOp P ops Q i K a w:=by
 have e:=opAt_dst h
 obtain ⟨o,ho,hop,hg,hd⟩:=h
 exact op_list ho (hl o hop hg (by rw [hd,e]))
theorem op_move {i:Nat} {x:Operand} {d:Option Nat} {a:Act} {w:World} {K:Act→World→Prop} (h:OpAt ops i (.move x) d) {v:Value} (hx:a.eval x=v) (hk:K (a.put (dstB ops i) v) w):wpOp P ops Q i K a w :=
 opAt_value h (fun o ho=>by simp only [execOp,ho,hx]; simp [go_sem]) hk
theorem op_assign {i:Nat} {x:Operand} {d:Option Nat} {a:Act} {w:World} {K:Act→World→Prop} (h:OpAt ops i (.assign x) d) {v:Value} (hx:a.eval x=v) (hk:K (a.put (dstB ops i) v) w):wpOp P ops Q i K a w :=
 opAt_value h (fun o ho=>by simp only [execOp,ho,hx]; simp [go_sem]) hk
end
end Go.Proofs.YtmcoomlkbgiboaaGreatDoor

/- The region of publisherref04.heavy that counts a block's inlines and its inner blocks: it draws its order. Conditions: what the walk knows ahead of it. -/
set_option linter.all false
namespace Go.Proofs.YtmcoomlkbgiboaaGreatDoor
open Go.RowKit

def f10 (vL vK:Value) (B d:Nat) (r:Int) (PA PB:Int→Prop):Nat→(Nat→Value)→World→Prop
 | 0,V,_=>V 0=.int .i64 r
 | 1,V,_=>V 1=.pointer (some ⟨B,9,none⟩)
 | 2,V,_=>V 2=vL
 | 3,V,_=>∃ r1,V 3=.int .i64 r1∧PA r1
 | 4,V,_=>V 4=.pointer (some ⟨B,10,none⟩)
 | 5,V,_=>V 5=vK
 | 6,V,_=>V 6=.int .i64 (d:Int)
 | 7,V,_=>V 7=.int .i64 ((d:Int)+1)
 | 8,V,_=>∃ r2,V 8=.int .i64 r2∧PB r2
 | 9,V,_=>∃ r1 r2,V 9=.int .i64 (r1+r2)∧PA r1∧PB r2
 | 10,V,_=>∃ r1 r2,V 10=.int .i64 (r+(r1+r2))∧PA r1∧PB r2
 | _,_,_=>True
set_option maxRecDepth 100000 in
set_option maxHeartbeats 3200000 in
theorem hreg10 {ops:Array Oper} {id:Nat} {a:Act} {wr:World} {Q:Exit→Act→World→Prop} (vL vK:Value) (B d:Nat) (r:Int) (PA PB:Int→Prop)
  (hc:facB ops 12 11 #[[0,1,2,3,4,5,6,7,8,9,10]] #[[],[],[1],[2],[],[4],[],[6],[5,7],[3,8],[0,9],[10]] 63=true)
  (p0:OpAt ops 0 (.move (.tmp 5)) (some 51)) (p1:OpAt ops 1 (.fieldAddr 59 (.tmp 7) 7) (some 52)) (p2:OpAt ops 2 (.load 57 (.tmp 52)) (some 53))
  (p3:OpAt ops 3 (.call { callee:=.value (.func 75),args:=#[.tmp 53,.const (.int .i64 0)],argTypes:=#[57,3] }) (some 54))
  (p4:OpAt ops 4 (.fieldAddr 59 (.tmp 7) 8) (some 55)) (p5:OpAt ops 5 (.load 23 (.tmp 55)) (some 56)) (p6:OpAt ops 6 (.move (.tmp 1)) (some 57))
  (p7:OpAt ops 7 (.binOp .add 3 (.tmp 57) (.const (.int .i64 1)) 3) (some 58))
  (p8:OpAt ops 8 (.call { callee:=.value (.func 27),args:=#[.tmp 56,.tmp 58],argTypes:=#[23,3] }) (some 59))
  (p9:OpAt ops 9 (.binOp .add 3 (.tmp 54) (.tmp 59) 3) (some 60)) (p10:OpAt ops 10 (.binOp .add 3 (.tmp 51) (.tmp 60) 3) (some 61)) (p11:OpAt ops 11 (.assign (.tmp 61)) (some 5))
  (hz:63≤a.tmps.size) (h5:a.eval (.tmp 5)=.int .i64 r) (h7:a.eval (.tmp 7)=.pointer (some ⟨B,0,none⟩)) (h1:a.eval (.tmp 1)=.int .i64 (d:Int)) (hd:d≤21) (hr:0≤r∧r<1000)
  (hB:B<wr.heap.size) (c9:wr.cell? ⟨B,9,none⟩=some vL) (c10:wr.cell? ⟨B,10,none⟩=some vK)
  (hPA:∀ z,PA z→0≤z∧z≤10000000000000000) (hPB:∀ z,PB z→0≤z∧z≤1000000000000000000)
  (HA:Hid (∀ w',Kept wr w'→Calls Tryz.prog 75 #[vL,.int .i64 0] w' fun e w''=>∃ z,e=.returned (.int .i64 z)∧PA z∧Kept w' w''))
  (HB:Hid (∀ w',Kept wr w'→Calls Tryz.prog 27 #[vK,.int .i64 ((d:Int)+1)] w' fun e w''=>∃ z,e=.returned (.int .i64 z)∧PB z∧Kept w' w''))
  (hend:∀ (V:Nat→Value) w' r1 r2,V 11=.int .i64 (r+(r1+r2))→PA r1→PB r2→Kept wr w'→Q .normal ((((((((((((a.put (some 51) (V 0)).put (some 52) (V 1)).put (some 53) (V 2)).put (some 54) (V 3)).put (some 55) (V 4)).put (some 56) (V 5)).put (some 57) (V 6)).put (some 58) (V 7)).put (some 59) (V 8)).put (some 60) (V 9)).put (some 61) (V 10)).put (some 5) (V 11)) w') :
  (Code.region id ops true).wp Tryz.prog Q a wr:=by
 have e0:=opAt_dst p0
 have e1:=opAt_dst p1
 have e2:=opAt_dst p2
 have e3:=opAt_dst p3
 have e4:=opAt_dst p4
 have e5:=opAt_dst p5
 have e6:=opAt_dst p6
 have e7:=opAt_dst p7
 have e8:=opAt_dst p8
 have e9:=opAt_dst p9
 have e10:=opAt_dst p10
 have e11:=opAt_dst p11
 refine wp_region_factsL 12 11 63 _ _ hc (by rfl) hz (f10 vL vK B d r PA PB) (fun w=>Kept wr w∧True) Kept
  (fun V w=>∃ r1 r2,V 11=.int .i64 (r+(r1+r2))∧PA r1∧PB r2∧Kept wr w) ?_ ?_ ?_ ?_ ?_ ?_ ?_ ?_ ?_
 ·intro j hj V V' w hV h
  have hjj:=hV j (.inl rfl)
  obtain rfl | rfl | rfl | rfl | rfl | rfl | rfl | rfl | rfl | rfl | rfl | rfl:j=0∨j=1∨j=2∨j=3∨j=4∨j=5∨j=6∨j=7∨j=8∨j=9∨j=10∨j=11:=by omega
  all_goals (simp only [f10] at h ⊢; try (rw [← hjj]; exact h))
 ·intro V V' w hV h
  rw [← hV 11 (.inl rfl)]; exact h
 ·intro j hj hne V w w' h k
  obtain rfl | rfl | rfl | rfl | rfl | rfl | rfl | rfl | rfl | rfl | rfl:j=0∨j=1∨j=2∨j=3∨j=4∨j=5∨j=6∨j=7∨j=8∨j=9∨j=10:=by omega
  all_goals exact h
 ·intro j hj hne hni
  exfalso; apply hni
  have:j<11:=by omega
  simp only [Array.getD,List.size_toArray]
  obtain rfl | rfl | rfl | rfl | rfl | rfl | rfl | rfl | rfl | rfl | rfl:j=0∨j=1∨j=2∨j=3∨j=4∨j=5∨j=6∨j=7∨j=8∨j=9∨j=10:=by omega
  all_goals simp
 ·exact ⟨kept_drewN wr 1,trivial⟩
 ·intro i hi hne V a' w' hGG hF hR hS K hK
  have hG:=hGG.1
  have q9:w'.cell? ⟨B,9,none⟩=some vL:=(hG.cell (p:=⟨B,9,none⟩) hB).trans c9
  have q10:w'.cell? ⟨B,10,none⟩=some vK:=(hG.cell (p:=⟨B,10,none⟩) hB).trans c10
  have hout:∀ t,t=1∨t=7→∀ j,j<12→dstB ops j≠some t:=by
   intro t ht j hj
   obtain rfl | rfl | rfl | rfl | rfl | rfl | rfl | rfl | rfl | rfl | rfl | rfl:j=0∨j=1∨j=2∨j=3∨j=4∨j=5∨j=6∨j=7∨j=8∨j=9∨j=10∨j=11:=by omega
   all_goals simp [e0,e1,e2,e3,e4,e5,e6,e7,e8,e9,e10,e11]
   all_goals omega
  have t7:=(hR 7 (hout 7 (.inr rfl))).trans h7
  have t1:=(hR 1 (hout 1 (.inl rfl))).trans h1
  have same:∀ v,f10 vL vK B d r PA PB i (upd V i v) w'→K (a'.put (dstB ops i) v) w':=fun v h=>hK v w' (Kept.refl _) hGG h
  obtain rfl | rfl | rfl | rfl | rfl | rfl | rfl | rfl | rfl | rfl | rfl:i=0∨i=1∨i=2∨i=3∨i=4∨i=5∨i=6∨i=7∨i=8∨i=9∨i=10:=by omega
  ·exact op_move p0 ((hS 5 e11).trans h5) (same _ (upd_same _ _ _))
  ·refine opAt_value p1 (v:=.pointer (some ⟨B,9,none⟩)) (w':=w') (fun o1 ho=>?_) (same _ (upd_same _ _ _))
   simp only [execOp,ho,t7]; simp [go_sem,Tryz.underlying59]
  ·have z0:=((hF 1 (by simp)).2 _ e1).trans (hF 1 (by simp)).1
   refine opAt_value p2 (v:=vL) (w':=w') (fun o1 ho=>?_) (same _ (upd_same _ _ _))
   simp only [execOp,ho,z0]; simp [go_sem,q9,Tryz.underlying57]
  ·have z0:=((hF 2 (by simp)).2 _ e2).trans (hF 2 (by simp)).1
   refine opAt_enter p3 (f:=75) (args:=#[vL,.int .i64 0]) (w':=w') (fun o1 ho=>?_) ((HA.out w' hG).mono fun e w'' ⟨z,he,hp,hk⟩=>⟨_,he,hK _ w'' hk ⟨hG.trans hk,trivial⟩ ⟨z,upd_same _ _ _,hp⟩⟩)
   simp only [execOp,ho,resolve,List.map_toArray,List.map_cons,List.map_nil,z0]; simp [go_sem]
  ·refine opAt_value p4 (v:=.pointer (some ⟨B,10,none⟩)) (w':=w') (fun o1 ho=>?_) (same _ (upd_same _ _ _))
   simp only [execOp,ho,t7]; simp [go_sem,Tryz.underlying59]
  ·have z0:=((hF 4 (by simp)).2 _ e4).trans (hF 4 (by simp)).1
   refine opAt_value p5 (v:=vK) (w':=w') (fun o1 ho=>?_) (same _ (upd_same _ _ _))
   simp only [execOp,ho,z0]; simp [go_sem,q10,Tryz.underlying23]
  ·exact op_move p6 t1 (same _ (upd_same _ _ _))
  ·have z0:=((hF 6 (by simp)).2 _ e6).trans (hF 6 (by simp)).1
   refine opAt_value p7 (v:=.int .i64 ((d:Int)+1)) (w':=w') (fun o1 ho=>?_) (same _ (upd_same _ _ _))
   have hwrap:(IntKind.i64).wrap ((d:Int)+1)=(d:Int)+1:=by simp [IntKind.wrap,IntKind.signed,IntKind.bits]; omega
   simp only [execOp,ho,z0]; simp [go_sem,hwrap]
  ·have z0:=((hF 5 (by simp)).2 _ e5).trans (hF 5 (by simp)).1
   have z1:=((hF 7 (by simp)).2 _ e7).trans (hF 7 (by simp)).1
   refine opAt_enter p8 (f:=27) (args:=#[vK,.int .i64 ((d:Int)+1)]) (w':=w') (fun o1 ho=>?_) ((HB.out w' hG).mono fun e w'' ⟨z,he,hp,hk⟩=>⟨_,he,hK _ w'' hk ⟨hG.trans hk,trivial⟩ ⟨z,upd_same _ _ _,hp⟩⟩)
   simp only [execOp,ho,resolve,List.map_toArray,List.map_cons,List.map_nil,z0,z1]; simp [go_sem]
  ·obtain ⟨⟨r1,y1,y2⟩,y3⟩:=hF 3 (by simp)
   obtain ⟨⟨r2,x1,x2⟩,x3⟩:=hF 8 (by simp)
   have z0:=(y3 _ e3).trans y1
   have z1:=(x3 _ e8).trans x1
   have b1:=hPA r1 y2
   have b2:=hPB r2 x2
   refine opAt_value p9 (v:=.int .i64 (r1+r2)) (w':=w') (fun o1 ho=>?_) (same _ ⟨r1,r2,upd_same _ _ _,y2,x2⟩)
   have hwrap:(IntKind.i64).wrap (r1+r2)=r1+r2:=by simp [IntKind.wrap,IntKind.signed,IntKind.bits]; omega
   simp only [execOp,ho,z0,z1]; simp [go_sem,hwrap]
  ·obtain ⟨y1,y3⟩:=hF 0 (by simp)
   obtain ⟨⟨r1,r2,x1,x2,x4⟩,x3⟩:=hF 9 (by simp)
   have z0:=(y3 _ e0).trans y1
   have z1:=(x3 _ e9).trans x1
   have b1:=hPA r1 x2
   have b2:=hPB r2 x4
   refine opAt_value p10 (v:=.int .i64 (r+(r1+r2))) (w':=w') (fun o1 ho=>?_) (same _ ⟨r1,r2,upd_same _ _ _,x2,x4⟩)
   have hwrap:(IntKind.i64).wrap (r+(r1+r2))=r+(r1+r2):=by simp [IntKind.wrap,IntKind.signed,IntKind.bits]; omega
   simp only [execOp,ho,z0,z1]; simp [go_sem,hwrap]
 ·intro V a' w' hG hF hR K hK
  obtain ⟨⟨r1,r2,q1,q2,q3⟩,q4⟩:=hF 10 (by simp)
  have z0:=(q4 _ e10).trans q1
  exact op_assign p11 z0 (hK _ _ ⟨r1,r2,upd_same _ _ _,q2,q3,hG.1⟩)
 ·intro i hi hne hni
  exfalso; apply hni
  have:i<11:=by omega
  obtain rfl | rfl | rfl | rfl | rfl | rfl | rfl | rfl | rfl | rfl | rfl:i=0∨i=1∨i=2∨i=3∨i=4∨i=5∨i=6∨i=7∨i=8∨i=9∨i=10:=by omega
  all_goals simp
 ·intro V w' ⟨r1,r2,g1,g2,g3,g4⟩ _
  have:=hend V w' r1 r2 g1 g2 g3 g4
  simp only [putAll,e0,e1,e2,e3,e4,e5,e6,e7,e8,e9,e10,e11]
  exact this
end Go.Proofs.YtmcoomlkbgiboaaGreatDoor

/- publisherref04.heavy, Small: where Small answers true, a document is small. Conditions: lengths that a machine can tell. -/
set_option linter.all false
namespace Go.Proofs.YtmcoomlkbgiboaaGreatDoor
open Go.RowKit

def hB (dep:Nat):Int:=1000+(21 - dep) * 9007199254740992
theorem hB_next {dep:Nat}:hB dep=hB (dep+1)+9007199254740992:=by unfold hB; omega
theorem hB_le {dep:Nat}:hB dep≤189151184349561832:=by unfold hB; omega
theorem hB_ge {dep:Nat} (h:dep≤21):1000≤hB dep:=by unfold hB; omega
def okHdB (x:Blo):Prop:=x.text.length+x.info.length+x.dest.length+x.title.length≤300∧okLong x.id x.cls x.prs
instance okHdBD (x:Blo):Decidable (okHdB x):=by unfold okHdB; infer_instance
/-- What heavy answers from a block on. -/
def hvyG (g:List Inl→Int) (f:List Blo→Int):List Blo→Int→Int
 | [],m=>m
 | x :: xs,m=>if m<1000 then (if okHdB x then hvyG g f xs (m+(g x.line+f x.kids)) else 1000) else m
/-- What heavy answers. -/
def hvyE (N:Nat):Nat→Nat→List Blo→Int
 | 0,d,_=>if 20<d then 1000 else 0
 | n+1,d,xs=>if 20<d∨200<xs.length then 1000 else hvyG (wgtE N 0) (hvyE N n (d+1)) xs xs.length
theorem hvyG_big {g:List Inl→Int} {f:List Blo→Int} {xs:List Blo} {m:Int} (h:¬ m<1000):hvyG g f xs m=m:=by
 cases xs with
 | nil=>rfl
 | cons x xs=>rw [hvyG,if_neg h]
theorem hvyG_at {g:List Inl→Int} {f:List Blo→Int} {xs:List Blo} {k:Nat} {x:Blo} {m:Int} (hx:xs[k]? = some x) (h:m<1000):hvyG g f (xs.drop k) m=if okHdB x then hvyG g f (xs.drop (k+1)) (m+(g x.line+f x.kids)) else 1000:=by
 obtain ⟨hk,rfl⟩:=List.getElem?_eq_some_iff.1 hx
 rw [List.drop_eq_getElem_cons hk,hvyG,if_pos h]
def HvyP (N n:Nat) (xs:List Blo) (dep:Nat) (w:World) (e:Ending) (w':World):Prop :=
 ∃ r:Int,e=.returned (.int .i64 r)∧0≤r∧r≤hB dep∧(r<1000→(sumB xs:Int)≤r∧∀ x∈listL xs,okBs x)∧hvyE N n dep xs=r∧Kept w w'
set_option maxRecDepth 100000 in
set_option maxHeartbeats 12800000 in
theorem heavy_any (S:Nat→Prop) (N:Nat):∀ (n:Nat) (xs:List Blo) (v:Value) (dep:Nat) (w:World),Bls S N n w v xs→dep≤21→xs.length≤140737488355328→(∀ x∈listL xs,FitK x) →
  Calls Tryz.prog 27 #[v,.int .i64 dep] w (HvyP N n xs dep w):=by
 intro n
 induction n with
 | zero =>
  intro xs v dep w hv hd hl hf
  obtain rfl:=hv.no
  obtain ⟨a,c,rfl,hc⟩:=hv.form
  have h1:=hB_ge hd
  by_cases q1:20<dep
  ·have HFIN:HvyP N 0 [] dep w (.returned (.int .i64 1000)) w:=⟨1000,rfl,by omega,h1,fun q=>absurd q (by omega),if_pos q1,Kept.refl w⟩
   generalize hP:HvyP N 0 [] dep w=P at *
   clear hv hP hf
   go_enter Tryz.func27,Tryz.ntmps27
   go_wp2_with fail
   (try go_ret)
   exact HFIN
  ·have HFIN:HvyP N 0 [] dep w (.returned (.int .i64 0)) w:=⟨0,rfl,by omega,by omega,fun _=>⟨Int.le_refl _,fun x hx=>(List.not_mem_nil hx).elim⟩,if_neg q1,Kept.refl w⟩
   generalize hP:HvyP N 0 [] dep w=P at *
   clear hv hP hf
   go_enter Tryz.func27,Tryz.ntmps27
   go_wp2_with fail
   go_loopw [5,6] (fun m i wr=>m=.int .i64 0∧i=.int .i64 0∧w=wr) (fun _ i _=>1)
   case atStart=>exact ⟨rfl,rfl,rfl⟩
   case round =>
    obtain ⟨rfl,rfl,rfl⟩:=hrel
    go_wp2_with fail
    (try go_ret)
    exact HFIN
 | succ n ih =>
  intro xs v dep w hv hd hl hf
  have HV:=Lib.hid hv
  have HIH:=Lib.hid ih
  have HF:=Lib.hid hf
  unfold HvyP at HIH
  obtain ⟨a,c,rfl,hc⟩:=hv.form
  have h1:=hB_ge hd
  obtain ⟨RR,HRR⟩:∃ z,Hid (hvyE N (n+1) dep xs=z):=⟨_,rfl⟩
  have HBIG:Hid (∀ w',Kept w w'→RR=1000→HvyP N (n+1) xs dep w (.returned (.int .i64 1000)) w'):=fun w' k q=>⟨1000,rfl,by omega,h1,fun q=>absurd q (by omega),by rw [HRR.out]; exact q,k⟩
  have HFIN:Hid (∀ (r:Int) w',0≤r→r≤hB dep→(r<1000→(sumB xs:Int)≤r∧∀ x∈listL xs,okBs x)→RR=r→Kept w w'→HvyP N (n+1) xs dep w (.returned (.int .i64 r)) w'):=fun r w' k1 k2 k3 k4 k=>⟨r,rfl,k1,k2,k3,by rw [HRR.out]; exact k4,k⟩
  generalize hP:HvyP N (n+1) xs dep w=P at *
  clear hv hP hf ih
  by_cases q1:20<dep
  ·go_enter Tryz.func27,Tryz.ntmps27
   go_wp2_with fail
   (try go_ret)
   exact HBIG.out w (Kept.refl w) (by rw [← HRR.out]; exact if_pos (.inl q1))
  by_cases q2:200<xs.length
  ·go_enter Tryz.func27,Tryz.ntmps27
   go_wp2_with fail
   (try go_ret)
   exact HBIG.out w (Kept.refl w) (by rw [← HRR.out]; exact if_pos (.inr q2))
  have HG0:Hid (hvyG (wgtE N 0) (hvyE N n (dep+1)) xs xs.length=RR):=by
   show _=_
   rw [← HRR.out]
   exact (if_neg (by omega)).symm
  obtain ⟨F,HFF⟩:∃ F,Hid (hvyE N n (dep+1)=F):=⟨_,rfl⟩
  obtain ⟨G,HGG⟩:∃ G,Hid (wgtE N 0=G):=⟨_,rfl⟩
  rw [HFF.out,HGG.out] at HG0
  clear HRR
  have hw1:=hB_ge (show dep+1≤21 by omega)
  have hw2:=hB_le (dep:=dep+1)
  have hw3:=hB_next (dep:=dep)
  generalize hB dep=WD at *
  obtain ⟨WE,HWE⟩:∃ z,Hid (hB (dep+1)=z):=⟨_,rfl⟩
  rw [HWE.out] at hw1 hw2 hw3
  clear h1
  go_enter Tryz.func27,Tryz.ntmps27
  go_wp2_with fail
  go_loopw [5,6] (fun m i wr=>∃ (k:Nat) (r:Int),k≤xs.length∧i=.int .i64 k∧m=.int .i64 r∧0≤r∧r≤WD∧Hid (r<1000→((sumB (xs.take k)+(xs.length - k):Nat):Int)≤r∧∀ x∈listL (xs.take k),okBs x)∧Hid (hvyG G F (xs.drop k) r=RR)∧Hid (Kept w wr)) (fun _ i _=>xs.length - (intOf i).toNat)
  case atStart=>exact ⟨0,xs.length,Nat.zero_le _,rfl,rfl,by omega,by omega,fun _=>⟨by simp [sumB,listL,inlsL],fun x hx=>(List.not_mem_nil hx).elim⟩,HG0.out,Kept.refl w⟩
  case round =>
   obtain ⟨k,r,hk,rfl,rfl,hr0,hr1,HR,HGR,HKR⟩:=hrel
   by_cases hlt:k<xs.length
   ·by_cases hr2:r<1000
    ·obtain ⟨x,hx⟩:∃ x,xs[k]? = some x:=⟨_,List.getElem?_eq_getElem hlt⟩
     have HT:=Lib.hid (listL_snocH hx)
     have HTS:=Lib.hid (sumB_tk hx)
     have HGX:Hid ((if okHdB x then hvyG G F (xs.drop (k+1)) (r+(G x.line+F x.kids)) else 1000)=RR):=by show _=_; rw [← hvyG_at hx hr2]; exact HGR.out
     clear HGR
     have hmx:=listL_at (List.mem_of_getElem? hx)
     have hfx:=HF.out x hmx.1
     have HFK:Hid (∀ y∈listL x.kids,FitK y):=fun y hy=>HF.out y (hmx.2 y hy)
     obtain ⟨g,o,vC,vP,vL,vK,rfl,hgg,hgS,-,-,⟨d0,d1,d2,d3,d4,d5,d6,d7,d8,d9,d10⟩,-,⟨hC,iC⟩,⟨hPP,iP⟩,hL,hK⟩:=Bls.at_ (HV.out.kept HKR.out) k x hx
     clear hx hmx
     obtain ⟨X,HX⟩:∃ X,Hid (x=X):=⟨_,rfl⟩
     rw [HX.out] at HT HTS HGX
     obtain ⟨kind,level,info,text,dest,title,id,cls,prs,line,kids⟩:=x
     simp only [Blo.kind,Blo.level,Blo.info,Blo.text,Blo.dest,Blo.title,Blo.id,Blo.cls,Blo.prs,Blo.line,Blo.kids] at d0 d1 d2 d3 d4 d5 d6 hC hPP hL hK
     obtain ⟨⟨f1,f2,f3,f4⟩,f5,f6,f7,f8⟩:=hfx
     simp only [Blo.kind,Blo.level,Blo.info,Blo.text,Blo.dest,Blo.title,Blo.id,Blo.cls,Blo.prs,Blo.line,Blo.kids] at f1 f2 f3 f4 f5 f6 f7 f8
     have HXK:Hid (X.kids=kids∧X.line=line):=by show _∧_; rw [← HX.out]; exact ⟨rfl,rfl⟩
     have HHD:Hid (okHdB X↔(text.length+info.length+dest.length+title.length≤300∧okLong id cls prs)):=by show _↔_; rw [← HX.out]; exact Iff.rfl
     have HGY:Hid (okHdB X→hvyG G F (xs.drop (k+1)) (r+(G line+F kids))=RR):=by
      show _→_
      intro q
      have h:=HGX.out
      rw [if_pos q,← HX.out] at h
      exact h
     have HGN:Hid (¬ okHdB X→RR=1000):=by
      show _→_
      intro q
      have h:=HGX.out
      rw [if_neg q] at h
      exact h.symm
     clear HGX
     have HXO:Hid (text.length+info.length+dest.length+title.length≤300→okLong id cls prs→(∀ y∈deepL line,okXs y)→okBs X):=by
      show _→_
      intro a1 a2 a3
      rw [← HX.out]; exact ⟨⟨a1,a2⟩,a3⟩
     replace HFK:Hid (∀ y∈listL kids,FitK y):=HFK.out
     rw [HXK.out.1] at HT HTS
     rw [HXK.out.2] at HTS
     clear HX HXK
     have HF5:=Lib.hid f5
     have HF8:=Lib.hid f8
     clear f5 f8
     obtain ⟨aC,cC,rfl,lC⟩:=hC.shape
     obtain ⟨aP,cP,rfl,lP⟩:=hPP.shape
     obtain ⟨aL,cL,rfl,lL⟩:=hL.form
     obtain ⟨aK,cK,rfl,lK⟩:=hK.form
     have hka:=kept_alloc wr (.cells #[.int .i64 kind,.int .i64 level,.string (bs info),.string (bs text),.string (bs dest),.string (bs title),.string (bs id),.slice aC cls.length cC,.slice aP prs.length cP,.slice aL line.length cL,.slice aK kids.length cK] 59)
     have HB:=Lib.hid (Blk.new wr 59 #[.int .i64 kind,.int .i64 level,.string (bs info),.string (bs text),.string (bs dest),.string (bs title),.string (bs id),.slice aC cls.length cC,.slice aP prs.length cP,.slice aL line.length cL,.slice aK kids.length cK])
     have HKW:=Lib.hid (HKR.out.trans hka)
     have HC:=Lib.hid (hC.kept hka)
     have HPR:=Lib.hid (hPP.kept hka)
     have HL:=Lib.hid (hL.kept hka)
     have HKK:=Lib.hid (hK.kept hka)
     clear hka hC hPP hL hK iC iP
     by_cases q3:300<text.length+info.length+dest.length+title.length
     ·have HE:=Lib.hid (HBIG.out _ HKW.out (HGN.out (fun q=>by have:=(HHD.out.1 q).1; omega)))
      clear HKR
      go_wp2_with fail
      (try go_ret)
      exact HE.out
     go_wp2_with fail
     generalize wr.alloc (.cells #[.int .i64 kind,.int .i64 level,.string (bs info),.string (bs text),.string (bs dest),.string (bs title),.string (bs id),.slice aC cls.length cC,.slice aP prs.length cP,.slice aL line.length cL,.slice aK kids.length cK] 59)=w1 at *
     generalize wr.heap.size=B at *
     refine (long_any id cls prs _ _ w1 HC.out HPR.out HF5.out).mono ?_
     rintro e w2 ⟨b,rfl,hb,hk2⟩
     have HK2:=Lib.hid (HKW.out.trans hk2)
     have HB2:=Lib.hid (HB.out.kept hk2)
     have HL2:=Lib.hid (HL.out.kept hk2)
     have HKK2:=Lib.hid (HKK.out.kept hk2)
     clear hk2 HKW HB HL HKK HC HPR HF5 HKR d0 d1 d2 d3 d4 d5 d6 d7 d8 d9 d10
     cases b with
     | true =>
      have HE:=Lib.hid (HBIG.out _ HK2.out (HGN.out (fun q=>by have:=hb.2 (HHD.out.1 q).2; cases this)))
      go_wp2_with fail
      (try go_ret)
      exact HE.out
     | false =>
      have HLO:=Lib.hid (hb.1 rfl)
      clear hb
      have HKD:Hid (Kept w2 w2.drew):=kept_drewN w2 1
      have y9:w2.drew.cell? ⟨B,9,none⟩=some (.slice aL line.length cL):=(HB2.out.kept HKD.out).cell 9 _ rfl
      have y10:w2.drew.cell? ⟨B,10,none⟩=some (.slice aK kids.length cK):=(HB2.out.kept HKD.out).cell 10 _ rfl
      have zB:B<w2.drew.heap.size:=(HB2.out.kept HKD.out).lt
      have hwe:=wB_le (dep:=0)
      have HWW:Hid (∀ w',Kept w2 w'→Calls Tryz.prog 75 #[.slice aL line.length cL,.int .i64 0] w' (WgtP N line 0 w')):=fun w' k=>rweight_any S N line _ 0 w' (HL2.out.kept k) (by omega) f6 HF8.out
      have HHH:Hid (∀ w',Kept w2 w'→Calls Tryz.prog 27 #[.slice aK kids.length cK,.int .i64 ((dep:Int)+1)] w' fun e w''=>∃ r:Int,e=.returned (.int .i64 r)∧0≤r∧r≤WE∧(r<1000→(sumB kids:Int)≤r∧∀ x∈listL kids,okBs x)∧F kids=r∧Kept w' w''):=fun w' k=>by
       have h:=HIH.out kids (.slice aK kids.length cK) (dep+1) w' (HKK2.out.kept k) (by omega) f7 HFK.out
       rw [HWE.out,HFF.out,show (((dep+1:Nat)):Int)=(dep:Int)+1 by omega] at h
       exact h
      unfold WgtP at HWW
      rw [HGG.out] at HWW
      clear HL2 HKK2 HFK HIH HF8 HF HV
      go_upto_region 10 with fail
      refine hreg10 (.slice aL line.length cL) (.slice aK kids.length cK) B dep r (fun z=>(0≤z∧z≤5910974510924776)∧(z<1000→((deepL line).length:Int)≤z∧(∀ x∈deepL line,okXs x))∧G line=z) (fun z=>(0≤z∧z≤WE)∧(z<1000→(sumB kids:Int)≤z∧(∀ x∈listL kids,okBs x))∧F kids=z) (by kernel_rfl)
       ⟨_,rfl,rfl,rfl,rfl⟩ ⟨_,rfl,rfl,rfl,rfl⟩ ⟨_,rfl,rfl,rfl,rfl⟩ ⟨_,rfl,rfl,rfl,rfl⟩ ⟨_,rfl,rfl,rfl,rfl⟩ ⟨_,rfl,rfl,rfl,rfl⟩ ⟨_,rfl,rfl,rfl,rfl⟩ ⟨_,rfl,rfl,rfl,rfl⟩ ⟨_,rfl,rfl,rfl,rfl⟩ ⟨_,rfl,rfl,rfl,rfl⟩ ⟨_,rfl,rfl,rfl,rfl⟩ ⟨_,rfl,rfl,rfl,rfl⟩
       (by simp) rfl rfl rfl hd ⟨hr0,hr2⟩ HB2.out.lt (HB2.out.cell 9 _ rfl) (HB2.out.cell 10 _ rfl) (fun z h=>⟨h.1.1,by have:=h.1.2; omega⟩) (fun z h=>⟨h.1.1,by have:=h.1.2; omega⟩)
       (fun w' k=>(HWW.out w' k).mono fun e w'' ⟨z,h1,h2,h3,h4,h6,h5⟩=>⟨z,h1,⟨⟨h2,by omega⟩,h4,h6⟩,h5⟩)
       (fun w' k=>(HHH.out w' k).mono fun e w'' ⟨z,h1,h2,h3,h4,h6,h5⟩=>⟨z,h1,⟨⟨h2,h3⟩,h4,h6⟩,h5⟩) ?_
      intro V wz r1 r2 hV ⟨⟨a1,a2⟩,ha,ha2⟩ ⟨⟨b1,b2⟩,hb,hb2⟩ hkz
      have HGZ:Hid (hvyG G F (xs.drop (k+1)) (r+(r1+r2))=RR):=by
       have h:=HGY.out (HHD.out.2 ⟨by omega,HLO.out⟩)
       show _=_
       rw [← h,ha2,hb2]
      clear ha2 hb2 HGY HGN HHD
      have HA:=Lib.hid ha
      have HBB:=Lib.hid hb
      have HKZ:=Lib.hid hkz
      rw [hV]
      clear ha hb hkz hV
      have HN:Hid (r+(r1+r2)<1000→((sumB (xs.take (k+1))+(xs.length - (k+1)):Nat):Int)≤r+(r1+r2)∧∀ x∈listL (xs.take (k+1)),okBs x):=by
       show _→_
       intro q
       obtain ⟨c1,c2⟩:=HR.out (by omega)
       obtain ⟨c3,c4⟩:=HA.out (by omega)
       obtain ⟨c5,c6⟩:=HBB.out (by omega)
       rw [HT.out,HTS.out]
       refine ⟨by omega,fun y hy=>?_⟩
       rcases List.mem_append.1 hy with hy | hy
       ·rcases List.mem_append.1 hy with hy | hy
        ·exact c2 y hy
        ·rw [List.mem_singleton.1 hy]
         exact HXO.out (by omega) HLO.out c4
       ·exact c6 y hy
      have HK6:=Lib.hid (HK2.out.trans HKZ.out)
      clear HR HXO HLO HT HTS HWW HHH HA HBB HKZ
      simp only [Act.put,List.setIfInBounds_toArray,List.set_cons_zero,List.set_cons_succ]
      go_wp2_with fail
      go_roundw
      case rel=>exact ⟨k+1,r+(r1+r2),by omega,by go_num,rfl,by omega,by omega,HN.out,HGZ.out,HK6.out⟩
      case measure=>simp [intOf]; omega
    ·have HE:=Lib.hid (HFIN.out r wr hr0 hr1 (fun q=>absurd q hr2) (by rw [← HGR.out]; exact hvyG_big hr2) HKR.out)
     clear HR HKR
     go_wp2_with fail
     (try go_ret)
     exact HE.out
   ·obtain rfl:k=xs.length:=by omega
    have HE:=Lib.hid (HFIN.out r wr hr0 hr1 (fun q=>by have h:=HR.out q; rw [List.take_length] at h; exact ⟨by have:=h.1; omega,h.2⟩) (by rw [← HGR.out,List.drop_length]; rfl) HKR.out)
    clear HR HKR
    go_wp2_with fail
    (try go_ret)
    exact HE.out
/-- The answer of Small. -/
def smlE (N n:Nat) (ms:List Pr) (xs:List Blo):Prop:=ms.length≤70∧(∀ p∈ms,p.1.length+p.2.length≤300)∧hvyE N n 0 xs≤120
def SmlX (N n:Nat) (ms:List Pr) (xs:List Blo) (w:World) (e:Ending) (w':World):Prop:=∃ b:Bool,e=.returned (.bool b)∧(b=true→ms.length≤70∧(∀ p∈ms,p.1.length+p.2.length≤300)∧SmB xs)∧(b=true↔smlE N n ms xs)∧Kept w w'
set_option maxRecDepth 100000 in
set_option maxHeartbeats 6400000 in
theorem smdocx_any (S:Nat→Prop) (N n:Nat) (vM vB:Value) (ms:List Pr) (xs:List Blo) (w:World) (hM:Prs w vM ms) (hB:Bls S N n w vB xs) (hf:FitD0 ms xs) :
  Calls Tryz.prog 9 #[.agg #[vM,vB]] w (SmlX N n ms xs w):=by
 obtain ⟨⟨f1,f2⟩,f3,f4⟩:=hf
 have HF2:=Lib.hid f2
 have HM:=Lib.hid hM
 obtain ⟨aM,cM,rfl,lM⟩:=hM.shape
 obtain ⟨aB,cB,rfl,lB⟩:=hB.form
 have HB1:=Lib.hid (Blk.new w 25 #[.slice aM ms.length cM,.slice aB xs.length cB])
 have HK:=Lib.hid (kept_alloc w (.cells #[.slice aM ms.length cM,.slice aB xs.length cB] 25))
 have HHV:=Lib.hid (fun w' (k:Kept w w')=>heavy_any S N n xs (.slice aB xs.length cB) 0 w' (hB.kept k) (by omega) f3 f4)
 unfold HvyP at HHV
 obtain ⟨HV0,HHE⟩:∃ z,Hid (hvyE N n 0 xs=z):=⟨_,rfl⟩
 rw [HHE.out] at HHV
 have HNO:Hid (∀ w',Kept w w'→¬ (ms.length≤70∧∀ p∈ms,p.1.length+p.2.length≤300)→SmlX N n ms xs w (.returned (.bool false)) w'):=fun w' k h=>⟨false,rfl,(fun h=>by cases h),⟨(fun q=>by cases q),fun q=>absurd ⟨q.1,q.2.1⟩ h⟩,k⟩
 have HYES:Hid (∀ (r:Int) w',ms.length≤70→(∀ p∈ms,p.1.length+p.2.length≤300)→(r<1000→(sumB xs:Int)≤r∧∀ x∈listL xs,okBs x)→HV0=r→Kept w w'→SmlX N n ms xs w (.returned (.bool (decide (r≤120)))) w'):=fun r w' h1 h2 h3 hr k=>⟨_,rfl,(fun h=>by
  have h:=of_decide_eq_true h
  obtain ⟨h4,h5⟩:=h3 (by omega)
  exact ⟨h1,h2,by omega,h5⟩),⟨fun h=>⟨h1,h2,by rw [HHE.out,hr]; exact of_decide_eq_true h⟩,fun h=>decide_eq_true (by have:=h.2.2; rw [HHE.out,hr] at this; exact this)⟩,k⟩
 have hbz:=hB_le (dep:=0)
 generalize hP:SmlX N n ms xs w=P at *
 clear hP hM hB f2 f4
 by_cases q1:70<ms.length
 ·go_enter Tryz.func9,Tryz.ntmps9
  go_wp2_with fail
  (try go_ret)
  exact HNO.out _ HK.out (fun h=>by have:=h.1; omega)
 go_enter Tryz.func9,Tryz.ntmps9
 go_wp2_with fail
 generalize w.alloc (.cells #[.slice aM ms.length cM,.slice aB xs.length cB] 25)=w0 at *
 generalize w.heap.size=B at *
 go_loopw [3] (fun i wr=>∃ (k:Nat),k≤ms.length∧i=.int .i64 k∧Hid (∀ p∈ms.take k,p.1.length+p.2.length≤300)∧Hid (Kept w0 wr)) (fun i _=>ms.length - (intOf i).toNat)
 case atStart=>exact ⟨0,Nat.zero_le _,rfl,fun p hp=>(List.not_mem_nil hp).elim,Kept.refl _⟩
 case round =>
  obtain ⟨k,hk,rfl,HS,HKR⟩:=hrel
  have b0:wr.cell? ⟨B,0,none⟩=some (.slice aM ms.length cM):=(HB1.out.kept HKR.out).cell 0 _ rfl
  have b1:wr.cell? ⟨B,1,none⟩=some (.slice aB xs.length cB):=(HB1.out.kept HKR.out).cell 1 _ rfl
  have b0d:wr.drew.cell? ⟨B,0,none⟩=some (.slice aM ms.length cM):=b0
  have z0:=(HB1.out.kept HKR.out).lt
  by_cases hlt:k<ms.length
  ·obtain ⟨x,hx⟩:∃ x,ms[k]? = some x:=⟨_,List.getElem?_eq_getElem hlt⟩
   obtain ⟨g,o,rfl,hg,d0,d1,-,-⟩:=(HM.out.kept (HK.out.trans HKR.out)).cell_of k x hx
   obtain ⟨hp1,hp2⟩:=HF2.out x (List.mem_of_getElem? hx)
   have HS2:Hid (x.1.length+x.2.length≤300→∀ p∈ms.take (k+1),p.1.length+p.2.length≤300):=by
    show _→_
    intro q p hp
    rw [take_snoc hx] at hp
    rcases List.mem_append.1 hp with r | r
    ·exact HS.out p r
    ·rw [List.mem_singleton.1 r]; exact q
   have HBAD:Hid (300<x.1.length+x.2.length→¬ (ms.length≤70∧∀ p∈ms,p.1.length+p.2.length≤300)):=by
    show _→_
    intro q h
    have:=h.2 x (List.mem_of_getElem? hx)
    omega
   clear hx HS
   obtain ⟨y,z⟩:=x
   simp only at d0 d1 hp1 hp2 HS2 HBAD
   by_cases q2:300<y.length+z.length
   ·go_wp2_with fail
    go_region
    all_goals
     go_wp2_with fail
     (try go_ret)
     exact HNO.out _ ((HK.out.trans HKR.out).trans (kept_drewN _ _)) (HBAD.out q2)
   ·go_wp2_with fail
    go_region
    all_goals
     go_wp2_with fail
     go_roundw
     case rel=>exact ⟨k+1,by omega,by go_num,HS2.out (by omega),HKR.out.trans (kept_drewN _ _)⟩
     case measure=>simp [intOf]; omega
  ·obtain rfl:k=ms.length:=by omega
   rw [List.take_length] at HS
   go_wp2_with fail
   refine (HHV.out wr (HK.out.trans HKR.out)).mono ?_
   rintro e w5 ⟨r,rfl,k1,k2,hd,hex,hk5⟩
   have HF:=Lib.hid (HYES.out r w5 (by omega) HS.out hd hex ((HK.out.trans HKR.out).trans hk5))
   clear hd hk5 HS HKR HHV hex
   go_wp2_with fail
   (try go_ret)
   exact HF.out
end Go.Proofs.YtmcoomlkbgiboaaGreatDoor
