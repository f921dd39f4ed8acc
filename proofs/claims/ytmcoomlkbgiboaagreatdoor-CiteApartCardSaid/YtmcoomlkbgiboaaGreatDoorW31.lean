/- Regions that draw their order, by facts, where the last operation's slot is read before. No condition. -/
import Derived.Test.YtmcoomlkbgiboaaGreatDoorW30
import Derived.Test.YtmcoomlkbgiboaaGreatDoorW26
import Derived.Test.YtmcoomlkbgiboaaGreatDoorW24
import Derived.Test.YtmcoomlkbgiboaaGreatDoorW11
import Derived.Test.YtmcoomlkbgiboaaGreatDoorW22
import Derived.Test.YtmcoomlkbgiboaaGreatDoorW10
import Derived.Test.YtmcoomlkbgiboaaGreatDoorW17
set_option linter.all false
set_option maxRecDepth 100000
set_option maxHeartbeats 6400000
namespace Go.Proofs.YtmcoomlkbgiboaaGreatDoor
open Go.RowKit
def Late (n:Nat) (D:Nat->Option Nat) (L:Array Bool) (a0 a:Act):Prop:=∀ i d,i<n->D i=some d->¬ On L i->a.tmps[d]? = a0.tmps[d]?
theorem Late.eval {n:Nat} {D:Nat->Option Nat} {L:Array Bool} {a0 a:Act} (h:Late n D L a0 a) (i d:Nat) (hi:i<n) (hd:D i=some d) (ho:¬ On L i):a.eval (.tmp d)=a0.eval (.tmp d):=by
 show a.tmps.getD d undef=a0.tmps.getD d undef;rw[Array.getD_eq_getD_getElem?,Array.getD_eq_getD_getElem?,h i d hi hd ho]
theorem Late.put {n:Nat} {D:Nat->Option Nat} {L:Array Bool} {a0 a:Act} (h:Late n D L a0 a) (i:Nat) (hi:i<n) (hinj:∀ j d,j<n->D i=some d->D j=some d->j=i) (hL:i<L.size) (v:Value):Late n D (L.setIfInBounds i true) a0 (a.put (D i) v):=by
 intro j d hj hd ho;have hji:j≠i:=fun e=>ho (by rw[e];exact zeL hL);have h0:=h j d hj hd (fun q=>ho (zbA q));cases hdi:D i with
 | none=>exact h0
 | some e =>
  have hne:e≠d:=fun q=>hji (hinj j d hj (by rw[hdi,q]) hd);show (a.tmps.setIfInBounds e v)[d]? = _;rw[Array.getElem?_setIfInBounds_ne hne];exact h0
section
variable {P:Program} {ops:Array Oper} {Q:Exit->Act->World->Prop}
def FacIL (n s:Nat) (D:Nat->Option Nat) (ea:List Nat) (dep:Nat->List Nat) (F:Nat->(Nat->Value)->World->Prop) (G:World->Prop) (Fin:(Nat->Value)->World->Prop) (a0:Act) (L:Array Bool) (a:Act) (w:World):Prop :=
 L.size=n/\∃ V,Slots n D V L a0 a/\Late n D L a0 a/\(∀ j,j<n->On L j->∀ i∈dep j,On L i)/\(¬ On L s->G w/\∀ j,j<n->On L j->F j V w)/\(On L s->Fin V w/\(∀ i∈ea,On L i)/\∀ j,j<n->On L j->j≠s->j ∉ ea->F j V w)
theorem zcO {id:Nat} {a:Act} {w:World} (n s m:Nat) (ea dep:Array (List Nat)) (hc:zz4 ops n s ea dep m=true) (hm:P.follows .mixedOrders=true) (hz:m<=a.tmps.size)
  (F:Nat->(Nat->Value)->World->Prop) (G:World->Prop) (St:World->World->Prop) (Fin:(Nat->Value)->World->Prop)
  (hloc:∀ j,j<n->∀ V V' w,(∀ i,i=j\/i∈dep.getD j []->V i=V' i)->F j V w->F j V' w)
  (hfin:∀ V V' w,(∀ i,i=s\/i∈ea.getD 0 []->V i=V' i)->Fin V w->Fin V' w)
  (hst:∀ j,j<n->j≠s->∀ V w w',F j V w->St w w'->F j V w')
  (hfree:∀ j,j<n->j≠s->j ∉ ea.getD 0 []->∀ V w w',F j V w->F j V w')
  (hG0:G w.drew)
  (hstep:∀ i,i<n->i≠s->∀ V a' w',G w'->(∀ j∈dep.getD i [],F j V w'/\∀ d,zgZ ops j=some d->a'.eval (.tmp d)=V j)->(∀ t,(∀ j,j<n->zgZ ops j≠some t)->a'.eval (.tmp t)=a.eval (.tmp t))->(∀ d,zgZ ops s=some d->a'.eval (.tmp d)=a.eval (.tmp d)) ->
   ∀ K:Act->World->Prop,(∀ v w'',St w' w''->G w''->F i (upd V i v) w''->K (a'.put (zgZ ops i) v) w'')->wpOp P ops Q i K a' w')
  (hlast:∀ V a' w',G w'->(∀ j∈ea.getD 0 [],F j V w'/\∀ d,zgZ ops j=some d->a'.eval (.tmp d)=V j)->(∀ t,(∀ j,j<n->zgZ ops j≠some t)->a'.eval (.tmp t)=a.eval (.tmp t)) ->
   ∀ K:Act->World->Prop,(∀ v w'',Fin (upd V s v) w''->K (a'.put (zgZ ops s) v) w'')->wpOp P ops Q s K a' w')
  (hafter:∀ i,i<n->i≠s->i ∉ ea.getD 0 []->∀ V a' w',Fin V w'->(∀ j∈dep.getD i [],(j≠s->j ∉ ea.getD 0 []->F j V w')/\∀ d,zgZ ops j=some d->a'.eval (.tmp d)=V j) ->
   ∀ K:Act->World->Prop,(∀ v,F i (upd V i v) w'->K (a'.put (zgZ ops i) v) w')->wpOp P ops Q i K a' w')
  (hend:∀ V w',Fin V w'->(∀ j,j<n->j≠s->j ∉ ea.getD 0 []->F j V w')->Q .normal (zc9 (zgZ ops) V n a) w') :
  (Code.region id ops true).wp P Q a w:=by
 obtain ⟨hn,hs,hac⟩:=zz5 hc;have hO:∀ i,i<n->∃ o,ops[i]? = some o:=fun i hi=>⟨_,Array.getElem?_eq_getElem (by rw[hn];exact hi)⟩;have hdo:∀ {i:Nat} {o:Oper},ops[i]? = some o->zgZ ops i=o.dst:=fun h=>(by unfold zgZ;rw[h];rfl);have hinj:∀ i j d,i<n->j<n->zgZ ops i=some d->zgZ ops j=some d->j=i:=fun i j d hi hj h1 h2=>by
  obtain ⟨o,ho⟩:=hO i hi;exact ((zo4 hc ho).2 d (by rw[<- hdo ho];exact h1)).2 j hj h2
 have hlt:∀ i d,i<n->zgZ ops i=some d->d<a.tmps.size:=fun i d hi h1=>by
  obtain ⟨o,ho⟩:=hO i hi;exact Nat.lt_of_lt_of_le ((zo4 hc ho).2 d (by rw[<- hdo ho];exact h1)).1 hz
 subst hn;generalize hD:zgZ ops=D at *;generalize hE:ea.getD 0 []=E at *;refine zfP (FacIL ops.size s D E (fun i=>dep.getD i []) F G Fin a) hm (zBy hac) ?_ ?_ ?_
 ·have hno:∀ i,¬ On (Array.replicate ops.size false) i:=fun i=>zgA ops.size i;exact ⟨by simp,fun _=>undef,Slots.start _ _ _ _ _,fun _ _ _ _ _=>rfl,fun j _ h=>absurd h (hno j),fun _=>⟨hG0,fun j _ h=>absurd h (hno j)⟩,fun h=>absurd h (hno s)⟩
 ·intro L a1 w1 ⟨hsz,V,S,_,_,_,h4⟩ hall;have hon:∀ i,i<ops.size->On L i:=fun i hi=>by
   have:=hall i hi;unfold On;rw[Array.getD_eq_getD_getElem?,Array.getElem?_eq_getElem (by omega)] at this ⊢;exact this
  rw[zz3 S hinj hlt hon];exact hend V w1 (h4 (hon s hs)).1 fun j hj q1 q2=>(h4 (hon s hs)).2.2 j hj (hon j hj) q1 q2
 ·intro L a1 w1 i ⟨hsz,V,S,SL,h2,h3,h4⟩ hi hn hed;obtain ⟨o,ho⟩:=hO i hi;have n0:=ztZ hn;have hdon:∀ j∈dep.getD i [],On L j/\j≠i/\j<ops.size:=fun j hj=>by
   obtain ⟨q1,q0,e,he,hb,q⟩:=(zo4 hc ho).1 j hj;have h5:=hed o ho e he hb;refine ⟨?_,q1,q0⟩;rcases q with rfl|q
   ·exact h5
   ·have hlt2:e.on<ops.size:=by
     have:=zBy hac i o ho e he hb;omega
    exact h2 e.on hlt2 h5 j q
  have hev:∀ j,j<ops.size->On L j->∀ d,D j=some d->a1.eval (.tmp d)=V j:=fun j hj h d hd=>S.eval j d hj hd h;have hrest:∀ t,(∀ j,j<ops.size->D j≠some t)->a1.eval (.tmp t)=a.eval (.tmp t):=fun t ht=>S.ext t ht;have hput:∀ v,Slots ops.size D (upd V i v) (L.setIfInBounds i true) a (a1.put (D i) v):=fun v=>S.put i hi (by omega) (fun j d hj h5 h6=>hinj i j d hi hj h5 h6) (fun d hd=>hlt i d hi hd) v (fun _=>(zaP V i v).symm) (fun j _ hj=>(zq7 (fun e=>n0 (by rw[<- e];exact hj))).symm);have hlate:∀ v,Late ops.size D (L.setIfInBounds i true) a (a1.put (D i) v):=fun v=>SL.put i hi (fun j d hj h5 h6=>hinj i j d hi hj h5 h6) (by omega) v;have hcl:∀ j,j<ops.size->On (L.setIfInBounds i true) j->∀ k∈dep.getD j [],On (L.setIfInBounds i true) k:=fun j hj h k hk=>by
   rcases zfY h with rfl|q
   ·exact zbA (hdon k hk).1
   ·exact zbA (h2 j hj q k hk)
  have hFl:∀ v w2 j,j<ops.size->On L j->F j V w2->F j (upd V i v) w2:=fun v w2 j hj q h6=>by
   refine hloc j hj V (upd V i v) w2 (fun k hk=>(zq7 ?_).symm) h6;rintro rfl;rcases hk with rfl|hk
   ·exact n0 q
   ·exact n0 (h2 j hj q k hk)
  by_cases his:i=s
  ·subst his;obtain ⟨hG,hFs⟩:=h3 n0;have hall:∀ j∈E,j<ops.size/\On L j/\j≠i:=fun j hj=>by
    obtain ⟨q,e,he,hb,rfl⟩:=zDU hc (by rw[hE];exact hj) ho;exact ⟨by omega,hed o ho e he hb,by omega⟩
   refine hlast V a1 w1 hG (fun j hj=>⟨hFs j (hall j hj).1 (hall j hj).2.1,hev j (hall j hj).1 (hall j hj).2.1⟩) hrest _ (fun v w2 k1=>?_);refine ⟨by rw[Array.size_setIfInBounds];exact hsz,upd V i v,hput v,hlate v,hcl,fun h=>absurd (zeL (by omega)) h,fun _=>⟨k1,fun j hj=>zbA (hall j hj).2.1,fun j hj h q1 q2=>?_⟩⟩;rcases zfY h with q|q
   ·exact absurd q q1
   ·exact hFl v w2 j hj q (hfree j hj q1 q2 V w1 w2 (hFs j hj q))
  ·have hso:On (L.setIfInBounds i true) s->On L s:=fun h=>by
    rcases zfY h with q|q
    ·exact absurd q.symm his
    ·exact q
   by_cases hos:On L s
   ·obtain ⟨hF,hEa,hFr⟩:=h4 hos;have hiE:i ∉ E:=fun q=>n0 (hEa i q);refine hafter i hi his hiE V a1 w1 hF (fun j hj=>⟨fun q1 q2=>hFr j (hdon j hj).2.2 (hdon j hj).1 q1 q2,hev j (hdon j hj).2.2 (hdon j hj).1⟩) _ (fun v k1=>?_);refine ⟨by rw[Array.size_setIfInBounds];exact hsz,upd V i v,hput v,hlate v,hcl,fun h=>absurd (zbA hos) h,fun _=>⟨hfin V _ w1 (fun k hk=>(zq7 ?_).symm) hF,fun j hj=>zbA (hEa j hj),fun j hj h q1 q2=>?_⟩⟩
    ·rintro rfl;rcases hk with q|q
     ·exact his q
     ·exact hiE q
    ·rcases zfY h with rfl|q
     ·exact k1
     ·exact hFl v w1 j hj q (hFr j hj q q1 q2)
   ·obtain ⟨hG,hFs⟩:=h3 hos;refine hstep i hi his V a1 w1 hG (fun j hj=>⟨hFs j (hdon j hj).2.2 (hdon j hj).1,hev j (hdon j hj).2.2 (hdon j hj).1⟩) hrest (fun d hd=>SL.eval s d hs hd hos) _ (fun v w2 k1 k2 k3=>?_);refine ⟨by rw[Array.size_setIfInBounds];exact hsz,upd V i v,hput v,hlate v,hcl,fun _=>⟨k2,fun j hj h=>?_⟩,fun h=>absurd (hso h) hos⟩;rcases zfY h with rfl|q
    ·exact k3
    ·exact hFl v w2 j hj q (hst j hj (fun e=>hos (e ▸ q)) V w1 w2 (hFs j hj q) k1)
end
section
variable {P:Program} {ops:Array Oper} {Q:Exit->Act->World->Prop}
theorem zaN {i:Nat} {op:Op} {d:Option Nat} (h:OpAt ops i op d):zgZ ops i=d:=by
 obtain ⟨o,ho,-,-,hd⟩:=h;unfold zgZ;rw[ho];exact hd
theorem zaW {i:Nat} {op:Op} {d:Option Nat} {a:Act} {w w':World} {v:Value} {K:Act->World->Prop} (h:OpAt ops i op d) (hr:∀ o:Oper,o.op=op->(execOp a.eval o).run P w=.ok (.value v) w') (hk:K (a.put (zgZ ops i) v) w'):wpOp P ops Q i K a w:=by
 rw[zaN h] at hk;obtain ⟨o,ho,hop,hg,hd⟩:=h;exact zaQ ho hg (hr o hop) (by rw[hd];exact hk)
theorem zdC {i:Nat} {op:Op} {d:Option Nat} {a:Act} {w w':World} {f:FuncId} {args:Array Value} {K:Act->World->Prop} (h:OpAt ops i op d) (hr:∀ o:Oper,o.op=op->(execOp a.eval o).run P w=.ok (.enter f args) w')
  (hc:Calls P f args w' fun e w''=>∃ v,e=.returned v/\K (a.put (zgZ ops i) v) w''):wpOp P ops Q i K a w:=by
 rw[zaN h] at hc;obtain ⟨o,ho,hop,hg,hd⟩:=h;exact ze7 ho hg (hr o hop) (by rw[hd];exact hc)
theorem zdN {i:Nat} {op:Op} {d:Option Nat} {a:Act} {w:World} {K:Act->World->Prop} (h:OpAt ops i op d) (hl:∀ o:Oper,o.op=op->o.guard=none->o.dst=zgZ ops i->wpList P ops (QK Q K) [o] a w):wpOp P ops Q i K a w:=by
 have e:=zaN h;obtain ⟨o,ho,hop,hg,hd⟩:=h;exact zl1 ho (hl o hop hg (by rw[hd,e]))
theorem zeN {i:Nat} {x:Operand} {d:Option Nat} {a:Act} {w:World} {K:Act->World->Prop} (h:OpAt ops i (.move x) d) {v:Value} (hx:a.eval x=v) (hk:K (a.put (zgZ ops i) v) w):wpOp P ops Q i K a w :=
 zaW h (fun o ho=>by simp only[execOp,ho,hx];simp [go_sem]) hk
theorem zz6 {i:Nat} {x:Operand} {d:Option Nat} {a:Act} {w:World} {K:Act->World->Prop} (h:OpAt ops i (.assign x) d) {v:Value} (hx:a.eval x=v) (hk:K (a.put (zgZ ops i) v) w):wpOp P ops Q i K a w :=
 zaW h (fun o ho=>by simp only[execOp,ho,hx];simp [go_sem]) hk
end
theorem Tryz.infoKy:(Tryz.prog.info? 84).map (fun i=>(i.zero,i.size,i.bytes))=some (some (.agg #[.string ⟨#[]⟩,.int .i64 0,.string ⟨#[]⟩,.string ⟨#[]⟩]),4,56):=by kernel_rfl
theorem Tryz.sizeKy:(Tryz.prog.info? 84).map (·.size)=some 4:=by kernel_rfl
theorem Tryz.sizeS5:(Tryz.prog.info? 50).map (·.size)=some 5:=by kernel_rfl
def zjB (s:SrcT) (vA vE vF:Value) (I:Nat) (t au:Bs) (yr:Int) (n0:Nat):Nat->(Nat->Value)->World->Prop
 | 0,V,_=>V 0=.agg #[.string (bs s.key),.string (bs s.type),vA,vE,vF]
 | 1,V,_=>V 1=.string (bs au)
 | 2,V,_=>V 2=.agg #[.string (bs s.key),.string (bs s.type),vA,vE,vF]
 | 3,V,_=>V 3=.int .i64 yr
 | 4,V,_=>V 4=.string (bs t)
 | 5,V,_=>V 5=.pointer (some ⟨I,0,none⟩)
 | 6,V,_=>V 6=.string (bs s.key)
 | 7,V,_=>V 7=.agg #[.string (bs au),.int .i64 yr,.string (bs t),.string (bs s.key)]
 | 8,V,w=>∃ Z:Nat,V 8=.pointer (some ⟨Z,0,none⟩)/\n0<=Z/\Blk w Z 84 #[.string (bs []),.int .i64 0,.string (bs []),.string (bs [])]
 | _,_,_=>True
theorem zCd {ops:Array Oper} {id:Nat} {a:Act} {wr:World} {Q:Exit->Act->World->Prop} (s:SrcT) (vA vE vF:Value) (I:Nat) (t au:Bs) (yr:Int)
  (hc:zz4 ops 10 9 #[[0,1,2,3,4,5,6,7,8]] #[[],[0],[],[2],[],[],[5],[1,3,4,6],[],[7,8]] 73=true)
  (p0:OpAt ops 0 (.load 50 (.tmp 11)) (some 36))
  (p1:OpAt ops 1 (.call { callee:=.value (.func 36),args:=#[.tmp 36],argTypes:=#[50] }) (some 37))
  (p2:OpAt ops 2 (.load 50 (.tmp 11)) (some 38))
  (p3:OpAt ops 3 (.call { callee:=.value (.func 37),args:=#[.tmp 38],argTypes:=#[50] }) (some 39))
  (p4:OpAt ops 4 (.move (.tmp 12)) (some 40))
  (p5:OpAt ops 5 (.fieldAddr 50 (.tmp 11) 0) (some 41))
  (p6:OpAt ops 6 (.load 9 (.tmp 41)) (some 42))
  (p7:OpAt ops 7 (.build 84 #[(0,.tmp 37),(1,.tmp 39),(2,.tmp 40),(3,.tmp 42)]) (some 43))
  (p8:OpAt ops 8 (.alloc 84) (some 14))
  (p9:OpAt ops 9 (.store 84 (.tmp 14) (.tmp 43)) none)
  (hz:73<=a.tmps.size) (h11:a.eval (.tmp 11)=.pointer (some ⟨I,0,none⟩)) (h12:a.eval (.tmp 12)=.string (bs t))
  (HB:Hid (Blk wr I 50 #[.string (bs s.key),.string (bs s.type),vA,vE,vF])) (HA:Hid (∀ w',Kept wr w'->Calls Tryz.prog 36 #[.agg #[.string (bs s.key),.string (bs s.type),vA,vE,vF]] w' fun e w''=>e=.returned (.string (bs au))/\Kept w' w'')) (HY:Hid (∀ w',Kept wr w'->Calls Tryz.prog 37 #[.agg #[.string (bs s.key),.string (bs s.type),vA,vE,vF]] w' fun e w''=>e=.returned (.int .i64 yr)/\Kept w' w''))
  (hend:∀ (V:Nat->Value) w' TB,V 8=.pointer (some ⟨TB,0,none⟩)->wr.heap.size<=TB->Blk w' TB 84 #[.string (bs au),.int .i64 yr,.string (bs t),.string (bs s.key)]->Kept wr w'->Q .normal ((((((((((a.put (some 36) (V 0)).put (some 37) (V 1)).put (some 38) (V 2)).put (some 39) (V 3)).put (some 40) (V 4)).put (some 41) (V 5)).put (some 42) (V 6)).put (some 43) (V 7)).put (some 14) (V 8)).put none (V 9)) w') :
  (Code.region id ops true).wp Tryz.prog Q a wr:=by
 have e0:=zaN p0;have e1:=zaN p1;have e2:=zaN p2;have e3:=zaN p3;have e4:=zaN p4;have e5:=zaN p5;have e6:=zaN p6;have e7:=zaN p7;have e8:=zaN p8;have e9:=zaN p9;have hout:∀ t,(t=11\/t=12)->∀ j,j<10->zgZ ops j≠some t:=by
  intro t ht j hj;obtain rfl|rfl|rfl|rfl|rfl|rfl|rfl|rfl|rfl|rfl:j=0\/j=1\/j=2\/j=3\/j=4\/j=5\/j=6\/j=7\/j=8\/j=9:=(by omega)
  all_goals simp [e0,e1,e2,e3,e4,e5,e6,e7,e8,e9]
  all_goals omega
 refine zcO 10 9 73 _ _ hc (by rfl) hz (zjB s vA vE vF I t au yr wr.heap.size) (fun w=>Kept wr w) Kept
  (fun V w=>∃ TB:Nat,V 8=.pointer (some ⟨TB,0,none⟩)/\wr.heap.size<=TB/\Blk w TB 84 #[.string (bs au),.int .i64 yr,.string (bs t),.string (bs s.key)]/\Kept wr w) ?_ ?_ ?_ ?_ ?_ ?_ ?_ ?_ ?_
 ·intro j hj V V' w hV h;have hjj:=hV j (.inl rfl);obtain rfl|rfl|rfl|rfl|rfl|rfl|rfl|rfl|rfl|rfl:j=0\/j=1\/j=2\/j=3\/j=4\/j=5\/j=6\/j=7\/j=8\/j=9:=(by omega)
  all_goals (simp only[zjB] at h ⊢;try (rw[<- hjj];exact h))
 ·intro V V' w hV h;rw[<- hV 8 (.inr (by simp))];exact h
 ·intro j hj hne V w w' h k;obtain rfl|rfl|rfl|rfl|rfl|rfl|rfl|rfl|rfl:j=0\/j=1\/j=2\/j=3\/j=4\/j=5\/j=6\/j=7\/j=8:=(by omega)
  ·exact h
  ·exact h
  ·exact h
  ·exact h
  ·exact h
  ·exact h
  ·exact h
  ·exact h
  ·obtain ⟨Z,h1,h2,h3⟩:=h;exact ⟨Z,h1,h2,h3.kept k⟩
 ·intro j hj hne hni;exfalso;apply hni;have:j<9:=(by omega);simp only[Array.getD,List.size_toArray];obtain rfl|rfl|rfl|rfl|rfl|rfl|rfl|rfl|rfl:j=0\/j=1\/j=2\/j=3\/j=4\/j=5\/j=6\/j=7\/j=8:=(by omega)
  all_goals simp
 ·exact zaB wr 1
 ·intro i hi hne V a' w' hG hF hR hS K hK;have o11:=(hR 11 (hout 11 (by omega))).trans h11;have o12:=(hR 12 (hout 12 (by omega))).trans h12;have hb:=HB.out.kept hG;have c0:w'.cell? ⟨I,0,none⟩=some (.string (bs s.key)):=hb.cell 0 _ rfl;have same:∀ v,zjB s vA vE vF I t au yr wr.heap.size i (upd V i v) w'->K (a'.put (zgZ ops i) v) w':=fun v h=>hK v w' (Kept.refl _) hG h;obtain rfl|rfl|rfl|rfl|rfl|rfl|rfl|rfl|rfl:i=0\/i=1\/i=2\/i=3\/i=4\/i=5\/i=6\/i=7\/i=8:=(by omega)
  ·refine zdN p0 fun o1 ho hg' hd'=>?_;refine zaU hg' 50 (.tmp 11) ho _ #[.string (bs s.key),.string (bs s.type),vA,vE,vF] o11 hb _ Tryz.underlying50 rfl Tryz.sizeS5 ?_;rw[hd'];exact same _ (zaP _ _ _)
  ·have z0:=((hF 0 (by simp)).2 _ e0).trans (hF 0 (by simp)).1;refine zdC p1 (f:=36) (args:=#[.agg #[.string (bs s.key),.string (bs s.type),vA,vE,vF]]) (w':=w') (fun o1 ho=>?_) ((HA.out w' hG).mono fun e w'' ⟨he,hk⟩=>⟨_,he,hK _ w'' hk (hG.trans hk) (zaP _ _ _)⟩);simp only[execOp,ho,resolve,List.map_toArray,List.map_cons,List.map_nil,z0];simp [go_sem]
  ·refine zdN p2 fun o1 ho hg' hd'=>?_;refine zaU hg' 50 (.tmp 11) ho _ #[.string (bs s.key),.string (bs s.type),vA,vE,vF] o11 hb _ Tryz.underlying50 rfl Tryz.sizeS5 ?_;rw[hd'];exact same _ (zaP _ _ _)
  ·have z2:=((hF 2 (by simp)).2 _ e2).trans (hF 2 (by simp)).1;refine zdC p3 (f:=37) (args:=#[.agg #[.string (bs s.key),.string (bs s.type),vA,vE,vF]]) (w':=w') (fun o1 ho=>?_) ((HY.out w' hG).mono fun e w'' ⟨he,hk⟩=>⟨_,he,hK _ w'' hk (hG.trans hk) (zaP _ _ _)⟩);simp only[execOp,ho,resolve,List.map_toArray,List.map_cons,List.map_nil,z2];simp [go_sem]
  ·exact zeN p4 o12 (same _ (zaP _ _ _))
  ·refine zaW p5 (v:=.pointer (some ⟨I,0,none⟩)) (w':=w') (fun o1 ho=>?_) (same _ (zaP _ _ _));simp only[execOp,ho,o11];simp [go_sem,Tryz.underlying50]
  ·have z5:=((hF 5 (by simp)).2 _ e5).trans (hF 5 (by simp)).1;refine zaW p6 (v:=.string (bs s.key)) (w':=w') (fun o1 ho=>?_) (same _ (zaP _ _ _));simp only[execOp,ho,z5];simp [go_sem,Tryz.underlying9,c0]
  ·have z1:=((hF 1 (by simp)).2 _ e1).trans (hF 1 (by simp)).1;have z3:=((hF 3 (by simp)).2 _ e3).trans (hF 3 (by simp)).1;have z4:=((hF 4 (by simp)).2 _ e4).trans (hF 4 (by simp)).1;have z6:=((hF 6 (by simp)).2 _ e6).trans (hF 6 (by simp)).1;refine zaW p7 (v:=.agg #[.string (bs au),.int .i64 yr,.string (bs t),.string (bs s.key)]) (w':=w') (fun o1 ho=>?_) (same _ (zaP _ _ _));have y37:=z1;simp only[Act.eval,Array.getD_eq_getD_getElem?] at y37;have y39:=z3;simp only[Act.eval,Array.getD_eq_getD_getElem?] at y39;have y40:=z4;simp only[Act.eval,Array.getD_eq_getD_getElem?] at y40;have y42:=z6;simp only[Act.eval,Array.getD_eq_getD_getElem?] at y42;simp only[execOp,ho];simp [go_sem,y37,y39,y40,y42]
  ·obtain ⟨i0,hi,hz0,hz1,hz2⟩:=info_parts Tryz.infoKy;refine zaW p8 (v:=.pointer (some ⟨w'.heap.size,0,none⟩)) (w':=w'.alloc (.cells #[.string (bs []),.int .i64 0,.string (bs []),.string (bs [])] 84)) (fun o1 ho=>?_) (hK _ _ (zaA _ _) (hG.trans (zaA _ _)) ⟨w'.heap.size,zaP _ _ _,hG.size,Blk.new _ _ _⟩);simp only[execOp,ho];simp [go_sem,hi,hz0]
 ·intro V a' w' hG hF hR K hK;obtain ⟨⟨Z,r1,r2,r3⟩,r4⟩:=hF 8 (by simp);have z1:=(r4 _ e8).trans r1;have z0:=((hF 7 (by simp)).2 _ e7).trans (hF 7 (by simp)).1;refine zdN p9 fun o1 ho hg' hd'=>?_;refine zbD hg' 84 (.tmp 14) (.tmp 43) ho Z #[.string (bs []),.int .i64 0,.string (bs []),.string (bs [])] #[.string (bs au),.int .i64 yr,.string (bs t),.string (bs s.key)] z1 z0 r3 rfl Tryz.sizeKy (by simp [Value.oneCell']) ?_;intro w2 hb2 ho2;rw[hd'];exact hK _ _ ⟨Z,(zq7 (by omega)).trans r1,r2,hb2,hG.trans' (ho2.below hG.size (fun i e=>by rw[e];exact r2))⟩
 ·intro i hi hne hni;exfalso;apply hni;have:i<9:=(by omega);obtain rfl|rfl|rfl|rfl|rfl|rfl|rfl|rfl|rfl:i=0\/i=1\/i=2\/i=3\/i=4\/i=5\/i=6\/i=7\/i=8:=(by omega)
  all_goals simp
 ·intro V w' ⟨TB,g1,g2,g3,g4⟩ _;have:=hend V w' TB g1 g2 g3 g4;simp only[zc9,e0,e1,e2,e3,e4,e5,e6,e7,e8,e9];exact this
theorem Perss.freshB {w:World} {v:Value} {ps:List P4} {B:Nat} (h:Perss w v ps) (hf:Fresh B v):InB (fun g=>B<=g) v ps.length:=fun q g hg=>by
 obtain ⟨a,c,rfl,hc,h3⟩:=h;obtain ⟨g',o,rfl,_⟩:=h3 q;have:g'=g:=(by simpa [Value.ownBlock] using hg);subst this;exact hf g' o _ _ rfl q
theorem Prs.freshB {w:World} {v:Value} {ps:List Pr} {B:Nat} (h:Prs w v ps) (hf:Fresh B v):InB (fun g=>B<=g) v ps.length:=fun q g hg=>by
 obtain ⟨a,c,rfl,hc,h3⟩:=h;obtain ⟨g',o,rfl,_⟩:=h3 q;have:g'=g:=(by simpa [Value.ownBlock] using hg);subst this;exact hf g' o _ _ rfl q
theorem Tryz.sizeSo:(Tryz.prog.info? 50).map (fun x=>x.size)=some 5:=by kernel_rfl
def CpyS (s:SrcT) (w:World) (e:Ending) (w':World):Prop:=∃ vA vE vF,e=.returned (zi0 s.key s.type vA vE vF)/\SrcL (fun g=>w.heap.size<=g) w' vA vE vF s/\Kept w w'
theorem zwF (vA vE vF:Value) (s:SrcT) (w:World) (hA:Perss w vA s.author) (hE:Perss w vE s.editor) (hF:Prs w vF s.fields) (lA:s.author.length<=1000) (lE:s.editor.length<=1000) (lF:s.fields.length<=1000) :
  Calls Tryz.prog 43 #[zi0 s.key s.type vA vE vF] w (CpyS s w):=by
 have HCA:=Hd (fun w' (k:Kept w w')=>zgO vA s.author w' (hA.kept k) (by omega));have HCE:=Hd (fun w' (k:Kept w w')=>zgO vE s.editor w' (hE.kept k) (by omega));have HCF:=Hd (fun w' (k:Kept w w')=>znB vF s.fields w' (hF.kept k) (by omega));unfold CloneP at HCA HCE;unfold CloneF at HCF;obtain ⟨aA,cA,rfl,_⟩:=hA.shape;obtain ⟨aE,cE,rfl,_⟩:=hE.shape;obtain ⟨aF,cF,rfl,_⟩:=(show ∃ a c,vF=.slice a s.fields.length c/\s.fields.length<=c by obtain ⟨a,c,e,l,_⟩:=hF;exact ⟨a,c,e,l⟩);have HFIN:Hid (∀ vA vE vF w',SrcL (fun g=>w.heap.size<=g) w' vA vE vF s->Kept w w'->CpyS s w (.returned (zi0 s.key s.type vA vE vF)) w'):=fun vA vE vF w' h1 h2=>⟨vA,vE,vF,rfl,h1,h2⟩;clear hA hE hF;obtain ⟨skey,styp,au,ed,fs⟩:=s;simp only at HCA HCE HCF lA lE lF;have hb1:=(Blk.new w 50 #[.string (bs skey),.string (bs styp),.slice aA au.length cA,.slice aE ed.length cE,.slice aF fs.length cF]).alloc (.cells #[.string (bs []),.string (bs []),.slice none 0 0,.slice none 0 0,.slice none 0 0] 50);have hr1:=Blk.new (w.alloc (.cells #[.string (bs skey),.string (bs styp),.slice aA au.length cA,.slice aE ed.length cE,.slice aF fs.length cF] 50)) 50 #[.string (bs []),.string (bs []),.slice none 0 0,.slice none 0 0,.slice none 0 0];have HK0:=Hd ((zaA w (.cells #[.string (bs skey),.string (bs styp),.slice aA au.length cA,.slice aE ed.length cE,.slice aF fs.length cF] 50)).trans (zaA _ (.cells #[.string (bs []),.string (bs []),.slice none 0 0,.slice none 0 0,.slice none 0 0] 50)));obtain ⟨B,HBB⟩:∃ B,Hid (w.heap.size=B):=⟨_,rfl⟩;simp only[World.size_alloc,HBB.out] at hb1 hr1;have HB1:=Hd hb1;have HR1:=Hd hr1;have hwB:w.heap.size<=B:=(by rw[HBB.out];exact Nat.le_refl _);clear hb1 hr1;generalize CpyS ⟨skey,styp,au,ed,fs⟩ w=P at *;go_enter Tryz.func43,Tryz.ntmps43;go_upto_region 1 with fail;rw[HBB.out];generalize World.alloc (World.alloc w _) _=w0 at *;have hB0:B+1<w0.heap.size:=HR1.out.lt;have c2:=HB1.out.cell 2 _ rfl;have cz:=HB1.out.lt;go_wp2_with fail;refine (HCA.out w0 HK0.out).mono ?_;rintro e w1 ⟨vA1,rfl,p1,f1,k1⟩;have HPA:=Hd (p1.sam (S:=fun g=>w0.heap.size<=g) (p1.freshB f1) (fun _ _ _=>rfl));have HIA:Hid (InB (fun g=>w0.heap.size<=g) vA1 au.length):=p1.freshB f1;obtain ⟨aA1,cA1,rfl,_⟩:=p1.shape;have hb:=HB1.out.kept k1;have c2':=hb.cell 2 _ rfl;have fr2:=hb.free 2;have cz':=hb.lt;have HB2:Hid (Blk (w1.setCell ⟨B,2,none⟩ (.slice aA1 au.length cA1)) B 50 #[.string (bs skey),.string (bs styp),.slice aA1 au.length cA1,.slice aE ed.length cE,.slice aF fs.length cF]):=hb.set 2 _;have ho2:=Only.setCell (w:=w1) B 2 (.slice aA1 au.length cA1);have HR2:=Hd ((HR1.out.kept k1).onl ho2 (by omega));have HK2:=Hd ((HK0.out.trans k1).trans' (ho2.below (HK0.out.trans k1).size (fun i e=>by rw[e];exact hwB)));have HPA2:=Hd (HPA.out.sam HIA.out (Sam.only ho2 (fun g _ hs q=>by omega)));have hz2:w0.heap.size<=(w1.setCell ⟨B,2,none⟩ (.slice aA1 au.length cA1)).heap.size:=Nat.le_trans k1.size ho2.size;clear p1 f1 k1 hb ho2 HPA HCA HB1 HR1 c2;go_upto_region 2 with fail;generalize w1.setCell ⟨B,2,none⟩ (.slice aA1 au.length cA1)=w2 at *;clear c2' fr2 cz' cz;have c3:=HB2.out.cell 3 _ rfl;have cz:=HB2.out.lt;go_wp2_with fail;refine (HCE.out w2 HK2.out).mono ?_;rintro e w3 ⟨vE1,rfl,p1,f1,k1⟩;have HPB:=Hd (p1.sam (S:=fun g=>w2.heap.size<=g) (p1.freshB f1) (fun _ _ _=>rfl));have HIB:Hid (InB (fun g=>w2.heap.size<=g) vE1 ed.length):=p1.freshB f1;obtain ⟨aE1,cE1,rfl,_⟩:=p1.shape;have hb:=HB2.out.kept k1;have c3':=hb.cell 3 _ rfl;have fr3:=hb.free 3;have cz':=hb.lt;have HB4:Hid (Blk (w3.setCell ⟨B,3,none⟩ (.slice aE1 ed.length cE1)) B 50 #[.string (bs skey),.string (bs styp),.slice aA1 au.length cA1,.slice aE1 ed.length cE1,.slice aF fs.length cF]):=hb.set 3 _;have ho2:=Only.setCell (w:=w3) B 3 (.slice aE1 ed.length cE1);have HR4:=Hd ((HR2.out.kept k1).onl ho2 (by omega));have HK4:=Hd ((HK2.out.trans k1).trans' (ho2.below (HK2.out.trans k1).size (fun i e=>by rw[e];exact hwB)));have HPA4:=Hd (((HPA2.out.kept k1).sam HIA.out (Sam.only ho2 (fun g _ hs q=>by omega))));have HPB4:=Hd (HPB.out.sam HIB.out (Sam.only ho2 (fun g _ hs q=>by omega)));have hz4:w2.heap.size<=(w3.setCell ⟨B,3,none⟩ (.slice aE1 ed.length cE1)).heap.size:=Nat.le_trans k1.size ho2.size;clear p1 f1 k1 hb ho2 HPB HPA2 HCE HB2 HR2 c3;go_upto_region 3 with fail;generalize w3.setCell ⟨B,3,none⟩ (.slice aE1 ed.length cE1)=w4 at *;clear c3' fr3 cz' cz;have c4:=HB4.out.cell 4 _ rfl;have cz:=HB4.out.lt;go_wp2_with fail;refine (HCF.out w4 HK4.out).mono ?_;rintro e w5 ⟨vF1,rfl,p1,f1,k1⟩;have HPC:=Hd (p1.sam (S:=fun g=>w4.heap.size<=g) (p1.freshB f1) (fun _ _ _=>rfl));have HIC:Hid (InB (fun g=>w4.heap.size<=g) vF1 fs.length):=p1.freshB f1;obtain ⟨aF1,cF1,rfl,_⟩:=(show ∃ a c,vF1=.slice a fs.length c/\fs.length<=c by obtain ⟨a,c,e,l,_⟩:=p1;exact ⟨a,c,e,l⟩);have hb:=HB4.out.kept k1;have c4':=hb.cell 4 _ rfl;have fr4:=hb.free 4;have cz':=hb.lt;have HB6:Hid (Blk (w5.setCell ⟨B,4,none⟩ (.slice aF1 fs.length cF1)) B 50 #[.string (bs skey),.string (bs styp),.slice aA1 au.length cA1,.slice aE1 ed.length cE1,.slice aF1 fs.length cF1]):=hb.set 4 _;have ho2:=Only.setCell (w:=w5) B 4 (.slice aF1 fs.length cF1);have HR6:=Hd ((HR4.out.kept k1).onl ho2 (by omega));have HK6:=Hd ((HK4.out.trans k1).trans' (ho2.below (HK4.out.trans k1).size (fun i e=>by rw[e];exact hwB)));have HPA6:=Hd (((HPA4.out.kept k1).sam HIA.out (Sam.only ho2 (fun g _ hs q=>by omega))));have HPB6:=Hd (((HPB4.out.kept k1).sam HIB.out (Sam.only ho2 (fun g _ hs q=>by omega))));have HPC6:=Hd (HPC.out.sam HIC.out (Sam.only ho2 (fun g _ hs q=>by omega)));clear p1 f1 k1 hb ho2 HPC HPA4 HPB4 HCF HB4 HR4 c4;go_upto_region 4 with fail;generalize w5.setCell ⟨B,4,none⟩ (.slice aF1 fs.length cF1)=w6 at *;clear c4' fr4 cz' cz;have cz:=HB6.out.lt;go_wp2_with (first
  | (refine zaU (by rfl) 50 (.tmp 1) (by rfl) B _ (by rfl) HB6.out _ Tryz.underlying50 rfl Tryz.sizeSo ?_)
  | (refine zbD rfl 50 (.tmp 2) (.tmp 15) (by rfl) (B+1) _ #[.string (bs skey),.string (bs styp),.slice aA1 au.length cA1,.slice aE1 ed.length cE1,.slice aF1 fs.length cF1] (by rfl) (by rfl) HR6.out rfl Tryz.sizeSo (by simp only[List.all_toArray,List.all_cons,List.all_nil];rfl) ?_;intro w9 hb9 ho9;have r0:w9.cell? ⟨B+1,0,none⟩=some (.string (bs skey)):=hb9.cell 0 _ rfl;have r1:w9.cell? ⟨B+1,1,none⟩=some (.string (bs styp)):=hb9.cell 1 _ rfl;have r2:w9.cell? ⟨B+1,2,none⟩=some (.slice aA1 au.length cA1):=hb9.cell 2 _ rfl;have r3:w9.cell? ⟨B+1,3,none⟩=some (.slice aE1 ed.length cE1):=hb9.cell 3 _ rfl;have r4:w9.cell? ⟨B+1,4,none⟩=some (.slice aF1 fs.length cF1):=hb9.cell 4 _ rfl;have rz:=hb9.lt;have HK9:=Hd (HK6.out.trans' (ho9.below HK6.out.size (fun i e=>by rw[e];omega)));have HPA9:=Hd (HPA6.out.sam HIA.out (Sam.only ho9 (fun g _ hs q=>by omega)));have HPB9:=Hd (HPB6.out.sam HIB.out (Sam.only ho9 (fun g _ hs q=>by omega)));have HPC9:=Hd (HPC6.out.sam HIC.out (Sam.only ho9 (fun g _ hs q=>by omega)));clear hb9 ho9))
 have hw0:w.heap.size<=w0.heap.size:=HK0.out.size;have h:=HFIN.out (.slice aA1 au.length cA1) (.slice aE1 ed.length cE1) (.slice aF1 fs.length cF1) w9 ⟨⟨HPA9.out,HIA.out.mono fun g _ _ q=>by omega⟩,⟨HPB9.out,HIB.out.mono fun g _ _ q=>by omega⟩,⟨HPC9.out,HIC.out.mono fun g _ _ q=>by omega⟩⟩ HK9.out;refine bodyPost_ret (v:=zi0 skey styp (.slice aA1 au.length cA1) (.slice aE1 ed.length cE1) (.slice aF1 fs.length cF1)) ?_ rfl h;simp [results,Tryz.results43,go_sem,r0,r1,r2,r3,r4,rz,zi0]
end Go.Proofs.YtmcoomlkbgiboaaGreatDoor
