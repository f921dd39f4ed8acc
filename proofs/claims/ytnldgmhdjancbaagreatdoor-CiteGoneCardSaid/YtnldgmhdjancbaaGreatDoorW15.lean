/- Parts. -/
import Derived.Test.YtnldgmhdjancbaaGreatDoorW14
set_option linter.all false
set_option maxRecDepth 100000
set_option maxHeartbeats 6400000
namespace Go.Proofs.YtnldgmhdjancbaaGreatDoor
open Go.RowKit Go.Proofs.Tryz
def Late(n:Nat)(D:Nat->Option Nat)(L:Array Bool)(a0 a:Act):Prop:=∀i d,i<n->D i=some d->¬ On L i->a.tmps[d]? = a0.tmps[d]?
def Late.eval{n:Nat}{D:Nat->Option Nat}{L:Array Bool}{a0 a:Act}(h:Late n D L a0 a)(i d:Nat)(hi:i<n)(hd:D i=some d)(ho:¬ On L i):a.eval (.tmp d)=a0.eval (.tmp d):=by
 show a.tmps.getD d undef=a0.tmps.getD d undef;rw[bq,bq,h i d hi hd ho]
def Late.put{n:Nat}{D:Nat->Option Nat}{L:Array Bool}{a0 a:Act}(h:Late n D L a0 a)(i:Nat)(hi:i<n)(hinj:∀j d,j<n->D i=some d->D j=some d->j=i)(hL:i<L.size)(v:Value):Late n D (L.setIfInBounds i true) a0 (a.put (D i) v):=by
 intro j d hj hd ho;have hji:j≠i:=fun e=>ho (by rw[e];exact zeX hL);have h0:=h j d hj hd (fun q=>ho (za5 q));cases hdi:D i with
 | none=>exact h0
 | some e =>
  have lV:e≠d:=fun q=>hji (hinj j d hj (by rw[hdi,q]) hd);show(a.tmps.setIfInBounds e v)[d]? = _;rw[dJ lV];exact h0
section
variable {P:Program}{ops:Array Oper}{Q:Exit->Act->World->Prop}
def FacIL(n s:Nat)(D:Nat->Option Nat)(ea:List Nat)(dep:Nat->List Nat)(F:Nat->(Nat->Value)->World->Prop)(G:World->Prop)(Fin:(Nat->Value)->World->Prop)(a0:Act)(L:Array Bool)(a:Act)(w:World):Prop :=
 L.size=n/\∃V,Slots n D V L a0 a/\Late n D L a0 a/\(∀j,j<n->On L j->∀i∈dep j,On L i)/\(¬ On L s->G w/\∀j,j<n->On L j->F j V w)/\(On L s->Fin V w/\(∀i∈ea,On L i)/\∀j,j<n->On L j->j≠s->j∉ea->F j V w)
def zbT{id:Nat}{a:Act}{w:World}(n s m:Nat)(ea dep:Array (List Nat))(hc:zyU ops n s ea dep m=true)(hm:P.follows .mixedOrders=true)(hz:m<=a.tmps.size)(F:Nat->(Nat->Value)->World->Prop)(G:World->Prop)(St:World->World->Prop)(Fin:(Nat->Value)->World->Prop)(hloc:∀j,j<n->∀V V' w,(∀i,i=j\/i∈dep.getD j []->V i=V' i)->F j V w->F j V' w)(hfin:∀V V' w,(∀i,i=s\/i∈ea.getD 0 []->V i=V' i)->Fin V w->Fin V' w)(oN:∀j,j<n->j≠s->∀V w w',F j V w->St w w'->F j V w')(hfree:∀j,j<n->j≠s->j∉ea.getD 0 []->∀V w w',F j V w->F j V w')(hG0:G w.drew)(hstep:∀i,i<n->i≠s->∀V a' w',G w'->(∀j∈dep.getD i [],F j V w'/\∀d,zgH ops j=some d->a'.eval (.tmp d)=V j)->(∀t,(∀j,j<n->zgH ops j≠some t)->a'.eval (.tmp t)=a.eval (.tmp t))->(∀d,zgH ops s=some d->a'.eval (.tmp d)=a.eval (.tmp d))->∀K:Act->World->Prop,(∀v w'',St w' w''->G w''->F i (upd V i v) w''->K (a'.put (zgH ops i) v) w'')->wpOp P ops Q i K a' w')(hlast:∀V a' w',G w'->(∀j∈ea.getD 0 [],F j V w'/\∀d,zgH ops j=some d->a'.eval (.tmp d)=V j)->(∀t,(∀j,j<n->zgH ops j≠some t)->a'.eval (.tmp t)=a.eval (.tmp t))->∀K:Act->World->Prop,(∀v w'',Fin (upd V s v) w''->K (a'.put (zgH ops s) v) w'')->wpOp P ops Q s K a' w')(hafter:∀i,i<n->i≠s->i∉ea.getD 0 []->∀V a' w',Fin V w'->(∀j∈dep.getD i [],(j≠s->j∉ea.getD 0 []->F j V w')/\∀d,zgH ops j=some d->a'.eval (.tmp d)=V j)->∀K:Act->World->Prop,(∀v,F i (upd V i v) w'->K (a'.put (zgH ops i) v) w')->wpOp P ops Q i K a' w')(hend:∀V w',Fin V w'->(∀j,j<n->j≠s->j∉ea.getD 0 []->F j V w')->Q .normal (zc4 (zgH ops) V n a) w'):(Code.region id ops true).wp P Q a w:=by
 obtain⟨hn,hs,hac⟩:=zBU hc;have hO:∀i,i<n->∃o,ops[i]? = some o:=fun i hi=>⟨_,bY (by rw[hn];exact hi)⟩;have hdo:∀{i:Nat} {o:Oper},ops[i]? = some o->zgH ops i=o.dst:=fun h=>(by unfold zgH;rw[h];rfl);have hinj:∀i j d,i<n->j<n->zgH ops i=some d->zgH ops j=some d->j=i:=fun i j d hi hj h1 h2=>by
  obtain⟨o,ho⟩:=hO i hi;exact((zpV hc ho).2 d (by rw[<- hdo ho];exact h1)).2 j hj h2
 have kV:∀i d,i<n->zgH ops i=some d->d<a.tmps.size:=fun i d hi h1=>by
  obtain⟨o,ho⟩:=hO i hi;exact aU ((zpV hc ho).2 d (by rw[<- hdo ho];exact h1)).1 hz
 subst hn;generalize hD:zgH ops=D at *;generalize hE:ea.getD 0 []=E at *;refine zf1 (FacIL ops.size s D E (fun i=>dep.getD i []) F G Fin a) hm (zEe hac) ?_ ?_ ?_
 .have hno:∀i,¬ On (Array.replicate ops.size false) i:=fun i=>zgQ ops.size i;exact⟨b_,fun _=>undef,ku _ _ _ _ _,fun _ _ _ _ _=>rfl,fun j _ h=>absurd h (hno j),fun _=>⟨hG0,fun j _ h=>absurd h (hno j)⟩,fun h=>absurd h (hno s)⟩
 .intro L a1 w1 ⟨ny,V,S,_,_,_,h4⟩ oy;have hon:∀i,i<ops.size->On L i:=fun i hi=>by
   have:=oy i hi;unfold On;rw[bq,bY a_]at this ⊢;exact this
  rw[zBT S hinj kV hon];exact hend V w1 (h4 (hon s hs)).1 fun j hj q1 q2=>(h4 (hon s hs)).2.2 j hj (hon j hj) q1 q2
 .intro L a1 w1 i ⟨ny,V,S,SL,h2,h3,h4⟩ hi hn m7;obtain⟨o,ho⟩:=hO i hi;have n0:=zv8 hn;have rH:∀j∈dep.getD i [],On L j/\j≠i/\j<ops.size:=fun j hj=>by
   obtain⟨q1,q0,e,he,hb,q⟩:=(zpV hc ho).1 j hj;have h5:=m7 o ho e he hb;refine⟨?_,q1,q0⟩;rcases q with rfl|q
   .exact h5
   .have ox:e.on<ops.size:=by
     have:=zEe hac i o ho e he hb;omega
    exact h2 e.on ox h5 j q
  have hev:∀j,j<ops.size->On L j->∀d,D j=some d->a1.eval (.tmp d)=V j:=fun j hj h d hd=>S.eval j d hj hd h;have hrest:∀t,(∀j,j<ops.size->D j≠some t)->a1.eval (.tmp t)=a.eval (.tmp t):=fun t ht=>S.ext t ht;have hput:∀v,Slots ops.size D (upd V i v) (L.setIfInBounds i true) a (a1.put (D i) v):=fun v=>S.put i hi a_ (fun j d hj h5 h6=>hinj i j d hi hj h5 h6) (fun d hd=>kV i d hi hd) v (fun _=>(zaG V i v).symm) (fun j _ hj=>(zoH (fun e=>n0 (by rw[<- e];exact hj))).symm);have vJ:∀v,Late ops.size D (L.setIfInBounds i true) a (a1.put (D i) v):=fun v=>SL.put i hi (fun j d hj h5 h6=>hinj i j d hi hj h5 h6) a_ v;have nf:∀j,j<ops.size->On (L.setIfInBounds i true) j->∀k∈dep.getD j [],On (L.setIfInBounds i true) k:=fun j hj h k hk=>by
   rcases zgB h with rfl|q
   .exact za5 (rH k hk).1
   .exact za5 (h2 j hj q k hk)
  have Hw:∀v w2 j,j<ops.size->On L j->F j V w2->F j (upd V i v) w2:=fun v w2 j hj q h6=>by
   refine hloc j hj V (upd V i v) w2 (fun k hk=>(zoH ?_).symm) h6;rintro rfl;rcases hk with rfl|hk
   .exact n0 q
   .exact n0 (h2 j hj q k hk)
  by_cases his:i=s
  .subst his;obtain⟨hG,DB⟩:=h3 n0;have oy:∀j∈E,j<ops.size/\On L j/\j≠i:=fun j hj=>by
    obtain⟨q,e,he,hb,rfl⟩:=zHA hc (by rw[hE];exact hj) ho;exact⟨a_,m7 o ho e he hb,a_⟩
   refine hlast V a1 w1 hG (fun j hj=>⟨DB j (oy j hj).1 (oy j hj).2.1,hev j (oy j hj).1 (oy j hj).2.1⟩) hrest _ (fun v w2 k1=>?_);refine⟨by rw[cn];exact ny,upd V i v,hput v,vJ v,nf,fun h=>absurd (zeX a_) h,fun _=>⟨k1,fun j hj=>za5 (oy j hj).2.1,fun j hj h q1 q2=>?_⟩⟩;rcases zgB h with q|q
   .exact absurd q q1
   .exact Hw v w2 j hj q (hfree j hj q1 q2 V w1 w2 (DB j hj q))
  .have hso:On (L.setIfInBounds i true) s->On L s:=fun h=>by
    rcases zgB h with q|q
    .exact absurd q.symm his
    .exact q
   by_cases hos:On L s
   .obtain⟨hF,hEa,Kc⟩:=h4 hos;have F6:i∉E:=fun q=>n0 (hEa i q);refine hafter i hi his F6 V a1 w1 hF (fun j hj=>⟨fun q1 q2=>Kc j (rH j hj).2.2 (rH j hj).1 q1 q2,hev j (rH j hj).2.2 (rH j hj).1⟩) _ (fun v k1=>?_);refine⟨by rw[cn];exact ny,upd V i v,hput v,vJ v,nf,fun h=>absurd (za5 hos) h,fun _=>⟨hfin V _ w1 (fun k hk=>(zoH ?_).symm) hF,fun j hj=>za5 (hEa j hj),fun j hj h q1 q2=>?_⟩⟩
    .rintro rfl;rcases hk with q|q
     .exact his q
     .exact F6 q
    .rcases zgB h with rfl|q
     .exact k1
     .exact Hw v w1 j hj q (Kc j hj q q1 q2)
   .obtain⟨hG,DB⟩:=h3 hos;refine hstep i hi his V a1 w1 hG (fun j hj=>⟨DB j (rH j hj).2.2 (rH j hj).1,hev j (rH j hj).2.2 (rH j hj).1⟩) hrest (fun d hd=>SL.eval s d hs hd hos) _ (fun v w2 k1 k2 k3=>?_);refine⟨by rw[cn];exact ny,upd V i v,hput v,vJ v,nf,fun _=>⟨k2,fun j hj h=>?_⟩,fun h=>absurd (hso h) hos⟩;rcases zgB h with rfl|q
    .exact k3
    .exact Hw v w2 j hj q (oN j hj (fun e=>hos (e ▸ q)) V w1 w2 (DB j hj q) k1)
end
section
variable {P:Program}{ops:Array Oper}{Q:Exit->Act->World->Prop}
def zaF{i:Nat}{op:Op}{d:Option Nat}(h:OpAt ops i op d):zgH ops i=d:=by
 obtain⟨o,ho,-,-,hd⟩:=h;unfold zgH;rw[ho];exact hd
def zaP{i:Nat}{op:Op}{d:Option Nat}{a:Act}{w w':World}{v:Value}{K:Act->World->Prop}(h:OpAt ops i op d)(hr:∀o:Oper,o.op=op->(execOp a.eval o).run P w=.ok (.value v) w')(hk:K (a.put (zgH ops i) v) w'):wpOp P ops Q i K a w:=by
 rw[zaF h]at hk;obtain⟨o,ho,hop,hg,hd⟩:=h;exact zaR ho hg (hr o hop) (by rw[hd];exact hk)
def zbU{i:Nat}{op:Op}{d:Option Nat}{a:Act}{w w':World}{f:FuncId}{args:Array Value}{K:Act->World->Prop}(h:OpAt ops i op d)(hr:∀o:Oper,o.op=op->(execOp a.eval o).run P w=.ok (.enter f args) w')(hc:Calls P f args w' fun e w''=>∃v,e=.returned v/\K (a.put (zgH ops i) v) w''):wpOp P ops Q i K a w:=by
 rw[zaF h]at hc;obtain⟨o,ho,hop,hg,hd⟩:=h;exact zfE ho hg (hr o hop) (by rw[hd];exact hc)
def zcW{i:Nat}{op:Op}{d:Option Nat}{a:Act}{w:World}{K:Act->World->Prop}(h:OpAt ops i op d)(hl:∀o:Oper,o.op=op->o.guard=none->o.dst=zgH ops i->wpList P ops (QK Q K) [o] a w):wpOp P ops Q i K a w:=by
 have e:=zaF h;obtain⟨o,ho,hop,hg,hd⟩:=h;exact zmK ho (hl o hop hg (by rw[hd,e]))
def zdC{i:Nat}{x:Operand}{d:Option Nat}{a:Act}{w:World}{K:Act->World->Prop}(h:OpAt ops i (.move x) d){v:Value}(hx:a.eval x=v)(hk:K (a.put (zgH ops i) v) w):wpOp P ops Q i K a w :=
 zaP h (fun o ho=>by simp only[execOp,ho,hx];simp [go_sem]) hk
def zsO{i:Nat}{x:Operand}{d:Option Nat}{a:Act}{w:World}{K:Act->World->Prop}(h:OpAt ops i (.assign x) d){v:Value}(hx:a.eval x=v)(hk:K (a.put (zgH ops i) v) w):wpOp P ops Q i K a w :=
 zaP h (fun o ho=>by simp only[execOp,ho,hx];simp [go_sem]) hk
end
def Tryz.infoKy:(prog.info? 108).map (fun i=>(i.zero,i.size,i.bytes))=some (some (.agg #[.string ⟨#[]⟩,.int .i64 0,.string ⟨#[]⟩,.string ⟨#[]⟩]),4,56):=g_
def Tryz.sizeKy:(prog.info? 108).map (·.size)=some 4:=g_
def Tryz.sizeS5:(prog.info? 50).map (·.size)=some 5:=g_
def zjW(s:SrcT)(vA vE vF:Value)(I:Nat)(t au:Bs)(yr:Int)(n0:Nat):Nat->(Nat->Value)->World->Prop
 | 0,V,_=>V 0=.agg #[.string (bs s.key),.string (bs s.type),vA,vE,vF]
 | 1,V,_=>V 1=.string (bs au)
 | 2,V,_=>V 2=.agg #[.string (bs s.key),.string (bs s.type),vA,vE,vF]
 | 3,V,_=>V 3=.int .i64 yr
 | 4,V,_=>V 4=.string (bs t)
 | 5,V,_=>V 5=.pointer (some ⟨I,0,none⟩)
 | 6,V,_=>V 6=.string (bs s.key)
 | 7,V,_=>V 7=.agg #[.string (bs au),.int .i64 yr,.string (bs t),.string (bs s.key)]
 | 8,V,w=>∃Z:Nat,V 8=.pointer (some ⟨Z,0,none⟩)/\n0<=Z/\Blk w Z 108 #[.string (bs []),.int .i64 0,.string (bs []),.string (bs [])]
 | _,_,_=>True
def zEU{ops:Array Oper}{id:Nat}{a:Act}{wr:World}{Q:Exit->Act->World->Prop}(s:SrcT)(vA vE vF:Value)(I:Nat)(t au:Bs)(yr:Int)(hc:zyU ops 10 9 #[[0,1,2,3,4,5,6,7,8]] #[[],[0],[],[2],[],[],[5],[1,3,4,6],[],[7,8]] 73=true)(p0:OpAt ops 0 (.load 50 (.tmp 11)) (some 36))(p1:OpAt ops 1 (.call { callee:=.value (.func 47),args:=#[.tmp 36],argTypes:=#[50] }) (some 37))
  (p2:OpAt ops 2 (.load 50 (.tmp 11)) (some 38))
  (p3:OpAt ops 3 (.call { callee:=.value (.func 48),args:=#[.tmp 38],argTypes:=#[50] }) (some 39))
  (p4:OpAt ops 4 (.move (.tmp 12)) (some 40))
  (p5:OpAt ops 5 (.fieldAddr 50 (.tmp 11) 0) (some 41))
  (p6:OpAt ops 6 (.load 9 (.tmp 41)) (some 42))
  (p7:OpAt ops 7 (.build 108 #[(0,.tmp 37),(1,.tmp 39),(2,.tmp 40),(3,.tmp 42)]) (some 43))
  (p8:OpAt ops 8 (.alloc 108) (some 14))
  (p9:OpAt ops 9 (.store 108 (.tmp 14) (.tmp 43)) none)
  (hz:73<=a.tmps.size) (h11:a.eval (.tmp 11)=.pointer (some ⟨I,0,none⟩)) (h12:a.eval (.tmp 12)=.string (bs t))
  (HB:Hi (Blk wr I 50 #[.string (bs s.key),.string (bs s.type),vA,vE,vF])) (HA:Hi (∀w',Kept wr w'->Calls prog 47 #[.agg #[.string (bs s.key),.string (bs s.type),vA,vE,vF]] w' fun e w''=>e=.returned (.string (bs au))/\Kept w' w'')) (HY:Hi (∀w',Kept wr w'->Calls prog 48 #[.agg #[.string (bs s.key),.string (bs s.type),vA,vE,vF]] w' fun e w''=>e=.returned (.int .i64 yr)/\Kept w' w''))
  (hend:∀(V:Nat->Value) w' TB,V 8=.pointer (some ⟨TB,0,none⟩)->wr.heap.size<=TB->Blk w' TB 108 #[.string (bs au),.int .i64 yr,.string (bs t),.string (bs s.key)]->Kept wr w'->Q .normal ((((((((((a.put (some 36) (V 0)).put (some 37) (V 1)).put (some 38) (V 2)).put (some 39) (V 3)).put (some 40) (V 4)).put (some 41) (V 5)).put (some 42) (V 6)).put (some 43) (V 7)).put (some 14) (V 8)).put none (V 9)) w') :
  (Code.region id ops true).wp prog Q a wr:=by
 have e0:=zaF p0;have e1:=zaF p1;have e2:=zaF p2;have e3:=zaF p3;have e4:=zaF p4;have e5:=zaF p5;have e6:=zaF p6;have e7:=zaF p7;have e8:=zaF p8;have e9:=zaF p9;have mc:∀t,(t=11\/t=12)->∀j,j<10->zgH ops j≠some t:=by
  intro t ht j hj;obtain rfl|rfl|rfl|rfl|rfl|rfl|rfl|rfl|rfl|rfl:j=0\/j=1\/j=2\/j=3\/j=4\/j=5\/j=6\/j=7\/j=8\/j=9:=a_
  all_goals simp [e0,e1,e2,e3,e4,e5,e6,e7,e8,e9]
  all_goals omega
 refine zbT 10 9 73 _ _ hc d_ hz (zjW s vA vE vF I t au yr wr.heap.size) (fun w=>Kept wr w) Kept
  (fun V w=>∃TB:Nat,V 8=.pointer (some ⟨TB,0,none⟩)/\wr.heap.size<=TB/\Blk w TB 108 #[.string (bs au),.int .i64 yr,.string (bs t),.string (bs s.key)]/\Kept wr w) ?_ ?_ ?_ ?_ ?_ ?_ ?_ ?_ ?_
 .intro j hj V V' w hV h;have hjj:=hV j (.inl rfl);obtain rfl|rfl|rfl|rfl|rfl|rfl|rfl|rfl|rfl|rfl:j=0\/j=1\/j=2\/j=3\/j=4\/j=5\/j=6\/j=7\/j=8\/j=9:=a_
  all_goals (simp only[zjW]at h ⊢;try (rw[<- hjj];exact h))
 .intro V V' w hV h;rw[<- hV 8 (.inr b_)];exact h
 .intro j hj lV V w w' h k;obtain rfl|rfl|rfl|rfl|rfl|rfl|rfl|rfl|rfl:j=0\/j=1\/j=2\/j=3\/j=4\/j=5\/j=6\/j=7\/j=8:=a_
  .exact h
  .exact h
  .exact h
  .exact h
  .exact h
  .exact h
  .exact h
  .exact h
  .obtain⟨Z,h1,h2,h3⟩:=h;exact⟨Z,h1,h2,h3.kept k⟩
 .intro j hj lV hni;exfalso;apply hni;have:j<9:=a_;simp only[Array.getD,dQ];obtain rfl|rfl|rfl|rfl|rfl|rfl|rfl|rfl|rfl:j=0\/j=1\/j=2\/j=3\/j=4\/j=5\/j=6\/j=7\/j=8:=a_
  all_goals simp
 .exact zaB wr 1
 .intro i hi lV V a' w' hG hF hR hS K hK;have qX:=(hR 11 (mc 11 a_)).trans h11;have sg:=(hR 12 (mc 12 a_)).trans h12;have hb:=HB.o.kept hG;have c0:w'.cell? ⟨I,0,none⟩=some (.string (bs s.key)):=hb.cell 0 _ rfl;have same:∀v,zjW s vA vE vF I t au yr wr.heap.size i (upd V i v) w'->K (a'.put (zgH ops i) v) w':=fun v h=>hK v w' (af _) hG h;obtain rfl|rfl|rfl|rfl|rfl|rfl|rfl|rfl|rfl:i=0\/i=1\/i=2\/i=3\/i=4\/i=5\/i=6\/i=7\/i=8:=a_
  .refine zcW p0 fun o1 ho hg' hd'=>?_;refine zaJ hg' 50 (.tmp 11) ho _ #[.string (bs s.key),.string (bs s.type),vA,vE,vF] qX hb _ dh rfl Tryz.sizeS5 ?_;rw[hd'];exact same _ (zaG _ _ _)
  .have z0:=((hF 0 b_).2 _ e0).trans (hF 0 b_).1;refine zbU p1 (f:=47) (args:=#[.agg #[.string (bs s.key),.string (bs s.type),vA,vE,vF]]) (w':=w') (fun o1 ho=>?_) ((HA.o w' hG).mono fun e w'' ⟨he,hk⟩=>⟨_,he,hK _ w'' hk (hG.trans hk) (zaG _ _ _)⟩);simp only[execOp,ho,resolve,ck,bd,ca,z0];simp [go_sem]
  .refine zcW p2 fun o1 ho hg' hd'=>?_;refine zaJ hg' 50 (.tmp 11) ho _ #[.string (bs s.key),.string (bs s.type),vA,vE,vF] qX hb _ dh rfl Tryz.sizeS5 ?_;rw[hd'];exact same _ (zaG _ _ _)
  .have z2:=((hF 2 b_).2 _ e2).trans (hF 2 b_).1;refine zbU p3 (f:=48) (args:=#[.agg #[.string (bs s.key),.string (bs s.type),vA,vE,vF]]) (w':=w') (fun o1 ho=>?_) ((HY.o w' hG).mono fun e w'' ⟨he,hk⟩=>⟨_,he,hK _ w'' hk (hG.trans hk) (zaG _ _ _)⟩);simp only[execOp,ho,resolve,ck,bd,ca,z2];simp [go_sem]
  .exact zdC p4 sg (same _ (zaG _ _ _))
  .refine zaP p5 (v:=.pointer (some ⟨I,0,none⟩)) (w':=w') (fun o1 ho=>?_) (same _ (zaG _ _ _));simp only[execOp,ho,qX];simp [go_sem,dh]
  .have z5:=((hF 5 b_).2 _ e5).trans (hF 5 b_).1;refine zaP p6 (v:=.string (bs s.key)) (w':=w') (fun o1 ho=>?_) (same _ (zaG _ _ _));simp only[execOp,ho,z5];simp [go_sem,aq,c0]
  .have z1:=((hF 1 b_).2 _ e1).trans (hF 1 b_).1;have z3:=((hF 3 b_).2 _ e3).trans (hF 3 b_).1;have z4:=((hF 4 b_).2 _ e4).trans (hF 4 b_).1;have z6:=((hF 6 b_).2 _ e6).trans (hF 6 b_).1;refine zaP p7 (v:=.agg #[.string (bs au),.int .i64 yr,.string (bs t),.string (bs s.key)]) (w':=w') (fun o1 ho=>?_) (same _ (zaG _ _ _));have Kd:=z1;simp only[Act.eval,bq]at Kd;have y39:=z3;simp only[Act.eval,bq]at y39;have Ke:=z4;simp only[Act.eval,bq]at Ke;have Kf:=z6;simp only[Act.eval,bq]at Kf;simp only[execOp,ho];simp [go_sem,Kd,y39,Ke,Kf]
  .obtain⟨i0,hi,mr,mq,mm⟩:=cg Tryz.infoKy;refine zaP p8 (v:=.pointer (some ⟨w'.heap.size,0,none⟩)) (w':=w'.alloc (.cells #[.string (bs []),.int .i64 0,.string (bs []),.string (bs [])] 108)) (fun o1 ho=>?_) (hK _ _ (zaA _ _) (hG.trans (zaA _ _)) ⟨w'.heap.size,zaG _ _ _,hG.size,aI _ _ _⟩);simp only[execOp,ho];simp [go_sem,hi,mr]
 .intro V a' w' hG hF hR K hK;obtain⟨⟨Z,r1,r2,r3⟩,r4⟩:=hF 8 b_;have z1:=(r4 _ e8).trans r1;have z0:=((hF 7 b_).2 _ e7).trans (hF 7 b_).1;refine zcW p9 fun o1 ho hg' hd'=>?_;refine zaI hg' 108 (.tmp 14) (.tmp 43) ho Z #[.string (bs []),.int .i64 0,.string (bs []),.string (bs [])] #[.string (bs au),.int .i64 yr,.string (bs t),.string (bs s.key)] z1 z0 r3 rfl Tryz.sizeKy (by simp [Value.oneCell']) ?_;intro w2 mV mQ;rw[hd'];exact hK _ _ ⟨Z,(zoH a_).trans r1,r2,mV,hG.trans' (mQ.below hG.size (fun i e=>by rw[e];exact r2))⟩
 .intro i hi lV hni;exfalso;apply hni;have:i<9:=a_;obtain rfl|rfl|rfl|rfl|rfl|rfl|rfl|rfl|rfl:i=0\/i=1\/i=2\/i=3\/i=4\/i=5\/i=6\/i=7\/i=8:=a_
  all_goals simp
 .intro V w' ⟨TB,g1,g2,g3,g4⟩ _;have:=hend V w' TB g1 g2 g3 g4;simp only[zc4,e0,e1,e2,e3,e4,e5,e6,e7,e8,e9];exact this
def zyV(w:World)(g:Nat)(ps:List P4):∀(o:Nat),(∀j q,ps[j]? = some q->w.cell? ⟨g,o+j * 4,none⟩=some (.string (bs q.1))/\w.cell? ⟨g,o+j * 4+1,none⟩=some (.string (bs q.2.1))/\w.cell? ⟨g,o+j * 4+2,none⟩=some (.string (bs q.2.2.1))/\w.cell? ⟨g,o+j * 4+3,none⟩=some (.string (bs q.2.2.2)))->∀j u,(zeY ps)[j]? = some u->w.cell? ⟨g,o+j,none⟩=some u:=by
 induction ps with
 | nil=>intro o _ j u h;cases h
 | cons p ps ih =>
  intro o hc j u h;have e:zeY (p::ps)=.string (bs p.1)::.string (bs p.2.1)::.string (bs p.2.2.1)::.string (bs p.2.2.2)::zeY ps:=(by simp [zeY]);rw[e]at h;obtain⟨c0,c1,c2,c3⟩:=hc 0 p rfl;simp only[gi,dl]at c0 c1 c2 c3
  match j with
  | 0=>simp at h;subst h;exact c0
  | 1=>simp at h;subst h;exact c1
  | 2=>simp at h;subst h;exact c2
  | 3=>simp at h;subst h;exact c3
  | j+4 =>
   have:=ih (o+4) (fun i q hq=>by
    have h4:=hc (i+1) q (by simpa using hq);rw[show o+(i+1) * 4=o+4+i * 4 from by omega]at h4;exact h4) j u (by simpa using h)
   rw[show o+(j+4)=o+4+j from by omega];exact this
def zBV(ps:List P4):(zeY ps).length=ps.length * 4:=by
 induction ps with
 | nil=>rfl
 | cons p ps ih =>
    have e:zeY (p::ps)=.string (bs p.1)::.string (bs p.2.1)::.string (bs p.2.2.1)::.string (bs p.2.2.2)::zeY ps:=(by simp [zeY]);rw[e];simp only[az,ih];omega
def zBW(ps:List P4):∀u∈zeY ps,u.oneCell'=true:=by
 intro u hu;unfold zeY at hu;rw[ef]at hu;obtain⟨q,_,hq⟩:=hu;simp at hq;rcases hq with rfl|rfl|rfl|rfl<;>rfl
def Perss.news{w:World}{ad:Addr}{n c:Nat}{ps:List P4}(h:Perss w (.slice (some ad) n c) ps):∀j u,(zeY ps)[j]? = some u->w.cell? (ad.add j)=some u:=by
 intro j u hu;obtain⟨a,c',hv,_,h3⟩:=h;obtain⟨rfl,_,_⟩:=bL hv;have hp:0<ps.length:=by
  cases ps with
  | nil=>cases hu
  | cons p ps=>simp
 obtain⟨g,o,ha,_,hc⟩:=h3 hp;cases ha;rw[zBg];exact zyV w g ps o hc j u hu
def Perss.nil_{w:World}{n c:Nat}{ps:List P4}(h:Perss w (.slice none n c) ps):ps=[]:=by
 obtain⟨a,c',hv,_,h3⟩:=h;obtain⟨rfl,_,_⟩:=bL hv;cases ps with
 | nil=>rfl
 | cons p ps =>
  obtain⟨g,o,ha,_⟩:=h3 b_;cases ha
def Prs.nil_{w:World}{n c:Nat}{ps:List Pr}(h:Prs w (.slice none n c) ps):ps=[]:=by
 obtain⟨a,c',hv,_,h3⟩:=h;obtain⟨rfl,_,_⟩:=bL hv;cases ps with
 | nil=>rfl
 | cons p ps =>
  obtain⟨g,o,ha,_⟩:=h3 b_;cases ha
def Perss.none_(w:World):Perss w (.slice none 0 0) []:=⟨none,0,rfl,aw _,fun q=>absurd q b_⟩
def Fresh(B:Nat)(v:Value):Prop:=∀g o n c,v=.slice (some ⟨g,o,none⟩) n c->0<n->B<=g
def Fresh.none_(B:Nat)(n c:Nat):Fresh B (.slice none n c):=fun _ _ _ _ h=>by cases h
def Fresh.own{w:World}{base:Nat}{e:TypeId}{size:Nat}{v:Value}{n:Nat}{xs:List Value}(h:w.ownsRow base e size v n xs):Fresh base v:=by
 obtain⟨a,c,rfl,_,_,h3⟩:=zaZ h;intro g o n' c' he hn;obtain⟨rfl,rfl,rfl⟩:=bL he;obtain⟨g',e',hb,_⟩:=h3 hn;cases e';exact hb
def Perss.away{S:Nat->Prop}{w w':World}{B:Nat}{v:Value}{ps:List P4}(h:Perss w v ps)(hf:Fresh B v)(k:Only S w w')(hS:∀i,S i->i<B):Perss w' v ps:=by
 obtain⟨a,c,rfl,hc,h3⟩:=h;refine⟨a,c,rfl,hc,fun q=>?_⟩;obtain⟨g,o,rfl,hg,kR⟩:=h3 q;have hb:=hf g o _ _ rfl q;have hn:¬ S g:=fun h=>(by have:=hS g h;omega);refine⟨g,o,rfl,aU hg k.size,fun j x hx=>?_⟩;rw[k.cell g _ hg hn,k.cell g _ hg hn,k.cell g _ hg hn,k.cell g _ hg hn];exact kR j x hx
def Prs.away{S:Nat->Prop}{w w':World}{B:Nat}{v:Value}{ps:List Pr}(h:Prs w v ps)(hf:Fresh B v)(k:Only S w w')(hS:∀i,S i->i<B):Prs w' v ps:=by
 obtain⟨a,c,rfl,hc,h3⟩:=h;refine⟨a,c,rfl,hc,fun q=>?_⟩;obtain⟨g,o,rfl,hg,kR⟩:=h3 q;have hb:=hf g o _ _ rfl q;have hn:¬ S g:=fun h=>(by have:=hS g h;omega);refine⟨g,o,rfl,aU hg k.size,fun j x hx=>?_⟩;rw[k.cell g _ hg hn,k.cell g _ hg hn];exact kR j x hx
def CloneP(ps:List P4)(w:World)(e:Ending)(w':World):Prop:=∃v',e=.returned v'/\Perss w' v' ps/\Fresh w.heap.size v'/\Kept w w'
def CloneF(ps:List Pr)(w:World)(e:Ending)(w':World):Prop:=∃v',e=.returned v'/\Prs w' v' ps/\Fresh w.heap.size v'/\Kept w w'
def zg7(v:Value)(ps:List P4)(w:World)(hv:Perss w v ps)(hN:ps.length<=1100000):Calls prog 45 #[v] w (CloneP ps w):=by
 obtain⟨i0,hi,mr,mq,mm⟩:=cg Tryz.infoPers;have qT:∀(w:World) (a:Option Addr) (n c n' c':Nat),(binOp .eql 48 (.slice a n c) (.slice none n' c')).run prog w=.ok (.bool a.isNone) w:=fun w a n c n' c'=>Lib.run_eql_slice_nil w _ _ a n c n' c' fG;have HV:=Hd hv;obtain⟨a,c,rfl,hc,h3⟩:=hv;clear h3;cases a with
 | none =>
  obtain rfl:ps=[]:=HV.o.nil_;go_in;go_wp2;go_ret;exact⟨_,rfl,Perss.none_ _,Fresh.none_ _ _ _,af _⟩
 | some ad =>
  have sC:=Hd ((HV.o.kept (zaA w (.cells #[] 52))).news);have vN:=zBV ps;have qk:=Hd (zBW ps);have Hx:Hi (∀(w:World) (base:Nat) (e:TypeId) (v:Value) (n:Nat),n=ps.length->w.ownsRow base e 4 v n ([]++zeY ps)->Perss w v ps):=by
   intro w base e v n hn h;subst hn;exact Perss.own (by simpa using h)
  go_in;go_wp2_with (at_builtin;refine cV _ rfl _ _ 48 rfl w.heap.size 52 i0 _ 4 64 fG hi mr mq mm rfl c_ _ 0 [] rfl (fm w #[] 0 (aw _) h_ b_) ad ps.length c (zeY ps) rfl vN sC.o qk.o ?_ ?_ ?_ ?_)
  .unfold maxLen;omega
  .omega
  .simp
  intro v' w2 lr lw _;have HR:=Hd (Hx.o _ _ _ _ _ a_ lr);have HK:=Hd ((zaA w (.cells #[] 52)).trans' (za2 (fm (size:=4) w #[] 0 (aw _) h_ b_) lw b_));have ta:=Hd (Fresh.own lr);clear lr lw;go_wp2;go_ret;exact⟨_,rfl,HR.o,ta.o,HK.o⟩
def zoI(v:Value)(ps:List Pr)(w:World)(hv:Prs w v ps)(hN:ps.length<=1100000):Calls prog 25 #[v] w (CloneF ps w):=by
 obtain⟨i0,hi,mr,mq,mm⟩:=cg Tryz.infoPair;have qT:∀(w:World) (a:Option Addr) (n c n' c':Nat),(binOp .eql 22 (.slice a n c) (.slice none n' c')).run prog w=.ok (.bool a.isNone) w:=fun w a n c n' c'=>Lib.run_eql_slice_nil w _ _ a n c n' c' gh;have HV:=Hd hv;obtain⟨a,c,rfl,hc,h3⟩:=hv;clear h3;cases a with
 | none =>
  obtain rfl:ps=[]:=HV.o.nil_;go_enter kr,jX;go_wp2;go_ret;exact⟨_,rfl,fL _,Fresh.none_ _ _ _,af _⟩
 | some ad =>
  have sC:=Hd ((HV.o.kept (zaA w (.cells #[] 46))).news);have vN:=zrV ps;have qk:=Hd (zrW ps);have Hx:Hi (∀(w:World) (base:Nat) (e:TypeId) (v:Value) (n:Nat),n=ps.length->w.ownsRow base e 2 v n ([]++zcO ps)->Prs w v ps):=by
   intro w base e v n hn h;subst hn;exact Prs.own (by simpa using h)
  go_enter kr,jX;go_wp2_with (at_builtin;refine cV _ rfl _ _ 22 rfl w.heap.size 46 i0 _ 2 32 gh hi mr mq mm rfl c_ _ 0 [] rfl (fm w #[] 0 (aw _) h_ b_) ad ps.length c (zcO ps) rfl vN sC.o qk.o ?_ ?_ ?_ ?_)
  .unfold maxLen;omega
  .omega
  .simp
  intro v' w2 lr lw _;have HR:=Hd (Hx.o _ _ _ _ _ a_ lr);have HK:=Hd ((zaA w (.cells #[] 46)).trans' (za2 (fm (size:=2) w #[] 0 (aw _) h_ b_) lw b_));have ta:=Hd (Fresh.own lr);clear lr lw;go_wp2;go_ret;exact⟨_,rfl,HR.o,ta.o,HK.o⟩
def Perss.freshB{w:World}{v:Value}{ps:List P4}{B:Nat}(h:Perss w v ps)(hf:Fresh B v):InB (fun g=>B<=g) v ps.length:=fun q g hg=>by
 obtain⟨a,c,rfl,hc,h3⟩:=h;obtain⟨g',o,rfl,_⟩:=h3 q;have:g'=g:=(by simpa [Value.ownBlock]using hg);subst this;exact hf g' o _ _ rfl q
def Prs.freshB{w:World}{v:Value}{ps:List Pr}{B:Nat}(h:Prs w v ps)(hf:Fresh B v):InB (fun g=>B<=g) v ps.length:=fun q g hg=>by
 obtain⟨a,c,rfl,hc,h3⟩:=h;obtain⟨g',o,rfl,_⟩:=h3 q;have:g'=g:=(by simpa [Value.ownBlock]using hg);subst this;exact hf g' o _ _ rfl q
def Tryz.sizeSo:(prog.info? 50).map (fun x=>x.size)=some 5:=g_
def CpyS(s:SrcT)(w:World)(e:Ending)(w':World):Prop:=∃vA vE vF,e=.returned (znF s.key s.type vA vE vF)/\SrcL (fun g=>w.heap.size<=g) w' vA vE vF s/\Kept w w'
def zyW(vA vE vF:Value)(s:SrcT)(w:World)(hA:Perss w vA s.author)(hE:Perss w vE s.editor)(hF:Prs w vF s.fields)(lA:s.author.length<=1000)(lE:s.editor.length<=1000)(lF:s.fields.length<=1000):Calls prog 54 #[znF s.key s.type vA vE vF] w (CpyS s w):=by
 have uC:=Hd (fun w' (k:Kept w w')=>zg7 vA s.author w' (hA.kept k) a_);have nH:=Hd (fun w' (k:Kept w w')=>zg7 vE s.editor w' (hE.kept k) a_);have rq:=Hd (fun w' (k:Kept w w')=>zoI vF s.fields w' (hF.kept k) a_);unfold CloneP at uC nH;unfold CloneF at rq;obtain⟨aA,cA,rfl,_⟩:=hA.shape;obtain⟨aE,cE,rfl,_⟩:=hE.shape;obtain⟨aF,cF,rfl,_⟩:=(show∃a c,vF=.slice a s.fields.length c/\s.fields.length<=c by obtain⟨a,c,e,l,_⟩:=hF;exact⟨a,c,e,l⟩);have lh:Hi (∀vA vE vF w',SrcL (fun g=>w.heap.size<=g) w' vA vE vF s->Kept w w'->CpyS s w (.returned (znF s.key s.type vA vE vF)) w'):=fun vA vE vF w' h1 h2=>⟨vA,vE,vF,rfl,h1,h2⟩;clear hA hE hF;obtain⟨np,nr,au,ed,fs⟩:=s;simp only at uC nH rq lA lE lF;have mX:=(aI w 50 #[.string (bs np),.string (bs nr),.slice aA au.length cA,.slice aE ed.length cE,.slice aF fs.length cF]).alloc (.cells #[.string (bs []),.string (bs []),.slice none 0 0,.slice none 0 0,.slice none 0 0] 50);have hr1:=aI (w.alloc (.cells #[.string (bs np),.string (bs nr),.slice aA au.length cA,.slice aE ed.length cE,.slice aF fs.length cF] 50)) 50 #[.string (bs []),.string (bs []),.slice none 0 0,.slice none 0 0,.slice none 0 0];have lg:=Hd ((zaA w (.cells #[.string (bs np),.string (bs nr),.slice aA au.length cA,.slice aE ed.length cE,.slice aF fs.length cF] 50)).trans (zaA _ (.cells #[.string (bs []),.string (bs []),.slice none 0 0,.slice none 0 0,.slice none 0 0] 50)));obtain⟨B,mW⟩:=gX w.heap.size;simp only[de,mW.o]at mX hr1;have ma:=Hd mX;have HR1:=Hd hr1;have xO:w.heap.size<=B:=(by rw[mW.o];exact aw _);clear mX hr1;generalize CpyS ⟨np,nr,au,ed,fs⟩ w=P at *;go_in;go_upto_region 1 with fail;rw[mW.o];generalize World.alloc (World.alloc w _) _=w0 at *;have hB0:B+1<w0.heap.size:=HR1.o.lt;have c2:=ma.o.cell 2 _ rfl;have cz:=ma.o.lt;go_wp2_with fail;refine(uC.o w0 lg.o).mono ?_;rintro e w1 ⟨xP,rfl,p1,f1,k1⟩;have vk:=Hd (p1.sam (S:=fun g=>w0.heap.size<=g) (p1.freshB f1) (fun _ _ _=>rfl));have qN:Hi (InB (fun g=>w0.heap.size<=g) xP au.length):=p1.freshB f1;obtain⟨mO,mP,rfl,_⟩:=p1.shape;have hb:=ma.o.kept k1;have c2':=hb.cell 2 _ rfl;have Np:=hb.free 2;have DC:=hb.lt;have lx:Hi (Blk (w1.setCell ⟨B,2,none⟩ (.slice mO au.length mP)) B 50 #[.string (bs np),.string (bs nr),.slice mO au.length mP,.slice aE ed.length cE,.slice aF fs.length cF]):=hb.set 2 _;have mQ:=bK (w:=w1) B 2 (.slice mO au.length mP);have kS:=Hd ((HR1.o.kept k1).onl mQ a_);have kX:=Hd ((lg.o.trans k1).trans' (mQ.below (lg.o.trans k1).size (fun i e=>by rw[e];exact xO)));have tA:=Hd (vk.o.sam qN.o (cm mQ (fun g _ hs q=>by omega)));have mm:w0.heap.size<=(w1.setCell ⟨B,2,none⟩ (.slice mO au.length mP)).heap.size:=bC k1.size mQ.size;clear p1 f1 k1 hb mQ vk uC ma HR1 c2;go_upto_region 2 with fail;generalize w1.setCell ⟨B,2,none⟩ (.slice mO au.length mP)=w2 at *;clear c2' Np DC cz;have c3:=lx.o.cell 3 _ rfl;have cz:=lx.o.lt;go_wp2_with fail;refine(nH.o w2 kX.o).mono ?_;rintro e w3 ⟨Kg,rfl,p1,f1,k1⟩;have CA:=Hd (p1.sam (S:=fun g=>w2.heap.size<=g) (p1.freshB f1) (fun _ _ _=>rfl));have pH:Hi (InB (fun g=>w2.heap.size<=g) Kg ed.length):=p1.freshB f1;obtain⟨uX,uY,rfl,_⟩:=p1.shape;have hb:=lx.o.kept k1;have c3':=hb.cell 3 _ rfl;have Nq:=hb.free 3;have DC:=hb.lt;have oO:Hi (Blk (w3.setCell ⟨B,3,none⟩ (.slice uX ed.length uY)) B 50 #[.string (bs np),.string (bs nr),.slice mO au.length mP,.slice uX ed.length uY,.slice aF fs.length cF]):=hb.set 3 _;have mQ:=bK (w:=w3) B 3 (.slice uX ed.length uY);have HR4:=Hd ((kS.o.kept k1).onl mQ a_);have mg:=Hd ((kX.o.trans k1).trans' (mQ.below (kX.o.trans k1).size (fun i e=>by rw[e];exact xO)));have DD:=Hd (((tA.o.kept k1).sam qN.o (cm mQ (fun g _ hs q=>by omega))));have DE:=Hd (CA.o.sam pH.o (cm mQ (fun g _ hs q=>by omega)));have Kh:w2.heap.size<=(w3.setCell ⟨B,3,none⟩ (.slice uX ed.length uY)).heap.size:=bC k1.size mQ.size;clear p1 f1 k1 hb mQ CA tA nH lx kS c3;go_upto_region 3 with fail;generalize w3.setCell ⟨B,3,none⟩ (.slice uX ed.length uY)=w4 at *;clear c3' Nq DC cz;have c4:=oO.o.cell 4 _ rfl;have cz:=oO.o.lt;go_wp2_with fail;refine(rq.o w4 mg.o).mono ?_;rintro e w5 ⟨CB,rfl,p1,f1,k1⟩;have FR:=Hd (p1.sam (S:=fun g=>w4.heap.size<=g) (p1.freshB f1) (fun _ _ _=>rfl));have pW:Hi (InB (fun g=>w4.heap.size<=g) CB fs.length):=p1.freshB f1;obtain⟨zM,zN,rfl,_⟩:=(show∃a c,CB=.slice a fs.length c/\fs.length<=c by obtain⟨a,c,e,l,_⟩:=p1;exact⟨a,c,e,l⟩);have hb:=oO.o.kept k1;have Nr:=hb.cell 4 _ rfl;have Ns:=hb.free 4;have DC:=hb.lt;have rh:Hi (Blk (w5.setCell ⟨B,4,none⟩ (.slice zM fs.length zN)) B 50 #[.string (bs np),.string (bs nr),.slice mO au.length mP,.slice uX ed.length uY,.slice zM fs.length zN]):=hb.set 4 _;have mQ:=bK (w:=w5) B 4 (.slice zM fs.length zN);have yF:=Hd ((HR4.o.kept k1).onl mQ a_);have lH:=Hd ((mg.o.trans k1).trans' (mQ.below (mg.o.trans k1).size (fun i e=>by rw[e];exact xO)));have Hy:=Hd (((DD.o.kept k1).sam qN.o (cm mQ (fun g _ hs q=>by omega))));have Hz:=Hd (((DE.o.kept k1).sam pH.o (cm mQ (fun g _ hs q=>by omega))));have H8:=Hd (FR.o.sam pW.o (cm mQ (fun g _ hs q=>by omega)));clear p1 f1 k1 hb mQ FR DD DE rq oO HR4 c4;go_upto_region 4 with fail;generalize w5.setCell ⟨B,4,none⟩ (.slice zM fs.length zN)=w6 at *;clear Nr Ns DC cz;have cz:=rh.o.lt;go_wp2_with (first
  | (refine zaJ d_ 50 (.tmp 1) d_ B _ d_ rh.o _ dh rfl Tryz.sizeSo ?_)
  | (refine zaI rfl 50 (.tmp 2) (.tmp 15) d_ (B+1) _ #[.string (bs np),.string (bs nr),.slice mO au.length mP,.slice uX ed.length uY,.slice zM fs.length zN] d_ d_ yF.o rfl Tryz.sizeSo (by simp only[bZ,ci,dc];rfl) ?_;intro w9 ml mw;have r0:w9.cell? ⟨B+1,0,none⟩=some (.string (bs np)):=ml.cell 0 _ rfl;have r1:w9.cell? ⟨B+1,1,none⟩=some (.string (bs nr)):=ml.cell 1 _ rfl;have r2:w9.cell? ⟨B+1,2,none⟩=some (.slice mO au.length mP):=ml.cell 2 _ rfl;have r3:w9.cell? ⟨B+1,3,none⟩=some (.slice uX ed.length uY):=ml.cell 3 _ rfl;have r4:w9.cell? ⟨B+1,4,none⟩=some (.slice zM fs.length zN):=ml.cell 4 _ rfl;have rz:=ml.lt;have pm:=Hd (lH.o.trans' (mw.below lH.o.size (fun i e=>by rw[e];omega)));have H9:=Hd (Hy.o.sam qN.o (cm mw (fun g _ hs q=>by omega)));have Ia:=Hd (Hz.o.sam pH.o (cm mw (fun g _ hs q=>by omega)));have Ib:=Hd (H8.o.sam pW.o (cm mw (fun g _ hs q=>by omega)));clear ml mw))
 have hw0:w.heap.size<=w0.heap.size:=lg.o.size;have h:=lh.o (.slice mO au.length mP) (.slice uX ed.length uY) (.slice zM fs.length zN) w9 ⟨⟨H9.o,qN.o.mono fun g _ _ q=>by omega⟩,⟨Ia.o,pH.o.mono fun g _ _ q=>by omega⟩,⟨Ib.o,pW.o.mono fun g _ _ q=>by omega⟩⟩ pm.o;refine bM (v:=znF np nr (.slice mO au.length mP) (.slice uX ed.length uY) (.slice zM fs.length zN)) ?_ rfl h;simp [results,results54,go_sem,r0,r1,r2,r3,r4,rz,znF]
def zBX:∀k:Nat,k<26->zdK [97+(k:Int),65+(k:Int)]=[UInt8.ofNat (97+k),UInt8.ofNat (65+k)]:=f_
def Tryz.sizeCo:(prog.info? 112).map (fun x=>x.size)=some 3:=g_
def zd3(w:World){ops:Array Oper}{rest:List Oper}{o:Oper}{a:Act}{Q:Exit->Act->World->Prop}(hgd:o.guard=none)(s x:Operand)(ho:o.op=.call { callee:=.builtin .append,args:=#[s,x],argTypes:=#[37,37] })
  (base:Nat) (v:Value) (ps:List Bs) (hs:a.eval s=v) (lc:w.ownsRow base 9 1 v ps.length (zaL ps)) (q:Bs) (g:Nat) (hx:a.eval x=.slice (some ⟨g,0,none⟩) 1 1)
  (hb:Blk w g 9 #[.string (bs q)]) (hl:ps.length<=1000000) (mL:base<=w.heap.size)
  (h:∀v' w',w'.ownsRow base 9 1 v' (ps++[q]).length (zaL (ps++[q]))->w.grownBy w' v.ownBlock->wpList prog ops Q rest (a.put o.dst v') w') :
  wpList prog ops Q (o::rest) a w:=by
 obtain⟨i0,hi,mr,mq,mm⟩:=cg Tryz.infoStr;refine wpList_append_lies w hgd s x 37 ho base 9 i0 (.string ⟨#[]⟩) 1 16 dw hi mr mq mm rfl c_ v ps.length (zaL ps) hs lc ⟨g,0,none⟩ 1 1 [.string (bs q)] hx rfl (fun j u hu=>?_) (fun u hu=>?_) c_ h_ a_ mL w.heap.size rfl (fun g' lJ w' h1 h2 _ _=>h _ w' ?_ h2)
 .rw[zfJ,bP];exact hb.cell j u (by rw[dK];exact hu)
 .simp at hu;subst hu;rfl
 .rw[ah,show zaL (ps++[q])=zaL ps++[.string (bs q)]from by simp [zaL]];exact h1
def zHB(w:World)(x:Bs):Strs (w.alloc (.cells #[.string (bs x)] 9)) (.slice (some ⟨w.heap.size,0,none⟩) 1 1) [x]:=by
 refine⟨_,_,rfl,aw _,fun _=>⟨w.heap.size,0,rfl,b_,fun j q hq=>?_⟩⟩;have hb:=aI w 9 #[.string (bs x)];cases j with
 | zero=>cases hq;exact hb.cell 0 _ rfl
 | succ j=>simp at hq
def zEV(w:World)(x y:Int):(convert 162 9 (.slice (some ⟨w.heap.size,0,none⟩) 2 2)).run prog (w.alloc (.cells #[.int .i32 x,.int .i32 y] 21))=.ok (.string (bs (zdK [x,y]))) (w.alloc (.cells #[.int .i32 x,.int .i32 y] 21)):=by
 rw[run_convert_runes_string _ 162 9 21 _ _ _ ex jU aq];have hb:=aI w 21 #[.int .i32 x,.int .i32 y];have hl:=run_loadCells_list (P:=prog) (w:=w.alloc (.cells #[.int .i32 x,.int .i32 y] 21)) ⟨w.heap.size,0,none⟩ [.int .i32 x,.int .i32 y] (fun j u hu=>by rw[zfJ,bP];exact hb.cell j u (by rw[dK];exact hu));rw[run_runesToString _ ⟨w.heap.size,0,none⟩ 2 2 [x,y] hl,zi3]
def zmS(all:Bs)(rs:List Bs)(w:World)(hg:Gnd w)(h:(Lib.splitB (bs [44,32]) 0 (Lib.countB (bs all) (bs [44,32])) (bs all)).map (·.data.toList)=rs)(hc:Lib.countB (bs all) (bs [44,32])+1=rs.length)(hl:all.length<=1000000):Calls prog 78 #[.string (bs all),.string (bs [44,32])] w fun e w'=>e=.returned (.slice (some ⟨w.heap.size,0,none⟩) rs.length rs.length)/\w'=w.alloc (.cells (zaL rs).toArray 9):=by
 obtain⟨m,hm⟩:=hg;refine(jJ (bs all) (bs [44,32]) m w e_ hm b_).mono ?_;rintro e w' ⟨rfl,rfl⟩;have e2:(Lib.splitB (bs [44,32]) 0 (Lib.countB (bs all) (bs [44,32])) (bs all))=rs.map bs:=zAo _ _ h;rw[hc,e2];refine⟨rfl,?_⟩;rw[List.map_map];rfl
def zEW(p:Pr)(w:World)(hg:Gnd w)(h:zaM 32 (zb7 p)=p.1.length)(h1:p.1.length<=10)(h2:p.2.length<=10):Calls prog 88 #[.string (bs (zb7 p)),.string (bs [32])] w fun e w'=>e=.returned (.tuple #[.string (bs p.1),.string (bs p.2),.bool true])/\∃n,w'=w.drewN n:=by
 have hl:(zb7 p).length=p.1.length+(p.2.length+1):=(by unfold zb7;rw[ah,az]);refine(zAp (zb7 p) 32 w hg a_).mono ?_;rintro e w' ⟨rfl,hw⟩;refine⟨?_,hw⟩;rw[h,ae a_];have e1:(zb7 p).take p.1.length=p.1:=(by unfold zb7;simp);have e2:(zb7 p).drop (p.1.length+1)=p.2:=by
  unfold zb7;rw[List.drop_append,db a_];simp
 rw[e1,e2]
def zHC{ps:List Pr}{k:Nat}{q:Pr}(h:ps[k]? = some q):ps.take (k+1)=ps.take k++[q]:=by rw[eo,h];rfl
def zKe(lang:Bs):lang=wDe\/lang=wFr\/lang=wEs\/(lang≠wDe/\lang≠wFr/\lang≠wEs):=by
 by_cases h1:lang=wDe
 .exact .inl h1
 by_cases h2:lang=wFr
 .exact .inr (.inl h2)
 by_cases h3:lang=wEs
 .exact .inr (.inr (.inl h3))
 .exact .inr (.inr (.inr ⟨h1,h2,h3⟩))
def LocP(c:ColT)(w:World)(e:Ending)(w':World):Prop:=∃vR vO,e=.returned (zDD vR vO c.ignore)/\Col w' vR vO c/\(InB (fun g=>w.heap.size<=g) vR c.ranks.length/\InB (fun g=>w.heap.size<=g) vO c.order.length)/\Kept w w'
def zyX(lang:Bs)(w:World)(hg:Gnd w)(ht:Lib.TabIs prog w "internal/strconv.uint64pow10" .u64 Lib.pow10Tab) :Calls prog 49 #[.string (bs lang)] w (LocP (zAc lang) w):=by
 have HIT:=Hd (fun(k:Nat) (h:k<10) w' (q:Kept w w')=>zpG (k:Int) w' a_ a_ (zeS ht q));obtain⟨B,HB⟩:=gX w.heap.size;have hr:=(aI w 112 #[.slice none 0 0,.slice none 0 0,.string (bs [])]).alloc (.cells #[.slice none 0 0,.slice none 0 0,.string (bs [])] 112);have hc:=aI (w.alloc (.cells #[.slice none 0 0,.slice none 0 0,.string (bs [])] 112)) 112 #[.slice none 0 0,.slice none 0 0,.string (bs [])];have lg:=Hd ((zaA w (.cells #[.slice none 0 0,.slice none 0 0,.string (bs [])] 112)).trans (zaA _ (.cells #[.slice none 0 0,.slice none 0 0,.string (bs [])] 112)));simp only[de,HB.o]at hc hr;have Ki:=Hd hr;have sG:Hi (ColSt ((w.alloc (.cells #[.slice none 0 0,.slice none 0 0,.string (bs [])] 112)).alloc (.cells #[.slice none 0 0,.slice none 0 0,.string (bs [])] 112)) (B+1) (B+2) ⟨[],zmN 0,[]⟩):=⟨_,_,hc,dg _ _ _ _,dg _ _ _ _⟩;clear hr hc;have lh:Hi (∀vR vO w',Col w' vR vO (zAc lang)->InB (fun g=>w.heap.size<=g) vR (zAc lang).ranks.length->InB (fun g=>w.heap.size<=g) vO (zAc lang).order.length->Kept w w'->LocP (zAc lang) w (.returned (zDD vR vO [])) w'):=fun vR vO w' h1 h2 h3 h4=>⟨vR,vO,rfl,h1,⟨h2,h3⟩,h4⟩;generalize LocP (zAc lang) w=P at *;have ny:=HB.o;go_in;go_wp2_with fail;generalize World.alloc (World.alloc w _) _=w0 at *;have hB0:B+1<w0.heap.size:=(by obtain⟨vR,vO,h,_⟩:=sG.o;exact h.lt);go_loopw [13] (fun i wr=>∃(k:Nat),k<=10/\i=.int .i64 k/\Hi (ColSt wr (B+1) (B+2) ⟨[],zmN k,[]⟩)/\Hi (Only (fun g=>g=B+1\/B+2<=g) w0 wr)) (fun i _=>10 - (intOf i).toNat)
 .exact⟨0,ai _,rfl,sG.o,bc (af w0)⟩
 case round =>
  obtain⟨k,hk,rfl,mj,nP⟩:=hrel;by_cases kV:k<10
  .have nX:(zmN k).length<=10:=(by rw[zlM];exact hk);obtain⟨ds,sW⟩:=gX (zmN k);have om:Hi (zmN (k+1)=ds++[[UInt8.ofNat (48+k)]]):=(by rw[<- sW.o];exact zBK k);rw[sW.o]at mj nX;obtain⟨vR,vO,hb,hR,hO⟩:=mj.o;have mW:=Hd hb;have HR:=Hd hR;have HO:=Hd hO;have hz:=hb.lt;obtain⟨aO,cO,rfl,_,_,_⟩:=zaZ hO;have c1:wr.drew.cell? ⟨B+1,1,none⟩=some (.slice aO ds.length cO):=hb.cell 1 _ rfl;have hbs:B+2<=wr.heap.size:=a_;have Ic:=Hd (HIT.o k kV);have nt:Hi (Kept w wr.drew):=Hd ((lg.o.trans' (nP.o.below lg.o.size (fun i e=>by omega))).trans (zaB wr 1));rw[zEQ k kV]at Ic;obtain⟨s,HS⟩:=gX ([UInt8.ofNat (48+k)]);rw[HS.o]at Ic om;clear hb hR hO mj;go_wp2_with fail
   go_region_law (first
     | (go_simp;go_at_call 87;refine k_ (Ic.o _ nt.o) fun w2 ll=>?_;have li:=(zaB wr 1).trans ll;have lj:=li.trans (zaA w2 (.cells #[.string (bs s)] 9));have lx:=Hd (mW.o.kept lj);have kS:=Hd (za1 HR.o lj);have mJ:=Hd (za1 HO.o lj);have kX:=Hd lj;have c2:w2.cell? ⟨B+1,1,none⟩=some (.slice aO ds.length cO):=(mW.o.kept li).cell 1 _ rfl;have z2:=(mW.o.kept li).lt;have Nt:(w2.alloc (.cells #[.string (bs s)] 9)).cell? ⟨B+1,1,none⟩=some (.slice aO ds.length cO):=lx.o.cell 1 _ rfl;have qc:=Hd (zHB w2 s);have mV:B+2<=(w2.alloc (.cells #[.string (bs s)] 9)).heap.size:=bC hbs lj.size;clear ll li lj)
     | (refine zkT _ rfl (.tmp 17) (.tmp 20) rfl (B+2) _ ds d_ mJ.o _ [s] d_ qc.o e_ mV ?_;intro v' w3 nK mH;have mF:=(mH.block (B+1) lx.o.lt (za7 mJ.o lx.o c_)).trans lx.o;have f3:w3.frozen? ⟨B+1,1,none⟩=false:=(show Blk w3 (B+1) 112 _ from mF).free 1;have c3:w3.cell? ⟨B+1,1,none⟩=some (.slice aO ds.length cO):=(show Blk w3 (B+1) 112 _ from mF).cell 1 _ rfl;have z3:=(show Blk w3 (B+1) 112 _ from mF).lt;have oT:=Hd mH;have qb:=Hd nK;obtain⟨a3,c3',rfl,_,_,_⟩:=zaZ nK;clear mH nK mF))
   all_goals
    have hS:=zpH (c:=⟨[],ds,[]⟩) (ws:=[s]) lx.o kS.o mJ.o qb.o oT.o;rw[show(ds++[s]).length=ds.length+1 from by simp]at hS;have mt:=Hd hS.1;have mb:=Hd ((nP.o.trans (bc kX.o)).trans hS.2);clear hS lx kS mJ qb oT qc kX c1 c2 Nt z2;go_wp2;go_roundw
    .exact⟨k+1,a_,by go_num,(by rw[om.o];exact mt.o),mb.o⟩
    .simp [intOf];omega
  .obtain rfl:k=10:=a_;have Bk:Hi (ColSt wr (B+1) (B+2) ⟨[],zmN 10++zqS (lang==wEs) 0,[]⟩):=mj;obtain⟨es,CC⟩:=gX ((lang==wEs));rw[CC.o]at Bk;clear mj;go_wp2_with fail;obtain⟨wo,rfl⟩:∃wo:World,wo=wr:=⟨_,rfl⟩;go_loopw [24] (fun i wr=>∃(k:Nat),k<=26/\i=.int .i64 k/\Hi (ColSt wr (B+1) (B+2) ⟨[],zmN 10++zqS es k,[]⟩)/\Hi (Only (fun g=>g=B+1\/B+2<=g) w0 wr)) (fun i _=>26 - (intOf i).toNat)
   .exact⟨0,ai _,rfl,Bk.o,nP.o⟩
   case round =>
    clear nP Bk;obtain⟨k,hk,rfl,mj,nP⟩:=hrel;by_cases kV:k<26
    .have nX:(zmN 10++zqS es k).length<=62:=by
      rw[ah,zlM];have:=zpT es k;omega
     obtain⟨ds,sW⟩:=gX (zmN 10++zqS es k);have om:Hi (zmN 10++zqS es (k+1)=ds++zGk es k):=(by rw[<- sW.o,zsF,cX];exact Hd rfl);rw[sW.o]at mj nX;obtain⟨vR,vO,hb,hR,hO⟩:=mj.o;have Ie:=Hd (zBX k kV);obtain⟨s,HS⟩:=gX ([UInt8.ofNat (97+k),UInt8.ofNat (65+k)]);rw[HS.o]at Ie;have mW:=Hd hb;have HR:=Hd hR;have HO:=Hd hO;have hz:=hb.lt;obtain⟨aO,cO,rfl,_,_,_⟩:=zaZ hO;have c1:wr.cell? ⟨B+1,1,none⟩=some (.slice aO ds.length cO):=hb.cell 1 _ rfl;have hbs:B+2<=wr.heap.size:=a_;obtain⟨K,nI⟩:∃K:Int,Hi ((k:Int)=K):=⟨_,rfl⟩;have QH:0<=K:=(by rw[<- nI.o];omega);have hK1:K<26:=(by rw[<- nI.o];omega);rw[nI.o]at Ie ⊢;have cv:=zEV wr (97+K) (97+K - 97+65);rw[show 97+K - 97+65=65+K from by omega,Ie.o,show 65+K=97+K - 97+65 from by omega]at cv;have lj:=(zaA wr (.cells #[.int .i32 (97+K),.int .i32 (97+K - 97+65)] 21)).trans (zaA _ (.cells #[.string (bs s)] 9));have hn:=aI (wr.alloc (.cells #[.int .i32 (97+K),.int .i32 (97+K - 97+65)] 21)) 9 #[.string (bs s)];rw[de]at hn;have qc:=Hd hn;have lx:=Hd (mW.o.kept lj);have kS:=Hd (za1 HR.o lj);have mJ:=Hd (za1 HO.o lj);have kX:=Hd lj;have mV:=bC hbs lj.size;clear kV hk lj hb hR hO mj mW HR HO hn;go_upto_region 12 with(first
      | (refine zd3 _ rfl (.tmp 31) (.tmp 38) rfl (B+2) _ ds d_ mJ.o s _ d_ qc.o a_ mV ?_;intro v' w3 nK mH;have mF:=(mH.block (B+1) lx.o.lt (za7 mJ.o lx.o c_)).trans lx.o;have f3:w3.frozen? ⟨B+1,1,none⟩=false:=(show Blk w3 (B+1) 112 _ from mF).free 1;have c3:w3.cell? ⟨B+1,1,none⟩=some (.slice aO ds.length cO):=(show Blk w3 (B+1) 112 _ from mF).cell 1 _ rfl;have z3:=(show Blk w3 (B+1) 112 _ from mF).lt;have oT:=Hd mH;have qb:=Hd nK;obtain⟨a3,c3',rfl,_,_,_⟩:=zaZ nK;clear mH nK mF))
     have hS:=zpH (c:=⟨[],ds,[]⟩) (ws:=[s]) lx.o kS.o mJ.o qb.o oT.o;rw[show(ds++[s]).length=ds.length+1 from by simp]at hS;have mt:=Hd hS.1;have mb:=Hd ((nP.o.trans (bc kX.o)).trans hS.2);clear hS lx kS mJ qb oT qc kX c1 f3 c3 z3 mV hbs cv nP;simp only[de,dU]at mt mb ⊢;generalize World.setCell _ _ _=w4 at *;by_cases hq:es=true/\k=13
     .obtain⟨hq1,hq2⟩:=hq;have hK:(97+K==110)=true:=(by rw[<- nI.o,hq2];rfl);have hK2:97+K=110:=(by rw[<- nI.o,hq2];rfl);have hes:(lang==[101,115])=true:=CC.o.trans hq1;have yG:Hi (zmN 10++zqS es (k+1)=(ds++[s])++[nyB]):=by
       show _=_;rw[om.o,<- HS.o];unfold zGk;rw[ae ⟨hq1,hq2⟩,cX];rfl
      obtain⟨dt,Kj⟩:=gX (ds++[s]);have Nu:dt.length<=63:=(by rw[<- Kj.o,ah,bU];omega);rw[Kj.o]at mt yG;obtain⟨vR,vO,hb,hR,hO⟩:=mt.o;have mW:=Hd hb;have HR:=Hd hR;have HO:=Hd hO;have hz:=hb.lt;obtain⟨aO,cO,rfl,_,_,_⟩:=zaZ hO;have c1:w4.cell? ⟨B+1,1,none⟩=some (.slice aO dt.length cO):=hb.cell 1 _ rfl;have hbs:B+2<=w4.heap.size:=a_;have lj:=zaA w4 (.cells #[.string (bs [195,177,195,145])] 9);have hn:=aI w4 9 #[.string (bs [195,177,195,145])];have qc:=Hd hn;have lx:=Hd (mW.o.kept lj);have kS:=Hd (za1 HR.o lj);have mJ:=Hd (za1 HO.o lj);have kX:=Hd lj;have mV:=bC hbs lj.size;clear lj hb hR hO mW HR HO hn mt;go_wp2_with (first
       | (refine zd3 _ rfl (.tmp 48) (.tmp 49) rfl (B+2) _ dt d_ mJ.o [195,177,195,145] _ d_ qc.o a_ mV ?_;intro v' w3 nK mH;have mF:=(mH.block (B+1) lx.o.lt (za7 mJ.o lx.o c_)).trans lx.o;have f3:w3.frozen? ⟨B+1,1,none⟩=false:=(show Blk w3 (B+1) 112 _ from mF).free 1;have c3:w3.cell? ⟨B+1,1,none⟩=some (.slice aO dt.length cO):=(show Blk w3 (B+1) 112 _ from mF).cell 1 _ rfl;have z3:=(show Blk w3 (B+1) 112 _ from mF).lt;have oT:=Hd mH;have qb:=Hd nK;obtain⟨a3,c3',rfl,_,_,_⟩:=zaZ nK;clear mH nK mF))
      have hS:=zpH (c:=⟨[],dt,[]⟩) (ws:=[[195,177,195,145]]) lx.o kS.o mJ.o qb.o oT.o;have hln:(dt++[[195,177,195,145]]).length=dt.length+1:=(by rw[ah];rfl);simp only[hln]at hS;have hS1:ColSt _ (B+1) (B+2) ⟨[],dt++[[195,177,195,145]],[]⟩:=hS.1;rw[show dt++[[195,177,195,145]]=zmN 10++zqS es (k+1)from yG.o.symm]at hS1;rw[hq1]at hS1;have oo:=Hd hS1;clear hS1;have qm:=Hd ((mb.o.trans (bc kX.o)).trans hS.2);clear hS lx kS mJ qb oT qc kX c1 f3 c3 z3;go_wp2;go_roundw
      .refine⟨_,_,_,⟨k+1,(by have:=nI.o;omega),?_,oo.o,qm.o⟩,rfl,rfl,rfl⟩;rw[<- nI.o];rfl
      .have:=nI.o;simp [intOf];omega
     .have yG:Hi (zmN 10++zqS es (k+1)=ds++[s]):=by
       show _=_;rw[om.o,<- HS.o];unfold zGk;rw[aa hq]
      rw[<- yG.o]at mt;cases vU:es with
      | true =>
       have hes:(lang==[101,115])=true:=CC.o.trans vU;have qu:k≠13:=fun e=>hq ⟨vU,e⟩;have hK2:¬ 97+K=110:=(by rw[<- nI.o];omega);have hK:(97+K==110)=false:=(by rw[ab];exact hK2);rw[vU]at mt;go_wp2;go_roundw
       .refine⟨_,_,_,⟨k+1,(by have:=nI.o;omega),?_,mt.o⟩,rfl,rfl,rfl⟩;rw[<- nI.o];rfl
       .have:=nI.o;simp [intOf];omega
      | false =>
       have hes:(lang==[101,115])=false:=CC.o.trans vU;rw[vU]at mt;go_wp2;go_roundw
       .refine⟨_,_,_,⟨k+1,(by have:=nI.o;omega),?_,mt.o⟩,rfl,rfl,rfl⟩;rw[<- nI.o];rfl
       .have:=nI.o;simp [intOf];omega
    .obtain rfl:k=26:=a_;rw[<- CC.o]at mj;obtain⟨ds,sW⟩:=gX (zmN 10++zqS (lang==wEs) 26);have qD:Hi (zAc lang=⟨rkL lang,ds,[]⟩):=by
      show _=_;rw[<- sW.o];rfl
     have nX:ds.length<=62:=by
      rw[<- sW.o,ah,zlM];have:=zpT (lang==wEs) 26;omega
     rw[sW.o]at mj;rw[qD.o]at lh;have mR:=Hd (Ki.o.onl nP.o a_);have lD:Hi (Kept w wr):=lg.o.trans' (nP.o.below lg.o.size (fun i e=>by omega));obtain⟨vR,vO,hb,hR,hO⟩:=mj.o;have po:=Hd hb;have Bl:Hi (Strs wr vO ds):=gU hO;have si:Hi (∀g,vO.ownBlock=some g->B+2<=g/\g<wr.heap.size):=fun g q=>hO.lt g q;obtain⟨aO,cO,rfl,_,_,_⟩:=zaZ hO;obtain⟨aR,cR,DF,_,_,_⟩:=zaZ hR;have vV:vR=.slice aR 0 cR:=DF;subst vV;have hcz:=hb.lt;have hrz:=mR.o.lt;clear hb hR hO sW qD CC;rcases zKe lang with h1|h1|h1|⟨h1,h2,h3⟩
     case' inl =>
      subst h1;have n1:(wDe==[100,101])=true:=c_;have oE:Hi (rkL wDe=zGl):=(by show _=_;decide +kernel);rw[oE.o]at lh;have nh:=Hd (zmS zBL (zGl.map zb7) wr (hg.kept lD.o) zHr (by rw[bm];exact zHu) f_);have CD:Hi (∀p∈zGl,zaM 32 (zb7 p)=p.1.length/\p.1.length<=10/\p.2.length<=10):=(by show∀p∈_,_;decide +kernel);have Bm:Hi (zGl.length<=28):=(by show _<=_;decide +kernel);obtain⟨rk,zO⟩:=gX zGl;rw[zO.o]at lh nh CD Bm;clear oE zO;unfold zBL at nh
     case' inr.inl =>
      subst h1;have n1:(wFr==[100,101])=false:=c_;have n2:(wFr==[102,114])=true:=c_;have oE:Hi (rkL wFr=zGm):=(by show _=_;decide +kernel);rw[oE.o]at lh;have nh:=Hd (zmS zBM (zGm.map zb7) wr (hg.kept lD.o) zHs (by rw[bm];exact zHv) f_);have CD:Hi (∀p∈zGm,zaM 32 (zb7 p)=p.1.length/\p.1.length<=10/\p.2.length<=10):=(by show∀p∈_,_;decide +kernel);have Bm:Hi (zGm.length<=28):=(by show _<=_;decide +kernel);obtain⟨rk,zO⟩:=gX zGm;rw[zO.o]at lh nh CD Bm;clear oE zO;unfold zBM at nh
     case' inr.inr.inl =>
      subst h1;have n1:(wEs==[100,101])=false:=c_;have n2:(wEs==[102,114])=false:=c_;have n3:(wEs==[101,115])=true:=c_;have oE:Hi (rkL wEs=zGn):=(by show _=_;decide +kernel);rw[oE.o]at lh;have nh:=Hd (zmS zBN (zGn.map zb7) wr (hg.kept lD.o) zHt (by rw[bm];exact zHw) f_);have CD:Hi (∀p∈zGn,zaM 32 (zb7 p)=p.1.length/\p.1.length<=10/\p.2.length<=10):=(by show∀p∈_,_;decide +kernel);have Bm:Hi (zGn.length<=28):=(by show _<=_;decide +kernel);obtain⟨rk,zO⟩:=gX zGn;rw[zO.o]at lh nh CD Bm;clear oE zO;unfold zBN at nh
     case inr.inr.inr =>
      have n1:(lang==[100,101])=false:=(by rw[ab];exact h1);have n2:(lang==[102,114])=false:=(by rw[ab];exact h2);have n3:(lang==[101,115])=false:=(by rw[ab];exact h3);have oE:Hi (rkL lang=[]):=by
       show _=_;unfold rkL;rw[aa h1,aa h2,aa h3]
      rw[oE.o]at lh;go_wp2_with (first
       | (refine zaJ d_ 112 (.tmp 3) d_ (B+1) _ d_ po.o _ underlying112 rfl Tryz.sizeCo ?_)
       | (refine zaI rfl 112 (.tmp 2) (.tmp 54) d_ B _ #[.slice aR 0 cR,.slice aO ds.length cO,.string (bs [])] d_ d_ mR.o rfl Tryz.sizeCo (by simp only[bZ,ci,dc];rfl) ?_;intro w9 ml mw;have r0:w9.cell? ⟨B,0,none⟩=some (.slice aR 0 cR):=ml.cell 0 _ rfl;have r1:w9.cell? ⟨B,1,none⟩=some (.slice aO ds.length cO):=ml.cell 1 _ rfl;have r2:w9.cell? ⟨B,2,none⟩=some (.string (bs [])):=ml.cell 2 _ rfl;have rz:=ml.lt;have pB:=Hd mw;clear ml mw))
      have Bc:=mR.o;refine bM (v:=zDD (.slice aR 0 cR) (.slice aO ds.length cO) []) ?_ rfl (lh.o (.slice aR 0 cR) (.slice aO ds.length cO) w9 ⟨?_,?_⟩ ?_ ?_ ?_)
      .simp [results,results49,go_sem,r0,r1,r2,rz]
      .exact⟨aR,cR,rfl,ai _,fun h=>absurd h b_⟩
      .exact Bl.o.onlS (S:=fun g=>B+2<=g) (fun _ g q=>(si.o g q).1) pB.o (fun g _ hs q=>by omega)
      .exact fun h=>absurd h b_
      .exact fun _ g q=>by have:=(si.o g q).1;omega
      .exact lD.o.trans' (pB.o.below lD.o.size (fun i e=>by omega))
     all_goals
      have DG:Hi (∀(k:Nat) p,rk[k]? = some p->(rk.map zb7)[k]? = some (zb7 p)):=fun k p h=>(by rw[dy,h];rfl);have ow:(rk.map zb7).length=rk.length:=bm _;obtain⟨rs,F7⟩:=gX (rk.map zb7);rw[F7.o]at DG nh ow;have zP:=Hd ow;have qO:=Hd (fun(p:Pr) (h:zaM 32 (zb7 p)=p.1.length/\p.1.length<=10/\p.2.length<=10) w' (k:Kept w w')=>zEW p w' (hg.kept k) h.1 h.2.1 h.2.2);clear ow F7;go_wp2_with fail;refine nh.o.mono ?_;rintro e w1 ⟨rfl,rfl⟩;have lj:=zaA wr (.cells (zaL rs).toArray 9);have sH:=Hd (aI wr 9 (zaL rs).toArray);have DH:=Hd (mj.o.kept lj);have DI:Hi (Only (fun g=>g=B+1\/B+2<=g) w0 _):=nP.o.trans (bc lj);have If:Hi (B+2<=wr.heap.size):=(by show _<=_;omega);generalize wr.alloc (.cells (zaL rs).toArray 9)=w1 at *;generalize wr.heap.size=S at *;clear nh lj mj nP mR po Bl si hcz hrz lD;go_wp2_with fail;go_loopw [64] (fun i wx=>∃(k:Nat),k<=rs.length/\i=.int .i64 k/\Hi (ColSt wx (B+1) (B+2) ⟨rk.take k,ds,[]⟩)/\Hi (Blk wx S 9 (zaL rs).toArray)/\Hi (Only (fun g=>g=B+1\/B+2<=g) w0 wx)) (fun i _=>rs.length - (intOf i).toNat)
      .exact⟨0,ai _,rfl,DH.o,sH.o,DI.o⟩
      case round =>
       clear DH sH DI;obtain⟨k,hk,rfl,mj,sH,nP⟩:=hrel;have lD:Hi (Kept w wr):=lg.o.trans' (nP.o.below lg.o.size (fun i e=>by omega));by_cases kV:k<rs.length
       .obtain⟨q,hx⟩:∃x,rk[k]? = some x:=⟨_,ac (by have:=zP.o;omega)⟩;have Kk:=DG.o k q hx;have Kl:rs.length<=28:=(by have h1:=zP.o;have h2:=Bm.o;omega);have mD:=Hd (zHC hx);have hbf:=CD.o q (am hx);have tB:=Hd (fun w' (kk:Kept wr w')=>qO.o q hbf w' (lD.o.trans kk));have d0:wr.cell? ⟨S,k,none⟩=some (.string (bs (zb7 q))):=sH.o.cell k _ (by rw[dK];unfold zaL;rw[dy,Kk];rfl);have sz:=sH.o.lt;have mN:(rk.take k).length<=28:=(by have:=Bm.o;rw[bw];omega);obtain⟨us,nY⟩:=gX (rk.take k);rw[nY.o]at mj mD mN;obtain⟨rt,DJ⟩:=gX (zb7 q);rw[DJ.o]at d0 tB;obtain⟨q1,q2⟩:=q;simp only at tB;clear hx Kk nY DJ hbf;go_wp2_with fail;refine(tB.o wr (af _)).mono ?_;rintro e w2 ⟨rfl,n2,rfl⟩;have hkd:=zaB wr n2;have pj:=Hd (mj.o.kept hkd);have zQ:=Hd (sH.o.kept hkd);have rI:Hi (Only (fun g=>g=B+1\/B+2<=g) w0 _):=nP.o.trans (bc hkd);generalize wr.drewN n2=w2 at *;clear d0 sz mj sH nP hkd tB;obtain⟨vR,vO,hb,hR,hO⟩:=pj.o;have mW:=Hd hb;have HR:=Hd hR;have HO:=Hd hO;have hz:=hb.lt;obtain⟨Ig,cR',DF,_,_,_⟩:=zaZ hR;have vV:vR=.slice Ig us.length cR':=DF;subst vV;have c1:w2.cell? ⟨B+1,0,none⟩=some (.slice Ig us.length cR'):=hb.cell 0 _ rfl;have hbs:B+2<=w2.heap.size:=a_;have lj:=zaA w2 (.cells #[.string (bs q1),.string (bs q2)] 46);have qc:=Hd (aI w2 46 #[.string (bs q1),.string (bs q2)]);have lx:=Hd (mW.o.kept lj);have kS:=Hd (za1 HR.o lj);have mJ:=Hd (za1 HO.o lj);have mb:=Hd (zQ.o.kept lj);have kX:=Hd lj;have mV:=bC hbs lj.size;clear lj hb hR hO mW HR HO pj zQ;go_wp2_with (first
         | (refine zgC _ rfl (.tmp 75) (.tmp 79) rfl (B+2) _ us d_ kS.o (q1,q2) _ d_ qc.o a_ mV ?_;intro v' w3 nK mH;have mF:=(mH.block (B+1) lx.o.lt (za7 kS.o lx.o c_)).trans lx.o;have f3:w3.frozen? ⟨B+1,0,none⟩=false:=(show Blk w3 (B+1) 112 _ from mF).free 0;have c3:w3.cell? ⟨B+1,0,none⟩=some (.slice Ig us.length cR'):=(show Blk w3 (B+1) 112 _ from mF).cell 0 _ rfl;have z3:=(show Blk w3 (B+1) 112 _ from mF).lt;have oT:=Hd mH;have qb:=Hd nK;obtain⟨a3,c3',rfl,_,_,_⟩:=zaZ nK;have oo:Hi (Blk w3 S 9 (zaL rs).toArray):=(mH.block S mb.o.lt (za7 kS.o mb.o c_)).trans mb.o;clear mH nK mF))
        have hS:=zEl (c:=⟨us,ds,[]⟩) (ps:=[(q1,q2)]) lx.o kS.o mJ.o qb.o oT.o;have hln:(us++[(q1,q2)]).length=us.length+1:=(by rw[ah];rfl);simp only[hln]at hS;have hS1:ColSt _ (B+1) (B+2) ⟨us++[(q1,q2)],ds,[]⟩:=hS.1;rw[<- mD.o]at hS1;have qm:=Hd hS1;have rg:=Hd ((rI.o.trans (bc kX.o)).trans hS.2);have hsb:=If.o;have yH:=Hd (oo.o.onl (bK (B+1) 0 (.slice a3 (us.length+1) c3')) a_);clear hS hS1 lx kS mJ qb oT qc kX c1 f3 c3 z3 mb oo rI hln;go_wp2;go_roundw
        .exact⟨k+1,a_,by go_num,qm.o,yH.o,rg.o⟩
        .simp [intOf];omega
       .have hke:k=rk.length:=(by have:=zP.o;omega);rw[hke,bi]at mj;have mR:=Hd (Ki.o.onl nP.o a_);obtain⟨vR,vO,hb,hR,hO⟩:=mj.o;have po:=Hd hb;have uW:Hi (Prs wr vR rk):=Prs.own hR;have Bl:Hi (Strs wr vO ds):=gU hO;have si:Hi (∀g,vO.ownBlock=some g->B+2<=g/\g<wr.heap.size):=fun g q=>hO.lt g q;have DK:Hi (∀g,vR.ownBlock=some g->B+2<=g/\g<wr.heap.size):=fun g q=>hR.lt g q;obtain⟨aO,cO,rfl,_,_,_⟩:=zaZ hO;obtain⟨aR,cR,DF,_,_,_⟩:=zaZ hR;have vV:vR=.slice aR rk.length cR:=DF;subst vV;have hcz:=hb.lt;have hrz:=mR.o.lt;clear hb hR hO mj nP sH zP hke;go_wp2_with (first
         | (refine zaJ d_ 112 (.tmp 3) d_ (B+1) _ d_ po.o _ underlying112 rfl Tryz.sizeCo ?_)
         | (refine zaI rfl 112 (.tmp 2) (.tmp 83) d_ B _ #[.slice aR rk.length cR,.slice aO ds.length cO,.string (bs [])] d_ d_ mR.o rfl Tryz.sizeCo (by simp only[bZ,ci,dc];rfl) ?_;intro w9 ml mw;have r0:w9.cell? ⟨B,0,none⟩=some (.slice aR rk.length cR):=ml.cell 0 _ rfl;have r1:w9.cell? ⟨B,1,none⟩=some (.slice aO ds.length cO):=ml.cell 1 _ rfl;have r2:w9.cell? ⟨B,2,none⟩=some (.string (bs [])):=ml.cell 2 _ rfl;have rz:=ml.lt;have pB:=Hd mw;clear ml mw))
        refine bM (v:=zDD (.slice aR rk.length cR) (.slice aO ds.length cO) []) ?_ rfl (lh.o (.slice aR rk.length cR) (.slice aO ds.length cO) w9 ⟨?_,?_⟩ ?_ ?_ ?_)
        .simp [results,results49,go_sem,r0,r1,r2,rz]
        .exact uW.o.onlS (S:=fun g=>B+2<=g) (fun _ g q=>(DK.o g q).1) pB.o (fun g _ hs q=>by omega)
        .exact Bl.o.onlS (S:=fun g=>B+2<=g) (fun _ g q=>(si.o g q).1) pB.o (fun g _ hs q=>by omega)
        .exact fun _ g q=>by have:=(DK.o g q).1;omega
        .exact fun _ g q=>by have:=(si.o g q).1;omega
        .exact lD.o.trans' (pB.o.below lD.o.size (fun i e=>by omega))
def zpW{α:Type}{l:List α}{k:Nat}{y x:α}(h:l[k]? = some y)(h1:x∉l.take k)(h2:y≠x):x∉l.take (k+1):=by
 rw[eo,h];intro q;rcases aV.1 q with q|q
 .exact h1 q
 .simp at q;exact h2 q.symm
def zyY{l:List Bs}{k:Nat}{y x:Bs}(h:l[k]? = some y):(l.take (k+1)).count x=(l.take k).count x+(if(y==x)=true then 1 else 0):=by
 rw[eo,h,gj];congr 1;show [y].count x=_;rw[i7,List.count_nil,bP]
def Srcs.at_{w:World}{a:Option Addr}{n c:Nat}{ss:List SrcT}(h:Srcs w (.slice a n c) ss)(j:Nat)(s:SrcT)(hq:ss[j]? = some s):∃g o vA vE vF,a=some ⟨g,o,none⟩/\g<w.heap.size/\w.cell? ⟨g,o+j * 5,none⟩=some (.string (bs s.key))/\w.cell? ⟨g,o+j * 5+1,none⟩=some (.string (bs s.type))/\w.cell? ⟨g,o+j * 5+2,none⟩=some vA/\w.cell? ⟨g,o+j * 5+3,none⟩=some vE/\w.cell? ⟨g,o+j * 5+4,none⟩=some vF/\Perss w vA s.author/\Perss w vE s.editor/\Prs w vF s.fields:=by
 obtain⟨a',c',hv,hc,h3⟩:=h;obtain⟨rfl,rfl,rfl⟩:=bL hv;obtain⟨hk,_⟩:=ak.1 hq;obtain⟨g,o,ha,hg,kR⟩:=h3 a_;obtain⟨vA,vE,vF,d⟩:=kR j s hq;exact⟨g,o,vA,vE,vF,ha,hg,d⟩
def eqS(s t:SrcT):Bool:=s.key==t.key&&(s.type==t.type&&(decide (s.author=t.author)&&(decide (s.editor=t.editor)&&decide (s.fields=t.fields))))
def zHD(s t:SrcT):eqS s t=true↔s=t:=by
 obtain⟨a,b,c,d,e⟩:=s;obtain⟨a',b',c',d',e'⟩:=t;simp [eqS]
instance instDecSrcT:DecidableEq SrcT:=fun s t=>decidable_of_iff _ (zHD s t)
def gf:=@Perss.none_
def ip:=@Fresh.none_
def kF:=@Srcs.at_
end Go.Proofs.YtnldgmhdjancbaaGreatDoor
