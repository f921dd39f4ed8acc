/- Regions that draw their order, by facts about the values that have been made, each of which stands while others are made; one last store. No condition. -/
import Derived.Test.YtmcoomlkbgiboaaGreatDoorV30
import Derived.Test.YtmcoomlkbgiboaaGreatDoorV26
set_option linter.all false
set_option maxRecDepth 100000
set_option maxHeartbeats 6400000
namespace Go.Proofs.YtmcoomlkbgiboaaGreatDoor
open Go.RowKit
def upd (V:Nat->Value) (i:Nat) (v:Value):Nat->Value:=fun j=>if j=i then v else V j
theorem zaQ (V:Nat->Value) (i:Nat) (v:Value):upd V i v i=v:=if_pos rfl
theorem zrV {V:Nat->Value} {i j:Nat} {v:Value} (h:j≠i):upd V i v j=V j:=if_neg h
def zdG (D:Nat->Option Nat) (V:Nat->Value):Nat->Act->Act
 | 0,a=>a
 | n+1,a=>(zdG D V n a).put (D n) (V n)
theorem ziY (D:Nat->Option Nat) (V:Nat->Value):∀ (n:Nat) (a:Act),(zdG D V n a).defers=a.defers
 | 0,_=>rfl
 | n+1,a=>by
  show ((zdG D V n a).put (D n) (V n)).defers=_;rw[<- ziY D V n a];cases D n <;> rfl
theorem zAs (a:Act) (d:Option Nat) (v:Value):(a.put d v).tmps.size=a.tmps.size:=by cases d <;> simp [Act.put]
theorem zmN (D:Nat->Option Nat) (V:Nat->Value):∀ (n:Nat) (a:Act),(zdG D V n a).tmps.size=a.tmps.size
 | 0,_=>rfl
 | n+1,a=>by show ((zdG D V n a).put (D n) (V n)).tmps.size=_;rw[zAs,zmN D V n a]
theorem zrW {D:Nat->Option Nat} {V:Nat->Value}:∀ (n:Nat) (a:Act) (i d:Nat),i<n->D i=some d->(∀ j,j<n->D j=some d->j=i)->d<a.tmps.size->(zdG D V n a).tmps[d]? = some (V i)
 | 0,_,_,_,h,_,_,_=>absurd h (Nat.not_lt_zero _)
 | n+1,a,i,d,h,hd,hu,hs=>by
  show ((zdG D V n a).put (D n) (V n)).tmps[d]? = _;by_cases q:i=n
  ·subst q;rw[hd,zkH _ _ _ _ (by rw[zmN];exact hs),if_pos rfl]
  ·have ih:=zrW (V:=V) n a i d (by omega) hd (fun j hj=>hu j (by omega)) hs;cases hn:D n with
   | none=>exact ih
   | some e =>
    have hne:d≠e:=fun x=>q (hu n (by omega) (by rw[hn,x])).symm;by_cases he:e<(zdG D V n a).tmps.size
    ·rw[zkH _ _ _ _ he,if_neg hne];exact ih
    ·show ((zdG D V n a).tmps.setIfInBounds e (V n))[d]? = _;rw[Array.getElem?_setIfInBounds_ne (fun x=>hne x.symm)];exact ih
theorem zmO {D:Nat->Option Nat} {V:Nat->Value}:∀ (n:Nat) (a:Act) (s:Nat),(∀ j,j<n->D j≠some s)->(zdG D V n a).tmps[s]? = a.tmps[s]?
 | 0,_,_,_=>rfl
 | n+1,a,s,h=>by
  show ((zdG D V n a).put (D n) (V n)).tmps[s]? = _;have ih:=zmO (V:=V) n a s (fun j hj=>h j (by omega));cases hn:D n with
  | none=>exact ih
  | some e =>
   have hne:s≠e:=fun x=>h n (by omega) (by rw[hn,x]);show ((zdG D V n a).tmps.setIfInBounds e (V n))[s]? = _;rw[Array.getElem?_setIfInBounds_ne (fun x=>hne x.symm)];exact ih
theorem zAt {n:Nat} {D:Nat->Option Nat} {V:Nat->Value} {L:Array Bool} {a0 a:Act} (S:Slots n D V L a0 a) (hinj:∀ i j d,i<n->j<n->D i=some d->D j=some d->j=i) (hlt:∀ i d,i<n->D i=some d->d<a0.tmps.size) (hon:∀ i,i<n->On L i):a=zdG D V n a0:=by
 refine zAr (by rw[ziY];exact S.defers) (fun s=>?_);by_cases h:∃ i,i<n/\D i=some s
 ·obtain ⟨i,hi,hd⟩:=h;rw[S.val i s hi hd (hon i hi),zrW n a0 i s hi hd (fun j hj e=>hinj i j s hi hj hd e) (hlt i s hi hd)]
 ·rw[S.rest s (fun i hi e=>h ⟨i,hi,e⟩),zmO n a0 s (fun i hi e=>h ⟨i,hi,e⟩)]
section
variable {P:Program} {ops:Array Oper} {Q:Exit->Act->World->Prop}
def OpAt (ops:Array Oper) (i:Nat) (op:Op) (d:Option Nat):Prop:=∃ o,ops[i]? = some o/\o.op=op/\o.guard=none/\o.dst=d
def zhB (ops:Array Oper) (i:Nat):Option Nat:=(ops[i]?).bind (·.dst)
def zF3 (o:Oper) (j:Nat):Bool:=o.after.any fun e=>Region.binds .any e && e.on == j
def zAu (ops:Array Oper) (n s:Nat) (ea dep:Array (List Nat)) (m:Nat):Bool :=
 ops.size == n && decide (s<n) && acB ops &&
 ((
    List.range n).all fun i=>match ops[i]? with
    | none=>false
    | some o=>((dep.getD i []).all fun j=>j != i && decide (j<n) && o.after.any fun e=>Region.binds .any e && (e.on == j || (dep.getD e.on []).contains j)) &&
     (match o.dst with|none=>true|some d=>decide (d<m) && (List.range n).all fun j=>j == i || zhB ops j != some d)) &&
 ((ea.getD 0 []).all fun i=>decide (i<s) && (match ops[s]? with|none=>false|some o=>zF3 o i))
theorem zAv {n s m:Nat} {ea dep:Array (List Nat)} (h:zAu ops n s ea dep m=true):ops.size=n/\s<n/\acB ops=true:=by
 unfold zAu at h;simp only[Bool.and_eq_true,beq_iff_eq,decide_eq_true_eq] at h;exact ⟨h.1.1.1.1,h.1.1.1.2,h.1.1.2⟩
theorem zpR {n s m:Nat} {ea dep:Array (List Nat)} (h:zAu ops n s ea dep m=true) {i:Nat} {o:Oper} (ho:ops[i]? = some o) :
  (∀ j∈dep.getD i [],j≠i/\j<n/\∃ e∈o.after,Region.binds .any e=true/\(e.on=j\/j∈dep.getD e.on []))/\(∀ d,o.dst=some d->d<m/\∀ j,j<n->zhB ops j=some d->j=i):=by
 have hn:=(zAv h).1;unfold zAu at h;simp only[Bool.and_eq_true] at h;have h1:=List.all_eq_true.1 h.1.2 i (List.mem_range.2 (by rw[<- hn];exact (Array.getElem?_eq_some_iff.1 ho).1));rw[ho] at h1;simp only[Bool.and_eq_true] at h1;obtain ⟨h2,h3⟩:=h1;refine ⟨fun j hj=>?_,fun d hd=>?_⟩
 ·have:=List.all_eq_true.1 h2 j hj;simp only[Bool.and_eq_true,bne_iff_ne,decide_eq_true_eq] at this;obtain ⟨⟨q1,q2⟩,q3⟩:=this;obtain ⟨k,hk,q⟩:=Array.any_eq_true.1 q3;simp only[Bool.and_eq_true,Bool.or_eq_true,beq_iff_eq,List.contains_iff_mem] at q;exact ⟨q1,q2,_,Array.getElem_mem hk,q.1,q.2⟩
 ·rw[hd] at h3;simp only[Bool.and_eq_true,decide_eq_true_eq] at h3;refine ⟨h3.1,fun j hj hdj=>?_⟩;have:=List.all_eq_true.1 h3.2 j (List.mem_range.2 hj);simp only[Bool.or_eq_true,beq_iff_eq,bne_iff_ne] at this;rcases this with q|q
  ·exact q
  ·exact absurd hdj q
theorem zEm {n s m:Nat} {ea dep:Array (List Nat)} (h:zAu ops n s ea dep m=true) {i:Nat} (hi:i∈ea.getD 0 []) {o:Oper} (ho:ops[s]? = some o):i<s/\∃ e∈o.after,Region.binds .any e=true/\e.on=i:=by
 unfold zAu at h;simp only[Bool.and_eq_true] at h;have h1:=List.all_eq_true.1 h.2 i hi;rw[ho] at h1;simp only[Bool.and_eq_true,decide_eq_true_eq] at h1;obtain ⟨q1,q2⟩:=h1;unfold zF3 at q2;obtain ⟨k,hk,q⟩:=Array.any_eq_true.1 q2;simp only[Bool.and_eq_true,beq_iff_eq] at q;exact ⟨q1,_,Array.getElem_mem hk,q.1,q.2⟩
end
def Late (n:Nat) (D:Nat->Option Nat) (L:Array Bool) (a0 a:Act):Prop:=∀ i d,i<n->D i=some d->¬ On L i->a.tmps[d]? = a0.tmps[d]?
theorem Late.eval {n:Nat} {D:Nat->Option Nat} {L:Array Bool} {a0 a:Act} (h:Late n D L a0 a) (i d:Nat) (hi:i<n) (hd:D i=some d) (ho:¬ On L i):a.eval (.tmp d)=a0.eval (.tmp d):=by
 show a.tmps.getD d undef=a0.tmps.getD d undef;rw[Array.getD_eq_getD_getElem?,Array.getD_eq_getD_getElem?,h i d hi hd ho]
theorem Late.put {n:Nat} {D:Nat->Option Nat} {L:Array Bool} {a0 a:Act} (h:Late n D L a0 a) (i:Nat) (hi:i<n) (hinj:∀ j d,j<n->D i=some d->D j=some d->j=i) (hL:i<L.size) (v:Value):Late n D (L.setIfInBounds i true) a0 (a.put (D i) v):=by
 intro j d hj hd ho;have hji:j≠i:=fun e=>ho (by rw[e];exact zeS hL);have h0:=h j d hj hd (fun q=>ho (zbB q));cases hdi:D i with
 | none=>exact h0
 | some e =>
  have hne:e≠d:=fun q=>hji (hinj j d hj (by rw[hdi,q]) hd);show (a.tmps.setIfInBounds e v)[d]? = _;rw[Array.getElem?_setIfInBounds_ne hne];exact h0
section
variable {P:Program} {ops:Array Oper} {Q:Exit->Act->World->Prop}
def FacIL (n s:Nat) (D:Nat->Option Nat) (ea:List Nat) (dep:Nat->List Nat) (F:Nat->(Nat->Value)->World->Prop) (G:World->Prop) (Fin:(Nat->Value)->World->Prop) (a0:Act) (L:Array Bool) (a:Act) (w:World):Prop :=
 L.size=n/\∃ V,Slots n D V L a0 a/\Late n D L a0 a/\(∀ j,j<n->On L j->∀ i∈dep j,On L i)/\(¬ On L s->G w/\∀ j,j<n->On L j->F j V w)/\(On L s->Fin V w/\(∀ i∈ea,On L i)/\∀ j,j<n->On L j->j≠s->j ∉ ea->F j V w)
theorem zcS {id:Nat} {a:Act} {w:World} (n s m:Nat) (ea dep:Array (List Nat)) (hc:zAu ops n s ea dep m=true) (hm:P.follows .mixedOrders=true) (hz:m<=a.tmps.size)
  (F:Nat->(Nat->Value)->World->Prop) (G:World->Prop) (St:World->World->Prop) (Fin:(Nat->Value)->World->Prop)
  (hloc:∀ j,j<n->∀ V V' w,(∀ i,i=j\/i∈dep.getD j []->V i=V' i)->F j V w->F j V' w)
  (hfin:∀ V V' w,(∀ i,i=s\/i∈ea.getD 0 []->V i=V' i)->Fin V w->Fin V' w)
  (hst:∀ j,j<n->j≠s->∀ V w w',F j V w->St w w'->F j V w')
  (hfree:∀ j,j<n->j≠s->j ∉ ea.getD 0 []->∀ V w w',F j V w->F j V w')
  (hG0:G w.drew)
  (hstep:∀ i,i<n->i≠s->∀ V a' w',G w'->(∀ j∈dep.getD i [],F j V w'/\∀ d,zhB ops j=some d->a'.eval (.tmp d)=V j)->(∀ t,(∀ j,j<n->zhB ops j≠some t)->a'.eval (.tmp t)=a.eval (.tmp t))->(∀ d,zhB ops s=some d->a'.eval (.tmp d)=a.eval (.tmp d)) ->
   ∀ K:Act->World->Prop,(∀ v w'',St w' w''->G w''->F i (upd V i v) w''->K (a'.put (zhB ops i) v) w'')->wpOp P ops Q i K a' w')
  (hlast:∀ V a' w',G w'->(∀ j∈ea.getD 0 [],F j V w'/\∀ d,zhB ops j=some d->a'.eval (.tmp d)=V j)->(∀ t,(∀ j,j<n->zhB ops j≠some t)->a'.eval (.tmp t)=a.eval (.tmp t)) ->
   ∀ K:Act->World->Prop,(∀ v w'',Fin (upd V s v) w''->K (a'.put (zhB ops s) v) w'')->wpOp P ops Q s K a' w')
  (hafter:∀ i,i<n->i≠s->i ∉ ea.getD 0 []->∀ V a' w',Fin V w'->(∀ j∈dep.getD i [],(j≠s->j ∉ ea.getD 0 []->F j V w')/\∀ d,zhB ops j=some d->a'.eval (.tmp d)=V j) ->
   ∀ K:Act->World->Prop,(∀ v,F i (upd V i v) w'->K (a'.put (zhB ops i) v) w')->wpOp P ops Q i K a' w')
  (hend:∀ V w',Fin V w'->(∀ j,j<n->j≠s->j ∉ ea.getD 0 []->F j V w')->Q .normal (zdG (zhB ops) V n a) w') :
  (Code.region id ops true).wp P Q a w:=by
 obtain ⟨hn,hs,hac⟩:=zAv hc;have hO:∀ i,i<n->∃ o,ops[i]? = some o:=fun i hi=>⟨_,Array.getElem?_eq_getElem (by rw[hn];exact hi)⟩;have hdo:∀ {i:Nat} {o:Oper},ops[i]? = some o->zhB ops i=o.dst:=fun h=>(by unfold zhB;rw[h];rfl);have hinj:∀ i j d,i<n->j<n->zhB ops i=some d->zhB ops j=some d->j=i:=fun i j d hi hj h1 h2=>by
  obtain ⟨o,ho⟩:=hO i hi;exact ((zpR hc ho).2 d (by rw[<- hdo ho];exact h1)).2 j hj h2
 have hlt:∀ i d,i<n->zhB ops i=some d->d<a.tmps.size:=fun i d hi h1=>by
  obtain ⟨o,ho⟩:=hO i hi;exact Nat.lt_of_lt_of_le ((zpR hc ho).2 d (by rw[<- hdo ho];exact h1)).1 hz
 subst hn;generalize hD:zhB ops=D at *;generalize hE:ea.getD 0 []=E at *;refine zfS (FacIL ops.size s D E (fun i=>dep.getD i []) F G Fin a) hm (zBW hac) ?_ ?_ ?_
 ·have hno:∀ i,¬ On (Array.replicate ops.size false) i:=fun i=>zgF ops.size i;exact ⟨by simp,fun _=>undef,Slots.start _ _ _ _ _,fun _ _ _ _ _=>rfl,fun j _ h=>absurd h (hno j),fun _=>⟨hG0,fun j _ h=>absurd h (hno j)⟩,fun h=>absurd h (hno s)⟩
 ·intro L a1 w1 ⟨hsz,V,S,_,_,_,h4⟩ hall;have hon:∀ i,i<ops.size->On L i:=fun i hi=>by
   have:=hall i hi;unfold On;rw[Array.getD_eq_getD_getElem?,Array.getElem?_eq_getElem (by omega)] at this ⊢;exact this
  rw[zAt S hinj hlt hon];exact hend V w1 (h4 (hon s hs)).1 fun j hj q1 q2=>(h4 (hon s hs)).2.2 j hj (hon j hj) q1 q2
 ·intro L a1 w1 i ⟨hsz,V,S,SL,h2,h3,h4⟩ hi hn hed;obtain ⟨o,ho⟩:=hO i hi;have n0:=zuR hn;have hdon:∀ j∈dep.getD i [],On L j/\j≠i/\j<ops.size:=fun j hj=>by
   obtain ⟨q1,q0,e,he,hb,q⟩:=(zpR hc ho).1 j hj;have h5:=hed o ho e he hb;refine ⟨?_,q1,q0⟩;rcases q with rfl|q
   ·exact h5
   ·have hlt2:e.on<ops.size:=by
     have:=zBW hac i o ho e he hb;omega
    exact h2 e.on hlt2 h5 j q
  have hev:∀ j,j<ops.size->On L j->∀ d,D j=some d->a1.eval (.tmp d)=V j:=fun j hj h d hd=>S.eval j d hj hd h;have hrest:∀ t,(∀ j,j<ops.size->D j≠some t)->a1.eval (.tmp t)=a.eval (.tmp t):=fun t ht=>S.ext t ht;have hput:∀ v,Slots ops.size D (upd V i v) (L.setIfInBounds i true) a (a1.put (D i) v):=fun v=>S.put i hi (by omega) (fun j d hj h5 h6=>hinj i j d hi hj h5 h6) (fun d hd=>hlt i d hi hd) v (fun _=>(zaQ V i v).symm) (fun j _ hj=>(zrV (fun e=>n0 (by rw[<- e];exact hj))).symm);have hlate:∀ v,Late ops.size D (L.setIfInBounds i true) a (a1.put (D i) v):=fun v=>SL.put i hi (fun j d hj h5 h6=>hinj i j d hi hj h5 h6) (by omega) v;have hcl:∀ j,j<ops.size->On (L.setIfInBounds i true) j->∀ k∈dep.getD j [],On (L.setIfInBounds i true) k:=fun j hj h k hk=>by
   rcases zf3 h with rfl|q
   ·exact zbB (hdon k hk).1
   ·exact zbB (h2 j hj q k hk)
  have hFl:∀ v w2 j,j<ops.size->On L j->F j V w2->F j (upd V i v) w2:=fun v w2 j hj q h6=>by
   refine hloc j hj V (upd V i v) w2 (fun k hk=>(zrV ?_).symm) h6;rintro rfl;rcases hk with rfl|hk
   ·exact n0 q
   ·exact n0 (h2 j hj q k hk)
  by_cases his:i=s
  ·subst his;obtain ⟨hG,hFs⟩:=h3 n0;have hall:∀ j∈E,j<ops.size/\On L j/\j≠i:=fun j hj=>by
    obtain ⟨q,e,he,hb,rfl⟩:=zEm hc (by rw[hE];exact hj) ho;exact ⟨by omega,hed o ho e he hb,by omega⟩
   refine hlast V a1 w1 hG (fun j hj=>⟨hFs j (hall j hj).1 (hall j hj).2.1,hev j (hall j hj).1 (hall j hj).2.1⟩) hrest _ (fun v w2 k1=>?_);refine ⟨by rw[Array.size_setIfInBounds];exact hsz,upd V i v,hput v,hlate v,hcl,fun h=>absurd (zeS (by omega)) h,fun _=>⟨k1,fun j hj=>zbB (hall j hj).2.1,fun j hj h q1 q2=>?_⟩⟩;rcases zf3 h with q|q
   ·exact absurd q q1
   ·exact hFl v w2 j hj q (hfree j hj q1 q2 V w1 w2 (hFs j hj q))
  ·have hso:On (L.setIfInBounds i true) s->On L s:=fun h=>by
    rcases zf3 h with q|q
    ·exact absurd q.symm his
    ·exact q
   by_cases hos:On L s
   ·obtain ⟨hF,hEa,hFr⟩:=h4 hos;have hiE:i ∉ E:=fun q=>n0 (hEa i q);refine hafter i hi his hiE V a1 w1 hF (fun j hj=>⟨fun q1 q2=>hFr j (hdon j hj).2.2 (hdon j hj).1 q1 q2,hev j (hdon j hj).2.2 (hdon j hj).1⟩) _ (fun v k1=>?_);refine ⟨by rw[Array.size_setIfInBounds];exact hsz,upd V i v,hput v,hlate v,hcl,fun h=>absurd (zbB hos) h,fun _=>⟨hfin V _ w1 (fun k hk=>(zrV ?_).symm) hF,fun j hj=>zbB (hEa j hj),fun j hj h q1 q2=>?_⟩⟩
    ·rintro rfl;rcases hk with q|q
     ·exact his q
     ·exact hiE q
    ·rcases zf3 h with rfl|q
     ·exact k1
     ·exact hFl v w1 j hj q (hFr j hj q q1 q2)
   ·obtain ⟨hG,hFs⟩:=h3 hos;refine hstep i hi his V a1 w1 hG (fun j hj=>⟨hFs j (hdon j hj).2.2 (hdon j hj).1,hev j (hdon j hj).2.2 (hdon j hj).1⟩) hrest (fun d hd=>SL.eval s d hs hd hos) _ (fun v w2 k1 k2 k3=>?_);refine ⟨by rw[Array.size_setIfInBounds];exact hsz,upd V i v,hput v,hlate v,hcl,fun _=>⟨k2,fun j hj h=>?_⟩,fun h=>absurd (hso h) hos⟩;rcases zf3 h with rfl|q
    ·exact k3
    ·exact hFl v w2 j hj q (hst j hj (fun e=>hos (e ▸ q)) V w1 w2 (hFs j hj q) k1)
end
section
variable {P:Program} {ops:Array Oper} {Q:Exit->Act->World->Prop}
theorem zaM {i:Nat} {op:Op} {d:Option Nat} (h:OpAt ops i op d):zhB ops i=d:=by
 obtain ⟨o,ho,-,-,hd⟩:=h;unfold zhB;rw[ho];exact hd
theorem zaY {i:Nat} {op:Op} {d:Option Nat} {a:Act} {w w':World} {v:Value} {K:Act->World->Prop} (h:OpAt ops i op d) (hr:∀ o:Oper,o.op=op->(execOp a.eval o).run P w=.ok (.value v) w') (hk:K (a.put (zhB ops i) v) w'):wpOp P ops Q i K a w:=by
 rw[zaM h] at hk;obtain ⟨o,ho,hop,hg,hd⟩:=h;exact zaR ho hg (hr o hop) (by rw[hd];exact hk)
theorem zdK {i:Nat} {op:Op} {d:Option Nat} {a:Act} {w w':World} {f:FuncId} {args:Array Value} {K:Act->World->Prop} (h:OpAt ops i op d) (hr:∀ o:Oper,o.op=op->(execOp a.eval o).run P w=.ok (.enter f args) w')
  (hc:Calls P f args w' fun e w''=>∃ v,e=.returned v/\K (a.put (zhB ops i) v) w''):wpOp P ops Q i K a w:=by
 rw[zaM h] at hc;obtain ⟨o,ho,hop,hg,hd⟩:=h;exact ze9 ho hg (hr o hop) (by rw[hd];exact hc)
theorem zdR {i:Nat} {op:Op} {d:Option Nat} {a:Act} {w:World} {K:Act->World->Prop} (h:OpAt ops i op d) (hl:∀ o:Oper,o.op=op->o.guard=none->o.dst=zhB ops i->wpList P ops (QK Q K) [o] a w):wpOp P ops Q i K a w:=by
 have e:=zaM h;obtain ⟨o,ho,hop,hg,hd⟩:=h;exact zmF ho (hl o hop hg (by rw[hd,e]))
theorem zeV {i:Nat} {x:Operand} {d:Option Nat} {a:Act} {w:World} {K:Act->World->Prop} (h:OpAt ops i (.move x) d) {v:Value} (hx:a.eval x=v) (hk:K (a.put (zhB ops i) v) w):wpOp P ops Q i K a w :=
 zaY h (fun o ho=>by simp only[execOp,ho,hx];simp [go_sem]) hk
theorem zAw {i:Nat} {x:Operand} {d:Option Nat} {a:Act} {w:World} {K:Act->World->Prop} (h:OpAt ops i (.assign x) d) {v:Value} (hx:a.eval x=v) (hk:K (a.put (zhB ops i) v) w):wpOp P ops Q i K a w :=
 zaY h (fun o ho=>by simp only[execOp,ho,hx];simp [go_sem]) hk
end
theorem Tryz.infoKy:(Tryz.prog.info? 84).map (fun i=>(i.zero,i.size,i.bytes))=some (some (.agg #[.string ⟨#[]⟩,.int .i64 0,.string ⟨#[]⟩,.string ⟨#[]⟩]),4,56):=by kernel_rfl
theorem Tryz.sizeKy:(Tryz.prog.info? 84).map (·.size)=some 4:=by kernel_rfl
theorem Tryz.sizeS5:(Tryz.prog.info? 50).map (·.size)=some 5:=by kernel_rfl
def zjQ (s:SrcT) (vA vE vF:Value) (I:Nat) (t au:Bs) (yr:Int) (n0:Nat):Nat->(Nat->Value)->World->Prop
 | 0,V,_=>V 0=.agg #[.string (bs s.key),.string (bs s.type),vA,vE,vF]
 | 1,V,_=>V 1=.string (bs au)
 | 2,V,_=>V 2=.agg #[.string (bs s.key),.string (bs s.type),vA,vE,vF]
 | 3,V,_=>V 3=.int .i64 yr
 | 4,V,_=>V 4=.string (bs t)
 | 5,V,_=>V 5=.pointer (some ⟨I,0,none⟩)
 | 6,V,_=>V 6=.string (bs s.key)
 | 7,V,_=>V 7=.agg #[.string (bs au),.int .i64 yr,.string (bs t),.string (bs s.key)]
 | 8,V,w=>∃ Z:Nat,V 8=.pointer (some ⟨Z,0,none⟩)/\n0<=Z/\Blk w Z 84 #[.string (bs []),.int .i64 0,.string (bs []),.string (bs [])]
 | _,_,_=>True
theorem zCv {ops:Array Oper} {id:Nat} {a:Act} {wr:World} {Q:Exit->Act->World->Prop} (s:SrcT) (vA vE vF:Value) (I:Nat) (t au:Bs) (yr:Int)
  (hc:zAu ops 10 9 #[[0,1,2,3,4,5,6,7,8]] #[[],[0],[],[2],[],[],[5],[1,3,4,6],[],[7,8]] 73=true)
  (p0:OpAt ops 0 (.load 50 (.tmp 11)) (some 36))
  (p1:OpAt ops 1 (.call { callee:=.value (.func 36),args:=#[.tmp 36],argTypes:=#[50] }) (some 37))
  (p2:OpAt ops 2 (.load 50 (.tmp 11)) (some 38))
  (p3:OpAt ops 3 (.call { callee:=.value (.func 37),args:=#[.tmp 38],argTypes:=#[50] }) (some 39))
  (p4:OpAt ops 4 (.move (.tmp 12)) (some 40))
  (p5:OpAt ops 5 (.fieldAddr 50 (.tmp 11) 0) (some 41))
  (p6:OpAt ops 6 (.load 9 (.tmp 41)) (some 42))
  (p7:OpAt ops 7 (.build 84 #[(0,.tmp 37),(1,.tmp 39),(2,.tmp 40),(3,.tmp 42)]) (some 43))
  (p8:OpAt ops 8 (.alloc 84) (some 14))
  (p9:OpAt ops 9 (.store 84 (.tmp 14) (.tmp 43)) none)
  (hz:73<=a.tmps.size) (h11:a.eval (.tmp 11)=.pointer (some ⟨I,0,none⟩)) (h12:a.eval (.tmp 12)=.string (bs t))
  (HB:Hid (Blk wr I 50 #[.string (bs s.key),.string (bs s.type),vA,vE,vF])) (HA:Hid (∀ w',Kept wr w'->Calls Tryz.prog 36 #[.agg #[.string (bs s.key),.string (bs s.type),vA,vE,vF]] w' fun e w''=>e=.returned (.string (bs au))/\Kept w' w'')) (HY:Hid (∀ w',Kept wr w'->Calls Tryz.prog 37 #[.agg #[.string (bs s.key),.string (bs s.type),vA,vE,vF]] w' fun e w''=>e=.returned (.int .i64 yr)/\Kept w' w''))
  (hend:∀ (V:Nat->Value) w' TB,V 8=.pointer (some ⟨TB,0,none⟩)->wr.heap.size<=TB->Blk w' TB 84 #[.string (bs au),.int .i64 yr,.string (bs t),.string (bs s.key)]->Kept wr w'->Q .normal ((((((((((a.put (some 36) (V 0)).put (some 37) (V 1)).put (some 38) (V 2)).put (some 39) (V 3)).put (some 40) (V 4)).put (some 41) (V 5)).put (some 42) (V 6)).put (some 43) (V 7)).put (some 14) (V 8)).put none (V 9)) w') :
  (Code.region id ops true).wp Tryz.prog Q a wr:=by
 have e0:=zaM p0;have e1:=zaM p1;have e2:=zaM p2;have e3:=zaM p3;have e4:=zaM p4;have e5:=zaM p5;have e6:=zaM p6;have e7:=zaM p7;have e8:=zaM p8;have e9:=zaM p9;have hout:∀ t,(t=11\/t=12)->∀ j,j<10->zhB ops j≠some t:=by
  intro t ht j hj;obtain rfl|rfl|rfl|rfl|rfl|rfl|rfl|rfl|rfl|rfl:j=0\/j=1\/j=2\/j=3\/j=4\/j=5\/j=6\/j=7\/j=8\/j=9:=(by omega)
  all_goals simp [e0,e1,e2,e3,e4,e5,e6,e7,e8,e9]
  all_goals omega
 refine zcS 10 9 73 _ _ hc (by rfl) hz (zjQ s vA vE vF I t au yr wr.heap.size) (fun w=>Kept wr w) Kept
  (fun V w=>∃ TB:Nat,V 8=.pointer (some ⟨TB,0,none⟩)/\wr.heap.size<=TB/\Blk w TB 84 #[.string (bs au),.int .i64 yr,.string (bs t),.string (bs s.key)]/\Kept wr w) ?_ ?_ ?_ ?_ ?_ ?_ ?_ ?_ ?_
 ·intro j hj V V' w hV h;have hjj:=hV j (.inl rfl);obtain rfl|rfl|rfl|rfl|rfl|rfl|rfl|rfl|rfl|rfl:j=0\/j=1\/j=2\/j=3\/j=4\/j=5\/j=6\/j=7\/j=8\/j=9:=(by omega)
  all_goals (simp only[zjQ] at h ⊢;try (rw[<- hjj];exact h))
 ·intro V V' w hV h;rw[<- hV 8 (.inr (by simp))];exact h
 ·intro j hj hne V w w' h k;obtain rfl|rfl|rfl|rfl|rfl|rfl|rfl|rfl|rfl:j=0\/j=1\/j=2\/j=3\/j=4\/j=5\/j=6\/j=7\/j=8:=(by omega)
  ·exact h
  ·exact h
  ·exact h
  ·exact h
  ·exact h
  ·exact h
  ·exact h
  ·exact h
  ·obtain ⟨Z,h1,h2,h3⟩:=h;exact ⟨Z,h1,h2,h3.kept k⟩
 ·intro j hj hne hni;exfalso;apply hni;have:j<9:=(by omega);simp only[Array.getD,List.size_toArray];obtain rfl|rfl|rfl|rfl|rfl|rfl|rfl|rfl|rfl:j=0\/j=1\/j=2\/j=3\/j=4\/j=5\/j=6\/j=7\/j=8:=(by omega)
  all_goals simp
 ·exact zaB wr 1
 ·intro i hi hne V a' w' hG hF hR hS K hK;have o11:=(hR 11 (hout 11 (by omega))).trans h11;have o12:=(hR 12 (hout 12 (by omega))).trans h12;have hb:=HB.out.kept hG;have c0:w'.cell? ⟨I,0,none⟩=some (.string (bs s.key)):=hb.cell 0 _ rfl;have same:∀ v,zjQ s vA vE vF I t au yr wr.heap.size i (upd V i v) w'->K (a'.put (zhB ops i) v) w':=fun v h=>hK v w' (Kept.refl _) hG h;obtain rfl|rfl|rfl|rfl|rfl|rfl|rfl|rfl|rfl:i=0\/i=1\/i=2\/i=3\/i=4\/i=5\/i=6\/i=7\/i=8:=(by omega)
  ·refine zdR p0 fun o1 ho hg' hd'=>?_;refine zaT hg' 50 (.tmp 11) ho _ #[.string (bs s.key),.string (bs s.type),vA,vE,vF] o11 hb _ Tryz.underlying50 rfl Tryz.sizeS5 ?_;rw[hd'];exact same _ (zaQ _ _ _)
  ·have z0:=((hF 0 (by simp)).2 _ e0).trans (hF 0 (by simp)).1;refine zdK p1 (f:=36) (args:=#[.agg #[.string (bs s.key),.string (bs s.type),vA,vE,vF]]) (w':=w') (fun o1 ho=>?_) ((HA.out w' hG).mono fun e w'' ⟨he,hk⟩=>⟨_,he,hK _ w'' hk (hG.trans hk) (zaQ _ _ _)⟩);simp only[execOp,ho,resolve,List.map_toArray,List.map_cons,List.map_nil,z0];simp [go_sem]
  ·refine zdR p2 fun o1 ho hg' hd'=>?_;refine zaT hg' 50 (.tmp 11) ho _ #[.string (bs s.key),.string (bs s.type),vA,vE,vF] o11 hb _ Tryz.underlying50 rfl Tryz.sizeS5 ?_;rw[hd'];exact same _ (zaQ _ _ _)
  ·have z2:=((hF 2 (by simp)).2 _ e2).trans (hF 2 (by simp)).1;refine zdK p3 (f:=37) (args:=#[.agg #[.string (bs s.key),.string (bs s.type),vA,vE,vF]]) (w':=w') (fun o1 ho=>?_) ((HY.out w' hG).mono fun e w'' ⟨he,hk⟩=>⟨_,he,hK _ w'' hk (hG.trans hk) (zaQ _ _ _)⟩);simp only[execOp,ho,resolve,List.map_toArray,List.map_cons,List.map_nil,z2];simp [go_sem]
  ·exact zeV p4 o12 (same _ (zaQ _ _ _))
  ·refine zaY p5 (v:=.pointer (some ⟨I,0,none⟩)) (w':=w') (fun o1 ho=>?_) (same _ (zaQ _ _ _));simp only[execOp,ho,o11];simp [go_sem,Tryz.underlying50]
  ·have z5:=((hF 5 (by simp)).2 _ e5).trans (hF 5 (by simp)).1;refine zaY p6 (v:=.string (bs s.key)) (w':=w') (fun o1 ho=>?_) (same _ (zaQ _ _ _));simp only[execOp,ho,z5];simp [go_sem,Tryz.underlying9,c0]
  ·have z1:=((hF 1 (by simp)).2 _ e1).trans (hF 1 (by simp)).1;have z3:=((hF 3 (by simp)).2 _ e3).trans (hF 3 (by simp)).1;have z4:=((hF 4 (by simp)).2 _ e4).trans (hF 4 (by simp)).1;have z6:=((hF 6 (by simp)).2 _ e6).trans (hF 6 (by simp)).1;refine zaY p7 (v:=.agg #[.string (bs au),.int .i64 yr,.string (bs t),.string (bs s.key)]) (w':=w') (fun o1 ho=>?_) (same _ (zaQ _ _ _));have y37:=z1;simp only[Act.eval,Array.getD_eq_getD_getElem?] at y37;have y39:=z3;simp only[Act.eval,Array.getD_eq_getD_getElem?] at y39;have y40:=z4;simp only[Act.eval,Array.getD_eq_getD_getElem?] at y40;have y42:=z6;simp only[Act.eval,Array.getD_eq_getD_getElem?] at y42;simp only[execOp,ho];simp [go_sem,y37,y39,y40,y42]
  ·obtain ⟨i0,hi,hz0,hz1,hz2⟩:=info_parts Tryz.infoKy;refine zaY p8 (v:=.pointer (some ⟨w'.heap.size,0,none⟩)) (w':=w'.alloc (.cells #[.string (bs []),.int .i64 0,.string (bs []),.string (bs [])] 84)) (fun o1 ho=>?_) (hK _ _ (zaA _ _) (hG.trans (zaA _ _)) ⟨w'.heap.size,zaQ _ _ _,hG.size,Blk.new _ _ _⟩);simp only[execOp,ho];simp [go_sem,hi,hz0]
 ·intro V a' w' hG hF hR K hK;obtain ⟨⟨Z,r1,r2,r3⟩,r4⟩:=hF 8 (by simp);have z1:=(r4 _ e8).trans r1;have z0:=((hF 7 (by simp)).2 _ e7).trans (hF 7 (by simp)).1;refine zdR p9 fun o1 ho hg' hd'=>?_;refine za4 hg' 84 (.tmp 14) (.tmp 43) ho Z #[.string (bs []),.int .i64 0,.string (bs []),.string (bs [])] #[.string (bs au),.int .i64 yr,.string (bs t),.string (bs s.key)] z1 z0 r3 rfl Tryz.sizeKy (by simp [Value.oneCell']) ?_;intro w2 hb2 ho2;rw[hd'];exact hK _ _ ⟨Z,(zrV (by omega)).trans r1,r2,hb2,hG.trans' (ho2.below hG.size (fun i e=>by rw[e];exact r2))⟩
 ·intro i hi hne hni;exfalso;apply hni;have:i<9:=(by omega);obtain rfl|rfl|rfl|rfl|rfl|rfl|rfl|rfl|rfl:i=0\/i=1\/i=2\/i=3\/i=4\/i=5\/i=6\/i=7\/i=8:=(by omega)
  all_goals simp
 ·intro V w' ⟨TB,g1,g2,g3,g4⟩ _;have:=hend V w' TB g1 g2 g3 g4;simp only[zdG,e0,e1,e2,e3,e4,e5,e6,e7,e8,e9];exact this
end Go.Proofs.YtmcoomlkbgiboaaGreatDoor
