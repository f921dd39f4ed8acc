/- Parts. -/
import Derived.Test.YtnldgmhdjancbaaGreatDoorW03
import Derived.Deep.AppendLies
import Derived.Deep.RegionHeld3
import Derived.Deep.Upon
set_option linter.all false
set_option maxRecDepth 100000
set_option maxHeartbeats 6400000
namespace Go.Proofs.YtnldgmhdjancbaaGreatDoor
open Go.RowKit Go.Proofs.Tryz
def ztY(e:Int×Value)(i:Nat):MapEntry:={ key:=.int .i64 e.1,val:=e.2,born:=i }
def ziH(es:List (Int×Value)):Array MapEntry:=(es.mapIdx fun i e=>ztY e i).toArray
def MapV(w:World)(m:Nat)(es:List (Int×Value)):Prop:=w.heap[m]? = some (.map (ziH es) es.length)
def zo3(w:World)(m:Nat)(es:List (Int×Value)):World:={ w with heap:=w.heap.setIfInBounds m (.map (ziH es) es.length) }
def zdL(es:List (Int×Value))(k:Int):Option Value:=(es.find? fun e=>e.1==k).map (·.2)
def MapV.lt{w:World}{m:Nat}{es:List (Int×Value)}(h:MapV w m es):m<w.heap.size:=by
 rcases bG m w.heap.size with q|q
 .exact q
 .unfold MapV at h;rw[bB q]at h;cases h
def MapV.only{S:Nat->Prop}{w w':World}{m:Nat}{es:List (Int×Value)}(h:MapV w m es)(k:Only S w w')(hs:¬ S m):MapV w' m es:=by
 unfold MapV at h ⊢;rw[k.block m (MapV.lt h) hs];exact h
def MapV.kept{w w':World}{m:Nat}{es:List (Int×Value)}(h:MapV w m es)(k:Kept w w'):MapV w' m es:=h.only (bc (S:=fun _=>False) k) (fun q=>q)
def MapV.made(w:World):MapV (w.alloc (.map #[] 0)) w.heap.size []:=el w _
def ziI(w:World)(m:Nat)(es:List (Int×Value))(hm:m<w.heap.size):MapV (zo3 w m es) m es:=by
 unfold MapV zo3;simp [hm]
def zc7(w:World)(m:Nat)(es:List (Int×Value)):Only (fun i=>i=m) w (zo3 w m es) :=
 ⟨rfl,rfl,rfl,by simp [zo3],fun k hk hs=>by simp [zo3,eH,ke hs]⟩
def zxZ(es:List (Int×Value))(e:Int×Value):ziH (es++[e])=(ziH es).push (ztY e es.length):=by
 unfold ziH;rw[gb];simp
def znZ(es:List (Int×Value)):(ziH es).toList=es.mapIdx fun i e=>ztY e (i+0):=by simp [ziH]
def zAC(e:Int×Value)(es:List (Int×Value))(k:Int):zdL (e::es) k=if e.1=k then some e.2 else zdL es k:=by
 unfold zdL;rw[fw];by_cases h:e.1=k
 .rw[ae h];simp [h]
 .rw[aa h];have:(e.1==k)=false:=(by simpa using h);rw[this]
def zI4{kd:IntKind}(k:Int):∀(l:List (Int×Value)) (i j:Nat), (zdL l k=none/\Instr.findNow (.int kd) (.int .i64 k) (l.mapIdx fun i' e=>ztY e (i'+i)) j=some none)\/(∃(n:Nat) (v:Value),zdL l k=some v/\l[n]? = some (k,v)/\Instr.findNow (.int kd) (.int .i64 k) (l.mapIdx fun i' e=>ztY e (i'+i)) j=some (some (n+j,v)))
 | [],_,_=>.inl ⟨rfl,rfl⟩
 | e::l,i,j=>by
  rw[fh,zAC];unfold Instr.findNow;by_cases h:e.1=k
  .right;refine⟨0,e.2,by rw[ae h],by rw[<- h];rfl,?_⟩;simp [ztY,Instr.sameNow,h]
  .have hx:(k==e.1)=false:=(by rw[ab];exact fun q=>h q.symm);have hm:(l.mapIdx fun i' x=>ztY x (i'+1+i))=l.mapIdx fun i' x=>ztY x (i'+(i+1)):=by
    congr 1;funext a b;congr 1;omega
   rw[aa h];simp only[ztY,Instr.sameNow,hx,jO]at hm ⊢;rcases zI4 (kd:=kd) k l (i+1) (j+1)with⟨g1,g2⟩|⟨n,v,g1,g2,g3⟩
   .left;simp only[ztY]at g2;rw[hm];exact⟨g1,g2⟩
   .right;simp only[ztY]at g3;rw[hm];exact⟨n+1,v,g1,by simpa using g2,by rw[g3];congr 3;omega⟩
section
variable {P:Program}{tm ti te:TypeId}
def ze6(hi:P.underlying ti=some (.int .i64))(e:Bool)(k:Int)(w:World):(Instr.checkKey e 10000 ti (.int .i64 k)).run P w=.ok () w:=by
 unfold Instr.checkKey;simp only[bo,bT hi,Result.andThen];rfl
def zJU(hi:P.underlying ti=some (.int .i64))(w:World)(es:List (Int×Value))(k:Int):(zdL es k=none/\(Instr.findKey ti (.int .i64 k) (ziH es).toList).run P w=.ok none w)\/(∃n v,zdL es k=some v/\es[n]? = some (k,v)/\(Instr.findKey ti (.int .i64 k) (ziH es).toList).run P w=.ok (some (n,v)) w):=by
 rcases zI4 (kd:=.i64) k es 0 0 with⟨g1,g2⟩|⟨n,v,g1,g2,g3⟩
 .left;refine⟨g1,?_⟩;unfold Instr.findKey;simp only[bo,bT hi,Result.andThen,znZ,g2];simp [bn]
 .right;refine⟨n,v,g1,g2,?_⟩;unfold Instr.findKey;simp only[bo,bT hi,Result.andThen,znZ,g3];simp [bn]
def zx0(hm:P.underlying tm=some (.map ti te))(hi:P.underlying ti=some (.int .i64))(w:World)(m:Nat)(es:List (Int×Value))(k:Int)(z:Value)(hz:(zeroValue te).run P w=.ok z w)(h:MapV w m es):(Instr.lookup tm (.map (some m)) (.int .i64 k) false).run P w=.ok ((zdL es k).getD z) w:=by
 unfold MapV at h;unfold Instr.lookup;simp only[bo,bT hm,Result.andThen];rcases zJU hi w es k with⟨g1,g2⟩|⟨n,v,g1,_,g3⟩
 .simp only[getObj,bo,Sem.run,h,Result.andThen,bn,ze6 hi,g2,g1,hz];simp [bn]
 .simp only[getObj,bo,Sem.run,h,Result.andThen,bn,ze6 hi,g3,g1];simp [bn]
def zk9(hm:P.underlying tm=some (.map ti te))(hi:P.underlying ti=some (.int .i64))(w:World)(m:Nat)(es:List (Int×Value))(k:Int)(z:Value)(hz:(zeroValue te).run P w=.ok z w)(h:MapV w m es):(Instr.lookup tm (.map (some m)) (.int .i64 k) true).run P w=.ok (.tuple #[(zdL es k).getD z,.bool (zdL es k).isSome]) w:=by
 unfold MapV at h;unfold Instr.lookup;simp only[bo,bT hm,Result.andThen];rcases zJU hi w es k with⟨g1,g2⟩|⟨n,v,g1,_,g3⟩
 .simp only[getObj,bo,Sem.run,h,Result.andThen,bn,ze6 hi,g2,g1,hz];simp [bn]
 .simp only[getObj,bo,Sem.run,h,Result.andThen,bn,ze6 hi,g3,g1];simp [bn]
def zI5(hm:P.underlying tm=some (.map ti te))(hi:P.underlying ti=some (.int .i64))(w:World)(m:Nat)(es:List (Int×Value))(k:Int)(v:Value)(h:MapV w m es)(hk:zdL es k=none):(Instr.mapUpdate tm (.map (some m)) (.int .i64 k) v).run P w=.ok () (zo3 w m (es++[(k,v)])):=by
 unfold MapV at h;unfold Instr.mapUpdate;simp only[bo,bT hm,Result.andThen];rcases zJU hi w es k with⟨g1,g2⟩|⟨n,v',g1,_,_⟩
 .simp only[getObj,bo,Sem.run,h,Result.andThen,bn,ze6 hi,g2,setObj];refine congrArg (Result.ok ()) ?_;unfold zo3;rw[zxZ];simp [ztY]
 .rw[hk]at g1;cases g1
def zDV(k:Int)(w:World):(Instr.keyThatStays (.int .i64 k) (.int .i64 k)).run P w=.ok (.int .i64 k) w:=by
 unfold Instr.keyThatStays;have e:Instr.sameBits 10000 (.int .i64 k) (.int .i64 k)=true:=by
  unfold Instr.sameBits;simp
 rw[e];rfl
def zx1(es:List (Int×Value))(n:Nat)(k:Int)(v:Value)(h:es[n]? = some (k,v)):((ziH es).modify n fun e=>{ e with key:=.int .i64 k,val:=v })=ziH es:=by
 apply eP;intro i;rw[eu];by_cases q:n=i
 .subst q;rw[ae rfl];unfold ziH;simp [h,ztY]
 .rw[aa q]
def zAD(es:List (Int×Value))(n:Nat)(k:Int)(v:Value)(h:es[n]? = some (k,v)):(ziH es)[n]? = some (ztY (k,v) n):=by
 unfold ziH;simp [h]
def zAE(hm:P.underlying tm=some (.map ti te))(hi:P.underlying ti=some (.int .i64))(w:World)(m:Nat)(es:List (Int×Value))(k:Int)(v:Value)(h:MapV w m es)(hk:zdL es k=some v):(Instr.mapUpdate tm (.map (some m)) (.int .i64 k) v).run P w=.ok () (zo3 w m es):=by
 unfold MapV at h;unfold Instr.mapUpdate;simp only[bo,bT hm,Result.andThen];rcases zJU hi w es k with⟨g1,_⟩|⟨n,v',g1,g2,g3⟩
 .rw[hk]at g1;cases g1
 .rw[hk]at g1;cases g1;have e1:=zAD es n k v g2;simp only[getObj,bo,Sem.run,h,Result.andThen,bn,ze6 hi,g3,setObj,e1,eR,dE,ztY,zDV];refine congrArg (Result.ok ()) ?_;unfold zo3;have e2:=zx1 es n k v g2
  first|rw[e2]|(trace_state;rfl)
end
def ztZ(l:Bs)(k:Nat):List Int:=(zbI (bs l) k).map (·.1)
def zl0(l:Bs):ztZ l 0=zeP l:=rfl
def zo4(l:Bs)(k:Nat)(h:k<l.length):ztZ l k=(dec (bs l) k).1::ztZ l (k+(dec (bs l) k).2.toNat):=by
 unfold ztZ;rw[zeA (bs l) k (by simpa using h)];rfl
def ziJ(l:Bs)(k:Nat)(h:¬ k<l.length):ztZ l k=[]:=by
 unfold ztZ;rw[zdS (bs l) k (by simpa using h)];rfl
def ziK(l:Bs):(zeP l).length<=l.length:=by
 unfold zeP zcS;rw[bm];have:=zoZ (bs l) 0;simpa using this
def zAF(xs:List Int):List Value:=xs.map fun x=>.int .i64 x
def ziL(xs:List Int)(x:Int):zAF (xs++[x])=zAF xs++[.int .i64 x]:=by simp [zAF]
def zGY(xs:List Int)(j:Nat)(x:Int)(h:xs[j]? = some x):(zAF xs)[j]? = some (.int .i64 x):=by simp [zAF,h]
def Ints(w:World)(v:Value)(xs:List Int):Prop :=
 ∃a c,v=.slice a xs.length c/\xs.length<=c/\(0<xs.length->∃g o,a=some ⟨g,o,none⟩/\g<w.heap.size/\∀j x,xs[j]? = some x->w.cell? ⟨g,o+j,none⟩=some (.int .i64 x))
def Ints.kept{w w':World}{v:Value}{xs:List Int}(h:Ints w v xs)(k:Kept w w'):Ints w' v xs:=by
 obtain⟨a,c,hv,hc,h3⟩:=h;refine⟨a,c,hv,hc,fun q=>?_⟩;obtain⟨g,o,ha,hg,kR⟩:=h3 q;exact⟨g,o,ha,aU hg k.size,fun j x hx=>(k.cell (p:=⟨g,o+j,none⟩) hg).trans (kR j x hx)⟩
def Ints.own{w:World}{base:Nat}{e:TypeId}{v:Value}{xs:List Int}(h:w.ownsRow base e 1 v xs.length (zAF xs)):Ints w v xs:=by
 obtain⟨a,c,hv,hc,_,h3⟩:=zaZ h;refine⟨a,c,hv,hc,fun q=>?_⟩;obtain⟨g,ha,_,hg,kR⟩:=h3 q;exact⟨g,0,ha,hg,fun j x hx=>by rw[bP];exact kR j _ (zGY xs j x hx)⟩
def Ints.only{S:Nat->Prop}{w w':World}{v:Value}{xs:List Int}(h:Ints w v xs)(k:Only S w w')(hS:∀g,S g->w.heap.size<=g\/∀o n c,v≠.slice (some ⟨g,o,none⟩) n c):Ints w' v xs:=by
 obtain⟨a,c,hv,hc,h3⟩:=h;refine⟨a,c,hv,hc,fun q=>?_⟩;obtain⟨g,o,ha,hg,kR⟩:=h3 q;have hs:¬ S g:=fun z=>by
  rcases hS g z with h1|h1
  .omega
  .exact h1 o _ _ (by rw[hv,ha])
 exact⟨g,o,ha,aU hg k.size,fun j x hx=>(k.cell g _ hg hs).trans (kR j x hx)⟩
def ze7(xs:List Int):List (Int×Value):=xs.foldl (fun es x=>if(zdL es x).isSome=true then es else es++[(x,.bool true)]) []
def ziM(es:List (Int×Value))(x:Int)(v:Value)(k:Int):zdL (es++[(x,v)]) k=match zdL es k with
  | some u=>some u
  | none=>if x=k then some v else none:=by
 unfold zdL;rw[ik];cases h:es.find? (fun e=>e.1==k)with
 | some e=>rfl
 | none =>
  simp only[Option.none_or,iY];by_cases q:x=k
  .subst q;simp
  .rw[aa q];simp [q]
def ze8(xs:List Int)(x:Int):ze7 (xs++[x])=if(zdL (ze7 xs) x).isSome=true then ze7 xs else ze7 xs++[(x,.bool true)]:=by
 unfold ze7;rw[fH];rfl
def zlA(k:Int):∀(n:Nat) (xs:List Int),xs.length=n->zdL (ze7 xs) k=if xs.contains k=true then some (.bool true)else none
 | 0,xs,h=>by obtain rfl:=bD.1 h;rfl
 | n+1,xs,h=>by
  obtain⟨o,x,rfl⟩:∃o x,xs=o++[x]:=⟨xs.dropLast,xs.getLast (by intro q;subst q;cases h),(fx _).symm⟩;have ih:=zlA k n o (by simpa using h);have L9:=zlA x n o (by simpa using h);rw[ze8,L9];have hc:(o++[x]).contains k=(o.contains k || x==k):=by
   rw[dX];simp only[bR,aV,bu,dL,bh];exact⟨fun h=>h.elim .inl (fun e=>.inr e.symm),fun h=>h.elim .inl (fun e=>.inr e.symm)⟩
  rw[hc];by_cases q:o.contains x=true
  .rw[ae q,ae (show(some (Value.bool true)).isSome=true from rfl),ih];by_cases e:x=k
   .subst e;rw[q];rfl
   .have:(x==k)=false:=(by simpa using e);rw[this,Bool.or_false]
  .rw[aa q,aa (show¬ (none:Option Value).isSome=true by simp),ziM,ih];by_cases q2:o.contains k=true
   .rw[ae q2,q2];rfl
   .rw[aa q2];have q3:o.contains k=false:=(by simpa using q2);rw[q3,eM];by_cases e:x=k
    .subst e;simp
    .have:(x==k)=false:=(by simpa using e);rw[aa e,this];simp
def zg1(xs:List Int)(k:Int):(zdL (ze7 xs) k).getD (.bool false)=.bool (xs.contains k):=by
 rw[zlA k _ xs rfl];cases xs.contains k<;>rfl
def zt0(xs:List Int)(k:Int):zdL (ze7 xs) k=if xs.contains k=true then some (.bool true)else none:=zlA k _ xs rfl
def znK(i:Nat)(es:List (Int×Value))(xs:List Int):List (Int×Value):=xs.foldl (fun es x=>if(zdL es x).isSome=true then es else es++[(x,.int .i64 i)]) es
def zz8:List Bs->Nat->List (Int×Value)->List (Int×Value)
 | [],_,es=>es
 | s::ss,i,es=>zz8 ss (i+1) (znK i es (zeP s))
def zJV(c:ColT):List (Int×Value):=zz8 c.order 0 []
def zAG(i:Nat)(es:List (Int×Value))(xs:List Int)(x:Int):znK i es (xs++[x])=if(zdL (znK i es xs) x).isSome=true then znK i es xs else znK i es xs++[(x,.int .i64 i)]:=by
 unfold znK;rw[fH];rfl
def zrB(i:Nat)(k:Int):∀(xs:List Int) (es:List (Int×Value)),zdL (znK i es xs) k=match zdL es k with
  | some u=>some u
  | none=>if xs.contains k=true then some (.int .i64 i)else none
 | [],es=>by
  show zdL es k=_;cases zdL es k<;>rfl
 | x::xs,es=>by
  show zdL (znK i (if(zdL es x).isSome=true then es else es++[(x,.int .i64 i)]) xs) k=_;rw[zrB i k xs];have hc:(x::xs).contains k=((x==k) || xs.contains k):=by
   rw[dX];simp only[bR,bj,dL,bh];exact⟨fun h=>h.elim (fun e=>.inl e.symm) .inr,fun h=>h.elim (fun e=>.inl e.symm) .inr⟩
  rw[hc];by_cases q:(zdL es x).isSome=true
  .rw[ae q];cases hk:zdL es k with
   | some u=>rfl
   | none =>
    simp only;have:(x==k)=false:=by
     rw[ab];rintro rfl;rw[hk]at q;cases q
    rw[this,eM]
  .rw[aa q,ziM];cases hk:zdL es k with
   | some u=>rfl
   | none =>
    simp only;by_cases e:x=k
    .subst e;simp
    .have:(x==k)=false:=(by simpa using e);rw[aa e,this,eM]
def zrC(k:Int):∀(ss:List Bs) (i:Nat) (es:List (Int×Value)),zdL (zz8 ss i es) k=match zdL es k with
  | some u=>some u
  | none=>(ss.findIdx? fun s=>(zeP s).contains k).map fun j=>.int .i64 ((i+j:Nat):Int)
 | [],i,es=>by
  show zdL es k=_;cases zdL es k<;>rfl
 | s::ss,i,es=>by
  show zdL (zz8 ss (i+1) (znK i es (zeP s))) k=_;rw[zrC k ss (i+1),zrB];cases hk:zdL es k with
  | some u=>rfl
  | none =>
   simp only;rw[List.findIdx?_cons];by_cases q:(zeP s).contains k=true
   .rw[ae q,ae q];rfl
   .rw[aa q,aa q];simp only[Option.map_map];congr 1;funext j;simp only[Function.comp_apply];congr 2;omega
def zGZ(c:ColT)(k:Int):zdL (zJV c) k=(zGX c k).map fun j=>.int .i64 (j:Int):=by
 unfold zJV zGX;rw[zrC];simp [zdL]
def zrD:∀(ss:List Bs) (s:Bs) (i:Nat) (es:List (Int×Value)),zz8 (ss++[s]) i es=znK (i+ss.length) (zz8 ss i es) (zeP s)
 | [],s,i,es=>rfl
 | t::ss,s,i,es=>by
  show zz8 (ss++[s]) (i+1) _=_;rw[zrD ss s (i+1),az,show i+1+ss.length=i+(ss.length+1)from by omega];rfl
def ValsR(w:World)(es:List (Int×Value))(c:ColT):Prop:=∀k,match znY c k with
 | none=>zdL es k=none
 | some ys=>∃v,zdL es k=some v/\Ints w v ys
def ValsR.nil(w:World)(o:List Bs)(i:Bs):ValsR w [] ⟨[],o,i⟩:=fun _=>rfl
def ValsR.kept{w w':World}{es:List (Int×Value)}{c:ColT}(h:ValsR w es c)(k:Kept w w'):ValsR w' es c:=fun x=>by
 have:=h x;cases hv:znY c x with
 | none=>rw[hv]at this;exact this
 | some ys =>
  rw[hv]at this;obtain⟨v,h1,h2⟩:=this;exact⟨v,h1,h2.kept k⟩
def zl1(rs:List Pr)(p:Pr)(o:List Bs)(i:Bs)(x:Int):znY ⟨rs++[p],o,i⟩ x=match znY ⟨rs,o,i⟩ x with
  | some ys=>some ys
  | none=>if zeP p.1=[x]then some (zeP p.2)else none:=by
 unfold znY;simp only[ik];cases h:rs.find? (fun p=>zeP p.1==[x])with
 | some e=>rfl
 | none =>
  simp only[Option.none_or,iY];by_cases q:zeP p.1=[x]
  .rw[ae q];simp [q]
  .rw[aa q];simp [q]
def Tryz.infoInt:(prog.info? 3).map (fun i=>(i.zero,i.size,i.bytes))=some (some (.int .i64 0),1,8):=g_
def zo5(g o j:Nat):(⟨g,o,none⟩:Addr).add j=⟨g,o+j,none⟩:=by unfold Addr.add;split<;>simp_all
def zl2{P:Program}(w:World){ops:Array Oper}{o:Oper}{a:Act}{K:Act->World->Prop}{Q:Exit->Act->World->Prop}{E:Prop}(hgd:o.guard=none)(s x:Operand)(t:TypeId)(ho:o.op=.call { callee:=.builtin .append,args:=#[s,x],argTypes:=#[t,t] })
  (base:Nat) (e:TypeId) (i:TypeInfo) (z:Value) (size bytes:Nat) (ht:P.underlying t=some (.slice e)) (hi:P.info? e=some i) (hz:i.zero=some z)
  (hsize:i.size=size) (hby:i.bytes=bytes) (hzs:z.cells.size=size) (ny:0<size)
  (v:Value) (n:Nat) (xs:List Value) (hs:a.eval s=v) (lc:w.ownsRow base e size v n xs)
  (a':Option Addr) (m c:Nat) (news:List Value) (hx:a.eval x=.slice a' m c) (hl:news.length=m * size)
  (hsrc:0<m->∃g o2,a'=some ⟨g,o2,none⟩/\∀j u,news[j]? = some u->w.cell? ⟨g,o2+j,none⟩=some u) (h1:∀u∈news,u.oneCell'=true)
  (h63:n+m<=maxLen) (ng:(n+m) * bytes<=140737488355328) (mL:base<=w.heap.size)
  (h:∀v' w',w'.ownsRow base e size v' (n+m) (xs++news)->w.grownBy w' v.ownBlock->K (a.put o.dst v') w') :
  if Region.wanted o (yielded ops a.tmps)=true then Oper.wp P o a w K Q else E:=by
 have hw:Region.wanted o (yielded ops a.tmps)=true:=(by simp [Region.wanted,hgd]);rw[ae hw];by_cases hq:0<m
 .obtain⟨g,o2,rfl,hc⟩:=hsrc hq;refine wp_append_lies w s x t ho base e i z size bytes ht hi hz hsize hby hzs ny v n xs hs lc ⟨g,o2,none⟩ m c news hx hl (fun j u hu=>by rw[zo5];exact hc j u hu) h1 hq h63 ng mL w.heap.size rfl ?_;intro g' lJ w' h1 h2 _ _;exact h _ _ h1 h2
 .obtain rfl:m=0:=a_;obtain rfl:news=[]:=bD.1 a_;have hown':=lc;obtain⟨a2,c2,rfl,hle,_,_⟩:=zaZ lc;have hsrc:Src P i.size t (.slice a' 0 c) 0 [] w:=by
   refine⟨.inl ⟨_,ht⟩,fun w'=>?_,?_,?_,b_,b_⟩
   .simp [Builtin.lenOf]
   .cases a'<;>simp [Builtin.firstCells,loadCells,loadCellsFrom]
   .cases a'<;>simp [Builtin.firstCells,loadCells,loadCellsFrom]
  have hr:=run_append_nothing (P:=P) w t t o.type e i ht hi a2 n c2 hle (.slice a' 0 c) hsrc;unfold Oper.wp execOp;simp only[ho,resolve,invoke,builtin,bo,bn,ie,ck,bd,ca,hs,hx];rw[hr];refine h _ _ ?_ (jF _ _);rw[bN];exact hown'
def zkD(xs:List Bs):∀u∈zaL xs,u.oneCell'=true:=by
 intro u hu;unfold zaL at hu;rw[bQ]at hu;obtain⟨x,_,rfl⟩:=hu;rfl
def ziN(xs:List Bs)(j:Nat)(u:Value)(h:(zaL xs)[j]? = some u):∃x,xs[j]? = some x/\u=.string (bs x):=by
 unfold zaL at h;rw[dy]at h;cases hx:xs[j]? with
 | none=>rw[hx]at h;cases h
 | some x=>rw[hx]at h;exact⟨x,rfl,by simpa using h.symm⟩
def zkT(w:World){ops:Array Oper}{o:Oper}{a:Act}{K:Act->World->Prop}{Q:Exit->Act->World->Prop}{E:Prop}(hgd:o.guard=none)(s x:Operand)(ho:o.op=.call { callee:=.builtin .append,args:=#[s,x],argTypes:=#[37,37] })
  (base:Nat) (v:Value) (ps:List Bs) (hs:a.eval s=v) (lc:w.ownsRow base 9 1 v ps.length (zaL ps)) (u:Value) (qs:List Bs) (hx:a.eval x=u) (hu:Strs w u qs)
  (hb:ps.length+qs.length<=5000000) (mL:base<=w.heap.size)
  (h:∀v' w',w'.ownsRow base 9 1 v' (ps++qs).length (zaL (ps++qs))->w.grownBy w' v.ownBlock->K (a.put o.dst v') w') :
  if Region.wanted o (yielded ops a.tmps)=true then Oper.wp prog o a w K Q else E:=by
 obtain⟨i0,hi,mr,mq,mm⟩:=cg Tryz.infoStr;obtain⟨a',c',rfl,hc,h3⟩:=hu;refine zl2 w hgd s x 37 ho base 9 i0 (.string ⟨#[]⟩) 1 16 dw hi mr mq mm rfl c_ v ps.length (zaL ps) hs lc a' qs.length c' (zaL qs) hx (by simp [zgJ]) (fun hq=>?_) (zkD qs) h_ a_ mL (fun v' w' h1 h2=>h v' w' ?_ h2)
 .obtain⟨g,o2,rfl,_,kR⟩:=h3 hq;refine⟨g,o2,rfl,fun j u hu=>?_⟩;obtain⟨y,hy,rfl⟩:=ziN qs j u hu;exact kR j y hy
 .rw[ah,show zaL (ps++qs)=zaL ps++zaL qs from by simp [zaL]];exact h1
def pcC(ps:List Pc):List Value:=ps.flatMap fun q=>[.string (bs q.txt),.bool q.fld,.int .i64 (q.grp:Int)]
def zDW(ps:List Pc)(q:Pc):pcC (ps++[q])=pcC ps++[.string (bs q.txt),.bool q.fld,.int .i64 (q.grp:Int)]:=by simp [pcC]
def zI6(ps:List Pc)(j:Nat)(q:Pc)(h:ps[j]? = some q):(pcC ps)[j * 3]? = some (.string (bs q.txt))/\(pcC ps)[j * 3+1]? = some (.bool q.fld)/\(pcC ps)[j * 3+2]? = some (.int .i64 (q.grp:Int)):=by
 induction ps generalizing j with
 | nil=>cases h
 | cons p ps ih =>
  have e:pcC (p::ps)=[.string (bs p.txt),.bool p.fld,.int .i64 (p.grp:Int)]++pcC ps:=(by simp [pcC]);rw[e];cases j with
  | zero =>
   simp at h;subst h;exact⟨rfl,rfl,rfl⟩
  | succ j =>
   obtain⟨h0,h1,h2⟩:=ih j (by simpa using h);rw[bp e_,bp e_,bp e_];simp only[az,cj];rw[show(j+1) * 3 - (0+1+1+1)=j * 3 by omega,show(j+1) * 3+1 - (0+1+1+1)=j * 3+1 by omega,show(j+1) * 3+2 - (0+1+1+1)=j * 3+2 by omega];exact⟨h0,h1,h2⟩
def Pcs(w:World)(v:Value)(ps:List Pc):Prop :=
 ∃a c,v=.slice a ps.length c/\ps.length<=c/\(0<ps.length->∃g o,a=some ⟨g,o,none⟩/\g<w.heap.size/\∀j q,ps[j]? = some q ->
  w.cell? ⟨g,o+j * 3,none⟩=some (.string (bs q.txt))/\w.cell? ⟨g,o+j * 3+1,none⟩=some (.bool q.fld)/\w.cell? ⟨g,o+j * 3+2,none⟩=some (.int .i64 (q.grp:Int)))
def Pcs.kept{w w':World}{v:Value}{ps:List Pc}(h:Pcs w v ps)(k:Kept w w'):Pcs w' v ps:=by
 obtain⟨a,c,hv,hc,h3⟩:=h;refine⟨a,c,hv,hc,fun q=>?_⟩;obtain⟨g,o,ha,hg,kR⟩:=h3 q;refine⟨g,o,ha,aU hg k.size,fun j x hx=>?_⟩;obtain⟨c0,c1,c2⟩:=kR j x hx;exact⟨(k.cell (p:=⟨g,o+j * 3,none⟩) hg).trans c0,(k.cell (p:=⟨g,o+j * 3+1,none⟩) hg).trans c1,(k.cell (p:=⟨g,o+j * 3+2,none⟩) hg).trans c2⟩
def Pcs.own{w:World}{base:Nat}{e:TypeId}{v:Value}{ps:List Pc}(h:w.ownsRow base e 3 v ps.length (pcC ps)):Pcs w v ps:=by
 obtain⟨a,c,hv,hc,_,h3⟩:=zaZ h;refine⟨a,c,hv,hc,fun q=>?_⟩;obtain⟨g,ha,_,hg,kR⟩:=h3 q;refine⟨g,0,ha,hg,fun j x hx=>?_⟩;obtain⟨c0,c1,c2⟩:=zI6 ps j x hx;simp only[bP];exact⟨kR _ _ c0,kR _ _ c1,kR _ _ c2⟩
def Pcs.nil(w:World):Pcs w (.slice none 0 0) []:=⟨none,0,rfl,aw _,fun q=>absurd q b_⟩
def Pcs.form{w:World}{v:Value}{ps:List Pc}(h:Pcs w v ps):∃a c,v=.slice a ps.length c/\ps.length<=c:=by
 obtain⟨a,c,hv,hc,_⟩:=h;exact⟨a,c,hv,hc⟩
def Pcs.cell_of{w:World}{a:Option Addr}{n c:Nat}{ps:List Pc}(h:Pcs w (.slice a n c) ps)(k:Nat)(q:Pc)(hx:ps[k]? = some q):∃g o,a=some ⟨g,o,none⟩/\g<w.heap.size/\w.cell? ⟨g,o+k * 3,none⟩=some (.string (bs q.txt))/\w.cell? ⟨g,o+k * 3+1,none⟩=some (.bool q.fld)/\w.cell? ⟨g,o+k * 3+2,none⟩=some (.int .i64 (q.grp:Int)):=by
 obtain⟨a',c',hv,hc,h3⟩:=h;obtain⟨rfl,rfl,rfl⟩:=bL hv;obtain⟨hk,_⟩:=ak.1 hx;obtain⟨g,o,ha,hg,kR⟩:=h3 a_;obtain⟨c0,c1,c2⟩:=kR k q hx;exact⟨g,o,ha,hg,c0,c1,c2⟩
def Tryz.infoPc:(prog.info? 143).map (fun i=>(i.zero,i.size,i.bytes))=some (some (.agg #[.string ⟨#[]⟩,.bool false,.int .i64 0]),3,32):=g_
def zd1(w:World){ops:Array Oper}{rest:List Oper}{o:Oper}{a:Act}{Q:Exit->Act->World->Prop}(hgd:o.guard=none)(s x:Operand)(ho:o.op=.call { callee:=.builtin .append,args:=#[s,x],argTypes:=#[135,135] })
  (base:Nat) (v:Value) (ps:List Pc) (hs:a.eval s=v) (lc:w.ownsRow base 143 3 v ps.length (pcC ps)) (q:Pc) (g:Nat) (hx:a.eval x=.slice (some ⟨g,0,none⟩) 1 1)
  (hb:Blk w g 143 #[.string (bs q.txt),.bool q.fld,.int .i64 (q.grp:Int)]) (hl:ps.length<=1000000) (mL:base<=w.heap.size)
  (h:∀v' w',w'.ownsRow base 143 3 v' (ps++[q]).length (pcC (ps++[q]))->w.grownBy w' v.ownBlock->wpList prog ops Q rest (a.put o.dst v') w') :
  wpList prog ops Q (o::rest) a w:=by
 obtain⟨i0,hi,mr,mq,mm⟩:=cg Tryz.infoPc;refine wpList_append_lies w hgd s x 135 ho base 143 i0 (.agg #[.string ⟨#[]⟩,.bool false,.int .i64 0]) 3 32 underlying135 hi mr mq mm rfl c_ v ps.length (pcC ps) hs lc ⟨g,0,none⟩ 1 1 [.string (bs q.txt),.bool q.fld,.int .i64 (q.grp:Int)] hx rfl (fun j u hu=>?_) (fun u hu=>?_) c_ h_ a_ mL w.heap.size rfl (fun g' lJ w' h1 h2 _ _=>h _ w' ?_ h2)
 .rw[zo5,bP]
  match j with
  | 0=>cases hu;exact hb.cell 0 _ rfl
  | 1=>cases hu;exact hb.cell 1 _ rfl
  | 2=>cases hu;exact hb.cell 2 _ rfl
  | j+3=>simp at hu
 .simp at hu;rcases hu with rfl|rfl|rfl<;>rfl
 .rw[zDW,ah];exact h1
def zIN:Value->Nat
 | .string s=>s.size
 | _=>0
def SplitP(t:Bs)(w:World)(e:Ending)(w':World):Prop:=∃v,e=.returned (.tuple #[v,.int .i64 (zeV t)])/\Pcs w' v (zhM t)/\Kept w w'
def SplitP.bad{t:Bs}{w w':World}(h:zeV t≠0)(k:Kept w w'):SplitP t w (.returned (.tuple #[.slice none 0 0,.int .i64 (zeV t)])) w' :=
 ⟨_,rfl,by unfold zhM;rw[aa h];exact Pcs.nil _,k⟩
def zAH{t:Bs}(h:lnB t=true)(hs:zo2 t=none):zeV t=5:=by unfold zeV;rw[h,hs];rfl
def zG0{t:Bs}{l:List Pc}(h:lnB t=true)(hs:zo2 t=some l):zeV t=0/\zhM t=l:=by
 have e:zeV t=0:=(by unfold zeV;rw[h,hs];rfl);exact⟨e,by unfold zhM;rw[ae e,hs];rfl⟩
def zrE{t:Bs}(h:lnB t=false):zeV t=17:=by unfold zeV;rw[h];rfl
def SplitP.five{t:Bs}{w w':World}(hl:lnB t=true)(hs:zo2 t=none)(k:Kept w w'):SplitP t w (.returned (.tuple #[.slice none 0 0,.int .i64 5])) w':=by
 have e:=zAH hl hs;have h:zeV t≠0:=(by rw[e];decide);have:=SplitP.bad h k
 rwa [e]at this
def zDX:Ascii zb0:=by
 intro b hb;unfold zb0 at hb;simp at hb;rcases hb with rfl|rfl|rfl|rfl<;>decide
def zAI(ps:List Pc)(q:Pc)(o:Option (List Pc)):(o.map fun l=>q::l).map (ps ++ ·)=o.map ((ps++[q]) ++ ·):=by
 cases o<;>simp
def zg2(t:Bs)(w:World)(hg:Gnd w)(ht:t.length<=100000):Calls prog 71 #[.string (bs t)] w (SplitP t w):=by
 have HG:=Hd hg;have pd:=Hd (fun w=>ziG t w a_);clear hg;by_cases sv:lnB t=true
 case neg =>
  have tg:lnB t=false:=(by simpa using sv);rw[tg]at pd;have HB:Hi (∀w',Kept w w'->SplitP t w (.returned (.tuple #[.slice none 0 0,.int .i64 17])) w'):=fun w' k=>by
   have h:=SplitP.bad (t:=t) (w:=w) (w':=w') (by rw[zrE tg];decide) k
   rwa [zrE tg]at h
  generalize hP:SplitP t w=P at *;clear hP;go_in;go_wp2_with fail;refine k_ (pd.o _) fun w1 ld=>?_;have kT:=Hd ld;clear ld;go_wp2_with fail;exact HB.o _ kT.o
 rw[sv]at pd;have H5:Hi (zo2 t=none->∀w',Kept w w'->SplitP t w (.returned (.tuple #[.slice none 0 0,.int .i64 5])) w'):=fun h w' k=>SplitP.five sv h k;have pM:Hi (∀l,zo2 t=some l->∀w' v,Pcs w' v l->Kept w w'->SplitP t w (.returned (.tuple #[v,.int .i64 0])) w'):=fun l h w' v hp k=>by
  obtain⟨e1,e2⟩:=zG0 sv h;refine⟨v,by rw[e1],by rw[e2];exact hp,k⟩
 have H0:Hi (zo2 t=(zjM (t.length+1) t 0 0).map (([]:List Pc) ++ ·)):=by
  show _=_;unfold zo2;cases zjM (t.length+1) t 0 0<;>simp
 generalize hP:SplitP t w=P at *;generalize zo2 t=S at *;clear hP sv;go_in;go_wp2_with fail;refine k_ (pd.o _) fun w1 ld=>?_;have kT:=Hd ld;clear ld pd;go_wp2_with fail;go_loopw [4,5,6,7] (fun ov gv hv rv wr=>∃(f:Nat) (ps:List Pc) (G g:Nat) (r:Bs),gv=.int .i64 G/\hv=.int .i64 g/\rv=.string (bs r)/\Hi (wr.ownsRow w.heap.size 143 3 ov ps.length (pcC ps))/\r.length<f/\ps.length+r.length<=t.length/\G+r.length<=t.length/\g<=G/\Hi (S=(zjM f r G g).map (ps ++ ·))/\Hi (Kept w wr)) (fun _ _ _ rv _=>zIN rv)
 .exact⟨t.length+1,[],0,0,t,rfl,rfl,rfl,dg _ _ _ _,a_,b_,a_,a_,H0.o,kT.o⟩
 case round =>
  obtain⟨f,ps,G,g,r,rfl,rfl,rfl,oe,hf,hps,hG,Ps,nh,kO⟩:=hrel;obtain⟨f,rfl⟩:∃f',f=f'+1:=⟨f - 1,a_⟩;cases r with
  | nil =>
   rw[zk5]at nh;by_cases hg0:g=0
   .subst hg0;have HS:Hi (S=some ps):=by
     show _=_;rw[nh.o,ae rfl];simp
    have HP:=Hd (Pcs.own oe.o);go_wp2_with fail;exact pM.o ps HS.o _ _ HP.o kO.o
   .have HS:Hi (S=none):=by
     show _=_;rw[nh.o,aa hg0];rfl
    have hg0':((g:Int)==0)=false:=(by rw[ab];omega);go_wp2_with fail;exact H5.o HS.o _ kO.o
  | cons b r =>
   have ow:r.length+1=(b::r).length:=rfl;obtain⟨L,uT⟩:∃L,Hi (b::r=L):=⟨_,rfl⟩;have xE:=uT.o;rw[xE]at ow hf hps hG;have lV:(L==([]:Bs))=false:=(by rw[<- xE];rfl);have Ma:0<L.length:=a_;have oU:=Hd (fun w=>zDU L zb0 w zDX c_ c_ a_);unfold IdxPost at oU;cases nc:zbN zb0 b with
   | false =>
    rw[zk6 _ _ _ nc,xE,zAI]at nh;have hrun:=zvZ (r:=r) nc;rw[xE]at hrun ⊢;clear uT xE nc;rcases hrun with⟨hi,hn⟩|⟨k,hi,hn,hk0,hkl⟩
    .rw[hi]at oU;rw[hn,ow]at nh;obtain⟨X,sw⟩:=gX (L.take L.length);obtain⟨Y,og⟩:=gX (L.drop L.length);have hyl:Y.length=0:=(by rw[<- og.o];simp);have hxl:X.length<=L.length:=(by rw[<- sw.o];simp);have u1:=zoV (P:=prog) (t:=9) aq L L.length (aw _) (L.length:Int) rfl X sw.o;have u2:=zgZ (P:=prog) (t:=9) aq L L.length (aw _) (L.length:Int) rfl Y og.o;rw[sw.o,og.o]at nh;clear hi hn;go_wp2_with fail;refine k_ (oU.o _) fun w3 li=>?_;have lD:=Hd (kO.o.trans li);have HOW:=Hd (za1 oe.o li);clear li oU oe kO;have CU:=Hd (aI w3 143 #[.string (bs X),.bool false,.int .i64 (g:Int)]);have hszW:w.heap.size<=w3.heap.size:=lD.o.size;go_wp2_with (at_builtin;refine zd1 _ rfl _ _ rfl w.heap.size _ ps rfl (HOW.o.alloc _) ⟨X,false,g⟩ w3.heap.size rfl CU.o a_ e_ ?_;intro v5 w5 oc qE;rw[ah,bU]at oc;have oF:=Hd oc;have lX:=Hd ((lD.o.trans (zaA w3 _)).trans' (za2 (HOW.o.alloc _) qE e_));obtain⟨a5,c5,rfl,-,-,-⟩:=zaZ oc;clear oc qE);go_roundw
     .exact⟨f,ps++[Pc.mk X false g],G,g,Y,rfl,rfl,rfl,(by show World.ownsRow _ _ _ _ _ _ _;rw[ah];exact oF.o),a_,by rw[ah,bU];omega,a_,a_,nh.o,lX.o⟩
     .simp [zIN];omega
    .rw[hi]at oU;rw[hn]at nh;obtain⟨X,sw⟩:=gX (L.take k);obtain⟨Y,og⟩:=gX (L.drop k);have hyl:Y.length=L.length - k:=(by rw[<- og.o];simp);have hxl:X.length<=L.length:=(by rw[<- sw.o,bw];omega);have u1:=zoV (P:=prog) (t:=9) aq L k a_ (k:Int) rfl X sw.o;have u2:=zgZ (P:=prog) (t:=9) aq L k a_ (k:Int) rfl Y og.o;have ld:((k:Int)==0)=false:=(by rw[ab];omega);have ll:¬ (k:Int)<0:=a_;rw[sw.o,og.o]at nh;clear hi hn;go_wp2_with fail;refine k_ (oU.o _) fun w3 li=>?_;have lD:=Hd (kO.o.trans li);have HOW:=Hd (za1 oe.o li);clear li oU oe kO;have CU:=Hd (aI w3 143 #[.string (bs X),.bool false,.int .i64 (g:Int)]);have hszW:w.heap.size<=w3.heap.size:=lD.o.size;go_wp2_with (at_builtin;refine zd1 _ rfl _ _ rfl w.heap.size _ ps rfl (HOW.o.alloc _) ⟨X,false,g⟩ w3.heap.size rfl CU.o a_ e_ ?_;intro v5 w5 oc qE;rw[ah,bU]at oc;have oF:=Hd oc;have lX:=Hd ((lD.o.trans (zaA w3 _)).trans' (za2 (HOW.o.alloc _) qE e_));obtain⟨a5,c5,rfl,-,-,-⟩:=zaZ oc;clear oc qE);go_roundw
     .exact⟨f,ps++[Pc.mk X false g],G,g,Y,rfl,rfl,rfl,(by show World.ownsRow _ _ _ _ _ _ _;rw[ah];exact oF.o),a_,by rw[ah,bU];omega,a_,a_,nh.o,lX.o⟩
     .simp [zIN];omega
   | true =>
    have hz:Lib.indexAny L zb0=0:=(by rw[<- xE];exact zrA nc);rw[hz]at oU;have i0:=zbL (P:=prog) (t:=9) aq L 0 Ma 0 rfl;have h8:at8 L 0=(b.toNat:Int):=(by rw[<- xE];rfl);have u1:=zgZ (P:=prog) (t:=9) aq L 1 a_ 1 rfl r (by rw[<- xE];rfl);have hb:=zeD nc;clear nc hz;rw[xE];clear uT xE;rcases hb with rfl|rfl|rfl|rfl
    .simp only[h8]at i0;rw[zk7]at nh;have vg:=Hd (fun w h=>zAp r 125 w h a_);have CV:=Hd (fun x w (h:x.length<=1000000000)=>zjN x [] 20 w h);clear h8;go_wp2_with fail;refine k_ (oU.o _) fun w3 li=>?_;have lD:=Hd (kO.o.trans li);have HOW:=Hd (za1 oe.o li);have Cq:=Hd (HG.o.kept lD.o);clear li oU oe kO;by_cases hbf:zaM 125 r<r.length
     .simp only[ae hbf]at vg;have Mb:(r.take (zaM 125 r)).length<=r.length:=(by rw[bw];omega);have hrl2:(r.drop (zaM 125 r+1)).length<=r.length - 1:=(by rw[dO];omega);generalize r.take (zaM 125 r)=X at *;generalize r.drop (zaM 125 r+1)=Y at *;have CW:=Hd (fun w=>CV.o X w a_);go_wp2_with fail;refine(vg.o _ Cq.o).mono ?_;rintro e w4 ⟨rfl,n4,rfl⟩;have qY:=Hd (lD.o.trans (zaB w3 n4));have CX:=Hd (za1 HOW.o (zaB w3 n4));generalize w3.drewN n4=w4 at *;go_wp2_with fail;refine k_ (CW.o _) fun w5 lU=>?_;have lD:=Hd (qY.o.trans lU);have HOW:=Hd (za1 CX.o lU);clear lU qY CX;cases hsb:zb5 X 20 []with
      | false =>
       have HS:Hi (S=none):=by
        show _=_;rw[nh.o,hsb,aa b_];rfl
       clear hsb;go_wp2_with fail;exact H5.o HS.o _ lD.o
      | true =>
       rw[hsb,ae ⟨hbf,rfl⟩,zAI]at nh;clear hsb CV CW vg;have CU:=Hd (aI w5 143 #[.string (bs X),.bool true,.int .i64 (g:Int)]);have hszW:w.heap.size<=w5.heap.size:=lD.o.size;go_wp2_with (at_builtin;refine zd1 _ rfl _ _ rfl w.heap.size _ ps rfl (HOW.o.alloc _) ⟨X,true,g⟩ w5.heap.size rfl CU.o a_ e_ ?_;intro v5 w9 oc qF;rw[ah,bU]at oc;have oF:=Hd oc;have lX:=Hd ((lD.o.trans (zaA w5 _)).trans' (za2 (HOW.o.alloc _) qF e_));obtain⟨a5,c5,rfl,-,-,-⟩:=zaZ oc;clear oc qF);go_roundw
       .exact⟨f,ps++[Pc.mk X true g],G,g,Y,rfl,rfl,rfl,(by show World.ownsRow _ _ _ _ _ _ _;rw[ah];exact oF.o),a_,by rw[ah,bU];omega,a_,a_,nh.o,lX.o⟩
       .simp [zIN];omega
     .simp only[aa hbf]at vg;have HS:Hi (S=none):=by
       show _=_;rw[nh.o,aa (fun q=>hbf q.1)];rfl
      go_wp2_with fail;refine(vg.o _ Cq.o).mono ?_;rintro e w4 ⟨rfl,n4,rfl⟩;have qY:=Hd (lD.o.trans (zaB w3 n4));go_wp2_with fail;exact H5.o HS.o _ qY.o
    .simp only[h8]at i0;rw[zk8]at nh;have HS:Hi (S=none):=nh.o;clear h8;go_wp2_with fail;refine k_ (oU.o _) fun w3 li=>?_;have lD:=Hd (kO.o.trans li);clear li oU oe kO;go_wp2_with fail;exact H5.o HS.o _ lD.o
    .simp only[h8]at i0;rw[ziE]at nh;clear h8;by_cases hg0:g=0
     .rw[ae hg0]at nh;subst hg0;go_wp2_with fail;refine k_ (oU.o _) fun w3 li=>?_;have lD:=Hd (kO.o.trans li);have HOW:=Hd (za1 oe.o li);clear li oU oe kO;go_wp2;go_roundw
      .exact⟨f,ps,G+1,G+1,r,by go_num,by go_num,rfl,HOW.o,a_,a_,a_,a_,nh.o,lD.o⟩
      .simp [zIN];omega
     .rw[aa hg0]at nh;have hg0':((g:Int)==0)=false:=(by rw[ab];omega);have HS:Hi (S=none):=nh.o;go_wp2_with fail;refine k_ (oU.o _) fun w3 li=>?_;have lD:=Hd (kO.o.trans li);clear li oU oe kO;go_wp2_with fail;exact H5.o HS.o _ lD.o
    .simp only[h8]at i0;rw[ziF]at nh;clear h8;by_cases hg0:g=0
     .rw[ae hg0]at nh;subst hg0;have HS:Hi (S=none):=nh.o;go_wp2_with fail;refine k_ (oU.o _) fun w3 li=>?_;have lD:=Hd (kO.o.trans li);clear li oU oe kO;go_wp2_with fail;exact H5.o HS.o _ lD.o
     .rw[aa hg0]at nh;have hg0':((g:Int)==0)=false:=(by rw[ab];omega);go_wp2_with fail;refine k_ (oU.o _) fun w3 li=>?_;have lD:=Hd (kO.o.trans li);have HOW:=Hd (za1 oe.o li);clear li oU oe kO;go_wp2;go_roundw
      .exact⟨f,ps,G,0,r,rfl,rfl,rfl,HOW.o,a_,a_,a_,a_,nh.o,lD.o⟩
      .simp [zIN];omega
def zhW{w:World}{base:Nat}{e:TypeId}{size:Nat}{v:Value}{n:Nat}{xs:List Value}{k p:Nat}{s:ByteArray}(h:w.ownsRow base e size v n xs)(mz:w.heap[k]? = some (.stringIter s p)):some k≠v.ownBlock:=by
 rcases h.2 with⟨rfl,_⟩|⟨g,lJ,mK,rfl,_,hh,_⟩
 .simp [Value.ownBlock]
 .intro q;have:k=g:=(by simpa [Value.ownBlock]using q);subst this;rw[mz]at hh;cases hh
def zl3(w:World)(k:Nat)(s:ByteArray)(p:Nat):Only (fun i=>i=k) w (w.iterAt k s p) :=
 ⟨rfl,rfl,rfl,by simp [World.iterAt],fun i _ hs=>by simp [World.iterAt,eH,ke hs]⟩
def zhX{w:World}{base:Nat}{e:TypeId}{size:Nat}{v:Value}{n:Nat}{xs:List Value}{k p:Nat}{s:ByteArray}(h:w.ownsRow base e size v n xs)(mz:w.heap[k]? = some (.stringIter s p))(s':ByteArray)(p':Nat):(w.iterAt k s' p').ownsRow base e size v n xs :=
 (zl3 w k s' p').own h (fun g hg e=>zhW h mz (by rw[hg,e]))
def zgN(l:Bs):Bool:=za9 (bs l) && !(l.contains 10)
def jv:=@MapV.made
end Go.Proofs.YtnldgmhdjancbaaGreatDoor
