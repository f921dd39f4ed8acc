/- Parts. -/
import Derived.Test.YtnldgmhdjancbaaGreatDoorW08
import Derived.Lib.Atoi
set_option linter.all false
set_option maxRecDepth 100000
set_option maxHeartbeats 12800000
namespace Go.Proofs.YtnldgmhdjancbaaGreatDoor
open Go.RowKit Go.Proofs.Tryz
def zuA(e:Bs×Value)(i:Nat):MapEntry:={ key:=.string (bs e.1),val:=e.2,born:=i }
def zh0(es:List (Bs×Value)):Array MapEntry:=(es.mapIdx fun i e=>zuA e i).toArray
def MapT(w:World)(m:Nat)(es:List (Bs×Value)):Prop:=w.heap[m]? = some (.map (zh0 es) es.length)
def ztR(w:World)(m:Nat)(es:List (Bs×Value)):World:={ w with heap:=w.heap.setIfInBounds m (.map (zh0 es) es.length) }
def zd5(es:List (Bs×Value))(k:Bs):Option Value:=(es.find? fun e=>e.1==k).map (·.2)
def MapT.lt{w:World}{m:Nat}{es:List (Bs×Value)}(h:MapT w m es):m<w.heap.size:=by
 rcases bG m w.heap.size with q|q
 .exact q
 .unfold MapT at h;rw[bB q]at h;cases h
def MapT.only{S:Nat->Prop}{w w':World}{m:Nat}{es:List (Bs×Value)}(h:MapT w m es)(k:Only S w w')(hs:¬ S m):MapT w' m es:=by
 unfold MapT at h ⊢;rw[k.block m (MapT.lt h) hs];exact h
def MapT.kept{w w':World}{m:Nat}{es:List (Bs×Value)}(h:MapT w m es)(k:Kept w w'):MapT w' m es:=h.only (bc (S:=fun _=>False) k) (fun q=>q)
def MapT.made(w:World):MapT (w.alloc (.map #[] 0)) w.heap.size []:=el w _
def zg4(w:World)(m:Nat)(es:List (Bs×Value))(hm:m<w.heap.size):MapT (ztR w m es) m es:=by
 unfold MapT ztR;simp [hm]
def zfF(w:World)(m:Nat)(es:List (Bs×Value)):Only (fun i=>i=m) w (ztR w m es) :=
 ⟨rfl,rfl,rfl,by simp [ztR],fun k hk hs=>by simp [ztR,eH,ke hs]⟩
def zyI(es:List (Bs×Value))(e:Bs×Value):zh0 (es++[e])=(zh0 es).push (zuA e es.length):=by
 unfold zh0;rw[gb];simp
def zn5(es:List (Bs×Value)):(zh0 es).toList=es.mapIdx fun i e=>zuA e (i+0):=by simp [zh0]
def zc8(e:Bs×Value)(es:List (Bs×Value))(k:Bs):zd5 (e::es) k=if e.1=k then some e.2 else zd5 es k:=by
 unfold zd5;rw[fw];by_cases h:e.1=k
 .rw[ae h];simp [h]
 .rw[aa h];have:(e.1==k)=false:=(by simpa using h);rw[this]
def zI8(k:Bs):∀(l:List (Bs×Value)) (i j:Nat), (zd5 l k=none/\Instr.findNow .string (.string (bs k)) (l.mapIdx fun i' e=>zuA e (i'+i)) j=some none)\/(∃(n:Nat) (v:Value),zd5 l k=some v/\l[n]? = some (k,v)/\Instr.findNow .string (.string (bs k)) (l.mapIdx fun i' e=>zuA e (i'+i)) j=some (some (n+j,v))/\∀u k',zd5 (l.set n (k,u)) k'=if k'=k then some u else zd5 l k')
 | [],_,_=>.inl ⟨rfl,rfl⟩
 | e::l,i,j=>by
  rw[fh,zc8];unfold Instr.findNow;by_cases h:e.1=k
  .right;have hx:(bs k==bs e.1)=true:=(by rw[zkE,bh];exact h.symm);refine⟨0,e.2,by rw[ae h],by rw[<- h];rfl,?_,fun u k'=>?_⟩
   .simp [zuA,Instr.sameNow,hx]
   .rw[ax,zc8,zc8];by_cases q:k'=k
    .rw[ae q,ae q.symm]
    .rw[aa q,aa (fun e=>q e.symm),aa (fun e'=>q (by rw[<- e',h]))]
  .have hx:(bs k==bs e.1)=false:=(by rw[zkE,ab];exact fun q=>h q.symm);have hm:(l.mapIdx fun i' x=>zuA x (i'+1+i))=l.mapIdx fun i' x=>zuA x (i'+(i+1)):=by
    congr 1;funext a b;congr 1;omega
   rw[aa h];simp only[zuA,Instr.sameNow,hx]at hm ⊢;rcases zI8 k l (i+1) (j+1)with⟨g1,g2⟩|⟨n,v,g1,g2,g3,g4⟩
   .left;simp only[zuA]at g2;rw[hm];exact⟨g1,g2⟩
   .right;simp only[zuA]at g3;rw[hm];refine⟨n+1,v,g1,by simpa using g2,by rw[g3];congr 3;omega,fun u k'=>?_⟩;rw[ay,zc8,zc8,g4];by_cases q:e.1=k'
    .rw[ae q,ae q,aa (fun e'=>h (by rw[q,e']))]
    .rw[aa q,aa q]
def zrT{es:List (Bs×Value)}{k:Bs}(h:zd5 es k=none)(v:Value)(k':Bs):zd5 (es++[(k,v)]) k'=if k'=k then some v else zd5 es k':=by
 induction es with
 | nil =>
  rw[dV,zc8];by_cases q:k'=k
  .rw[ae q,ae q.symm]
  .rw[aa q,aa (fun e=>q e.symm)]
 | cons e es ih =>
  rw[zc8]at h;by_cases q:e.1=k
  .rw[ae q]at h;cases h
  .rw[aa q]at h;rw[ei,zc8,zc8,ih h];by_cases q2:e.1=k'
   .rw[ae q2,ae q2,aa (fun e'=>q (by rw[q2,e']))]
   .rw[aa q2,aa q2]
section
variable {P:Program}{tm ti te:TypeId}
def zfG(hi:P.underlying ti=some .string)(e:Bool)(s:ByteArray)(w:World):(Instr.checkKey e 10000 ti (.string s)).run P w=.ok () w:=by
 show(Instr.checkKey e (9999+1) ti (.string s)).run P w=.ok () w;rw[Instr.checkKey];simp only[bo,bT hi,Result.andThen];simp [bn]
def zJW(hi:P.underlying ti=some .string)(w:World)(es:List (Bs×Value))(k:Bs):(zd5 es k=none/\(Instr.findKey ti (.string (bs k)) (zh0 es).toList).run P w=.ok none w)\/(∃n v,zd5 es k=some v/\es[n]? = some (k,v)/\(Instr.findKey ti (.string (bs k)) (zh0 es).toList).run P w=.ok (some (n,v)) w/\∀u k',zd5 (es.set n (k,u)) k'=if k'=k then some u else zd5 es k'):=by
 rcases zI8 k es 0 0 with⟨g1,g2⟩|⟨n,v,g1,g2,g3,g4⟩
 .left;refine⟨g1,?_⟩;unfold Instr.findKey;simp only[bo,bT hi,Result.andThen,zn5,g2];simp [bn]
 .right;refine⟨n,v,g1,g2,?_,g4⟩;unfold Instr.findKey;simp only[bo,bT hi,Result.andThen,zn5,g3];simp [bn]
def zEf(hm:P.underlying tm=some (.map ti te))(hi:P.underlying ti=some .string)(w:World)(m:Nat)(es:List (Bs×Value))(k:Bs)(z:Value)(hz:(zeroValue te).run P w=.ok z w)(h:MapT w m es):(Instr.lookup tm (.map (some m)) (.string (bs k)) true).run P w=.ok (.tuple #[(zd5 es k).getD z,.bool (zd5 es k).isSome]) w:=by
 unfold MapT at h;unfold Instr.lookup;simp only[bo,bT hm,Result.andThen];rcases zJW hi w es k with⟨g1,g2⟩|⟨n,v,g1,_,g3,_⟩
 .simp only[getObj,bo,Sem.run,h,Result.andThen,bn,zfG hi,g2,g1,hz];simp [bn]
 .simp only[getObj,bo,Sem.run,h,Result.andThen,bn,zfG hi,g3,g1];simp [bn]
def zKu(hm:P.underlying tm=some (.map ti te))(hi:P.underlying ti=some .string)(w:World)(m:Nat)(es:List (Bs×Value))(k:Bs)(v:Value)(h:MapT w m es)(hk:zd5 es k=none):(Instr.mapUpdate tm (.map (some m)) (.string (bs k)) v).run P w=.ok () (ztR w m (es++[(k,v)])):=by
 unfold MapT at h;unfold Instr.mapUpdate;simp only[bo,bT hm,Result.andThen];rcases zJW hi w es k with⟨g1,g2⟩|⟨n,v',g1,_,_,_⟩
 .simp only[getObj,bo,Sem.run,h,Result.andThen,bn,zfG hi,g2,setObj];refine congrArg (Result.ok ()) ?_;unfold ztR;rw[zyI];simp [zuA]
 .rw[hk]at g1;cases g1
def zEg(k:ByteArray)(w:World):(Instr.keyThatStays (.string k) (.string k)).run P w=.ok (.string k) w:=by
 unfold Instr.keyThatStays;have e:Instr.sameBits 10000 (.string k) (.string k)=true:=by
  show(k==k)=true;show(k.data==k.data)=true;exact iG _
 rw[e];rfl
def zEh(hm:P.underlying tm=some (.map ti te))(hi:P.underlying ti=some .string)(w:World)(m:Nat)(es:List (Bs×Value))(k:Bs)(v v0:Value)(h:MapT w m es)(hk:zd5 es k=some v0):∃es',(∀k',zd5 es' k'=if k'=k then some v else zd5 es k')/\(Instr.mapUpdate tm (.map (some m)) (.string (bs k)) v).run P w=.ok () (ztR w m es'):=by
 unfold MapT at h;rcases zJW hi w es k with⟨g1,_⟩|⟨n,v',g1,g2,g3,g4⟩
 .rw[hk]at g1;cases g1
 .rw[hk]at g1;cases g1;refine⟨es.set n (k,v),g4 v,?_⟩;unfold Instr.mapUpdate;simp only[bo,bT hm,Result.andThen];have e1:(zh0 es)[n]? = some (zuA (k,v0) n):=(by unfold zh0;simp [g2]);simp only[getObj,bo,Sem.run,h,Result.andThen,bn,zfG hi,g3,setObj,e1,eR,dE,zuA,zEg];refine congrArg (Result.ok ()) ?_;unfold ztR;have e2:((zh0 es).modify n fun e=>{ e with key:=.string (bs k),val:=v })=zh0 (es.set n (k,v)):=by
   apply eP;intro i;rw[eu];by_cases q:n=i
   .subst q;rw[ae rfl,e1];unfold zh0;have hn:=(ak.1 g2).1;simp [zuA,hn]
   .rw[aa q];unfold zh0;simp [List.getElem?_set,q]
  have e3:(es.set n (k,v)).length=es.length:=b_;rw[e3]
  first|rw[e2]|(trace_state;rfl)
end
def zrU(sk st:Bs)(vA vE vF:Value)(ps:List Pr)(w:World)(hv:Prs w vF ps)(hN:ps.length<=1100000)(hl:((za3 ps [121,101,97,114]).getD []).length<=140737488355328):Calls prog 48 #[znF sk st vA vE vF] w fun e w'=>e=.returned (.int .i64 (zeE ((za3 ps [121,101,97,114]).getD [])))/\Kept w w':=by
 have HF:=Hd (fun w hv=>zmB sk st vA vE vF ps [121,101,97,114] w hv hN);unfold FieldPost at HF;have HV:=Hd hv;have nV:Hi ((za3 ps [121,101,97,114]).isSome=false->(za3 ps [121,101,97,114]).getD []=[]):=by
  intro h;cases q:za3 ps [121,101,97,114]with
  | none=>rfl
  | some x=>rw[q]at h;cases h
 clear hv;generalize (za3 ps [121,101,97,114]).isSome=ok at *;generalize (za3 ps [121,101,97,114]).getD []=v at *;cases ok
 .have HZ:Hi (zeE v=0):=(by show _=_;rw[nV.o rfl];rfl);go_in;go_wp2_with fail;refine k_ (HF.o _ (HV.o.kept (zaA _ _))) fun w1 ld=>?_;have HK:=Hd ((zaA _ _).trans ld);clear ld;go_wp2;go_ret;exact⟨zaU HZ.o.symm,HK.o⟩
 by_cases hle:v.length<=4
 .go_in;go_wp2_with fail;refine k_ (HF.o _ (HV.o.kept (zaA _ _))) fun w1 ld=>?_;have HK:=Hd ((zaA _ _).trans ld);clear ld;go_wp2_with fail;go_loopw [5] (fun n wr=>∃pos:Nat,pos<=v.length/\n=.int .i64 (zrQ (v.take pos))/\wr.heap[w1.heap.size]? = some (.stringIter (bs v) pos)/\Kept w1 wr/\Hi ((v.take pos).all zyE=true)) (fun _ wr=>v.length - wr.iterPos w1.heap.size)
  .exact⟨0,ai _,rfl,by have:=eQ w1 (bs v) 0;simpa using this,zaA _ _,rfl⟩
  case round =>
   obtain⟨pos,hp,rfl,mz,hk,HA⟩:=hrel;by_cases kV:pos<v.length
   .have nx:=fun ty=>zc2 (P:=prog) wr w1.heap.size (bs v) pos ty mz kV;have h0:=zh7 v pos;have hnb:zrQ (v.take pos)<=9999:=zrS _ e_ HA.o;by_cases hd:48<=at8 v pos/\at8 v pos<=57
    .rw[zpF v pos a_]at nx;simp only[show((1:Int).toNat)=1 from rfl]at nx;obtain⟨ha,hn⟩:=zEd v pos kV HA.o hd;have HA2:=Hd ha;have qc:=Hd hn;obtain⟨q1,q2,q3,q4⟩:=ziU w1 wr w1.heap.size v pos 1 mz hk (aw _);have xH:=Hd q1;have qG:=Hd q2;have zz:=Hd q3;have Fi:=Hd q4;generalize wr.iterAt w1.heap.size (bs v) (pos+1)=wq at *;generalize zrQ (v.take pos)=nk at *;generalize at8 v pos=b at *;obtain⟨hd1,hd2⟩:=hd;clear ha hn HA q1 q2 q3 q4 mz hk;go_wp2;go_roundw
     .exact⟨pos+1,a_,by first|(rw[qc.o];done)|(rw[qc.o];congr 1;omega),xH.o,qG.o,HA2.o⟩
     .rw[zz.o,Fi.o];omega
    .have HZ:=Hd (zA9 v pos kV hd);have mU:(dec (bs v) pos).1<48\/57<(dec (bs v) pos).1:=by
      by_cases q:at8 v pos<128
      .rw[zpF v pos q];simp only;omega
      .have:=zGi v pos a_;omega
     have hcr:=zaX (bs v) pos kV;obtain⟨q1,q2,q3,q4⟩:=ziU w1 wr w1.heap.size v pos (dec (bs v) pos).2.toNat mz hk (aw _);have qG:=Hd (HK.o.trans q2);generalize wr.iterAt w1.heap.size (bs v) (pos+(dec (bs v) pos).2.toNat)=wq at *;generalize (dec (bs v) pos).1=c at *;obtain⟨b1,b2,_⟩:=hcr;generalize zrQ (v.take pos)=nk at *;clear hd HA q1 q2 q3 q4 mz hk;rcases mU with q|q
     all_goals
      go_wp2;go_ret;exact⟨zaU HZ.o.symm,qG.o⟩
   .have nx:=fun ty=>zbM (P:=prog) wr w1.heap.size (bs v) pos ty mz (by simpa using kV);have HZ:Hi (zeE v=zrQ (v.take pos)):=by
     show _=_;have h:=HA.o;rw[bx a_]at h ⊢;exact zyF v hle h
    have HR:=Hd (HK.o.trans hk);generalize zrQ (v.take pos)=nk at *;clear hk HA mz;go_wp2;go_ret;exact⟨zaU HZ.o.symm,HR.o⟩
 .have HZ:Hi (zeE v=0):=(by show _=_;unfold zeE;rw[aa (fun q=>hle q.1)]);go_in;go_wp2_with fail;refine k_ (HF.o _ (HV.o.kept (zaA _ _))) fun w1 ld=>?_;have HK:=Hd ((zaA _ _).trans ld);clear ld;go_wp2;go_ret;exact⟨zaU HZ.o.symm,HK.o⟩
def sD:Nat->Option Nat
 | 0=>some 13
 | 1=>some 14
 | 2=>some 15
 | 3=>some 16
 | 4=>some 17
 | 5=>some 18
 | 6=>some 19
 | 8=>some 20
 | 9=>some 21
 | 10=>some 22
 | 11=>some 23
 | 12=>some 24
 | 13=>some 25
 | 15=>some 26
 | 16=>some 27
 | 17=>some 28
 | 18=>some 29
 | 19=>some 30
 | 20=>some 31
 | 22=>some 32
 | 23=>some 33
 | 24=>some 34
 | 25=>some 35
 | 26=>some 36
 | 27=>some 37
 | 30=>some 38
 | 33=>some 39
 | 34=>some 40
 | 36=>some 41
 | 37=>some 42
 | 39=>some 43
 | 40=>some 11
 | _=>none
def sV(c:FilT)(B5 B6:Nat)(vA vE:Value)(A E AS ES:Bs)(M:Nat):Nat->Value
 | 0=>.map (some M)
 | 1=>.pointer (some ⟨B5,2,none⟩)
 | 2=>vA
 | 3=>.string (bs c.lang)
 | 4=>.pointer (some ⟨B6,8,none⟩)
 | 5=>.int .i64 c.most
 | 6=>.string (bs A)
 | 8=>.pointer (some ⟨B5,3,none⟩)
 | 9=>vE
 | 10=>.string (bs c.lang)
 | 11=>.pointer (some ⟨B6,8,none⟩)
 | 12=>.int .i64 c.most
 | 13=>.string (bs E)
 | 15=>.pointer (some ⟨B5,2,none⟩)
 | 16=>vA
 | 17=>.string (bs c.lang)
 | 18=>.pointer (some ⟨B6,8,none⟩)
 | 19=>.int .i64 c.most
 | 20=>.string (bs AS)
 | 22=>.pointer (some ⟨B5,3,none⟩)
 | 23=>vE
 | 24=>.string (bs c.lang)
 | 25=>.pointer (some ⟨B6,8,none⟩)
 | 26=>.int .i64 c.most
 | 27=>.string (bs ES)
 | 30=>.string (bs c.suffix)
 | 33=>.pointer (some ⟨B5,0,none⟩)
 | 34=>.string (bs c.key)
 | 36=>.pointer (some ⟨B5,1,none⟩)
 | 37=>.string (bs c.type)
 | 39=>.map (some M)
 | 40=>.map (some M)
 | _=>undef
def znG:List (Nat×Bs):=[(7,zeW),(14,zmC),(21,ziV),(28,ziW),(29,zeK),(31,zcN),(32,zbH),(35,zDE),(38,zBa)]
def ziY(c:FilT)(A E AS ES:Bs):List (Bs×Bs):=[(zeW,A),(zmC,E),(ziV,AS),(ziW,ES),(zeK,[]),(zcN,c.suffix),(zbH,[]),(zDE,c.key),(zBa,c.type)]
def zgR(l:List (Bs×Bs))(k:Bs):Option Bs:=(l.find? fun e=>e.1==k).map (·.2)
def zI9:∀i,i<41->∀j,j<41->sD i≠none->sD i=sD j->j=i:=f_
def zJ5:∀i,i<41->(sD i).all (fun d=>decide (d<57))=true:=f_
def zyJ(L:Array Bool)(k:Bs):Bool:=znG.any fun e=>e.2==k&&L.getD e.1 false
def gL(L:Array Bool)(sp:List (Bs×Bs))(k:Bs):Option Bs:=if zyJ L k=true then zgR sp k else none
def zn6(L:Array Bool)(i:Nat)(h:∀e∈znG,e.1≠i)(k:Bs):zyJ (L.setIfInBounds i true) k=zyJ L k:=by
 unfold zyJ;rw[dX,dv,dv];constructor
 .rintro⟨e,he,h2⟩;rw[jc false (fun q=>h e he q.symm)]at h2;exact⟨e,he,h2⟩
 .rintro⟨e,he,h2⟩;refine⟨e,he,?_⟩;rw[jc false (fun q=>h e he q.symm)];exact h2
def zEi(L:Array Bool)(i:Nat)(k:Bs)(hi:i<L.size)(hm:(i,k)∈znG)(h:∀e∈znG,e.1=i->e.2=k)(k':Bs):zyJ (L.setIfInBounds i true) k'=(k'==k || zyJ L k'):=by
 unfold zyJ;rw[dX,dL,dv,dv];constructor
 .rintro⟨e,he,h2⟩;by_cases q:e.1=i
  .have:=h e he q;rw[ba,bh]at h2;left;rw[bh,<- h2.1,this]
  .rw[jc false (fun x=>q x.symm)]at h2;exact .inr ⟨e,he,h2⟩
 .rintro(h2|⟨e,he,h2⟩)
  .rw[bh]at h2;subst h2;refine⟨(i,k'),hm,?_⟩;have:=zeX hi;unfold On at this;simp only[iG,eL];exact this
  .rw[ba]at h2;exact⟨e,he,by rw[ba];exact⟨h2.1,za5 h2.2⟩⟩
def zEj(L:Array Bool)(i:Nat)(k:Bs)(h:∀e∈znG,e.2=k->e.1=i)(hn:¬ On L i):zyJ L k=false:=by
 unfold zyJ;rw[eD];intro e he h2;rw[ba,bh]at h2;have:=h e he h2.1;rw[this]at h2;exact hn h2.2
def zKB{c:FilT}{B5 B6:Nat}{vA vE:Value}{A E AS ES:Bs}{M M':Nat}(j:Nat)(h0:j≠0)(h1:j≠39)(h2:j≠40):sV c B5 B6 vA vE A E AS ES M j=sV c B5 B6 vA vE A E AS ES M' j:=by
 unfold sV
 split<;>first|rfl|contradiction
def SvI(c:FilT)(B5 B6:Nat)(vA vE:Value)(A E AS ES:Bs)(w0:World)(a0:Act)(L:Array Bool)(a:Act)(w:World):Prop :=
 L.size=41/\∃M,Slots 41 sD (sV c B5 B6 vA vE A E AS ES M) L a0 a/\Kept w0 w/\((∀e∈znG,On L e.1->On L 0)/\(On L 39->On L 0)/\(On L 40->On L 0)) /\
  (On L 0->w0.heap.size<=M/\∃es,MapT w M es/\∀k,zd5 es k=(gL L (ziY c A E AS ES) k).map (fun x=>.string (bs x)))
section
variable {c:FilT}{B5 B6:Nat}{vA vE:Value}{A E AS ES:Bs}{w0:World}{a0:Act}{L:Array Bool}{a:Act}{w:World}{M:Nat}
def zBd(nB:a0.tmps.size=57){M':Nat}(S:Slots 41 sD (sV c B5 B6 vA vE A E AS ES M) L a0 a)(i:Nat)(hi:i<41)(hs:L.size=41)(v:Value)(hv:(sD i).isSome=true->v=sV c B5 B6 vA vE A E AS ES M' i)(hV:∀j,j<41->On L j->sV c B5 B6 vA vE A E AS ES M j=sV c B5 B6 vA vE A E AS ES M' j):Slots 41 sD (sV c B5 B6 vA vE A E AS ES M') (L.setIfInBounds i true) a0 (a.put (sD i) v):=by
 refine S.put i hi a_ (fun j d hj h1 h2=>zI9 i hi j hj (by rw[h1];simp) (by rw[h1,h2])) (fun d hd=>?_) v hv hV;have:=zJ5 i hi;rw[hd]at this;rw[nB];simpa using this
def za0(nB:a0.tmps.size=57)(hs:L.size=41)(S:Slots 41 sD (sV c B5 B6 vA vE A E AS ES M) L a0 a)(hk:Kept w0 w)(hc:(∀e∈znG,On L e.1->On L 0)/\(On L 39->On L 0)/\(On L 40->On L 0))(hm:On L 0->w0.heap.size<=M/\∃es,MapT w M es/\∀k,zd5 es k=(gL L (ziY c A E AS ES) k).map (fun x=>.string (bs x))){w':World}(nC:Kept w w')(i:Nat)(hi:i<41)(h0:i≠0)(nc:∀e∈znG,e.1≠i)(Fj:i=39\/i=40->On L 0)(v:Value)(hv:v=sV c B5 B6 vA vE A E AS ES M i):SvI c B5 B6 vA vE A E AS ES w0 a0 (L.setIfInBounds i true) (a.put (sD i) v) w':=by
 obtain⟨c1,c2,c3⟩:=hc;refine⟨by rw[cn];exact hs,M,zBd nB S i hi hs v (fun _=>hv) (fun _ _ _=>rfl),hk.trans nC,⟨fun e he h=>?_,fun h=>?_,fun h=>?_⟩,fun h=>?_⟩
 .rcases zgB h with q|q
  .exact absurd q (nc e he)
  .exact za5 (c1 e he q)
 .rcases zgB h with q|q
  .exact za5 (Fj (.inl q.symm))
  .exact za5 (c2 q)
 .rcases zgB h with q|q
  .exact za5 (Fj (.inr q.symm))
  .exact za5 (c3 q)
 .rcases zgB h with q|q
  .exact absurd q.symm h0
  .obtain⟨m1,es,m2,m3⟩:=hm q;refine⟨m1,es,m2.kept nC,fun k=>?_⟩;rw[m3 k];unfold gL;rw[zn6 L i nc k]
def ziZ(nB:a0.tmps.size=57)(hs:L.size=41)(S:Slots 41 sD (sV c B5 B6 vA vE A E AS ES M) L a0 a)(hk:Kept w0 w)(hc:(∀e∈znG,On L e.1->On L 0)/\(On L 39->On L 0)/\(On L 40->On L 0))(hm:w0.heap.size<=M/\∃es,MapT w M es/\∀k,zd5 es k=(gL L (ziY c A E AS ES) k).map (fun x=>.string (bs x)))(h0:On L 0)(i:Nat)(hi:i<41)(hD:sD i=none)(k x:Bs)(hmem:(i,k)∈znG)(hu1:∀e∈znG,e.1=i->e.2=k)(hu2:∀e∈znG,e.2=k->e.1=i)(hn:L.getD i true=false)(hx:zgR (ziY c A E AS ES) k=some x)(v:Value):∃w',(Instr.mapUpdate 138 (.map (some M)) (.string (bs k)) (.string (bs x))).run prog w=.ok () w'/\SvI c B5 B6 vA vE A E AS ES w0 a0 (L.setIfInBounds i true) (a.put none v) w':=by
 obtain⟨m1,es,m2,m3⟩:=hm;have hnone:zd5 es k=none:=by
  rw[m3 k];unfold gL;rw[zEj L i k hu2 (zv8 hn)];rfl
 refine⟨_,zKu (P:=prog) fZ aq w M es k (.string (bs x)) m2 hnone,?_⟩;obtain⟨c1,c2,c3⟩:=hc;refine⟨by rw[cn];exact hs,M,by rw[<- hD];exact zBd nB S i hi hs v (fun q=>by rw[hD]at q;cases q) (fun _ _ _=>rfl),zb6 hk (zfF w M _) m1,⟨fun _ _ _=>za5 h0,fun _=>za5 h0,fun _=>za5 h0⟩,fun _=>⟨m1,_,zg4 w M _ m2.lt,fun k'=>?_⟩⟩;rw[zrT hnone,m3 k'];unfold gL;rw[zEi L i k a_ hmem hu1 k'];by_cases q:k'=k
 .subst q;rw[ae rfl,iG,Bool.true_or,ae rfl,hx];rfl
 .have:(k'==k)=false:=(by rw[ab];exact q);rw[aa q,this,eM]
end
def zJa(L:Array Bool){c:FilT}{A E AS ES:Bs}(h:∀i,i<41->On L i)(k:Bs):gL L (ziY c A E AS ES) k=zgR (ziY c A E AS ES) k:=by
 unfold gL;by_cases q:zyJ L k=true
 .rw[ae q]
 .rw[aa q];cases hx:zgR (ziY c A E AS ES) k with
  | none=>rfl
  | some x =>
   exfalso;apply q;unfold zgR at hx;rw[cG]at hx;obtain⟨e,he,_⟩:=hx;have h1:=List.find?_some he;have h2:=cw he;rw[bh]at h1;unfold zyJ;rw[dv];have h3:∃i,(i,e.1)∈znG/\i<41:=by
    unfold ziY at h2;simp only[bj,iM,ej]at h2;rcases h2 with rfl|rfl|rfl|rfl|rfl|rfl|rfl|rfl|rfl
    .exact⟨7,(by show(7,zeW)∈znG;decide),a_⟩
    .exact⟨14,(by show(14,zmC)∈znG;decide),a_⟩
    .exact⟨21,(by show(21,ziV)∈znG;decide),a_⟩
    .exact⟨28,(by show(28,ziW)∈znG;decide),a_⟩
    .exact⟨29,(by show(29,zeK)∈znG;decide),a_⟩
    .exact⟨31,(by show(31,zcN)∈znG;decide),a_⟩
    .exact⟨32,(by show(32,zbH)∈znG;decide),a_⟩
    .exact⟨35,(by show(35,zDE)∈znG;decide),a_⟩
    .exact⟨38,(by show(38,zBa)∈znG;decide),a_⟩
   obtain⟨i,hi,kV⟩:=h3;refine⟨(i,e.1),hi,?_⟩;have:=h i kV;unfold On at this;rw[ba,bh];exact⟨h1,this⟩
def zBe{c:FilT}{A E AS ES:Bs}(ys ns k:Bs):zgR (zBb (ziY c A E AS ES) ys ns) k=if k=zeK then some ys else if k=zbH then some ns else zgR (ziY c A E AS ES) k:=by
 have e:zBb (ziY c A E AS ES) ys ns=[(zeW,A),(zmC,E),(ziV,AS),(ziW,ES),(zeK,ys),(zcN,c.suffix),(zbH,ns),(zDE,c.key),(zBa,c.type)]:=rfl;rw[e];by_cases q:k=zeK
 .subst q;rfl
 .rw[aa q];by_cases q2:k=zbH
  .subst q2;rfl
  .rw[aa q2];have h1:(zeK==k)=false:=(by rw[ab];exact fun e=>q e.symm);have h2:(zbH==k)=false:=(by rw[ab];exact fun e=>q2 e.symm);unfold zgR ziY;simp only[fw,h1,h2]
def zeF(v:Bs):0<=zeE v/\zeE v<=9999:=by
 unfold zeE
 split
 .rename_i h;have:=zrS v h.1 h.2;omega
 .omega
def zJ6(l:Array Value)(h:l.size=57):∃x0 x1 x2 x3 x4 x5 x6 x7 x8 x9 Fk C4 Fl Fm Fo Fp Fq Fr Fs Ft x20 Fu Fv Fw x24 x25 Fx x27 x28 x29 x30 x31 x32 Fy x34 Fz FA FB x38 x39 x40 x41 FC x43 FD FE FF FG FH FI FJ FK FM FN x54 x55 FO,l=#[x0,x1,x2,x3,x4,x5,x6,x7,x8,x9,Fk,C4,Fl,Fm,Fo,Fp,Fq,Fr,Fs,Ft,x20,Fu,Fv,Fw,x24,x25,Fx,x27,x28,x29,x30,x31,x32,Fy,x34,Fz,FA,FB,x38,x39,x40,x41,FC,x43,FD,FE,FF,FG,FH,FI,FJ,FK,FM,FN,x54,x55,FO]:=by
 obtain⟨l0⟩:=l;have h0:l0.length=57:=h;clear h;obtain⟨x0,l1,rfl,h1⟩:=zaE h0;obtain⟨x1,l2,rfl,h2⟩:=zaE h1;obtain⟨x2,l3,rfl,h3⟩:=zaE h2;obtain⟨x3,l4,rfl,h4⟩:=zaE h3;obtain⟨x4,l5,rfl,h5⟩:=zaE h4;obtain⟨x5,l6,rfl,h6⟩:=zaE h5;obtain⟨x6,l7,rfl,h7⟩:=zaE h6;obtain⟨x7,l8,rfl,h8⟩:=zaE h7;obtain⟨x8,l9,rfl,h9⟩:=zaE h8;obtain⟨x9,l10,rfl,h10⟩:=zaE h9;obtain⟨Fk,Pv,rfl,h11⟩:=zaE h10;obtain⟨C4,Pw,rfl,h12⟩:=zaE h11;obtain⟨Fl,Px,rfl,tn⟩:=zaE h12;obtain⟨Fm,Py,rfl,Mf⟩:=zaE tn;obtain⟨Fo,Pz,rfl,C5⟩:=zaE Mf;obtain⟨Fp,PC,rfl,h16⟩:=zaE C5;obtain⟨Fq,PD,rfl,Mg⟩:=zaE h16;obtain⟨Fr,PE,rfl,h18⟩:=zaE Mg;obtain⟨Fs,PF,rfl,h19⟩:=zaE h18;obtain⟨Ft,PH,rfl,h20⟩:=zaE h19;obtain⟨x20,PI,rfl,h21⟩:=zaE h20;obtain⟨Fu,PJ,rfl,h22⟩:=zaE h21;obtain⟨Fv,PK,rfl,h23⟩:=zaE h22;obtain⟨Fw,PM,rfl,Mh⟩:=zaE h23;obtain⟨x24,PN,rfl,Mi⟩:=zaE Mh;obtain⟨x25,PO,rfl,Mj⟩:=zaE Mi;obtain⟨Fx,PP,rfl,h27⟩:=zaE Mj;obtain⟨x27,PQ,rfl,Mk⟩:=zaE h27;obtain⟨x28,PR,rfl,Ml⟩:=zaE Mk;obtain⟨x29,PS,rfl,Mm⟩:=zaE Ml;obtain⟨x30,PT,rfl,h31⟩:=zaE Mm;obtain⟨x31,PU,rfl,h32⟩:=zaE h31;obtain⟨x32,PV,rfl,Mn⟩:=zaE h32;obtain⟨Fy,PW,rfl,Mo⟩:=zaE Mn;obtain⟨x34,PX,rfl,Mp⟩:=zaE Mo;obtain⟨Fz,PY,rfl,Mq⟩:=zaE Mp;obtain⟨FA,PZ,rfl,h37⟩:=zaE Mq;obtain⟨FB,P0,rfl,Mr⟩:=zaE h37;obtain⟨x38,P1,rfl,Fj⟩:=zaE Mr;obtain⟨x39,P2,rfl,Ms⟩:=zaE Fj;obtain⟨x40,P3,rfl,Mt⟩:=zaE Ms;obtain⟨x41,P5,rfl,Mu⟩:=zaE Mt;obtain⟨FC,P6,rfl,h43⟩:=zaE Mu;obtain⟨x43,P7,rfl,A1⟩:=zaE h43;obtain⟨FD,P8,rfl,h45⟩:=zaE A1;obtain⟨FE,l46,rfl,h46⟩:=zaE h45;obtain⟨FF,P9,rfl,h47⟩:=zaE h46;obtain⟨FG,Qa,rfl,h48⟩:=zaE h47;obtain⟨FH,Qb,rfl,Mv⟩:=zaE h48;obtain⟨FI,Qc,rfl,h50⟩:=zaE Mv;obtain⟨FJ,Qd,rfl,Mw⟩:=zaE h50;obtain⟨FK,Qe,rfl,Mx⟩:=zaE Mw;obtain⟨FM,Qf,rfl,My⟩:=zaE Mx;obtain⟨FN,Qg,rfl,Mz⟩:=zaE My;obtain⟨x54,Qh,rfl,MA⟩:=zaE Mz;obtain⟨x55,Qi,rfl,MB⟩:=zaE MA;obtain⟨FO,Qj,rfl,nB⟩:=zaE MB;obtain rfl:=bD.1 nB;exact⟨x0,x1,x2,x3,x4,x5,x6,x7,x8,x9,Fk,C4,Fl,Fm,Fo,Fp,Fq,Fr,Fs,Ft,x20,Fu,Fv,Fw,x24,x25,Fx,x27,x28,x29,x30,x31,x32,Fy,x34,Fz,FA,FB,x38,x39,x40,x41,FC,x43,FD,FE,FF,FG,FH,FI,FJ,FK,FM,FN,x54,x55,FO,rfl⟩
def ValsP(sp:List (Bs×Bs))(w:World)(e:Ending)(w':World):Prop:=∃m es,e=.returned (.map (some m))/\w.heap.size<=m/\MapT w' m es/\(∀k,zd5 es k=(zgR sp k).map (fun x=>.string (bs x)))/\Kept w w'
def zBf(c:FilT)(vA vE vF vY:Value)(y:StyT)(w:World)(hy:y.most=c.most)(hA:Perss w vA c.author)(hE:Perss w vE c.editor)(hF:Prs w vF c.fields)(hT:Lib.TabIs prog w "internal/strconv.uint64pow10" .u64 Lib.pow10Tab) (hs:FitF c) :Calls prog 72 #[znF c.key c.type vA vE vF,zfA vY y,.string (bs c.lang),.string (bs c.suffix),.int .i64 c.number] w (ValsP (zgF c) w):=by
 have HA:=Hd hA;have HE:=Hd hE;have HF:=Hd hF;have HT:=Hd hT;obtain⟨f1,f2,f3,f4,f5,f6,f7,f8⟩:=hs;obtain⟨A,vk⟩:=gX (zd4 c.author c.lang c.most false);obtain⟨E,yl⟩:∃A,Hi (zd4 c.editor c.lang c.most false=A):=⟨_,rfl⟩;obtain⟨AS,A2⟩:∃A,Hi (zd4 c.author c.lang c.most true=A):=⟨_,rfl⟩;obtain⟨ES,A3⟩:∃A,Hi (zd4 c.editor c.lang c.most true=A):=⟨_,rfl⟩;have zC:Hi (∀w',Kept w w'->Calls prog 110 #[vA,.string (bs c.lang),.int .i64 c.most,.bool false] w' fun e w''=>e=.returned (.string (bs A))/\Kept w' w''):=fun w' k=>(by rw[<- vk.o];exact ziT vA c.author c.lang c.most false w' (HA.o.kept k) f1 f3 f5);have rr:Hi (∀w',Kept w w'->Calls prog 110 #[vE,.string (bs c.lang),.int .i64 c.most,.bool false] w' fun e w''=>e=.returned (.string (bs E))/\Kept w' w''):=fun w' k=>(by rw[<- yl.o];exact ziT vE c.editor c.lang c.most false w' (HE.o.kept k) f2 f4 f5);have C6:Hi (∀w',Kept w w'->Calls prog 110 #[vA,.string (bs c.lang),.int .i64 c.most,.bool true] w' fun e w''=>e=.returned (.string (bs AS))/\Kept w' w''):=fun w' k=>(by rw[<- A2.o];exact ziT vA c.author c.lang c.most true w' (HA.o.kept k) f1 f3 f5);have C7:Hi (∀w',Kept w w'->Calls prog 110 #[vE,.string (bs c.lang),.int .i64 c.most,.bool true] w' fun e w''=>e=.returned (.string (bs ES))/\Kept w' w''):=fun w' k=>(by rw[<- A3.o];exact ziT vE c.editor c.lang c.most true w' (HE.o.kept k) f2 f4 f5);have HY:=Hd (fun w hv=>zrU c.key c.type vA vE vF c.fields w hv f6 f7);have C8:Hi (zgF c=zBb (ziY c A E AS ES) (ziX c) (zyG c)):=by
  show _=_;rw[<- vk.o,<- yl.o,<- A2.o,<- A3.o];rfl
 clear hA hE hF hT vk yl A2 A3;unfold zfA zaK znF;have xI:=Hd (aI w 50 #[.string (bs c.key),.string (bs c.type),vA,vE,vF]);have lg:=Hd (zaA w (.cells #[.string (bs c.key),.string (bs c.type),vA,vE,vF] 50));have mt:=Hd (aI (w.alloc (.cells #[.string (bs c.key),.string (bs c.type),vA,vE,vF] 50)) 28 (zaK vY y));have kT:=Hd (zaA (w.alloc (.cells #[.string (bs c.key),.string (bs c.type),vA,vE,vF] 50)) (.cells (zaK vY y) 28));unfold zaK at mt kT;go_in;go_wp2_with fail;have e1:(w.alloc (.cells #[.string (bs c.key),.string (bs c.type),vA,vE,vF] 50)).heap.size=w.heap.size+1:=b_;rw[e1,hy]at mt;rw[hy]at kT;have oG:=Hd (xI.o.kept kT.o);have lD:=Hd (lg.o.trans kT.o);clear xI lg kT e1;rw[hy];generalize ha0:Act.mk _ _=a0;generalize World.alloc (World.alloc _ _) _=w0 at mt oG lD ⊢;obtain⟨B5,pK⟩:∃B,Hi (w.heap.size=B):=⟨_,rfl⟩;rw[pK.o]at mt oG;have nB:a0.tmps.size=57:=(by rw[<- ha0];rfl);have h5:a0.eval (.tmp 5)=.pointer (some ⟨B5,0,none⟩):=(by rw[<- ha0,<- pK.o];rfl);have h6:a0.eval (.tmp 6)=.pointer (some ⟨B5+1,0,none⟩):=(by rw[<- ha0,<- pK.o];rfl);have h2:a0.eval (.tmp 2)=.string (bs c.lang):=(by rw[<- ha0];rfl);have h3:a0.eval (.tmp 3)=.string (bs c.suffix):=(by rw[<- ha0];rfl);refine zf1 (SvI c B5 (B5+1) vA vE A E AS ES w0 a0) g_ (zEe g_) ?_ ?_ ?_
 .have hno:∀i,¬ On (Array.replicate 41 false) i:=fun i=>zgQ 41 i;exact⟨d_,0,ku 41 sD _ 41 a0,zaB w0 1,⟨fun e _ h=>absurd h (hno _),fun h=>absurd h (hno _),fun h=>absurd h (hno _)⟩,fun h=>absurd h (hno _)⟩
 .intro L a w1 hI oy;obtain⟨hs,M,S,m8,hc,hm⟩:=hI;have hon:∀i,i<41->On L i:=fun i hi=>by
   have:=oy i hi;have kV:i<L.size:=a_;unfold On;rw[bq,bY kV]at this ⊢;exact this
  obtain⟨m1,es,m2,m3⟩:=hm (hon 0 a_);have HM:=Hd m2;have oH:Hi (∀k,zd5 es k=(zgR (ziY c A E AS ES) k).map (fun x=>.string (bs x))):=fun k=>(by rw[m3 k,zJa L hon]);obtain⟨x0,x1,x2,x3,x4,x5,x6,x7,x8,x9,Fk,C4,Fl,Fm,Fo,Fp,Fq,Fr,Fs,Ft,x20,Fu,Fv,Fw,x24,x25,Fx,x27,x28,x29,x30,x31,x32,Fy,x34,Fz,FA,FB,x38,x39,x40,x41,FC,x43,FD,FE,FF,FG,FH,FI,FJ,FK,FM,FN,x54,x55,FO,hx⟩:=zJ6 a.tmps (S.size.trans nB);have e5:some x5=some (.pointer (some ⟨w.heap.size,0,none⟩)):=by
   have h:=S.rest 5 f_;rw[hx,<- ha0]at h;exact h
  have e4:some x4=some (.int .i64 c.number):=by
   have h:=S.rest 4 f_;rw[hx,<- ha0]at h;exact h
  have e11:some C4=some (.map (some M)):=by
   have h:=S.val 40 11 a_ rfl (hon 40 a_);rw[hx]at h;exact h
  have hdf:a.defers=[]:=S.defers.trans (by rw[<- ha0]);rw[pK.o]at e5;have e4':=eG e4;have e5':=eG e5;have GY:=eG e11;obtain⟨tm,df⟩:=a;simp only at hx hdf;subst hx hdf e4' e5' GY;have tr:=Hd m8;have rD:=Hd (lD.o.trans m8);have tT:w.heap.size<=M:=bC lD.o.size m1;have rb:=Hd (oG.o.kept m8);have pu:=Hd (HF.o.kept (lD.o.trans m8));clear S hc hm m8 hon oy hs m1 m2 m3 e4 e5 e11 ha0 nB h5 h6 h2 h3 zC rr C6 C7 HA HE oG mt HF;have t0:w1.cell? ⟨B5,0,none⟩=some (.string (bs c.key)):=rb.o.cell 0 _ rfl;have t1:w1.cell? ⟨B5,1,none⟩=some (.string (bs c.type)):=rb.o.cell 1 _ rfl;have t2:w1.cell? ⟨B5,2,none⟩=some vA:=rb.o.cell 2 _ rfl;have t3:w1.cell? ⟨B5,3,none⟩=some vE:=rb.o.cell 3 _ rfl;have t4:w1.cell? ⟨B5,4,none⟩=some vF:=rb.o.cell 4 _ rfl;have J3:Hi (zeE ((za3 c.fields [121,101,97,114]).getD [])=zjQ c):=rfl;have hyb:=zeF ((za3 c.fields [121,101,97,114]).getD []);rw[J3.o]at HY hyb;go_wp2_with fail;refine k_ (HY.o _ pu.o) fun w2 ll=>?_;have rE:=Hd (rD.o.trans ll);have nQ:=Hd (HM.o.kept ll);clear ll t0 t1 t2 t3 t4 HM rD rb pu HY f1 f2 f3 f4 f5 f6 f7;obtain⟨Qk,Ql⟩:=f8;have MC:=Hd (fun w h=>zpG (zjQ c) w a_ a_ h);have tX:=Hd (fun w h=>zpG c.number w a_ a_ h);have vl:Hi (zjQ c=0->ziX c=[]):=fun h=>(by unfold ziX;rw[ae h]);have og:Hi (zjQ c≠0->ziX c=Lib.itoa (zjQ c)):=fun h=>(by unfold ziX;rw[aa h]);have ym:Hi (c.number<1->zyG c=[]):=fun h=>(by unfold zyG;rw[ae h]);have uo:Hi (¬ c.number<1->zyG c=Lib.itoa c.number):=fun h=>(by unfold zyG;rw[aa h]);have uV:Hi (zd5 es zeK=some (.string (bs []))):=(by show _=_;rw[oH.o];rfl);have tY:Hi (zd5 es zbH=some (.string (bs []))):=(by show _=_;rw[oH.o];rfl);have lh:Hi (∀es1 es2,(∀k,zd5 es1 k=if k=zeK then some (.string (bs (ziX c)))else zd5 es k)->(∀k,zd5 es2 k=if k=zbH then some (.string (bs (zyG c)))else zd5 es1 k)->∀k,zd5 es2 k=(zgR (zgF c) k).map (fun x=>.string (bs x))):=fun es1 es2 h1 h2 k=>by
   rw[C8.o,zBe,h2 k,h1 k,oH.o k];by_cases q:k=zeK
   .subst q;rfl
   .by_cases q2:k=zbH
    .rw[ae q2,aa q,ae q2];rfl
    .rw[aa q2,aa q,aa q,aa q2]
  have qk:Hi (∀(es1:List (Bs×Value)) (key v:Bs),zd5 es1 key=some (.string (bs v))->∀k,zd5 es1 k=if k=key then some (.string (bs v))else zd5 es1 k):=fun es1 key v h k=>by
   by_cases q:k=key
   .rw[ae q,q,h]
   .rw[aa q]
  have uq:Hi (∀es1,(∀k,zd5 es1 k=if k=zeK then some (.string (bs (ziX c)))else zd5 es k)->zd5 es1 zbH=some (.string (bs []))):=fun es1 h=>(by rw[h zbH,aa c_];exact tY.o);clear C8 oH tY J3 hyb;generalize ziX c=ys at *;generalize zyG c=ns at *;generalize zgF c=sp at *;generalize Lib.itoa (zjQ c)=iy at *;generalize Lib.itoa c.number=inn at *;generalize zjQ c=n at *;by_cases hn:n=0
  .obtain rfl:=vl.o hn;have nW:=Hd (qk.o es zeK [] uV.o);have yn:=Hd (uq.o es nW.o);have hn':(n==0)=true:=(by rw[hn];rfl);clear hn;by_cases hm:c.number<1
   .obtain rfl:=ym.o hm;have HE2:=Hd (lh.o es es nW.o (qk.o es zbH [] yn.o));clear nW yn lh qk uq vl og ym uo uV;go_wp2;go_ret;exact⟨_,es,rfl,tT,nQ.o,HE2.o,rE.o⟩
   .obtain rfl:=uo.o a_;have HT2:=Hd (zeS HT.o rE.o);go_wp2_with fail;refine k_ (tX.o _ HT2.o) fun w3 li=>?_;have A4:=Hd (rE.o.trans li);have tU:=Hd (nQ.o.kept li);obtain⟨es2,vm,hup⟩:=zEh (P:=prog) fZ aq w3 M es zbH (.string (bs ns)) _ tU.o yn.o;have HE2:=Hd (lh.o es es2 nW.o vm);have rC:=Hd (zg4 w3 M es2 tU.o.lt);have qY:=Hd (zb6 A4.o (zfF w3 M es2) tT);unfold zbH at hup;clear vm nW yn lh qk uq vl og ym uo uV li;go_wp2;go_ret;exact⟨_,es2,rfl,tT,rC.o,HE2.o,qY.o⟩
  .obtain rfl:=og.o hn;have HT2:=Hd (zeS HT.o rE.o);have hn':(n==0)=false:=(by rw[ab];exact hn);clear hn;go_wp2_with fail;refine k_ (MC.o _ HT2.o) fun w3 li=>?_;have A4:=Hd (rE.o.trans li);have tU:=Hd (nQ.o.kept li);obtain⟨es1,A5,hup⟩:=zEh (P:=prog) fZ aq w3 M es zeK (.string (bs ys)) _ tU.o uV.o;have nW:=Hd A5;have yn:=Hd (uq.o es1 A5);have rC:=Hd (zg4 w3 M es1 tU.o.lt);have qY:=Hd (zb6 A4.o (zfF w3 M es1) tT);unfold zeK at hup;clear A5 li;by_cases hm:c.number<1
   .obtain rfl:=ym.o hm;have HE2:=Hd (lh.o es1 es1 nW.o (qk.o es1 zbH [] yn.o));clear nW yn lh qk uq vl og ym uo uV;go_wp2;go_ret;exact⟨_,es1,rfl,tT,rC.o,HE2.o,qY.o⟩
   .obtain rfl:=uo.o a_;have ur:=Hd (zeS HT.o qY.o);go_wp2_with fail;clear hup;generalize ztR w3 M es1=w4 at *;refine k_ (tX.o _ ur.o) fun w5 lU=>?_;have GZ:=Hd (qY.o.trans lU);have sa:=Hd (rC.o.kept lU);obtain⟨es2,vm,hup⟩:=zEh (P:=prog) fZ aq w5 M es1 zbH (.string (bs ns)) _ sa.o yn.o;have HE2:=Hd (lh.o es1 es2 nW.o vm);have xJ:=Hd (zg4 w5 M es2 sa.o.lt);have G0:=Hd (zb6 GZ.o (zfF w5 M es2) tT);unfold zbH at hup;clear vm nW yn lh qk uq vl og ym uo uV lU;go_wp2;go_ret;exact⟨_,es2,rfl,tT,xJ.o,HE2.o,G0.o⟩
 .intro L a w1 i hI hi hn m7;obtain⟨hs,M,S,m8,hc,hm⟩:=hI;have q5:=(S.ext 5 f_).trans h5;have q6:=(S.ext 6 f_).trans h6;have q2:=(S.ext 2 f_).trans h2;have q3:=(S.ext 3 f_).trans h3;have t0:w1.cell? ⟨B5,0,none⟩=some (.string (bs c.key)):=(oG.o.kept m8).cell 0 _ rfl;have t1:w1.cell? ⟨B5,1,none⟩=some (.string (bs c.type)):=(oG.o.kept m8).cell 1 _ rfl;have t2:w1.cell? ⟨B5,2,none⟩=some vA:=(oG.o.kept m8).cell 2 _ rfl;have t3:w1.cell? ⟨B5,3,none⟩=some vE:=(oG.o.kept m8).cell 3 _ rfl;have t8:w1.cell? ⟨B5+1,8,none⟩=some (.int .i64 c.most):=(mt.o.kept m8).cell 8 _ rfl;replace hi:i<41:=hi;obtain rfl|rfl|rfl|rfl|rfl|rfl|rfl|rfl|rfl|rfl|rfl|rfl|rfl|rfl|rfl|rfl|rfl|rfl|rfl|rfl|rfl|rfl|rfl|rfl|rfl|rfl|rfl|rfl|rfl|rfl|rfl|rfl|rfl|rfl|rfl|rfl|rfl|rfl|rfl|rfl|rfl:i=0\/i=1\/i=2\/i=3\/i=4\/i=5\/i=6\/i=7\/i=8\/i=9\/i=10\/i=11\/i=12\/i=13\/i=14\/i=15\/i=16\/i=17\/i=18\/i=19\/i=20\/i=21\/i=22\/i=23\/i=24\/i=25\/i=26\/i=27\/i=28\/i=29\/i=30\/i=31\/i=32\/i=33\/i=34\/i=35\/i=36\/i=37\/i=38\/i=39\/i=40:=a_
  .have n0:=zv8 hn;obtain⟨c1,c2,c3⟩:=hc;refine zaR (o:=_) rfl rfl (v:=.map (some w1.heap.size)) (w':=w1.alloc (.map #[] 0)) ?_ ?_
   .have:=ep (P:=prog) 138 w1;simp only[execOp,aX,aH,aG];simp [go_sem,this]
   refine⟨by rw[cn];exact hs,w1.heap.size,zBd nB S 0 a_ hs _ (fun _=>rfl) (fun j hj ho=>zKB j (fun q=>n0 (q ▸ ho)) (fun q=>n0 (c2 (q ▸ ho))) (fun q=>n0 (c3 (q ▸ ho)))),m8.trans (zaA _ _),⟨fun _ _ _=>zeX a_,fun _=>zeX a_,fun _=>zeX a_⟩,fun _=>⟨m8.size,[],MapT.made w1,fun k=>?_⟩⟩;have hz:zyJ (L.setIfInBounds 0 true) k=false:=by
    rw[zn6 L 0 c_ k];unfold zyJ;rw[eD];intro e he h;rw[ba]at h;exact n0 (c1 e he h.2)
   unfold gL;rw[hz];rfl
  .refine zaR (o:=_) rfl rfl (v:=.pointer (some ⟨B5,2,none⟩)) (w':=w1) ?_ (za0 nB hs S m8 hc hm (af _) 1 a_ a_ c_ (fun q=>by omega) _ rfl);simp only[execOp,aX,aH,aG,q5];simp [go_sem]
  .have G1:=S.eval 1 14 a_ rfl (m7 _ rfl ⟨1,.data⟩ b_ rfl);refine zaR (o:=_) rfl rfl (v:=vA) (w':=w1) ?_ (za0 nB hs S m8 hc hm (af _) 2 a_ a_ c_ (fun q=>by omega) _ rfl);simp only[execOp,aX,aH,aG,G1,sV];simp [t2,go_sem]
  .refine zaR (o:=_) rfl rfl (v:=.string (bs c.lang)) (w':=w1) ?_ (za0 nB hs S m8 hc hm (af _) 3 a_ a_ c_ (fun q=>by omega) _ rfl);simp only[execOp,aX,aH,aG,q2]
   (try simp [go_sem])
  .refine zaR (o:=_) rfl rfl (v:=.pointer (some ⟨B5+1,8,none⟩)) (w':=w1) ?_ (za0 nB hs S m8 hc hm (af _) 4 a_ a_ c_ (fun q=>by omega) _ rfl);simp only[execOp,aX,aH,aG,q6];simp [go_sem]
  .have z17:=S.eval 4 17 a_ rfl (m7 _ rfl ⟨4,.data⟩ b_ rfl);refine zaR (o:=_) rfl rfl (v:=.int .i64 c.most) (w':=w1) ?_ (za0 nB hs S m8 hc hm (af _) 5 a_ a_ c_ (fun q=>by omega) _ rfl);simp only[execOp,aX,aH,aG,z17,sV];simp [t8,go_sem]
  .have G2:=S.eval 2 15 a_ rfl (m7 _ rfl ⟨2,.data⟩ b_ rfl);have G3:=S.eval 3 16 a_ rfl (m7 _ rfl ⟨3,.data⟩ b_ rfl);have G4:=S.eval 5 18 a_ rfl (m7 _ rfl ⟨5,.data⟩ b_ rfl);refine zfE (o:=_) rfl rfl (f:=110) (args:=#[vA,.string (bs c.lang),.int .i64 c.most,.bool false]) (w':=w1) ?_ ((zC.o w1 (lD.o.trans m8)).mono fun e w2 ⟨he,ll⟩=>⟨_,he,(za0 nB hs S m8 hc hm ll 6 a_ a_ c_ (fun q=>by omega) _ rfl)⟩);simp only[execOp,aX,aH,aG,resolve,ck,bd,ca,G2,G3,G4,sV];simp [go_sem]
  .have o0:On L 0:=m7 _ rfl ⟨0,.data⟩ b_ rfl;have rc:=S.eval 0 13 a_ rfl o0;have MD:=S.eval 6 19 a_ rfl (m7 _ rfl ⟨6,.data⟩ b_ rfl);obtain⟨w2,hr,hI2⟩:=ziZ nB hs S m8 hc (hm o0) o0 7 a_ rfl [97,117,116,104,111,114] A c_ c_ c_ hn rfl undef;refine zcV (o:=_) rfl rfl (w':=w2) ?_ hI2;simp only[execOp,aX,aH,aG,rc,MD,sV];simp [go_sem,zd8,hr]
  .refine zaR (o:=_) rfl rfl (v:=.pointer (some ⟨B5,3,none⟩)) (w':=w1) ?_ (za0 nB hs S m8 hc hm (af _) 8 a_ a_ c_ (fun q=>by omega) _ rfl);simp only[execOp,aX,aH,aG,q5];simp [go_sem]
  .have z20:=S.eval 8 20 a_ rfl (m7 _ rfl ⟨8,.data⟩ b_ rfl);refine zaR (o:=_) rfl rfl (v:=vE) (w':=w1) ?_ (za0 nB hs S m8 hc hm (af _) 9 a_ a_ c_ (fun q=>by omega) _ rfl);simp only[execOp,aX,aH,aG,z20,sV];simp [t3,go_sem]
  .refine zaR (o:=_) rfl rfl (v:=.string (bs c.lang)) (w':=w1) ?_ (za0 nB hs S m8 hc hm (af _) 10 a_ a_ c_ (fun q=>by omega) _ rfl);simp only[execOp,aX,aH,aG,q2]
   (try simp [go_sem])
  .refine zaR (o:=_) rfl rfl (v:=.pointer (some ⟨B5+1,8,none⟩)) (w':=w1) ?_ (za0 nB hs S m8 hc hm (af _) 11 a_ a_ c_ (fun q=>by omega) _ rfl);simp only[execOp,aX,aH,aG,q6];simp [go_sem]
  .have z23:=S.eval 11 23 a_ rfl (m7 _ rfl ⟨11,.data⟩ b_ rfl);refine zaR (o:=_) rfl rfl (v:=.int .i64 c.most) (w':=w1) ?_ (za0 nB hs S m8 hc hm (af _) 12 a_ a_ c_ (fun q=>by omega) _ rfl);simp only[execOp,aX,aH,aG,z23,sV];simp [t8,go_sem]
  .have z21:=S.eval 9 21 a_ rfl (m7 _ rfl ⟨9,.data⟩ b_ rfl);have z22:=S.eval 10 22 a_ rfl (m7 _ rfl ⟨10,.data⟩ b_ rfl);have z24:=S.eval 12 24 a_ rfl (m7 _ rfl ⟨12,.data⟩ b_ rfl);refine zfE (o:=_) rfl rfl (f:=110) (args:=#[vE,.string (bs c.lang),.int .i64 c.most,.bool false]) (w':=w1) ?_ ((rr.o w1 (lD.o.trans m8)).mono fun e w2 ⟨he,ll⟩=>⟨_,he,(za0 nB hs S m8 hc hm ll 13 a_ a_ c_ (fun q=>by omega) _ rfl)⟩);simp only[execOp,aX,aH,aG,resolve,ck,bd,ca,z21,z22,z24,sV];simp [go_sem]
  .have o0:On L 0:=m7 _ rfl ⟨0,.data⟩ b_ rfl;have rc:=S.eval 0 13 a_ rfl o0;have z25:=S.eval 13 25 a_ rfl (m7 _ rfl ⟨13,.data⟩ b_ rfl);obtain⟨w2,hr,hI2⟩:=ziZ nB hs S m8 hc (hm o0) o0 14 a_ rfl [101,100,105,116,111,114] E c_ c_ c_ hn rfl undef;refine zcV (o:=_) rfl rfl (w':=w2) ?_ hI2;simp only[execOp,aX,aH,aG,rc,z25,sV];simp [go_sem,zd8,hr]
  .refine zaR (o:=_) rfl rfl (v:=.pointer (some ⟨B5,2,none⟩)) (w':=w1) ?_ (za0 nB hs S m8 hc hm (af _) 15 a_ a_ c_ (fun q=>by omega) _ rfl);simp only[execOp,aX,aH,aG,q5];simp [go_sem]
  .have z26:=S.eval 15 26 a_ rfl (m7 _ rfl ⟨15,.data⟩ b_ rfl);refine zaR (o:=_) rfl rfl (v:=vA) (w':=w1) ?_ (za0 nB hs S m8 hc hm (af _) 16 a_ a_ c_ (fun q=>by omega) _ rfl);simp only[execOp,aX,aH,aG,z26,sV];simp [t2,go_sem]
  .refine zaR (o:=_) rfl rfl (v:=.string (bs c.lang)) (w':=w1) ?_ (za0 nB hs S m8 hc hm (af _) 17 a_ a_ c_ (fun q=>by omega) _ rfl);simp only[execOp,aX,aH,aG,q2]
   (try simp [go_sem])
  .refine zaR (o:=_) rfl rfl (v:=.pointer (some ⟨B5+1,8,none⟩)) (w':=w1) ?_ (za0 nB hs S m8 hc hm (af _) 18 a_ a_ c_ (fun q=>by omega) _ rfl);simp only[execOp,aX,aH,aG,q6];simp [go_sem]
  .have z29:=S.eval 18 29 a_ rfl (m7 _ rfl ⟨18,.data⟩ b_ rfl);refine zaR (o:=_) rfl rfl (v:=.int .i64 c.most) (w':=w1) ?_ (za0 nB hs S m8 hc hm (af _) 19 a_ a_ c_ (fun q=>by omega) _ rfl);simp only[execOp,aX,aH,aG,z29,sV];simp [t8,go_sem]
  .have z27:=S.eval 16 27 a_ rfl (m7 _ rfl ⟨16,.data⟩ b_ rfl);have z28:=S.eval 17 28 a_ rfl (m7 _ rfl ⟨17,.data⟩ b_ rfl);have z30:=S.eval 19 30 a_ rfl (m7 _ rfl ⟨19,.data⟩ b_ rfl);refine zfE (o:=_) rfl rfl (f:=110) (args:=#[vA,.string (bs c.lang),.int .i64 c.most,.bool true]) (w':=w1) ?_ ((C6.o w1 (lD.o.trans m8)).mono fun e w2 ⟨he,ll⟩=>⟨_,he,(za0 nB hs S m8 hc hm ll 20 a_ a_ c_ (fun q=>by omega) _ rfl)⟩);simp only[execOp,aX,aH,aG,resolve,ck,bd,ca,z27,z28,z30,sV];simp [go_sem]
  .have o0:On L 0:=m7 _ rfl ⟨0,.data⟩ b_ rfl;have rc:=S.eval 0 13 a_ rfl o0;have z31:=S.eval 20 31 a_ rfl (m7 _ rfl ⟨20,.data⟩ b_ rfl);obtain⟨w2,hr,hI2⟩:=ziZ nB hs S m8 hc (hm o0) o0 21 a_ rfl [97,117,116,104,111,114,115] AS c_ c_ c_ hn rfl undef;refine zcV (o:=_) rfl rfl (w':=w2) ?_ hI2;simp only[execOp,aX,aH,aG,rc,z31,sV];simp [go_sem,zd8,hr]
  .refine zaR (o:=_) rfl rfl (v:=.pointer (some ⟨B5,3,none⟩)) (w':=w1) ?_ (za0 nB hs S m8 hc hm (af _) 22 a_ a_ c_ (fun q=>by omega) _ rfl);simp only[execOp,aX,aH,aG,q5];simp [go_sem]
  .have z32:=S.eval 22 32 a_ rfl (m7 _ rfl ⟨22,.data⟩ b_ rfl);refine zaR (o:=_) rfl rfl (v:=vE) (w':=w1) ?_ (za0 nB hs S m8 hc hm (af _) 23 a_ a_ c_ (fun q=>by omega) _ rfl);simp only[execOp,aX,aH,aG,z32,sV];simp [t3,go_sem]
  .refine zaR (o:=_) rfl rfl (v:=.string (bs c.lang)) (w':=w1) ?_ (za0 nB hs S m8 hc hm (af _) 24 a_ a_ c_ (fun q=>by omega) _ rfl);simp only[execOp,aX,aH,aG,q2]
   (try simp [go_sem])
  .refine zaR (o:=_) rfl rfl (v:=.pointer (some ⟨B5+1,8,none⟩)) (w':=w1) ?_ (za0 nB hs S m8 hc hm (af _) 25 a_ a_ c_ (fun q=>by omega) _ rfl);simp only[execOp,aX,aH,aG,q6];simp [go_sem]
  .have z35:=S.eval 25 35 a_ rfl (m7 _ rfl ⟨25,.data⟩ b_ rfl);refine zaR (o:=_) rfl rfl (v:=.int .i64 c.most) (w':=w1) ?_ (za0 nB hs S m8 hc hm (af _) 26 a_ a_ c_ (fun q=>by omega) _ rfl);simp only[execOp,aX,aH,aG,z35,sV];simp [t8,go_sem]
  .have z33:=S.eval 23 33 a_ rfl (m7 _ rfl ⟨23,.data⟩ b_ rfl);have z34:=S.eval 24 34 a_ rfl (m7 _ rfl ⟨24,.data⟩ b_ rfl);have z36:=S.eval 26 36 a_ rfl (m7 _ rfl ⟨26,.data⟩ b_ rfl);refine zfE (o:=_) rfl rfl (f:=110) (args:=#[vE,.string (bs c.lang),.int .i64 c.most,.bool true]) (w':=w1) ?_ ((C7.o w1 (lD.o.trans m8)).mono fun e w2 ⟨he,ll⟩=>⟨_,he,(za0 nB hs S m8 hc hm ll 27 a_ a_ c_ (fun q=>by omega) _ rfl)⟩);simp only[execOp,aX,aH,aG,resolve,ck,bd,ca,z33,z34,z36,sV];simp [go_sem]
  .have o0:On L 0:=m7 _ rfl ⟨0,.data⟩ b_ rfl;have rc:=S.eval 0 13 a_ rfl o0;have z37:=S.eval 27 37 a_ rfl (m7 _ rfl ⟨27,.data⟩ b_ rfl);obtain⟨w2,hr,hI2⟩:=ziZ nB hs S m8 hc (hm o0) o0 28 a_ rfl [101,100,105,116,111,114,115] ES c_ c_ c_ hn rfl undef;refine zcV (o:=_) rfl rfl (w':=w2) ?_ hI2;simp only[execOp,aX,aH,aG,rc,z37,sV];simp [go_sem,zd8,hr]
  .have o0:On L 0:=m7 _ rfl ⟨0,.data⟩ b_ rfl;have rc:=S.eval 0 13 a_ rfl o0;obtain⟨w2,hr,hI2⟩:=ziZ nB hs S m8 hc (hm o0) o0 29 a_ rfl [121,101,97,114] [] c_ c_ c_ hn rfl undef;refine zcV (o:=_) rfl rfl (w':=w2) ?_ hI2;simp only[execOp,aX,aH,aG,rc,sV];simp [go_sem,zd8,hr]
  .refine zaR (o:=_) rfl rfl (v:=.string (bs c.suffix)) (w':=w1) ?_ (za0 nB hs S m8 hc hm (af _) 30 a_ a_ c_ (fun q=>by omega) _ rfl);simp only[execOp,aX,aH,aG,q3]
   (try simp [go_sem])
  .have o0:On L 0:=m7 _ rfl ⟨0,.data⟩ b_ rfl;have rc:=S.eval 0 13 a_ rfl o0;have z38:=S.eval 30 38 a_ rfl (m7 _ rfl ⟨30,.data⟩ b_ rfl);obtain⟨w2,hr,hI2⟩:=ziZ nB hs S m8 hc (hm o0) o0 31 a_ rfl [115,117,102,102,105,120] c.suffix c_ c_ c_ hn rfl undef;refine zcV (o:=_) rfl rfl (w':=w2) ?_ hI2;simp only[execOp,aX,aH,aG,rc,z38,sV];simp [go_sem,zd8,hr]
  .have o0:On L 0:=m7 _ rfl ⟨0,.data⟩ b_ rfl;have rc:=S.eval 0 13 a_ rfl o0;obtain⟨w2,hr,hI2⟩:=ziZ nB hs S m8 hc (hm o0) o0 32 a_ rfl [110,117,109,98,101,114] [] c_ c_ c_ hn rfl undef;refine zcV (o:=_) rfl rfl (w':=w2) ?_ hI2;simp only[execOp,aX,aH,aG,rc,sV];simp [go_sem,zd8,hr]
  .refine zaR (o:=_) rfl rfl (v:=.pointer (some ⟨B5,0,none⟩)) (w':=w1) ?_ (za0 nB hs S m8 hc hm (af _) 33 a_ a_ c_ (fun q=>by omega) _ rfl);simp only[execOp,aX,aH,aG,q5];simp [go_sem]
  .have z39:=S.eval 33 39 a_ rfl (m7 _ rfl ⟨33,.data⟩ b_ rfl);refine zaR (o:=_) rfl rfl (v:=.string (bs c.key)) (w':=w1) ?_ (za0 nB hs S m8 hc hm (af _) 34 a_ a_ c_ (fun q=>by omega) _ rfl);simp only[execOp,aX,aH,aG,z39,sV];simp [t0,go_sem]
  .have o0:On L 0:=m7 _ rfl ⟨0,.data⟩ b_ rfl;have rc:=S.eval 0 13 a_ rfl o0;have z40:=S.eval 34 40 a_ rfl (m7 _ rfl ⟨34,.data⟩ b_ rfl);obtain⟨w2,hr,hI2⟩:=ziZ nB hs S m8 hc (hm o0) o0 35 a_ rfl [107,101,121] c.key c_ c_ c_ hn rfl undef;refine zcV (o:=_) rfl rfl (w':=w2) ?_ hI2;simp only[execOp,aX,aH,aG,rc,z40,sV];simp [go_sem,zd8,hr]
  .refine zaR (o:=_) rfl rfl (v:=.pointer (some ⟨B5,1,none⟩)) (w':=w1) ?_ (za0 nB hs S m8 hc hm (af _) 36 a_ a_ c_ (fun q=>by omega) _ rfl);simp only[execOp,aX,aH,aG,q5];simp [go_sem]
  .have z41:=S.eval 36 41 a_ rfl (m7 _ rfl ⟨36,.data⟩ b_ rfl);refine zaR (o:=_) rfl rfl (v:=.string (bs c.type)) (w':=w1) ?_ (za0 nB hs S m8 hc hm (af _) 37 a_ a_ c_ (fun q=>by omega) _ rfl);simp only[execOp,aX,aH,aG,z41,sV];simp [t1,go_sem]
  .have o0:On L 0:=m7 _ rfl ⟨0,.data⟩ b_ rfl;have rc:=S.eval 0 13 a_ rfl o0;have z42:=S.eval 37 42 a_ rfl (m7 _ rfl ⟨37,.data⟩ b_ rfl);obtain⟨w2,hr,hI2⟩:=ziZ nB hs S m8 hc (hm o0) o0 38 a_ rfl [116,121,112,101] c.type c_ c_ c_ hn rfl undef;refine zcV (o:=_) rfl rfl (w':=w2) ?_ hI2;simp only[execOp,aX,aH,aG,rc,z42,sV];simp [go_sem,zd8,hr]
  .have rc:=S.eval 0 13 a_ rfl (m7 _ rfl ⟨0,.data⟩ b_ rfl);have o0:On L 0:=m7 _ rfl ⟨0,.data⟩ b_ rfl;refine zaR (o:=_) rfl rfl (v:=.map (some M)) (w':=w1) ?_ (za0 nB hs S m8 hc hm (af _) 39 a_ a_ c_ (fun _=>o0) _ rfl);simp only[execOp,aX,aH,aG,rc,sV]
   (try simp [go_sem])
  .have z43:=S.eval 39 43 a_ rfl (m7 _ rfl ⟨39,.data⟩ b_ rfl);have o0:On L 0:=hc.2.1 (m7 _ rfl ⟨39,.data⟩ b_ rfl);refine zaR (o:=_) rfl rfl (v:=.map (some M)) (w':=w1) ?_ (za0 nB hs S m8 hc hm (af _) 40 a_ a_ c_ (fun _=>o0) _ rfl);simp only[execOp,aX,aH,aG,z43,sV]
   (try simp [go_sem])
def zcO(ps:List Pr):List Value:=ps.flatMap fun q=>[.string (bs q.1),.string (bs q.2)]
def zyK(ps:List Pr)(q:Pr):zcO (ps++[q])=zcO ps++[.string (bs q.1),.string (bs q.2)]:=by simp [zcO]
def zEk(ps:List Pr)(j:Nat)(q:Pr)(h:ps[j]? = some q):(zcO ps)[j * 2]? = some (.string (bs q.1))/\(zcO ps)[j * 2+1]? = some (.string (bs q.2)):=by
 induction ps generalizing j with
 | nil=>cases h
 | cons p ps ih =>
  have e:zcO (p::ps)=[.string (bs p.1),.string (bs p.2)]++zcO ps:=(by simp [zcO]);rw[e];cases j with
  | zero=>cases h;exact⟨rfl,rfl⟩
  | succ j =>
   have:=ih j (by simpa using h);rw[bp e_,bp e_];simp only[az,cj];rw[show(j+1) * 2 - (0+1+1)=j * 2 from by omega,show(j+1) * 2+1 - (0+1+1)=j * 2+1 from by omega];exact this
def Prs.own{w:World}{base:Nat}{e:TypeId}{v:Value}{ps:List Pr}(h:w.ownsRow base e 2 v ps.length (zcO ps)):Prs w v ps:=by
 obtain⟨a,c,hv,hc,_,h3⟩:=zaZ h;refine⟨a,c,hv,hc,fun q=>?_⟩;obtain⟨g,ha,_,hg,kR⟩:=h3 q;refine⟨g,0,ha,hg,fun j x hx=>?_⟩;obtain⟨c0,c1⟩:=zEk ps j x hx;simp only[bP];exact⟨kR _ _ c0,kR _ _ c1⟩
def Tryz.infoPair:(prog.info? 46).map (fun i=>(i.zero,i.size,i.bytes))=some (some (.agg #[.string ⟨#[]⟩,.string ⟨#[]⟩]),2,32):=g_
def zBg(g o j:Nat):((⟨g,o,none⟩:Addr).add j)=⟨g,o+j,none⟩:=by unfold Addr.add;split<;>simp_all
def zn7(w:World)(g:Nat)(ps:List Pr):∀(o:Nat),(∀j q,ps[j]? = some q->w.cell? ⟨g,o+j * 2,none⟩=some (.string (bs q.1))/\w.cell? ⟨g,o+j * 2+1,none⟩=some (.string (bs q.2)))->∀j u,(zcO ps)[j]? = some u->w.cell? ⟨g,o+j,none⟩=some u:=by
 induction ps with
 | nil=>intro o _ j u h;cases h
 | cons p ps ih =>
  intro o hc j u h;have e:zcO (p::ps)=.string (bs p.1)::.string (bs p.2)::zcO ps:=(by simp [zcO]);rw[e]at h;obtain⟨c0,c1⟩:=hc 0 p rfl;simp only[gi,dl]at c0 c1
  match j with
  | 0=>simp at h;subst h;exact c0
  | 1=>simp at h;subst h;exact c1
  | j+2 =>
   have:=ih (o+2) (fun i q hq=>by
    have h4:=hc (i+1) q (by simpa using hq);rw[show o+(i+1) * 2=o+2+i * 2 from by omega]at h4;exact h4) j u (by simpa using h)
   rw[show o+(j+2)=o+2+j from by omega];exact this
def zrV(ps:List Pr):(zcO ps).length=ps.length * 2:=by
 induction ps with
 | nil=>rfl
 | cons p ps ih =>
    have e:zcO (p::ps)=.string (bs p.1)::.string (bs p.2)::zcO ps:=(by simp [zcO]);rw[e];simp only[az,ih];omega
def zrW(ps:List Pr):∀u∈zcO ps,u.oneCell'=true:=by
 intro u hu;unfold zcO at hu;rw[ef]at hu;obtain⟨q,_,hq⟩:=hu;simp at hq;rcases hq with rfl|rfl<;>rfl
def Prs.news{w:World}{ad:Addr}{n c:Nat}{ps:List Pr}(h:Prs w (.slice (some ad) n c) ps):∀j u,(zcO ps)[j]? = some u->w.cell? (ad.add j)=some u:=by
 intro j u hu;obtain⟨a,c',hv,_,h3⟩:=h;obtain⟨rfl,_,_⟩:=bL hv;have hp:0<ps.length:=by
  cases ps with
  | nil=>cases hu
  | cons p ps=>simp
 obtain⟨g,o,ha,_,hc⟩:=h3 hp;cases ha;rw[zBg];exact zn7 w g ps o hc j u hu
def Prs.none_(w:World):Prs w (.slice none 0 0) []:=⟨none,0,rfl,aw _,fun q=>absurd q b_⟩
def za7{w:World}{base:Nat}{e:TypeId}{size:Nat}{v:Value}{n:Nat}{xs:List Value}{b:Nat}{t:TypeId}{cs:Array Value}(h:w.ownsRow base e size v n xs)(hb:Blk w b t cs)(lV:e≠t):some b≠v.ownBlock:=by
 rcases h.2 with⟨rfl,_⟩|⟨g,lJ,mK,rfl,_,hh,_⟩
 .simp [Value.ownBlock]
 .intro q;have hg:b=g:=(by simpa [Value.ownBlock]using q);subst hg;unfold Blk at hb;rw[hb]at hh;simp only[Option.some.injEq,Obj.cells.injEq]at hh;exact lV hh.2.1.symm
def zg5{w:World}{base base':Nat}{e e':TypeId}{size size':Nat}{v v':Value}{n n':Nat}{xs xs':List Value}(h:w.ownsRow base e size v n xs)(h':w.ownsRow base' e' size' v' n' xs')(lV:e≠e'):∀g,v.ownBlock=some g->some g≠v'.ownBlock:=by
 intro g hg;rcases h.2 with⟨rfl,_⟩|⟨g2,lJ,mK,rfl,_,hh,_⟩
 .simp [Value.ownBlock]at hg
 .have hg2:g2=g:=(by simpa [Value.ownBlock]using hg);subst hg2;exact za7 h' (show Blk w g2 e mK from hh) (fun q=>lV q.symm)
def ColSt(w:World)(b base:Nat)(c:ColT):Prop:=∃vR vO,Blk w b 112 #[vR,vO,.string (bs c.ignore)]/\w.ownsRow base 46 2 vR c.ranks.length (zcO c.ranks)/\w.ownsRow base 9 1 vO c.order.length (zaL c.order)
def ColSt.kept{w w':World}{b base:Nat}{c:ColT}(h:ColSt w b base c)(k:Kept w w'):ColSt w' b base c:=by
 obtain⟨vR,vO,h1,h2,h3⟩:=h;exact⟨vR,vO,h1.kept k,za1 h2 k,za1 h3 k⟩
def zrX{w w3:World}{base:Nat}{e:TypeId}{size:Nat}{v:Value}{n:Nat}{xs:List Value}{b o:Nat}{u:Value}(h:w.ownsRow base e size v n xs)(hg:w.grownBy w3 v.ownBlock):Only (fun i=>i=b\/base<=i) w (w3.setCell ⟨b,o,none⟩ u) :=
 ((ch hg).mono (fun i _ q=>.inr (h.lt i q.symm).1)).trans ((bK b o u).mono (fun i _ q=>.inl q))
def zpH{w w3:World}{b base:Nat}{c:ColT}{ws:List Bs}{vR vO v':Value}(hb:Blk w b 112 #[vR,vO,.string (bs c.ignore)])(hR:w.ownsRow base 46 2 vR c.ranks.length (zcO c.ranks))(hO:w.ownsRow base 9 1 vO c.order.length (zaL c.order))(lc:w3.ownsRow base 9 1 v' (c.order++ws).length (zaL (c.order++ws)))(hg:w.grownBy w3 vO.ownBlock):ColSt (w3.setCell ⟨b,1,none⟩ v') b base { c with order:=c.order++ws }/\Only (fun i=>i=b\/base<=i) w (w3.setCell ⟨b,1,none⟩ v'):=by
 have lV:=za7 hO hb c_;have mF:Blk w3 b 112 #[vR,vO,.string (bs c.ignore)]:=(hg.block b hb.lt lV).trans hb;have J4:w3.ownsRow base 46 2 vR c.ranks.length (zcO c.ranks):=(ch hg).own hR (fun g hg'=>zg5 hR hO c_ g hg');refine⟨⟨vR,v',mF.set 1 v',?_,?_⟩,zrX hO hg⟩
 .exact(bK b 1 v').own J4 (fun g hg' q=>za7 J4 mF c_ (by rw[hg',q]))
 .exact(bK b 1 v').own lc (fun g hg' q=>za7 lc mF c_ (by rw[hg',q]))
def zEl{w w3:World}{b base:Nat}{c:ColT}{ps:List Pr}{vR vO v':Value}(hb:Blk w b 112 #[vR,vO,.string (bs c.ignore)])(hR:w.ownsRow base 46 2 vR c.ranks.length (zcO c.ranks))(hO:w.ownsRow base 9 1 vO c.order.length (zaL c.order))(lc:w3.ownsRow base 46 2 v' (c.ranks++ps).length (zcO (c.ranks++ps)))(hg:w.grownBy w3 vR.ownBlock):ColSt (w3.setCell ⟨b,0,none⟩ v') b base { c with ranks:=c.ranks++ps }/\Only (fun i=>i=b\/base<=i) w (w3.setCell ⟨b,0,none⟩ v'):=by
 have lV:=za7 hR hb c_;have mF:Blk w3 b 112 #[vR,vO,.string (bs c.ignore)]:=(hg.block b hb.lt lV).trans hb;have hO3:w3.ownsRow base 9 1 vO c.order.length (zaL c.order):=(ch hg).own hO (fun g hg'=>zg5 hO hR c_ g hg');refine⟨⟨v',vO,mF.set 0 v',?_,?_⟩,zrX hR hg⟩
 .exact(bK b 0 v').own lc (fun g hg' q=>za7 lc mF c_ (by rw[hg',q]))
 .exact(bK b 0 v').own hO3 (fun g hg' q=>za7 hO3 mF c_ (by rw[hg',q]))
def zmD{R:Nat}{ty:TypeId}:∀(vs:List Value) (o:Nat) (w:World) (cs:Array Value),Blk w R ty cs->∃cs':Array Value,Blk (w.setCells R o vs) R ty cs'/\cs'.size=cs.size/\∀j,j<cs.size->cs'[j]? = if o<=j/\j<o+vs.length then vs[j - o]? else cs[j]?
 | [],o,w,cs,h=>⟨cs,h,rfl,fun j hj=>by rw[aa (by simp only[cj];omega)]⟩
 | v::vs,o,w,cs,h=>by
  obtain⟨cs',h1,h2,h3⟩:=zmD vs (o+1) _ _ (h.set o v);refine⟨cs',h1,by rw[h2];simp,fun j hj=>?_⟩;have:=h3 j (by simpa using hj);rw[this];by_cases q:j=o
  .subst q;rw[aa a_,ae ⟨aw _,by simp only[az];omega⟩];simp [hj]
  .by_cases q2:o<=j/\j<o+(v::vs).length
   .rw[ae q2,ae (by simp only[az]at q2;omega),show j - o=(j - (o+1))+1 by omega,List.getElem?_cons_succ]
   .rw[aa q2,aa (by simp only[az]at q2;omega),dJ (fun e=>q e.symm)]
def zBh{w:World}{R:Nat}{ty:TypeId}{old cells:Array Value}(h:Blk w R ty old)(hs:old.size=cells.size):Blk (w.setCells R 0 cells.toList) R ty cells:=by
 obtain⟨cs',h1,h2,h3⟩:=zmD cells.toList 0 w old h;have e:cs'=cells:=by
  apply eP;intro j;by_cases hj:j<old.size
  .rw[h3 j hj,ae ⟨ai _,by rw[bP,dD];omega⟩,Nat.sub_zero,bE]
  .rw[bB a_,bB a_]
 rwa [e]at h1
def zc3{R:Nat}:∀(vs:List Value) (o:Nat) (w:World),Only (fun i=>i=R) w (w.setCells R o vs)
 | [],_,w=>bc (af w)
 | v::vs,o,w=>(bK R o v).trans ((zc3 vs (o+1) _).mono (fun _ _ q=>q))
def zaI{P:Program}{ops:Array Oper}{rest:List Oper}{op:Oper}{a:Act}{w:World}{Q:Exit->Act->World->Prop}(hgd:op.guard=none)(ty:TypeId)(x y:Operand)(ho:op.op=.store ty x y)(R:Nat)(old cells:Array Value)(hx:a.eval x=.pointer (some ⟨R,0,none⟩))(hy:a.eval y=.agg cells)(hb:Blk w R ty old)(hs:old.size=cells.size)(hi:(P.info? ty).map (·.size)=some cells.size)(h1:cells.all (·.oneCell')=true)(h:∀w',Blk w' R ty cells->Only (fun i=>i=R) w w'->wpList P ops Q rest (a.put op.dst undef) w'):wpList P ops Q (op::rest) a w:=by
 refine wpList_store_mid hgd ty x y ho R 0 cells hx hy (fun j hj=>⟨?_,?_⟩) hi h1 (h _ (zBh hb hs) (zc3 _ _ _))
 .rw[bP,hb.cell j (old[j]'a_) (by rw[bY])];rfl
 .rw[bP];exact hb.free j
def zaJ{P:Program}{ops:Array Oper}{rest:List Oper}{op:Oper}{a:Act}{w:World}{Q:Exit->Act->World->Prop}(hgd:op.guard=none)(ty:TypeId)(x:Operand)(ho:op.op=.load ty x)(R:Nat)(cells:Array Value)(hx:a.eval x=.pointer (some ⟨R,0,none⟩))(hb:Blk w R ty cells)(d:TypeDesc)(hu:P.underlying ty=some d)(hd:d.isRow=true)(hi:(P.info? ty).map (·.size)=some cells.size)(h:wpList P ops Q rest (a.put op.dst (.agg cells)) w):wpList P ops Q (op::rest) a w:=by
 refine wpList_load_mid hgd ty x ho R 0 hx cells.toList d (fun j v hv=>?_) hu hd (by rw[hi,dD]) (by rw[Array.toArray_toList];exact h);rw[bP];exact hb.cell j v (by rw[<- bE];exact hv)
def zIP(old:Array Value)(o:Nat)(vs:List Value):Array Value:=(old.toList.take o++(vs++old.toList.drop (o+vs.length))).toArray
def zwA{w:World}{R:Nat}{ty:TypeId}{old:Array Value}(h:Blk w R ty old)(o:Nat)(vs:List Value)(hs:o+vs.length<=old.size):Blk (w.setCells R o vs) R ty (zIP old o vs):=by
 obtain⟨cs',h1,h2,h3⟩:=zmD vs o w old h;have e:cs'=zIP old o vs:=by
  apply eP;intro j;unfold zIP
  conv=>rhs;rw[dK]
  have hl:old.toList.length=old.size:=dD;have hm:(old.toList.take o).length=o:=(by rw[bw];omega);by_cases hj:j<old.size
  .rw[h3 j hj];by_cases q:o<=j/\j<o+vs.length
   .rw[ae q,bp a_,hm,bX a_]
   .rw[aa q];by_cases q2:j<o
    .rw[bX a_,List.getElem?_take_of_lt q2,bE]
    .rw[bp a_,hm,bp a_,List.getElem?_drop,show o+vs.length+(j - o - vs.length)=j by omega,bE]
  .rw[bB a_,go (by rw[ah,ah,dO];omega)]
 rwa [e]at h1
def zcI{P:Program}{ops:Array Oper}{rest:List Oper}{op:Oper}{a:Act}{w:World}{Q:Exit->Act->World->Prop}(hgd:op.guard=none)(ty:TypeId)(x y:Operand)(ho:op.op=.store ty x y)(R o:Nat)(te:TypeId)(old cells:Array Value)(hx:a.eval x=.pointer (some ⟨R,o,none⟩))(hy:a.eval y=.agg cells)(hb:Blk w R te old)(hs:o+cells.size<=old.size)(hi:(P.info? ty).map (·.size)=some cells.size)(h1:cells.all (·.oneCell')=true)(h:∀w',Blk w' R te (zIP old o cells.toList)->Only (fun i=>i=R) w w'->wpList P ops Q rest (a.put op.dst undef) w'):wpList P ops Q (op::rest) a w:=by
 refine wpList_store_mid hgd ty x y ho R o cells hx hy (fun j hj=>⟨?_,?_⟩) hi h1 (h _ (zwA hb o cells.toList (by rw[dD];exact hs)) (zc3 _ _ _))
 .rw[hb.cell (o+j) (old[o+j]'a_) (by rw[bY])];rfl
 .exact hb.free (o+j)
def Tryz.sizeSty:(prog.info? 28).map (fun x=>x.size)=some 10:=g_
def zc9{w:World}{R:Nat}{vE:Value}{y:StyT}(h:Blk w R 28 (zaK vE y)):(w.cell? ⟨R,0,none⟩=some (.string (bs y.name))/\w.cell? ⟨R,1,none⟩=some (.bool y.numeric)/\w.cell? ⟨R,2,none⟩=some (.string (bs y.sort))/\w.cell? ⟨R,3,none⟩=some (.string (bs y.cite))/\w.cell? ⟨R,4,none⟩=some (.string (bs y.bare))/\w.cell? ⟨R,5,none⟩=some (.string (bs y.between))/\w.cell? ⟨R,6,none⟩=some (.string (bs y.begin_))/\w.cell? ⟨R,7,none⟩=some (.string (bs y.end_))/\w.cell? ⟨R,8,none⟩=some (.int .i64 y.most)/\w.cell? ⟨R,9,none⟩=some vE)/\R<w.heap.size :=
 ⟨⟨h.cell 0 _ rfl,h.cell 1 _ rfl,h.cell 2 _ rfl,h.cell 3 _ rfl,h.cell 4 _ rfl,h.cell 5 _ rfl,h.cell 6 _ rfl,h.cell 7 _ rfl,h.cell 8 _ rfl,h.cell 9 _ rfl⟩,h.lt⟩
def zgC(w:World){ops:Array Oper}{rest:List Oper}{o:Oper}{a:Act}{Q:Exit->Act->World->Prop}(hgd:o.guard=none)(s x:Operand)(ho:o.op=.call { callee:=.builtin .append,args:=#[s,x],argTypes:=#[22,22] })
  (base:Nat) (v:Value) (ps:List Pr) (hs:a.eval s=v) (lc:w.ownsRow base 46 2 v ps.length (zcO ps)) (q:Pr) (g:Nat) (hx:a.eval x=.slice (some ⟨g,0,none⟩) 1 1)
  (hb:Blk w g 46 #[.string (bs q.1),.string (bs q.2)]) (hl:ps.length<=1000000) (mL:base<=w.heap.size)
  (h:∀v' w',w'.ownsRow base 46 2 v' (ps++[q]).length (zcO (ps++[q]))->w.grownBy w' v.ownBlock->wpList prog ops Q rest (a.put o.dst v') w') :
  wpList prog ops Q (o::rest) a w:=by
 obtain⟨i0,hi,mr,mq,mm⟩:=cg Tryz.infoPair;refine wpList_append_lies w hgd s x 22 ho base 46 i0 (.agg #[.string ⟨#[]⟩,.string ⟨#[]⟩]) 2 32 gh hi mr mq mm rfl c_ v ps.length (zcO ps) hs lc ⟨g,0,none⟩ 1 1 [.string (bs q.1),.string (bs q.2)] hx rfl (fun j u hu=>?_) (fun u hu=>?_) c_ h_ a_ mL w.heap.size rfl (fun g' lJ w' h1 h2 _ _=>h _ w' ?_ h2)
 .rw[zo5,bP]
  match j with
  | 0=>cases hu;exact hb.cell 0 _ rfl
  | 1=>cases hu;exact hb.cell 1 _ rfl
  | j+2=>simp at hu
 .simp at hu;rcases hu with rfl|rfl<;>rfl
 .rw[zyK,ah];exact h1
def zwB{T e:TypeId}{B b:Nat}{cs:List Value}{w w':World}(h:Lib.IsBuilder T e B b cs w)(k:Kept w w'):Lib.IsBuilder T e B b cs w':=by
 have hp:∀p,Lib.BuilderAt T e B b p cs w->Lib.BuilderAt T e B b p cs w':=fun p h=>by
  obtain⟨h1,v,h2,h3,h4⟩:=h;have kV:b<w.heap.size:=by
   rcases bG b w.heap.size with q|q
   .exact q
   .rw[bB q]at h2;cases h2
  exact⟨h1,v,by rw[k.block b kV];exact h2,za1 h3 k,h4⟩
 exact h.imp (hp _) (hp _)
def zlF(n:Int)(h0 : -9223372036854775808<=n)(h1:n<=9223372036854775807):(Lib.itoa n).length<=21:=by
 have hd:∀(k u:Nat),u<10 ^ k->1<=k->(Lib.decDigits u).length<=k:=by
  intro k
  induction k with
  | zero=>intro u _ h;omega
  | succ k ih =>
   intro u hu _;by_cases q:u<10
   .rw[Lib.decDigits_one q];simp
   .rw[zpC _ q,ah,bU];have hk:1<=k:=by
     rcases dT k with r|r
     .subst r;simp at hu;omega
     .exact r
    have:=ih (u / 10) (by rw[Nat.pow_succ]at hu;omega) hk;omega
 have h20:(10:Nat) ^ 20=100000000000000000000:=c_;unfold Lib.itoa
 split
 .have:=hd 20 n.natAbs a_ a_;simp only[az];omega
 .have:=hd 20 n.toNat a_ a_;omega
def zi0(ps:List P4)(l:Bs)(most:Int)(lI:Bool)(hN:ps.length<=900)(hq:∀q∈ps,zeB q<=10000):(zd4 ps l most lI).length<=20000000:=by
 have hn:=zlE lI ps hq;have ha:=ziR (ziS l);have ho:=zgP (ziS l);have hj:∀xs:List Bs,xs.length<=900->(∀x∈xs,x.length<=10004)->(Lib.join xs zlD).length<=9005400:=fun xs h1 h2=>by
  have:=zc0 10004 xs h2;have h3:xs.length * (10004+2)<=900 * (10004+2):=eB _ h1;omega
 unfold zd4
 split
 .have h1:=hj ((ps.take most.toNat).map (zbE lI)) (by rw[bm,bw];omega) (fun x hx=>by
   obtain⟨q,hq',rfl⟩:=bQ.1 hx;exact hn _ (bQ.2 ⟨q,eX hq',rfl⟩))
  simp only[ah,az,cj];omega
 .unfold zhO
  split
  .have:=hj (ps.map (zbE lI)) (by rw[bm];omega) hn;omega
  .have h1:=hj (ps.map (zbE lI)).dropLast (by rw[List.length_dropLast,bm];omega) (fun x hx=>hn x ((List.dropLast_sublist _).subset hx));have h2:((ps.map (zbE lI)).getLastD []).length<=10004:=by
    cases hx:(ps.map (zbE lI)).getLast? with
    | none=>rw[dY,hx];simp
    | some x =>
     rw[dY,hx];exact hn x (gE hx)
   simp only[ah,az,cj];omega
def FitV(c:FilT):Prop:=FitF c/\c.key.length<=1000000/\c.type.length<=1000000/\c.suffix.length<=1000000/\∀p∈c.fields,p.2.length<=1000000
def zrY(c:FilT)(k:Bs):znP c k=(zgR (zgF c) k).getD ((za3 c.fields k).getD []):=by
 unfold znP zgR;cases (zgF c).find? fun e=>e.1==k<;>rfl
def zBi{ps:List Pr}{n:Nat}(h:∀p∈ps,p.2.length<=n)(k:Bs):((za3 ps k).getD []).length<=n:=by
 unfold za3;cases hx:ps.find? fun q=>q.1==k with
 | none=>simp
 | some p=>simpa using h p (cw hx)
def zEm(c:FilT)(h:FitV c)(k:Bs):(znP c k).length<=20000000:=by
 obtain⟨⟨f1,f2,f3,f4,f5,f6,f7,f8⟩,g1,g2,g3,g4⟩:=h;rw[zrY];cases hx:zgR (zgF c) k with
 | none =>
  have:=zBi g4 k;simp only[fN];omega
 | some x =>
  simp only[dE];unfold zgR at hx;rw[cG]at hx;obtain⟨e,he,rfl⟩:=hx;have h2:=cw he;unfold zgF at h2;simp only[bj,iM,ej]at h2;have hy:=zeF ((za3 c.fields [121,101,97,114]).getD []);rcases h2 with rfl|rfl|rfl|rfl|rfl|rfl|rfl|rfl|rfl
  .exact zi0 _ _ _ _ f1 f3
  .exact zi0 _ _ _ _ f2 f4
  .exact zi0 _ _ _ _ f1 f3
  .exact zi0 _ _ _ _ f2 f4
  .simp only;unfold ziX
   split
   .simp
   .have:=zlF (zjQ c) (by unfold zjQ;omega) (by unfold zjQ;omega);omega
  .simp only;omega
  .simp only;unfold zyG
   split
   .simp
   .have:=zlF c.number a_ a_;omega
  .simp only;omega
  .simp only;omega
def Tryz.zeroStr(w:World):(zeroValue 9).run prog w=.ok (.string (bs [])) w:=g_
def Tryz.sizeSrc:(prog.info? 50).map (fun x=>x.size)=some 5:=g_
def zG8(c:FilT)(vA vE vF:Value)(k:Bs)(X S m:Nat)(es:List (Bs×Value))(w:World)(hX:w.cell? ⟨X,0,none⟩=some (.map (some m)))(hm:MapT w m es)(hes:∀k,zd5 es k=(zgR (zgF c) k).map (fun x=>.string (bs x)))(hS:Blk w S 50 #[.string (bs c.key),.string (bs c.type),vA,vE,vF])(hF:Prs w vF c.fields)(hn:c.fields.length<=1100000):Calls prog 73 #[.string (bs k),.pointer (some ⟨X,0,none⟩),.pointer (some ⟨S,0,none⟩)] w fun e w'=>e=.returned (.string (bs (znP c k)))/\Kept w w':=by
 have HV:=Hd (zrY c k);have lk:=zEf (P:=prog) fZ aq w m es k (.string (bs [])) (Tryz.zeroStr _) hm;rw[hes k]at lk;have ME:=ff w (a:=⟨X,0,none⟩) hX;simp only at ME;have t0:w.cell? ⟨S,0,none⟩=some (.string (bs c.key)):=hS.cell 0 _ rfl;have t1:w.cell? ⟨S,1,none⟩=some (.string (bs c.type)):=hS.cell 1 _ rfl;have t2:w.cell? ⟨S,2,none⟩=some vA:=hS.cell 2 _ rfl;have t3:w.cell? ⟨S,3,none⟩=some vE:=hS.cell 3 _ rfl;have t4:w.cell? ⟨S,4,none⟩=some vF:=hS.cell 4 _ rfl;have z0:=hS.lt;have sU:=Hd (zmB c.key c.type vA vE vF c.fields k w hF hn);unfold FieldPost at sU;clear hm hes hS hF;cases hx:zgR (zgF c) k with
 | some x =>
  rw[hx]at HV lk;simp only[eR,dE,eO]at HV lk;rw[HV.o];clear hx;go_in;go_wp2;go_ret;exact⟨rfl,af _⟩
 | none =>
  rw[hx]at HV lk;simp only[iY,fN,ga]at HV lk;rw[HV.o];clear hx;generalize (za3 c.fields k).getD []=r at *;generalize (za3 c.fields k).isSome=b at *;go_in;go_wp2_with fail;refine k_ sU.o fun w1 ld=>?_;have HK:=Hd ld;clear ld;go_wp2;go_ret;exact⟨rfl,HK.o⟩
def zfH(c:FilT)(t:Bs):Bs:=zrI (zhM t) (znP c)
def zyL(ps:List Pc)(val:Bs->Bs)(k:Nat)(hk:k<ps.length):zcT (ps.take (k+1)) val=zcT (ps.take k) val++(if(ps[k].fld&&(!(ps[k].grp==0)&&(val ps[k].txt==[])))=true then [(ps[k].grp:Int)]else []):=by
 rw[bf hk];unfold zcT;rw[gY,cI];by_cases h:(ps[k].fld&&(!(ps[k].grp==0)&&(val ps[k].txt==[])))=true
 .rw[ae h,eh,ae h];rfl
 .rw[aa h,eh,aa h];rfl
def zBj(ps:List Pc)(f:Pc->Bs)(k:Nat)(hk:k<ps.length):(ps.take (k+1)).flatMap f=(ps.take k).flatMap f++f ps[k]:=by
 rw[bf hk,eJ];simp
def zwC(ps:List Pc)(f:Pc->Bs)(n:Nat)(h:∀p∈ps,(f p).length<=n):(ps.flatMap f).length<=ps.length * n:=by
 induction ps with
 | nil=>simp
 | cons p ps ih =>
  rw[dB,ah,az,fO];have h1:=h p (bI ..);have h2:=ih (fun q hq=>h q (bl _ hq));omega
def zrZ(c:FilT)(t:Bs)(vA vE vF vY:Value)(y:StyT)(w:World)(hy:y.most=c.most)(Qm:vY.oneCell'=true)(hg:Gnd w)(hT:Lib.TabIs prog w "internal/strconv.uint64pow10" .u64 Lib.pow10Tab) (ht:t.length<=100000) (hs:FitV c)(hA:Perss w vA c.author) (hE:Perss w vE c.editor) (hF:Prs w vF c.fields) :Calls prog 36 #[.string (bs t),znF c.key c.type vA vE vF,zfA vY y,.string (bs c.lang),.string (bs c.suffix),.int .i64 c.number] w fun e w'=>e=.returned (.tuple #[.string (bs (zfH c t)),.int .i64 (zeV t)])/\Kept w w':=by
 have HG:=Hd hg;have nh:=Hd (fun w h=>zg2 t w h ht);unfold SplitP at nh;have HT:=Hd hT;have HA:=Hd hA;have HE:=Hd hE;have HF:=Hd hF;have FP:=Hd (fun w h1 h2 h3 h4=>zBf c vA vE vF vY y w hy h1 h2 h3 h4 hs.1);unfold ValsP at FP;have A6:=Hd (fun k=>zEm c hs k);have C9:=Hd (fun k X S m es w h1 h2 h3 h4 h5=>zG8 c vA vE vF k X S m es w h1 h2 h3 h4 h5 hs.1.2.2.2.2.2.1);have hln:=zo6 t;have sb:Hi (∀p∈zhM t,p.txt.length<=100000):=fun p hp=>(by have:=(zv2 p hp).2.1;omega);have FQ:Hi (zfH c t=zrI (zhM t) (znP c)):=rfl;have G5:Hi (zeV t≠0->zfH c t=[]):=fun h=>by
  have:zhM t=[]:=(by unfold zhM;rw[aa h]);unfold zfH;rw[this];rfl
 clear hg hT hA hE hF hs hy;generalize zfH c t=T at *;generalize zeV t=E at *;generalize zhM t=ps at *;generalize zgF c=sp at *;generalize znP c=val at *;unfold zfA zaK znF at FP ⊢;have xI:=Hd (aI w 50 #[.string (bs c.key),.string (bs c.type),vA,vE,vF]);have lg:=Hd (zaA w (.cells #[.string (bs c.key),.string (bs c.type),vA,vE,vF] 50));have mt:=Hd (aI (w.alloc (.cells #[.string (bs c.key),.string (bs c.type),vA,vE,vF] 50)) 28 (zaK vY y));have kT:=Hd (zaA (w.alloc (.cells #[.string (bs c.key),.string (bs c.type),vA,vE,vF] 50)) (.cells (zaK vY y) 28));unfold zaK at kT;have e1:(w.alloc (.cells #[.string (bs c.key),.string (bs c.type),vA,vE,vF] 50)).heap.size=w.heap.size+1:=b_;rw[e1]at mt;unfold zaK at mt;go_in;go_wp2_with fail;have oG:=Hd (xI.o.kept kT.o);have lD:=Hd (lg.o.trans kT.o);clear xI lg kT e1;generalize World.alloc (World.alloc _ _) _=w0 at mt oG lD ⊢;obtain⟨S,tu⟩:∃B,Hi (w.heap.size=B):=⟨_,rfl⟩;rw[tu.o]at mt oG ⊢;refine(nh.o _ (HG.o.kept lD.o)).mono ?_;rintro e w1 ⟨v,rfl,hp,ld⟩;have pt:=Hd hp;have rD:=Hd (lD.o.trans ld);have rb:=Hd (oG.o.kept ld);have Da:=Hd (mt.o.kept ld);obtain⟨ap,cp,rfl,hcp⟩:=hp.form;clear hp ld nh oG mt lD;by_cases hE0:E=0
 case neg =>
  have hE':(E==0)=false:=(by rw[ab];exact hE0);have uo:=Hd (G5.o hE0);clear hE0;go_wp2;go_ret2;exact⟨by rw[uo.o];rfl,rD.o⟩
 subst hE0;have hone:(#[.string (bs y.name),.bool y.numeric,.string (bs y.sort),.string (bs y.cite),.string (bs y.bare),.string (bs y.between),.string (bs y.begin_),.string (bs y.end_),.int .i64 y.most,vY]:Array Value).size=10:=rfl;go_wp2_with (first
  | (refine zaJ d_ 50 (.tmp 7) d_ S _ d_ rb.o _ dh rfl Tryz.sizeSrc ?_)
  | (refine zaJ d_ 28 (.tmp 8) d_ (S+1) _ d_ Da.o _ dx rfl Tryz.sizeSty ?_))
 refine(FP.o _ (HA.o.kept rD.o) (HE.o.kept rD.o) (HF.o.kept rD.o) (zeS HT.o rD.o)).mono ?_;rintro e w2 ⟨m,es,rfl,hmz,hmap,hget,ll⟩;have rE:=Hd (rD.o.trans ll);have oJ:=Hd (rb.o.kept ll);have qt:=Hd (pt.o.kept ll);have sA:=Hd hmap;have Db:=Hd hget;clear hmz hmap hget ll FP rb Da pt hone;have mk:=fun w=>ep (P:=prog) 141 w;go_wp2_with fail;have qd:=Hd (aI w2 138 #[.map (some m)]);have oD:=Hd (zaA w2 (.cells #[.map (some m)] 138));have sy:=Hd (jv (w2.alloc (.cells #[.map (some m)] 138)));have Dc:=Hd (zaA (w2.alloc (.cells #[.map (some m)] 138)) (.map #[] 0));have e1:(w2.alloc (.cells #[.map (some m)] 138)).heap.size=w2.heap.size+1:=b_;rw[e1]at sy;have G6:(w2.alloc (.cells #[.map (some m)] 138)).heap.size<=w2.heap.size+1:=(by rw[e1];exact aw _);clear e1;obtain⟨X,sw⟩:=gX w2.heap.size;rw[sw.o]at qd sy G6 ⊢;have oR:Hi (∀k w',Kept (w2.alloc (.cells #[.map (some m)] 138)) w'->Calls prog 73 #[.string (bs k),.pointer (some ⟨X,0,none⟩),.pointer (some ⟨S,0,none⟩)] w' fun e w''=>e=.returned (.string (bs (val k)))/\Kept w' w''):=fun k w' hk=>C9.o k X S m es w' ((qd.o.kept hk).cell 0 _ rfl) (sA.o.kept (oD.o.trans hk)) Db.o (oJ.o.kept (oD.o.trans hk)) (HF.o.kept (rE.o.trans (oD.o.trans hk)));have sc:=Hd (qt.o.kept oD.o);have Dd:=Hd (rE.o.trans oD.o);generalize World.alloc w2 _=wX at *;have mD:=Hd (zyL ps val);have th:Hi (zcT (ps.take 0) val=[]):=rfl;have nP:Hi (zcT (ps.take ps.length) val=zcT ps val):=(by show _=_;rw[bx (aw _)]);clear C9 sA Db oJ rE oD qt HT HA HE HF qd mk sw;obtain⟨D,vn⟩:=gX (X+1);rw[vn.o]at sy G6 ⊢
 (try simp only[zd8])
 go_loopw [42] (fun i wr=>∃k:Nat,k<=ps.length/\i=.int .i64 k/\Hi (MapV wr D (ze7 (zcT (ps.take k) val)))/\Hi (Kept wX wr)) (fun i _=>ps.length - (intOf i).toNat)
 .exact⟨0,ai _,rfl,sy.o,Dc.o⟩
 case round =>
  clear sy Dc;obtain⟨k,hk,rfl,HM,kO⟩:=hrel;by_cases kV:k<ps.length
  .have hx:=ac kV;obtain⟨g,o,rfl,hg,d0,d1,d2⟩:=(sc.o.kept kO.o).cell_of k _ hx;have mj:=Hd (mD.o k kV);generalize ps[k]=p at *;obtain⟨x,f,gr⟩:=p;simp only at d0 d1 d2 mj;clear hx;cases f with
   | false =>
    have pj:Hi (zcT (ps.take (k+1)) val=zcT (ps.take k) val):=(by show _=_;rw[mj.o];simp);have nQ:=Hd (HM.o.kept (zaA wr (.cells #[.string (bs x),.bool false,.int .i64 gr] 143)));have kX:=Hd (kO.o.trans (zaA wr (.cells #[.string (bs x),.bool false,.int .i64 gr] 143)));rw[<- pj.o]at nQ;clear HM kO mj;go_wp2;go_roundw
    .exact⟨k+1,a_,by go_num,nQ.o,kX.o⟩
    .simp [intOf];omega
   | true =>
    cases h3:(gr==0)with
    | true =>
     obtain rfl:gr=0:=(by simpa using h3);have pj:Hi (zcT (ps.take (k+1)) val=zcT (ps.take k) val):=(by show _=_;rw[mj.o];simp);have nQ:=Hd (HM.o.kept (zaA wr (.cells #[.string (bs x),.bool true,.int .i64 (0:Nat)] 143)));have kX:=Hd (kO.o.trans (zaA wr (.cells #[.string (bs x),.bool true,.int .i64 (0:Nat)] 143)));rw[<- pj.o]at nQ;clear HM kO mj h3;go_wp2;go_roundw
     .exact⟨k+1,a_,by go_num,nQ.o,kX.o⟩
     .simp [intOf];omega
    | false =>
     have h3':((gr:Int)==0)=false:=by
      rw[ab]at h3 ⊢;omega
     have Qn:((gr:Int) != 0)=true:=(by rw[bne,h3'];rfl);have Qo:0<gr:=(by rw[ab]at h3;omega);rw[h3]at mj;have A7:=Hd (HM.o.kept (zaA wr (.cells #[.string (bs x),.bool true,.int .i64 gr] 143)));have kZ:=Hd (kO.o.trans (zaA wr (.cells #[.string (bs x),.bool true,.int .i64 gr] 143)));have A8:=Hd (aI wr 143 #[.string (bs x),.bool true,.int .i64 gr]);have qd:=Hd (fun w' h=>oR.o x w' h);clear HM kO;cases hv:(val x==([]:Bs))with
     | false =>
      have pj:Hi (zcT (ps.take (k+1)) val=zcT (ps.take k) val):=(by show _=_;rw[mj.o,hv];simp);rw[<- pj.o]at A7;generalize val x=vx at *;go_wp2_with fail;refine k_ (qd.o _ kZ.o) fun w5 lU=>?_;have sa:=Hd (A7.o.kept lU);have lX:=Hd (kZ.o.trans lU);clear lU A7 kZ;go_wp2;go_roundw
      .exact⟨k+1,a_,by go_num,sa.o,lX.o⟩
      .simp [intOf];omega
     | true =>
      have pj:Hi (zcT (ps.take (k+1)) val=zcT (ps.take k) val++[(gr:Int)]):=(by show _=_;rw[mj.o,hv];rfl);have UP:Hi (∀w',MapV w' D (ze7 (zcT (ps.take k) val))->(Instr.mapUpdate 141 (.map (some D)) (.int .i64 gr) (.bool true)).run prog w'=.ok () (zo3 w' D (ze7 (zcT (ps.take (k+1)) val)))):=fun w' hm=>by
       rw[pj.o];cases hgv:zdL (ze7 (zcT (ps.take k) val)) (gr:Int)with
       | none =>
        rw[ze8,hgv];exact zI5 (P:=prog) dI bW w' _ _ gr (.bool true) hm hgv
       | some u =>
        have hu:u=.bool true:=by
         have:=zt0 (zcT (ps.take k) val) gr;rw[hgv]at this
         split at this
         .exact eG this
         .cases this
        subst hu;rw[ze8,hgv];exact zAE (P:=prog) dI bW w' _ _ gr (.bool true) hm hgv
      generalize val x=vx at *;go_wp2_with fail;refine k_ (qd.o _ kZ.o) fun w5 lU=>?_;have sa:=Hd (A7.o.kept lU);have lX:=Hd (kZ.o.trans lU);have c2:w5.cell? ⟨wr.heap.size,2,none⟩=some (.int .i64 gr):=(A8.o.kept lU).cell 2 _ rfl;have zc:=(A8.o.kept lU).lt;have up:=UP.o _ sa.o;have xJ:=Hd (ziI w5 D (ze7 (zcT (ps.take (k+1)) val)) sa.o.lt);have lH:=Hd (zb6 lX.o (zc7 w5 D (ze7 (zcT (ps.take (k+1)) val))) G6);clear lU A7 kZ;go_wp2;go_roundw
      .exact⟨k+1,a_,by go_num,xJ.o,lH.o⟩
      .simp [intOf];omega
  .obtain rfl:k=ps.length:=a_;rw[nP.o]at HM;have FR:=Hd (sc.o.kept kO.o);have mA:Hi (∀k w',Kept wr w'->Calls prog 73 #[.string (bs k),.pointer (some ⟨X,0,none⟩),.pointer (some ⟨S,0,none⟩)] w' fun e w''=>e=.returned (.string (bs (val k)))/\Kept w' w''):=fun k w' hk=>oR.o k w' (kO.o.trans hk);have tv:=Hd (Dd.o.trans kO.o);clear mD th nP oR sc Dd kO kV;obtain⟨DS,sW⟩:∃l,Hi (zcT ps val=l):=⟨_,rfl⟩;rw[sW.o]at HM;have qe:Hi (T=(ps.take ps.length).flatMap (zhI val DS)):=by
    show _=_;rw[FQ.o,bx (aw _)];unfold zrI;rw[sW.o]
   have vo:=Hd (zBj ps (zhI val DS));have qh:Hi (∀k,((ps.take k).flatMap (zhI val DS)).length<=2000000000000):=fun k=>by
    have h1:=zwC (ps.take k) (zhI val DS) 20000000 (fun p hp=>by
     unfold zhI
     split
     .simp
     .split
      .exact A6.o _
      .have:=sb.o p (eX hp);omega)
    have h2:(ps.take k).length<=100000:=(by rw[bw];omega);omega
   have rF:=Hd HM.o;have hwz:w.heap.size<=wr.heap.size:=tv.o.size;clear HM FQ sW;go_wp2_with fail
   (try simp only[zd8])
   obtain⟨wC,rfl⟩:∃wo:World,wo=wr:=⟨_,rfl⟩;go_loopw [66] (fun i wr=>∃k:Nat,k<=ps.length/\i=.int .i64 k/\Hi (Lib.IsBuilder 147 5 wC.heap.size wC.heap.size (Lib.byteCells ((ps.take k).flatMap (zhI val DS))) wr)/\Hi (Kept wC wr)) (fun i _=>ps.length - (intOf i).toNat)
   case atStart =>
    refine⟨0,ai _,rfl,?_,zaA _ _⟩;show Lib.IsBuilder _ _ _ _ _ _;refine .inl ⟨aw _,.slice none 0 0,?_,dg _ _ _ _,by simp [Value.ownBlock]⟩;exact el wC _
   case round =>
    obtain⟨k,hk,rfl,HB,kO⟩:=hrel;by_cases kV:k<ps.length
    .have hx:=ac kV;obtain⟨g,o,rfl,hg,d0,d1,d2⟩:=(FR.o.kept kO.o).cell_of k _ hx;have mj:=Hd (vo.o k kV);have sB:=Hd (sb.o _ (dm kV));generalize ps[k]=p at *;obtain⟨x,f,gr⟩:=p;simp only at d0 d1 d2 mj sB;have hfl:=qh.o k;generalize (ps.take k).flatMap (zhI val DS)=O at *;have A8:=Hd (zwB HB.o (zaA wr (.cells #[.string (bs x),.bool f,.int .i64 gr] 143)));have kZ:=Hd (kO.o.trans (zaA wr (.cells #[.string (bs x),.bool f,.int .i64 gr] 143)));have Qp:=Hd (aI wr 143 #[.string (bs x),.bool f,.int .i64 gr]);have lk:=zx0 (P:=prog) dI bW (wr.alloc (.cells #[.string (bs x),.bool f,.int .i64 gr] 143)) D (ze7 DS) (gr:Int) (.bool false) (fU _) (rF.o.kept kZ.o);rw[zg1]at lk;have J5:zhI val DS ⟨x,f,gr⟩=if DS.contains (gr:Int)=true then []else if f=true then val x else x:=rfl;rw[J5]at mj;clear J5;clear hx HB kO;cases nz:DS.contains (gr:Int)with
     | true =>
      rw[nz]at mj lk;simp only[jO,bN]at mj;clear nz;rw[<- mj.o]at A8;go_wp2;go_roundw
      .exact⟨k+1,a_,by go_num,A8.o,kZ.o⟩
      .simp [intOf];omega
     | false =>
      rw[nz]at mj lk;simp only[dr,fe]at mj;clear nz;cases f with
      | false =>
       simp only[dr,fe]at mj;go_wp2_with fail;refine(zjK wC.heap.size wC.heap.size _ x _ A8.o (by rw[gH];have:=sB.o;omega) kZ.o.size).mono ?_;rintro e w5 ⟨rfl,nR,pO⟩;have pK:Hi (Lib.IsBuilder 147 5 wC.heap.size wC.heap.size (Lib.byteCells ((ps.take (k+1)).flatMap (zhI val DS))) w5):=by
        refine .inr ?_;show Lib.BuilderAt _ _ _ _ _ _ _;rw[mj.o,zh8];exact nR
       have lX:=Hd (kZ.o.trans' pO);clear nR pO;go_wp2;go_roundw
       .exact⟨k+1,a_,by go_num,pK.o,lX.o⟩
       .simp [intOf];omega
      | true =>
       simp only[jO]at mj;have qd:=Hd (fun w' h=>mA.o x w' h);have hvl:=A6.o x;generalize val x=vx at qd mj hvl;go_wp2_with fail;refine k_ (qd.o _ kZ.o) fun w4 mu=>?_;have oO:=Hd (zwB A8.o mu);have mg:=Hd (kZ.o.trans mu);clear mu;go_wp2_with fail;refine(zjK wC.heap.size wC.heap.size _ vx _ oO.o (by rw[gH];omega) mg.o.size).mono ?_;rintro e w5 ⟨rfl,nR,pO⟩;have pK:Hi (Lib.IsBuilder 147 5 wC.heap.size wC.heap.size (Lib.byteCells ((ps.take (k+1)).flatMap (zhI val DS))) w5):=by
        refine .inr ?_;show Lib.BuilderAt _ _ _ _ _ _ _;rw[mj.o,zh8];exact nR
       have lX:=Hd (mg.o.trans' pO);clear nR pO;go_wp2;go_roundw
       .exact⟨k+1,a_,by go_num,pK.o,lX.o⟩
       .simp [intOf];omega
    .obtain rfl:k=ps.length:=a_;rw[<- qe.o]at HB;go_wp2_with fail;refine k_ (Tryz.Builder_String_any wC.heap.size wC.heap.size T _ HB.o kO.o.size) fun w5 nR=>?_;have lX:=Hd (tv.o.trans (kO.o.trans' nR));clear nR;go_wp2;go_ret2;exact⟨rfl,lX.o⟩
def fL:=@Prs.none_
end Go.Proofs.YtnldgmhdjancbaaGreatDoor
