/- Parts. -/
import Derived.Test.YtnldgmhdjancbaaGreatDoorW26
set_option linter.all false
set_option maxRecDepth 100000
set_option maxHeartbeats 12800000
namespace Go.Proofs.YtnldgmhdjancbaaGreatDoor
open Go.ChangeShapes Go.WideShapes Go.ChangeAt Go.RowKit Go.Joins Go.Proofs.Tryz
def ztK(a:Addr)(w:World)(v:Value)(h:w.cell? a=some v):a=⟨a.block,a.off,none⟩:=by
 obtain⟨b,o,s⟩:=a;cases s with
 | none=>rfl
 | some s =>
  exfalso;unfold World.cell? at h
  split at h
  .simp at h
  .cases h
def zhT(b o i k:Nat):((⟨b,o,none⟩:Addr).add i).add k=⟨b,o+i+k,none⟩:=by
 unfold Addr.add;by_cases h1:i=0<;>by_cases h2:k=0<;>simp [h1,h2]
def Light{H:Type}(t:TypeId)(d:DataW H):Prop:=∀m∈d.weights prog t,m<=140737488355328
def ze3{H:Type}{e:TypeId}{d:DataW H}{n:Nat}:∀{l:List (DataW H)},d∈l->n∈d.weights prog e->n∈DataW.weightsAll prog e l
 | [],h,_=>by cases h
 | x::r,h,hn=>by
  simp only[DataW.weightsAll,aV];rcases bj.1 h with q|q
  .subst q;exact .inl hn
  .exact .inr (ze3 q hn)
def Light.part{H:Type}{t:TypeId}{fs:Array Field}{ps:List (DataW H)}(ht:prog.underlying t=some (.struct fs))(h:Light t (.agg ps)){j:Nat}{u:TypeId}{d:DataW H}(hu:(fs.toList.map (·.type))[j]? = some u)(hd:ps[j]? = some d):Light u d:=by
 intro m hm;apply h;simp only[DataW.weights,ht];exact gl hu hd m hm
def Light.str{H:Type}{l:List UInt8}{t:TypeId}(h:Light t (DataW.lit (H:=H) (.string l))):l.length<=140737488355328:=h _ (by simp [DataW.weights])
section
variable {H:Type}{enc:TypeId×Value->H}{w:World}{base:Nat}{lv:Nat->Bool}{me:Bool}
def zaT{n:Nat}{v:Value}{y:DataW H×List MemPlace}(h:DataW.trod enc prog w base lv me n 9 [v]=some y)(hl:Light 9 y.1):∃l:Bs,v=.string (bs l)/\l.length<=140737488355328:=by
 obtain⟨s,h1,h2,h3⟩:=DataW.trod_string aq h;simp at h1;subst h2;exact⟨s.data.toList,h1,hl.str⟩
def zgX{α:Type}[Inhabited α]{t e:TypeId}{k mf:Nat}{v:Value}{y:DataW H×List MemPlace}(p:α->(Nat->Option Value)->Prop)(ht:prog.underlying t=some (.slice e))(hk:prog.cellsOf e=k)(hk0:0<k)(hel:∀n (cs:List Value) (z:DataW H×List MemPlace),cs.length=k->DataW.trod enc prog w base lv me n e cs=some z->Light e z.1->∃x,p x (fun j=>cs[j]?))(hby:1<=prog.bytesOf e)(h:DataW.trod enc prog w base lv me mf t [v]=some y)(oQ:Light t y.1):∃(xs:List α) (a:Option Addr) (c:Nat),v=.slice a xs.length c/\xs.length<=c/\xs.length<=140737488355328/\(0<xs.length->∃g o,a=some ⟨g,o,none⟩/\g<w.heap.size/\∀j x,xs[j]? = some x->∃f:Nat->Option Value,p x f/\∀i,i<k->w.cell? ⟨g,o+j * k+i,none⟩=f i)/\∀x∈xs,∃f,p x f:=by
 rcases Go.Deep.open_slice ht h with⟨h0,_⟩|⟨a,len,lJ,m,n,D,Pl,hcs,hb,hl,hm,hmm,hx,hi⟩
 .simp at h0;subst h0;exact⟨[],none,0,rfl,aw _,b_,fun q=>absurd q b_,b_⟩
 .simp at hcs;subst hcs;rw[hk]at hi;subst hx;have mh:len<=140737488355328:=by
   have h1:=oQ ((((List.range len).map D).length+((List.range (m - len)).map fun j=>D (len+j)).length) * prog.bytesOf e) (by simp [DataW.weights,ht]);have h2:len * 1<=(((List.range len).map D).length+((List.range (m - len)).map fun j=>D (len+j)).length) * prog.bytesOf e:=eC b_ hby
   omega
  have JO:∀i,i<len->Light e (D i):=by
   intro i hil n hn;apply oQ;simp only[DataW.weights,ht,bj,aV];exact .inr (.inl (ze3 (bQ.2 ⟨i,jm.2 hil,rfl⟩) hn))
  have each:∀i,i<len->∃x:α,∃f:Nat->Option Value,p x f/\a=⟨a.block,a.off,none⟩/\∀j,j<k->w.cell? ⟨a.block,a.off+i * k+j,none⟩=f j:=by
   have hspot:0<len->a=⟨a.block,a.off,none⟩:=by
    intro hpos;obtain⟨cs',hc,_⟩:=hi 0 (by rw[hmm];split<;>omega);obtain⟨_,nf,hat⟩:=fD hc;have e:(a.add (0 * k)).add 0=a:=(by unfold Addr.add;simp);have h0:=hat 0 a_;rw[e,ac a_]at h0;exact ztK a w _ h0
   intro i hil;obtain⟨cs',hc,htr⟩:=hi i (by rw[hmm];split<;>omega);obtain⟨_,nf,hat⟩:=fD hc;obtain⟨x,hx⟩:=hel n cs' _ nf htr (JO i hil);have ha:=hspot a_;refine⟨x,_,hx,ha,fun j hj=>?_⟩;have h1:=hat j hj;have h2:=zhT a.block a.off (i * k) j;rw[<- ha]at h2;rw[h2]at h1;exact h1
  obtain⟨f,hf⟩:=Go.Deep.choose_lt each;refine⟨(List.range len).map f,some a,lJ,b_,by simpa using hl,by simpa using mh,fun hpos=>?_,?_⟩
  .simp at hpos;obtain⟨f0,_,ha,hc0⟩:=hf 0 hpos;refine⟨a.block,a.off,by rw[<- ha],?_,fun j x hj=>?_⟩
   .obtain⟨cs',hc,_⟩:=hi 0 (by rw[hmm];split<;>omega);obtain⟨_,nf,hat⟩:=fD hc;have e:(a.add (0 * k)).add 0=a:=(by unfold Addr.add;simp);have h0:=hat 0 a_;rw[e,ac a_]at h0;exact ff w (a:=a) h0
   .rw[dy,cG]at hj;obtain⟨i,hi1,rfl⟩:=hj;obtain⟨hi2,hi3⟩:=ak.1 hi1;simp at hi2 hi3;subst hi3;obtain⟨g,hg,_,kR⟩:=hf j hi2;exact⟨g,hg,kR⟩
  .intro x hx;obtain⟨i,hi1,rfl⟩:=bQ.1 hx;obtain⟨g,hg,_⟩:=hf i (by simpa using hi1);exact⟨g,hg⟩
def Tryz.cellsPair:prog.cellsOf 46=2:=g_
def Tryz.cellsStr:prog.cellsOf 9=1:=g_
def zhG{mf:Nat}{v:Value}{y:DataW H×List MemPlace}(h:DataW.trod enc prog w base lv me mf 22 [v]=some y)(oQ:Light 22 y.1):∃ps:List Pr,Prs w v ps/\ps.length<=140737488355328/\∀q∈ps,q.1.length<=140737488355328/\q.2.length<=140737488355328:=by
 obtain⟨ps,a,c,rfl,h1,h2,h3,h4⟩:=zgX (α:=Pr) (fun q f=>f 0=some (.string (bs q.1))/\f 1=some (.string (bs q.2))/\q.1.length<=140737488355328/\q.2.length<=140737488355328) gh Tryz.cellsPair a_ (by
  intro n cs z hl ht hz;obtain⟨y0,y1,n',hx,_,h0,h1⟩:=Go.ChangeShapes.trod_struct2 jS ht
  match cs,hl with
  | [v0,v1],_ =>
   simp only[Tryz.cellsStr,dC,fi,da,cH]at h0 h1;obtain⟨q0,rfl,f0⟩:=zaT h0 (Light.part jS (by subst hx;exact hz) (j:=0) rfl rfl);obtain⟨q1,rfl,f1⟩:=zaT h1 (Light.part jS (by subst hx;exact hz) (j:=1) rfl rfl);exact⟨(q0,q1),rfl,rfl,f0,f1⟩) (dG g_) h oQ
 refine⟨ps,⟨a,c,rfl,h1,fun q=>?_⟩,h2,fun q hq=>?_⟩
 .obtain⟨g,o,ha,hg,hc⟩:=h3 q;refine⟨g,o,ha,hg,fun j x hx=>?_⟩;obtain⟨f,⟨p0,p1,_⟩,kR⟩:=hc j x hx;exact⟨(kR 0 a_).trans p0,(kR 1 a_).trans p1⟩
 .obtain⟨f,_,_,p⟩:=h4 q hq;exact p
end
end Go.Proofs.YtnldgmhdjancbaaGreatDoor

namespace Go.Proofs.YtnldgmhdjancbaaGreatDoor
open Go.RowKit Go.Proofs.Tryz
def FitS(s:SrcT):Prop:=s.key.length<=140737488355328/\s.type.length<=140737488355328/\s.author.length<=140737488355328/\s.editor.length<=140737488355328/\s.fields.length<=140737488355328 /\
 (∀f∈s.fields,f.1.length<=140737488355328/\f.2.length<=140737488355328)/\∀q∈s.author++s.editor,q.1.length<=140737488355328/\q.2.1.length<=140737488355328/\q.2.2.1.length<=140737488355328/\q.2.2.2.length<=140737488355328
end Go.Proofs.YtnldgmhdjancbaaGreatDoor

namespace Go.Proofs.YtnldgmhdjancbaaGreatDoor
open Go.ChangeShapes Go.WideShapes Go.ChangeAt Go.RowKit Go.Joins Go.Proofs.Tryz
instance:Inhabited SrcT:=⟨⟨[],[],[],[],[]⟩⟩
def Fit47(q:P4):Prop:=q.1.length<=140737488355328/\q.2.1.length<=140737488355328/\q.2.2.1.length<=140737488355328/\q.2.2.2.length<=140737488355328
section
variable {H:Type}{enc:TypeId×Value->H}{w:World}{base:Nat}{lv:Nat->Bool}{me:Bool}
def Tryz.cellsSrc:prog.cellsOf 50=5:=g_
def Tryz.cellsLp:prog.cellsOf 48=1:=g_
def Tryz.cellsLf:prog.cellsOf 22=1:=g_
def ztL{t:TypeId}{f0 f1 f2 f3 f4:Field}{mf:Nat}{cs:List Value}{x:DataW H×List MemPlace}(ht:prog.underlying t=some (.struct #[f0,f1,f2,f3,f4]))(h:DataW.trod enc prog w base lv me mf t cs=some x):∃y0 y1 y2 y3 y4 n,x.1=.agg [y0.1,y1.1,y2.1,y3.1,y4.1]/\DataW.trod enc prog w base lv me n f0.type ((cs.drop f0.offset).take (prog.cellsOf f0.type))=some y0/\DataW.trod enc prog w base lv me n f1.type ((cs.drop f1.offset).take (prog.cellsOf f1.type))=some y1/\DataW.trod enc prog w base lv me n f2.type ((cs.drop f2.offset).take (prog.cellsOf f2.type))=some y2/\DataW.trod enc prog w base lv me n f3.type ((cs.drop f3.offset).take (prog.cellsOf f3.type))=some y3/\DataW.trod enc prog w base lv me n f4.type ((cs.drop f4.offset).take (prog.cellsOf f4.type))=some y4:=by
 obtain⟨xs,n,_,rfl,hl,mh,hf⟩:=iq ht h
 match xs,mh with
 | [y0,y1,y2,y3,y4],_=>exact⟨y0,y1,y2,y3,y4,n,b_,by simpa using hf 0 f0 rfl,by simpa using hf 1 f1 rfl,by simpa using hf 2 f2 rfl,by simpa using hf 3 f3 rfl,by simpa using hf 4 f4 rfl⟩
def zoT{mf:Nat}{v:Value}{y:DataW H×List MemPlace}(h:DataW.trod enc prog w base lv me mf 48 [v]=some y)(oQ:Light 48 y.1):∃ps:List P4,Perss w v ps/\ps.length<=140737488355328/\∀q∈ps,Fit47 q:=by
 obtain⟨ps,a,c,rfl,h1,h2,h3,h4⟩:=zgX (α:=P4) (fun q f=>f 0=some (.string (bs q.1))/\f 1=some (.string (bs q.2.1))/\f 2=some (.string (bs q.2.2.1))/\f 3=some (.string (bs q.2.2.2))/\Fit47 q) fG Tryz.cellsPers a_ (by
  intro n cs z hl ht hz;obtain⟨y0,y1,y2,y3,n',hx,_,h0,h1,h2,h3⟩:=trod_struct4 gg ht
  match cs,hl with
  | [v0,v1,v2,v3],_ =>
   simp only[Tryz.cellsStr,dC,fi,da,cH]at h0 h1 h2 h3;obtain⟨q0,rfl,f0⟩:=zaT h0 (Light.part gg (by subst hx;exact hz) (j:=0) rfl rfl);obtain⟨q1,rfl,f1⟩:=zaT h1 (Light.part gg (by subst hx;exact hz) (j:=1) rfl rfl);obtain⟨q2,rfl,f2⟩:=zaT h2 (Light.part gg (by subst hx;exact hz) (j:=2) rfl rfl);obtain⟨q3,rfl,f3⟩:=zaT h3 (Light.part gg (by subst hx;exact hz) (j:=3) rfl rfl);exact⟨(q0,q1,q2,q3),rfl,rfl,rfl,rfl,f0,f1,f2,f3⟩) (dG g_) h oQ
 refine⟨ps,⟨a,c,rfl,h1,fun q=>?_⟩,h2,fun q hq=>?_⟩
 .obtain⟨g,o,ha,hg,hc⟩:=h3 q;refine⟨g,o,ha,hg,fun j x hx=>?_⟩;obtain⟨f,⟨p0,p1,p2,p3,_⟩,kR⟩:=hc j x hx;exact⟨(kR 0 a_).trans p0,(kR 1 a_).trans p1,(kR 2 a_).trans p2,(kR 3 a_).trans p3⟩
 .obtain⟨f,_,_,_,_,p⟩:=h4 q hq;exact p
def zDq{r:Reach}{b0:Nat}{v:Value}{d:DataW H}{p:List MemPlace}(hv:Value.okWide prog w r b0 26 v)(h:DataW.Trod enc prog w base lv me 26 v d p)(oQ:Light 26 d):∃ss:List SrcT,Srcs w v ss/\ss.length<=140737488355328/\∀s∈ss,FitS s:=by
 obtain⟨a0,l0,c0,rfl⟩:=okWide_slice ia hv;obtain⟨mf,hf⟩:=h;simp only[Value.cells]at hf;obtain⟨ss,a,c,hv2,h1,h2,h3,h4⟩:=zgX (α:=SrcT) (fun s f=>(∃vA vE vF,f 0=some (.string (bs s.key))/\f 1=some (.string (bs s.type))/\f 2=some vA/\f 3=some vE/\f 4=some vF/\Perss w vA s.author/\Perss w vE s.editor/\Prs w vF s.fields)/\FitS s) ia Tryz.cellsSrc a_ (by
  intro n cs z hl ht hz;obtain⟨y0,y1,y2,y3,y4,n',hx,h0,h1,h2,h3,h4⟩:=ztL dh ht
  match cs,hl with
  | [v0,v1,v2,v3,v4],_ =>
   simp only[Tryz.cellsStr,Tryz.cellsLp,Tryz.cellsLf,dC,fi,da,cH]at h0 h1 h2 h3 h4;obtain⟨q0,rfl,f0⟩:=zaT h0 (Light.part dh (by rw[hx]at hz;exact hz) (j:=0) rfl rfl);obtain⟨q1,rfl,f1⟩:=zaT h1 (Light.part dh (by rw[hx]at hz;exact hz) (j:=1) rfl rfl);obtain⟨q2,p2,l2,f2⟩:=zoT h2 (Light.part dh (by rw[hx]at hz;exact hz) (j:=2) rfl rfl);obtain⟨q3,p3,l3,f3⟩:=zoT h3 (Light.part dh (by rw[hx]at hz;exact hz) (j:=3) rfl rfl);obtain⟨q4,p4,l4,f4⟩:=zhG h4 (Light.part dh (by rw[hx]at hz;exact hz) (j:=4) rfl rfl);refine⟨⟨q0,q1,q2,q3,q4⟩,⟨v2,v3,v4,rfl,rfl,rfl,rfl,rfl,p2,p3,p4⟩,?_⟩;exact⟨f0,f1,l2,l3,l4,f4,fun q hq=>(aV.1 hq).elim (fun h=>f2 q h) (fun h=>f3 q h)⟩) (dG g_) hf oQ
 refine⟨ss,⟨a,c,hv2,h1,fun q=>?_⟩,h2,fun s hs=>?_⟩
 .obtain⟨g,o,ha,hg,hc⟩:=h3 q;refine⟨g,o,ha,hg,fun j x hx=>?_⟩;obtain⟨f,⟨⟨vA,vE,vF,p0,p1,p2,p3,p4,p5⟩,_⟩,kR⟩:=hc j x hx;exact⟨vA,vE,vF,(kR 0 a_).trans p0,(kR 1 a_).trans p1,(kR 2 a_).trans p2,(kR 3 a_).trans p3,(kR 4 a_).trans p4,p5⟩
 .obtain⟨f,_,p⟩:=h4 s hs;exact p
end
def Tryz.cellsIntY:prog.cellsOf 3=1:=g_
def Tryz.cellsBoolY:prog.cellsOf 4=1:=g_
def zKp{n:Int}(h:(Lit.int .i64 n).wf=true): -9223372036854775808<=n/\n<=9223372036854775807:=by
 have:=h;simp [Lit.wf,IntKind.min,IntKind.max,IntKind.signed,IntKind.bits]at this;omega
section
variable {H:Type}{enc:TypeId×Value->H}{w:World}{base:Nat}{lv:Nat->Bool}{me:Bool}
def Tryz.cellsLfYY:prog.cellsOf 22=1:=g_
def zF4{n:Nat}{v:Value}{y:DataW H×List MemPlace}(h:DataW.trod enc prog w base lv me n 3 [v]=some y):∃i:Int,v=.int .i64 i /\ -9223372036854775808<=i/\i<=9223372036854775807:=by
 obtain⟨i,h1,_,h3⟩:=js bW h;simp at h1;exact⟨i,h1,zKp h3⟩
def zIF{n:Nat}{v:Value}{y:DataW H×List MemPlace}(h:DataW.trod enc prog w base lv me n 4 [v]=some y):∃b:Bool,v=.bool b:=by
 obtain⟨b,h1,_⟩:=DataW.trod_bool iH h;simp at h1;exact⟨b,h1⟩
def Tryz.cellsSty:prog.cellsOf 28=10:=g_
def FitY(y:StyT):Prop:=y.name.length<=140737488355328/\y.sort.length<=140737488355328/\y.cite.length<=140737488355328/\y.bare.length<=140737488355328/\y.between.length<=140737488355328/\y.begin_.length<=140737488355328/\y.end_.length<=140737488355328/\(-9223372036854775808<=y.most/\y.most<=9223372036854775807)/\y.entries.length<=140737488355328/\∀p∈y.entries,p.1.length<=140737488355328/\p.2.length<=140737488355328
def zF5{r:Reach}{b0:Nat}{v:Value}{d:DataW H}{p:List MemPlace}(hv:Value.okWide prog w r b0 28 v)(h:DataW.Trod enc prog w base lv me 28 v d p)(oQ:Light 28 d):∃(y:StyT) (vE:Value),v=zfA vE y/\Prs w vE y.entries/\FitY y:=by
 obtain⟨cs,rfl,ny⟩:=okWide_struct dx hv;rw[Tryz.cellsSty]at ny;obtain⟨l⟩:=cs;have h0:l.length=10:=ny;clear ny;obtain⟨x0,l1,rfl,h1⟩:=zaE h0;obtain⟨x1,l2,rfl,h2⟩:=zaE h1;obtain⟨x2,l3,rfl,h3⟩:=zaE h2;obtain⟨x3,l4,rfl,h4⟩:=zaE h3;obtain⟨x4,l5,rfl,h5⟩:=zaE h4;obtain⟨x5,l6,rfl,h6⟩:=zaE h5;obtain⟨x6,l7,rfl,h7⟩:=zaE h6;obtain⟨x7,l8,rfl,h8⟩:=zaE h7;obtain⟨x8,l9,rfl,h9⟩:=zaE h8;obtain⟨x9,l10,rfl,h10⟩:=zaE h9;obtain rfl:=bD.1 h10;clear h0 h1 h2 h3 h4 h5 h6 h7 h8 h9 h10;obtain⟨mf,hf⟩:=h;simp only[Value.cells]at hf;obtain⟨xs,n,_,hx,_,mh,hp⟩:=iq dx hf;have hlen':xs.length=10:=mh;obtain⟨y0,l1,rfl,h1⟩:=zaE hlen';obtain⟨y1,l2,rfl,h2⟩:=zaE h1;obtain⟨y2,l3,rfl,h3⟩:=zaE h2;obtain⟨y3,l4,rfl,h4⟩:=zaE h3;obtain⟨y4,l5,rfl,h5⟩:=zaE h4;obtain⟨y5,l6,rfl,h6⟩:=zaE h5;obtain⟨y6,l7,rfl,h7⟩:=zaE h6;obtain⟨y7,l8,rfl,h8⟩:=zaE h7;obtain⟨y8,l9,rfl,h9⟩:=zaE h8;obtain⟨y9,l10,rfl,h10⟩:=zaE h9;obtain rfl:=bD.1 h10;clear h1 h2 h3 h4 h5 h6 h7 h8 h9 h10 mh hlen';have g0:=hp 0 _ rfl;have g1:=hp 1 _ rfl;have g2:=hp 2 _ rfl;have g3:=hp 3 _ rfl;have g4:=hp 4 _ rfl;have g5:=hp 5 _ rfl;have g6:=hp 6 _ rfl;have g7:=hp 7 _ rfl;have g8:=hp 8 _ rfl;have g9:=hp 9 _ rfl;clear hp;simp only[Tryz.cellsStr,Tryz.cellsLfYY,Tryz.cellsIntY,Tryz.cellsBoolY,dC,fi,da,cH,List.getElem?_cons_zero,List.getElem?_cons_succ]at g0 g1 g2 g3 g4 g5 g6 g7 g8 g9;simp only[Prod.mk.injEq,bd,ca]at hx;obtain⟨hx,_⟩:=hx;subst hx;obtain⟨k0,rfl,f0⟩:=zaT g0 (Light.part dx oQ (j:=0) rfl rfl);obtain⟨k1,rfl⟩:=zIF g1;obtain⟨k2,rfl,f2⟩:=zaT g2 (Light.part dx oQ (j:=2) rfl rfl);obtain⟨k3,rfl,f3⟩:=zaT g3 (Light.part dx oQ (j:=3) rfl rfl);obtain⟨k4,rfl,f4⟩:=zaT g4 (Light.part dx oQ (j:=4) rfl rfl);obtain⟨k5,rfl,f5⟩:=zaT g5 (Light.part dx oQ (j:=5) rfl rfl);obtain⟨k6,rfl,f6⟩:=zaT g6 (Light.part dx oQ (j:=6) rfl rfl);obtain⟨k7,rfl,f7⟩:=zaT g7 (Light.part dx oQ (j:=7) rfl rfl);obtain⟨k8,rfl,f8⟩:=zF4 g8;obtain⟨k9,p9,m9,f9⟩:=zhG g9 (Light.part dx oQ (j:=9) rfl rfl);exact⟨⟨k0,k1,k2,k3,k4,k5,k6,k7,k8,k9⟩,x9,rfl,p9,f0,f2,f3,f4,f5,f6,f7,f8,m9,f9⟩
end
end Go.Proofs.YtnldgmhdjancbaaGreatDoor

namespace Go.Proofs.YtnldgmhdjancbaaGreatDoor
open Go.RowKit Go.Proofs.Tryz
def zjF{α:Type}{P:α->Prop}{l:List α}{k:Nat}{x:α}(hx:l[k]? = some x)(h:∀y∈l.take k,P y)(hp:P x):∀y∈l.take (k+1),P y:=by
 intro y hy;obtain⟨hk',rfl⟩:=ak.1 hx;rw[bf hk']at hy;rcases aV.1 hy with q|q
 .exact h y q
 .simp at q;subst q;exact hp
def zj7{w:World}{v:Value}{ps:List P4}(h:Perss w v ps):∃a c,v=.slice a ps.length c/\ps.length<=c:=by
 obtain⟨a,c,hv,hc,_⟩:=h;exact⟨a,c,hv,hc⟩
def zcH(n:Int)(h0 : -9223372036854775808<=n)(h1:n<=9223372036854775807):IntKind.i64.wrap n=n:=kI n a_
def zF6(l:List SrcT)(y:StyT):Prop:=l.length<=8/\(∀s∈l,FitL s)/\FewY y
def FewX(l:List SrcT)(y:StyT)(w:World)(e:Ending)(w':World):Prop:=∃b:Bool,e=.returned (.bool b)/\(b=true↔zF6 l y)/\Kept w w'
def FewX.no{l:List SrcT}{y:StyT}{w w':World}(h:¬ zF6 l y)(k:Kept w w'):FewX l y w (.returned (.bool false)) w':=⟨false,rfl,⟨(fun q=>by cases q),fun q=>absurd q h⟩,k⟩
def zz3(l:List SrcT)(y:StyT)(v vE:Value)(w:World)(hv:Srcs w v l)(hE:Prs w vE y.entries)(hl:l.length<=140737488355328)(hfs:∀s∈l,FitS s)(ye:FitY y):Calls prog 5 #[v,zfA vE y] w (FewX l y w):=by
 have HE:=Hd hE;have HV:=Hd hv;have FQ:=Hd hfs;obtain⟨y1,y2,y3,y4,y5,y6,y7,y8,y9,JP⟩:=ye;have Fb:=Hd JP;clear JP hfs;obtain⟨aE,cE,rfl,zE⟩:=hE.form;obtain⟨a,c,rfl,zV⟩:=(show∃a c,v=.slice a l.length c/\l.length<=c by obtain⟨a,c,e,q,_⟩:=hv;exact⟨a,c,e,q⟩);clear hE hv;have nV:Hi (∀w',¬ zF6 l y->Kept w w'->FewX l y w (.returned (.bool false)) w'):=fun w' h k=>FewX.no h k;have qj:Hi (∀w',l.length<=8->(∀s∈l,FitL s)->FewY y->Kept w w'->FewX l y w (.returned (.bool true)) w'):=fun w' h1 h2 h3 k=>⟨true,rfl,⟨fun _=>⟨h1,h2,h3⟩,fun _=>rfl⟩,k⟩;have qy:=Hd (aI w 28 (zaK (.slice aE y.entries.length cE) y));have lg:=Hd (zaA w (.cells (zaK (.slice aE y.entries.length cE) y) 28));unfold zfA;unfold zaK at qy lg ⊢;generalize hP:FewX l y w=P at *;clear hP;obtain⟨s1,mt⟩:∃s:Int,Hi ((y.cite.length:Int)+(y.bare.length:Int)=s):=⟨_,rfl⟩;obtain⟨s2,mb⟩:∃s:Int,Hi (s1+(y.between.length:Int)=s):=⟨_,rfl⟩;obtain⟨s3,oo⟩:∃s:Int,Hi (s2+(y.begin_.length:Int)=s):=⟨_,rfl⟩;obtain⟨s4,qm⟩:∃s:Int,Hi (s3+(y.end_.length:Int)=s):=⟨_,rfl⟩;obtain⟨s5,rg⟩:∃s:Int,Hi (s4+(y.sort.length:Int)=s):=⟨_,rfl⟩;obtain⟨s6,yH⟩:∃s:Int,Hi (s5+(y.name.length:Int)=s):=⟨_,rfl⟩;have e1:IntKind.i64.wrap ((y.cite.length:Int)+(y.bare.length:Int))=s1:=(by rw[zcH _ a_ a_];exact mt.o);have e2:IntKind.i64.wrap (s1+(y.between.length:Int))=s2:=(by have:=mt.o;rw[zcH _ a_ a_];exact mb.o);have e3:IntKind.i64.wrap (s2+(y.begin_.length:Int))=s3:=(by have:=mt.o;have:=mb.o;rw[zcH _ a_ a_];exact oo.o);have e4:IntKind.i64.wrap (s3+(y.end_.length:Int))=s4:=(by have:=mt.o;have:=mb.o;have:=oo.o;rw[zcH _ a_ a_];exact qm.o);have e5:IntKind.i64.wrap (s4+(y.sort.length:Int))=s5:=(by have:=mt.o;have:=mb.o;have:=oo.o;have:=qm.o;rw[zcH _ a_ a_];exact rg.o);have e6:IntKind.i64.wrap (s5+(y.name.length:Int))=s6:=(by have:=mt.o;have:=mb.o;have:=oo.o;have:=qm.o;have:=rg.o;rw[zcH _ a_ a_];exact yH.o);by_cases g1:8<l.length
 .go_enter kE,km;go_wp2_with fail;exact nV.o _ (fun h=>by have:=h.1;omega) lg.o
 by_cases g2:12<y.entries.length
 .go_enter kE,km;go_wp2_with fail;exact nV.o _ (fun h=>by have:=h.2.2.1;omega) lg.o
 by_cases g3:400<s6
 .go_enter kE,km;go_wp2_with fail;exact nV.o _ (fun h=>by have:=h.2.2.2.1;have:=mt.o;have:=mb.o;have:=oo.o;have:=qm.o;have:=rg.o;have:=yH.o;omega) lg.o
 have oT:Hi (y.cite.length+y.bare.length+y.between.length+y.begin_.length+y.end_.length+y.sort.length+y.name.length<=400):=by
  have:=mt.o;have:=mb.o;have:=oo.o;have:=qm.o;have:=rg.o;have:=yH.o;show _<=_;omega
 go_enter kE,km;go_wp2_with fail;clear e1 e2 e3 e4 e5 e6 mt mb oo qm rg yH g3;generalize w.alloc _=W0 at *;obtain⟨S,tu⟩:=gX w.heap.size;rw[tu.o]at qy ⊢;go_loopw [5] (fun i wr=>∃k:Nat,k<=y.entries.length/\i=.int .i64 k/\Hi (∀q∈y.entries.take k,q.1.length+q.2.length<=300)/\Hi (Kept W0 wr)) (fun i _=>y.entries.length - (intOf i).toNat)
 .exact⟨0,ai _,rfl,(fun q h=>by simp at h),af _⟩
 case round =>
  obtain⟨k,hk,rfl,HN,kO⟩:=hrel;have t9:wr.cell? ⟨S,9,none⟩=some (.slice aE y.entries.length cE):=(qy.o.kept kO.o).cell 9 _ rfl;have zS:=(qy.o.kept kO.o).lt;by_cases kV:k<y.entries.length
  .obtain⟨q,hx⟩:∃x,y.entries[k]? = some x:=⟨_,ac kV⟩;obtain⟨Fc,Fd⟩:=Fb.o q (am hx);obtain⟨g,o,rfl,hg',d0,d1,-,-⟩:=(HE.o.kept (lg.o.trans kO.o)).cell_of k q hx;have mj:=Hd (fun hp=>zjF (P:=fun q:Pr=>q.1.length+q.2.length<=300) hx HN.o hp);have Fe:=Hd (am hx);obtain⟨p1,p2⟩:=q;simp only at d0 d1 Fc Fd;clear hx;have hk0:(0:Int)<=(k:Int):=a_;have ld:(k:Int)<(y.entries.length:Int):=a_;have ll:((k:Int)).toNat=k:=a_;obtain⟨s1,mt⟩:∃s:Int,Hi ((p1.length:Int)+(p2.length:Int)=s):=⟨_,rfl⟩;have e1:IntKind.i64.wrap ((p1.length:Int)+(p2.length:Int))=s1:=(by rw[zcH _ a_ a_];exact mt.o);by_cases hbig:300<s1
   .have hd:decide ((300:Int)<s1)=true:=bJ hbig;go_wp2_with fail
    go_quiet (fail)
    go_wp2_with fail;exact nV.o _ (fun h=>by have h1:=h.2.2.2.2.1 _ Fe.o;have h2:=mt.o;simp only at h1;omega) (lg.o.trans (kO.o.trans (zaB _ _)))
   .have hd:decide ((300:Int)<s1)=false:=bH hbig;have rg:=Hd (mj.o (by have h1:=mt.o;show p1.length+p2.length<=300;omega));go_wp2_with fail
    go_quiet (fail)
    go_wp2;go_roundw
    .exact⟨k+1,a_,by go_num,rg.o,kO.o.trans (zaB _ _)⟩
    .simp [intOf];omega
  .have CQ:Hi (FewY y):=⟨a_,oT.o,(by have h:=HN.o;rw[bx a_]at h;exact h),y8⟩;have sd:=Hd (lg.o.trans kO.o);clear HN oT qy HE Fb;go_wp2_with fail;clear t9 zS kO;obtain⟨wo,rfl⟩:∃wo:World,wo=wr:=⟨_,rfl⟩;go_loopw [6] (fun i wr=>∃k:Nat,k<=l.length/\i=.int .i64 k/\Hi (∀s∈l.take k,FitL s)/\Hi (Kept wo wr)) (fun i _=>l.length - (intOf i).toNat)
   .exact⟨0,ai _,rfl,(fun q h=>by simp at h),af _⟩
   case round =>
    obtain⟨k,hk,rfl,HN,kO⟩:=hrel;by_cases kV:k<l.length
    .obtain⟨s,hx⟩:∃x,l[k]? = some x:=⟨_,ac kV⟩;obtain⟨l1,l2,l3,l4,l5,l6,l7⟩:=FQ.o s (am hx);have Am:=Hd l6;have GD:=Hd l7;have mj:=Hd (fun hp=>zjF (P:=FitL) hx HN.o hp);have pJ:=Hd (am hx);have oD:=Hd (sd.o.trans kO.o);obtain⟨g,o,vA,vD,vF,rfl,mY,d0,d1,d2,d3,d4,hA,hD,hF⟩:=kF (HV.o.kept oD.o) k s hx;clear l6 l7 hx;obtain⟨aA,cA,rfl,zA⟩:=zj7 hA;obtain⟨aD,cD,rfl,zD⟩:=zj7 hD;obtain⟨aF,cF,rfl,zF⟩:=hF.form;have ud:=Hd (aI wr 50 #[.string (bs s.key),.string (bs s.type),.slice aA s.author.length cA,.slice aD s.editor.length cD,.slice aF s.fields.length cF]);have hks:=zaA wr (.cells #[.string (bs s.key),.string (bs s.type),.slice aA s.author.length cA,.slice aD s.editor.length cD,.slice aF s.fields.length cF] 50);have HA:=Hd (hA.kept hks);have HD:=Hd (hD.kept hks);have HF:=Hd (hF.kept hks);have pN:=Hd hks;clear hA hD hF hks;by_cases n1:5<s.author.length
     .go_wp2_with fail;exact nV.o _ (fun h=>by have:=(h.2.1 s pJ.o).1;omega) (oD.o.trans pN.o)
     by_cases n2:5<s.editor.length
     .go_wp2_with fail;exact nV.o _ (fun h=>by have:=(h.2.1 s pJ.o).2.1;omega) (oD.o.trans pN.o)
     by_cases n3:12<s.fields.length
     .go_wp2_with fail;exact nV.o _ (fun h=>by have:=(h.2.1 s pJ.o).2.2.1;omega) (oD.o.trans pN.o)
     by_cases n4:200<s.key.length+s.type.length
     .have n4':(200:Int)<(s.key.length:Int)+(s.type.length:Int):=a_;go_wp2_with fail;exact nV.o _ (fun h=>by have:=(h.2.1 s pJ.o).2.2.2.1;omega) (oD.o.trans pN.o)
     have n4':¬ (200:Int)<(s.key.length:Int)+(s.type.length:Int):=a_;go_wp2_with fail;clear d0 d1 d2 d3 d4;have lD:=Hd (kO.o.trans pN.o);generalize wr.alloc _=W1 at *;obtain⟨B,mW⟩:=gX wr.heap.size;rw[mW.o]at ud ⊢;go_loopw [8] (fun i wq=>∃j:Nat,j<=s.fields.length/\i=.int .i64 j/\Hi (∀q∈s.fields.take j,q.1.length+q.2.length<=200)/\Hi (Kept W1 wq)) (fun i _=>s.fields.length - (intOf i).toNat)
     .exact⟨0,ai _,rfl,(fun q h=>by simp at h),af _⟩
     case round =>
      obtain⟨j,hj,rfl,Cu,ri⟩:=hrel;have t4:wr.cell? ⟨B,4,none⟩=some (.slice aF s.fields.length cF):=(ud.o.kept ri.o).cell 4 _ rfl;have zB:=(ud.o.kept ri.o).lt;by_cases ox:j<s.fields.length
      .obtain⟨q,hx⟩:∃x,s.fields[j]? = some x:=⟨_,ac ox⟩;obtain⟨Fc,Fd⟩:=Am.o q (am hx);obtain⟨g,o,rfl,hg',d0,d1,-,-⟩:=(HF.o.kept ri.o).cell_of j q hx;have Fe:=Hd (am hx);have pj:=Hd (fun hp=>zjF (P:=fun q:Pr=>q.1.length+q.2.length<=200) hx Cu.o hp);obtain⟨p1,p2⟩:=q;simp only at d0 d1 Fc Fd;clear hx;have hk0:(0:Int)<=(j:Int):=a_;have ld:(j:Int)<(s.fields.length:Int):=a_;have ll:((j:Int)).toNat=j:=a_;obtain⟨s1,mt⟩:∃s:Int,Hi ((p1.length:Int)+(p2.length:Int)=s):=⟨_,rfl⟩;have e1:IntKind.i64.wrap ((p1.length:Int)+(p2.length:Int))=s1:=(by rw[zcH _ a_ a_];exact mt.o);by_cases hbig:200<s1
       .have hd:decide ((200:Int)<s1)=true:=bJ hbig;go_wp2_with fail
        go_quiet (fail)
        go_wp2_with fail;exact nV.o _ (fun h=>by have h1:=(h.2.1 s pJ.o).2.2.2.2.1 _ Fe.o;have h2:=mt.o;simp only at h1;omega) (oD.o.trans (pN.o.trans (ri.o.trans (zaB _ _))))
       .have hd:decide ((200:Int)<s1)=false:=bH hbig;have rg:=Hd (pj.o (by have h1:=mt.o;show p1.length+p2.length<=200;omega));go_wp2_with fail
        go_quiet (fail)
        go_wp2;go_roundw
        .exact⟨j+1,a_,by go_num,rg.o,ri.o.trans (zaB _ _)⟩
        .simp [intOf];omega
      .have Pf:Hi (∀q∈s.fields,q.1.length+q.2.length<=200):=(by have h:=Cu.o;rw[bx a_]at h;exact h);have D0:=Hd (lD.o.trans ri.o);have zY:=Hd (oD.o.trans (pN.o.trans ri.o));have zq:=Hd (ud.o.kept ri.o);have HA2:=Hd (HA.o.kept ri.o);have HD2:=Hd (HD.o.kept ri.o);clear Cu ud HA HD HF ri Am;go_wp2_with fail;have b2:wr.cell? ⟨B,2,none⟩=some (.slice aA s.author.length cA):=zq.o.cell 2 _ rfl;have b3:wr.cell? ⟨B,3,none⟩=some (.slice aD s.editor.length cD):=zq.o.cell 3 _ rfl;have z4:=zq.o.lt;clear t4 zB;have HC:Hi (∀w',Kept wr w'->w'.cell? ⟨B,2,none⟩=some (.slice aA s.author.length cA)/\w'.cell? ⟨B,3,none⟩=some (.slice aD s.editor.length cD)/\Kept wr w'):=fun w' h=>⟨(h.cell (p:=⟨B,2,none⟩) z4).trans b2,(h.cell (p:=⟨B,3,none⟩) z4).trans b3,h⟩;have k0:Kept wr (wr.alloc (.cells #[] 52)).drew:=(zaA wr _).trans (zaB _ 1);have Pg:Kept wr wr.drew:=zaB wr 1;have th:=Hd (fm (size:=4) (e:=52) wr #[] 0 (aw _) h_ b_).drew;have hsum:s.author.length+s.editor.length<=80:=a_
       go_region_held3 (fun w'=>w'.cell? ⟨B,2,none⟩=some (.slice aA s.author.length cA)/\w'.cell? ⟨B,3,none⟩=some (.slice aD s.editor.length cD)/\Kept wr w')
        ((refine HC.o _ ?_;with_reducible assumption))
        (first
         | (refine zfR _ rfl (.tmp 135) (.tmp 137) rfl wr.heap.size v1 s.author (by simp [Act.eval,Act.put]) ub.o _ s.editor (by simp [Act.eval,Act.put]) (HD2.o.kept k1) a_ k1.size ?_;intro v2 w2 lr mG;have mJ:=Hd lr;have k2:Kept wr w2:=k1.trans' (za2 ub.o mG k1.size);clear lr mG)
         | (refine zfR _ rfl (.tmp 132) (.tmp 134) rfl wr.heap.size _ [] (by simp [Act.eval,Act.put]) th.o _ s.author (by simp [Act.eval,Act.put]) (HA2.o.kept k0) e_ k0.size ?_;intro v1 w1 mx hgrow1;have ub:Hi (w1.ownsRow wr.heap.size 52 4 v1 s.author.length (zbW s.author)):=mx;have k1:Kept wr w1:=k0.trans' (za2 th.o hgrow1 k0.size);clear mx hgrow1))
       all_goals
        have JQ:=Hd (Perss.ownY mJ.o);obtain⟨a2,c2,rfl,hc2⟩:=zj7 JQ.o;have hln:(s.author++s.editor).length<=80:=(by rw[ah];omega);have oh:=Hd (zY.o.trans k2);have JR:=Hd (D0.o.trans k2);have qe:Hi ((∀q∈s.author++s.editor,zeB q<=200)->FitL s):=by
         show _->_;intro hp;exact⟨a_,a_,a_,a_,Pf.o,hp⟩
        clear k0 Pg k1 k2 th ub mJ b2 b3 z4 HC hsum zY D0 HA2 HD2 zq;obtain⟨ps,qI⟩:=gX (s.author++s.editor);rw[qI.o]at JQ GD hln hc2 qe ⊢;go_wp2_with fail;go_loopw [10] (fun i wz=>∃m:Nat,m<=ps.length/\i=.int .i64 m/\Hi (∀q∈ps.take m,zeB q<=200)/\Hi (Kept w2 wz)) (fun i _=>ps.length - (intOf i).toNat)
        .exact⟨0,ai _,rfl,(fun q h=>by simp at h),af _⟩
        case round =>
         obtain⟨m,hm,rfl,JS,xT⟩:=hrel;by_cases hlt3:m<ps.length
         .obtain⟨q,hx⟩:∃x,ps[m]? = some x:=⟨_,ac hlt3⟩;obtain⟨Fc,Fd,Ph,Pi⟩:=GD.o q (am hx);obtain⟨a',c',hv',hc',h3⟩:=JQ.o.kept xT.o;obtain⟨rfl,nj,rfl⟩:=bL hv';clear nj hc';obtain⟨g,o,rfl,hg',mU⟩:=h3 a_;obtain⟨d0,d1,d2,d3⟩:=mU m q hx;have Fe:=Hd (am hx);have JT:=Hd (fun hp=>zjF (P:=fun q=>zeB q<=200) hx JS.o hp);have CO:Hi (zeB q=q.1.length+q.2.1.length+q.2.2.1.length+q.2.2.2.length):=rfl;obtain⟨p1,p2,p3,p4⟩:=q;simp only at d0 d1 d2 d3 Fc Fd Ph Pi CO;clear mU h3 hv' hx;have hk0:(0:Int)<=(m:Int):=a_;have ld:(m:Int)<(ps.length:Int):=a_;have ll:((m:Int)).toNat=m:=a_;obtain⟨s1,mt⟩:∃s:Int,Hi ((p1.length:Int)+(p2.length:Int)=s):=⟨_,rfl⟩;obtain⟨s2,mb⟩:∃s:Int,Hi (s1+(p3.length:Int)=s):=⟨_,rfl⟩;obtain⟨s3,oo⟩:∃s:Int,Hi (s2+(p4.length:Int)=s):=⟨_,rfl⟩;have e1:IntKind.i64.wrap ((p1.length:Int)+(p2.length:Int))=s1:=(by rw[zcH _ a_ a_];exact mt.o);have e2:IntKind.i64.wrap (s1+(p3.length:Int))=s2:=(by have:=mt.o;rw[zcH _ a_ a_];exact mb.o);have e3:IntKind.i64.wrap (s2+(p4.length:Int))=s3:=(by have:=mt.o;have:=mb.o;rw[zcH _ a_ a_];exact oo.o);by_cases hbig:200<s3
          .have hd:decide ((200:Int)<s3)=true:=bJ hbig;go_wp2_with fail
           go_quiet (fail)
           go_wp2_with fail;exact nV.o _ (fun h=>by have h1:=(h.2.1 s pJ.o).2.2.2.2.2 _ (by rw[qI.o];exact Fe.o);have h2:=mt.o;have h3:=mb.o;have h4:=oo.o;simp only at h1;omega) (oh.o.trans (xT.o.trans (zaB _ _)))
          .have hd:decide ((200:Int)<s3)=false:=bH hbig;have rg:=Hd (JT.o (by have h1:=mt.o;have h2:=mb.o;have h3:=oo.o;have h4:=CO.o;show zeB _<=200;omega));go_wp2_with fail
           go_quiet (fail)
           go_wp2;go_roundw
           .exact⟨m+1,a_,by go_num,rg.o,xT.o.trans (zaB _ _)⟩
           .simp [intOf];omega
         .have tA:Hi (∀q∈ps,zeB q<=200):=(by have h:=JS.o;rw[bx a_]at h;exact h);have om:=Hd (mj.o (qe.o tA.o));have xW:=Hd (JR.o.trans xT.o);clear JS xT qe tA;go_wp2;go_roundw
          .exact⟨k+1,a_,by go_num,om.o,xW.o⟩
          .simp [intOf];omega
    .have zC:Hi (∀s∈l,FitL s):=(by have h:=HN.o;rw[bx a_]at h;exact h);go_wp2_with fail;exact qj.o _ a_ zC.o CQ.o (sd.o.trans kO.o)
def Lns.dp{S:Nat->Prop}:∀{n:Nat} {w:World} {v:Value} {xs:List Inl},Lns S n w v xs->dpI n xs
 | 0,_,_,_,h=>h.no
 | n+1,w,v,xs,h=>fun x hx=>by
  obtain⟨a,c,rfl,_⟩:=h.form;obtain⟨j,hj⟩:=i9.1 hx;obtain⟨_,_,_,_,_,_,_,_,_,_,_,_,_,_,_,_,_,_,hk⟩:=fX h j x hj;exact Lns.dp hk
def Bls.dp{S:Nat->Prop}{m:Nat}:∀{n:Nat} {w:World} {v:Value} {xs:List Blo},Bls S m n w v xs->dpB m n xs
 | 0,_,_,_,h=>h.no
 | n+1,w,v,xs,h=>fun x hx=>by
  obtain⟨a,c,rfl,_⟩:=h.form;obtain⟨j,hj⟩:=i9.1 hx;obtain⟨_,_,_,_,_,_,_,_,_,_,_,_,_,_,_,hl,hk⟩:=gQ h j x hj;exact⟨hl.dp,hk.dp⟩
def zDr{xs:List Blo}(h:SmB xs):∀b∈zaQ xs,OkB b:=by
 intro b hb;obtain⟨⟨k1,k2⟩,k3⟩:=h.2 b hb;have k7:=zeJ k2;obtain⟨k8,k9,-⟩:=id k2;have hk:b.kids.length<=1000000:=by
  have h1:=zs2 _ b rfl hb;have h2:=zc5 b.kids;have h3:=h.list;omega
 have CP:(zaD b.line).length<=120:=(by have h1:=zhC xs b hb;have h2:=h.inls;omega);refine⟨⟨a_,a_,a_,a_,a_⟩,⟨a_,a_,hk⟩,fun s hs=>(by have:=zhF k2 hs;omega),fun p hp=>(by have:=zhB k2 hp;omega),a_,fun x hx=>?_⟩;obtain⟨j1,j2,j3,j4,j5,j6⟩:=k3 x hx;have j7:=zeJ j2;obtain⟨j8,j9,-⟩:=id j2;exact⟨⟨⟨a_,fun _=>by omega⟩,a_,a_,a_⟩,⟨a_,a_,a_,a_⟩,fun s hs=>by have:=zhF j2 hs;omega,fun p hp=>by have:=zhB j2 hp;omega,fun s hs=>by have:=j5 s hs;omega,fun p hp=>by have:=j6 p hp;omega⟩
def zDs{ys:List Blo}(h:∀x∈zaW ys,x.kind≠13):(zaW ys).flatMap zbV=[]:=List.flatMap_eq_nil_iff.2 fun x hx=>aa (h x hx)
def zF7{ys:List Blo}(h:∀x∈zaW ys,x.kind≠13):zbQ ys=[]:=by
 unfold zbQ zFz;rw[zDs h];rfl
def FilD.cits{ys:List Blo}(h:FilD ys):∀x∈zaW ys,x.cits.length<=1000000:=by
 intro x hx;rw[zjZ]at hx;obtain⟨b,hb,hx⟩:=ef.1 hx;exact bC ((h.ok b hb).2.2.2.2.2 x hx).2.1.2.2.2 c_
def zDt{y:StyT}(h:zcU y=0):lnB y.begin_=true/\lnB y.between=true/\lnB y.end_=true:=by
 unfold zcU at h
 split at h
 .cases h
 split at h
 .cases h
 split at h
 .rename_i q;exact absurd h q
 split at h
 .rename_i q;exact absurd h q
 split at h
 .cases h
 .rename_i q;exact⟨by cases hb:lnB y.begin_ with|true=>rfl|false=>exact absurd (.inr (.inl hb)) q,by cases hb:lnB y.between with|true=>rfl|false=>exact absurd (.inl hb) q,by cases hb:lnB y.end_ with|true=>rfl|false=>exact absurd (.inr (.inr hb)) q⟩
def zz4{y:StyT}{l:List SrcT}{ks:List Bs}(h:zhJ y l ks=0):zcU y=0/\zdA l=0:=by
 unfold zhJ at h
 split at h
 .rename_i q;exact absurd h q
 rename_i q
 split at h
 .rename_i q2;exact absurd h q2
 rename_i q2;exact⟨dR.1 q,dR.1 q2⟩
def zF8{y:StyT}{lang:Bs}{l:List SrcT}{m n:Nat}{ms:List Pr}{xs:List Blo}(h0:zhJ y l (zbQ xs)=0)(hf:zF6 l y)(hs:SmB xs)(hd:dpB m n xs)(hm:m≠0)(hc:zDo m n ms xs=0):FilD (zcK (fiC y lang l (zbQ xs)) m n xs)/\zDo m n ms (zcK (fiC y lang l (zbQ xs)) m n xs)=0:=by
 obtain⟨hy,hk⟩:=zz4 h0;obtain⟨hl,hfl,hfw⟩:=hf;have hn:(zbQ xs).Nodup:=zm8 _;obtain⟨b1,b2,b3⟩:=zDt hy;have hq:=zC4 hy lang hl hn hfw hfl;have nf:=zC5 hy lang hl hn b1 b2 b3 hk;have he:=zC3 hy lang hl hn;exact⟨zJy hq he m n hs,zIl hq nf he zJ2 m n hm ms hs hd hc⟩
def f10(vL vK:Value)(B d:Nat)(r:Int)(PA PB:Int->Prop):Nat->(Nat->Value)->World->Prop
 | 0,V,_=>V 0=.int .i64 r
 | 1,V,_=>V 1=.pointer (some ⟨B,9,none⟩)
 | 2,V,_=>V 2=vL
 | 3,V,_=>∃r1,V 3=.int .i64 r1/\PA r1
 | 4,V,_=>V 4=.pointer (some ⟨B,10,none⟩)
 | 5,V,_=>V 5=vK
 | 6,V,_=>V 6=.int .i64 (d:Int)
 | 7,V,_=>V 7=.int .i64 ((d:Int)+1)
 | 8,V,_=>∃r2,V 8=.int .i64 r2/\PB r2
 | 9,V,_=>∃r1 r2,V 9=.int .i64 (r1+r2)/\PA r1/\PB r2
 | 10,V,_=>∃r1 r2,V 10=.int .i64 (r+(r1+r2))/\PA r1/\PB r2
 | _,_,_=>True
def zJQ{ops:Array Oper}{id:Nat}{a:Act}{wr:World}{Q:Exit->Act->World->Prop}(vL vK:Value)(B d:Nat)(r:Int)(PA PB:Int->Prop)(hc:zyU ops 12 11 #[[0,1,2,3,4,5,6,7,8,9,10]] #[[],[],[1],[2],[],[4],[],[6],[5,7],[3,8],[0,9],[10]] 63=true)(p0:OpAt ops 0 (.move (.tmp 5)) (some 51))(p1:OpAt ops 1 (.fieldAddr 42 (.tmp 7) 7) (some 52))(p2:OpAt ops 2 (.load 40 (.tmp 52)) (some 53))(p3:OpAt ops 3 (.call { callee:=.value (.func 29),args:=#[.tmp 53,.const (.int .i64 0)],argTypes:=#[40,3] }) (some 54))
  (p4:OpAt ops 4 (.fieldAddr 42 (.tmp 7) 8) (some 55)) (p5:OpAt ops 5 (.load 23 (.tmp 55)) (some 56)) (p6:OpAt ops 6 (.move (.tmp 1)) (some 57))
  (p7:OpAt ops 7 (.binOp .add 3 (.tmp 57) (.const (.int .i64 1)) 3) (some 58))
  (p8:OpAt ops 8 (.call { callee:=.value (.func 11),args:=#[.tmp 56,.tmp 58],argTypes:=#[23,3] }) (some 59))
  (p9:OpAt ops 9 (.binOp .add 3 (.tmp 54) (.tmp 59) 3) (some 60)) (p10:OpAt ops 10 (.binOp .add 3 (.tmp 51) (.tmp 60) 3) (some 61)) (D2:OpAt ops 11 (.assign (.tmp 61)) (some 5))
  (hz:63<=a.tmps.size) (h5:a.eval (.tmp 5)=.int .i64 r) (h7:a.eval (.tmp 7)=.pointer (some ⟨B,0,none⟩)) (h1:a.eval (.tmp 1)=.int .i64 (d:Int)) (hd:d<=21) (hr:0<=r/\r<1000)
  (hB:B<wr.heap.size) (c9:wr.cell? ⟨B,9,none⟩=some vL) (c10:wr.cell? ⟨B,10,none⟩=some vK)
  (L2:∀z,PA z->0<=z/\z<=10000000000000000) (L3:∀z,PB z->0<=z/\z<=1000000000000000000)
  (HA:Hi (∀w',Kept wr w'->Calls prog 29 #[vL,.int .i64 0] w' fun e w''=>∃z,e=.returned (.int .i64 z)/\PA z/\Kept w' w''))
  (HB:Hi (∀w',Kept wr w'->Calls prog 11 #[vK,.int .i64 ((d:Int)+1)] w' fun e w''=>∃z,e=.returned (.int .i64 z)/\PB z/\Kept w' w''))
  (hend:∀(V:Nat->Value) w' r1 r2,V 11=.int .i64 (r+(r1+r2))->PA r1->PB r2->Kept wr w'->Q .normal ((((((((((((a.put (some 51) (V 0)).put (some 52) (V 1)).put (some 53) (V 2)).put (some 54) (V 3)).put (some 55) (V 4)).put (some 56) (V 5)).put (some 57) (V 6)).put (some 58) (V 7)).put (some 59) (V 8)).put (some 60) (V 9)).put (some 61) (V 10)).put (some 5) (V 11)) w') :
  (Code.region id ops true).wp prog Q a wr:=by
 have e0:=zaF p0;have e1:=zaF p1;have e2:=zaF p2;have e3:=zaF p3;have e4:=zaF p4;have e5:=zaF p5;have e6:=zaF p6;have e7:=zaF p7;have e8:=zaF p8;have e9:=zaF p9;have e10:=zaF p10;have e11:=zaF D2;refine zbT 12 11 63 _ _ hc d_ hz (f10 vL vK B d r PA PB) (fun w=>Kept wr w/\True) Kept
  (fun V w=>∃r1 r2,V 11=.int .i64 (r+(r1+r2))/\PA r1/\PB r2/\Kept wr w) ?_ ?_ ?_ ?_ ?_ ?_ ?_ ?_ ?_
 .intro j hj V V' w hV h;have hjj:=hV j (.inl rfl);obtain rfl|rfl|rfl|rfl|rfl|rfl|rfl|rfl|rfl|rfl|rfl|rfl:j=0\/j=1\/j=2\/j=3\/j=4\/j=5\/j=6\/j=7\/j=8\/j=9\/j=10\/j=11:=a_
  all_goals (simp only[f10]at h ⊢;try (rw[<- hjj];exact h))
 .intro V V' w hV h;rw[<- hV 11 (.inl rfl)];exact h
 .intro j hj lV V w w' h k;obtain rfl|rfl|rfl|rfl|rfl|rfl|rfl|rfl|rfl|rfl|rfl:j=0\/j=1\/j=2\/j=3\/j=4\/j=5\/j=6\/j=7\/j=8\/j=9\/j=10:=a_
  all_goals exact h
 .intro j hj lV hni;exfalso;apply hni;have:j<11:=a_;simp only[Array.getD,dQ];obtain rfl|rfl|rfl|rfl|rfl|rfl|rfl|rfl|rfl|rfl|rfl:j=0\/j=1\/j=2\/j=3\/j=4\/j=5\/j=6\/j=7\/j=8\/j=9\/j=10:=a_
  all_goals simp
 .exact⟨zaB wr 1,trivial⟩
 .intro i hi lV V a' w' L4 hF hR hS K hK;have hG:=L4.1;have q9:w'.cell? ⟨B,9,none⟩=some vL:=(hG.cell (p:=⟨B,9,none⟩) hB).trans c9;have Pj:w'.cell? ⟨B,10,none⟩=some vK:=(hG.cell (p:=⟨B,10,none⟩) hB).trans c10;have mc:∀t,t=1\/t=7->∀j,j<12->zgH ops j≠some t:=by
   intro t ht j hj;obtain rfl|rfl|rfl|rfl|rfl|rfl|rfl|rfl|rfl|rfl|rfl|rfl:j=0\/j=1\/j=2\/j=3\/j=4\/j=5\/j=6\/j=7\/j=8\/j=9\/j=10\/j=11:=a_
   all_goals simp [e0,e1,e2,e3,e4,e5,e6,e7,e8,e9,e10,e11]
   all_goals omega
  have t7:=(hR 7 (mc 7 (.inr rfl))).trans h7;have t1:=(hR 1 (mc 1 (.inl rfl))).trans h1;have same:∀v,f10 vL vK B d r PA PB i (upd V i v) w'->K (a'.put (zgH ops i) v) w':=fun v h=>hK v w' (af _) L4 h;obtain rfl|rfl|rfl|rfl|rfl|rfl|rfl|rfl|rfl|rfl|rfl:i=0\/i=1\/i=2\/i=3\/i=4\/i=5\/i=6\/i=7\/i=8\/i=9\/i=10:=a_
  .exact zdC p0 ((hS 5 e11).trans h5) (same _ (zaG _ _ _))
  .refine zaP p1 (v:=.pointer (some ⟨B,9,none⟩)) (w':=w') (fun o1 ho=>?_) (same _ (zaG _ _ _));simp only[execOp,ho,t7];simp [go_sem,eb]
  .have z0:=((hF 1 b_).2 _ e1).trans (hF 1 b_).1;refine zaP p2 (v:=vL) (w':=w') (fun o1 ho=>?_) (same _ (zaG _ _ _));simp only[execOp,ho,z0];simp [go_sem,q9,dM]
  .have z0:=((hF 2 b_).2 _ e2).trans (hF 2 b_).1;refine zbU p3 (f:=29) (args:=#[vL,.int .i64 0]) (w':=w') (fun o1 ho=>?_) ((HA.o w' hG).mono fun e w'' ⟨z,he,hp,hk⟩=>⟨_,he,hK _ w'' hk ⟨hG.trans hk,trivial⟩ ⟨z,zaG _ _ _,hp⟩⟩);simp only[execOp,ho,resolve,ck,bd,ca,z0];simp [go_sem]
  .refine zaP p4 (v:=.pointer (some ⟨B,10,none⟩)) (w':=w') (fun o1 ho=>?_) (same _ (zaG _ _ _));simp only[execOp,ho,t7];simp [go_sem,eb]
  .have z0:=((hF 4 b_).2 _ e4).trans (hF 4 b_).1;refine zaP p5 (v:=vK) (w':=w') (fun o1 ho=>?_) (same _ (zaG _ _ _));simp only[execOp,ho,z0];simp [go_sem,Pj,eW]
  .exact zdC p6 t1 (same _ (zaG _ _ _))
  .have z0:=((hF 6 b_).2 _ e6).trans (hF 6 b_).1;refine zaP p7 (v:=.int .i64 ((d:Int)+1)) (w':=w') (fun o1 ho=>?_) (same _ (zaG _ _ _));have hwrap:(IntKind.i64).wrap ((d:Int)+1)=(d:Int)+1:=j_;simp only[execOp,ho,z0];simp [go_sem,hwrap]
  .have z0:=((hF 5 b_).2 _ e5).trans (hF 5 b_).1;have z1:=((hF 7 b_).2 _ e7).trans (hF 7 b_).1;refine zbU p8 (f:=11) (args:=#[vK,.int .i64 ((d:Int)+1)]) (w':=w') (fun o1 ho=>?_) ((HB.o w' hG).mono fun e w'' ⟨z,he,hp,hk⟩=>⟨_,he,hK _ w'' hk ⟨hG.trans hk,trivial⟩ ⟨z,zaG _ _ _,hp⟩⟩);simp only[execOp,ho,resolve,ck,bd,ca,z0,z1];simp [go_sem]
  .obtain⟨⟨r1,y1,y2⟩,y3⟩:=hF 3 b_;obtain⟨⟨r2,x1,x2⟩,x3⟩:=hF 8 b_;have z0:=(y3 _ e3).trans y1;have z1:=(x3 _ e8).trans x1;have b1:=L2 r1 y2;have b2:=L3 r2 x2;refine zaP p9 (v:=.int .i64 (r1+r2)) (w':=w') (fun o1 ho=>?_) (same _ ⟨r1,r2,zaG _ _ _,y2,x2⟩);have hwrap:(IntKind.i64).wrap (r1+r2)=r1+r2:=j_;simp only[execOp,ho,z0,z1];simp [go_sem,hwrap]
  .obtain⟨y1,y3⟩:=hF 0 b_;obtain⟨⟨r1,r2,x1,x2,x4⟩,x3⟩:=hF 9 b_;have z0:=(y3 _ e0).trans y1;have z1:=(x3 _ e9).trans x1;have b1:=L2 r1 x2;have b2:=L3 r2 x4;refine zaP p10 (v:=.int .i64 (r+(r1+r2))) (w':=w') (fun o1 ho=>?_) (same _ ⟨r1,r2,zaG _ _ _,x2,x4⟩);have hwrap:(IntKind.i64).wrap (r+(r1+r2))=r+(r1+r2):=j_;simp only[execOp,ho,z0,z1];simp [go_sem,hwrap]
 .intro V a' w' hG hF hR K hK;obtain⟨⟨r1,r2,q1,q2,q3⟩,q4⟩:=hF 10 b_;have z0:=(q4 _ e10).trans q1;exact zsO D2 z0 (hK _ _ ⟨r1,r2,zaG _ _ _,q2,q3,hG.1⟩)
 .intro i hi lV hni;exfalso;apply hni;have:i<11:=a_;obtain rfl|rfl|rfl|rfl|rfl|rfl|rfl|rfl|rfl|rfl|rfl:i=0\/i=1\/i=2\/i=3\/i=4\/i=5\/i=6\/i=7\/i=8\/i=9\/i=10:=a_
  all_goals simp
 .intro V w' ⟨r1,r2,g1,g2,g3,g4⟩ _;have:=hend V w' r1 r2 g1 g2 g3 g4;simp only[zc4,e0,e1,e2,e3,e4,e5,e6,e7,e8,e9,e10,e11];exact this
def hB(dep:Nat):Int:=1000+(21 - dep) * 9007199254740992
def zIG{dep:Nat}:hB dep=hB (dep+1)+9007199254740992:=by unfold hB;omega
def zJR{dep:Nat}:hB dep<=189151184349561832:=by unfold hB;omega
def zIH{dep:Nat}(h:dep<=21):1000<=hB dep:=by unfold hB;omega
def ztM(x:Blo):Prop:=x.text.length+x.info.length+x.dest.length+x.title.length<=300/\zdF x.id x.cls x.prs
instance okHdBD(x:Blo):Decidable (ztM x):=by unfold ztM;infer_instance
def zAj(g:List Inl->Int)(f:List Blo->Int):List Blo->Int->Int
 | [],m=>m
 | x::xs,m=>if m<1000 then(if ztM x then zAj g f xs (m+(g x.line+f x.kids))else 1000)else m
def zII(N:Nat):Nat->Nat->List Blo->Int
 | 0,d,_=>if 20<d then 1000 else 0
 | n+1,d,xs=>if 20<d\/200<xs.length then 1000 else zAj (zGu N 0) (zII N n (d+1)) xs xs.length
def zF9{g:List Inl->Int}{f:List Blo->Int}{xs:List Blo}{m:Int}(h:¬ m<1000):zAj g f xs m=m:=by
 cases xs with
 | nil=>rfl
 | cons x xs=>rw[zAj,aa h]
def zIJ{g:List Inl->Int}{f:List Blo->Int}{xs:List Blo}{k:Nat}{x:Blo}{m:Int}(hx:xs[k]? = some x)(h:m<1000):zAj g f (xs.drop k) m=if ztM x then zAj g f (xs.drop (k+1)) (m+(g x.line+f x.kids))else 1000:=by
 obtain⟨hk,rfl⟩:=ak.1 hx;rw[aJ hk,zAj,ae h]
def HvyP(N n:Nat)(xs:List Blo)(dep:Nat)(w:World)(e:Ending)(w':World):Prop :=
 ∃r:Int,e=.returned (.int .i64 r)/\0<=r/\r<=hB dep/\(r<1000->(zcE xs:Int)<=r/\∀x∈zaQ xs,zsW x)/\zII N n dep xs=r/\Kept w w'
def zDu(S:Nat->Prop)(N:Nat):∀(n:Nat) (xs:List Blo) (v:Value) (dep:Nat) (w:World),Bls S N n w v xs->dep<=21->xs.length<=140737488355328->(∀x∈zaQ xs,FitK x)->Calls prog 11 #[v,.int .i64 dep] w (HvyP N n xs dep w):=by
 intro n
 induction n with
 | zero =>
  intro xs v dep w hv hd hl hf;obtain rfl:=hv.no;obtain⟨a,c,rfl,hc⟩:=hv.form;have h1:=zIH hd;by_cases q1:20<dep
  .have lh:HvyP N 0 [] dep w (.returned (.int .i64 1000)) w:=⟨1000,rfl,a_,h1,fun q=>absurd q a_,ae q1,af w⟩;generalize hP:HvyP N 0 [] dep w=P at *;clear hv hP hf;go_enter jg,iR;go_wp2
   (try go_ret)
   exact lh
  .have lh:HvyP N 0 [] dep w (.returned (.int .i64 0)) w:=⟨0,rfl,a_,a_,fun _=>⟨fl _,fun x hx=>(bO hx).elim⟩,aa q1,af w⟩;generalize hP:HvyP N 0 [] dep w=P at *;clear hv hP hf;go_enter jg,iR;go_wp2_with fail;go_loopw [5,6] (fun m i wr=>m=.int .i64 0/\i=.int .i64 0/\w=wr) (fun _ i _=>1)
   .exact⟨rfl,rfl,rfl⟩
   case round =>
    obtain⟨rfl,rfl,rfl⟩:=hrel;go_wp2
    (try go_ret)
    exact lh
 | succ n ih =>
  intro xs v dep w hv hd hl hf;have HV:=Hd hv;have nD:=Hd ih;have HF:=Hd hf;unfold HvyP at nD;obtain⟨a,c,rfl,hc⟩:=hv.form;have h1:=zIH hd;obtain⟨RR,mR⟩:∃z,Hi (zII N (n+1) dep xs=z):=⟨_,rfl⟩;have qR:Hi (∀w',Kept w w'->RR=1000->HvyP N (n+1) xs dep w (.returned (.int .i64 1000)) w'):=fun w' k q=>⟨1000,rfl,a_,h1,fun q=>absurd q a_,by rw[mR.o];exact q,k⟩;have lh:Hi (∀(r:Int) w',0<=r->r<=hB dep->(r<1000->(zcE xs:Int)<=r/\∀x∈zaQ xs,zsW x)->RR=r->Kept w w'->HvyP N (n+1) xs dep w (.returned (.int .i64 r)) w'):=fun r w' k1 k2 k3 k4 k=>⟨r,rfl,k1,k2,k3,by rw[mR.o];exact k4,k⟩;generalize hP:HvyP N (n+1) xs dep w=P at *;clear hv hP hf ih;by_cases q1:20<dep
  .go_enter jg,iR;go_wp2
   (try go_ret)
   exact qR.o w (af w) (by rw[<- mR.o];exact ae (.inl q1))
  by_cases q2:200<xs.length
  .go_enter jg,iR;go_wp2
   (try go_ret)
   exact qR.o w (af w) (by rw[<- mR.o];exact ae (.inr q2))
  have oH:Hi (zAj (zGu N 0) (zII N n (dep+1)) xs xs.length=RR):=by
   show _=_;rw[<- mR.o];exact(aa a_).symm
  obtain⟨F,uf⟩:=gX (zII N n (dep+1));obtain⟨G,tE⟩:=gX (zGu N 0);rw[uf.o,tE.o]at oH;clear mR;have hw1:=zIH (show dep+1<=21 by omega);have hw2:=zJR (dep:=dep+1);have hw3:=zIG (dep:=dep);generalize hB dep=WD at *;obtain⟨WE,DT⟩:∃z,Hi (hB (dep+1)=z):=⟨_,rfl⟩;rw[DT.o]at hw1 hw2 hw3;clear h1;go_enter jg,iR;go_wp2_with fail;go_loopw [5,6] (fun m i wr=>∃(k:Nat) (r:Int),k<=xs.length/\i=.int .i64 k/\m=.int .i64 r/\0<=r/\r<=WD/\Hi (r<1000->((zcE (xs.take k)+(xs.length - k):Nat):Int)<=r/\∀x∈zaQ (xs.take k),zsW x)/\Hi (zAj G F (xs.drop k) r=RR)/\Hi (Kept w wr)) (fun _ i _=>xs.length - (intOf i).toNat)
  .exact⟨0,xs.length,ai _,rfl,rfl,a_,a_,fun _=>⟨by simp [zcE,zaQ,zaW],fun x hx=>(bO hx).elim⟩,oH.o,af w⟩
  case round =>
   obtain⟨k,r,hk,rfl,rfl,hr0,hr1,HR,lu,kO⟩:=hrel;by_cases kV:k<xs.length
   .by_cases hr2:r<1000
    .obtain⟨x,hx⟩:∃x,xs[k]? = some x:=⟨_,ac kV⟩;have HT:=Hd (zm0 hx);have vy:=Hd (zm1 hx);have tD:Hi ((if ztM x then zAj G F (xs.drop (k+1)) (r+(G x.line+F x.kids))else 1000)=RR):=(by show _=_;rw[<- zIJ hx hr2];exact lu.o);clear lu;have hmx:=zjB (am hx);have hfx:=HF.o x hmx.1;have qa:Hi (∀y∈zaQ x.kids,FitK y):=fun y hy=>HF.o y (hmx.2 y hy);obtain⟨g,o,vC,vP,vL,vK,rfl,mY,qC,-,-,⟨d0,d1,d2,d3,d4,d5,d6,d7,d8,d9,ui⟩,-,⟨hC,iC⟩,⟨oj,iP⟩,hL,hK⟩:=gQ (HV.o.kept kO.o) k x hx;clear hx hmx;obtain⟨X,HX⟩:=gX x;rw[HX.o]at HT vy tD;obtain⟨kL,kU,kW,kN,kP,title,id,cls,prs,kY,kM⟩:=x;simp only[Blo.kind,Blo.level,Blo.info,Blo.text,Blo.dest,Blo.title,Blo.id,Blo.cls,Blo.prs,Blo.line,Blo.kids]at d0 d1 d2 d3 d4 d5 d6 hC oj hL hK;obtain⟨⟨f1,f2,f3,f4⟩,f5,f6,f7,f8⟩:=hfx;simp only[Blo.kind,Blo.level,Blo.info,Blo.text,Blo.dest,Blo.title,Blo.id,Blo.cls,Blo.prs,Blo.line,Blo.kids]at f1 f2 f3 f4 f5 f6 f7 f8;have tR:Hi (X.kids=kM/\X.line=kY):=(by show _/\_;rw[<- HX.o];exact⟨rfl,rfl⟩);have wk:Hi (ztM X↔(kN.length+kW.length+kP.length+title.length<=300/\zdF id cls prs)):=(by show _↔_;rw[<- HX.o];exact Iff.rfl);have uV:Hi (ztM X->zAj G F (xs.drop (k+1)) (r+(G kY+F kM))=RR):=by
      show _->_;intro q;have h:=tD.o;rw[ae q,<- HX.o]at h;exact h
     have tY:Hi (¬ ztM X->RR=1000):=by
      show _->_;intro q;have h:=tD.o;rw[aa q]at h;exact h.symm
     clear tD;have DU:Hi (kN.length+kW.length+kP.length+title.length<=300->zdF id cls prs->(∀y∈zaD kY,zoP y)->zsW X):=by
      show _->_;intro a1 a2 a3;rw[<- HX.o];exact⟨⟨a1,a2⟩,a3⟩
     replace qa:Hi (∀y∈zaQ kM,FitK y):=qa.o;rw[tR.o.1]at HT vy;rw[tR.o.2]at vy;clear HX tR;have zK:=Hd f5;have CL:=Hd f8;clear f5 f8;obtain⟨aC,cC,rfl,lC⟩:=hC.shape;obtain⟨aP,cP,rfl,lP⟩:=oj.shape;obtain⟨aL,cL,rfl,lL⟩:=hL.form;obtain⟨aK,cK,rfl,lK⟩:=hK.form;have lj:=zaA wr (.cells #[.int .i64 kL,.int .i64 kU,.string (bs kW),.string (bs kN),.string (bs kP),.string (bs title),.string (bs id),.slice aC cls.length cC,.slice aP prs.length cP,.slice aL kY.length cL,.slice aK kM.length cK] 42);have HB:=Hd (aI wr 42 #[.int .i64 kL,.int .i64 kU,.string (bs kW),.string (bs kN),.string (bs kP),.string (bs title),.string (bs id),.slice aC cls.length cC,.slice aP prs.length cP,.slice aL kY.length cL,.slice aK kM.length cK]);have lD:=Hd (kO.o.trans lj);have HC:=Hd (hC.kept lj);have uW:=Hd (oj.kept lj);have HL:=Hd (hL.kept lj);have nI:=Hd (hK.kept lj);clear lj hC oj hL hK iC iP;by_cases q3:300<kN.length+kW.length+kP.length+title.length
     .have HE:=Hd (qR.o _ lD.o (tY.o (fun q=>by have:=(wk.o.1 q).1;omega)));clear kO;go_wp2
      (try go_ret)
      exact HE.o
     go_wp2_with fail;generalize wr.alloc (.cells #[.int .i64 kL,.int .i64 kU,.string (bs kW),.string (bs kN),.string (bs kP),.string (bs title),.string (bs id),.slice aC cls.length cC,.slice aP prs.length cP,.slice aL kY.length cL,.slice aK kM.length cK] 42)=w1 at *;generalize wr.heap.size=B at *;refine(zwT id cls prs _ _ w1 HC.o uW.o zK.o).mono ?_;rintro e w2 ⟨b,rfl,hb,ll⟩;have kX:=Hd (lD.o.trans ll);have lx:=Hd (HB.o.kept ll);have HL2:=Hd (HL.o.kept ll);have wl:=Hd (nI.o.kept ll);clear ll lD HB HL nI HC uW zK kO d0 d1 d2 d3 d4 d5 d6 d7 d8 d9 ui;cases b with
     | true =>
      have HE:=Hd (qR.o _ kX.o (tY.o (fun q=>by have:=hb.2 (wk.o.1 q).2;cases this)));go_wp2
      (try go_ret)
      exact HE.o
     | false =>
      have qD:=Hd (hb.1 rfl);clear hb;have nt:Hi (Kept w2 w2.drew):=zaB w2 1;have y9:w2.drew.cell? ⟨B,9,none⟩=some (.slice aL kY.length cL):=(lx.o.kept nt.o).cell 9 _ rfl;have JP:w2.drew.cell? ⟨B,10,none⟩=some (.slice aK kM.length cK):=(lx.o.kept nt.o).cell 10 _ rfl;have zB:B<w2.drew.heap.size:=(lx.o.kept nt.o).lt;have RQ:=zJj (dep:=0);have yg:Hi (∀w',Kept w2 w'->Calls prog 29 #[.slice aL kY.length cL,.int .i64 0] w' (WgtP N kY 0 w')):=fun w' k=>zuS S N kY _ 0 w' (HL2.o.kept k) a_ f6 CL.o;have L5:Hi (∀w',Kept w2 w'->Calls prog 11 #[.slice aK kM.length cK,.int .i64 ((dep:Int)+1)] w' fun e w''=>∃r:Int,e=.returned (.int .i64 r)/\0<=r/\r<=WE/\(r<1000->(zcE kM:Int)<=r/\∀x∈zaQ kM,zsW x)/\F kM=r/\Kept w' w''):=fun w' k=>by
       have h:=nD.o kM (.slice aK kM.length cK) (dep+1) w' (wl.o.kept k) a_ f7 qa.o;rw[DT.o,uf.o,show(((dep+1:Nat)):Int)=(dep:Int)+1 by omega]at h;exact h
      unfold WgtP at yg;rw[tE.o]at yg;clear HL2 wl qa nD CL HF HV;go_upto_region 10 with fail;refine zJQ (.slice aL kY.length cL) (.slice aK kM.length cK) B dep r (fun z=>(0<=z/\z<=5910974510924776)/\(z<1000->((zaD kY).length:Int)<=z/\(∀x∈zaD kY,zoP x))/\G kY=z) (fun z=>(0<=z/\z<=WE)/\(z<1000->(zcE kM:Int)<=z/\(∀x∈zaQ kM,zsW x))/\F kM=z) g_
       ⟨_,rfl,rfl,rfl,rfl⟩ ⟨_,rfl,rfl,rfl,rfl⟩ ⟨_,rfl,rfl,rfl,rfl⟩ ⟨_,rfl,rfl,rfl,rfl⟩ ⟨_,rfl,rfl,rfl,rfl⟩ ⟨_,rfl,rfl,rfl,rfl⟩ ⟨_,rfl,rfl,rfl,rfl⟩ ⟨_,rfl,rfl,rfl,rfl⟩ ⟨_,rfl,rfl,rfl,rfl⟩ ⟨_,rfl,rfl,rfl,rfl⟩ ⟨_,rfl,rfl,rfl,rfl⟩ ⟨_,rfl,rfl,rfl,rfl⟩
       b_ rfl rfl rfl hd ⟨hr0,hr2⟩ lx.o.lt (lx.o.cell 9 _ rfl) (lx.o.cell 10 _ rfl) (fun z h=>⟨h.1.1,by have:=h.1.2;omega⟩) (fun z h=>⟨h.1.1,by have:=h.1.2;omega⟩)
       (fun w' k=>(yg.o w' k).mono fun e w'' ⟨z,h1,h2,h3,h4,h6,h5⟩=>⟨z,h1,⟨⟨h2,a_⟩,h4,h6⟩,h5⟩)
       (fun w' k=>(L5.o w' k).mono fun e w'' ⟨z,h1,h2,h3,h4,h6,h5⟩=>⟨z,h1,⟨⟨h2,h3⟩,h4,h6⟩,h5⟩) ?_
      intro V wz r1 r2 hV ⟨⟨a1,a2⟩,ha,ha2⟩ ⟨⟨b1,b2⟩,hb,mV⟩ hkz;have In:Hi (zAj G F (xs.drop (k+1)) (r+(r1+r2))=RR):=by
       have h:=uV.o (wk.o.2 ⟨a_,qD.o⟩);show _=_;rw[<- h,ha2,mV]
      clear ha2 mV uV tY wk;have HA:=Hd ha;have mW:=Hd hb;have oh:=Hd hkz;rw[hV];clear ha hb hkz hV;have HN:Hi (r+(r1+r2)<1000->((zcE (xs.take (k+1))+(xs.length - (k+1)):Nat):Int)<=r+(r1+r2)/\∀x∈zaQ (xs.take (k+1)),zsW x):=by
       show _->_;intro q;obtain⟨c1,c2⟩:=HR.o a_;obtain⟨c3,c4⟩:=HA.o a_;obtain⟨c5,c6⟩:=mW.o a_;rw[HT.o,vy.o];refine⟨a_,fun y hy=>?_⟩;rcases aV.1 hy with hy|hy
       .rcases aV.1 hy with hy|hy
        .exact c2 y hy
        .rw[bu.1 hy];exact DU.o a_ qD.o c4
       .exact c6 y hy
      have lH:=Hd (kX.o.trans oh.o);clear HR DU qD HT vy yg L5 HA mW oh;simp only[Act.put,aj,ax,ay];go_wp2;go_roundw
      .exact⟨k+1,r+(r1+r2),a_,by go_num,rfl,a_,a_,HN.o,In.o,lH.o⟩
      .simp [intOf];omega
    .have HE:=Hd (lh.o r wr hr0 hr1 (fun q=>absurd q hr2) (by rw[<- lu.o];exact zF9 hr2) kO.o);clear HR kO;go_wp2
     (try go_ret)
     exact HE.o
   .obtain rfl:k=xs.length:=a_;have HE:=Hd (lh.o r wr hr0 hr1 (fun q=>by have h:=HR.o q;rw[bi]at h;exact⟨by have:=h.1;omega,h.2⟩) (by rw[<- lu.o,du];rfl) kO.o);clear HR kO;go_wp2
    (try go_ret)
    exact HE.o
def zJ3(N n:Nat)(ms:List Pr)(xs:List Blo):Prop:=ms.length<=70/\(∀p∈ms,p.1.length+p.2.length<=300)/\zII N n 0 xs<=120
def SmlX(N n:Nat)(ms:List Pr)(xs:List Blo)(w:World)(e:Ending)(w':World):Prop:=∃b:Bool,e=.returned (.bool b)/\(b=true->ms.length<=70/\(∀p∈ms,p.1.length+p.2.length<=300)/\SmB xs)/\(b=true↔zJ3 N n ms xs)/\Kept w w'
def zz5(S:Nat->Prop)(N n:Nat)(vM vB:Value)(ms:List Pr)(xs:List Blo)(w:World)(hM:Prs w vM ms)(hB:Bls S N n w vB xs)(hf:FitD0 ms xs):Calls prog 4 #[.agg #[vM,vB]] w (SmlX N n ms xs w):=by
 obtain⟨⟨f1,f2⟩,f3,f4⟩:=hf;have uj:=Hd f2;have HM:=Hd hM;obtain⟨aM,cM,rfl,lM⟩:=hM.shape;obtain⟨aB,cB,rfl,lB⟩:=hB.form;have ma:=Hd (aI w 25 #[.slice aM ms.length cM,.slice aB xs.length cB]);have HK:=Hd (zaA w (.cells #[.slice aM ms.length cM,.slice aB xs.length cB] 25));have GJ:=Hd (fun w' (k:Kept w w')=>zDu S N n xs (.slice aB xs.length cB) 0 w' (hB.kept k) a_ f3 f4);unfold HvyP at GJ;obtain⟨xA,JU⟩:∃z,Hi (zII N n 0 xs=z):=⟨_,rfl⟩;rw[JU.o]at GJ;have nV:Hi (∀w',Kept w w'->¬ (ms.length<=70/\∀p∈ms,p.1.length+p.2.length<=300)->SmlX N n ms xs w (.returned (.bool false)) w'):=fun w' k h=>⟨false,rfl,(fun h=>by cases h),⟨(fun q=>by cases q),fun q=>absurd ⟨q.1,q.2.1⟩ h⟩,k⟩;have qj:Hi (∀(r:Int) w',ms.length<=70->(∀p∈ms,p.1.length+p.2.length<=300)->(r<1000->(zcE xs:Int)<=r/\∀x∈zaQ xs,zsW x)->xA=r->Kept w w'->SmlX N n ms xs w (.returned (.bool (decide (r<=120)))) w'):=fun r w' h1 h2 h3 hr k=>⟨_,rfl,(fun h=>by
  have h:=dG h;obtain⟨h4,h5⟩:=h3 a_;exact⟨h1,h2,a_,h5⟩),⟨fun h=>⟨h1,h2,by rw[JU.o,hr];exact dG h⟩,fun h=>bJ (by have:=h.2.2;rw[JU.o,hr]at this;exact this)⟩,k⟩
 have hbz:=zJR (dep:=0);generalize hP:SmlX N n ms xs w=P at *;clear hP hM hB f2 f4;by_cases q1:70<ms.length
 .go_in;go_wp2
  (try go_ret)
  exact nV.o _ HK.o (fun h=>by have:=h.1;omega)
 go_in;go_wp2_with fail;generalize w.alloc (.cells #[.slice aM ms.length cM,.slice aB xs.length cB] 25)=w0 at *;generalize w.heap.size=B at *;go_loopw [3] (fun i wr=>∃(k:Nat),k<=ms.length/\i=.int .i64 k/\Hi (∀p∈ms.take k,p.1.length+p.2.length<=300)/\Hi (Kept w0 wr)) (fun i _=>ms.length - (intOf i).toNat)
 .exact⟨0,ai _,rfl,fun p hp=>(bO hp).elim,af _⟩
 case round =>
  obtain⟨k,hk,rfl,HS,kO⟩:=hrel;have b0:wr.cell? ⟨B,0,none⟩=some (.slice aM ms.length cM):=(ma.o.kept kO.o).cell 0 _ rfl;have b1:wr.cell? ⟨B,1,none⟩=some (.slice aB xs.length cB):=(ma.o.kept kO.o).cell 1 _ rfl;have RS:wr.drew.cell? ⟨B,0,none⟩=some (.slice aM ms.length cM):=b0;have z0:=(ma.o.kept kO.o).lt;by_cases kV:k<ms.length
  .obtain⟨x,hx⟩:∃x,ms[k]? = some x:=⟨_,ac kV⟩;obtain⟨g,o,rfl,hg,d0,d1,-,-⟩:=(HM.o.kept (HK.o.trans kO.o)).cell_of k x hx;obtain⟨od,hp2⟩:=uj.o x (am hx);have mb:Hi (x.1.length+x.2.length<=300->∀p∈ms.take (k+1),p.1.length+p.2.length<=300):=by
    show _->_;intro q p hp;rw[zaV hx]at hp;rcases aV.1 hp with r|r
    .exact HS.o p r
    .rw[bu.1 r];exact q
   have HBAD:Hi (300<x.1.length+x.2.length->¬ (ms.length<=70/\∀p∈ms,p.1.length+p.2.length<=300)):=by
    show _->_;intro q h;have:=h.2 x (am hx);omega
   clear hx HS;obtain⟨y,z⟩:=x;simp only at d0 d1 od hp2 mb HBAD;by_cases q2:300<y.length+z.length
   .go_wp2_with fail;go_region
    all_goals
     go_wp2
     (try go_ret)
     exact nV.o _ ((HK.o.trans kO.o).trans (zaB _ _)) (HBAD.o q2)
   .go_wp2_with fail;go_region
    all_goals
     go_wp2;go_roundw
     .exact⟨k+1,a_,by go_num,mb.o a_,kO.o.trans (zaB _ _)⟩
     .simp [intOf];omega
  .obtain rfl:k=ms.length:=a_;rw[bi]at HS;go_wp2_with fail;refine(GJ.o wr (HK.o.trans kO.o)).mono ?_;rintro e w5 ⟨r,rfl,k1,k2,hd,hex,lU⟩;have HF:=Hd (qj.o r w5 a_ HS.o hd hex ((HK.o.trans kO.o).trans lU));clear hd lU HS kO GJ hex;go_wp2
   (try go_ret)
   exact HF.o
def bV:=@Light.part
end Go.Proofs.YtnldgmhdjancbaaGreatDoor
