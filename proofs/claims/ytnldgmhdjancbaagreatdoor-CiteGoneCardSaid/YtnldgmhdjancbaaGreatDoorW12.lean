/- Parts. -/
import Derived.Test.YtnldgmhdjancbaaGreatDoorW11
import Derived.Laws.Cover4
set_option linter.all false
set_option maxRecDepth 100000
set_option maxHeartbeats 6400000
namespace Go.Proofs.YtnldgmhdjancbaaGreatDoor
open Go.RowKit Go.Proofs.Tryz
def Perss.sam{S:Nat->Prop}{w w':World}{v:Value}{xs:List P4}(h:Perss w v xs)(hi:InB S v xs.length)(k:Sam S w w'):Perss w' v xs:=by
 obtain⟨a,c,hv,hc,h3⟩:=h;refine⟨a,c,hv,hc,fun q=>?_⟩;obtain⟨g,o,ha,hg,kR⟩:=h3 q;have hs:S g:=hi q g (by rw[hv,ha];rfl);refine⟨g,o,ha,k.lt hg hs,fun j x hx=>?_⟩;rw[k.cell _ hg hs,k.cell _ hg hs,k.cell _ hg hs,k.cell _ hg hs];exact kR j x hx
def Perss.ltB{w:World}{v:Value}{xs:List P4}(h:Perss w v xs):InB (fun g=>g<w.heap.size) v xs.length:=fun q g hg=>by
 obtain⟨a,c,hv,hc,h3⟩:=h;obtain⟨g',o,ha,mY,_⟩:=h3 q;rw[hv,ha]at hg;have:g'=g:=(by simpa [Value.ownBlock]using hg);omega
def Perss.shape{w:World}{v:Value}{xs:List P4}(h:Perss w v xs):∃a c,v=.slice a xs.length c/\xs.length<=c:=by obtain⟨a,c,e,l,_⟩:=h;exact⟨a,c,e,l⟩
def Perss.at_{w:World}{a:Option Addr}{n c:Nat}{ps:List P4}(h:Perss w (.slice a n c) ps)(j:Nat)(q:P4)(hq:ps[j]? = some q):∃g o,a=some ⟨g,o,none⟩/\g<w.heap.size/\w.cell? ⟨g,o+j * 4,none⟩=some (.string (bs q.1))/\w.cell? ⟨g,o+j * 4+1,none⟩=some (.string (bs q.2.1))/\w.cell? ⟨g,o+j * 4+2,none⟩=some (.string (bs q.2.2.1))/\w.cell? ⟨g,o+j * 4+3,none⟩=some (.string (bs q.2.2.2)):=by
 obtain⟨a',c',hv,hc,h3⟩:=h;obtain⟨rfl,rfl,rfl⟩:=bL hv;obtain⟨hk,_⟩:=ak.1 hq;obtain⟨g,o,ha,hg,kR⟩:=h3 a_;exact⟨g,o,ha,hg,kR j q hq⟩
def SrcL(S:Nat->Prop)(w:World)(vA vE vF:Value)(x:SrcT):Prop:=(Perss w vA x.author/\InB S vA x.author.length)/\(Perss w vE x.editor/\InB S vE x.editor.length)/\(Prs w vF x.fields/\InB S vF x.fields.length)
def SrcL.sam{S S':Nat->Prop}{w w':World}{vA vE vF:Value}{x:SrcT}(h:SrcL S w vA vE vF x)(k:Sam S w w')(hS:∀g,g<w.heap.size->S g->S' g):SrcL S' w' vA vE vF x:=by
 obtain⟨⟨a1,a2⟩,⟨b1,b2⟩,c1,c2⟩:=h;exact⟨⟨a1.sam a2 k,a2.mono fun g hg q r=>hS g (a1.ltB q g hg) r⟩,⟨b1.sam b2 k,b2.mono fun g hg q r=>hS g (b1.ltB q g hg) r⟩,c1.sam c2 k,c2.mono fun g hg q r=>hS g (c1.ltB q g hg) r⟩
def SrcK(S:Nat->Prop)(w:World)(cs:List Value)(x:SrcT):Prop:=∃vA vE vF,cs=[.string (bs x.key),.string (bs x.type),vA,vE,vF]/\SrcL S w vA vE vF x
def zDG:ReadK SrcK:=⟨fun⟨vA,vE,vF,h1,h2⟩ k hS=>⟨vA,vE,vF,h1,h2.sam k hS⟩,fun⟨vA,vE,vF,h1,h2⟩ u hu=>by
 obtain⟨⟨a1,_⟩,⟨b1,_⟩,c1,_⟩:=h2;obtain⟨a,c,rfl,_⟩:=a1;obtain⟨a,c,rfl,_⟩:=b1;obtain⟨a,c,rfl,_⟩:=c1;rw[h1]at hu;simp only[bj,bO,ej]at hu;rcases hu with rfl|rfl|rfl|rfl|rfl<;>rfl⟩
structure SorT where
 k:KeyT
 src:SrcT
def zIR(x:SorT)(vA vE vF:Value):List Value:=[.string (bs x.k.author),.int .i64 x.k.year,.string (bs x.k.title),.string (bs x.k.key),.string (bs x.src.key),.string (bs x.src.type),vA,vE,vF]
def SorK(S:Nat->Prop)(w:World)(cs:List Value)(x:SorT):Prop:=∃vA vE vF,cs=zIR x vA vE vF/\SrcL S w vA vE vF x.src
def zqR:ReadK SorK:=⟨fun⟨vA,vE,vF,h1,h2⟩ k hS=>⟨vA,vE,vF,h1,h2.sam k hS⟩,fun⟨vA,vE,vF,h1,h2⟩ u hu=>by
 obtain⟨⟨a1,_⟩,⟨b1,_⟩,c1,_⟩:=h2;obtain⟨a,c,rfl,_⟩:=a1;obtain⟨a,c,rfl,_⟩:=b1;obtain⟨a,c,rfl,_⟩:=c1;rw[h1]at hu;simp only[zIR,bj,bO,ej]at hu;rcases hu with rfl|rfl|rfl|rfl|rfl|rfl|rfl|rfl|rfl<;>rfl⟩
def Strs.outO{base:Nat}{A:Nat->Prop}{w:World}{v:Value}{xs:List Bs}(h:OutG StrK 1 A base 9 w v xs):Strs w v xs:=by
 obtain⟨css,h1,h2,ho,h4⟩:=h;have e:css.flatten=zaL xs:=by
  clear ho
  induction css generalizing xs with
  | nil=>cases xs with
   | nil=>rfl
   | cons _ _=>simp at h1
  | cons c css ih =>
   cases xs with
   | nil=>simp at h1
   | cons x xs =>
    have hc:=h4 0 c x rfl rfl;unfold StrK at hc;subst hc;have:=ih (xs:=xs) (by simpa using h1) (fun cs h=>h2 cs (bl _ h)) (fun j cs x hc hx=>h4 (j+1) cs x (by simpa using hc) (by simpa using hx));rw[dN,this];rfl
 rw[e]at ho;exact gU ho
def zeG{p:Prop}(h:Hi p):p:=h.o
def zdY(x:Bs):Bs:=zhL (dec (bs x) 0).1++[46]
def ini:Bs->Bool->Bool->Bool->Bs
 | [],_,_,_=>[]
 | b::r,bg,iw,sm =>
  if b=32 then ini r true false sm
  else if b=45 then ini r true iw sm
  else if bg then(if iw then [45]else if sm then [32]else [])++zdY (b::r)++ini r false true true
  else ini r false iw sm
def zdU(b:UInt8)(r:Bs)(bg iw sm:Bool):ini (b::r) bg iw sm=if b=32 then ini r true false sm else if b=45 then ini r true iw sm else if bg then(if iw then [45]else if sm then [32]else [])++zdY (b::r)++ini r false true true else ini r false iw sm:=rfl
def zbG(c:UInt8)(l:Bs):List Bs:=(zbB c l).filter zfZ
def zlI(w:Bs):Bs:=Lib.join ((zbG 45 w).map zdY) [45]
def zdB(g:Bs):Bs:=zdM ((zbG 32 g).map zlI)
def zwI(x t:Bs)(iw sm:Bool)(h1:(32:UInt8)∉x)(h2:(45:UInt8)∉x):ini (x++t) false iw sm=ini t false iw sm:=by
 induction x with
 | nil=>rfl
 | cons b x ih =>
  rw[ei,zdU,aa (fun q=>h1 (by rw[q];simp)),aa (fun q=>h2 (by rw[q];simp))];rw[aa b_];exact ih (fun q=>h1 (by simp [q])) (fun q=>h2 (by simp [q]))
def zBw(iw sm:Bool):Bs:=if iw then [45]else if sm then [32]else []
def zr6(x t:Bs)(iw sm:Bool)(hx:x≠[])(h1:(32:UInt8)∉x)(h2:(45:UInt8)∉x)(ht:t=[]\/at8 t 0<128):ini (x++t) true iw sm=zBw iw sm++zdY x++ini t false true true:=by
 cases x with
 | nil=>exact absurd rfl hx
 | cons b x =>
  have hd:zdY ((b::x)++t)=zdY (b::x):=(by unfold zdY;rw[zAK (b::x) t b_ ht]);rw[ei]at hd ⊢;rw[zdU,aa (fun q=>h1 (by rw[q];simp)),aa (fun q=>h2 (by rw[q];simp)),ae rfl,hd,
   zwI x t true true (fun q=>h1 (by simp [q])) (fun q=>h2 (by simp [q]))]
  rfl
def TailOK(t:Bs):Prop:=t=[]\/∃r,t=32::r
def TailOK.low{t:Bs}(h:TailOK t):t=[]\/at8 t 0<128:=by
 rcases h with rfl|⟨r,rfl⟩
 .exact .inl rfl
 .exact .inr (by show((32:UInt8).toNat:Int)<128;decide)
def TailOK.same{t:Bs}(h:TailOK t)(bg iw sm:Bool):ini t bg iw sm=ini t true false sm:=by
 rcases h with rfl|⟨r,rfl⟩
 .rfl
 .rw[zdU,zdU];simp
def zmG(c:UInt8)(l:Bs):c∉l\/∃a r,l=a++c::r/\c∉a/\r.length<l.length:=by
 rcases zh5 l c with⟨_,h⟩|⟨i,_,h2,h3,h4⟩
 .exact .inl h
 .exact .inr ⟨l.take i,l.drop (i+1),h4,h3,e_⟩
def ze0(iw sm:Bool)(ps:List Bs):Bs:=if ps=[]then []else zBw iw sm++Lib.join (ps.map zdY) [45]
def zpM(sep x:Bs)(r:List Bs):Lib.join (x::r) sep=x++(if r=[]then []else sep++Lib.join r sep):=by
 cases r with
 | nil=>simp [iW]
 | cons y r =>
  rw[gC,gC];simp [Lib.joinTail]
def zuD(c:UInt8)(l:Bs)(h:c∉l):zbG c l=if l=[]then []else [l]:=by
 unfold zbG;rw[zfV c l h];by_cases q:l=[]
 .subst q;rfl
 .rw[aa q];simp [zfZ,q]
def zBx(c:UInt8)(a r:Bs)(h:c∉a):zbG c (a++c::r)=(if a=[]then []else [a])++zbG c r:=by
 unfold zbG;rw[zlU c a r h,eh];by_cases q:a=[]
 .subst q;rfl
 .rw[aa q,ae (by simp [zfZ,q])];rfl
def zlJ:∀(n:Nat) (w t:Bs) (iw sm:Bool),w.length<=n->(32:UInt8)∉w->TailOK t->ini (w++t) true iw sm=ze0 iw sm (zbG 45 w)++ini t true false (sm || !(zbG 45 w).isEmpty)
 | n,w,t,iw,sm,hn,h32,ht=>by
  rcases zmG 45 w with h|⟨a,r,rfl,ha,hr⟩
  .rw[zuD 45 w h];by_cases q:w=[]
   .subst q;rw[ae rfl,dV,ht.same];simp [ze0]
   .rw[aa q,zr6 w t iw sm q h32 h ht.low,ht.same];simp [ze0,iW]
  .cases n with
   | zero=>simp at hn
   | succ n =>
    have Hb:(32:UInt8)∉a:=fun q=>h32 (by simp [q]);have Di:(32:UInt8)∉r:=fun q=>h32 (by simp [q]);rw[zBx 45 a r ha];by_cases q:a=[]
    .subst q;rw[ae rfl,dV,dV,ei,zdU,aa c_,ae rfl];exact zlJ n r t iw sm (by simp at hr hn;omega) Di ht
    .rw[aa q,cX,ei,zr6 a (45::(r++t)) iw sm q Hb ha (.inr (by show((45:UInt8).toNat:Int)<128;decide)),
      zdU,aa c_,ae rfl,zlJ n r t true true (by simp at hr hn;omega) Di ht]
     by_cases z:zbG 45 r=[]
     .rw[z];simp [ze0,iW]
     .have e1:ze0 true true (zbG 45 r)=[45]++Lib.join ((zbG 45 r).map zdY) [45]:=(by unfold ze0;rw[aa z];rfl);have e2:ze0 iw sm ([a]++zbG 45 r)=zBw iw sm++(zdY a++([45]++Lib.join ((zbG 45 r).map zdY) [45])):=by
       unfold ze0;rw[aa b_,List.singleton_append,bd,zpM,aa (by simpa using z)]
      rw[e1,e2];simp
def zBy(x:Bs):zdY x≠[]:=by unfold zdY;simp
def zlK(w:Bs):zlI w=[]↔zbG 45 w=[]:=by
 unfold zlI;constructor
 .intro h;cases hp:zbG 45 w with
  | nil=>rfl
  | cons a r =>
   rw[hp,bd,zpM]at h;simp [zBy]at h
 .intro h;rw[h];rfl
def zJd(g:Bs):List Bs:=((zbB 32 g).map zlI).filter zfZ
def zhQ(sm:Bool)(ws:List Bs):Bs:=if ws=[]then []else zBw false sm++Lib.join ws [32]
def zkN(sm:Bool)(w:Bs):ze0 false sm (zbG 45 w)=zhQ sm ([zlI w].filter zfZ):=by
 unfold ze0 zhQ;by_cases h:zbG 45 w=[]
 .rw[ae h,(zlK w).2 h];rfl
 .have hn:zlI w≠[]:=fun q=>h ((zlK w).1 q);have e:[zlI w].filter zfZ=[zlI w]:=(by simp [zfZ,hn]);rw[aa h,e,aa b_,iW];rfl
def zBz:∀(n:Nat) (g:Bs) (sm:Bool),g.length<=n->ini g true false sm=zhQ sm (zJd g)
 | n,g,sm,hn=>by
  rcases zmG 32 g with h|⟨a,r,rfl,ha,hr⟩
  .have:=zlJ g.length g [] false sm (aw _) h (.inl rfl);rw[bN]at this;rw[this,zkN];unfold zJd;rw[zfV 32 g h];simp [ini]
  .cases n with
   | zero=>simp at hn
   | succ n =>
    rw[zlJ a.length a (32::r) false sm (aw _) ha (.inr ⟨r,rfl⟩),zdU,ae rfl,zBz n r _ (by simp at hr hn;omega),zkN];unfold zJd;rw[zlU 32 a r ha,bd,eh (x:=zlI a) (xs:=(zbB 32 r).map zlI)];by_cases h:zbG 45 a=[]
    .have e:zlI a=[]:=(zlK a).2 h;have e2:(zbG 45 a).isEmpty=true:=(by simp [h]);rw[e,e2,aa (by simp [zfZ])];simp [zhQ,zfZ]
    .have hn:zlI a≠[]:=fun q=>h ((zlK a).1 q);have e2:(zbG 45 a).isEmpty=false:=(by simpa using h);have e:[zlI a].filter zfZ=[zlI a]:=(by simp [zfZ,hn]);rw[e,e2,ae (by simp [zfZ,hn])];generalize ((zbB 32 r).map zlI).filter zfZ=ws;have e3:zhQ sm [zlI a]=zBw false sm++zlI a:=(by unfold zhQ;rw[aa b_,iW]);have e4:zhQ sm (zlI a::ws)=zBw false sm++(zlI a++(if ws=[]then []else [32]++Lib.join ws [32])):=(by unfold zhQ;rw[aa b_,zpM]);rw[e3,e4];unfold zhQ;by_cases z:ws=[]
     .rw[ae z,ae z];simp
     .rw[aa z,aa z];simp [zBw]
def zkO(g:Bs):zdB g=ini g true false false:=by
 rw[zBz g.length g false (aw _)];unfold zdB zdM zhQ zbG;have e:∀xs:List Bs,((xs.filter zfZ).map zlI).filter zfZ=(xs.map zlI).filter zfZ:=by
  intro xs
  induction xs with
  | nil=>rfl
  | cons a r ih =>
   rw[eh,bd,eh (x:=zlI a)];by_cases q:a=[]
   .subst q;have:zlI []=[]:=rfl;rw[this,aa (by simp [zfZ]),aa (by simp [zfZ]),ih]
   .rw[ae (by simp [zfZ,q]),bd,eh (x:=zlI a),ih]
 rw[e];by_cases z:zJd g=[]
 .rw[ae z];unfold zJd at z;rw[z];rfl
 .rw[aa z];rfl
def zdK(ns:List Int):Bs:=ns.flatMap zhL
def zmH(ns:List Int)(c:Int):zdK (ns++[c])=zdK ns++zhL c:=by simp [zdK]
def zoB(ns:List Int)(c d:Int):zdK (ns++[c,d])=zdK ns++zhL c++zhL d:=by simp [zdK]
def zmI:∀(ns:List Int) (x:Bs),ns.foldl (fun r n=>r++Utf8.encode n) (bs x)=bs (x++zdK ns)
 | [],x=>by simp [zdK]
 | n::ns,x=>by
  rw[dW,zq6,zqW,zmI ns];simp [zdK]
def zi3(ns:List Int):runesBytes ns=bs (zdK ns):=by
 unfold runesBytes;rw[zDJ,zmI];simp
def zbA(ns:List Int):List Value:=ns.map (Value.int .i32)
def zBA(w:World)(base:Nat)(v:Value)(ns:List Int)(h:w.ownsRow base 21 1 v ns.length (zbA ns)):(convert 162 9 v).run prog w=.ok (.string (bs (zdK ns))) w:=by
 rcases h.2 with⟨rfl,hn⟩|⟨g,lJ,mK,rfl,_⟩
 .obtain rfl:ns=[]:=bD.1 hn;rw[run_convert_runes_string w 162 9 21 none 0 0 ex jU aq];simp [Conv.runesToString,zdK,bn]
 .rw[run_convert_runes_string w 162 9 21 _ _ _ ex jU aq];have hc:=h.cells (g:=g) rfl;have hl:=run_loadCells_list (P:=prog) (w:=w) ⟨g,0,none⟩ (zbA ns) hc;have e:(zbA ns).length=ns.length:=(by simp [zbA]);rw[e]at hl;rw[run_runesToString w ⟨g,0,none⟩ ns.length lJ ns hl,zi3]
def zEF(g:Bs)(pos:Nat)(h:pos<g.length)(c n:Int)(hd:dec (bs g) pos=(c,n))(bg iw sm:Bool):(c=32/\n=1/\ini (g.drop pos) bg iw sm=ini (g.drop (pos+1)) true false sm)\/(c=45/\n=1/\ini (g.drop pos) bg iw sm=ini (g.drop (pos+1)) true iw sm)\/(c≠32/\c≠45/\ini (g.drop pos) bg iw sm=if bg then zBw iw sm++(zhL c++[46])++ini (g.drop (pos+n.toNat)) false true true else ini (g.drop (pos+n.toNat)) false iw sm):=by
 have hp:zdY (g.drop pos)=zhL c++[46]:=(by unfold zdY;rw[zrG,hd]);have zG:g.drop pos=g[pos]::g.drop (pos+1):=aJ h;have ha:=zbP g pos h;by_cases hlo:at8 g pos<128
 .have hdd:=ziA g pos hlo;rw[hd]at hdd;obtain⟨rfl,rfl⟩:=Prod.mk.injEq _ _ _ _ ▸ hdd;rw[zG]at hp ⊢;rw[zdU];have Hc:=zj8 g[pos] 32 c_;have He:=zj8 g[pos] 45 c_;rw[<- ha]at Hc He;by_cases q:g[pos]=32
  .left;exact⟨Hc.2 q,rfl,by rw[ae q]⟩
  by_cases q2:g[pos]=45
  .right;left;exact⟨He.2 q2,rfl,by rw[aa q,ae q2]⟩
  .right;right;refine⟨fun e=>q (Hc.1 e),fun e=>q2 (He.1 e),?_⟩;rw[aa q,aa q2,hp];rfl
 .right;right;obtain⟨hc,ng⟩:=ziC (bs g) pos (by rw[za4];omega);rw[hd]at hc ng;simp only at hc ng;have hb:=zaX (bs g) pos h;rw[hd]at hb;simp only[zdZ]at hb;refine⟨a_,a_,?_⟩;have hq:g[pos]≠32:=fun e=>by
     rw[e]at ha;have:((32:UInt8).toNat:Int)=32:=c_;omega
  have hq2:g[pos]≠45:=fun e=>by
     rw[e]at ha;have:((45:UInt8).toNat:Int)=45:=c_;omega
  have hsplit:g.drop (pos+1)=(g.drop (pos+1)).take (n.toNat - 1)++g.drop (pos+n.toNat):=by
   conv=>lhs;rw[<- ce (n.toNat - 1) (g.drop (pos+1))]
   rw[jr,show pos+1+(n.toNat - 1)=pos+n.toNat from by omega]
  have hnot:∀x∈(g.drop (pos+1)).take (n.toNat - 1),128<=(x.toNat:Int):=by
   intro x hx;obtain⟨j,hj,rfl⟩:=dZ hx;simp only[bw,dO]at hj;have hbj:=ng (1+j) a_;rw[za4,<- dU,zbP g (pos+1+j) a_]at hbj;simp only[List.getElem_take,List.getElem_drop];exact hbj
  have hsk:∀iw sm,ini (g.drop (pos+1)) false iw sm=ini (g.drop (pos+n.toNat)) false iw sm:=by
   intro iw sm;rw[hsplit];exact zwI _ _ iw sm (fun q=>by have:=hnot _ q;revert this;decide) (fun q=>by have:=hnot _ q;revert this;decide)
  rw[zG]at hp ⊢;rw[zdU,aa hq,aa hq2,hp,hsk,hsk];rfl
def Tryz.infoRune:(prog.info? 21).map (fun i=>(i.zero,i.size,i.bytes))=some (some (.int .i32 0),1,4):=g_
def zfL{w w':World}{base k:Nat}{e:TypeId}{size:Nat}{v:Value}{n:Nat}{xs:List Value}{o:Obj}(h:w.ownsRow base e size v n xs)(hg:(w.alloc o).grownBy w' v.ownBlock)(hk:k<base)(hb:base<=w.heap.size):w'.heap[k]? = w.heap[k]? /\ base<=w'.heap.size/\Below base w w':=by
 have hB:Below base w w':=((gc base w).alloc hb o).trans (za2 (h.alloc o) hg e_);exact⟨hB.block k hk,by have:=hB.size;omega,hB⟩
def zyO{w:World}{base:Nat}{e:TypeId}{size:Nat}{v:Value}{n:Nat}{xs:List Value}(h:w.ownsRow base e size v n xs)(k:Nat)(hk:k<base)(s:ByteArray)(pos:Nat):(w.iterAt k s pos).ownsRow base e size v n xs:=by
 obtain⟨h1,h2⟩:=h;refine⟨h1,?_⟩;rcases h2 with h2|⟨g,lJ,mK,hv,hg,hh,r⟩
 .exact Or.inl h2
 .exact Or.inr ⟨g,lJ,mK,hv,hg,by rw[Lib.iterAt_other _ _ _ _ _ a_];exact hh,r⟩
def zr7(f g p s:Bs)(w:World)(hs:g.length<=10000000):Calls prog 121 #[zmA f g p s] w fun e w'=>e=.returned (.string (bs (zdB g)))/\Kept w w':=by
 obtain⟨i0,hi,mr,mq,mm⟩:=cg Tryz.infoRune;have HI:Hi (zdB g=zdK []++ini (g.drop 0) true false false):=(by show _=_;rw[zkO];simp [zdK]);go_in;go_wp2_with fail
 try simp only[zd8]
 go_loopw [3,4,5] (fun v bg iw wr=>∃(pos:Nat) (ns:List Int) (b i:Bool),pos<=g.length/\ns.length<=3 * pos/\bg=.bool b/\iw=.bool i/\wr.heap[w.heap.size+1]? = some (.stringIter (bs g) pos)/\wr.ownsRow (w.heap.size+2) 21 1 v ns.length (zbA ns)/\w.heap.size+2<=wr.heap.size/\Kept w wr/\Hi (zdB g=zdK ns++ini (g.drop pos) b i (!ns.isEmpty))) (fun _ _ _ wr=>g.length - wr.iterPos (w.heap.size+1))
 .exact⟨0,[],true,false,ai _,aw _,rfl,rfl,by have:=eQ (w.alloc (.cells #[.string (bs f),.string (bs g),.string (bs p),.string (bs s)] 52)) (bs g) 0;simpa using this,dg _ _ _ _,by simp [World.iter],(zaA _ _).trans (zaA _ _),HI⟩
 case round =>
  obtain⟨pos,ns,b,i,hp,hnl,rfl,rfl,mz,lc,ny,hk,HA⟩:=hrel;have sr:wr.iterPos (w.heap.size+1)=pos:=(by simp [World.iterPos,mz]);by_cases kV:pos<g.length
  .have nx:=fun ty=>zc2 (P:=prog) wr (w.heap.size+1) (bs g) pos ty mz kV;obtain⟨c,n,hd⟩:∃c n,dec (bs g) pos=(c,n):=⟨(dec (bs g) pos).1,(dec (bs g) pos).2,rfl⟩;have hb:=zaX (bs g) pos kV;have oN:=zEF g pos kV c n hd b i (!ns.isEmpty);rw[hd]at nx hb;simp only[zdZ]at nx hb;obtain⟨b1,b2,b3,b4,b5⟩:=hb;obtain⟨n,rfl⟩:∃n':Nat,n=n':=⟨n.toNat,a_⟩;simp only[dH]at nx oN;have HIT:Hi ((wr.iterAt (w.heap.size+1) (bs g) (pos+n)).heap[w.heap.size+1]? = some (.stringIter (bs g) (pos+n))):=fy wr (w.heap.size+1) (bs g) pos (pos+n) mz;have kX:Hi (Kept w (wr.iterAt (w.heap.size+1) (bs g) (pos+n))):=fj hk a_ (bs g) _;have mJ:=Hd (zyO lc (w.heap.size+1) a_ (bs g) (pos+n));have hsz2:w.heap.size+2<=(wr.iterAt (w.heap.size+1) (bs g) (pos+n)).heap.size:=(by rw[eV];exact ny);have ob:=Hd sr;clear sr hk lc hd mz;generalize wr.iterAt (w.heap.size+1) (bs g) (pos+n)=wq at *;have Hf:Hi (wq.iterPos (w.heap.size+1)=pos+n):=(by show _=_;have:=HIT.o;simp [World.iterPos,this]);have hpn:pos+n<=g.length:=a_;rcases oN with⟨rfl,h1,oN⟩|⟨rfl,h1,oN⟩|⟨h1,h2,oN⟩
   .have mj:=Hd oN;obtain rfl:n=1:=a_;clear oN h1;go_wp2;go_roundw
    .exact⟨pos+1,ns,true,false,a_,a_,rfl,rfl,HIT.o,mJ.o,hsz2,kX.o,by show _=_;rw[HA.o,mj.o]⟩
    .rw[ob.o,Hf.o];omega
   .have mj:=Hd oN;obtain rfl:n=1:=a_;clear oN h1;go_wp2;go_roundw
    .exact⟨pos+1,ns,true,i,a_,a_,rfl,rfl,HIT.o,mJ.o,hsz2,kX.o,by show _=_;rw[HA.o,mj.o]⟩
    .rw[ob.o,Hf.o];omega
   .have t1:(c==32)=false:=(by simpa using h1);have t2:(c==45)=false:=(by simpa using h2);have mj:=Hd oN;clear oN h1 h2;cases b
    .go_wp2;go_roundw
     .exact⟨pos+n,ns,false,i,a_,a_,rfl,rfl,HIT.o,mJ.o,hsz2,kX.o,by show _=_;rw[HA.o,mj.o];rfl⟩
     .rw[ob.o,Hf.o];omega
    .have lc:=mJ.o;clear mJ;have uU:Hi (∀x y z:Int,(ns++[x,y,z]).isEmpty=false):=(by intro x y z;cases ns<;>rfl);obtain⟨av,cv,hv,q1,q2,_⟩:=zaZ lc;subst hv;cases i
     .by_cases hns:ns=[]
      .subst hns;simp only[cj,zbA,ca]at lc hnl;go_wp2_with (at_builtin;refine cV _ rfl _ _ 162 rfl (w.heap.size+2) 21 i0 (.int .i32 0) 1 4 ex hi mr mq mm rfl c_ _ _ _ rfl (lc.alloc _) ⟨wq.heap.size,0,none⟩ 2 2 [.int .i32 c,.int .i32 46] rfl rfl (by exact zbO _ #[.int .i32 c,.int .i32 46] _ _ b_) j' (by unfold maxLen;first|omega|(simp;omega)) i_ i_ ?_);intro v2 w3 lr lw _;obtain⟨r1,qJ,r3⟩:=zfL (k:=w.heap.size+1) lc lw a_ a_;have oM:=Hd (r1.trans HIT.o);have lx:=Hd r3;have ua:Hi (w3.ownsRow (w.heap.size+2) 21 1 v2 ([c,46]:List Int).length (zbA [c,46])):=(by show World.ownsRow _ _ _ _ _ _ _;simpa [zbA]using lr);clear lr lw r1 r3 lc;go_wp2;go_roundw
       .exact⟨pos+n,[c,46],false,true,a_,e_,rfl,rfl,oM.o,ua.o,qJ,kX.o.trans' (lx.o.mono a_),by show _=_;rw[HA.o,mj.o];simp [zBw,zdK,show zhL 46=[46]from rfl]⟩
       .rw[ob.o,show w3.iterPos (w.heap.size+1)=pos+n from by have:=oM.o;simp [World.iterPos,this]];omega
      .have hpos:0<ns.length:=eI.2 hns;have lV:ns.isEmpty=false:=(by simpa using hns);go_wp2_with (at_builtin;refine cV _ rfl _ _ 162 rfl (w.heap.size+2) 21 i0 (.int .i32 0) 1 4 ex hi mr mq mm rfl c_ _ _ _ rfl (lc.alloc _) ⟨wq.heap.size,0,none⟩ 1 1 [.int .i32 32] rfl rfl (by exact zbO _ #[.int .i32 32] _ _ b_) j' (by unfold maxLen;first|omega|(simp;omega)) i_ i_ ?_);intro v1 w2 mx lw _;obtain⟨r1,Ba,r3⟩:=zfL (k:=w.heap.size+1) lc lw a_ a_;rw[show zbA ns++[Value.int .i32 32]=zbA (ns++[32])from by simp [zbA]]at mx;have Bb:=Hd (r1.trans HIT.o);have ma:=Hd r3;have ub:Hi (w2.ownsRow (w.heap.size+2) 21 1 v1 (ns++[32]).length (zbA (ns++[32]))):=(by show World.ownsRow _ _ _ _ _ _ _;simpa using mx);clear mx lw r1 r3 lc;have mx:=ub.o;go_wp2_with (at_builtin;refine cV _ rfl _ _ 162 rfl (w.heap.size+2) 21 i0 (.int .i32 0) 1 4 ex hi mr mq mm rfl c_ _ _ _ rfl (mx.alloc _) ⟨w2.heap.size,0,none⟩ 2 2 [.int .i32 c,.int .i32 46] rfl rfl (by exact zbO _ #[.int .i32 c,.int .i32 46] _ _ b_) j' (by unfold maxLen;first|omega|(simp;omega)) i_ i_ ?_);intro v2 w3 lr lw _;obtain⟨r1,qJ,r3⟩:=zfL (k:=w.heap.size+1) mx lw a_ a_;have oM:=Hd (r1.trans Bb.o);have lx:=Hd r3;have ua:Hi (w3.ownsRow (w.heap.size+2) 21 1 v2 ((ns++[32])++[c,46]).length (zbA ((ns++[32])++[c,46]))):=(by show World.ownsRow _ _ _ _ _ _ _;simpa [zbA]using lr);clear lr lw r1 r3 mx;go_wp2;go_roundw
       .exact⟨pos+n,(ns++[32])++[c,46],false,true,a_,e_,rfl,rfl,oM.o,ua.o,qJ,kX.o.trans' ((ma.o.trans lx.o).mono a_),by show _=_;rw[HA.o,mj.o,zoB,zmH];simp [zBw,uU.o,lV,show zhL 32=[32]from rfl,show zhL 46=[46]from rfl]⟩
       .rw[ob.o,show w3.iterPos (w.heap.size+1)=pos+n from by have:=oM.o;simp [World.iterPos,this]];omega
     .obtain⟨sm,hsm⟩:∃sm,(!ns.isEmpty)=sm:=⟨_,rfl⟩;go_wp2_with (at_builtin;refine cV _ rfl _ _ 162 rfl (w.heap.size+2) 21 i0 (.int .i32 0) 1 4 ex hi mr mq mm rfl c_ _ _ _ rfl (lc.alloc _) ⟨wq.heap.size,0,none⟩ 1 1 [.int .i32 45] rfl rfl (by exact zbO _ #[.int .i32 45] _ _ b_) j' (by unfold maxLen;first|omega|(simp;omega)) i_ i_ ?_);intro v1 w2 mx lw _;obtain⟨r1,Ba,r3⟩:=zfL (k:=w.heap.size+1) lc lw a_ a_;rw[show zbA ns++[Value.int .i32 45]=zbA (ns++[45])from by simp [zbA]]at mx;have Bb:=Hd (r1.trans HIT.o);have ma:=Hd r3;have ub:Hi (w2.ownsRow (w.heap.size+2) 21 1 v1 (ns++[45]).length (zbA (ns++[45]))):=(by show World.ownsRow _ _ _ _ _ _ _;simpa using mx);clear mx lw r1 r3 lc;have mx:=ub.o;go_wp2_with (at_builtin;refine cV _ rfl _ _ 162 rfl (w.heap.size+2) 21 i0 (.int .i32 0) 1 4 ex hi mr mq mm rfl c_ _ _ _ rfl (mx.alloc _) ⟨w2.heap.size,0,none⟩ 2 2 [.int .i32 c,.int .i32 46] rfl rfl (by exact zbO _ #[.int .i32 c,.int .i32 46] _ _ b_) j' (by unfold maxLen;first|omega|(simp;omega)) i_ i_ ?_);intro v2 w3 lr lw _;obtain⟨r1,qJ,r3⟩:=zfL (k:=w.heap.size+1) mx lw a_ a_;have oM:=Hd (r1.trans Bb.o);have lx:=Hd r3;have ua:Hi (w3.ownsRow (w.heap.size+2) 21 1 v2 ((ns++[45])++[c,46]).length (zbA ((ns++[45])++[c,46]))):=(by show World.ownsRow _ _ _ _ _ _ _;simpa [zbA]using lr);clear lr lw r1 r3 mx;go_wp2;go_roundw
      .exact⟨pos+n,(ns++[45])++[c,46],false,true,a_,e_,rfl,rfl,oM.o,ua.o,qJ,kX.o.trans' ((ma.o.trans lx.o).mono a_),by show _=_;rw[HA.o,mj.o,zoB,zmH];simp [zBw,uU.o,show zhL 45=[45]from rfl,show zhL 46=[46]from rfl]⟩
      .rw[ob.o,show w3.iterPos (w.heap.size+1)=pos+n from by have:=oM.o;simp [World.iterPos,this]];omega
  .have nx:=fun ty=>zbM (P:=prog) wr (w.heap.size+1) (bs g) pos ty mz kV;have cv:=zBA wr _ _ ns lc;have HK:=Hd hk;clear hk;go_wp2;go_ret;exact⟨zf8 (by rw[HA.o,db a_];simp [ini]),HK.o⟩
def zjT(l:Bs):List Value:=l.map fun b=>.int .u8 (b.toNat:Int)
def BytesPost(l:Bs)(w:World)(e:Ending)(w':World):Prop:=e=.returned (.slice (some ⟨w.heap.size,0,none⟩) l.length l.length)/\w'=w.alloc (.cells (zjT l).toArray 5)
def znQ(n:Int)(h:0<=n/\n<256):IntKind.u8.wrap n=n:=by
 have:IntKind.u8.bits=8:=rfl;unfold IntKind.wrap;simp [this,IntKind.signed];omega
def zpN(c:Nat)(h:c<=1114111/\¬ (55296<=c/\c<=57343)):zhL c=if c<128 then [UInt8.ofNat c]else if c<2048 then [UInt8.ofNat (192+c / 64),UInt8.ofNat (128+c % 64)]else if c<65536 then [UInt8.ofNat (224+c / 4096),UInt8.ofNat (128+c / 64 % 64),UInt8.ofNat (128+c % 64)]else [UInt8.ofNat (240+c / 262144),UInt8.ofNat (128+c / 4096 % 64),UInt8.ofNat (128+c / 64 % 64),UInt8.ofNat (128+c % 64)]:=by
 have hv:Utf8.valid (c:Int)=true:=by
  unfold Utf8.valid;simp only[dL,ba,cq];omega
 unfold zhL Utf8.encode;simp only[hv,jO,dH];by_cases h1:c<128
 .rw[ae h1,ae h1]
 rw[aa h1,aa h1];by_cases h2:c<2048
 .rw[ae h2,ae h2]
 rw[aa h2,aa h2];by_cases h3:c<65536
 .rw[ae h3,ae h3]
 rw[aa h3,aa h3]
def zuE(n:Nat)(h:n<256):((UInt8.ofNat n).toNat:Int)=(n:Int):=by rw[fo,iK h]
def zeT{l:Bs}{w w':World}{e:Ending}{cs:Array Value}(n:Nat)(hl:l.length=n)(hc:(zjT l).toArray=cs)(he:e=.returned (.slice (some ⟨w.heap.size,0,none⟩) n n))(hw:w'=w.alloc (.cells cs 5)):BytesPost l w e w':=by
 subst hl hc;exact⟨he,hw⟩
def zJ7(c:Int)(h0:0<=c)(g:c<128):zhL c=[UInt8.ofNat c.toNat]:=by
 obtain⟨n,rfl⟩:∃n:Nat,c=n:=⟨c.toNat,a_⟩;rw[zpN n a_,ae a_,dH]
def zJ8(c:Int)(h0:128<=c)(g:c<2048):zhL c=[UInt8.ofNat (192+c / 64).toNat,UInt8.ofNat (128+c % 64).toNat]:=by
 obtain⟨n,rfl⟩:∃n:Nat,c=n:=⟨c.toNat,a_⟩;rw[zpN n a_,aa a_,ae a_];have e1:(192+(n:Int) / 64).toNat=192+n / 64:=a_;have e2:(128+(n:Int) % 64).toNat=128+n % 64:=a_;rw[e1,e2]
def zJ9(c:Int)(h0:2048<=c)(g:c<65536)(h2:c<55296\/57343<c):zhL c=[UInt8.ofNat (224+c / 4096).toNat,UInt8.ofNat (128+c / 64 % 64).toNat,UInt8.ofNat (128+c % 64).toNat]:=by
 obtain⟨n,rfl⟩:∃n:Nat,c=n:=⟨c.toNat,a_⟩;rw[zpN n a_,aa a_,aa a_,ae a_];have e0:(224+(n:Int) / 4096).toNat=224+n / 4096:=a_;have e1:(128+(n:Int) / 64 % 64).toNat=128+n / 64 % 64:=a_;have e2:(128+(n:Int) % 64).toNat=128+n % 64:=a_;rw[e0,e1,e2]
def zKa(c:Int)(h0:65536<=c)(g:c<=1114111):zhL c=[UInt8.ofNat (240+c / 262144).toNat,UInt8.ofNat (128+c / 4096 % 64).toNat,UInt8.ofNat (128+c / 64 % 64).toNat,UInt8.ofNat (128+c % 64).toNat]:=by
 obtain⟨n,rfl⟩:∃n:Nat,c=n:=⟨c.toNat,a_⟩;rw[zpN n a_,aa a_,aa a_,aa a_];have e0:(240+(n:Int) / 262144).toNat=240+n / 262144:=a_;have e3:(128+(n:Int) / 4096 % 64).toNat=128+n / 4096 % 64:=a_;have e1:(128+(n:Int) / 64 % 64).toNat=128+n / 64 % 64:=a_;have e2:(128+(n:Int) % 64).toNat=128+n % 64:=a_;rw[e0,e1,e2,e3]
def znR(c:Int)(h:0<=c/\c<256):((UInt8.ofNat c.toNat).toNat:Int)=c:=by
 rw[zuE _ a_];omega
def zr8(c:Int)(w:World)(h0:0<=c)(h1:c<=1114111)(h2:c<55296\/57343<c):Calls prog 198 #[.int .i64 c] w (BytesPost (zhL c) w):=by
 by_cases g1:c<128
 .have HE:=Hd (zJ7 c h0 g1);have HN:=Hd (znR c a_);have hw:=znQ c a_;go_enter jY,jB;go_wp2;go_ret;refine zeT 1 (by rw[HE.o];rfl) ?_ rfl rfl;rw[HE.o];simp only[zjT,bd,ca,HN.o]
 by_cases g2:c<2048
 .have HE:=Hd (zJ8 c a_ g2);have HN:=Hd (znR (192+c / 64) a_);have HM:=Hd (znR (128+c % 64) a_);have hw:=znQ (192+c / 64) a_;have hw2:=znQ (128+c % 64) a_;go_enter jY,jB;go_wp2;go_ret;refine zeT 2 (by rw[HE.o];rfl) ?_ rfl rfl;rw[HE.o];simp only[zjT,bd,ca,HN.o,HM.o]
 by_cases g3:c<65536
 .have HE:=Hd (zJ9 c a_ g3 h2);have HN:=Hd (znR (224+c / 4096) a_);have HP:=Hd (znR (128+c / 64 % 64) a_);have HM:=Hd (znR (128+c % 64) a_);have hw:=znQ (224+c / 4096) a_;have hw1:=znQ (128+c / 64 % 64) a_;have hw2:=znQ (128+c % 64) a_;go_enter jY,jB;go_wp2_with fail
  all_goals
   go_ret;refine zeT 3 (by rw[HE.o];rfl) ?_ rfl rfl;rw[HE.o];simp only[zjT,bd,ca,HN.o,HM.o,HP.o]
 .have HE:=Hd (zKa c a_ h1);have HN:=Hd (znR (240+c / 262144) a_);have HQ:=Hd (znR (128+c / 4096 % 64) a_);have HP:=Hd (znR (128+c / 64 % 64) a_);have HM:=Hd (znR (128+c % 64) a_);have hw:=znQ (240+c / 262144) a_;have hw0:=znQ (128+c / 4096 % 64) a_;have hw1:=znQ (128+c / 64 % 64) a_;have hw2:=znQ (128+c % 64) a_;go_enter jY,jB;go_wp2_with fail
  all_goals
   go_ret;refine zeT 4 (by rw[HE.o];rfl) ?_ rfl rfl;rw[HE.o];simp only[zjT,bd,ca,HN.o,HM.o,HP.o,HQ.o]
def zpO(c:Int):(zhL c).length<=4:=by have:=encode_size_le c;exact this
def zr9(s:ByteArray)(i:Nat):0<=(dec s i).1/\(dec s i).1<=1114111/\((dec s i).1<55296\/57343<(dec s i).1):=by
 have h0:=zcR s i;have m0:∀k l h,¬ zaH s k l h<0->128<=l->l - 128<=zaH s k l h/\zaH s k l h<=h - 128:=by
  intro k l h q hl;obtain⟨_,h1,h2,h3⟩:=zg0 (s:=s) (i:=k) (l:=l) (h:=h) a_;omega
 unfold dec
 split
 .simp only;omega
 split
 .split
  .rename_i q;have:=m0 (i+1) 128 191 a_ a_;simp only;omega
  .simp only;omega
 split
 .rename_i hb;unfold zhH
  split
  .simp only;omega
  .rename_i q;simp only[not_or]at q;have a:=m0 (i+1) (zfT (zaC s i)) (zcL (zaC s i)) q.1 (by unfold zfT;split<;>omega);have b:=m0 (i+2) 128 191 q.2 a_;have c:zcL (zaC s i)<=191/\(zaC s i=237->zcL (zaC s i)=159):=(by unfold zcL;split<;>omega);have d:128<=zfT (zaC s i):=(by unfold zfT;split<;>omega);simp only;omega
 split
 .rename_i hb;unfold ztQ
  split
  .simp only;omega
  .rename_i q;simp only[not_or]at q;have a:=m0 (i+1) (ze5 (zaC s i)) (zcM (zaC s i)) q.1 (by unfold ze5;split<;>omega);have b:=m0 (i+2) 128 191 q.2.1 a_;have b2:=m0 (i+3) 128 191 q.2.2 a_;have c:zcM (zaC s i)<=191/\(zaC s i=244->zcM (zaC s i)=143):=(by unfold zcM;split<;>omega);have d:128<=ze5 (zaC s i)/\(zaC s i=240->ze5 (zaC s i)=144):=(by unfold ze5;split<;>omega);simp only;omega
 .simp only;omega
def zmJ:∀(l:Bs) (bg iw sm:Bool),(ini l bg iw sm).length<=6 * l.length
 | [],_,_,_=>by simp [ini]
 | b::r,bg,iw,sm=>by
  rw[zdU];have h1:=zmJ r true false sm;have h2:=zmJ r true iw sm;have h3:=zmJ r false true true;have h4:=zmJ r false iw sm;have hp:(zdY (b::r)).length<=5:=(by unfold zdY;have:=zpO (dec (bs (b::r)) 0).1;simp;omega);have hl:(if iw then [45]else if sm then [32]else([]:Bs)).length<=1:=(by cases iw<;>cases sm<;>simp);simp only[az]
  split
  .omega
  split
  .omega
  split
  .simp only[ah];omega
  .omega
def zpP(g:Bs):(zdB g).length<=6 * g.length:=by rw[zkO];exact zmJ g _ _ _
def zi4(g:Bs)(i:Bool):Bs:=if i then zdB g else g
def zHl(f g p s:Bs)(i:Bool):Bs:=zdM [p,f]++(if zi4 g i=[]then []else [44,32]++zi4 g i)++(if s=[]then []else [44,32]++s)
def zkP(f g p s:Bs)(i:Bool)(w:World)(hs:f.length+g.length+p.length+s.length<=1000000):Calls prog 85 #[zmA f g p s,.bool i] w fun e w'=>e=.returned (.string (bs (zHl f g p s i)))/\Kept w w':=by
 have hbu:zyB [p,f]<=1000002:=(by simp [zyB];omega);have hsh:=zfC [p,f];have nc:=zpP g;have HL:Hi (zHl f g p s i=zdM [p,f]++(if zi4 g i=[]then []else [44,32]++zi4 g i)++(if s=[]then []else [44,32]++s)):=rfl;have hgl:(zi4 g i).length<=6000000:=(by unfold zi4;split<;>omega);have HS:=Hd (fun w=>zrO f g p s w a_);have HI:=Hd (fun w=>zr7 f g p s w a_);have FU:Hi (zi4 g i=if i then zdB g else g):=rfl;generalize zdM [p,f]=sh at *;generalize zdB g=il at *;generalize zi4 g i=gv at *;cases i
 .obtain rfl:gv=g:=FU.o;clear FU;by_cases hg:gv=[]<;>by_cases hs':s=[]
  all_goals
   first|subst hg|(have hge:gv.isEmpty=false:=by simpa using hg)
   first|subst hs'|(have hse:s.isEmpty=false:=by simpa using hs')
   try simp only[cj,dl,bP]at hs
   go_in;go_wp2_with fail;refine k_ (HS.o _) fun w1 ld=>?_;obtain⟨kc,kf⟩:=zbC ld;have hz:w.heap.size<w1.heap.size:=(by have:=ld.size;simp at this;omega);have HK:=Hd ((zaA w _).trans ld);clear ld;go_wp2;go_ret;exact⟨zf8 (by rw[HL.o];simp [*]),HK.o⟩
 .obtain rfl:gv=il:=FU.o;clear FU;by_cases hg:gv=[]<;>by_cases hs':s=[]
  all_goals
   first|subst hg|(have hge:gv.isEmpty=false:=by simpa using hg)
   first|subst hs'|(have hse:s.isEmpty=false:=by simpa using hs')
   try simp only[cj,dl,bP]at hs
   go_in;go_wp2_with fail;refine k_ (HI.o _) fun w1 ld=>?_;obtain⟨kc,kf⟩:=zbC ld;have hz:w.heap.size<w1.heap.size:=(by have:=ld.size;simp at this;omega);have kT:=Hd ld;clear ld;go_wp2_with fail;refine k_ (HS.o _) fun w2 ll=>?_;have kX:=Hd (kT.o.trans ll);clear kc kf ll hz;obtain⟨kc,kf⟩:=zbC kX.o;have hz:w.heap.size<w2.heap.size:=(by have:=kX.o.size;simp at this;omega);have HK:=Hd ((zaA w _).trans kX.o);go_wp2;go_ret;exact⟨zf8 (by rw[HL.o];simp [*]),HK.o⟩
def znS(q:P4):Bs:=zHl q.1 q.2.1 q.2.2.1 q.2.2.2 false
def zkY(s:SrcT):List P4:=if s.author=[]then s.editor else s.author
def zgG(s:SrcT):Bs:=Lib.join ((zkY s).map znS) [44,32]
def zBB{ps:List P4}{k:Nat}{q:P4}(h:ps[k]? = some q):(ps.take (k+1)).map znS=(ps.take k).map znS++[znS q]:=by
 rw[eo,h,cI];rfl
def zsA(vA vE vF:Value)(s:SrcT)(w:World)(hA:Perss w vA s.author)(hE:Perss w vE s.editor)(hF:vF.oneCell'=true)(hl:(zkY s).length<=1000)(hq:∀q∈zkY s,q.1.length+q.2.1.length+q.2.2.1.length+q.2.2.2.length<=1000000)(hj:(zgG s).length<=1000000000):Calls prog 47 #[znF s.key s.type vA vE vF] w fun e w'=>e=.returned (.string (bs (zgG s)))/\Kept w w':=by
 obtain⟨i0,hi,mr,mq,mm⟩:=cg Tryz.infoStr;obtain⟨aA,cA,rfl,lA⟩:=hA.shape;obtain⟨aE,cE,rfl,lE⟩:=hE.shape;have lg:=Hd (zaA w (.cells #[.string (bs s.key),.string (bs s.type),.slice aA s.author.length cA,.slice aE s.editor.length cE,vF] 50));have mv:=Hd (aI w 50 #[.string (bs s.key),.string (bs s.type),.slice aA s.author.length cA,.slice aE s.editor.length cE,vF]);obtain⟨np,nr,au,ed,fs⟩:=s;simp only at lg mv hA hE;by_cases hz:au=[]
 .have HL:Hi (zkY ⟨np,nr,au,ed,fs⟩=ed):=ae hz;rw[HL.o]at hl hq;have HJ:Hi (∀v w',Strs w' v (ed.map znS)->Calls prog 86 #[v,.string (bs [44,32])] w' fun e w''=>e=.returned (.string (bs (zgG ⟨np,nr,au,ed,fs⟩)))/\Kept w' w''):=fun v w' h=>by
   have:=zd9 v (ed.map znS) [44,32] w' h (by rw[bm];omega) (by unfold zgG at hj;rw[HL.o]at hj;exact hj);unfold zgG;rw[HL.o];exact this
  generalize zgG ⟨np,nr,au,ed,fs⟩=R at *;subst hz;have HP:=Hd (hE.kept lg.o);have HQ:=Hd hq;clear hA hE hq hj HL;go_in;go_wp2_with fail;generalize w.alloc _=w1 at *;go_loopw [4,16] (fun o i wr=>∃(k:Nat),k<=ed.length/\i=.int .i64 k/\Hi (OutG StrK 1 (fun _=>False) w1.heap.size 9 wr o ((ed.take k).map znS))/\Hi (Kept w1 wr)) (fun _ i _=>ed.length - (intOf i).toNat)
  .exact⟨0,ai _,rfl,ey _ _ _ _ _ _,af _⟩
  case round =>
   obtain⟨k,hk,rfl,lu,kO⟩:=hrel;by_cases kV:k<ed.length
   .obtain⟨q,hx⟩:∃x,ed[k]? = some x:=⟨_,ac kV⟩;have Ct:=HQ.o q (am hx);have HT:=Hd (zBB hx);obtain⟨g,o,rfl,hg,d0,d1,d2,d3⟩:=(HP.o.kept kO.o).at_ k q hx;obtain⟨us,nY⟩:=gX ((ed.take k).map znS);have mN:us.length<=1000:=(by rw[<- nY.o,bm,bw];omega);rw[nY.o]at lu HT;obtain⟨nm,qA⟩:=gX (znS q);rw[qA.o]at HT;obtain⟨q1,q2,q3,q4⟩:=q;simp only at d0 d1 d2 d3 Ct;have pQ:=Hd (zaA wr (.cells #[.string (bs q1),.string (bs q2),.string (bs q3),.string (bs q4)] 52));have tX:=Hd (zkP q1 q2 q3 q4 false (wr.alloc (.cells #[.string (bs q1),.string (bs q2),.string (bs q3),.string (bs q4)] 52)) a_);have vq:Hi (zHl q1 q2 q3 q4 false=nm):=qA.o;rw[vq.o]at tX;clear hx qA vq;go_wp2_with fail;refine k_ tX.o fun w3 li=>?_;have lq:=Hd (pQ.o.trans li);have oT:=Hd (lu.o.kept zkW lq.o);have ly:=Hd (aI w3 9 #[.string (bs nm)]);have lH:=Hd (zaA w3 (.cells #[.string (bs nm)] 9));have nS:=Hd (oT.o.kept zkW lH.o);obtain⟨ar,cr,rfl,hcr,hmr⟩:=lu.o.form;have hb6:w1.heap.size<=(w3.alloc (.cells #[.string (bs nm)] 9)).heap.size:=((kO.o.trans lq.o).trans lH.o).size;clear li tX oT d0 d1 d2 d3;go_wp2_with (at_builtin;refine zeG ?_);refine Hd ?_;refine zaO zkW rfl (.tmp 20) (.tmp 23) 37 rfl i0 _ 16 dw hi mr mq mm rfl a_ d_ nS.o _ [.string (bs nm)] nm d_ (fun j u hu=>ly.o.cell j u (by rw[<- bE];exact hu)) rfl rfl h_ a_ hb6 _ rfl ?_;intro g7 pR w7 lp lf mB mT;have mi:Hi (OutG StrK 1 (fun _=>False) w1.heap.size 9 w7 (.slice (some ⟨g7,0,none⟩) (us.length+1) pR) ((ed.take (k+1)).map znS)):=(by rw[HT.o];exact lp);have mE:Hi (Kept w1 w7):=((kO.o.trans lq.o).trans lH.o).trans' ((ch lf).below ((kO.o.trans lq.o).trans lH.o).size (fun i q=>(nS.o.blk i q.symm).1));clear lp lf mB ly lH nS lq pQ lu kO HT nY;go_wp2;go_roundw
    .exact⟨k+1,a_,by go_num,mi.o,mE.o⟩
    .simp [intOf];omega
   .obtain rfl:k=ed.length:=a_;rw[bi]at lu;obtain⟨ms,vt⟩:=gX (ed.map znS);rw[vt.o]at lu HJ;obtain⟨ar,cr,rfl,hcr,hmr⟩:=lu.o.form;have zH:=Hd (HJ.o _ wr (Strs.outO lu.o));have oh:=Hd (lg.o.trans kO.o);clear lu kO HJ;go_wp2_with fail;refine k_ zH.o fun w8 pG=>?_;have sd:=Hd (oh.o.trans pG);clear pG zH;go_wp2
    (try go_ret)
    exact⟨rfl,sd.o⟩
 .have HL:Hi (zkY ⟨np,nr,au,ed,fs⟩=au):=aa hz;rw[HL.o]at hl hq;have HJ:Hi (∀v w',Strs w' v (au.map znS)->Calls prog 86 #[v,.string (bs [44,32])] w' fun e w''=>e=.returned (.string (bs (zgG ⟨np,nr,au,ed,fs⟩)))/\Kept w' w''):=fun v w' h=>by
   have:=zd9 v (au.map znS) [44,32] w' h (by rw[bm];omega) (by unfold zgG at hj;rw[HL.o]at hj;exact hj);unfold zgG;rw[HL.o];exact this
  generalize zgG ⟨np,nr,au,ed,fs⟩=R at *;have hnz:0<au.length:=by
     rcases dT au.length with e|e
     .exact absurd (bD.1 e) hz
     .exact e
  have ML:¬ au.length=0:=a_;have MM:decide ((au.length:Int)=0)=false:=bH a_;clear hz;have HP:=Hd (hA.kept lg.o);have HQ:=Hd hq;clear hA hE hq hj HL;go_in;go_wp2_with fail;generalize w.alloc _=w1 at *;go_loopw [4,16] (fun o i wr=>∃(k:Nat),k<=au.length/\i=.int .i64 k/\Hi (OutG StrK 1 (fun _=>False) w1.heap.size 9 wr o ((au.take k).map znS))/\Hi (Kept w1 wr)) (fun _ i _=>au.length - (intOf i).toNat)
  .exact⟨0,ai _,rfl,ey _ _ _ _ _ _,af _⟩
  case round =>
   obtain⟨k,hk,rfl,lu,kO⟩:=hrel;by_cases kV:k<au.length
   .obtain⟨q,hx⟩:∃x,au[k]? = some x:=⟨_,ac kV⟩;have Ct:=HQ.o q (am hx);have HT:=Hd (zBB hx);obtain⟨g,o,rfl,hg,d0,d1,d2,d3⟩:=(HP.o.kept kO.o).at_ k q hx;obtain⟨us,nY⟩:=gX ((au.take k).map znS);have mN:us.length<=1000:=(by rw[<- nY.o,bm,bw];omega);rw[nY.o]at lu HT;obtain⟨nm,qA⟩:=gX (znS q);rw[qA.o]at HT;obtain⟨q1,q2,q3,q4⟩:=q;simp only at d0 d1 d2 d3 Ct;have pQ:=Hd (zaA wr (.cells #[.string (bs q1),.string (bs q2),.string (bs q3),.string (bs q4)] 52));have tX:=Hd (zkP q1 q2 q3 q4 false (wr.alloc (.cells #[.string (bs q1),.string (bs q2),.string (bs q3),.string (bs q4)] 52)) a_);have vq:Hi (zHl q1 q2 q3 q4 false=nm):=qA.o;rw[vq.o]at tX;clear hx qA vq;go_wp2_with fail;refine k_ tX.o fun w3 li=>?_;have lq:=Hd (pQ.o.trans li);have oT:=Hd (lu.o.kept zkW lq.o);have ly:=Hd (aI w3 9 #[.string (bs nm)]);have lH:=Hd (zaA w3 (.cells #[.string (bs nm)] 9));have nS:=Hd (oT.o.kept zkW lH.o);obtain⟨ar,cr,rfl,hcr,hmr⟩:=lu.o.form;have hb6:w1.heap.size<=(w3.alloc (.cells #[.string (bs nm)] 9)).heap.size:=((kO.o.trans lq.o).trans lH.o).size;clear li tX oT d0 d1 d2 d3;go_wp2_with (at_builtin;refine zeG ?_);refine Hd ?_;refine zaO zkW rfl (.tmp 20) (.tmp 23) 37 rfl i0 _ 16 dw hi mr mq mm rfl a_ d_ nS.o _ [.string (bs nm)] nm d_ (fun j u hu=>ly.o.cell j u (by rw[<- bE];exact hu)) rfl rfl h_ a_ hb6 _ rfl ?_;intro g7 pR w7 lp lf mB mT;have mi:Hi (OutG StrK 1 (fun _=>False) w1.heap.size 9 w7 (.slice (some ⟨g7,0,none⟩) (us.length+1) pR) ((au.take (k+1)).map znS)):=(by rw[HT.o];exact lp);have mE:Hi (Kept w1 w7):=((kO.o.trans lq.o).trans lH.o).trans' ((ch lf).below ((kO.o.trans lq.o).trans lH.o).size (fun i q=>(nS.o.blk i q.symm).1));clear lp lf mB ly lH nS lq pQ lu kO HT nY;go_wp2;go_roundw
    .exact⟨k+1,a_,by go_num,mi.o,mE.o⟩
    .simp [intOf];omega
   .obtain rfl:k=au.length:=a_;rw[bi]at lu;obtain⟨ms,vt⟩:=gX (au.map znS);rw[vt.o]at lu HJ;obtain⟨ar,cr,rfl,hcr,hmr⟩:=lu.o.form;have zH:=Hd (HJ.o _ wr (Strs.outO lu.o));have oh:=Hd (lg.o.trans kO.o);clear lu kO HJ;go_wp2_with fail;refine k_ zH.o fun w8 pG=>?_;have sd:=Hd (oh.o.trans pG);clear pG zH;go_wp2
    (try go_ret)
    exact⟨rfl,sd.o⟩
def iI:=@Strs.outO
end Go.Proofs.YtnldgmhdjancbaaGreatDoor
