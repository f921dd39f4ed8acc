/- Parts. -/
import Derived.Test.YtnldgmhdjancbaaGreatDoorW10
set_option linter.all false
namespace Go.Proofs.YtnldgmhdjancbaaGreatDoor
open Go.RowKit
def zBn(ps:List P4)(h:zeM ps=0):∀p∈ps,zhZ p.1 p.2.1 p.2.2.1 p.2.2.2=0:=by
 induction ps with
 | nil=>intro p hp;cases hp
 | cons q ps ih =>
  unfold zeM at h
  split at h
  .rename_i hq;exact absurd h hq
  .rename_i hq;intro p hp;rcases bj.1 hp with rfl|hp
   .simpa using hq
   .exact ih h p hp
def zEp(fs:List Pr):∀ds,ztT ds fs=0->∀k f,fs[k]? = some f->zmE (ds++fs.take k) f=0:=by
 induction fs with
 | nil=>intro ds _ k f hf;cases hf
 | cons g fs ih =>
  intro ds h k f hf;unfold ztT at h
  split at h
  .rename_i hq;exact absurd h hq
  .rename_i hq;cases k with
   | zero=>cases hf;simpa using hq
   | succ k =>
    have:=ih _ h k f (by simpa using hf);simpa using this
def zuB(ds:List Pr)(f:Pr)(h:zmE ds f=0):za8 f.1=true/\f.1≠zHb/\f.1≠zHc/\f.2≠[]/\zgN f.2=true/\zxQ f.2=f.2/\znE ds f.1=false:=by
 unfold zmE at h
 split at h
 .cases h
 rename_i h1
 split at h
 .cases h
 rename_i h2
 split at h
 .cases h
 rename_i h3;refine⟨?_,fun q=>h1 (.inl (.inr q)),fun q=>h1 (.inr q),fun q=>h2 (.inl (.inl (.inl q))),?_,?_,by simpa using h3⟩
 .cases hn:za8 f.1
  .exact absurd (.inl (.inl hn)) h1
  .rfl
 .unfold zgN;cases hv:za9 (bs f.2)
  .exact absurd (.inl (.inl (.inr hv))) h2
  .cases hc:f.2.contains 10
   .rfl
   .exact absurd (.inl (.inr hc)) h2
 .exact Classical.byContradiction fun q=>h2 (.inr q)
def zEq(ss:List SrcT):∀ks,zGj ks ss=0->∀k s,ss[k]? = some s->za8 s.type=true/\za8 s.key=true/\(ks++(ss.take k).map (·.key)).contains s.key=false/\zBk s=0:=by
 induction ss with
 | nil=>intro ks _ k s hs;cases hs
 | cons t ss ih =>
  intro ks h k s hs;unfold zGj at h
  split at h
  .cases h
  rename_i h1
  split at h
  .cases h
  rename_i h2
  split at h
  .rename_i h3;exact absurd h h3
  rename_i h3;cases k with
  | zero =>
   cases hs;refine⟨?_,?_,by simpa using h2,by simpa using h3⟩
   .cases hn:za8 t.type
    .exact absurd (.inl hn) h1
    .rfl
   .cases hn:za8 t.key
    .exact absurd (.inr hn) h1
    .rfl
  | succ k =>
   have:=ih _ h k s (by simpa using hs);simpa using this
def zyM(s:SrcT)(h:zBk s=0):s.author.length<=32/\s.editor.length<=32/\s.fields.length<=24/\zeM s.author=0/\zeM s.editor=0/\ztT [] s.fields=0/\znE s.fields zr0=true:=by
 unfold zBk at h
 split at h
 .cases h
 rename_i h1
 split at h
 .rename_i h2;exact absurd h h2
 rename_i h2
 split at h
 .rename_i h3;exact absurd h h3
 rename_i h3
 split at h
 .rename_i h4;exact absurd h h4
 rename_i h4
 split at h
 .rename_i h5;exact⟨a_,a_,a_,by simpa using h2,by simpa using h3,by simpa using h4,h5⟩
 .cases h
def zBo(l:Bs):Bool:=l.all fun b=>decide (32<=(b.toNat:Int))&&decide ((b.toNat:Int)<127)
def zcP{l:Bs}(h:zBo l=true):lnB l=true:=by
 have:zgN l=true:=zD0 l (fun b hb=>by
  unfold zBo at h;rw[dn]at h;have:=h b hb;simpa using this)
 exact this
def zEr{t:Bs}(h:zBo t=true):zeV t=if(zo2 t).isSome=true then 0 else 5:=by
 unfold zeV;rw[zcP h];rfl
def zdT{t:Bs}(h:zBo t=true)(hs:(zo2 t).isSome=true):zeV t=0:=by rw[zEr h,hs];rfl
def zlG{t:Bs}(h:zeV t=0):zhM t=(zo2 t).getD []:=by unfold zhM;rw[ae h]
def zHf:zz9 zt2=0:=by
 unfold zz9 zt2;rw[zgO,aa f_,aa f_,zdT f_ f_,aa c_,zgO,aa f_,aa f_,zdT f_ f_,aa c_,zpA,ae f_]
def zEs:zz9 zl7=0:=by
 unfold zz9 zl7;rw[zgO,aa f_,aa f_,zdT f_ f_,aa c_,zgO,aa f_,aa f_,zdT f_ f_,aa c_,zpA,ae f_]
def zHg:zv1 zeQ=0:=by
 have h1:zeV zeQ.cite=0:=zdT f_ f_;have h2:zeV zeQ.bare=0:=zdT f_ f_;unfold zv1;rw[h1,aa c_,zlG h1,h2,aa f_]
def zEt:zv1 zd2=0:=by
 have h1:zeV zd2.cite=0:=zdT f_ f_;have h2:zeV zd2.bare=0:=zdT f_ f_;unfold zv1;rw[h1,aa c_,zlG h1,h2,aa f_]
def zEu:zv4 zd2.sort=0:=f_
def zuC:zcU zeQ=0:=by
 unfold zcU;have h1:lnB zeQ.between=true:=zcP f_;have h2:lnB zeQ.begin_=true:=zcP f_;have h3:lnB zeQ.end_=true:=zcP f_;have h4:zz9 zeQ.entries=0:=zHf;rw[aa c_,aa f_,aa c_,zHg,aa c_,h1,h2,h3,aa c_,aa c_,h4]
def zEv:zcU zd2=0:=by
 unfold zcU;have h1:lnB zd2.between=true:=zcP f_;have h2:lnB zd2.begin_=true:=zcP f_;have h3:lnB zd2.end_=true:=zcP f_;have h4:zz9 zd2.entries=0:=zEs;rw[aa c_,aa f_,zEu,aa c_,zEt,aa c_,h1,h2,h3,aa c_,aa c_,h4]
def zHh:zAW [110,117,109,101,114,105,99]=some zeQ:=by
 unfold zAW;rw[aa c_,ae d_]
def zEw:zAW [97,117,116,104,111,114,45,100,97,116,101]=some zd2:=by
 unfold zAW;rw[ae d_]
structure Cit where
 key:Bs
 pre:Bs
 suf:Bs
 bare:Bool
inductive Inl where
 | mk (kL:Int) (kN kP title id:Bs) (cls:List Bs) (prs:List Pr) (args:List Bs) (kQ:List Cit) (kM:List Inl)
def Inl.kind:Inl->Int|.mk k _ _ _ _ _ _ _ _ _=>k
def Inl.text:Inl->Bs|.mk _ k _ _ _ _ _ _ _ _=>k
def Inl.dest:Inl->Bs|.mk _ _ k _ _ _ _ _ _ _=>k
def Inl.title:Inl->Bs|.mk _ _ _ k _ _ _ _ _ _=>k
def Inl.id:Inl->Bs|.mk _ _ _ _ k _ _ _ _ _=>k
def Inl.cls:Inl->List Bs|.mk _ _ _ _ _ k _ _ _ _=>k
def Inl.prs:Inl->List Pr|.mk _ _ _ _ _ _ k _ _ _=>k
def Inl.args:Inl->List Bs|.mk _ _ _ _ _ _ _ k _ _=>k
def Inl.cits:Inl->List Cit|.mk _ _ _ _ _ _ _ _ k _=>k
def Inl.kids:Inl->List Inl|.mk _ _ _ _ _ _ _ _ _ k=>k
inductive Blo where
 | mk (kL kU:Int) (kW kN kP title id:Bs) (cls:List Bs) (prs:List Pr) (kY:List Inl) (kM:List Blo)
def Blo.kind:Blo->Int|.mk k _ _ _ _ _ _ _ _ _ _=>k
def Blo.level:Blo->Int|.mk _ k _ _ _ _ _ _ _ _ _=>k
def Blo.info:Blo->Bs|.mk _ _ k _ _ _ _ _ _ _ _=>k
def Blo.text:Blo->Bs|.mk _ _ _ k _ _ _ _ _ _ _=>k
def Blo.dest:Blo->Bs|.mk _ _ _ _ k _ _ _ _ _ _=>k
def Blo.title:Blo->Bs|.mk _ _ _ _ _ k _ _ _ _ _=>k
def Blo.id:Blo->Bs|.mk _ _ _ _ _ _ k _ _ _ _=>k
def Blo.cls:Blo->List Bs|.mk _ _ _ _ _ _ _ k _ _ _=>k
def Blo.prs:Blo->List Pr|.mk _ _ _ _ _ _ _ _ k _ _=>k
def Blo.line:Blo->List Inl|.mk _ _ _ _ _ _ _ _ _ k _=>k
def Blo.kids:Blo->List Blo|.mk _ _ _ _ _ _ _ _ _ _ k=>k
def Sam(S:Nat->Prop)(w w':World):Prop:=∀g,g<w.heap.size->S g->w'.heap[g]? = w.heap[g]?
def Sam.lt{S:Nat->Prop}{w w':World}(h:Sam S w w'){g:Nat}(hg:g<w.heap.size)(hs:S g):g<w'.heap.size:=by
 rcases bG g w'.heap.size with q|q
 .exact q
 .have:=h g hg hs;rw[bB q,bY hg]at this;cases this
def Sam.cell{S:Nat->Prop}{w w':World}(h:Sam S w w'){g:Nat}(o:Nat)(hg:g<w.heap.size)(hs:S g):w'.cell? ⟨g,o,none⟩=w.cell? ⟨g,o,none⟩:=jd (a:=⟨g,o,none⟩) (h g hg hs)
def Sam.only{S T:Nat->Prop}{w w':World}(k:Only T w w')(hs:∀g,g<w.heap.size->S g->¬ T g):Sam S w w':=fun g hg h=>k.block g hg (hs g hg h)
def Sam.kept{S:Nat->Prop}{w w':World}(k:Kept w w'):Sam S w w':=fun g hg _=>k.block g hg
def InB(S:Nat->Prop)(v:Value)(n:Nat):Prop:=0<n->∀g,v.ownBlock=some g->S g
def InB.mono{S S':Nat->Prop}{v:Value}{n:Nat}(h:InB S v n)(k:∀g,v.ownBlock=some g->0<n->S g->S' g):InB S' v n:=fun q g hg=>k g hg q (h q g hg)
def InB.nil(S:Nat->Prop)(v:Value):InB S v 0:=fun q=>absurd q (iB 0)
def RowR{α:Type}(S:Nat->Prop)(k:Nat)(R:List Value->α->Prop)(w:World)(v:Value)(xs:List α):Prop :=
 ∃a c,v=.slice a xs.length c/\xs.length<=c/\(0<xs.length->∃g o,a=some ⟨g,o,none⟩/\g<w.heap.size/\S g /\
  ∀j x,xs[j]? = some x->∃cs:List Value,cs.length=k/\(∀i u,cs[i]? = some u->w.cell? ⟨g,o+j * k+i,none⟩=some u)/\R cs x)
section
variable {α:Type}{S S' T:Nat->Prop}{k:Nat}{R R':List Value->α->Prop}{w w':World}{v:Value}{xs:List α}
def RowR.form(h:RowR S k R w v xs):∃a c,v=.slice a xs.length c/\xs.length<=c:=by
 obtain⟨a,c,hv,hc,_⟩:=h;exact⟨a,c,hv,hc⟩
def RowR.at_{a:Option Addr}{n c:Nat}(h:RowR S k R w (.slice a n c) xs)(j:Nat)(x:α)(hx:xs[j]? = some x):∃g o cs,a=some ⟨g,o,none⟩/\g<w.heap.size/\S g/\cs.length=k/\(∀i u,cs[i]? = some u->w.cell? ⟨g,o+j * k+i,none⟩=some u)/\R cs x/\n=xs.length/\xs.length<=c:=by
 obtain⟨a',c',hv,hc,h3⟩:=h;obtain⟨rfl,rfl,rfl⟩:=bL hv;obtain⟨hk,_⟩:=ak.1 hx;obtain⟨g,o,ha,hg,hS,kR⟩:=h3 a_;obtain⟨cs,h1,h2,h3⟩:=kR j x hx;exact⟨g,o,cs,ha,hg,hS,h1,h2,h3,rfl,hc⟩
def RowR.step(h:RowR S k R w v xs)(hb:Sam S w w')(hS:∀g,g<w.heap.size->S g->S' g)(hR:∀cs x,x∈xs->R cs x->R' cs x):RowR S' k R' w' v xs:=by
 obtain⟨a,c,hv,hc,h3⟩:=h;refine⟨a,c,hv,hc,fun q=>?_⟩;obtain⟨g,o,ha,hg,hs,kR⟩:=h3 q;refine⟨g,o,ha,hb.lt hg hs,hS g hg hs,fun j x hx=>?_⟩;obtain⟨cs,h1,h2,h4⟩:=kR j x hx;exact⟨cs,h1,fun i u hu=>(hb.cell _ hg hs).trans (h2 i u hu),hR cs x (am hx) h4⟩
def RowR.none_(S:Nat->Prop)(k:Nat)(R:List Value->α->Prop)(w:World):RowR S k R w (.slice none 0 0) []:=⟨none,0,rfl,aw _,fun q=>absurd q b_⟩
def zpI{k:Nat}:∀(css:List (List Value)),(∀cs∈css,cs.length=k)->∀(j:Nat) (cs:List Value),css[j]? = some cs->∀i u,cs[i]? = some u->css.flatten[j * k+i]? = some u
 | [],_,_,_,h,_,_,_=>by cases h
 | c::css,hl,0,cs,h,i,u,hu=>by
  cases h;rw[dN,gi,bP,bX (ak.1 hu).1];exact hu
 | c::css,hl,j+1,cs,h,i,u,hu=>by
  have hc:=hl c b_;rw[dN,bp (by rw[hc,fO];omega),hc,show(j+1) * k+i - k=j * k+i by rw[fO];omega];exact zpI css (fun x hx=>hl x (bl _ hx)) j cs (by simpa using h) i u hu
def zlH{k:Nat}:∀(css:List (List Value)),(∀cs∈css,cs.length=k)->css.flatten.length=css.length * k
 | [],_=>by simp
 | c::css,hl=>by
  rw[dN,ah,zlH css (fun x hx=>hl x (bl _ hx)),hl c b_,az,fO];omega
def RowR.own{base:Nat}{e:TypeId}(css:List (List Value))(hk:∀cs∈css,cs.length=k)(hl:css.length=xs.length)(h:w.ownsRow base e k v xs.length css.flatten)(hR:∀(j:Nat) (cs:List Value) (x:α),css[j]? = some cs->xs[j]? = some x->R cs x)(hS:∀g,v.ownBlock=some g->base<=g->S g):RowR S k R w v xs:=by
 obtain⟨a,c,hv,hc,_,h3⟩:=zaZ h;refine⟨a,c,hv,hc,fun q=>?_⟩;obtain⟨g,ha,hb,hg,kR⟩:=h3 q;refine⟨g,0,ha,hg,hS g (by rw[hv,ha];rfl) hb,fun j x hx=>?_⟩;have hj:=(ak.1 hx).1;have hcs:css[j]? = some (css[j]'a_):=ac a_;refine⟨css[j]'a_,hk _ (dm _),fun i u hu=>?_,hR j _ x hcs hx⟩;rw[bP];exact kR _ u (zpI css hk j _ hcs i u hu)
end
def Strs.sam{S:Nat->Prop}{w w':World}{v:Value}{xs:List Bs}(h:Strs w v xs)(hi:InB S v xs.length)(k:Sam S w w'):Strs w' v xs:=by
 obtain⟨a,c,hv,hc,h3⟩:=h;refine⟨a,c,hv,hc,fun q=>?_⟩;obtain⟨g,o,ha,hg,kR⟩:=h3 q;have hs:S g:=hi q g (by rw[hv,ha];rfl);exact⟨g,o,ha,k.lt hg hs,fun j x hx=>(k.cell _ hg hs).trans (kR j x hx)⟩
def Strs.onlS{S T:Nat->Prop}{w w':World}{v:Value}{xs:List Bs}(h:Strs w v xs)(hi:InB S v xs.length)(k:Only T w w')(hs:∀g,g<w.heap.size->S g->¬ T g):Strs w' v xs:=h.sam hi (Sam.only k hs)
def Strs.ltB{w:World}{v:Value}{xs:List Bs}(h:Strs w v xs):InB (fun g=>g<w.heap.size) v xs.length:=fun q g hg=>by
 obtain⟨a,c,hv,hc,h3⟩:=h;obtain⟨g',o,ha,mY,_⟩:=h3 q;rw[hv,ha]at hg;have:g'=g:=(by simpa [Value.ownBlock]using hg);omega
def Prs.sam{S:Nat->Prop}{w w':World}{v:Value}{xs:List Pr}(h:Prs w v xs)(hi:InB S v xs.length)(k:Sam S w w'):Prs w' v xs:=by
 obtain⟨a,c,hv,hc,h3⟩:=h;refine⟨a,c,hv,hc,fun q=>?_⟩;obtain⟨g,o,ha,hg,kR⟩:=h3 q;have hs:S g:=hi q g (by rw[hv,ha];rfl);refine⟨g,o,ha,k.lt hg hs,fun j x hx=>?_⟩;rw[k.cell _ hg hs,k.cell _ hg hs];exact kR j x hx
def Prs.onlS{S T:Nat->Prop}{w w':World}{v:Value}{xs:List Pr}(h:Prs w v xs)(hi:InB S v xs.length)(k:Only T w w')(hs:∀g,g<w.heap.size->S g->¬ T g):Prs w' v xs:=h.sam hi (Sam.only k hs)
def Prs.ltB{w:World}{v:Value}{xs:List Pr}(h:Prs w v xs):InB (fun g=>g<w.heap.size) v xs.length:=fun q g hg=>by
 obtain⟨a,c,hv,hc,h3⟩:=h;obtain⟨g',o,ha,mY,_⟩:=h3 q;rw[hv,ha]at hg;have:g'=g:=(by simpa [Value.ownBlock]using hg);omega
def CitW(cs:List Value)(c:Cit):Prop:=cs=[.string (bs c.key),.string (bs c.pre),.string (bs c.suf),.bool c.bare]
abbrev Cits(S:Nat->Prop):World->Value->List Cit->Prop:=RowR S 4 CitW
def Cits.sam{S S':Nat->Prop}{w w':World}{v:Value}{xs:List Cit}(h:Cits S w v xs)(k:Sam S w w')(hS:∀g,g<w.heap.size->S g->S' g):Cits S' w' v xs:=h.step k hS (fun _ _ _ h=>h)
def zn8(x:Inl)(vC vP vA vT vK:Value):List Value:=[.int .i64 x.kind,.string (bs x.text),.string (bs x.dest),.string (bs x.title),.string (bs x.id),vC,vP,vA,vT,vK]
def InlW(S:Nat->Prop)(L:World->Value->List Inl->Prop)(w:World)(cs:List Value)(x:Inl):Prop :=
 ∃vC vP vA vT vK,cs=zn8 x vC vP vA vT vK/\(Strs w vC x.cls/\InB S vC x.cls.length)/\(Prs w vP x.prs/\InB S vP x.prs.length)/\(Strs w vA x.args/\InB S vA x.args.length)/\Cits S w vT x.cits/\L w vK x.kids
def Lns(S:Nat->Prop):Nat->World->Value->List Inl->Prop
 | 0,w,v,xs=>xs=[]/\RowR S 10 (fun _ _=>False) w v xs
 | n+1,w,v,xs=>RowR S 10 (InlW S (Lns S n) w) w v xs
def InlW.sam{S S':Nat->Prop}{L L':World->Value->List Inl->Prop}{w w':World}{cs:List Value}{x:Inl}(h:InlW S L w cs x)(k:Sam S w w')(hS:∀g,g<w.heap.size->S g->S' g)(hL:∀v,L w v x.kids->L' w' v x.kids):InlW S' L' w' cs x:=by
 obtain⟨vC,vP,vA,vT,vK,rfl,⟨c1,c2⟩,⟨p1,p2⟩,⟨a1,a2⟩,t,kk⟩:=h;exact⟨vC,vP,vA,vT,vK,rfl,⟨c1.sam c2 k,c2.mono fun g hg q=>hS g (c1.ltB q g hg)⟩,⟨p1.sam p2 k,p2.mono fun g hg q=>hS g (p1.ltB q g hg)⟩,⟨a1.sam a2 k,a2.mono fun g hg q=>hS g (a1.ltB q g hg)⟩,t.sam k hS,hL vK kk⟩
def Lns.sam{S S':Nat->Prop}:∀{n:Nat} {w w':World} {v:Value} {xs:List Inl},Lns S n w v xs->Sam S w w'->(∀g,g<w.heap.size->S g->S' g)->Lns S' n w' v xs
 | 0,_,_,_,_,h,k,hS=>⟨h.1,RowR.step h.2 k hS (fun _ _ _ h=>h)⟩
 | n+1,_,_,_,_,h,k,hS=>RowR.step (show RowR S 10 _ _ _ _ from h) k hS (fun _ _ _ h=>h.sam k hS (fun _ h=>Lns.sam h k hS))
def Lns.kept{S:Nat->Prop}{n:Nat}{w w':World}{v:Value}{xs:List Inl}(h:Lns S n w v xs)(k:Kept w w'):Lns S n w' v xs:=h.sam (Sam.kept k) (fun _ _ q=>q)
def Lns.mono{S S':Nat->Prop}{n:Nat}{w:World}{v:Value}{xs:List Inl}(h:Lns S n w v xs)(hS:∀g,g<w.heap.size->S g->S' g):Lns S' n w v xs:=h.sam (fun _ _ _=>rfl) hS
def Lns.form{S:Nat->Prop}{n:Nat}{w:World}{v:Value}{xs:List Inl}(h:Lns S n w v xs):∃a c,v=.slice a xs.length c/\xs.length<=c:=by
 cases n with
 | zero=>exact RowR.form h.2
 | succ n=>exact RowR.form (show RowR S 10 _ _ _ _ from h)
def Lns.none_(S:Nat->Prop)(n:Nat)(w:World):Lns S n w (.slice none 0 0) []:=by
 cases n with
 | zero=>exact⟨rfl,RowR.none_ _ _ _ _⟩
 | succ n=>exact(RowR.none_ S 10 _ w:RowR S 10 _ w _ _)
def InlW.up{S:Nat->Prop}{L L':World->Value->List Inl->Prop}{w:World}{cs:List Value}{x:Inl}(h:InlW S L w cs x)(hL:∀v,L w v x.kids->L' w v x.kids):InlW S L' w cs x:=h.sam (fun _ _ _=>rfl) (fun _ _ q=>q) hL
def Lns.up{S:Nat->Prop}:∀{n:Nat} {w:World} {v:Value} {xs:List Inl},Lns S n w v xs->Lns S (n+1) w v xs
 | 0,w,v,xs,h=>by
  obtain⟨rfl,h⟩:=h;exact RowR.step (S':=S) (R':=InlW S (Lns S 0) w) h (fun _ _ _=>rfl) (fun _ _ q=>q) (fun _ _ _ h=>h.elim)
 | n+1,w,v,xs,h=>RowR.step (show RowR S 10 _ _ _ _ from h) (fun _ _ _=>rfl) (fun _ _ q=>q) (fun _ _ _ h=>h.up (fun _ h=>Lns.up h))
def Lns.ups{S:Nat->Prop}{n m:Nat}{w:World}{v:Value}{xs:List Inl}(h:Lns S n w v xs)(k:n<=m):Lns S m w v xs:=by
 induction k with
 | refl=>exact h
 | step _ ih=>exact ih.up
def zqQ(x:Blo)(vC vP vL vK:Value):List Value:=[.int .i64 x.kind,.int .i64 x.level,.string (bs x.info),.string (bs x.text),.string (bs x.dest),.string (bs x.title),.string (bs x.id),vC,vP,vL,vK]
def BloW(S:Nat->Prop)(m:Nat)(L:World->Value->List Blo->Prop)(w:World)(cs:List Value)(x:Blo):Prop :=
 ∃vC vP vL vK,cs=zqQ x vC vP vL vK/\(Strs w vC x.cls/\InB S vC x.cls.length)/\(Prs w vP x.prs/\InB S vP x.prs.length)/\Lns S m w vL x.line/\L w vK x.kids
def Bls(S:Nat->Prop)(m:Nat):Nat->World->Value->List Blo->Prop
 | 0,w,v,xs=>xs=[]/\RowR S 11 (fun _ _=>False) w v xs
 | n+1,w,v,xs=>RowR S 11 (BloW S m (Bls S m n) w) w v xs
def BloW.sam{S S':Nat->Prop}{m:Nat}{L L':World->Value->List Blo->Prop}{w w':World}{cs:List Value}{x:Blo}(h:BloW S m L w cs x)(k:Sam S w w')(hS:∀g,g<w.heap.size->S g->S' g)(hL:∀v,L w v x.kids->L' w' v x.kids):BloW S' m L' w' cs x:=by
 obtain⟨vC,vP,vL,vK,rfl,⟨c1,c2⟩,⟨p1,p2⟩,l,kk⟩:=h;exact⟨vC,vP,vL,vK,rfl,⟨c1.sam c2 k,c2.mono fun g hg q=>hS g (c1.ltB q g hg)⟩,⟨p1.sam p2 k,p2.mono fun g hg q=>hS g (p1.ltB q g hg)⟩,l.sam k hS,hL vK kk⟩
def Bls.sam{S S':Nat->Prop}{m:Nat}:∀{n:Nat} {w w':World} {v:Value} {xs:List Blo},Bls S m n w v xs->Sam S w w'->(∀g,g<w.heap.size->S g->S' g)->Bls S' m n w' v xs
 | 0,_,_,_,_,h,k,hS=>⟨h.1,RowR.step h.2 k hS (fun _ _ _ h=>h)⟩
 | n+1,_,_,_,_,h,k,hS=>RowR.step (show RowR S 11 _ _ _ _ from h) k hS (fun _ _ _ h=>h.sam k hS (fun _ h=>Bls.sam h k hS))
def Bls.step{S S' T:Nat->Prop}{m n:Nat}{w w':World}{v:Value}{xs:List Blo}(h:Bls S m n w v xs)(k:Only T w w')(hs:∀g,g<w.heap.size->S g->¬ T g)(hS:∀g,g<w.heap.size->S g->S' g):Bls S' m n w' v xs:=h.sam (Sam.only k hs) hS
def Bls.kept{S:Nat->Prop}{m n:Nat}{w w':World}{v:Value}{xs:List Blo}(h:Bls S m n w v xs)(k:Kept w w'):Bls S m n w' v xs:=h.sam (Sam.kept k) (fun _ _ q=>q)
def Bls.mono{S S':Nat->Prop}{m n:Nat}{w:World}{v:Value}{xs:List Blo}(h:Bls S m n w v xs)(hS:∀g,g<w.heap.size->S g->S' g):Bls S' m n w v xs:=h.sam (fun _ _ _=>rfl) hS
def Bls.form{S:Nat->Prop}{m n:Nat}{w:World}{v:Value}{xs:List Blo}(h:Bls S m n w v xs):∃a c,v=.slice a xs.length c/\xs.length<=c:=by
 cases n with
 | zero=>exact RowR.form h.2
 | succ n=>exact RowR.form (show RowR S 11 _ _ _ _ from h)
def Bls.none_(S:Nat->Prop)(m n:Nat)(w:World):Bls S m n w (.slice none 0 0) []:=by
 cases n with
 | zero=>exact⟨rfl,RowR.none_ _ _ _ _⟩
 | succ n=>exact(RowR.none_ S 11 _ w:RowR S 11 _ w _ _)
def BloW.up{S:Nat->Prop}{m:Nat}{L L':World->Value->List Blo->Prop}{w:World}{cs:List Value}{x:Blo}(h:BloW S m L w cs x)(hL:∀v,L w v x.kids->L' w v x.kids):BloW S m L' w cs x:=h.sam (fun _ _ _=>rfl) (fun _ _ q=>q) hL
def Bls.up{S:Nat->Prop}{m:Nat}:∀{n:Nat} {w:World} {v:Value} {xs:List Blo},Bls S m n w v xs->Bls S m (n+1) w v xs
 | 0,w,v,xs,h=>by
  obtain⟨rfl,h⟩:=h;exact RowR.step (S':=S) (R':=BloW S m (Bls S m 0) w) h (fun _ _ _=>rfl) (fun _ _ q=>q) (fun _ _ _ h=>h.elim)
 | n+1,w,v,xs,h=>RowR.step (show RowR S 11 _ _ _ _ from h) (fun _ _ _=>rfl) (fun _ _ q=>q) (fun _ _ _ h=>h.up (fun _ h=>Bls.up h))
def Bls.ups{S:Nat->Prop}{m n k:Nat}{w:World}{v:Value}{xs:List Blo}(h:Bls S m n w v xs)(q:n<=k):Bls S m k w v xs:=by
 induction q with
 | refl=>exact h
 | step _ ih=>exact ih.up
def zfJ(g o j:Nat):(⟨g,o,none⟩:Addr).add j=⟨g,o+j,none⟩:=by unfold Addr.add;split<;>simp_all
structure ReadK {α:Type} (R:(Nat->Prop)->World->List Value->α->Prop):Prop where
 sam:∀{S S':Nat->Prop} {w w':World} {cs:List Value} {x:α},R S w cs x->Sam S w w'->(∀g,g<w.heap.size->S g->S' g)->R S' w' cs x
 one:∀{S:Nat->Prop} {w:World} {cs:List Value} {x:α},R S w cs x->∀u∈cs,u.oneCell'=true
def OutG{α:Type}(R:(Nat->Prop)->World->List Value->α->Prop)(k:Nat)(A:Nat->Prop)(base:Nat)(e:TypeId)(w:World)(v:Value)(xs:List α):Prop :=
 ∃css:List (List Value),css.length=xs.length/\(∀cs∈css,cs.length=k)/\w.ownsRow base e k v xs.length css.flatten /\
  ∀(j:Nat) (cs:List Value) (x:α),css[j]? = some cs->xs[j]? = some x->R (fun g=>A g/\v.ownBlock≠some g) w cs x
section
variable {α:Type}{R:(Nat->Prop)->World->List Value->α->Prop}{k:Nat}{A:Nat->Prop}{base:Nat}{e:TypeId}{w w':World}{v:Value}{xs:List α}
def OutG.nil(R:(Nat->Prop)->World->List Value->α->Prop)(k:Nat)(A:Nat->Prop)(base:Nat)(e:TypeId)(w:World):OutG R k A base e w (.slice none 0 0) [] :=
 ⟨[],rfl,(fun _ h=>by cases h),dg _ _ _ _,(fun _ _ _ h=>by cases h)⟩
def OutG.form(h:OutG R k A base e w v xs):∃a c,v=.slice a xs.length c/\xs.length<=c/\c<=maxLen:=by
 obtain⟨css,_,_,ho,_⟩:=h;obtain⟨a,c,hv,hc,hm,_⟩:=zaZ ho;exact⟨a,c,hv,hc,hm⟩
def OutG.blk(h:OutG R k A base e w v xs)(g:Nat)(hg:v.ownBlock=some g):base<=g/\g<w.heap.size:=by
 obtain⟨css,_,_,ho,_⟩:=h;exact ho.lt g hg
def OutG.only{T:Nat->Prop}(hR:ReadK R)(h:OutG R k A base e w v xs)(q:Only T w w')(hA:∀g,g<w.heap.size->A g->v.ownBlock≠some g->¬ T g)(hv:∀g,v.ownBlock=some g->¬ T g):OutG R k A base e w' v xs:=by
 obtain⟨css,h1,h2,ho,h4⟩:=h;exact⟨css,h1,h2,q.own ho hv,fun j cs x hc hx=>hR.sam (h4 j cs x hc hx) (Sam.only q (fun g hg hs=>hA g hg hs.1 hs.2)) (fun _ _ h=>h)⟩
def OutG.kept(hR:ReadK R)(h:OutG R k A base e w v xs)(q:Kept w w'):OutG R k A base e w' v xs:=h.only hR (bc (S:=fun _=>False) q) (fun _ _ _ _ h=>h) (fun _ _ h=>h)
def OutG.mono{A':Nat->Prop}(hR:ReadK R)(h:OutG R k A base e w v xs)(q:∀g,g<w.heap.size->A g->A' g):OutG R k A' base e w v xs:=by
 obtain⟨css,h1,h2,ho,h4⟩:=h;exact⟨css,h1,h2,ho,fun j cs x hc hx=>hR.sam (h4 j cs x hc hx) (fun _ _ _=>rfl) (fun g hg hs=>⟨q g hg hs.1,hs.2⟩)⟩
def OutG.low{base':Nat}(h:OutG R k A base e w v xs)(q:base'<=base):OutG R k A base' e w v xs:=by
 obtain⟨css,h1,h2,ho,h4⟩:=h;exact⟨css,h1,h2,zvT ho q,h4⟩
def OutG.row{S:Nat->Prop}(hR:ReadK R)(h:OutG R k A base e w v xs)(hA:∀g,g<w.heap.size->A g->S g)(hB:∀g,base<=g->S g):RowR S k (R S w) w v xs:=by
 obtain⟨css,h1,h2,ho,h4⟩:=h;exact RowR.own css h2 h1 ho (fun j cs x hc hx=>hR.sam (h4 j cs x hc hx) (fun _ _ _=>rfl) (fun g hg hs=>hA g hg hs.1)) (fun g _ hb=>hB g hb)
def zBp{k:Nat}(hk:0<k)(css:List (List Value))(hl:∀cs∈css,cs.length=k)(t:Nat)(u:Value)(h:css.flatten[t]? = some u):∃j i cs,t=j * k+i/\css[j]? = some cs/\cs[i]? = some u:=by
 have ht:=(ak.1 h).1;rw[zlH css hl]at ht;have hj:t / k<css.length:=(by rw[Nat.div_lt_iff_lt_mul hk];exact ht);have hc:css[t / k]? = some css[t / k]:=ac hj;have nf:=hl _ (dm hj);have hi:t % k<css[t / k].length:=(by rw[nf];exact jK _ hk);have hu:css[t / k][t % k]? = some css[t / k][t % k]:=ac hi;have e:=zpI css hl (t / k) _ hc (t % k) _ hu;have et:t / k * k+t % k=t:=(by rw[iU];exact Nat.div_add_mod t k);rw[et,h]at e;exact⟨t / k,t % k,_,et.symm,hc,by rw[hu,<- e]⟩
def RowR.css{S:Nat->Prop}{Q:List Value->α->Prop}{a:Option Addr}{n c:Nat}(hk:0<k)(h:RowR S k Q w (.slice a n c) xs):∃css:List (List Value),css.length=xs.length/\(∀cs∈css,cs.length=k)/\(∀(j:Nat) (cs:List Value) (x:α),css[j]? = some cs->xs[j]? = some x->Q cs x)/\(0<xs.length->∃g o,a=some ⟨g,o,none⟩/\g<w.heap.size/\S g/\∀t u,css.flatten[t]? = some u->w.cell? ⟨g,o+t,none⟩=some u):=by
 obtain⟨a',c',hv,hc,h3⟩:=h;obtain⟨rfl,rfl,rfl⟩:=bL hv;by_cases q:0<xs.length
 .obtain⟨g,o,ha,hg,hS,kR⟩:=h3 q;have key:∀ys:List α,∀d:Nat,(∀j x,ys[j]? = some x->∃cs:List Value,cs.length=k/\(∀i u,cs[i]? = some u->w.cell? ⟨g,o+(d+j) * k+i,none⟩=some u)/\Q cs x) ->
    ∃css:List (List Value),css.length=ys.length/\(∀cs∈css,cs.length=k)/\(∀(j:Nat) (cs:List Value) (x:α),css[j]? = some cs->ys[j]? = some x->Q cs x)/\∀(j:Nat) (cs:List Value),css[j]? = some cs->∀i u,cs[i]? = some u->w.cell? ⟨g,o+(d+j) * k+i,none⟩=some u:=by
   intro ys
   induction ys with
   | nil=>intro d _;exact⟨[],rfl,(fun _ h=>by cases h),(fun _ _ _ h=>by cases h),(fun _ _ h=>by cases h)⟩
   | cons y ys ih =>
    intro d hy;obtain⟨cs0,l0,c0,r0⟩:=hy 0 y rfl;obtain⟨css,e1,e2,e3,e4⟩:=ih (d+1) (fun j x hx=>by
     have:=hy (j+1) x (by simpa using hx);rw[show d+(j+1)=d+1+j by omega]at this;exact this)
    refine⟨cs0::css,by simp [e1],?_,?_,?_⟩
    .intro cs hcs;rcases bj.1 hcs with rfl|hcs
     .exact l0
     .exact e2 cs hcs
    .intro j cs x hc hx;cases j with
     | zero=>cases hc;cases hx;exact r0
     | succ j=>exact e3 j cs x (by simpa using hc) (by simpa using hx)
    .intro j cs hc i u hu;cases j with
     | zero=>cases hc;exact c0 i u hu
     | succ j =>
      have:=e4 j cs (by simpa using hc) i u hu;rw[show d+(j+1)=d+1+j by omega];exact this
  obtain⟨css,e1,e2,e3,e4⟩:=key xs 0 (fun j x hx=>by rw[bP];exact kR j x hx);refine⟨css,e1,e2,e3,fun _=>⟨g,o,ha,hg,hS,fun t u ht=>?_⟩⟩;obtain⟨j,i,cs,rfl,hcj,hi⟩:=zBp hk css e2 t u ht;have:=e4 j cs hcj i u hi;rw[bP]at this;rw[<- dU];exact this
 .obtain rfl:xs=[]:=bD.1 a_;exact⟨[],rfl,(fun _ h=>by cases h),(fun _ _ _ h=>by cases h),(fun h=>absurd h b_)⟩
def OutG.app{ys:List α}{css css2:List (List Value)}{g lJ:Nat}(hR:ReadK R)(h1:css.length=xs.length)(h2:∀cs∈css,cs.length=k)(h4:∀(j:Nat) (cs:List Value) (x:α),css[j]? = some cs->xs[j]? = some x->R (fun g=>A g/\v.ownBlock≠some g) w cs x)(k1:css2.length=ys.length)(k2:∀cs∈css2,cs.length=k)(k4:∀(j:Nat) (cs:List Value) (x:α),css2[j]? = some cs->ys[j]? = some x->R (fun g=>A g/\v.ownBlock≠some g) w cs x)(ho:w'.ownsRow base e k (.slice (some ⟨g,0,none⟩) (xs.length+ys.length) lJ) (xs.length+ys.length) (css.flatten++css2.flatten))(hg:w.grownBy w' v.ownBlock)(hat:v.ownBlock=some g\/g=w.heap.size):OutG R k A base e w' (.slice (some ⟨g,0,none⟩) (xs.length+ys.length) lJ) (xs++ys):=by
 have oN:∀cs x,R (fun g=>A g/\v.ownBlock≠some g) w cs x->R (fun g'=>A g'/\(Value.slice (some ⟨g,0,none⟩) (xs.length+ys.length) lJ).ownBlock≠some g') w' cs x:=fun cs x hx =>
  hR.sam hx (Sam.only (ch hg) (fun g' _ hs q=>hs.2 q.symm)) (fun g' kV hs=>⟨hs.1,fun q=>by
   have e1:g=g':=(by simpa [Value.ownBlock]using q);rcases hat with q2|q2
   .exact hs.2 (by rw[q2,e1])
   .omega⟩)
 refine⟨css++css2,by simp [h1,k1],fun cs hcs=>(aV.1 hcs).elim (h2 cs) (k2 cs),?_,fun j cs x hc hx=>?_⟩
 .rw[List.flatten_append,ah];exact ho
 .rcases bG j xs.length with q|q
  .rw[bX a_]at hc hx;exact oN cs x (h4 j cs x hc hx)
  .rw[bp a_]at hc hx;rw[h1]at hc;exact oN cs x (k4 _ cs x hc hx)
def zaO{P:Program}(hR:ReadK R){ops:Array Oper}{rest:List Oper}{o:Oper}{a:Act}{Q:Exit->Act->World->Prop}(hgd:o.guard=none)(s x:Operand)(t:TypeId)(ho:o.op=.call { callee:=.builtin .append,args:=#[s,x],argTypes:=#[t,t] })
  (i:TypeInfo) (z:Value) (bytes:Nat) (ht:P.underlying t=some (.slice e)) (hi:P.info? e=some i) (hz:i.zero=some z) (hsize:i.size=k) (hby:i.bytes=bytes) (hzs:z.cells.size=k) (ny:0<k)
  (hs:a.eval s=v) (lc:OutG R k A base e w v xs) (g0:Nat) (cs:List Value) (y:α) (hx:a.eval x=.slice (some ⟨g0,0,none⟩) 1 1) (hb:∀j u,cs[j]? = some u->w.cell? ⟨g0,j,none⟩=some u) (nf:cs.length=k)
  (hy:R (fun g=>A g/\v.ownBlock≠some g) w cs y) (h63:xs.length+1<=maxLen) (ng:(xs.length+1) * bytes<=140737488355328) (mL:base<=w.heap.size) (H:Nat) (hH:w.heap.size=H)
  (h:∀g lJ w',OutG R k A base e w' (.slice (some ⟨g,0,none⟩) (xs.length+1) lJ) (xs++[y])->w.grownBy w' v.ownBlock->(v.ownBlock=some g\/g=H)->g<w'.heap.size->wpList P ops Q rest (a.put o.dst (.slice (some ⟨g,0,none⟩) (xs.length+1) lJ)) w'):wpList P ops Q (o::rest) a w:=by
 obtain⟨css,h1,h2,mQ,h4⟩:=lc;refine wpList_append_lies w hgd s x t ho base e i z k bytes ht hi hz hsize hby hzs ny v xs.length css.flatten hs mQ ⟨g0,0,none⟩ 1 1 cs hx (by rw[nf,ii]) (fun j u hu=>by rw[zfJ,bP];exact hb j u hu) (hR.one hy) a_ h63 ng mL H hH ?_;intro g lJ w' q1 q2 q3 q4;refine h g lJ w' ?_ q2 q3 q4;subst hH;exact OutG.app (ys:=[y]) (css2:=[cs]) hR h1 h2 h4 rfl (fun c hc=>by simp at hc;subst hc;exact nf) (fun j c u hc hu=>by
  cases j with
  | zero=>cases hc;cases hu;exact hy
  | succ j=>simp at hc) (by simpa using q1) q2 q3
end
def InlW.one{S:Nat->Prop}{L:World->Value->List Inl->Prop}(hL:∀w v xs,L w v xs->v.oneCell'=true){w:World}{cs:List Value}{x:Inl}(h:InlW S L w cs x):∀u∈cs,u.oneCell'=true:=by
 obtain⟨vC,vP,vA,vT,vK,rfl,⟨⟨_,_,rfl,_⟩,_⟩,⟨⟨_,_,rfl,_⟩,_⟩,⟨⟨_,_,rfl,_⟩,_⟩,⟨_,_,rfl,_⟩,kk⟩:=h;have:=hL _ _ _ kk;intro u hu;unfold zn8 at hu;simp only[bj,bO,ej]at hu;rcases hu with rfl|rfl|rfl|rfl|rfl|rfl|rfl|rfl|rfl|rfl<;>first|rfl|exact this
def Lns.one{S:Nat->Prop}{n:Nat}{w:World}{v:Value}{xs:List Inl}(h:Lns S n w v xs):v.oneCell'=true:=by
 obtain⟨a,c,rfl,_⟩:=h.form;rfl
def Bls.one{S:Nat->Prop}{m n:Nat}{w:World}{v:Value}{xs:List Blo}(h:Bls S m n w v xs):v.oneCell'=true:=by
 obtain⟨a,c,rfl,_⟩:=h.form;rfl
def BloW.one{S:Nat->Prop}{m:Nat}{L:World->Value->List Blo->Prop}(hL:∀w v xs,L w v xs->v.oneCell'=true){w:World}{cs:List Value}{x:Blo}(h:BloW S m L w cs x):∀u∈cs,u.oneCell'=true:=by
 obtain⟨vC,vP,vL,vK,rfl,⟨⟨_,_,rfl,_⟩,_⟩,⟨⟨_,_,rfl,_⟩,_⟩,l,kk⟩:=h;have h1:=l.one;have h2:=hL _ _ _ kk;intro u hu;unfold zqQ at hu;simp only[bj,bO,ej]at hu;rcases hu with rfl|rfl|rfl|rfl|rfl|rfl|rfl|rfl|rfl|rfl|rfl<;>first|rfl|exact h1|exact h2
def InlK(n:Nat)(S:Nat->Prop)(w:World):List Value->Inl->Prop:=InlW S (Lns S n) w
def BloK(m n:Nat)(S:Nat->Prop)(w:World):List Value->Blo->Prop:=BloW S m (Bls S m n) w
def zeZ(n:Nat):ReadK (InlK n):=⟨fun h k hS=>InlW.sam h k hS (fun _ h=>Lns.sam h k hS),fun h=>InlW.one (fun _ _ _ h=>Lns.one h) h⟩
def zjH(m n:Nat):ReadK (BloK m n):=⟨fun h k hS=>BloW.sam h k hS (fun _ h=>Bls.sam h k hS),fun h=>BloW.one (fun _ _ _ h=>Bls.one h) h⟩
def StrK(S:Nat->Prop)(w:World)(cs:List Value)(x:Bs):Prop:=cs=[.string (bs x)]
def zkW:ReadK StrK:=⟨fun h _ _=>h,fun h u hu=>by rw[h]at hu;simp at hu;subst hu;rfl⟩
end Go.Proofs.YtnldgmhdjancbaaGreatDoor

namespace Go.Proofs.YtnldgmhdjancbaaGreatDoor
open Go.Sort
section
variable {α:Type}(cf:α->α->Int)
def zEx(x:α):List α->List α
 | []=>[x]
 | y::ys=>if 0<cf y x then y::zEx x ys else x::y::ys
def zwF(out:List α)(x:α):List α:=(zEx cf x out.reverse).reverse
def zkX(l:List α):List α:=l.foldl (zwF cf) []
structure PreO:Prop where
 anti:∀x y,cf x y<0↔0<cf y x
 trans:∀x y z,cf x y<=0->cf y z<=0->cf x z<=0
variable {cf}
def zr1(x:α):∀l:List α,(zEx cf x l).Perm (x::l)
 | []=>.refl _
 | y::ys=>by
  show(if 0<cf y x then y::zEx cf x ys else x::y::ys).Perm _
  split
  .exact((zr1 x ys).cons y).trans (List.Perm.swap x y ys)
  .exact .refl _
def zBq(out:List α)(x:α):(zwF cf out x).Perm (x::out):=by
 unfold zwF;exact(List.reverse_perm _).trans ((zr1 x _).trans ((List.reverse_perm out).cons x))
def zn9(l:List α):(zkX cf l).Perm l:=by
 have key:∀(l out:List α),(l.foldl (zwF cf) out).Perm (out++l):=by
  intro l
  induction l with
  | nil=>intro out;simp
  | cons x l ih =>
   intro out;refine(ih _).trans ?_;refine((zBq out x).append_right l).trans ?_;have h:=(List.perm_middle (a:=x) (l₁:=out) (l₂:=l)).symm;exact h
 exact key l []
def zr2(l:List α):(zkX cf l).length=l.length:=(zn9 l).length_eq
def zyN(l:List α)(x:α):zkX cf (l++[x])=zwF cf (zkX cf l) x:=by unfold zkX;rw[fH];rfl
def ltS(cf:α->α->Int)(x y:α):Bool:=decide (cf x y<0)
variable [Inhabited α]
def zpJ{d:Array α}{i:Nat}{x:α}(h:d.toList[i]? = some x):d[i]! = x:=by
 rw[bE]at h;rw[getElem!_def,h]
def zHi(d:Array α)(out:List α)(y x:α)(rest:List α)(h:d.toList=out++y::x::rest):(swp d (out.length+1) out.length).toList=out++x::y::rest:=by
 have hy:d[out.length]! = y:=zpJ (by rw[h];simp);have hx:d[out.length+1]! = x:=zpJ (by rw[h];simp);unfold swp;rw[fI,fI,hy,hx,h];simp
def zr3(h:∀x y,cf x y<0↔0<cf y x):∀(n:Nat) (d:Array α) (out:List α) (x:α) (rest:List α),out.length=n->d.toList=out++x::rest->(insInner (ltS cf) 0 n d).toList=zwF cf out x++rest:=by
 intro n
 induction n with
 | zero =>
  intro d out x rest hn hd;obtain rfl:=bD.1 hn;rw[insInner_stop _ _ _ _ (.inl (aw _)),hd];rfl
 | succ n ih =>
  intro d out x rest hn hd;obtain⟨o,y,rfl⟩:∃o y,out=o++[y]:=⟨out.dropLast,out.getLast (by intro q;subst q;cases hn),(fx _).symm⟩;have hl:o.length=n:=(by simpa using hn);have hd':d.toList=o++y::x::rest:=(by rw[hd];simp);have hy:d[n]! = y:=zpJ (by rw[hd',<- hl];simp);have hx:d[n+1]! = x:=zpJ (by rw[hd',<- hl];simp);have e:zwF cf (o++[y]) x=if 0<cf y x then zwF cf o x++[y]else o++[y]++[x]:=by
   unfold zwF;rw[gN];show((if 0<cf y x then y::zEx cf x o.reverse else x::y::o.reverse)).reverse=_
   split<;>simp
  by_cases q:0<cf y x
  .rw[insInner_go _ _ _ _ a_ (by rw[hx,show n+1 - 1=n from rfl,hy];exact bJ ((h x y).2 q)),show n+1 - 1=n from rfl];have hs:=zHi d o y x rest hd';rw[hl]at hs;rw[ih _ o x (y::rest) hl hs,e,ae q];simp
  .rw[insInner_stop _ _ _ _ (.inr (by rw[hx,show n+1 - 1=n from rfl,hy];exact bH (fun r=>q ((h x y).1 r)))),e,aa q,hd];simp
def zr4(h:∀x y,cf x y<0↔0<cf y x)(b:Nat):∀(n i:Nat) (d:Array α) (done rest:List α),b - i=n->i<=b->done.length=i->rest.length=b - i->d.toList=zkX cf done++rest->(insOuter (ltS cf) 0 b i d).toList=zkX cf (done++rest):=by
 intro n
 induction n with
 | zero =>
  intro i d done rest hn hi hl hr hd;obtain rfl:=bD.1 (show rest.length=0 by omega);rw[fT _ _ _ _ _ a_,hd];simp
 | succ n ih =>
  intro i d done rest hn hi hl hr hd;cases rest with
  | nil=>simp at hr;omega
  | cons x rest =>
   rw[insOuter_go _ _ _ _ _ a_];have h1:=zr3 h i d (zkX cf done) x rest (by rw[zr2,hl]) hd;rw[<- zyN]at h1;have h2:=ih (i+1) (insInner (ltS cf) 0 i d) (done++[x]) rest a_ a_ (by simp [hl]) (by simp at hr;omega) h1;rw[h2];simp
def zpK(h:∀x y,cf x y<0↔0<cf y x)(l:List α):(insertionSort (ltS cf) l.toArray 0 l.length).toList=zkX cf l:=by
 unfold insertionSort;cases l with
 | nil=>rw[fT _ _ _ _ _ b_];rfl
 | cons x l =>
  have:=zr4 h (x::l).length l.length 1 (x::l).toArray [x] l b_ b_ rfl b_ rfl;exact this
end
end Go.Proofs.YtnldgmhdjancbaaGreatDoor

namespace Go.Proofs.YtnldgmhdjancbaaGreatDoor
section
variable {α:Type}
def zJc:List (α->α->Int)->α->α->Int
 | [],_,_=>0
 | f::fs,x,y=>if f x y≠0 then f x y else zJc fs x y
def PreO.zero{f:α->α->Int}(h:PreO f)(x y:α):f x y=0↔f y x=0:=by
 have h1:=h.anti x y;have h2:=h.anti y x;constructor<;>intro q<;>omega
def PreO.lt{f:α->α->Int}(h:PreO f){x y z:α}(h1:f x y<=0)(h2:f y z<0):f x z<0:=by
 have h3:=h.trans x y z h1 a_;rcases Int.lt_or_eq_of_le h3 with q|q
 .exact q
 .have h4:=h.trans z x y (by rw[(h.zero x z).1 q];exact fl _) h1;have h5:=(h.anti y z).1 h2;omega
def PreO.lt'{f:α->α->Int}(h:PreO f){x y z:α}(h1:f x y<0)(h2:f y z<=0):f x z<0:=by
 have h3:=h.trans x y z a_ h2;rcases Int.lt_or_eq_of_le h3 with q|q
 .exact q
 .have h4:=h.trans y z x h2 (by rw[(h.zero x z).1 q];exact fl _);have h5:=(h.anti x y).1 h1;omega
def zwG:∀(fs:List (α->α->Int)),(∀f∈fs,PreO f)->PreO (zJc fs)
 | [],_=>⟨fun x y=>by show(0:Int)<0↔(0:Int)<0;exact Iff.rfl,fun x y z _ _=>fl _⟩
 | f::fs,h=>by
  have hf:=h f (bI ..);have ih:=zwG fs (fun g hg=>h g (bl _ hg));have e:∀x y,zJc (f::fs) x y=if f x y≠0 then f x y else zJc fs x y:=fun _ _=>rfl;refine⟨fun x y=>?_,fun x y z h1 h2=>?_⟩
  .rw[e,e];by_cases q:f x y=0
   .have q2:=(hf.zero x y).1 q;rw[aa a_,aa a_];exact ih.anti x y
   .have q2:f y x≠0:=fun r=>q ((hf.zero x y).2 r);rw[ae q,ae q2];exact hf.anti x y
  .rw[e]at h1 h2 ⊢;by_cases q1:f x y=0
   .rw[aa a_]at h1;by_cases q2:f y z=0
    .rw[aa a_]at h2;have q3:f x z=0:=by
      have a1:=hf.trans x y z a_ a_;have a2:=hf.trans z y x (by rw[(hf.zero y z).1 q2];exact fl _) (by rw[(hf.zero x y).1 q1];exact fl _);have a3:=hf.anti x z;have a4:=hf.anti z x;omega
     rw[aa a_];exact ih.trans x y z h1 h2
    .rw[ae q2]at h2;have:=hf.lt (x:=x) (y:=y) (z:=z) a_ a_;rw[ae a_];omega
   .rw[ae q1]at h1;have q2:f y z<=0:=by
     by_cases q2:f y z=0
     .omega
     .rw[ae q2]at h2;exact h2
    have:=hf.lt' (x:=x) (y:=y) (z:=z) a_ q2;rw[ae a_];omega
def zIQ(a b:Int):Int:=if a<b then -1 else if b<a then 1 else 0
def zEy(f:α->Int):PreO (fun x y=>zIQ (f x) (f y)):=by
 refine⟨fun x y=>?_,fun x y z h1 h2=>?_⟩
 .unfold zIQ
  split<;>split<;>(try split)<;>omega
 .unfold zIQ at *
  split at h1<;>split at h2<;>(try split at h1)<;>(try split at h2)<;>split<;>(try split)<;>omega
end
end Go.Proofs.YtnldgmhdjancbaaGreatDoor

namespace Go.Proofs.YtnldgmhdjancbaaGreatDoor
open Go.RowKit
def zmF:∀x:List Int,zgE x x=0
 | []=>rfl
 | a::x=>by rw[zgE,aa a_,aa a_,zmF x]
def zi2:∀x y:List Int,zgE y x = - zgE x y
 | [],[]=>rfl
 | [],b::y=>rfl
 | a::x,[]=>rfl
 | a::x,b::y=>by
  rw[zgE,zgE];by_cases h:a<b
  .rw[aa (show¬ b<a by omega),ae h,ae h];rfl
  .by_cases h2:b<a
   .rw[ae h2,aa h,ae h2]
   .rw[aa h2,aa h,aa h,aa h2,zi2 x y]
def zgS:∀x y:List Int,zgE x y=0->x=y
 | [],[],_=>rfl
 | [],b::y,h=>by cases h
 | a::x,[],h=>by cases h
 | a::x,b::y,h=>by
  rw[zgE]at h
  split at h
  .cases h
  split at h
  .cases h
  .rw[zgS x y h,show a=b from by omega]
def zg6:∀x y z:List Int,zgE x y<=0->zgE y z<=0->zgE x z<=0
 | [],_,[],_,_=>by simp [zgE]
 | [],_,c::z,_,_=>by simp [zgE]
 | a::x,[],_,h,_=>by simp [zgE]at h
 | a::x,b::y,[],_,h=>by simp [zgE]at h
 | a::x,b::y,c::z,h1,h2=>by
  rw[zgE]at h1 h2 ⊢;by_cases p1:a<b
  .by_cases p2:b<c
   .rw[ae a_];omega
   .rw[aa p2]at h2;by_cases p3:c<b
    .rw[ae p3]at h2;omega
    .rw[ae a_];omega
  .rw[aa p1]at h1;by_cases p4:b<a
   .rw[ae p4]at h1;omega
   .rw[aa p4]at h1;by_cases p2:b<c
    .rw[ae a_];omega
    .rw[aa p2]at h2;by_cases p3:c<b
     .rw[ae p3]at h2;omega
     .rw[aa p3]at h2;rw[aa a_,aa a_];exact zg6 x y z h1 h2
def zr5:∀a b:Bs,(a.map fun x=>(x.toNat:Int))=(b.map fun x=>(x.toNat:Int))->a=b
 | [],[],_=>rfl
 | [],b::y,h=>by cases h
 | a::x,[],h=>by cases h
 | a::x,b::y,h=>by
  simp only[bd,ky]at h;rw[zr5 x y h.2,iX.1 (Int.ofNat.inj h.1)]
def zBr(c:ColT)(a:Bs):znJ c a a=0:=by unfold znJ zGg;rw[zmF,aa b_,zmF]
def zwH(c:ColT)(a b:Bs):znJ c b a = - znJ c a b:=by
 unfold znJ zGg;rw[zi2 (zgM c a) (zgM c b),zi2 (a.map fun x=>(x.toNat:Int)) (b.map fun x=>(x.toNat:Int))];by_cases h:zgE (zgM c a) (zgM c b)=0
 .rw[aa a_,aa a_]
 .rw[ae a_,ae a_]
def zBs(c:ColT)(a b:Bs):znJ c a b=0↔a=b:=by
 constructor
 .intro h;unfold znJ at h
  split at h
  .rename_i q;exact absurd h q
  .exact zr5 a b (zgS _ _ h)
 .rintro rfl;exact zBr c a
def zoA(c:ColT)(a b d:Bs)(h1:znJ c a b<=0)(h2:znJ c b d<=0):znJ c a d<=0:=by
 unfold znJ at h1 h2 ⊢;have t1:=zg6 (zgM c a) (zgM c b) (zgM c d);have t2:=zg6 (a.map fun x=>(x.toNat:Int)) (b.map fun x=>(x.toNat:Int)) (d.map fun x=>(x.toNat:Int));by_cases k1:zgE (zgM c a) (zgM c b)=0
 .rw[aa (by simpa using k1)]at h1;have e1:=zgS _ _ k1;rw[e1];by_cases k2:zgE (zgM c b) (zgM c d)=0
  .rw[aa (by simpa using k2)]at h2 ⊢;exact t2 h1 h2
  .rw[ae k2]at h2 ⊢;exact h2
 .rw[ae k1]at h1;by_cases k2:zgE (zgM c b) (zgM c d)=0
  .have e2:=zgS _ _ k2;rw[<- e2,ae k1];exact h1
  .rw[ae k2]at h2;have h3:=t1 h1 h2;by_cases k3:zgE (zgM c a) (zgM c d)=0
   .exfalso;have e3:=zgS _ _ k3;rw[e3]at h1;have:=zi2 (zgM c b) (zgM c d);omega
   .rw[ae k3];exact h3
def zHj(x y:List Int)(k:Nat)(hx:k<x.length)(hy:k<y.length):zgE (x.drop k) (y.drop k)=if x[k]<y[k]then -1 else if y[k]<x[k]then 1 else zgE (x.drop (k+1)) (y.drop (k+1)):=by
 rw[aJ hx,aJ hy,zgE]
def zEz(x y:List Int)(k:Nat)(hk:k<=x.length)(ll:k<=y.length)(h:¬ (k<x.length/\k<y.length)):zgE (x.drop k) (y.drop k)=if x.length<y.length then -1 else if y.length<x.length then 1 else 0:=by
 by_cases h1:k<x.length
 .have h2:y.length=k:=a_;rw[db (l:=y) a_,aJ h1,aa a_,ae a_];rfl
 .rw[db (l:=x) a_];by_cases h2:k<y.length
  .rw[aJ h2,ae a_];rfl
  .rw[db (l:=y) a_,aa a_,aa a_];rfl
structure KeyT where
 author:Bs
 year:Int
 title:Bs
 key:Bs
def zpL:Bs:=[97,117,116,104,111,114]
def zEA:Bs:=[121,101,97,114]
def zhP:Bs:=[116,105,116,108,101]
def zfK(c:ColT)(w:Bs)(x y:KeyT):Int:=if w=zpL then znJ c x.author y.author else if w=zEA then zIQ x.year y.year else if w=zhP then znJ c x.title y.title else zGg x.key y.key
def cfW(c:ColT)(ws:List Bs):KeyT->KeyT->Int:=zJc (ws.map (zfK c))
def zjS{α:Type}{f:α->α->Int}(h1:∀x y,f y x = - f x y)(h2:∀x y z,f x y<=0->f y z<=0->f x z<=0):PreO f:=⟨fun x y=>by have:=h1 x y;omega,h2⟩
def zBt(c:ColT)(w:Bs):PreO (zfK c w):=by
 by_cases h1:w=zpL
 .have e:zfK c w=fun x y=>znJ c x.author y.author:=(by funext x y;unfold zfK;rw[ae h1]);rw[e];exact zjS (fun x y=>zwH c _ _) (fun x y z=>zoA c _ _ _)
 by_cases h2:w=zEA
 .have e:zfK c w=fun x y=>zIQ x.year y.year:=(by funext x y;unfold zfK;rw[aa h1,ae h2]);rw[e];exact zEy _
 by_cases h3:w=zhP
 .have e:zfK c w=fun x y=>znJ c x.title y.title:=(by funext x y;unfold zfK;rw[aa h1,aa h2,ae h3]);rw[e];exact zjS (fun x y=>zwH c _ _) (fun x y z=>zoA c _ _ _)
 .have e:zfK c w=fun x y=>zGg x.key y.key:=(by funext x y;unfold zfK;rw[aa h1,aa h2,aa h3]);rw[e];exact zjS (fun x y=>zi2 _ _) (fun x y z=>zg6 _ _ _)
def zBu(c:ColT)(ws:List Bs):PreO (cfW c ws):=zwG _ (fun f hf=>by
 obtain⟨w,_,rfl⟩:=bQ.1 hf;exact zBt c w)
def zEB(c:ColT)(ws:List Bs)(x:KeyT):cfW c ws x x=0:=by
 have h:=(zBu c ws).anti x x;omega
def zEC(c:ColT)(w:Bs)(ws:List Bs)(x y:KeyT):cfW c (w::ws) x y=if zfK c w x y≠0 then zfK c w x y else cfW c ws x y:=rfl
def zED{c:ColT}{ws:List Bs}{k:Nat}{w:Bs}(h:ws[k]? = some w)(x y:KeyT):cfW c (ws.drop k) x y=if zfK c w x y≠0 then zfK c w x y else cfW c (ws.drop (k+1)) x y:=by
 obtain⟨hk,rfl⟩:=ak.1 h;rw[aJ hk,zEC]
def zHk{α β:Type}{f:β->β->Int}(g:α->β)(h:PreO f):PreO (fun x y=>f (g x) (g y)):=⟨fun x y=>h.anti (g x) (g y),fun x y z=>h.trans (g x) (g y) (g z)⟩
def zEE{α β:Type}(cf:β->β->Int)(g:α->β)(out:List α)(x:α):(zwF (fun a b=>cf (g a) (g b)) out x).map g=zwF cf (out.map g) (g x):=by
 have key:∀l:List α,(zEx (fun a b=>cf (g a) (g b)) x l).map g=zEx cf (g x) (l.map g):=by
  intro l
  induction l with
  | nil=>rfl
  | cons y ys ih =>
   show(if 0<cf (g y) (g x)then y::zEx (fun a b=>cf (g a) (g b)) x ys else x::y::ys).map g=if 0<cf (g y) (g x)then g y::zEx cf (g x) (ys.map g)else g x::g y::ys.map g
   split
   .rw[bd,ih]
   .rfl
 unfold zwF;rw[List.map_reverse,key,List.map_reverse]
def zBv{α β:Type}(cf:β->β->Int)(g:α->β)(l:List α):(zkX (fun a b=>cf (g a) (g b)) l).map g=zkX cf (l.map g):=by
 have key:∀(l out:List α),(l.foldl (zwF (fun a b=>cf (g a) (g b))) out).map g=(l.map g).foldl (zwF cf) (out.map g):=by
  intro l
  induction l with
  | nil=>intro out;rfl
  | cons x l ih=>intro out;rw[dW,ih,zEE,bd,dW]
 exact key l []
def cm:=@Sam.only
def cU:=@Sam.kept
def ey:=@OutG.nil
def fu:=@InB.nil
def gd:=@RowR.step
def ge:=@RowR.form
def gu:=@RowR.none_
def iJ:=@RowR.at_
def iL:=@Lns.none_
def ji:=@OutG.row
def kl:=@Bls.none_
end Go.Proofs.YtnldgmhdjancbaaGreatDoor
