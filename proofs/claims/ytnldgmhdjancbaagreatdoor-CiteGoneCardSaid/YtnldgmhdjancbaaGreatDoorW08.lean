/- Parts. -/
import Derived.Test.YtnldgmhdjancbaaGreatDoorW07
import Derived.Lib.AppendIntMem
set_option linter.all false
set_option maxRecDepth 100000
set_option maxHeartbeats 6400000
namespace Go.Proofs.YtnldgmhdjancbaaGreatDoor
open Go.RowKit Go.Proofs.Tryz
def zEc(f g p s:Bs):Bs :=
 (if p=[]then f else [123]++p++[125,32]++f) ++
 (if s=[]then(if g=[]then []else [44,32]++g)else [44,32]++s++[44]++(if g=[]then []else [32]++g))
def zhZ(f g p s:Bs):Int:=if f=[]then 8 else if zc6 f&&zc6 g&&zc6 p&&zc6 s then 0 else 17
def zpE(f g p s:Bs):Bs:=if zhZ f g p s=0 then zEc f g p s else []
def zA2(f g p s:Bs)(w:World)(hg:Gnd w)(hf:¬ f=[])(hn:zc6 f=false)(hs:f.length+g.length+p.length+s.length<=10000000):Calls prog 82 #[zmA f g p s] w fun e w'=>e=.returned (.tuple #[.string (bs []),.int .i64 17])/\Kept w w':=by
 have hfe:f.isEmpty=false:=(by simpa using hf);go_enter ic,gO;go_wp2_with fail;refine(zb9 f _ (hg.kept (zaA _ _)) a_).mono ?_;rintro e w1 ⟨rfl,hk0⟩;rw[hn];have lg:=Hd hk0;obtain⟨kc,kf⟩:=zbC lg.o;have hz:w.heap.size<w1.heap.size:=(by have:=lg.o.size;simp at this;omega);have HK:=Hd ((zaA w _).trans lg.o);have HG:=Hd (hg.kept HK.o);clear hk0;go_wp2;go_ret2;exact⟨rfl,HK.o⟩
def zA3(f g p s:Bs)(w:World)(hg:Gnd w)(hf:¬ f=[])(y0:zc6 f=true)(hn:zc6 g=false)(hs:f.length+g.length+p.length+s.length<=10000000):Calls prog 82 #[zmA f g p s] w fun e w'=>e=.returned (.tuple #[.string (bs []),.int .i64 17])/\Kept w w':=by
 have hfe:f.isEmpty=false:=(by simpa using hf);go_enter ic,gO;go_wp2_with fail;refine(zb9 f _ (hg.kept (zaA _ _)) a_).mono ?_;rintro e w1 ⟨rfl,hk0⟩;rw[y0];have lg:=Hd hk0;obtain⟨kc,kf⟩:=zbC lg.o;have hz:w.heap.size<w1.heap.size:=(by have:=lg.o.size;simp at this;omega);have HK:=Hd ((zaA w _).trans lg.o);have HG:=Hd (hg.kept HK.o);clear hk0;go_wp2_with fail;refine(zb9 g _ HG.o a_).mono ?_;rintro e w2 ⟨rfl,ld⟩;rw[hn];have kT:=Hd (lg.o.trans ld);clear kc kf hz HK lg HG;obtain⟨kc,kf⟩:=zbC kT.o;have hz:w.heap.size<w2.heap.size:=(by have:=kT.o.size;simp at this;omega);have HK:=Hd ((zaA w _).trans kT.o);have HG:=Hd (hg.kept HK.o);clear ld;go_wp2;go_ret2;exact⟨rfl,HK.o⟩
def zA4(f g p s:Bs)(w:World)(hg:Gnd w)(hf:¬ f=[])(y0:zc6 f=true)(y1:zc6 g=true)(hn:zc6 p=false)(hs:f.length+g.length+p.length+s.length<=10000000):Calls prog 82 #[zmA f g p s] w fun e w'=>e=.returned (.tuple #[.string (bs []),.int .i64 17])/\Kept w w':=by
 have hfe:f.isEmpty=false:=(by simpa using hf);go_enter ic,gO;go_wp2_with fail;refine(zb9 f _ (hg.kept (zaA _ _)) a_).mono ?_;rintro e w1 ⟨rfl,hk0⟩;rw[y0];have lg:=Hd hk0;obtain⟨kc,kf⟩:=zbC lg.o;have hz:w.heap.size<w1.heap.size:=(by have:=lg.o.size;simp at this;omega);have HK:=Hd ((zaA w _).trans lg.o);have HG:=Hd (hg.kept HK.o);clear hk0;go_wp2_with fail;refine(zb9 g _ HG.o a_).mono ?_;rintro e w2 ⟨rfl,ld⟩;rw[y1];have kT:=Hd (lg.o.trans ld);clear kc kf hz HK lg HG;obtain⟨kc,kf⟩:=zbC kT.o;have hz:w.heap.size<w2.heap.size:=(by have:=kT.o.size;simp at this;omega);have HK:=Hd ((zaA w _).trans kT.o);have HG:=Hd (hg.kept HK.o);clear ld;go_wp2_with fail;refine(zb9 p _ HG.o a_).mono ?_;rintro e w3 ⟨rfl,ll⟩;rw[hn];have kX:=Hd (kT.o.trans ll);clear kc kf hz HK kT HG;obtain⟨kc,kf⟩:=zbC kX.o;have hz:w.heap.size<w3.heap.size:=(by have:=kX.o.size;simp at this;omega);have HK:=Hd ((zaA w _).trans kX.o);have HG:=Hd (hg.kept HK.o);clear ll;go_wp2;go_ret2;exact⟨rfl,HK.o⟩
def zA5(f g p s:Bs)(w:World)(hg:Gnd w)(hf:¬ f=[])(y0:zc6 f=true)(y1:zc6 g=true)(y2:zc6 p=true)(hn:zc6 s=false)(hs:f.length+g.length+p.length+s.length<=10000000):Calls prog 82 #[zmA f g p s] w fun e w'=>e=.returned (.tuple #[.string (bs []),.int .i64 17])/\Kept w w':=by
 have hfe:f.isEmpty=false:=(by simpa using hf);go_enter ic,gO;go_wp2_with fail;refine(zb9 f _ (hg.kept (zaA _ _)) a_).mono ?_;rintro e w1 ⟨rfl,hk0⟩;rw[y0];have lg:=Hd hk0;obtain⟨kc,kf⟩:=zbC lg.o;have hz:w.heap.size<w1.heap.size:=(by have:=lg.o.size;simp at this;omega);have HK:=Hd ((zaA w _).trans lg.o);have HG:=Hd (hg.kept HK.o);clear hk0;go_wp2_with fail;refine(zb9 g _ HG.o a_).mono ?_;rintro e w2 ⟨rfl,ld⟩;rw[y1];have kT:=Hd (lg.o.trans ld);clear kc kf hz HK lg HG;obtain⟨kc,kf⟩:=zbC kT.o;have hz:w.heap.size<w2.heap.size:=(by have:=kT.o.size;simp at this;omega);have HK:=Hd ((zaA w _).trans kT.o);have HG:=Hd (hg.kept HK.o);clear ld;go_wp2_with fail;refine(zb9 p _ HG.o a_).mono ?_;rintro e w3 ⟨rfl,ll⟩;rw[y2];have kX:=Hd (kT.o.trans ll);clear kc kf hz HK kT HG;obtain⟨kc,kf⟩:=zbC kX.o;have hz:w.heap.size<w3.heap.size:=(by have:=kX.o.size;simp at this;omega);have HK:=Hd ((zaA w _).trans kX.o);have HG:=Hd (hg.kept HK.o);clear ll;go_wp2_with fail;refine(zb9 s _ HG.o a_).mono ?_;rintro e w4 ⟨rfl,li⟩;rw[hn];have lq:=Hd (kX.o.trans li);clear kc kf hz HK kX HG;obtain⟨kc,kf⟩:=zbC lq.o;have hz:w.heap.size<w4.heap.size:=(by have:=lq.o.size;simp at this;omega);have HK:=Hd ((zaA w _).trans lq.o);have HG:=Hd (hg.kept HK.o);clear li;go_wp2;go_ret2;exact⟨rfl,HK.o⟩
def zG6(f g p s:Bs)(w:World)(hg:Gnd w)(hf:¬ f=[])(y0:zc6 f=true)(y1:zc6 g=true)(y2:zc6 p=true)(y3:zc6 s=true)(hs:f.length+g.length+p.length+s.length<=10000000):Calls prog 82 #[zmA f g p s] w fun e w'=>e=.returned (.tuple #[.string (bs (zEc f g p s)),.int .i64 0])/\Kept w w':=by
 have hfe:f.isEmpty=false:=(by simpa using hf);go_enter ic,gO;go_wp2_with fail;refine(zb9 f _ (hg.kept (zaA _ _)) a_).mono ?_;rintro e w1 ⟨rfl,hk0⟩;rw[y0];have lg:=Hd hk0;obtain⟨kc,kf⟩:=zbC lg.o;have hz:w.heap.size<w1.heap.size:=(by have:=lg.o.size;simp at this;omega);have HK:=Hd ((zaA w _).trans lg.o);have HG:=Hd (hg.kept HK.o);clear hk0;go_wp2_with fail;refine(zb9 g _ HG.o a_).mono ?_;rintro e w2 ⟨rfl,ld⟩;rw[y1];have kT:=Hd (lg.o.trans ld);clear kc kf hz HK lg HG;obtain⟨kc,kf⟩:=zbC kT.o;have hz:w.heap.size<w2.heap.size:=(by have:=kT.o.size;simp at this;omega);have HK:=Hd ((zaA w _).trans kT.o);have HG:=Hd (hg.kept HK.o);clear ld;go_wp2_with fail;refine(zb9 p _ HG.o a_).mono ?_;rintro e w3 ⟨rfl,ll⟩;rw[y2];have kX:=Hd (kT.o.trans ll);clear kc kf hz HK kT HG;obtain⟨kc,kf⟩:=zbC kX.o;have hz:w.heap.size<w3.heap.size:=(by have:=kX.o.size;simp at this;omega);have HK:=Hd ((zaA w _).trans kX.o);have HG:=Hd (hg.kept HK.o);clear ll;go_wp2_with fail;refine(zb9 s _ HG.o a_).mono ?_;rintro e w4 ⟨rfl,li⟩;rw[y3];have lq:=Hd (kX.o.trans li);clear kc kf hz HK kX HG;obtain⟨kc,kf⟩:=zbC lq.o;have hz:w.heap.size<w4.heap.size:=(by have:=lq.o.size;simp at this;omega);have HK:=Hd ((zaA w _).trans lq.o);have HG:=Hd (hg.kept HK.o);clear li;by_cases hp:p=[]<;>by_cases hs':s=[]<;>by_cases hg':g=[]
 all_goals
  first|subst hp|(have hpe:p.isEmpty=false:=by simpa using hp)
  first|subst hs'|(have hse:s.isEmpty=false:=by simpa using hs')
  first|subst hg'|(have hge:g.isEmpty=false:=by simpa using hg')
  try simp only[cj,dl,bP]at hs
  go_wp2;go_ret2;refine⟨?_,HK.o⟩;refine congrArg (fun x=>Ending.returned (.tuple #[.string (bs x),.int .i64 0])) ?_;simp [zEc, *]
def zv7(f g p s:Bs)(w:World)(hg:Gnd w)(hs:f.length+g.length+p.length+s.length<=10000000):Calls prog 82 #[zmA f g p s] w fun e w'=>e=.returned (.tuple #[.string (bs (zpE f g p s)),.int .i64 (zhZ f g p s)])/\Kept w w':=by
 by_cases hf:f=[]
 .have e1:zhZ f g p s=8:=(by unfold zhZ;rw[ae hf]);have e2:zpE f g p s=[]:=(by unfold zpE;rw[e1];rfl);rw[e1,e2];clear e1 e2;subst hf;go_enter ic,gO;go_wp2;go_ret2;exact⟨rfl,zaA _ _⟩
 have hb:∀q:Bool,(zc6 f&&zc6 g&&zc6 p&&zc6 s)=q->zhZ f g p s=if q then 0 else 17:=by
  intro q h;unfold zhZ;rw[aa hf,h]
 have hr:zhZ f g p s=17->zpE f g p s=[]:=(by intro h;unfold zpE;rw[h];rfl);cases h0:zc6 f
 .have e:=hb false (by rw[h0];rfl);rw[aa c_]at e;rw[e,hr e];exact zA2 f g p s w hg hf h0 hs
 cases h1:zc6 g
 .have e:=hb false (by rw[h0,h1];rfl);rw[aa c_]at e;rw[e,hr e];exact zA3 f g p s w hg hf h0 h1 hs
 cases h2:zc6 p
 .have e:=hb false (by rw[h0,h1,h2];rfl);rw[aa c_]at e;rw[e,hr e];exact zA4 f g p s w hg hf h0 h1 h2 hs
 cases h3:zc6 s
 .have e:=hb false (by rw[h0,h1,h2,h3];rfl);rw[aa c_]at e;rw[e,hr e];exact zA5 f g p s w hg hf h0 h1 h2 h3 hs
 .have e:=hb true (by rw[h0,h1,h2,h3];rfl);rw[ae rfl]at e;have e2:zpE f g p s=zEc f g p s:=(by unfold zpE;rw[e];rfl);rw[e,e2];exact zG6 f g p s w hg hf h0 h1 h2 h3 hs
abbrev P4:=Bs×Bs×Bs×Bs
abbrev p4V(q:P4):Value:=zmA q.1 q.2.1 q.2.2.1 q.2.2.2
def zKt(p t:Bs):Prop:=2<t.count 44\/p.any (zbN zGh)=true\/t.any (zbN zKA)=true
instance (p t:Bs):Decidable (zKt p t):=by unfold zKt;infer_instance
def Perss(w:World)(v:Value)(ps:List P4):Prop :=
 ∃a c,v=.slice a ps.length c/\ps.length<=c/\(0<ps.length->∃g o,a=some ⟨g,o,none⟩/\g<w.heap.size/\∀j q,ps[j]? = some q ->
  w.cell? ⟨g,o+j * 4,none⟩=some (.string (bs q.1))/\w.cell? ⟨g,o+j * 4+1,none⟩=some (.string (bs q.2.1))/\w.cell? ⟨g,o+j * 4+2,none⟩=some (.string (bs q.2.2.1))/\w.cell? ⟨g,o+j * 4+3,none⟩=some (.string (bs q.2.2.2)))
def Perss.kept{w w':World}{v:Value}{ps:List P4}(h:Perss w v ps)(k:Kept w w'):Perss w' v ps:=by
 obtain⟨a,c,hv,hc,h3⟩:=h;refine⟨a,c,hv,hc,fun q=>?_⟩;obtain⟨g,o,ha,hg,kR⟩:=h3 q;refine⟨g,o,ha,aU hg k.size,fun j x hx=>?_⟩;obtain⟨c0,c1,c2,c3⟩:=kR j x hx;exact⟨(k.cell (p:=⟨g,o+j * 4,none⟩) hg).trans c0,(k.cell (p:=⟨g,o+j * 4+1,none⟩) hg).trans c1,(k.cell (p:=⟨g,o+j * 4+2,none⟩) hg).trans c2,(k.cell (p:=⟨g,o+j * 4+3,none⟩) hg).trans c3⟩
def Perss.cut{w:World}{a:Option Addr}{c:Nat}{ps:List P4}(h:Perss w (.slice a ps.length c) ps)(n:Nat)(hn:n<=ps.length):Perss w (.slice a n c) (ps.take n):=by
 obtain⟨a',c',hv,hc,h3⟩:=h;obtain⟨rfl,_,rfl⟩:=bL hv;refine⟨a,c,e_,e_,fun q=>?_⟩;obtain⟨g,o,ha,hg,kR⟩:=h3 (by simp at q;omega);refine⟨g,o,ha,hg,fun j x hx=>kR j x ?_⟩;rw[fq]at hx
 split at hx
 .exact hx
 .cases hx
def zbE(lI:Bool)(q:P4):Bs:=if lI then zdM [q.2.1,q.2.2.1,q.1,q.2.2.2]else zdM [q.2.2.1,q.1]
def ziS(l:Bs):Bs:=if(zeL l).isSome then l else lEn
def zd4(ps:List P4)(l:Bs)(most:Int)(lI:Bool):Bs :=
 if 1<=most/\most<ps.length then Lib.join ((ps.take most.toNat).map (zbE lI)) zlD++[32]++(zeL (ziS l)).getD []++[32]++(zcX (ziS l)).getD []
 else zhO (ziS l) (ps.map (zbE lI))
def zeB(q:P4):Nat:=q.1.length+q.2.1.length+q.2.2.1.length+q.2.2.2.length
def zrP(lI:Bool)(q:P4):(zbE lI q).length<=zeB q+4:=by
 unfold zbE zeB;cases lI
 .have:=zfC [q.2.2.1,q.1];simp [zyB]at this;simp;omega
 .have:=zfC [q.2.1,q.2.2.1,q.1,q.2.2.2];simp [zyB]at this;simp;omega
def zc0(m:Nat):∀xs:List Bs,(∀x∈xs,x.length<=m)->(Lib.join xs zlD).length<=xs.length * (m+2)
 | [],_=>by rw[kh];simp
 | x::xs,h=>by
  have ht:∀r:List Bs,(∀x∈r,x.length<=m)->(Lib.joinTail zlD r).length<=r.length * (m+2):=by
   intro r
   induction r with
   | nil=>intro _;simp [Lib.joinTail]
   | cons b r ih =>
    intro hr;have h1:=ih (fun x hx=>hr x (by simp [hx]));have h2:=hr b b_;unfold Lib.joinTail at h1 ⊢;simp only[bd,dN,ah,az,ij,ii];simp only[zlD,az,cj]at h1 ⊢;omega
  have h1:=ht xs (fun x hx=>h x (by simp [hx]));have h2:=h x b_;rw[gC];simp only[ah,az,ij,ii];omega
def map_take(f:P4->Bs)(ps:List P4)(k:Nat)(q:P4)(h:ps[k]? = some q):(ps.take (k+1)).map f=(ps.take k).map f++[f q]:=by
 obtain⟨hk,rfl⟩:=ak.1 h;rw[bf hk,cI];rfl
def zlE(lI:Bool)(ps:List P4)(h:∀q∈ps,zeB q<=10000):∀x∈ps.map (zbE lI),x.length<=10004:=by
 intro x hx;obtain⟨q,hq,rfl⟩:=bQ.1 hx;have:=zrP lI q;have:=h q hq;omega
def zA6(w:World)(q:P4)(h:zeB q<=10000):Calls prog 153 #[p4V q] w fun e w'=>e=.returned (.string (bs (zbE true q)))/\Kept w w' :=
 zEa q.1 q.2.1 q.2.2.1 q.2.2.2 w (by unfold zeB at h;simp [zyB];omega)
def zyD(w:World)(q:P4)(h:zeB q<=10000):Calls prog 122 #[p4V q] w fun e w'=>e=.returned (.string (bs (zbE false q)))/\Kept w w' :=
 zrO q.1 q.2.1 q.2.2.1 q.2.2.2 w (by unfold zeB at h;simp [zyB];omega)
def zgP(l:Bs):((zcX l).getD []).length<=6:=by
 unfold zcX;by_cases h1:l=lEn
 .rw[ae h1];decide
 by_cases h2:l=lDe
 .rw[aa h1,ae h2];decide
 by_cases h3:l=lFr
 .rw[aa h1,aa h2,ae h3];decide
 by_cases h4:l=lEs
 .rw[aa h1,aa h2,aa h3,ae h4];decide
 .rw[aa h1,aa h2,aa h3,aa h4];decide
def ziT(v:Value)(ps:List P4)(l:Bs)(most:Int)(lI:Bool)(w:World)(hv:Perss w v ps)(hN:ps.length<=900)(hq:∀q∈ps,zeB q<=10000)(hmr : -9223372036854775808<=most/\most<=9223372036854775807):Calls prog 110 #[v,.string (bs l),.int .i64 most,.bool lI] w fun e w'=>e=.returned (.string (bs (zd4 ps l most lI)))/\Kept w w':=by
 obtain⟨i0,hi,mr,mq,mm⟩:=cg Tryz.infoStr;have HV:=Hd hv;have HQ:=Hd hq;clear hq;obtain⟨a,c,rfl,hc,h3⟩:=hv;clear h3;obtain⟨L,uT⟩:=gX (ziS l);have hL:((zeL l).isSome=true/\L=l)\/((zeL l).isSome=false/\L=lEn):=by
  rw[<- uT.o];unfold ziS;cases (zeL l).isSome<;>simp
 obtain⟨R,mR⟩:=gX (zd4 ps l most lI);have Cs:Hi (R=if 1<=most/\most<ps.length then Lib.join ((ps.take most.toNat).map (zbE lI)) zlD++[32]++(zeL L).getD []++[32]++(zcX L).getD []else zhO L (ps.map (zbE lI))):=by
  show _=_;rw[<- mR.o,<- uT.o];rfl
 rw[mR.o];clear uT mR;by_cases hsh:1<=most/\most<ps.length
 case' pos =>
  have nW:=Hd (Cs.o.trans (ae hsh));obtain⟨hm1,hm2⟩:=hsh;obtain⟨m,rfl⟩:∃m:Nat,most=m:=⟨most.toNat,a_⟩;obtain⟨xs,hxs⟩:∃xs,xs=ps.take m:=⟨_,rfl⟩;have hxl:xs.length=m:=(by rw[hxs];simp;omega);have HX:Hi (Perss w (.slice a m c) xs):=(by show Perss _ _ _;rw[hxs];exact HV.o.cut m a_);have C0:Hi (∀q∈xs,zeB q<=10000):=(by intro q h;rw[hxs]at h;exact HQ.o q (eX h));have HE:Hi (R=Lib.join (xs.map (zbE lI)) zlD++[32]++(zeL L).getD []++[32]++(zcX L).getD []):=(by show _=_;rw[hxs];exact nW.o);have HLEN:=Hd hxl;have zx:m<=900:=a_;clear hxs hxl hc Cs nW;have hc:m<=c:=(by obtain⟨a',c',hv,hc,h3⟩:=HX.o;obtain⟨_,h1,h2⟩:=bL hv;omega);have HA:=Hd (fun w=>zpD L 1 w);have HO:=Hd (fun w=>zt8 L 2 w);have hal:=ziR L;have hol:=zgP L;have nh:Hi (zlD=[44,32]):=rfl;generalize (zeL L).getD []=an at *;generalize (zcX L).getD []=ot at *;generalize (zcX L).isSome=Pt at *;have C3:decide ((1:Int)<=(m:Int))=true:=(by simpa using hm1);have GX:decide (m<ps.length)=true:=e_;have Me:1<=m:=a_;have Pu:m<ps.length:=a_;clear hm1 hm2 hmr
 case' neg =>
  have nW:=Hd (Cs.o.trans (aa hsh));obtain⟨m,hm0⟩:∃m:Nat,m=ps.length:=⟨_,rfl⟩;obtain⟨xs,hxs⟩:∃xs,xs=ps:=⟨_,rfl⟩;have HX:Hi (Perss w (.slice a m c) xs):=(by show Perss _ _ _;rw[hxs,hm0];exact HV.o);have C0:Hi (∀q∈xs,zeB q<=10000):=(by intro q h;rw[hxs]at h;exact HQ.o q h);have HE:Hi (R=zhO L (xs.map (zbE lI))):=(by show _=_;rw[hxs];exact nW.o);have HLEN:Hi (xs.length=m):=(by show _=_;rw[hxs,hm0]);have zx:m<=900:=a_;rw[<- hm0]at hsh hc;rw[<- hm0];clear hxs Cs nW;have Cr:=Hd hm0;clear hm0 hN;have un:=Hd (zA1 L);by_cases hm1:1<=most
  case' pos =>
   have C3:decide ((1:Int)<=most)=true:=(by simpa using hm1);have GX:decide (most<(m:Int))=false:=e_;have Me:¬ most<(m:Int):=a_
  case' neg=>have C3:decide ((1:Int)<=most)=false:=by simpa using hm1
  all_goals clear hsh
 all_goals
  rcases hL with⟨hk,J0⟩|⟨hk,J0⟩
  all_goals
   obtain⟨J1,b0,mv,HT⟩:∃J1 b0,Hi (b0=(zeL l).isSome)/\Hi (∀w,Calls prog 152 #[.string (bs l),.string (bs [97,110,100]),.int .i64 1] w fun e w'=>e=.returned (.tuple #[.string (bs J1),.bool b0])/\Kept w w'):=⟨_,_,rfl,fun w=>zpD l 1 w⟩;obtain rfl:=mv.o.trans hk;clear hk mv;subst J0;go_in;go_wp2_with fail;refine k_ (HT.o _) fun w1 ld=>?_;have kT:=Hd ld;clear ld;go_wp2_with fail
   (try simp only[zd8])
   go_loopw [12,40] (fun v i wr=>∃(k:Nat),k<=m/\i=.int .i64 k/\wr.ownsRow w1.heap.size 9 1 v ((xs.take k).map (zbE lI)).length (zaL ((xs.take k).map (zbE lI)))/\Kept w1 wr) (fun _ i _=>m - (intOf i).toNat)
   .exact⟨0,ai _,rfl,dg _ _ _ _,af _⟩
   case round =>
    obtain⟨k,hkl,rfl,lc,ou⟩:=hrel;by_cases kV:k<m
    .obtain⟨q,hx⟩:∃x,xs[k]? = some x:=⟨_,ac (by rw[HLEN.o];exact kV)⟩;obtain⟨a',c',hv',hc',h3⟩:=(HX.o.kept kT.o).kept ou;obtain⟨rfl,nj,rfl⟩:=bL hv';clear nj;obtain⟨g,o,rfl,hg,mU⟩:=h3 (by rw[HLEN.o];omega);obtain⟨c0,c1,c2,c3⟩:=mU k q hx;have Ct:=C0.o q (am hx);have HF:=Hd (map_take (zbE lI) xs k q hx);have hfl:((xs.take k).map (zbE lI)).length<=k:=e_;generalize (xs.take k).map (zbE lI)=ws at *;have ny:w1.heap.size<=wr.heap.size:=ou.size;have HR:=Hd ou;have HW:=Hd lc;have Cu:=Hd (fun w=>zA6 w q Ct);have J2:=Hd (fun w=>zyD w q Ct);clear ou hx lc mU h3 hv' hc';obtain⟨qf,qg,qp,qs⟩:=q;simp only at c0 c1 c2 c3;cases lI
     case' false=>have zy:=J2
     case' true=>have zy:=Cu
     all_goals
      clear Cu J2;go_wp2_with fail;refine k_ (zy.o _) fun w2 ll=>?_;generalize zbE _ (qf,qg,qp,qs)=nm at *;have lc:=za1 (HW.o.alloc (.cells #[.string (bs qf),.string (bs qg),.string (bs qp),.string (bs qs)] 52)) ll;have kS:=Hd ((HR.o.trans (zaA wr _)).trans ll);have hsz2:w1.heap.size<=w2.heap.size:=kS.o.size;clear ll;go_wp2_with (at_builtin;refine cV _ rfl _ _ 37 rfl w1.heap.size 9 i0 (.string ⟨#[]⟩) 1 16 dw hi mr mq mm rfl c_ _ _ _ rfl (lc.alloc _) ⟨w2.heap.size,0,none⟩ 1 1 [.string (bs nm)] rfl rfl ?_ ?_ ?_ ?_ ?_ ?_)
      .exact zbO _ #[.string (bs nm)] _ _ b_
      .intro u hu;simp at hu;subst hu;rfl
      .unfold maxLen;omega
      .omega
      .simp;omega
      intro v' w3 lr lw _;have lx:=Hd ((kS.o.trans (zaA w2 _)).trans' (za2 (lc.alloc _) lw e_));rw[<- zfX]at lr;have HO:=Hd lr;clear lr lw lc;go_wp2;go_roundw
      .exact⟨k+1,a_,by go_num,by rw[HF.o];simpa using HO.o,lx.o⟩
      .simp [intOf];omega
    .have HW:=Hd (gU lc);have HR:=Hd (kT.o.trans ou);rw[bx (by rw[HLEN.o];omega)]at HW;have hnl:(xs.map (zbE lI)).length<=900:=(by rw[bm,HLEN.o];exact zx);have hjl:=zc0 10004 _ (zlE lI xs C0.o);have hjd:=zc0 10004 (xs.map (zbE lI)).dropLast (fun x hx=>zlE lI xs C0.o x ((List.dropLast_sublist _).subset hx));have hll:((xs.map (zbE lI)).getLastD []).length<=10004:=by
      cases hq:(xs.map (zbE lI)).getLast? with
      | none=>rw[dY,hq];simp
      | some y=>rw[dY,hq];exact zlE lI xs C0.o y (gE hq)
     have nX:(xs.map (zbE lI)).dropLast.length<=900:=(by simp at hnl ⊢;omega);clear lc ou;have hj1:(Lib.join (xs.map (zbE lI)) zlD).length<=10000000:=by
      have:=eB 10006 hnl;omega
     have hj2:(Lib.join (xs.map (zbE lI)).dropLast zlD).length<=10000000:=by
      have:=eB 10006 nX;omega
     clear hjl hjd nX;go_wp2_with fail
     first
      | (
         refine(un.o _ _ _ HW.o a_ hj1 hj2 a_).mono ?_;rintro e w2 ⟨rfl,ll⟩;have kS:=Hd (HR.o.trans ll);clear ll;go_wp2;go_ret;exact⟨zf8 (by rw[HE.o]),kS.o⟩)
      | (
         refine k_ (HA.o _) fun w2 ll=>?_;have kS:=Hd (HR.o.trans ll);have HW2:=Hd (HW.o.kept ll);clear ll;go_wp2_with fail;refine k_ (HO.o _) fun w3 li=>?_;have HR3:=Hd (kS.o.trans li);have HW3:=Hd (HW2.o.kept li);clear li;go_wp2_with fail;rw[<- nh.o];refine(zd9 _ _ _ _ HW3.o a_ a_).mono ?_;rintro e w4 ⟨rfl,mu⟩;have HR4:=Hd (HR3.o.trans mu);clear mu;generalize Lib.join (xs.map (zbE lI)) zlD=jj at *;go_wp2;go_ret;exact⟨zf8 (by rw[HE.o];simp),HR4.o⟩)
abbrev znF(k t:Bs)(vA vE vF:Value):Value:=.agg #[.string (bs k),.string (bs t),vA,vE,vF]
def zt9(ps:List Pr)(k:Bs)(h:∀q∈ps,(q.1==k)=false):za3 ps k=none:=by
 unfold za3;rw[gW.2 (fun q hq=>by simp [h q hq])];rfl
def zA7(ps:List Pr)(k:Bs)(n:Nat)(q:Pr)(hq:ps[n]? = some q)(h:∀x∈ps.take n,(x.1==k)=false)(he:(q.1==k)=true):za3 ps k=some q.2:=by
 unfold za3;obtain⟨hn,rfl⟩:=ak.1 hq;have e:ps=ps.take n++ps[n]::ps.drop (n+1):=by
  rw[<- aJ hn,ce]
 conv=>lhs;rw[e]
 rw[ik,gW.2 (fun q hq=>by simp [h q hq]),iV (by simpa using he)];rfl
def FieldPost(o:Option Bs)(w:World)(e:Ending)(w':World):Prop:=e=.returned (.tuple #[.string (bs (o.getD [])),.bool o.isSome])/\Kept w w'
def zmB(sk st:Bs)(vA vE vF:Value)(ps:List Pr)(k:Bs)(w:World)(hv:Prs w vF ps)(hN:ps.length<=1100000):Calls prog 46 #[znF sk st vA vE vF,.string (bs k)] w (FieldPost (za3 ps k) w):=by
 have HV:=Hd hv;have HA:=Hd (zA7 ps k);have nV:=Hd (zt9 ps k);obtain⟨o,HO⟩:=gX (za3 ps k);rw[HO.o]at HA nV ⊢;obtain⟨a,c,rfl,hc,h3⟩:=hv;clear h3;unfold FieldPost;go_in;go_wp2_with fail;simp only[zd8];go_loopw [11] (fun i wr=>∃n:Nat,n<=ps.length/\i=.int .i64 n/\Hi (∀x∈ps.take n,(x.1==k)=false)/\Kept w wr) (fun i _=>ps.length - (intOf i).toNat)
 .exact⟨0,ai _,rfl,fun x h=>by simp at h,zaA _ _⟩
 case round =>
  obtain⟨n,hn,rfl,HN,ou⟩:=hrel;by_cases kV:n<ps.length
  .obtain⟨q,hx⟩:∃x,ps[n]? = some x:=⟨_,ac kV⟩;obtain⟨a',c',hv',hc',h3⟩:=HV.o.kept ou;obtain⟨rfl,nj,rfl⟩:=bL hv';clear nj;obtain⟨g,o2,rfl,hg,mU⟩:=h3 a_;obtain⟨c0,c1⟩:=mU n q hx;have HR:=Hd ou;cases hxk:(q.1==k)
   .have HS:Hi (∀x∈ps.take (n+1),(x.1==k)=false):=by
     intro x hxm;obtain⟨hk',rfl⟩:=ak.1 hx;rw[bf hk']at hxm;rcases aV.1 hxm with h|h
     .exact HN.o x h
     .simp at h;subst h;exact hxk
    clear ou mU h3 hv' hc' hx HN;obtain⟨x,y⟩:=q;simp only at c0 c1 hxk;go_wp2;go_roundw
    .exact⟨n+1,a_,by go_num,HS.o,HR.o.trans (zaA _ _)⟩
    .simp [intOf];omega
   .have HF:=Hd (HA.o n q hx HN.o hxk);clear ou mU h3 hv' hc' hx HN;obtain⟨x,y⟩:=q;simp only at c0 c1 hxk HF;go_wp2;go_ret2;exact⟨by rw[HF.o];rfl,HR.o.trans (zaA _ _)⟩
  .have HF:Hi (o=none):=nV.o (fun q hq=>by
    have h:=HN.o;rw[bx a_]at h;exact h q hq)
   have HR:=Hd ou;clear ou HN;go_wp2;go_ret2;exact⟨by rw[HF.o];rfl,HR.o⟩
def zpF(l:Bs)(i:Nat)(h:at8 l i<128):dec (bs l) i=(at8 l i,1):=by unfold dec;rw[za4,ae h]
def zGi(l:Bs)(i:Nat)(h:128<=at8 l i):128<=(dec (bs l) i).1:=by
 have m0:∀k a b,¬ zaH (bs l) k a b<0->128<=a->a - 128<=zaH (bs l) k a b/\zaH (bs l) k a b<=b - 128:=by
  intro k a b q hl;obtain⟨_,h1,h2,h3⟩:=zg0 (s:=bs l) (i:=k) (l:=a) (h:=b) a_;omega
 have h:128<=zaC (bs l) i:=h;unfold dec;rw[aa a_]
 split
 .split
  .have:=m0 (i+1) 128 191 a_ a_;simp only;omega
  .simp only;omega
 split
 .unfold zhH
  split
  .simp only;omega
  .rename_i q;simp only[not_or]at q;have d:128<=zfT (zaC (bs l) i)/\(zaC (bs l) i=224->zfT (zaC (bs l) i)=160):=(by unfold zfT;split<;>omega);have a:=m0 (i+1) (zfT (zaC (bs l) i)) (zcL (zaC (bs l) i)) q.1 d.1;have b:=m0 (i+2) 128 191 q.2 a_;simp only;omega
 split
 .unfold ztQ
  split
  .simp only;omega
  .rename_i q;simp only[not_or]at q;have d:128<=ze5 (zaC (bs l) i)/\(zaC (bs l) i=240->ze5 (zaC (bs l) i)=144):=(by unfold ze5;split<;>omega);have a:=m0 (i+1) (ze5 (zaC (bs l) i)) (zcM (zaC (bs l) i)) q.1 d.1;have b:=m0 (i+2) 128 191 q.2.1 a_;have b2:=m0 (i+3) 128 191 q.2.2 a_;simp only;omega
 .simp only;omega
def zyE(b:UInt8):Bool:=decide (48<=b.toNat)&&decide (b.toNat<=57)
def zrQ(v:Bs):Nat:=v.foldl (fun n b=>10 * n+(b.toNat - 48)) 0
def zeE(v:Bs):Int:=if v.length<=4/\v.all zyE=true then zrQ v else 0
def zrR(v:Bs)(b:UInt8):zrQ (v++[b])=10 * zrQ v+(b.toNat - 48):=by simp [zrQ]
def zG7(v:Bs)(h:v.all zyE=true):zrQ v<10 ^ v.length:=by
 refine zvU (P:=fun v=>v.all zyE=true->zrQ v<10 ^ v.length) ?_ ?_ v h
 .intro _;simp [zrQ]
 .intro l b ih h;rw[fY,ba]at h;have h1:=ih h.1;have h2:b.toNat<=57:=(by have:=h.2;simp [zyE]at this;omega);rw[zrR,ah,az,cj,Nat.pow_succ];omega
def zA8(l:Bs)(i:Nat)(h:i<l.length):zyE l[i]=true↔48<=at8 l i/\at8 l i<=57:=by
 rw[zbP l i h];simp [zyE];omega
def zA9(v:Bs)(i:Nat)(h:i<v.length)(hb:¬ (48<=at8 v i/\at8 v i<=57)):zeE v=0:=by
 unfold zeE;rw[aa];rintro⟨_,q⟩;rw[dn]at q;exact hb ((zA8 v i h).1 (q _ (dm h)))
def zyF(v:Bs)(h4:v.length<=4)(h:v.all zyE=true):zeE v=zrQ v:=by unfold zeE;rw[ae ⟨h4,h⟩]
def zrS(v:Bs)(h4:v.length<=4)(h:v.all zyE=true):zrQ v<=9999:=by
 have h1:=zG7 v h;have h2:10 ^ v.length<=10 ^ 4:=Nat.pow_le_pow_right a_ h4;omega
def zEd(v:Bs)(k:Nat)(hk:k<v.length)(h:(v.take k).all zyE=true)(hd:48<=at8 v k/\at8 v k<=57):(v.take (k+1)).all zyE=true/\(zrQ (v.take (k+1)):Int)=10 * zrQ (v.take k)+(at8 v k - 48):=by
 rw[zlW v k hk,fY,h];refine⟨by simp [(zA8 v k hk).2 hd],?_⟩;rw[zrR,zbP v k hk];have:48<=v[k].toNat:=(by rw[zbP v k hk]at hd;omega);omega
def ziU(w wr:World)(g:Nat)(v:Bs)(pos n:Nat)(mz:wr.heap[g]? = some (.stringIter (bs v) pos))(hk:Kept w wr)(hg:w.heap.size<=g):(wr.iterAt g (bs v) (pos+n)).heap[g]? = some (.stringIter (bs v) (pos+n))/\Kept w (wr.iterAt g (bs v) (pos+n))/\(wr.iterAt g (bs v) (pos+n)).iterPos g=pos+n/\wr.iterPos g=pos:=by
 have h1:=fy wr g (bs v) pos (pos+n) mz;exact⟨h1,fj hk hg (bs v) _,by simp [World.iterPos,h1],by simp [World.iterPos,mz]⟩
def zmC:Bs:=[101,100,105,116,111,114]
def ziV:Bs:=[97,117,116,104,111,114,115]
def ziW:Bs:=[101,100,105,116,111,114,115]
def zBa:Bs:=[116,121,112,101]
structure FilT where
 key:Bs
 type:Bs
 author:List P4
 editor:List P4
 fields:List Pr
 lang:Bs
 suffix:Bs
 number:Int
 most:Int
def zjQ(c:FilT):Int:=zeE ((za3 c.fields [121,101,97,114]).getD [])
def ziX(c:FilT):Bs:=if zjQ c=0 then []else Lib.itoa (zjQ c)
def zyG(c:FilT):Bs:=if c.number<1 then []else Lib.itoa c.number
def zgF(c:FilT):List (Bs×Bs):=[(zeW,zd4 c.author c.lang c.most false),(zmC,zd4 c.editor c.lang c.most false),(ziV,zd4 c.author c.lang c.most true),(ziW,zd4 c.editor c.lang c.most true),(zeK,ziX c),(zcN,c.suffix),(zbH,zyG c),(zDE,c.key),(zBa,c.type)]
def zBb(l:List (Bs×Bs))(ys ns:Bs):List (Bs×Bs):=l.map fun e=>if e.1=zeK then(zeK,ys)else if e.1=zbH then(zbH,ns)else e
def znP(c:FilT)(k:Bs):Bs:=((zgF c).find? fun e=>e.1==k).elim ((za3 c.fields k).getD []) (·.2)
def FitF(c:FilT):Prop:=c.author.length<=900/\c.editor.length<=900/\(∀q∈c.author,zeB q<=10000)/\(∀q∈c.editor,zeB q<=10000)/\(-9223372036854775808<=c.most/\c.most<=9223372036854775807)/\c.fields.length<=1100000/\((za3 c.fields [121,101,97,114]).getD []).length<=140737488355328/\(-9223372036854775808<=c.number/\c.number<=9223372036854775807)
def zpG(n:Int)(w:World)(h0 : -9223372036854775808<=n)(h1:n<=9223372036854775807)(h:Lib.TabIs prog w "internal/strconv.uint64pow10" .u64 Lib.pow10Tab):Calls prog 87 #[.int .i64 n] w fun e w'=>e=.returned (.string (bs (Lib.itoa n)))/\Kept w w':=by
 refine(Tryz.strconv_Itoa n h0 h1 w h).mono ?_;rintro e w' ⟨rfl,k,os,rfl⟩;exact⟨rfl,Lib.below_grow w.heap.size w (aw _) k os⟩
def zeS{w w':World}(h:Lib.TabIs prog w "internal/strconv.uint64pow10" .u64 Lib.pow10Tab) (k:Kept w w'):Lib.TabIs prog w' "internal/strconv.uint64pow10" .u64 Lib.pow10Tab:=Lib.tabBelow_of_tabIs h w' k
def On(L:Array Bool)(i:Nat):Prop:=L.getD i false=true
def zeX{L:Array Bool}{i:Nat}(h:i<L.size):On (L.setIfInBounds i true) i:=by
 unfold On;simp [bq,h]
def zfD{L:Array Bool}{i j:Nat}(h:i≠j):On (L.setIfInBounds i true) j↔On L j:=by
 unfold On;rw[jc false h]
def zgB{L:Array Bool}{i j:Nat}(h:On (L.setIfInBounds i true) j):j=i\/On L j:=by
 by_cases q:i=j
 .exact .inl q.symm
 .exact .inr ((zfD q).1 h)
def za5{L:Array Bool}{i j:Nat}(h:On L j):On (L.setIfInBounds i true) j:=getD_set_true h
def zv8{L:Array Bool}{i:Nat}(h:L.getD i true=false):¬ On L i:=by
 unfold On;intro q;have hi:i<L.size:=by
  rcases bG i L.size with x|x
  .exact x
  .rw[bq,bB x]at h;cases h
 rw[bq,bY hi]at h q;simp only[dE]at h q;rw[h]at q;cases q
def zAa(L:Array Bool):Nat->Nat
 | 0=>0
 | n+1=>zAa L n+(if L.getD n true=true then 0 else 1)
def zv9(L:Array Bool)(i:Nat)(h:L.getD i true=false):∀n,zAa (L.setIfInBounds i true) n+(if i<n then 1 else 0)=zAa L n
 | 0=>by simp [zAa]
 | n+1=>by
  have ih:=zv9 L i h n;rw[zAa,zAa];by_cases q:i=n
  .subst q;rw[aa (iB _)]at ih;have hi:i<L.size:=by
    rcases bG i L.size with x|x
    .exact x
    .rw[bq,bB x]at h;cases h
   have e:(L.setIfInBounds i true).getD i true=true:=(by simp [bq,hi]);rw[e,h];simp;omega
  .rw[jc true q];generalize (if L.getD n true=true then 0 else 1)=z;by_cases q2:i<n
   .have q3:i<n+1:=a_;simp only[q2,q3,jO]at ih ⊢;omega
   .have q3:¬ i<n+1:=a_;simp only[q2,q3,fe]at ih ⊢;omega
section
variable {P:Program}{ops:Array Oper}{Q:Exit->Act->World->Prop}{md:Region.Mode}
def zBc(I:Array Bool->Act->World->Prop)(hac:∀(i:Nat) (o:Oper),ops[i]? = some o->∀e∈o.after,Region.binds md e=true->e.on<i)(hend:∀L a w,I L a w->(∀i,i<ops.size->L.getD i true=true)->Q .normal a w)(hstep:∀L a w i,I L a w->i<ops.size->L.getD i true=false->(∀o,ops[i]? = some o->∀e∈o.after,Region.binds md e=true->On L e.on)->wpOp P ops Q i (I (L.setIfInBounds i true)) a w):∀(mf:Nat) L a w,zAa L ops.size<=mf->I L a w->wpAny P md ops Q mf L a w:=by
 have oy:∀L,L.size=L.size->Region.ready md ops L=[]->(∀i,i<ops.size->L.getD i true=true):=by
  intro L _ hr i
  induction i using Nat.strongRecOn with
  | ind i ih =>
   intro hi;cases hq:L.getD i true with
   | true=>rfl
   | false =>
    exfalso;have:i∈Region.ready md ops L:=by
     rw[mem_ready];refine⟨hq,ops[i],bY hi,fun e he hb=>?_⟩;have h1:=hac i ops[i] (bY hi) e he hb;have h2:=ih e.on h1 a_;have kV:e.on<L.size:=by
      rcases bG i L.size with x|x
      .omega
      .rw[bq,bB x]at hq;cases hq
     rw[bq,bY kV]at h2 ⊢;exact h2
    rw[hr]at this;cases this
 intro mf
 induction mf with
 | zero =>
  intro L a w hf hI;have hz:∀n,zAa L n=0->∀i,i<n->L.getD i true=true:=by
   intro n
   induction n with
   | zero=>intro _ i hi;omega
   | succ n ih =>
    intro h i hi;rw[zAa]at h;by_cases q:i=n
    .subst q;cases hq:L.getD i true with
     | true=>rfl
     | false=>rw[hq]at h;simp at h
    .exact ih a_ i a_
  have ha:=hz ops.size a_;refine⟨?_,hend L a w hI ha⟩;cases hr:Region.ready md ops L with
  | nil=>rfl
  | cons i r =>
   exfalso;have hi:i∈Region.ready md ops L:=(by rw[hr];exact bI ..);rw[mem_ready]at hi;obtain⟨h0,o,ho,_⟩:=hi;have:=ha i (fJ.1 ho).1;rw[this]at h0;cases h0
 | succ mf ih =>
  intro L a w hf hI;refine⟨fun hr=>hend L a w hI (oy L rfl hr),fun i hi=>?_⟩;rw[mem_ready]at hi;obtain⟨h0,o,ho,m7⟩:=hi;have kV:=(fJ.1 ho).1;have hs:=zv9 L i h0 ops.size;rw[ae kV]at hs;refine wpOp_mono (fun a' w' hI'=>ih _ a' w' a_ hI') (hstep L a w i hI kV h0 (fun o' ho' e he hb=>?_));rw[ho]at ho';cases ho';exact m7 e he hb
def zyH(n:Nat):zAa (Array.replicate n false) n<=n:=by
 have:∀(L:Array Bool) m,zAa L m<=m:=by
  intro L m
  induction m with
  | zero=>exact aw _
  | succ m ih=>rw[zAa];split<;>omega
 exact this _ _
def zf1{id:Nat}{a:Act}{w:World}(I:Array Bool->Act->World->Prop)(hm:P.follows .mixedOrders=true)(hac:∀(i:Nat) (o:Oper),ops[i]? = some o->∀e∈o.after,Region.binds .any e=true->e.on<i)(h0:I (Array.replicate ops.size false) a w.drew)(hend:∀L a w,I L a w->(∀i,i<ops.size->L.getD i true=true)->Q .normal a w)(hstep:∀L a w i,I L a w->i<ops.size->L.getD i true=false->(∀o,ops[i]? = some o->∀e∈o.after,Region.binds .any e=true->On L e.on)->wpOp P ops Q i (I (L.setIfInBounds i true)) a w):(Code.region id ops true).wp P Q a w :=
 wp_region_any hm (zBc I hac hend hstep ops.size _ _ _ (zyH _) h0)
def zaR{i:Nat}{o:Oper}{a:Act}{w w':World}{v:Value}{K:Act->World->Prop}(ho:ops[i]? = some o)(hg:o.guard=none)(hr:(execOp a.eval o).run P w=.ok (.value v) w')(hk:K (a.put o.dst v) w'):wpOp P ops Q i K a w:=by
 unfold wpOp;simp only[ho];rw[ae (by simp [Region.wanted,hg])];left;unfold Oper.wp;rw[hr];exact hk
def zcV{i:Nat}{o:Oper}{a:Act}{w w':World}{K:Act->World->Prop}(ho:ops[i]? = some o)(hg:o.guard=none)(hr:(execOp a.eval o).run P w=.ok .skip w')(hk:K (a.put o.dst undef) w'):wpOp P ops Q i K a w:=by
 unfold wpOp;simp only[ho];rw[ae (by simp [Region.wanted,hg])];left;unfold Oper.wp;rw[hr];exact hk
def zfE{i:Nat}{o:Oper}{a:Act}{w w':World}{f:FuncId}{args:Array Value}{K:Act->World->Prop}(ho:ops[i]? = some o)(hg:o.guard=none)(hr:(execOp a.eval o).run P w=.ok (.enter f args) w')(hc:Calls P f args w' fun e w''=>∃v,e=.returned v/\K (a.put o.dst v) w''):wpOp P ops Q i K a w:=by
 unfold wpOp;simp only[ho];rw[ae (by simp [Region.wanted,hg])];left;unfold Oper.wp;rw[hr,Oper.upon_enter];refine hc.mono ?_;rintro e w'' ⟨v,rfl,h⟩;exact h
end
def acB(ops:Array Oper):Bool:=(List.range ops.size).all fun i=>match ops[i]? with
 | some o=>o.after.all fun e=>!Region.binds .any e || decide (e.on<i)
 | none=>true
def zEe{ops:Array Oper}(h:acB ops=true):∀(i:Nat) (o:Oper),ops[i]? = some o->∀e∈o.after,Region.binds .any e=true->e.on<i:=by
 intro i o ho e he hb;unfold acB at h;rw[dn]at h;have:=h i (jm.2 (fJ.1 ho).1);rw[ho]at this;simp only[Array.all_eq_true_iff_forall_mem]at this;have:=this e he;rw[hb]at this;simpa using this
structure Slots (n:Nat) (D:Nat->Option Nat) (V:Nat->Value) (L:Array Bool) (a0 a:Act):Prop where
 size:a.tmps.size=a0.tmps.size
 defers:a.defers=a0.defers
 val:∀i d,i<n->D i=some d->On L i->a.tmps[d]? = some (V i)
 rest:∀s,(∀i,i<n->D i≠some s)->a.tmps[s]? = a0.tmps[s]?
def Slots.start(n:Nat)(D:Nat->Option Nat)(V:Nat->Value)(m:Nat)(a:Act):Slots n D V (Array.replicate m false) a a :=
 ⟨rfl,rfl,(fun i d _ _ h=>by
  unfold On at h;rw[bq]at h;by_cases q:i<m
  .rw[bY (by simpa using q)]at h;simp at h
  .rw[bB (by simpa using q)]at h;cases h),fun _ _=>rfl⟩
def Slots.eval{n:Nat}{D:Nat->Option Nat}{V:Nat->Value}{L:Array Bool}{a0 a:Act}(h:Slots n D V L a0 a)(i d:Nat)(hi:i<n)(hd:D i=some d)(ho:On L i):a.eval (.tmp d)=V i:=by
 show a.tmps.getD d undef=_;rw[bq,h.val i d hi hd ho];rfl
def Slots.ext{n:Nat}{D:Nat->Option Nat}{V:Nat->Value}{L:Array Bool}{a0 a:Act}(h:Slots n D V L a0 a)(s:Nat)(hs:∀i,i<n->D i≠some s):a.eval (.tmp s)=a0.eval (.tmp s):=by
 show a.tmps.getD s undef=a0.tmps.getD s undef;rw[bq,bq,h.rest s hs]
def Slots.put{n:Nat}{D:Nat->Option Nat}{V V':Nat->Value}{L:Array Bool}{a0 a:Act}(h:Slots n D V L a0 a)(i:Nat)(hi:i<n)(hL:i<L.size)(hinj:∀j d,j<n->D i=some d->D j=some d->j=i)(ny:∀d,D i=some d->d<a0.tmps.size)(v:Value)(hv:(D i).isSome=true->v=V' i)(hV:∀j,j<n->On L j->V j=V' j):Slots n D V' (L.setIfInBounds i true) a0 (a.put (D i) v):=by
 cases hd:D i with
 | none =>
  refine⟨h.size,h.defers,fun j d hj hjd ho=>?_,h.rest⟩;rcases zgB ho with q|q
  .subst q;rw[hd]at hjd;cases hjd
  .rw[<- hV j hj q];exact h.val j d hj hjd q
 | some d =>
  have hv':v=V' i:=hv (by rw[hd];rfl);refine⟨?_,h.defers,fun j d' hj hjd ho=>?_,fun s hs=>?_⟩
  .show(a.tmps.setIfInBounds d v).size=_;rw[cn];exact h.size
  .show(a.tmps.setIfInBounds d v)[d']? = _;by_cases q:d=d'
   .subst q;obtain rfl:=hinj j d hj hd hjd;rw[jb (by rw[h.size];exact ny d hd),hv']
   .rw[dJ q];rcases zgB ho with q2|q2
    .subst q2;rw[hd]at hjd;cases hjd;exact absurd rfl q
    .rw[<- hV j hj q2];exact h.val j d' hj hjd q2
  .show(a.tmps.setIfInBounds d v)[s]? = _;rw[dJ (fun e=>hs i hi (by rw[hd,e]))];exact h.rest s hs
def zgQ(m i:Nat):¬ On (Array.replicate m false) i:=by
 unfold On;intro h;rw[bq]at h;by_cases q:i<m
 .rw[bY (by simpa using q)]at h;simp at h
 .rw[bB (by simpa using q)]at h;cases h
def zaE{α:Type}{n:Nat}{l:List α}(h:l.length=n+1):∃x t,l=x::t/\t.length=n:=by
 cases l with
 | nil=>cases h
 | cons x t=>exact⟨x,t,rfl,by simpa using h⟩
def ku:=@Slots.start
end Go.Proofs.YtnldgmhdjancbaaGreatDoor
