/- Parts. -/
import Derived.Test.YtnldgmhdjancbaaGreatDoorW13
import Derived.Great.BuildSlice
set_option linter.all false
set_option maxRecDepth 100000
set_option maxHeartbeats 6400000
namespace Go.Proofs.YtnldgmhdjancbaaGreatDoor
open Go.RowKit Go.Proofs.Tryz
def zKd(a b:UInt8):a<b↔(a.toNat:Int)<(b.toNat:Int):=by rw[UInt8.lt_iff_toNat_lt];omega
def zpR:∀a b:Bs,Lib.compareBytes a b=zGg a b
 | [],[]=>rfl
 | [],_::_=>rfl
 | _::_,[]=>rfl
 | a::x,b::y=>by
  have ih:=zpR x y;unfold zGg at ih ⊢;rw[Lib.compareBytes,bd,bd,zgE,ih];simp only[zKd]
def zBI(v u:Value)(x y:List Int)(w:World)(hv:Ints w v x)(hu:Ints w u y)(hx:x.length<=200000000)(hy:y.length<=200000000):Calls prog 130 #[v,u] w fun e w'=>e=.returned (.int .i64 (zgE x y))/\w=w':=by
 have HV:=Hd hv;have HU:=Hd hu;obtain⟨a,c,rfl,hc⟩:=hv.form;obtain⟨b,d,rfl,hd⟩:=hu.form;clear hv hu;have lG:=Hd (zHj x y);have sE:=Hd (zEz x y);obtain⟨R,HR⟩:=gX (zgE x y);rw[HR.o];go_in;go_wp2_with fail
 go_loop [11] (fun i=>∃k:Nat,k<=x.length/\k<=y.length/\i=.int .i64 k/\Hi (zgE (x.drop k) (y.drop k)=R)) (fun i=>x.length - (intOf i).toNat)
 .exact⟨0,ai _,ai _,rfl,HR.o⟩
 case round =>
  obtain⟨k,hk,ll,rfl,HA⟩:=hrel;by_cases kV:k<x.length
  .obtain⟨p,hp⟩:∃z,x[k]? = some z:=⟨_,ac kV⟩;obtain⟨g,o,rfl,hg,d0⟩:=HV.o.cell_of k p hp;by_cases ox:k<y.length
   .obtain⟨q,hq⟩:∃z,y[k]? = some z:=⟨_,ac ox⟩;obtain⟨g2,o2,rfl,hg2,d1⟩:=HU.o.cell_of k q hq;have HS:Hi (R=if p<q then -1 else if q<p then 1 else zgE (x.drop (k+1)) (y.drop (k+1))):=by
     show _=_;rw[<- HA.o,lG.o k kV ox];obtain⟨_,rfl⟩:=ak.1 hp;obtain⟨_,rfl⟩:=ak.1 hq;rfl
    have HC:=Hd (fun w=>jh p q w);unfold Lib.compareInt at HC;clear hp hq;by_cases h1:p<q
    .rw[ae h1]at HS HC;go_wp2_with fail;refine(HC.o _).mono ?_;rintro e w' ⟨rfl,rfl⟩;go_wp2;go_ret;exact⟨zaU HS.o.symm,rfl⟩
    rw[aa h1]at HS HC;by_cases h2:q<p
    .rw[ae h2]at HS HC;go_wp2_with fail;refine(HC.o _).mono ?_;rintro e w' ⟨rfl,rfl⟩;go_wp2;go_ret;exact⟨zaU HS.o.symm,rfl⟩
    rw[aa h2]at HS;rw[aa (show¬ p>q from h2)]at HC;go_wp2_with fail;refine(HC.o _).mono ?_;rintro e w' ⟨rfl,rfl⟩;go_wp2_with fail
    go_round
    .exact⟨k+1,a_,a_,by go_num,HS.o.symm⟩
    .simp [intOf];omega
   .have HS:Hi (R=1):=by
     show _=_;rw[<- HA.o,sE.o k hk ll (fun q=>ox q.2),aa a_,ae a_]
    clear hp;go_wp2;go_ret;exact⟨zaU HS.o.symm,rfl⟩
  .have HS:Hi (R=if x.length<y.length then -1 else 0):=by
    show _=_;rw[<- HA.o,sE.o k hk ll (fun q=>kV q.1)];by_cases q:x.length<y.length
    .rw[ae q,ae q]
    .rw[aa q,aa q,aa a_]
   by_cases h1:x.length<y.length
   .rw[ae h1]at HS;go_wp2;go_ret;exact⟨zaU HS.o.symm,rfl⟩
   .rw[aa h1]at HS;go_wp2;go_ret;exact⟨zaU HS.o.symm,rfl⟩
def zwL{c:ColT}(hs:SmallC c)(s:Bs):(zgM c s).length<=1000 * s.length:=by
 have h1:∀x,(zjL c x).length<=1000:=fun x=>by
  unfold zjL
  split
  .simp
  .split
   .rename_i v hv;have:=zBG hs hv;simpa using this
   .simp
 have h2:∀xs:List Int,(xs.flatMap (zjL c)).length<=1000 * xs.length:=by
  intro xs
  induction xs with
  | nil=>simp
  | cons x xs ih =>
   have:=h1 x;rw[dB,ah,az];omega
 have h3:=h2 (zeP s);have h4:=ziK s;unfold zgM;omega
def zEP(c:ColT)(a b:Bs):znJ c a b=if zgE (zgM c a) (zgM c b)≠0 then zgE (zgM c a) (zgM c b)else Lib.compareBytes a b:=by
 rw[zpR];rfl
def zmM(vR vO:Value)(c:ColT)(a b:Bs)(w:World)(hv:Col w vR vO c)(hs:SmallC c)(ha:a.length<=100000)(hb:b.length<=100000):Calls prog 92 #[zDD vR vO c.ignore,.string (bs a),.string (bs b)] w fun e w'=>e=.returned (.int .i64 (znJ c a b))/\Kept w w':=by
 have HV:=Hd hv;have HT:=Hd (fun w h=>zyS vR vO c w h hs);have kZ:=Hd (fun v w h=>zBH v c a w h hs ha);have oa:=Hd (fun v w h=>zBH v c b w h hs hb);have hla:=zwL hs a;have hlb:=zwL hs b;have HE:=Hd (zEP c a b);have Bh:=Hd (fun h:a=b=>(show znJ c a b=0 from(zBs c a b).2 h));have Cy:=Hd (fun w=>je (bs a) (bs b) w);simp only[zfW]at Cy;obtain⟨aR,cR,rfl,lR⟩:=hv.1.form;obtain⟨aO,cO,rfl,lO⟩:=hv.2.form;clear hv;have lg:=Hd (zaA w (.cells #[.slice aR c.ranks.length cR,.slice aO c.order.length cO,.string (bs c.ignore)] 112));generalize znJ c a b=R at *;generalize zgM c a=ka at *;generalize zgM c b=kb at *;generalize Lib.compareBytes a b=S at *;unfold IntsP at kZ oa;by_cases hab:a=b
 .have HR:=Hd (Bh.o hab);subst hab;go_in;go_wp2;go_ret;exact⟨zaU HR.o.symm,lg.o⟩
 have hab':(a==b)=false:=(by simpa using hab);go_in;go_wp2_with fail;refine(HT.o _ (HV.o.kept lg.o)).mono ?_;rintro e w1 ⟨v1,rfl,ht1,ld⟩;have HT1:=Hd ht1;have kT:=Hd (lg.o.trans ld);obtain⟨m1,m2,m3,es,rfl,_,_,_,_⟩:=ht1;clear ld;have ma:=Hd (aI w1 201 #[.map (some m1),.map (some m2),.map (some m3),.int .i64 c.order.length]);have kX:=Hd (kT.o.trans (zaA w1 (.cells #[.map (some m1),.map (some m2),.map (some m3),.int .i64 c.order.length] 201)));have HT2:=Hd (HT1.o.kept (zaA w1 (.cells #[.map (some m1),.map (some m2),.map (some m3),.int .i64 c.order.length] 201)));go_wp2_with fail;generalize w1.alloc (.cells #[.map (some m1),.map (some m2),.map (some m3),.int .i64 c.order.length] 201)=w2 at *;generalize w1.heap.size=B at *;have t0:w2.cell? ⟨B,0,none⟩=some (.map (some m1)):=ma.o.cell 0 _ rfl;have t1:w2.cell? ⟨B,1,none⟩=some (.map (some m2)):=ma.o.cell 1 _ rfl;have t2:w2.cell? ⟨B,2,none⟩=some (.map (some m3)):=ma.o.cell 2 _ rfl;have t3:w2.cell? ⟨B,3,none⟩=some (.int .i64 c.order.length):=ma.o.cell 3 _ rfl;have zt:=ma.o.lt;have mA:Hi (∀w',Kept w2 w'->(w'.cell? ⟨B,0,none⟩=some (.map (some m1))/\w'.cell? ⟨B,1,none⟩=some (.map (some m2))/\w'.cell? ⟨B,2,none⟩=some (.map (some m3))/\w'.cell? ⟨B,3,none⟩=some (.int .i64 c.order.length))/\B<w'.heap.size/\Kept w2 w'):=fun w' h =>
  ⟨⟨(h.cell (p:=⟨B,0,none⟩) zt).trans t0,(h.cell (p:=⟨B,1,none⟩) zt).trans t1,(h.cell (p:=⟨B,2,none⟩) zt).trans t2,(h.cell (p:=⟨B,3,none⟩) zt).trans t3⟩,aU zt h.size,h⟩
 have hkd:Kept w2 w2.drew:=zaB w2 1;have Hp:=Hd (fun v u w (h1:Ints w v ka) (h2:Ints w u kb)=>zBI v u ka kb w h1 h2 a_ a_)
 go_region_held3 (fun w'=>(w'.cell? ⟨B,0,none⟩=some (.map (some m1))/\w'.cell? ⟨B,1,none⟩=some (.map (some m2))/\w'.cell? ⟨B,2,none⟩=some (.map (some m3))/\w'.cell? ⟨B,3,none⟩=some (.int .i64 c.order.length))/\B<w'.heap.size/\Kept w2 w')
  ((refine mA.o _ ?_;assumption))
  (first
   | (go_at_call 130;refine(Hp.o _ _ _ Dy.o Dz.o).mono ?_;rintro e w5 ⟨rfl,rfl⟩)
   | (go_at_call_of 131 (Value.string (bs b));refine(oa.o _ _ (HT2.o.kept kA)).mono ?_;rintro e w4 ⟨vB,rfl,Hq,mu⟩;have kB:Kept w2 w4:=kA.trans mu;have Dy:=Hd (qN.o.kept mu);have Dz:=Hd Hq;obtain⟨aB,cB,rfl,lB⟩:=Hq.form;clear mu Hq)
   | (go_at_call_of 131 (Value.string (bs a));refine(kZ.o _ _ (HT2.o.kept hkd)).mono ?_;rintro e w3 ⟨vA,rfl,Hr,li⟩;have kA:Kept w2 w3:=hkd.trans li;have qN:=Hd Hr;obtain⟨aA,cA,rfl,lA⟩:=Hr.form;clear li Hr))
 all_goals
  have oh:=Hd (kX.o.trans kB);clear mA kA kB Dy Dz;generalize zgE ka kb=D at *;by_cases hD:D=0
  .subst hD;rw[aa b_]at HE;go_wp2_with fail;refine(Cy.o _).mono ?_;rintro e w6 ⟨rfl,rfl⟩;go_wp2;go_ret;exact⟨zaU HE.o.symm,oh.o⟩
  .rw[ae hD]at HE;have hD':(D==0)=false:=(by simpa using hD);go_wp2;go_ret;exact⟨zaU HE.o.symm,oh.o⟩
def zJX(x:KeyT):Value:=.agg #[.string (bs x.author),.int .i64 x.year,.string (bs x.title),.string (bs x.key)]
def FitKy(x:KeyT):Prop:=x.author.length<=100000/\x.title.length<=100000/\x.key.length<=100000/\(-9223372036854775808<=x.year/\x.year<=9223372036854775807)
def zpS(vR vO:Value)(c:ColT)(wd:Bs)(x y:KeyT)(w:World)(hc:Col w vR vO c)(hs:SmallC c)(hx:FitKy x)(hy:FitKy y):Calls prog 53 #[zDD vR vO c.ignore,.string (bs wd),zJX x,zJX y] w fun e w'=>e=.returned (.int .i64 (zfK c wd x y))/\Kept w w':=by
 obtain⟨x1,x2,x3,x4⟩:=hx;obtain⟨y1,y2,y3,y4⟩:=hy;have HA:=Hd (fun w' (k:Kept w w')=>zmM vR vO c x.author y.author w' (hc.kept k) hs x1 y1);have HT:=Hd (fun w' (k:Kept w w')=>zmM vR vO c x.title y.title w' (hc.kept k) hs x2 y2);have HY:=Hd (fun w'=>jh x.year y.year w');have HK:=Hd (fun w'=>je (bs x.key) (bs y.key) w');obtain⟨aR,cR,rfl,lR⟩:=hc.1.form;obtain⟨aO,cO,rfl,lO⟩:=hc.2.form;have HW:Hi (zfK c wd x y=if wd=zpL then znJ c x.author y.author else if wd=zEA then zIQ x.year y.year else if wd=zhP then znJ c x.title y.title else zGg x.key y.key):=rfl;rw[HW.o];unfold zDD at HA HT;obtain⟨xa,xy,xt,xk⟩:=x;obtain⟨ya,yy,yt,yk⟩:=y;simp only at HA HT HY HK;clear hc hs x1 x2 x3 y1 y2 y3 HW;have lg:Hi (Kept w (((w.alloc (.cells #[.slice aR c.ranks.length cR,.slice aO c.order.length cO,.string (bs c.ignore)] 112)).alloc (.cells #[.string (bs xa),.int .i64 xy,.string (bs xt),.string (bs xk)] 108)).alloc (.cells #[.string (bs ya),.int .i64 yy,.string (bs yt),.string (bs yk)] 108))):=((zaA w _).trans (zaA _ _)).trans (zaA _ _);have hb:=((aI w 112 #[.slice aR c.ranks.length cR,.slice aO c.order.length cO,.string (bs c.ignore)]).alloc (.cells #[.string (bs xa),.int .i64 xy,.string (bs xt),.string (bs xk)] 108)).alloc (.cells #[.string (bs ya),.int .i64 yy,.string (bs yt),.string (bs yk)] 108);have hx:=(aI (w.alloc (.cells #[.slice aR c.ranks.length cR,.slice aO c.order.length cO,.string (bs c.ignore)] 112)) 108 #[.string (bs xa),.int .i64 xy,.string (bs xt),.string (bs xk)]).alloc (.cells #[.string (bs ya),.int .i64 yy,.string (bs yt),.string (bs yk)] 108);have hy:=aI ((w.alloc (.cells #[.slice aR c.ranks.length cR,.slice aO c.order.length cO,.string (bs c.ignore)] 112)).alloc (.cells #[.string (bs xa),.int .i64 xy,.string (bs xt),.string (bs xk)] 108)) 108 #[.string (bs ya),.int .i64 yy,.string (bs yt),.string (bs yk)];obtain⟨B,mW⟩:=gX w.heap.size;simp only[de,mW.o]at hb hx hy;have q0:=hb.cell 0 _ rfl;have q1:=hb.cell 1 _ rfl;have q2:=hb.cell 2 _ rfl;have qz:=hb.lt;have x0:=hx.cell 0 _ rfl;have x1:=hx.cell 1 _ rfl;have x2:=hx.cell 2 _ rfl;have x3:=hx.cell 3 _ rfl;have xz:=hx.lt;have y0:=hy.cell 0 _ rfl;have y1:=hy.cell 1 _ rfl;have y2:=hy.cell 2 _ rfl;have y3:=hy.cell 3 _ rfl;have yz:=hy.lt;clear hb hx hy;unfold zpL zEA zhP zDD zJX;dsimp only;by_cases h1:wd=[97,117,116,104,111,114]
 .rw[ae h1];subst h1;go_enter kp,jV;go_upto_region 1 with fail;rw[mW.o];generalize World.alloc (World.alloc (World.alloc w _) _) _=w0 at *;go_wp2_with fail;refine k_ (HA.o _ lg.o) fun w5 hk=>?_;have oh:=Hd (lg.o.trans hk);clear hk HA HT HY HK;go_wp2
  (try go_ret)
  exact⟨rfl,oh.o⟩
 have b1:(wd==[97,117,116,104,111,114])=false:=(by rw[ab];exact h1);rw[aa h1];by_cases h2:wd=[121,101,97,114]
 .rw[ae h2];subst h2;go_enter kp,jV;go_upto_region 1 with fail;rw[mW.o];generalize World.alloc (World.alloc (World.alloc w _) _) _=w0 at *;go_wp2_with fail;refine(HY.o _).mono ?_;rintro e w5 ⟨rfl,rfl⟩;clear HA HT HY HK;go_wp2
  (try go_ret)
  exact⟨rfl,lg.o⟩
 have b2:(wd==[121,101,97,114])=false:=(by rw[ab];exact h2);rw[aa h2];by_cases h3:wd=[116,105,116,108,101]
 .rw[ae h3];subst h3;go_enter kp,jV;go_upto_region 1 with fail;rw[mW.o];generalize World.alloc (World.alloc (World.alloc w _) _) _=w0 at *;go_wp2_with fail;refine k_ (HT.o _ lg.o) fun w5 hk=>?_;have oh:=Hd (lg.o.trans hk);clear hk HA HT HY HK;go_wp2
  (try go_ret)
  exact⟨rfl,oh.o⟩
 have b3:(wd==[116,105,116,108,101])=false:=(by rw[ab];exact h3);rw[aa h3];have HE:=Hd (zpR xk yk);go_enter kp,jV;go_upto_region 1 with fail;rw[mW.o];generalize World.alloc (World.alloc (World.alloc w _) _) _=w0 at *;go_wp2_with fail;refine(HK.o _).mono ?_;rintro e w5 ⟨rfl,rfl⟩;clear HA HT HY HK;go_wp2
 (try go_ret)
 exact⟨zaU (by simpa using HE.o),lg.o⟩
def zBJ{x y:KeyT}:(x.author==y.author&&(x.year==y.year&&(x.title==y.title&&x.key==y.key)))=true↔x=y:=by
 obtain⟨a,b,c,d⟩:=x;obtain⟨e,f,g,h⟩:=y;simp
def zHq(c:ColT)(ws:List Bs)(k:Nat)(h:ws.length<=k)(x y:KeyT):cfW c (ws.drop k) x y=0:=by
 rw[db h];rfl
def zsE(C C2:Nat)(vW vR vO:Value)(c:ColT)(ws:List Bs)(x y:SorT)(aA aE aF ut uv ux:Option Addr)(nA nE nF FZ F0 nF' cA cE cF uu uw uy:Nat)(w:World)(hW:Blk w C 37 #[vW])(hws:Strs w vW ws)(hcb:Blk w C2 112 #[vR,vO,.string (bs c.ignore)])(hc:Col w vR vO c)(hs:SmallC c)(hx:FitKy x.k)(hy:FitKy y.k)(hwl:ws.length<=1000000):Calls prog 52 #[.agg (zIR x (.slice aA nA cA) (.slice aE nE cE) (.slice aF nF cF)).toArray,.agg (zIR y (.slice ut FZ uu) (.slice uv F0 uw) (.slice ux nF' uy)).toArray,.pointer (some ⟨C,0,none⟩),.pointer (some ⟨C2,0,none⟩)] w fun e w'=>e=.returned (.int .i64 (cfW c ws x.k y.k))/\Kept w w':=by
 have HCM:=Hd (fun(wd:Bs) w' (k:Kept w w')=>zpS vR vO c wd x.k y.k w' (hc.kept k) hs hx hy);have qn:=Hd (fun h:x.k=y.k=>(show cfW c ws x.k y.k=0 by rw[h];exact zEB c ws y.k));have rx:=Hd (zBJ (x:=x.k) (y:=y.k));have HDR:=Hd (fun k wd (h:ws[k]? = some wd)=>zED (c:=c) h x.k y.k);have sF:=Hd (fun k h=>zHq c ws k h x.k y.k);have Bi:=Hd hws;obtain⟨aW,cW,rfl,lW⟩:=(show∃a cc,vW=.slice a ws.length cc/\ws.length<=cc by obtain⟨a,c,e,l,_⟩:=hws;exact⟨a,c,e,l⟩);obtain⟨aR,cR,rfl,lR⟩:=hc.1.form;obtain⟨aO,cO,rfl,lO⟩:=hc.2.form;unfold zDD zJX at HCM;obtain⟨⟨xa,xy,xt,xk⟩,⟨Hs,Ht,QA,QB,QC⟩⟩:=x;obtain⟨⟨ya,yy,yt,yk⟩,⟨Hu,Hv,QD,QE,QF⟩⟩:=y;unfold zIR;simp only at HCM qn rx HDR sF;dsimp only;have lg:Hi (Kept w ((w.alloc (.cells #[.string (bs xa),.int .i64 xy,.string (bs xt),.string (bs xk),.string (bs Hs),.string (bs Ht),.slice aA nA cA,.slice aE nE cE,.slice aF nF cF] 110)).alloc (.cells #[.string (bs ya),.int .i64 yy,.string (bs yt),.string (bs yk),.string (bs Hu),.string (bs Hv),.slice ut FZ uu,.slice uv F0 uw,.slice ux nF' uy] 110))):=(zaA w _).trans (zaA _ _);have hxb:=(aI w 110 #[.string (bs xa),.int .i64 xy,.string (bs xt),.string (bs xk),.string (bs Hs),.string (bs Ht),.slice aA nA cA,.slice aE nE cE,.slice aF nF cF]).alloc (.cells #[.string (bs ya),.int .i64 yy,.string (bs yt),.string (bs yk),.string (bs Hu),.string (bs Hv),.slice ut FZ uu,.slice uv F0 uw,.slice ux nF' uy] 110);have hyb:=aI (w.alloc (.cells #[.string (bs xa),.int .i64 xy,.string (bs xt),.string (bs xk),.string (bs Hs),.string (bs Ht),.slice aA nA cA,.slice aE nE cE,.slice aF nF cF] 110)) 110 #[.string (bs ya),.int .i64 yy,.string (bs yt),.string (bs yk),.string (bs Hu),.string (bs Hv),.slice ut FZ uu,.slice uv F0 uw,.slice ux nF' uy];obtain⟨B,mW⟩:=gX w.heap.size;simp only[de,mW.o]at hxb hyb;have HXB:=Hd hxb;have qi:=Hd hyb;have F1:=Hd (hW.kept lg.o);have po:=Hd (hcb.kept lg.o);have pV:Hi (∀n w',n=cfW c ws ⟨xa,xy,xt,xk⟩ ⟨ya,yy,yt,yk⟩->Kept w w'->(Ending.returned (.int .i64 n)=.returned (.int .i64 (cfW c ws ⟨xa,xy,xt,xk⟩ ⟨ya,yy,yt,yk⟩))/\Kept w w')):=fun n w' e k=>⟨by rw[e],k⟩;have hd0:cfW c ws ⟨xa,xy,xt,xk⟩ ⟨ya,yy,yt,yk⟩=cfW c (ws.drop 0) ⟨xa,xy,xt,xk⟩ ⟨ya,yy,yt,yk⟩:=rfl;obtain⟨R,HR⟩:=gX (cfW c ws ⟨xa,xy,xt,xk⟩ ⟨ya,yy,yt,yk⟩);have HD0:=Hd hd0;rw[HR.o]at pV HD0 qn ⊢;clear hxb hyb hW hcb hws hc hs hx hy hd0;go_in;go_upto_region 1 with fail;rw[mW.o];generalize World.alloc (World.alloc w _) _=w0 at *;have x0:=HXB.o.cell 0 _ rfl;have x1:=HXB.o.cell 1 _ rfl;have x2:=HXB.o.cell 2 _ rfl;have x3:=HXB.o.cell 3 _ rfl;have xz:=HXB.o.lt;have y0:=qi.o.cell 0 _ rfl;have y1:=qi.o.cell 1 _ rfl;have y2:=qi.o.cell 2 _ rfl;have y3:=qi.o.cell 3 _ rfl;have yz:=qi.o.lt;have F2:=F1.o.cell 0 _ rfl;have wz:=F1.o.lt;by_cases ha:xa=ya
 .subst ha;by_cases hy:xy=yy
  .subst hy;by_cases ht:xt=yt
   .subst ht;by_cases hk:xk=yk
    .subst hk;have Bj:=Hd (pV.o 0 w0 (qn.o rfl).symm lg.o);clear qn rx HCM HDR sF pV;go_wp2
     (try go_ret)
     exact Bj.o
    .have hk0:(xk==yk)=false:=(by rw[ab];exact hk);clear qn rx;go_wp2_with fail;go_loopw [17] (fun i wr=>∃(k:Nat),k<=ws.length/\i=.int .i64 k/\Hi (R=cfW c (ws.drop k) ⟨xa,xy,xt,xk⟩ ⟨xa,xy,xt,yk⟩)/\Hi (Kept w0 wr)) (fun i _=>ws.length - (intOf i).toNat)
     .exact⟨0,ai _,rfl,HD0.o,af _⟩
     case round =>
      clear x0 x1 x2 x3 xz y0 y1 y2 y3 yz F2 wz;obtain⟨k,sZ,rfl,oE,kO⟩:=hrel;by_cases kV:k<ws.length
      .obtain⟨wd,hx⟩:∃x,ws[k]? = some x:=⟨_,ac kV⟩;obtain⟨g,o,rfl,hg,d0,-,-⟩:=(Bi.o.kept (lg.o.trans kO.o)).cell_of k wd hx;have ph:=Hd (HDR.o k wd hx);have HC:=Hd (HCM.o wd wr (lg.o.trans kO.o));have x0:=(HXB.o.kept kO.o).cell 0 _ rfl;have x1:=(HXB.o.kept kO.o).cell 1 _ rfl;have x2:=(HXB.o.kept kO.o).cell 2 _ rfl;have x3:=(HXB.o.kept kO.o).cell 3 _ rfl;have xz:=(HXB.o.kept kO.o).lt;have y0:=(qi.o.kept kO.o).cell 0 _ rfl;have y1:=(qi.o.kept kO.o).cell 1 _ rfl;have y2:=(qi.o.kept kO.o).cell 2 _ rfl;have y3:=(qi.o.kept kO.o).cell 3 _ rfl;have yz:=(qi.o.kept kO.o).lt;have q0:=(po.o.kept kO.o).cell 0 _ rfl;have q1:=(po.o.kept kO.o).cell 1 _ rfl;have q2:=(po.o.kept kO.o).cell 2 _ rfl;have qz:=(po.o.kept kO.o).lt;obtain⟨n,HN⟩:=gX (zfK c wd ⟨xa,xy,xt,xk⟩ ⟨xa,xy,xt,yk⟩);rw[HN.o]at HC ph;clear hx HN;go_wp2_with fail;refine k_ HC.o fun w5 lU=>?_;have lX:=Hd (kO.o.trans lU);clear lU HC x0 x1 x2 x3 xz y0 y1 y2 y3 yz q0 q1 q2 qz d0;by_cases hn0:n=0
       .subst hn0;have kS:Hi (R=cfW c (ws.drop (k+1)) ⟨xa,xy,xt,xk⟩ ⟨xa,xy,xt,yk⟩):=by
         show _=_;rw[oE.o,ph.o,aa b_]
        clear oE ph;go_wp2;go_roundw
        .exact⟨k+1,a_,by go_num,kS.o,lX.o⟩
        .simp [intOf];omega
       .have kS:=Hd (pV.o n w5 (by rw[oE.o,ph.o,ae hn0]) (lg.o.trans lX.o));clear oE ph;go_wp2
        (try go_ret)
        exact kS.o
      .have kS:=Hd (pV.o 0 wr (by rw[oE.o,sF.o k a_]) (lg.o.trans kO.o));clear oE;go_wp2
       (try go_ret)
       exact kS.o
   .have ht0:(xt==yt)=false:=(by rw[ab];exact ht);clear qn rx;go_wp2_with fail;go_loopw [17] (fun i wr=>∃(k:Nat),k<=ws.length/\i=.int .i64 k/\Hi (R=cfW c (ws.drop k) ⟨xa,xy,xt,xk⟩ ⟨xa,xy,yt,yk⟩)/\Hi (Kept w0 wr)) (fun i _=>ws.length - (intOf i).toNat)
    .exact⟨0,ai _,rfl,HD0.o,af _⟩
    case round =>
     clear x0 x1 x2 x3 xz y0 y1 y2 y3 yz F2 wz;obtain⟨k,sZ,rfl,oE,kO⟩:=hrel;by_cases kV:k<ws.length
     .obtain⟨wd,hx⟩:∃x,ws[k]? = some x:=⟨_,ac kV⟩;obtain⟨g,o,rfl,hg,d0,-,-⟩:=(Bi.o.kept (lg.o.trans kO.o)).cell_of k wd hx;have ph:=Hd (HDR.o k wd hx);have HC:=Hd (HCM.o wd wr (lg.o.trans kO.o));have x0:=(HXB.o.kept kO.o).cell 0 _ rfl;have x1:=(HXB.o.kept kO.o).cell 1 _ rfl;have x2:=(HXB.o.kept kO.o).cell 2 _ rfl;have x3:=(HXB.o.kept kO.o).cell 3 _ rfl;have xz:=(HXB.o.kept kO.o).lt;have y0:=(qi.o.kept kO.o).cell 0 _ rfl;have y1:=(qi.o.kept kO.o).cell 1 _ rfl;have y2:=(qi.o.kept kO.o).cell 2 _ rfl;have y3:=(qi.o.kept kO.o).cell 3 _ rfl;have yz:=(qi.o.kept kO.o).lt;have q0:=(po.o.kept kO.o).cell 0 _ rfl;have q1:=(po.o.kept kO.o).cell 1 _ rfl;have q2:=(po.o.kept kO.o).cell 2 _ rfl;have qz:=(po.o.kept kO.o).lt;obtain⟨n,HN⟩:=gX (zfK c wd ⟨xa,xy,xt,xk⟩ ⟨xa,xy,yt,yk⟩);rw[HN.o]at HC ph;clear hx HN;go_wp2_with fail;refine k_ HC.o fun w5 lU=>?_;have lX:=Hd (kO.o.trans lU);clear lU HC x0 x1 x2 x3 xz y0 y1 y2 y3 yz q0 q1 q2 qz d0;by_cases hn0:n=0
      .subst hn0;have kS:Hi (R=cfW c (ws.drop (k+1)) ⟨xa,xy,xt,xk⟩ ⟨xa,xy,yt,yk⟩):=by
        show _=_;rw[oE.o,ph.o,aa b_]
       clear oE ph;go_wp2;go_roundw
       .exact⟨k+1,a_,by go_num,kS.o,lX.o⟩
       .simp [intOf];omega
      .have kS:=Hd (pV.o n w5 (by rw[oE.o,ph.o,ae hn0]) (lg.o.trans lX.o));clear oE ph;go_wp2
       (try go_ret)
       exact kS.o
     .have kS:=Hd (pV.o 0 wr (by rw[oE.o,sF.o k a_]) (lg.o.trans kO.o));clear oE;go_wp2
      (try go_ret)
      exact kS.o
  .have hy0:(xy==yy)=false:=(by rw[ab];exact hy);clear qn rx;go_wp2_with fail;go_loopw [17] (fun i wr=>∃(k:Nat),k<=ws.length/\i=.int .i64 k/\Hi (R=cfW c (ws.drop k) ⟨xa,xy,xt,xk⟩ ⟨xa,yy,yt,yk⟩)/\Hi (Kept w0 wr)) (fun i _=>ws.length - (intOf i).toNat)
   .exact⟨0,ai _,rfl,HD0.o,af _⟩
   case round =>
    clear x0 x1 x2 x3 xz y0 y1 y2 y3 yz F2 wz;obtain⟨k,sZ,rfl,oE,kO⟩:=hrel;by_cases kV:k<ws.length
    .obtain⟨wd,hx⟩:∃x,ws[k]? = some x:=⟨_,ac kV⟩;obtain⟨g,o,rfl,hg,d0,-,-⟩:=(Bi.o.kept (lg.o.trans kO.o)).cell_of k wd hx;have ph:=Hd (HDR.o k wd hx);have HC:=Hd (HCM.o wd wr (lg.o.trans kO.o));have x0:=(HXB.o.kept kO.o).cell 0 _ rfl;have x1:=(HXB.o.kept kO.o).cell 1 _ rfl;have x2:=(HXB.o.kept kO.o).cell 2 _ rfl;have x3:=(HXB.o.kept kO.o).cell 3 _ rfl;have xz:=(HXB.o.kept kO.o).lt;have y0:=(qi.o.kept kO.o).cell 0 _ rfl;have y1:=(qi.o.kept kO.o).cell 1 _ rfl;have y2:=(qi.o.kept kO.o).cell 2 _ rfl;have y3:=(qi.o.kept kO.o).cell 3 _ rfl;have yz:=(qi.o.kept kO.o).lt;have q0:=(po.o.kept kO.o).cell 0 _ rfl;have q1:=(po.o.kept kO.o).cell 1 _ rfl;have q2:=(po.o.kept kO.o).cell 2 _ rfl;have qz:=(po.o.kept kO.o).lt;obtain⟨n,HN⟩:=gX (zfK c wd ⟨xa,xy,xt,xk⟩ ⟨xa,yy,yt,yk⟩);rw[HN.o]at HC ph;clear hx HN;go_wp2_with fail;refine k_ HC.o fun w5 lU=>?_;have lX:=Hd (kO.o.trans lU);clear lU HC x0 x1 x2 x3 xz y0 y1 y2 y3 yz q0 q1 q2 qz d0;by_cases hn0:n=0
     .subst hn0;have kS:Hi (R=cfW c (ws.drop (k+1)) ⟨xa,xy,xt,xk⟩ ⟨xa,yy,yt,yk⟩):=by
       show _=_;rw[oE.o,ph.o,aa b_]
      clear oE ph;go_wp2;go_roundw
      .exact⟨k+1,a_,by go_num,kS.o,lX.o⟩
      .simp [intOf];omega
     .have kS:=Hd (pV.o n w5 (by rw[oE.o,ph.o,ae hn0]) (lg.o.trans lX.o));clear oE ph;go_wp2
      (try go_ret)
      exact kS.o
    .have kS:=Hd (pV.o 0 wr (by rw[oE.o,sF.o k a_]) (lg.o.trans kO.o));clear oE;go_wp2
     (try go_ret)
     exact kS.o
 .have ha0:(xa==ya)=false:=(by rw[ab];exact ha);clear qn rx;go_wp2_with fail;go_loopw [17] (fun i wr=>∃(k:Nat),k<=ws.length/\i=.int .i64 k/\Hi (R=cfW c (ws.drop k) ⟨xa,xy,xt,xk⟩ ⟨ya,yy,yt,yk⟩)/\Hi (Kept w0 wr)) (fun i _=>ws.length - (intOf i).toNat)
  .exact⟨0,ai _,rfl,HD0.o,af _⟩
  case round =>
   clear x0 x1 x2 x3 xz y0 y1 y2 y3 yz F2 wz;obtain⟨k,sZ,rfl,oE,kO⟩:=hrel;by_cases kV:k<ws.length
   .obtain⟨wd,hx⟩:∃x,ws[k]? = some x:=⟨_,ac kV⟩;obtain⟨g,o,rfl,hg,d0,-,-⟩:=(Bi.o.kept (lg.o.trans kO.o)).cell_of k wd hx;have ph:=Hd (HDR.o k wd hx);have HC:=Hd (HCM.o wd wr (lg.o.trans kO.o));have x0:=(HXB.o.kept kO.o).cell 0 _ rfl;have x1:=(HXB.o.kept kO.o).cell 1 _ rfl;have x2:=(HXB.o.kept kO.o).cell 2 _ rfl;have x3:=(HXB.o.kept kO.o).cell 3 _ rfl;have xz:=(HXB.o.kept kO.o).lt;have y0:=(qi.o.kept kO.o).cell 0 _ rfl;have y1:=(qi.o.kept kO.o).cell 1 _ rfl;have y2:=(qi.o.kept kO.o).cell 2 _ rfl;have y3:=(qi.o.kept kO.o).cell 3 _ rfl;have yz:=(qi.o.kept kO.o).lt;have q0:=(po.o.kept kO.o).cell 0 _ rfl;have q1:=(po.o.kept kO.o).cell 1 _ rfl;have q2:=(po.o.kept kO.o).cell 2 _ rfl;have qz:=(po.o.kept kO.o).lt;obtain⟨n,HN⟩:=gX (zfK c wd ⟨xa,xy,xt,xk⟩ ⟨ya,yy,yt,yk⟩);rw[HN.o]at HC ph;clear hx HN;go_wp2_with fail;refine k_ HC.o fun w5 lU=>?_;have lX:=Hd (kO.o.trans lU);clear lU HC x0 x1 x2 x3 xz y0 y1 y2 y3 yz q0 q1 q2 qz d0;by_cases hn0:n=0
    .subst hn0;have kS:Hi (R=cfW c (ws.drop (k+1)) ⟨xa,xy,xt,xk⟩ ⟨ya,yy,yt,yk⟩):=by
      show _=_;rw[oE.o,ph.o,aa b_]
     clear oE ph;go_wp2;go_roundw
     .exact⟨k+1,a_,by go_num,kS.o,lX.o⟩
     .simp [intOf];omega
    .have kS:=Hd (pV.o n w5 (by rw[oE.o,ph.o,ae hn0]) (lg.o.trans lX.o));clear oE ph;go_wp2
     (try go_ret)
     exact kS.o
   .have kS:=Hd (pV.o 0 wr (by rw[oE.o,sF.o k a_]) (lg.o.trans kO.o));clear oE;go_wp2
    (try go_ret)
    exact kS.o
def nyB:Bs:=[195,177,195,145]
def zmN(n:Nat):List Bs:=(List.range n).map fun k=>[UInt8.ofNat (48+k)]
def zGk(es:Bool)(k:Nat):List Bs:=[UInt8.ofNat (97+k),UInt8.ofNat (65+k)]::(if es=true/\k=13 then [nyB]else [])
def zqS(es:Bool)(n:Nat):List Bs:=(List.range n).flatMap (zGk es)
def zBK(n:Nat):zmN (n+1)=zmN n++[[UInt8.ofNat (48+n)]]:=by unfold zmN;rw[List.range_succ,cI];rfl
def zsF(es:Bool)(n:Nat):zqS es (n+1)=zqS es n++zGk es n:=by unfold zqS;rw[List.range_succ,eJ];simp
def zlM(n:Nat):(zmN n).length=n:=by simp [zmN]
def zpT(es:Bool)(n:Nat):(zqS es n).length<=2 * n:=by
 induction n with
 | zero=>simp [zqS]
 | succ n ih =>
  rw[zsF,ah];have:(zGk es n).length<=2:=(by unfold zGk;split<;>simp);omega
def wDe:Bs:=[100,101]
def wFr:Bs:=[102,114]
def wEs:Bs:=[101,115]
def zBL:Bs:=[195,164,32,97,44,32,195,182,32,111,44,32,195,188,32,117,44,32,195,132,32,97,44,32,195,150,32,111,44,32,195,156,32,117,44,32,195,159,32,115,115]
def zBM:Bs:=[195,160,32,97,44,32,195,162,32,97,44,32,195,167,32,99,44,32,195,168,32,101,44,32,195,169,32,101,44,32,195,170,32,101,44,32,195,171,32,101,44,32]++[195,174,32,105,44,32,195,175,32,105,44,32,195,180,32,111,44,32,195,185,32,117,44,32,195,187,32,117,44,32,195,188,32,117,44,32,195,128,32,97,44,32]++([195,130,32,97,44,32,195,135,32,99,44,32,195,136,32,101,44,32,195,137,32,101,44,32,195,138,32,101,44,32,195,139,32,101,44,32,195,142,32,105,44,32]++[195,143,32,105,44,32,195,148,32,111,44,32,195,153,32,117,44,32,195,155,32,117,44,32,195,156,32,117,44,32,195,166,32,97,101,44,32,197,147,32,111,101])
def zBN:Bs:=[195,161,32,97,44,32,195,169,32,101,44,32,195,173,32,105,44,32,195,179,32,111,44,32,195,186,32,117,44,32,195,188,32,117,44]++[32,195,129,32,97,44,32,195,137,32,101,44,32,195,141,32,105,44,32,195,147,32,111,44,32,195,154,32,117,44,32,195,156,32,117]
def zGl:List Pr:=[([195,164],[97]),([195,182],[111]),([195,188],[117]),([195,132],[97]),([195,150],[111]),([195,156],[117]),([195,159],[115,115])]
def zGm:List Pr:=[([195,160],[97]),([195,162],[97]),([195,167],[99]),([195,168],[101]),([195,169],[101]),([195,170],[101]),([195,171],[101]),([195,174],[105]),([195,175],[105]),([195,180],[111]),([195,185],[117]),([195,187],[117]),([195,188],[117]),([195,128],[97]),
 ([195,130],[97]),([195,135],[99]),([195,136],[101]),([195,137],[101]),([195,138],[101]),([195,139],[101]),([195,142],[105]),([195,143],[105]),([195,148],[111]),([195,153],[117]),([195,155],[117]),([195,156],[117]),([195,166],[97,101]),([197,147],[111,101])]
def zGn:List Pr:=[([195,161],[97]),([195,169],[101]),([195,173],[105]),([195,179],[111]),([195,186],[117]),([195,188],[117]),([195,129],[97]),([195,137],[101]),([195,141],[105]),([195,147],[111]),([195,154],[117]),([195,156],[117])]
def rkL(lang:Bs):List Pr:=if lang=wDe then zGl else if lang=wFr then zGm else if lang=wEs then zGn else []
def zAc(lang:Bs):ColT:=⟨rkL lang,zmN 10++zqS (lang==wEs) 26,[]⟩
def zb7(p:Pr):Bs:=p.1++(32::p.2)
def zHr:(Lib.splitB (bs [44,32]) 0 (Lib.countB (bs zBL) (bs [44,32])) (bs zBL)).map (·.data.toList)=zGl.map zb7:=f_
def zHs:(Lib.splitB (bs [44,32]) 0 (Lib.countB (bs zBM) (bs [44,32])) (bs zBM)).map (·.data.toList)=zGm.map zb7:=f_
def zHt:(Lib.splitB (bs [44,32]) 0 (Lib.countB (bs zBN) (bs [44,32])) (bs zBN)).map (·.data.toList)=zGn.map zb7:=f_
def zHu:Lib.countB (bs zBL) (bs [44,32])+1=7:=f_
def zHv:Lib.countB (bs zBM) (bs [44,32])+1=28:=f_
def zHw:Lib.countB (bs zBN) (bs [44,32])+1=12:=f_
def zEQ:∀k:Nat,k<10->Lib.itoa (k:Int)=[UInt8.ofNat (48+k)]:=f_
def zmO:∀(l mK:Bs),(∀b∈l,Lib.isSp b=(b==32))->Lib.fieldsGo mK l=((l.foldl (zcC 32) ([],mK)).1++[(l.foldl (zcC 32) ([],mK)).2]).filter (fun x=>!x.isEmpty)
 | [],mK,_=>by
  show(if mK.isEmpty then []else [mK])=[mK].filter _;cases mK<;>rfl
 | b::l,mK,h=>by
  have hb:=h b (bI ..);have ih:=fun c=>zmO l c (fun x hx=>h x (bl _ hx));show(if Lib.isSp b then(if mK.isEmpty then Lib.fieldsGo [] l else mK::Lib.fieldsGo [] l)else Lib.fieldsGo (mK++[b]) l)=_;rw[hb,dW];by_cases q:b=32
  .have e:zcC 32 (([]:List Bs),mK) b=([mK],[]):=(by subst q;rfl);rw[ae (by simpa using q),e,ze4];show _=(mK::((l.foldl (zcC 32) ([],[])).1++[(l.foldl (zcC 32) ([],[])).2])).filter _;rw[eh,ih []];cases mK<;>rfl
  .have e:zcC 32 (([]:List Bs),mK) b=([],mK++[b]):=(by unfold zcC;simp [q]);rw[aa (by simpa using q),e,ih]
def zsG(l:Bs)(hb:∀b∈l,Lib.isSp b=(b==32))(hn:∀x∈zbB 32 l,x≠[]):Lib.fields l=zbB 32 l:=by
 unfold Lib.fields;rw[zmO l [] hb];show(zbB 32 l).filter _=_;rw[List.filter_eq_self];intro x hx;have:=hn x hx;cases x with
 | nil=>exact absurd rfl this
 | cons a x=>rfl
def zjU:∀(l mK:Bs) (b:UInt8),b∈mK++l->b=32\/∃x∈(l.foldl (zcC 32) ([],mK)).1++[(l.foldl (zcC 32) ([],mK)).2],b∈x
 | [],mK,b,h=>.inr ⟨mK,b_,by simpa using h⟩
 | c::l,mK,b,h=>by
  rw[dW];by_cases q:c=32
  .have e:zcC 32 (([]:List Bs),mK) c=([mK],[]):=(by subst q;rfl);rw[e,ze4];rcases aV.1 h with r|r
   .exact .inr ⟨mK,b_,r⟩
   .rcases bj.1 r with r|r
    .exact .inl (r.trans q)
    .rcases zjU l [] b (by simpa using r)with k|⟨x,k1,k2⟩
     .exact .inl k
     .refine .inr ⟨x,?_,k2⟩;rw[aV]at k1 ⊢;rcases k1 with k1|k1
      .exact .inl (aV.2 (.inr k1))
      .exact .inr k1
  .have e:zcC 32 (([]:List Bs),mK) c=([],mK++[c]):=(by unfold zcC;simp [q]);rw[e];exact zjU l (mK++[c]) b (by simpa using h)
def zuH(l:Bs)(b:UInt8)(h:b∈l):b=32\/∃x∈zbB 32 l,b∈x:=zjU l [] b (by simpa using h)
def kYr:Bs:=[121,101,97,114]
def zBO(s:SrcT):KeyT:=⟨zgG s,zeE ((za3 s.fields kYr).getD []),(za3 s.fields zhP).getD [],s.key⟩
def zjV(s:SrcT):SorT:=⟨zBO s,s⟩
def cfO(c:ColT)(ws:List Bs)(a b:SrcT):Int:=cfW c ws (zBO a) (zBO b)
def zGo(c:ColT)(ws:List Bs)(l:List SrcT):List SrcT:=zkX (cfO c ws) l
def zER(c:ColT)(ws:List Bs)(l:List SrcT):zAb (fun a b=>cfW c ws a.k b.k) (l.map zjV)=(zGo c ws l).map zjV:=by
 unfold zAb zGo;rw[zpK (fun x y=>(zHk SorT.k (zBu c ws)).anti x y)];exact(zBv (fun a b:SorT=>cfW c ws a.k b.k) zjV l).symm
def zES(c:ColT)(ws:List Bs)(l:List SrcT):(zGo c ws l).length=l.length:=zr2 _
def zsH(c:ColT)(ws:List Bs)(l:List SrcT):(zGo c ws l).Perm l:=zn9 _
def FitL(s:SrcT):Prop:=s.author.length<=5/\s.editor.length<=5/\s.fields.length<=12/\s.key.length+s.type.length<=200/\(∀f∈s.fields,f.1.length+f.2.length<=200)/\∀q∈s.author++s.editor,q.1.length+q.2.1.length+q.2.2.1.length+q.2.2.2.length<=200
def FewY(y:StyT):Prop:=y.entries.length<=12/\y.cite.length+y.bare.length+y.between.length+y.begin_.length+y.end_.length+y.sort.length+y.name.length<=400/\(∀p∈y.entries,p.1.length+p.2.length<=300)/\(-9223372036854775808<=y.most/\y.most<=9223372036854775807)
def FewY.small{y:StyT}(h:FewY y):SmallY y:=by
 obtain⟨h1,h2,h3,_⟩:=h;refine⟨a_,a_,a_,a_,a_,a_,a_,a_,fun p hp=>?_⟩;have:=h3 p hp;constructor<;>omega
def zsI(s:SrcT):∀q∈zkY s,q∈s.author++s.editor:=fun q h=>by
 unfold zkY at h
 split at h
 .exact gn _ h
 .exact gF _ h
def zsJ{s:SrcT}(h:FitL s):(zkY s).length<=5:=by
 unfold zkY
 split
 .exact h.2.1
 .exact h.1
def zET(a b c d:Bs):(zHl a b c d false).length<=a.length+b.length+c.length+d.length+1000:=by
 have h1:=zfC [c,a];have h2:zyB [c,a]=c.length+1+(a.length+1+0):=rfl;have h3:zi4 b false=b:=rfl;unfold zHl;rw[h3,ah,ah];have h4:(if b=[]then([]:Bs)else [44,32]++b).length<=b.length+2:=(by split<;>simp);have h5:(if d=[]then([]:Bs)else [44,32]++d).length<=d.length+2:=(by split<;>simp);omega
def zsK{s:SrcT}(h:FitL s):(zgG s).length<=9000:=by
 have h1:=zc0 1200 ((zkY s).map znS) (fun x hx=>by
  obtain⟨q,hq,rfl⟩:=bQ.1 hx;have h2:=h.2.2.2.2.2 q (zsI s q hq);have h3:=zET q.1 q.2.1 q.2.2.1 q.2.2.2;unfold znS;omega)
 have h4:=zsJ h;rw[bm]at h1;have h5:(zkY s).length * (1200+2)<=5 * (1200+2):=eB _ h4;have h6:zgG s=Lib.join ((zkY s).map znS) zlD:=rfl;rw[h6];omega
def zpU{ps:List Pr}{n:Nat}(h:∀p∈ps,p.1.length+p.2.length<=n)(k:Bs):((za3 ps k).getD []).length<=n:=by
 unfold za3;cases hx:ps.find? fun q=>q.1==k with
 | none=>simp
 | some p =>
  have:=h p (cw hx);simp only[eR,dE];omega
def zBP{s:SrcT}(h:FitL s):FitKy (zBO s):=by
 have h1:=zsK h;have h2:=zpU h.2.2.2.2.1 zhP;have h3:=h.2.2.2.1;have h4:=zeF ((za3 s.fields kYr).getD []);exact⟨by show(zgG s).length<=_;omega,by show((za3 s.fields zhP).getD []).length<=_;omega,by show s.key.length<=_;omega,by show _<=zeE _;omega,by show zeE _<=_;omega⟩
def zyT(lang:Bs):SmallC (zAc lang):=by
 have h1:=zpT (lang==wEs) 26;have hr:rkL lang=zGl\/rkL lang=zGm\/rkL lang=zGn\/rkL lang=[]:=by
  unfold rkL
  split
  .exact .inl rfl
  .split
   .exact .inr (.inl rfl)
   .split
    .exact .inr (.inr (.inl rfl))
    .exact .inr (.inr (.inr rfl))
 refine⟨?_,?_,?_,?_,?_⟩
 .show(rkL lang).length<=_;rcases hr with e|e|e|e<;>rw[e]<;>decide
 .show(zmN 10++zqS (lang==wEs) 26).length<=_;rw[ah,zlM];omega
 .show([]:Bs).length<=_;simp
 .intro s hs;rcases aV.1 (show s∈zmN 10++zqS (lang==wEs) 26 from hs)with h|h
  .unfold zmN at h;obtain⟨k,-,rfl⟩:=bQ.1 h;simp
  .unfold zqS at h;obtain⟨k,-,h⟩:=ef.1 h;unfold zGk at h;rcases bj.1 h with rfl|h
   .simp
   .split at h
    .rw[bu.1 h];decide
    .cases h
 .show∀p∈rkL lang,_;rcases hr with e|e|e|e<;>rw[e]<;>decide
def wsY(y:StyT):List Bs:=Lib.fields y.sort
def zwM{x:Bs}(h:zx5 x=true):x≠[]/\∀b∈x,b.toNat<128/\Lib.isSp b=false:=by
 rcases zv5 h with rfl|rfl|rfl|rfl
 all_goals exact⟨c_,f_⟩
def zoE{l:Bs}(h:zv4 l=0):l=[]\/(zbB 32 l).all zx5=true:=by
 unfold zv4 at h
 split at h
 .exact .inl ‹_›
 .right
  split at h
  .cases h
  .rename_i q;simpa using q
def zoF{l:Bs}(h:zv4 l=0):∀b∈l,b.toNat<128/\Lib.isSp b=(b==32):=by
 intro b hb;rcases zoE h with rfl|q
 .cases hb
 .rcases zuH l b hb with rfl|⟨x,hx,hbx⟩
  .decide +kernel
  .have h1:=(zwM (dn.1 q x hx)).2 b hbx;refine⟨h1.1,?_⟩;rw[h1.2];symm;rw[ab];intro e;subst e;exact absurd h1.2 f_
def zsL{y:StyT}(h:zcU y=0):zv4 y.sort=0:=by
 unfold zcU at h
 split at h
 .cases h
 .split at h
  .cases h
  .split at h
   .rename_i q;exact absurd h q
   .rename_i q;simpa using q
def zBQ{y:StyT}(h:zcU y=0)(h0:y.sort≠[]):wsY y=zbB 32 y.sort:=by
 have h1:=zsL h;rcases zoE h1 with q|q
 .exact absurd q h0
 .exact zsG y.sort (fun b hb=>(zoF h1 b hb).2) (fun x hx=>(zwM (dn.1 q x hx)).1)
def zHx{y:StyT}(h0:y.sort=[]):wsY y=[]:=by unfold wsY;rw[h0];rfl
def zHy{y:StyT}(h:zcU y=0):(wsY y).length<=y.sort.length+1:=by
 by_cases h0:y.sort=[]
 .rw[zHx h0];simp
 .rw[zBQ h h0,zd7];have:=gG (a:=(32:UInt8)) (l:=y.sort);omega
def zAd(y:StyT)(lang:Bs)(l:List SrcT):Int×List SrcT:=if zcU y=0 then(0,zGo (zAc lang) (wsY y) l)else(zcU y,[])
def Tryz.sizeIn:(prog.info? 65).map (fun x=>x.size)=some 10:=g_
def Tryz.infoIn:(prog.info? 65).map (fun i=>(i.zero,i.size,i.bytes))=some (some (.agg #[.int .i64 0,.string ⟨#[]⟩,.string ⟨#[]⟩,.string ⟨#[]⟩,.string ⟨#[]⟩,.slice none 0 0,.slice none 0 0,.slice none 0 0,.slice none 0 0,.slice none 0 0]),10,192):=g_
def zoG:List Value:=[.int .i64 0,.string ⟨#[]⟩,.string ⟨#[]⟩,.string ⟨#[]⟩,.string ⟨#[]⟩,.slice none 0 0,.slice none 0 0,.slice none 0 0,.slice none 0 0,.slice none 0 0]
def zHz(n:Nat)(S:Nat->Prop)(w:World):InlK n S w zoG (.mk 0 [] [] [] [] [] [] [] [] []) :=
 ⟨_,_,_,_,_,rfl,⟨eZ w,fu _ _⟩,⟨fL w,fu _ _⟩,⟨eZ w,fu _ _⟩,gu _ _ _ _,iL _ _ _⟩
def zkQ(a:Act)(d:Nat)(v:Value)(s:Nat)(h:d<a.tmps.size):(a.put (some d) v).tmps[s]? = if s=d then some v else a.tmps[s]?:=by
 show(a.tmps.setIfInBounds d v)[s]? = _;by_cases q:s=d
 .subst q;rw[ae rfl,jb h]
 .rw[aa q,dJ (fun e=>q e.symm)]
def zi6(a:Act)(d:Nat)(v:Value):(a.put (some d) v).tmps.size=a.tmps.size:=by
 show(a.tmps.setIfInBounds d v).size=_;rw[cn]
def zBR{a b:Act}(h1:a.defers=b.defers)(h2:∀s:Nat,a.tmps[s]? = b.tmps[s]?):a=b:=by
 obtain⟨t,d⟩:=a;obtain⟨t',d'⟩:=b;obtain rfl:t=t':=eP h2;obtain rfl:d=d':=h1;rfl
def zJf{D:Nat->Option Nat}{V:Nat->Value}{L:Array Bool}{a0 a:Act}(S:Slots 8 D V L a0 a)(hD:∀i,D i=if i<6 then some (27+i)else none)(hon:∀i,i<8->On L i)(hz:33<=a0.tmps.size):a=(((((a0.put (some 27) (V 0)).put (some 28) (V 1)).put (some 29) (V 2)).put (some 30) (V 3)).put (some 31) (V 4)).put (some 32) (V 5):=by
 have hdf:∀(b:Act) (d:Nat) (u:Value),(b.put (some d) u).defers=b.defers:=fun _ _ _=>rfl;refine zBR (by rw[hdf,hdf,hdf,hdf,hdf,hdf];exact S.defers) (fun s=>?_);have v (i:Nat) (h:i<6):=S.val i (27+i) a_ (by rw[hD,ae h]) (hon i a_);rw[zkQ _ _ _ _ (by simp only[zi6];omega)];by_cases q5:s=32
 .subst q5;rw[ae rfl];exact v 5 a_
 rw[aa q5,zkQ _ _ _ _ (by simp only[zi6];omega)];by_cases q4:s=31
 .subst q4;rw[ae rfl];exact v 4 a_
 rw[aa q4,zkQ _ _ _ _ (by simp only[zi6];omega)];by_cases q3:s=30
 .subst q3;rw[ae rfl];exact v 3 a_
 rw[aa q3,zkQ _ _ _ _ (by simp only[zi6];omega)];by_cases q2:s=29
 .subst q2;rw[ae rfl];exact v 2 a_
 rw[aa q2,zkQ _ _ _ _ (by simp only[zi6];omega)];by_cases q1:s=28
 .subst q1;rw[ae rfl];exact v 1 a_
 rw[aa q1,zkQ _ _ _ _ a_];by_cases q0:s=27
 .subst q0;rw[ae rfl];exact v 0 a_
 rw[aa q0];refine S.rest s (fun i hi h=>?_);rw[hD]at h;by_cases q:i<6
 .rw[ae q]at h;have:=eG h;omega
 .rw[aa q]at h;cases h
def puD(i:Nat):Option Nat:=if i<6 then some (27+i)else none
def puV(v:Value)(cells:List Value)(m Z g lJ:Nat):Nat->Value
 | 0=>v
 | 1=>.agg cells.toArray
 | 2=>.int .i64 m
 | 3=>.slice (some ⟨Z,0,none⟩) 1 1
 | 4=>.slice (some ⟨g,0,none⟩) (m+1) lJ
 | _=>.pointer (some ⟨g,m * 10,none⟩)
def zJg(v:Value)(cells:List Value)(m Z g lJ g' cap':Nat)(j:Nat)(h:j<4):puV v cells m Z g lJ j=puV v cells m Z g' cap' j:=by
 match j,h with
 | 0,_|1,_|2,_|3,_=>rfl
open Classical in
def ifc{α:Type}{p q:Prop}(h:p↔q)(a b:α):(if p then a else b)=if q then a else b:=by
 by_cases r:p
 .rw[ae r,ae (h.1 r)]
 .rw[aa r,aa (fun s=>r (h.2 s))]
open Classical in
structure PuJ (A:Nat->Prop) (N O I Z base:Nat) (v:Value) (xs:List Inl) (cells:List Value) (x:Inl) (w6:World) (a0:Act) (L:Array Bool) (a:Act) (w:World) (g lJ:Nat):Prop where
 size:L.size=8
 slots:Slots 8 puD (puV v cells xs.length Z g lJ) L a0 a
 c4:On L 4->∀j,j<4->On L j
 c5:On L 5->On L 4
 c6:On L 6->On L 4
 c7:On L 7->On L 4
 lo:¬ On L 4->Kept w6 w/\(¬ On L 3->w.heap.size=Z)/\(On L 3->Blk w Z 65 zoG.toArray)
 hi:On L 4->OutG (InlK N) 10 A base 65 w (.slice (some ⟨g,0,none⟩) (xs.length+1) lJ) (xs++[if On L 6 then x else .mk 0 [] [] [] [] [] [] [] [] []])/\Blk w O 40 #[if On L 7 then .slice (some ⟨g,0,none⟩) (xs.length+1) lJ else v]/\Blk w I 65 cells.toArray/\InlK N (fun g'=>A g'/\g≠g') w cells x/\Only (fun i=>i=O\/base<=i) w6 w/\g≠I
def PuI(A:Nat->Prop)(N O I Z base:Nat)(v:Value)(xs:List Inl)(cells:List Value)(x:Inl)(w6:World)(a0:Act)(L:Array Bool)(a:Act)(w:World):Prop:=∃g lJ,PuJ A N O I Z base v xs cells x w6 a0 L a w g lJ
def zmP(i:Nat):∀j d,j<8->puD i=some d->puD j=some d->j=i:=by
 intro j d _ h1 h2;unfold puD at h1 h2
 split at h1<;>split at h2<;>simp_all
 omega
def zsM(n i:Nat)(hz:33<=n):∀d,puD i=some d->d<n:=by
 intro d h1;unfold puD at h1
 split at h1<;>simp at h1
 omega
def zlN{A:Nat->Prop}{N O I Z base:Nat}{v:Value}{xs:List Inl}{cells:List Value}{x:Inl}{w6:World}{a0:Act}{L:Array Bool}{a:Act}{w:World}{g lJ:Nat}(h:PuJ A N O I Z base v xs cells x w6 a0 L a w g lJ)(hz:33<=a0.tmps.size)(i:Nat)(hi:i<8)(h3:i≠3)(h4:i≠4)(h6:i≠6)(h7:i≠7)(h5:i=5->On L 4):PuI A N O I Z base v xs cells x w6 a0 (L.setIfInBounds i true) (a.put (puD i) (puV v cells xs.length Z g lJ i)) w:=by
 refine⟨g,lJ,?_,h.slots.put i hi (by rw[h.size];exact hi) (zmP i) (zsM _ i hz) _ (fun _=>rfl) (fun _ _ _=>rfl),?_,?_,?_,?_,?_,?_⟩
 .rw[cn];exact h.size
 .intro q j hj;exact za5 (h.c4 ((zfD h4).1 q) j hj)
 .intro q;rcases zgB q with q|q
  .exact za5 (h5 q.symm)
  .exact za5 (h.c5 q)
 .intro q;exact za5 (h.c6 ((zfD h6).1 q))
 .intro q;exact za5 (h.c7 ((zfD h7).1 q))
 .intro q;obtain⟨k1,k2,k3⟩:=h.lo (fun r=>q (za5 r));exact⟨k1,fun r=>k2 (fun r'=>r (za5 r')),fun r=>k3 ((zfD h3).1 r)⟩
 .intro q;have:=h.hi ((zfD h4).1 q);rw[ifc (zfD h6),ifc (zfD h7)];exact this
def zuI{A:Nat->Prop}{N O I base:Nat}{v:Value}{xs:List Inl}{cells:List Value}{x:Inl}{w:World}{a:Act}{Q:Exit->Act->World->Prop}{id:Nat}{o0 o1 o2 o3 o4 o5 o6 o7:Oper}(p0:o0.op=.load 40 (.tmp 1))(p1:o1.op=.load 65 (.tmp 5))(p2:o2.op=.call { callee:=.builtin .len,args:=#[.tmp 27],argTypes:=#[40] })
  (p3:o3.op=.buildSlice 40 1 #[(0,.const (.agg zoG.toArray))]) (p4:o4.op=.call { callee:=.builtin .append,args:=#[.tmp 27,.tmp 30],argTypes:=#[40,40] })
  (p5:o5.op=.indexAddr 40 (.tmp 31) (.tmp 29)) (p6:o6.op=.store 65 (.tmp 32) (.tmp 28)) (p7:o7.op=.store 40 (.tmp 1) (.tmp 31))
  (q0:o0.guard=none) (q1:o1.guard=none) (q2:o2.guard=none) (q3:o3.guard=none) (q4:o4.guard=none) (q5:o5.guard=none) (q6:o6.guard=none) (q7:o7.guard=none)
  (d0:o0.dst=some 27) (d1:o1.dst=some 28) (d2:o2.dst=some 29) (d3:o3.dst=some 30) (d4:o4.dst=some 31) (d5:o5.dst=some 32) (d6:o6.dst=none) (d7:o7.dst=none)
  (hm:prog.follows .mixedOrders=true) (hac:acB #[o0,o1,o2,o3,o4,o5,o6,o7]=true)
  (e2:⟨0,.data⟩∈o2.after) (e40:⟨0,.data⟩∈o4.after) (e43:⟨3,.data⟩∈o4.after) (e41:⟨1,.phase⟩∈o4.after) (e42:⟨2,.phase⟩∈o4.after) (e54:⟨4,.data⟩∈o5.after) (e52:⟨2,.data⟩∈o5.after) (e65:⟨5,.data⟩∈o6.after) (e61:⟨1,.data⟩∈o6.after) (e64:⟨4,.chain⟩∈o6.after) (Nk:⟨4,.data⟩∈o7.after)
  (hz:33<=a.tmps.size) (hx1:a.eval (.tmp 1)=.pointer (some ⟨O,0,none⟩)) (hx5:a.eval (.tmp 5)=.pointer (some ⟨I,0,none⟩))
  (nf:cells.length=10) (hO:Blk w O 40 #[v]) (hI:Blk w I 65 cells.toArray) (hv:OutG (InlK N) 10 A base 65 w v xs)
  (Cz:∀g,A g->g≠O) (F3:v.ownBlock≠some O) (DA:v.ownBlock≠some I) (Nl:O≠I) (hOb:O<base) (QG:base<=I) (hy:InlK N (fun g=>A g/\v.ownBlock≠some g) w cells x) (mh:xs.length+1<=1000001)
  (h:∀u0 u1 u2 u3 u4 u5 g lJ w',OutG (InlK N) 10 A base 65 w' (.slice (some ⟨g,0,none⟩) (xs.length+1) lJ) (xs++[x])->Blk w' O 40 #[.slice (some ⟨g,0,none⟩) (xs.length+1) lJ]->Only (fun i=>i=O\/base<=i) w w' ->
   Q .normal ((((((a.put (some 27) u0).put (some 28) u1).put (some 29) u2).put (some 30) u3).put (some 31) u4).put (some 32) u5) w') :
  (Code.region id #[o0,o1,o2,o3,o4,o5,o6,o7] true).wp prog Q a w:=by
 obtain⟨i0,hi,mr,mq,mm⟩:=cg Tryz.infoIn;have mL:base<=w.heap.size:=(by have:=hI.lt;omega);refine zf1 (PuI A N O I w.heap.size base v xs cells x w a) hm (zEe hac) ?_ ?_ ?_
 .have hno:∀i,¬ On (Array.replicate 8 false) i:=fun i=>zgQ 8 i;exact⟨0,0,rfl,ku 8 puD _ 8 a,fun q=>absurd q (hno _),fun q=>absurd q (hno _),fun q=>absurd q (hno _),fun q=>absurd q (hno _),fun _=>⟨zaB w 1,fun _=>rfl,fun q=>absurd q (hno _)⟩,fun q=>absurd q (hno _)⟩
 .intro L a1 w1 hI oy;obtain⟨g,lJ,J⟩:=hI;have hon:∀i,i<8->On L i:=fun i hi=>by
   have:=oy i hi;have kV:i<L.size:=(by have:=J.size;omega);unfold On;rw[bq,bY kV]at this ⊢;exact this
  obtain⟨r1,r2,_,_,r5,_⟩:=J.hi (hon 4 a_);rw[ae (hon 6 a_)]at r1;rw[ae (hon 7 a_)]at r2;rw[zJf J.slots (fun i=>rfl) hon hz];exact h _ _ _ _ _ _ g lJ w1 r1 r2 r5
 .intro L a1 w1 i Nm Ka hn m7;obtain⟨g,lJ,J⟩:=Nm;have S:=J.slots;have n0:=zv8 hn;have Kb:=(S.ext 1 (by intro i _;unfold puD;split<;>simp;omega)).trans hx1;have Nn:=(S.ext 5 (by intro i _;unfold puD;split<;>simp;omega)).trans hx5;replace Ka:i<8:=Ka;obtain rfl|rfl|rfl|rfl|rfl|rfl|rfl|rfl:i=0\/i=1\/i=2\/i=3\/i=4\/i=5\/i=6\/i=7:=a_
  . -- load of the list
   have n4:¬ On L 4:=fun q=>n0 (J.c4 q 0 a_);obtain⟨hk,-,-⟩:=J.lo n4;have t:=(hO.kept hk).cell 0 _ rfl;refine zaR (o:=o0) rfl q0 (v:=v) (w':=w1) ?_ ?_
   .simp only[execOp,p0,Kb];simp [go_sem,t,dM]
   .rw[d0];exact zlN J hz 0 a_ a_ a_ a_ a_ a_
  . -- load of the element
   have n4:¬ On L 4:=fun q=>n0 (J.c4 q 1 a_);obtain⟨hk,-,-⟩:=J.lo n4;refine zmK (o:=o1) rfl ?_;refine zaJ q1 65 (.tmp 5) p1 I cells.toArray Nn (hI.kept hk) _ dP rfl ?_ ?_
   .rw[dQ,nf];exact Tryz.sizeIn
   .rw[d1];exact zlN J hz 1 a_ a_ a_ a_ a_ a_
  . -- its length
   have z:a1.eval (.tmp 27)=v:=S.eval 0 27 a_ rfl (m7 _ rfl _ e2 rfl);obtain⟨av,cv,hvv,_,_⟩:=hv.form;refine zaR (o:=o2) rfl q2 (v:=.int .i64 xs.length) (w':=w1) ?_ ?_
   .simp only[execOp,p2,resolve,invoke,builtin,bo,bn,ie,ck,bd,ca,z,hvv];simp [go_sem,dM]
   .rw[d2];exact zlN J hz 2 a_ a_ a_ a_ a_ a_
  . -- a row of one
   have n4:¬ On L 4:=fun q=>n0 (J.c4 q 3 a_);obtain⟨hk,ny,-⟩:=J.lo n4;replace ny:=ny n0;refine zmK (o:=o3) rfl ?_;refine wpList_buildSlice q3 40 65 1 _ p3 zoG.toArray i0 _ dM hi mr (by rw[mq];decide) (by rw[mq];decide) (by rw[mq];kernel_rfl) ?_;rw[d3,ny];refine⟨g,lJ,by rw[cn];exact J.size,S.put 3 a_ (by rw[J.size];omega) (zmP 3) (zsM _ 3 hz) _ (fun _=>rfl) (fun _ _ _=>rfl),fun q=>absurd ((zfD a_).1 q) n4,fun q=>absurd (J.c5 ((zfD a_).1 q)) n4,fun q=>absurd (J.c6 ((zfD a_).1 q)) n4,fun q=>absurd (J.c7 ((zfD a_).1 q)) n4,fun _=>⟨hk.trans (zaA _ _),fun q=>absurd (zeX (by rw[J.size];omega)) q,fun _=>?_⟩,fun q=>absurd ((zfD a_).1 q) n4⟩;have:=aI w1 65 zoG.toArray;rw[ny]at this;exact this
  . -- the append
   have f0:=m7 _ rfl _ e40 rfl;have f1:=m7 _ rfl _ e41 rfl;have f2:=m7 _ rfl _ e42 rfl;have f3:=m7 _ rfl _ e43 rfl;obtain⟨hk,-,hzb⟩:=J.lo n0;have hzb:=hzb f3;have z0:a1.eval (.tmp 27)=v:=S.eval 0 27 a_ rfl f0;have z3:a1.eval (.tmp 30)=.slice (some ⟨w.heap.size,0,none⟩) 1 1:=S.eval 3 30 a_ rfl f3;have hv1:=hv.kept (zeZ N) hk;refine zmK (o:=o4) rfl ?_;refine zaO (zeZ N) q4 (.tmp 27) (.tmp 30) 40 p4 i0 _ 192 dM hi mr mq mm rfl a_ z0 hv1 w.heap.size zoG (.mk 0 [] [] [] [] [] [] [] [] []) z3 (fun j u hu=>hzb.cell j u (by rw[dK];exact hu)) rfl (zHz _ _ _) h_ a_ (bC mL hk.size) _ rfl ?_;intro g2 cap2 w2 mc lw hat kV;have hon:=ch lw;have hg2:g2≠I/\∀g',v.ownBlock≠some g'->g'<w.heap.size->g2≠g':=by
    refine⟨?_,fun g' lV hl=>?_⟩
    .rcases hat with q|q
     .intro e;exact DA (by rw[q,e])
     .have:=hI.lt;have:=hk.size;omega
    .rcases hat with q|q
     .intro e;exact lV (by rw[q,e])
     .have:=hk.size;omega
   have n6:¬ On L 6:=fun q=>n0 (J.c6 q);have n7:¬ On L 7:=fun q=>n0 (J.c7 q);show PuI _ _ _ _ _ _ _ _ _ _ _ _ _ _ _;rw[d4];refine⟨g2,cap2,by rw[cn];exact J.size,S.put 4 a_ (by rw[J.size];omega) (zmP 4) (zsM _ 4 hz) _ (fun _=>rfl) (fun j hj ho=>?_),fun _ j hj=>za5 ?_,fun q=>absurd (J.c5 ((zfD a_).1 q)) n0,fun q=>absurd (J.c6 ((zfD a_).1 q)) n0,fun q=>absurd (J.c7 ((zfD a_).1 q)) n0,fun q=>absurd (zeX (by rw[J.size];omega)) q,fun _=>?_⟩
   .refine zJg _ _ _ _ _ _ _ _ j ?_;rcases bG j 4 with q|q
    .exact q
    .exfalso;obtain rfl|rfl|rfl|rfl:j=4\/j=5\/j=6\/j=7:=a_
     .exact n0 ho
     .exact n0 (J.c5 ho)
     .exact n6 ho
     .exact n7 ho
   .obtain rfl|rfl|rfl|rfl:j=0\/j=1\/j=2\/j=3:=a_
    .exact f0
    .exact f1
    .exact f2
    .exact f3
   .rw[aa (fun q=>n6 ((zfD a_).1 q)),aa (fun q=>n7 ((zfD a_).1 q))];have xN:=hO.kept hk;have hI1:=hI.kept hk;refine⟨mc,?_,?_,?_,?_,hg2.1⟩
    .show w2.heap[O]? = _;rw[hon.block O xN.lt (fun q=>F3 q.symm)];exact xN
    .show w2.heap[I]? = _;rw[hon.block I hI1.lt (fun q=>DA q.symm)];exact hI1
    .have hy1:=(zeZ N).sam hy (cU hk) (fun _ _ q=>q);have hy2:InlK N (fun g=>g<w.heap.size/\A g/\v.ownBlock≠some g) w cells x:=(zeZ N).sam hy (fun _ _ _=>rfl) (fun g hg q=>⟨hg,q⟩);exact(zeZ N).sam ((zeZ N).sam hy2 (cU hk) (fun _ _ q=>q)) (cm hon (fun g _ q r=>q.2.2 r.symm)) (fun g' _ q=>⟨q.2.1,hg2.2 g' q.2.2 q.1⟩)
    .refine(bc hk).trans (hon.mono (fun i _ q=>.inr (hv.blk i q.symm).1))
  . -- the new element's place
   have f4:=m7 _ rfl _ e54 rfl;have z4:=S.eval 4 31 a_ rfl f4;have z2:=S.eval 2 29 a_ rfl (m7 _ rfl _ e52 rfl);obtain⟨mc,-⟩:=J.hi f4;obtain⟨_,_,hvv,hcap,hmax⟩:=mc.form;refine zaR (o:=o5) rfl q5 (v:=.pointer (some ⟨g,xs.length * 10,none⟩)) (w':=w1) ?_ ?_
   .simp only[execOp,p5,z4,z2,puV];simp [go_sem,dM,Tryz.sizeIn];intro hh;omega
   .rw[d5];exact zlN J hz 5 a_ a_ a_ a_ a_ (fun _=>f4)
  . -- the element is stored
   have f5:=m7 _ rfl _ e65 rfl;have f4:=J.c5 f5;have z5:=S.eval 5 32 a_ rfl f5;have z1:=S.eval 1 28 a_ rfl (m7 _ rfl _ e61 rfl);obtain⟨mc,xN,hI1,hy1,hon,F4⟩:=J.hi f4;rw[aa n0]at mc;have hgb:=mc.blk g rfl;refine zmK (o:=o6) rfl ?_;refine zkZ (zeZ N) q6 (.tmp 32) (.tmp 28) p6 mc xs.length b_ cells x z5 z1 nf Tryz.sizeIn hy1 ?_;intro w2 hout2 yE;rw[List.set_append_right _ _ (aw _),fp,ax]at hout2;show PuI _ _ _ _ _ _ _ _ _ _ _ _ _ _ _;rw[d6];refine⟨g,lJ,by rw[cn];exact J.size,S.put 6 a_ (by rw[J.size];omega) (zmP 6) (zsM _ 6 hz) _ (fun q=>by cases q) (fun _ _ _=>rfl),fun _ j hj=>za5 (J.c4 f4 j hj),fun _=>za5 f4,fun _=>za5 f4,fun _=>za5 f4,fun q=>absurd (za5 f4) q,fun _=>?_⟩;rw[ae (zeX (by rw[J.size];omega)),ifc (zfD a_)];refine⟨hout2,?_,?_,(zeZ N).sam hy1 (cm yE (fun g' _ q r=>q.2 r.symm)) (fun _ _ q=>q),hon.trans (yE.mono (fun i _ q=>.inr a_)),F4⟩
   .show w2.heap[O]? = _;rw[yE.block O xN.lt a_];exact xN
   .show w2.heap[I]? = _;rw[yE.block I hI1.lt (fun q=>F4 q.symm)];exact hI1
  . -- the list is stored
   have f4:=m7 _ rfl _ Nk rfl;have z4:=S.eval 4 31 a_ rfl f4;obtain⟨mc,xN,hI1,hy1,hon,F4⟩:=J.hi f4;rw[aa n0]at xN;have hgb:=mc.blk g rfl;have t:=xN.cell 0 _ rfl;have fr:=xN.free 0;have F5:=bK (w:=w1) O 0 (.slice (some ⟨g,0,none⟩) (xs.length+1) lJ);refine zcV (o:=o7) rfl q7 (w':=w1.setCell ⟨O,0,none⟩ (.slice (some ⟨g,0,none⟩) (xs.length+1) lJ)) ?_ ?_
   .simp only[execOp,p7,Kb,z4,puV];simp [go_sem,t,fr,dM]
   .rw[d7];refine⟨g,lJ,by rw[cn];exact J.size,S.put 7 a_ (by rw[J.size];omega) (zmP 7) (zsM _ 7 hz) _ (fun q=>by cases q) (fun _ _ _=>rfl),fun _ j hj=>za5 (J.c4 f4 j hj),fun _=>za5 f4,fun _=>za5 f4,fun _=>za5 f4,fun q=>absurd (za5 f4) q,fun _=>?_⟩;rw[ifc (zfD a_),ae (zeX (by rw[J.size];omega))];refine⟨mc.only (zeZ N) F5 (fun g' _ q _ r=>Cz g' q r) (fun g' q r=>by have e:g=g':=(by simpa [Value.ownBlock]using q);omega),xN.set 0 _,?_,(zeZ N).sam hy1 (cm F5 (fun g' _ q r=>Cz g' q.1 r)) (fun _ _ q=>q),hon.trans (F5.mono (fun i _ q=>.inl q)),F4⟩;show(w1.setCell _ _).heap[I]? = _;rw[F5.block I hI1.lt (fun q=>Nl q.symm)];exact hI1
def upd(V:Nat->Value)(i:Nat)(v:Value):Nat->Value:=fun j=>if j=i then v else V j
def zaG(V:Nat->Value)(i:Nat)(v:Value):upd V i v i=v:=ae rfl
def zoH{V:Nat->Value}{i j:Nat}{v:Value}(h:j≠i):upd V i v j=V j:=aa h
def zc4(D:Nat->Option Nat)(V:Nat->Value):Nat->Act->Act
 | 0,a=>a
 | n+1,a=>(zc4 D V n a).put (D n) (V n)
def zi7(D:Nat->Option Nat)(V:Nat->Value):∀(n:Nat) (a:Act),(zc4 D V n a).defers=a.defers
 | 0,_=>rfl
 | n+1,a=>by
  show((zc4 D V n a).put (D n) (V n)).defers=_;rw[<- zi7 D V n a];cases D n<;>rfl
def zBS(a:Act)(d:Option Nat)(v:Value):(a.put d v).tmps.size=a.tmps.size:=by cases d<;>simp [Act.put]
def zmQ(D:Nat->Option Nat)(V:Nat->Value):∀(n:Nat) (a:Act),(zc4 D V n a).tmps.size=a.tmps.size
 | 0,_=>rfl
 | n+1,a=>by show((zc4 D V n a).put (D n) (V n)).tmps.size=_;rw[zBS,zmQ D V n a]
def zsN{D:Nat->Option Nat}{V:Nat->Value}:∀(n:Nat) (a:Act) (i d:Nat),i<n->D i=some d->(∀j,j<n->D j=some d->j=i)->d<a.tmps.size->(zc4 D V n a).tmps[d]? = some (V i)
 | 0,_,_,_,h,_,_,_=>absurd h (Nat.not_lt_zero _)
 | n+1,a,i,d,h,hd,hu,hs=>by
  show((zc4 D V n a).put (D n) (V n)).tmps[d]? = _;by_cases q:i=n
  .subst q;rw[hd,zkQ _ _ _ _ (by rw[zmQ];exact hs),ae rfl]
  .have ih:=zsN (V:=V) n a i d a_ hd (fun j hj=>hu j a_) hs;cases hn:D n with
   | none=>exact ih
   | some e =>
    have lV:d≠e:=fun x=>q (hu n a_ (by rw[hn,x])).symm;by_cases he:e<(zc4 D V n a).tmps.size
    .rw[zkQ _ _ _ _ he,aa lV];exact ih
    .show((zc4 D V n a).tmps.setIfInBounds e (V n))[d]? = _;rw[dJ (fun x=>lV x.symm)];exact ih
def zmR{D:Nat->Option Nat}{V:Nat->Value}:∀(n:Nat) (a:Act) (s:Nat),(∀j,j<n->D j≠some s)->(zc4 D V n a).tmps[s]? = a.tmps[s]?
 | 0,_,_,_=>rfl
 | n+1,a,s,h=>by
  show((zc4 D V n a).put (D n) (V n)).tmps[s]? = _;have ih:=zmR (V:=V) n a s (fun j hj=>h j a_);cases hn:D n with
  | none=>exact ih
  | some e =>
   have lV:s≠e:=fun x=>h n a_ (by rw[hn,x]);show((zc4 D V n a).tmps.setIfInBounds e (V n))[s]? = _;rw[dJ (fun x=>lV x.symm)];exact ih
def zBT{n:Nat}{D:Nat->Option Nat}{V:Nat->Value}{L:Array Bool}{a0 a:Act}(S:Slots n D V L a0 a)(hinj:∀i j d,i<n->j<n->D i=some d->D j=some d->j=i)(kV:∀i d,i<n->D i=some d->d<a0.tmps.size)(hon:∀i,i<n->On L i):a=zc4 D V n a0:=by
 refine zBR (by rw[zi7];exact S.defers) (fun s=>?_);by_cases h:∃i,i<n/\D i=some s
 .obtain⟨i,hi,hd⟩:=h;rw[S.val i s hi hd (hon i hi),zsN n a0 i s hi hd (fun j hj e=>hinj i j s hi hj hd e) (kV i s hi hd)]
 .rw[S.rest s (fun i hi e=>h ⟨i,hi,e⟩),zmR n a0 s (fun i hi e=>h ⟨i,hi,e⟩)]
section
variable {P:Program}{ops:Array Oper}{Q:Exit->Act->World->Prop}
def OpAt(ops:Array Oper)(i:Nat)(op:Op)(d:Option Nat):Prop:=∃o,ops[i]? = some o/\o.op=op/\o.guard=none/\o.dst=d
def zgH(ops:Array Oper)(i:Nat):Option Nat:=(ops[i]?).bind (·.dst)
def zKv(o:Oper)(j:Nat):Bool:=o.after.any fun e=>Region.binds .any e&&e.on==j
def zyU(ops:Array Oper)(n s:Nat)(ea dep:Array (List Nat))(m:Nat):Bool :=
 ops.size==n&&decide (s<n)&&acB ops &&
 ((
    List.range n).all fun i=>match ops[i]? with
    | none=>false
    | some o=>((dep.getD i []).all fun j=>j != i&&decide (j<n)&&o.after.any fun e=>Region.binds .any e&&(e.on==j || (dep.getD e.on []).contains j)) &&
     (match o.dst with|none=>true|some d=>decide (d<m)&&(List.range n).all fun j=>j==i || zgH ops j != some d)) &&
 ((ea.getD 0 []).all fun i=>decide (i<s)&&(match ops[s]? with|none=>false|some o=>zKv o i))
def zBU{n s m:Nat}{ea dep:Array (List Nat)}(h:zyU ops n s ea dep m=true):ops.size=n/\s<n/\acB ops=true:=by
 unfold zyU at h;simp only[ba,bh,cq]at h;exact⟨h.1.1.1.1,h.1.1.1.2,h.1.1.2⟩
def zpV{n s m:Nat}{ea dep:Array (List Nat)}(h:zyU ops n s ea dep m=true){i:Nat}{o:Oper}(ho:ops[i]? = some o):(∀j∈dep.getD i [],j≠i/\j<n/\∃e∈o.after,Region.binds .any e=true/\(e.on=j\/j∈dep.getD e.on []))/\(∀d,o.dst=some d->d<m/\∀j,j<n->zgH ops j=some d->j=i):=by
 have hn:=(zBU h).1;unfold zyU at h;simp only[ba]at h;have h1:=dn.1 h.1.2 i (jm.2 (by rw[<- hn];exact(fJ.1 ho).1));rw[ho]at h1;simp only[ba]at h1;obtain⟨h2,h3⟩:=h1;refine⟨fun j hj=>?_,fun d hd=>?_⟩
 .have:=dn.1 h2 j hj;simp only[ba,dd,cq]at this;obtain⟨⟨q1,q2⟩,q3⟩:=this;obtain⟨k,hk,q⟩:=Array.any_eq_true.1 q3;simp only[ba,dL,bh,bR]at q;exact⟨q1,q2,_,Array.getElem_mem hk,q.1,q.2⟩
 .rw[hd]at h3;simp only[ba,cq]at h3;refine⟨h3.1,fun j hj hdj=>?_⟩;have:=dn.1 h3.2 j (jm.2 hj);simp only[dL,bh,dd]at this;rcases this with q|q
  .exact q
  .exact absurd hdj q
def zHA{n s m:Nat}{ea dep:Array (List Nat)}(h:zyU ops n s ea dep m=true){i:Nat}(hi:i∈ea.getD 0 []){o:Oper}(ho:ops[s]? = some o):i<s/\∃e∈o.after,Region.binds .any e=true/\e.on=i:=by
 unfold zyU at h;simp only[ba]at h;have h1:=dn.1 h.2 i hi;rw[ho]at h1;simp only[ba,cq]at h1;obtain⟨q1,q2⟩:=h1;unfold zKv at q2;obtain⟨k,hk,q⟩:=Array.any_eq_true.1 q2;simp only[ba,bh]at q;exact⟨q1,_,Array.getElem_mem hk,q.1,q.2⟩
end
end Go.Proofs.YtnldgmhdjancbaaGreatDoor
