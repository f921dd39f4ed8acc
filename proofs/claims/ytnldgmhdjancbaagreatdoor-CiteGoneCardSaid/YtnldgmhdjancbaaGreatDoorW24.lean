/- Parts. -/
import Derived.Test.YtnldgmhdjancbaaGreatDoorW23
set_option linter.all false
set_option maxRecDepth 100000
set_option maxHeartbeats 25600000
namespace Go.Proofs.YtnldgmhdjancbaaGreatDoor
open Go.RowKit Go.Proofs.Tryz
def BksP(c:FlT)(m n:Nat)(xs:List Blo)(w:World)(e:Ending)(w':World):Prop:=∃v',e=.returned v'/\Bls (fun g=>w.heap.size<=g) m n w' v' (zcK c m n xs)/\Kept w w'
def zIr{α β:Type}(f:α->List β){l:List α}{k:Nat}{x:α}(h:l[k]? = some x):(l.take (k+1)).flatMap f=(l.take k).flatMap f++f x:=by rw[zaV h,eJ];simp
def zFQ(c:FlT)(he:c.ents.length<=8)(m:Nat)(f:List Blo->List Blo)(b:Blo):(zjJ c m f b).length<=8:=by
 unfold zjJ
 split
 .unfold zy7;rw[bm];exact he
 .simp
def zDb(c:FlT)(he:c.ents.length<=8)(m:Nat)(f:List Blo->List Blo):∀xs:List Blo,(xs.flatMap (zjJ c m f)).length<=8 * xs.length
 | []=>ai _
 | x::xs=>by
  have h1:=zFQ c he m f x;have h2:=zDb c he m f xs;rw[dB,ah,az];omega
def zDc{S:Nat->Prop}(c:FlT)(F m:Nat)(hc:FitQ c)(hce:c.ents.length<=8)(hm:1<=m):∀(n:Nat) (xs:List Blo) (v:Value) (w:World),EnvC w->FlM c F w->Bls S m n w v xs->(∀b∈zaQ xs,zsW b)->zcE xs<=1000->Calls prog 26 #[.pointer (some ⟨F,0,none⟩),v] w (BksP c m n xs w):=by
 intro n
 induction n with
 | zero =>
  intro xs v w ni hfl hv mn hl;obtain rfl:=hv.no;obtain⟨a,c',rfl,hc'⟩:=hv.form;have lh:BksP c m 0 [] w (.returned (.slice none 0 0)) w:=⟨_,rfl,kl _ _ _ _,af w⟩;generalize BksP c m 0 [] w=P at *;clear hv mn ni hfl hl;go_in;go_wp2_with fail;go_loopw [5,10] (fun o i wr=>o=.slice none 0 0/\i=.int .i64 0/\w=wr) (fun _ _ _=>1)
  .exact⟨rfl,rfl,rfl⟩
  case round =>
   obtain⟨rfl,rfl,rfl⟩:=hrel;go_wp2
   (try go_ret)
   exact lh
 | succ n ih =>
  intro xs v w ni hfl hv mn hl;obtain⟨i0,hi,mr,mq,mm⟩:=cg Tryz.infoBl7;have hll:=zc5 xs;have hl1:xs.length<=1000:=(by unfold zcE at hl;omega);have HV:=Hd hv;have pM:=Hd mn;have pJ:=Hd hl;have nD:=Hd (fun ks v' w' (k:Kept w w') (h:Bls S m n w' v' ks) h2 h3=>ih ks v' w' (ni.kept k) (hfl.kept k) h h2 h3);unfold BksP at nD;have pd:=Hd (fun ls v' w' (k:Kept w w') (h:Lns S m w' v' ls) h2 h3=>zC8 c F hc m ls v' w' (ni.kept k) (hfl.kept k) h h2 h3);unfold LinP at pd;have uI:=Hd (fun S' ls v' w' (h:Lns S' m w' v' ls) h1 h2 h3=>zzU m ls v' w' h h1 h2 h3);unfold MgE at uI;have Gs:=Hd (fun w' (k:Kept w w')=>zFP c F m w' (ni.kept k) (hfl.kept k) hc hm a_);unfold BibP at Gs;have lG:=Hd (fun id cls prs vC vP w' h1 h2 h3 h4=>zs7 id vC vP cls prs w' h1 h2 h3 h4);unfold CatP at lG;have lh:Hi (∀v' w',OutG (BloK m n) 11 (fun g=>w.heap.size<=g) w.heap.size 42 w' v' (xs.flatMap (zjJ c m (zcK c m n)))->Kept w w'->BksP c m (n+1) xs w (.returned v') w'):=fun v' w' h k=>⟨v',rfl,ji (S:=fun g=>w.heap.size<=g) (zjH m n) h (fun _ _ q=>q) (fun g h=>h),k⟩;have IV:=Hd (fun k=>zDb c hce m (zcK c m n) (xs.take k));obtain⟨a,c',rfl,hc'⟩:=hv.form;generalize BksP c m (n+1) xs w=P at *;clear hv mn ni hfl ih hl hll;go_in;go_wp2_with fail;go_loopw [5,10] (fun v i wr=>∃(k:Nat),k<=xs.length/\i=.int .i64 k/\Hi (OutG (BloK m n) 11 (fun g=>w.heap.size<=g) w.heap.size 42 wr v ((xs.take k).flatMap (zjJ c m (zcK c m n))))/\Hi (Kept w wr)) (fun _ i _=>xs.length - (intOf i).toNat)
  .exact⟨0,ai _,rfl,ey _ _ _ _ _ _,af _⟩
  case round =>
   obtain⟨k,hk,rfl,lu,kO⟩:=hrel;by_cases kV:k<xs.length
   .have Ej:=IV.o k;rw[bw]at Ej;obtain⟨b,hb⟩:∃b,xs[k]? = some b:=⟨_,ac kV⟩;have rK:Hi ((xs.take (k+1)).flatMap (zjJ c m (zcK c m n))=(xs.take k).flatMap (zjJ c m (zcK c m n))++zjJ c m (zcK c m n) b):=zIr _ hb;obtain⟨OL,si⟩:=gX ((xs.take k).flatMap (zjJ c m (zcK c m n)));rw[si.o]at lu rK Ej;obtain⟨ar,cr,rfl,hcr,hmr⟩:=lu.o.form;have ow:OL.length<=8000:=a_;have IW:=zjB (am hb);have mn:=pM.o b IW.1;have rl:Hi (∀y∈zaQ b.kids,zsW y):=fun y hy=>pM.o y (IW.2 y hy);have hsm:=zm1 hb;have hsl:=zu9 xs (k+1);have hs0:=pJ.o;have hkl:zcE b.kids<=1000:=a_;have nX:(zaD b.line).length<=1000:=a_;obtain⟨g,o,vC,vP,vL,vK,rfl,mY,qC,-,-,⟨e0,e1,e2,e3,e4,e5,e6,e7,e8,e9,e10⟩,-,⟨hC,iC⟩,⟨oj,iP⟩,hL,hK⟩:=gQ HV.o k b hb;have tw:Hi (zwU b=true->zjJ c m (zcK c m n) b=zy7 c):=fun q=>ae q;have yx:Hi (zwU b=false->zjJ c m (zcK c m n) b=[.mk b.kind b.level b.info b.text b.dest b.title b.id b.cls b.prs (zcB m (zcJ c m b.line)) (zcK c m n b.kids)]):=fun q=>aa (by rw[q];simp);have wn:Hi (zwU b=(decide (b.kind=13)&&(b.info==zFj))):=rfl;have qD:=Hd (zIk hc m mn.2);have hlz:=zCU c m b.line;obtain⟨Y,oX⟩:=gX (zjJ c m (zcK c m n) b);obtain⟨rf,sj⟩:∃z,Hi (zwU b=z):=⟨_,rfl⟩;rw[oX.o]at rK tw yx;rw[sj.o]at tw yx wn;clear IW hb oX sj hsm hsl hs0;obtain⟨kL,kU,kW,kN,kP,title,id,cls,prs,kY,kM⟩:=b;simp only[Blo.kind,Blo.level,Blo.info,Blo.text,Blo.dest,Blo.title,Blo.id,Blo.cls,Blo.prs,Blo.line,Blo.kids]at e0 e1 e2 e3 e4 e5 e6 hC oj hL hK hkl nX rl tw yx wn qD hlz;obtain⟨⟨-,⟨q1,q2,-⟩⟩,q3⟩:=mn;have zz:Hi (∀y∈zaD kY,zoP y):=q3;simp only[Blo.cls,Blo.prs]at q1 q2;obtain⟨aC,cC,rfl,lC⟩:=hC.shape;obtain⟨aP,cP,rfl,lP⟩:=oj.shape;obtain⟨aL,cL,rfl,lL⟩:=hL.form;obtain⟨aK,cK,rfl,lK⟩:=hK.form;have d0:=(kO.o.cell (p:=⟨g,o+k * 11,none⟩) mY).trans e0;have d1:=(kO.o.cell (p:=⟨g,o+k * 11+1,none⟩) mY).trans e1;have d2:=(kO.o.cell (p:=⟨g,o+k * 11+2,none⟩) mY).trans e2;have d3:=(kO.o.cell (p:=⟨g,o+k * 11+3,none⟩) mY).trans e3;have d4:=(kO.o.cell (p:=⟨g,o+k * 11+4,none⟩) mY).trans e4;have d5:=(kO.o.cell (p:=⟨g,o+k * 11+5,none⟩) mY).trans e5;have d6:=(kO.o.cell (p:=⟨g,o+k * 11+6,none⟩) mY).trans e6;have d7:=(kO.o.cell (p:=⟨g,o+k * 11+7,none⟩) mY).trans e7;have d8:=(kO.o.cell (p:=⟨g,o+k * 11+8,none⟩) mY).trans e8;have d9:=(kO.o.cell (p:=⟨g,o+k * 11+9,none⟩) mY).trans e9;have ui:=(kO.o.cell (p:=⟨g,o+k * 11+10,none⟩) mY).trans e10;have hgz:g<wr.heap.size:=aU mY kO.o.size;clear e0 e1 e2 e3 e4 e5 e6 e7 e8 e9 e10 q3;have IX:=Hd hL;have ql:=Hd hK;have lj:=zaA wr (.cells #[.int .i64 kL,.int .i64 kU,.string (bs kW),.string (bs kN),.string (bs kP),.string (bs title),.string (bs id),.slice aC cls.length cC,.slice aP prs.length cP,.slice aL kY.length cL,.slice aK kM.length cK] 42);have mv:=Hd (aI wr 42 #[.int .i64 kL,.int .i64 kU,.string (bs kW),.string (bs kN),.string (bs kP),.string (bs title),.string (bs id),.slice aC cls.length cC,.slice aP prs.length cP,.slice aL kY.length cL,.slice aK kM.length cK]);have lg:=Hd (kO.o.trans lj);have HC:=Hd (hC.kept lg.o);have HP:=Hd (oj.kept lg.o);have oH:=Hd ((lu.o.mono (A':=fun g=>w.heap.size<=g/\g<wr.heap.size) (zjH m n) (fun g hg q=>⟨q,hg⟩)).kept (zjH m n) lj);obtain⟨I,ry⟩:=gX wr.heap.size;have IY:w.heap.size<=I:=(by rw[<- ry.o];exact kO.o.size);have qU:Hi (∀g,(Value.slice ar OL.length cr).ownBlock=some g->g<I):=fun g q=>(by have:=(lu.o.blk g q).2;rw[<- ry.o];exact this);rw[ry.o]at mv oH;clear lj hC oj hL hK iC iP;go_upto_region 5 with fail;rw[ry.o];generalize wr.alloc _=w1 at *;clear d0 d1 d2 d3 d4 d5 d6 d7 d8 d9 ui lu ry hgz;have b0:=mv.o.cell 0 _ rfl;have b2:=mv.o.cell 2 _ rfl;have bz:=mv.o.lt;unfold zFj at wn;by_cases hrf:kL=13/\kW=[114,101,102,101,114,101,110,99,101,115]
    .obtain⟨rfl,rfl⟩:=hrf;have hr1:rf=true:=wn.o.trans d_;obtain rfl:zy7 c=Y:=(tw.o hr1).symm;have sX:=Hd (Gs.o w1 lg.o);clear nD pd uI Gs lG tw yx wn qD rl zz IX ql;go_wp2_with fail;refine sX.o.mono ?_;rintro e w3 ⟨v3,rfl,mF,li⟩;have hrow:RowR (fun g=>w1.heap.size<=g) 11 (BloK m n (fun g=>w1.heap.size<=g) w3) w3 v3 (zy7 c):=mF.ups (show 1<=n+1 by omega);have oT:=Hd ((oH.o.kept (zjH m n) li).mono (A':=fun g=>w.heap.size<=g) (zjH m n) (fun g _ q=>q.1));have lq:=Hd (lg.o.trans li);have hb6:w.heap.size<=w3.heap.size:=lq.o.size;have hel:(zy7 c).length<=8:=(by unfold zy7;rw[bm];exact hce);have Q4:I<w1.heap.size:=bz;clear li mF oH sX lg b0 b2 bz mv HC HP;go_wp2_with (at_builtin;refine zeG ?_);refine Hd ?_;refine zdP (zjH m n) rfl (.tmp 22) (.tmp 24) 23 rfl i0 _ 192 eW hi mr mq mm rfl a_ d_ oT.o v3 d_ hrow (fun g _ q=>⟨by have:=lq.o.size;omega,fun q2=>by have:=qU.o g q2;omega⟩) h_ a_ hb6 ?_;intro v7 w7 lp lf;obtain⟨a7,c7,rfl,-,-⟩:=lp.form;have mi:Hi (OutG (BloK m n) 11 (fun g=>w.heap.size<=g) w.heap.size 42 w7 (.slice a7 (OL++zy7 c).length c7) ((xs.take (k+1)).flatMap (zjJ c m (zcK c m n)))):=(by(rw[rK.o];exact lp));have mE:Hi (Kept w w7):=lq.o.trans' ((ch lf).below lq.o.size (fun i q=>(oT.o.blk i q.symm).1));clear lp lf oT lq hb6 rK hrow;go_wp2;go_roundw
     .exact⟨k+1,a_,by go_num,(by(have h:=mi.o;rw[ah]at h;exact h)),mE.o⟩
     .simp [intOf];omega
    .have hr1:rf=false:=wn.o.trans (by
      rw[ja];by_cases tn:kL=13
      .exact .inr (ab.2 fun q=>hrf ⟨tn,q⟩)
      .exact .inl (bH tn))
     obtain⟨ks,pN⟩:=gX (zcK c m n kM);obtain⟨ls,un⟩:=gX (zcJ c m kY);obtain⟨zs,tI⟩:=gX (zcB m ls);have hY:=yx.o hr1;rw[pN.o,un.o,tI.o]at hY;obtain rfl:[.mk kL kU kW kN kP title id cls prs zs ks]=Y:=hY.symm;rw[un.o]at qD hlz;have hls:ls.length<=1000:=(by have:=zdQ ls;omega);have Lf:=Hd (zqG ls (fun y hy=>(qD.o y hy).1) a_);have pI:=Hd (fun y hy=>(qD.o y hy).2);have b6:=mv.o.cell 6 _ rfl;have b7:=mv.o.cell 7 _ rfl;have b8:=mv.o.cell 8 _ rfl;have BC:=Hd (lG.o id cls prs (.slice aC cls.length cC) (.slice aP prs.length cP) w1 HC.o HP.o a_ a_);have hif:(kL==13)=false\/((kL==13)=true/\(kW==[114,101,102,101,114,101,110,99,101,115])=false):=by
      by_cases tn:kL=13
      .exact .inr ⟨by rw[bh];exact tn,ab.2 fun q=>hrf ⟨tn,q⟩⟩
      .exact .inl (ab.2 tn)
     clear Gs tw yx wn lG hrf qD hlz;rcases hif with tn|⟨tn,hnr⟩
     all_goals
      go_wp2_with fail;refine BC.o.mono ?_;rintro e w2 ⟨D4,D5,rfl,⟨ol,hi1⟩,⟨od,hj1⟩,ld⟩;obtain⟨mZ,m4,rfl,D6⟩:=ol.shape;obtain⟨m5,m6,rfl,D7⟩:=od.shape;have qZ:=Hd ol;have pt:=Hd od;have pW:Hi (InB (fun g=>I<g) (.slice mZ cls.length m4) cls.length):=hi1.mono (fun g _ _ q=>by omega);have ob:Hi (InB (fun g=>I<g) (.slice m5 prs.length m6) prs.length):=hj1.mono (fun g _ _ q=>by omega);have ma:=Hd (mv.o.kept ld);have kT:=Hd (lg.o.trans ld);have sN:=Hd (oH.o.kept (zjH m n) ld);clear ol od hi1 hj1 ld mv lg oH HC HP b0 b2 b6 b7 b8 bz BC;go_wp2_with (refine zcI rfl 39 (.tmp 29) (.tmp 28) d_ I 6 42 _ #[.string (bs id),.slice mZ cls.length m4,.slice m5 prs.length m6] d_ d_ ma.o (by show 6+3<=11;omega) Tryz.sizeAt (by simp only[bZ,ci,dc];rfl) ?_;intro w3 mV mQ;refine zeG ?_);refine Hd ?_;have lx:Hi (Blk w3 I 42 #[.int .i64 kL,.int .i64 kU,.string (bs kW),.string (bs kN),.string (bs kP),.string (bs title),.string (bs id),.slice mZ cls.length m4,.slice m5 prs.length m6,.slice aL kY.length cL,.slice aK kM.length cK]):=mV;have b9:w3.cell? ⟨I,9,none⟩=some (.slice aL kY.length cL):=lx.o.cell 9 _ rfl;have bz:=lx.o.lt;have kX:=Hd (kT.o.trans' (mQ.below kT.o.size (fun i e=>by rw[e];exact IY)));have ra:=Hd (qZ.o.onlS pW.o mQ (fun g _ hs q=>by omega));have qt:=Hd (pt.o.onlS ob.o mQ (fun g _ hs q=>by omega));have HG2:=Hd (sN.o.only (zjH m n) mQ (fun g _ q _ e=>by omega) (fun g q e=>by have:=qU.o g q;omega));clear mV mQ ma kT qZ pt sN;go_wp2_with fail;refine(pd.o kY (.slice aL kY.length cL) w3 kX.o (IX.o.kept kX.o) zz.o nX).mono ?_;rintro e w4 ⟨v4,rfl,hl4,mu⟩;rw[un.o]at hl4;have wQ:=Hd hl4;have oO:=Hd (lx.o.kept mu);have mg:=Hd (kX.o.trans mu);have sK:=Hd (ra.o.kept mu);have se:=Hd (qt.o.kept mu);have wO:=Hd (HG2.o.kept (zjH m n) mu);clear hl4 mu lx kX ra qt HG2 pd IX zz b9 bz;go_wp2_with fail;refine(uI.o _ ls v4 w4 wQ.o a_ Lf.o pI.o).mono ?_;rintro e w5 ⟨v5,rfl,hl5,lU⟩;rw[tI.o]at hl5;obtain⟨vc,vd,rfl,Q5⟩:=hl5.form;have N2:=oO.o.lt;have Al:Hi (Lns (fun g=>I<g) m w5 (.slice vc zs.length vd) zs):=hl5.mono (fun g _ q=>by omega);have nR:=oO.o.kept lU;have c9:=nR.cell 9 _ rfl;have f9:=nR.free 9;have z9:=nR.lt;have pn:=bK (w:=w5) I 9 (.slice vc zs.length vd);have rh:Hi (Blk (w5.setCell ⟨I,9,none⟩ (.slice vc zs.length vd)) I 42 #[.int .i64 kL,.int .i64 kU,.string (bs kW),.string (bs kN),.string (bs kP),.string (bs title),.string (bs id),.slice mZ cls.length m4,.slice m5 prs.length m6,.slice vc zs.length vd,.slice aK kM.length cK]):=nR.set 9 _;have c10:(w5.setCell ⟨I,9,none⟩ (.slice vc zs.length vd)).cell? ⟨I,10,none⟩=some (.slice aK kM.length cK):=rh.o.cell 10 _ rfl;have lH:=Hd ((mg.o.trans lU).trans' (pn.below (mg.o.trans lU).size (fun i e=>by rw[e];exact IY)));have tC:=Hd ((sK.o.kept lU).onlS pW.o pn (fun g _ hs q=>by omega));have ue:=Hd ((se.o.kept lU).onlS ob.o pn (fun g _ hs q=>by omega));have Am:=Hd (Al.o.sam (S':=fun g=>I<g) (cm pn (fun g _ hs q=>by omega)) (fun _ _ q=>q));have nS:=Hd ((wO.o.kept (zjH m n) lU).only (zjH m n) pn (fun g _ q _ e=>by omega) (fun g q e=>by have:=qU.o g q;omega));clear hl5 lU nR pn oO mg sK se wO Al wQ uI N2 Lf pI tI un;go_wp2_with fail;generalize World.setCell _ _ _=w6 at *;clear c9 f9 z9;refine(nD.o kM (.slice aK kM.length cK) w6 lH.o (ql.o.kept lH.o) rl.o hkl).mono ?_;rintro e w7 ⟨Gl,rfl,sn,mS⟩;rw[pN.o]at sn;obtain⟨nT,nU,rfl,Gm⟩:=sn.form;have IL:=rh.o.lt;have sP:Bls (fun g=>I<g) m n w7 (.slice nT ks.length nU) ks:=sn.mono (fun g _ q=>by omega);have rm:=rh.o.kept mS;have a7:w7.cell? ⟨I,10,none⟩=some (.slice aK kM.length cK):=rm.cell 10 _ rfl;have f7:=rm.free 10;have z7:=rm.lt;have oZ:=bK (w:=w7) I 10 (.slice nT ks.length nU);have pi:Hi (Blk (w7.setCell ⟨I,10,none⟩ (.slice nT ks.length nU)) I 42 #[.int .i64 kL,.int .i64 kU,.string (bs kW),.string (bs kN),.string (bs kP),.string (bs title),.string (bs id),.slice mZ cls.length m4,.slice m5 prs.length m6,.slice vc zs.length vd,.slice nT ks.length nU]):=rm.set 10 _;have pk:=Hd ((lH.o.trans mS).trans' (oZ.below (lH.o.trans mS).size (fun i e=>by rw[e];exact IY)));have BH:=Hd ((tC.o.kept mS).onlS pW.o oZ (fun g _ hs q=>by omega));have BI:=Hd ((ue.o.kept mS).onlS ob.o oZ (fun g _ hs q=>by omega));have BJ:=Hd ((Am.o.kept mS).sam (S':=fun g=>I<g) (cm oZ (fun g _ hs q=>by omega)) (fun _ _ q=>q));have FW:=Hd (sP.sam (S':=fun g=>I<g) (cm oZ (fun g _ hs q=>by omega)) (fun _ _ q=>q));have yK:=Hd ((nS.o.kept (zjH m n) mS).only (zjH m n) oZ (fun g _ q _ e=>by omega) (fun g q e=>by have:=qU.o g q;omega));clear sn sP mS rm oZ rh lH tC ue Am nS c10 ql nD IL pN rl;go_upto_region 10 with fail;generalize World.setCell _ _ _=w8 at *;clear a7 f7 z7;have e0:=pi.o.cell 0 _ rfl;have e1:=pi.o.cell 1 _ rfl;have e2:=pi.o.cell 2 _ rfl;have e3:=pi.o.cell 3 _ rfl;have e4:=pi.o.cell 4 _ rfl;have e5:=pi.o.cell 5 _ rfl;have e6:=pi.o.cell 6 _ rfl;have e7:=pi.o.cell 7 _ rfl;have e8:=pi.o.cell 8 _ rfl;have e9:=pi.o.cell 9 _ rfl;have e10:=pi.o.cell 10 _ rfl;have ez:=pi.o.lt;have lj:=zaA w8 (.cells #[.int .i64 kL,.int .i64 kU,.string (bs kW),.string (bs kN),.string (bs kP),.string (bs title),.string (bs id),.slice mZ cls.length m4,.slice m5 prs.length m6,.slice vc zs.length vd,.slice nT ks.length nU] 42);have ly:=Hd (aI w8 42 #[.int .i64 kL,.int .i64 kU,.string (bs kW),.string (bs kN),.string (bs kP),.string (bs title),.string (bs id),.slice mZ cls.length m4,.slice m5 prs.length m6,.slice vc zs.length vd,.slice nT ks.length nU]);have ro:=Hd ((yK.o.mono (A':=fun g=>w.heap.size<=g) (zjH m n) (fun g _ q=>q.1)).kept (zjH m n) lj);have kZ:=Hd (pk.o.trans lj);have Ed:w.heap.size<=(w8.alloc (.cells #[.int .i64 kL,.int .i64 kU,.string (bs kW),.string (bs kN),.string (bs kP),.string (bs title),.string (bs id),.slice mZ cls.length m4,.slice m5 prs.length m6,.slice vc zs.length vd,.slice nT ks.length nU] 42)).heap.size:=kZ.o.size;have lV:∀g,I<g->w.heap.size<=g/\(Value.slice ar OL.length cr).ownBlock≠some g:=fun g hg=>⟨a_,fun q=>by have:=qU.o g q;omega⟩;have og:Hi (BloK m n (fun g=>w.heap.size<=g/\(Value.slice ar OL.length cr).ownBlock≠some g) (w8.alloc (.cells #[.int .i64 kL,.int .i64 kU,.string (bs kW),.string (bs kN),.string (bs kP),.string (bs title),.string (bs id),.slice mZ cls.length m4,.slice m5 prs.length m6,.slice vc zs.length vd,.slice nT ks.length nU] 42)) [.int .i64 kL,.int .i64 kU,.string (bs kW),.string (bs kN),.string (bs kP),.string (bs title),.string (bs id),.slice mZ cls.length m4,.slice m5 prs.length m6,.slice vc zs.length vd,.slice nT ks.length nU] (.mk kL kU kW kN kP title id cls prs zs ks)) :=
       ⟨_,_,_,_,rfl,⟨BH.o.kept lj,pW.o.mono fun g _ _ q=>lV g q⟩,⟨BI.o.kept lj,ob.o.mono fun g _ _ q=>lV g q⟩,BJ.o.sam (cU lj) (fun g _ q=>lV g q),FW.o.sam (cU lj) (fun g _ q=>lV g q)⟩
      clear lj yK pk BH BI BJ FW pW ob lV pi;go_wp2_with (at_builtin;refine zeG ?_);refine Hd ?_;refine zaO (zjH m n) rfl (.tmp 41) (.tmp 43) 23 rfl i0 _ 192 eW hi mr mq mm rfl a_ d_ ro.o w8.heap.size [.int .i64 kL,.int .i64 kU,.string (bs kW),.string (bs kN),.string (bs kP),.string (bs title),.string (bs id),.slice mZ cls.length m4,.slice m5 prs.length m6,.slice vc zs.length vd,.slice nT ks.length nU] (.mk kL kU kW kN kP title id cls prs zs ks) d_ (fun j u hu=>ly.o.cell j u (by rw[<- bE];exact hu)) rfl og.o h_ a_ Ed _ rfl ?_;intro g7 pR w9 lp lf mB mT;have mi:Hi (OutG (BloK m n) 11 (fun g=>w.heap.size<=g) w.heap.size 42 w9 (.slice (some ⟨g7,0,none⟩) (OL.length+1) pR) ((xs.take (k+1)).flatMap (zjJ c m (zcK c m n)))):=(by(rw[rK.o];exact lp));have mE:Hi (Kept w w9):=kZ.o.trans' ((ch lf).below kZ.o.size (fun i q=>(ro.o.blk i q.symm).1));clear lp lf mB mT ly ro kZ Ed og rK e0 e1 e2 e3 e4 e5 e6 e7 e8 e9 e10 ez;go_wp2;go_roundw
      .exact⟨k+1,a_,by go_num,mi.o,mE.o⟩
      .simp [intOf];omega
   .obtain rfl:k=xs.length:=a_;have hg1:=lu.o;rw[bi]at hg1;obtain⟨ar,cr,rfl,hcr,hmr⟩:=hg1.form;have oH:=Hd hg1;clear hg1;have HF:=Hd (lh.o _ _ oH.o kO.o);clear lu lh oH;go_wp2
    (try go_ret)
    exact HF.o
abbrev KyP:=Bs×Bs
def kyP(k:KyP):Value:=.agg #[.string (bs k.1),.string (bs k.2)]
def zs8(e:KyP×Value)(i:Nat):MapEntry:={ key:=kyP e.1,val:=e.2,born:=i }
def zdI(es:List (KyP×Value)):Array MapEntry:=(es.mapIdx fun i e=>zs8 e i).toArray
def MapQ(w:World)(m:Nat)(es:List (KyP×Value)):Prop:=w.heap[m]? = some (.map (zdI es) es.length)
def znT(w:World)(m:Nat)(es:List (KyP×Value)):World:={ w with heap:=w.heap.setIfInBounds m (.map (zdI es) es.length) }
def zj4(es:List (KyP×Value))(k:KyP):Option Value:=(es.find? fun e=>e.1==k).map (·.2)
def MapQ.lt{w:World}{m:Nat}{es:List (KyP×Value)}(h:MapQ w m es):m<w.heap.size:=by
 rcases bG m w.heap.size with q|q
 .exact q
 .unfold MapQ at h;rw[bB q]at h;cases h
def MapQ.only{S:Nat->Prop}{w w':World}{m:Nat}{es:List (KyP×Value)}(h:MapQ w m es)(k:Only S w w')(hs:¬ S m):MapQ w' m es:=by
 unfold MapQ at h ⊢;rw[k.block m (MapQ.lt h) hs];exact h
def MapQ.kept{w w':World}{m:Nat}{es:List (KyP×Value)}(h:MapQ w m es)(k:Kept w w'):MapQ w' m es:=h.only (bc (S:=fun _=>False) k) (fun q=>q)
def MapQ.made(w:World):MapQ (w.alloc (.map #[] 0)) w.heap.size []:=el w _
def zqI(w:World)(m:Nat)(es:List (KyP×Value))(hm:m<w.heap.size):MapQ (znT w m es) m es:=by
 unfold MapQ znT;simp [hm]
def zs9(w:World)(m:Nat)(es:List (KyP×Value)):Only (fun i=>i=m) w (znT w m es) :=
 ⟨rfl,rfl,rfl,by simp [znT],fun k hk hs=>by simp [znT,eH,ke hs]⟩
def zDd(w:World)(m:Nat)(es:List (KyP×Value)):(znT w m es).heap.size=w.heap.size:=by simp [znT]
def zzV(es:List (KyP×Value))(e:KyP×Value):zdI (es++[e])=(zdI es).push (zs8 e es.length):=by
 unfold zdI;rw[gb];simp
def zzW(es:List (KyP×Value)):(zdI es).toList=es.mapIdx fun i e=>zs8 e (i+0):=by simp [zdI]
def zdJ(e:KyP×Value)(es:List (KyP×Value))(k:KyP):zj4 (e::es) k=if e.1=k then some e.2 else zj4 es k:=by
 unfold zj4;rw[fw];by_cases h:e.1=k
 .rw[ae h];simp [h]
 .rw[aa h];have:(e.1==k)=false:=(by simpa using h);rw[this]
def ztA{es:List (KyP×Value)}{k:KyP}(h:zj4 es k=none)(v:Value)(k':KyP):zj4 (es++[(k,v)]) k'=if k'=k then some v else zj4 es k':=by
 induction es with
 | nil =>
  rw[dV,zdJ];by_cases q:k'=k
  .rw[ae q,ae q.symm]
  .rw[aa q,aa (fun e=>q e.symm)]
 | cons e es ih =>
  rw[zdJ]at h;by_cases q:e.1=k
  .rw[ae q]at h;cases h
  .rw[aa q]at h;rw[ei,zdJ,zdJ,ih h];by_cases q2:e.1=k'
   .rw[ae q2,ae q2,aa (fun e'=>q (by rw[q2,e']))]
   .rw[aa q2,aa q2]
section
variable {P:Program}{tm ti te:TypeId}{fs:Array Field}
def zJB(heq:∀(a b:KyP) (w:World),(Op.equal ti (kyP a) (kyP b)).run P w=.ok (a==b) w)(w:World)(k:KyP):∀(l:List (KyP×Value)) (i j:Nat), (zj4 l k=none/\(Instr.findAsking ti (kyP k) (l.mapIdx fun i' e=>zs8 e (i'+i)) j).run P w=.ok none w)\/(∃(n:Nat) (v:Value),zj4 l k=some v/\l[n]? = some (k,v)/\(Instr.findAsking ti (kyP k) (l.mapIdx fun i' e=>zs8 e (i'+i)) j).run P w=.ok (some (n+j,v)) w/\∀u k',zj4 (l.set n (k,u)) k'=if k'=k then some u else zj4 l k')
 | [],_,_=>.inl ⟨rfl,by simp [Instr.findAsking,bn]⟩
 | e::l,i,j=>by
  rw[fh,zdJ];by_cases h:e.1=k
  .right;have hx:(k==e.1)=true:=(by rw[bh];exact h.symm);refine⟨0,e.2,by rw[ae h],by rw[<- h];rfl,?_,fun u k'=>?_⟩
   .simp [Instr.findAsking,zs8,heq,hx,bn]
   .rw[ax,zdJ,zdJ];by_cases q:k'=k
    .rw[ae q,ae q.symm]
    .rw[aa q,aa (fun e=>q e.symm),aa (fun e'=>q (by rw[<- e',h]))]
  .have hx:(k==e.1)=false:=(by rw[ab];exact fun q=>h q.symm);have hm:(l.mapIdx fun i' x=>zs8 x (i'+1+i))=l.mapIdx fun i' x=>zs8 x (i'+(i+1)):=by
    congr 1;funext a b;congr 1;omega
   rw[aa h,hm];have hstep:∀es,(Instr.findAsking ti (kyP k) (zs8 e (0+i)::es) j).run P w=(Instr.findAsking ti (kyP k) es (j+1)).run P w:=fun es=>by
    simp [Instr.findAsking,zs8,heq,hx]
   rw[hstep];rcases zJB heq w k l (i+1) (j+1)with⟨g1,g2⟩|⟨n,v,g1,g2,g3,g4⟩
   .left;exact⟨g1,g2⟩
   .right;refine⟨n+1,v,g1,by simpa using g2,by rw[g3];congr 3;omega,fun u k'=>?_⟩;rw[ay,zdJ,zdJ,g4];by_cases q:e.1=k'
    .rw[ae q,ae q,aa (fun e'=>h (by rw[q,e']))]
    .rw[aa q,aa q]
structure KeyP (P:Program) (tm ti te:TypeId) (fs:Array Field):Prop where
 map:P.underlying tm=some (.map ti te)
 str:P.underlying ti=some (.struct fs)
 eq:∀(a b:KyP) (w:World),(Op.equal ti (kyP a) (kyP b)).run P w=.ok (a==b) w
 chk:∀(e:Bool) (a:KyP) (w:World),(Instr.checkKey e 10000 ti (kyP a)).run P w=.ok () w
 stay:∀(a:KyP) (w:World),(Instr.keyThatStays (kyP a) (kyP a)).run P w=.ok (kyP a) w
def zKx(H:KeyP P tm ti te fs)(w:World)(es:List (KyP×Value))(k:KyP):(zj4 es k=none/\(Instr.findKey ti (kyP k) (zdI es).toList).run P w=.ok none w)\/(∃n v,zj4 es k=some v/\es[n]? = some (k,v)/\(Instr.findKey ti (kyP k) (zdI es).toList).run P w=.ok (some (n,v)) w/\∀u k',zj4 (es.set n (k,u)) k'=if k'=k then some u else zj4 es k'):=by
 have hrun:(Instr.findKey ti (kyP k) (zdI es).toList).run P w=(Instr.findAsking ti (kyP k) (zdI es).toList 0).run P w:=by
  unfold Instr.findKey;simp only[bo,bT H.str,Result.andThen];cases h:(zdI es).toList with
  | nil=>simp [Instr.findNow,Instr.findAsking,bn]
  | cons e l =>
   have:Instr.findNow (.struct fs) (kyP k) (e::l) 0=none:=by
    unfold Instr.findNow Instr.sameNow;rfl
   rw[this]
 rw[hrun,zzW];rcases zJB H.eq w k es 0 0 with⟨g1,g2⟩|⟨n,v,g1,g2,g3,g4⟩
 .left;exact⟨g1,g2⟩
 .right;exact⟨n,v,g1,g2,g3,g4⟩
def zIs(H:KeyP P tm ti te fs)(w:World)(m:Nat)(es:List (KyP×Value))(k:KyP)(z:Value)(hz:(zeroValue te).run P w=.ok z w)(h:MapQ w m es):(Instr.lookup tm (.map (some m)) (kyP k) false).run P w=.ok ((zj4 es k).getD z) w:=by
 unfold MapQ at h;unfold Instr.lookup;simp only[bo,bT H.map,Result.andThen];rcases zKx H w es k with⟨g1,g2⟩|⟨n,v,g1,_,g3,_⟩
 .simp only[getObj,bo,Sem.run,h,Result.andThen,bn,H.chk,g2,g1,hz];simp [bn]
 .simp only[getObj,bo,Sem.run,h,Result.andThen,bn,H.chk,g3,g1];simp [bn]
def zJC(H:KeyP P tm ti te fs)(w:World)(m:Nat)(es:List (KyP×Value))(k:KyP)(z:Value)(hz:∀w,(zeroValue te).run P w=.ok z w)(h:MapQ w m es):∃es' n,es'[n]? = some (k,(zj4 es k).getD z)/\(∀u k',zj4 (es'.set n (k,u)) k'=if k'=k then some u else zj4 es k')/\(∀k',(zj4 es' k').getD z=(zj4 es k').getD z)/\(Instr.mapEntry tm (.map (some m)) (kyP k)).run P w=.ok (.tuple #[(zj4 es k).getD z,.int .i64 (n:Nat)]) (znT w m es'):=by
 unfold MapQ at h;rcases zKx H w es k with⟨g1,g2⟩|⟨n,v,g1,g2,g3,g4⟩
 .refine⟨es++[(k,z)],es.length,by rw[g1];simp,fun u k'=>?_,fun k'=>?_,?_⟩
  .have e:(es++[(k,z)]).set es.length (k,u)=es++[(k,u)]:=b_;rw[e,ztA g1]
  .rw[ztA g1];by_cases q:k'=k
   .rw[ae q,q,g1];rfl
   .rw[aa q]
  .unfold Instr.mapEntry;simp only[bo,bT H.map,Result.andThen];simp only[getObj,bo,Sem.run,h,Result.andThen,bn,H.chk,g2,hz,setObj];have e:znT w m (es++[(k,z)])={ w with heap:=w.heap.setIfInBounds m (.map ((zdI es).push { key:=kyP k,val:=z,born:=es.length }) (es.length+1)) }:=by
    unfold znT;rw[zzV];simp [zs8]
   rw[e,g1];simp [bn,goInt]
 .refine⟨es,n,by rw[g1];exact g2,g4,fun _=>rfl,?_⟩;unfold Instr.mapEntry;simp only[bo,bT H.map,Result.andThen];have e1:(zdI es)[n]? = some (zs8 (k,v) n):=(by unfold zdI;simp [g2]);simp only[getObj,bo,Sem.run,h,Result.andThen,bn,H.chk,g3,setObj,e1,eR,dE,zs8,H.stay,g1];have e2:((zdI es).modify n fun e=>{ e with key:=kyP k })=zdI es:=by
   apply eP;intro i;rw[eu];by_cases q:n=i
   .subst q;rw[ae rfl,e1];simp [zs8]
   .rw[aa q]
  rw[e2];simp [bn,goInt,znT]
def zJD(w:World)(m:Nat)(es:List (KyP×Value))(n:Nat)(k:KyP)(v0 u:Value)(h:MapQ w m es)(hn:es[n]? = some (k,v0)):(Instr.entryStore tm (.map (some m)) (.int .i64 (n:Nat)) u).run P w=.ok () (znT w m (es.set n (k,u))):=by
 unfold MapQ at h;unfold Instr.entryStore;have hb:n<(zdI es).size:=(by unfold zdI;simp;exact(ak.1 hn).1);have hbn:∀i (hi:i<(zdI es).size),(zdI es)[i].born=i:=fun i hi=>(by unfold zdI;simp [zs8]);have hf:(zdI es).findIdx? (fun e=>(e.born:Int)==((n:Nat):Int))=some n:=by
  rw[Array.findIdx?_eq_some_iff_getElem];refine⟨hb,by rw[hbn n hb];simp,fun j hj=>?_⟩;rw[hbn j a_];simp;omega
 simp only[getObj,bo,Sem.run,h,Result.andThen,bn,asInt,asIntOf,hf,setObj];refine congrArg (Result.ok ()) ?_;unfold znT;have e1:(zdI es)[n]? = some (zs8 (k,v0) n):=(by unfold zdI;simp [hn]);have e2:((zdI es).modify n fun e=>{ e with val:=u })=zdI (es.set n (k,u)):=by
  apply eP;intro i;rw[eu];by_cases q:n=i
  .subst q;rw[ae rfl,e1];unfold zdI;have hn':=(ak.1 hn).1;simp [zs8,hn']
  .rw[aa q];unfold zdI;simp [List.getElem?_set,q]
 have e3:(es.set n (k,u)).length=es.length:=b_;rw[e3,e2]
end
def zFR(a:KyP)(w:World)(P:Program):(Instr.keyThatStays (kyP a) (kyP a)).run P w=.ok (kyP a) w:=by
 unfold Instr.keyThatStays;have e:Instr.sameBits 10000 (kyP a) (kyP a)=true:=by
  have h1:∀k:ByteArray,(k==k)=true:=fun k=>by
   show(k.data==k.data)=true;exact iG _
  simp [kyP,Instr.sameBits,h1]
 rw[e];rfl
def OutG.strs0{base:Nat}{w:World}{v:Value}{n:Nat}(h:w.ownsRow base 9 1 v n (List.replicate n (.string (bs [])))):OutG StrK 1 (fun _=>False) base 9 w v (List.replicate n []):=by
 refine⟨List.replicate n [.string (bs [])],b_,fun cs h=>by rw[(jL.1 h).2];rfl,?_,fun j cs x hc hx=>?_⟩
 .have e:(List.replicate n ([.string (bs [])]:List Value)).flatten=List.replicate n (.string (bs [])):=by
   clear h
   induction n with
   | zero=>rfl
   | succ n ih=>rw[fd,dN,ih,fd];rfl
  rw[e,List.length_replicate];exact h
 .have h1:=jL.1 (am hc);have h2:=jL.1 (am hx);rw[h1.2,h2.2];exact rfl
section
variable {A:Nat->Prop}{base g n lJ:Nat}{w:World}{xs:List Bs}
def zj5(h:OutG StrK 1 A base 9 w (.slice (some ⟨g,0,none⟩) n lJ) xs)(j:Nat)(x:Bs)(hx:xs[j]? = some x):w.cell? ⟨g,j,none⟩=some (.string (bs x))/\w.frozen? ⟨g,j,none⟩=false/\g<w.heap.size/\base<=g:=by
 obtain⟨g',cs,he,h1,h2,-,-,-,hc,hr⟩:=h.at_ j x hx;cases he;obtain⟨hj,_⟩:=ak.1 hx;have ht:=h.there j hj 0 a_;have h3:=hc 0 (.string (bs x)) (by rw[show cs=[.string (bs x)]from hr];rfl);rw[fk,dl]at h3 ht;exact⟨h3,ht.2,h2,h1⟩
def zxB(h:OutG StrK 1 A base 9 w (.slice (some ⟨g,0,none⟩) n lJ) xs)(j:Nat)(hj:j<xs.length)(y:Bs):OutG StrK 1 A base 9 (w.setCell ⟨g,j,none⟩ (.string (bs y))) (.slice (some ⟨g,0,none⟩) n lJ) (xs.set j y):=by
 have:=OutG.put zkW h j hj [.string (bs y)] y rfl rfl;rw[fk]at this;exact this
end
def zDe{α:Type}(a:List α)(u y:α)(b:List α):(a++u::b).set a.length y=a++y::b:=by
 rw[List.set_append_right _ _ (aw _),fp];rfl
def zFS(a:List Bs)(n:Nat)(hn:0<n)(y:Bs):(a++List.replicate n []).set a.length y=(a++[y])++List.replicate (n - 1) []:=by
 obtain⟨m,rfl⟩:∃m,n=m+1:=⟨n - 1,a_⟩;rw[fd,zDe,Nat.add_sub_cancel,cX];rfl
structure SuA (Y:Nat) (yc:Array Value) (lang:Bs) (O PL n:Nat) (os pl:List Bs) (w:World):Prop where
 yb:Blk w Y 28 yc
 lb:Blk w (Y+1) 9 #[.string (bs lang)]
 o:OutG StrK 1 (fun _=>False) O 9 w (.slice (some ⟨O,0,none⟩) n n) os
 pla:OutG StrK 1 (fun _=>False) PL 9 w (.slice (some ⟨PL,0,none⟩) n n) pl
section
variable {Y O PL n:Nat}{yc:Array Value}{lang:Bs}{os pl:List Bs}{w w':World}
def SuA.only{T:Nat->Prop}(h:SuA Y yc lang O PL n os pl w)(k:Only T w w')(h1:¬ T Y)(h2:¬ T (Y+1))(h3:¬ T O)(h4:¬ T PL):SuA Y yc lang O PL n os pl w' :=
 ⟨h.yb.onl k h1,h.lb.onl k h2,h.o.only zkW k (fun _ _ q=>q.elim) (fun g q=>by cases q;exact h3),h.pla.only zkW k (fun _ _ q=>q.elim) (fun g q=>by cases q;exact h4)⟩
def SuA.kept(h:SuA Y yc lang O PL n os pl w)(k:Kept w w'):SuA Y yc lang O PL n os pl w' :=
 ⟨h.yb.kept k,h.lb.kept k,h.o.kept zkW k,h.pla.kept zkW k⟩
def SuA.setO(h:SuA Y yc lang O PL n os pl w)(j:Nat)(hj:j<os.length)(y:Bs)(h1:Y+1<O)(h2:O<PL):SuA Y yc lang O PL n (os.set j y) pl (w.setCell ⟨O,j,none⟩ (.string (bs y))) :=
 have k:=bK (w:=w) O j (.string (bs y))
 ⟨h.yb.onl k a_,h.lb.onl k a_,zxB h.o j hj y,h.pla.only zkW k (fun _ _ q=>q.elim) (fun g q=>by cases q;exact(show¬ (PL=O)from by omega))⟩
def SuA.setP(h:SuA Y yc lang O PL n os pl w)(j:Nat)(hj:j<pl.length)(y:Bs)(h1:Y+1<O)(h2:O<PL):SuA Y yc lang O PL n os (pl.set j y) (w.setCell ⟨PL,j,none⟩ (.string (bs y))) :=
 have k:=bK (w:=w) PL j (.string (bs y))
 ⟨h.yb.onl k a_,h.lb.onl k a_,h.o.only zkW k (fun _ _ q=>q.elim) (fun g q=>by cases q;exact(show¬ (O=PL)from by omega)),zxB h.pla j hj y⟩
end
def Tryz.keyShape(te tm:TypeId)(hm:prog.underlying tm=some (.map 95 te)):∃fs,KeyP prog tm 95 te fs:=by
 refine⟨_,hm,jQ,fun a b w=>?_,fun e a w=>?_,fun a w=>zFR a w _⟩
 .have h:(Op.equal 95 (kyP a) (kyP b)).run prog w=if a.1=b.1 then if a.2=b.2 then Result.ok true w else Result.ok false w else Result.ok false w:=by
   simp [Op.equal,Op.maxDepth,kyP,go_sem,jQ]
  rw[h];obtain⟨a1,a2⟩:=a;obtain⟨b1,b2⟩:=b;by_cases q1:a1=b1
  .by_cases q2:a2=b2
   .simp [q1,q2]
   .simp [q1,q2]
  .simp [q1]
 .have nc:∀s w,(Instr.checkKey e (9998+1) 9 (.string s)).run prog w=.ok () w:=fun s w=>by
   rw[Instr.checkKey];simp only[bo,bT aq,Result.andThen];simp [bn]
  show(Instr.checkKey e (9998+1+1) 95 (kyP a)).run prog w=.ok () w;rw[Instr.checkKey];simp only[bo,bT jQ,Result.andThen,kyP];generalize 9998+1=N at *;simp [go_sem,nc]
def zf6(w:World):(zeroValue 3).run prog w=.ok (.int .i64 0) w:=g_
def Tryz.infoSh:(prog.info? 95).map (fun i=>(i.zero,i.size,i.bytes))=some (some (.agg #[.string ⟨#[]⟩,.string ⟨#[]⟩]),2,32):=g_
def Tryz.sizeSh:(prog.info? 95).map (·.size)=some 2:=g_
def Tryz.sizeSt1:(prog.info? 9).map (·.size)=some 1:=g_
def zh3(s:SrcT)(vA vE vF:Value)(Y L I:Nat)(t1 t2:Bs)(n0:Nat):Nat->(Nat->Value)->World->Prop
 | 0,V,_=>V 0=.func (.func 35) #[] #[.pointer (some ⟨Y,0,none⟩),.pointer (some ⟨L,0,none⟩)]
 | 1,V,_=>V 1=.agg #[.string (bs s.key),.string (bs s.type),vA,vE,vF]
 | 2,V,_=>V 2=.string (bs t1)
 | 3,V,_=>V 3=.func (.func 35) #[] #[.pointer (some ⟨Y,0,none⟩),.pointer (some ⟨L,0,none⟩)]
 | 4,V,_=>V 4=.agg #[.string (bs s.key),.string (bs s.type),vA,vE,vF]
 | 5,V,_=>V 5=.string (bs t2)
 | 6,V,_=>V 6=.agg #[.string (bs t1),.string (bs t2)]
 | 7,V,w=>∃Z:Nat,V 7=.pointer (some ⟨Z,0,none⟩)/\n0<=Z/\Blk w Z 95 #[.string (bs []),.string (bs [])]
 | _,_,_=>True
def zDf{ops:Array Oper}{id:Nat}{a:Act}{wr:World}{Q:Exit->Act->World->Prop}(s:SrcT)(vA vE vF:Value)(Y L I:Nat)(t1 t2:Bs)(hc:zyU ops 9 8 #[[0,1,2,3,4,5,6,7]] #[[],[],[0,1],[],[],[3,4],[2,5],[],[6,7]] 124=true)(p0:OpAt ops 0 (.move (.tmp 10)) (some 89))(p1:OpAt ops 1 (.load 50 (.tmp 20)) (some 90))(p2:OpAt ops 2 (.call { callee:=.value (.tmp 89),args:=#[.tmp 90,.const (.string ⟨#[97]⟩)],argTypes:=#[50,9] }) (some 91))
  (p3:OpAt ops 3 (.move (.tmp 10)) (some 92))
  (p4:OpAt ops 4 (.load 50 (.tmp 20)) (some 93))
  (p5:OpAt ops 5 (.call { callee:=.value (.tmp 92),args:=#[.tmp 93,.const (.string ⟨#[98]⟩)],argTypes:=#[50,9] }) (some 94))
  (p6:OpAt ops 6 (.build 95 #[(0,.tmp 91),(1,.tmp 94)]) (some 95))
  (p7:OpAt ops 7 (.alloc 95) (some 21))
  (p8:OpAt ops 8 (.store 95 (.tmp 21) (.tmp 95)) none)
  (hz:124<=a.tmps.size) (h10:a.eval (.tmp 10)=.func (.func 35) #[] #[.pointer (some ⟨Y,0,none⟩),.pointer (some ⟨L,0,none⟩)]) (h20:a.eval (.tmp 20)=.pointer (some ⟨I,0,none⟩))
  (HB:Hi (Blk wr I 50 #[.string (bs s.key),.string (bs s.type),vA,vE,vF])) (HA:Hi (∀w',Kept wr w'->Calls prog 35 #[.agg #[.string (bs s.key),.string (bs s.type),vA,vE,vF],.string (bs [97]),.pointer (some ⟨Y,0,none⟩),.pointer (some ⟨L,0,none⟩)] w' fun e w''=>e=.returned (.string (bs t1))/\Kept w' w'')) (HC:Hi (∀w',Kept wr w'->Calls prog 35 #[.agg #[.string (bs s.key),.string (bs s.type),vA,vE,vF],.string (bs [98]),.pointer (some ⟨Y,0,none⟩),.pointer (some ⟨L,0,none⟩)] w' fun e w''=>e=.returned (.string (bs t2))/\Kept w' w''))
  (hend:∀(V:Nat->Value) w' TB,V 7=.pointer (some ⟨TB,0,none⟩)->wr.heap.size<=TB->Blk w' TB 95 #[.string (bs t1),.string (bs t2)]->Kept wr w'->Q .normal (((((((((a.put (some 89) (V 0)).put (some 90) (V 1)).put (some 91) (V 2)).put (some 92) (V 3)).put (some 93) (V 4)).put (some 94) (V 5)).put (some 95) (V 6)).put (some 21) (V 7)).put none (V 8)) w') :
  (Code.region id ops true).wp prog Q a wr:=by
 have e0:=zaF p0;have e1:=zaF p1;have e2:=zaF p2;have e3:=zaF p3;have e4:=zaF p4;have e5:=zaF p5;have e6:=zaF p6;have e7:=zaF p7;have e8:=zaF p8;have mc:∀t,(t=10\/t=20)->∀j,j<9->zgH ops j≠some t:=by
  intro t ht j hj;obtain rfl|rfl|rfl|rfl|rfl|rfl|rfl|rfl|rfl:j=0\/j=1\/j=2\/j=3\/j=4\/j=5\/j=6\/j=7\/j=8:=a_
  all_goals simp [e0,e1,e2,e3,e4,e5,e6,e7,e8]
  all_goals omega
 refine zbT 9 8 124 _ _ hc d_ hz (zh3 s vA vE vF Y L I t1 t2 wr.heap.size) (fun w=>Kept wr w) Kept
  (fun V w=>∃TB:Nat,V 7=.pointer (some ⟨TB,0,none⟩)/\wr.heap.size<=TB/\Blk w TB 95 #[.string (bs t1),.string (bs t2)]/\Kept wr w) ?_ ?_ ?_ ?_ ?_ ?_ ?_ ?_ ?_
 .intro j hj V V' w hV h;have hjj:=hV j (.inl rfl);obtain rfl|rfl|rfl|rfl|rfl|rfl|rfl|rfl|rfl:j=0\/j=1\/j=2\/j=3\/j=4\/j=5\/j=6\/j=7\/j=8:=a_
  all_goals (simp only[zh3]at h ⊢;try (rw[<- hjj];exact h))
 .intro V V' w hV h;rw[<- hV 7 (.inr b_)];exact h
 .intro j hj lV V w w' h k;obtain rfl|rfl|rfl|rfl|rfl|rfl|rfl|rfl:j=0\/j=1\/j=2\/j=3\/j=4\/j=5\/j=6\/j=7:=a_
  .exact h
  .exact h
  .exact h
  .exact h
  .exact h
  .exact h
  .exact h
  .obtain⟨Z,h1,h2,h3⟩:=h;exact⟨Z,h1,h2,h3.kept k⟩
 .intro j hj lV hni;exfalso;apply hni;have:j<8:=a_;simp only[Array.getD,dQ];obtain rfl|rfl|rfl|rfl|rfl|rfl|rfl|rfl:j=0\/j=1\/j=2\/j=3\/j=4\/j=5\/j=6\/j=7:=a_
  all_goals simp
 .exact zaB wr 1
 .intro i hi lV V a' w' hG hF hR hS K hK;have qS:=(hR 10 (mc 10 a_)).trans h10;have Gt:=(hR 20 (mc 20 a_)).trans h20;have hb:=HB.o.kept hG;have same:∀v,zh3 s vA vE vF Y L I t1 t2 wr.heap.size i (upd V i v) w'->K (a'.put (zgH ops i) v) w':=fun v h=>hK v w' (af _) hG h;obtain rfl|rfl|rfl|rfl|rfl|rfl|rfl|rfl:i=0\/i=1\/i=2\/i=3\/i=4\/i=5\/i=6\/i=7:=a_
  .exact zdC p0 qS (same _ (zaG _ _ _))
  .refine zcW p1 fun o1 ho hg' hd'=>?_;refine zaJ hg' 50 (.tmp 20) ho _ #[.string (bs s.key),.string (bs s.type),vA,vE,vF] Gt hb _ dh rfl Tryz.sizeS5 ?_;rw[hd'];exact same _ (zaG _ _ _)
  .have z0:=((hF 0 b_).2 _ e0).trans (hF 0 b_).1;have z1:=((hF 1 b_).2 _ e1).trans (hF 1 b_).1;refine zbU p2 (f:=35) (args:=#[.agg #[.string (bs s.key),.string (bs s.type),vA,vE,vF],.string (bs [97]),.pointer (some ⟨Y,0,none⟩),.pointer (some ⟨L,0,none⟩)]) (w':=w') (fun o1 ho=>?_) ((HA.o w' hG).mono fun e w'' ⟨he,hk⟩=>⟨_,he,hK _ w'' hk (hG.trans hk) (zaG _ _ _)⟩);simp only[execOp,ho,resolve,ck,bd,ca,z0,z1];simp [go_sem]
  .exact zdC p3 qS (same _ (zaG _ _ _))
  .refine zcW p4 fun o1 ho hg' hd'=>?_;refine zaJ hg' 50 (.tmp 20) ho _ #[.string (bs s.key),.string (bs s.type),vA,vE,vF] Gt hb _ dh rfl Tryz.sizeS5 ?_;rw[hd'];exact same _ (zaG _ _ _)
  .have z3:=((hF 3 b_).2 _ e3).trans (hF 3 b_).1;have z4:=((hF 4 b_).2 _ e4).trans (hF 4 b_).1;refine zbU p5 (f:=35) (args:=#[.agg #[.string (bs s.key),.string (bs s.type),vA,vE,vF],.string (bs [98]),.pointer (some ⟨Y,0,none⟩),.pointer (some ⟨L,0,none⟩)]) (w':=w') (fun o1 ho=>?_) ((HC.o w' hG).mono fun e w'' ⟨he,hk⟩=>⟨_,he,hK _ w'' hk (hG.trans hk) (zaG _ _ _)⟩);simp only[execOp,ho,resolve,ck,bd,ca,z3,z4];simp [go_sem]
  .have z2:=((hF 2 b_).2 _ e2).trans (hF 2 b_).1;have z5:=((hF 5 b_).2 _ e5).trans (hF 5 b_).1;refine zaP p6 (v:=.agg #[.string (bs t1),.string (bs t2)]) (w':=w') (fun o1 ho=>?_) (same _ (zaG _ _ _));have y91:=z2;simp only[Act.eval,bq]at y91;have Lg:=z5;simp only[Act.eval,bq]at Lg;simp only[execOp,ho];simp [go_sem,y91,Lg]
  .obtain⟨i0,hi,mr,mq,mm⟩:=cg Tryz.infoSh;refine zaP p7 (v:=.pointer (some ⟨w'.heap.size,0,none⟩)) (w':=w'.alloc (.cells #[.string (bs []),.string (bs [])] 95)) (fun o1 ho=>?_) (hK _ _ (zaA _ _) (hG.trans (zaA _ _)) ⟨w'.heap.size,zaG _ _ _,hG.size,aI _ _ _⟩);simp only[execOp,ho];simp [go_sem,hi,mr]
 .intro V a' w' hG hF hR K hK;obtain⟨⟨Z,r1,r2,r3⟩,r4⟩:=hF 7 b_;have z1:=(r4 _ e7).trans r1;have z0:=((hF 6 b_).2 _ e6).trans (hF 6 b_).1;refine zcW p8 fun o1 ho hg' hd'=>?_;refine zaI hg' 95 (.tmp 21) (.tmp 95) ho Z #[.string (bs []),.string (bs [])] #[.string (bs t1),.string (bs t2)] z1 z0 r3 rfl Tryz.sizeSh (by simp [Value.oneCell']) ?_;intro w2 mV mQ;rw[hd'];exact hK _ _ ⟨Z,(zoH a_).trans r1,r2,mV,hG.trans' (mQ.below hG.size (fun i e=>by rw[e];exact r2))⟩
 .intro i hi lV hni;exfalso;apply hni;have:i<8:=a_;obtain rfl|rfl|rfl|rfl|rfl|rfl|rfl|rfl:i=0\/i=1\/i=2\/i=3\/i=4\/i=5\/i=6\/i=7:=a_
  all_goals simp
 .intro V w' ⟨TB,g1,g2,g3,g4⟩ _;have:=hend V w' TB g1 g2 g3 g4;simp only[zc4,e0,e1,e2,e3,e4,e5,e6,e7,e8];exact this
def zh4(s:SrcT)(vA vE vF:Value)(Y L I O n ix:Nat)(t1 t2:Bs)(n0:Nat):Nat->(Nat->Value)->World->Prop
 | 0,V,_=>V 0=.func (.func 35) #[] #[.pointer (some ⟨Y,0,none⟩),.pointer (some ⟨L,0,none⟩)]
 | 1,V,_=>V 1=.agg #[.string (bs s.key),.string (bs s.type),vA,vE,vF]
 | 2,V,_=>V 2=.slice (some ⟨O,0,none⟩) n n
 | 3,V,_=>V 3=.int .i64 ix
 | 4,V,_=>V 4=.pointer (some ⟨O,ix,none⟩)
 | 5,V,_=>V 5=.string (bs t1)
 | 6,V,_=>V 6=.string (bs t2)
 | _,_,_=>True
def zDg{ops:Array Oper}{id:Nat}{a:Act}{wr:World}{Q:Exit->Act->World->Prop}(s:SrcT)(vA vE vF:Value)(Y L I O n ix:Nat)(t1 t2:Bs)(hc:zyU ops 8 7 #[[0,1,2,3,4,5,6]] #[[],[],[],[],[2,3],[4],[0,1,5],[6]] 124=true)(p0:OpAt ops 0 (.move (.tmp 10)) (some 109))(p1:OpAt ops 1 (.load 50 (.tmp 20)) (some 110))(p2:OpAt ops 2 (.move (.tmp 9)) (some 111))(p3:OpAt ops 3 (.move (.tmp 19)) (some 112))(p4:OpAt ops 4 (.indexAddr 37 (.tmp 111) (.tmp 112)) (some 113))(p5:OpAt ops 5 (.load 9 (.tmp 113)) (some 114))(p6:OpAt ops 6 (.call { callee:=.value (.tmp 109),args:=#[.tmp 110,.tmp 114],argTypes:=#[50,9] }) (some 115))
  (p7:OpAt ops 7 (.assign (.tmp 115)) (some 22))
  (hz:124<=a.tmps.size) (h9:a.eval (.tmp 9)=.slice (some ⟨O,0,none⟩) n n) (h10:a.eval (.tmp 10)=.func (.func 35) #[] #[.pointer (some ⟨Y,0,none⟩),.pointer (some ⟨L,0,none⟩)]) (h19:a.eval (.tmp 19)=.int .i64 ix) (h20:a.eval (.tmp 20)=.pointer (some ⟨I,0,none⟩))
  (HB:Hi (Blk wr I 50 #[.string (bs s.key),.string (bs s.type),vA,vE,vF])) (Ac:Hi (O<wr.heap.size/\wr.cell? ⟨O,ix,none⟩=some (.string (bs t1)))) (nc:ix<n) (hn:n<=100) (HA:Hi (∀w',Kept wr w'->Calls prog 35 #[.agg #[.string (bs s.key),.string (bs s.type),vA,vE,vF],.string (bs t1),.pointer (some ⟨Y,0,none⟩),.pointer (some ⟨L,0,none⟩)] w' fun e w''=>e=.returned (.string (bs t2))/\Kept w' w''))
  (hend:∀(V:Nat->Value) w',V 7=.string (bs t2)->Kept wr w'->Q .normal ((((((((a.put (some 109) (V 0)).put (some 110) (V 1)).put (some 111) (V 2)).put (some 112) (V 3)).put (some 113) (V 4)).put (some 114) (V 5)).put (some 115) (V 6)).put (some 22) (V 7)) w') :
  (Code.region id ops true).wp prog Q a wr:=by
 have e0:=zaF p0;have e1:=zaF p1;have e2:=zaF p2;have e3:=zaF p3;have e4:=zaF p4;have e5:=zaF p5;have e6:=zaF p6;have e7:=zaF p7;have mc:∀t,(t=9\/t=10\/t=19\/t=20)->∀j,j<8->zgH ops j≠some t:=by
  intro t ht j hj;obtain rfl|rfl|rfl|rfl|rfl|rfl|rfl|rfl:j=0\/j=1\/j=2\/j=3\/j=4\/j=5\/j=6\/j=7:=a_
  all_goals simp [e0,e1,e2,e3,e4,e5,e6,e7]
  all_goals omega
 refine zbT 8 7 124 _ _ hc d_ hz (zh4 s vA vE vF Y L I O n ix t1 t2 wr.heap.size) (fun w=>Kept wr w) Kept
  (fun V w=>V 7=.string (bs t2)/\Kept wr w) ?_ ?_ ?_ ?_ ?_ ?_ ?_ ?_ ?_
 .intro j hj V V' w hV h;have hjj:=hV j (.inl rfl);obtain rfl|rfl|rfl|rfl|rfl|rfl|rfl|rfl:j=0\/j=1\/j=2\/j=3\/j=4\/j=5\/j=6\/j=7:=a_
  all_goals (simp only[zh4]at h ⊢;try (rw[<- hjj];exact h))
 .intro V V' w hV h;rw[<- hV 7 (.inl rfl)];exact h
 .intro j hj lV V w w' h k;obtain rfl|rfl|rfl|rfl|rfl|rfl|rfl:j=0\/j=1\/j=2\/j=3\/j=4\/j=5\/j=6:=a_
  all_goals exact h
 .intro j hj lV hni;exfalso;apply hni;have:j<7:=a_;simp only[Array.getD,dQ];obtain rfl|rfl|rfl|rfl|rfl|rfl|rfl:j=0\/j=1\/j=2\/j=3\/j=4\/j=5\/j=6:=a_
  all_goals simp
 .exact zaB wr 1
 .intro i hi lV V a' w' hG hF hR hS K hK;have o9:=(hR 9 (mc 9 a_)).trans h9;have qS:=(hR 10 (mc 10 a_)).trans h10;have N3:=(hR 19 (mc 19 a_)).trans h19;have Gt:=(hR 20 (mc 20 a_)).trans h20;have hb:=HB.o.kept hG;have c0:w'.cell? ⟨O,ix,none⟩=some (.string (bs t1)):=(hG.cell (p:=⟨O,ix,none⟩) Ac.o.1).trans Ac.o.2;have same:∀v,zh4 s vA vE vF Y L I O n ix t1 t2 wr.heap.size i (upd V i v) w'->K (a'.put (zgH ops i) v) w':=fun v h=>hK v w' (af _) hG h;obtain rfl|rfl|rfl|rfl|rfl|rfl|rfl:i=0\/i=1\/i=2\/i=3\/i=4\/i=5\/i=6:=a_
  .exact zdC p0 qS (same _ (zaG _ _ _))
  .refine zcW p1 fun o1 ho hg' hd'=>?_;refine zaJ hg' 50 (.tmp 20) ho _ #[.string (bs s.key),.string (bs s.type),vA,vE,vF] Gt hb _ dh rfl Tryz.sizeS5 ?_;rw[hd'];exact same _ (zaG _ _ _)
  .exact zdC p2 o9 (same _ (zaG _ _ _))
  .exact zdC p3 N3 (same _ (zaG _ _ _))
  .have z2:=((hF 2 b_).2 _ e2).trans (hF 2 b_).1;have z3:=((hF 3 b_).2 _ e3).trans (hF 3 b_).1;have z2:=((hF 2 b_).2 _ e2).trans (hF 2 b_).1;have z3:=((hF 3 b_).2 _ e3).trans (hF 3 b_).1;refine zaP p4 (v:=.pointer (some ⟨O,ix,none⟩)) (w':=w') (fun o1 ho=>?_) (same _ (zaG _ _ _));simp only[execOp,ho,z2,z3];simp [go_sem,dw,Tryz.sizeSt1];intro hh;omega
  .have z4:=((hF 4 b_).2 _ e4).trans (hF 4 b_).1;refine zaP p5 (v:=.string (bs t1)) (w':=w') (fun o1 ho=>?_) (same _ (zaG _ _ _));simp only[execOp,ho,z4];simp [go_sem,aq,c0]
  .have z0:=((hF 0 b_).2 _ e0).trans (hF 0 b_).1;have z1:=((hF 1 b_).2 _ e1).trans (hF 1 b_).1;have z5:=((hF 5 b_).2 _ e5).trans (hF 5 b_).1;refine zbU p6 (f:=35) (args:=#[.agg #[.string (bs s.key),.string (bs s.type),vA,vE,vF],.string (bs t1),.pointer (some ⟨Y,0,none⟩),.pointer (some ⟨L,0,none⟩)]) (w':=w') (fun o1 ho=>?_) ((HA.o w' hG).mono fun e w'' ⟨he,hk⟩=>⟨_,he,hK _ w'' hk (hG.trans hk) (zaG _ _ _)⟩);simp only[execOp,ho,resolve,ck,bd,ca,z0,z1,z5];simp [go_sem]
 .intro V a' w' hG hF hR K hK;have z0:=((hF 6 b_).2 _ e6).trans (hF 6 b_).1;exact zsO p7 z0 (hK _ _ ⟨zaG _ _ _,hG⟩)
 .intro i hi lV hni;exfalso;apply hni;have:i<7:=a_;obtain rfl|rfl|rfl|rfl|rfl|rfl|rfl:i=0\/i=1\/i=2\/i=3\/i=4\/i=5\/i=6:=a_
  all_goals simp
 .intro V w' ⟨g1,g2⟩ _;have:=hend V w' g1 g2;simp only[zc4,e0,e1,e2,e3,e4,e5,e6,e7];exact this
def SufPo(r:Int×List Bs)(w:World)(e:Ending)(w':World):Prop:=∃v,e=.returned (.tuple #[v,.int .i64 r.1])/\Strs w' v r.2/\Kept w w'
def zvJ(l:List SrcT):(l.map fun _=>([]:Bs))=List.replicate l.length []:=by
 induction l with
 | nil=>rfl
 | cons x l ih=>rw[bd,ih,az,fd]
def ztB{l:List Bs}{f:Bs->Bool}{k:Nat}{p:Bs}(h:l[k]? = some p):(l.take (k+1)).filter f=(l.take k).filter f++(if f p=true then [p]else []):=by
 rw[eo,h,gY];congr 1;show [p].filter f=_;rw[eh,List.filter_nil]
def zDh{l:List Bs}{k:Nat}{p:Bs}(h:l[k]? = some p)(h1:l.count p=1):p∉l.take k:=by
 intro q;obtain⟨hk,e⟩:=ak.1 h;have e1:l=l.take k++l.drop k:=(ce k l).symm;rw[e1,gj]at h1;have h2:1<=(l.take k).count p:=List.one_le_count_iff.2 q;have h3:1<=(l.drop k).count p:=List.one_le_count_iff.2 (by rw[aJ hk,e];exact bI ..);omega
def ztC(v vE:Value)(l:List SrcT)(y:StyT)(lang:Bs)(w:World)(ni:EnvC w)(hv:Srcs w v l)(hl:l.length<=8)(mI:∀s∈l,FitL s)(hE:Prs w vE y.entries)(hy:SmallY y)(hym : -9223372036854775808<=y.most/\y.most<=9223372036854775807):Calls prog 19 #[v,zfA vE y,.string (bs lang)] w (SufPo (zjI y lang l) w):=by
 obtain⟨i0,hi,mr,mq,mm⟩:=cg Tryz.infoStr;obtain⟨a,c,rfl,hc⟩:=(show∃a c,v=.slice a l.length c/\l.length<=c by obtain⟨a,c,e,q,_⟩:=hv;exact⟨a,c,e,q⟩);obtain⟨aE,cE,rfl,lE⟩:=(show∃a c,vE=.slice a y.entries.length c/\y.entries.length<=c by obtain⟨a,c,e,q,_⟩:=hE;exact⟨a,c,e,q⟩);have lg:=Hd ((zaA w (.cells (zaK (.slice aE y.entries.length cE) y) 28)).trans (zaA _ (.cells #[.string (bs lang)] 9)));have mM:=Hd ((aI w 28 (zaK (.slice aE y.entries.length cE) y)).alloc (.cells #[.string (bs lang)] 9));have xM:=Hd (aI (w.alloc (.cells (zaK (.slice aE y.entries.length cE) y) 28)) 9 #[.string (bs lang)]);have qP:=Hd (fun w' (k:Kept w w')=>zjP (.slice aE y.entries.length cE) y w' (ni.gnd.kept k) hy (hE.kept k));have sE:=Hd ni;have HV:=Hd hv;have qe:=Hd mI;have Lh:Hi (y.cite.length<=100000):=hy.2.2.1;have Li:=Hd hym;have sI:Hi (zcU y≠0->∀w',Kept w w'->SufPo (zjI y lang l) w (.returned (.tuple #[.slice none 0 0,.int .i64 (zcU y)])) w'):=fun h w' k=>by
  unfold zjI;rw[aa h];exact⟨_,rfl,eZ _,k⟩
 have sJ:Hi (zcU y=0->y.numeric=true->∀u w',Strs w' u (List.replicate l.length [])->Kept w w'->SufPo (zjI y lang l) w (.returned (.tuple #[u,.int .i64 0])) w'):=fun h hn u w' h1 k=>by
  unfold zjI;rw[ae h,ae hn,zvJ];exact⟨_,rfl,h1,k⟩
 have An:Hi (zcU y=0->y.numeric=false->∀u w',Strs w' u ((zE4 (l.map (zuM y lang))).map zeN)->Kept w w'->SufPo (zjI y lang l) w (.returned (.tuple #[u,.int .i64 0])) w'):=fun h hn u w' h1 k=>by
  unfold zjI;rw[ae h,aa (by rw[hn];simp)];exact⟨_,rfl,h1,k⟩
 generalize SufPo (zjI y lang l) w=P at *;clear ni hv mI hE hy hym;obtain⟨B,mW⟩:=gX w.heap.size;have xO:w.heap.size<=B:=(by rw[mW.o];exact aw _);rw[de]at xM;rw[mW.o]at mM xM;have Ek:Hi ((Value.slice aE y.entries.length cE).oneCell'=true):=rfl;obtain⟨YC,oX⟩:=gX (zaK (.slice aE y.entries.length cE) y);have oi:=Hd (zc9 mM.o);unfold zfA zaK at qP;unfold zaK at lg oi xM;unfold zfA zaK;go_in;go_upto_region 1 with fail;rw[mW.o];have hY0:=mM.o;unfold zaK at hY0;have vX:=Hd hY0;clear hY0 mM;generalize World.alloc (World.alloc w _) _=w0 at *;have yp:B+1<w0.heap.size:=xM.o.lt;obtain⟨⟨b0,b1,b2,b3,b4,b5,b6,b7,b8,b9⟩,bz⟩:=oi.o;have qd:=Hd (qP.o w0 lg.o);clear qP;go_wp2_with fail;refine k_ qd.o fun w1 ld=>?_;have kT:=Hd (lg.o.trans ld);have qi:Hi (Blk w1 B 28 YC):=(by rw[<- oX.o];exact vX.o.kept ld);have wD:=Hd (xM.o.kept ld);clear ld qd vX xM lg oi b0 b1 b2 b3 b4 b5 b6 b7 b8 b9 bz;by_cases he:¬ zcU y=0
 .have lV:(zcU y==0)=false:=(by rw[ab];exact he);have hnb:(zcU y != 0)=true:=(by rw[dd];exact he);have HF:=Hd (sI.o he w1 kT.o);generalize zcU y=E at *;go_wp2_with fail
  (try go_ret2)
  exact HF.o
 .have he:zcU y=0:=dR.1 he;have IZ:=Hd (sJ.o he);have I0:=Hd (An.o he);have CK:=Hd he;rw[he];clear sI sJ An he;obtain⟨n,HN⟩:=gX l.length;obtain⟨w2,mkS,BO,Lj⟩:=run_makeSlice_full (P:=prog) (w:=w1) w1.heap.size 37 9 i0 _ 1 dw hi mr mq .i64 .i64 l.length a_ (by rw[mm];omega) h_ (aw _);have nf:Value.cells (.string ⟨#[]⟩)=#[.string (bs [])]:=rfl;rw[nf,fk,toList_madeCells_one]at BO;have ll:Kept w1 w2:=(ch Lj).below (aw _) (fun i h=>by cases h);have mJ:=Hd (OutG.strs0 BO);have kX:=Hd (kT.o.trans ll);have BP:=Hd (qi.o.kept ll);have El:=Hd (wD.o.kept ll);have ma:Hi (B+1<w1.heap.size):=wD.o.lt;have hy2:=BP.o;rw[<- oX.o]at hy2;obtain⟨⟨-,b1,-,-,-,-,-,-,-,-⟩,bz⟩:=zc9 hy2;clear BO Lj ll hy2 qi wD;cases wS:y.numeric with
  | true =>
   have HF:=Hd (IZ.o wS _ w2 (iI mJ.o) kX.o);rw[wS]at b1;go_wp2_with fail
   (try go_ret2)
   exact HF.o
  | false =>
   have HF:=Hd (I0.o wS);have Ll:=Hd wS;rw[wS]at b1;obtain⟨O,I1⟩:=gX w1.heap.size;rw[I1.o]at mJ ma mkS;obtain⟨w3,Lm,BQ,Ln⟩:=run_makeSlice_full (P:=prog) (w:=w2) w2.heap.size 37 9 i0 _ 1 dw hi mr mq .i64 .i64 l.length a_ (by rw[mm];omega) h_ (aw _);rw[nf,fk,toList_madeCells_one]at BQ;have li:Kept w2 w3:=(ch Ln).below (aw _) (fun i h=>by cases h);have uc:=Hd (OutG.strs0 BQ);have Gu:Hi (O<w2.heap.size):=(mJ.o.blk O rfl).2;have I2:=ep (P:=prog) 92 w3;have tr:=Hd ((kX.o.trans li).trans (zaA w3 (.map #[] 0)));have pX:Hi (MapT (w3.alloc (.map #[] 0)) w3.heap.size []):=MapT.made w3;have sB:Hi (w2.heap.size<w3.heap.size):=(uc.o.blk w2.heap.size rfl).2;have oG:Hi (SuA B YC lang O w2.heap.size l.length (List.replicate l.length []) (List.replicate l.length []) (w3.alloc (.map #[] 0))) :=
    ⟨(BP.o.kept li).kept (zaA _ _),(El.o.kept li).kept (zaA _ _),(mJ.o.kept zkW li).kept zkW (zaA _ _),uc.o.kept zkW (zaA _ _)⟩
   obtain⟨PL,yl⟩:=gX w2.heap.size;obtain⟨TM,tK⟩:=gX w3.heap.size;rw[yl.o]at Gu sB oG Lm;rw[tK.o]at sB pX;have BR:Hi (TM<(w3.alloc (.map #[] 0)).heap.size):=pX.o.lt;obtain⟨ps,qI⟩:=gX ((l.map (zuM y lang)).map (·.1));have vk:Hi (∀(k:Nat) x,l[k]? = some x->ps[k]? = some (zuL x y lang [])):=fun k x h=>by
    rw[<- qI.o,dy,dy,h];rfl
   have sb:Hi (ps.length=l.length):=(by show _=_;rw[<- qI.o,bm,bm]);clear BQ Ln li uc BP El mJ kX kT HN;go_upto_region 10 with fail;rw[tK.o]
   try rw[I1.o]
   try rw[yl.o]
   clear I2 mkS Lm b1 bz I1 yl tK;generalize w3.alloc _=w4 at *;go_wp2_with fail;go_loopw [41] (fun i wr=>∃(k:Nat) (es:List (Bs×Value)),k<=l.length/\i=.int .i64 k/\Hi (SuA B YC lang O PL l.length (List.replicate l.length []) (ps.take k++List.replicate (l.length - k) []) wr)/\Hi (MapT wr TM es)/\Hi (∀t,(zd5 es t).getD (.int .i64 0)=.int .i64 ((ps.take k).count t:Nat))/\Hi (Kept w wr)/\Hi (TM<wr.heap.size)) (fun i _=>l.length - (intOf i).toNat)
   .exact⟨0,[],ai _,rfl,(by rw[cH,dV,Nat.sub_zero];exact oG.o),pX.o,(fun t=>by rw[cH];rfl),tr.o,BR.o⟩
   case round =>
    clear oG pX tr BR;obtain⟨k,es,hk,rfl,oG,pX,CT,kO,BR⟩:=hrel;by_cases kV:k<l.length
    .obtain⟨x,hx⟩:∃x,l[k]? = some x:=⟨_,ac kV⟩;have hft:=qe.o x (am hx);have hpx:=vk.o k x hx;obtain⟨g,o,vA,vE,vF,rfl,hg,c0,c1,c2,c3,c4,pA,pE,pF⟩:=kF (HV.o.kept kO.o) k x hx;obtain⟨aA,cA,rfl,lA⟩:=pA.shape;obtain⟨aS,cS,rfl,lS⟩:=pE.shape;obtain⟨aF,cF,rfl,lF⟩:=(show∃a c,vF=.slice a x.fields.length c/\x.fields.length<=c by obtain⟨a,c,e,l,_⟩:=pF;exact⟨a,c,e,l⟩);have kZ:=Hd (zaA wr (.cells #[.string (bs x.key),.string (bs x.type),.slice aA x.author.length cA,.slice aS x.editor.length cS,.slice aF x.fields.length cF] 50));have oJ:=Hd (oG.o.kept kZ.o);have qO:=Hd (zmV B (B+1) (.slice aA x.author.length cA) (.slice aS x.editor.length cS) (.slice aF x.fields.length cF) (.slice aE y.entries.length cE) x y lang [] _ (sE.o.kept (kO.o.trans kZ.o)) (by rw[oX.o];exact oJ.o.yb) oJ.o.lb Ek.o Lh.o Li.o (pA.kept kZ.o) (pE.kept kZ.o) (pF.kept kZ.o) hft b_);obtain⟨p,Ag⟩:=gX (zuL x y lang []);rw[Ag.o]at hpx qO;have mD:Hi (ps.take (k+1)=ps.take k++[p]):=(by show _=_;rw[eo,hpx];rfl);have td:Hi ((ps.take k).length=k):=(by show _=_;rw[bw,sb.o];omega);have Lo:=Hd (fun t=>zyY (x:=t) hpx);clear pA pE pF hx hft hpx Ag;go_wp2_with fail;refine k_ qO.o fun w5 lU=>?_;have lX:=Hd ((kO.o.trans kZ.o).trans lU);have BS:=Hd (oJ.o.kept lU);have BT:=Hd ((pX.o.kept kZ.o).kept lU);have La:TM<w5.heap.size:=BT.o.lt;have hget:(ps.take k++List.replicate (l.length - k) ([]:Bs))[k]? = some []:=by
      rw[bp (by rw[td.o];exact aw _),td.o,fp,List.getElem?_replicate,ae a_]
     obtain⟨q0,q1,q2,-⟩:=zj5 BS.o.pla k [] hget;have hop:=Gu.o;have hpt:=sB.o;have mX:=ma.o;have mh:k<(ps.take k++List.replicate (l.length - k) ([]:Bs)).length:=(by rw[ah,td.o,List.length_replicate];omega);have yS:=Hd (BS.o.setP k mh p mX hop);have hset:(ps.take k++List.replicate (l.length - k) ([]:Bs)).set k p=ps.take (k+1)++List.replicate (l.length - (k+1)) []:=by
      have:=zFS (ps.take k) (l.length - k) a_ p;rw[td.o]at this;rw[this,mD.o,Nat.sub_sub]
     rw[hset]at yS;have pn:=bK (w:=w5) PL k (.string (bs p));have yT:=Hd (BT.o.only pn a_);have lH:=Hd (lX.o.trans' (pn.below lX.o.size (fun i e=>by omega)));have hnext:(ps.take (k+1)++List.replicate (l.length - (k+1)) ([]:Bs))[k]? = some p:=by
      rw[bX (by rw[mD.o,ah,td.o];simp),mD.o,bp (by rw[td.o];exact aw _),td.o,fp];rfl
     obtain⟨r0,-,r2,-⟩:=zj5 yS.o.pla k p hnext;have lk:=zEX (P:=prog) (tm:=92) (te:=3) hU aq (w5.setCell ⟨PL,k,none⟩ (.string (bs p))) TM es p (.int .i64 0) (zf6 _) yT.o;rw[CT.o p]at lk;obtain⟨m,rF⟩:=gX ((ps.take k).count p);have Q6:m<=8:=by
      rw[<- rF.o];have:=gG (a:=p) (l:=ps.take k);rw[td.o]at this;omega
     rw[rF.o]at lk;obtain⟨es',hes,up⟩:=upT (P:=prog) (tm:=92) (te:=3) hU aq (w5.setCell ⟨PL,k,none⟩ (.string (bs p))) TM es p (.int .i64 ((m:Int)+1)) yT.o;have qB:=zfF (w5.setCell ⟨PL,k,none⟩ (.string (bs p))) TM es';have BU:=Hd (yS.o.only qB a_ a_ a_ a_);have yU:=Hd (zg4 (w5.setCell ⟨PL,k,none⟩ (.string (bs p))) TM es' yT.o.lt);have mE:=Hd (lH.o.trans' (qB.below lH.o.size (fun i e=>by omega)));have I3:Hi (∀t,(zd5 es' t).getD (.int .i64 0)=.int .i64 ((ps.take (k+1)).count t:Nat)):=fun t=>by
      rw[hes t,Lo.o t];by_cases q:t=p
      .subst q;rw[ae rfl,rF.o,ae b_];rfl
      .rw[aa q,CT.o t,aa (by simp;exact fun e=>q e.symm)];rfl
     have I4:Hi (TM<(ztR (w5.setCell ⟨PL,k,none⟩ (.string (bs p))) TM es').heap.size):=yU.o.lt;clear hget mh hset hnext pn qB hes yS BS oJ oG yT BT pX lH lX CT Lo kZ qO mD td rF lU hop hpt mX BR;go_wp2;go_roundw
     .exact⟨k+1,es',a_,by go_num,BU.o,yU.o,I3.o,mE.o,I4.o⟩
     .simp [intOf];omega
    .obtain rfl:k=l.length:=a_;have hpt:ps.take l.length=ps:=(by rw[<- sb.o,bi]);rw[hpt,fp,List.replicate_zero,bN]at oG;rw[hpt]at CT;have I5:=ep (P:=prog) 81 wr;have lj:=zaA wr (.map #[] 0);have oa:Hi (MapK (wr.alloc (.map #[] 0)) wr.heap.size []):=MapK_made wr;have sH:=Hd (oG.o.kept lj);have BV:=Hd (pX.o.kept lj);have tv:=Hd (kO.o.trans lj);obtain⟨TK,tK⟩:=gX wr.heap.size;rw[tK.o]at oa BR;clear hpt lj oG pX kO;go_upto_region 17 with fail;rw[tK.o];clear I5 tK;generalize wr.alloc _=w5 at *;go_wp2_with fail;obtain⟨wo,rfl⟩:∃wo:World,wo=wr:=⟨_,rfl⟩;go_loopw [63] (fun i wr=>∃(k:Nat),k<=l.length/\i=.int .i64 k/\Hi (SuA B YC lang O PL l.length (List.replicate l.length []) ps wr)/\Hi (MapT wr TM es)/\Hi (MapK wr TK ((ps.take k).filter (zbZ ps)))/\Hi (Kept w wr)) (fun i _=>l.length - (intOf i).toNat)
     .exact⟨0,ai _,rfl,sH.o,BV.o,(by rw[cH];exact oa.o),tv.o⟩
     case round =>
      clear sH BV oa tv;obtain⟨k,hk,rfl,oG,pX,sq,kO⟩:=hrel;by_cases kV:k<l.length
      .obtain⟨p,hx⟩:∃x,ps[k]? = some x:=⟨_,ac (by rw[sb.o];exact kV)⟩;obtain⟨q0,-,q2,-⟩:=zj5 oG.o.pla k p hx;have hmz:=pX.o.lt;have lk:=zEX (P:=prog) (tm:=92) (te:=3) hU aq wr TM es p (.int .i64 0) (zf6 _) pX.o;rw[CT.o p]at lk;obtain⟨m,rF⟩:=gX (ps.count p);rw[rF.o]at lk;have mD:=Hd (ztB (f:=zbZ ps) hx);by_cases hm1:m=1
       .have hal:zbZ ps p=true:=(by unfold zbZ;rw[rF.o,hm1];rfl);have hmb:((m:Int)==1)=true:=(by rw[hm1];rfl);have Gv:(m:Int)=1:=(by rw[hm1];rfl);rw[hal]at mD;have hnot:p∉(ps.take k).filter (zbZ ps):=fun q=>zDh hx (by rw[rF.o];exact hm1) (eU.1 q).1;obtain⟨us,nY⟩:=gX ((ps.take k).filter (zbZ ps));rw[nY.o]at sq mD hnot;have up:=zIO wr TK us p sq.o hnot;have qB:=zdX wr TK (us++[p]);have mX:=ma.o;have hop:=Gu.o;have hpt:=sB.o;have htz:=BR.o;have BU:=Hd (oG.o.only qB a_ a_ a_ a_);have yU:=Hd (pX.o.only qB a_);have BW:Hi (MapK (zo9 wr TK (us++[p])) TK ((ps.take (k+1)).filter (zbZ ps))):=(by rw[mD.o];exact zg3 wr TK (us++[p]) sq.o.lt);have mE:=Hd (kO.o.trans' (qB.below kO.o.size (fun i e=>by omega)));clear qB hnot hal hx mD nY oG pX sq kO rF mX hop hpt htz;go_wp2;go_roundw
        .exact⟨k+1,a_,by go_num,BU.o,yU.o,BW.o,mE.o⟩
        .simp [intOf];omega
       .have hal:zbZ ps p=false:=(by unfold zbZ;rw[rF.o,ab];exact hm1);have hmb:((m:Int)==1)=false:=(by rw[ab];omega);have Gv:¬ (m:Int)=1:=a_;rw[hal]at mD;have BW:Hi (MapK wr TK ((ps.take (k+1)).filter (zbZ ps))):=(by rw[mD.o];simp only[dr,fe,bN];exact sq.o);clear hal hx mD sq rF;go_wp2;go_roundw
        .exact⟨k+1,a_,by go_num,oG.o,pX.o,BW.o,kO.o⟩
        .simp [intOf];omega
      .obtain rfl:k=l.length:=a_;have hpt:ps.take l.length=ps:=(by rw[<- sb.o,bi]);rw[hpt]at sq;have I5:=ep (P:=prog) 93 wr;have lj:=zaA wr (.map #[] 0);have I6:Hi (MapQ (wr.alloc (.map #[] 0)) wr.heap.size []):=MapQ.made wr;have sH:=Hd (oG.o.kept lj);have BV:=Hd (pX.o.kept lj);have oa:=Hd (fP sq.o lj);have tv:=Hd (kO.o.trans lj);have oh:Hi (TK<wr.heap.size):=sq.o.lt;obtain⟨NX,tK⟩:=gX wr.heap.size;rw[tK.o]at I6 oh;clear hpt lj oG pX kO sq;go_upto_region 24 with fail;rw[tK.o];clear I5 tK;generalize wr.alloc _=w6 at *;go_wp2_with fail;obtain⟨xs,uz⟩:=gX (l.map (zuM y lang));have N4:Hi (∀(k:Nat) x,l[k]? = some x->xs[k]? = some (zuM y lang x)):=fun k x h=>(by rw[<- uz.o,dy,h];rfl);have Lp:Hi (xs.length=l.length):=(by show _=_;rw[<- uz.o,bm]);have Lq:Hi (∀z∈xs,none∈z.2):=fun z hz=>by
        rw[<- uz.o]at hz;obtain⟨t,-,rfl⟩:=bQ.1 hz;exact zmU CK.o Ll.o lang t
       rw[uz.o]at HF qI;have I7:Hi (∀k:Nat,SufI ps (xs.take k) (zcA ps (xs.take k))):=fun k=>by
        have:=zpZ xs Lq.o (xs.take k) (xs.drop k) (ce k xs);rw[qI.o]at this;exact this
       have Lr:Hi (zE4 xs=(zcA ps (xs.take xs.length)).o):=(by show _=_;rw[bi];unfold zE4;rw[qI.o]);rw[Lr.o,Lp.o]at HF;clear uz Lr;obtain⟨Q7,rfl⟩:∃wo:World,wo=wr:=⟨_,rfl⟩;go_loopw [77] (fun i wr=>∃(k:Nat) (yV:List (KyP×Value)),k<=l.length/\i=.int .i64 k/\Hi (SuA B YC lang O PL l.length ((zcA ps (xs.take k)).o.map zeN++List.replicate (l.length - k) []) ps wr)/\Hi (MapT wr TM es)/\Hi (MapK wr TK (zcA ps (xs.take k)).taken)/\Hi (MapQ wr NX yV)/\Hi (∀q,(zj4 yV q).getD (.int .i64 0)=.int .i64 ((zcA ps (xs.take k)).next q:Nat))/\Hi (Kept w wr)) (fun i _=>l.length - (intOf i).toNat)
       .exact⟨0,[],ai _,rfl,sH.o,BV.o,oa.o,I6.o,(fun q=>rfl),tv.o⟩
       case round =>
        clear sH BV oa I6 tv;obtain⟨k,yV,hk,rfl,oG,pX,sq,BX,yd,kO⟩:=hrel;by_cases kV:k<l.length
        .obtain⟨x,hx⟩:∃x,l[k]? = some x:=⟨_,ac kV⟩;have hft:=qe.o x (am hx);have hpx:=vk.o k x hx;have Ee:=N4.o k x hx;have Em:=Hd (Lq.o _ (am Ee));have BY:=Hd (I7.o k);have uK:Hi (zcA ps (xs.take (k+1))=zgT ps (zcA ps (xs.take k)) (zuM y lang x)):=by
          show _=_;rw[eo,Ee];exact zh1 _ _ _
         have si:Hi ((zcA ps (xs.take k)).o.length=k):=by
          show _=_;rw[BY.o.len,bw,Lp.o];omega
         have td:Hi ((zcA ps (xs.take k)).taken.length<=16):=by
          show _<=_;have:=zwO BY.o (by rw[bw,sb.o];omega);rw[sb.o]at this;omega
         obtain⟨st,mj⟩:=gX (zcA ps (xs.take k));rw[mj.o]at oG sq yd BY uK si td;clear mj;obtain⟨g,o,vA,vE,vF,rfl,hg0,e0,e1,e2,e3,e4,pA,pE,pF⟩:=kF HV.o k x hx;have c0:=(kO.o.cell (p:=⟨g,o+k * 5,none⟩) hg0).trans e0;have c1:=(kO.o.cell (p:=⟨g,o+k * 5+1,none⟩) hg0).trans e1;have c2:=(kO.o.cell (p:=⟨g,o+k * 5+2,none⟩) hg0).trans e2;have c3:=(kO.o.cell (p:=⟨g,o+k * 5+3,none⟩) hg0).trans e3;have c4:=(kO.o.cell (p:=⟨g,o+k * 5+4,none⟩) hg0).trans e4;have hg:g<wr.heap.size:=aU hg0 kO.o.size;obtain⟨aA,cA,rfl,lA⟩:=pA.shape;obtain⟨aS,cS,rfl,lS⟩:=pE.shape;obtain⟨aF,cF,rfl,lF⟩:=(show∃a c,vF=.slice a x.fields.length c/\x.fields.length<=c by obtain⟨a,c,e,l,_⟩:=pF;exact⟨a,c,e,l⟩);have tA:=Hd pA;have I8:=Hd pE;have I9:=Hd pF;have Ja:=Hd hft;have lj:=zaA wr (.cells #[.string (bs x.key),.string (bs x.type),.slice aA x.author.length cA,.slice aS x.editor.length cS,.slice aF x.fields.length cF] 50);have pH:=Hd (aI wr 50 #[.string (bs x.key),.string (bs x.type),.slice aA x.author.length cA,.slice aS x.editor.length cS,.slice aF x.fields.length cF]);have oJ:=Hd (oG.o.kept lj);have sA:=Hd (pX.o.kept lj);have yW:=Hd (fP sq.o lj);have BZ:=Hd (BX.o.kept lj);have ql:=Hd (kO.o.trans lj);have rl:=Hd (show Kept wr _ from lj);have Jb:=Hd pA;have Jc:=Hd pE;have Jd:=Hd pF;have ym:Hi (NX<wr.heap.size):=BX.o.lt;obtain⟨I,yX⟩:=gX wr.heap.size;rw[yX.o]at pH ym;obtain⟨X,sw⟩:=gX (zuM y lang x);have qd:Hi (∀n:Nat,zuL x y lang (zeN n)=zfO X n):=fun n=>(by rw[<- sw.o];exact zJh CK.o Ll.o lang x n);rw[sw.o]at uK Em;have yP:Hi (X.1=zuL x y lang []):=(by show _=_;rw[<- sw.o];rfl);obtain⟨p,Ag⟩:=gX (zuL x y lang []);rw[Ag.o]at hpx yP;clear pA pE pF hft hx Ee lj tA I8 I9 e0 e1 e2 e3 e4 hg0 sw Ag oG pX sq BX kO;go_upto_region 27 with fail;rw[yX.o];clear c0 c1 c2 c3 c4 hg yX rl;generalize wr.alloc _=w7 at *;obtain⟨q0,-,q2,-⟩:=zj5 oJ.o.pla k p hpx;have hmz:=sA.o.lt;have lk:=zEX (P:=prog) (tm:=92) (te:=3) hU aq w7 TM es p (.int .i64 0) (zf6 _) sA.o;rw[CT.o p]at lk;obtain⟨m,rF⟩:=gX (ps.count p);rw[rF.o]at lk;by_cases hm1:m=1
         .have hal:zbZ ps X.1=true:=(by rw[yP.o];unfold zbZ;rw[rF.o,hm1];rfl);have hmb:((m:Int)==1)=true:=(by rw[hm1];rfl);have Gv:(m:Int)=1:=(by rw[hm1];rfl);have HS:Hi (zcA ps (xs.take (k+1))={ st with o:=st.o++[0] }):=by
           show _=_;rw[uK.o];unfold zgT;rw[ae hal]
          have hos:st.o.map zeN++List.replicate (l.length - k) []=(st.o++[0]).map zeN++List.replicate (l.length - (k+1)) []:=by
           rw[cI,cX];congr 1;have e0:zeN 0=[]:=(by unfold zeN;rw[zdD];rfl);obtain⟨r,hr⟩:∃r,l.length - k=r+1:=⟨l.length - k - 1,a_⟩;rw[hr,show l.length - (k+1)=r from by omega,fd,bd,ca,e0];rfl
          rw[hos]at oJ;have CR:Hi (SuA B YC lang O PL l.length ((zcA ps (xs.take (k+1))).o.map zeN++List.replicate (l.length - (k+1)) []) ps w7):=(by rw[HS.o];exact oJ.o);have pm:Hi (MapK w7 TK (zcA ps (xs.take (k+1))).taken):=(by rw[HS.o];exact yW.o);have N5:Hi (∀q,(zj4 yV q).getD (.int .i64 0)=.int .i64 ((zcA ps (xs.take (k+1))).next q:Nat)):=(by rw[HS.o];exact yd.o);clear hal hos HS oJ yW yd uK BY Em yP qd hpx rF si td pH;go_wp2;go_roundw
          .exact⟨k+1,yV,a_,by go_num,CR.o,sA.o,pm.o,BZ.o,N5.o,ql.o⟩
          .simp [intOf];omega
         .have hal:¬ zbZ ps X.1=true:=(by rw[yP.o];unfold zbZ;rw[rF.o,bh];exact hm1);have hmb:((m:Int)==1)=false:=(by rw[ab];omega);have Gv:¬ (m:Int)=1:=a_;obtain⟨B0,B3,B4⟩:=BY.o.old Em.o;have En:=zGq BY.o Em.o;have oq:=uK.o;unfold zgT at oq;rw[aa hal]at oq;obtain⟨fr,ta⟩:=gX (zsQ st.taken X st.taken.length (st.next (zk0 X)));rw[ta.o]at B0 B3 B4 En oq;have wT:=Hd oq;have Ao:=Hd B3;have Ap:=Hd B4;have Ls:fr<=17:=(by have:=td.o;omega);have qZ:Hi (zuL x y lang [97]=(zk0 X).1):=(by have h:=qd.o 1;rw[zpX]at h;exact h);have ra:Hi (zuL x y lang [98]=(zk0 X).2):=(by have h:=qd.o 2;rw[zpY]at h;exact h);obtain⟨⟨t1,t2⟩,N6⟩:∃q,Hi (zk0 X=q):=⟨_,rfl⟩;rw[N6.o]at qZ ra wT B0;have oR:Hi (∀(suf:Bs),suf.length<=1000->∀w',Kept w w'->Blk w' B 28 YC->Blk w' (B+1) 9 #[.string (bs lang)]->Calls prog 35 #[.agg #[.string (bs x.key),.string (bs x.type),.slice aA x.author.length cA,.slice aS x.editor.length cS,.slice aF x.fields.length cF],.string (bs suf),.pointer (some ⟨B,0,none⟩),.pointer (some ⟨B+1,0,none⟩)] w' fun e w''=>e=.returned (.string (bs (zuL x y lang suf)))/\Kept w' w''):=fun suf hs w' kk hyb hlb =>
           zmV B (B+1) (.slice aA x.author.length cA) (.slice aS x.editor.length cS) (.slice aF x.fields.length cF) (.slice aE y.entries.length cE) x y lang suf w' (sE.o.kept kk) (by rw[oX.o];exact hyb) hlb Ek.o Lh.o Li.o (Jb.o.kept kk) (Jc.o.kept kk) (Jd.o.kept kk) Ja.o hs
          have uC:Hi (∀w',Kept w7 w'->Calls prog 35 #[.agg #[.string (bs x.key),.string (bs x.type),.slice aA x.author.length cA,.slice aS x.editor.length cS,.slice aF x.fields.length cF],.string (bs [97]),.pointer (some ⟨B,0,none⟩),.pointer (some ⟨B+1,0,none⟩)] w' fun e w''=>e=.returned (.string (bs t1))/\Kept w' w''):=fun w' kk=>by
           have h:=oR.o [97] b_ w' (ql.o.trans kk) (oJ.o.yb.kept kk) (oJ.o.lb.kept kk);rw[qZ.o]at h;exact h
          have po:Hi (∀w',Kept w7 w'->Calls prog 35 #[.agg #[.string (bs x.key),.string (bs x.type),.slice aA x.author.length cA,.slice aS x.editor.length cS,.slice aF x.fields.length cF],.string (bs [98]),.pointer (some ⟨B,0,none⟩),.pointer (some ⟨B+1,0,none⟩)] w' fun e w''=>e=.returned (.string (bs t2))/\Kept w' w''):=fun w' kk=>by
           have h:=oR.o [98] b_ w' (ql.o.trans kk) (oJ.o.yb.kept kk) (oJ.o.lb.kept kk);rw[ra.o]at h;exact h
          have hos:st.o.map zeN++List.replicate (l.length - k) []=st.o.map zeN++([]:Bs)::List.replicate (l.length - (k+1)) []:=by
           obtain⟨r,hr⟩:∃r,l.length - k=r+1:=⟨l.length - k - 1,a_⟩;rw[hr,show l.length - (k+1)=r from by omega,fd]
          rw[hos]at oJ;clear B3 B4 oq hal hos uK rF hpx yP qZ ra BY Em ta En;go_upto_region 28 with fail;refine zDf x (.slice aA x.author.length cA) (.slice aS x.editor.length cS) (.slice aF x.fields.length cF) B (B+1) I t1 t2 g_ ⟨_,rfl,rfl,rfl,rfl⟩ ⟨_,rfl,rfl,rfl,rfl⟩ ⟨_,rfl,rfl,rfl,rfl⟩ ⟨_,rfl,rfl,rfl,rfl⟩ ⟨_,rfl,rfl,rfl,rfl⟩ ⟨_,rfl,rfl,rfl,rfl⟩ ⟨_,rfl,rfl,rfl,rfl⟩ ⟨_,rfl,rfl,rfl,rfl⟩ ⟨_,rfl,rfl,rfl,rfl⟩
           b_ rfl rfl pH uC po ?_
          intro V w8 J hV hJ Lt pG;simp only[Act.put,aj,ax,ay];rw[hV];have Aq:=Hd Lt;have Eo:=Hd (pH.o.kept pG);have Ep:=Hd (oJ.o.kept pG);have Er:=Hd (sA.o.kept pG);have Es:=Hd (fP yW.o pG);have Et:=Hd (BZ.o.kept pG);have wU:=Hd (ql.o.trans pG);have N7:=pH.o.lt;have FV:Hi (I<J):=(by show _<_;omega);clear hV hJ Lt pG pH oJ sA yW BZ ql uC po N7 q0 q2 lk hmz hmb Gv;go_wp2_with fail;obtain⟨Q8,rfl⟩:∃wo:World,wo=wr:=⟨_,rfl⟩
          go_loopg [22] (fr - st.next (t1,t2)) (fun gk t wr=>∃(m:Nat) (yV:List (KyP×Value)) (u:Bs),gk=fr - m/\m<fr/\Hi (SuA B YC lang O PL l.length (st.o.map zeN++u::List.replicate (l.length - (k+1)) []) ps wr)/\Hi (MapT wr TM es)/\Hi (MapK wr TK st.taken)/\Hi (MapQ wr NX yV)/\Hi (∀q,(zj4 yV q).getD (.int .i64 0)=.int .i64 ((if q=(t1,t2)then m else st.next q:Nat):Int))/\Hi (Blk wr I 50 #[.string (bs x.key),.string (bs x.type),.slice aA x.author.length cA,.slice aS x.editor.length cS,.slice aF x.fields.length cF])/\Hi (Blk wr J 95 #[.string (bs t1),.string (bs t2)])/\Hi (Kept w wr))
          case atStart =>
           refine⟨st.next (t1,t2),yV,[],rfl,B0,Ep.o,Er.o,Es.o,Et.o,fun q=>?_,Eo.o,Aq.o,wU.o⟩;rw[yd.o q];by_cases e:q=(t1,t2)
           .rw[ae e,e]
           .rw[aa e]
          case round =>
           clear Ep Er Es Et Eo Aq wU yd;obtain⟨m,yY,u,Q9,Ra,oG,pX,sq,BX,yd,pH,Aq,kO⟩:=hrel;obtain⟨fs,Eu⟩:=Tryz.keyShape 3 93 underlying93;have sd:=Hd Eu;have uL:MapQ wr.drew NX yY:=BX.o.kept (zaB wr 1);obtain⟨es2,n2,hn2,hset,hget,em⟩:=zJC Eu wr.drew NX yY (t1,t2) (.int .i64 0) zf6 uL;have hv:(zj4 yY (t1,t2)).getD (.int .i64 0)=.int .i64 ((m:Nat):Int):=(by rw[yd.o];rw[ae rfl]);rw[hv]at hn2 em;have Je:=zIs Eu wr.drew NX yY (t1,t2) (.int .i64 0) (zf6 _) uL;rw[hv]at Je;have Jf:=zIs Eu (znT wr.drew NX es2) NX es2 (t1,t2) (.int .i64 0) (zf6 _) (zqI _ _ _ uL.lt);rw[hget,hv]at Jf;have N8:=zJD (P:=prog) (tm:=93) (znT wr.drew NX es2) NX es2 n2 (t1,t2) _ (.int .i64 ((m:Int)+1)) (zqI _ _ _ uL.lt) hn2;change Sem.run _ (Instr.mapEntry _ _ (.agg #[.string (bs t1),.string (bs t2)])) _=_ at em;change Sem.run _ (Instr.lookup _ _ (.agg #[.string (bs t1),.string (bs t2)]) _) _=_ at Je;change Sem.run _ (Instr.lookup _ _ (.agg #[.string (bs t1),.string (bs t2)]) _) _=_ at Jf;have N9:m<17:=a_;have j0:=Aq.o.cell 0 _ rfl;have j1:=Aq.o.cell 1 _ rfl;have jz:=Aq.o.lt;have Ev:=Hd hset;have Gf:=Hd uL.lt;clear Eu uL hv hn2 hset hget;go_upto_region 29 with fail;go_region;obtain⟨ve,tL⟩:∃ve,Hi (es2.set n2 ((t1,t2),.int .i64 ((m:Int)+1))=ve):=⟨_,rfl⟩;have yZ:Hi (∀q,(zj4 ve q).getD (.int .i64 0)=.int .i64 ((if q=(t1,t2)then m+1 else st.next q:Nat):Int)):=fun q=>by
            rw[<- tL.o,Ev.o];by_cases e:q=(t1,t2)
            .rw[ae e,ae e];rfl
            .rw[aa e,aa e,yd.o,aa e]
           rw[tL.o];have kd:=zaB wr 1;have hoq:Only (fun g=>g=NX) wr.drew (znT (znT wr.drew NX es2) NX ve):=(zs9 wr.drew NX es2).trans (zs9 _ NX ve);have mX:=ma.o;have hop:=Gu.o;have hpt:=sB.o;have htz:=BR.o;have hkz:=oh.o;have hnz:=ym.o;have hij:=FV.o;have Ew:=Hd ((oG.o.kept kd).only hoq a_ a_ a_ a_);have Ex:=Hd ((pX.o.kept kd).only hoq a_);have Ey:=Hd ((fP sq.o kd).only hoq a_);have B7:Hi (MapQ (znT (znT wr.drew NX es2) NX ve) NX ve):=zqI _ _ _ (by rw[zDd];exact Gf.o);have wV:=Hd ((pH.o.kept kd).onl hoq a_);have wW:=Hd ((Aq.o.kept kd).onl hoq a_);have Ez:=Hd ((kO.o.trans kd).trans' (hoq.below (kO.o.trans kd).size (fun i e=>by omega)));generalize znT (znT wr.drew NX es2) NX ve=w9 at *;clear kd hoq em Je Jf N8 j0 j1 jz oG pX sq BX yd pH Aq kO tL Ev Gf;have j0:=wW.o.cell 0 _ rfl;have j1:=wW.o.cell 1 _ rfl;have jz:=wW.o.lt;have Jg:=zIs sd.o w9 NX ve (t1,t2) (.int .i64 0) (zf6 _) B7.o;rw[yZ.o,ae rfl,show((m+1:Nat):Int)=(m:Int)+1 from rfl]at Jg;change Sem.run _ (Instr.lookup _ _ (.agg #[.string (bs t1),.string (bs t2)]) _) _=_ at Jg;have CH:=Hd (zp8 (m+1) a_ a_ w9);rw[show((m+1:Nat):Int)=(m:Int)+1 from rfl]at CH;have hll:=zwN (m+1);have HCM:=Hd (qd.o (m+1));obtain⟨lt,EA⟩:=gX (zeN (m+1));rw[EA.o]at CH hll HCM;go_wp2_with fail;refine k_ CH.o fun tZ hk10=>?_;have wY:=Hd (Ew.o.kept hk10);have Ar:=Hd (Ex.o.kept hk10);have As:=Hd (fP Ey.o hk10);have At:=Hd (B7.o.kept hk10);have Au:=Hd (wV.o.kept hk10);have Av:=Hd (wW.o.kept hk10);have wZ:=Hd (Ez.o.trans hk10);clear hk10 CH Ew Ex Ey B7 wV wW Ez j0 j1 jz Jg sd;have hol:(st.o.map zeN).length=k:=(by rw[bm,si.o]);have EB:(st.o.map zeN++u::List.replicate (l.length - (k+1)) ([]:Bs))[k]? = some u:=by
            rw[bp a_,hol,fp];rfl
           obtain⟨q0,q1,q2,-⟩:=zj5 wY.o.o k u EB;have hsl:k<(st.o.map zeN++u::List.replicate (l.length - (k+1)) ([]:Bs)).length:=(by rw[ah,hol,az];omega);have xb:=wY.o.setO k hsl lt mX hop;have hsm:(st.o.map zeN++u::List.replicate (l.length - (k+1)) ([]:Bs)).set k lt=st.o.map zeN++lt::List.replicate (l.length - (k+1)) []:=by
            have:=zDe (st.o.map zeN) u lt (List.replicate (l.length - (k+1)) ([]:Bs));rw[hol]at this;exact this
           rw[hsm]at xb;have sQ:=Hd xb;have pZ:=bK (w:=tZ) O k (.string (bs lt));have Aw:=Hd (Ar.o.only pZ a_);have Ax:=Hd (As.o.only pZ a_);have Ay:=Hd (At.o.only pZ a_);have xc:=Hd (Au.o.onl pZ a_);have Az:=Hd (Av.o.onl pZ a_);have xd:=Hd (wZ.o.trans' (pZ.below wZ.o.size (fun i e=>by omega)));have Ac:Hi (O<(tZ.setCell ⟨O,k,none⟩ (.string (bs lt))).heap.size/\(tZ.setCell ⟨O,k,none⟩ (.string (bs lt))).cell? ⟨O,k,none⟩=some (.string (bs lt))):=by
            obtain⟨h1,-,h2,-⟩:=zj5 sQ.o.o k lt (by rw[bp a_,hol,fp];rfl);exact⟨h2,h1⟩
           clear hol EB hsl xb hsm pZ wY Ar As At Au Av wZ;go_upto_region 31 with fail;generalize tZ.setCell _ _=rG at *;obtain⟨t,tK⟩:=gX (zuL x y lang lt);refine zDg x (.slice aA x.author.length cA) (.slice aS x.editor.length cS) (.slice aF x.fields.length cF) B (B+1) I O l.length k lt t g_ ⟨_,rfl,rfl,rfl,rfl⟩ ⟨_,rfl,rfl,rfl,rfl⟩ ⟨_,rfl,rfl,rfl,rfl⟩ ⟨_,rfl,rfl,rfl,rfl⟩ ⟨_,rfl,rfl,rfl,rfl⟩ ⟨_,rfl,rfl,rfl,rfl⟩ ⟨_,rfl,rfl,rfl,rfl⟩ ⟨_,rfl,rfl,rfl,rfl⟩
            b_ rfl rfl rfl rfl xc Ac kV a_ (fun w' kk=>by
             have h:=oR.o lt a_ w' (xd.o.trans kk) (sQ.o.yb.kept kk) (sQ.o.lb.kept kk);rw[tK.o]at h;exact h) ?_
           intro V EC hV sR;simp only[Act.put,aj,ax,ay];rw[hV];have ED:Hi (t=zfO X (m+1)):=(by rw[<- tK.o];exact HCM.o);have xe:=Hd (sQ.o.kept sR);have xf:=Hd (Aw.o.kept sR);have sS:=Hd (fP Ax.o sR);have xg:=Hd (Ay.o.kept sR);have AA:=Hd (xc.o.kept sR);have AB:=Hd (Az.o.kept sR);have uk:=Hd (xd.o.trans sR);have Lu:=zx4 EC TK st.taken t sS.o;clear hV sR sQ Aw Ax Ay xc Az xd Ac tK HCM;cases nz:st.taken.contains t with
           | true =>
            rw[nz]at Lu;have Oa:m+1<fr:=by
             rcases bG (m+1) fr with q|q
             .exact q
             .have e:m+1=fr:=a_;have h1:=Ao.o;rw[<- e,<- ED.o]at h1;exact absurd (by simpa using nz) h1
            clear nz ED;go_wp2_with fail
            go_roundg (fr - (m+1))
            .exact⟨m+1,ve,lt,rfl,Oa,xe.o,xf.o,sS.o,xg.o,yZ.o,AA.o,AB.o,uk.o⟩
            .omega
           | false =>
            rw[nz]at Lu;have hnot:t∉st.taken:=(by simpa using nz);have hme:m+1=fr:=by
             rcases bG (m+1) fr with q|q
             .have h1:=Ap.o (m+1) a_ q;rw[<- ED.o]at h1;exact absurd h1 hnot
             .omega
            have up:=zIO EC TK st.taken t sS.o hnot;have xh:=zdX EC TK (st.taken++[t]);have AC:=Hd (xe.o.only xh a_ a_ a_ a_);have EE:=Hd (xf.o.only xh a_);have AD:=Hd (zg3 EC TK (st.taken++[t]) sS.o.lt);have EF:=Hd (xg.o.only xh a_);have EG:=Hd (uk.o.trans' (xh.below uk.o.size (fun i e=>by omega)));have hos:st.o.map zeN++lt::List.replicate (l.length - (k+1)) []=(zcA ps (xs.take (k+1))).o.map zeN++List.replicate (l.length - (k+1)) []:=by
             rw[wT.o,<- hme];show _=(st.o++[m+1]).map zeN++_;rw[cI,cX,bd,EA.o];rfl
            rw[hos]at AC;have Jh:Hi (MapK (zo9 EC TK (st.taken++[t])) TK (zcA ps (xs.take (k+1))).taken):=by
             rw[wT.o,<- hme];show MapK _ TK (st.taken++[zfO X (m+1)]);rw[<- ED.o];exact AD.o
            have EH:Hi (∀q,(zj4 ve q).getD (.int .i64 0)=.int .i64 ((zcA ps (xs.take (k+1))).next q:Nat)):=fun q=>by
             rw[yZ.o q,wT.o,<- hme]
            clear nz hnot xh hos ED hme xe xf sS xg AA AB uk AD yZ wT Ao Ap;go_wp2;go_roundw
            .exact⟨k+1,ve,a_,by go_num,AC.o,EE.o,Jh.o,EF.o,EH.o,EG.o⟩
            .simp [intOf];omega
        .obtain rfl:k=l.length:=a_;rw[fp,List.replicate_zero,bN]at oG;have qQ:=Hd (HF.o _ wr (iI oG.o.o) kO.o);clear HF oG pX sq BX yd;go_wp2_with fail
         (try go_ret2)
         exact qQ.o
def CiKP(ks:List Bs)(w:World)(e:Ending)(w':World):Prop:=∃v,e=.returned v/\Strs w' v ks/\Kept w w'
def zj6(N M:Nat)(aM:Option Addr)(nM cM:Nat)(v:Value)(xs:List Blo)(w:World)(hv:Bls (fun g=>g<w.heap.size) N M w v xs)(hl:xs.length<=1000000)(mn:zy2 xs)(hn:(zaW xs).length<=1000000)(hx:∀x∈zaW xs,x.cits.length<=1000000)(hks:((zaW xs).flatMap zbV).length<=1000000):Calls prog 10 #[.agg #[.slice aM nM cM,v]] w (CiKP (zbQ xs) w):=by
 have HX:=Hd hx;obtain⟨a,c,rfl,hc⟩:=hv.form;obtain⟨i0,hi,mr,mq,mm⟩:=cg Tryz.infoStr;obtain⟨B,HB⟩:=gX w.heap.size;have lg:=Hd ((zaA w (.cells #[.slice aM nM cM,.slice a xs.length c] 25)).trans (zaA _ (.map #[] 0)));have hb:=Hd (MapK_made (w.alloc (.cells #[.slice aM nM cM,.slice a xs.length c] 25)));have e1:(w.alloc (.cells #[.slice aM nM cM,.slice a xs.length c] 25)).heap.size=B+1:=(by rw[<- HB.o];simp);rw[e1]at hb;have e2:((w.alloc (.cells #[.slice aM nM cM,.slice a xs.length c] 25)).alloc (.map #[] 0)).heap.size=B+2:=(by simp;rw[<- HB.o]);have ny:=HB.o;have Gw:=Hd (zvG M N w.heap.size (.slice a xs.length c) xs _ lg.o.size (hv.kept lg.o) hl mn hn);have mk:=ep (P:=prog) 81 (w.alloc (.cells #[.slice aM nM cM,.slice a xs.length c] 25));unfold InlsP at Gw;have lh:Hi (∀v w',Strs w' v (zFz (zaW xs))->Kept w w'->CiKP (zbQ xs) w (.returned v) w'):=fun v w' h1 h2=>⟨v,rfl,h1,h2⟩;generalize CiKP (zbQ xs) w=P at *;obtain⟨ds,sW⟩:=gX (zaW xs);rw[sW.o]at HX Gw hn hks lh;have Ob:Hi (∀k x,ds[k]? = some x->((ds.take k).flatMap zbV).length+(zbV x).length<=1000000):=fun k x h=>bC (zFA h) hks;unfold zFz at lh;clear mn hx hv hks;go_in;go_wp2_with fail;refine Gw.o.mono ?_;rintro e w1 ⟨v1,rfl,hR,ld⟩;have kT:=Hd (lg.o.trans ld);have tj:=Hd (fP hb.o ld);have Ji:Lns (fun g=>g<w1.heap.size/\g≠B+1) (N+1) w1 v1 ds:=hR.sam (fun _ _ _=>rfl) (fun g h q=>⟨h,a_⟩);have HR:=Hd Ji;obtain⟨a1,c1,rfl,ol⟩:=Ji.form;clear hR Ji ld mk e1 e2 hb Gw lg;go_wp2_with fail;go_loopw [4,14] (fun o i wr=>∃(k:Nat),k<=ds.length/\i=.int .i64 k/\Hi (OutG StrK 1 (fun _=>False) w1.heap.size 9 wr o (zf4 ((ds.take k).flatMap zbV)))/\Hi (MapK wr (B+1) (zf4 ((ds.take k).flatMap zbV)))/\Hi (Only (fun g=>g=B+1\/w1.heap.size<=g) w1 wr)) (fun _ i _=>ds.length - (intOf i).toNat)
 .exact⟨0,ai _,rfl,ey _ _ _ _ _ _,tj.o,bc (af w1)⟩
 case round =>
  obtain⟨k,hk,rfl,lu,tV,kO⟩:=hrel;by_cases kV:k<ds.length
  .obtain⟨x,hx⟩:∃x,ds[k]? = some x:=⟨_,ac kV⟩;have ru:=Hd (HR.o.sam (cm kO.o (fun g _ h q=>by omega)) (fun g _ h=>h));have nf:=HX.o x (am hx);have HT:=Hd (zIe hx);have tH:=Hd (Ob.o k x hx);obtain⟨pre,uW⟩:∃us,Hi ((ds.take k).flatMap zbV=us):=⟨_,rfl⟩;rw[uW.o]at lu tV HT tH;obtain⟨g,o,vC,vP,vA,vT,vK,rfl,mY,qC,-,-,⟨d0,d1,d2,d3,d4,d5,d6,d7,d8,d9⟩,-,⟨hC,-⟩,⟨oj,-⟩,⟨hA,-⟩,pL,hK⟩:=fX ru.o k x hx;obtain⟨kL,kN,kP,title,id,cls,prs,args,kQ,kM⟩:=x;simp only[Inl.kind,Inl.text,Inl.dest,Inl.title,Inl.id,Inl.cls,Inl.prs,Inl.args,Inl.cits,Inl.kids]at d0 d1 d2 d3 d4 hC oj hA pL hK nf;obtain⟨aC,cC,rfl,lC⟩:=hC.shape;obtain⟨aP,cP,rfl,lP⟩:=oj.shape;obtain⟨aA,cA,rfl,lA⟩:=hA.shape;obtain⟨aT,cT,rfl,lT⟩:=pL.form;obtain⟨aK,cK,rfl,lK⟩:=hK.form;have qv:=Hd pL;have pQ:=Hd (zaA wr (.cells #[.int .i64 kL,.string (bs kN),.string (bs kP),.string (bs title),.string (bs id),.slice aC cls.length cC,.slice aP prs.length cP,.slice aA args.length cA,.slice aT kQ.length cT,.slice aK kM.length cK] 65));have nQ:=Hd (fP tV.o pQ.o);have HG2:=Hd (lu.o.kept zkW pQ.o);have rI:Hi (Only (fun g=>g=B+1\/w1.heap.size<=g) w1 (wr.alloc (.cells #[.int .i64 kL,.string (bs kN),.string (bs kP),.string (bs title),.string (bs id),.slice aC cls.length cC,.slice aP prs.length cP,.slice aA args.length cA,.slice aT kQ.length cT,.slice aK kM.length cK] 65))):=kO.o.trans (bc pQ.o);clear hC oj hA pL hK ru hx;by_cases qu:kL=13
   .subst qu;have vf:Hi (zbV (.mk 13 kN kP title id cls prs args kQ kM)=kQ.map (·.key)):=rfl;rw[vf.o]at HT tH;rw[bm]at tH;have hlk:=tH.o;go_wp2_with fail;generalize wr.alloc _=w2 at *;clear d0 d1 d2 d3 d4 d5 d6 d7 d8 d9;obtain⟨wo,rfl⟩:∃wo:World,wo=wr:=⟨_,rfl⟩;go_loopw [4,24] (fun o i wx=>∃(j:Nat),j<=kQ.length/\i=.int .i64 j/\Hi (OutG StrK 1 (fun _=>False) w1.heap.size 9 wx o (zf4 (pre++(kQ.take j).map (·.key))))/\Hi (MapK wx (B+1) (zf4 (pre++(kQ.take j).map (·.key))))/\Hi (Only (fun g=>g=B+1\/w1.heap.size<=g) w1 wx)/\Hi (Only (fun g=>g=B+1\/w1.heap.size<=g) wo wx)) (fun _ i _=>kQ.length - (intOf i).toNat)
    .exact⟨0,ai _,rfl,(by rw[cH,ca,bN];exact HG2.o),(by rw[cH,ca,bN];exact nQ.o),rI.o,bc pQ.o⟩
    case round =>
     clear nQ HG2 rI lu tV;obtain⟨j,hj,rfl,lu,tV,oD,rl⟩:=hrel;by_cases ox:j<kQ.length
     .obtain⟨x,hx⟩:∃x,kQ[j]? = some x:=⟨_,ac ox⟩;have HT2:=Hd (zCS (pre:=pre) hx);have mN:(zf4 (pre++(kQ.take j).map (·.key))).length<=1000000:=by
       have:=zs1 (pre++(kQ.take j).map (·.key));rw[ah,bm,bw]at this;omega
      obtain⟨us,nY⟩:=gX (zf4 (pre++(kQ.take j).map (·.key)));rw[nY.o]at lu tV HT2 mN;have hcw:=qv.o.sam (S':=fun g=>g<w1.heap.size/\g≠B+1) (cm rl.o (fun g _ h q=>by omega)) (fun _ _ q=>q);obtain⟨g,o,cs,rfl,hg,qC,-,hcs,mU,-,-⟩:=iJ (show RowR (fun g=>g<w1.heap.size/\g≠B+1) 4 CitW wr _ _ from hcw) j x hx;rw[mU]at hcs;have d0:wr.cell? ⟨g,o+j * 4,none⟩=some (.string (bs x.key)):=(by simpa using hcs 0 _ rfl);have d1:wr.cell? ⟨g,o+j * 4+1,none⟩=some (.string (bs x.pre)):=hcs 1 _ rfl;have d2:wr.cell? ⟨g,o+j * 4+2,none⟩=some (.string (bs x.suf)):=hcs 2 _ rfl;have d3:wr.cell? ⟨g,o+j * 4+3,none⟩=some (.bool x.bare):=hcs 3 _ rfl;obtain⟨nm,pr,sf,br⟩:=x;simp only at d0 d1 d2 d3 HT2;have mv:=Hd (aI wr 62 #[.string (bs nm),.string (bs pr),.string (bs sf),.bool br]);have tM:=Hd (zaA wr (.cells #[.string (bs nm),.string (bs pr),.string (bs sf),.bool br] 62));have Oc:wr.heap.size≠B+1:=(by have:=tj.o.lt;have:=oD.o.size;omega);have rC:=Hd (fP tV.o tM.o);have wO:=Hd (lu.o.kept zkW tM.o);have lk:=zx4 (wr.alloc (.cells #[.string (bs nm),.string (bs pr),.string (bs sf),.bool br] 62)) (B+1) us nm rC.o;clear hx hcs mU hcw;cases nz:us.contains nm with
      | true =>
       have nZ:=HT2.o;rw[zzL nz]at nZ;rw[nz]at lk;rw[<- nZ]at rC wO;have Jj:Hi (Only (fun g=>g=B+1\/w1.heap.size<=g) w1 (wr.alloc (.cells #[.string (bs nm),.string (bs pr),.string (bs sf),.bool br] 62))):=oD.o.trans (bc tM.o);have Jk:Hi (Only (fun g=>g=B+1\/w1.heap.size<=g) wo (wr.alloc (.cells #[.string (bs nm),.string (bs pr),.string (bs sf),.bool br] 62))):=rl.o.trans (bc tM.o);clear lu tV oD rl nY HT2 nZ nz;go_wp2;go_roundw
       .exact⟨j+1,a_,by go_num,wO.o,rC.o,Jj.o,Jk.o⟩
       .simp [intOf];omega
      | false =>
       have nZ:=HT2.o;rw[zzM nz]at nZ;rw[nz]at lk;have hnot:nm∉us:=(by simpa using nz);have up:=zIO (wr.alloc (.cells #[.string (bs nm),.string (bs pr),.string (bs sf),.bool br] 62)) (B+1) us nm rC.o hnot;have sa:=Hd (zg3 (wr.alloc (.cells #[.string (bs nm),.string (bs pr),.string (bs sf),.bool br] 62)) (B+1) (us++[nm]) rC.o.lt);have oF:=Hd (zdX (wr.alloc (.cells #[.string (bs nm),.string (bs pr),.string (bs sf),.bool br] 62)) (B+1) (us++[nm]));have zW:=Hd (wO.o.only zkW oF.o (fun g _ h=>h.elim) (fun g q r=>by have:=(lu.o.blk g q).1;have:=tj.o.lt;omega));have pK:=Hd (mv.o.onl oF.o Oc);have c0:=pK.o.cell 0 _ rfl;have cz:=pK.o.lt;have ly:=Hd (aI (zo9 (wr.alloc (.cells #[.string (bs nm),.string (bs pr),.string (bs sf),.bool br] 62)) (B+1) (us++[nm])) 9 #[.string (bs nm)]);have lH:=Hd (zaA (zo9 (wr.alloc (.cells #[.string (bs nm),.string (bs pr),.string (bs sf),.bool br] 62)) (B+1) (us++[nm])) (.cells #[.string (bs nm)] 9));have nS:=Hd (zW.o.kept zkW lH.o);have xJ:=Hd (fP sa.o lH.o);obtain⟨ar,cr,rfl,hcr,hmr⟩:=lu.o.form;have hb6:w1.heap.size<=((zo9 (wr.alloc (.cells #[.string (bs nm),.string (bs pr),.string (bs sf),.bool br] 62)) (B+1) (us++[nm])).alloc (.cells #[.string (bs nm)] 9)).heap.size:=by
        have:=oD.o.size;have:=tM.o.size;have:=oF.o.size;have:=lH.o.size;omega
       clear nz hnot zW sa mv pK;go_wp2_with (at_builtin;refine zeG ?_);refine Hd ?_;refine zaO zkW rfl (.tmp 36) (.tmp 39) 37 rfl i0 _ 16 dw hi mr mq mm rfl a_ d_ nS.o _ [.string (bs nm)] nm d_ (fun j u hu=>ly.o.cell j u (by rw[<- bE];exact hu)) rfl rfl h_ a_ hb6 _ rfl ?_;intro g7 pR w7 lp lf mB mT;have AE:=Hd lf;have lG:=Hd mB;have AF:=Hd lp;clear lf mB lp;have B8:=ch AE.o;have mi:Hi (OutG StrK 1 (fun _=>False) w1.heap.size 9 w7 (.slice (some ⟨g7,0,none⟩) (us.length+1) pR) (zf4 (pre++(kQ.take (j+1)).map (·.key)))):=(by rw[nZ];exact AF.o);have EI:Hi (MapK w7 (B+1) (zf4 (pre++(kQ.take (j+1)).map (·.key)))):=by
        rw[nZ];exact xJ.o.only B8 (fun q=>by have:=(lu.o.blk (B+1) q.symm).1;have:=tj.o.lt;omega)
       have xi:Hi (Only (fun g=>g=B+1\/w1.heap.size<=g) wr w7):=(bc tM.o).trans ((oF.o.mono (fun g _ q=>.inl q)).trans ((bc lH.o).trans (B8.mono (fun g _ q=>.inr (lu.o.blk g q.symm).1))));have Jl:=Hd (oD.o.trans xi.o);have wL:=Hd (rl.o.trans xi.o);clear B8 AE lG AF xJ nS lH ly tM oF rC HT2 nZ nY lk up lu oD rl tV c0 cz xi;go_wp2;go_roundw
       .exact⟨j+1,a_,by go_num,mi.o,EI.o,Jl.o,wL.o⟩
       .simp [intOf];omega
     .obtain rfl:j=kQ.length:=a_;rw[bi,<- HT.o]at lu tV;clear HT rl qv;go_wp2;go_roundw
      .exact⟨k+1,a_,by go_num,lu.o,tV.o,oD.o⟩
      .simp [intOf];omega
   .have vf:Hi (zbV (.mk kL kN kP title id cls prs args kQ kM)=[]):=aa qu;have nZ:=HT.o;rw[vf.o,bN]at nZ;rw[<- nZ]at nQ HG2;clear lu tV kO HT nZ vf tH;go_wp2;go_roundw
    .exact⟨k+1,a_,by go_num,HG2.o,nQ.o,rI.o⟩
    .simp [intOf];omega
  .obtain rfl:k=ds.length:=a_;rw[bi]at lu;obtain⟨ar,cr,rfl,hcr,hmr⟩:=lu.o.form;have oh:Hi (Kept w wr):=kT.o.trans' (kO.o.below (by have:=kT.o.size;omega) (fun i h=>by have:=HB.o;have:=kT.o.size;omega));have HF:=Hd (lh.o _ wr (iI lu.o) oh.o);clear lu tV kO HR tj;go_wp2
   (try go_ret)
   exact HF.o
def Srcs.row{S S':Nat->Prop}{w:World}{v:Value}{xs:List SrcT}(h:RowR S 5 (SrcK S' w) w v xs):Srcs w v xs:=by
 obtain⟨a,c,hv,hc,h3⟩:=h;refine⟨a,c,hv,hc,fun q=>?_⟩;obtain⟨g,o,ha,hg,-,kR⟩:=h3 q;refine⟨g,o,ha,hg,fun j s hs=>?_⟩;obtain⟨cs,hl,hcs,vA,vE,vF,rfl,⟨pA,-⟩,⟨pE,-⟩,pF,-⟩:=kR j s hs;exact⟨vA,vE,vF,(by have:=hcs 0 _ rfl;rwa [dl]at this),hcs 1 _ rfl,hcs 2 _ rfl,hcs 3 _ rfl,hcs 4 _ rfl,pA,pE,pF⟩
def FitL.small{s:SrcT}(h:FitL s):SmallS s:=by
 obtain⟨h1,h2,h3,h4,h5,h6⟩:=h;refine⟨?_,?_,?_,a_,a_,a_,a_,a_⟩
 .intro q hq;have:=h6 q (gF _ hq);omega
 .intro q hq;have:=h6 q (gn _ hq);omega
 .intro p hp;have:=h5 p hp;omega
def Tryz.infoEnt:(prog.info? 79).map (fun i=>(i.zero,i.size,i.bytes))=some (some (.agg #[.string ⟨#[]⟩,.string ⟨#[]⟩,.slice none 0 0,.slice none 0 0,.slice none 0 0,.string ⟨#[]⟩,.int .i64 0]),7,128):=g_
def Perss.fresh{w:World}{B:Nat}{v:Value}{xs:List P4}(h:Perss w v xs)(hf:Fresh B v):InB (fun g=>B<=g) v xs.length:=fun q g hg=>by
 obtain⟨a,c,rfl,_,h3⟩:=h;obtain⟨g',o,rfl,_⟩:=h3 q;have:g'=g:=(by simpa [Value.ownBlock]using hg);subst this;exact hf _ _ _ _ rfl q
def Prs.fresh{w:World}{B:Nat}{v:Value}{xs:List Pr}(h:Prs w v xs)(hf:Fresh B v):InB (fun g=>B<=g) v xs.length:=fun q g hg=>by
 obtain⟨a,c,rfl,_,h3⟩:=h;obtain⟨g',o,rfl,_⟩:=h3 q;have:g'=g:=(by simpa [Value.ownBlock]using hg);subst this;exact hf _ _ _ _ rfl q
def FilR(y:StyT)(lang:Bs)(l:List SrcT)(ks:List Bs)(m n:Nat)(xs:List Blo)(ms:List Pr)(w:World)(e:Ending)(w':World):Prop:=∃vM vB,e=.returned (.tuple #[.agg #[vM,vB],.int .i64 (zhJ y l ks)])/\Kept w w'/\(zhJ y l ks≠0->vM=.slice none 0 0/\vB=.slice none 0 0)/\(zhJ y l ks=0->Prs w' vM ms/\Bls (fun g=>w.heap.size<=g) m n w' vB (zcK (fiC y lang l ks) m n xs))
def zoR{m n:Nat}(vM vB vL vE:Value)(ms:List Pr)(l:List SrcT)(y:StyT)(lang:Bs)(xs:List Blo)(w:World)(ni:EnvC w)(hM:Prs w vM ms)(hms:ms.length<=1000)(hB:Bls (fun g=>g<w.heap.size) m n w vB xs)(hm:1<=m)(hxs:xs.length<=1000000)(mn:zy2 xs)(hi1:(zaW xs).length<=1000000)(hi2:∀x∈zaW xs,x.cits.length<=1000000)(hi3:((zaW xs).flatMap zbV).length<=1000000)(EJ:∀b∈zaQ xs,zsW b)(hsum:zcE xs<=1000)(hv:Srcs w vL l)(hl:l.length<=8)(mI:∀s∈l,FitL s)(hE:Prs w vE y.entries)(hy:SmallY y)(hfw:FewY y):Calls prog 8 #[.agg #[vM,vB],vL,zfA vE y,.string (bs lang)] w (FilR y lang l (zbQ xs) m n xs ms w):=by
 obtain⟨i5,hi5,Bn,Bo,Bp⟩:=cg Tryz.infoSo5;obtain⟨iE,F6,Jm,Jn,Jo⟩:=cg Tryz.infoEnt;have hnd:(zbQ xs).Nodup:=zm8 _;have hkl:(zbQ xs).length<=1000000:=bC (zs1 _) hi3;obtain⟨aM,cM,rfl,lM⟩:=(show∃a c,vM=.slice a ms.length c/\ms.length<=c by obtain⟨a,c,e,q,_⟩:=hM;exact⟨a,c,e,q⟩);obtain⟨aB,cB,rfl,lB⟩:=hB.form;obtain⟨aL,cL,rfl,lL⟩:=(show∃a c,vL=.slice a l.length c/\l.length<=c by obtain⟨a,c,e,q,_⟩:=hv;exact⟨a,c,e,q⟩);obtain⟨aE,cE,rfl,lE⟩:=(show∃a c,vE=.slice a y.entries.length c/\y.entries.length<=c by obtain⟨a,c,e,q,_⟩:=hE;exact⟨a,c,e,q⟩);have qP:=Hd (fun w' (k:Kept w w')=>zjP (.slice aE y.entries.length cE) y w' (ni.gnd.kept k) hy (hE.kept k));have po:=Hd (fun w' (k:Kept w w')=>zBm (.slice aL l.length cL) l w' (ni.gnd.kept k) (hv.kept k) (fun s hs=>(mI s hs).small) a_);have Ab:=Hd (fun w' (k:Kept w w')=>zj6 m n aM ms.length cM (.slice aB xs.length cB) xs w' ((hB.kept k).mono (fun g _ q=>aU q k.size)) hxs mn hi1 hi2 hi3);unfold CiKP at Ab;have sU:=Hd (fun w' (k:Kept w w') key=>zC0 (.slice aL l.length cL) l key w' (hv.kept k) a_ (fun s hs=>by have:=mI s hs;exact⟨by have:=this.1;omega,by have:=this.2.1;omega,by have:=this.2.2.1;omega⟩));unfold FindFr at sU;have oP:Hi (∀E,zhJ y l (zbQ xs)=E->E≠0->∀w',Kept w w'->FilR y lang l (zbQ xs) m n xs ms w (.returned (.tuple #[.agg #[.slice none 0 0,.slice none 0 0],.int .i64 E])) w'):=fun E h1 h2 w' k=>⟨_,_,by rw[h1],k,fun _=>⟨rfl,rfl⟩,fun q=>absurd (h1.symm.trans q) h2⟩;have lh:Hi (zhJ y l (zbQ xs)=0->∀Gx Gy w',Prs w' Gx ms->Bls (fun g=>w.heap.size<=g) m n w' Gy (zcK (fiC y lang l (zbQ xs)) m n xs)->Kept w w'->FilR y lang l (zbQ xs) m n xs ms w (.returned (.tuple #[.agg #[Gx,Gy],.int .i64 0])) w'):=fun h0 Gx Gy w' h1 h2 k=>⟨Gx,Gy,by rw[h0],k,fun q=>absurd h0 q,fun _=>⟨h1,h2⟩⟩;have nW:Hi (zcU y≠0->zhJ y l (zbQ xs)=zcU y):=fun h=>ae h;have HE2:Hi (zcU y=0->zdA l≠0->zhJ y l (zbQ xs)=zdA l):=fun h h2=>(aa (fun q=>q h)).trans (ae h2);have tL:Hi (zcU y=0->zdA l=0->(¬ ∀k∈zbQ xs,(zf5 l k).isSome=true)->zhJ y l (zbQ xs)=13):=fun h h2 h3=>(aa (fun q=>q h)).trans ((aa (fun q=>q h2)).trans (aa h3));have Ca:Hi (zcU y=0->zdA l=0->(∀k∈zbQ xs,(zf5 l k).isSome=true)->zhJ y l (zbQ xs)=0):=fun h h2 h3=>(aa (fun q=>q h)).trans ((aa (fun q=>q h2)).trans (ae h3));have tB:Hi (zcU y=0->FitQ (fiC y lang l (zbQ xs))/\(fiC y lang l (zbQ xs)).ents.length<=8):=fun h=>⟨zC4 h lang hl hnd hfw mI,zC3 h lang hl hnd⟩;have uh:Hi (zcU y=0->(zcG l (zbQ xs)).length<=8/\(∀s∈zcG l (zbQ xs),FitL s)/\zAd y lang (zcG l (zbQ xs))=(0,znB y lang l (zbQ xs))/\(znB y lang l (zbQ xs)).length<=8/\(∀s∈znB y lang l (zbQ xs),FitL s)/\zjI y lang (znB y lang l (zbQ xs))=(0,(zjI y lang (znB y lang l (zbQ xs))).2)/\(zjI y lang (znB y lang l (zbQ xs))).2.length=(znB y lang l (zbQ xs)).length/\(fiC y lang l (zbQ xs)).ents=zf3 (znB y lang l (zbQ xs)) (zjI y lang (znB y lang l (zbQ xs))).2):=fun h =>
  ⟨bC (zxA l _ hnd) hl,fun s hs=>mI s (zs3 hs),zIm h lang l _,bC (zvD h lang l hnd) hl,fun s hs=>mI s (zqH h hs),zIn h _ _,zFD h _ _,rfl⟩
 have qK:=Hd (fun(cs:List SrcT) (nf:cs.length<=8) (hcf:∀s∈cs,FitL s) w' (k:Kept w w') v (h:Srcs w' v cs)=>zBY v (.slice aE y.entries.length cE) cs y lang w' (ni.kept k) h a_ hcf (hE.kept k) hy);unfold OrdP at qK;have uN:=Hd (fun(cs:List SrcT) (nf:cs.length<=8) (hcf:∀s∈cs,FitL s) w' (k:Kept w w') v (h:Srcs w' v cs)=>ztC v (.slice aE y.entries.length cE) cs y lang w' (ni.kept k) h nf hcf (hE.kept k) hy hfw.2.2.2);unfold SufPo at uN;have oR:=Hd (fun w' (k:Kept w w')=>zKb (.slice aM ms.length cM) ms w' (hM.kept k) a_);unfold ClnF at oR;have qy:=Hd (fun(c:FlT) (F:Nat) (hc:FitQ c/\c.ents.length<=8) (w':World) (k:Kept w w') (hf:FlM c F w')=>zDc (S:=fun g=>g<w.heap.size) c F m hc.1 hc.2 hm n xs (.slice aB xs.length cB) w' (ni.kept k) hf (hB.kept k) EJ hsum);unfold BksP at qy;have Cb:=Hd (fun w' (k:Kept w w')=>hE.kept k);obtain⟨ks,pN⟩:=gX (zbQ xs);rw[pN.o]at Ab oP lh nW HE2 tL Ca tB uh hnd hkl ⊢;generalize FilR y lang l ks m n xs ms w=P at *;clear hM hB mn hi1 hi2 hi3 EJ hsum hv mI hE ni hxs hy hfw pN;have HD0:=Hd (((aI w 25 #[.slice aM ms.length cM,.slice aB xs.length cB]).alloc (.cells (zaK (.slice aE y.entries.length cE) y) 28)).alloc (.cells #[.slice none 0 0,.slice none 0 0] 25));have hY0:=(aI (w.alloc (.cells #[.slice aM ms.length cM,.slice aB xs.length cB] 25)) 28 (zaK (.slice aE y.entries.length cE) y)).alloc (.cells #[.slice none 0 0,.slice none 0 0] 25);have hR0:=aI ((w.alloc (.cells #[.slice aM ms.length cM,.slice aB xs.length cB] 25)).alloc (.cells (zaK (.slice aE y.entries.length cE) y) 28)) 25 #[.slice none 0 0,.slice none 0 0];simp only[de]at hY0 hR0;have lg:=Hd (((zaA w (.cells #[.slice aM ms.length cM,.slice aB xs.length cB] 25)).trans (zaA _ (.cells (zaK (.slice aE y.entries.length cE) y) 28))).trans (zaA _ (.cells #[.slice none 0 0,.slice none 0 0] 25)));obtain⟨D,xj⟩:=gX w.heap.size;obtain⟨R,sj⟩:=gX (D+1+1);rw[xj.o]at HD0 hY0 hR0;rw[sj.o]at hR0;have Rb:w.heap.size<=D:=(by rw[xj.o];exact aw _);have za:w.heap.size<=R:=(by have:=sj.o;omega);have Rc:D<R:=(by have:=sj.o;omega);have mM:=Hd hY0;have oI:=Hd hR0;have oi:=Hd (zc9 hY0);clear hY0 hR0;unfold zfA zaK at qP qK uN;unfold zaK at lg HD0 mM oI oi;unfold zfA zaK;go_in;go_upto_region 1 with fail;rw[xj.o,sj.o];generalize World.alloc (World.alloc (World.alloc w _) _) _=w0 at *;obtain⟨⟨b0,b1,b2,b3,b4,b5,b6,b7,b8,b9⟩,bz⟩:=oi.o;go_wp2_with fail;refine k_ (qP.o w0 lg.o) fun w1 ld=>?_;have kT:=Hd (lg.o.trans ld);have HD1:=Hd (HD0.o.kept ld);have vX:=Hd (mM.o.kept ld);have HR1:=Hd (oI.o.kept ld);clear ld lg HD0 mM oI oi qP b0 b1 b2 b3 b4 b5 b6 b7 b8 b9 bz;by_cases oN:¬ zcU y=0
 .have lV:(zcU y==0)=false:=(by rw[ab];exact oN);have hnb:(zcU y != 0)=true:=(by rw[dd];exact oN);have HF:=Hd (oP.o _ (nW.o oN) oN _ (zbF (zbF kT.o R 0 (.slice none 0 0) za) R 1 (.slice none 0 0) za));generalize zcU y=E at *;have r0:=HR1.o.cell 0 _ rfl;have r1:=HR1.o.cell 1 _ rfl;have s0:=HR1.o.free 0;have s1:=HR1.o.free 1;have rz:=HR1.o.lt;clear oP lh nW HE2 tL Ca tB uh po Ab sU qK uN oR qy Cb;go_wp2_with fail;refine bM (v:=.tuple #[.agg #[.slice none 0 0,.slice none 0 0],.int .i64 E]) ?_ rfl HF.o;simp [results,jA,go_sem,r0,r1,rz]
 have oN:zcU y=0:=dR.1 oN;have Jp:(zcU y==0)=true:=(by rw[bh];exact oN);have HE2:=Hd (HE2.o oN);have tL:=Hd (tL.o oN);have Ca:=Hd (Ca.o oN);have tB:=Hd (tB.o oN);have uh:=Hd (uh.o oN);rw[oN];clear nW Jp oN;go_wp2_with fail;refine k_ (po.o w1 kT.o) fun w2 ll=>?_;have kX:=Hd (kT.o.trans ll);have HD2:=Hd (HD1.o.kept ll);have xQ:=Hd (vX.o.kept ll);have kS:=Hd (HR1.o.kept ll);clear ll kT HD1 vX HR1 po;by_cases hck:¬ zdA l=0
 .have lV:(zdA l==0)=false:=(by rw[ab];exact hck);have hnb:(zdA l != 0)=true:=(by rw[dd];exact hck);have HF:=Hd (oP.o _ (HE2.o hck) hck _ (zbF (zbF kX.o R 0 (.slice none 0 0) za) R 1 (.slice none 0 0) za));generalize zdA l=E at *;have r0:=kS.o.cell 0 _ rfl;have r1:=kS.o.cell 1 _ rfl;have s0:=kS.o.free 0;have s1:=kS.o.free 1;have rz:=kS.o.lt;clear oP lh HE2 tL Ca tB uh Ab sU qK uN oR qy Cb;go_wp2_with fail;refine bM (v:=.tuple #[.agg #[.slice none 0 0,.slice none 0 0],.int .i64 E]) ?_ rfl HF.o;simp [results,jA,go_sem,r0,r1,rz]
 have hck:zdA l=0:=dR.1 hck;have tL:=Hd (tL.o hck);have lh:=Hd (fun h=>lh.o (Ca.o hck h));rw[hck];clear HE2 Ca hck;have x0:=HD2.o.cell 0 _ rfl;have x1:=HD2.o.cell 1 _ rfl;have xz:=HD2.o.lt;go_wp2_with fail;refine(Ab.o w2 kX.o).mono ?_;rintro e w3 ⟨v3,rfl,hs3,li⟩;have oo:=Hd hs3;obtain⟨a3,c3,rfl,l3⟩:=hs3.shape;have lq:=Hd (kX.o.trans li);have HD3:=Hd (HD2.o.kept li);have Lv:=Hd (xQ.o.kept li);have HR3:=Hd (kS.o.kept li);clear li hs3 kX HD2 xQ kS Ab x0 x1 xz;go_wp2_with fail;go_loopw [12,39] (fun v i wr=>∃(k:Nat),k<=ks.length/\i=.int .i64 k/\Hi (∀q∈ks.take k,(zf5 l q).isSome=true)/\Hi (OutG SrcK 5 (fun _=>True) w3.heap.size 50 wr v (zcG l (ks.take k)))/\Hi (Kept w3 wr)) (fun _ i _=>ks.length - (intOf i).toNat)
 .exact⟨0,ai _,rfl,(fun _ h=>by cases h),ey _ _ _ _ _ _,af _⟩
 case round =>
  obtain⟨k,hk,rfl,uO,lu,kO⟩:=hrel;by_cases kV:k<ks.length
  .obtain⟨key,hkey⟩:∃x,ks[k]? = some x:=⟨_,ac kV⟩;obtain⟨g,o,rfl,mY,d0',-,-⟩:=oo.o.cell_of k key hkey;have d0:=(kO.o.cell (p:=⟨g,o+k,none⟩) mY).trans d0';have hgr:g<wr.heap.size:=aU mY kO.o.size;have mN:=zFF l ks k;cases hf:zf5 l key with
   | none =>
    have qQ:=Hd (sU.o wr (lq.o.trans kO.o) key);rw[hf]at qQ;simp only[fN,ga]at qQ;have hno:¬ ∀q∈ks,(zf5 l q).isSome=true:=fun h=>by
     have:=h key (am hkey);rw[hf]at this;cases this
    have HF:=Hd (oP.o 13 (tL.o hno) c_);clear oP lh tL tB uh sU qK uN oR qy Cb uO lu hkey d0' mN hf hno;go_wp2_with fail;refine qQ.o.mono ?_;rintro e w4 ⟨uA,uS,uF,rfl,pA,pE,pF,-,mu⟩;obtain⟨bA,eA,rfl,-⟩:=pA.shape;obtain⟨bS,eS,rfl,-⟩:=pE.shape;obtain⟨bF,eF,rfl,-⟩:=(show∃a c,uF=.slice a zkV.fields.length c/\zkV.fields.length<=c by obtain⟨a,c,e,l,_⟩:=pF;exact⟨a,c,e,l⟩);have lU:=zaA w4 (.cells #[.string (bs zkV.key),.string (bs zkV.type),.slice bA zkV.author.length eA,.slice bS zkV.editor.length eS,.slice bF zkV.fields.length eF] 50);have kZ:=Hd ((kO.o.trans mu).trans lU);have HR4:=Hd (HR3.o.kept kZ.o);have HF:=Hd (HF.o _ (zbF (zbF (lq.o.trans kZ.o) R 0 (.slice none 0 0) za) R 1 (.slice none 0 0) za));have r0:=HR4.o.cell 0 _ rfl;have r1:=HR4.o.cell 1 _ rfl;have s0:=HR4.o.free 0;have s1:=HR4.o.free 1;have rz:=HR4.o.lt;clear mu lU pA pE pF qQ d0 mY;go_wp2_with fail;refine bM (v:=.tuple #[.agg #[.slice none 0 0,.slice none 0 0],.int .i64 13]) ?_ rfl HF.o;simp [results,jA,go_sem,r0,r1,rz]
   | some s =>
    have qQ:=Hd (sU.o wr (lq.o.trans kO.o) key);rw[hf]at qQ;simp only[dE,eO]at qQ;have HT:=Hd (zzT hkey hf);have EK:Hi (∀q∈ks.take (k+1),(zf5 l q).isSome=true):=fun q hq=>by
     rw[zaV hkey,aV,bu]at hq;rcases hq with hq|rfl
     .exact uO.o q hq
     .rw[hf];rfl
    obtain⟨us,nY⟩:=gX (zcG l (ks.take k));rw[nY.o]at lu HT mN;clear sU hkey d0' hf uO nY oP lh tL tB uh qK uN oR qy Cb;go_wp2_with fail;refine qQ.o.mono ?_;rintro e w4 ⟨uA,uS,uF,rfl,pA,pE,pF,⟨fA,fE,fF⟩,mu⟩;have iA:=pA.fresh fA;have Lw:=pE.fresh fE;have iF:=pF.fresh fF;obtain⟨bA,eA,rfl,-⟩:=pA.shape;obtain⟨bS,eS,rfl,-⟩:=pE.shape;obtain⟨bF,eF,rfl,-⟩:=(show∃a c,uF=.slice a s.fields.length c/\s.fields.length<=c by obtain⟨a,c,e,l,_⟩:=pF;exact⟨a,c,e,l⟩);obtain⟨ar,cr,rfl,hcr,hmr⟩:=lu.o.form;have lU:=zaA w4 (.cells #[.string (bs s.key),.string (bs s.type),.slice bA s.author.length eA,.slice bS s.editor.length eS,.slice bF s.fields.length eF] 50);have oW:=zaA (w4.alloc (.cells #[.string (bs s.key),.string (bs s.type),.slice bA s.author.length eA,.slice bS s.editor.length eS,.slice bF s.fields.length eF] 50)) (.cells #[.string (bs s.key),.string (bs s.type),.slice bA s.author.length eA,.slice bS s.editor.length eS,.slice bF s.fields.length eF] 50);have ly:=Hd (aI (w4.alloc (.cells #[.string (bs s.key),.string (bs s.type),.slice bA s.author.length eA,.slice bS s.editor.length eS,.slice bF s.fields.length eF] 50)) 50 #[.string (bs s.key),.string (bs s.type),.slice bA s.author.length eA,.slice bS s.editor.length eS,.slice bF s.fields.length eF]);have kZ:=Hd ((kO.o.trans mu).trans (lU.trans oW));have ro:=Hd (lu.o.kept zDG (mu.trans (lU.trans oW)));have og:Hi (SrcK (fun g=>True/\(Value.slice ar us.length cr).ownBlock≠some g) ((w4.alloc (.cells #[.string (bs s.key),.string (bs s.type),.slice bA s.author.length eA,.slice bS s.editor.length eS,.slice bF s.fields.length eF] 50)).alloc (.cells #[.string (bs s.key),.string (bs s.type),.slice bA s.author.length eA,.slice bS s.editor.length eS,.slice bF s.fields.length eF] 50)) [.string (bs s.key),.string (bs s.type),.slice bA s.author.length eA,.slice bS s.editor.length eS,.slice bF s.fields.length eF] s) :=
     ⟨_,_,_,rfl,⟨⟨pA.kept (lU.trans oW),fun q g h=>⟨trivial,fun e=>by have:=iA q g h;have:=(lu.o.blk g e).2;omega⟩⟩,⟨pE.kept (lU.trans oW),fun q g h=>⟨trivial,fun e=>by have:=Lw q g h;have:=(lu.o.blk g e).2;omega⟩⟩,pF.kept (lU.trans oW),fun q g h=>⟨trivial,fun e=>by have:=iF q g h;have:=(lu.o.blk g e).2;omega⟩⟩⟩
    have hbz:w3.heap.size<=((w4.alloc (.cells #[.string (bs s.key),.string (bs s.type),.slice bA s.author.length eA,.slice bS s.editor.length eS,.slice bF s.fields.length eF] 50)).alloc (.cells #[.string (bs s.key),.string (bs s.type),.slice bA s.author.length eA,.slice bS s.editor.length eS,.slice bF s.fields.length eF] 50)).heap.size:=kZ.o.size;rw[de]at ly;clear mu lU oW pA pE pF lu kO qQ d0 mY hgr fA fE fF iA Lw iF;go_wp2_with (at_builtin;refine zeG ?_);refine Hd ?_;refine zaO zDG rfl (.tmp 52) (.tmp 54) 26 rfl i5 _ 104 ia hi5 Bn Bo Bp rfl a_ d_ ro.o (w4.heap.size+1) _ _ d_ (fun j u hu=>ly.o.cell j u (by rw[<- bE];exact hu)) rfl og.o h_ a_ hbz _ rfl ?_;intro g7 pR w7 lp lf mB mT;have mi:Hi (OutG SrcK 5 (fun _=>True) w3.heap.size 50 w7 (.slice (some ⟨g7,0,none⟩) (us.length+1) pR) (zcG l (ks.take (k+1)))):=(by rw[HT.o];exact lp);have mE:Hi (Kept w3 w7):=kZ.o.trans' ((ch lf).below kZ.o.size (fun i q=>(ro.o.blk i q.symm).1));clear lp lf mB mT ly ro kZ hbz og;go_wp2;go_roundw
    .exact⟨k+1,a_,by go_num,EK.o,mi.o,mE.o⟩
    .simp [intOf];omega
  .obtain rfl:k=ks.length:=a_;rw[bi]at uO lu;have lh:=Hd (lh.o uO.o);obtain⟨nf,hcf,hoe,hol,hof,hse,hsl,hen'⟩:=uh.o;have xl:=Hd (qK.o (zcG l ks) nf hcf);have xm:=Hd (uN.o (znB y lang l ks) hol hof);rw[hoe]at xl;rw[hse]at xm;obtain⟨cs,pP⟩:=gX (zcG l ks);obtain⟨os,wh⟩:=gX (znB y lang l ks);rw[pP.o]at lu xl nf;rw[wh.o]at xl xm hol hsl hen';obtain⟨ss,tu⟩:=gX ((zjI y lang os).2);rw[tu.o]at xm hsl hen';obtain⟨fc,Jq⟩:=gX (fiC y lang l ks);have ye:Hi (fc.sty=y/\fc.lang=lang):=(by rw[<- Jq.o];exact⟨rfl,rfl⟩);rw[Jq.o]at lh tB hen';have sE:=Hd hen';clear uh qK uN hcf hoe hof hse pP wh tu Jq hen' uO tL sU oP;have yf:=Hd (Srcs.row (lu.o.row (S:=fun _=>True) zDG (fun _ _ q=>q) (fun _ _=>trivial)));obtain⟨ar,cr,rfl,hcr,hmr⟩:=lu.o.form;have mg:=Hd (lq.o.trans kO.o);have HD4:=Hd (HD3.o.kept kO.o);have Jr:=Hd (Lv.o.kept kO.o);have HR4:=Hd (HR3.o.kept kO.o);have ua:=Hd (xl.o wr mg.o _ yf.o);have oi:=Hd (zc9 (vE:=.slice aE y.entries.length cE) (y:=y) Jr.o);obtain⟨⟨b0,b1,b2,b3,b4,b5,b6,b7,b8,b9⟩,bz⟩:=oi.o;clear lu yf kO lq HD3 Lv HR3 oi xl;go_wp2_with fail;refine ua.o.mono ?_;rintro e w5 ⟨v5,rfl,qx,lU⟩;have oF:=Hd qx;obtain⟨a5,c5,rfl,Ng,Rd⟩:=qx.form;have lX:=Hd (mg.o.trans lU);have HD5:=Hd (HD4.o.kept lU);have Js:=Hd (Jr.o.kept lU);have Aj:=Hd (HR4.o.kept lU);have yf:=Hd (Srcs.row (qx.row (S:=fun _=>True) zDG (fun _ _ _=>trivial) (fun _ _=>trivial)));have Lx:=Hd (xm.o w5 lX.o _ yf.o);have oi:=Hd (zc9 (vE:=.slice aE y.entries.length cE) (y:=y) Js.o);clear lU qx mg HD4 Jr HR4 ua yf xm b0 b1 b2 b3 b4 b5 b6 b7 b8 b9 bz;obtain⟨⟨b0,b1,b2,b3,b4,b5,b6,b7,b8,b9⟩,bz⟩:=oi.o;clear oi;go_wp2_with fail;refine Lx.o.mono ?_;rintro e w6 ⟨v6,rfl,hs6,oW⟩;have yH:=Hd hs6;obtain⟨a6,c6,rfl,l6⟩:=hs6.shape;have lH:=Hd (lX.o.trans oW);have HD6:=Hd (HD5.o.kept oW);have Ly:=Hd (Js.o.kept oW);have yF:=Hd (Aj.o.kept oW);have xY:=Hd (oF.o.kept zDG oW);have oi:=Hd (zc9 (vE:=.slice aE y.entries.length cE) (y:=y) Ly.o);clear oW hs6 lX HD5 Js Aj oF Lx b0 b1 b2 b3 b4 b5 b6 b7 b8 b9 bz;obtain⟨⟨b0,b1,b2,b3,b4,b5,b6,b7,b8,b9⟩,bz⟩:=oi.o;clear oi;have I2:=ep (P:=prog) 74 w6;have pX:=Hd (MapT.made w6);go_upto_region 23 with fail;have Gz:=aI (w6.alloc (.map #[] 0)) 77 #[.string (bs y.name),.bool y.numeric,.string (bs y.sort),.string (bs y.cite),.string (bs y.bare),.string (bs y.between),.string (bs y.begin_),.string (bs y.end_),.int .i64 y.most,.slice aE y.entries.length cE,.string (bs lang),.slice none 0 0,.map (some w6.heap.size)];rw[de]at Gz;have tr:=Hd ((zaA w6 (.map #[] 0)).trans (zaA _ (.cells #[.string (bs y.name),.bool y.numeric,.string (bs y.sort),.string (bs y.cite),.string (bs y.bare),.string (bs y.between),.string (bs y.begin_),.string (bs y.end_),.int .i64 y.most,.slice aE y.entries.length cE,.string (bs lang),.slice none 0 0,.map (some w6.heap.size)] 77)));have EI:=Hd (pX.o.kept (zaA (w6.alloc (.map #[] 0)) (.cells #[.string (bs y.name),.bool y.numeric,.string (bs y.sort),.string (bs y.cite),.string (bs y.bare),.string (bs y.between),.string (bs y.begin_),.string (bs y.end_),.int .i64 y.most,.slice aE y.entries.length cE,.string (bs lang),.slice none 0 0,.map (some w6.heap.size)] 77)));obtain⟨M,Ad⟩:=gX w6.heap.size;rw[Ad.o]at Gz EI tr ⊢;have Ai:=Hd Gz;have Jt:Hi (R<M):=(by show _<_;rw[<- Ad.o];exact yF.o.lt);clear Gz pX I2 b0 b1 b2 b3 b4 b5 b6 b7 b8 b9 bz;generalize World.alloc (World.alloc w6 _) _=w7 at *;have mE:=Hd (lH.o.trans tr.o);have HD7:=Hd (HD6.o.kept tr.o);have zb:=Hd (yF.o.kept tr.o);have hD7:=HD7.o.lt;have Re:=Ai.o.lt;have oX:=Hd (Cb.o w7 mE.o);clear lH HD6 yF Ly;go_wp2_with fail;obtain⟨wo,rfl⟩:∃wo:World,wo=wr:=⟨_,rfl⟩;have tW:Hi (w6.heap.size=M):=Ad.o;go_loopw [86] (fun i wr=>∃(k:Nat) (sL:Value) (mp:List (Bs×Value)),k<=os.length/\i=.int .i64 k/\Hi (Blk wr (M+1) 77 #[.string (bs y.name),.bool y.numeric,.string (bs y.sort),.string (bs y.cite),.string (bs y.bare),.string (bs y.between),.string (bs y.begin_),.string (bs y.end_),.int .i64 y.most,.slice aE y.entries.length cE,.string (bs lang),sL,.map (some M)])/\Hi (OutG EnyK 7 (fun g=>g<M) w7.heap.size 79 wr sL ((zf3 os ss).take k))/\Hi (MapT wr M mp)/\Hi (∀q,LkV w6 ((zd5 mp q).getD zFL) (lkE ((zf3 os ss).take k) q))/\Hi (Only (fun g=>g=M\/g=M+1\/w7.heap.size<=g) w7 wr)) (fun i _=>os.length - (intOf i).toNat)
   .exact⟨0,.slice none 0 0,[],ai _,rfl,Ai.o,ey _ _ _ _ _ _,EI.o,(fun q=>⟨.slice none 0 0,.slice none 0 0,.slice none 0 0,rfl,gf _,gf _,fL _⟩),bc (af _)⟩
   case round =>
    obtain⟨k,sL,mp,hk,rfl,HF,yA,HM,tH,nP⟩:=hrel;by_cases kV:k<os.length
    .obtain⟨s,hs⟩:∃x,os[k]? = some x:=⟨_,ac kV⟩;obtain⟨u,hu⟩:∃x,ss[k]? = some x:=⟨_,ac a_⟩;have xG:=zFG hs hu;have HT:=Hd (zaV xG);have un:=Hd (fun q=>zFH xG q);have mN:((zf3 os ss).take k).length=k:=(by rw[bw,znC];omega);have pG:k<8:=a_;have oD:Hi (Kept w6 wr):=tr.o.trans' (nP.o.below tr.o.size (fun i e=>by have:=tW.o;have:=tr.o.size;omega));obtain⟨g,Rf,rfl,hgb,hgz,-,-,-,mU,hR⟩:=xY.o.at_ k s hs;obtain⟨uA,uS,uF,rfl,hS⟩:=hR;have d0:=(oD.o.cell (p:=⟨g,k * 5+0,none⟩) hgz).trans (mU 0 _ rfl);have d1:=(oD.o.cell (p:=⟨g,k * 5+1,none⟩) hgz).trans (mU 1 _ rfl);have d2:=(oD.o.cell (p:=⟨g,k * 5+2,none⟩) hgz).trans (mU 2 _ rfl);have d3:=(oD.o.cell (p:=⟨g,k * 5+3,none⟩) hgz).trans (mU 3 _ rfl);have d4:=(oD.o.cell (p:=⟨g,k * 5+4,none⟩) hgz).trans (mU 4 _ rfl);simp only[dl]at d0 d1 d2 d3 d4;have iA:=hS.1.2;have iS:=hS.2.1.2;have iF:=hS.2.2.2;have zA:=hS.1.1.ltB;have zS:=hS.2.1.1.ltB;have zF:=hS.2.2.1.ltB;obtain⟨bA,eA,rfl,-⟩:=hS.1.1.shape;obtain⟨bS,eS,rfl,-⟩:=hS.2.1.1.shape;obtain⟨bF,eF,rfl,-⟩:=(show∃a c,uF=.slice a s.fields.length c/\s.fields.length<=c by obtain⟨a,c,e,l,_⟩:=hS.2.2.1;exact⟨a,c,e,l⟩);have vk:=Hd hS.1.1;have qI:=Hd hS.2.1.1;have Od:=Hd hS.2.2.1;have we:Hi (SrcL (fun g=>g<M) w6 (.slice bA s.author.length eA) (.slice bS s.editor.length eS) (.slice bF s.fields.length eF) s):=⟨⟨hS.1.1,fun q g h=>by rw[<- tW.o];exact zA q g h⟩,⟨hS.2.1.1,fun q g h=>by rw[<- tW.o];exact zS q g h⟩,hS.2.2.1,fun q g h=>by rw[<- tW.o];exact zF q g h⟩;obtain⟨g2,o2,rfl,hg2,t0',-,-⟩:=yH.o.cell_of k u hu;have t0:=(oD.o.cell (p:=⟨g2,o2+k,none⟩) hg2).trans t0';have hgr:g<wr.heap.size:=aU hgz oD.o.size;have Cc:g2<wr.heap.size:=aU hg2 oD.o.size;have pH:=Hd (aI wr 50 #[.string (bs s.key),.string (bs s.type),.slice bA s.author.length eA,.slice bS s.editor.length eS,.slice bF s.fields.length eF]);have lj:=zaA wr (.cells #[.string (bs s.key),.string (bs s.type),.slice bA s.author.length eA,.slice bS s.editor.length eS,.slice bF s.fields.length eF] 50);have uj:=Hd (HF.o.kept lj);have nQ:=Hd (HM.o.kept lj);have rI:=Hd (nP.o.trans (bc lj));have Cd:Hi (∀g,sL.ownBlock=some g->w7.heap.size<=g/\g<wr.heap.size):=fun g e=>yA.o.blk g e;have Ce:=Hd (yA.o.kept zFK lj);have EL:Hi (SrcL (fun g=>g<M) (wr.alloc (.cells #[.string (bs s.key),.string (bs s.type),.slice bA s.author.length eA,.slice bS s.editor.length eS,.slice bF s.fields.length eF] 50)) (.slice bA s.author.length eA) (.slice bS s.editor.length eS) (.slice bF s.fields.length eF) s):=we.o.sam (cU (oD.o.trans lj)) (fun _ _ q=>q);have t2:=(lj.cell (p:=⟨g2,o2+k,none⟩) Cc).trans t0;have Oe:g2<(wr.alloc (.cells #[.string (bs s.key),.string (bs s.type),.slice bA s.author.length eA,.slice bS s.editor.length eS,.slice bF s.fields.length eF] 50)).heap.size:=aU Cc lj.size;obtain⟨I,yX⟩:=gX wr.heap.size;rw[yX.o]at pH Cd;have Rg:M+1<I:=(by rw[<- yX.o];exact HF.o.lt);have Rh:w7.heap.size<=I:=(by rw[<- yX.o];exact nP.o.size);clear mU hS t0' lj hgb HF HM nP yA we iA iS iF zA zS zF xG hs hu;obtain⟨us,nY⟩:=gX ((zf3 os ss).take k);rw[nY.o]at HT un mN tH Ce;have Ri:us.length<=8:=a_;clear nY mN;go_upto_region 26 with fail;rw[yX.o];generalize wr.alloc _=w8 at *;clear d0 d1 d2 d3 d4 t0 hgr Cc;have i0:=pH.o.cell 0 _ rfl;have i1:=pH.o.cell 1 _ rfl;have i2:=pH.o.cell 2 _ rfl;have i3:=pH.o.cell 3 _ rfl;have i4:=pH.o.cell 4 _ rfl;have iz:=pH.o.lt;go_region;have hke:Kept w8 (w8.alloc (.cells #[.string (bs s.key),.string (bs s.type),.slice bA s.author.length eA,.slice bS s.editor.length eS,.slice bF s.fields.length eF,.string (bs u),.int .i64 ((k:Int)+1)] 79)).drew:=(zaA w8 (.cells #[.string (bs s.key),.string (bs s.type),.slice bA s.author.length eA,.slice bS s.editor.length eS,.slice bF s.fields.length eF,.string (bs u),.int .i64 ((k:Int)+1)] 79)).trans (zaB _ 1);have xn:Hi (Blk (w8.alloc (.cells #[.string (bs s.key),.string (bs s.type),.slice bA s.author.length eA,.slice bS s.editor.length eS,.slice bF s.fields.length eF,.string (bs u),.int .i64 ((k:Int)+1)] 79)).drew w8.heap.size 79 #[.string (bs s.key),.string (bs s.type),.slice bA s.author.length eA,.slice bS s.editor.length eS,.slice bF s.fields.length eF,.string (bs u),.int .i64 ((k:Int)+1)]):=(aI w8 79 #[.string (bs s.key),.string (bs s.type),.slice bA s.author.length eA,.slice bS s.editor.length eS,.slice bF s.fields.length eF,.string (bs u),.int .i64 ((k:Int)+1)]).kept (zaB _ 1);have wV:=Hd (pH.o.kept hke);have Af:=Hd (uj.o.kept hke);have tU:=Hd (nQ.o.kept hke);have EM:=Hd (Ce.o.kept zFK hke);have EN:Hi (SrcL (fun g=>g<M) (w8.alloc (.cells #[.string (bs s.key),.string (bs s.type),.slice bA s.author.length eA,.slice bS s.editor.length eS,.slice bF s.fields.length eF,.string (bs u),.int .i64 ((k:Int)+1)] 79)).drew (.slice bA s.author.length eA) (.slice bS s.editor.length eS) (.slice bF s.fields.length eF) s):=EL.o.sam (cU hke) (fun _ _ q=>q);have Cf:Hi (Only (fun g=>g=M\/g=M+1\/w7.heap.size<=g) w7 (w8.alloc (.cells #[.string (bs s.key),.string (bs s.type),.slice bA s.author.length eA,.slice bS s.editor.length eS,.slice bF s.fields.length eF,.string (bs u),.int .i64 ((k:Int)+1)] 79)).drew):=rI.o.trans (bc hke);obtain⟨E,uH⟩:=gX w8.heap.size;rw[uH.o]at xn;have Lz:I<E:=(by rw[<- uH.o];exact iz);go_upto_region 27 with fail;rw[uH.o];change Code.wp _ _ _ _ (w8.alloc (.cells #[.string (bs s.key),.string (bs s.type),.slice bA s.author.length eA,.slice bS s.editor.length eS,.slice bF s.fields.length eF,.string (bs u),.int .i64 ((k:Int)+1)] 79)).drew;generalize (w8.alloc (.cells #[.string (bs s.key),.string (bs s.type),.slice bA s.author.length eA,.slice bS s.editor.length eS,.slice bF s.fields.length eF,.string (bs u),.int .i64 ((k:Int)+1)] 79)).drew=w9 at *;clear i0 i1 i2 i3 i4 iz t2 Oe hke pH uj nQ Ce EL rI uH yX;have f11:=Af.o.cell 11 _ rfl;have Ju:=Af.o.free 11;have fz:=Af.o.lt;have c0:=xn.o.cell 0 _ rfl;have c1:=xn.o.cell 1 _ rfl;have c2:=xn.o.cell 2 _ rfl;have c3:=xn.o.cell 3 _ rfl;have c4:=xn.o.cell 4 _ rfl;have c5:=xn.o.cell 5 _ rfl;have c6:=xn.o.cell 6 _ rfl;have cz:=xn.o.lt;have xS:Kept w9 (w9.alloc (.cells #[.string (bs s.key),.string (bs s.type),.slice bA s.author.length eA,.slice bS s.editor.length eS,.slice bF s.fields.length eF,.string (bs u),.int .i64 ((k:Int)+1)] 79)).drew:=(zaA w9 (.cells #[.string (bs s.key),.string (bs s.type),.slice bA s.author.length eA,.slice bS s.editor.length eS,.slice bF s.fields.length eF,.string (bs u),.int .i64 ((k:Int)+1)] 79)).trans (zaB _ 1);have ly:Hi (Blk (w9.alloc (.cells #[.string (bs s.key),.string (bs s.type),.slice bA s.author.length eA,.slice bS s.editor.length eS,.slice bF s.fields.length eF,.string (bs u),.int .i64 ((k:Int)+1)] 79)).drew w9.heap.size 79 #[.string (bs s.key),.string (bs s.type),.slice bA s.author.length eA,.slice bS s.editor.length eS,.slice bF s.fields.length eF,.string (bs u),.int .i64 ((k:Int)+1)]):=(aI w9 79 #[.string (bs s.key),.string (bs s.type),.slice bA s.author.length eA,.slice bS s.editor.length eS,.slice bF s.fields.length eF,.string (bs u),.int .i64 ((k:Int)+1)]).kept (zaB _ 1);have Cg:=Hd (EM.o.kept zFK xS);obtain⟨LA,LB,rfl,Of,Og⟩:=Cg.o.form;have og:Hi (EnyK (fun g=>g<M/\(Value.slice LA us.length LB).ownBlock≠some g) (w9.alloc (.cells #[.string (bs s.key),.string (bs s.type),.slice bA s.author.length eA,.slice bS s.editor.length eS,.slice bF s.fields.length eF,.string (bs u),.int .i64 ((k:Int)+1)] 79)).drew [.string (bs s.key),.string (bs s.type),.slice bA s.author.length eA,.slice bS s.editor.length eS,.slice bF s.fields.length eF,.string (bs u),.int .i64 ((k:Int)+1)] ⟨s,u,(k:Int)+1⟩):=⟨_,_,_,rfl,EN.o.sam (cU xS) (fun g _ q=>⟨q,fun e=>by have:=(Cd.o g e).1;omega⟩)⟩;have hbz:w7.heap.size<=(w9.alloc (.cells #[.string (bs s.key),.string (bs s.type),.slice bA s.author.length eA,.slice bS s.editor.length eS,.slice bF s.fields.length eF,.string (bs u),.int .i64 ((k:Int)+1)] 79)).drew.heap.size:=bC Cf.o.size xS.size;have ri:=Hd xS;clear xS EM EN;go_wp2_with fail
     go_region_law (first
      | (refine zmT zFK rfl (.tmp 103) (.tmp 105) 75 rfl iE _ 128 underlying75 F6 Jm Jn Jo rfl a_ d_ Cg.o w9.heap.size _ _ d_ (fun j u hu=>ly.o.cell j u (by rw[<- bE];exact hu)) rfl og.o h_ a_ hbz _ rfl ?_;intro g7 lJ tZ lp lf mB mT;have uP:Hi (Only (fun g=>(Value.slice LA us.length LB).ownBlock=some g) w9 tZ):=(bc ri.o).trans ((ch lf).mono (fun _ _ h=>h.symm));have xo:=Hd (Af.o.onl uP.o (fun q=>by have:=(Cd.o _ q).1;omega));have f10:=xo.o.cell 11 _ rfl;have Jv:=xo.o.free 11;have Jw:=xo.o.lt;have tN:=Hd lp;clear lp lf mB mT))
     all_goals
      have pZ:=bK (w:=tZ) (M+1) 11 (.slice (some ⟨g7,0,none⟩) (us.length+1) lJ);have zd:Hi (Blk (tZ.setCell ⟨M+1,11,none⟩ (.slice (some ⟨g7,0,none⟩) (us.length+1) lJ)) (M+1) 77 #[.string (bs y.name),.bool y.numeric,.string (bs y.sort),.string (bs y.cite),.string (bs y.bare),.string (bs y.between),.string (bs y.begin_),.string (bs y.end_),.int .i64 y.most,.slice aE y.entries.length cE,.string (bs lang),.slice (some ⟨g7,0,none⟩) (us.length+1) lJ,.map (some M)]):=xo.o.set 11 _;have EO:=Hd ((tU.o.only uP.o (fun q=>by have:=(Cd.o _ q).1;omega)).only pZ a_);have rL:=Hd ((xn.o.onl uP.o (fun q=>by have:=(Cd.o _ q).2;omega)).onl pZ a_);have Ch:=Hd ((wV.o.onl uP.o (fun q=>by have:=(Cd.o _ q).2;omega)).onl pZ a_);have AG:Hi (Only (fun g=>g=M\/g=M+1\/w7.heap.size<=g) w7 (tZ.setCell ⟨M+1,11,none⟩ (.slice (some ⟨g7,0,none⟩) (us.length+1) lJ))):=(Cf.o.trans (uP.o.mono (fun i _ q=>.inr (.inr (Cd.o i q).1)))).trans (pZ.mono (fun i _ q=>.inr (.inl q)));have xp:Hi (OutG EnyK 7 (fun g=>g<M) w7.heap.size 79 (tZ.setCell ⟨M+1,11,none⟩ (.slice (some ⟨g7,0,none⟩) (us.length+1) lJ)) (.slice (some ⟨g7,0,none⟩) (us.length+1) lJ) (us++[⟨s,u,(k:Int)+1⟩])):=tN.o.only zFK pZ (fun g _ q _ e=>by omega) (fun g q e=>by have:=(tN.o.blk g q).1;omega);clear pZ Af tU xn wV Cf xo tN uP f10 Jv Jw ly Cg og ri f11 Ju fz c0 c1 c2 c3 c4 c5 c6 cz;go_upto_region 28 with fail;generalize tZ.setCell _ _=rG at *;have k12:=zd.o.cell 12 _ rfl;have kz:=zd.o.lt;have i0:=Ch.o.cell 0 _ rfl;have iz:=Ch.o.lt;have c0:=rL.o.cell 0 _ rfl;have c1:=rL.o.cell 1 _ rfl;have c2:=rL.o.cell 2 _ rfl;have c3:=rL.o.cell 3 _ rfl;have c4:=rL.o.cell 4 _ rfl;have c5:=rL.o.cell 5 _ rfl;have c6:=rL.o.cell 6 _ rfl;have cz:=rL.o.lt;have hmd:MapT rG.drew M mp:=EO.o.kept (zaB rG 1);obtain⟨mp',hes,up⟩:=upT (P:=prog) (tm:=74) (te:=79) underlying74 aq rG.drew M mp s.key (.agg #[.string (bs s.key),.string (bs s.type),.slice bA s.author.length eA,.slice bS s.editor.length eS,.slice bF s.fields.length eF,.string (bs u),.int .i64 ((k:Int)+1)]) hmd;have Dv:=Hd hes;have LC:=Hd hmd;clear hes hmd;go_region
      all_goals
       have ze:=zfF rG.drew M mp';have kd:Kept rG rG.drew:=zaB rG 1;have Jx:Hi (Blk (ztR rG.drew M mp') (M+1) 77 #[.string (bs y.name),.bool y.numeric,.string (bs y.sort),.string (bs y.cite),.string (bs y.bare),.string (bs y.between),.string (bs y.begin_),.string (bs y.end_),.int .i64 y.most,.slice aE y.entries.length cE,.string (bs lang),.slice (some ⟨g7,0,none⟩) (us.length+1) lJ,.map (some M)]):=(zd.o.kept kd).onl ze a_;have Jy:Hi (MapT (ztR rG.drew M mp') M mp'):=zg4 rG.drew M mp' LC.o.lt;have EP:Hi (Only (fun g=>g=M\/g=M+1\/w7.heap.size<=g) w7 (ztR rG.drew M mp')):=(AG.o.trans (bc kd)).trans (ze.mono (fun i _ q=>.inl q));have EQ:Hi (OutG EnyK 7 (fun g=>g<M) w7.heap.size 79 (ztR rG.drew M mp') (.slice (some ⟨g7,0,none⟩) (us.length+1) lJ) ((zf3 os ss).take (k+1))):=by
        rw[HT.o];exact(xp.o.kept zFK kd).only zFK ze (fun g _ q _ e=>by omega) (fun g q e=>by have:=(xp.o.blk g q).1;omega)
       have ER:Hi (∀q,LkV w6 ((zd5 mp' q).getD zFL) (lkE ((zf3 os ss).take (k+1)) q)):=fun q=>by
        rw[Dv.o q,un.o q];by_cases hq:q=s.key
        .rw[ae hq,ae hq];exact⟨_,_,_,rfl,vk.o,qI.o,Od.o⟩
        .rw[aa hq,aa hq];exact tH.o q
       clear ze kd zd EO AG rL Ch xp Dv LC up k12 kz i0 iz c0 c1 c2 c3 c4 c5 c6 cz un HT tH;go_wp2;go_roundw
       .exact⟨k+1,_,mp',a_,by go_num,Jx.o,EQ.o,Jy.o,ER.o,EP.o⟩
       .simp [intOf];omega
    .obtain rfl:k=os.length:=a_;have htk:(zf3 os ss).take os.length=fc.ents:=(by rw[<- znC os ss,bi,sE.o]);rw[htk]at yA tH;have oD:Hi (Kept w6 wr):=tr.o.trans' (nP.o.below tr.o.size (fun i e=>by have:=tW.o;have:=tr.o.size;omega));have pk:Hi (Kept w wr):=mE.o.trans' (nP.o.below mE.o.size (fun i e=>by have:=Jt.o;have:=mE.o.size;omega));have hrm:=Jt.o;have Oh:=zb.o.lt;have GA:=Hd (HD7.o.onl nP.o a_);have tJ:=Hd (zb.o.onl nP.o a_);have tT:=HF.o.lt;have ET:Hi (FlM fc (M+1) wr):=⟨.slice aE y.entries.length cE,sL,M,mp,by rw[ye.o.1,ye.o.2];exact HF.o,rfl,by rw[ye.o.1];exact Cb.o wr pk.o,yA.o.row zFK (fun _ _ _=>trivial) (fun _ _=>trivial),HM.o,fun q=>(tH.o q).kept oD.o⟩;have pi:=Hd (fun w' (k:Kept wr w')=>qy.o fc (M+1) tB.o w' (pk.o.trans k) (ET.o.kept k));have Oi:=Hd (fun w' (k:Kept wr w')=>oR.o w' (pk.o.trans k));have x0:wr.cell? ⟨D,0,none⟩=some (.slice aM ms.length cM):=GA.o.cell 0 _ rfl;have x1:wr.cell? ⟨D,1,none⟩=some (.slice aB xs.length cB):=GA.o.cell 1 _ rfl;have zD:D<wr.heap.size:=GA.o.lt;have EU:D≠R:=a_;have Oj:R<wr.heap.size:=tJ.o.lt;have mA:Hi (∀w',Only (fun i=>i=R) wr w'->(w'.cell? ⟨D,0,none⟩=some (.slice aM ms.length cM)/\w'.cell? ⟨D,1,none⟩=some (.slice aB xs.length cB))/\D<w'.heap.size/\Only (fun i=>i=R) wr w'):=fun w' h=>⟨⟨(h.cell D 0 zD EU).trans x0,(h.cell D 1 zD EU).trans x1⟩,aU zD h.size,h⟩;have hkd:Kept wr wr.drew:=zaB wr 1;have hod:Only (fun i=>i=R) wr wr.drew:=bc hkd;clear oD HF HM nP GA qy oR xY yH tr hrm tT Oh tW mE HD7 zb Jt Ai EI ET yA tH htk tB Cb oX;go_upto_region 30 with fail
     go_region_held3 (fun w'=>(w'.cell? ⟨D,0,none⟩=some (.slice aM ms.length cM)/\w'.cell? ⟨D,1,none⟩=some (.slice aB xs.length cB))/\D<w'.heap.size/\Only (fun i=>i=R) wr w')
      ((refine mA.o _ ?_;assumption))
      (first
       | (go_at_call 26;refine(pi.o _ kA).mono ?_;rintro e wb ⟨Rj,rfl,hB1,hkb⟩;have kB:Kept wr wb:=kA.trans hkb;have oB:Only (fun i=>i=R) wr wb:=bc kB;have GB:=Hd hB1;have BV:=Hd (A7.o.kept hkb);obtain⟨AH,cB1,rfl,lB1⟩:=hB1.form;have Ok:wr.heap.size<=wa.heap.size:=kA.size;have Ol:=Hd kB;have oC:Only (fun i=>i=R) wr ((wb.setCell ⟨R,0,none⟩ (.slice zf ms.length zg)).setCell ⟨R,1,none⟩ (.slice AH (zcK fc m n xs).length cB1)):=(oB.trans (bK (w:=wb) R 0 (.slice zf ms.length zg))).trans (bK R 1 (.slice AH (zcK fc m n xs).length cB1));have r0:wb.cell? ⟨R,0,none⟩=some (.slice none 0 0):=(tJ.o.kept kB).cell 0 _ rfl;have r1:wb.cell? ⟨R,1,none⟩=some (.slice none 0 0):=(tJ.o.kept kB).cell 1 _ rfl;have s0:=(tJ.o.kept kB).free 0;have s1:=(tJ.o.kept kB).free 1;have rz:=(tJ.o.kept kB).lt;clear hB1 hkb)
       | (go_at_call 25;refine(Oi.o _ (by assumption)).mono ?_;rintro e wa ⟨Om,rfl,hm1,hi1,lj⟩;have kA:Kept wr wa:=dq (by assumption) lj;have oA:Only (fun i=>i=R) wr wa:=bc kA;have A7:=Hd hm1;have Oo:Hi (InB (fun g=>R<g) Om ms.length):=hi1.mono (fun g _ _ q=>aU Oj q);obtain⟨zf,zg,rfl,Rk⟩:=hm1.form;clear hm1 hi1 lj))
     all_goals
      have ho1:=bK (w:=wb) R 0 (.slice zf ms.length zg);have mQ:=bK (w:=wb.setCell ⟨R,0,none⟩ (.slice zf ms.length zg)) R 1 (.slice AH (zcK fc m n xs).length cB1);have ho:=ho1.trans mQ;have pD:=zbF (zbF (pk.o.trans Ol.o) R 0 (.slice zf ms.length zg) za) R 1 (.slice AH (zcK fc m n xs).length cB1) za;have ml:Bls (fun g=>w.heap.size<=g) m n ((wb.setCell ⟨R,0,none⟩ (.slice zf ms.length zg)).setCell ⟨R,1,none⟩ (.slice AH (zcK fc m n xs).length cB1)) (.slice AH (zcK fc m n xs).length cB1) (zcK fc m n xs) :=
       GB.o.sam (S':=fun g=>w.heap.size<=g) (cm ho (fun g _ q q2=>by omega)) (fun g _ q=>bC pk.o.size (bC Ok q))
      have LD:Prs ((wb.setCell ⟨R,0,none⟩ (.slice zf ms.length zg)).setCell ⟨R,1,none⟩ (.slice AH (zcK fc m n xs).length cB1)) (.slice zf ms.length zg) ms:=BV.o.sam Oo.o (cm ho (fun g _ q q2=>by omega));have uG:=Hd (lh.o _ _ _ LD ml pD);clear ho1 mQ ho pD ml LD lh;go_wp2_with fail;refine bM (v:=.tuple #[.agg #[.slice zf ms.length zg,.slice AH (zcK fc m n xs).length cB1],.int .i64 0]) ?_ rfl uG.o;simp [results,jA,go_sem,r0,r1,rz]
def zKy:Nat->List Inl->Prop
 | 0,_=>True
 | n+1,xs=>∀x∈xs,x.kids.length<=1000000/\zKy n x.kids
def zvK{S:Nat->Prop}:∀(n:Nat) (xs:List Inl) (v:Value) (w:World),Lns S n w v xs->xs.length<=1000000->zKy n xs->(zbY xs).length<=1000000->Calls prog 20 #[v] w fun e w'=>e=.returned (.string (bs (zbY xs)))/\Kept w w':=by
 intro n
 induction n with
 | zero =>
  intro xs v w hv hl mn hp;obtain rfl:=hv.no;obtain⟨a,c,rfl,hc⟩:=hv.form;show Calls prog 20 #[.slice a 0 c] w fun e w'=>e=.returned (.string (bs []))/\Kept w w';clear hv mn hp;go_in;go_wp2_with fail;simp only[zd8];go_loopw [3,4] (fun o i wr=>o=.string (bs [])/\i=.int .i64 0/\w=wr) (fun _ _ _=>1)
  .exact⟨rfl,rfl,rfl⟩
  case round =>
   obtain⟨rfl,rfl,rfl⟩:=hrel;go_wp2
   (try go_ret)
   exact⟨rfl,af _⟩
 | succ n ih =>
  intro xs v w hv hl mn hp;have HV:=Hd hv;have pM:=Hd mn;have nD:=Hd ih;have sb:=Hd (fun k=>zCa xs k);have vo:Hi (∀t,t=zbY (xs.take xs.length)->t=zbY xs):=fun t h=>(by rwa [bi]at h);obtain⟨a,c,rfl,hc⟩:=hv.form;obtain⟨R,HR⟩:=gX (zbY xs);rw[HR.o]at hp sb vo ⊢;clear hv mn ih HR;go_in;go_wp2_with fail;simp only[zd8];go_loopw [3,4] (fun o i wr=>∃(k:Nat) (t:Bs),k<=xs.length/\i=.int .i64 k/\o=.string (bs t)/\Hi (t=zbY (xs.take k))/\Hi (Kept w wr)) (fun _ i _=>xs.length - (intOf i).toNat)
  .exact⟨0,[],ai _,rfl,rfl,rfl,af _⟩
  case round =>
   obtain⟨k,t,hk,rfl,rfl,HT,kO⟩:=hrel;have htl:t.length<=1000000:=(by have h:=sb.o k;rw[<- HT.o]at h;omega);by_cases kV:k<xs.length
   .obtain⟨x,hx⟩:∃x,xs[k]? = some x:=⟨_,ac kV⟩;have mI:=pM.o x (am hx);have mD:=Hd (zuN hx);rw[<- HT.o]at mD;obtain⟨g,o,vC,vP,vA,vT,vK,rfl,mY,qC,-,-,⟨d0,d1,d2,d3,d4,d5,d6,d7,d8,d9⟩,-,-,-,-,-,hK⟩:=fX (HV.o.kept kO.o) k x hx;obtain⟨kL,kN,kP,title,id,cls,prs,args,kQ,kM⟩:=x;simp only[Inl.kind,Inl.text,Inl.dest,Inl.title,Inl.id,Inl.cls,Inl.prs,Inl.args,Inl.cits,Inl.kids]at d0 d1 d2 d3 d4 hK mI;obtain⟨f9,f10⟩:=mI;have nI:=Hd hK;obtain⟨aK,cK,rfl,lK⟩:=hK.form;have hpk:zmL (Inl.mk kL kN kP title id cls prs args kQ kM)=if kL=1\/kL=4\/kL=5 then kN else if kL=2\/kL=3 then [32]else if 6<=kL/\kL<=11 then zbY kM else if kL=16 then kP else []:=zBC _;rw[hpk]at mD;have oq:=sb.o (k+1);rw[mD.o,ah]at oq;clear hK hx hpk;by_cases ld:kL=1
    .subst ld;rw[ae (.inl rfl)]at mD oq;obtain⟨ad,-⟩:=zb3 (P:=prog) t kN (t++kN) 1000000 1000000 rfl htl a_ a_;have xq:=ad wr;clear ad;clear oq nI HT;go_wp2;go_roundw
     .exact⟨k+1,t++kN,a_,by go_num,rfl,mD.o.symm,kO.o⟩
     .simp [intOf];omega
    .by_cases mu:kL=4
     .subst mu;rw[ae (.inr (.inl rfl))]at mD oq;obtain⟨ad,-⟩:=zb3 (P:=prog) t kN (t++kN) 1000000 1000000 rfl htl a_ a_;have xq:=ad wr;clear ad;clear oq nI HT;go_wp2;go_roundw
      .exact⟨k+1,t++kN,a_,by go_num,rfl,mD.o.symm,kO.o⟩
      .simp [intOf];omega
     .by_cases lU:kL=5
      .subst lU;rw[ae (.inr (.inr rfl))]at mD oq;obtain⟨ad,-⟩:=zb3 (P:=prog) t kN (t++kN) 1000000 1000000 rfl htl a_ a_;have xq:=ad wr;clear ad;clear oq nI HT;go_wp2;go_roundw
       .exact⟨k+1,t++kN,a_,by go_num,rfl,mD.o.symm,kO.o⟩
       .simp [intOf];omega
      .by_cases ll:kL=2
       .subst ll;rw[aa a_,ae a_]at mD oq;obtain⟨ad,-⟩:=zb3 (P:=prog) t [32] (t++[32]) 1000000 1000000 rfl htl b_ a_;have xq:=ad wr;clear ad;clear oq nI HT;go_wp2;go_roundw
        .exact⟨k+1,t++[32],a_,by go_num,rfl,mD.o.symm,kO.o⟩
        .simp [intOf];omega
       .by_cases li:kL=3
        .subst li;rw[aa a_,ae a_]at mD oq;obtain⟨ad,-⟩:=zb3 (P:=prog) t [32] (t++[32]) 1000000 1000000 rfl htl b_ a_;have xq:=ad wr;clear ad;clear oq nI HT;go_wp2;go_roundw
         .exact⟨k+1,t++[32],a_,by go_num,rfl,mD.o.symm,kO.o⟩
         .simp [intOf];omega
        .by_cases oW:kL=6
         .subst oW;rw[aa a_,aa a_,ae a_]at mD oq;have HC:=Hd (nD.o kM (.slice aK kM.length cK) wr nI.o f9 f10 a_);obtain⟨kt,qo⟩:=gX (zbY kM);rw[qo.o]at mD oq HC;obtain⟨ad,-⟩:=zb3 (P:=prog) t kt (t++kt) 1000000 1000000 rfl htl a_ a_;have HAD:=Hd ad;clear ad oq nI HT;go_wp2_with fail;refine k_ HC.o fun w3 li=>?_;have xq:=HAD.o w3;have lq:=Hd (kO.o.trans li);clear li HC d0 d1 d2 d3 d4 d5 d6 d7 d8 d9;go_wp2;go_roundw
          .exact⟨k+1,t++kt,a_,by go_num,rfl,mD.o.symm,lq.o⟩
          .simp [intOf];omega
         .by_cases mS:kL=7
          .subst mS;rw[aa a_,aa a_,ae a_]at mD oq;have HC:=Hd (nD.o kM (.slice aK kM.length cK) wr nI.o f9 f10 a_);obtain⟨kt,qo⟩:=gX (zbY kM);rw[qo.o]at mD oq HC;obtain⟨ad,-⟩:=zb3 (P:=prog) t kt (t++kt) 1000000 1000000 rfl htl a_ a_;have HAD:=Hd ad;clear ad oq nI HT;go_wp2_with fail;refine k_ HC.o fun w3 li=>?_;have xq:=HAD.o w3;have lq:=Hd (kO.o.trans li);clear li HC d0 d1 d2 d3 d4 d5 d6 d7 d8 d9;go_wp2;go_roundw
           .exact⟨k+1,t++kt,a_,by go_num,rfl,mD.o.symm,lq.o⟩
           .simp [intOf];omega
          .by_cases pG:kL=8
           .subst pG;rw[aa a_,aa a_,ae a_]at mD oq;have HC:=Hd (nD.o kM (.slice aK kM.length cK) wr nI.o f9 f10 a_);obtain⟨kt,qo⟩:=gX (zbY kM);rw[qo.o]at mD oq HC;obtain⟨ad,-⟩:=zb3 (P:=prog) t kt (t++kt) 1000000 1000000 rfl htl a_ a_;have HAD:=Hd ad;clear ad oq nI HT;go_wp2_with fail;refine k_ HC.o fun w3 li=>?_;have xq:=HAD.o w3;have lq:=Hd (kO.o.trans li);clear li HC d0 d1 d2 d3 d4 d5 d6 d7 d8 d9;go_wp2;go_roundw
            .exact⟨k+1,t++kt,a_,by go_num,rfl,mD.o.symm,lq.o⟩
            .simp [intOf];omega
           .by_cases pD:kL=9
            .subst pD;rw[aa a_,aa a_,ae a_]at mD oq;have HC:=Hd (nD.o kM (.slice aK kM.length cK) wr nI.o f9 f10 a_);obtain⟨kt,qo⟩:=gX (zbY kM);rw[qo.o]at mD oq HC;obtain⟨ad,-⟩:=zb3 (P:=prog) t kt (t++kt) 1000000 1000000 rfl htl a_ a_;have HAD:=Hd ad;clear ad oq nI HT;go_wp2_with fail;refine k_ HC.o fun w3 li=>?_;have xq:=HAD.o w3;have lq:=Hd (kO.o.trans li);clear li HC d0 d1 d2 d3 d4 d5 d6 d7 d8 d9;go_wp2;go_roundw
             .exact⟨k+1,t++kt,a_,by go_num,rfl,mD.o.symm,lq.o⟩
             .simp [intOf];omega
            .by_cases hk10:kL=10
             .subst hk10;rw[aa a_,aa a_,ae a_]at mD oq;have HC:=Hd (nD.o kM (.slice aK kM.length cK) wr nI.o f9 f10 a_);obtain⟨kt,qo⟩:=gX (zbY kM);rw[qo.o]at mD oq HC;obtain⟨ad,-⟩:=zb3 (P:=prog) t kt (t++kt) 1000000 1000000 rfl htl a_ a_;have HAD:=Hd ad;clear ad oq nI HT;go_wp2_with fail;refine k_ HC.o fun w3 li=>?_;have xq:=HAD.o w3;have lq:=Hd (kO.o.trans li);clear li HC d0 d1 d2 d3 d4 d5 d6 d7 d8 d9;go_wp2;go_roundw
              .exact⟨k+1,t++kt,a_,by go_num,rfl,mD.o.symm,lq.o⟩
              .simp [intOf];omega
             .by_cases qH:kL=11
              .subst qH;rw[aa a_,aa a_,ae a_]at mD oq;have HC:=Hd (nD.o kM (.slice aK kM.length cK) wr nI.o f9 f10 a_);obtain⟨kt,qo⟩:=gX (zbY kM);rw[qo.o]at mD oq HC;obtain⟨ad,-⟩:=zb3 (P:=prog) t kt (t++kt) 1000000 1000000 rfl htl a_ a_;have HAD:=Hd ad;clear ad oq nI HT;go_wp2_with fail;refine k_ HC.o fun w3 li=>?_;have xq:=HAD.o w3;have lq:=Hd (kO.o.trans li);clear li HC d0 d1 d2 d3 d4 d5 d6 d7 d8 d9;go_wp2;go_roundw
               .exact⟨k+1,t++kt,a_,by go_num,rfl,mD.o.symm,lq.o⟩
               .simp [intOf];omega
              .by_cases EV:kL=16
               .subst EV;rw[aa a_,aa a_,aa a_,ae rfl]at mD oq;obtain⟨ad,-⟩:=zb3 (P:=prog) t kP (t++kP) 1000000 1000000 rfl htl a_ a_;have xq:=ad wr;clear ad;clear oq nI HT;go_wp2;go_roundw
                .exact⟨k+1,t++kP,a_,by go_num,rfl,mD.o.symm,kO.o⟩
                .simp [intOf];omega
               .have mX:(kL==1)=false:=(by rw[ab];exact ld);have hb4:(kL==4)=false:=(by rw[ab];exact mu);have nR:(kL==5)=false:=(by rw[ab];exact lU);have mV:(kL==2)=false:=(by rw[ab];exact ll);have mF:(kL==3)=false:=(by rw[ab];exact li);have hb6:(kL==6)=false:=(by rw[ab];exact oW);have rm:(kL==7)=false:=(by rw[ab];exact mS);have Rl:(kL==8)=false:=(by rw[ab];exact pG);have ml:(kL==9)=false:=(by rw[ab];exact pD);have Oq:(kL==10)=false:=(by rw[ab];exact hk10);have Ot:(kL==11)=false:=(by rw[ab];exact qH);have Ou:(kL==16)=false:=(by rw[ab];exact EV);rw[aa a_,aa a_,aa a_,aa a_,bN]at mD;clear oq nI HT;go_wp2;go_roundw
                .exact⟨k+1,t,a_,by go_num,rfl,mD.o.symm,kO.o⟩
                .simp [intOf];omega
   .obtain rfl:k=xs.length:=a_;obtain rfl:=vo.o t HT.o;clear HT vo;go_wp2
    (try go_ret)
    exact⟨rfl,kO.o⟩
end Go.Proofs.YtnldgmhdjancbaaGreatDoor
