/- Parts. -/
import Derived.Test.YtnldgmhdjancbaaGreatDoorW25
set_option linter.all false
set_option maxRecDepth 100000
set_option maxHeartbeats 25600000
namespace Go.Proofs.YtnldgmhdjancbaaGreatDoor
open Go.RowKit Go.Proofs.Tryz
def zKo(a:AtT)(s:Bs)(i fr:Nat):AtT×Nat×Int :=
 if za8 ((s.drop fr).take (zcD s fr - fr))=false then(a,0,5)
 else if at8 s i=35 then(if a.id≠[]then(a,0,7)else(⟨(s.drop fr).take (zcD s fr - fr),a.cls,a.prs⟩,zcD s fr,0))
 else if at8 s i=46 then((zoS a ((s.drop fr).take (zcD s fr - fr))).1,zcD s fr,(zoS a ((s.drop fr).take (zcD s fr - fr))).2)
 else if ¬ (zcD s fr<s.length/\at8 s (zcD s fr)=61)then(a,0,5)
 else if(ztH s (zcD s fr+1)).2.2=false then(a,0,5)
 else if(a.prs.map (·.1)).contains ((s.drop fr).take (zcD s fr - fr))=true then(a,0,7)
 else if 32<=a.prs.length then(a,0,3)
 else(⟨a.id,a.cls,a.prs++[((s.drop fr).take (zcD s fr - fr),(ztH s (zcD s fr+1)).1)]⟩,(ztH s (zcD s fr+1)).2.1,0)
def ztI(a:AtT)(s:Bs)(i:Nat):AtT×Nat×Int:=zKo a s i (if at8 s i=35\/at8 s i=46 then i+1 else i)
def ItmP(B:Nat)(r:AtT×Nat×Int)(vC vP:Value)(w:World)(e:Ending)(w':World):Prop:=∃tP Ck,e=.returned (.tuple #[.agg #[.string (bs r.1.id),tP,Ck],.int .i64 (r.2.1:Nat),.int .i64 r.2.2])/\Own2 B w' tP Ck r.1.cls r.1.prs/\Only (fun i=>some i=vC.ownBlock\/some i=vP.ownBlock) w w'
def zz0(B:Nat)(id:Bs)(cls:List Bs)(prs:List Pr)(s:Bs)(i:Nat)(vC vP:Value)(w:World)(hO:Own2 B w vC vP cls prs)(hB:B<=w.heap.size)(hl:cls.length<=1000)(hl2:prs.length<=1000)(hs:s.length<=1000000)(hi:i<s.length):Calls prog 197 #[.agg #[.string (bs id),vC,vP],.string (bs s),.int .i64 i] w (ItmP B (ztI ⟨id,cls,prs⟩ s i) vC vP w):=by
 obtain⟨aC,cC,aP,cP,rfl,rfl⟩:=hO.shape;have HO:=Hd hO;obtain⟨R,HR⟩:=gX (ztI ⟨id,cls,prs⟩ s i);rw[HR.o];obtain⟨S,O1,hSr,lh⟩:∃S:Nat->Prop,(∀i,some i=(Value.slice aC cls.length cC).ownBlock->S i)/\(∀i,some i=(Value.slice aP prs.length cP).ownBlock->S i)/\Hi (∀id' tP Ck tQ Cl (tq:Nat) er w',R=(⟨id',tQ,Cl⟩,tq,er)->Own2 B w' tP Ck tQ Cl->Only S w w'->ItmP B R (.slice aC cls.length cC) (.slice aP prs.length cP) w (.returned (.tuple #[.agg #[.string (bs id'),tP,Ck],.int .i64 (tq:Nat),.int .i64 er])) w'):=⟨_,fun _ q=>.inl q,fun _ q=>.inr q,fun id' tP Ck tQ Cl tq er w' h1 h2 h3=>⟨tP,Ck,by rw[h1],by rw[h1];exact h2,h3⟩⟩;generalize ItmP B R (.slice aC cls.length cC) (.slice aP prs.length cP) w=P at *;have LS:=Hd (fun fr w' (h:fr<=s.length)=>ztG s fr w' a_ h);have qA:=Hd (fun(t:Bs) w' (h:t.length<=1100000)=>zeI t w' h);have A6:=Hd (fun fr w' (h:fr<=s.length)=>zvM s fr w' a_ h);have oR:=Hd (fun n w' (k:Kept w w')=>zvN B id cls prs n _ _ w' (hO.kept k) (bC hB k.size) hl);unfold ClsP at oR;have O2:=Hd (fun n w' (k:Kept w w')=>zoO (.slice aP prs.length cP) prs n w' ((hO.kept k).prs) a_);have e1:(w.alloc (.cells #[.string (bs id),.slice aC cls.length cC,.slice aP prs.length cP] 39)).heap.size=w.heap.size+1:=b_;have mv:=Hd ((aI w 39 #[.string (bs id),.slice aC cls.length cC,.slice aP prs.length cP]).alloc (.cells #[.string (bs []),.slice none 0 0,.slice none 0 0] 39));have oI:=aI (w.alloc (.cells #[.string (bs id),.slice aC cls.length cC,.slice aP prs.length cP] 39)) 39 #[.string (bs []),.slice none 0 0,.slice none 0 0];rw[e1]at oI;have HS:=Hd oI;have lg:=Hd ((zaA w (.cells #[.string (bs id),.slice aC cls.length cC,.slice aP prs.length cP] 39)).trans (zaA _ (.cells #[.string (bs []),.slice none 0 0,.slice none 0 0] 39)));clear oI e1 hO;obtain⟨D,xj⟩:=gX w.heap.size;have O0:w.heap.size<=D:=(by rw[xj.o];exact aw _);go_in;go_upto_region 1 with fail;rw[xj.o]at mv HS ⊢;clear xj;generalize World.alloc (World.alloc _ _) _=w0 at *;have i0:=zbL (P:=prog) (t:=9) aq s i hi i rfl;unfold ztI zKo at HR;rcases(show at8 s i=35\/(at8 s i≠35/\at8 s i=46)\/(at8 s i≠35/\at8 s i≠46)by omega)with h1|⟨h1,h2⟩|⟨h1,h2⟩
 case' inl=>rw[ae (Or.inl h1)]at HR
 case' inr.inl=>rw[ae (Or.inr h2)]at HR
 case' inr.inr=>rw[aa (fun q:at8 s i=35\/at8 s i=46=>q.elim h1 h2)]at HR
 case' inl=>obtain⟨fr,jx,hfr,GE,GF,hfl⟩:∃(fr:Nat) (jx:Int),fr=i+1/\jx=(i:Int)+1/\jx=fr/\fr<=s.length:=⟨_,_,rfl,rfl,a_,a_⟩
 case' inr.inl=>obtain⟨fr,jx,hfr,GE,GF,hfl⟩:∃(fr:Nat) (jx:Int),fr=i+1/\jx=(i:Int)+1/\jx=fr/\fr<=s.length:=⟨_,_,rfl,rfl,a_,a_⟩
 case' inr.inr=>obtain⟨fr,jx,hfr,GE,GF,hfl⟩:∃(fr:Nat) (jx:Int),fr=i/\jx=(i:Int)/\jx=fr/\fr<=s.length:=⟨_,_,rfl,rfl,a_,a_⟩
 all_goals
  rw[<- hfr]at HR;have hwl:=zjE s fr hfl;obtain⟨W,yg⟩:=gX (zcD s fr);have HW1:=Hd (fun w'=>LS.o fr w' hfl);rw[yg.o]at HR hwl HW1;obtain⟨N,uo⟩:=gX ((s.drop fr).take (W - fr));rw[uo.o]at HR;have sl:=zgI (P:=prog) (t:=9) aq s fr W hwl.1 hwl.2 jx W GF rfl N uo.o;have hnl:N.length<=1100000:=(by rw[<- uo.o,bw,dO];omega);clear yg uo LS GF;rw[GE]at sl;rw[hfr]at HW1 hwl
  (try rw[hfr]at HR)
  clear hfl hfr GE
 case' inl=>rw[h1]at i0
 case' inr.inl=>rw[h2]at i0
 case' inr.inr=>have b1:(at8 s i==35)=false:=by rw[ab];exact h1
 case' inr.inr=>have b2:(at8 s i==46)=false:=by rw[ab];exact h2
 all_goals
  go_wp2_with fail;refine(HW1.o _).mono ?_;rintro e x1 ⟨rfl,rfl⟩;go_wp2_with fail;refine k_ (qA.o N _ hnl) fun w2 ll=>?_;have kX:=Hd (lg.o.trans ll);have mJ:=Hd (HO.o.kept kX.o);have lx:=Hd (mv.o.kept ll);have mb:=Hd (HS.o.kept ll);clear ll mv HS lg;cases hn:za8 N
  case' false =>
   have HV:=Hd (show R=_ from by rw[<- HR.o,ae hn]);have xv:=lx;have xw:=mb;have xx:=mJ;have yh:Hi (Only S w _):=bc kX.o
  case' true=>have hn2:¬ za8 N=false:=by rw[hn];simp
 case' true =>
  have oY:Hi ((if ¬ (W<s.length/\at8 s W=61)then((⟨id,cls,prs⟩:AtT),0,5)else if(ztH s (W+1)).2.2=false then(⟨id,cls,prs⟩,0,5)else if(prs.map (·.1)).contains N=true then(⟨id,cls,prs⟩,0,7)else if 32<=prs.length then(⟨id,cls,prs⟩,0,3)else(⟨id,cls,prs++[(N,(ztH s (W+1)).1)]⟩,(ztH s (W+1)).2.1,0))=R):=(by(have h:=HR.o;rw[aa hn2,aa h1,aa h2]at h;exact h));clear HR oR;have HR:=oY;clear oY;refine dite (W<s.length/\at8 s W=61) (fun h5=>?p1) (fun h5=>?n1)
  case' n1 =>
   have xA:Hi (R=(⟨id,cls,prs⟩,0,5)):=(by(show _=_;rw[<- HR.o,ae h5]));refine dite (W<s.length) (fun h6=>?p2) (fun h6=>?n2)
   case' p2 =>
    have h7:at8 s W≠61:=fun q=>h5 ⟨h6,q⟩;have i6:=zbL (P:=prog) (t:=9) aq s W h6 W rfl;have b7:(at8 s W==61)=false:=(by rw[ab];exact h7);have b8:(at8 s W != 61)=true:=(by rw[dd];exact h7);have HV:=Hd (xA.o);have xv:=lx;have xw:=mb;have xx:=mJ;have yh:Hi (Only S w _):=bc kX.o
   case' n2 =>
    have h7:¬ (W:Int)<(s.length:Int):=a_;have HV:=Hd (xA.o);have xv:=lx;have xw:=mb;have xx:=mJ;have yh:Hi (Only S w _):=bc kX.o
  case' p1 =>
   obtain⟨h6,h7⟩:=h5;have oY:Hi ((if(ztH s (W+1)).2.2=false then((⟨id,cls,prs⟩:AtT),0,5)else if(prs.map (·.1)).contains N=true then(⟨id,cls,prs⟩,0,7)else if 32<=prs.length then(⟨id,cls,prs⟩,0,3)else(⟨id,cls,prs++[(N,(ztH s (W+1)).1)]⟩,(ztH s (W+1)).2.1,0))=R):=(aa (fun q:¬ (W<s.length/\at8 s W=61)=>q ⟨h6,h7⟩)).symm.trans HR.o;clear HR;have HR:=oY;clear oY;have yB:=Hd (fun w'=>A6.o (W+1) w' a_);generalize ztH s (W+1)=V at *;obtain⟨VS,VE,VB⟩:=V;simp only at HR yB;have i6:=zbL (P:=prog) (t:=9) aq s W h6 W rfl;rw[h7]at i6;have O3:((W+1:Nat):Int)=(W:Int)+1:=a_;rw[O3]at yB;have h6':(W:Int)<(s.length:Int):=a_;clear A6;go_wp2_with fail;refine k_ (yB.o _) fun w3 li=>?_;have lq:=Hd (kX.o.trans li);have qb:=Hd (mJ.o.kept li);have nl:=Hd (lx.o.kept li);have oo:=Hd (mb.o.kept li);clear li kX mJ lx mb i6;refine dite (VB=false) (fun q8=>?pv) (fun q8=>?nv)
   case' pv =>
    subst q8;have HV:=Hd (show R=_ from by rw[<- HR.o,ae rfl]);have xv:=nl;have xw:=oo;have xx:=qb;have yh:Hi (Only S w _):=bc lq.o
   case' nv =>
    obtain rfl:VB=true:=(by simpa using q8);have c2:=nl.o.cell 2 _ rfl;have cz:=nl.o.lt;have oY:Hi ((if(prs.map (·.1)).contains N=true then((⟨id,cls,prs⟩:AtT),0,7)else if 32<=prs.length then(⟨id,cls,prs⟩,0,3)else(⟨id,cls,prs++[(N,VS)]⟩,VE,0))=R):=(aa b_).symm.trans HR.o;clear HR;have HR:=oY;clear oY;go_wp2_with fail;refine(O2.o N w3 lq.o).mono ?_;rintro e x1 ⟨rfl,rfl⟩;refine dite ((prs.map (·.1)).contains N=true) (fun hk=>?pw) (fun ll=>?nw)
    case' pw =>
     rw[hk];have HV:=Hd (show R=_ from by rw[<- HR.o,ae hk]);have xv:=nl;have xw:=oo;have xx:=qb;have yh:Hi (Only S w _):=bc lq.o
    case' nw =>
     have hk:(prs.map (·.1)).contains N=false:=(by simpa using ll);rw[hk];refine dite (32<=prs.length) (fun hge=>?p3) (fun hge=>?n3)
     case' p3 =>
      have hge':(32:Int)<=(prs.length:Int):=a_;have HV:=Hd (show R=_ from by rw[<- HR.o,aa ll,ae hge]);have xv:=nl;have xw:=oo;have xx:=qb;have yh:Hi (Only S w _):=bc lq.o
     case' n3 =>
      have xA:Hi (R=(⟨id,cls,prs++[(N,VS)]⟩,VE,0)):=(by(show _=_;rw[<- HR.o,aa ll,aa hge]));have hge':¬ (32:Int)<=(prs.length:Int):=a_;go_upto_region 25 with fail;obtain⟨w3,hw3⟩:∃z:World,z=w3:=⟨_,rfl⟩;subst hw3;have lj:=zaA w3 (.cells #[.string (bs N),.string (bs VS)] 46);have ly:=Hd (aI w3 46 #[.string (bs N),.string (bs VS)]);have rA:=Hd (qb.o.kept lj);have oO:=Hd (nl.o.kept lj);have qm:=Hd (oo.o.kept lj);have mg:=Hd (lq.o.trans lj);have hb4:B<=(w3.alloc (.cells #[.string (bs N),.string (bs VS)] 46)).heap.size:=bC hB mg.o.size;clear lj nl oo lq qb;go_wp2_with (at_builtin;refine zeG ?_);refine Hd ?_;refine zgC _ rfl (.tmp 102) (.tmp 106) rfl B (.slice aP prs.length cP) prs d_ rA.o.2 (N,VS) _ d_ ly.o a_ hb4 ?_;intro v7 w7 qW lf;have qB:=ch lf;have pc:=rA.o.off oO.o;have qr:=rA.o.off qm.o;have tf:Hi (Blk w7 D 39 #[.string (bs id),.slice aC cls.length cC,.slice aP prs.length cP]):=oO.o.onl qB pc.2;have LT:Hi (Blk w7 (D+1) 39 #[.string (bs []),.slice none 0 0,.slice none 0 0]):=qm.o.onl qB qr.2;have JH:Hi (w7.ownsRow B 9 1 (.slice aC cls.length cC) cls.length (zaL cls)):=qB.own rA.o.1 (fun g q q2=>zg5 rA.o.1 rA.o.2 c_ g q q2);have E9:Hi (Only S w w7):=(iZ mg.o qB).mono (fun i _ q=>hSr i q);obtain⟨a7,e7,hv7,-⟩:=zaZ qW;rw[ah,bU]at hv7;subst hv7;have Cj:=Hd qW;clear qW lf qB pc qr ly rA oO qm mg hb4 c2 cz;have a1:=tf.o.cell 2 _ rfl;have f1:=tf.o.free 2;have cz:=tf.o.lt;have oZ:=bK (w:=w7) D 2 (.slice a7 (prs.length+1) e7);have hq:=za7 Cj.o tf.o c_;have hq2:=za7 JH.o tf.o c_;have pi:Hi (Blk (w7.setCell ⟨D,2,none⟩ (.slice a7 (prs.length+1) e7)) D 39 #[.string (bs id),.slice aC cls.length cC,.slice a7 (prs.length+1) e7]):=tf.o.set 2 _;have O4:=Hd (LT.o.other D 2 (.slice a7 (prs.length+1) e7) a_);have sY:Hi (Own2 B (w7.setCell ⟨D,2,none⟩ (.slice a7 (prs.length+1) e7)) (.slice aC cls.length cC) (.slice a7 (prs.length+1) e7) cls (prs++[(N,VS)])):=⟨oZ.own JH.o (fun g q q2=>hq2 (by rw[q,q2])),oZ.own Cj.o (fun g q q2=>hq (by rw[q,q2]))⟩;have JG:Hi (Only S w (w7.setCell ⟨D,2,none⟩ (.slice a7 (prs.length+1) e7))):=gV E9.o oZ (fun g q q2=>by omega);clear oZ hq hq2 Cj JH E9 LT;have HV:=Hd (xA.o);have xv:=pi;have xw:=O4;have xx:=sY;have yh:Hi (Only S w _):=JG.o
 rotate_left 9
 case' true =>
  refine dite (id=[]) (fun h4=>?p4) (fun h4=>?n4)
  case' p4 =>
   have b4:(id==[])=true:=(by rw[bh];exact h4);have xA:Hi (R=(⟨N,cls,prs⟩,W,0)):=(by(show _=_;rw[<- HR.o,aa hn2,ae h1,aa (fun q:(⟨id,cls,prs⟩:AtT).id≠[]=>q h4)]));subst h4;have c0:=lx.o.cell 0 _ rfl;have f0:=lx.o.free 0;have cz:=lx.o.lt;have ho3:=bK (w:=w2) D 0 (.string (bs N));have pc:=mJ.o.off lx.o;have nl:Hi (Blk (w2.setCell ⟨D,0,none⟩ (.string (bs N))) D 39 #[.string (bs N),.slice aC cls.length cC,.slice aP prs.length cP]):=lx.o.set 0 _;have oo:=Hd (mb.o.other D 0 (.string (bs N)) a_);have qb:=Hd (mJ.o.only ho3 (fun g q q2=>pc.1 (by rw[q,q2])) (fun g q q2=>pc.2 (by rw[q,q2])));have HW3:Hi (Only S w (w2.setCell ⟨D,0,none⟩ (.string (bs N)))):=gV (bc kX.o) ho3 (fun g q q2=>by omega);clear ho3 pc;have HV:=Hd (xA.o);have xv:=nl;have xw:=oo;have xx:=qb;have yh:Hi (Only S w _):=HW3.o
  case' n4 =>
   have b4:(id==[])=false:=(by rw[ab];exact h4);have b5:(id != [])=true:=(by rw[dd];exact h4);have c0:=lx.o.cell 0 _ rfl;have cz:=lx.o.lt;have HV:=Hd (show R=_ from by rw[<- HR.o,aa hn2,ae h1,ae (show(⟨id,cls,prs⟩:AtT).id≠[]from h4)]);have xv:=lx;have xw:=mb;have xx:=mJ;have yh:Hi (Only S w _):=bc kX.o
 case' true =>
  have xA:Hi (R=(⟨id,(zoS ⟨id,cls,prs⟩ N).1.cls,prs⟩,W,(zoS ⟨id,cls,prs⟩ N).2)):=by
   show _=_;rw[<- HR.o,aa hn2,aa h1,ae h2];unfold zoS
   (repeat' split)<;>rfl
  have qd:=Hd (oR.o N w2 kX.o);obtain⟨O5,pP⟩:∃z,Hi ((zoS ⟨id,cls,prs⟩ N).1.cls=z):=⟨_,rfl⟩;obtain⟨RI,Fa⟩:∃z,Hi ((zoS ⟨id,cls,prs⟩ N).2=z):=⟨_,rfl⟩;rw[pP.o,Fa.o]at xA qd;clear HR oR pP Fa;go_wp2_with (refine zaJ d_ 39 (.tmp 3) d_ D _ d_ lx.o _ di rfl Tryz.sizeAt3 ?_);refine qd.o.mono ?_;rintro e w3 ⟨v3,rfl,ho3,hw3⟩;obtain⟨a3,e3,rfl,-⟩:=zaZ ho3.1;have pc:=mJ.o.off lx.o;have qr:=mJ.o.off mb.o;have oo:Hi (Blk w3 (D+1) 39 #[.string (bs []),.slice none 0 0,.slice none 0 0]):=mb.o.onl hw3 qr.1;have lj:=zaA w3 (.cells #[.string (bs []),.slice none 0 0,.slice none 0 0] 39);have nZ:=Hd (aI w3 39 #[.string (bs []),.slice none 0 0,.slice none 0 0]);have qm:=Hd (oo.o.kept lj);have rA:=Hd (ho3.kept lj);have LU:Hi (Only S w _):=((iZ kX.o hw3).trans (bc lj)).mono (fun i _ q=>O1 i q);have hD3:D+1<w3.heap.size:=oo.o.lt;clear ho3 hw3 pc qr lj oo qd lx mb mJ kX;go_wp2_with (refine zaI rfl 39 (.tmp 12) (.tmp 64) d_ w3.heap.size _ #[.string (bs id),.slice a3 O5.length e3,.slice aP prs.length cP] d_ d_ nZ.o rfl Tryz.sizeAt3 (by simp only[bZ,ci,dc];rfl) ?_;intro w5 nR qx;refine zeG ?_);refine Hd ?_;have pK:=Hd nR;have hT:=rA.o.off nZ.o;have rg:=Hd (qm.o.onl qx a_);have oF:=Hd (rA.o.only qx (fun g q q2=>hT.1 (by rw[q,q2])) (fun g q q2=>hT.2 (by rw[q,q2])));have O6:=Hd (gV LU.o qx (fun g q q2=>by omega));clear nR qx hT qm rA LU nZ;have HV:=Hd (xA.o);have xv:=pK;have xw:=rg;have xx:=oF;have yh:Hi (Only S w _):=O6.o
 all_goals
  go_wp2_with (first
   | (refine zaJ d_ 39 (.tmp 3) d_ D _ d_ xv.o _ di rfl Tryz.sizeAt3 ?_)
   | (refine zaJ d_ 39 (.tmp 12) d_ _ _ d_ xv.o _ di rfl Tryz.sizeAt3 ?_)
   | (refine zaI rfl 39 (.tmp 6) _ d_ (D+1) _ #[_,_,_] d_ d_ xw.o d_ Tryz.sizeAt3 (by simp only[bZ,ci,dc];rfl) ?_;intro w9 ml mw;have nJ:=Hd ml;have pB:=Hd mw;clear ml mw;have r0:=nJ.o.cell 0 _ rfl;have r1:=nJ.o.cell 1 _ rfl;have r2:=nJ.o.cell 2 _ rfl;have rz:=nJ.o.lt))
  have hoff:=xx.o.off xw.o;have HF:=Hd (lh.o _ _ _ _ _ _ _ w9 HV.o (xx.o.only pB.o (fun g q q2=>hoff.1 (by rw[q,q2])) (fun g q q2=>hoff.2 (by rw[q,q2]))) (gV yh.o pB.o (fun g q q2=>by omega)));clear lh HV;refine bM ?_ rfl HF.o;simp [results,results197,go_sem,r0,r1,r2,rz]
def zqU(en:Bs->Bool)(s:Bs)(fr i:Nat):Bool :=
 if h:i<s.length then(if s[i]=10 then(if en ((s.drop fr).take (i - fr))=true then true else zqU en s (i+1) (i+1))else zqU en s fr (i+1))else false
termination_by s.length - i
def zFZ{en:Bs->Bool}{s:Bs}{fr i:Nat}(h:¬ i<s.length):zqU en s fr i=false:=by rw[zqU,jP h]
def zJM{en:Bs->Bool}{s:Bs}{fr i:Nat}(h:i<s.length)(h1:s[i]≠10):zqU en s fr i=zqU en s fr (i+1):=by rw[zqU,fK h,aa h1]
def zJN{en:Bs->Bool}{s:Bs}{fr i:Nat}(h:i<s.length)(h1:s[i]=10)(h2:en ((s.drop fr).take (i - fr))=true):zqU en s fr i=true:=by rw[zqU,fK h,ae h1,ae h2]
def zJO{en:Bs->Bool}{s:Bs}{fr i:Nat}(h:i<s.length)(h1:s[i]=10)(h2:en ((s.drop fr).take (i - fr))=false):zqU en s fr i=zqU en s (i+1) (i+1):=by rw[zqU,fK h,ae h1,aa (by rw[h2];simp)]
def zF0(en:Bs->Bool)(ni:∀(s:Bs) (w:World),s.length<=1000000->Calls prog 139 #[.string (bs s)] w fun e w'=>e=.returned (.bool (en s))/\Kept w w')(s:Bs)(w:World)(hs:s.length<=1000000):Calls prog 105 #[.string (bs s)] w fun e w'=>e=.returned (.bool (zqU en s 0 0))/\Kept w w':=by
 have sE:=Hd ni;obtain⟨R,HR⟩:=gX (zqU en s 0 0);rw[HR.o];clear ni;go_in;go_wp2_with fail;go_loopw [3,4] (fun fv iv wr=>∃fr k:Nat,fr<=k/\k<=s.length/\iv=.int .i64 k/\fv=.int .i64 fr/\Hi (zqU en s fr k=R)/\Hi (Kept w wr)) (fun _ iv _=>s.length - (intOf iv).toNat)
 .exact⟨0,0,aw _,ai _,rfl,rfl,HR.o,af _⟩
 case round =>
  clear HR;obtain⟨fr,k,xX,hk,rfl,rfl,HS,kO⟩:=hrel;by_cases kV:k<s.length
  .have i0:=zbL (P:=prog) (t:=9) aq s k kV k rfl;have u1:=Hd (zqL s k kV 10);by_cases h1:at8 s k=10
   .obtain⟨L,HL⟩:=gX ((s.drop fr).take (k - fr));have sl:=zgI (P:=prog) (t:=9) aq s fr k xX a_ fr k rfl rfl L HL.o;have hll:L.length<=1000000:=(by rw[<- HL.o,bw,dO];omega);have HY:Hi (en L=true->R=true):=fun h=>(by rw[<- HS.o];exact zJN kV (u1.o.1 h1) (by rw[HL.o];exact h));have HN:Hi (en L=false->zqU en s (k+1) (k+1)=R):=fun h=>(by rw[<- HS.o];exact(zJO kV (u1.o.1 h1) (by rw[HL.o];exact h)).symm);rw[h1]at i0;clear HL HS;go_wp2_with fail;refine k_ (sE.o L _ hll) fun w2 ll=>?_;have kX:=Hd (kO.o.trans ll);clear ll;cases hb:en L with
    | true =>
     obtain rfl:=HY.o hb;go_wp2
     (try go_ret)
     exact⟨rfl,kX.o⟩
    | false =>
     have mb:=Hd (HN.o hb);go_wp2;go_roundw
     .exact⟨k+1,k+1,aw _,a_,by go_num,by go_num,mb.o,kX.o⟩
     .simp [intOf];omega
   .have hb:(at8 s k==10)=false:=(by rw[ab];exact h1);have mb:Hi (zqU en s fr (k+1)=R):=(by rw[<- zJM kV (fun q=>h1 (u1.o.2 q))];exact HS.o);generalize at8 s k=b at *;go_wp2;go_roundw
    .exact⟨fr,k+1,a_,a_,by go_num,rfl,mb.o,kO.o⟩
    .simp [intOf];omega
  .obtain rfl:R=false:=(by rw[<- HS.o];exact zFZ kV);go_wp2
   (try go_ret)
   exact⟨rfl,kO.o⟩
def spN(s:Bs)(i:Nat):Nat:=if h:i<s.length then(if s[i]=32 then spN s (i+1)else i)else i
termination_by s.length - i
def zqM{s:Bs}{i:Nat}(h:i<s.length)(hb:s[i]=32):spN s i=spN s (i+1):=by rw[spN,fK h,ae hb]
def zxH{s:Bs}{i:Nat}(h:i<s.length)(hb:s[i]≠32):spN s i=i:=by rw[spN,fK h,aa hb]
def zqN{s:Bs}{i:Nat}(h:¬ i<s.length):spN s i=i:=by rw[spN,jP h]
def zJP(pe:Bs->Nat->Nat×Int)(s:Bs):Bool :=
 if 3<spN s 0\/s.length<spN s 0+2\/(s.drop (spN s 0)).take 2≠[36,36]then false
 else if spN s (spN s 0+2)=s.length then true
 else if(pe s (spN s (spN s 0+2))).2≠0 then false else decide (s.length<=spN s (pe s (spN s (spN s 0+2))).1)
def ParC(pe:Bs->Nat->Nat×Int):Prop:=∀(s:Bs) (i:Nat) (w:World),s.length<=1000000->i<s.length ->
  Calls prog 177 #[.string (bs s),.int .i64 i] w fun e w'=>∃id a1 n1 c1 a2 n2 c2,e=.returned (.tuple #[.agg #[.string (bs id),.slice a1 n1 c1,.slice a2 n2 c2],.int .i64 ((pe s i).1:Nat),.int .i64 (pe s i).2])/\(pe s i).1<=s.length/\Kept w w'
def zF1(pe:Bs->Nat->Nat×Int)(hpe:ParC pe)(s:Bs)(w:World)(hs:s.length<=1000000):Calls prog 139 #[.string (bs s)] w fun e w'=>e=.returned (.bool (zJP pe s))/\Kept w w':=by
 have yl:=Hd hpe;obtain⟨R,HR⟩:=gX (zJP pe s);rw[HR.o];unfold zJP at HR;obtain⟨TA,LW⟩:∃z,Hi (spN s 0=z):=⟨_,rfl⟩;rw[LW.o]at HR;clear hpe;go_in;go_wp2_with fail;go_loopw [3] (fun iv wr=>∃k:Nat,k<=s.length/\iv=.int .i64 k/\Hi (spN s k=TA)/\Hi (Kept w wr)) (fun iv _=>s.length - (intOf iv).toNat)
 .exact⟨0,ai _,by first|rfl|go_num,LW.o,af _⟩
 case round =>
  obtain⟨k,hk,rfl,HS,kO⟩:=hrel;by_cases kV:k<s.length
  case' pos =>
   have i0:=zbL (P:=prog) (t:=9) aq s k kV k rfl;have u1:=Hd (zqL s k kV 32);by_cases h32:at8 s k=32
   .have mb:Hi (spN s (k+1)=TA):=(zqM kV (u1.o.1 h32)).symm.trans HS.o;rw[h32]at i0;go_wp2;go_roundw
    .exact⟨k+1,a_,by go_num,mb.o,kO.o⟩
    .simp [intOf];omega
   have HE:Hi (TA=k):=HS.o.symm.trans (zxH kV (fun q=>h32 (u1.o.2 q)));have hb:(at8 s k==32)=false:=(by rw[ab];exact h32);generalize at8 s k=b at *;go_upto_region 4 with fail;clear i0 hb h32 u1
  case' neg =>
   have HE:Hi (TA=k):=HS.o.symm.trans (zqN kV);rw[HE.o]at HR;by_cases h3:3<k
   .have kS:Hi (R=false):=(by(show _=_;rw[<- HR.o];rw[ae (Or.inl h3)]));go_wp2
    (try go_ret)
    exact⟨by rw[kS.o];first|rfl|(simp;done)|(simp;omega),kO.o⟩
   .have h4:s.length<k+2:=a_;have h3':¬ (3:Int)<(k:Int):=a_;have kS:Hi (R=false):=(by(show _=_;rw[<- HR.o];rw[ae (Or.inr (Or.inl h4))]));go_wp2
    (try go_ret)
    exact⟨by rw[kS.o];first|rfl|(simp;done)|(simp;omega),kO.o⟩
  all_goals
   clear HS;rw[HE.o]at HR;by_cases h3:3<k
   .have kS:Hi (R=false):=(by(show _=_;rw[<- HR.o];rw[ae (Or.inl h3)]));go_wp2
    (try go_ret)
    exact⟨by rw[kS.o];first|rfl|(simp;done)|(simp;omega),kO.o⟩
   by_cases h4:s.length<k+2
   .have kS:Hi (R=false):=(by(show _=_;rw[<- HR.o];rw[ae (Or.inr (Or.inl h4))]));go_wp2
    (try go_ret)
    exact⟨by rw[kS.o];first|rfl|(simp;done)|(simp;omega),kO.o⟩
   obtain⟨L,HL⟩:=gX ((s.drop k).take 2);have sl:=zgI (P:=prog) (t:=9) aq s k (k+2) a_ a_ k ((k:Int)+2) rfl a_ L (by rw[<- HL.o,show k+2 - k=2 by omega]);rw[HL.o]at HR;have h3':¬ (3:Int)<(k:Int):=a_;have h4':¬ (s.length:Int)<(k:Int)+2:=a_;by_cases h5:L=[36,36]
   case neg =>
    have hb:(L==[36,36])=false:=(by rw[ab];exact h5);have kS:Hi (R=false):=(by(show _=_;rw[<- HR.o];rw[ae (Or.inr (Or.inr h5))]));go_wp2
    (try go_ret)
    exact⟨by rw[kS.o];first|rfl|(simp;done)|(simp;omega),kO.o⟩
   have hb:(L==[36,36])=true:=(by rw[bh];exact h5);have zb:Hi ((if spN s (k+2)=s.length then true else if(pe s (spN s (k+2))).2≠0 then false else decide (s.length<=spN s (pe s (spN s (k+2))).1))=R):=(aa (fun q:3<k\/s.length<k+2\/L≠[36,36]=>q.elim h3 (fun q=>q.elim h4 (fun q=>q h5)))).symm.trans HR.o;clear HR;have HR:=zb;clear zb;go_wp2_with fail
   (try simp only[zd8])
   clear sl hb h3' h4' HL;obtain⟨TS,vy⟩:∃z,Hi (spN s (k+2)=z):=⟨_,rfl⟩;rw[vy.o]at HR;have ll:k+2<=s.length:=a_;have oa:=kO;obtain⟨k0,hk0⟩:∃x,x=k:=⟨_,rfl⟩;subst hk0;clear kO;go_loopw [3] (fun iv wr=>∃k:Nat,k<=s.length/\iv=.int .i64 k/\Hi (spN s k=TS)/\Hi (Kept w wr)) (fun iv _=>s.length - (intOf iv).toNat)
   .exact⟨k0+2,ll,by first|rfl|go_num,vy.o,oa.o⟩
   case round =>
    obtain⟨k,hk,rfl,HS,kO⟩:=hrel;by_cases kV:k<s.length
    case' pos =>
     have i0:=zbL (P:=prog) (t:=9) aq s k kV k rfl;have u1:=Hd (zqL s k kV 32);by_cases h32:at8 s k=32
     .have mb:Hi (spN s (k+1)=TS):=(zqM kV (u1.o.1 h32)).symm.trans HS.o;rw[h32]at i0;go_wp2;go_roundw
      .exact⟨k+1,a_,by go_num,mb.o,kO.o⟩
      .simp [intOf];omega
     have HE:Hi (TS=k):=HS.o.symm.trans (zxH kV (fun q=>h32 (u1.o.2 q)));have hb:(at8 s k==32)=false:=(by rw[ab];exact h32);generalize at8 s k=b at *;go_upto_region 9 with fail;clear i0 hb h32 u1
    case' neg =>
     have HE:Hi (TS=k):=HS.o.symm.trans (zqN kV);go_upto_region 9 with fail
    all_goals
     clear HS;rw[HE.o]at HR;have kX:=kO;obtain⟨j,HJ⟩:=gX k;by_cases hjl:k=s.length
     .have hb:((k:Int)==(s.length:Int))=true:=(by rw[bh];omega);have kS:Hi (R=true):=(by(show _=_;rw[<- HR.o];rw[ae hjl]));go_wp2
      (try go_ret)
      exact⟨by rw[kS.o];first|rfl|(simp;done)|(simp;omega),kO.o⟩
     have hb:((k:Int)==(s.length:Int))=false:=(by rw[ab];omega);have tJ:Hi ((if(pe s k).2≠0 then false else decide (s.length<=spN s (pe s k).1))=R):=(aa hjl).symm.trans HR.o;clear HR HJ;have sc:=Hd (yl.o s k wr hs a_);obtain⟨tq,LX⟩:∃z,Hi ((pe s k).1=z):=⟨_,rfl⟩;obtain⟨er,Fa⟩:∃z,Hi ((pe s k).2=z):=⟨_,rfl⟩;rw[LX.o,Fa.o]at sc tJ;have HR:=tJ;clear tJ LX Fa kV;go_wp2_with fail;refine sc.o.mono ?_;rintro e w5 ⟨id,a1,n1,c1,a2,n2,c2,rfl,hto,lU⟩;have lX:=Hd (kO.o.trans lU);have kZ:=Hd (lX.o.trans (zaA w5 (.cells #[.string (bs id),.slice a1 n1 c1,.slice a2 n2 c2] 39)));clear lU sc kO;go_upto_region 12 with fail;generalize w5.alloc _=w6 at *;by_cases hq:er=0
     case neg =>
      have hz:(er==0)=false:=(by rw[ab];exact hq);have hzn:(er != 0)=true:=(by rw[dd];exact hq);have kS:Hi (R=false):=(by(show _=_;rw[<- HR.o];rw[ae hq]));go_wp2
      (try go_ret)
      exact⟨by rw[kS.o];first|rfl|(simp;done)|(simp;omega),kZ.o⟩
     have hq0:¬ er≠0:=fun q=>q hq;rw[hq];go_wp2_with fail;obtain⟨TT,qv⟩:∃z,Hi (spN s tq=z):=⟨_,rfl⟩;rw[qv.o]at HR;go_loopw [5] (fun iv wr=>∃k:Nat,k<=s.length/\iv=.int .i64 k/\Hi (spN s k=TT)/\Hi (Kept w wr)) (fun iv _=>s.length - (intOf iv).toNat)
     .exact⟨tq,hto,by first|rfl|go_num,qv.o,kZ.o⟩
     case round =>
      obtain⟨k,hk,rfl,HS,kO⟩:=hrel;by_cases kV:k<s.length
      case' pos =>
       have i0:=zbL (P:=prog) (t:=9) aq s k kV k rfl;have u1:=Hd (zqL s k kV 32);by_cases h32:at8 s k=32
       .have mb:Hi (spN s (k+1)=TT):=(zqM kV (u1.o.1 h32)).symm.trans HS.o;rw[h32]at i0;go_wp2;go_roundw
        .exact⟨k+1,a_,by go_num,mb.o,kO.o⟩
        .simp [intOf];omega
       have HE:Hi (TT=k):=HS.o.symm.trans (zxH kV (fun q=>h32 (u1.o.2 q)));have hb:(at8 s k==32)=false:=(by rw[ab];exact h32);generalize at8 s k=b at *;go_upto_region 16 with fail;clear i0 hb h32 u1
      case' neg =>
       have HE:Hi (TT=k):=HS.o.symm.trans (zqN kV);go_upto_region 16 with fail
      all_goals
       clear HS;by_cases hge:s.length<=k
       .have kS:Hi (R=true):=(by(show _=_;rw[<- HR.o];rw[aa hq0,HE.o,bJ hge]));go_wp2
        (try go_ret)
        exact⟨by rw[kS.o];first|rfl|(simp;done)|(simp;omega),kO.o⟩
       .have kS:Hi (R=false):=(by(show _=_;rw[<- HR.o];rw[aa hq0,HE.o,bH hge]));go_wp2
        (try go_ret)
        exact⟨by rw[kS.o];first|rfl|(simp;done)|(simp;omega),kO.o⟩
def zxI(s:Bs):Nat->Nat->AtT->Nat->Nat×Int
 | 0,_,_,_=>(0,5)
 | f+1,n,a,p =>
  if spN s p<s.length/\at8 s (spN s p)=125 then(spN s p+1,0)
  else if s.length<=spN s p\/(0<n/\spN s p=p)then(0,5)
  else if(ztI a s (spN s p)).2.2≠0 then(0,(ztI a s (spN s p)).2.2)
  else zxI s f (n+1) (ztI a s (spN s p)).1 (ztI a s (spN s p)).2.1
def peN(s:Bs)(i:Nat):Nat×Int:=if i<s.length/\at8 s i=123 then zxI s (s.length+1) 0 ⟨[],[],[]⟩ (i+1)else(0,5)
def zGU(s:Bs)(i:Nat)(h:i<=s.length):i<=spN s i/\spN s i<=s.length:=by
 rw[spN]
 split
 .rename_i hi
  split
  .have:=zGU s (i+1) hi;omega
  .omega
 .omega
termination_by s.length - i
def zIB(s:Bs)(i:Nat)(h:i<=s.length):(ztH s i).2.1<=s.length:=by
 unfold ztH
 split
 .rename_i q;unfold zI1;cases hv:znI s (i+1) []with
  | none=>exact ai _
  | some r =>
   obtain⟨o,j⟩:=r;show(if j<s.length/\lnB o=true then(o,j+1,true)else(([]:Bs),0,false)).2.1<=_
   split
   .rename_i q2;exact q2.1
   .exact ai _
 .split
  .exact(zjE s i h).2
  .exact ai _
def zF2(a:AtT)(n:Bs)(h:a.cls.length<=32):(zoS a n).1.cls.length<=32/\(zoS a n).1.prs=a.prs:=by
 unfold zoS
 split
 .exact⟨h,rfl⟩
 .split
  .exact⟨h,rfl⟩
  .rename_i q;exact⟨by show(a.cls++[n]).length<=32;rw[ah,bU];omega,rfl⟩
def zF3(a:AtT)(s:Bs)(i:Nat)(h1:a.cls.length<=32)(h2:a.prs.length<=32)(hi:i<s.length):(ztI a s i).1.cls.length<=32/\(ztI a s i).1.prs.length<=32/\(ztI a s i).2.1<=s.length:=by
 unfold ztI;obtain⟨fr,hfr⟩:∃fr,(if at8 s i=35\/at8 s i=46 then i+1 else i)=fr:=⟨_,rfl⟩;rw[hfr];have hf:fr<=s.length:=(by rw[<- hfr];split<;>omega);have hw:=(zjE s fr hf).2;have hc:=zF2 a ((s.drop fr).take (zcD s fr - fr)) h1;unfold zKo
 split
 .exact⟨h1,h2,ai _⟩
 .split
  .split
   .exact⟨h1,h2,ai _⟩
   .exact⟨h1,h2,hw⟩
  .split
   .exact⟨hc.1,by show(zoS a _).1.prs.length<=32;rw[hc.2];exact h2,hw⟩
   .split
    .exact⟨h1,h2,ai _⟩
    .rename_i q
     split
     .exact⟨h1,h2,ai _⟩
     .split
      .exact⟨h1,h2,ai _⟩
      .split
       .exact⟨h1,h2,ai _⟩
       .refine⟨h1,?_,zIB s _ ?_⟩
        .show(a.prs++_).length<=32;rw[ah,bU];omega
        .have q:=dR.1 q;omega
def zIC(s:Bs){f n p q:Nat}{a:AtT}(hq:spN s p=q)(h:q<s.length/\at8 s q=125):zxI s (f+1) n a p=(q+1,0):=by rw[zxI,hq,ae h]
def zDm(s:Bs){f n p q:Nat}{a:AtT}(hq:spN s p=q)(h1:¬ (q<s.length/\at8 s q=125))(h:s.length<=q\/(0<n/\q=p)):zxI s (f+1) n a p=(0,5):=by rw[zxI,hq,aa h1,ae h]
def zID(s:Bs){f n p q:Nat}{a:AtT}(hq:spN s p=q)(h1:¬ (q<s.length/\at8 s q=125))(h2:¬ (s.length<=q\/(0<n/\q=p)))(h:(ztI a s q).2.2≠0):zxI s (f+1) n a p=(0,(ztI a s q).2.2):=by rw[zxI,hq,aa h1,aa h2,ae h]
def zIE(s:Bs){f n p q:Nat}{a:AtT}(hq:spN s p=q)(h1:¬ (q<s.length/\at8 s q=125))(h2:¬ (s.length<=q\/(0<n/\q=p)))(h:(ztI a s q).2.2=0):zxI s (f+1) n a p=zxI s f (n+1) (ztI a s q).1 (ztI a s q).2.1:=by rw[zxI,hq,aa h1,aa h2,aa (fun e=>e h)]
def zDn:ParC peN:=by
 intro s i w hs hi;have HIT:=Hd (fun B id cls prs q vC vP w' hO hB h1 h2 (hq:q<s.length)=>zz0 B id cls prs s q vC vP w' hO hB h1 h2 hs hq);unfold ItmP at HIT;obtain⟨RR,HR⟩:∃z,Hi (peN s i=z):=⟨_,rfl⟩;rw[HR.o];obtain⟨P,HP⟩:∃P:Ending->World->Prop,P=fun e w'=>∃id a1 n1 c1 a2 n2 c2,e=.returned (.tuple #[.agg #[.string (bs id),.slice a1 n1 c1,.slice a2 n2 c2],.int .i64 (RR.1:Nat),.int .i64 RR.2])/\RR.1<=s.length/\Kept w w':=⟨_,rfl⟩;rw[<- HP];have lh:Hi (∀id a1 n1 c1 a2 n2 c2 (tq:Nat) er w',RR=(tq,er)->tq<=s.length->Kept w w'->P (.returned (.tuple #[.agg #[.string (bs id),.slice a1 n1 c1,.slice a2 n2 c2],.int .i64 (tq:Nat),.int .i64 er])) w'):=fun id a1 n1 c1 a2 n2 c2 tq er w' h1 h2 h3=>by
  rw[HP];exact⟨id,a1,n1,c1,a2,n2,c2,by rw[h1],by rw[h1];exact h2,h3⟩
 clear HP;have oI:=Hd (aI w 39 #[.string (bs []),.slice none 0 0,.slice none 0 0]);have lg:=Hd (zaA w (.cells #[.string (bs []),.slice none 0 0,.slice none 0 0] 39));obtain⟨R,sj⟩:=gX w.heap.size;have za:w.heap.size<=R:=(by rw[sj.o];exact aw _);rw[sj.o]at oI;unfold peN at HR;have i0:=zbL (P:=prog) (t:=9) aq s i hi i rfl;have hi':(i:Int)<(s.length:Int):=a_;have hi2:¬ s.length<=i:=a_;have hi3:¬ (i:Int)<0:=a_;go_in;go_upto_region 1 with fail;rw[sj.o];generalize w.alloc _=w0 at *;by_cases xB:at8 s i=123
 case neg =>
  have b1:(at8 s i==123)=false:=(by rw[ab];exact xB);have b2:(at8 s i != 123)=true:=(by rw[dd];exact xB);have HV:Hi (RR=(0,5)):=(by(show _=_;rw[<- HR.o,aa (fun q=>xB q.2)]));go_wp2_with (refine zaI rfl 39 (.tmp 4) (.tmp 28) d_ R _ #[.string (bs []),.slice none 0 0,.slice none 0 0] d_ d_ oI.o rfl Tryz.sizeAt3 (by simp only[bZ,ci,dc];rfl) ?_;intro w9 ml mw;have nJ:=Hd ml;have pB:=Hd mw;clear ml mw;have r0:w9.cell? ⟨R,0,none⟩=some (.string (bs [])):=nJ.o.cell 0 _ rfl;have r1:w9.cell? ⟨R,1,none⟩=some (.slice none 0 0):=nJ.o.cell 1 _ rfl;have r2:w9.cell? ⟨R,2,none⟩=some (.slice none 0 0):=nJ.o.cell 2 _ rfl;have rz:=nJ.o.lt);have HF:=Hd (lh.o [] none 0 0 none 0 0 0 5 w9 HV.o (ai _) (lg.o.trans' (pB.o.below lg.o.size (fun i q=>by omega))));clear lh HV;refine bM (v:=.tuple #[.agg #[.string (bs []),.slice none 0 0,.slice none 0 0],.int .i64 (0:Nat),.int .i64 5]) ?_ rfl HF.o;simp [results,fV,go_sem,r0,r1,r2,rz]
 rw[xB]at i0;have oY:Hi (zxI s (s.length+1) 0 ⟨[],[],[]⟩ (i+1)=RR):=(ae (show i<s.length/\at8 s i=123 from⟨hi,xB⟩)).symm.trans HR.o;clear HR;have HR:=oY;clear oY;go_upto_region 3 with fail;have lj:=zaA w0 (.cells #[.string (bs []),.slice none 0 0,.slice none 0 0] 39);have HX0:=Hd (aI w0 39 #[.string (bs []),.slice none 0 0,.slice none 0 0]);have kT:=Hd (lg.o.trans lj);have mt:=Hd (oI.o.kept lj);obtain⟨X,vz⟩:=gX w0.heap.size;have NW:w.heap.size<=X:=(by rw[<- vz.o];exact lg.o.size);have RJ:R<X:=(by rw[<- vz.o];exact oI.o.lt);rw[vz.o]at HX0;go_upto_region 4 with fail;rw[vz.o];generalize w0.alloc _=w1 at *;clear lj lg oI i0 vz;obtain⟨B,ry⟩:=gX w.heap.size;go_wp2_with fail;go_loopw [8,9] (fun p nv wr=>∃(n pp:Nat) (a:AtT) (vC vP:Value),n<=s.length+1/\pp<=s.length/\nv=.int .i64 n/\p=.int .i64 pp/\a.cls.length<=32/\a.prs.length<=32/\Hi (zxI s (s.length+1 - n) n a pp=RR)/\Hi (Own2 B wr vC vP a.cls a.prs)/\Hi (Blk wr X 39 #[.string (bs a.id),vC,vP])/\Hi (Blk wr R 39 #[.string (bs []),.slice none 0 0,.slice none 0 0])/\Hi (Kept w wr)) (fun _ nv _=>s.length+1 - (intOf nv).toNat)
 .exact⟨0,i+1,⟨[],[],[]⟩,.slice none 0 0,.slice none 0 0,a_,a_,rfl,by go_num,b_,b_,HR.o,Own2.nil _ _,HX0.o,mt.o,kT.o⟩
 case round =>
  clear HR HX0 mt kT;obtain⟨n,pp,a,vC,vP,hn,LY,rfl,rfl,hc32,JI,HR,HO,HX,HS,kO⟩:=hrel;obtain⟨aC,cC,aP,cP,rfl,rfl⟩:=HO.o.shape;by_cases kV:n<=s.length
  case neg =>
   obtain rfl:n=s.length+1:=a_;have HV:Hi (RR=(0,5)):=(by(have h:=HR.o;rw[fp]at h;exact h.symm));go_wp2_with (refine zaI rfl 39 (.tmp 4) (.tmp 91) d_ R _ #[.string (bs []),.slice none 0 0,.slice none 0 0] d_ d_ HS.o rfl Tryz.sizeAt3 (by simp only[bZ,ci,dc];rfl) ?_;intro w9 ml mw;have nJ:=Hd ml;have pB:=Hd mw;clear ml mw;have r0:w9.cell? ⟨R,0,none⟩=some (.string (bs [])):=nJ.o.cell 0 _ rfl;have r1:w9.cell? ⟨R,1,none⟩=some (.slice none 0 0):=nJ.o.cell 1 _ rfl;have r2:w9.cell? ⟨R,2,none⟩=some (.slice none 0 0):=nJ.o.cell 2 _ rfl;have rz:=nJ.o.lt);have HF:=Hd (lh.o [] none 0 0 none 0 0 0 5 w9 HV.o (ai _) (kO.o.trans' (pB.o.below kO.o.size (fun i q=>by omega))));clear lh HV;refine bM (v:=.tuple #[.agg #[.string (bs []),.slice none 0 0,.slice none 0 0],.int .i64 (0:Nat),.int .i64 5]) ?_ rfl HF.o;simp [results,fV,go_sem,r0,r1,r2,rz]
  have hnn:(n:Int)<=(s.length:Int):=a_;obtain⟨f,hf⟩:∃f,s.length+1 - n=f+1:=⟨s.length - n,a_⟩;rw[hf]at HR;have hsp:=zGU s pp LY;obtain⟨Q,HQ⟩:=gX (spN s pp);rw[HQ.o]at hsp;obtain⟨ww,O7⟩:∃z:World,z=wr:=⟨_,rfl⟩;subst O7;go_wp2_with fail;go_loopw [10] (fun iv wr=>∃k:Nat,k<=s.length/\iv=.int .i64 k/\Hi (spN s k=Q)/\wr=ww) (fun iv _=>s.length - (intOf iv).toNat)
  .exact⟨pp,LY,rfl,HQ.o,rfl⟩
  case round =>
   obtain⟨k,hk,rfl,JJ,rfl⟩:=hrel;by_cases hkl:k<s.length
   case' pos =>
    have i0:=zbL (P:=prog) (t:=9) aq s k hkl k rfl;have u1:=Hd (zqL s k hkl 32);by_cases h32:at8 s k=32
    .have mb:Hi (spN s (k+1)=Q):=(zqM hkl (u1.o.1 h32)).symm.trans JJ.o;rw[h32]at i0;go_wp2;go_roundw
     .exact⟨k+1,a_,by go_num,mb.o,trivial⟩
     .simp [intOf];omega
    have HE:Hi (Q=k):=JJ.o.symm.trans (zxH hkl (fun q=>h32 (u1.o.2 q)));have hb:(at8 s k==32)=false:=(by rw[ab];exact h32);go_upto_region 11 with fail;have hkl':(k:Int)<(s.length:Int):=a_;by_cases xC:at8 s k=125
    .have HV:Hi (RR=(k+1,0)):=(by(show _=_;rw[<- HR.o];exact zIC s (HQ.o.trans HE.o) ⟨hkl,xC⟩));rw[xC]at i0;go_wp2_with (first
      | (refine zaJ d_ 39 (.tmp 7) d_ X _ d_ HX.o _ di rfl Tryz.sizeAt3 ?_)
      | (refine zaI rfl 39 (.tmp 4) (.tmp 60) d_ R _ #[.string (bs a.id),.slice aC a.cls.length cC,.slice aP a.prs.length cP] d_ d_ HS.o rfl Tryz.sizeAt3 (by simp only[bZ,ci,dc];rfl) ?_;intro w9 ml mw;have nJ:=Hd ml;have pB:=Hd mw;clear ml mw;have r0:w9.cell? ⟨R,0,none⟩=some (.string (bs a.id)):=nJ.o.cell 0 _ rfl;have r1:w9.cell? ⟨R,1,none⟩=some (.slice aC a.cls.length cC):=nJ.o.cell 1 _ rfl;have r2:w9.cell? ⟨R,2,none⟩=some (.slice aP a.prs.length cP):=nJ.o.cell 2 _ rfl;have rz:=nJ.o.lt))
     have HF:=Hd (lh.o a.id aC a.cls.length cC aP a.prs.length cP (k+1) 0 w9 HV.o a_ (kO.o.trans' (pB.o.below kO.o.size (fun i q=>by omega))));clear lh HV;refine bM (v:=.tuple #[.agg #[.string (bs a.id),.slice aC a.cls.length cC,.slice aP a.prs.length cP],.int .i64 ((k+1:Nat):Int),.int .i64 0]) ?_ rfl HF.o;simp [results,fV,go_sem,r0,r1,r2,rz]
    have b5:(at8 s k==125)=false:=(by rw[ab];exact xC);have g1:¬ (k<s.length/\at8 s k=125):=fun q=>xC q.2
   case' neg =>
    have HE:Hi (Q=k):=JJ.o.symm.trans (zqN hkl);have hkl':¬ (k:Int)<(s.length:Int):=a_;have O8:(s.length:Int)<=(k:Int):=a_;have HV:Hi (RR=(0,5)):=(by(show _=_;rw[<- HR.o];exact zDm s (HQ.o.trans HE.o) (fun q=>hkl q.1) (.inl a_)));go_upto_region 11 with fail
   case neg =>
    go_wp2_with (refine zaI rfl 39 (.tmp 4) (.tmp 76) d_ R _ #[.string (bs []),.slice none 0 0,.slice none 0 0] d_ d_ HS.o rfl Tryz.sizeAt3 (by simp only[bZ,ci,dc];rfl) ?_;intro w9 ml mw;have nJ:=Hd ml;have pB:=Hd mw;clear ml mw;have r0:w9.cell? ⟨R,0,none⟩=some (.string (bs [])):=nJ.o.cell 0 _ rfl;have r1:w9.cell? ⟨R,1,none⟩=some (.slice none 0 0):=nJ.o.cell 1 _ rfl;have r2:w9.cell? ⟨R,2,none⟩=some (.slice none 0 0):=nJ.o.cell 2 _ rfl;have rz:=nJ.o.lt);have HF:=Hd (lh.o [] none 0 0 none 0 0 0 5 w9 HV.o (ai _) (kO.o.trans' (pB.o.below kO.o.size (fun i q=>by omega))));clear lh HV;refine bM (v:=.tuple #[.agg #[.string (bs []),.slice none 0 0,.slice none 0 0],.int .i64 (0:Nat),.int .i64 5]) ?_ rfl HF.o;simp [results,fV,go_sem,r0,r1,r2,rz]
   by_cases h0:0<n/\k=pp
   .have HV:Hi (RR=(0,5)):=(by(show _=_;rw[<- HR.o];exact zDm s (HQ.o.trans HE.o) g1 (.inr h0)));obtain⟨h01,rfl⟩:=h0;have h02:(0:Int)<(n:Int):=a_;generalize at8 s k=b at *;go_wp2_with (refine zaI rfl 39 (.tmp 4) (.tmp 76) d_ R _ #[.string (bs []),.slice none 0 0,.slice none 0 0] d_ d_ HS.o rfl Tryz.sizeAt3 (by simp only[bZ,ci,dc];rfl) ?_;intro w9 ml mw;have nJ:=Hd ml;have pB:=Hd mw;clear ml mw;have r0:w9.cell? ⟨R,0,none⟩=some (.string (bs [])):=nJ.o.cell 0 _ rfl;have r1:w9.cell? ⟨R,1,none⟩=some (.slice none 0 0):=nJ.o.cell 1 _ rfl;have r2:w9.cell? ⟨R,2,none⟩=some (.slice none 0 0):=nJ.o.cell 2 _ rfl;have rz:=nJ.o.lt);have HF:=Hd (lh.o [] none 0 0 none 0 0 0 5 w9 HV.o (ai _) (kO.o.trans' (pB.o.below kO.o.size (fun i q=>by omega))));clear lh HV;refine bM (v:=.tuple #[.agg #[.string (bs []),.slice none 0 0,.slice none 0 0],.int .i64 (0:Nat),.int .i64 5]) ?_ rfl HF.o;simp [results,fV,go_sem,r0,r1,r2,rz]
   have g2:¬ (s.length<=k\/(0<n/\k=pp)):=fun q=>q.elim (fun q=>by omega) h0;have qU:=Hd (fun h=>(zID s (f:=f) (n:=n) (a:=a) (HQ.o.trans HE.o) g1 g2 h).symm.trans HR.o);have CM:=Hd (fun h=>(zIE s (f:=f) (n:=n) (a:=a) (HQ.o.trans HE.o) g1 g2 h).symm.trans HR.o);have GG:=Hd (zF3 a s k hc32 JI hkl);have oU:=Hd (fun w' (q:Own2 B w' (.slice aC a.cls.length cC) (.slice aP a.prs.length cP) a.cls a.prs) (hB:B<=w'.heap.size)=>HIT.o B a.id a.cls a.prs k _ _ w' q hB a_ a_ hkl);have hae:(⟨a.id,a.cls,a.prs⟩:AtT)=a:=rfl;rw[hae]at oU;obtain⟨hI,Lz⟩:∃z,Hi (ztI a s k=z):=⟨_,rfl⟩;rw[Lz.o]at qU CM GG oU;clear hae HIT;obtain⟨⟨GH,cs1,GI⟩,tq,er⟩:=hI;simp only at qU CM GG oU;have hBw:B<=wr.heap.size:=(by rw[<- ry.o];exact kO.o.size);have RK:¬ ((0:Int)<(n:Int)/\(k:Int)=(pp:Int)):=fun q=>h0 ⟨a_,a_⟩;have O9:n=0\/(0<n/\¬ (k:Int)=(pp:Int)):=a_;have mJ:=Hd (HO.o);rcases O9 with h0z|⟨RL,Pa⟩
   case' inl=>have RM:¬ (0:Int)<(n:Int):=a_
   case' inr =>
    have Pb:(0:Int)<(n:Int):=a_;have hkp:((k:Int)==(pp:Int))=false:=by rw[ab];exact Pa
   all_goals
    generalize at8 s k=b at *;clear u1 h32 xC g1 g2;go_upto_region 15 with fail;clear i0 hb b5;go_wp2_with (refine zaJ d_ 39 (.tmp 7) d_ X _ d_ HX.o _ di rfl Tryz.sizeAt3 ?_);refine(oU.o _ HO.o hBw).mono ?_;rintro e w3 ⟨RN,RO,rfl,ho3,hw3⟩;have JK:=HO.o.off HX.o;have JL:=HO.o.off HS.o;have LZ:¬ (some X=(Value.slice aC a.cls.length cC).ownBlock\/some X=(Value.slice aP a.prs.length cP).ownBlock):=fun q=>q.elim JK.1 JK.2;have L0:¬ (some R=(Value.slice aC a.cls.length cC).ownBlock\/some R=(Value.slice aP a.prs.length cP).ownBlock):=fun q=>q.elim JL.1 JL.2;have JM:=Hd (HX.o.onl hw3 LZ);have oo:=Hd (HS.o.onl hw3 L0);have lq:Hi (Kept w w3):=kO.o.trans' (hw3.below kO.o.size (fun i q=>by rw[ry.o];exact q.elim (fun q=>(HO.o.1.lt i q.symm).1) (fun q=>(HO.o.2.lt i q.symm).1)));obtain⟨a3,e3,rfl,-⟩:=zaZ ho3.1;obtain⟨a4,e4,rfl,-⟩:=zaZ ho3.2;have qb:=Hd ho3;have lj:=zaA w3 (.cells #[.string (bs []),.slice none 0 0,.slice none 0 0] 39);have nZ:=Hd (aI w3 39 #[.string (bs []),.slice none 0 0,.slice none 0 0]);have L1:=Hd (JM.o.kept lj);have qm:=Hd (oo.o.kept lj);have rA:=Hd (qb.o.kept lj);have mg:=Hd (lq.o.trans lj);have RP:X<w3.heap.size:=JM.o.lt;have Pd:w.heap.size<=w3.heap.size:=lq.o.size;clear ho3 hw3 JK JL LZ L0 HX HS HO oU lj JM oo qb lq;go_wp2_with (refine zaI rfl 39 (.tmp 11) (.tmp 82) d_ w3.heap.size _ #[.string (bs GH),.slice a3 cs1.length e3,.slice a4 GI.length e4] d_ d_ nZ.o rfl Tryz.sizeAt3 (by simp only[bZ,ci,dc];rfl) ?_;intro w5 nR qx;refine zeG ?_);refine Hd ?_;have Bf:=Hd nR;have hT:=rA.o.off nZ.o;have BL:=Hd (L1.o.onl qx a_);have rg:=Hd (qm.o.onl qx a_);have oF:=Hd (rA.o.only qx (fun g q q2=>hT.1 (by rw[q,q2])) (fun g q q2=>hT.2 (by rw[q,q2])));have lX:Hi (Kept w w5):=mg.o.trans' (qx.below mg.o.size (fun i q=>by omega));clear nR qx hT L1 qm rA mg nZ;by_cases her:er=0
    case neg =>
     have he1:(er==0)=false:=(by rw[ab];exact her);have he2:(er != 0)=true:=(by rw[dd];exact her);have HV:Hi (RR=(0,er)):=(qU.o her).symm;go_wp2_with (refine zaI rfl 39 (.tmp 4) (.tmp 87) d_ R _ #[.string (bs []),.slice none 0 0,.slice none 0 0] d_ d_ rg.o rfl Tryz.sizeAt3 (by simp only[bZ,ci,dc];rfl) ?_;intro w9 ml mw;have nJ:=Hd ml;have pB:=Hd mw;clear ml mw;have r0:w9.cell? ⟨R,0,none⟩=some (.string (bs [])):=nJ.o.cell 0 _ rfl;have r1:w9.cell? ⟨R,1,none⟩=some (.slice none 0 0):=nJ.o.cell 1 _ rfl;have r2:w9.cell? ⟨R,2,none⟩=some (.slice none 0 0):=nJ.o.cell 2 _ rfl;have rz:=nJ.o.lt);have HF:=Hd (lh.o [] none 0 0 none 0 0 0 er w9 HV.o (ai _) (lX.o.trans' (pB.o.below lX.o.size (fun i q=>by omega))));clear lh HV;refine bM (v:=.tuple #[.agg #[.string (bs []),.slice none 0 0,.slice none 0 0],.int .i64 (0:Nat),.int .i64 er]) ?_ rfl HF.o;simp [results,fV,go_sem,r0,r1,r2,rz]
    have Bj:Hi (zxI s (s.length+1 - (n+1)) (n+1) ⟨GH,cs1,GI⟩ tq=RR):=(by(have h:=CM.o her;rw[show f=s.length+1 - (n+1)by omega]at h;exact h));obtain⟨l1,l2,l3⟩:=GG.o;subst her;clear qU CM GG;go_wp2_with (first
     | (refine zaJ d_ 39 (.tmp 11) d_ w3.heap.size _ d_ Bf.o _ di rfl Tryz.sizeAt3 ?_)
     | (refine zaI rfl 39 (.tmp 7) (.tmp 89) d_ X _ #[.string (bs GH),.slice a3 cs1.length e3,.slice a4 GI.length e4] d_ d_ BL.o rfl Tryz.sizeAt3 (by simp only[bZ,ci,dc];rfl) ?_;intro w9 ml mw;refine zeG ?_))
    refine Hd ?_;have Pe:=Hd ml;have hX:=oF.o.off BL.o;have Dl:=Hd (rg.o.onl mw a_);have pB:=Hd (oF.o.only mw (fun g q q2=>hX.1 (by rw[q,q2])) (fun g q q2=>hX.2 (by rw[q,q2])));have pm:Hi (Kept w w9):=lX.o.trans' (mw.below lX.o.size (fun i q=>by omega));clear ml mw hX BL rg oF lX Bf;go_wp2;go_roundw
    case rel =>
     exact⟨n+1,tq,⟨GH,cs1,GI⟩,_,_,a_,l3,by go_num,rfl,l1,l2,Bj.o,pB.o,Pe.o,Dl.o,pm.o⟩
    .simp [intOf];omega
def zJ2(s:Bs):Bool:=zqU (zJP peN) s 0 0
def zDo(m n:Nat)(ms:List Pr)(xs:List Blo):Int:=zId (zqC zu4 (zw1 (zhA zfQ) zJ2 m) n 0 0 xs) ms xs
def ztJ(S:Nat->Prop)(m n:Nat)(ms:List Pr)(xs:List Blo)(vM vB:Value)(w:World)(hM:Prs w vM ms)(hv:Bls S m n w vB xs)(nX:zcE xs<=1000000)(hf:∀b∈zaQ xs,OkB b)(zx:ms.length<=1000000)(hms:∀p∈ms,p.1.length<=1000000/\p.2.length<=1000000):Calls prog 6 #[.agg #[vM,vB]] w fun e w'=>e=.returned (.int .i64 (zDo m n ms xs))/\Kept w w' :=
 zFu S m zu4 ⟨zCF,fun n b vC vP vL vK w hp mn=>zzZ S m n b vC vP vL vK w hp mn⟩ (zw1 (zhA zfQ) zJ2 m)
  (fun n b vC vP vL vK w hp mn h1 h2=>zFt S (zhA zfQ) (fun n x zaM first last vC vP vA vT vK w hp mn hd=>zFq S n zfQ zCE (fun x vC vP vA vT vK w hp mn=>zzY S n x vC vP vA vT vK w hp mn) x zaM first last vC vP vA vT vK w hp mn hd) zJ2
   (fun s w hs=>zF0 (zJP peN) (fun s w hs=>zF1 peN zDn s w hs) s w hs) m n b vC vP vL vK w hp mn h1 h2) n ms xs vM vB w hM hv nX hf zx hms
def zbW(ps:List P4):List Value:=ps.flatMap fun q=>[.string (bs q.1),.string (bs q.2.1),.string (bs q.2.2.1),.string (bs q.2.2.2)]
def zDp(ps:List P4)(j:Nat)(q:P4)(h:ps[j]? = some q):(zbW ps)[j * 4]? = some (.string (bs q.1))/\(zbW ps)[j * 4+1]? = some (.string (bs q.2.1))/\(zbW ps)[j * 4+2]? = some (.string (bs q.2.2.1))/\(zbW ps)[j * 4+3]? = some (.string (bs q.2.2.2)):=by
 induction ps generalizing j with
 | nil=>cases h
 | cons p ps ih =>
  have e:zbW (p::ps)=[.string (bs p.1),.string (bs p.2.1),.string (bs p.2.2.1),.string (bs p.2.2.2)]++zbW ps:=(by simp [zbW]);rw[e];cases j with
  | zero=>cases h;exact⟨rfl,rfl,rfl,rfl⟩
  | succ j =>
   have:=ih j (by simpa using h);rw[bp e_,bp e_,bp e_,bp e_];simp only[az,cj];rw[show(j+1) * 4 - (0+1+1+1+1)=j * 4 from by omega,show(j+1) * 4+1 - (0+1+1+1+1)=j * 4+1 from by omega,show(j+1) * 4+2 - (0+1+1+1+1)=j * 4+2 from by omega,show(j+1) * 4+3 - (0+1+1+1+1)=j * 4+3 from by omega];exact this
def Perss.ownY{w:World}{base:Nat}{e:TypeId}{v:Value}{ps:List P4}(h:w.ownsRow base e 4 v ps.length (zbW ps)):Perss w v ps:=by
 obtain⟨a,c,hv,hc,_,h3⟩:=zaZ h;refine⟨a,c,hv,hc,fun q=>?_⟩;obtain⟨g,ha,_,hg,kR⟩:=h3 q;refine⟨g,0,ha,hg,fun j x hx=>?_⟩;obtain⟨c0,c1,c2,c3⟩:=zDp ps j x hx;simp only[bP];exact⟨kR _ _ c0,kR _ _ c1,kR _ _ c2,kR _ _ c3⟩
def Tryz.infoPersY:(prog.info? 52).map (fun i=>(i.zero,i.size,i.bytes))=some (some (.agg #[.string ⟨#[]⟩,.string ⟨#[]⟩,.string ⟨#[]⟩,.string ⟨#[]⟩]),4,64):=g_
def zvO(w:World)(g:Nat)(ps:List P4):∀(o:Nat),(∀j q,ps[j]? = some q->w.cell? ⟨g,o+j * 4,none⟩=some (.string (bs q.1))/\w.cell? ⟨g,o+j * 4+1,none⟩=some (.string (bs q.2.1))/\w.cell? ⟨g,o+j * 4+2,none⟩=some (.string (bs q.2.2.1))/\w.cell? ⟨g,o+j * 4+3,none⟩=some (.string (bs q.2.2.2)))->∀j u,(zbW ps)[j]? = some u->w.cell? ⟨g,o+j,none⟩=some u:=by
 induction ps with
 | nil=>intro o _ j u h;cases h
 | cons p ps ih =>
  intro o hc j u h;have e:zbW (p::ps)=.string (bs p.1)::.string (bs p.2.1)::.string (bs p.2.2.1)::.string (bs p.2.2.2)::zbW ps:=(by simp [zbW]);rw[e]at h;obtain⟨c0,c1,c2,c3⟩:=hc 0 p rfl;simp only[gi,dl]at c0 c1 c2 c3
  match j with
  | 0=>simp at h;subst h;exact c0
  | 1=>simp at h;subst h;exact c1
  | 2=>simp at h;subst h;exact c2
  | 3=>simp at h;subst h;exact c3
  | j+4 =>
   have:=ih (o+4) (fun i q hq=>by
    have h4:=hc (i+1) q (by simpa using hq);rw[show o+(i+1) * 4=o+4+i * 4 from by omega]at h4;exact h4) j u (by simpa using h)
   rw[show o+(j+4)=o+4+j from by omega];exact this
def zz1(ps:List P4):(zbW ps).length=ps.length * 4:=by
 induction ps with
 | nil=>rfl
 | cons p ps ih =>
    have e:zbW (p::ps)=.string (bs p.1)::.string (bs p.2.1)::.string (bs p.2.2.1)::.string (bs p.2.2.2)::zbW ps:=(by simp [zbW]);rw[e];simp only[az,ih];omega
def zz2(ps:List P4):∀u∈zbW ps,u.oneCell'=true:=by
 intro u hu;unfold zbW at hu;rw[ef]at hu;obtain⟨q,_,hq⟩:=hu;simp at hq;rcases hq with rfl|rfl|rfl|rfl<;>rfl
def Perss.newsY{w:World}{ad:Addr}{n c:Nat}{ps:List P4}(h:Perss w (.slice (some ad) n c) ps):∀j u,(zbW ps)[j]? = some u->w.cell? (ad.add j)=some u:=by
 intro j u hu;obtain⟨a,c',hv,_,h3⟩:=h;obtain⟨rfl,_,_⟩:=bL hv;have hp:0<ps.length:=by
  cases ps with
  | nil=>cases hu
  | cons p ps=>simp
 obtain⟨g,o,ha,_,hc⟩:=h3 hp;cases ha;rw[zBg];exact zvO w g ps o hc j u hu
def zqO(ps qs:List P4):zbW (ps++qs)=zbW ps++zbW qs:=by simp [zbW]
def zvP(w:World)(row:Option Nat):w.grownBy w row:=jF _ _
def zfR(w:World){ops:Array Oper}{o:Oper}{a:Act}{K:Act->World->Prop}{Q:Exit->Act->World->Prop}{E:Prop}(hgd:o.guard=none)(s x:Operand)(ho:o.op=.call { callee:=.builtin .append,args:=#[s,x],argTypes:=#[48,48] })
  (base:Nat) (v:Value) (ps:List P4) (hs:a.eval s=v) (lc:w.ownsRow base 52 4 v ps.length (zbW ps)) (u:Value) (qs:List P4) (hx:a.eval x=u) (hu:Perss w u qs)
  (hb:ps.length+qs.length<=1000) (mL:base<=w.heap.size)
  (h:∀v' w',w'.ownsRow base 52 4 v' (ps++qs).length (zbW (ps++qs))->w.grownBy w' v.ownBlock->K (a.put o.dst v') w') :
  if Region.wanted o (yielded ops a.tmps)=true then Oper.wp prog o a w K Q else E:=by
 obtain⟨i0,hi,mr,mq,mm⟩:=cg Tryz.infoPersY;have hw:Region.wanted o (yielded ops a.tmps)=true:=(by simp [Region.wanted,hgd]);rw[ae hw];by_cases hq:0<qs.length
 .have hu':=hu;obtain⟨a',c',rfl,hc,h3⟩:=hu;obtain⟨g,o2,rfl,_⟩:=h3 hq;refine wp_append_lies w s x 48 ho base 52 i0 _ 4 64 fG hi mr mq mm rfl c_ v ps.length (zbW ps) hs lc ⟨g,o2,none⟩ qs.length c' (zbW qs) hx (zz1 qs) (Perss.newsY hu') (zz2 qs) hq h_ a_ mL w.heap.size rfl ?_;intro g' lJ w' h1 h2 _ _;refine h _ _ ?_ h2;rw[ah,zqO];exact h1
 .obtain rfl:qs=[]:=bD.1 a_;obtain⟨a',c',rfl,hc,_⟩:=hu;have hown':=lc;obtain⟨a2,c2,rfl,hle,_,_⟩:=zaZ lc;have hsrc:Src prog i0.size 48 (.slice a' 0 c') 0 [] w:=by
   refine⟨.inl ⟨_,fG⟩,fun w'=>?_,?_,?_,b_,b_⟩
   .simp [Builtin.lenOf]
   .cases a'<;>simp [Builtin.firstCells,loadCells,loadCellsFrom]
   .cases a'<;>simp [Builtin.firstCells,loadCells,loadCellsFrom]
  have hr:=run_append_nothing (P:=prog) w 48 48 o.type 52 i0 fG hi a2 ps.length c2 hle (.slice a' 0 c') hsrc;unfold Oper.wp execOp;simp only[ho,resolve,invoke,builtin,bo,bn,ie,ck,bd,ca,hs,hx];simp only[cj];rw[hr];refine h _ _ ?_ (zvP _ _);rw[bN];exact hown'
end Go.Proofs.YtnldgmhdjancbaaGreatDoor

namespace Go.Proofs.YtnldgmhdjancbaaGreatDoor
open Go.ChangeShapes Go.WideShapes Go.ChangeAt Go.RowKit Go.Joins Go.Proofs.Tryz
def Tryz.cellsPers:prog.cellsOf 52=4:=g_
section
variable {H:Type}{enc:TypeId×Value->H}{w:World}{base:Nat}{lv:Nat->Bool}{me:Bool}
end
end Go.Proofs.YtnldgmhdjancbaaGreatDoor
