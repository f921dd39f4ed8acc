/- Parts. -/
import Derived.Test.YtnldgmhdjancbaaGreatDoorW27
import Derived.Test.YtnldgmhdjancbaaGreatDoorRows
import Derived.Stop.LaidErr
import Derived.MakeChecks
import Derived.Deep.DeepWitnessRowRef
set_option linter.all false
set_option maxRecDepth 100000
set_option maxHeartbeats 25600000
namespace Go.Proofs.YtnldgmhdjancbaaGreatDoor
open Go.RowKit Go.Proofs.Tryz
def Tryz.infoBk5:(prog.info? 42).map (fun i=>(i.zero,i.size,i.bytes))=some (some (.agg #[.int .i64 0,.int .i64 0,.string ⟨#[]⟩,.string ⟨#[]⟩,.string ⟨#[]⟩,.string ⟨#[]⟩,.string ⟨#[]⟩,.slice none 0 0,.slice none 0 0,.slice none 0 0,.slice none 0 0]),11,192):=g_
def zz6{xs:List Blo}{k:Nat}{x:Blo}(h:xs[k]? = some x):zaQ (xs.take (k+1))=(zaQ (xs.take k)++[x])++zaQ x.kids:=by
 have e:zaQ [x]=x::zaQ x.kids:=by
  show zdO x++[]=_;rw[bN,zb2]
 rw[zaV h,zgV,e];simp
def zDv{xs:List Blo}{k:Nat}{x:Blo}(h:xs[k]? = some x):(zaQ (xs.take k)).length+1+(zaQ x.kids).length<=(zaQ xs).length:=by
 obtain⟨hk,rfl⟩:=ak.1 h;have e:zaQ xs=zaQ (xs.take k)++(zdO xs[k]++zaQ (xs.drop (k+1))):=by
  have h0:xs=xs.take k++(xs[k]::xs.drop (k+1)):=(by rw[<- aJ hk,ce])
  conv=>lhs;rw[h0]
  rw[zgV];rfl
 rw[e,zb2];simp only[ah,az];omega
def zDw:∀xs:List Blo,xs.length<=(zaQ xs).length
 | []=>aw _
 | x::xs=>by
  have h:=zDw xs;have e:zaQ (x::xs)=(x::zaQ x.kids)++zaQ xs:=by
   show zdO x++zaQ xs=_;rw[zb2]
  rw[e,ah,az,az];omega
def RlP(S:Nat->Prop)(N n:Nat)(xs:List Blo)(w:World)(e:Ending)(w':World):Prop:=∃v,e=.returned v/\Bls (fun g=>S g\/w.heap.size<=g) N n w' v (zaQ xs)/\Kept w w'
def zDx(S:Nat->Prop)(N:Nat):∀(n:Nat) (xs:List Blo) (v:Value) (w:World),(∀g,S g->g<w.heap.size)->Bls S N n w v xs->(zaQ xs).length<=100000000000->xs.length<=100000000000->Calls prog 9 #[v] w (RlP S N n xs w):=by
 intro n
 induction n with
 | zero =>
  intro xs v w hS hv hl hx;obtain rfl:=hv.no;obtain⟨a,c,rfl,hc⟩:=hv.form;have lh:RlP S N 0 [] w (.returned (.slice none 0 0)) w:=⟨_,rfl,kl _ _ _ _,af w⟩;generalize hP:RlP S N 0 [] w=P at *;clear hv hP hS;go_in;go_wp2_with fail;go_loopw [3,4] (fun o i wr=>o=.slice none 0 0/\i=.int .i64 0/\w=wr) (fun _ i _=>1)
  .exact⟨rfl,rfl,rfl⟩
  case round =>
   obtain⟨rfl,rfl,rfl⟩:=hrel;go_wp2
   (try go_ret)
   exact lh
 | succ n ih =>
  intro xs v w hS hv hl hxl;have HV:=Hd hv;have we:=Hd hS;have nD:=Hd ih;unfold RlP at nD;have rr:Hi (∀k x,xs[k]? = some x->(zaQ (xs.take k)).length+1+(zaQ x.kids).length<=100000000000):=fun k x h=>bC (zDv h) hl;have lh:Hi (∀v w',OutG (BloK N n) 11 (fun g=>S g\/w.heap.size<=g) w.heap.size 42 w' v (zaQ (xs.take xs.length))->Kept w w'->RlP S N (n+1) xs w (.returned v) w'):=fun v w' h1 h2=>⟨v,rfl,by
   rw[bi]at h1;exact ji (S:=fun g=>S g\/w.heap.size<=g) (zjH N n) h1 (fun g _ h=>h) (fun g h=>.inr h),h2⟩
  obtain⟨i0,hi,mr,mq,mm⟩:=cg Tryz.infoBk5;obtain⟨a,c,rfl,hc⟩:=hv.form;generalize hP:RlP S N (n+1) xs w=P at *;clear hP hv ih hS hl;go_in;go_wp2_with fail;go_loopw [3,4] (fun o i wr=>∃(k:Nat),k<=xs.length/\i=.int .i64 k/\Hi (OutG (BloK N n) 11 (fun g=>S g\/w.heap.size<=g) w.heap.size 42 wr o (zaQ (xs.take k)))/\Hi (Kept w wr)) (fun _ i _=>xs.length - (intOf i).toNat)
  .exact⟨0,ai _,rfl,ey _ _ _ _ _ _,af w⟩
  case round =>
   obtain⟨k,hk,rfl,lu,kO⟩:=hrel;by_cases kV:k<xs.length
   .obtain⟨x,hx⟩:∃x,xs[k]? = some x:=⟨_,ac kV⟩;have hle:=rr.o k x hx;have hkl:x.kids.length<=(zaQ x.kids).length:=zDw x.kids;have HT:=Hd (zz6 hx);obtain⟨g,o,vC,vP,vL,vK,rfl,mY,qC,-,-,⟨d0,d1,d2,d3,d4,d5,d6,d7,d8,d9,ui⟩,-,⟨hC,iC⟩,⟨oj,iP⟩,hL,hK⟩:=gQ (HV.o.kept kO.o) k x hx;clear hx;obtain⟨kL,kU,kW,kN,kP,title,id,cls,prs,kY,kM⟩:=x;simp only[Blo.kind,Blo.level,Blo.info,Blo.text,Blo.dest,Blo.title,Blo.id,Blo.cls,Blo.prs,Blo.line,Blo.kids]at d0 d1 d2 d3 d4 d5 d6 hC oj hL hK iC iP HT hle hkl;obtain⟨aC,cC,rfl,lC⟩:=hC.shape;obtain⟨aP,cP,rfl,lP⟩:=oj.shape;obtain⟨aL,cL,rfl,lL⟩:=hL.form;obtain⟨aK,cK,rfl,lK⟩:=hK.form;obtain⟨ar,cr,rfl,hcr,hmr⟩:=lu.o.form;obtain⟨os,wh⟩:=gX (zaQ (xs.take k));rw[wh.o]at lu HT hle;rw[wh.o];have hwr:w.heap.size<=wr.heap.size:=kO.o.size;have lj:=zaA wr (.cells #[.int .i64 kL,.int .i64 kU,.string (bs kW),.string (bs kN),.string (bs kP),.string (bs title),.string (bs id),.slice aC cls.length cC,.slice aP prs.length cP,.slice aL kY.length cL,.slice aK kM.length cK] 42);have nc:∀g,S g->(S g\/w.heap.size<=g)/\(Value.slice ar os.length cr).ownBlock≠some g:=fun g q=>⟨.inl q,fun r=>by have h1:=(lu.o.blk g r).1;have h2:=we.o g q;omega⟩;have HY:=Hd ((zjH N n).sam (show BloK N n (fun g=>(S g\/w.heap.size<=g)/\(Value.slice ar os.length cr).ownBlock≠some g) wr [.int .i64 kL,.int .i64 kU,.string (bs kW),.string (bs kN),.string (bs kP),.string (bs title),.string (bs id),.slice aC cls.length cC,.slice aP prs.length cP,.slice aL kY.length cL,.slice aK kM.length cK] (Blo.mk kL kU kW kN kP title id cls prs kY kM)from⟨_,_,_,_,rfl,⟨hC,iC.mono (fun g _ _ q=>nc g q)⟩,⟨oj,iP.mono (fun g _ _ q=>nc g q)⟩,hL.mono (fun g _ q=>nc g q),hK.mono (fun g _ q=>nc g q)⟩) (cU lj) (fun _ _ q=>q));have sN:=Hd (lu.o.kept (zjH N n) lj);have ly:=Hd (aI wr 42 #[.int .i64 kL,.int .i64 kU,.string (bs kW),.string (bs kN),.string (bs kP),.string (bs title),.string (bs id),.slice aC cls.length cC,.slice aP prs.length cP,.slice aL kY.length cL,.slice aK kM.length cK]);have kT:=Hd (kO.o.trans lj);have nt:=Hd hK;have lD:=Hd lj;have mX:w.heap.size<=(wr.alloc (.cells #[.int .i64 kL,.int .i64 kU,.string (bs kW),.string (bs kN),.string (bs kP),.string (bs title),.string (bs id),.slice aC cls.length cC,.slice aP prs.length cP,.slice aL kY.length cL,.slice aK kM.length cK] 42)).heap.size:=kT.o.size;clear hC oj hL hK iC iP nc lj lu wh;go_wp2_with (at_builtin;refine zvH ?_);refine Hd ?_;refine zaO (zjH N n) rfl (.tmp 11) (.tmp 16) 23 rfl i0 _ 192 eW hi mr mq mm rfl a_ d_ sN.o wr.heap.size _ (Blo.mk kL kU kW kN kP title id cls prs kY kM) d_ (fun j u hu=>ly.o.cell j u (by rw[<- bE];exact hu)) rfl HY.o h_ a_ mX _ rfl ?_;intro g7 pR w2 lp lf mB mT;have mJ:=Hd lp;have kX:Hi (Kept w w2):=kT.o.trans' ((ch lf).below kT.o.size (fun i q=>(sN.o.blk i q.symm).1));have Ff:Bls S N n w2 (.slice aK kM.length cK) kM:=(nt.o.kept lD.o).step (ch lf) (fun g _ q r=>by have h1:=(sN.o.blk g r.symm).1;have h2:=we.o g q;omega) (fun _ _ q=>q);have e10:w2.cell? ⟨g,o+k * 11+10,none⟩=some (.slice aK kM.length cK):=by
     have h1:(wr.alloc (.cells #[.int .i64 kL,.int .i64 kU,.string (bs kW),.string (bs kN),.string (bs kP),.string (bs title),.string (bs id),.slice aC cls.length cC,.slice aP prs.length cP,.slice aL kY.length cL,.slice aK kM.length cK] 42)).cell? ⟨g,o+k * 11+10,none⟩=some (.slice aK kM.length cK):=(by rw[(bc (S:=fun _=>False) lD.o).cell g (o+k * 11+10) mY (fun q=>q)];exact ui);rw[(ch lf).cell g (o+k * 11+10) (aU mY lD.o.size) (fun r=>by have h1:=(sN.o.blk g r.symm).1;have h2:=we.o g qC;omega)];exact h1
    have hg2:g<w2.heap.size:=aU (aU mY lD.o.size) (ch lf).size;have oU:=Hd (nD.o kM (.slice aK kM.length cK) w2 (fun g q=>aU (we.o g q) kX.o.size) Ff a_ a_);have lc:∀i,(Value.slice (some ⟨g7,0,none⟩) (os.length+1) pR).ownBlock=some i->w.heap.size<=i/\i<w2.heap.size:=fun i q=>mJ.o.blk i q;have oe:=Hd lc;clear lp lf mB mT HY ly sN kT nt lD Ff lc mX d0 d1 d2 d3 d4 d5 d6 d7 d8 d9 ui;go_wp2_with fail;refine oU.o.mono ?_;rintro e w3 ⟨v3,rfl,mF,li⟩;obtain⟨a3,c3,rfl,l3⟩:=mF.form;have qb:=Hd (mJ.o.kept (zjH N n) li);have lq:=Hd (kX.o.trans li);have GB:Hi (RowR (fun g=>S g\/w2.heap.size<=g) 11 (BloK N n (fun g=>S g\/w2.heap.size<=g) w3) w3 (.slice a3 (zaQ kM).length c3) (zaQ kM)):=mF.up;have tu:Hi (∀i,i<w3.heap.size->(S i\/w2.heap.size<=i)->(S i\/w.heap.size<=i)/\(Value.slice (some ⟨g7,0,none⟩) (os.length+1) pR).ownBlock≠some i):=fun i _ q=>by
     have hz:=kX.o.size;rcases q with q|q
     .exact⟨.inl q,fun r=>by have h1:=(oe.o i r).1;have h2:=we.o i q;omega⟩
     .exact⟨.inr a_,fun r=>by have h1:=(oe.o i r).2;omega⟩
    have hbz:w.heap.size<=w3.heap.size:=lq.o.size;have hol:(os++[Blo.mk kL kU kW kN kP title id cls prs kY kM]).length=os.length+1:=b_;have si:=Hd hol;clear mF li mJ kX oU e10 hol;go_wp2_with (at_builtin;refine zvH ?_);refine Hd ?_;refine zdP (zjH N n) rfl (.tmp 18) (.tmp 24) 23 rfl i0 _ 192 eW hi mr mq mm rfl a_ d_ qb.o _ d_ GB.o tu.o (by rw[si.o];unfold maxLen;omega) (by rw[si.o];omega) hbz ?_;intro v7 CS xD qF;obtain⟨a7,c7,rfl,-,-⟩:=xD.form;have sO:Hi (OutG (BloK N n) 11 (fun g=>S g\/w.heap.size<=g) w.heap.size 42 CS (.slice a7 (os++[Blo.mk kL kU kW kN kP title id cls prs kY kM]++zaQ kM).length c7) (zaQ (xs.take (k+1)))):=(by rw[HT.o];exact xD);have wR:Hi (Kept w CS):=lq.o.trans' ((ch qF).below lq.o.size (fun i q=>(qb.o.blk i q.symm).1));clear xD qF qb GB tu lq;go_wp2;go_roundw
    .exact⟨k+1,a_,by go_num,(by have h:=sO.o;rw[show(os++[Blo.mk kL kU kW kN kP title id cls prs kY kM]++zaQ kM).length=os.length+((zaQ kM).length+1)by rw[ah,si.o];omega]at h;exact h),wR.o⟩
    .simp [intOf];omega
   .obtain rfl:k=xs.length:=a_;obtain⟨ar,cr,rfl,hcr,hmr⟩:=lu.o.form;have HF:=Hd (lh.o _ wr lu.o kO.o);clear lu kO;go_wp2
    (try go_ret)
    exact HF.o
def zvQ(N n:Nat)(hN:2<=N)(vM vB vL vE:Value)(ms:List Pr)(xs:List Blo)(l:List SrcT)(y:StyT)(lang:Bs)(w:World)(ni:EnvC w)(hM:Prs w vM ms)(hB:Bls (fun g=>g<w.heap.size) N n w vB xs)(hd:FitD0 ms xs)(hv:Srcs w vL l)(hE:Prs w vE y.entries)(hl:l.length<=140737488355328)(hfs:∀s∈l,FitS s)(ye:FitY y):Calls prog 3 #[.agg #[vM,vB],vL,zfA vE y,.string (bs lang)] w fun e w'=>e=.returned (.bool true)/\Kept w w':=by
 obtain⟨aM,cM,rfl,lM⟩:=hM.shape;obtain⟨aB,cB,rfl,lB⟩:=hB.form;obtain⟨aL,cL,rfl,lL⟩:=(show∃a c,vL=.slice a l.length c/\l.length<=c by obtain⟨a,c,e,q,_⟩:=hv;exact⟨a,c,e,q⟩);obtain⟨aE,cE,rfl,lE⟩:=hE.form;have Fg:=Hd (fun w' (k:Kept w w')=>zvL w' (ni.kept k));have Bu:Hi (∀w',Kept w w'->Bls (fun g=>g<w'.heap.size) N n w' (.slice aB xs.length cB) xs):=fun w' k=>hB.sam (cU k) (fun g hg _=>aU hg k.size);have pJ:=Hd (fun w' (k:Kept w w')=>zz5 _ N n _ _ ms xs w' (hM.kept k) (Bu.o w' k) hd);unfold SmlX at pJ;have GK:=Hd (fun w' (k:Kept w w')=>zz3 l y (.slice aL l.length cL) (.slice aE y.entries.length cE) w' (hv.kept k) (hE.kept k) hl hfs ye);unfold FewX at GK;obtain⟨SF,Cm⟩:∃SF:Prop,Hi (SF↔ms.length<=70/\(∀p∈ms,p.1.length+p.2.length<=300)/\SmB xs):=⟨_,Iff.rfl⟩;have vf:Hi (SF->∀w',Kept w w'->Calls prog 6 #[.agg #[.slice aM ms.length cM,.slice aB xs.length cB]] w' fun e w''=>e=.returned (.int .i64 (zDo N n ms xs))/\Kept w' w''):=fun h w' k=>by
  obtain⟨h1,h2,h3⟩:=Cm.o.1 h;exact ztJ _ N n ms xs _ _ w' (hM.kept k) (Bu.o w' k) (by have:=h3.1;omega) (zDr h3) a_ (fun p hp=>by have:=h2 p hp;omega)
 have qh:Hi (SF->zF6 l y->∀w',Kept w w'->Calls prog 8 #[.agg #[.slice aM ms.length cM,.slice aB xs.length cB],.slice aL l.length cL,zfA (.slice aE y.entries.length cE) y,.string (bs lang)] w' (FilR y lang l (zbQ xs) N n xs ms w')):=fun h hf w' k=>by
  obtain⟨h1,h2,h3⟩:=Cm.o.1 h;obtain⟨f1,f2,f3⟩:=hf;exact zoR _ _ _ _ ms l y lang xs w' (ni.kept k) (hM.kept k) a_ (Bu.o w' k) a_ (by have:=h3.len;omega) h3.okB (by have:=h3.inls;omega) (fun x hx=>by have:=h3.cits x hx;omega) (by have:=zFB _ h3.cits;have:=h3.inls;omega) h3.2 (by have:=h3.1;omega) (hv.kept k) f1 f2 (hE.kept k) f3.small f3
 have ro:Hi (SF->zF6 l y->zDo N n ms xs=0->zhJ y l (zbQ xs)=0->FilD (zcK (fiC y lang l (zbQ xs)) N n xs)/\zDo N n ms (zcK (fiC y lang l (zbQ xs)) N n xs)=0):=fun h hf hc h0=>zF8 h0 hf (Cm.o.1 h).2.2 hB.dp a_ hc;have vt:Hi (SF->ms.length<=70/\(∀p∈ms,p.1.length+p.2.length<=300)):=fun h=>⟨(Cm.o.1 h).1,(Cm.o.1 h).2.1⟩;have mt:Hi (zJ3 N n ms xs->∀w',Kept w w'->Calls prog 4 #[.agg #[.slice aM ms.length cM,.slice aB xs.length cB]] w' fun e w''=>e=.returned (.bool true)/\SF/\Kept w' w''):=fun hs w' k=>(pJ.o w' k).mono fun e w'' ⟨b,h1,h2,h3,h4⟩=>by
  have hb:=h3.2 hs;subst hb;exact⟨h1,Cm.o.2 (h2 rfl),h4⟩
 have xI:Hi (¬ zJ3 N n ms xs->∀w',Kept w w'->Calls prog 4 #[.agg #[.slice aM ms.length cM,.slice aB xs.length cB]] w' fun e w''=>e=.returned (.bool false)/\Kept w' w''):=fun hs w' k=>(pJ.o w' k).mono fun e w'' ⟨b,h1,h2,h3,h4⟩=>by
  cases b with
  | true=>exact absurd (h3.1 rfl) hs
  | false=>exact⟨h1,h4⟩
 have pu:Hi (zF6 l y->∀w',Kept w w'->Calls prog 5 #[.slice aL l.length cL,zfA (.slice aE y.entries.length cE) y] w' fun e w''=>e=.returned (.bool true)/\Kept w' w''):=fun hf w' k=>(GK.o w' k).mono fun e w'' ⟨b,h1,h2,h4⟩=>by
  have hb:=h2.2 hf;subst hb;exact⟨h1,h4⟩
 have pV:Hi (¬ zF6 l y->∀w',Kept w w'->Calls prog 5 #[.slice aL l.length cL,zfA (.slice aE y.entries.length cE) y] w' fun e w''=>e=.returned (.bool false)/\Kept w' w''):=fun hf w' k=>(GK.o w' k).mono fun e w'' ⟨b,h1,h2,h4⟩=>by
  cases b with
  | true=>exact absurd (h2.1 rfl) hf
  | false=>exact⟨h1,h4⟩
 have HD0:=Hd ((aI w 25 #[.slice aM ms.length cM,.slice aB xs.length cB]).alloc (.cells (zaK (.slice aE y.entries.length cE) y) 28));have hY0:=aI (w.alloc (.cells #[.slice aM ms.length cM,.slice aB xs.length cB] 25)) 28 (zaK (.slice aE y.entries.length cE) y);simp only[de]at hY0;have mM:=Hd hY0;have lg:=Hd ((zaA w (.cells #[.slice aM ms.length cM,.slice aB xs.length cB] 25)).trans (zaA _ (.cells (zaK (.slice aE y.entries.length cE) y) 28)));unfold zfA at pu pV qh ⊢;unfold zaK at pu pV qh HD0 mM lg ⊢;clear ni hM hB hd hv hE hl hfs ye hY0 pJ GK Cm Bu;by_cases hs:zJ3 N n ms xs
 .have mt:=Hd (mt.o hs);clear xI hs;by_cases hf:zF6 l y
  .have pu:=Hd (pu.o hf);have qh:=Hd (fun h=>qh.o h hf);have ro:=Hd (fun h=>ro.o h hf);clear pV hf;by_cases hc:¬ zDo N n ms xs=0
   .have lV:(zDo N n ms xs==0)=false:=(by rw[ab];exact hc);have hnb:(zDo N n ms xs != 0)=true:=(by rw[dd];exact hc);clear qh ro vt hc;generalize zDo N n ms xs=E at *;go_enter gT,ko;go_wp2_with fail;generalize World.alloc (World.alloc w _) _=w0 at *;obtain⟨D,vn⟩:=gX w.heap.size;rw[vn.o]at HD0 mM ⊢;have mA:Hi (∀w',Kept w0 w'->(w'.cell? ⟨D,0,none⟩=some (.slice aM ms.length cM)/\w'.cell? ⟨D,1,none⟩=some (.slice aB xs.length cB))/\(w'.cell? ⟨D+1,0,none⟩=some (.string (bs y.name))/\w'.cell? ⟨D+1,1,none⟩=some (.bool y.numeric)/\w'.cell? ⟨D+1,2,none⟩=some (.string (bs y.sort))/\w'.cell? ⟨D+1,3,none⟩=some (.string (bs y.cite))/\w'.cell? ⟨D+1,4,none⟩=some (.string (bs y.bare))/\w'.cell? ⟨D+1,5,none⟩=some (.string (bs y.between))/\w'.cell? ⟨D+1,6,none⟩=some (.string (bs y.begin_))/\w'.cell? ⟨D+1,7,none⟩=some (.string (bs y.end_))/\w'.cell? ⟨D+1,8,none⟩=some (.int .i64 y.most)/\w'.cell? ⟨D+1,9,none⟩=some (.slice aE y.entries.length cE))/\(D<w'.heap.size/\D+1<w'.heap.size)/\Kept w0 w'):=fun w' h=>⟨⟨(HD0.o.kept h).cell 0 _ rfl,(HD0.o.kept h).cell 1 _ rfl⟩,⟨(mM.o.kept h).cell 0 _ rfl,(mM.o.kept h).cell 1 _ rfl,(mM.o.kept h).cell 2 _ rfl,(mM.o.kept h).cell 3 _ rfl,(mM.o.kept h).cell 4 _ rfl,(mM.o.kept h).cell 5 _ rfl,(mM.o.kept h).cell 6 _ rfl,(mM.o.kept h).cell 7 _ rfl,(mM.o.kept h).cell 8 _ rfl,(mM.o.kept h).cell 9 _ rfl⟩,⟨(HD0.o.kept h).lt,(mM.o.kept h).lt⟩,h⟩;obtain⟨⟨rN,rO⟩,⟨rP,rQ,rR,rS,rT,rU,rV,rW,rX,rY⟩,⟨cz,rZ⟩,-⟩:=mA.o w0 (af _);have hkd:Kept w0 w0.drew:=zaB w0 1;have hun:undef=Value.tuple #[]:=rfl;refine(mt.o w0 lg.o).mono ?_;rintro e w1 ⟨rfl,AW,ld⟩;have kT:=Hd ld;have sT:=Hd AW;clear AW;clear rN rO rP rQ rR rS rT rU rV rW rX rY cz rZ;clear ld;obtain⟨⟨rN,rO⟩,⟨rP,rQ,rR,rS,rT,rU,rV,rW,rX,rY⟩,⟨cz,rZ⟩,-⟩:=mA.o w1 kT.o;go_wp2_with fail;refine k_ (pu.o w1 (lg.o.trans kT.o)) fun w2 ll=>?_;have kX:=Hd (kT.o.trans ll);clear rN rO rP rQ rR rS rT rU rV rW rX rY cz rZ;clear ll kT;obtain⟨⟨rN,rO⟩,⟨rP,rQ,rR,rS,rT,rU,rV,rW,rX,rY⟩,⟨cz,rZ⟩,-⟩:=mA.o w2 kX.o;go_wp2_with fail;refine k_ (vf.o sT.o w2 (lg.o.trans kX.o)) fun w3 li=>?_;have lq:=Hd (kX.o.trans li);clear rN rO rP rQ rR rS rT rU rV rW rX rY cz rZ;clear li kX vf;go_wp2_with fail;refine k_ (Fg.o w3 (lg.o.trans lq.o)) fun w9 pD=>?_;have oh:=Hd ((lg.o.trans lq.o).trans pD);clear pD;go_wp2
    (try go_ret)
    exact⟨rfl,oh.o⟩
   .have hc:zDo N n ms xs=0:=dR.1 hc;have ro:=Hd (fun h=>ro.o h hc);rw[hc]at vf;clear hc;go_enter gT,ko;go_wp2_with fail;generalize World.alloc (World.alloc w _) _=w0 at *;obtain⟨D,vn⟩:=gX w.heap.size;rw[vn.o]at HD0 mM ⊢;have mA:Hi (∀w',Kept w0 w'->(w'.cell? ⟨D,0,none⟩=some (.slice aM ms.length cM)/\w'.cell? ⟨D,1,none⟩=some (.slice aB xs.length cB))/\(w'.cell? ⟨D+1,0,none⟩=some (.string (bs y.name))/\w'.cell? ⟨D+1,1,none⟩=some (.bool y.numeric)/\w'.cell? ⟨D+1,2,none⟩=some (.string (bs y.sort))/\w'.cell? ⟨D+1,3,none⟩=some (.string (bs y.cite))/\w'.cell? ⟨D+1,4,none⟩=some (.string (bs y.bare))/\w'.cell? ⟨D+1,5,none⟩=some (.string (bs y.between))/\w'.cell? ⟨D+1,6,none⟩=some (.string (bs y.begin_))/\w'.cell? ⟨D+1,7,none⟩=some (.string (bs y.end_))/\w'.cell? ⟨D+1,8,none⟩=some (.int .i64 y.most)/\w'.cell? ⟨D+1,9,none⟩=some (.slice aE y.entries.length cE))/\(D<w'.heap.size/\D+1<w'.heap.size)/\Kept w0 w'):=fun w' h=>⟨⟨(HD0.o.kept h).cell 0 _ rfl,(HD0.o.kept h).cell 1 _ rfl⟩,⟨(mM.o.kept h).cell 0 _ rfl,(mM.o.kept h).cell 1 _ rfl,(mM.o.kept h).cell 2 _ rfl,(mM.o.kept h).cell 3 _ rfl,(mM.o.kept h).cell 4 _ rfl,(mM.o.kept h).cell 5 _ rfl,(mM.o.kept h).cell 6 _ rfl,(mM.o.kept h).cell 7 _ rfl,(mM.o.kept h).cell 8 _ rfl,(mM.o.kept h).cell 9 _ rfl⟩,⟨(HD0.o.kept h).lt,(mM.o.kept h).lt⟩,h⟩;obtain⟨⟨rN,rO⟩,⟨rP,rQ,rR,rS,rT,rU,rV,rW,rX,rY⟩,⟨cz,rZ⟩,-⟩:=mA.o w0 (af _);have hkd:Kept w0 w0.drew:=zaB w0 1;have hun:undef=Value.tuple #[]:=rfl;refine(mt.o w0 lg.o).mono ?_;rintro e w1 ⟨rfl,AW,ld⟩;have kT:=Hd ld;have sT:=Hd AW;clear AW;clear rN rO rP rQ rR rS rT rU rV rW rX rY cz rZ;clear ld;obtain⟨⟨rN,rO⟩,⟨rP,rQ,rR,rS,rT,rU,rV,rW,rX,rY⟩,⟨cz,rZ⟩,-⟩:=mA.o w1 kT.o;go_wp2_with fail;refine k_ (pu.o w1 (lg.o.trans kT.o)) fun w2 ll=>?_;have kX:=Hd (kT.o.trans ll);clear rN rO rP rQ rR rS rT rU rV rW rX rY cz rZ;clear ll kT;obtain⟨⟨rN,rO⟩,⟨rP,rQ,rR,rS,rT,rU,rV,rW,rX,rY⟩,⟨cz,rZ⟩,-⟩:=mA.o w2 kX.o;go_wp2_with fail;refine k_ (vf.o sT.o w2 (lg.o.trans kX.o)) fun w3 li=>?_;have lq:=Hd (kX.o.trans li);clear rN rO rP rQ rR rS rT rU rV rW rX rY cz rZ;clear li kX vf;have qQ:=Hd (qh.o sT.o);have tD:=Hd (ro.o sT.o);have sy:=Hd (vt.o sT.o);clear qh ro vt sT;unfold FilR at qQ;generalize zcK (fiC y lang l (zbQ xs)) N n xs=ys at *;generalize zhJ y l (zbQ xs)=er at *;obtain⟨⟨rN,rO⟩,⟨rP,rQ,rR,rS,rT,rU,rV,rW,rX,rY⟩,⟨cz,rZ⟩,-⟩:=mA.o w3 lq.o;go_wp2_with fail;refine(qQ.o w3 (lg.o.trans lq.o)).mono ?_;rintro e w4 ⟨RT,RU,rfl,mu,he0,he1⟩;have mg:=Hd (lq.o.trans mu);have Pk:=Hd mu.size;clear rN rO rP rQ rR rS rT rU rV rW rX rY cz rZ;clear mu lq qQ;by_cases he:¬ er=0
    .obtain⟨rfl,rfl⟩:=he0 he;have lV:(er==0)=false:=(by rw[ab];exact he);have hnb:(er != 0)=true:=(by rw[dd];exact he);have lX:=Hd (mg.o.trans (zaA w4 (.cells #[.slice none 0 0,.slice none 0 0] 25)));clear he0 he1 he tD sy mA;go_wp2_with fail;refine k_ (Fg.o _ (lg.o.trans lX.o)) fun w9 pD=>?_;have oh:=Hd ((lg.o.trans lX.o).trans pD);clear pD;go_wp2
     (try go_ret)
     exact⟨rfl,oh.o⟩
    have he:er=0:=dR.1 he;obtain⟨hm2,mV⟩:=he1 he;obtain⟨yi,hch⟩:=tD.o he;subst he;obtain⟨Cn,Co,rfl,-⟩:=hm2.shape;obtain⟨zu,cB2,rfl,-⟩:=mV.form;have lj:=zaA w4 (.cells #[.slice Cn ms.length Co,.slice zu ys.length cB2] 25);have oF:=Hd (aI w4 25 #[.slice Cn ms.length Co,.slice zu ys.length cB2]);have lX:=Hd (mg.o.trans lj);have sa:=Hd (hm2.kept lj);have pK:Hi (Bls (fun g=>g<(w4.alloc (.cells #[.slice Cn ms.length Co,.slice zu ys.length cB2] 25)).heap.size) N n (w4.alloc (.cells #[.slice Cn ms.length Co,.slice zu ys.length cB2] 25)) (.slice zu ys.length cB2) ys):=(mV.kept lj).mono (fun g q _=>q);have L6:=Hd yi.noR;have xW:Hi (zbQ ys=[]):=zF7 yi.noC;have Pm:=Hd yi.ok;have si:=Hd yi.okB;have tv:=Hd (zDs yi.noC);have qO:=Hd yi.cits;have hsum:=yi.sum;have hll:(zaQ ys).length<=2040:=(by unfold zcE at hsum;omega);have hil:(zaW ys).length<=2040:=(by unfold zcE at hsum;omega);have hyl:ys.length<=2040:=bC (zc5 ys) hll;have qP:=Hd hch;clear he0 he1 hm2 mV yi hch lj tD mA mg Pk;have o0:=oF.o.cell 0 _ rfl;have o1:=oF.o.cell 1 _ rfl;have oz:=oF.o.lt;have zP:=Hd (zDx (fun g=>g<(w4.alloc (.cells #[.slice Cn ms.length Co,.slice zu ys.length cB2] 25)).heap.size) N n ys _ _ (fun _ q=>q) pK.o a_ a_);unfold RlP at zP;go_wp2_with fail;refine zP.o.mono ?_;rintro e w6 ⟨vZ,rfl,JV,oW⟩;obtain⟨aZ,cZ,rfl,lZ⟩:=JV.form;have CI:=Hd JV;have xY:=Hd (oF.o.kept oW);have lH:=Hd (lX.o.trans oW);have xJ:=Hd (sa.o.kept oW);have rh:Hi (Bls (fun g=>g<w6.heap.size) N n w6 (.slice zu ys.length cB2) ys):=(pK.o.kept oW).mono (fun g q _=>q);generalize w4.heap.size=O at *;clear JV oW zP oF lX sa pK o0 o1 oz;obtain⟨zs,tI⟩:=gX (zaQ ys);rw[tI.o]at CI L6 hll lZ ⊢;go_wp2_with fail;go_loopw [12] (fun i wr=>∃k:Nat,k<=zs.length/\i=.int .i64 k/\Hi (Kept w6 wr)) (fun i _=>zs.length - (intOf i).toNat)
    .exact⟨0,ai _,rfl,af _⟩
    case round =>
     obtain⟨k,hk,rfl,kO⟩:=hrel;by_cases kV:k<zs.length
     .obtain⟨x,hx⟩:∃x,zs[k]? = some x:=⟨_,ac kV⟩;have hnr:=L6.o x (am hx);unfold zwU zFj at hnr;obtain⟨nn,rfl⟩:∃nn,n=nn+1:=by
       cases n with
       | zero=>have:=(CI.o).no;rw[this]at kV;simp at kV
       | succ nn=>exact⟨nn,rfl⟩
      obtain⟨g,o,vC,vP,vL,vK,rfl,hg,-,-,-,-,kR,-⟩:=gQ (CI.o.kept kO.o) k x hx;have e0:=kR 0 _ rfl;have e2:=kR 2 _ rfl;rw[dl]at e0;by_cases qu:x.kind=13
      .have f1:(x.kind==13)=true:=(by rw[bh];exact qu);have f2:(x.info==[114,101,102,101,114,101,110,99,101,115])=false:=by
        rw[qu]at hnr;simpa using hnr
       clear hnr kR hx qu;go_wp2;go_roundw
       .exact⟨k+1,a_,by go_num,kO.o⟩
       .simp [intOf];omega
      .have f1:(x.kind==13)=false:=(by rw[ab];exact qu);clear hnr kR hx qu;go_wp2;go_roundw
       .exact⟨k+1,a_,by go_num,kO.o⟩
       .simp [intOf];omega
     .obtain rfl:k=zs.length:=a_;have mE:=Hd (lH.o.trans kO.o);have sO:=Hd (xY.o.kept kO.o);have tf:Hi (∀w',Kept w6 w'->Bls (fun g=>g<w'.heap.size) N n w' (.slice zu ys.length cB2) ys):=fun w' k=>(rh.o.kept k).mono (fun g q _=>q);have sd:=Hd (fun w' (k:Kept w6 w')=>zj6 N n Cn ms.length Co (.slice zu ys.length cB2) ys w' (tf.o w' k) a_ si.o a_ (fun x hx=>qO.o x hx) (by rw[tv.o];simp));rw[xW.o]at sd;unfold CiKP at sd;have Cp:=Hd (fun w' (k:Kept w6 w')=>ztJ _ N n ms ys (.slice Cn ms.length Co) _ w' (xJ.o.kept k) (tf.o w' k) a_ Pm.o (by have:=sy.o.1;omega) (fun p hp=>by have:=sy.o.2 p hp;omega));rw[qP.o]at Cp;have o0:=sO.o.cell 0 _ rfl;have o1:=sO.o.cell 1 _ rfl;have oz:=sO.o.lt;go_wp2_with fail;refine(sd.o wr kO.o).mono ?_;rintro e w8 ⟨vQ,rfl,hq8,pG⟩;obtain⟨aQ,cQ,L7,-⟩:=hq8.shape;have JW:vQ=.slice aQ 0 cQ:=L7;subst JW;have wU:=Hd (kO.o.trans pG);have sY:=Hd (sO.o.kept pG);clear hq8 pG L7 sd o0 o1 oz mE sO kO;have o0:=sY.o.cell 0 _ rfl;have o1:=sY.o.cell 1 _ rfl;have oz:=sY.o.lt;go_wp2_with fail;refine k_ (Cp.o w8 wU.o) fun tZ hk10=>?_;have yo:=Hd ((lH.o.trans wU.o).trans hk10);clear hk10 Cp;go_wp2_with fail;refine k_ (Fg.o tZ (lg.o.trans yo.o)) fun rG qH=>?_;have oh:=Hd ((lg.o.trans yo.o).trans qH);clear qH;go_wp2
      (try go_ret)
      exact⟨rfl,oh.o⟩
  .have pV:=Hd (pV.o hf);clear pu qh ro vf vt hf;go_enter gT,ko;go_wp2_with fail;generalize World.alloc (World.alloc w _) _=w0 at *;obtain⟨D,vn⟩:=gX w.heap.size;rw[vn.o]at HD0 mM ⊢;have mA:Hi (∀w',Kept w0 w'->(w'.cell? ⟨D,0,none⟩=some (.slice aM ms.length cM)/\w'.cell? ⟨D,1,none⟩=some (.slice aB xs.length cB))/\(w'.cell? ⟨D+1,0,none⟩=some (.string (bs y.name))/\w'.cell? ⟨D+1,1,none⟩=some (.bool y.numeric)/\w'.cell? ⟨D+1,2,none⟩=some (.string (bs y.sort))/\w'.cell? ⟨D+1,3,none⟩=some (.string (bs y.cite))/\w'.cell? ⟨D+1,4,none⟩=some (.string (bs y.bare))/\w'.cell? ⟨D+1,5,none⟩=some (.string (bs y.between))/\w'.cell? ⟨D+1,6,none⟩=some (.string (bs y.begin_))/\w'.cell? ⟨D+1,7,none⟩=some (.string (bs y.end_))/\w'.cell? ⟨D+1,8,none⟩=some (.int .i64 y.most)/\w'.cell? ⟨D+1,9,none⟩=some (.slice aE y.entries.length cE))/\(D<w'.heap.size/\D+1<w'.heap.size)/\Kept w0 w'):=fun w' h=>⟨⟨(HD0.o.kept h).cell 0 _ rfl,(HD0.o.kept h).cell 1 _ rfl⟩,⟨(mM.o.kept h).cell 0 _ rfl,(mM.o.kept h).cell 1 _ rfl,(mM.o.kept h).cell 2 _ rfl,(mM.o.kept h).cell 3 _ rfl,(mM.o.kept h).cell 4 _ rfl,(mM.o.kept h).cell 5 _ rfl,(mM.o.kept h).cell 6 _ rfl,(mM.o.kept h).cell 7 _ rfl,(mM.o.kept h).cell 8 _ rfl,(mM.o.kept h).cell 9 _ rfl⟩,⟨(HD0.o.kept h).lt,(mM.o.kept h).lt⟩,h⟩;obtain⟨⟨rN,rO⟩,⟨rP,rQ,rR,rS,rT,rU,rV,rW,rX,rY⟩,⟨cz,rZ⟩,-⟩:=mA.o w0 (af _);have hkd:Kept w0 w0.drew:=zaB w0 1;have hun:undef=Value.tuple #[]:=rfl;refine(mt.o w0 lg.o).mono ?_;rintro e w1 ⟨rfl,AW,ld⟩;have kT:=Hd ld;have sT:=Hd AW;clear AW;clear rN rO rP rQ rR rS rT rU rV rW rX rY cz rZ;clear ld;obtain⟨⟨rN,rO⟩,⟨rP,rQ,rR,rS,rT,rU,rV,rW,rX,rY⟩,⟨cz,rZ⟩,-⟩:=mA.o w1 kT.o;go_wp2_with fail;refine k_ (pV.o w1 (lg.o.trans kT.o)) fun w2 ll=>?_;have kX:=Hd (kT.o.trans ll);clear rN rO rP rQ rR rS rT rU rV rW rX rY cz rZ;clear ll kT;go_wp2_with fail;refine k_ (Fg.o w2 (lg.o.trans kX.o)) fun w9 pD=>?_;have oh:=Hd ((lg.o.trans kX.o).trans pD);clear pD;go_wp2
   (try go_ret)
   exact⟨rfl,oh.o⟩
 .have xI:=Hd (xI.o hs);clear mt pu pV qh ro vf vt hs;go_enter gT,ko;go_wp2_with fail;generalize World.alloc (World.alloc w _) _=w0 at *;obtain⟨D,vn⟩:=gX w.heap.size;rw[vn.o]at HD0 mM ⊢;have mA:Hi (∀w',Kept w0 w'->(w'.cell? ⟨D,0,none⟩=some (.slice aM ms.length cM)/\w'.cell? ⟨D,1,none⟩=some (.slice aB xs.length cB))/\(w'.cell? ⟨D+1,0,none⟩=some (.string (bs y.name))/\w'.cell? ⟨D+1,1,none⟩=some (.bool y.numeric)/\w'.cell? ⟨D+1,2,none⟩=some (.string (bs y.sort))/\w'.cell? ⟨D+1,3,none⟩=some (.string (bs y.cite))/\w'.cell? ⟨D+1,4,none⟩=some (.string (bs y.bare))/\w'.cell? ⟨D+1,5,none⟩=some (.string (bs y.between))/\w'.cell? ⟨D+1,6,none⟩=some (.string (bs y.begin_))/\w'.cell? ⟨D+1,7,none⟩=some (.string (bs y.end_))/\w'.cell? ⟨D+1,8,none⟩=some (.int .i64 y.most)/\w'.cell? ⟨D+1,9,none⟩=some (.slice aE y.entries.length cE))/\(D<w'.heap.size/\D+1<w'.heap.size)/\Kept w0 w'):=fun w' h=>⟨⟨(HD0.o.kept h).cell 0 _ rfl,(HD0.o.kept h).cell 1 _ rfl⟩,⟨(mM.o.kept h).cell 0 _ rfl,(mM.o.kept h).cell 1 _ rfl,(mM.o.kept h).cell 2 _ rfl,(mM.o.kept h).cell 3 _ rfl,(mM.o.kept h).cell 4 _ rfl,(mM.o.kept h).cell 5 _ rfl,(mM.o.kept h).cell 6 _ rfl,(mM.o.kept h).cell 7 _ rfl,(mM.o.kept h).cell 8 _ rfl,(mM.o.kept h).cell 9 _ rfl⟩,⟨(HD0.o.kept h).lt,(mM.o.kept h).lt⟩,h⟩;obtain⟨⟨rN,rO⟩,⟨rP,rQ,rR,rS,rT,rU,rV,rW,rX,rY⟩,⟨cz,rZ⟩,-⟩:=mA.o w0 (af _);have hkd:Kept w0 w0.drew:=zaB w0 1;have hun:undef=Value.tuple #[]:=rfl;refine k_ (xI.o w0 lg.o) fun w1 ld=>?_;have kT:=Hd ld;clear rN rO rP rQ rR rS rT rU rV rW rX rY cz rZ;clear ld;go_wp2_with fail;refine k_ (Fg.o w1 (lg.o.trans kT.o)) fun w9 pD=>?_;have oh:=Hd ((lg.o.trans kT.o).trans pD);clear pD;go_wp2
  (try go_ret)
  exact⟨rfl,oh.o⟩
end Go.Proofs.YtnldgmhdjancbaaGreatDoor

namespace Go.Proofs.YtnldgmhdjancbaaGreatDoor
open Go.ChangeShapes Go.WideShapes Go.ChangeAt Go.RowKit Go.Proofs.Tryz
def Tryz.ownNone:ownKnob prog.godebug=none:=g_
def Tryz.laidOut:laidOutB prog=true:=g_
section
variable {H:Type}{enc:TypeId×Value->H}{P:Program}
def zjG(hl:laidOutB P=true){W W':World}{sp:Nat->Bool}:∀{ts:List TypeId} {vs:List Value} {ds:List (DataW H)} {p:List MemPlace}, (∀t∈ts,P.readableRec t=true/\t<P.types.size)->DataW.TrodAll enc P W 0 (fun _=>true) true ts vs ds p->(∀x∈p,W.sameAt W' x)->(∀x∈p,sp x.block=true)->DataW.TrodAll enc P W' 0 sp true ts vs ds p
 | [],vs,ds,p,_,h,_,_=>by
  obtain⟨rfl,rfl,rfl⟩:=trodAll_nil h;exact trodAll_mk0
 | t::ts,vs,ds,p,hr,h,hs,hp=>by
  obtain⟨v,vs',d,ds',p1,p2,rfl,rfl,rfl,h0,h1⟩:=trodAll_cons h;have h0':=WideElems.Trod_stays hl (hr t b_).1 (hr t b_).2 h0 (fun x hx=>hs x (by simp [hx])) (sp':=sp) (fun x hx=>hp x (by simp [hx]));exact trodAll_cons_mk h0' (zjG hl (fun t ht=>hr t (by simp [ht])) h1 (fun x hx=>hs x (by simp [hx])) (fun x hx=>hp x (by simp [hx])))
def zGa{f:Func}{s:ChangeSpec}{apart fresh handsOn again:Bool}{W W':World}{args:Array Value}{ds gs:List (DataW H)}{zaM:List MemPlace}{bt:TypeId}(hl:laidOutB P=true)(hread:∀t∈f.params.toList,P.readableRec t=true/\t<P.types.size)(hr:f.resultTypes=#[bt])(hbt:P.underlying bt=some .bool)(hsv:s.vars=[])(hW:DataW.Whole enc P f.params.toList s.vars apart W args.toList ds gs zaM)(hs:s.fn H ds={ results:=[.lit (.bool true)],args:=ds })(hb:Kept W W'):
  s.post enc P f apart fresh handsOn again W args (.bool true) W':=by
 have hW':=hW;have kV:∀p∈zaM,p.block<W.heap.size:=fun p hp=>hW'.lt p hp;have hold:∀p∈zaM,(fun b=>decide (b<W.heap.size)) p.block=true:=fun p hp=>(by simpa using kV p hp);obtain⟨pa,pv,hA,hV,hbe,hz,hn⟩:=hW;rw[hsv]at hV;obtain⟨rfl,rfl⟩:=trodVars_none hV;rw[bN]at hbe;subst hbe;have hs':s.fn H (ds++[])={ results:=[.lit (.bool true)],args:=ds }:=(by rw[bN];exact hs);have hres:∀(b:Nat) (sp:Nat->Bool) (hd:Bool),DataW.TrodAll enc P W' b sp hd f.resultTypes.toList ((Value.bool true).resultList f.resultTypes.size) (s.fn H (ds++[])).results []:=by
  intro b sp hd;rw[hs',hr];exact trodAll_cons_mk (shut_bool hbt _) trodAll_mk0
 have hargs:∀sp:Nat->Bool,(∀p∈zaM,sp p.block=true)->DataW.TrodAll enc P W' 0 sp true f.params.toList args.toList (s.fn H (ds++[])).args zaM:=by
  intro sp hsp;rw[hs'];exact zjG hl hread hA (fun x hx=>hb.same (kV x hx)) hsp
 have hvars:∀sp:Nat->Bool,DataW.TrodVars enc P W' sp s.vars (s.fn H (ds++[])).vars []:=by
  intro sp;rw[hs',hsv];rfl
 have mn:=ok_one (P:=P) (W':=W') (v:=.bool true) hr rfl (okWide_bool_mk hbt _);refine⟨ds,[],zaM,[],zaM,[],hW',hres _ _ _,hargs _ hold,hvars _,World.keptBut_mono (fun p hp=>⟨hp,?_⟩) (hb.frame (· ∈ zaM)),fun _=>?_⟩
 .exact Or.inr (Or.inl hp)
 .refine⟨mn,_,_,([]++zaM)++[],⟨[]++zaM,[],trodAll_append (hargs _ (fun _ _=>rfl)) (hres _ _ _),hvars _,rfl,?_,?_⟩,?_⟩
  .intro b off hp;have nc:MemPlace.cell b off∈zaM:=(by simpa using hp);rw[hb.frozen (kV _ nc)];exact hz b off nc
  .intro ha;have:=hn ha;simpa using this
  .intro p hp _;simpa using hp
end
def zJS{W:World}(h:W.ShapedOpen prog):Gnd W :=
 Go.Proofs.cell_of_shapedOpen_int (zero:=#[.int .i64 0]) (t:=3) h (dG g_) g_ rfl g_ g_ bW
def firstCells:Array Value:=(Go.Pinned.utf8FirstZ.map fun(n:Nat)=>Value.int .u8 (n:Int)).toArray
def zvR:Array Value:=#[.int .u8 128,.int .u8 191,.int .u8 160,.int .u8 191,.int .u8 128,.int .u8 159,.int .u8 144,.int .u8 191,.int .u8 128,.int .u8 143,.int .u8 0,.int .u8 0,.int .u8 0,.int .u8 0,.int .u8 0,.int .u8 0,.int .u8 0,.int .u8 0,.int .u8 0,.int .u8 0,.int .u8 0,.int .u8 0,.int .u8 0,.int .u8 0,.int .u8 0,.int .u8 0,.int .u8 0,.int .u8 0,.int .u8 0,.int .u8 0,.int .u8 0,.int .u8 0]
def zf7(cs:Array Value):Obj->Obj
 | .cells _ t frozen=>.cells cs t frozen
 | o=>o
abbrev TabW(W:World):Prop:=Lib.TabIs prog W "internal/strconv.uint64pow10" .u64 Lib.pow10Tab/\Lib.TabIs prog W "strings.asciiSpace" .u8 Lib.asciiSpaceTab
def zlS(k:IntKind)(zs:List Int):Array Value:=(zs.map fun z=>Value.int k z).toArray
def zKq:List Int:=[0,1,28,2,29,14,24,3,30,22,20,15,25,17,4,8,31,27,13,23,21,19,16,7,26,12,18,6,11,5,10,9]
def zKr:List Int:=[0,1,56,2,57,49,28,3,61,58,42,50,38,29,17,4,62,47,59,36,45,43,51,22,53,39,33,30,24,18,12,5,63,55,48,27,60,41,37,16,46,35,44,21,52,32,23,11,54,26,40,15,34,20,31,10,25,14,19,9,13,8,7,6]
noncomputable def zKz:Nat:=(World.holding prog default ⟨#[],#[],[]⟩).heap.size
noncomputable def zfS(os:Os):World :=
 let w0:=World.holding prog os ⟨#[.cells (Lib.whiteT.map fun(z:Nat)=>Value.int .u16 (z:Int)).toArray 232,.cells #[.slice (some ⟨zKz,0,none⟩) 7 7,.slice none 0 0,.int .i64 2] 229],#[],[]⟩
 { w0 with heap:=((((((w0.heap.modify 4 (zf7 firstCells)).modify 5 (zf7 zvR)).modify 6 (zf7 (zlS .u8 zKq))).modify 7 (zf7 (zlS .u8 zKr))).modify 3 (zf7 (zlS .u64 Lib.pow10Tab))).modify 0 (zf7 (zlS .u8 Lib.asciiSpaceTab))).modify 1 (zf7 #[.pointer (some ⟨zKz+1,0,none⟩)]) }
abbrev zIK:List (String×DataW Unit):=[("math/bits.deBruijn32tab",Rows.laid_math_bits_deBruijn32tab),("math/bits.deBruijn64tab",Rows.laid_math_bits_deBruijn64tab),("internal/strconv.uint64pow10",Rows.laid_internal_strconv_uint64pow10),("unicode/utf8.acceptRanges",Rows.laid_unicode_utf8_acceptRanges),("unicode.White_Space",Rows.laid_unicode_White_Space),("strings.asciiSpace",Rows.laid_strings_asciiSpace),("unicode/utf8.first",Rows.laid_unicode_utf8_first)]
def ndB:List MemPlace->Nat->Bool
 | [],_=>true
 | .cell b off::r,s=>decide (off<512)&&(!s.testBit (b * 512+off)&&ndB r (s ||| 2 ^ (b * 512+off)))
 | .map _::_,_=>false
def zGV:∀(ps:List MemPlace) (s:Nat),ndB ps s=true->ps.Nodup/\∀p∈ps,∃b off,p=.cell b off/\off<512/\s.testBit (b * 512+off)=false
 | [],_,_=>⟨kH,fun _ h=>(bO h).elim⟩
 | .cell b off::r,s,h=>by
  unfold ndB at h;rw[ba,ba,cq,ir]at h;obtain⟨h1,h2,h3⟩:=h;obtain⟨i1,i2⟩:=zGV r _ h3;refine⟨List.nodup_cons.2 ⟨fun hm=>?_,i1⟩,fun p hp=>?_⟩
  .obtain⟨b',off',e,_,q⟩:=i2 _ hm;cases e;rw[Nat.testBit_or,Nat.testBit_two_pow_self,Bool.or_true]at q;cases q
  .rcases bj.1 hp with rfl|hp
   .exact⟨b,off,rfl,h1,h2⟩
   .obtain⟨b',off',e,h4,q⟩:=i2 p hp;refine⟨b',off',e,h4,?_⟩;rw[Nat.testBit_or,Bool.or_eq_false_iff]at q;exact q.1
 | .map _::_,_,h=>by simp [ndB]at h
def zvS{P:Program}{w:World}{l:List (String×DataW Unit)}(mf:Nat)(h:(DataW.laidRun P w mf (l.map (·.1))).map (·.1)=some l)(hr:(DataW.laidRun P w mf (l.map (·.1))).map (fun x=>ndB x.2 0&&laidRowsB P w x.2)=some true):laidMet P l w:=by
 cases hx:DataW.laidRun P w mf (l.map (·.1))with
 | none=>simp [hx]at h
 | some x =>
  obtain⟨l',ps⟩:=x;simp only[hx,eR,Option.some.injEq]at h hr;subst h;simp only[ba]at hr;exact laidMet_of_run mf hx (bJ (zGV _ _ hr.1).1) hr.2
def zDy(os:Os)(args:Array Value):laidMet prog zIK ((zfS os).forCall (fun _ _=>0) ⟨#[],args,[]⟩).memory :=
 zvS 10 g_ g_
def zDz(os:Os)(args:Array Value):((zfS os).forCall (fun _ _=>0) ⟨#[],args,[]⟩).variablesRefB checked.prog=true:=g_
def zz7(os:Os)(args:Array Value):(((zfS os).forCall (fun _ _=>0) ⟨#[],args,[]⟩).heap.toList.drop checked.prog.globals.size).take ((begin checked.prog (fun _ _=>0) default).world.heap.size - checked.prog.globals.size)=(begin checked.prog (fun _ _=>0) default).world.heap.toList.drop checked.prog.globals.size:=g_
def zJT{W:World}(h:laidMet prog zIK W):TabW W :=
 ⟨Lib.tabIs_of_head (g:=3) (t:=269) (e:=257) (n:=20) g_ g_ g_ g_ g_ g_ (h.tail.tail),
  Lib.tabIs_of_head (g:=0) (t:=165) (e:=5) (n:=256) g_ g_ g_ g_ g_ g_ (h.tail.tail.tail.tail.tail)⟩
def zIL{W:World}(h:laidMetH prog zIK W):TabW W:=by
 rw[Go.MakeChecks.laidMetH_plain _ _ _ g_]at h;exact zJT h
end Go.Proofs.YtnldgmhdjancbaaGreatDoor

namespace Go.Proofs.YtnldgmhdjancbaaGreatDoor
open Go.ChangeShapes Go.WideShapes Go.ChangeAt Go.RowKit Go.Joins Go.Proofs.Tryz
section
variable {H:Type}{enc:TypeId×Value->H}{w:World}{base:Nat}{lv:Nat->Bool}{me:Bool}
def ztN{mf:Nat}{v:Value}{y:DataW H×List MemPlace}(h:DataW.trod enc prog w base lv me mf 37 [v]=some y)(oQ:Light 37 y.1):∃xs:List Bs,Strs w v xs/\xs.length<=140737488355328/\∀x∈xs,x.length<=140737488355328:=by
 obtain⟨xs,a,c,rfl,h1,h2,h3,h4⟩:=zgX (α:=Bs) (fun q f=>f 0=some (.string (bs q))/\q.length<=140737488355328) dw Tryz.cellsStr a_ (by
  intro n cs z hl ht hz
  match cs,hl with
  | [v0],_ =>
   obtain⟨q0,rfl,f0⟩:=zaT ht hz;exact⟨q0,rfl,f0⟩) (dG g_) h oQ
 refine⟨xs,⟨a,c,rfl,h1,fun q=>?_⟩,h2,fun q hq=>?_⟩
 .obtain⟨g,o,ha,hg,hc⟩:=h3 q;refine⟨g,o,ha,hg,fun j x hx=>?_⟩;obtain⟨f,⟨p0,_⟩,kR⟩:=hc j x hx;have:=(kR 0 a_).trans p0;simpa using this
 .obtain⟨f,_,p⟩:=h4 q hq;exact p
end
instance inhCitD:Inhabited Cit:=⟨⟨[],[],[],false⟩⟩
instance inhInlD:Inhabited Inl:=⟨.mk 0 [] [] [] [] [] [] [] [] []⟩
instance inhBloD:Inhabited Blo:=⟨.mk 0 0 [] [] [] [] [] [] [] [] []⟩
section
variable {H:Type}{enc:TypeId×Value->H}{w:World}{base:Nat}{lv:Nat->Bool}{me:Bool}
def zoU{α:Type}[Inhabited α]{t e:TypeId}{k m:Nat}{v:Value}{y:DataW H×List MemPlace}(p:α->(Nat->Option Value)->Prop)(ht:prog.underlying t=some (.slice e))(hk:prog.cellsOf e=k)(hk0:0<k)(hel:∀(cs:List Value) (z:DataW H×List MemPlace),cs.length=k->DataW.trod enc prog w base lv me m e cs=some z->Light e z.1->∃x,p x (fun j=>cs[j]?))(hby:1<=prog.bytesOf e)(h:DataW.trod enc prog w base lv me (m+1) t [v]=some y)(oQ:Light t y.1):∃(xs:List α) (a:Option Addr) (c:Nat),v=.slice a xs.length c/\xs.length<=c/\xs.length<=140737488355328/\(0<xs.length->∃g o,a=some ⟨g,o,none⟩/\g<w.heap.size/\∀j x,xs[j]? = some x->∃f:Nat->Option Value,p x f/\∀i,i<k->w.cell? ⟨g,o+j * k+i,none⟩=f i)/\∀x∈xs,∃f,p x f:=by
 rcases DataW.trod_slice ht h with⟨h0,_⟩|⟨a,len,lJ,elems,rest,n,hn,hcs,rfl,hb,hl,hm,mh,hi,_,_⟩
 .simp at h0;subst h0;exact⟨[],none,0,rfl,aw _,b_,fun q=>absurd q b_,b_⟩
 .simp at hcs;subst hcs;obtain rfl:n=m:=a_;rw[hk]at hi;have mh:len<=140737488355328:=by
   have h1:=oQ (((elems.map (·.1)).length+(rest.map (·.1)).length) * prog.bytesOf e) (by simp [DataW.weights,ht]);have h2:len * 1<=((elems.map (·.1)).length+(rest.map (·.1)).length) * prog.bytesOf e:=eC (by rw[bm];omega) hby
   omega
  have hread:∀i,i<len->∃cs' z,w.cells? base (a.add (i * k)) k=some cs'/\DataW.trod enc prog w base lv me n e cs'=some z/\Light e z.1:=by
   intro i hil;have h1:=hi i hil;rw[ac a_]at h1;obtain⟨cs',h2,h3⟩:=Option.bind_eq_some_iff.1 h1;refine⟨cs',_,h2,h3,fun n hn=>?_⟩;apply oQ;simp only[DataW.weights,ht,bj,aV];exact .inr (.inl (ze3 (bQ.2 ⟨_,dm _,rfl⟩) hn))
  have each:∀i,i<len->∃x:α,∃f:Nat->Option Value,p x f/\a=⟨a.block,a.off,none⟩/\∀j,j<k->w.cell? ⟨a.block,a.off+i * k+j,none⟩=f j:=by
   have hspot:0<len->a=⟨a.block,a.off,none⟩:=by
    intro hpos;obtain⟨cs',_,hc,_⟩:=hread 0 hpos;obtain⟨_,nf,hat⟩:=fD hc;have e:(a.add (0 * k)).add 0=a:=(by unfold Addr.add;simp);have h0:=hat 0 a_;rw[e,ac a_]at h0;exact ztK a w _ h0
   intro i hil;obtain⟨cs',z,hc,htr,hz⟩:=hread i hil;obtain⟨_,nf,hat⟩:=fD hc;obtain⟨x,hx⟩:=hel cs' z nf htr hz;have ha:=hspot a_;refine⟨x,_,hx,ha,fun j hj=>?_⟩;have h1:=hat j hj;have h2:=zhT a.block a.off (i * k) j;rw[<- ha]at h2;rw[h2]at h1;exact h1
  obtain⟨f,hf⟩:=Go.Deep.choose_lt each;refine⟨(List.range len).map f,some a,lJ,b_,by simpa using hl,by simpa using mh,fun hpos=>?_,?_⟩
  .simp at hpos;obtain⟨f0,_,ha,hc0⟩:=hf 0 hpos;refine⟨a.block,a.off,by rw[<- ha],?_,fun j x hj=>?_⟩
   .obtain⟨cs',_,hc,_⟩:=hread 0 hpos;obtain⟨_,nf,hat⟩:=fD hc;have e:(a.add (0 * k)).add 0=a:=(by unfold Addr.add;simp);have h0:=hat 0 a_;rw[e,ac a_]at h0;exact ff w (a:=a) h0
   .rw[dy,cG]at hj;obtain⟨i,hi1,rfl⟩:=hj;obtain⟨hi2,hi3⟩:=ak.1 hi1;simp at hi2 hi3;subst hi3;obtain⟨g,hg,_,kR⟩:=hf j hi2;exact⟨g,hg,kR⟩
  .intro x hx;obtain⟨i,hi1,rfl⟩:=bQ.1 hx;obtain⟨g,hg,_⟩:=hf i (by simpa using hi1);exact⟨g,hg⟩
def Tryz.cellsCited:prog.cellsOf 62=4:=g_
def Tryz.cellsInl:prog.cellsOf 65=10:=g_
def Tryz.cellsBlo:prog.cellsOf 42=11:=g_
def Tryz.cellsAtt:prog.cellsOf 39=3:=g_
def Tryz.cellsBool:prog.cellsOf 4=1:=g_
def Tryz.cellsInt:prog.cellsOf 3=1:=g_
def Tryz.cellsLS:prog.cellsOf 37=1:=g_
def Tryz.cellsLP:prog.cellsOf 22=1:=g_
def Tryz.cellsLC:prog.cellsOf 63=1:=g_
def Tryz.cellsLI:prog.cellsOf 40=1:=g_
def Tryz.cellsLB:prog.cellsOf 23=1:=g_
def Tryz.cellsDoc:prog.cellsOf 25=2:=g_
def FitC4(c:Cit):Prop:=c.key.length<=140737488355328/\c.pre.length<=140737488355328/\c.suf.length<=140737488355328
def zDA{mf:Nat}{v:Value}{y:DataW H×List MemPlace}(h:DataW.trod enc prog w base lv me mf 63 [v]=some y)(oQ:Light 63 y.1):∃xs:List Cit,Cits (fun g=>g<w.heap.size) w v xs/\xs.length<=140737488355328/\∀x∈xs,FitC4 x:=by
 obtain⟨xs,a,c,rfl,h1,h2,h3,h4⟩:=zgX (α:=Cit) (fun q f=>(f 0=some (.string (bs q.key))/\f 1=some (.string (bs q.pre))/\f 2=some (.string (bs q.suf))/\f 3=some (.bool q.bare))/\FitC4 q) underlying63 Tryz.cellsCited a_ (by
  intro n cs z hl ht hz;obtain⟨y0,y1,y2,y3,n',hx,_,h0,h1,h2,h3⟩:=trod_struct4 hZ ht
  match cs,hl with
  | [v0,v1,v2,v3],_ =>
   simp only[Tryz.cellsStr,Tryz.cellsBool,dC,fi,da,cH]at h0 h1 h2 h3;obtain⟨q0,rfl,f0⟩:=zaT h0 (bV hZ (by subst hx;exact hz) (j:=0) rfl rfl);obtain⟨q1,rfl,f1⟩:=zaT h1 (bV hZ (by subst hx;exact hz) (j:=1) rfl rfl);obtain⟨q2,rfl,f2⟩:=zaT h2 (bV hZ (by subst hx;exact hz) (j:=2) rfl rfl);obtain⟨b,hb,-⟩:=DataW.trod_bool iH h3;obtain rfl:v3=.bool b:=(by simpa using hb);exact⟨⟨q0,q1,q2,b⟩,⟨rfl,rfl,rfl,rfl⟩,f0,f1,f2⟩) (dG g_) h oQ
 refine⟨xs,⟨a,c,rfl,h1,fun q=>?_⟩,h2,fun q hq=>?_⟩
 .obtain⟨g,o,ha,hg,hc⟩:=h3 q;refine⟨g,o,ha,hg,hg,fun j x hx=>?_⟩;obtain⟨f,⟨⟨p0,p1,p2,p3⟩,_⟩,kR⟩:=hc j x hx;refine⟨[.string (bs x.key),.string (bs x.pre),.string (bs x.suf),.bool x.bare],rfl,fun i u hu=>?_,rfl⟩;have hi:i<4:=(by have:=(ak.1 hu).1;simpa using this);rw[kR i hi]
  match i,hi with
  | 0,_=>rw[p0];exact hu
  | 1,_=>rw[p1];exact hu
  | 2,_=>rw[p2];exact hu
  | 3,_=>rw[p3];exact hu
 .obtain⟨f,_,p⟩:=h4 q hq;exact p
def ztO{t:TypeId}{f0 f1 f2 f3 f4 f5 f6 f7:Field}{mf:Nat}{cs:List Value}{x:DataW H×List MemPlace}(ht:prog.underlying t=some (.struct #[f0,f1,f2,f3,f4,f5,f6,f7]))(h:DataW.trod enc prog w base lv me mf t cs=some x):∃y0 y1 y2 y3 y4 y5 y6 y7 n,mf=n+1/\x.1=.agg [y0.1,y1.1,y2.1,y3.1,y4.1,y5.1,y6.1,y7.1]/\DataW.trod enc prog w base lv me n f0.type ((cs.drop f0.offset).take (prog.cellsOf f0.type))=some y0/\DataW.trod enc prog w base lv me n f1.type ((cs.drop f1.offset).take (prog.cellsOf f1.type))=some y1/\DataW.trod enc prog w base lv me n f2.type ((cs.drop f2.offset).take (prog.cellsOf f2.type))=some y2/\DataW.trod enc prog w base lv me n f3.type ((cs.drop f3.offset).take (prog.cellsOf f3.type))=some y3/\DataW.trod enc prog w base lv me n f4.type ((cs.drop f4.offset).take (prog.cellsOf f4.type))=some y4/\DataW.trod enc prog w base lv me n f5.type ((cs.drop f5.offset).take (prog.cellsOf f5.type))=some y5/\DataW.trod enc prog w base lv me n f6.type ((cs.drop f6.offset).take (prog.cellsOf f6.type))=some y6/\DataW.trod enc prog w base lv me n f7.type ((cs.drop f7.offset).take (prog.cellsOf f7.type))=some y7:=by
 obtain⟨xs,n,hn,rfl,hl,mh,hf⟩:=iq ht h
 match xs,mh with
 | [y0,y1,y2,y3,y4,y5,y6,y7],_=>exact⟨y0,y1,y2,y3,y4,y5,y6,y7,n,hn,b_,by simpa using hf 0 f0 rfl,by simpa using hf 1 f1 rfl,by simpa using hf 2 f2 rfl,by simpa using hf 3 f3 rfl,by simpa using hf 4 f4 rfl,by simpa using hf 5 f5 rfl,by simpa using hf 6 f6 rfl,by simpa using hf 7 f7 rfl⟩
def ztP{t:TypeId}{f0 f1 f2 f3 f4 f5 f6 f7 f8:Field}{mf:Nat}{cs:List Value}{x:DataW H×List MemPlace}(ht:prog.underlying t=some (.struct #[f0,f1,f2,f3,f4,f5,f6,f7,f8]))(h:DataW.trod enc prog w base lv me mf t cs=some x):∃y0 y1 y2 y3 y4 y5 y6 y7 y8 n,mf=n+1/\x.1=.agg [y0.1,y1.1,y2.1,y3.1,y4.1,y5.1,y6.1,y7.1,y8.1]/\DataW.trod enc prog w base lv me n f0.type ((cs.drop f0.offset).take (prog.cellsOf f0.type))=some y0/\DataW.trod enc prog w base lv me n f1.type ((cs.drop f1.offset).take (prog.cellsOf f1.type))=some y1/\DataW.trod enc prog w base lv me n f2.type ((cs.drop f2.offset).take (prog.cellsOf f2.type))=some y2/\DataW.trod enc prog w base lv me n f3.type ((cs.drop f3.offset).take (prog.cellsOf f3.type))=some y3/\DataW.trod enc prog w base lv me n f4.type ((cs.drop f4.offset).take (prog.cellsOf f4.type))=some y4/\DataW.trod enc prog w base lv me n f5.type ((cs.drop f5.offset).take (prog.cellsOf f5.type))=some y5/\DataW.trod enc prog w base lv me n f6.type ((cs.drop f6.offset).take (prog.cellsOf f6.type))=some y6/\DataW.trod enc prog w base lv me n f7.type ((cs.drop f7.offset).take (prog.cellsOf f7.type))=some y7/\DataW.trod enc prog w base lv me n f8.type ((cs.drop f8.offset).take (prog.cellsOf f8.type))=some y8:=by
 obtain⟨xs,n,hn,rfl,hl,mh,hf⟩:=iq ht h
 match xs,mh with
 | [y0,y1,y2,y3,y4,y5,y6,y7,y8],_=>exact⟨y0,y1,y2,y3,y4,y5,y6,y7,y8,n,hn,b_,by simpa using hf 0 f0 rfl,by simpa using hf 1 f1 rfl,by simpa using hf 2 f2 rfl,by simpa using hf 3 f3 rfl,by simpa using hf 4 f4 rfl,by simpa using hf 5 f5 rfl,by simpa using hf 6 f6 rfl,by simpa using hf 7 f7 rfl,by simpa using hf 8 f8 rfl⟩
def zxJ{mf:Nat}{cs:List Value}{y:DataW H×List MemPlace}(hl:cs.length=3)(h:DataW.trod enc prog w base lv me mf 39 cs=some y)(oQ:Light 39 y.1):∃(id:Bs) (cls:List Bs) (prs:List Pr) (vC vP:Value),cs=[.string (bs id),vC,vP]/\Strs w vC cls/\Prs w vP prs/\FitA id cls prs:=by
 obtain⟨y0,y1,y2,n',hx,_,h0,h1,h2⟩:=Go.Deep.trod_struct3 di h
 match cs,hl with
 | [v0,v1,v2],_ =>
  simp only[Tryz.cellsStr,Tryz.cellsLS,Tryz.cellsLP,dC,fi,da,cH]at h0 h1 h2;obtain⟨q0,rfl,f0⟩:=zaT h0 (bV di (by subst hx;exact oQ) (j:=0) rfl rfl);obtain⟨q1,p1,l1,f1⟩:=ztN h1 (bV di (by subst hx;exact oQ) (j:=1) rfl rfl);obtain⟨q2,p2,l2,f2⟩:=zhG h2 (bV di (by subst hx;exact oQ) (j:=2) rfl rfl);exact⟨q0,q1,q2,v1,v2,rfl,p1,p2,f0,l1,l2,f1,f2⟩
def zDB:∀(mf:Nat) (v:Value) (y:DataW H×List MemPlace),DataW.trod enc prog w base lv me mf 40 [v]=some y->Light 40 y.1->∃xs:List Inl,Lns (fun g=>g<w.heap.size) mf w v xs/\xs.length<=140737488355328/\∀x∈zaD xs,FitX x:=by
 intro mf
 induction mf using Nat.strongRecOn with
 | _ mf ih =>
  intro v y h oQ;cases mf with
  | zero=>simp [DataW.trod]at h
  | succ m =>
   obtain⟨xs,a,c,rfl,h1,h2,h3,h4⟩:=zoU (α:=Inl) (fun x f=>(∃vC vP vA vT vK,(∀i,i<10->f i=(zn8 x vC vP vA vT vK)[i]?)/\Strs w vC x.cls/\Prs w vP x.prs/\Strs w vA x.args/\Cits (fun g=>g<w.heap.size) w vT x.cits/\Lns (fun g=>g<w.heap.size) m w vK x.kids)/\FitX x/\∀y∈zaD x.kids,FitX y) dM Tryz.cellsInl a_ (by
    intro cs z hl ht hz;obtain⟨y0,y1,y2,y3,y4,y5,y6,y7,n',hn,hx,h0,h1,h2,h3,h4,h5,h6,h7⟩:=ztO dP ht
    match cs,hl with
    | [v0,v1,v2,v3,v4,v5,v6,v7,v8,v9],_ =>
     simp only[Tryz.cellsStr,Tryz.cellsInt,Tryz.cellsAtt,Tryz.cellsLS,Tryz.cellsLC,Tryz.cellsLI,dC,fi,da,cH]at h0 h1 h2 h3 h4 h5 h6 h7;rw[hx]at hz;obtain⟨k,hk,-,-⟩:=js bW h0;obtain rfl:v0=.int .i64 k:=(by simpa using hk);obtain⟨q1,rfl,f1⟩:=zaT h1 (bV dP hz (j:=1) rfl rfl);obtain⟨q2,rfl,f2⟩:=zaT h2 (bV dP hz (j:=2) rfl rfl);obtain⟨q3,rfl,f3⟩:=zaT h3 (bV dP hz (j:=3) rfl rfl);obtain⟨id,cls,prs,vC,vP,he,p1,p2,f4⟩:=zxJ rfl h4 (bV dP hz (j:=4) rfl rfl);simp only[ky,and_true]at he;obtain⟨rfl,rfl,rfl⟩:=he;obtain⟨ag,p3,l5,f5⟩:=ztN h5 (bV dP hz (j:=5) rfl rfl);obtain⟨ct,p4,l6,f6⟩:=zDA h6 (bV dP hz (j:=6) rfl rfl);obtain⟨kd,p5,l7,f7⟩:=ih n' a_ _ _ h7 (bV dP hz (j:=7) rfl rfl);refine⟨.mk k q1 q2 q3 id cls prs ag ct kd,⟨v5,v6,v7,v8,v9,fun i _=>rfl,p1,p2,p3,p4,p5.ups a_⟩,?_,f7⟩;exact⟨⟨f1,f2,f3⟩,f4,⟨l5,l6,l7⟩,f5,f6⟩) (dG g_) h oQ
   refine⟨xs,⟨a,c,rfl,h1,fun q=>?_⟩,h2,?_⟩
   .obtain⟨g,o,ha,hg,hc⟩:=h3 q;refine⟨g,o,ha,hg,hg,fun j x hx=>?_⟩;obtain⟨f,⟨⟨vC,vP,vA,vT,vK,p0,p1,p2,p3,p4,p5⟩,_⟩,kR⟩:=hc j x hx;refine⟨zn8 x vC vP vA vT vK,rfl,fun i u hu=>?_,vC,vP,vA,vT,vK,rfl,⟨p1,p1.ltB⟩,⟨p2,p2.ltB⟩,⟨p3,p3.ltB⟩,p4,p5⟩;have hi:i<10:=(by have:=(ak.1 hu).1;simpa [zn8]using this);rw[kR i hi,p0 i hi];exact hu
   .have h5:∀x∈xs,∀y∈zeH x,FitX y:=fun x hx y hy=>by
     obtain⟨f,_,p,q⟩:=h4 x hx;rw[zcY]at hy;rcases bj.1 hy with rfl|hy
     .exact p
     .exact q y hy
    clear h1 h2 h3 h4 h oQ;intro y hy
    induction xs with
    | nil=>exact(bO hy).elim
    | cons x xs ih2 =>
     rcases aV.1 (show y∈zeH x++zaD xs from hy)with q|q
     .exact h5 x (bI ..) y q
     .exact ih2 (fun z hz=>h5 z (bl _ hz)) q
def zDC:∀(mf:Nat) (v:Value) (y:DataW H×List MemPlace),DataW.trod enc prog w base lv me mf 23 [v]=some y->Light 23 y.1->∃xs:List Blo,∀N,mf<=N->Bls (fun g=>g<w.heap.size) N mf w v xs/\xs.length<=140737488355328/\∀x∈zaQ xs,FitK x:=by
 intro mf
 induction mf using Nat.strongRecOn with
 | _ mf ih =>
  intro v y h oQ;cases mf with
  | zero=>simp [DataW.trod]at h
  | succ m =>
   obtain⟨xs,a,c,rfl,h1,h2,h3,h4⟩:=zoU (α:=Blo) (fun x f=>(∃vC vP vL vK,(∀i,i<11->f i=(zqQ x vC vP vL vK)[i]?)/\Strs w vC x.cls/\Prs w vP x.prs/\Lns (fun g=>g<w.heap.size) (m+1) w vL x.line/\∀N,m+1<=N->Bls (fun g=>g<w.heap.size) N m w vK x.kids)/\FitK x/\∀y∈zaQ x.kids,FitK y) eW Tryz.cellsBlo a_ (by
    intro cs z hl ht hz;obtain⟨y0,y1,y2,y3,y4,y5,y6,y7,y8,n',hn,hx,h0,h1,h2,h3,h4,h5,h6,h7,h8⟩:=ztP eb ht
    match cs,hl with
    | [v0,v1,v2,v3,v4,v5,v6,v7,v8,v9,v10],_ =>
     simp only[Tryz.cellsStr,Tryz.cellsInt,Tryz.cellsAtt,Tryz.cellsLI,Tryz.cellsLB,dC,fi,da,cH]at h0 h1 h2 h3 h4 h5 h6 h7 h8;rw[hx]at hz;obtain⟨k,hk,-,-⟩:=js bW h0;obtain rfl:v0=.int .i64 k:=(by simpa using hk);obtain⟨k1,ld,-,-⟩:=js bW h1;obtain rfl:v1=.int .i64 k1:=(by simpa using ld);obtain⟨q1,rfl,f1⟩:=zaT h2 (bV eb hz (j:=2) rfl rfl);obtain⟨q2,rfl,f2⟩:=zaT h3 (bV eb hz (j:=3) rfl rfl);obtain⟨q3,rfl,f3⟩:=zaT h4 (bV eb hz (j:=4) rfl rfl);obtain⟨q4,rfl,f4⟩:=zaT h5 (bV eb hz (j:=5) rfl rfl);obtain⟨id,cls,prs,vC,vP,he,p1,p2,f5⟩:=zxJ rfl h6 (bV eb hz (j:=6) rfl rfl);simp only[ky,and_true]at he;obtain⟨rfl,rfl,rfl⟩:=he;obtain⟨ln,p3,l6,f6⟩:=zDB _ _ _ h7 (bV eb hz (j:=7) rfl rfl);obtain⟨kd,p4⟩:=ih n' a_ _ _ h8 (bV eb hz (j:=8) rfl rfl);obtain⟨-,l7,f7⟩:=p4 n' (aw _);refine⟨.mk k k1 q1 q2 q3 q4 id cls prs ln kd,⟨v7,v8,v9,v10,fun i _=>rfl,p1,p2,p3.ups a_,fun N hN=>(p4 N a_).1.ups a_⟩,?_,f7⟩;exact⟨⟨f1,f2,f3,f4⟩,f5,l6,l7,f6⟩) (dG g_) h oQ
   refine⟨xs,fun N hN=>⟨⟨a,c,rfl,h1,fun q=>?_⟩,h2,?_⟩⟩
   .obtain⟨g,o,ha,hg,hc⟩:=h3 q;refine⟨g,o,ha,hg,hg,fun j x hx=>?_⟩;obtain⟨f,⟨⟨vC,vP,vL,vK,p0,p1,p2,p3,p4⟩,_⟩,kR⟩:=hc j x hx;refine⟨zqQ x vC vP vL vK,rfl,fun i u hu=>?_,vC,vP,vL,vK,rfl,⟨p1,p1.ltB⟩,⟨p2,p2.ltB⟩,p3.ups hN,p4 N hN⟩;have hi:i<11:=(by have:=(ak.1 hu).1;simpa [zqQ]using this);rw[kR i hi,p0 i hi];exact hu
   .have h5:∀x∈xs,∀y∈zdO x,FitK y:=fun x hx y hy=>by
     obtain⟨f,_,p,q⟩:=h4 x hx;rw[zb2]at hy;rcases bj.1 hy with rfl|hy
     .exact p
     .exact q y hy
    clear h1 h2 h3 h4 h oQ;intro y hy
    induction xs with
    | nil=>exact(bO hy).elim
    | cons x xs ih2 =>
     rcases aV.1 (show y∈zdO x++zaQ xs from hy)with q|q
     .exact h5 x (bI ..) y q
     .exact ih2 (fun z hz=>h5 z (bl _ hz)) q
def zGb{r:Reach}{b0:Nat}{v:Value}{d:DataW H}{p:List MemPlace}(hv:Value.okWide prog w r b0 25 v)(h:DataW.Trod enc prog w base lv me 25 v d p)(oQ:Light 25 d):∃(ms:List Pr) (xs:List Blo) (vM vB:Value) (N n:Nat),v=.agg #[vM,vB]/\2<=N/\Prs w vM ms/\Bls (fun g=>g<w.heap.size) N n w vB xs/\FitD0 ms xs:=by
 obtain⟨v0,v1,y0,y1,n,rfl,rfl,_,h0,h1⟩:=open_agg2 jT g_ Tryz.cellsDoc hv h;obtain⟨ms,hM,lM,fM⟩:=zhG h0 (bV jT oQ (j:=0) rfl rfl);obtain⟨xs,hx⟩:=zDC n _ _ h1 (bV jT oQ (j:=1) rfl rfl);obtain⟨hB,lB,fB⟩:=hx (n+2) a_;exact⟨ms,xs,v0,v1,n+2,n,rfl,a_,hM,hB,⟨lM,fM⟩,lB,fB⟩
end
end Go.Proofs.YtnldgmhdjancbaaGreatDoor
