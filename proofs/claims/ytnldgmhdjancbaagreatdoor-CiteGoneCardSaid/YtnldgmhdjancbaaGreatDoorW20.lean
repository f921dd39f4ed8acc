/- Parts. -/
import Derived.Test.YtnldgmhdjancbaaGreatDoorW19
set_option linter.all false
set_option maxRecDepth 100000
set_option maxHeartbeats 51200000
namespace Go.Proofs.YtnldgmhdjancbaaGreatDoor
open Go.RowKit Go.Proofs.Tryz
def zCA(o:Inl->Int->Bool->Bool->Int)(f:List Inl->Int)(d len:Nat):List Inl->Nat->Int->Int
 | [],_,_=>0
 | x::r,i,b=>if 15<d then 11 else if o x b (decide (d=0)&&decide (i=0)) (decide (d=0)&&decide (i+1=len))≠0 then o x b (decide (d=0)&&decide (i=0)) (decide (d=0)&&decide (i+1=len))else if f x.kids≠0 then f x.kids else zCA o f d len r (i+1) x.kind
def zk3(o:Inl->Int->Bool->Bool->Int):Nat->Nat->List Inl->Int
 | 0,_,_=>0
 | n+1,d,xs=>zCA o (zk3 o n (d+1)) d xs.length xs 0 0
def zH6{o:Inl->Int->Bool->Bool->Int}{f:List Inl->Int}{d len:Nat}{xs:List Inl}{k:Nat}{x:Inl}{b:Int}(h:xs[k]? = some x)(hd:¬ 15<d):zCA o f d len (xs.drop k) k b=if o x b (decide (d=0)&&decide (k=0)) (decide (d=0)&&decide (k+1=len))≠0 then o x b (decide (d=0)&&decide (k=0)) (decide (d=0)&&decide (k+1=len))else if f x.kids≠0 then f x.kids else zCA o f d len (xs.drop (k+1)) (k+1) x.kind:=by
 obtain⟨hk,rfl⟩:=ak.1 h;rw[aJ hk,zCA,aa hd]
def OneC(S:Nat->Prop)(o:Inl->Int->Bool->Bool->Int):Prop:=∀(n:Nat) (x:Inl) (zaM:Int) (first last:Bool) (vC vP vA vT vK:Value) (w:World),ParX S n w vC vP vA vT vK x->OkX x->(zaD x.kids).length<=1000000 ->
  Calls prog 196 #[.agg (zn8 x vC vP vA vT vK).toArray,.int .i64 zaM,.bool first,.bool last] w fun e w'=>e=.returned (.int .i64 (o x zaM first last))/\Kept w w'
def zCB(S:Nat->Prop)(o:Inl->Int->Bool->Bool->Int)(ho:OneC S o):∀(n:Nat) (xs:List Inl) (v:Value) (d:Nat) (w:World),Lns S n w v xs->d<=16->(zaD xs).length<=1000000->(∀x∈zaD xs,OkX x)->Calls prog 176 #[v,.int .i64 d] w fun e w'=>e=.returned (.int .i64 (zk3 o n d xs))/\Kept w w':=by
 intro n
 induction n with
 | zero =>
  intro xs v d w hv hd nX hf;obtain rfl:=hv.no;obtain⟨a,c,rfl,hc⟩:=hv.form;have HR:Hi (zk3 o 0 d []=0):=rfl;go_in;go_wp2_with fail;go_loopw [5,6] (fun b i wr=>b=.int .i64 0/\i=.int .i64 0/\w=wr) (fun _ i _=>1)
  .exact⟨rfl,rfl,rfl⟩
  case round =>
   obtain⟨rfl,rfl,rfl⟩:=hrel;go_wp2
   (try go_ret)
   exact⟨by rw[HR.o];rfl,af _⟩
 | succ n ih =>
  intro xs v d w hv hd nX hf;have HV:=Hd hv;have nD:=Hd ih;have HF:=Hd hf;have hxl:xs.length<=1000000:=bC (zlQ xs) nX;have HDK:Hi (∀x∈xs,(zaD x.kids).length<=1000000):=fun x hx=>(by have:=zjA hx;omega);obtain⟨a,c,rfl,hc⟩:=hv.form;obtain⟨R,HR⟩:=gX (zk3 o (n+1) d xs);rw[HR.o];have oI:Hi (zCA o (zk3 o n (d+1)) d xs.length (xs.drop 0) 0 0=R):=HR.o;obtain⟨f,uf⟩:=gX (zk3 o n (d+1));rw[uf.o]at oI;have HO:=Hd ho;clear hv ih hf nX HR ho;go_in;go_wp2_with fail;go_loopw [5,6] (fun bv i wr=>∃(k:Nat) (b:Int),k<=xs.length/\i=.int .i64 k/\bv=.int .i64 b/\Hi (zCA o f d xs.length (xs.drop k) k b=R)/\Hi (Kept w wr)) (fun _ i _=>xs.length - (intOf i).toNat)
  .exact⟨0,0,ai _,rfl,rfl,oI.o,af _⟩
  case round =>
   clear oI;obtain⟨k,b,hk,rfl,rfl,HS,kO⟩:=hrel;by_cases kV:k<xs.length
   .obtain⟨x,hx⟩:∃x,xs[k]? = some x:=⟨_,ac kV⟩;by_cases wv:15<d
    .have kS:Hi (R=11):=by
      obtain⟨hk',rfl⟩:=ak.1 hx;show _=_;rw[<- HS.o,aJ hk',zCA,ae wv]
     go_wp2
     (try go_ret)
     exact⟨by rw[kS.o];rfl,kO.o⟩
    have lG:=Hd (zH6 (o:=o) (f:=f) (len:=xs.length) (b:=b) hx wv);rw[HS.o]at lG;have hmx:=zi9 (am hx);have ua:=Hd (HF.o x hmx.1);have qa:Hi (∀y∈zaD x.kids,OkX y):=fun y hy=>HF.o y (hmx.2 y hy);have hdk:=HDK.o x (am hx);obtain⟨g,Aa,vC,vP,vA,vT,vK,rfl,hg,qC,-,-,⟨d0,d1,d2,d3,d4,d5,d6,d7,d8,d9⟩,-,⟨hC,-⟩,⟨hP,-⟩,⟨hA,-⟩,hT,hK⟩:=fX (HV.o.kept kO.o) k x hx;have sc:Hi (ParX S n wr vC vP vA vT vK x):=⟨hC,hP,hA,hT,hK⟩;obtain⟨fb,tc⟩:∃z,Hi ((decide (d=0)&&decide (k=0))=z):=⟨_,rfl⟩;obtain⟨lb,wD⟩:∃z,Hi ((decide (d=0)&&decide (k+1=xs.length))=z):=⟨_,rfl⟩;rw[tc.o,wD.o]at lG;have nP:=Hd (HO.o n x b fb lb vC vP vA vT vK wr sc.o ua.o hdk);have pQ:Hi (∀w',Kept wr w'->Calls prog 176 #[vK,.int .i64 ((d:Int)+1)] w' fun e w''=>e=.returned (.int .i64 (f x.kids))/\Kept w' w''):=fun w' kk=>by
     have h:=nD.o x.kids vK (d+1) w' (hK.kept kk) a_ hdk qa.o;rw[uf.o,show(((d+1:Nat)):Int)=(d:Int)+1 by omega]at h;exact h
    have nH:=Hd (fun w' (kk:Kept wr w')=>And.intro ((kk.cell (p:=⟨g,Aa+k * 10,none⟩) hg).trans d0) (And.intro ((kk.cell (p:=⟨g,Aa+k * 10+9,none⟩) hg).trans d9) (aU hg kk.size)));obtain⟨E,uH⟩:=gX (o x b fb lb);obtain⟨KE,Ab⟩:∃E,Hi (f x.kids=E):=⟨_,rfl⟩;rw[uH.o]at lG nP;rw[Ab.o]at lG pQ;unfold zn8 at nP;clear hx hmx hC hP hA hT hK sc ua qa hdk qC HS;obtain⟨kL,kN,kP,title,id,cls,prs,args,kQ,kM⟩:=x;simp only[Inl.kind,Inl.text,Inl.dest,Inl.title,Inl.id]at d0 d1 d2 d3 d4 nP lG nH;have hdi:(d:Int)<=15:=a_;rcases(show d≠0\/(d=0/\k=0/\k+1=xs.length)\/(d=0/\k=0/\k+1≠xs.length)\/(d=0/\k≠0/\k+1=xs.length)\/(d=0/\k≠0/\k+1≠xs.length)by omega)with h1|⟨h1,h2,h3⟩|⟨h1,h2,h3⟩|⟨h1,h2,h3⟩|⟨h1,h2,h3⟩
    case' inl =>
     have b1:((d:Int)==0)=false:=(by rw[ab];omega);obtain rfl:fb=false:=(by rw[<- tc.o,bH h1];rfl);obtain rfl:lb=false:=by rw[<- wD.o,bH h1];rfl
    case' inr.inl =>
     have b1:((d:Int)==0)=true:=(by rw[bh];omega);have b2:((k:Int)==0)=true:=(by rw[bh];omega);have b3:((k:Int)==(xs.length:Int) - 1)=true:=(by rw[bh];omega);obtain rfl:fb=true:=(by rw[<- tc.o,bJ h1,bJ h2];rfl);obtain rfl:lb=true:=by rw[<- wD.o,bJ h1,bJ h3];rfl
    case' inr.inr.inl =>
     have b1:((d:Int)==0)=true:=(by rw[bh];omega);have b2:((k:Int)==0)=true:=(by rw[bh];omega);have b3:((k:Int)==(xs.length:Int) - 1)=false:=(by rw[ab];omega);obtain rfl:fb=true:=(by rw[<- tc.o,bJ h1,bJ h2];rfl);obtain rfl:lb=false:=by rw[<- wD.o,bJ h1,bH h3];rfl
    case' inr.inr.inr.inl =>
     have b1:((d:Int)==0)=true:=(by rw[bh];omega);have b2:((k:Int)==0)=false:=(by rw[ab];omega);have b3:((k:Int)==(xs.length:Int) - 1)=true:=(by rw[bh];omega);obtain rfl:fb=false:=(by rw[<- tc.o,bH h2,gm]);obtain rfl:lb=true:=by rw[<- wD.o,bJ h1,bJ h3];rfl
    case' inr.inr.inr.inr =>
     have b1:((d:Int)==0)=true:=(by rw[bh];omega);have b2:((k:Int)==0)=false:=(by rw[ab];omega);have b3:((k:Int)==(xs.length:Int) - 1)=false:=(by rw[ab];omega);obtain rfl:fb=false:=(by rw[<- tc.o,bH h2,gm]);obtain rfl:lb=false:=by rw[<- wD.o,bH h3,gm]
    all_goals
     clear h1 tc wD
     (try clear h2 h3)
     go_wp2_with fail;refine k_ nP.o fun w1 ld=>?_;have kT:=Hd ld;clear ld d0 d1 d2 d3 d4 d5 d6 d7 d8 d9 hg;obtain⟨d0,d9,hg⟩:=nH.o w1 kT.o;by_cases he:E=0
     case neg =>
      have hz:(E==0)=false:=(by rw[ab];exact he);have hzn:(E != 0)=true:=(by rw[dd];exact he);have kS:Hi (R=E):=(by show _=_;rw[lG.o,ae he]);go_wp2
      (try go_ret)
      exact⟨by rw[kS.o];rfl,kO.o.trans kT.o⟩
     rw[he];rw[aa (fun q=>q he)]at lG;go_wp2_with fail;refine k_ (pQ.o w1 kT.o) fun w2 ll=>?_;have kX:=Hd (kT.o.trans ll);clear ll d0 d9 hg;obtain⟨d0,d9,hg⟩:=nH.o w2 kX.o;by_cases hq:KE=0
     case neg =>
      have hz:(KE==0)=false:=(by rw[ab];exact hq);have hzn:(KE != 0)=true:=(by rw[dd];exact hq);have kS:Hi (R=KE):=(by show _=_;rw[lG.o,ae hq]);go_wp2
      (try go_ret)
      exact⟨by rw[kS.o];rfl,kO.o.trans kX.o⟩
     rw[hq];rw[aa (fun q=>q hq)]at lG;have mb:Hi (zCA o f d xs.length (xs.drop (k+1)) (k+1) kL=R):=lG.o.symm;go_wp2;go_roundw
     .exact⟨k+1,kL,a_,by go_num,rfl,mb.o,kO.o.trans kX.o⟩
     .simp [intOf];omega
   .obtain rfl:k=xs.length:=a_;have kS:Hi (R=0):=(by show _=_;rw[<- HS.o,du];rfl);go_wp2
    (try go_ret)
    exact⟨by rw[kS.o];rfl,kO.o⟩
def zzG(S:Nat->Prop)(o:Inl->Int->Bool->Bool->Int)(ho:OneC S o)(n:Nat)(xs:List Inl)(v:Value)(w:World)(hv:Lns S n w v xs)(nX:(zaD xs).length<=1000000)(hf:∀x∈zaD xs,OkX x):Calls prog 138 #[v] w fun e w'=>e=.returned (.int .i64 (zk3 o n 0 xs))/\Kept w w':=by
 have HL:Hi (Calls prog 176 #[v,.int .i64 0] w fun e w'=>e=.returned (.int .i64 (zk3 o n 0 xs))/\Kept w w'):=zCB S o ho n xs v 0 w hv a_ nX hf;generalize zk3 o n 0 xs=R at *;obtain⟨a,c,rfl,hc⟩:=hv.form;clear hv hf;go_in;go_wp2_with fail;refine k_ HL.o fun w1 ld=>?_;have kT:=Hd ld;clear ld HL;go_wp2
 (try go_ret)
 exact⟨rfl,kT.o⟩
def zd6(k i:Int):Bool:=if i=7\/i=8 then k==9 else if i=10 then k==11 else if i=11 then k==12 else(k != 9&&k != 11&&k != 12)
def zu2(k i:Int)(w:World):Calls prog 69 #[.int .i64 k,.int .i64 i] w fun e w'=>e=.returned (.bool (zd6 k i))/\w=w':=by
 obtain⟨R,HR⟩:=gX (zd6 k i);rw[HR.o];unfold zd6 at HR;rcases(show i=7\/i=8\/i=10\/i=11\/(i≠7/\i≠8/\i≠10/\i≠11)by omega)with rfl|rfl|rfl|rfl|⟨h1,h2,h3,h4⟩
 case' inr.inr.inr.inr =>
  have b7:(i==7)=false:=(by simpa using h1);have b8:(i==8)=false:=(by simpa using h2);have b10:(i==10)=false:=(by simpa using h3);have b11:(i==11)=false:=(by simpa using h4);rw[aa a_,aa h3,aa h4]at HR;rcases(show k=9\/(k≠9/\k=11)\/(k≠9/\k≠11)by omega)with rfl|⟨g1,rfl⟩|⟨g1,g2⟩
  case' inr.inr =>
   have d9:(k==9)=false:=(by simpa using g1);have QN:(k==11)=false:=(by simpa using g2);have e9:(k != 9)=true:=(by simpa using g1);have e11:(k != 11)=true:=(by simpa using g2);rw[e9,e11]at HR
 all_goals
  go_in;go_wp2
  (try go_ret)
  exact⟨by rw[<- HR.o];rfl,rfl⟩
def zm5(s:Bs):Bool:=s.isEmpty || (za9 (bs s)&&at8 s (s.length - 1)==10)
def zzH(s:Bs)(w:World)(hs:s.length<=1100000):Calls prog 104 #[.string (bs s)] w fun e w'=>e=.returned (.bool (zm5 s))/\Kept w w':=by
 have HV:=Hd (zjO (bs s) w e_);obtain⟨R,HR⟩:=gX (zm5 s);rw[HR.o];unfold zm5 at HR;by_cases h0:s=[]
 .have b0:(s==[])=true:=(by rw[bh];exact h0);have kS:Hi (R=true):=(by show _=_;rw[<- HR.o,h0];rfl);go_in;go_wp2
  (try go_ret)
  exact⟨by rw[kS.o];rfl,af _⟩
 have b0:(s==[])=false:=(by rw[ab];exact h0);have mh:0<s.length:=eI.2 h0;rw[cJ.2 h0,eM]at HR;have i1:=zbL (P:=prog) (t:=9) aq s (s.length - 1) a_ ((s.length:Int) - 1) a_;generalize at8 s (s.length - 1)=d at *;go_in;go_wp2_with fail;refine k_ HV.o fun w1 ld=>?_;have kT:=Hd ld;clear ld HV;cases hv:za9 (bs s)with
 | false =>
  have kS:Hi (R=false):=(by show _=_;rw[<- HR.o,hv];rfl);go_wp2
  (try go_ret)
  exact⟨by rw[kS.o];rfl,kT.o⟩
 | true =>
  rw[hv,eL]at HR;go_wp2
  (try go_ret)
  exact⟨by rw[<- HR.o];rfl,kT.o⟩
def zu3(S:Nat->Prop):∀(n:Nat) (xs:List Inl) (v:Value) (w:World),Lns S n w v xs->(zaD xs).length<=1000000->Calls prog 64 #[v] w fun e w'=>e=.returned (.int .i64 ((zaD xs).length:Nat))/\Kept w w':=by
 intro n
 induction n with
 | zero =>
  intro xs v w hv nX;obtain rfl:=hv.no;obtain⟨a,c,rfl,hc⟩:=hv.form;have HR:Hi ((zaD []).length=0):=rfl;rw[HR.o];go_in;go_wp2_with fail;go_loopw [3,4] (fun b i wr=>b=.int .i64 0/\i=.int .i64 0/\w=wr) (fun _ i _=>1)
  .exact⟨rfl,rfl,rfl⟩
  case round =>
   obtain⟨rfl,rfl,rfl⟩:=hrel;go_wp2
   (try go_ret)
   exact⟨rfl,af _⟩
 | succ n ih =>
  intro xs v w hv nX;have HV:=Hd hv;have nD:=Hd ih;have hxl:xs.length<=1000000:=bC (zlQ xs) nX;have HDK:Hi (∀x∈xs,(zaD x.kids).length<=1000000):=fun x hx=>(by have:=zjA hx;omega);obtain⟨a,c,rfl,hc⟩:=hv.form;obtain⟨R,HR⟩:=gX ((zaD xs).length);have HT0:Hi (∀(k:Nat) (x:Inl),xs[k]? = some x->(zaD (xs.take (k+1))).length=(zaD (xs.take k)).length+1+(zaD x.kids).length):=fun k x hx=>(by rw[zp5 hx];simp;omega);have rr:Hi (∀k,(zaD (xs.take k)).length<=R/\xs.length<=R):=fun k=>by
   rw[<- HR.o];refine⟨?_,zlQ xs⟩
   conv=>rhs;rw[<- ce k xs]
   rw[zfM,ah];omega
  rw[HR.o]at nX ⊢;clear hv ih;go_in;go_wp2_with fail;go_loopw [3,4] (fun b i wr=>∃(k m:Nat),k<=xs.length/\i=.int .i64 k/\b=.int .i64 m/\m<=3000000/\Hi (m=(zaD (xs.take k)).length+(xs.length - k))/\Hi (Kept w wr)) (fun _ i _=>xs.length - (intOf i).toNat)
  .exact⟨0,xs.length,ai _,rfl,rfl,a_,(by show _=_;rw[cH];show _=0+_;omega),af _⟩
  case round =>
   obtain⟨k,m,hk,rfl,rfl,hm,HM,kO⟩:=hrel;by_cases kV:k<xs.length
   .obtain⟨x,hx⟩:∃x,xs[k]? = some x:=⟨_,ac kV⟩;have HT:=Hd (HT0.o k x hx);have hdk:=HDK.o x (am hx);obtain⟨g,Aa,vC,vP,vA,vT,vK,rfl,hg,qC,-,-,⟨d0,d1,d2,d3,d4,d5,d6,d7,d8,d9⟩,-,-,-,-,-,hK⟩:=fX (HV.o.kept kO.o) k x hx;have pQ:=Hd (nD.o x.kids vK wr hK hdk);have h1:=(rr.o (k+1)).1;have h2:=(rr.o k).2;obtain⟨q,HQ⟩:=gX ((zaD x.kids).length);rw[HQ.o]at HT pQ;have Iv:m+q<=3000000:=(by have:=HT.o;have:=HM.o;omega);have nQ:Hi (m+q=(zaD (xs.take (k+1))).length+(xs.length - (k+1))):=(by show _=_;have:=HT.o;have:=HM.o;omega);clear hx hK h1 h2 HT HM hdk d0 d1 d2 d3 d4 d5 d6 d7 d8 HQ;go_wp2_with fail;refine k_ pQ.o fun w1 ld=>?_;have kT:=Hd (kO.o.trans ld);clear ld;go_wp2;go_roundw
    .exact⟨k+1,m+q,a_,by go_num,by go_num,Iv,nQ.o,kT.o⟩
    .simp [intOf];omega
   .obtain rfl:k=xs.length:=a_;obtain rfl:m=R:=(by have:=HM.o;rw[bi,HR.o]at this;omega);go_wp2
    (try go_ret)
    exact⟨rfl,kO.o⟩
def OkB(b:Blo):Prop:=(b.info.length<=1000000/\b.text.length<=1000000/\b.dest.length<=1000000/\b.title.length<=1000000/\b.id.length<=1000000)/\(b.cls.length<=1000/\b.prs.length<=1000/\b.kids.length<=1000000)/\(∀s∈b.cls,s.length<=1000000)/\(∀p∈b.prs,p.1.length<=1000000/\p.2.length<=1000000)/\(zaD b.line).length<=1000000/\∀x∈zaD b.line,OkX x
def ParB(S:Nat->Prop)(m n:Nat)(w:World)(vC vP vL vK:Value)(b:Blo):Prop:=Strs w vC b.cls/\Prs w vP b.prs/\Lns S m w vL b.line/\Bls S m n w vK b.kids
def zIZ(o:Inl->Int->Bool->Bool->Int)(m:Nat)(kL kU:Int)(id:Bs)(cls:List Bs)(prs:List Pr)(kY:List Inl):Int :=
 if kL=1/\kY=[]then 8 else if kL=2/\(kU<1\/6<kU)then 9 else if kL=2/\atE id cls prs≠0 then atE id cls prs else if kL≠1/\zeO true kY=true then 5 else zk3 o m 0 kY
def zH7(o:Inl->Int->Bool->Bool->Int)(m:Nat)(b:Blo):Int:=zIZ o m b.kind b.level b.id b.cls b.prs b.line
def zCC(S:Nat->Prop)(o:Inl->Int->Bool->Bool->Int)(ho:OneC S o)(m n:Nat)(b:Blo)(vC vP vL vK:Value)(w:World)(hp:ParB S m n w vC vP vL vK b)(mn:OkB b):Calls prog 103 #[.agg (zqQ b vC vP vL vK).toArray] w fun e w'=>e=.returned (.int .i64 (zH7 o m b))/\Kept w w':=by
 obtain⟨kL,kU,kW,kN,kP,title,id,cls,prs,kY,kM⟩:=b;obtain⟨hC,hP,hL,hK⟩:=hp;simp only[Blo.cls,Blo.prs,Blo.line,Blo.kids]at hC hP hL hK;obtain⟨aC,cC,rfl,lC⟩:=hC.form;obtain⟨aP,cP,rfl,lP⟩:=hP.form;obtain⟨aL,cL,rfl,lL⟩:=hL.form;obtain⟨aK,cK,rfl,lK⟩:=hK.form;obtain⟨⟨o1,o2,o3,o4,o5⟩,⟨o6,o7,o8⟩,o9,qS,qX,sg⟩:=mn;simp only[Blo.info,Blo.text,Blo.dest,Blo.title,Blo.id,Blo.cls,Blo.prs,Blo.line,Blo.kids]at o1 o2 o3 o4 o5 o6 o7 o8 o9 qS qX sg;have kZ:=Hd (zaA w (.cells #[.int .i64 kL,.int .i64 kU,.string (bs kW),.string (bs kN),.string (bs kP),.string (bs title),.string (bs id),.slice aC cls.length cC,.slice aP prs.length cP,.slice aL kY.length cL,.slice aK kM.length cK] 42));have HD:=Hd (aI w 42 #[.int .i64 kL,.int .i64 kU,.string (bs kW),.string (bs kN),.string (bs kP),.string (bs title),.string (bs id),.slice aC cls.length cC,.slice aP prs.length cP,.slice aL kY.length cL,.slice aK kM.length cK]);have qP:Hi (∀w',Kept (w.alloc (.cells #[.int .i64 kL,.int .i64 kU,.string (bs kW),.string (bs kN),.string (bs kP),.string (bs title),.string (bs id),.slice aC cls.length cC,.slice aP prs.length cP,.slice aL kY.length cL,.slice aK kM.length cK] 42)) w'->Calls prog 106 #[.agg #[.string (bs id),.slice aC cls.length cC,.slice aP prs.length cP]] w' fun e w''=>e=.returned (.int .i64 (atE id cls prs))/\Kept w' w''):=fun w' k=>zf2 id cls prs _ _ w' (hC.kept (kZ.o.trans k)) (hP.kept (kZ.o.trans k)) a_ o6 o7 (fun s hs=>by have:=o9 s hs;omega) (fun p hp=>by have:=qS p hp;omega);have Gd:Hi (∀w',Kept (w.alloc (.cells #[.int .i64 kL,.int .i64 kU,.string (bs kW),.string (bs kN),.string (bs kP),.string (bs title),.string (bs id),.slice aC cls.length cC,.slice aP prs.length cP,.slice aL kY.length cL,.slice aK kM.length cK] 42)) w'->Calls prog 137 #[.slice aL kY.length cL,.bool true] w' fun e w''=>e=.returned (.bool (zeO true kY))/\Kept w' w''):=fun w' k=>zmZ S true m kY _ w' (hL.kept (kZ.o.trans k)) qX;have Iw:Hi (∀w',Kept (w.alloc (.cells #[.int .i64 kL,.int .i64 kU,.string (bs kW),.string (bs kN),.string (bs kP),.string (bs title),.string (bs id),.slice aC cls.length cC,.slice aP prs.length cP,.slice aL kY.length cL,.slice aK kM.length cK] 42)) w'->Calls prog 138 #[.slice aL kY.length cL] w' fun e w''=>e=.returned (.int .i64 (zk3 o m 0 kY))/\Kept w' w''):=fun w' k=>zzG S o ho m kY _ w' (hL.kept (kZ.o.trans k)) qX sg;obtain⟨R,HR⟩:=gX (zIZ o m kL kU id cls prs kY);rw[show zH7 o m (.mk kL kU kW kN kP title id cls prs kY kM)=R from HR.o];unfold zIZ at HR;unfold zqQ;simp only[Blo.kind,Blo.level,Blo.info,Blo.text,Blo.dest,Blo.title,Blo.id];clear hC hP hL hK;go_in;go_upto_region 1 with fail;generalize w.alloc _=w0 at *;generalize w.heap.size=D at *;have c0:=(HD.o.kept (af w0)).cell 0 _ rfl;have c1:=(HD.o.kept (af w0)).cell 1 _ rfl;have c6:=(HD.o.kept (af w0)).cell 6 _ rfl;have c7:=(HD.o.kept (af w0)).cell 7 _ rfl;have c8:=(HD.o.kept (af w0)).cell 8 _ rfl;have c9:=(HD.o.kept (af w0)).cell 9 _ rfl;have cz:=(HD.o.kept (af w0)).lt;by_cases hq1:kL=1/\kY=[]
 .have b1:(kL==1)=true:=(by rw[bh];exact hq1.1);have b2:((kY.length:Int)==0)=true:=(by simp [hq1.2]);have kS:Hi (R=8):=(by(show _=_;rw[<- HR.o];rw[ae hq1]));go_wp2
  (try go_ret)
  exact⟨by rw[kS.o];rfl,kZ.o.trans (af _)⟩
 have oY:=Hd ((aa hq1).symm.trans HR.o);clear HR;have HR:=oY;clear oY;rcases(show kL≠2\/(kL=2/\(kU<1\/6<kU))\/(kL=2/\1<=kU/\kU<=6)by omega)with h2|⟨h2,h3⟩|⟨h2,h3,h4⟩
 case' inr.inl =>
  have b1:(kL==1)=false:=(by rw[ab];omega);have b2:(kL==2)=true:=(by rw[bh];exact h2);have kS:Hi (R=9):=(by show _=_;rw[<- HR.o,ae ⟨h2,h3⟩]);rcases h3 with h3|h3
  .go_wp2
   (try go_ret)
   exact⟨by rw[kS.o];rfl,kZ.o⟩
  .have h3':¬ kU<1:=a_;go_wp2
   (try go_ret)
   exact⟨by rw[kS.o];rfl,kZ.o⟩
 case' inr.inr =>
  have b1:(kL==1)=false:=(by rw[ab];omega);have b2:(kL==2)=true:=(by rw[bh];exact h2);have HR:=Hd ((aa (fun q:kL=2/\(kU<1\/6<kU)=>by omega)).symm.trans HR.o);have g1:¬ kU<1:=a_;have g2:¬ 6<kU:=a_;go_wp2_with fail;refine k_ (qP.o _ (af _)) fun wz hk=>?_;have oh:=Hd hk;clear hk;obtain⟨E,uH⟩:=gX (atE id cls prs);rw[uH.o]at HR ⊢;by_cases he:E=0
  case neg =>
   have hz:(E==0)=false:=(by rw[ab];exact he);have hzn:(E != 0)=true:=(by rw[dd];exact he);have kS:Hi (R=E):=(by(show _=_;rw[<- HR.o];rw[ae ⟨h2,he⟩]));go_wp2
   (try go_ret)
   exact⟨by rw[kS.o];rfl,kZ.o.trans oh.o⟩
  rw[he];have HR:Hi ((if kL≠1/\zeO true kY=true then 5 else zk3 o m 0 kY)=R):=Hd ((aa (fun q:kL=2/\E≠0=>q.2 he)).symm.trans HR.o);clear uH he g1 g2 c0 c1 c6 c7 c8 c9 cz;have h1:kL≠1:=a_;have c0:=(HD.o.kept oh.o).cell 0 _ rfl;have c9:=(HD.o.kept oh.o).cell 9 _ rfl;have cz:=(HD.o.kept oh.o).lt;go_wp2_with fail;refine k_ (Gd.o _ oh.o) fun w7 mS=>?_;have mE:Hi (Kept w0 w7):=dq oh.o mS;clear mS c0 c9 cz;have c9:=(HD.o.kept mE.o).cell 9 _ rfl;have cz:=(HD.o.kept mE.o).lt;cases hb:zeO true kY with
  | true =>
   have kS:Hi (R=5):=(by(show _=_;rw[<- HR.o];rw[ae ⟨h1,hb⟩]));go_wp2
   (try go_ret)
   exact⟨by rw[kS.o];rfl,kZ.o.trans mE.o⟩
  | false =>
   have HR:=Hd ((aa (fun q:kL≠1/\zeO true kY=true=>by rw[hb]at q;cases q.2)).symm.trans HR.o);go_wp2_with fail;refine k_ (Iw.o _ mE.o) fun w8 pG=>?_;have pk:=Hd (mE.o.trans pG);clear pG;go_wp2
   (try go_ret)
   exact⟨by rw[<- HR.o];rfl,kZ.o.trans pk.o⟩
 case' inl =>
  have b2:(kL==2)=false:=(by rw[ab];exact h2);have HR:Hi ((if kL≠1/\zeO true kY=true then 5 else zk3 o m 0 kY)=R):=Hd ((aa (fun q:kL=2/\atE id cls prs≠0=>h2 q.1)).symm.trans ((aa (fun q:kL=2/\(kU<1\/6<kU)=>h2 q.1)).symm.trans HR.o));by_cases h1:kL=1
  .have b1:(kL==1)=true:=(by rw[bh];exact h1);have b3:((kY.length:Int)==0)=false:=by
    rw[ab];intro q;exact hq1 ⟨h1,bD.1 a_⟩
   have HR:=Hd ((aa (fun q:kL≠1/\zeO true kY=true=>q.1 h1)).symm.trans HR.o);go_wp2_with fail;refine k_ (Iw.o _ (af _)) fun w7 mS=>?_;have mE:=Hd mS;clear mS;go_wp2
   (try go_ret)
   exact⟨by rw[<- HR.o];rfl,kZ.o.trans mE.o⟩
  have b1:(kL==1)=false:=(by rw[ab];exact h1);clear c1 c6 c7 c8;go_wp2_with fail;refine k_ (Gd.o _ (af w0)) fun w7 mS=>?_;have mE:Hi (Kept w0 w7):=dq (af w0) mS;clear mS c0 c9 cz;have c9:=(HD.o.kept mE.o).cell 9 _ rfl;have cz:=(HD.o.kept mE.o).lt;cases hb:zeO true kY with
  | true =>
   have kS:Hi (R=5):=(by(show _=_;rw[<- HR.o];rw[ae ⟨h1,hb⟩]));go_wp2
   (try go_ret)
   exact⟨by rw[kS.o];rfl,kZ.o.trans mE.o⟩
  | false =>
   have HR:=Hd ((aa (fun q:kL≠1/\zeO true kY=true=>by rw[hb]at q;cases q.2)).symm.trans HR.o);go_wp2_with fail;refine k_ (Iw.o _ mE.o) fun w8 pG=>?_;have pk:=Hd (mE.o.trans pG);clear pG;go_wp2
   (try go_ret)
   exact⟨by rw[<- HR.o];rfl,kZ.o.trans pk.o⟩
def zH8(kL:Int)(kN kP title:Bs)(na:Bool)(args:List Bs)(kQ:List Cit)(kM:List Inl):Bool :=
 decide (1<=kL)&&decide (kL<=16)&&([1,4,5,9,10,12,14,15].contains kL || kN.isEmpty)&&([9,10,16].contains kL || kP.isEmpty)&&([9,10,14].contains kL || title.isEmpty)&&([10,11].contains kL || na)&&([6,7,8,9,10,11].contains kL || kM.isEmpty)&&((kL==15) || args.isEmpty)&&((kL==13) || kQ.isEmpty)
def zfQ(x:Inl):Bool:=zH8 x.kind x.text x.dest x.title (zwS x.id x.cls x.prs) x.args x.cits x.kids
def zI0(kL kU:Int)(kW kN kP title:Bs)(na:Bool)(kY:List Inl)(kM:List Blo):Bool :=
 decide (1<=kL)&&decide (kL<=15)&&([2,8].contains kL || kU==0)&&([3,10,13,14,15].contains kL || kW.isEmpty)&&([3,4].contains kL || kN.isEmpty)&&((kL==15) || (kP.isEmpty&&title.isEmpty))&&([2,4,13].contains kL || na)&&([1,2,12].contains kL || kY.isEmpty)&&([6,7,8,9,10,11,13,14].contains kL || kM.isEmpty)
def zu4(b:Blo):Bool:=zI0 b.kind b.level b.info b.text b.dest b.title (zwS b.id b.cls b.prs) b.line b.kids
def zCD(s:Bs):(s==[])=s.isEmpty:=by cases s<;>rfl
def zaS{α:Type}(l:List α):((l.length:Int)==0)=l.isEmpty:=by cases l<;>simp<;>omega
def zCE(x:Inl)(h:zfQ x=true):1<=x.kind/\x.kind<=16:=by
 unfold zfQ zH8 at h;simp only[ba,cq]at h;obtain⟨⟨⟨⟨⟨⟨⟨⟨h1,h2⟩,-⟩,-⟩,-⟩,-⟩,-⟩,-⟩,-⟩:=h;exact⟨h1,h2⟩
def zCF(b:Blo)(h:zu4 b=true):1<=b.kind/\b.kind<=15:=by
 unfold zu4 zI0 at h;simp only[ba,cq]at h;obtain⟨⟨⟨⟨⟨⟨⟨⟨h1,h2⟩,-⟩,-⟩,-⟩,-⟩,-⟩,-⟩,-⟩:=h;exact⟨h1,h2⟩
def dpI:Nat->List Inl->Prop
 | 0,xs=>xs=[]
 | n+1,xs=>∀x∈xs,dpI n x.kids
def okW(o:Inl->Int->Bool->Bool->Int)(g:List Inl->Int)(d:Nat):Bool->Int->List Inl->Prop
 | _,_,[]=>True
 | fs,b,x::r=>d<=15/\o x b (decide (d=0)&&fs) (decide (d=0)&&r.isEmpty)=0/\g x.kids=0/\okW o g d false x.kind r
def zCG(o:Inl->Int->Bool->Bool->Int)(f:List Inl->Int)(d:Nat):∀(xs:List Inl) (i:Nat) (b:Int) (len:Nat),i+xs.length=len->(zCA o f d len xs i b=0↔okW o f d (decide (i=0)) b xs)
 | [],i,b,len,_=>⟨fun _=>trivial,fun _=>rfl⟩
 | x::r,i,b,len,h=>by
  have hl:decide (i+1=len)=r.isEmpty:=by
   subst h;cases r with
   | nil=>simp
   | cons y r=>simp only[az,List.isEmpty_cons,ee];omega
  have ih:=zCG o f d r (i+1) x.kind len (by simp only[az]at h;omega);rw[show decide (i+1=0)=false by simp]at ih;rw[zCA,okW,hl,<- ih];by_cases h1:15<d
  .rw[ae h1];exact⟨fun q=>(by cases q),fun q=>by omega⟩
  rw[aa h1];by_cases h2:o x b (decide (d=0)&&decide (i=0)) (decide (d=0)&&r.isEmpty)=0
  .rw[aa (fun q=>q h2)];by_cases h3:f x.kids=0
   .rw[aa (fun q=>q h3)];exact⟨fun q=>⟨a_,h2,h3,q⟩,fun q=>q.2.2.2⟩
   .rw[ae h3];exact⟨fun q=>absurd q h3,fun q=>q.2.2.1⟩
  .rw[ae h2];exact⟨fun q=>absurd q h2,fun q=>q.2.1⟩
def zu5(o:Inl->Int->Bool->Bool->Int)(n d:Nat)(xs:List Inl):zk3 o (n+1) d xs=0↔okW o (zk3 o n (d+1)) d true 0 xs :=
 zCG o (zk3 o n (d+1)) d xs 0 0 xs.length a_
def zqA(o:Inl->Int->Bool->Bool->Int)(n d:Nat):zk3 o n d []=0:=by cases n<;>rfl
def zu6{o:Inl->Int->Bool->Bool->Int}{g:List Inl->Int}{d:Nat}:∀{xs:List Inl} {fs:Bool} {b:Int},okW o g d fs b xs->∀x∈xs,d<=15/\(∃b f l,o x b f l=0)/\g x.kids=0
 | [],_,_,_,x,hx=>by cases hx
 | y::r,fs,b,h,x,hx=>by
  obtain⟨h1,h2,h3,h4⟩:=h;rcases bj.1 hx with rfl|hx
  .exact⟨h1,⟨_,_,_,h2⟩,h3⟩
  .exact zu6 h4 x hx
def zFr{x:Inl}(h:zfQ x=true)(hk:x.kind=1):x=.mk 1 x.text [] [] [] [] [] [] [] []:=by
 obtain⟨kL,kN,kP,title,id,cls,prs,args,kQ,kM⟩:=x;obtain rfl:kL=1:=hk;unfold zfQ zH8 zwS at h;simp only[Inl.kind,Inl.text,Inl.dest,Inl.title,Inl.id,Inl.cls,Inl.prs,Inl.args,Inl.cits,Inl.kids]at h ⊢;simp at h;simp only[h]
def zFs{x:Inl}{ks:List Inl}(h:zfQ x=true)(h0:x.kids=[]->ks=[]):zfQ (znH x ks)=true:=by
 unfold zfQ zH8 at h ⊢;have e:znH x ks=.mk x.kind x.text x.dest x.title x.id x.cls x.prs x.args x.cits ks:=rfl;rw[e];simp only[Inl.kind,Inl.text,Inl.dest,Inl.title,Inl.id,Inl.cls,Inl.prs,Inl.args,Inl.cits,Inl.kids]at h ⊢;rw[ba,ba,ba]at h ⊢;obtain⟨⟨⟨a,b⟩,c⟩,d⟩:=h;refine⟨⟨⟨a,?_⟩,c⟩,d⟩;rw[dL]at b ⊢;rcases b with b|b
 .exact .inl b
 .right;rw[kj]at b ⊢;exact h0 b
def zKj(kL:Int)(kN kP title id:Bs)(cls:List Bs)(prs:List Pr)(args:List Bs)(kQ:List Cit)(kM:List Inl)(zaM:Int)(first last:Bool):Int :=
 if kL=1\/kL=4\/kL=5 then(if kN=[]\/lnB kN=false then 17 else if kL≠5/\zaM=kL then 5 else 0)
 else if kL=2 then(if zaM=2\/zaM=3\/first=true\/last=true then 5 else 0)
 else if kL=3 then(if last=true then 5 else 0)
 else if kL=6\/kL=7\/kL=8 then(if kM=[]then 8 else 0)
 else if kL=9\/kL=10 then zCy kL kN kP title id cls prs kM
 else if kL=11 then(if zwS id cls prs=true then 8 else atE id cls prs)
 else if kL=12\/kL=14\/kL=15 then zJ0 kL kN title args
 else if kL=13 then zm3 kQ
 else if kL=16 then(if zu1 kP=false then 5 else 0)else 0
def zu7(kL:Int)(kN kP title id:Bs)(cls:List Bs)(prs:List Pr)(args:List Bs)(kQ:List Cit)(kM:List Inl)(zaM:Int)(first last:Bool):zJq (.mk kL kN kP title id cls prs args kQ kM) zaM first last=zKj kL kN kP title id cls prs args kQ kM zaM first last:=rfl
def zwY{x:Inl}{ks:List Inl}{b b':Int}{fs ls:Bool}(h1:x.kind≠1)(tn:x.kind≠13)(hb:b'=b\/b'=1)(h0:x.kids=[]->ks=[])(hn:x.kids≠[]->ks≠[])(ha:zeO false x.kids=false->zeO false ks=false)(h:zhA zfQ x b fs ls=0):zhA zfQ (znH x ks) b' fs ls=0:=by
 unfold zhA at h ⊢
 split at h
 .cases h
 rename_i hf;have hf:zfQ x=true:=(by simpa using hf);rw[zFs hf h0,aa b_];clear hf;obtain⟨kL,kN,kP,title,id,cls,prs,args,kQ,kM⟩:=x;have ek:znH (.mk kL kN kP title id cls prs args kQ kM) ks=.mk kL kN kP title id cls prs args kQ ks:=rfl;rw[ek,zu7];rw[zu7]at h;clear ek;unfold zKj at h ⊢;simp only[Inl.kind,Inl.kids]at h1 tn h0 hn ha;by_cases q1:kL=1\/kL=4\/kL=5
 .rw[ae q1]at h ⊢;by_cases q2:kN=[]\/lnB kN=false
  .rw[ae q2]at h;cases h
  rw[aa q2]at h ⊢;by_cases q3:kL≠5/\b=kL
  .rw[ae q3]at h;cases h
  rw[aa];intro q;rcases hb with rfl|rfl
  .exact q3 q
  .exact h1 q.2.symm
 rw[aa q1]at h ⊢;by_cases q2:kL=2
 .rw[ae q2]at h ⊢;by_cases q3:b=2\/b=3\/fs=true\/ls=true
  .rw[ae q3]at h;cases h
  rw[aa];intro q;rcases hb with rfl|rfl
  .exact q3 q
  .rcases q with q|q|q
   .cases q
   .cases q
   .exact q3 (.inr (.inr q))
 rw[aa q2]at h ⊢;by_cases q3:kL=3
 .rw[ae q3]at h ⊢;exact h
 rw[aa q3]at h ⊢;by_cases q4:kL=6\/kL=7\/kL=8
 .rw[ae q4]at h ⊢;by_cases q5:kM=[]
  .rw[ae q5]at h;cases h
  rw[aa (hn q5)]
 rw[aa q4]at h ⊢;by_cases q5:kL=9\/kL=10
 .rw[ae q5]at h ⊢;unfold zCy at h ⊢;by_cases r1:kN≠[]/\(kP≠[]\/title≠[])
  .rw[ae r1]at h;cases h
  rw[aa r1]at h ⊢;by_cases r2:kN≠[]/\zgW kN=false
  .rw[ae r2]at h;cases h
  rw[aa r2]at h ⊢;by_cases r3:lnB kP=false\/lnB title=false
  .rw[ae r3]at h;cases h
  rw[aa r3]at h ⊢;by_cases r4:kL=9/\zeO false kM=true
  .rw[ae r4]at h;cases h
  rw[aa r4]at h;rw[aa]
  .exact h
  .intro q;refine r4 ⟨q.1,?_⟩;cases hq:zeO false kM with
   | true=>rfl
   | false=>rw[ha hq]at q;cases q.2
 rw[aa q5]at h ⊢;by_cases q6:kL=11
 .rw[ae q6]at h ⊢;exact h
 rw[aa q6]at h ⊢;by_cases q7:kL=12\/kL=14\/kL=15
 .rw[ae q7]at h ⊢;exact h
 rw[aa q7]at h ⊢;by_cases q8:kL=13
 .exact absurd q8 tn
 rw[aa q8]at h ⊢;exact h
def zqB{T:Bs}{b:Int}{fs ls:Bool}(hT:T≠[])(hl:lnB T=true)(hb:b≠1):zhA zfQ (.mk 1 T [] [] [] [] [] [] [] []) b fs ls=0:=by
 unfold zhA;rw[aa (by rw[show zfQ (.mk 1 T [] [] [] [] [] [] [] [])=true from rfl];simp)];rw[zu7];unfold zKj;rw[ae (.inl rfl),aa (fun q=>q.elim hT (fun q=>by rw[hl]at q;cases q)),aa (fun q=>hb q.2)]
def zCH{x:Inl}{b:Int}{fs ls:Bool}(hk:x.kind=1)(h:zhA zfQ x b fs ls=0):x=.mk 1 x.text [] [] [] [] [] [] [] []/\x.text≠[]/\lnB x.text=true:=by
 unfold zhA at h
 split at h
 .cases h
 rename_i hf;have hf:zfQ x=true:=(by simpa using hf);refine⟨zFr hf hk,?_⟩;unfold zJq at h;rw[ae (.inl hk)]at h
 split at h
 .cases h
 rename_i q;exact⟨fun e=>q (.inl e),by cases hl:lnB x.text with|true=>rfl|false=>exact absurd (.inr hl) q⟩
def zH9{x:Inl}{b:Int}{fs ls:Bool}(hk:x.kind=13)(h:zhA zfQ x b fs ls=0):zm3 x.cits=0:=by
 unfold zhA at h
 split at h
 .cases h
 unfold zJq at h;rw[hk]at h;exact h
def CleanC(c:FlT):Prop:=lnB c.sty.begin_=true/\lnB c.sty.between=true/\lnB c.sty.end_=true/\∀e∈c.ents,CleanS e.src/\lnB e.suf=true
def zCI{c:FlT}(hc:CleanC c)(k:Bs):CleanS (lkE c.ents k).src/\lnB (lkE c.ents k).suf=true:=by
 unfold lkE;cases h:lkO c.ents k with
 | none=>exact⟨⟨fun _ h=>(by cases h),fun _ h=>(by cases h),fun _ h=>(by cases h),zdE,zdE⟩,zdE⟩
 | some e=>exact hc.2.2.2 e (List.mem_reverse.1 (cw h))
def zCJ:∀{l:List Cit},zAh l=0->∀p∈l,lnB p.pre=true/\lnB p.suf=true
 | [],_,p,hp=>by cases hp
 | c::r,h,p,hp=>by
  unfold zAh at h
  split at h
  .cases h
  split at h
  .cases h
  rename_i q;rcases bj.1 hp with rfl|hp
  .unfold zCw at q;simp only[dL,not_or,ir,gz,Bool.not_eq_false]at q;exact⟨q.1.1.1.1.1,q.1.1.2⟩
  .exact zCJ h p hp
def zGD{c:FlT}{e:EnT}(h:CleanS e.src/\lnB e.suf=true)(t:Bs):lnB (fiE c t e)=true:=zFd h.1 _ _ _ _ h.2 _
def zIa{c:FlT}(hc:CleanC c){l:List Cit}(h:zm3 l=0):lnB (zm2 c l)=true:=by
 have h2:zAh l=0:=by
  unfold zm3 at h
  split at h
  .cases h
  .exact h
 unfold zm2;refine zb8 (zb8 hc.1 (zg9 _ hc.2.1 _ fun x hx=>?_)) hc.2.2.1;obtain⟨p,hp,rfl⟩:=bQ.1 hx;obtain⟨h3,h4⟩:=zCJ h2 p hp;have h5:=zGD (c:=c) (zCI hc p.key);have h6:lnB (zFi p.pre (fiE c (if p.bare=true then c.sty.bare else c.sty.cite) (lkE c.ents p.key)))=true:=by
  unfold zFi
  split
  .exact h5 _
  .exact zb8 (zb8 h3 zkS) (h5 _)
 unfold zoQ zGv
 split
 .exact h6
 .refine zb8 ?_ h4
  split
  .exact h6
  .exact zb8 h6 zkS
def zCK(s:Bs):txB s≠[]:=by
 unfold txB;split
 .simp
 .assumption
def zGE{s:Bs}(h:lnB s=true):lnB (txB s)=true:=by
 unfold txB;split
 .exact zcP rfl
 .exact h
def zCL(f:List Inl->List Inl):∀(xs:List Inl) (j:Option Inl) (T:Bs),(∀x∈xs,x.kind=1->x.text≠[])->(xs≠[]\/j.isSome=true)->mgL f j T xs≠[]
 | [],j,T,_,h=>by
  rcases h with h|h
  .exact absurd rfl h
  .cases j with
   | none=>cases h
   | some x=>unfold mgL zuU;simp
 | x::r,j,T,hx,_=>by
  rw[mgL]
  split
  .rename_i hk;refine zCL f r _ _ (fun y hy=>hx y (bl _ hy)) (.inr ?_)
   split
   .rename_i q;rcases q with q|q
    .exact q
    .exact absurd q (hx x (bI ..) hk)
   .rfl
  .simp
def zwZ{c:FlT}{f:List Inl->List Inl}{xs:List Inl}(h:∀x∈xs,∃b fs ls,zhA zfQ x b fs ls=0):∀y∈xs.map (zfU c f),y.kind=1->y.text≠[]:=by
 intro y hy hk;obtain⟨x,hx,rfl⟩:=bQ.1 hy;unfold zfU at hk ⊢
 split
 .exact zCK _
 .rename_i q;rw[aa q]at hk;obtain⟨b,fs,ls,h1⟩:=h x hx;exact(zCH (x:=x) hk h1).2.1
def zGF(c:FlT)(n d:Nat)(xs:List Inl)(hd:dpI n xs)(h:zk3 (zhA zfQ) n d xs=0)(hx:xs≠[]):zcB n (zcJ c n xs)≠[]:=by
 cases n with
 | zero=>exact absurd hd hx
 | succ n =>
  rw[zu5]at h;exact zCL _ _ _ _ (zwZ fun x hx=>(zu6 h x hx).2.1) (.inl (by simpa [zcJ]using hx))
def zCM(c:FlT)(n:Nat):zcB n (zcJ c n [])=[]:=by cases n<;>rfl
def zGG(f:List Inl->List Inl)(j:Option Inl)(T t:Bs)(r:List Inl):mgL f j T (.mk 1 t [] [] [] [] [] [] [] []::r)=mgL f (if j.isSome=true\/t=[]then j else some (.mk 1 t [] [] [] [] [] [] [] [])) (T++t) r:=by
 rw[mgL];exact ae rfl
def zJr(f:List Inl->List Inl)(j:Option Inl)(T:Bs)(x:Inl)(ks r:List Inl)(h:x.kind≠1):mgL f j T (znH x ks::r)=zuU f j T++znH x (f ks)::mgL f none [] r:=by
 rw[mgL];exact aa h
def zCN(c:FlT)(hc:CleanC c)(n d:Nat)(ih:∀ks,dpI n ks->zk3 (zhA zfQ) n (d+1) ks=0->zk3 (zhA zfQ) n (d+1) (zcB n (zcJ c n ks))=0):∀(xs:List Inl) (fs:Bool) (b:Int),(∀x∈xs,dpI n x.kids)->okW (zhA zfQ) (zk3 (zhA zfQ) n (d+1)) d fs b xs->(b≠1->okW (zhA zfQ) (zk3 (zhA zfQ) n (d+1)) d fs b (mgL (zcB n) none [] (xs.map (zfU c (zcJ c n)))))/\(∀(DX:Bool) (b0:Int) (t T:Bs),b0≠1->d<=15->fs=false->T≠[]->lnB T=true->okW (zhA zfQ) (zk3 (zhA zfQ) n (d+1)) d DX b0 (mgL (zcB n) (some (.mk 1 t [] [] [] [] [] [] [] [])) T (xs.map (zfU c (zcJ c n)))))
 | [],fs,b,_,_=>by
  refine⟨fun _=>trivial,fun DX b0 t T hb hd _ hT hl=>?_⟩;have e:mgL (zcB n) (some (.mk 1 t [] [] [] [] [] [] [] [])) T (([]:List Inl).map (zfU c (zcJ c n)))=[.mk 1 T [] [] [] [] [] [] [] []]:=by
   show [Inl.mk 1 T [] [] [] [] [] [] [] (zcB n [])]=_;have:zcB n []=[]:=(by cases n<;>rfl);rw[this]
  rw[e];exact⟨hd,zqB hT hl hb,zqA _ _ _,trivial⟩
 | x::r,fs,b,hx,h=>by
  obtain⟨h1,h2,h3,h4⟩:=h;have hm:zcB n []=[]:=(by cases n<;>rfl);have IH:=zCN c hc n d ih r false x.kind (fun y hy=>hx y (bl _ hy)) h4;have hdk:=hx x (bI ..);have hre:(mgL (zcB n) none [] (r.map (zfU c (zcJ c n)))).isEmpty=r.isEmpty:=by
   cases r with
   | nil=>rfl
   | cons y r =>
    have:=zCL (zcB n) ((y::r).map (zfU c (zcJ c n))) none [] (zwZ fun z hz=>(zu6 h4 z hz).2.1) (.inl b_);rw[List.isEmpty_cons,cJ];exact this
  by_cases k1:x.kind=1\/x.kind=13
  .have key:∃t,zfU c (zcJ c n) x=.mk 1 t [] [] [] [] [] [] [] []/\t≠[]/\lnB t=true:=by
    by_cases k13:x.kind=13
    .refine⟨txB (zm2 c x.cits),?_,zCK _,zGE (zIa hc (zH9 k13 h2))⟩;unfold zfU;rw[ae k13];rfl
    .have k1:x.kind=1:=k1.resolve_right k13;obtain⟨e,q1,q2⟩:=zCH k1 h2;refine⟨x.text,?_,q1,q2⟩;unfold zfU;rw[aa k13];have e2:x.kids=[]:=(by rw[e];rfl);have e3:zcJ c n []=[]:=(by cases n<;>rfl);rw[e2,e3]
     conv=>lhs;rw[e]
     rfl
   obtain⟨t,e,ht,hl⟩:=key;constructor
   .intro hb;rw[bd,e,zGG,aa (fun q=>q.elim (fun q=>by cases q) ht)];exact IH.2 fs b t ([]++t) hb h1 rfl (by simpa using ht) (by simpa using hl)
   .intro DX b0 t0 T hb hd hf hT Ix;rw[bd,e,zGG,ae (.inl rfl)];exact IH.2 DX b0 t0 (T++t) hb hd rfl (by simp [hT]) (zb8 Ix hl)
  .have k1':x.kind≠1:=fun q=>k1 (.inl q);have k13:x.kind≠13:=fun q=>k1 (.inr q);have e:zfU c (zcJ c n) x=znH x (zcJ c n x.kids):=(by unfold zfU;rw[aa k13]);have ek:znH (znH x (zcJ c n x.kids)) (zcB n (zcJ c n x.kids))=znH x (zcB n (zcJ c n x.kids)):=rfl;have f0:x.kids=[]->zcB n (zcJ c n x.kids)=[]:=fun q=>(by rw[q];exact zCM c n);have fn:x.kids≠[]->zcB n (zcJ c n x.kids)≠[]:=fun q=>zGF c n (d+1) _ hdk h3 q;have fa:zeO false x.kids=false->zeO false (zcB n (zcJ c n x.kids))=false:=zCv c n _ false;have hk:=ih _ hdk h3;constructor
   .intro hb;rw[bd,e,zJr _ _ _ _ _ _ k1'];refine⟨h1,?_,hk,IH.1 k1'⟩;rw[hre];exact zwY k1' k13 (.inl rfl) f0 fn fa h2
   .intro DX b0 t T hb hd hf hT Ix;subst hf;rw[bd,e,zJr _ _ _ _ _ _ k1'];show okW _ _ _ _ _ (zHY (.mk 1 t [] [] [] [] [] [] [] []) T (zcB n [])::znH x (zcB n (zcJ c n x.kids))::mgL (zcB n) none [] (r.map (zfU c (zcJ c n))));rw[hm];refine⟨hd,zqB hT Ix hb,zqA _ _ _,hd,?_,hk,IH.1 k1'⟩;rw[hre];exact zwY k1' k13 (.inr rfl) f0 fn fa h2
def zw0(c:FlT)(hc:CleanC c):∀(n d:Nat) (xs:List Inl),dpI n xs->zk3 (zhA zfQ) n d xs=0->zk3 (zhA zfQ) n d (zcB n (zcJ c n xs))=0
 | 0,d,xs,_,_=>rfl
 | n+1,d,xs,hd,h=>by
  rw[zu5]at h ⊢;exact(zCN c hc n d (fun ks=>zw0 c hc n (d+1) ks) xs true 0 hd h).1 c_
def zGH:Bs:=[45,108,99,114]
def zsZ(l:Bs):Bool:=l.any fun b=>!zk2 [b] zGH
def zs0(n:Nat)(l:List Blo):Bool:=l.any fun k=>k.kids.length != n
def zJs(kW:Bs)(kM:List Blo):Int:=if 32<kW.length then 3 else if kW=[]then 5 else if zsZ kW=true then 5 else if kM=[]then 8 else if zs0 kW.length kM=true then 15 else 0
def zJt(b:Blo):Int:=zJs b.info b.kids
def zGI{α:Type}{f:α->Bool}{l:List α}{x:α}(h:x∈l)(hb:f x=true):l.any f=true:=by rw[dv];exact⟨x,h,hb⟩
def zGJ{α:Type}{f:α->Bool}{l:List α}{k:Nat}{x:α}(h:l[k]? = some x)(hb:f x=false)(h3:(l.take k).any f=false):(l.take (k+1)).any f=false:=by rw[zaV h,gJ,h3];simp [hb]
def zu8(S:Nat->Prop)(m n:Nat)(b:Blo)(vC vP vL vK:Value)(w:World)(hp:ParB S m n w vC vP vL vK b)(mn:OkB b):Calls prog 107 #[.agg (zqQ b vC vP vL vK).toArray] w fun e w'=>e=.returned (.int .i64 (zJt b))/\Kept w w':=by
 obtain⟨kL,kU,kW,kN,kP,title,id,cls,prs,kY,kM⟩:=b;obtain⟨hC,hP,hL,hK⟩:=hp;simp only[Blo.cls,Blo.prs,Blo.line,Blo.kids]at hC hP hL hK;obtain⟨aC,cC,rfl,lC⟩:=hC.form;obtain⟨aP,cP,rfl,lP⟩:=hP.form;obtain⟨aL,cL,rfl,lL⟩:=hL.form;obtain⟨aK,cK,rfl,lK⟩:=hK.form;obtain⟨⟨o1,o2,o3,o4,o5⟩,⟨o6,o7,o8⟩,o9,qS,qX,sg⟩:=mn;simp only[Blo.info,Blo.text,Blo.dest,Blo.title,Blo.id,Blo.cls,Blo.prs,Blo.line,Blo.kids]at o1 o2 o3 o4 o5 o6 o7 o8 o9 qS qX sg;have kZ:=Hd (zaA w (.cells #[.int .i64 kL,.int .i64 kU,.string (bs kW),.string (bs kN),.string (bs kP),.string (bs title),.string (bs id),.slice aC cls.length cC,.slice aP prs.length cP,.slice aL kY.length cL,.slice aK kM.length cK] 42));have HD:=Hd (aI w 42 #[.int .i64 kL,.int .i64 kU,.string (bs kW),.string (bs kN),.string (bs kP),.string (bs title),.string (bs id),.slice aC cls.length cC,.slice aP prs.length cP,.slice aL kY.length cL,.slice aK kM.length cK]);have pN:Hi (∀w',Kept w w'->Bls S m n w' (.slice aK kM.length cK) kM):=fun w' k=>hK.kept k;obtain⟨hY,oX⟩:∃f:UInt8->Bool,Hi (∀b,zk2 [b] zGH=f b):=⟨fun b=>zk2 [b] zGH,fun _=>rfl⟩;have sM:Hi (∀(b:UInt8) w',Calls prog 143 #[.string (bs [b]),.string (bs zGH)] w' fun e w''=>e=.returned (.bool (hY b))/\Kept w' w''):=fun b w'=>(by rw[<- oX.o];exact zgU [b] zGH w' b_ c_);unfold zGH at sM;obtain⟨R,HR⟩:=gX (zJs kW kM);rw[show zJt (.mk kL kU kW kN kP title id cls prs kY kM)=R from HR.o];unfold zJs at HR;unfold zqQ;simp only[Blo.kind,Blo.level,Blo.info,Blo.text,Blo.dest,Blo.title,Blo.id];clear hC hP hL hK;go_in;go_upto_region 1 with fail;generalize w.alloc _=w0 at *;generalize w.heap.size=D at *;have c2:=(HD.o.kept (af w0)).cell 2 _ rfl;have cz:=(HD.o.kept (af w0)).lt;by_cases g1:32<kW.length
 .have kS:Hi (R=3):=(by(show _=_;rw[<- HR.o];rw[ae g1]));go_wp2
  (try go_ret)
  exact⟨by rw[kS.o];rfl,kZ.o.trans (af _)⟩
 by_cases g2:kW=[]
 .have b2:(kW==[])=true:=(by rw[bh];exact g2);have kS:Hi (R=5):=(by(show _=_;rw[<- HR.o];rw[aa g1,ae g2]));go_wp2
  (try go_ret)
  exact⟨by rw[kS.o];rfl,kZ.o.trans (af _)⟩
 have b2:(kW==[])=false:=(by rw[ab];exact g2);have oY:=Hd ((aa g2).symm.trans ((aa g1).symm.trans HR.o));clear HR;go_wp2_with fail;clear c2 cz b2;go_loopw [3] (fun i wr=>∃k:Nat,k<=kW.length/\i=.int .i64 k/\Hi ((kW.take k).any (fun b=>!zk2 [b] zGH)=false)/\Hi (Kept w0 wr)) (fun i _=>kW.length - (intOf i).toNat)
 .exact⟨0,ai _,rfl,rfl,af _⟩
 case round =>
  obtain⟨k,hk,rfl,HS,kO⟩:=hrel;obtain⟨wA,DR⟩:∃x,x=wr:=⟨_,rfl⟩;subst DR;have c2:=(HD.o.kept kO.o).cell 2 _ rfl;have c10:=(HD.o.kept kO.o).cell 10 _ rfl;have cz:=(HD.o.kept kO.o).lt;by_cases kV:k<kW.length
  .obtain⟨x,hx⟩:∃x,kW[k]? = some x:=⟨_,ac kV⟩;have sl:=zgI (P:=prog) (t:=9) aq kW k (k+1) a_ a_ k (k+1) rfl a_ [x] (by
    obtain⟨hk',rfl⟩:=ak.1 hx;rw[zoW kW k hk'])
   have HX:=Hd hx;clear hx;go_wp2_with fail;refine k_ (sM.o x _) fun w2 ll=>?_;have kX:=Hd (kO.o.trans ll);clear ll kO c2 c10 cz;cases hh:hY x with
   | false =>
    have HB:Hi (zsZ kW=true):=zGI (am HX.o) (by rw[oX.o,hh];rfl);have kS:Hi (R=5):=(by(show _=_;rw[<- oY.o,ae HB.o]));go_wp2
    (try go_ret)
    exact⟨by rw[kS.o];rfl,kZ.o.trans kX.o⟩
   | true =>
    have mb:=Hd (zGJ (f:=fun b=>!zk2 [b] zGH) HX.o (by rw[oX.o,hh];rfl) HS.o);go_wp2;go_roundw
    .exact⟨k+1,a_,by go_num,mb.o,kX.o⟩
    .simp [intOf];omega
  .obtain rfl:k=kW.length:=a_;have HB:Hi (zsZ kW=false):=(by have:=HS.o;rw[bi]at this;exact this);have HR:=Hd ((aa (fun q:zsZ kW=true=>by rw[HB.o]at q;cases q)).symm.trans oY.o);clear oY HB HS;by_cases g3:kM=[]
   .have b3:((kM.length:Int)==0)=true:=(by simp [g3]);have kS:Hi (R=8):=(by(show _=_;rw[<- HR.o];rw[ae g3]));go_wp2
    (try go_ret)
    exact⟨by rw[kS.o];rfl,kZ.o.trans kO.o⟩
   have b3:((kM.length:Int)==0)=false:=(by simpa using g3);have HY:Hi (zs0 kW.length kM=true->R=15):=fun h=>(by rw[<- HR.o,aa g3,ae h]);have HN:Hi (zs0 kW.length kM=false->R=0):=fun h=>(by rw[<- HR.o,aa g3,aa (by rw[h];simp)]);clear HR;go_wp2_with fail;clear c2 c10 cz b3;go_loopw [4] (fun i wr=>∃k:Nat,k<=kM.length/\i=.int .i64 k/\Hi ((kM.take k).any (fun k=>k.kids.length != kW.length)=false)/\Hi (Kept w0 wr)) (fun i _=>kM.length - (intOf i).toNat)
   .exact⟨0,ai _,rfl,rfl,kO.o⟩
   case round =>
    clear kO;obtain⟨k,hk,rfl,HS,kO⟩:=hrel;have nt:Hi (Kept w0 wr.drew):=kO.o.trans (zaB _ 1);by_cases kV:k<kM.length
    .obtain⟨x,hx⟩:∃x,kM[k]? = some x:=⟨_,ac kV⟩;cases n with
     | zero =>
      have:=(pN.o _ (kZ.o.trans nt.o)).1;exact absurd this g3
     | succ n =>
      obtain⟨g,Aa,vC,vP,vL,vK,rfl,hg,qC,-,-,⟨d0,d1,d2,d3,d4,d5,d6,d7,d8,d9,ui⟩,-,-,-,hL,hK⟩:=gQ (pN.o _ (kZ.o.trans nt.o)) k x hx;obtain⟨aQ,cQ,rfl,lQ⟩:=hK.form;have yM:=Hd (fun h:(x.kids.length != kW.length)=true=>HY.o (zGI (am hx) h));have om:=Hd (fun h:(x.kids.length != kW.length)=false=>zGJ (f:=fun k:Blo=>k.kids.length != kW.length) hx h HS.o);have c10:=(HD.o.kept kO.o).cell 10 _ rfl;have cz:=(HD.o.kept kO.o).lt;have e2:=(HD.o.kept nt.o).cell 2 _ rfl;have e10:=(HD.o.kept nt.o).cell 10 _ rfl;have ez:=(HD.o.kept nt.o).lt;clear hx hK hL qC d0 d1 d2 d3 d4 d5 d6 d7 d8 d9 HS;generalize x.kids.length=q at *;by_cases hq:q=kW.length
      .have hb:((q:Int)==(kW.length:Int))=true:=(by rw[bh];omega);have hbn:((q:Int) != (kW.length:Int))=false:=(by simp [hq]);have mb:=Hd (om.o (by simp [hq]));go_wp2_with fail;go_region
       all_goals
        go_wp2;go_roundw
        .exact⟨k+1,a_,by go_num,mb.o,nt.o⟩
        .simp [intOf];omega
      .have hb:((q:Int)==(kW.length:Int))=false:=(by rw[ab];omega);have hbn:((q:Int) != (kW.length:Int))=true:=(by rw[dd];omega);have kS:=Hd (yM.o (by rw[dd];exact hq));go_wp2_with fail;go_region
       all_goals
        go_wp2
        (try go_ret)
        exact⟨by rw[kS.o];rfl,kZ.o.trans nt.o⟩
    .obtain rfl:k=kM.length:=a_;have kS:=Hd (HN.o (by have:=HS.o;rw[bi]at this;exact this));have c10:=(HD.o.kept kO.o).cell 10 _ rfl;have cz:=(HD.o.kept kO.o).lt;go_wp2
     (try go_ret)
     exact⟨by rw[kS.o];rfl,kZ.o.trans kO.o⟩
def zw1(o:Inl->Int->Bool->Bool->Int)(cl:Bs->Bool)(m:Nat)(b:Blo):Int :=
 if b.kind=1\/b.kind=2\/b.kind=12 then zH7 o m b
 else if b.kind=3 then(if lnB b.info=false\/trimB b.info=false\/zm5 b.text=false then 17 else 0)
 else if b.kind=4 then(if zm5 b.text=false then 17 else if cl b.text=true then 5 else atE b.id b.cls b.prs)
 else if b.kind=7 then(if b.kids=[]then 8 else 0)
 else if b.kind=8 then(if b.kids=[]then 8 else if b.level<0\/999999999<b.level then 9 else 0)
 else if b.kind=10 then zJt b
 else if b.kind=13\/b.kind=14 then(if za8 b.info=false then 6 else atE b.id b.cls b.prs)
 else if b.kind=15 then(if zgW b.info=false then 6 else if lnB b.dest=false\/lnB b.title=false then 17 else 0)
 else 0
def zFt(S:Nat->Prop)(o:Inl->Int->Bool->Bool->Int)(ho:OneC S o)(cl:Bs->Bool)(nf:∀(s:Bs) (w:World),s.length<=1000000->Calls prog 105 #[.string (bs s)] w fun e w'=>e=.returned (.bool (cl s))/\Kept w w')(m n:Nat)(b:Blo)(vC vP vL vK:Value)(w:World)(hp:ParB S m n w vC vP vL vK b)(mn:OkB b)(ld:1<=b.kind)(ll:b.kind<=15):Calls prog 70 #[.agg (zqQ b vC vP vL vK).toArray] w fun e w'=>e=.returned (.int .i64 (zw1 o cl m b))/\Kept w w':=by
 have Ge:=Hd (fun w' (k:Kept w w')=>zCC S o ho m n b vC vP vL vK w' ⟨hp.1.kept k,hp.2.1.kept k,hp.2.2.1.kept k,hp.2.2.2.kept k⟩ mn);have pI:=Hd (fun w' (k:Kept w w')=>zu8 S m n b vC vP vL vK w' ⟨hp.1.kept k,hp.2.1.kept k,hp.2.2.1.kept k,hp.2.2.2.kept k⟩ mn);have oR:=Hd nf;obtain⟨kL,kU,kW,kN,kP,title,id,cls,prs,kY,kM⟩:=b;obtain⟨hC,hP,hL,hK⟩:=hp;simp only[Blo.cls,Blo.prs,Blo.line,Blo.kids]at hC hP hL hK;obtain⟨aC,cC,rfl,lC⟩:=hC.form;obtain⟨aP,cP,rfl,lP⟩:=hP.form;obtain⟨aL,cL,rfl,lL⟩:=hL.form;obtain⟨aK,cK,rfl,lK⟩:=hK.form;obtain⟨⟨o1,o2,o3,o4,o5⟩,⟨o6,o7,o8⟩,o9,qS,qX,sg⟩:=mn;simp only[Blo.info,Blo.text,Blo.dest,Blo.title,Blo.id,Blo.cls,Blo.prs,Blo.line,Blo.kids]at o1 o2 o3 o4 o5 o6 o7 o8 o9 qS qX sg;have kZ:=Hd (zaA w (.cells #[.int .i64 kL,.int .i64 kU,.string (bs kW),.string (bs kN),.string (bs kP),.string (bs title),.string (bs id),.slice aC cls.length cC,.slice aP prs.length cP,.slice aL kY.length cL,.slice aK kM.length cK] 42));have HD:=Hd (aI w 42 #[.int .i64 kL,.int .i64 kU,.string (bs kW),.string (bs kN),.string (bs kP),.string (bs title),.string (bs id),.slice aC cls.length cC,.slice aP prs.length cP,.slice aL kY.length cL,.slice aK kM.length cK]);unfold zqQ at Ge pI;simp only[Blo.kind,Blo.level,Blo.info,Blo.text,Blo.dest,Blo.title,Blo.id]at Ge pI ld ll;have pd:=Hd (fun(s:Bs) w' (h:s.length<=1100000)=>zdN s w' a_);have qA:=Hd (fun(s:Bs) w' (h:s.length<=1100000)=>zeI s w' h);have zC:=Hd (fun(s:Bs) w' (h:s.length<=1100000)=>zm4 s w' h);have KA:=Hd (fun(s:Bs) w' (h:s.length<=1100000)=>zzH s w' h);have vI:=Hd (fun(s:Bs) w' (h:s.length<=1100000)=>(zjX s w' h).mono fun e w'' (q:_/\w'=w'')=>(⟨q.1,q.2 ▸ af _⟩:_/\Kept w' w''));have qP:Hi (∀w',Kept (w.alloc (.cells #[.int .i64 kL,.int .i64 kU,.string (bs kW),.string (bs kN),.string (bs kP),.string (bs title),.string (bs id),.slice aC cls.length cC,.slice aP prs.length cP,.slice aL kY.length cL,.slice aK kM.length cK] 42)) w'->Calls prog 106 #[.agg #[.string (bs id),.slice aC cls.length cC,.slice aP prs.length cP]] w' fun e w''=>e=.returned (.int .i64 (atE id cls prs))/\Kept w' w''):=fun w' k=>zf2 id cls prs _ _ w' (hC.kept (kZ.o.trans k)) (hP.kept (kZ.o.trans k)) a_ o6 o7 (fun s hs=>by have:=o9 s hs;omega) (fun p hp=>by have:=qS p hp;omega);have Iy:Hi (∀w',Kept (w.alloc (.cells #[.int .i64 kL,.int .i64 kU,.string (bs kW),.string (bs kN),.string (bs kP),.string (bs title),.string (bs id),.slice aC cls.length cC,.slice aP prs.length cP,.slice aL kY.length cL,.slice aK kM.length cK] 42)) w'->Calls prog 103 #[.agg #[.int .i64 kL,.int .i64 kU,.string (bs kW),.string (bs kN),.string (bs kP),.string (bs title),.string (bs id),.slice aC cls.length cC,.slice aP prs.length cP,.slice aL kY.length cL,.slice aK kM.length cK]] w' fun e w''=>e=.returned (.int .i64 (zH7 o m (.mk kL kU kW kN kP title id cls prs kY kM)))/\Kept w' w''):=fun w' k=>Ge.o w' (kZ.o.trans k);have uZ:Hi (∀w',Kept (w.alloc (.cells #[.int .i64 kL,.int .i64 kU,.string (bs kW),.string (bs kN),.string (bs kP),.string (bs title),.string (bs id),.slice aC cls.length cC,.slice aP prs.length cP,.slice aL kY.length cL,.slice aK kM.length cK] 42)) w'->Calls prog 107 #[.agg #[.int .i64 kL,.int .i64 kU,.string (bs kW),.string (bs kN),.string (bs kP),.string (bs title),.string (bs id),.slice aC cls.length cC,.slice aP prs.length cP,.slice aL kY.length cL,.slice aK kM.length cK]] w' fun e w''=>e=.returned (.int .i64 (zJt (.mk kL kU kW kN kP title id cls prs kY kM)))/\Kept w' w''):=fun w' k=>pI.o w' (kZ.o.trans k);obtain⟨R,HR⟩:=gX (zw1 o cl m (.mk kL kU kW kN kP title id cls prs kY kM));rw[HR.o];unfold zqQ;simp only[Blo.kind,Blo.level,Blo.info,Blo.text,Blo.dest,Blo.title,Blo.id];clear hC hP hL hK Ge pI nf;go_in;go_upto_region 1 with fail;generalize w.alloc _=w0 at *;generalize w.heap.size=D at *;have c0:=(HD.o.kept (af w0)).cell 0 _ rfl;have c1:=(HD.o.kept (af w0)).cell 1 _ rfl;have c2:=(HD.o.kept (af w0)).cell 2 _ rfl;have c3:=(HD.o.kept (af w0)).cell 3 _ rfl;have c4:=(HD.o.kept (af w0)).cell 4 _ rfl;have c5:=(HD.o.kept (af w0)).cell 5 _ rfl;have c6:=(HD.o.kept (af w0)).cell 6 _ rfl;have c7:=(HD.o.kept (af w0)).cell 7 _ rfl;have c8:=(HD.o.kept (af w0)).cell 8 _ rfl;have c9:=(HD.o.kept (af w0)).cell 9 _ rfl;have c10:=(HD.o.kept (af w0)).cell 10 _ rfl;have cz:=(HD.o.kept (af w0)).lt;rcases(show kL=1\/kL=2\/kL=3\/kL=4\/kL=5\/kL=6\/kL=7\/kL=8\/kL=9\/kL=10\/kL=11\/kL=12\/kL=13\/kL=14\/kL=15 by omega)with rfl|rfl|rfl|rfl|rfl|rfl|rfl|rfl|rfl|rfl|rfl|rfl|rfl|rfl|rfl
 .clear ld ll;have kS:Hi (R=zH7 o m (.mk 1 kU kW kN kP title id cls prs kY kM)):=HR.o.symm;go_wp2_with fail;refine k_ (Iy.o _ (af w0)) fun x1 hk=>?_;have kT:=Hd (dq (af w0) hk);clear hk;go_wp2
  (try go_ret)
  exact⟨by rw[kS.o];rfl,kZ.o.trans kT.o⟩
 .clear ld ll;have kS:Hi (R=zH7 o m (.mk 2 kU kW kN kP title id cls prs kY kM)):=HR.o.symm;go_wp2_with fail;refine k_ (Iy.o _ (af w0)) fun x1 hk=>?_;have kT:=Hd (dq (af w0) hk);clear hk;go_wp2
  (try go_ret)
  exact⟨by rw[kS.o];rfl,kZ.o.trans kT.o⟩
 .clear ld ll;have HR:Hi ((if lnB kW=false\/trimB kW=false\/zm5 kN=false then 17 else 0)=R):=HR.o;go_wp2_with fail;refine(pd.o kW _ a_).mono ?_;rintro e x1 ⟨rfl,hk⟩;have kT:=Hd (dq (af w0) hk);clear hk;clear c0 c1 c2 c3 c4 c5 c6 c7 c8 c9 c10 cz;have c2:=(HD.o.kept kT.o).cell 2 _ rfl;have c3:=(HD.o.kept kT.o).cell 3 _ rfl;have cz:=(HD.o.kept kT.o).lt;cases h1:lnB kW with
  | false =>
   have kS:Hi (R=17):=(by(show _=_;rw[<- HR.o];rw[ae (.inl h1)]));go_wp2
   (try go_ret)
   exact⟨by rw[kS.o];rfl,kZ.o.trans kT.o⟩
  | true =>
   go_wp2_with fail;refine(vI.o kW _ a_).mono ?_;rintro e x2 ⟨rfl,hk⟩;have kX:=Hd (dq kT.o hk);clear hk;clear c2 c3 cz;have c3:=(HD.o.kept kX.o).cell 3 _ rfl;have cz:=(HD.o.kept kX.o).lt;cases h2:trimB kW with
   | false =>
    have kS:Hi (R=17):=(by(show _=_;rw[<- HR.o];rw[ae (.inr (.inl h2))]));go_wp2
    (try go_ret)
    exact⟨by rw[kS.o];rfl,kZ.o.trans kX.o⟩
   | true =>
    go_wp2_with fail;refine(KA.o kN _ a_).mono ?_;rintro e x3 ⟨rfl,hk⟩;have lq:=Hd (dq kX.o hk);clear hk;cases h3:zm5 kN with
    | false =>
     have kS:Hi (R=17):=(by(show _=_;rw[<- HR.o];rw[ae (.inr (.inr h3))]));go_wp2
     (try go_ret)
     exact⟨by rw[kS.o];rfl,kZ.o.trans lq.o⟩
    | true =>
     have kS:Hi (R=0):=(by(show _=_;rw[<- HR.o];rw[aa (by rw[h1,h2,h3];simp)]));go_wp2
     (try go_ret)
     exact⟨by rw[kS.o];rfl,kZ.o.trans lq.o⟩
 .clear ld ll;have HR:Hi ((if zm5 kN=false then 17 else if cl kN=true then 5 else atE id cls prs)=R):=HR.o;go_wp2_with fail;refine(KA.o kN _ a_).mono ?_;rintro e x1 ⟨rfl,hk⟩;have kT:=Hd (dq (af w0) hk);clear hk;clear c0 c1 c2 c3 c4 c5 c6 c7 c8 c9 c10 cz;have c3:=(HD.o.kept kT.o).cell 3 _ rfl;have cz:=(HD.o.kept kT.o).lt;cases h1:zm5 kN with
  | false =>
   have kS:Hi (R=17):=(by(show _=_;rw[<- HR.o];rw[ae h1]));go_wp2
   (try go_ret)
   exact⟨by rw[kS.o];rfl,kZ.o.trans kT.o⟩
  | true =>
   go_wp2_with fail;refine(oR.o kN _ a_).mono ?_;rintro e x2 ⟨rfl,hk⟩;have kX:=Hd (dq kT.o hk);clear hk;clear c3 cz;have c6:=(HD.o.kept kX.o).cell 6 _ rfl;have c7:=(HD.o.kept kX.o).cell 7 _ rfl;have c8:=(HD.o.kept kX.o).cell 8 _ rfl;have cz:=(HD.o.kept kX.o).lt;cases h2:cl kN with
   | true =>
    have kS:Hi (R=5):=(by(show _=_;rw[<- HR.o];rw[aa (by rw[h1];simp),ae h2]));go_wp2
    (try go_ret)
    exact⟨by rw[kS.o];rfl,kZ.o.trans kX.o⟩
   | false =>
    have kS:Hi (R=atE id cls prs):=(by(show _=_;rw[<- HR.o,aa (by rw[h1];simp),aa (by rw[h2];simp)]));go_wp2_with fail;refine k_ (qP.o _ kX.o) fun x3 hk=>?_;have lq:=Hd (dq kX.o hk);clear hk;go_wp2
    (try go_ret)
    exact⟨by rw[kS.o];rfl,kZ.o.trans lq.o⟩
 .clear ld ll;have kS:Hi (R=0):=HR.o.symm;go_wp2
  (try go_ret)
  exact⟨by rw[kS.o];rfl,kZ.o.trans (af w0)⟩
 .clear ld ll;have kS:Hi (R=0):=HR.o.symm;go_wp2
  (try go_ret)
  exact⟨by rw[kS.o];rfl,kZ.o.trans (af w0)⟩
 .clear ld ll;have HR:Hi ((if kM=[]then 8 else 0)=R):=HR.o;by_cases h0:kM=[]
  .have b0:((kM.length:Int)==0)=true:=(by simp [h0]);have kS:Hi (R=8):=(by(show _=_;rw[<- HR.o];rw[ae h0]));go_wp2
   (try go_ret)
   exact⟨by rw[kS.o];rfl,kZ.o.trans (af w0)⟩
  have b0:((kM.length:Int)==0)=false:=(by simpa using h0);have kS:Hi (R=0):=(by(show _=_;rw[<- HR.o];rw[aa h0]));go_wp2
  (try go_ret)
  exact⟨by rw[kS.o];rfl,kZ.o.trans (af w0)⟩
 .clear ld ll;have HR:Hi ((if kM=[]then 8 else if kU<0\/999999999<kU then 9 else 0)=R):=HR.o;by_cases h0:kM=[]
  .have b0:((kM.length:Int)==0)=true:=(by simp [h0]);have kS:Hi (R=8):=(by(show _=_;rw[<- HR.o];rw[ae h0]));go_wp2
   (try go_ret)
   exact⟨by rw[kS.o];rfl,kZ.o.trans (af w0)⟩
  have b0:((kM.length:Int)==0)=false:=(by simpa using h0);rcases(show kU<0\/(0<=kU/\999999999<kU)\/(0<=kU/\kU<=999999999)by omega)with g|⟨g0,g⟩|⟨g0,g⟩
  .have kS:Hi (R=9):=(by(show _=_;rw[<- HR.o];rw[aa h0,ae (.inl g)]));go_wp2
   (try go_ret)
   exact⟨by rw[kS.o];rfl,kZ.o.trans (af w0)⟩
  .have g1:¬ kU<0:=a_;have kS:Hi (R=9):=(by(show _=_;rw[<- HR.o];rw[aa h0,ae (.inr g)]));go_wp2
   (try go_ret)
   exact⟨by rw[kS.o];rfl,kZ.o.trans (af w0)⟩
  .have g1:¬ kU<0:=a_;have g2:¬ 999999999<kU:=a_;have kS:Hi (R=0):=(by(show _=_;rw[<- HR.o];rw[aa h0,aa a_]));go_wp2
   (try go_ret)
   exact⟨by rw[kS.o];rfl,kZ.o.trans (af w0)⟩
 .clear ld ll;have kS:Hi (R=0):=HR.o.symm;go_wp2
  (try go_ret)
  exact⟨by rw[kS.o];rfl,kZ.o.trans (af w0)⟩
 .clear ld ll;have kS:Hi (R=zJt (.mk 10 kU kW kN kP title id cls prs kY kM)):=HR.o.symm;go_wp2_with fail;refine k_ (uZ.o _ (af w0)) fun x1 hk=>?_;have kT:=Hd (dq (af w0) hk);clear hk;go_wp2
  (try go_ret)
  exact⟨by rw[kS.o];rfl,kZ.o.trans kT.o⟩
 .clear ld ll;have kS:Hi (R=0):=HR.o.symm;go_wp2
  (try go_ret)
  exact⟨by rw[kS.o];rfl,kZ.o.trans (af w0)⟩
 .clear ld ll;have kS:Hi (R=zH7 o m (.mk 12 kU kW kN kP title id cls prs kY kM)):=HR.o.symm;go_wp2_with fail;refine k_ (Iy.o _ (af w0)) fun x1 hk=>?_;have kT:=Hd (dq (af w0) hk);clear hk;go_wp2
  (try go_ret)
  exact⟨by rw[kS.o];rfl,kZ.o.trans kT.o⟩
 .clear ld ll;have HR:Hi ((if za8 kW=false then 6 else atE id cls prs)=R):=HR.o;go_wp2_with fail;refine(qA.o kW _ a_).mono ?_;rintro e x1 ⟨rfl,hk⟩;have kT:=Hd (dq (af w0) hk);clear hk;clear c0 c1 c2 c3 c4 c5 c6 c7 c8 c9 c10 cz;have c6:=(HD.o.kept kT.o).cell 6 _ rfl;have c7:=(HD.o.kept kT.o).cell 7 _ rfl;have c8:=(HD.o.kept kT.o).cell 8 _ rfl;have cz:=(HD.o.kept kT.o).lt;cases h1:za8 kW with
  | false =>
   have kS:Hi (R=6):=(by(show _=_;rw[<- HR.o];rw[ae h1]));go_wp2
   (try go_ret)
   exact⟨by rw[kS.o];rfl,kZ.o.trans kT.o⟩
  | true =>
   have kS:Hi (R=atE id cls prs):=(by(show _=_;rw[<- HR.o,aa (by rw[h1];simp)]));go_wp2_with fail;refine k_ (qP.o _ kT.o) fun x2 hk=>?_;have kX:=Hd (dq kT.o hk);clear hk;go_wp2
   (try go_ret)
   exact⟨by rw[kS.o];rfl,kZ.o.trans kX.o⟩
 .clear ld ll;have HR:Hi ((if za8 kW=false then 6 else atE id cls prs)=R):=HR.o;go_wp2_with fail;refine(qA.o kW _ a_).mono ?_;rintro e x1 ⟨rfl,hk⟩;have kT:=Hd (dq (af w0) hk);clear hk;clear c0 c1 c2 c3 c4 c5 c6 c7 c8 c9 c10 cz;have c6:=(HD.o.kept kT.o).cell 6 _ rfl;have c7:=(HD.o.kept kT.o).cell 7 _ rfl;have c8:=(HD.o.kept kT.o).cell 8 _ rfl;have cz:=(HD.o.kept kT.o).lt;cases h1:za8 kW with
  | false =>
   have kS:Hi (R=6):=(by(show _=_;rw[<- HR.o];rw[ae h1]));go_wp2
   (try go_ret)
   exact⟨by rw[kS.o];rfl,kZ.o.trans kT.o⟩
  | true =>
   have kS:Hi (R=atE id cls prs):=(by(show _=_;rw[<- HR.o,aa (by rw[h1];simp)]));go_wp2_with fail;refine k_ (qP.o _ kT.o) fun x2 hk=>?_;have kX:=Hd (dq kT.o hk);clear hk;go_wp2
   (try go_ret)
   exact⟨by rw[kS.o];rfl,kZ.o.trans kX.o⟩
 .clear ld ll;have HR:Hi ((if zgW kW=false then 6 else if lnB kP=false\/lnB title=false then 17 else 0)=R):=HR.o;go_wp2_with fail;refine(zC.o kW _ a_).mono ?_;rintro e x1 ⟨rfl,hk⟩;have kT:=Hd (dq (af w0) hk);clear hk;clear c0 c1 c2 c3 c4 c5 c6 c7 c8 c9 c10 cz;have c4:=(HD.o.kept kT.o).cell 4 _ rfl;have c5:=(HD.o.kept kT.o).cell 5 _ rfl;have cz:=(HD.o.kept kT.o).lt;cases h1:zgW kW with
  | false =>
   have kS:Hi (R=6):=(by(show _=_;rw[<- HR.o];rw[ae h1]));go_wp2
   (try go_ret)
   exact⟨by rw[kS.o];rfl,kZ.o.trans kT.o⟩
  | true =>
   go_wp2_with fail;refine(pd.o kP _ a_).mono ?_;rintro e x2 ⟨rfl,hk⟩;have kX:=Hd (dq kT.o hk);clear hk;clear c4 c5 cz;have c5:=(HD.o.kept kX.o).cell 5 _ rfl;have cz:=(HD.o.kept kX.o).lt;cases h2:lnB kP with
   | false =>
    have kS:Hi (R=17):=(by(show _=_;rw[<- HR.o];rw[aa (by rw[h1];simp),ae (.inl h2)]));go_wp2
    (try go_ret)
    exact⟨by rw[kS.o];rfl,kZ.o.trans kX.o⟩
   | true =>
    go_wp2_with fail;refine(pd.o title _ a_).mono ?_;rintro e x3 ⟨rfl,hk⟩;have lq:=Hd (dq kX.o hk);clear hk;cases h3:lnB title with
    | false =>
     have kS:Hi (R=17):=(by(show _=_;rw[<- HR.o];rw[aa (by rw[h1];simp),ae (.inr h3)]));go_wp2
     (try go_ret)
     exact⟨by rw[kS.o];rfl,kZ.o.trans lq.o⟩
    | true =>
     have kS:Hi (R=0):=(by(show _=_;rw[<- HR.o];rw[aa (by rw[h1];simp),aa (by rw[h2,h3];simp)]));go_wp2
     (try go_ret)
     exact⟨by rw[kS.o];rfl,kZ.o.trans lq.o⟩
def zw2(xs ys:List Blo):zcE (xs++ys)=zcE xs+zcE ys:=by
 unfold zcE;rw[zgV,zi5,ah,ah];omega
def zu9(xs:List Blo)(k:Nat):zcE (xs.take k)<=zcE xs:=by
 have h:=zw2 (xs.take k) (xs.drop k);rw[ce]at h;omega
def zIb(xs:List Blo):∀k,k<=xs.length->k<=zcE (xs.take k):=by
 intro k
 induction k with
 | zero=>intro _;omega
 | succ k ih =>
  intro hk;have hx:xs[k]? = some xs[k]:=ac a_;have:=zm1 hx;have:=ih a_;omega
def zw3(xs:List Blo):xs.length<=zcE xs:=by
 have h:=zIb xs xs.length (aw _)
 rwa [bi]at h
def zvA(S:Nat->Prop)(m:Nat):∀(n:Nat) (xs:List Blo) (v:Value) (w:World),Bls S m n w v xs->zcE xs<=1000000->Calls prog 30 #[v] w fun e w'=>e=.returned (.int .i64 (zcE xs:Nat))/\Kept w w':=by
 intro n
 induction n with
 | zero =>
  intro xs v w hv nX;obtain rfl:xs=[]:=hv.1;obtain⟨a,c,rfl,hc⟩:=hv.form;have HR:Hi (zcE []=0):=rfl;rw[HR.o];clear hv;go_in;go_wp2_with fail;go_loopw [3,4] (fun b i wr=>b=.int .i64 0/\i=.int .i64 0/\w=wr) (fun _ i _=>1)
  .exact⟨rfl,rfl,rfl⟩
  case round =>
   obtain⟨rfl,rfl,rfl⟩:=hrel;go_wp2
   (try go_ret)
   exact⟨rfl,af _⟩
 | succ n ih =>
  intro xs v w hv nX;have HV:=Hd hv;have nD:=Hd ih;have hxl:xs.length<=1000000:=bC (zw3 xs) nX;obtain⟨a,c,rfl,hc⟩:=hv.form;obtain⟨R,HR⟩:=gX (zcE xs);have HT0:Hi (∀(k:Nat) (x:Blo),xs[k]? = some x->zcE (xs.take (k+1))=zcE (xs.take k)+1+(zaD x.line).length+zcE x.kids):=fun k x hx=>zm1 hx;have rr:Hi (∀k,zcE (xs.take k)<=R):=fun k=>(by rw[<- HR.o];exact zu9 xs k);have sF:Hi (zcE (xs.take xs.length)=R):=(by show _=_;rw[bi];exact HR.o);rw[HR.o]at nX ⊢;clear hv ih;go_in;go_wp2_with fail;go_loopw [3,4] (fun b i wr=>∃(k t:Nat),k<=xs.length/\i=.int .i64 k/\b=.int .i64 t/\t<=3000000/\Hi (t=zcE (xs.take k)+(xs.length - k))/\Hi (Kept w wr)) (fun _ i _=>xs.length - (intOf i).toNat)
  .exact⟨0,xs.length,ai _,rfl,rfl,a_,(by show _=_;rw[cH];show _=0+_;omega),af _⟩
  case round =>
   obtain⟨k,t,hk,rfl,rfl,hm,HM,kO⟩:=hrel;by_cases kV:k<xs.length
   .obtain⟨x,hx⟩:∃x,xs[k]? = some x:=⟨_,ac kV⟩;have hT:=HT0.o k x hx;have h1:=rr.o (k+1);have h2:=rr.o k;have nt:Hi (Kept wr wr.drew):=zaB wr 1;obtain⟨g,Aa,vC,vP,vL,vK,rfl,hg,qC,-,-,⟨d0,d1,d2,d3,d4,d5,d6,d7,d8,d9,ui⟩,-,-,-,hL,hK⟩:=gQ (HV.o.kept (kO.o.trans nt.o)) k x hx;have Ac:Hi (∀w',Kept wr.drew w'->Calls prog 64 #[vL] w' fun e w''=>e=.returned (.int .i64 ((zaD x.line).length:Nat))/\Kept w' w''):=fun w' kk=>zu3 S m x.line vL w' (hL.kept kk) a_;have DY:Hi (∀w',Kept wr.drew w'->Calls prog 30 #[vK] w' fun e w''=>e=.returned (.int .i64 (zcE x.kids:Nat))/\Kept w' w''):=fun w' kk=>nD.o x.kids vK w' (hK.kept kk) a_;obtain⟨p,HP⟩:=gX ((zaD x.line).length);obtain⟨q,HQ⟩:=gX (zcE x.kids);rw[HP.o]at hT Ac;rw[HQ.o]at hT DY;have Iv:t+(p+q)<=3000000:=(by have:=HM.o;omega);have hpq:p+q<=3000000:=a_;have nQ:Hi (t+(p+q)=zcE (xs.take (k+1))+(xs.length - (k+1))):=(by show _=_;have:=HM.o;omega);have nH:=Hd (fun w' (kk:Kept wr.drew w')=>And.intro ((kk.cell (p:=⟨g,Aa+k * 11+9,none⟩) hg).trans d9) (And.intro ((kk.cell (p:=⟨g,Aa+k * 11+10,none⟩) hg).trans ui) (aU hg kk.size)));clear hx hK hL h1 h2 hT HM d0 d1 d2 d3 d4 d5 d6 d7 d8 HQ HP;go_wp2_with fail
    go_region_law (first
     | (go_simp;go_at_call 64;refine(Ac.o _ (by first|exact af _|assumption)).mono ?_;rintro e wa ⟨rfl,lj⟩;obtain⟨e9,e10,eg⟩:=nH.o wa (by first|exact lj|exact dq hkb lj))
     | (go_simp;go_at_call 30;refine(DY.o _ (by first|exact af _|assumption)).mono ?_;rintro e wb ⟨rfl,hkb⟩;obtain⟨f9,f10,fg⟩:=nH.o wb (by first|exact hkb|exact dq lj hkb)))
    all_goals
     have oD:=Hd (by first|exact nt.o.trans (dq lj hkb)|exact nt.o.trans (dq hkb lj))
     (try clear lj)
     (try clear hkb)
     (try clear e9 e10 eg)
     (try clear f9 f10 fg)
     go_wp2;go_roundw
     .exact⟨k+1,t+(p+q),a_,by go_num,by go_num,Iv,nQ.o,kO.o.trans oD.o⟩
     .simp [intOf];omega
   .obtain rfl:k=xs.length:=a_;obtain rfl:t=R:=(by have:=HM.o;rw[sF.o]at this;omega);go_wp2
    (try go_ret)
    exact⟨rfl,kO.o⟩
def zzI(S:Nat->Prop)(m n:Nat)(vM vB:Value)(xs:List Blo)(w:World)(hB:Bls S m n w vB xs)(nX:zcE xs<=1000000):Calls prog 12 #[.agg #[vM,vB]] w fun e w'=>e=.returned (.int .i64 (zcE xs:Nat))/\Kept w w':=by
 obtain⟨aB,cB,rfl,lB⟩:=hB.form;have HB:=Hd (aI w 25 #[vM,.slice aB xs.length cB]);have lj:=zaA w (.cells #[vM,.slice aB xs.length cB] 25);have DY:=Hd (zvA S m n xs _ _ (hB.kept lj) nX);have kZ:=Hd lj;have b1:=HB.o.cell 1 _ rfl;have bz:=HB.o.lt;clear hB lj;go_in;go_wp2_with fail;refine k_ DY.o fun w1 ld=>?_;have kT:=Hd (kZ.o.trans ld);clear ld DY;go_wp2
 (try go_ret)
 exact⟨rfl,kT.o⟩
def zCO(fB:Blo->Bool)(it:Blo->Int)(f:Int->List Blo->Int)(d:Nat)(inn:Int):List Blo->Int
 | []=>0
 | b::r=>if 15<d then 11 else if fB b=false\/zd6 b.kind inn=false then 5 else if it b≠0 then it b else if f b.kind b.kids≠0 then f b.kind b.kids else zCO fB it f d inn r
def zqC(fB:Blo->Bool)(it:Blo->Int):Nat->Nat->Int->List Blo->Int
 | 0,_,_,_=>0
 | n+1,d,inn,xs=>zCO fB it (zqC fB it n (d+1)) d inn xs
def zIc{fB:Blo->Bool}{it:Blo->Int}{f:Int->List Blo->Int}{d:Nat}{inn:Int}{xs:List Blo}{k:Nat}{b:Blo}(h:xs[k]? = some b):zCO fB it f d inn (xs.drop k)=if 15<d then 11 else if fB b=false\/zd6 b.kind inn=false then 5 else if it b≠0 then it b else if f b.kind b.kids≠0 then f b.kind b.kids else zCO fB it f d inn (xs.drop (k+1)):=by
 obtain⟨hk,rfl⟩:=ak.1 h;rw[aJ hk,zCO]
def BlfC(S:Nat->Prop)(m:Nat)(fB:Blo->Bool):Prop:=(∀b,fB b=true->1<=b.kind/\b.kind<=15)/\∀(n:Nat) (b:Blo) (vC vP vL vK:Value) (w:World),ParB S m n w vC vP vL vK b->OkB b ->
  Calls prog 68 #[.agg (zqQ b vC vP vL vK).toArray] w fun e w'=>e=.returned (.bool (fB b))/\Kept w w'
def ItsC(S:Nat->Prop)(m:Nat)(it:Blo->Int):Prop:=∀(n:Nat) (b:Blo) (vC vP vL vK:Value) (w:World),ParB S m n w vC vP vL vK b->OkB b->1<=b.kind->b.kind<=15 ->
  Calls prog 70 #[.agg (zqQ b vC vP vL vK).toArray] w fun e w'=>e=.returned (.int .i64 (it b))/\Kept w w'
def zvB(S:Nat->Prop)(m:Nat)(fB:Blo->Bool)(hB:BlfC S m fB)(it:Blo->Int)(hI:ItsC S m it):∀(n:Nat) (xs:List Blo) (v:Value) (d:Nat) (inn:Int) (w:World),Bls S m n w v xs->d<=16->zcE xs<=1000000->(∀b∈zaQ xs,OkB b)->Calls prog 34 #[v,.int .i64 inn,.int .i64 d] w fun e w'=>e=.returned (.int .i64 (zqC fB it n d inn xs))/\Kept w w':=by
 intro n
 induction n with
 | zero =>
  intro xs v d inn w hv hd nX hf;obtain rfl:xs=[]:=hv.1;obtain⟨a,c,rfl,hc⟩:=hv.form;have HR:Hi (zqC fB it 0 d inn []=0):=rfl;clear hv hB hI;go_in;go_wp2_with fail;go_loopw [7] (fun i wr=>i=.int .i64 0/\w=wr) (fun i _=>1)
  .exact⟨rfl,rfl⟩
  case round =>
   obtain⟨rfl,rfl⟩:=hrel;go_wp2
   (try go_ret)
   exact⟨by rw[HR.o];rfl,af _⟩
 | succ n ih =>
  intro xs v d inn w hv hd nX hf;have HV:=Hd hv;have nD:=Hd ih;have HF:=Hd hf;have KB:=Hd hB;have pW:=Hd hI;have hxl:xs.length<=1000000:=bC (zw3 xs) nX;have vG:Hi (∀(k:Nat) (b:Blo),xs[k]? = some b->zcE b.kids<=1000000):=fun k b hb=>(by have h1:=zm1 hb;have h2:=zu9 xs (k+1);omega);obtain⟨a,c,rfl,hc⟩:=hv.form;obtain⟨R,HR⟩:=gX (zqC fB it (n+1) d inn xs);rw[HR.o];obtain⟨f,uf⟩:=gX (zqC fB it n (d+1));have oI:Hi (zCO fB it f d inn (xs.drop 0)=R):=(by show _=_;rw[<- uf.o];exact HR.o);clear hv ih hf hB hI nX HR;go_in;go_wp2_with fail;go_loopw [7] (fun i wr=>∃(k:Nat),k<=xs.length/\i=.int .i64 k/\Hi (zCO fB it f d inn (xs.drop k)=R)/\Hi (Kept w wr)) (fun i _=>xs.length - (intOf i).toNat)
  .exact⟨0,ai _,rfl,oI.o,af _⟩
  case round =>
   clear oI;obtain⟨k,hk,rfl,HS,kO⟩:=hrel;by_cases kV:k<xs.length
   .obtain⟨b,hb⟩:∃b,xs[k]? = some b:=⟨_,ac kV⟩;have lG:=Hd (zIc (fB:=fB) (it:=it) (f:=f) (d:=d) (inn:=inn) hb);rw[HS.o]at lG;have lG:=Hd lG.o.symm;have hmb:=zjB (am hb);have Iz:=HF.o b hmb.1;have qa:Hi (∀y∈zaQ b.kids,OkB y):=fun y hy=>HF.o y (hmb.2 y hy);have hsk:=vG.o k b hb;obtain⟨g,Aa,vC,vP,vL,vK,rfl,hg,qC,-,-,⟨d0,d1,d2,d3,d4,d5,d6,d7,d8,d9,ui⟩,-,⟨hC,-⟩,⟨hP,-⟩,hL,hK⟩:=gQ (HV.o.kept kO.o) k b hb;have CA:Hi (∀w',Kept wr w'->ParB S m n w' vC vP vL vK b):=fun w' kk=>⟨hC.kept kk,hP.kept kk,hL.kept kk,hK.kept kk⟩;have ma:=Hd (fun w' (kk:Kept wr w')=>KB.o.2 n b vC vP vL vK w' (CA.o w' kk) Iz);have HI1:=Hd (fun w' (kk:Kept wr w') h1 h2=>pW.o n b vC vP vL vK w' (CA.o w' kk) Iz h1 h2);have qy:=Hd (KB.o.1 b);have pQ:Hi (∀w',Kept wr w'->d<=15->Calls prog 34 #[vK,.int .i64 b.kind,.int .i64 ((d:Int)+1)] w' fun e w''=>e=.returned (.int .i64 (f b.kind b.kids))/\Kept w' w''):=fun w' kk hd'=>by
     have h:=nD.o b.kids vK (d+1) b.kind w' (hK.kept kk) a_ hsk qa.o;rw[uf.o,show(((d+1:Nat)):Int)=(d:Int)+1 by omega]at h;exact h
    obtain⟨fb,tc⟩:∃z,Hi (fB b=z):=⟨_,rfl⟩;obtain⟨ib,pH⟩:∃z,Hi (it b=z):=⟨_,rfl⟩;obtain⟨kb,oa⟩:∃z,Hi (f b.kind b.kids=z):=⟨_,rfl⟩;rw[tc.o,pH.o,oa.o]at lG;rw[tc.o]at ma qy;rw[pH.o]at HI1;rw[oa.o]at pQ;unfold zqQ at ma HI1;obtain⟨aC,cC,rfl,lC⟩:=hC.form;obtain⟨aP,cP,rfl,lP⟩:=hP.form;obtain⟨aL,cL,rfl,lL⟩:=hL.form;obtain⟨aK,cK,rfl,lK⟩:=hK.form;clear hb hmb Iz hsk qa CA hC hP hL hK qC HS tc pH oa;obtain⟨kL,kU,kW,kN,kP,title,id,cls,prs,kY,kM⟩:=b;simp only[Blo.kind,Blo.level,Blo.info,Blo.text,Blo.dest,Blo.title,Blo.id,Blo.cls,Blo.prs,Blo.line,Blo.kids]at d0 d1 d2 d3 d4 d5 d6 d7 d8 d9 ui ma HI1 pQ qy lC lP lL lK;have pq:Hi ((if 15<d then 11 else if fb=false\/zd6 kL inn=false then 5 else if ib≠0 then ib else if kb≠0 then kb else zCO fB it f d inn (xs.drop (k+1)))=R):=lG.o;clear lG;have lG:=pq;clear pq;have lj:=zaA wr (.cells #[.int .i64 kL,.int .i64 kU,.string (bs kW),.string (bs kN),.string (bs kP),.string (bs title),.string (bs id),.slice aC cls.length cC,.slice aP prs.length cP,.slice aL kY.length cL,.slice aK kM.length cK] 42);have HD:=Hd (aI wr 42 #[.int .i64 kL,.int .i64 kU,.string (bs kW),.string (bs kN),.string (bs kP),.string (bs title),.string (bs id),.slice aC cls.length cC,.slice aP prs.length cP,.slice aL kY.length cL,.slice aK kM.length cK]);have lx:Hi (Calls prog 68 #[.agg #[.int .i64 kL,.int .i64 kU,.string (bs kW),.string (bs kN),.string (bs kP),.string (bs title),.string (bs id),.slice aC cls.length cC,.slice aP prs.length cP,.slice aL kY.length cL,.slice aK kM.length cK]] (wr.alloc (.cells #[.int .i64 kL,.int .i64 kU,.string (bs kW),.string (bs kN),.string (bs kP),.string (bs title),.string (bs id),.slice aC cls.length cC,.slice aP prs.length cP,.slice aL kY.length cL,.slice aK kM.length cK] 42)) fun e w''=>e=.returned (.bool fb)/\Kept (wr.alloc (.cells #[.int .i64 kL,.int .i64 kU,.string (bs kW),.string (bs kN),.string (bs kP),.string (bs title),.string (bs id),.slice aC cls.length cC,.slice aP prs.length cP,.slice aL kY.length cL,.slice aK kM.length cK] 42)) w''):=ma.o _ lj;have HI2:Hi (∀w',Kept (wr.alloc (.cells #[.int .i64 kL,.int .i64 kU,.string (bs kW),.string (bs kN),.string (bs kP),.string (bs title),.string (bs id),.slice aC cls.length cC,.slice aP prs.length cP,.slice aL kY.length cL,.slice aK kM.length cK] 42)) w'->1<=kL->kL<=15->Calls prog 70 #[.agg #[.int .i64 kL,.int .i64 kU,.string (bs kW),.string (bs kN),.string (bs kP),.string (bs title),.string (bs id),.slice aC cls.length cC,.slice aP prs.length cP,.slice aL kY.length cL,.slice aK kM.length cK]] w' fun e w''=>e=.returned (.int .i64 ib)/\Kept w' w''):=fun w' kk h1 h2=>HI1.o w' (lj.trans kk) h1 h2;have kX:Hi (∀w',Kept (wr.alloc (.cells #[.int .i64 kL,.int .i64 kU,.string (bs kW),.string (bs kN),.string (bs kP),.string (bs title),.string (bs id),.slice aC cls.length cC,.slice aP prs.length cP,.slice aL kY.length cL,.slice aK kM.length cK] 42)) w'->d<=15->Calls prog 34 #[.slice aK kM.length cK,.int .i64 kL,.int .i64 ((d:Int)+1)] w' fun e w''=>e=.returned (.int .i64 kb)/\Kept w' w''):=fun w' kk h=>pQ.o w' (lj.trans kk) h;have kZ:=Hd (kO.o.trans lj);have sb:=Hd (fun w'=>zu2 kL inn w');clear lj ma HI1 pQ kO;go_upto_region 5 with fail;generalize wr.alloc _=w0 at *;generalize wr.heap.size=D at *;clear d0 d1 d2 d3 d4 d5 d6 d7 d8 d9 ui hg;by_cases wv:15<d
    .have kS:Hi (R=11):=(by(show _=_;rw[<- lG.o,ae wv]));have hdi:(15:Int)<(d:Int):=a_;go_wp2
     (try go_ret)
     exact⟨by rw[kS.o];rfl,kZ.o⟩
    have pq:=Hd ((aa wv).symm.trans lG.o);clear lG;have lG:=pq;clear pq;have hdi:(d:Int)<=15:=a_;have c0:=(HD.o.kept (af w0)).cell 0 _ rfl;have c1:=(HD.o.kept (af w0)).cell 1 _ rfl;have c2:=(HD.o.kept (af w0)).cell 2 _ rfl;have c3:=(HD.o.kept (af w0)).cell 3 _ rfl;have c4:=(HD.o.kept (af w0)).cell 4 _ rfl;have c5:=(HD.o.kept (af w0)).cell 5 _ rfl;have c6:=(HD.o.kept (af w0)).cell 6 _ rfl;have c7:=(HD.o.kept (af w0)).cell 7 _ rfl;have c8:=(HD.o.kept (af w0)).cell 8 _ rfl;have c9:=(HD.o.kept (af w0)).cell 9 _ rfl;have c10:=(HD.o.kept (af w0)).cell 10 _ rfl;have cz:=(HD.o.kept (af w0)).lt;go_wp2_with fail;refine k_ lx.o fun w1 ld=>?_;have kT:=Hd ld;clear ld lx;clear c0 c1 c2 c3 c4 c5 c6 c7 c8 c9 c10 cz;by_cases CF:fb=false
    .rw[CF];have kS:Hi (R=5):=(by(show _=_;rw[<- lG.o];rw[ae (Or.inl CF)]));go_wp2
     (try go_ret)
     exact⟨by rw[kS.o];rfl,kZ.o.trans kT.o⟩
    .have hft:fb=true:=(by simpa using CF);rw[hft];obtain⟨g1,g2⟩:=qy.o hft;have c0:=(HD.o.kept kT.o).cell 0 _ rfl;have c1:=(HD.o.kept kT.o).cell 1 _ rfl;have c2:=(HD.o.kept kT.o).cell 2 _ rfl;have c3:=(HD.o.kept kT.o).cell 3 _ rfl;have c4:=(HD.o.kept kT.o).cell 4 _ rfl;have c5:=(HD.o.kept kT.o).cell 5 _ rfl;have c6:=(HD.o.kept kT.o).cell 6 _ rfl;have c7:=(HD.o.kept kT.o).cell 7 _ rfl;have c8:=(HD.o.kept kT.o).cell 8 _ rfl;have c9:=(HD.o.kept kT.o).cell 9 _ rfl;have c10:=(HD.o.kept kT.o).cell 10 _ rfl;have cz:=(HD.o.kept kT.o).lt;go_wp2_with fail;refine(sb.o _).mono ?_;rintro e w2 ⟨rfl,rfl⟩;by_cases hpl:zd6 kL inn=false
     .rw[hpl];have kS:Hi (R=5):=(by(show _=_;rw[<- lG.o];rw[ae (Or.inr hpl)]));go_wp2
      (try go_ret)
      exact⟨by rw[kS.o];rfl,kZ.o.trans kT.o⟩
     have hpt:zd6 kL inn=true:=(by simpa using hpl);rw[hpt];have pq:=Hd ((aa (fun q=>q.elim CF hpl)).symm.trans lG.o);clear lG;have lG:=pq;clear pq;go_wp2_with fail;refine k_ (HI2.o _ kT.o g1 g2) fun w3 li=>?_;have lq:=Hd (kT.o.trans li);clear li;clear c0 c1 c2 c3 c4 c5 c6 c7 c8 c9 c10 cz;by_cases he:ib=0
     case neg =>
      have hz:(ib==0)=false:=(by rw[ab];exact he);have hzn:(ib != 0)=true:=(by rw[dd];exact he);have kS:Hi (R=ib):=(by(show _=_;rw[<- lG.o];rw[ae he]));go_wp2
      (try go_ret)
      exact⟨by rw[kS.o];rfl,kZ.o.trans lq.o⟩
     rw[he];have pq:=Hd ((aa (fun q=>q he)).symm.trans lG.o);clear lG;have lG:=pq;clear pq;have c0:=(HD.o.kept lq.o).cell 0 _ rfl;have c1:=(HD.o.kept lq.o).cell 1 _ rfl;have c2:=(HD.o.kept lq.o).cell 2 _ rfl;have c3:=(HD.o.kept lq.o).cell 3 _ rfl;have c4:=(HD.o.kept lq.o).cell 4 _ rfl;have c5:=(HD.o.kept lq.o).cell 5 _ rfl;have c6:=(HD.o.kept lq.o).cell 6 _ rfl;have c7:=(HD.o.kept lq.o).cell 7 _ rfl;have c8:=(HD.o.kept lq.o).cell 8 _ rfl;have c9:=(HD.o.kept lq.o).cell 9 _ rfl;have c10:=(HD.o.kept lq.o).cell 10 _ rfl;have cz:=(HD.o.kept lq.o).lt;go_wp2_with fail;refine(kX.o _ lq.o a_).mono ?_;rintro e w4 ⟨rfl,mu⟩;have mg:=Hd (lq.o.trans mu);clear mu;clear c0 c1 c2 c3 c4 c5 c6 c7 c8 c9 c10 cz;by_cases hq:kb=0
     case neg =>
      have hz:(kb==0)=false:=(by rw[ab];exact hq);have hzn:(kb != 0)=true:=(by rw[dd];exact hq);have kS:Hi (R=kb):=(by(show _=_;rw[<- lG.o];rw[ae hq]));go_wp2
      (try go_ret)
      exact⟨by rw[kS.o];rfl,kZ.o.trans mg.o⟩
     rw[hq];have mb:Hi (zCO fB it f d inn (xs.drop (k+1))=R):=(aa (fun q=>q hq)).symm.trans lG.o;go_wp2;go_roundw
     .exact⟨k+1,a_,by go_num,mb.o,kZ.o.trans mg.o⟩
     .simp [intOf];omega
   .obtain rfl:k=xs.length:=a_;have kS:Hi (R=0):=(by show _=_;rw[<- HS.o,du];rfl);go_wp2
    (try go_ret)
    exact⟨by rw[kS.o];rfl,kO.o⟩
def zCP(S:Nat->Prop)(m:Nat)(fB:Blo->Bool)(hB:BlfC S m fB)(it:Blo->Int)(hI:ItsC S m it)(n:Nat)(xs:List Blo)(v:Value)(w:World)(hv:Bls S m n w v xs)(nX:zcE xs<=1000000)(hf:∀b∈zaQ xs,OkB b):Calls prog 16 #[v] w fun e w'=>e=.returned (.int .i64 (zqC fB it n 0 0 xs))/\Kept w w':=by
 have HL:Hi (Calls prog 34 #[v,.int .i64 0,.int .i64 0] w fun e w'=>e=.returned (.int .i64 (zqC fB it n 0 0 xs))/\Kept w w'):=zvB S m fB hB it hI n xs v 0 0 w hv a_ nX hf;generalize zqC fB it n 0 0 xs=R at *;obtain⟨a,c,rfl,hc⟩:=hv.form;clear hv hf hB hI;go_in;go_wp2_with fail;refine k_ HL.o fun w1 ld=>?_;have kT:=Hd ld;clear ld HL;go_wp2
 (try go_ret)
 exact⟨rfl,kT.o⟩
end Go.Proofs.YtnldgmhdjancbaaGreatDoor
