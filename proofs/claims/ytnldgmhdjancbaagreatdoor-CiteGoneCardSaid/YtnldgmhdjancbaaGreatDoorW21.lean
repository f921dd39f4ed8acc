/- Parts. -/
import Derived.Test.YtnldgmhdjancbaaGreatDoorW20
set_option linter.all false
set_option maxRecDepth 100000
set_option maxHeartbeats 25600000
namespace Go.Proofs.YtnldgmhdjancbaaGreatDoor
open Go.RowKit
def mtG:List Pr->List Pr->Int
 | _,[]=>0
 | d,p::r=>if za8 p.1=false then 6 else if lnB p.2=false\/trimB p.2=false then 17 else if(d.map (·.1)).contains p.1=true then 7 else mtG (d++[p]) r
def zJu{l:List Pr}{k:Nat}{y z:Bs}(h:l[k]? = some (y,z)):mtG (l.take k) (l.drop k)=if za8 y=false then 6 else if lnB z=false\/trimB z=false then 17 else if((l.take k).map (·.1)).contains y=true then 7 else mtG (l.take (k+1)) (l.drop (k+1)):=by
 obtain⟨hk,e⟩:=ak.1 h;rw[aJ hk,zaV h,e];rfl
def zId(be:Int)(ms:List Pr)(xs:List Blo):Int:=if 32768<zcE xs\/64<ms.length then 3 else if mtG [] ms≠0 then mtG [] ms else be
def zFu(S:Nat->Prop)(m:Nat)(fB:Blo->Bool)(hB:BlfC S m fB)(it:Blo->Int)(hI:ItsC S m it)(n:Nat)(ms:List Pr)(xs:List Blo)(vM vB:Value)(w:World)(hM:Prs w vM ms)(hv:Bls S m n w vB xs)(nX:zcE xs<=1000000)(hf:∀b∈zaQ xs,OkB b)(zx:ms.length<=1000000)(hms:∀p∈ms,p.1.length<=1000000/\p.2.length<=1000000):Calls Tryz.prog 6 #[.agg #[vM,vB]] w fun e w'=>e=.returned (.int .i64 (zId (zqC fB it n 0 0 xs) ms xs))/\Kept w w':=by
 obtain⟨aM,cM,rfl,lM⟩:=hM.form;obtain⟨aB,cB,rfl,lB⟩:=hv.form;have HD:=Hd (aI w 25 #[.slice aM ms.length cM,.slice aB xs.length cB]);have kZ:=Hd (zaA w (.cells #[.slice aM ms.length cM,.slice aB xs.length cB] 25));have HM:=Hd (hM.kept kZ.o);have vt:=Hd hms;have CO:=Hd (zzI S m n (.slice aM ms.length cM) (.slice aB xs.length cB) xs _ (hv.kept kZ.o) nX);have Bu:=Hd (fun w' (k:Kept w w')=>zCP S m fB hB it hI n xs (.slice aB xs.length cB) w' (hv.kept k) nX hf);have qA:=Hd (fun(s:Bs) w' (h:s.length<=1100000)=>zeI s w' h);have pd:=Hd (fun(s:Bs) w' (h:s.length<=1100000)=>zdN s w' a_);have vI:=Hd (fun(s:Bs) w' (h:s.length<=1100000)=>zjX s w' h);obtain⟨BE,ry⟩:∃z,Hi (zqC fB it n 0 0 xs=z):=⟨_,rfl⟩;rw[ry.o]at Bu ⊢;obtain⟨R,HR⟩:=gX (zId BE ms xs);rw[HR.o];unfold zId at HR;obtain⟨sz,CK⟩:∃z,Hi (zcE xs=z):=⟨_,rfl⟩;rw[CK.o]at HR CO nX;clear hM hv hf hB hI hms;go_in;go_upto_region 1 with fail;generalize w.alloc _=w0 at *;obtain⟨D,vn⟩:=gX w.heap.size;rw[vn.o]at HD ⊢;have c0:=HD.o.cell 0 _ rfl;have c1:=HD.o.cell 1 _ rfl;have cz:=HD.o.lt;go_wp2_with fail;refine k_ CO.o fun w1 ld=>?_;have kT:=Hd ld;clear ld CO c0 c1 cz;have c0:=(HD.o.kept kT.o).cell 0 _ rfl;have cz:=(HD.o.kept kT.o).lt;by_cases h1:32768<sz
 .have kS:Hi (R=3):=(by(show _=_;rw[<- HR.o,ae (Or.inl h1)]));have g1:(32768:Int)<(sz:Int):=a_;go_wp2
  (try go_ret)
  exact⟨by rw[kS.o];rfl,kZ.o.trans kT.o⟩
 have g1:¬ (32768:Int)<(sz:Int):=a_;by_cases h2:64<ms.length
 .have kS:Hi (R=3):=(by(show _=_;rw[<- HR.o,ae (Or.inr h2)]));have g2:(64:Int)<(ms.length:Int):=a_;go_wp2
  (try go_ret)
  exact⟨by rw[kS.o];rfl,kZ.o.trans kT.o⟩
 have g2:¬ (64:Int)<(ms.length:Int):=a_;have oY:Hi ((if mtG [] ms≠0 then mtG [] ms else BE)=R):=(aa (fun q:32768<sz\/64<ms.length=>q.elim h1 h2)).symm.trans HR.o;clear HR;obtain⟨MG,uI⟩:∃z,Hi (mtG [] ms=z):=⟨_,rfl⟩;rw[uI.o]at oY;have Ad:Hi (∀e,e≠0->MG=e->R=e):=fun e q1 q2=>(by rw[<- oY.o,ae (by rw[q2];exact q1)];exact q2);have Gf:Hi (MG=0->R=BE):=fun q=>(by rw[<- oY.o,aa (fun r=>r q)]);clear oY;go_wp2_with fail;clear c0 cz g1 g2;go_loopw [3] (fun i wr=>∃k:Nat,k<=ms.length/\i=.int .i64 k/\Hi (mtG (ms.take k) (ms.drop k)=MG)/\Hi (Kept w0 wr)) (fun i _=>ms.length - (intOf i).toNat)
 .exact⟨0,ai _,rfl,uI.o,kT.o⟩
 case round =>
  clear kT uI;obtain⟨k,hk,rfl,HS,kO⟩:=hrel;have c0:=(HD.o.kept kO.o).cell 0 _ rfl;have c1:=(HD.o.kept kO.o).cell 1 _ rfl;have cz:=(HD.o.kept kO.o).lt;by_cases kV:k<ms.length
  .obtain⟨x,hx⟩:∃x,ms[k]? = some x:=⟨_,ac kV⟩;obtain⟨y,z⟩:=x;obtain⟨hs1,hs2⟩:=vt.o _ (am hx);simp only at hs1 hs2;have DZ:=Hd (zJu hx);have lG:Hi ((if za8 y=false then 6 else if lnB z=false\/trimB z=false then 17 else if((ms.take k).map (·.1)).contains y=true then 7 else mtG (ms.take (k+1)) (ms.drop (k+1)))=MG):=DZ.o.symm.trans HS.o;obtain⟨g,o,rfl,hg,d0,d1,-,-⟩:=(HM.o.kept kO.o).cell_of k _ hx;simp only at d0 d1;have HP:=Hd (aI wr 46 #[.string (bs y),.string (bs z)]);have hkb:=zaA wr (.cells #[.string (bs y),.string (bs z)] 46);have oa:=Hd (kO.o.trans hkb);clear hx DZ HS hkb;obtain⟨wA,DR⟩:∃x,x=wr:=⟨_,rfl⟩;subst DR;go_upto_region 7 with fail;generalize wA.alloc _=x0 at *;generalize wA.heap.size=Q at *;have p0:=HP.o.cell 0 _ rfl;have pz:=HP.o.lt;clear d0 d1 hg c0 c1 cz;go_wp2_with fail;refine(qA.o y _ a_).mono ?_;rintro e x1 ⟨rfl,ld⟩;have xH:=Hd ld;clear ld p0 pz;by_cases hn:za8 y=false
   .rw[hn];have kS:=Hd (Ad.o 6 c_ (by rw[<- lG.o,ae hn]));go_wp2
    (try go_ret)
    exact⟨by rw[kS.o];rfl,kZ.o.trans (oa.o.trans xH.o)⟩
   have hn':za8 y=true:=(by simpa using hn);rw[hn'];have pq:=Hd ((aa hn).symm.trans lG.o);clear lG;have p1:=(HP.o.kept xH.o).cell 1 _ rfl;have pz:=(HP.o.kept xH.o).lt;go_wp2_with fail;refine(pd.o z _ a_).mono ?_;rintro e x2 ⟨rfl,ll⟩;have qG:=Hd (xH.o.trans ll);clear ll p1 pz;by_cases hl:lnB z=false
   .rw[hl];have kS:=Hd (Ad.o 17 c_ (by rw[<- pq.o,ae (Or.inl hl)]));go_wp2
    (try go_ret)
    exact⟨by rw[kS.o];rfl,kZ.o.trans (oa.o.trans qG.o)⟩
   have hl':lnB z=true:=(by simpa using hl);rw[hl'];have p1:=(HP.o.kept qG.o).cell 1 _ rfl;have pz:=(HP.o.kept qG.o).lt;go_wp2_with fail;refine(vI.o z _ a_).mono ?_;rintro e x3 ⟨rfl,rfl⟩;by_cases ht:trimB z=false
   .rw[ht];have kS:=Hd (Ad.o 17 c_ (by rw[<- pq.o,ae (Or.inr ht)]));go_wp2
    (try go_ret)
    exact⟨by rw[kS.o];rfl,kZ.o.trans (oa.o.trans qG.o)⟩
   have ht':trimB z=true:=(by simpa using ht);rw[ht'];have lG:=Hd ((aa (fun q=>q.elim hl ht)).symm.trans pq.o);have H7:Hi (y∈(ms.take k).map (·.1)->R=7):=fun q=>Ad.o 7 c_ (by rw[<- lG.o,ae (bR.2 q)]);have om:Hi (y∉(ms.take k).map (·.1)->mtG (ms.take (k+1)) (ms.drop (k+1))=MG):=fun q=>(by rw[<- lG.o,aa (fun r=>q (bR.1 r))]);clear pq lG p1 pz;go_wp2_with fail;go_loopw [5] (fun i wr=>∃j:Nat,j<=k/\i=.int .i64 j/\Hi (y∉(ms.take j).map (·.1))/\Hi (Kept x0 wr)) (fun i _=>k - (intOf i).toNat)
   .exact⟨0,ai _,rfl,(by show y∉_;simp),qG.o⟩
   case round =>
    clear xH qG;obtain⟨j,hj,rfl,HJ,D0⟩:=hrel;by_cases hjk:j<k
    .obtain⟨q,hq⟩:∃q,ms[j]? = some q:=⟨_,ac a_⟩;have nt:Hi (Kept x0 wr.drew):=D0.o.trans (zaB _ 1);obtain⟨g2,o2,e2,hg2,f0,-,-,-⟩:=(HM.o.kept (oa.o.trans nt.o)).cell_of j _ hq;cases e2;have p0:=(HP.o.kept nt.o).cell 0 _ rfl;have pz:=(HP.o.kept nt.o).lt;have c0:=(HD.o.kept (oa.o.trans nt.o)).cell 0 _ rfl;have cz:=(HD.o.kept (oa.o.trans nt.o)).lt;have hjm:j<ms.length:=a_;have tX:Hi (q.1=y->R=7):=fun h=>H7.o (by
      rw[<- h];exact jw (am (i:=j) (by rw[fq,ae hjk];exact hq)))
     have HJ2:Hi (q.1≠y->y∉(ms.take (j+1)).map (·.1)):=fun h=>by
      rw[jD];exact zpW (by rw[dy,hq];rfl) (by have:=HJ.o;rwa [jD]at this) h
     clear hq HJ;by_cases Gg:q.1=y
     .have hb:(q.1==y)=true:=(by rw[bh];exact Gg);have kS:=Hd (tX.o Gg);generalize q.1=qq at *;go_wp2_with fail;go_region
      all_goals
       go_wp2
       (try go_ret)
       exact⟨by rw[kS.o];rfl,kZ.o.trans (oa.o.trans nt.o)⟩
     .have hb:(q.1==y)=false:=(by rw[ab];exact Gg);have NL:=Hd (HJ2.o Gg);generalize q.1=qq at *;go_wp2_with fail;go_region
      all_goals
       go_wp2;go_roundw
       .exact⟨j+1,a_,by go_num,NL.o,nt.o⟩
       .simp [intOf];omega
    .obtain rfl:j=k:=a_;have mb:=Hd (om.o HJ.o);go_wp2;go_roundw
     .exact⟨j+1,a_,by go_num,mb.o,oa.o.trans D0.o⟩
     .simp [intOf];omega
  .obtain rfl:k=ms.length:=a_;have kS:=Hd (Gf.o (by rw[<- HS.o,du];rfl));go_wp2_with fail;refine k_ (Bu.o _ (kZ.o.trans kO.o)) fun w5 lU=>?_;have lX:=Hd ((kZ.o.trans kO.o).trans lU);clear lU;go_wp2
   (try go_ret)
   exact⟨by rw[kS.o];rfl,lX.o⟩
def dpB(m:Nat):Nat->List Blo->Prop
 | 0,xs=>xs=[]
 | n+1,xs=>∀b∈xs,dpI m b.line/\dpB m n b.kids
def zqD(fB:Blo->Bool)(it:Blo->Int)(f:Int->List Blo->Int)(d:Nat)(inn:Int):∀xs:List Blo,zCO fB it f d inn xs=0↔∀b∈xs,d<=15/\fB b=true/\zd6 b.kind inn=true/\it b=0/\f b.kind b.kids=0
 | []=>⟨fun _ b hb=>(by cases hb),fun _=>rfl⟩
 | b::r=>by
  have ih:=zqD fB it f d inn r;rw[zCO,List.forall_mem_cons,<- ih];by_cases h1:15<d
  .rw[ae h1];exact⟨fun q=>(by cases q),fun q=>by have:=q.1.1;omega⟩
  rw[aa h1];by_cases h2:fB b=false\/zd6 b.kind inn=false
  .rw[ae h2];refine⟨fun q=>(by cases q),fun q=>?_⟩;rcases h2 with h2|h2
   .rw[h2]at q;cases q.1.2.1
   .rw[h2]at q;cases q.1.2.2.1
  rw[aa h2];have hb:∀z:Bool,¬ z=false->z=true:=fun z hz=>(by cases z<;>simp_all);by_cases h3:it b=0
  .rw[aa (fun q=>q h3)];by_cases h4:f b.kind b.kids=0
   .rw[aa (fun q=>q h4)];exact⟨fun q=>⟨⟨a_,hb _ (fun e=>h2 (.inl e)),hb _ (fun e=>h2 (.inr e)),h3,h4⟩,q⟩,fun q=>q.2⟩
   .rw[ae h4];exact⟨fun q=>absurd q h4,fun q=>q.1.2.2.2.2⟩
  .rw[ae h3];exact⟨fun q=>absurd q h3,fun q=>q.1.2.2.2.1⟩
def zJv(c:FlT)(m:Nat)(f:List Blo->List Blo)(b:Blo):Blo:=.mk b.kind b.level b.info b.text b.dest b.title b.id b.cls b.prs (zcB m (zcJ c m b.line)) (f b.kids)
def zqE(c:FlT)(m n:Nat)(xs:List Blo)(h:∀b∈xs,zwU b=false):zcK c m (n+1) xs=xs.map (zJv c m (zcK c m n)):=by
 show xs.flatMap (zjJ c m (zcK c m n))=_
 induction xs with
 | nil=>rfl
 | cons b r ih =>
  rw[dB,bd,ih (fun x hx=>h x (bl _ hx))];unfold zjJ;rw[aa (by rw[h b (bI ..)];simp)];rfl
def zw4(c:FlT)(m n:Nat)(xs:List Blo)(hd:dpB m n xs)(h:∀b∈xs,zwU b=false):(zcK c m n xs).length=xs.length:=by
 cases n with
 | zero=>rw[show xs=[]from hd];rfl
 | succ n=>rw[zqE c m n xs h,bm]
def zm6{b:Blo}(h:b.kind≠13):zwU b=false:=by
 unfold zwU;rw[ja];exact .inl (bH h)
def zzJ{i:Int}(h:zd6 13 i=true):zd6 1 i=true:=by
 unfold zd6 at h ⊢;by_cases h1:i=7\/i=8
 .rw[ae h1]at h;cases h
 rw[aa h1]at h ⊢;by_cases h2:i=10
 .rw[ae h2]at h;cases h
 rw[aa h2]at h ⊢;by_cases h3:i=11
 .rw[ae h3]at h;cases h
 rw[aa h3];rfl
def zlR{k i:Int}(h:zd6 k i=true)(hi:i=7\/i=8\/i=10\/i=11):k≠13/\(i=10->k=11):=by
 unfold zd6 at h;rcases hi with rfl|rfl|rfl|rfl
 .rw[ae (.inl rfl),bh]at h;exact⟨a_,a_⟩
 .rw[ae (.inr rfl),bh]at h;exact⟨a_,a_⟩
 .rw[aa a_,ae rfl,bh]at h;exact⟨a_,a_⟩
 .rw[aa a_,aa a_,ae rfl,bh]at h;exact⟨a_,a_⟩
def zm7{fB:Blo->Bool}{it:Blo->Int}{n d:Nat}{i:Int}{xs:List Blo}(hn:n≠0)(h:zqC fB it n d i xs=0):∀b∈xs,d<=15/\fB b=true/\zd6 b.kind i=true/\it b=0/\zqC fB it (n - 1) (d+1) b.kind b.kids=0:=by
 cases n with
 | zero=>exact absurd rfl hn
 | succ n=>exact(zqD _ _ _ _ _ _).1 h
def zFv{b:Blo}{ln:List Inl}{ks:List Blo}(h:zu4 b=true)(h1:b.line=[]->ln=[])(h2:b.kids=[]->ks=[]):zu4 (.mk b.kind b.level b.info b.text b.dest b.title b.id b.cls b.prs ln ks)=true:=by
 unfold zu4 zI0 at h ⊢;simp only[Blo.kind,Blo.level,Blo.info,Blo.text,Blo.dest,Blo.title,Blo.id,Blo.cls,Blo.prs,Blo.line,Blo.kids]at h ⊢;rw[ba,ba]at h ⊢;obtain⟨⟨a,b⟩,c⟩:=h;refine⟨⟨a,?_⟩,?_⟩
 .rw[dL]at b ⊢;rcases b with b|b
  .exact .inl b
  .right;rw[kj]at b ⊢;exact h1 b
 .rw[dL]at c ⊢;rcases c with c|c
  .exact .inl c
  .right;rw[kj]at c ⊢;exact h2 c
def zFw(c:FlT)(m n:Nat):zcK c m n []=[]:=by cases n<;>rfl
def zFx(fB:Blo->Bool)(it:Blo->Int)(n d:Nat)(i:Int):zqC fB it n d i []=0:=by cases n<;>rfl
def zKk(o:Inl->Int->Bool->Bool->Int)(cl:Bs->Bool)(m:Nat)(kL kU:Int)(kW kN kP title id:Bs)(cls:List Bs)(prs:List Pr)(kY:List Inl)(kM:List Blo):Int :=
 if kL=1\/kL=2\/kL=12 then zIZ o m kL kU id cls prs kY
 else if kL=3 then(if lnB kW=false\/trimB kW=false\/zm5 kN=false then 17 else 0)
 else if kL=4 then(if zm5 kN=false then 17 else if cl kN=true then 5 else atE id cls prs)
 else if kL=7 then(if kM=[]then 8 else 0)
 else if kL=8 then(if kM=[]then 8 else if kU<0\/999999999<kU then 9 else 0)
 else if kL=10 then zJs kW kM
 else if kL=13\/kL=14 then(if za8 kW=false then 6 else atE id cls prs)
 else if kL=15 then(if zgW kW=false then 6 else if lnB kP=false\/lnB title=false then 17 else 0)
 else 0
def zCQ(o:Inl->Int->Bool->Bool->Int)(cl:Bs->Bool)(m:Nat)(kL kU:Int)(kW kN kP title id:Bs)(cls:List Bs)(prs:List Pr)(kY:List Inl)(kM:List Blo):zw1 o cl m (.mk kL kU kW kN kP title id cls prs kY kM)=zKk o cl m kL kU kW kN kP title id cls prs kY kM:=rfl
def zFy(c:FlT)(hc:CleanC c)(cl:Bs->Bool)(m n d:Nat)(b:Blo)(hm:dpI m b.line)(hn:dpB m n b.kids)(h:zw1 (zhA zfQ) cl m b=0)(hk:zqC zu4 (zw1 (zhA zfQ) cl m) n d b.kind b.kids=0):zw1 (zhA zfQ) cl m (zJv c m (zcK c m n) b)=0:=by
 have e:zJv c m (zcK c m n) b=.mk b.kind b.level b.info b.text b.dest b.title b.id b.cls b.prs (zcB m (zcJ c m b.line)) (zcK c m n b.kids):=rfl;have hkn:(b.kind=7\/b.kind=8\/b.kind=10\/b.kind=11)->(zcK c m n b.kids).length=b.kids.length:=fun q=>zw4 c m n b.kids hn fun k sZ=>by
  refine zm6 (zlR ?_ q).1;exact(zm7 (n:=n) (by rintro rfl;rw[show b.kids=[]from hn]at sZ;cases sZ) hk k sZ).2.2.1
 have hke:(b.kind=7\/b.kind=8\/b.kind=10\/b.kind=11)->b.kids≠[]->zcK c m n b.kids≠[]:=fun q q2 q3=>by
  have:=hkn q;rw[q3]at this;exact q2 (bD.1 this.symm)
 obtain⟨kL,kU,kW,kN,kP,title,id,cls,prs,kY,kM⟩:=b;rw[e];clear e;show zw1 _ _ _ (.mk kL kU kW kN kP title id cls prs (zcB m (zcJ c m kY)) (zcK c m n kM))=0;rw[zCQ]at h ⊢;unfold zKk at h ⊢;simp only[Blo.kind,Blo.kids,Blo.line]at hm hn hk hkn hke;by_cases q1:kL=1\/kL=2\/kL=12
 .rw[ae q1]at h ⊢;unfold zIZ at h ⊢;by_cases r1:kL=1/\kY=[]
  .rw[ae r1]at h;cases h
  rw[aa r1]at h;by_cases r2:kL=2/\(kU<1\/6<kU)
  .rw[ae r2]at h;cases h
  rw[aa r2]at h;by_cases r3:kL=2/\atE id cls prs≠0
  .rw[ae r3]at h;exact absurd h r3.2
  rw[aa r3]at h;by_cases r4:kL≠1/\zeO true kY=true
  .rw[ae r4]at h;cases h
  rw[aa r4]at h;rw[aa,aa r2,aa r3,aa]
  .exact zw0 c hc m 0 kY hm h
  .intro q;refine r4 ⟨q.1,?_⟩;cases ha:zeO true kY with
   | true=>rfl
   | false=>rw[zCv c m kY true ha]at q;cases q.2
  .intro q;exact zGF c m 0 kY hm h (fun e=>r1 ⟨q.1,e⟩) q.2
 rw[aa q1]at h ⊢;by_cases q2:kL=3
 .rw[ae q2]at h ⊢;exact h
 rw[aa q2]at h ⊢;by_cases q3:kL=4
 .rw[ae q3]at h ⊢;exact h
 rw[aa q3]at h ⊢;by_cases q4:kL=7
 .rw[ae q4]at h ⊢;by_cases r1:kM=[]
  .rw[ae r1]at h;cases h
  rw[aa (hke (.inl q4) r1)]
 rw[aa q4]at h ⊢;by_cases q5:kL=8
 .rw[ae q5]at h ⊢;by_cases r1:kM=[]
  .rw[ae r1]at h;cases h
  rw[aa r1]at h;rw[aa (hke (.inr (.inl q5)) r1)];exact h
 rw[aa q5]at h ⊢;by_cases q6:kL=10
 .rw[ae q6]at h ⊢;unfold zJs at h ⊢;by_cases r1:32<kW.length
  .rw[ae r1]at h;cases h
  rw[aa r1]at h ⊢;by_cases r2:kW=[]
  .rw[ae r2]at h;cases h
  rw[aa r2]at h ⊢;by_cases r3:zsZ kW=true
  .rw[ae r3]at h;cases h
  rw[aa r3]at h ⊢;by_cases r4:kM=[]
  .rw[ae r4]at h;cases h
  rw[aa r4]at h;by_cases r5:zs0 kW.length kM=true
  .rw[ae r5]at h;cases h
  rw[aa (hke (.inr (.inr (.inl q6))) r4),aa];rw[gz]at r5 ⊢;unfold zs0 at r5 ⊢;rw[eD]at r5 ⊢;have hn0:n≠0:=(by rintro rfl;exact r4 hn);have ll:=zm7 hn0 hk;obtain⟨n,rfl⟩:∃k,n=k+1:=⟨n - 1,a_⟩;rw[q6]at ll;rw[zqE c m n kM (fun k sZ=>zm6 (zlR (ll k sZ).2.2.1 (.inr (.inr (.inl rfl)))).1)];intro k' hk';obtain⟨k,sZ,rfl⟩:=bQ.1 hk';have k11:=(zlR (ll k sZ).2.2.1 (.inr (.inr (.inl rfl)))).2 rfl;have Ae:=(ll k sZ).2.2.2.2;rw[Nat.add_sub_cancel,k11]at Ae;have hl:(zcK c m n k.kids).length=k.kids.length:=zw4 c m n k.kids (hn k sZ).2 fun z hz=>by
   refine zm6 (zlR ?_ (.inr (.inr (.inr rfl)))).1;exact(zm7 (n:=n) (by rintro rfl;rw[show k.kids=[]from(hn k sZ).2]at hz;cases hz) Ae z hz).2.2.1
  have:=r5 k sZ;show¬ ((zcK c m n k.kids).length != kW.length)=true;rw[hl];exact this
 rw[aa q6]at h ⊢;exact h
def zw5(c:FlT)(hc:CleanC c)(cl:Bs->Bool)(m:Nat)(hm:m≠0):∀(n d:Nat) (inn:Int) (xs:List Blo),dpB m n xs->zqC zu4 (zw1 (zhA zfQ) cl m) n d inn xs=0->zqC zu4 (zw1 (zhA zfQ) cl m) n d inn (zcK c m n xs)=0
 | 0,d,inn,xs,_,_=>rfl
 | n+1,d,inn,xs,hd,h=>by
  have h2:=(zqD _ _ _ _ _ _).1 h;refine(zqD _ _ _ _ _ _).2 fun z hz=>?_;obtain⟨b,hb,hz⟩:=ef.1 (show z∈xs.flatMap (zjJ c m (zcK c m n))from hz);obtain⟨p1,p2,p3,p4,p5⟩:=h2 b hb;obtain⟨d1,d2⟩:=hd b hb;unfold zjJ at hz
  split at hz
  .rename_i hrf;unfold zy7 at hz;obtain⟨e,he,rfl⟩:=bQ.1 hz;unfold zwU at hrf;rw[ba,cq]at hrf;rw[hrf.1]at p3;refine⟨p1,rfl,zzJ p3,?_,zFx _ _ _ _ _⟩;show zw1 _ _ _ (.mk 1 0 [] [] [] [] [] [] [] [txI _] [])=0;rw[zCQ];unfold zKk zIZ;rw[ae (.inl rfl),aa (fun q=>by cases q.2),aa (fun q=>absurd q.1 c_),aa (fun q=>absurd q.1 c_),aa (fun q=>q.1 rfl)];obtain⟨m,rfl⟩:∃k,m=k+1:=⟨m - 1,a_⟩;rw[zu5];exact⟨a_,zqB (zCK _) (zGE (zGD (hc.2.2.2 e he) _)) c_,zqA _ _ _,trivial⟩
  .rw[bu]at hz;subst hz;refine⟨p1,?_,p3,zFy c hc cl m n (d+1) b d1 d2 p4 p5,zw5 c hc cl m hm n (d+1) b.kind b.kids d2 p5⟩;exact zFv p2 (fun q=>by rw[q];exact zCM c m) (fun q=>by rw[q];exact zFw c m n)
def zdH(out:List Bs)(k:Bs):List Bs:=if out.contains k=true then out else out++[k]
def zf4(ks:List Bs):List Bs:=ks.foldl zdH []
def zbV(x:Inl):List Bs:=if x.kind=13 then x.cits.map (·.key)else []
def zFz(xs:List Inl):List Bs:=zf4 (xs.flatMap zbV)
def zbQ(xs:List Blo):List Bs:=zFz (zaW xs)
def zCR(a b:List Bs):zf4 (a++b)=b.foldl zdH (zf4 a):=by unfold zf4;rw[fH]
def zzK(a:List Bs)(k:Bs):zf4 (a++[k])=zdH (zf4 a) k:=by rw[zCR];rfl
def zs1(l:List Bs):(zf4 l).length<=l.length:=by
 have key:∀(l out:List Bs),(l.foldl zdH out).length<=out.length+l.length:=by
  intro l
  induction l with
  | nil=>intro out;exact aw _
  | cons k l ih =>
   intro out;have h1:=ih (zdH out k);have h2:(zdH out k).length<=out.length+1:=(by unfold zdH;split<;>simp);rw[az];show(l.foldl zdH (zdH out k)).length<=_;omega
 simpa [zf4]using key l []
def zm8(l:List Bs):(zf4 l).Nodup:=by
 have key:∀(l out:List Bs),out.Nodup->(l.foldl zdH out).Nodup:=by
  intro l
  induction l with
  | nil=>intro out h;exact h
  | cons x l ih =>
   intro out h;refine ih _ ?_;unfold zdH
   split
   .exact h
   .rename_i q;rw[kg];exact⟨h,b_,fun a ha b hb=>by rw[bu.1 hb];exact fun e=>q (by simpa using e ▸ ha)⟩
 exact key l [] kH
def zIe{ds:List Inl}{k:Nat}{x:Inl}(h:ds[k]? = some x):(ds.take (k+1)).flatMap zbV=(ds.take k).flatMap zbV++zbV x:=by
 rw[zaV h,eJ];simp
def zFA{ds:List Inl}{k:Nat}{x:Inl}(h:ds[k]? = some x):((ds.take k).flatMap zbV).length+(zbV x).length<=(ds.flatMap zbV).length:=by
 obtain⟨hk,rfl⟩:=ak.1 h;have h0:ds=ds.take k++(ds[k]::ds.drop (k+1)):=(by rw[<- aJ hk,ce])
 conv=>rhs;rw[h0]
 rw[eJ,dB,ah,ah];omega
def zzL{us:List Bs}{k:Bs}(h:us.contains k=true):zdH us k=us:=ae h
def zzM{us:List Bs}{k:Bs}(h:us.contains k=false):zdH us k=us++[k]:=aa (by rw[h];simp)
def zCS{pre:List Bs}{cs:List Cit}{j:Nat}{c:Cit}(h:cs[j]? = some c):zf4 (pre++(cs.take (j+1)).map (·.key))=zdH (zf4 (pre++(cs.take j).map (·.key))) c.key:=by
 rw[zaV h,cI,<- cX];exact zzK _ _
mutual
def zzN:∀x:Blo,ze1 x=(zdO x).flatMap fun b=>zaD b.line
 | .mk kL kU kW kN kP title id cls prs kY kM=>by
  have h:=zjZ kM;rw[zb2,dB];show zaD kY++zaW kM=zaD kY++(zaQ kM).flatMap fun b=>zaD b.line;rw[h]
def zjZ:∀xs:List Blo,zaW xs=(zaQ xs).flatMap fun b=>zaD b.line
 | []=>rfl
 | x::xs=>by
  have h1:=zzN x;have h2:=zjZ xs;show ze1 x++zaW xs=(zdO x++zaQ xs).flatMap _;rw[eJ,h1,h2]
end
def zdQ:∀xs:List Inl,xs.length<=(zaD xs).length
 | []=>aw _
 | x::xs=>by
  have h:=zdQ xs;show xs.length+1<=(zeH x++zaD xs).length;rw[zcY,ah,az];omega
def zc5:∀xs:List Blo,xs.length<=(zaQ xs).length
 | []=>aw _
 | x::xs=>by
  have h:=zc5 xs;show xs.length+1<=(zdO x++zaQ xs).length;rw[zb2,ah,az];omega
def zeJ{id:Bs}{cls:List Bs}{prs:List Pr}(h:zdF id cls prs):id.length<=600:=by have:=h.2.2;omega
def zhB{id:Bs}{cls:List Bs}{prs:List Pr}(h:zdF id cls prs){p:Pr}(hp:p∈prs):p.1.length+p.2.length<=600:=by have:=h.2.2;have:=zFf hp;omega
mutual
def zzO:∀x:Inl,(∀y∈zeH x,zoP y)->(zeH x).length<=120->zIT x
 | .mk kL kN kP title id cls prs args kQ kM,h,hl=>by
  rw[zcY]at h hl;rw[az]at hl;obtain⟨h1,h2,h3,h4,_,_⟩:=h _ (bI ..);have hk:=zdQ kM;have h5:=zeJ h2;have hl':(zaD kM).length+1<=120:=hl;have h1':kN.length+kP.length+title.length<=300:=h1;have h2':zdF id cls prs:=h2;have h3':args.length<=9:=h3;have h4':kQ.length<=9:=h4;obtain⟨c1,c2,_⟩:=h2';have h5':id.length<=600:=h5;exact⟨⟨a_,a_,a_,a_,a_,a_,a_,a_,a_⟩,zj0 kM (fun y hy=>h y (bl _ hy)) a_⟩
def zj0:∀xs:List Inl,(∀y∈zaD xs,zoP y)->(zaD xs).length<=120->zAe xs
 | [],_,_=>trivial
 | x::xs,h,hl=>by
  have hl':(zeH x++zaD xs).length<=120:=hl;rw[ah]at hl';exact⟨zzO x (fun y hy=>h y (aV.2 (.inl hy))) a_,zj0 xs (fun y hy=>h y (aV.2 (.inr hy))) a_⟩
end
mutual
def zzP:∀x:Blo,(∀y∈zdO x,zsW y)->(zdO x).length+(ze1 x).length<=120->zIU x
 | .mk kL kU kW kN kP title id cls prs kY kM,h,hl=>by
  rw[zb2]at h hl;rw[az]at hl;obtain⟨⟨h1,h2⟩,h3⟩:=h _ (bI ..);have hl':(zaQ kM).length+1+(zaD kY++zaW kM).length<=120:=hl;rw[ah]at hl';have hk:=zc5 kM;have hd:=zdQ kY;have h1':kN.length+kW.length+kP.length+title.length<=300:=h1;have h2':zdF id cls prs:=h2;have h5':id.length<=600:=zeJ h2';obtain⟨c1,c2,_⟩:=h2';exact⟨⟨a_,a_,a_,a_,a_,a_,a_,a_,a_⟩,zj0 kY h3 a_,zj1 kM (fun y hy=>h y (bl _ hy)) a_⟩
def zj1:∀xs:List Blo,(∀x∈zaQ xs,zsW x)->(zaQ xs).length+(zaW xs).length<=120->zy2 xs
 | [],_,_=>trivial
 | x::xs,h,hl=>by
  have hl':(zdO x++zaQ xs).length+(ze1 x++zaW xs).length<=120:=hl;rw[ah,ah]at hl';exact⟨zzP x (fun y hy=>h y (aV.2 (.inl hy))) a_,zj1 xs (fun y hy=>h y (aV.2 (.inr hy))) a_⟩
end
mutual
def zzQ:∀x:Blo,(∀y∈zdO x,zsW y)->∀y∈ze1 x,zoP y
 | .mk kL kU kW kN kP title id cls prs kY kM,h,y,hy=>by
  rw[zb2]at h;have hy':y∈zaD kY++zaW kM:=hy;rcases aV.1 hy' with q|q
  .exact(h _ (bI ..)).2 y q
  .exact zj2 kM (fun y hy=>h y (bl _ hy)) y q
def zj2:∀xs:List Blo,(∀x∈zaQ xs,zsW x)->∀y∈zaW xs,zoP y
 | [],_,_,hy=>(bO hy).elim
 | x::xs,h,y,hy=>by
  rcases aV.1 (show y∈ze1 x++zaW xs from hy)with q|q
  .exact zzQ x (fun y hy=>h y (aV.2 (.inl hy))) y q
  .exact zj2 xs (fun y hy=>h y (aV.2 (.inr hy))) y q
end
def SmB.inls{xs:List Blo}(h:SmB xs):(zaW xs).length<=120:=by have:=h.1;unfold zcE at this;omega
def SmB.list{xs:List Blo}(h:SmB xs):(zaQ xs).length<=120:=by have:=h.1;unfold zcE at this;omega
def SmB.len{xs:List Blo}(h:SmB xs):xs.length<=120:=bC (zc5 xs) h.list
def SmB.okX{xs:List Blo}(h:SmB xs):∀y∈zaW xs,zoP y:=zj2 xs h.2
def SmB.okB{xs:List Blo}(h:SmB xs):zy2 xs:=zj1 xs h.2 h.1
mutual
def zzR:∀x:Blo,∀b∈zdO x,(zaD b.line).length<=(ze1 x).length
 | .mk kL kU kW kN kP title id cls prs kY kM,b,hb=>by
  have e:(ze1 (.mk kL kU kW kN kP title id cls prs kY kM)).length=(zaD kY).length+(zaW kM).length:=(by show(zaD kY++zaW kM).length=_;rw[ah]);rw[zb2]at hb;rcases bj.1 hb with rfl|q
  .show(zaD kY).length<=_;omega
  .have:=zhC kM b q;omega
def zhC:∀xs:List Blo,∀b∈zaQ xs,(zaD b.line).length<=(zaW xs).length
 | [],_,hb=>(bO hb).elim
 | x::xs,b,hb=>by
  have e:(zaW (x::xs)).length=(ze1 x).length+(zaW xs).length:=(by show(ze1 x++zaW xs).length=_;rw[ah]);rcases aV.1 (show b∈zdO x++zaQ xs from hb)with q|q
  .have:=zzR x b q;omega
  .have:=zhC xs b q;omega
end
def SmB.cits{xs:List Blo}(h:SmB xs):∀x∈zaW xs,x.cits.length<=9:=fun x hx=>(h.okX x hx).2.2.2.1
def zFB(xs:List Inl)(h:∀x∈xs,x.cits.length<=9):(xs.flatMap zbV).length<=9 * xs.length:=by
 induction xs with
 | nil=>simp
 | cons x xs ih =>
  have h1:=h x (bI ..);have h2:=ih (fun y hy=>h y (bl _ hy));have h3:(zbV x).length<=9:=by
   unfold zbV
   split
   .rw[bm];exact h1
   .simp
  rw[dB,ah,az];omega
def zdR(x:Inl)(xs:List Inl):(zaD (x::xs)).length=1+(zaD x.kids).length+(zaD xs).length:=by
 show(zeH x++zaD xs).length=_;rw[zcY,ah,az];omega
def jsz(j:Option Inl):Nat:=match j with|none=>0|some x=>1+(zaD x.kids).length
def zCT(f:List Inl->List Inl)(hf:∀ks,(zaD (f ks)).length<=(zaD ks).length):∀(xs:List Inl) (j:Option Inl) (T:Bs),(zaD (mgL f j T xs)).length<=jsz j+(zaD xs).length
 | [],j,T=>by
  cases j with
  | none=>exact ai _
  | some x =>
   show(zaD [zHY x T (f x.kids)]).length<=_;rw[zdR];have:=hf x.kids;show 1+(zaD (f x.kids)).length+0<=1+(zaD x.kids).length+0;omega
 | x::r,j,T=>by
  rw[mgL,zdR]
  split
  .have:=zCT f hf r (if j.isSome=true\/x.text=[]then j else some x) (T++x.text);have hj:jsz (if j.isSome=true\/x.text=[]then j else some x)<=jsz j+(1+(zaD x.kids).length):=by
    split
    .omega
    .show 1+(zaD x.kids).length<=_;omega
   omega
  .rw[zfM,ah,zdR];have h1:=zCT f hf r none [];have h2:=hf x.kids;have h3:(zaD (zuU f j T)).length<=jsz j:=by
    cases j with
    | none=>exact ai _
    | some y =>
     show(zaD [zHY y T (f y.kids)]).length<=_;rw[zdR];have:=hf y.kids;show 1+(zaD (f y.kids)).length+0<=1+(zaD y.kids).length;omega
   have h4:(znH x (f x.kids)).kids=f x.kids:=rfl;rw[h4];have h5:jsz none=0:=rfl;omega
def zGK:∀(n:Nat) (xs:List Inl),(zaD (zcB n xs)).length<=(zaD xs).length
 | 0,_=>ai _
 | n+1,xs=>by
  have:=zCT (zcB n) (zGK n) xs none [];have h5:jsz none=0:=rfl;show(zaD (mgL (zcB n) none [] xs)).length<=_;omega
def zCU(c:FlT):∀(n:Nat) (xs:List Inl),(zaD (zcJ c n xs)).length<=(zaD xs).length
 | 0,_=>ai _
 | n+1,xs=>by
  show(zaD (xs.map (zfU c (zcJ c n)))).length<=_
  induction xs with
  | nil=>exact aw _
  | cons x r ih =>
   rw[bd,zdR,zdR];have:(zaD (zfU c (zcJ c n) x).kids).length<=(zaD x.kids).length:=by
    unfold zfU
    split
    .exact ai _
    .exact zCU c n x.kids
   omega
def zGL(c:FlT)(n:Nat)(xs:List Inl):(zaD (zcB n (zcJ c n xs))).length<=(zaD xs).length:=bC (zGK n _) (zCU c n xs)
def txS(xs:List Inl):Nat:=((zaD xs).map fun x=>x.text.length).sum
def zhD(x:Inl)(xs:List Inl):txS (x::xs)=x.text.length+txS x.kids+txS xs:=by
 unfold txS;show((zeH x++zaD xs).map _).sum=_;rw[zcY,cI,eT,bd,gB]
def zIf(xs ys:List Inl):txS (xs++ys)=txS xs+txS ys:=by unfold txS;rw[zfM,cI,eT]
def zIg{xs:List Inl}{z:Inl}(h:z∈zaD xs):z.text.length<=txS xs:=by
 unfold txS;have:∀(l:List Inl),z∈l->z.text.length<=(l.map fun x=>x.text.length).sum:=by
  intro l
  induction l with
  | nil=>intro q;cases q
  | cons y l ih =>
   intro q;rw[bd,gB];rcases bj.1 q with rfl|q
   .omega
   .have:=ih q;omega
 exact this _ h
def jtx(j:Option Inl):Nat:=match j with|none=>0|some x=>txS x.kids
def zCV(f:List Inl->List Inl)(hf:∀ks,txS (f ks)<=txS ks):∀(xs:List Inl) (j:Option Inl) (T:Bs),txS (mgL f j T xs)<=T.length+jtx j+txS xs
 | [],j,T=>by
  cases j with
  | none=>exact ai _
  | some x =>
   show txS [zHY x T (f x.kids)]<=_;rw[zhD];have:=hf x.kids;show T.length+txS (f x.kids)+0<=T.length+txS x.kids+0;omega
 | x::r,j,T=>by
  rw[mgL,zhD]
  split
  .have:=zCV f hf r (if j.isSome=true\/x.text=[]then j else some x) (T++x.text);have hj:jtx (if j.isSome=true\/x.text=[]then j else some x)<=jtx j+txS x.kids:=by
    split
    .omega
    .show txS x.kids<=_;omega
   rw[ah]at this;omega
  .rw[zIf,zhD];have h1:=zCV f hf r none [];have h2:=hf x.kids;have h3:txS (zuU f j T)<=T.length+jtx j:=by
    cases j with
    | none=>exact ai _
    | some y =>
     show txS [zHY y T (f y.kids)]<=_;rw[zhD];have:=hf y.kids;show T.length+txS (f y.kids)+0<=T.length+txS y.kids;omega
   have h4:(znH x (f x.kids)).kids=f x.kids:=rfl;have h6:(znH x (f x.kids)).text=x.text:=rfl;rw[h4,h6];have h5:jtx none=0:=rfl;rw[cj]at h1;omega
def zGM:∀(n:Nat) (xs:List Inl),txS (zcB n xs)<=txS xs
 | 0,_=>ai _
 | n+1,xs=>by
  have:=zCV (zcB n) (zGM n) xs none [];have h5:jtx none=0:=rfl;rw[cj]at this;show txS (mgL (zcB n) none [] xs)<=_;omega
def zGN(c:FlT)(K:Nat):∀(n:Nat) (xs:List Inl),(∀x∈zaD xs,(txB (zm2 c x.cits)).length<=K)->txS (zcJ c n xs)<=txS xs+K * (zaD xs).length
 | 0,_,_=>ai _
 | n+1,xs,h=>by
  show txS (xs.map (zfU c (zcJ c n)))<=_
  induction xs with
  | nil=>exact ai _
  | cons x r ih =>
   have ih:=ih (fun z hz=>h z (aV.2 (.inr hz)));rw[bd,zhD,zhD,zdR,gD,gD,fk];have hx:x∈zaD (x::r):=(zdG (bI ..)).1;have h1:=h x hx;unfold zfU
   split
   .have e1:(txI (zm2 c x.cits)).text=txB (zm2 c x.cits):=rfl;have e2:txS (txI (zm2 c x.cits)).kids=0:=rfl;rw[e1,e2];unfold zfU at ih;omega
   .have h2:=zGN c K n x.kids (fun z hz=>h z ((zdG (bI ..)).2 z hz));have e1:(znH x (zcJ c n x.kids)).text=x.text:=rfl;have e2:(znH x (zcJ c n x.kids)).kids=zcJ c n x.kids:=rfl;rw[e1,e2];unfold zfU at ih;omega
def zJw(c:FlT)(K n:Nat)(xs:List Inl)(h:∀x∈zaD xs,(txB (zm2 c x.cits)).length<=K):∀z∈zaD (zcB n (zcJ c n xs)),z.text.length<=txS xs+K * (zaD xs).length :=
 fun z hz=>bC (zIg hz) (bC (zGM n _) (zGN c K n xs h))
def zm9(x:Blo)(xs:List Blo):zcE (x::xs)=1+(zaD x.line).length+zcE x.kids+zcE xs:=by
 unfold zcE;show(zdO x++zaQ xs).length+(ze1 x++zaW xs).length=_;rw[zb2,zlL];simp only[ah,az];omega
def zw6(c:FlT):∀es:List EnT,zcE (es.map (zqT c))=2 * es.length
 | []=>rfl
 | e::es=>by
  rw[bd,zm9,zw6 c es,az];have h1:(zaD (zqT c e).line).length=1:=rfl;have h2:zcE (zqT c e).kids=0:=rfl;rw[h1,h2];omega
def zCW(c:FlT)(m:Nat):∀(n:Nat) (xs:List Blo),zcE (zcK c m n xs)<=(2 * c.ents.length+1) * zcE xs
 | 0,_=>ai _
 | n+1,xs=>by
  show zcE (xs.flatMap (zjJ c m (zcK c m n)))<=_
  induction xs with
  | nil=>exact ai _
  | cons x r ih =>
   rw[dB,zw2,zm9 x r,gD];have h1:zcE (zjJ c m (zcK c m n) x)<=(2 * c.ents.length+1) * (1+(zaD x.line).length+zcE x.kids):=by
    unfold zjJ
    split
    .unfold zy7;rw[zw6,gD,gD,fk];omega
    .rw[zm9,gD,gD,fk];have h2:=zGL c m x.line;have h3:=zCW c m n x.kids;have h4:(zaD x.line).length<=(2 * c.ents.length+1) * (zaD x.line).length:=Nat.le_mul_of_pos_left _ a_;have h5:zcE ([]:List Blo)=0:=rfl;rw[h5];show 1+(zaD (zcB m (zcJ c m x.line))).length+zcE (zcK c m n x.kids)+0<=_;omega
   omega
def zhE(ps:List P4)(l:Bs)(most:Int)(lI:Bool)(h5:ps.length<=5)(h:∀q∈ps,zeB q<=200):(zd4 ps l most lI).length<=1300:=by
 have hn:∀x∈ps.map (zbE lI),x.length<=204:=by
  intro x hx;obtain⟨q,hq,rfl⟩:=bQ.1 hx;have:=zrP lI q;have:=h q hq;omega
 have ha:=ziR (ziS l);have ho:=zgP (ziS l);unfold zd4
 split
 .have h1:=zc0 204 ((ps.take most.toNat).map (zbE lI)) (fun x hx=>hn x (by
   obtain⟨q,hq,rfl⟩:=bQ.1 hx;exact bQ.2 ⟨q,eX hq,rfl⟩))
  rw[bm,bw]at h1;have h2:min most.toNat ps.length<=5:=a_;have h3:min most.toNat ps.length * (204+2)<=5 * 206:=eC h2 (aw _);simp only[ah,bU];omega
 .unfold zhO
  split
  .have h1:=zc0 204 (ps.map (zbE lI)) hn;rw[bm]at h1;have h3:ps.length * (204+2)<=5 * 206:=eC h5 (aw _);omega
  .have h1:=zc0 204 (ps.map (zbE lI)).dropLast (fun x hx=>hn x (List.dropLast_subset _ hx));rw[List.length_dropLast,bm]at h1;have h3:(ps.length - 1) * (204+2)<=5 * 206:=eC a_ (aw _);have h4:((ps.map (zbE lI)).getLastD []).length<=204:=by
    rw[dY];cases hx:(ps.map (zbE lI)).getLast? with
    | none=>simp
    | some x=>exact hn x (gE hx)
   simp only[ah,bU];omega
def zFC{s:SrcT}(hs:FitL s)(y:StyT)(lang suf:Bs)(n:Int)(hf:suf.length<=100)(hn:0<=n/\n<=1000)(k:Bs):(znP (zk1 s y lang suf n) k).length<=1300:=by
 obtain⟨h1,h2,-,h4,h5,h6⟩:=hs;have ha:∀q∈s.author,zeB q<=200:=fun q hq=>h6 q (gF _ hq);have he:∀q∈s.editor,zeB q<=200:=fun q hq=>h6 q (gn _ hq);unfold znP;cases hv:(zgF (zk1 s y lang suf n)).find? fun e=>e.1==k with
 | none =>
  show((za3 s.fields k).getD []).length<=1300;cases hw:za3 s.fields k with
  | none=>exact ai _
  | some v =>
   unfold za3 at hw;rw[cG]at hw;obtain⟨p,hp,rfl⟩:=hw;have:=h5 p (cw hp);show p.2.length<=1300;omega
 | some e =>
  have hm:=cw hv;show e.2.length<=1300;unfold zgF at hm;simp only[bj,bO,ej]at hm;rcases hm with rfl|rfl|rfl|rfl|rfl|rfl|rfl|rfl|rfl
  .exact zhE _ _ _ _ h1 ha
  .exact zhE _ _ _ _ h2 he
  .exact zhE _ _ _ _ h1 ha
  .exact zhE _ _ _ _ h2 he
  .show(ziX _).length<=1300;unfold ziX
   split
   .exact ai _
   .have h:=zeF ((za3 s.fields [121,101,97,114]).getD []);have:=zlF (zjQ (zk1 s y lang suf n)) (by show -9223372036854775808<=zeE ((za3 s.fields [121,101,97,114]).getD []);omega) (by show zeE ((za3 s.fields [121,101,97,114]).getD [])<=9223372036854775807;omega);omega
  .show suf.length<=1300;omega
  .show(zyG _).length<=1300;unfold zyG
   split
   .exact ai _
   .have:=zlF n a_ a_;show(Lib.itoa n).length<=1300;omega
  .show s.key.length<=1300;omega
  .show s.type.length<=1300;omega
def zqF{s:SrcT}(hs:FitL s)(y:StyT)(lang suf:Bs)(n:Int)(hf:suf.length<=100)(hn:0<=n/\n<=1000){t:Bs}(ht:t.length<=400):(zfH (zk1 s y lang suf n) t).length<=520000:=by
 unfold zfH zrI;have h1:=zwC (zhM t) (zhI (znP (zk1 s y lang suf n)) (zcT (zhM t) (znP (zk1 s y lang suf n)))) 1300 (fun p hp=>by
  unfold zhI
  split
  .exact ai _
  .split
   .exact zFC hs y lang suf n hf hn _
   .have:=(zv2 p hp).2.1;omega)
 have h2:=zo6 t;have h3:(zhM t).length * 1300<=400 * 1300:=eC a_ (aw _);omega
def FitQ(c:FlT):Prop:=FewY c.sty/\∀e∈c.ents,FitL e.src/\e.suf.length<=100/\0<=e.num/\e.num<=1000
def znA{c:FlT}(hc:FitQ c)(k:Bs):FitL (lkE c.ents k).src/\(lkE c.ents k).suf.length<=100/\0<=(lkE c.ents k).num/\(lkE c.ents k).num<=1000:=by
 unfold lkE;cases h:lkO c.ents k with
 | none=>exact⟨⟨ai _,ai _,ai _,ai _,fun _ h=>(by cases h),fun _ h=>(by cases h)⟩,ai _,c_,c_⟩
 | some e=>exact hc.2 e (List.mem_reverse.1 (cw h))
def zw7(s:Bs)(m:Nat)(l:List Bs)(h:∀x∈l,x.length<=m):(Lib.join l s).length<=l.length * (m+s.length):=by
 cases l with
 | nil=>rw[kh];simp
 | cons x l =>
  have ht:∀r:List Bs,(∀x∈r,x.length<=m)->(Lib.joinTail s r).length<=r.length * (m+s.length):=by
   intro r
   induction r with
   | nil=>intro _;simp [Lib.joinTail]
   | cons b r ih =>
    intro hr;have h1:=ih (fun x hx=>hr x (by simp [hx]));have h2:=hr b b_;unfold Lib.joinTail at h1 ⊢;simp only[bd,dN,ah,az,ij,ii];omega
  have h1:=ht l (fun x hx=>h x (by simp [hx]));have h2:=h x b_;rw[gC];simp only[ah,az,ij,ii];omega
def zw8{c:FlT}(hc:FitQ c)(p:Cit)(hp:p.pre.length+p.suf.length<=40000):(zoQ c p).length<=560002:=by
 obtain⟨h1,h2,h3,h4⟩:=znA hc p.key;have hy:=hc.1.2.1;have hf:(fiE c (if p.bare=true then c.sty.bare else c.sty.cite) (lkE c.ents p.key)).length<=520000:=by
  unfold fiE;refine zqF h1 _ _ _ _ h2 ⟨h3,h4⟩ ?_
  split<;>omega
 unfold zoQ zGv zFi;generalize fiE c (if p.bare=true then c.sty.bare else c.sty.cite) (lkE c.ents p.key)=ft at hf ⊢
 (repeat' split)<;>(try simp only[ah,bU])<;>omega
def zw9{c:FlT}(hc:FitQ c)(l:List Cit)(hl:l.length<=9)(h:∀p∈l,p.key.length+p.pre.length+p.suf.length<=40000):(txB (zm2 c l)).length<=5050000:=by
 have hy:=hc.1.2.1;have h1:=zw7 c.sty.between 560002 (l.map (zoQ c)) (fun x hx=>by
  obtain⟨p,hp,rfl⟩:=bQ.1 hx;exact zw8 hc p (by have:=h p hp;omega))
 rw[bm]at h1;have h2:l.length * (560002+c.sty.between.length)<=9 * 560402:=eC hl a_;have h3:(zm2 c l).length<=5050000:=by
  unfold zm2;simp only[ah];omega
 unfold txB
 split
 .simp
 .exact h3
def FitI(x:Inl):Prop:=x.text.length<=900000000/\x.dest.length<=1000000/\x.title.length<=1000000/\x.id.length<=1000000/\x.cls.length<=1000000/\x.prs.length<=1000000/\x.args.length<=1000000/\x.cits.length<=1000000
mutual
def zIh:∀x:Inl,(∀y∈zeH x,FitI y)->(zeH x).length<=1000000->zIT x
 | .mk kL kN kP title id cls prs args kQ kM,h,hl=>by
  rw[zcY]at h hl;rw[az]at hl;obtain⟨h1,h2,h3,h4,h5,h6,h7,h8⟩:=h _ (bI ..);have hk:=zdQ kM;have hl':(zaD kM).length+1<=1000000:=hl;exact⟨⟨h1,h2,h3,h4,h5,h6,h7,h8,a_⟩,zqG kM (fun y hy=>h y (bl _ hy)) a_⟩
def zqG:∀xs:List Inl,(∀y∈zaD xs,FitI y)->(zaD xs).length<=1000000->zAe xs
 | [],_,_=>trivial
 | x::xs,h,hl=>by
  have hl':(zeH x++zaD xs).length<=1000000:=hl;rw[ah]at hl';exact⟨zIh x (fun y hy=>h y (aV.2 (.inl hy))) a_,zqG xs (fun y hy=>h y (aV.2 (.inr hy))) a_⟩
end
def FitB(x:Blo):Prop:=(x.info.length<=1000000/\x.text.length<=1000000/\x.dest.length<=1000000/\x.title.length<=1000000/\x.id.length<=1000000/\x.cls.length<=1000000/\x.prs.length<=1000000)/\∀y∈zaD x.line,FitI y
mutual
def zIi:∀x:Blo,(∀y∈zdO x,FitB y)->(zdO x).length+(ze1 x).length<=1000000->zIU x
 | .mk kL kU kW kN kP title id cls prs kY kM,h,hl=>by
  rw[zb2]at h hl;rw[az]at hl;obtain⟨⟨h1,h2,h3,h4,h5,h6,h7⟩,h8⟩:=h _ (bI ..);have hl':(zaQ kM).length+1+(zaD kY++zaW kM).length<=1000000:=hl;rw[ah]at hl';have hk:=zc5 kM;have hd:=zdQ kY;exact⟨⟨h1,h2,h3,h4,h5,h6,h7,a_,a_⟩,zqG kY h8 a_,zvC kM (fun y hy=>h y (bl _ hy)) a_⟩
def zvC:∀xs:List Blo,(∀x∈zaQ xs,FitB x)->(zaQ xs).length+(zaW xs).length<=1000000->zy2 xs
 | [],_,_=>trivial
 | x::xs,h,hl=>by
  have hl':(zdO x++zaQ xs).length+(ze1 x++zaW xs).length<=1000000:=hl;rw[ah,ah]at hl';exact⟨zIi x (fun y hy=>h y (aV.2 (.inl hy))) a_,zvC xs (fun y hy=>h y (aV.2 (.inr hy))) a_⟩
end
def zhF{id:Bs}{cls:List Bs}{prs:List Pr}(h:zdF id cls prs){s:Bs}(hs:s∈cls):s.length<=600:=by
 have h1:=h.2.2;have:s.length<=zy5 cls:=by
  unfold zy5;have:∀l:List Bs,s∈l->s.length<=(l.map fun x=>x.length).sum:=by
   intro l
   induction l with
   | nil=>intro q;cases q
   | cons y l ih =>
    intro q;rw[bd,gB];rcases bj.1 q with rfl|q
    .omega
    .have:=ih q;omega
  exact this _ hs
 omega
def zJx{xs:List Inl}(h:∀x∈zaD xs,zoP x):txS xs<=(zaD xs).length * 300:=by
 unfold txS;have:∀l:List Inl,(∀x∈l,zoP x)->(l.map fun x=>x.text.length).sum<=l.length * 300:=by
  intro l
  induction l with
  | nil=>intro _;exact aw _
  | cons y l ih =>
   intro q;rw[bd,gB,az,ij];have h1:=(q y (bI ..)).1;have:=ih fun z hz=>q z (bl _ hz);omega
 exact this _ h
def zIj{c:FlT}(hc:FitQ c)(m:Nat){xs:List Inl}(h:∀x∈zaD xs,zoP x)(hl:(zaD xs).length<=120):∀z∈zaD (zcB m (zcJ c m xs)),OkX z/\FitI z:=by
 intro z hz;have ht:=zJw c 5050000 m xs (fun x hx=>zw9 hc x.cits (h x hx).2.2.2.1 (h x hx).2.2.2.2.2) z hz;have h1:=zJx h;have h2:5050000 * (zaD xs).length<=5050000 * 120:=eC (aw _) hl;have hT:z.text.length<=900000000:=a_;rcases zGy c m xs z hz with⟨t,l1,l2,l3,l4,l5,l6,l7,l8,-⟩|⟨-,y,hy,l1,l2,l3,l4,l5,l6,l7,l8,l9⟩
 .have e2:z.dest=[]:=l2;have e3:z.title=[]:=l3;have e4:z.id=[]:=l4;have e5:z.cls=[]:=l5;have e6:z.prs=[]:=l6;have e7:z.args=[]:=l7;have e8:z.cits=[]:=l8;have e1:z.kind=1:=l1;unfold OkX FitI;rw[e1,e2,e3,e4,e5,e6,e7,e8];exact⟨⟨⟨⟨hT,fun q=>absurd rfl q⟩,b_,b_,b_⟩,⟨b_,b_,b_,b_⟩,b_,b_,b_,b_⟩,hT,b_,b_,b_,b_,b_,b_,b_⟩
 .obtain⟨k1,k2,k3,k4,k5,k6⟩:=h y hy;have k7:=zeJ k2;obtain⟨k8,k9,-⟩:=id k2;unfold OkX FitI;rw[l1,l2,l3,l4,l5,l6,l7,l8];refine⟨⟨⟨⟨hT,fun q=>by rw[l9 q];omega⟩,a_,a_,a_⟩,⟨a_,a_,a_,a_⟩,fun s hs=>by have:=zhF k2 hs;omega,fun p hp=>by have:=zhB k2 hp;omega,fun s hs=>by have:=k5 s hs;omega,fun p hp=>by have:=k6 p hp;omega⟩,hT,a_,a_,a_,a_,a_,a_,a_⟩
def zIk{c:FlT}(hc:FitQ c)(m:Nat){xs:List Inl}(h:∀x∈zaD xs,zoP x):∀z∈zaD (zcJ c m xs),FitI z/\z.text.length<=100000000:=by
 induction m generalizing xs with
 | zero=>intro z hz;cases hz
 | succ m ih =>
  intro z hz;obtain⟨x,h1,h2⟩:=zjC hz;obtain⟨x0,h3,rfl⟩:=bQ.1 (show x∈xs.map (zfU c (zcJ c m))from h1);have hx:=h x0 (zdG h3).1;unfold zfU at h2
  split at h2
  .rcases h2 with rfl|h2
   .have:=zw9 hc x0.cits hx.2.2.2.1 hx.2.2.2.2.2;have e:(txI (zm2 c x0.cits)).text=txB (zm2 c x0.cits):=rfl;refine⟨⟨by rw[e];omega,?_⟩,by rw[e];omega⟩;exact⟨ai _,ai _,ai _,ai _,ai _,ai _,ai _⟩
   .cases h2
  .rcases h2 with rfl|h2
   .obtain⟨k1,k2,k3,k4,k5,k6⟩:=hx;have k7:=zeJ k2;obtain⟨k8,k9,-⟩:=id k2;exact⟨⟨(by show x0.text.length<=_;omega),(by show x0.dest.length<=_;omega),(by show x0.title.length<=_;omega),(by show x0.id.length<=_;omega),(by show x0.cls.length<=_;omega),(by show x0.prs.length<=_;omega),(by show x0.args.length<=_;omega),(by show x0.cits.length<=_;omega)⟩,(by show x0.text.length<=_;omega)⟩
   .exact ih (fun y hy=>h y ((zdG h3).2 y hy)) z h2
def zCX(c:FlT)(m:Nat):∀(n:Nat) (xs:List Blo),∀z∈zaQ (zcK c m n xs),(∃e∈c.ents,z=zqT c e)\/∃b∈zaQ xs,∃ks,z=.mk b.kind b.level b.info b.text b.dest b.title b.id b.cls b.prs (zcB m (zcJ c m b.line)) ks
 | 0,_,z,hz=>by cases hz
 | n+1,xs,z,hz=>by
  obtain⟨x,h1,h2⟩:=zp6 hz;obtain⟨b,h3,h4⟩:=ef.1 (show x∈xs.flatMap (zjJ c m (zcK c m n))from h1);unfold zjJ at h4
  split at h4
  .obtain⟨e,he,rfl⟩:=bQ.1 (show x∈c.ents.map (zqT c)from h4);rcases h2 with rfl|h2
   .exact .inl ⟨e,he,rfl⟩
   .cases h2
  .rw[bu]at h4;subst h4;rcases h2 with rfl|h2
   .exact .inr ⟨b,(zjB h3).1,_,rfl⟩
   .rcases zCX c m n b.kids z h2 with q|⟨b2,q1,q2⟩
    .exact .inl q
    .exact .inr ⟨b2,(zjB h3).2 b2 q1,q2⟩
def zs2{xs:List Blo}:∀(k:Nat) (z:Blo),(zaQ z.kids).length=k->z∈zaQ xs->(zaQ z.kids).length<=(zaQ xs).length:=by
 intro k z _ hz;have key:∀(n:Nat) (ys:List Blo),(zaQ ys).length<=n->z∈zaQ ys->(zaQ z.kids).length<=(zaQ ys).length:=by
  intro n
  induction n with
  | zero =>
   intro ys h h2;rw[bD.1 (show(zaQ ys).length=0 by omega)]at h2;cases h2
  | succ n ih =>
   intro ys h h2;obtain⟨x,h3,h4⟩:=zp6 h2;have h5:(zaQ x.kids).length<(zaQ ys).length:=by
    obtain⟨l1,l2,rfl⟩:=List.append_of_mem h3;rw[zgV,ah];show _<_+(zdO x++zaQ l2).length;rw[zb2,ah,az];omega
   rcases h4 with rfl|h4
   .omega
   .have:=ih x.kids a_ h4;omega
 exact key _ xs (aw _) hz
structure FilD (ys:List Blo):Prop where
 sum:zcE ys<=2040
 ok:∀z∈zaQ ys,OkB z
 okB:zy2 ys
 noC:∀x∈zaW ys,x.kind≠13
 noR:∀z∈zaQ ys,zwU z=false
def zJy{c:FlT}(hc:FitQ c)(he:c.ents.length<=8)(m n:Nat){xs:List Blo}(h:SmB xs):FilD (zcK c m n xs):=by
 have hs:zcE (zcK c m n xs)<=2040:=by
  have h1:=zCW c m n xs;have h2:(2 * c.ents.length+1) * zcE xs<=17 * 120:=eC a_ h.1;omega
 have hd:∀b∈zaQ xs,(zaD b.line).length<=120:=fun b hb=>(by have h1:=zhC xs b hb;have h2:=h.inls;omega);have key:∀z∈zaQ (zcK c m n xs),OkB z/\FitB z:=by
  intro z hz;have hk:z.kids.length<=1000000:=by
   have h1:=zs2 _ z rfl hz;have h2:=zc5 z.kids;have h3:(zaQ (zcK c m n xs)).length<=zcE (zcK c m n xs):=(by unfold zcE;omega);omega
  rcases zCX c m n xs z hz with⟨e,h1,rfl⟩|⟨b,hb,ks,rfl⟩
  .have hx:∀y∈zaD (zqT c e).line,OkX y/\FitI y:=by
    intro y hy;obtain⟨x,h2,h3⟩:=zjC hy;rw[show(zqT c e).line=[txI (fiE c (zCs c.sty e.src.type) e)]from rfl,bu]at h2;subst h2;rcases h3 with rfl|h3
    .obtain⟨q1,q2,q3,q4⟩:=hc.2 e h1;have ht:(zCs c.sty e.src.type).length<=400:=by
      have:∀(k:Bs) (ps:List Pr) (o:Bs),o.length<=400->(∀p∈ps,p.1.length+p.2.length<=300)->(zy6 k o ps).length<=400:=by
       intro k ps
       induction ps with
       | nil=>intro o ho _;exact ho
       | cons p ps ih =>
        intro o ho hp;have:=hp p (bI ..);rw[zy6]
        split
        .omega
        .refine ih _ ?_ fun q hq=>hp q (bl _ hq)
         split<;>omega
      exact this _ _ _ (ai _) hc.1.2.2.1
     have h5:=zqF q1 c.sty c.lang e.suf e.num q2 ⟨q3,q4⟩ ht;have h4:(txI (fiE c (zCs c.sty e.src.type) e)).text.length<=900000000:=by
      show(txB (fiE c (zCs c.sty e.src.type) e)).length<=_;unfold txB fiE
      split
      .simp
      .omega
     exact⟨⟨⟨⟨h4,fun q=>absurd rfl q⟩,ai _,ai _,ai _⟩,⟨ai _,ai _,ai _,ai _⟩,fun _ q=>(by cases q),fun _ q=>(by cases q),fun _ q=>(by cases q),fun _ q=>(by cases q)⟩,h4,ai _,ai _,ai _,ai _,ai _,ai _,ai _⟩
    .cases h3
   exact⟨⟨⟨ai _,ai _,ai _,ai _,ai _⟩,⟨ai _,ai _,ai _⟩,fun _ q=>(by cases q),fun _ q=>(by cases q),(by show(1:Nat)<=1000000;omega),fun y hy=>(hx y hy).1⟩,⟨ai _,ai _,ai _,ai _,ai _,ai _,ai _⟩,fun y hy=>(hx y hy).2⟩
  .obtain⟨⟨k1,k2⟩,k3⟩:=h.2 b hb;have k7:=zeJ k2;obtain⟨k8,k9,-⟩:=id k2;have hx:=zIj hc m k3 (hd b hb);have mm:=zGL c m b.line;have CP:=hd b hb;exact⟨⟨⟨(by show b.info.length<=_;omega),(by show b.text.length<=_;omega),(by show b.dest.length<=_;omega),(by show b.title.length<=_;omega),(by show b.id.length<=_;omega)⟩,⟨(by show b.cls.length<=_;omega),(by show b.prs.length<=_;omega),hk⟩,fun s hs=>(by have:=zhF k2 hs;omega),fun p hp=>(by have:=zhB k2 hp;omega),(by show(zaD (zcB m (zcJ c m b.line))).length<=_;omega),fun y hy=>(hx y hy).1⟩,⟨(by show b.info.length<=_;omega),(by show b.text.length<=_;omega),(by show b.dest.length<=_;omega),(by show b.title.length<=_;omega),(by show b.id.length<=_;omega),(by show b.cls.length<=_;omega),(by show b.prs.length<=_;omega)⟩,fun y hy=>(hx y hy).2⟩
 exact⟨hs,fun z hz=>(key z hz).1,zvC _ (fun z hz=>(key z hz).2) (by have h2:zcE (zcK c m n xs)=(zaQ (zcK c m n xs)).length+(zaW (zcK c m n xs)).length:=rfl;omega),zwX c m n xs,zwW c m n xs⟩
def zIl{c:FlT}(hf:FitQ c)(hc:CleanC c)(he:c.ents.length<=8)(cl:Bs->Bool)(m n:Nat)(hm:m≠0)(ms:List Pr){xs:List Blo}(hs:SmB xs)(hd:dpB m n xs)(h:zId (zqC zu4 (zw1 (zhA zfQ) cl m) n 0 0 xs) ms xs=0):zId (zqC zu4 (zw1 (zhA zfQ) cl m) n 0 0 (zcK c m n xs)) ms (zcK c m n xs)=0:=by
 unfold zId at h ⊢;by_cases q1:32768<zcE xs\/64<ms.length
 .rw[ae q1]at h;cases h
 rw[aa q1]at h;by_cases q2:mtG [] ms≠0
 .rw[ae q2]at h;exact absurd h q2
 rw[aa q2]at h;have h1:=(zJy hf he m n hs).sum;rw[aa (fun q=>q.elim (fun q=>by omega) (fun q=>q1 (.inr q))),aa q2];exact zw5 c hc cl m hm n 0 0 xs hd h
def zFD{y:StyT}(hy:zcU y=0)(lang:Bs)(O:List SrcT):(zjI y lang O).2.length=O.length:=by
 unfold zjI;rw[ae hy];show(if y.numeric=true then O.map fun _=>[]else(zE4 (O.map (zuM y lang))).map zeN).length=_;by_cases hn:y.numeric=true
 .rw[ae hn,bm]
 .have hn':y.numeric=false:=(by simpa using hn);rw[aa hn,bm,zE6 _ (fun x hx=>by
   obtain⟨s,_,rfl⟩:=bQ.1 hx;exact zmU hy hn' lang s),bm]
def zCY(xs:List CitX)(hx:∀x∈xs,none∈x.2):∀(n:Nat) (done rest:List CitX),done.length=n->done++rest=xs->∀m∈(zcA (xs.map (·.1)) done).o,m<=2 * xs.length+1:=by
 intro n
 induction n with
 | zero =>
  intro done rest h1 _ m hm;obtain rfl:=bD.1 h1;cases hm
 | succ n ih =>
  intro done rest h1 h2 m hm;obtain⟨o,y,rfl⟩:∃o y,done=o++[y]:=⟨done.dropLast,done.getLast (by intro q;subst q;cases h1),(fx _).symm⟩;have h3:o++y::rest=xs:=(by rw[<- h2];simp);have h4:=zpZ xs hx o (y::rest) h3;have h5:=ih o (y::rest) (by simpa using h1) h3;have h6:=zGq h4 (hx y (by rw[<- h3];simp));have h7:=zwO h4 (by rw[bm,<- h3,ah];omega);rw[bm]at h7;rw[zh1]at hm;unfold zgT at hm
  split at hm
  .rcases aV.1 hm with q|q
   .exact h5 m q
   .rw[bu.1 q];omega
  .rcases aV.1 hm with q|q
   .exact h5 m q
   .rw[bu.1 q];omega
def zCZ{y:StyT}(hy:zcU y=0){lang:Bs}{O:List SrcT}(hO:O.length<=18)(u:Bs)(h:u∈(zjI y lang O).2):u.length<=100:=by
 unfold zjI at h;rw[ae hy]at h;have h:u∈(if y.numeric=true then O.map fun _=>([]:Bs)else(zE4 (O.map (zuM y lang))).map zeN):=h;by_cases hn:y.numeric=true
 .rw[ae hn]at h;obtain⟨s,_,rfl⟩:=bQ.1 h;simp
 .have hn':y.numeric=false:=(by simpa using hn);rw[aa hn]at h;obtain⟨m,hm,rfl⟩:=bQ.1 h;have h1:=zCY (O.map (zuM y lang)) (fun x hx=>by
   obtain⟨s,_,rfl⟩:=bQ.1 hx;exact zmU hy hn' lang s) _ _ [] rfl (bN _) m hm
  rw[bm]at h1;have:=zwN m;omega
end Go.Proofs.YtnldgmhdjancbaaGreatDoor
