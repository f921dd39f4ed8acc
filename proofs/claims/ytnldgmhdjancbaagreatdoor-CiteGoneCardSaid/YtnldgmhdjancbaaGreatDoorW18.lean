/- Parts. -/
import Derived.Test.YtnldgmhdjancbaaGreatDoorW17
set_option linter.all false
set_option maxRecDepth 100000
set_option maxHeartbeats 12800000
namespace Go.Proofs.YtnldgmhdjancbaaGreatDoor
open Go.RowKit Go.Proofs.Tryz
def FitX(x:Inl):Prop:=(x.text.length<=140737488355328/\x.dest.length<=140737488355328/\x.title.length<=140737488355328)/\FitA x.id x.cls x.prs/\(x.args.length<=140737488355328/\x.cits.length<=140737488355328/\x.kids.length<=140737488355328)/\(∀s∈x.args,s.length<=140737488355328)/\∀c∈x.cits,c.key.length<=140737488355328/\c.pre.length<=140737488355328/\c.suf.length<=140737488355328
def zoP(x:Inl):Prop:=x.text.length+x.dest.length+x.title.length<=300/\zdF x.id x.cls x.prs/\x.args.length<=9/\x.cits.length<=9/\(∀s∈x.args,s.length<=40000)/\∀c∈x.cits,c.key.length+c.pre.length+c.suf.length<=40000
def wB(dep:Nat):Int:=1000+(21 - dep) * 281474976710656
def zHS{dep:Nat}:wB dep=wB (dep+1)+281474976710656:=by unfold wB;omega
def zJj{dep:Nat}:wB dep<=5910974510924776:=by unfold wB;omega
def zHT{dep:Nat}(h:dep<=21):1000<=wB dep:=by unfold wB;omega
def zp5{xs:List Inl}{k:Nat}{x:Inl}(h:xs[k]? = some x):zaD (xs.take (k+1))=(zaD (xs.take k)++[x])++zaD x.kids:=by
 have e:zaD [x]=x::zaD x.kids:=by
  show zeH x++[]=_;rw[bN,zcY]
 rw[zaV h,zfM,e];simp
def zi9{xs:List Inl}{x:Inl}(h:x∈xs):x∈zaD xs/\∀y∈zaD x.kids,y∈zaD xs:=by
 induction xs with
 | nil=>cases h
 | cons z xs ih =>
  show x∈zeH z++zaD xs/\∀y∈zaD x.kids,y∈zeH z++zaD xs;rcases bj.1 h with rfl|h
  .rw[zcY];exact⟨b_,fun y hy=>by simp [hy]⟩
  .obtain⟨a,b⟩:=ih h;exact⟨by simp [a],fun y hy=>by simp [b y hy]⟩
instance okLongD(id:Bs)(cls:List Bs)(prs:List Pr):Decidable (zdF id cls prs):=by unfold zdF;infer_instance
def zGt(x:Inl):Prop:=x.text.length+x.dest.length+x.title.length<=300/\zdF x.id x.cls x.prs/\x.args.length<=9/\x.cits.length<=9
instance okHdD(x:Inl):Decidable (zGt x):=by unfold zGt;infer_instance
def zCl(l:List Bs):Nat:=(l.map fun s=>s.length / 40).sum
def zCm(l:List Cit):Nat:=(l.map fun c=>(c.key.length+c.pre.length+c.suf.length) / 40).sum
def zCn{l:List Bs}{k:Nat}{x:Bs}(h:l[k]? = some x):zCl (l.take (k+1))=zCl (l.take k)+x.length / 40:=by
 unfold zCl;rw[zaV h,cI,eT];simp
def zCo{l:List Cit}{k:Nat}{x:Cit}(h:l[k]? = some x):zCm (l.take (k+1))=zCm (l.take k)+(x.key.length+x.pre.length+x.suf.length) / 40:=by
 unfold zCm;rw[zaV h,cI,eT];simp
def zAg(f:List Inl->Int):List Inl->Int->Int
 | [],m=>m
 | x::xs,m=>if m<1000 then(if zGt x then zAg f xs (m+zCl x.args+zCm x.cits+f x.kids)else 1000)else m
def zGu:Nat->Nat->List Inl->Int
 | 0,d,_=>if 20<d then 1000 else 0
 | n+1,d,xs=>if 20<d\/200<xs.length then 1000 else zAg (zGu n (d+1)) xs xs.length
def zFg{f:List Inl->Int}{xs:List Inl}{m:Int}(h:¬ m<1000):zAg f xs m=m:=by
 cases xs with
 | nil=>rfl
 | cons x xs=>rw[zAg,aa h]
def zHU{f:List Inl->Int}{xs:List Inl}{k:Nat}{x:Inl}{m:Int}(hx:xs[k]? = some x)(h:m<1000):zAg f (xs.drop k) m=if zGt x then zAg f (xs.drop (k+1)) (m+zCl x.args+zCm x.cits+f x.kids)else 1000:=by
 obtain⟨hk,rfl⟩:=ak.1 hx;rw[aJ hk,zAg,ae h]
def WgtP(n:Nat)(xs:List Inl)(dep:Nat)(w:World)(e:Ending)(w':World):Prop :=
 ∃r:Int,e=.returned (.int .i64 r)/\0<=r/\r<=wB dep/\(r<1000->((zaD xs).length:Int)<=r/\∀x∈zaD xs,zoP x)/\zGu n dep xs=r/\Kept w w'
def zuS(S:Nat->Prop):∀(n:Nat) (xs:List Inl) (v:Value) (dep:Nat) (w:World),Lns S n w v xs->dep<=21->xs.length<=140737488355328->(∀x∈zaD xs,FitX x)->Calls prog 29 #[v,.int .i64 dep] w (WgtP n xs dep w):=by
 intro n
 induction n with
 | zero =>
  intro xs v dep w hv hd hl hf;obtain rfl:=hv.no;obtain⟨a,c,rfl,hc⟩:=hv.form;have h1:=zHT hd;by_cases q1:20<dep
  .have lh:WgtP 0 [] dep w (.returned (.int .i64 1000)) w:=⟨1000,rfl,a_,h1,fun q=>absurd q a_,ae q1,af w⟩;generalize hP:WgtP 0 [] dep w=P at *;clear hv hP hf;go_enter jf,iQ;go_wp2
   (try go_ret)
   exact lh
  .have lh:WgtP 0 [] dep w (.returned (.int .i64 0)) w:=⟨0,rfl,a_,a_,fun _=>⟨fl _,fun x hx=>(bO hx).elim⟩,aa q1,af w⟩;generalize hP:WgtP 0 [] dep w=P at *;clear hv hP hf;go_enter jf,iQ;go_wp2_with fail;go_loopw [5,6] (fun m i wr=>m=.int .i64 0/\i=.int .i64 0/\w=wr) (fun _ i _=>1)
   .exact⟨rfl,rfl,rfl⟩
   case round =>
    obtain⟨rfl,rfl,rfl⟩:=hrel;go_wp2
    (try go_ret)
    exact lh
 | succ n ih =>
  intro xs v dep w hv hd hl hf;have HV:=Hd hv;have nD:=Hd ih;have HF:=Hd hf;unfold WgtP at nD;obtain⟨a,c,rfl,hc⟩:=hv.form;have h1:=zHT hd;obtain⟨RR,mR⟩:∃z,Hi (zGu (n+1) dep xs=z):=⟨_,rfl⟩;have qR:Hi (∀w',Kept w w'->RR=1000->WgtP (n+1) xs dep w (.returned (.int .i64 1000)) w'):=fun w' k q=>⟨1000,rfl,a_,h1,fun q=>absurd q a_,by rw[mR.o];exact q,k⟩;have lh:Hi (∀(r:Int) w',0<=r->r<=wB dep->(r<1000->((zaD xs).length:Int)<=r/\∀x∈zaD xs,zoP x)->RR=r->Kept w w'->WgtP (n+1) xs dep w (.returned (.int .i64 r)) w'):=fun r w' k1 k2 k3 k4 k=>⟨r,rfl,k1,k2,k3,by rw[mR.o];exact k4,k⟩;generalize hP:WgtP (n+1) xs dep w=P at *;clear hv hP hf ih;by_cases q1:20<dep
  .go_enter jf,iQ;go_wp2
   (try go_ret)
   exact qR.o w (af w) (by rw[<- mR.o];exact ae (.inl q1))
  by_cases q2:200<xs.length
  .go_enter jf,iQ;go_wp2
   (try go_ret)
   exact qR.o w (af w) (by rw[<- mR.o];exact ae (.inr q2))
  have oH:Hi (zAg (zGu n (dep+1)) xs xs.length=RR):=by
   show _=_;rw[<- mR.o];exact(aa a_).symm
  obtain⟨F,uf⟩:=gX (zGu n (dep+1));rw[uf.o]at oH;clear mR;have hw1:=zHT (show dep+1<=21 by omega);have hw2:=zJj (dep:=dep+1);have hw3:=zHS (dep:=dep);generalize wB dep=WD at *;obtain⟨WE,DT⟩:∃z,Hi (wB (dep+1)=z):=⟨_,rfl⟩;rw[DT.o]at hw1 hw2 hw3;clear h1;go_enter jf,iQ;go_wp2_with fail;go_loopw [5,6] (fun m i wr=>∃(k:Nat) (r:Int),k<=xs.length/\i=.int .i64 k/\m=.int .i64 r/\0<=r/\r<=WD/\Hi (r<1000->(((zaD (xs.take k)).length+(xs.length - k):Nat):Int)<=r/\∀x∈zaD (xs.take k),zoP x)/\Hi (zAg F (xs.drop k) r=RR)/\Hi (Kept w wr)) (fun _ i _=>xs.length - (intOf i).toNat)
  .exact⟨0,xs.length,ai _,rfl,rfl,a_,a_,fun _=>⟨by simp [zaD],fun x hx=>(bO hx).elim⟩,oH.o,af w⟩
  case round =>
   obtain⟨k,r,hk,rfl,rfl,hr0,hr1,HR,lu,kO⟩:=hrel;by_cases kV:k<xs.length
   .by_cases hr2:r<1000
    .obtain⟨x,hx⟩:∃x,xs[k]? = some x:=⟨_,ac kV⟩;have HT:=Hd (zp5 hx);have tD:Hi ((if zGt x then zAg F (xs.drop (k+1)) (r+zCl x.args+zCm x.cits+F x.kids)else 1000)=RR):=(by show _=_;rw[<- zHU hx hr2];exact lu.o);clear lu;have hmx:=zi9 (am hx);have hfx:=HF.o x hmx.1;have qa:Hi (∀y∈zaD x.kids,FitX y):=fun y hy=>HF.o y (hmx.2 y hy);obtain⟨g,o,vC,vP,vA,vT,vK,rfl,mY,qC,-,-,⟨d0,d1,d2,d3,d4,d5,d6,d7,d8,d9⟩,-,⟨hC,iC⟩,⟨oj,iP⟩,⟨hA,iA⟩,pL,hK⟩:=fX (HV.o.kept kO.o) k x hx;clear hx hmx;obtain⟨X,HX⟩:=gX x;rw[HX.o]at HT tD;obtain⟨kL,kN,kP,title,id,cls,prs,args,kQ,kM⟩:=x;simp only[Inl.kind,Inl.text,Inl.dest,Inl.title,Inl.id,Inl.cls,Inl.prs,Inl.args,Inl.cits,Inl.kids]at d0 d1 d2 d3 d4 hC oj hA pL hK;obtain⟨⟨f1,f2,f3⟩,f4,⟨f5,f6,f7⟩,f8,f9⟩:=hfx;simp only[Inl.kind,Inl.text,Inl.dest,Inl.title,Inl.id,Inl.cls,Inl.prs,Inl.args,Inl.cits,Inl.kids]at f1 f2 f3 f4 f5 f6 f7 f8 f9;have tR:Hi (zaD X.kids=zaD kM):=(by show _=_;rw[<- HX.o];rfl);have wk:Hi (zGt X↔(kN.length+kP.length+title.length<=300/\zdF id cls prs/\args.length<=9/\kQ.length<=9)):=(by show _↔_;rw[<- HX.o];exact Iff.rfl);have uV:Hi (zGt X->zAg F (xs.drop (k+1)) (r+zCl args+zCm kQ+F kM)=RR):=by
      show _->_;intro q;have h:=tD.o;rw[ae q,<- HX.o]at h;exact h
     have tY:Hi (¬ zGt X->RR=1000):=by
      show _->_;intro q;have h:=tD.o;rw[aa q]at h;exact h.symm
     clear tD;have DU:Hi (kN.length+kP.length+title.length<=300->zdF id cls prs->args.length<=9->kQ.length<=9->(∀s∈args,s.length<=40000)->(∀c∈kQ,c.key.length+c.pre.length+c.suf.length<=40000)->zoP X):=by
      show _->_;intro a1 a2 a3 a4 a5 a6;rw[<- HX.o];exact⟨a1,a2,a3,a4,a5,a6⟩
     replace qa:Hi (∀y∈zaD kM,FitX y):=qa.o;rw[tR.o]at HT;clear HX tR;have Ga:=Hd f4;have CL:=Hd f8;have NG:=Hd f9;clear f4 f8 f9;obtain⟨aC,cC,rfl,lC⟩:=hC.shape;obtain⟨aP,cP,rfl,lP⟩:=oj.shape;obtain⟨aA,cA,rfl,lA⟩:=hA.shape;obtain⟨aT,cT,rfl,lT⟩:=pL.form;obtain⟨aK,cK,rfl,lK⟩:=hK.form;have lj:=zaA wr (.cells #[.int .i64 kL,.string (bs kN),.string (bs kP),.string (bs title),.string (bs id),.slice aC cls.length cC,.slice aP prs.length cP,.slice aA args.length cA,.slice aT kQ.length cT,.slice aK kM.length cK] 65);have HB:=Hd (aI wr 65 #[.int .i64 kL,.string (bs kN),.string (bs kP),.string (bs title),.string (bs id),.slice aC cls.length cC,.slice aP prs.length cP,.slice aA args.length cA,.slice aT kQ.length cT,.slice aK kM.length cK]);have lD:=Hd (kO.o.trans lj);have HC:=Hd (hC.kept lj);have uW:=Hd (oj.kept lj);have HA:=Hd (hA.kept lj);have qv:Hi (Cits S (wr.alloc (.cells #[.int .i64 kL,.string (bs kN),.string (bs kP),.string (bs title),.string (bs id),.slice aC cls.length cC,.slice aP prs.length cP,.slice aA args.length cA,.slice aT kQ.length cT,.slice aK kM.length cK] 65)) (.slice aT kQ.length cT) kQ):=pL.sam (cU lj) (fun _ _ q=>q);have nI:=Hd (hK.kept lj);clear lj hC oj hA pL hK iC iP iA;by_cases q3:300<kN.length+kP.length+title.length
     .have HE:=Hd (qR.o _ lD.o (tY.o (fun q=>by have:=(wk.o.1 q).1;omega)));clear kO;go_wp2
      (try go_ret)
      exact HE.o
     go_wp2_with fail;generalize wr.alloc (.cells #[.int .i64 kL,.string (bs kN),.string (bs kP),.string (bs title),.string (bs id),.slice aC cls.length cC,.slice aP prs.length cP,.slice aA args.length cA,.slice aT kQ.length cT,.slice aK kM.length cK] 65)=w1 at *;generalize wr.heap.size=B at *;refine(zwT id cls prs _ _ w1 HC.o uW.o Ga.o).mono ?_;rintro e w2 ⟨b,rfl,hb,ll⟩;have kX:=Hd (lD.o.trans ll);have lx:=Hd (HB.o.kept ll);have HA2:=Hd (HA.o.kept ll);have HT2:Hi (Cits S w2 (.slice aT kQ.length cT) kQ):=qv.o.sam (cU ll) (fun _ _ q=>q);have wl:=Hd (nI.o.kept ll);clear ll lD HB HA qv nI HC uW Ga kO d0 d1 d2 d3 d4 d5 d6 d7 d8 d9;cases b with
     | true =>
      have HE:=Hd (qR.o _ kX.o (tY.o (fun q=>by have:=hb.2 (wk.o.1 q).2.1;cases this)));go_wp2
      (try go_ret)
      exact HE.o
     | false =>
      have qD:=Hd (hb.1 rfl);clear hb;have y7:w2.cell? ⟨B,7,none⟩=some (.slice aA args.length cA):=lx.o.cell 7 _ rfl;have y8:w2.cell? ⟨B,8,none⟩=some (.slice aT kQ.length cT):=lx.o.cell 8 _ rfl;have zB:=lx.o.lt;by_cases q4:9<args.length
      .have HE:=Hd (qR.o _ kX.o (tY.o (fun q=>by have:=(wk.o.1 q).2.2.1;omega)));go_wp2
       (try go_ret)
       exact HE.o
      by_cases q5:9<kQ.length
      .have HE:=Hd (qR.o _ kX.o (tY.o (fun q=>by have:=(wk.o.1 q).2.2.2;omega)));go_wp2
       (try go_ret)
       exact HE.o
      go_wp2_with fail;clear y7 y8 zB;go_loopw [5,8] (fun m j wa=>∃(t:Nat) (r2:Int),t<=args.length/\j=.int .i64 t/\m=.int .i64 r2/\r<=r2/\r2<=r+3518437208884 * t/\Hi (∀s∈args.take t,(s.length:Int)<=40 * r2+39)/\Hi (r2=r+(zCl (args.take t):Nat))/\Hi (Kept w2 wa)) (fun _ j _=>args.length - (intOf j).toNat)
      .exact⟨0,r,ai _,rfl,rfl,a_,a_,fun s hs=>(bO hs).elim,by show _=_;simp [zCl],af _⟩
      case round =>
       obtain⟨t,r2,ht,rfl,rfl,hr3,hr4,HS,Gb,kZ⟩:=hrel;have y7:wr.cell? ⟨B,7,none⟩=some (.slice aA args.length cA):=(lx.o.kept kZ.o).cell 7 _ rfl;have zB:=(lx.o.kept kZ.o).lt;by_cases ox:t<args.length
       .obtain⟨s,hx⟩:∃x,args[t]? = some x:=⟨_,ac ox⟩;obtain⟨g,o,rfl,hg,d0,-,-⟩:=(HA2.o.kept kZ.o).cell_of t s hx;have QJ:=CL.o s (am hx);have yL:Hi (r2+(s.length:Int) / 40=r+(zCl (args.take (t+1)):Nat)):=(by show _=_;rw[zCn hx,Gb.o];omega);have mb:Hi (∀s'∈args.take (t+1),(s'.length:Int)<=40 * (r2+(s.length:Int) / 40)+39):=by
         show∀_∈_,_;intro s' hs';rw[zaV hx]at hs';rcases aV.1 hs' with q|q
         .have:=HS.o s' q;omega
         .rw[bu.1 q];omega
        clear hx HS Gb;go_wp2;go_roundw
        .exact⟨t+1,r2+(s.length:Int) / 40,a_,by go_num,rfl,a_,a_,mb.o,yL.o,kZ.o⟩
        .simp [intOf];omega
       .obtain rfl:t=args.length:=a_;have mb:Hi (∀s∈args,(s.length:Int)<=40 * r2+39):=(by have h:=HS.o;rw[bi]at h;exact h);have yL:Hi (r2=r+(zCl args:Nat)):=(by have h:=Gb.o;rw[bi]at h;exact h);clear Gb;obtain⟨wA,rfl⟩:∃wo:World,wo=wr:=⟨_,rfl⟩;have lq:=Hd (kX.o.trans kZ.o);have nl:=Hd (lx.o.kept kZ.o);have nZ:Hi (Cits S wA (.slice aT kQ.length cT) kQ):=HT2.o.sam (cU kZ.o) (fun _ _ q=>q);have DV:=Hd (wl.o.kept kZ.o);clear HS kZ kX lx HA2 HT2 wl;go_wp2_with fail;clear y7 zB;go_loopw [5,9] (fun m j wa=>∃(t:Nat) (r3:Int),t<=kQ.length/\j=.int .i64 t/\m=.int .i64 r3/\r2<=r3/\r3<=r2+10555311626650 * t/\Hi (∀s∈kQ.take t,((s.key.length+s.pre.length+s.suf.length:Nat):Int)<=40 * r3+39)/\Hi (r3=r2+(zCm (kQ.take t):Nat))/\Hi (Kept wA wa)) (fun _ j _=>kQ.length - (intOf j).toNat)
        .exact⟨0,r2,ai _,rfl,rfl,a_,a_,fun s hs=>(bO hs).elim,by show _=_;simp [zCm],af _⟩
        case round =>
         obtain⟨t,r3,ht3,rfl,rfl,QL,Kt,HS,Gc,kZ⟩:=hrel;have y8:wr.cell? ⟨B,8,none⟩=some (.slice aT kQ.length cT):=(nl.o.kept kZ.o).cell 8 _ rfl;have zB:=(nl.o.kept kZ.o).lt;by_cases hlt3:t<kQ.length
         .obtain⟨s,hx⟩:∃x,kQ[t]? = some x:=⟨_,ac hlt3⟩;obtain⟨g,o,cs,rfl,hg,qC,-,hcs,hcw,-,-⟩:=iJ (show RowR S 4 CitW wr _ _ from nZ.o.sam (cU kZ.o) (fun _ _ q=>q)) t s hx;rw[hcw]at hcs;have d0:wr.cell? ⟨g,o+t * 4,none⟩=some (.string (bs s.key)):=(by simpa using hcs 0 _ rfl);have d1:wr.cell? ⟨g,o+t * 4+1,none⟩=some (.string (bs s.pre)):=hcs 1 _ rfl;have d2:wr.cell? ⟨g,o+t * 4+2,none⟩=some (.string (bs s.suf)):=hcs 2 _ rfl;have d3:wr.cell? ⟨g,o+t * 4+3,none⟩=some (.bool s.bare):=hcs 3 _ rfl;obtain⟨e1,e2,e3⟩:=NG.o s (am hx);have mb:Hi (∀s'∈kQ.take (t+1),((s'.key.length+s'.pre.length+s'.suf.length:Nat):Int)<=40 * (r3+((s.key.length:Int)+s.pre.length+s.suf.length) / 40)+39):=by
           show∀_∈_,_;intro s' hs';rw[zaV hx]at hs';rcases aV.1 hs' with q|q
           .have:=HS.o s' q;omega
           .rw[bu.1 q];omega
          have wm:Hi (r3+((s.key.length:Int)+s.pre.length+s.suf.length) / 40=r2+(zCm (kQ.take (t+1)):Nat)):=(by show _=_;rw[zCo hx,Gc.o];omega);have xW:=Hd (kZ.o.trans (zaA wr (.cells #[.string (bs s.key),.string (bs s.pre),.string (bs s.suf),.bool s.bare] 62)));obtain⟨key,pre,suf,bare⟩:=s;simp only at d0 d1 d2 d3 e1 e2 e3 mb xW wm;clear hx HS hcs hcw Gc;go_wp2;go_roundw
          .exact⟨t+1,r3+((key.length:Int)+pre.length+suf.length) / 40,a_,by go_num,rfl,a_,a_,mb.o,wm.o,xW.o⟩
          .simp [intOf];omega
         .obtain rfl:t=kQ.length:=a_;have oo:Hi (∀s∈kQ,((s.key.length+s.pre.length+s.suf.length:Nat):Int)<=40 * r3+39):=(by have h:=HS.o;rw[bi]at h;exact h);have wm:Hi (r3=r2+(zCm kQ:Nat)):=(by have h:=Gc.o;rw[bi]at h;exact h);clear Gc;have y9:wr.cell? ⟨B,9,none⟩=some (.slice aK kM.length cK):=(nl.o.kept kZ.o).cell 9 _ rfl;have HI:=Hd (nD.o kM (.slice aK kM.length cK) (dep+1) wr (DV.o.kept kZ.o) a_ f7 qa.o);have mg:=Hd (lq.o.trans kZ.o);rw[DT.o,uf.o,show(((dep+1:Nat)):Int)=(dep:Int)+1 by omega]at HI;clear HS kZ lq nl nZ DV;go_wp2_with fail;refine HI.o.mono ?_;rintro e w5 ⟨r4,rfl,k1,k2,hd4,Ku,lU⟩;have In:Hi (zAg F (xs.drop (k+1)) (r3+r4)=RR):=by
           have h:=uV.o (wk.o.2 ⟨a_,qD.o,a_,a_⟩);show _=_;rw[<- h,Ku,wm.o,yL.o]
          clear Ku uV tY wk yL wm;have HN:Hi (r3+r4<1000->(((zaD (xs.take (k+1))).length+(xs.length - (k+1)):Nat):Int)<=r3+r4/\∀x∈zaD (xs.take (k+1)),zoP x):=by
           show _->_;intro q;obtain⟨a1,a2⟩:=HR.o a_;obtain⟨b1,b2⟩:=hd4 a_;rw[HT.o];refine⟨?_,fun y hy=>?_⟩
           .rw[ah,ah,bU];omega
           .rcases aV.1 hy with hy|hy
            .rcases aV.1 hy with hy|hy
             .exact a2 y hy
             .rw[bu.1 hy];exact DU.o a_ qD.o a_ a_ (fun s hs=>by have:=mb.o s hs;omega) (fun s hs=>by have:=oo.o s hs;omega)
            .exact b2 y hy
          have lH:=Hd (mg.o.trans lU);clear HI hd4 lU HR DU qD mb oo HT y8 y9 zB;go_wp2;go_roundw
          .exact⟨k+1,r3+r4,a_,by go_num,rfl,a_,a_,HN.o,In.o,lH.o⟩
          .simp [intOf];omega
    .have HE:=Hd (lh.o r wr hr0 hr1 (fun q=>absurd q hr2) (by rw[<- lu.o];exact zFg hr2) kO.o);clear HR kO;go_wp2
     (try go_ret)
     exact HE.o
   .obtain rfl:k=xs.length:=a_;have HE:=Hd (lh.o r wr hr0 hr1 (fun q=>by have h:=HR.o q;rw[bi]at h;exact⟨by have:=h.1;omega,h.2⟩) (by rw[<- lu.o,du];rfl) kO.o);clear HR kO;go_wp2
    (try go_ret)
    exact HE.o
def zgD(k:Int)(l:List Int)(w:World)(hl:l.length<=100):Calls prog 101 #[.int .i64 k,.slice (some ⟨w.heap.size,0,none⟩) l.length l.length] (w.alloc (.cells (l.map (Value.int .i64)).toArray 3)) fun e w'=>e=.returned (.bool (l.contains k))/\Kept w w':=by
 refine(zCg k l w.heap.size l.length _ (aI w 3 (l.map (Value.int .i64)).toArray).lt hl (fun j x hx=>(aI w 3 (l.map (Value.int .i64)).toArray).cell j _ (by rw[<- bE];show(l.map _)[j]? = _;rw[dy,hx];rfl))).mono ?_;rintro e w' ⟨h,rfl⟩;exact⟨h,zaA _ _⟩
def zIV(k:Int):Bool:=[9,16,12,14,13].contains k
def zCp(k:Int)(w:World):Calls prog 175 #[.int .i64 k] w fun e w'=>e=.returned (.bool (zIV k))/\Kept w w':=by
 have HL:Hi (Calls prog 101 #[.int .i64 k,.slice (some ⟨w.heap.size,0,none⟩) 5 5] (w.alloc (.cells #[.int .i64 9,.int .i64 16,.int .i64 12,.int .i64 14,.int .i64 13] 3)) fun e w'=>e=.returned (.bool (zIV k))/\Kept w w'):=zgD k [9,16,12,14,13] w c_;generalize zIV k=R at *;go_in;go_wp2_with fail;refine k_ HL.o fun w1 ld=>?_;have kT:=Hd ld;clear ld HL;go_wp2
 (try go_ret)
 exact⟨rfl,kT.o⟩
def zuT(le:Bool)(x:Inl):Bool:=if le=true then x.kind==2 || x.kind==3 else zIV x.kind
def zeO(le:Bool)(xs:List Inl):Bool:=(zaD xs).any (zuT le)
def zHV{le:Bool}{xs:List Inl}{k:Nat}{x:Inl}(h:xs[k]? = some x):zeO le (xs.take (k+1))=(zeO le (xs.take k) || zuT le x || zeO le x.kids):=by
 unfold zeO;rw[zp5 h,gJ,gJ];simp
def zHW{le:Bool}{xs:List Inl}{x:Inl}(h:x∈xs)(hb:zuT le x=true\/zeO le x.kids=true):zeO le xs=true:=by
 obtain⟨h1,h2⟩:=zi9 h;unfold zeO at hb ⊢;rw[dv];rcases hb with hb|hb
 .exact⟨x,h1,hb⟩
 .rw[dv]at hb;obtain⟨y,hy,q⟩:=hb;exact⟨y,h2 y hy,q⟩
def zlQ(xs:List Inl):xs.length<=(zaD xs).length:=by
 induction xs with
 | nil=>exact ai _
 | cons x xs ih =>
  show xs.length+1<=(zeH x++zaD xs).length;rw[zcY,ah,az];omega
def zjA{xs:List Inl}{x:Inl}(h:x∈xs):(zaD x.kids).length<(zaD xs).length:=by
 induction xs with
 | nil=>cases h
 | cons z xs ih =>
  show _<(zeH z++zaD xs).length;rw[zcY,ah,az];rcases bj.1 h with rfl|h
  .omega
  .have:=ih h;omega
def zmZ(S:Nat->Prop)(le:Bool):∀(n:Nat) (xs:List Inl) (v:Value) (w:World),Lns S n w v xs->(zaD xs).length<=1000000->Calls prog 137 #[v,.bool le] w fun e w'=>e=.returned (.bool (zeO le xs))/\Kept w w':=by
 intro n
 induction n with
 | zero =>
  intro xs v w hv nX;obtain rfl:=hv.no;obtain⟨a,c,rfl,hc⟩:=hv.form;have HR:Hi (zeO le []=false):=rfl;go_in;go_wp2_with fail;go_loopw [5] (fun i wr=>i=.int .i64 0/\w=wr) (fun i _=>1)
  .exact⟨rfl,rfl⟩
  case round =>
   obtain⟨rfl,rfl⟩:=hrel;go_wp2
   (try go_ret)
   exact⟨by rw[HR.o];rfl,af _⟩
 | succ n ih =>
  intro xs v w hv nX;have HV:=Hd hv;have nD:=Hd ih;have hxl:xs.length<=1000000:=bC (zlQ xs) nX;have HDK:Hi (∀x∈xs,(zaD x.kids).length<=1000000):=fun x hx=>(by have:=zjA hx;omega);clear nX;obtain⟨a,c,rfl,hc⟩:=hv.form;have HY:Hi (∀(x:Inl),x∈xs->(zuT le x=true\/zeO le x.kids=true)->zeO le xs=true):=fun x hx h=>zHW hx h;have HN:Hi (zeO le (xs.take xs.length)=zeO le xs):=(by show _=_;rw[bi]);have HT0:Hi (∀(k:Nat) (x:Inl),xs[k]? = some x->zuT le x=false->zeO le x.kids=false->zeO le (xs.take k)=false->zeO le (xs.take (k+1))=false):=fun k x hx h1 h2 h3=>(by rw[zHV hx,h1,h2,h3];rfl);obtain⟨R,HR⟩:=gX (zeO le xs);rw[HR.o]at HY HN ⊢;clear hv ih;go_in;go_wp2_with fail;go_loopw [5] (fun i wr=>∃k:Nat,k<=xs.length/\i=.int .i64 k/\Hi (zeO le (xs.take k)=false)/\Hi (Kept w wr)) (fun i _=>xs.length - (intOf i).toNat)
  .exact⟨0,ai _,rfl,rfl,af _⟩
  case round =>
   obtain⟨k,hk,rfl,HS,kO⟩:=hrel;by_cases kV:k<xs.length
   .obtain⟨x,hx⟩:∃x,xs[k]? = some x:=⟨_,ac kV⟩;have yM:=Hd (HY.o x (am hx));have pI:=Hd (fun h1 h2=>HT0.o k x hx h1 h2 HS.o);have lG:=Hd (fun w' (kk:Kept wr w')=>fX (HV.o.kept (kO.o.trans kk)) k x hx);obtain⟨g,o,vC,vP,vA,vT,vK,rfl,hg,qC,-,-,⟨d0,d1,d2,d3,d4,d5,d6,d7,d8,d9⟩,-,-,-,-,-,hK⟩:=lG.o wr (af _);obtain⟨aK,cK,rfl,lK⟩:=hK.form;have nt:=Hd hK;have nH:=Hd (fun w' (kk:Kept wr w')=>And.intro ((kk.cell (p:=⟨g,o+k * 10,none⟩) hg).trans d0) (And.intro ((kk.cell (p:=⟨g,o+k * 10+9,none⟩) hg).trans d9) (aU hg kk.size)));obtain⟨kn,xW⟩:∃z,Hi (x.kind=z):=⟨_,rfl⟩;rw[xW.o]at d0 nH;have hdk:=HDK.o x (am hx);have pQ:=Hd (fun w' (kk:Kept wr w')=>nD.o x.kids (.slice aK x.kids.length cK) w' (nt.o.kept kk) hdk);clear hdk;obtain⟨bk,qy⟩:∃z,Hi (zeO le x.kids=z):=⟨_,rfl⟩;rw[qy.o]at pQ pI yM;have qe:Hi (zuT le x=true->∀w',Kept w w'->R=true):=fun h _ _=>yM.o (.inl h);clear hx lG hK d1 d2 d3 d4 d5 d6 d7 d8 HT0;generalize x.kids.length=nk at *;cases le with
    | false =>
     have oa:Hi (zuT false x=zIV kn):=(by show _=_;unfold zuT;rw[aa b_,xW.o]);rw[oa.o]at qe pI;have wn:=Hd (fun w'=>zCp kn w');go_wp2_with fail;refine k_ (wn.o wr) fun w1 ld=>?_;have kT:=Hd ld;clear ld;obtain⟨c0,c9,hg1⟩:=nH.o w1 kT.o;cases hb:zIV kn with
     | true =>
      obtain rfl:=qe.o hb w (af _);go_wp2
      (try go_ret)
      exact⟨rfl,kO.o.trans kT.o⟩
     | false =>
      have Io:=Hd (pI.o hb);go_wp2_with fail;refine k_ (pQ.o w1 kT.o) fun w2 ll=>?_;have kX:=Hd ((kO.o.trans kT.o).trans ll);clear ll;cases bk with
      | true =>
       obtain rfl:=yM.o (.inr rfl);go_wp2
       (try go_ret)
       exact⟨rfl,kX.o⟩
      | false =>
       have mb:=Hd (Io.o rfl);go_wp2;go_roundw
       .exact⟨k+1,a_,by go_num,mb.o,kX.o⟩
       .simp [intOf];omega
    | true =>
     have oa:Hi (zuT true x=(kn==2 || kn==3)):=(by show _=_;unfold zuT;rw[ae rfl,xW.o]);rw[oa.o]at qe pI;rcases(show kn=2\/kn=3\/(kn≠2/\kn≠3)by omega)with rfl|rfl|⟨h2,h3⟩
     case' inl=>have DG:=Hd (qe.o rfl w (af _))
     case' inr.inl=>have DG:=Hd (qe.o rfl w (af _))
     case' inr.inr =>
      have b2:(kn==2)=false:=(by simpa using h2);have b3:(kn==3)=false:=(by simpa using h3);have Io:=Hd (pI.o (by rw[b2,b3];rfl));go_wp2_with fail;refine k_ (pQ.o wr (af _)) fun w2 ll=>?_;have kX:=Hd (kO.o.trans ll);clear ll;cases bk with
      | true =>
       obtain rfl:=yM.o (.inr rfl);go_wp2
       (try go_ret)
       exact⟨rfl,kX.o⟩
      | false =>
       have mb:=Hd (Io.o rfl);go_wp2;go_roundw
       .exact⟨k+1,a_,by go_num,mb.o,kX.o⟩
       .simp [intOf];omega
     all_goals
      go_wp2
      (try go_ret)
      exact⟨by rw[DG.o];rfl,kO.o⟩
   .obtain rfl:k=xs.length:=a_;obtain rfl:R=false:=(by rw[<- HN.o];exact HS.o);go_wp2
    (try go_ret)
    exact⟨rfl,kO.o⟩
def zJk:Bs:=[105,110,100,101,120]
def zKf:Bs:=[107,101,121]
def zHX(s:Bs):Bs:=Lib.trimB s 32
def zJl(s:Bs):Bs:=zHX ((zHX s).take (zaM 33 (zHX s)))
def zKD(x:Inl):Bool:=decide (x.kind=11)&&x.cls.contains zJk
def zJm(x:Inl):Bs:=(zKC x.prs zKf).getD (zbY x.kids)
def zKg(x:Inl):Bs:=match zKD x with|true=>zJl (zJm x)|false=>[]
def okM(x:Inl):Bool:=!(zKg x==[])
def idN(n:Nat):Bs:=[105,120,45]++Lib.itoa n
def zJn(used:List Bs):Nat->Nat->Nat
 | 0,n=>n+1
 | f+1,n=>if used.contains (idN (n+1))=true then zJn used f (n+1)else n+1
def zKh(used:List Bs)(n:Nat):Nat:=zJn used used.length n
def zFh(x:Inl):Bool:=x.id==[]&&okM x
def zCq(used:List Bs)(n:Nat)(b:Bool):Nat:=match b with|true=>zKh used n|false=>n
def idS(id:Bs)(m:Nat)(b:Bool):Bs:=match b with|true=>idN m|false=>id
mutual
def mk1(used:List Bs):Nat->Inl->Inl×Nat
 | n,.mk kL kN kP title id cls prs args kQ kM =>
  (.mk kL kN kP title (idS id (zCq used n (zFh (.mk kL kN kP title id cls prs args kQ kM))) (zFh (.mk kL kN kP title id cls prs args kQ kM))) cls prs args kQ
   (mkL used (zCq used n (zFh (.mk kL kN kP title id cls prs args kQ kM))) kM).1,(mkL used (zCq used n (zFh (.mk kL kN kP title id cls prs args kQ kM))) kM).2)
def mkL(used:List Bs):Nat->List Inl->List Inl×Nat
 | n,[]=>([],n)
 | n,x::xs=>((mk1 used n x).1::(mkL used (mk1 used n x).2 xs).1,(mkL used (mk1 used n x).2 xs).2)
end
mutual
def zdO:Blo->List Blo
 | .mk kL kU kW kN kP title id cls prs kY kM=>.mk kL kU kW kN kP title id cls prs kY kM::zaQ kM
def zaQ:List Blo->List Blo
 | []=>[]
 | x::xs=>zdO x++zaQ xs
end
def zb2(b:Blo):zdO b=b::zaQ b.kids:=by cases b;rfl
def zgV(xs ys:List Blo):zaQ (xs++ys)=zaQ xs++zaQ ys:=by
 induction xs with
 | nil=>rfl
 | cons x xs ih=>show zdO x++zaQ (xs++ys)=_;rw[ih];show _=(zdO x++zaQ xs)++_;rw[cX]
def FitK(x:Blo):Prop:=(x.info.length<=140737488355328/\x.text.length<=140737488355328/\x.dest.length<=140737488355328/\x.title.length<=140737488355328)/\FitA x.id x.cls x.prs/\x.line.length<=140737488355328/\x.kids.length<=140737488355328/\∀y∈zaD x.line,FitX y
def zsW(x:Blo):Prop:=(x.text.length+x.info.length+x.dest.length+x.title.length<=300/\zdF x.id x.cls x.prs)/\∀y∈zaD x.line,zoP y
def zcE(xs:List Blo):Nat:=(zaQ xs).length+(zaW xs).length
def zm0{xs:List Blo}{k:Nat}{x:Blo}(h:xs[k]? = some x):zaQ (xs.take (k+1))=(zaQ (xs.take k)++[x])++zaQ x.kids:=by
 have e:zaQ [x]=x::zaQ x.kids:=by
  show zdO x++[]=_;rw[bN,zb2]
 rw[zaV h,zgV,e];simp
def zm1{xs:List Blo}{k:Nat}{x:Blo}(h:xs[k]? = some x):zcE (xs.take (k+1))=zcE (xs.take k)+1+(zaD x.line).length+zcE x.kids:=by
 have e:zaW [x]=zaD x.line++zaW x.kids:=by
  show ze1 x++[]=_;rw[bN,zlL]
 unfold zcE;rw[zm0 h,zaV h,zi5,e];simp only[ah,bU];omega
def zjB{xs:List Blo}{x:Blo}(h:x∈xs):x∈zaQ xs/\∀y∈zaQ x.kids,y∈zaQ xs:=by
 induction xs with
 | nil=>cases h
 | cons z xs ih =>
  show x∈zdO z++zaQ xs/\∀y∈zaQ x.kids,y∈zdO z++zaQ xs;rcases bj.1 h with rfl|h
  .rw[zb2];exact⟨b_,fun y hy=>by simp [hy]⟩
  .obtain⟨a,b⟩:=ih h;exact⟨by simp [a],fun y hy=>by simp [b y hy]⟩
def FitD0(ms:List Pr)(xs:List Blo):Prop:=(ms.length<=140737488355328/\∀q∈ms,q.1.length<=140737488355328/\q.2.length<=140737488355328)/\xs.length<=140737488355328/\∀x∈zaQ xs,FitK x
def SmB(xs:List Blo):Prop:=zcE xs<=120/\∀x∈zaQ xs,zsW x
def znH(x:Inl)(ks:List Inl):Inl:=.mk x.kind x.text x.dest x.title x.id x.cls x.prs x.args x.cits ks
def zHY(x:Inl)(t:Bs)(ks:List Inl):Inl:=.mk x.kind t x.dest x.title x.id x.cls x.prs x.args x.cits ks
def zuU(f:List Inl->List Inl)(j:Option Inl)(T:Bs):List Inl:=match j with|none=>[]|some x=>[zHY x T (f x.kids)]
def mgL(f:List Inl->List Inl):Option Inl->Bs->List Inl->List Inl
 | j,T,[]=>zuU f j T
 | j,T,x::r=>if x.kind=1 then mgL f (if j.isSome=true\/x.text=[]then j else some x) (T++x.text) r else zuU f j T++znH x (f x.kids)::mgL f none [] r
def zcB:Nat->List Inl->List Inl
 | 0,_=>[]
 | n+1,xs=>mgL (zcB n) none [] xs
structure EnT where
 src:SrcT
 suf:Bs
 num:Int
def zKi:EnT:=⟨⟨[],[],[],[],[]⟩,[],0⟩
def zf3(ss:List SrcT)(us:List Bs):List EnT:=ss.mapIdx fun i s=>⟨s,us.getD i [],(i:Int)+1⟩
def lkO(es:List EnT)(k:Bs):Option EnT:=es.reverse.find? fun e=>e.src.key==k
def lkE(es:List EnT)(k:Bs):EnT:=(lkO es k).getD zKi
structure FlT where
 sty:StyT
 lang:Bs
 ents:List EnT
def fiE(c:FlT)(t:Bs)(e:EnT):Bs:=zfH (zk1 e.src c.sty c.lang e.suf e.num) t
def zGv(s suf:Bs):Bs:=if suf=[]then s else(if at8 suf 0=44 then s else s++[32])++suf
def zFi(pre s:Bs):Bs:=if pre=[]then s else pre++[32]++s
def zoQ(c:FlT)(p:Cit):Bs:=zGv (zFi p.pre (fiE c (if p.bare=true then c.sty.bare else c.sty.cite) (lkE c.ents p.key))) p.suf
def zm2(c:FlT)(l:List Cit):Bs:=c.sty.begin_++Lib.join (l.map (zoQ c)) c.sty.between++c.sty.end_
def zfU(c:FlT)(f:List Inl->List Inl)(x:Inl):Inl:=if x.kind=13 then txI (zm2 c x.cits)else znH x (f x.kids)
def zcJ(c:FlT):Nat->List Inl->List Inl
 | 0,_=>[]
 | n+1,xs=>xs.map (zfU c (zcJ c n))
def zFj:Bs:=[114,101,102,101,114,101,110,99,101,115]
def zCr:Bs:=[42]
def zy6(k:Bs):Bs->List Pr->Bs
 | o,[]=>o
 | o,p::r=>if p.1=k then p.2 else zy6 k (if p.1=zCr then p.2 else o) r
def zCs(y:StyT)(k:Bs):Bs:=zy6 k [] y.entries
def zqT(c:FlT)(e:EnT):Blo:=.mk 1 0 [] [] [] [] [] [] [] [txI (fiE c (zCs c.sty e.src.type) e)] []
def zy7(c:FlT):List Blo:=c.ents.map (zqT c)
def zwU(b:Blo):Bool:=decide (b.kind=13)&&(b.info==zFj)
def zjJ(c:FlT)(m:Nat)(f:List Blo->List Blo)(b:Blo):List Blo :=
 if zwU b=true then zy7 c else [.mk b.kind b.level b.info b.text b.dest b.title b.id b.cls b.prs (zcB m (zcJ c m b.line)) (f b.kids)]
def zcK(c:FlT)(m:Nat):Nat->List Blo->List Blo
 | 0,_=>[]
 | n+1,xs=>xs.flatMap (zjJ c m (zcK c m n))
def Lk(z y:Inl):Prop:=z.kind=y.kind/\z.dest=y.dest/\z.title=y.title/\z.id=y.id/\z.cls=y.cls/\z.prs=y.prs/\z.args=y.args/\z.cits=y.cits/\(y.kind≠1->z.text=y.text)
def Lk.trans{x y z:Inl}(h:Lk x y)(k:Lk y z):Lk x z:=by
 obtain⟨a1,a2,a3,a4,a5,a6,a7,a8,a9⟩:=h;obtain⟨b1,b2,b3,b4,b5,b6,b7,b8,b9⟩:=k;exact⟨a1.trans b1,a2.trans b2,a3.trans b3,a4.trans b4,a5.trans b5,a6.trans b6,a7.trans b7,a8.trans b8,fun q=>(a9 (by rw[b1];exact q)).trans (b9 q)⟩
def zCt(x:Inl)(ks:List Inl):Lk (znH x ks) x:=⟨rfl,rfl,rfl,rfl,rfl,rfl,rfl,rfl,fun _=>rfl⟩
def zCu(x:Inl)(t:Bs)(ks:List Inl)(h:x.kind=1):Lk (zHY x t ks) x:=⟨rfl,rfl,rfl,rfl,rfl,rfl,rfl,rfl,fun q=>absurd h q⟩
def zuV(f:List Inl->List Inl):∀(xs:List Inl) (j:Option Inl) (T:Bs),(∀x,j=some x->x.kind=1)->∀z∈mgL f j T xs,∃x,(x∈xs\/j=some x)/\Lk z x/\z.kids=f x.kids
 | [],j,T,hj,z,hz=>by
  unfold mgL zuU at hz;cases j with
  | none=>cases hz
  | some x =>
   rw[bu]at hz;subst hz;exact⟨x,.inr rfl,zCu _ _ _ (hj x rfl),rfl⟩
 | x::r,j,T,hj,z,hz=>by
  rw[mgL]at hz
  split at hz
  .rename_i hk;obtain⟨x2,h1,h2⟩:=zuV f r _ _ (fun y hy=>by
    split at hy
    .exact hj y hy
    .cases hy;exact hk) z hz
   rcases h1 with h1|h1
   .exact⟨x2,.inl (bl _ h1),h2⟩
   .split at h1
    .exact⟨x2,.inr h1,h2⟩
    .cases h1;exact⟨x,.inl (bI ..),h2⟩
  .rcases aV.1 hz with hz|hz
   .unfold zuU at hz;cases j with
    | none=>cases hz
    | some x2 =>
     rw[bu]at hz;subst hz;exact⟨x2,.inr rfl,zCu _ _ _ (hj x2 rfl),rfl⟩
   .rcases bj.1 hz with rfl|hz
    .exact⟨x,.inl (bI ..),zCt _ _,rfl⟩
    .obtain⟨x2,h1,h2⟩:=zuV f r _ _ (fun y hy=>by cases hy) z hz;rcases h1 with h1|h1
     .exact⟨x2,.inl (bl _ h1),h2⟩
     .cases h1
def zjC{xs:List Inl}{z:Inl}(h:z∈zaD xs):∃x∈xs,z=x\/z∈zaD x.kids:=by
 induction xs with
 | nil=>cases h
 | cons x xs ih =>
  rcases aV.1 (show z∈zeH x++zaD xs from h)with h|h
  .rw[zcY]at h;exact⟨x,bI ..,bj.1 h⟩
  .obtain⟨x2,h1,h2⟩:=ih h;exact⟨x2,bl _ h1,h2⟩
def zdG{xs:List Inl}{x:Inl}(h:x∈xs):x∈zaD xs/\∀y∈zaD x.kids,y∈zaD xs:=zi9 h
def zGw:∀(n:Nat) (xs:List Inl),∀z∈zaD (zcB n xs),∃z'∈zaD xs,Lk z z'
 | 0,_,z,hz=>by cases hz
 | n+1,xs,z,hz=>by
  obtain⟨x,h1,h2⟩:=zjC hz;obtain⟨x0,h3,h4,h5⟩:=zuV (zcB n) xs none [] (fun y hy=>by cases hy) x h1;rcases h3 with h3|h3
  .rcases h2 with rfl|h2
   .exact⟨x0,(zdG h3).1,h4⟩
   .rw[h5]at h2;obtain⟨z',h6,h7⟩:=zGw n _ z h2;exact⟨z',(zdG h3).2 z' h6,h7⟩
  .cases h3
def zGx(c:FlT):∀(n:Nat) (xs:List Inl),∀z∈zaD (zcJ c n xs),(∃t,z=txI t)\/(z.kind≠13/\∃z'∈zaD xs,Lk z z')
 | 0,_,z,hz=>by cases hz
 | n+1,xs,z,hz=>by
  obtain⟨x,h1,h2⟩:=zjC hz;obtain⟨x0,h3,rfl⟩:=bQ.1 (show x∈xs.map (zfU c (zcJ c n))from h1);unfold zfU at h2
  split at h2
  .rcases h2 with rfl|h2
   .exact .inl ⟨_,rfl⟩
   .cases h2
  .rename_i hk;rcases h2 with rfl|h2
   .exact .inr ⟨hk,x0,(zdG h3).1,zCt _ _⟩
   .rcases zGx c n x0.kids z h2 with q|⟨q,z',q2,q3⟩
    .exact .inl q
    .exact .inr ⟨q,z',(zdG h3).2 z' q2,q3⟩
def zGy(c:FlT)(n:Nat)(xs:List Inl):∀z∈zaD (zcB n (zcJ c n xs)),(∃t,Lk z (txI t))\/(z.kind≠13/\∃z'∈zaD xs,Lk z z'):=by
 intro z hz;obtain⟨z1,h1,h2⟩:=zGw n _ z hz;rcases zGx c n xs z1 h1 with⟨t,rfl⟩|⟨q,z',q2,q3⟩
 .exact .inl ⟨t,h2⟩
 .exact .inr ⟨by rw[h2.1];exact q,z',q2,h2.trans q3⟩
def zwV(c:FlT)(n:Nat)(xs:List Inl):∀z∈zaD (zcB n (zcJ c n xs)),z.kind=1\/(z.kind≠13/\∃z'∈zaD xs,z'.kind=z.kind):=by
 intro z hz;rcases zGy c n xs z hz with⟨t,h⟩|⟨q,z',q2,q3⟩
 .exact .inl h.1
 .exact .inr ⟨q,z',q2,q3.1.symm⟩
def zCv(c:FlT)(n:Nat)(xs:List Inl)(le:Bool)(h:zeO le xs=false):zeO le (zcB n (zcJ c n xs))=false:=by
 unfold zeO at h ⊢;rw[eD]at h ⊢;intro z hz q;have key:∀a b:Inl,a.kind=b.kind->zuT le a=zuT le b:=fun a b e=>(by unfold zuT;rw[e]);rcases zwV c n xs z hz with h1|⟨-,z',h1,h2⟩
 .have:zuT le z=zuT le (txI []):=key z (txI []) h1;rw[this]at q;cases le<;>exact absurd q c_
 .exact h z' h1 (by rw[key z' z h2];exact q)
def zp6{xs:List Blo}{z:Blo}(h:z∈zaQ xs):∃x∈xs,z=x\/z∈zaQ x.kids:=by
 induction xs with
 | nil=>cases h
 | cons x xs ih =>
  rcases aV.1 (show z∈zdO x++zaQ xs from h)with h|h
  .rw[zb2]at h;exact⟨x,bI ..,bj.1 h⟩
  .obtain⟨x2,h1,h2⟩:=ih h;exact⟨x2,bl _ h1,h2⟩
def zFk{xs:List Blo}{z:Inl}(h:z∈zaW xs):∃x∈xs,z∈zaD x.line\/z∈zaW x.kids:=by
 induction xs with
 | nil=>cases h
 | cons x xs ih =>
  rcases aV.1 (show z∈ze1 x++zaW xs from h)with h|h
  .rw[zlL]at h;exact⟨x,bI ..,aV.1 h⟩
  .obtain⟨x2,h1,h2⟩:=ih h;exact⟨x2,bl _ h1,h2⟩
def zwW(c:FlT)(m:Nat):∀(n:Nat) (xs:List Blo),∀z∈zaQ (zcK c m n xs),zwU z=false
 | 0,_,z,hz=>by cases hz
 | n+1,xs,z,hz=>by
  obtain⟨x,h1,h2⟩:=zp6 hz;obtain⟨b,h3,h4⟩:=ef.1 (show x∈xs.flatMap (zjJ c m (zcK c m n))from h1);unfold zjJ at h4
  split at h4
  .unfold zy7 at h4;obtain⟨e,-,rfl⟩:=bQ.1 h4;rcases h2 with rfl|h2
   .rfl
   .cases h2
  .rename_i hk;rw[bu]at h4;subst h4;rcases h2 with rfl|h2
   .exact eE.2 hk
   .exact zwW c m n b.kids z h2
def zwX(c:FlT)(m:Nat):∀(n:Nat) (xs:List Blo),∀z∈zaW (zcK c m n xs),z.kind≠13
 | 0,_,z,hz=>by cases hz
 | n+1,xs,z,hz=>by
  obtain⟨x,h1,h2⟩:=zFk hz;obtain⟨b,h3,h4⟩:=ef.1 (show x∈xs.flatMap (zjJ c m (zcK c m n))from h1);unfold zjJ at h4
  split at h4
  .unfold zy7 at h4;obtain⟨e,-,rfl⟩:=bQ.1 h4;rcases h2 with h2|h2
   .obtain⟨t,h5,h6⟩:=zjC h2;rw[show(zqT c e).line=[txI (fiE c (zCs c.sty e.src.type) e)]from rfl,bu]at h5;subst h5;rcases h6 with rfl|h6
    .show(1:Int)≠13;decide
    .cases h6
   .cases h2
  .rw[bu]at h4;subst h4;rcases h2 with h2|h2
   .rcases zwV c m b.line z h2 with q|⟨q,-⟩
    .rw[q];decide
    .exact q
   .exact zwX c m n b.kids z h2
def zHZ:Bs:=[91,93,59,64,123,36,96]
def zCw(c:Cit):Bool:=!lnB c.pre || !trimB c.pre || zk2 c.pre zHZ || !lnB c.suf || !trimB c.suf || zk2 c.suf zHZ
def zAh:List Cit->Int
 | []=>0
 | c::r=>if za8 c.key=false then 6 else if zCw c=true then 17 else zAh r
def zm3(l:List Cit):Int:=if l=[]then 8 else zAh l
def zH0{l:List Cit}{k:Nat}{x:Cit}(h:l[k]? = some x):zAh (l.drop k)=if za8 x.key=false then 6 else if zCw x=true then 17 else zAh (l.drop (k+1)):=by
 obtain⟨hk,rfl⟩:=ak.1 h;rw[aJ hk,zAh]
def zuW(S:Nat->Prop)(l:List Cit)(v:Value)(w:World)(hv:Cits S w v l)(hl:l.length<=1000)(hf:∀c∈l,c.key.length<=1100000/\c.pre.length<=1100000/\c.suf.length<=1100000):Calls prog 210 #[v] w fun e w'=>e=.returned (.int .i64 (zm3 l))/\Kept w w':=by
 have HV:=Hd hv;have HF:=Hd hf;obtain⟨a,c,rfl,hc⟩:=ge hv;have qA:=Hd (fun(s:Bs) w' (h:s.length<=1100000)=>zeI s w' h);have pd:=Hd (fun(s:Bs) w' (h:s.length<=1100000)=>zdN s w' a_);have vI:=Hd (fun(s:Bs) w' (h:s.length<=1100000)=>(zjX s w' h).mono fun e w'' (q:_/\w'=w'')=>(⟨q.1,q.2 ▸ af _⟩:_/\Kept w' w''));obtain⟨hY,oX⟩:∃f:Bs->Bool,Hi (∀s,zk2 s zHZ=f s):=⟨fun s=>zk2 s zHZ,fun _=>rfl⟩;have sM:Hi (∀(s:Bs) w',s.length<=1100000->Calls prog 143 #[.string (bs s),.string (bs zHZ)] w' fun e w''=>e=.returned (.bool (hY s))/\Kept w' w''):=fun s w' h=>(by rw[<- oX.o];exact zgU s zHZ w' h c_);unfold zHZ at sM;by_cases h0:l=[]
 .subst h0;have HR:Hi (zm3 []=8):=rfl;go_in;go_wp2
  (try go_ret)
  exact⟨by rw[HR.o];rfl,af _⟩
 obtain⟨R,HR⟩:=gX (zAh l);have mR:Hi (zm3 l=R):=(by show _=_;unfold zm3;rw[aa h0];exact HR.o);rw[mR.o];have hlz:((l.length:Int)==0)=false:=(by simpa using h0);clear hv hf h0 mR;go_in;go_wp2_with fail;go_loopw [3] (fun i wr=>∃k:Nat,k<=l.length/\i=.int .i64 k/\Hi (zAh (l.drop k)=R)/\Hi (Kept w wr)) (fun i _=>l.length - (intOf i).toNat)
 .exact⟨0,ai _,rfl,HR.o,af _⟩
 case round =>
  clear HR;obtain⟨k,hk,rfl,HS,kO⟩:=hrel;by_cases kV:k<l.length
  .obtain⟨x,hx⟩:∃x,l[k]? = some x:=⟨_,ac kV⟩;obtain⟨hkey,hpre,yN⟩:=HF.o x (am hx);have lG:=Hd (zH0 hx);obtain⟨g,o,cs,rfl,hg,qC,nf,hcs,hcw,-,-⟩:=iJ (HV.o.sam (cU kO.o) (fun _ _ q=>q)) k x hx;have wt:cs=[.string (bs x.key),.string (bs x.pre),.string (bs x.suf),.bool x.bare]:=hcw;subst wt;have d0:=hcs 0 _ rfl;have d1:=hcs 1 _ rfl;have d2:=hcs 2 _ rfl;have d3:=hcs 3 _ rfl;rw[dl]at d0;have lG:Hi ((if za8 x.key=false then 6 else if zCw x=true then 17 else zAh (l.drop (k+1)))=R):=(by show _=_;rw[<- lG.o];exact HS.o);clear hx hcs nf hcw HS qC;obtain⟨key,pre,suf,bare⟩:=x;simp only at d0 d1 d2 d3 hkey hpre yN lG;have HD:=Hd (aI wr 62 #[.string (bs key),.string (bs pre),.string (bs suf),.bool bare]);have kZ:=Hd (zaA wr (.cells #[.string (bs key),.string (bs pre),.string (bs suf),.bool bare] 62));go_upto_region 7 with fail;generalize wr.alloc _=w0 at *;generalize wr.heap.size=D at *;have c0:=HD.o.cell 0 _ rfl;have cz:=HD.o.lt;clear d0 d1 d2 d3 hg;go_wp2_with fail;refine k_ (qA.o key _ hkey) fun x0 hk0=>?_;have lg:=Hd hk0;clear hk0 c0 cz;cases hnk:za8 key with
   | false =>
    have kS:Hi (R=6):=(by show _=_;rw[<- lG.o,ae hnk]);go_wp2
    (try go_ret)
    exact⟨by rw[kS.o];rfl,kO.o.trans (kZ.o.trans lg.o)⟩
   | true =>
    have e0:=(HD.o.kept lg.o).cell 1 _ rfl;have z0:=(HD.o.kept lg.o).lt;go_wp2_with fail;refine k_ (pd.o pre _ hpre) fun x1 hk=>?_;have kT:=Hd (lg.o.trans hk);clear hk;clear e0 z0;cases hb0:lnB pre with
    | false =>
     have kS:Hi (R=17):=(by show _=_;rw[<- lG.o,aa (by rw[hnk];simp),ae];unfold zCw;simp [oX.o,hb0]);go_wp2
     (try go_ret)
     exact⟨by rw[kS.o];rfl,kO.o.trans (kZ.o.trans kT.o)⟩
    | true =>
     have e1:=(HD.o.kept kT.o).cell 1 _ rfl;have z1:=(HD.o.kept kT.o).lt;go_wp2_with fail;refine k_ (vI.o pre _ hpre) fun x2 hk=>?_;have kX:=Hd (kT.o.trans hk);clear hk;clear e1 z1;cases mX:trimB pre with
     | false =>
      have kS:Hi (R=17):=(by show _=_;rw[<- lG.o,aa (by rw[hnk];simp),ae];unfold zCw;simp [oX.o,hb0,mX]);go_wp2
      (try go_ret)
      exact⟨by rw[kS.o];rfl,kO.o.trans (kZ.o.trans kX.o)⟩
     | true =>
      have e2:=(HD.o.kept kX.o).cell 1 _ rfl;have z2:=(HD.o.kept kX.o).lt;go_wp2_with fail;refine k_ (sM.o pre _ hpre) fun x3 hk=>?_;have lq:=Hd (kX.o.trans hk);clear hk;clear e2 z2;cases mV:hY pre with
      | true =>
       have kS:Hi (R=17):=(by show _=_;rw[<- lG.o,aa (by rw[hnk];simp),ae];unfold zCw;simp [oX.o,hb0,mX,mV]);go_wp2
       (try go_ret)
       exact⟨by rw[kS.o];rfl,kO.o.trans (kZ.o.trans lq.o)⟩
      | false =>
       have e3:=(HD.o.kept lq.o).cell 2 _ rfl;have z3:=(HD.o.kept lq.o).lt;go_wp2_with fail;refine k_ (pd.o suf _ yN) fun x4 hk=>?_;have mg:=Hd (lq.o.trans hk);clear hk;clear e3 z3;cases mF:lnB suf with
       | false =>
        have kS:Hi (R=17):=(by show _=_;rw[<- lG.o,aa (by rw[hnk];simp),ae];unfold zCw;simp [oX.o,hb0,mX,mV,mF]);go_wp2
        (try go_ret)
        exact⟨by rw[kS.o];rfl,kO.o.trans (kZ.o.trans mg.o)⟩
       | true =>
        have e4:=(HD.o.kept mg.o).cell 2 _ rfl;have z4:=(HD.o.kept mg.o).lt;go_wp2_with fail;refine k_ (vI.o suf _ yN) fun x5 hk=>?_;have lX:=Hd (mg.o.trans hk);clear hk;clear e4 z4;cases hb4:trimB suf with
        | false =>
         have kS:Hi (R=17):=(by show _=_;rw[<- lG.o,aa (by rw[hnk];simp),ae];unfold zCw;simp [oX.o,hb0,mX,mV,mF,hb4]);go_wp2
         (try go_ret)
         exact⟨by rw[kS.o];rfl,kO.o.trans (kZ.o.trans lX.o)⟩
        | true =>
         have e5:=(HD.o.kept lX.o).cell 2 _ rfl;have z5:=(HD.o.kept lX.o).lt;go_wp2_with fail;refine k_ (sM.o suf _ yN) fun x6 hk=>?_;have lH:=Hd (lX.o.trans hk);clear hk;clear e5 z5;cases nR:hY suf with
         | true =>
          have kS:Hi (R=17):=(by show _=_;rw[<- lG.o,aa (by rw[hnk];simp),ae];unfold zCw;simp [oX.o,hb0,mX,mV,mF,hb4,nR]);go_wp2
          (try go_ret)
          exact⟨by rw[kS.o];rfl,kO.o.trans (kZ.o.trans lH.o)⟩
         | false =>
          have mb:Hi (zAh (l.drop (k+1))=R):=(by show _=_;rw[<- lG.o,aa (by rw[hnk];simp),aa];unfold zCw;simp [oX.o,hb0,mX,mV,mF,hb4,nR]);go_wp2;go_roundw
          .exact⟨k+1,a_,by go_num,mb.o,kO.o.trans (kZ.o.trans lH.o)⟩
          .simp [intOf];omega
  .obtain rfl:k=l.length:=a_;have kS:Hi (R=0):=(by show _=_;rw[<- HS.o,du];rfl);go_wp2
   (try go_ret)
   exact⟨by rw[kS.o];rfl,kO.o⟩
def zIW(c:Int):Bool:=c==32 || c==10
def zuX(c:Int)(w:World):Calls prog 178 #[.int .i64 c] w fun e w'=>e=.returned (.bool (zIW c))/\w=w':=by
 obtain⟨R,HR⟩:=gX (zIW c);rw[HR.o];rcases(show c=32\/(c≠32/\c=10)\/(c≠32/\c≠10)by omega)with rfl|⟨h1,rfl⟩|⟨h1,h2⟩
 case' inl=>have HV:Hi (R=true):=HR.o.symm
 case' inr.inl=>have HV:Hi (R=true):=HR.o.symm
 case' inr.inr =>
  have b1:(c==32)=false:=(by simpa using h1);have b2:(c==10)=false:=(by simpa using h2);have HV:Hi (R=false):=by show _=_;rw[<- HR.o];unfold zIW;rw[b1,b2];rfl
 all_goals
  clear HR;go_in;go_wp2
  (try go_ret)
  exact⟨by rw[HV.o];rfl,rfl⟩
def zGz(c:Int):Bool:=decide (48<=c)&&decide (c<=57)
def zuY(c:Int)(w:World):Calls prog 147 #[.int .i64 c] w fun e w'=>e=.returned (.bool (zGz c))/\w=w':=by
 obtain⟨R,HR⟩:=gX (zGz c);rw[HR.o];rcases(show c<48\/(48<=c/\57<c)\/(48<=c/\c<=57)by omega)with h1|⟨h1,h2⟩|⟨h1,h2⟩
 case' inl=>have HV:Hi (R=false):=by(show _=_;rw[<- HR.o];unfold zGz;rw[bH a_];rfl)
 case' inr.inl=>have HV:Hi (R=false):=by(show _=_;rw[<- HR.o];unfold zGz;rw[bJ h1,bH a_];rfl)
 case' inr.inr=>have HV:Hi (R=true):=by(show _=_;rw[<- HR.o];unfold zGz;rw[bJ h1,bJ h2];rfl)
 all_goals
  clear HR;go_in;go_wp2
  (try go_ret)
  exact⟨by rw[HV.o];first|rfl|(simp;done)|(simp;omega),rfl⟩
def zAi(c:Int):Int:=if(65<=c/\c<=90)\/(192<=c/\c<=222/\c≠215)\/(913<=c/\c<=939/\c≠930)\/(1040<=c/\c<=1071)then c+32 else if 1024<=c/\c<=1039 then c+80 else c
def zuZ(c:Int)(w:World):Calls prog 179 #[.int .i64 c] w fun e w'=>e=.returned (.int .i64 (zAi c))/\w=w':=by
 obtain⟨R,HR⟩:=gX (zAi c);rw[HR.o];rcases(show c<=64\/(65<=c/\c<=90)\/(91<=c/\c<=191)\/(192<=c/\c<=214)\/(215<=c/\c<=215)\/(216<=c/\c<=222)\/(223<=c/\c<=912)\/(913<=c/\c<=929)\/(930<=c/\c<=930)\/(931<=c/\c<=939)\/(940<=c/\c<=1023)\/(1024<=c/\c<=1039)\/(1040<=c/\c<=1071)\/1072<=c by omega)with h|⟨h,k⟩|⟨h,k⟩|⟨h,k⟩|⟨h,k⟩|⟨h,k⟩|⟨h,k⟩|⟨h,k⟩|⟨h,k⟩|⟨h,k⟩|⟨h,k⟩|⟨h,k⟩|⟨h,k⟩|h
 all_goals
  first
   | have HV:Hi (R=c):=by(show _=_;rw[<- HR.o];unfold zAi;rw[aa a_,aa a_])
   | have HV:Hi (R=c+32):=by(show _=_;rw[<- HR.o];unfold zAi;rw[ae a_])
   | have HV:Hi (R=c+80):=by(show _=_;rw[<- HR.o];unfold zAi;rw[aa a_,ae a_])
  clear HR;go_in;go_wp2
  (try go_ret)
  exact⟨by rw[HV.o];first|rfl|(simp;done)|go_num,rfl⟩
def inR(c:Int)(l:List (Int×Int)):Bool:=l.any fun r=>decide (r.1<=c)&&decide (c<=r.2)
def zJo{c:Int}{l:List (Int×Int)}{r:Int×Int}(h:r∈l)(h1:r.1<=c)(h2:c<=r.2):inR c l=true:=by
 unfold inR;rw[dv];exact⟨r,h,by rw[bJ h1,bJ h2];rfl⟩
def zJp{c:Int}{l:List (Int×Int)}(h:∀r∈l,¬ (r.1<=c/\c<=r.2)):inR c l=false:=by
 unfold inR;rw[eD];intro r hr;simp only[ba,cq];exact h r hr
def zJZ(l:List (Int×Int)):List Value:=l.flatMap fun r=>[.int .i64 r.1,.int .i64 r.2]
def zH1{l:List (Int×Int)}{j:Nat}{r:Int×Int}(h:l[j]? = some r):(zJZ l)[j * 2]? = some (.int .i64 r.1)/\(zJZ l)[j * 2+1]? = some (.int .i64 r.2):=by
 induction l generalizing j with
 | nil=>cases h
 | cons x l ih =>
  cases j with
  | zero=>cases h;exact⟨rfl,rfl⟩
  | succ j =>
   have:=ih (j:=j) (by simpa using h);rw[show(j+1) * 2=j * 2+1+1 by omega];exact this
def zFl(c:Int)(l:List (Int×Int))(g cp:Nat)(w:World)(hl:l.length<=100)(hb:Blk w g 246 (zJZ l).toArray):Calls prog 181 #[.int .i64 c,.slice (some ⟨g,0,none⟩) l.length cp] w fun e w'=>e=.returned (.bool (inR c l))/\Kept w w':=by
 have HB:=Hd hb;have HY:Hi (∀r∈l,r.1<=c->c<=r.2->inR c l=true):=fun r h h1 h2=>zJo h h1 h2;have HN:Hi ((∀r∈l,¬ (r.1<=c/\c<=r.2))->inR c l=false):=fun h=>zJp h;generalize inR c l=R at *;clear hb;go_in;go_wp2_with fail;go_loopw [9] (fun i wr=>∃q:Nat,q<=l.length/\i=.int .i64 q/\Hi (∀r∈l.take q,¬ (r.1<=c/\c<=r.2))/\Hi (Kept w wr)) (fun i _=>l.length - (intOf i).toNat)
 .exact⟨0,ai _,rfl,(fun r h=>by cases h),af _⟩
 case round =>
  obtain⟨q,hq,rfl,HQ,kO⟩:=hrel;by_cases xU:q<l.length
  .obtain⟨x,hx⟩:∃x,l[q]? = some x:=⟨_,ac xU⟩;obtain⟨e0,e1⟩:=zH1 hx;have d0:=(HB.o.kept kO.o).cell (q * 2) _ (by rw[dK];exact e0);have d1:=(HB.o.kept kO.o).cell (q * 2+1) _ (by rw[dK];exact e1);have dz:=(HB.o.kept kO.o).lt;have yM:=Hd (HY.o x (am hx));have Ip:Hi (¬ (x.1<=c/\c<=x.2)->∀r∈l.take (q+1),¬ (r.1<=c/\c<=r.2)):=fun h r hr=>by
    rw[eo,hx]at hr;rcases aV.1 hr with s|s
    .exact HQ.o r s
    .rw[bu.1 s];exact h
   clear hx e0 e1 HQ;obtain⟨y,z⟩:=x;simp only at d0 d1 yM Ip;have HD:=Hd (aI wr 246 #[.int .i64 y,.int .i64 z]);have kZ:=Hd (kO.o.trans (zaA wr (.cells #[.int .i64 y,.int .i64 z] 246)));rcases(show c<y\/(y<=c/\z<c)\/(y<=c/\c<=z)by omega)with h1|⟨h1,h2⟩|⟨h1,h2⟩
   case' inl=>have qG:=Hd (Ip.o a_)
   case' inr.inl=>have qG:=Hd (Ip.o a_)
   case' inr.inr =>
    obtain rfl:=yM.o h1 h2;go_upto_region 4 with fail;generalize wr.alloc _=w0 at *;generalize wr.heap.size=D at *;have c0:=HD.o.cell 0 _ rfl;have c1:=HD.o.cell 1 _ rfl;have cz:=HD.o.lt;clear d0 d1;go_wp2
    (try go_ret)
    exact⟨rfl,kZ.o⟩
   all_goals
    go_upto_region 4 with fail;generalize wr.alloc _=w0 at *;generalize wr.heap.size=D at *;have c0:=HD.o.cell 0 _ rfl;have c1:=HD.o.cell 1 _ rfl;have cz:=HD.o.lt;clear d0 d1;go_wp2;go_roundw
    .exact⟨q+1,a_,by go_num,qG.o,kZ.o⟩
    .simp [intOf];omega
  .obtain rfl:q=l.length:=a_;obtain rfl:=HN.o (by have:=HQ.o;rwa [bi]at this);clear HY HN;go_wp2
   (try go_ret)
   exact⟨rfl,kO.o⟩
def zH2:List (Int×Int):=[(65,90),(97,122),(170,170),(181,181),(186,186),(192,214),(216,246),(248,687),(880,1327),(4256,4351),(7680,8191),(12353,12538),(19968,40959),(44032,55203)]
def zIX(c:Int):Bool:=inR c zH2
def zsX(c:Int)(w:World):Calls prog 146 #[.int .i64 c] w fun e w'=>e=.returned (.bool (zIX c))/\Kept w w':=by
 have HL:Hi (Calls prog 181 #[.int .i64 c,.slice (some ⟨w.heap.size,0,none⟩) 14 14] (w.alloc (.cells #[.int .i64 65,.int .i64 90,.int .i64 97,.int .i64 122,.int .i64 170,.int .i64 170,.int .i64 181,.int .i64 181,.int .i64 186,.int .i64 186,.int .i64 192,.int .i64 214,.int .i64 216,.int .i64 246,.int .i64 248,.int .i64 687,.int .i64 880,.int .i64 1327,.int .i64 4256,.int .i64 4351,.int .i64 7680,.int .i64 8191,.int .i64 12353,.int .i64 12538,.int .i64 19968,.int .i64 40959,.int .i64 44032,.int .i64 55203] 246)) fun e w'=>e=.returned (.bool (zIX c))/\Kept w w') :=
  (zFl c zH2 w.heap.size 14 _ c_ (aI w 246 (zJZ zH2).toArray)).mono fun e w' ⟨h,k⟩=>⟨h,(zaA _ _).trans k⟩
 generalize zIX c=R at *;go_in;go_wp2_with fail;refine k_ HL.o fun w1 ld=>?_;have kT:=Hd ld;clear ld HL;go_wp2
 (try go_ret)
 exact⟨rfl,kT.o⟩
def zp7{P:Program}(w:World){o:Oper}{a:Act}{K:Act->World->Prop}{Q:Exit->Act->World->Prop}(s x:Operand)(t:TypeId)(ho:o.op=.call { callee:=.builtin .append,args:=#[s,x],argTypes:=#[t,t] })
  (base:Nat) (e:TypeId) (i:TypeInfo) (z:Value) (size bytes:Nat) (ht:P.underlying t=some (.slice e)) (hi:P.info? e=some i) (hz:i.zero=some z)
  (hsize:i.size=size) (hby:i.bytes=bytes) (hzs:z.cells.size=size) (ny:0<size)
  (v:Value) (n:Nat) (xs:List Value) (hs:a.eval s=v) (lc:w.ownsRow base e size v n xs)
  (a':Option Addr) (m c:Nat) (news:List Value) (hx:a.eval x=.slice a' m c) (hl:news.length=m * size)
  (hsrc:0<m->∃g o2,a'=some ⟨g,o2,none⟩/\∀j u,news[j]? = some u->w.cell? ⟨g,o2+j,none⟩=some u) (h1:∀u∈news,u.oneCell'=true)
  (h63:n+m<=maxLen) (ng:(n+m) * bytes<=140737488355328) (mL:base<=w.heap.size)
  (h:∀v' w',w'.ownsRow base e size v' (n+m) (xs++news)->w.grownBy w' v.ownBlock->(∀g,v'.ownBlock=some g->v.ownBlock=some g\/g=w.heap.size)->K (a.put o.dst v') w'):Oper.wp P o a w K Q:=by
 by_cases hq:0<m
 .obtain⟨g,o2,rfl,hc⟩:=hsrc hq;refine wp_append_lies w s x t ho base e i z size bytes ht hi hz hsize hby hzs ny v n xs hs lc ⟨g,o2,none⟩ m c news hx hl (fun j u hu=>by rw[zo5];exact hc j u hu) h1 hq h63 ng mL w.heap.size rfl ?_;intro g' lJ w' h1 h2 h4 _;exact h _ _ h1 h2 (fun g hg=>by cases hg;exact h4)
 .obtain rfl:m=0:=a_;obtain rfl:news=[]:=bD.1 a_;have hown':=lc;obtain⟨a2,c2,rfl,hle,_,_⟩:=zaZ lc;have hsrc:Src P i.size t (.slice a' 0 c) 0 [] w:=by
   refine⟨.inl ⟨_,ht⟩,fun w'=>?_,?_,?_,b_,b_⟩
   .simp [Builtin.lenOf]
   .cases a'<;>simp [Builtin.firstCells,loadCells,loadCellsFrom]
   .cases a'<;>simp [Builtin.firstCells,loadCells,loadCellsFrom]
  have hr:=run_append_nothing (P:=P) w t t o.type e i ht hi a2 n c2 hle (.slice a' 0 c) hsrc;unfold Oper.wp execOp;simp only[ho,resolve,invoke,builtin,bo,bn,ie,ck,bd,ca,hs,hx];rw[hr];refine h _ _ ?_ (jF _ _) (fun g hg=>.inl hg);rw[bN];exact hown'
end Go.Proofs.YtnldgmhdjancbaaGreatDoor
