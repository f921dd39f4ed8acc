/- Parts. -/
import Derived.Test.YtnldgmhdjancbaaGreatDoorW04
set_option linter.all false
set_option maxRecDepth 100000
set_option maxHeartbeats 1600000
namespace Go.Proofs.YtnldgmhdjancbaaGreatDoor
open Go.RowKit Go.Proofs.Tryz
def zrF(l:Bs)(i k:Nat)(a b:Int):zaH (bs (l.drop i)) k a b=zaH (bs l) (i+k) a b:=by
 unfold zaH;have e:zaC (bs (l.drop i)) k=zaC (bs l) (i+k):=by
  rw[za4,za4];unfold at8;simp
 rw[e];have:((bs (l.drop i)).size<=k)↔((bs l).size<=i+k):=e_;simp only[this]
def zrG(l:Bs)(i:Nat):dec (bs (l.drop i)) 0=dec (bs l) i:=by
 have e:zaC (bs (l.drop i)) 0=zaC (bs l) i:=(by rw[za4,za4];unfold at8;simp);unfold dec zhH ztQ;rw[e];simp only[zrF,bP]
def zlB(x t:Bs)(k:Nat)(h:k<x.length):at8 (x++t) k=at8 x k:=by
 unfold at8;rw[cd,cd,bX h]
def zAJ(x t:Bs):at8 (x++t) x.length=at8 t 0:=by
 unfold at8;rw[cd,cd,bp (aw _)];simp
def zAK(x t:Bs)(hx:0<x.length)(ht:t=[]\/at8 t 0<128):dec (bs (x++t)) 0=dec (bs x) 0:=by
 have e0:zaC (bs (x++t)) 0=zaC (bs x) 0:=(by rw[za4,za4];exact zlB x t 0 hx);have A:∀k a b,k<x.length->zaH (bs (x++t)) k a b=zaH (bs x) k a b:=by
  intro k a b h;unfold zaH;rw[za4,za4,zlB x t k h];have:((bs (x++t)).size<=k)↔((bs x).size<=k):=e_;simp only[this]
 have B:∀k a b,k=x.length->128<=a->zaH (bs (x++t)) k a b = -1:=by
  intro k a b h ha;subst h;unfold zaH;rw[ae];rcases ht with rfl|ht
  .left;simp
  .right;left;rw[za4,zAJ];omega
 have C:∀k a b,x.length<=k->zaH (bs x) k a b = -1:=by
  intro k a b h;unfold zaH;rw[ae (.inl (by simpa using h))]
 have hl3:128<=zfT (zaC (bs x) 0):=(by unfold zfT;split<;>omega);have hl4:128<=ze5 (zaC (bs x) 0):=(by unfold ze5;split<;>omega);unfold dec zhH ztQ;rw[e0];simp only[bP];rcases(show x.length=1\/x.length=2\/x.length=3\/4<=x.length by omega)with h|h|h|h
 .simp only[B 1 _ _ h.symm (fl _),B 1 _ _ h.symm hl3,B 1 _ _ h.symm hl4,C 1 _ _ a_];simp
 .simp only[A 1 _ _ a_,B 2 _ _ h.symm (fl _),C 2 _ _ a_];simp
 .simp only[A 1 _ _ a_,A 2 _ _ a_,B 3 _ _ h.symm (fl _),C 3 _ _ a_]
 .simp only[A 1 _ _ a_,A 2 _ _ a_,A 3 _ _ a_]
def zx2(x:Bs)(m k:Nat)(hk:x.length - k<=m):zbX (bs x) k=za9 (bs (x.drop k)):=by
 induction m generalizing x k with
 | zero =>
  rw[zb1 _ _ e_];unfold za9;rw[zb1 _ _ e_]
 | succ m JY =>
  by_cases hkx:k<x.length
  .have hbx:=zaX (bs x) k (by simpa using hkx);unfold za9;rw[zdW _ _ (by simpa using hkx),zdW (bs (x.drop k)) 0 e_,zrG,bP];congr 1;rw[JY x _ a_,JY (x.drop k) _ e_,jr]
  .rw[zb1 _ _ (by simpa using hkx)];unfold za9;rw[zb1 _ _ e_]
def ze9(l:Bs)(h:0<l.length):za9 (bs l)=(zb4 (dec (bs l) 0)&&za9 (bs (l.drop (dec (bs l) 0).2.toNat))):=by
 rw[<- zx2 l _ _ (aw _)]
 conv=>lhs;unfold za9
 rw[zdW _ _ (by simpa using h),bP]
def zrH:za9 (bs [])=true:=zb1 _ _ b_
def zDY(c:UInt8)(hc:32<=(c.toNat:Int)/\(c.toNat:Int)<127)(b:Bs):∀(n:Nat) (a:Bs),a.length<=n->za9 (bs (a++c::b))=(za9 (bs a)&&za9 (bs b)):=by
 intro n
 induction n with
 | zero =>
  intro a ha;obtain rfl:a=[]:=bD.1 a_;rw[dV,ze9 (c::b) b_,zrH];have e0:zaC (bs (c::b)) 0=(c.toNat:Int):=rfl;have e:dec (bs (c::b)) 0=((c.toNat:Int),1):=(by unfold dec;rw[e0,ae a_]);rw[e];have g:zb4 ((c.toNat:Int),1)=true:=by
   have h1:zeC (c.toNat:Int)=true:=(by unfold zeC;simp;omega);have h2:((c.toNat:Int)==65533)=false:=(by rw[ab];omega);simp only[zb4,h1,h2];rfl
  rw[g];rfl
 | succ n ih =>
  intro a ha;by_cases h0:a=[]
  .exact(show a.length<=n->_ from ih a) (by simp [h0])
  .have hl:=eI.2 h0;have hb:=zaX (bs a) 0 (by simpa using hl);rw[ze9 (a++c::b) e_,ze9 a hl,zAK a (c::b) hl (.inr (by show((c.toNat:Int))<128;omega))];simp only[zdZ]at hb;have e:(a++c::b).drop (dec (bs a) 0).2.toNat=a.drop (dec (bs a) 0).2.toNat++c::b:=kv a_;rw[e,ih _ e_,Bool.and_assoc]
def zv0:zgN []=true:=by unfold zgN;rw[zrH];rfl
def zAL(c:UInt8)(hc:32<=(c.toNat:Int)/\(c.toNat:Int)<127)(a b:Bs):zgN (a++c::b)=(zgN a&&zgN b):=by
 unfold zgN;rw[zDY c hc b _ a (aw _)];have lV:(10==c)=false:=by
  rw[ab];rintro rfl;simp at hc
 have e:(a++c::b).contains 10=(a.contains 10 || b.contains 10):=by
  rw[List.contains_append,List.contains_cons,lV];simp
 rw[e];cases za9 (bs a)<;>cases za9 (bs b)<;>cases a.contains 10<;>cases b.contains 10<;>rfl
def zDZ(a x:Bs)(h:∀b∈a,32<=(b.toNat:Int)/\(b.toNat:Int)<127):zgN (a++x)=zgN x:=by
 induction a with
 | nil=>rfl
 | cons b a ih =>
  have:=zAL b (h b b_) [] (a++x);rw[dV,zv0,eL]at this;rw[ei,this];exact ih (fun c hc=>h c (by simp [hc]))
def zD0(a:Bs)(h:∀b∈a,32<=(b.toNat:Int)/\(b.toNat:Int)<127):zgN a=true:=by
 have:=zDZ a [] h;rw[bN,zv0]at this;exact this
def zD1{α:Type}(f:α->Bool)(l:List α)(k:Nat)(p:α)(h:l[k]? = some p):(l.drop k).all f=(f p&&(l.drop (k+1)).all f):=by
 obtain⟨hk,rfl⟩:=ak.1 h;rw[aJ hk,ci]
def zAM{α:Type}(f:α->Bool)(l:List α)(b:Bool)(h:b=l.all f):Hi (b=(l.drop 0).all f):=by unfold Hi;simpa using h
def zjO(s:ByteArray)(w:World)(hs:s.size<=1000000000):Calls prog 33 #[.string s] w fun e w'=>e=.returned (.bool (za9 s))/\Kept w w':=by
 have mh:(zcS s).length<=s.size:=(by have:=zoZ s 0;unfold zcS;omega);have HV:=zo0 s;go_in;go_wp2_with fail;refine(znX s _ hs).mono ?_;rintro e w1 ⟨v,rfl,lc,hk⟩;generalize zcS s=pts at *;obtain⟨a,c,rfl,h1,h2,h3⟩:=zaZ lc;have hat:=znW pts;have H3:=Hd h3;have lG:=Hd hat;have HK:=Hd hk;have Mc:=zAM _ _ _ HV;clear h3 hat hk lc HV;go_wp2_with fail;go_loopw [8] (fun i wr=>∃(k:Nat),k<=pts.length/\i=.int .i64 k/\Hi (za9 s=(pts.drop k).all zb4)/\Kept w1 wr) (fun i _=>pts.length - (intOf i).toNat)
 .exact⟨0,ai _,rfl,Mc,af _⟩
 case round =>
  obtain⟨k,hkl,rfl,HP,ou⟩:=hrel;by_cases kV:k<pts.length
  .obtain⟨g,rfl,_,hg,kR⟩:=H3.o a_;obtain⟨p,hp⟩:∃p,pts[k]? = some p:=⟨_,ac kV⟩;have HA:Hi ((pts.drop k).all zb4=(zb4 p&&(pts.drop (k+1)).all zb4)):=zD1 zb4 pts k p hp;obtain⟨c0,c1⟩:=lG.o k p hp;have c0':wr.cell? ⟨g,k * 2,none⟩=some (.int .i64 p.1):=(ou.cell (p:=⟨g,k * 2,none⟩) hg).trans (kR _ _ (by rw[iU];exact c0));have c1':wr.cell? ⟨g,k * 2+1,none⟩=some (.int .i64 p.2):=(ou.cell (p:=⟨g,k * 2+1,none⟩) hg).trans (kR _ _ (by rw[iU];exact c1));have HR:=Hd ou;clear ou kR hp c0 c1;obtain⟨c,n⟩:=p;simp only at c0' c1';have hgr:g<wr.heap.size:=(by have:=HR.o.size;omega);have tt:(zeC c=false/\zb4 (c,n)=false)\/(zeC c=true/\(c==65533)=false/\zb4 (c,n)=true)\/(zeC c=true/\(c==65533)=true/\(n==1)=false/\zb4 (c,n)=true)\/(zeC c=true/\(c==65533)=true/\(n==1)=true/\zb4 (c,n)=false):=by
    unfold zb4;cases zeC c<;>cases (c==65533)<;>cases (n==1)<;>simp
   rcases tt with⟨t1,t4⟩|⟨t1,t2,t4⟩|⟨t1,t2,t3,t4⟩|⟨t1,t2,t3,t4⟩
   all_goals
    have HG:=Hd t4;clear t4;go_wp2_with (go_at_call 67;refine(zxV _ _).mono ?_;rintro e w' ⟨rfl,rfl⟩)
    first
    | (
       go_ret;exact⟨zaY (by rw[HP.o,HA.o,HG.o];rfl),(HK.o.trans HR.o).trans (zaA _ _)⟩)
    | (
       go_roundw
       .exact⟨k+1,a_,by go_num,by show _=_;rw[HP.o,HA.o,HG.o];simp,HR.o.trans (zaA _ _)⟩
       .simp [intOf];omega)
  .have HR:=Hd ou;clear ou;go_wp2;go_ret;exact⟨zaY (by rw[HP.o,db a_];rfl),HK.o.trans HR.o⟩
def IntsP(xs:List Int)(w:World)(e:Ending)(w':World):Prop:=∃v,e=.returned v/\Ints w' v xs/\Kept w w'
def zD2(s:Bs)(i:Nat)(w:World)(hs:s.length<=1100000)(h0:i<s.length):Calls prog 145 #[.string (bs s),.int .i64 i] w fun e w'=>e=.returned (.tuple #[.int .i64 (dec (bs s) i).1,.int .i64 (dec (bs s) i).2])/\Kept w w':=by
 have HA:Hi (∀w,Calls prog 100 #[.string (bs s),.int .i64 i] w fun e w'=>e=.returned (.agg #[.int .i64 (dec (bs s) i).1,.int .i64 (dec (bs s) i).2])/\Kept w w'):=fun w=>zGf (bs s) i w e_ (by simpa using h0);generalize dec (bs s) i=p at *;obtain⟨a,b⟩:=p;go_in;go_wp2_with fail;refine k_ (HA.o _) fun w1 ld=>?_;have kT:=Hd ld;clear ld;go_wp2_with fail
 go_quiet (fail)
 go_wp2;go_ret2;exact⟨rfl,(kT.o.trans (zaA _ _)).trans (zaB _ _)⟩
def zhY(l:Bs)(w:World)(hl:l.length<=1100000):Calls prog 172 #[.string (bs l)] w (IntsP (zeP l) w):=by
 obtain⟨i0,hi,mr,mq,mm⟩:=cg Tryz.infoInt;have H0:Hi (zeP l=[]++ztZ l 0):=(by show _=_;rw[zl0];rfl);unfold IntsP;go_in;go_wp2_with (at_make;refine wpList_make_own _ rfl _ _ 178 rfl w.heap.size 3 i0 (.int .i64 0) 1 ew hi mr mq .i64 .i64 l.length l.length rfl rfl rfl (by rw[mm];omega) h_ b_ ?_;intro w1 lc lw);have kT:Kept w w1:=Below.grown (gc _ _) lw (aw _) (fun j hj=>by cases hj);have hs1:w.heap.size<=w1.heap.size:=kT.size;go_loopw [3] (fun v wr=>∃(pos:Nat) (xs:List Int),pos<=l.length/\wr.heap[w1.heap.size]? = some (.stringIter (bs l) pos)/\wr.ownsRow w.heap.size 3 1 v xs.length (zAF xs)/\Hi (zeP l=xs++ztZ l pos)/\xs.length<=pos/\Kept w wr) (fun _ wr=>l.length - wr.iterPos w1.heap.size)
 .exact⟨0,[],ai _,eQ _ _ _,za1 lc (zaA _ _),H0,aw _,kT.trans (zaA _ _)⟩
 case round =>
  clear lc lw;obtain⟨pos,xs,hp,mz,lc,HA,hxl,hk⟩:=hrel;have sr:wr.iterPos w1.heap.size=pos:=(by simp [World.iterPos,mz]);have ny:w1.heap.size<wr.heap.size:=by
   rcases bG w1.heap.size wr.heap.size with q|q
   .exact q
   .rw[bB q]at mz;cases mz
  by_cases kV:pos<l.length
  .have nx:=fun ty=>zc2 (P:=prog) wr w1.heap.size (bs l) pos ty mz kV;have hb:=zaX (bs l) pos kV;have HP:=Hd (zo4 l pos kV);have oV:(wr.iterAt w1.heap.size (bs l) (pos+(dec (bs l) pos).2.toNat)).heap[w1.heap.size]? = some (.stringIter (bs l) (pos+(dec (bs l) pos).2.toNat)):=fy wr w1.heap.size (bs l) pos _ mz;have hkW:Kept w (wr.iterAt w1.heap.size (bs l) (pos+(dec (bs l) pos).2.toNat)):=fj hk hs1 (bs l) _;have rB:=zhX lc mz (bs l) (pos+(dec (bs l) pos).2.toNat);have lV:=zhW lc mz;have tS:(wr.iterAt w1.heap.size (bs l) (pos+(dec (bs l) pos).2.toNat)).heap.size=wr.heap.size:=eV ..;obtain⟨c,n,hd⟩:∃c n,dec (bs l) pos=(c,n):=⟨(dec (bs l) pos).1,(dec (bs l) pos).2,rfl⟩;rw[hd]at nx hb HP oV hkW rB tS;simp only at nx hb HP oV hkW rB tS;obtain⟨b1,b2,b3,b4,b5⟩:=hb;simp only[zdZ]at b5;obtain⟨W,HW⟩:=gX (wr.iterAt w1.heap.size (bs l) (pos+n.toNat));simp only[HW.o]at nx oV hkW rB tS;have sx:=Hd oV;have lD:=Hd hkW;have uU:=Hd lV;have ob:=Hd sr;have hszW:w1.heap.size<W.heap.size:=a_;have Md:w.heap.size<=W.heap.size:=a_;clear oV hkW hd sr mz hk lc lV tS;go_wp2_with (at_builtin;refine cV _ rfl _ _ 178 rfl w.heap.size 3 i0 (.int .i64 0) 1 8 ew hi mr mq mm rfl c_ _ _ _ rfl (rB.alloc _) ⟨W.heap.size,0,none⟩ 1 1 [.int .i64 c] rfl rfl ?_ ?_ ?_ ?_ ?_ ?_)
   .exact zbO _ #[.int .i64 c] _ _ b_
   .intro u hu;simp at hu;subst hu;rfl
   .unfold maxLen;omega
   .omega
   .simp;omega
   intro v' w2 lr mG _;have lx:=Hd ((lD.o.trans (zaA W _)).trans' (za2 (rB.alloc _) mG e_));have hit2:w2.heap[w1.heap.size]? = some (.stringIter (bs l) (pos+n.toNat)):=by
    rw[mG.block w1.heap.size e_ uU.o,Below.heap_alloc _ _ _ hszW];exact sx.o
   have oM:=Hd hit2;rw[<- ziL]at lr;have HO:=Hd lr;clear lr mG rB hit2;go_wp2;go_roundw
   .exact⟨pos+n.toNat,xs++[c],a_,oM.o,by simpa using HO.o,by show _=_;rw[HA.o,HP.o];simp,e_,lx.o⟩
   .rw[ob.o];have:=oM.o;simp [World.iterPos,this];omega
  .have nx:=fun ty=>zbM (P:=prog) wr w1.heap.size (bs l) pos ty mz kV;have HI:=Hd (Ints.own lc);have HL:Hi (zeP l=xs):=by
    show _=_;rw[HA.o,ziJ l pos kV,bN]
   have HK:=Hd hk;clear lc hk;go_wp2;go_ret;exact⟨_,rfl,by rw[HL.o];exact HI.o,HK.o⟩
def Col(w:World)(vR vO:Value)(c:ColT):Prop:=Prs w vR c.ranks/\Strs w vO c.order
def Col.kept{w w':World}{vR vO:Value}{c:ColT}(h:Col w vR vO c)(k:Kept w w'):Col w' vR vO c:=⟨h.1.kept k,h.2.kept k⟩
abbrev zDD(vR vO:Value)(ig:Bs):Value:=.agg #[vR,vO,.string (bs ig)]
def SmallC(c:ColT):Prop:=c.ranks.length<=1000/\c.order.length<=1000/\c.ignore.length<=1000/\(∀s∈c.order,s.length<=1000)/\∀p∈c.ranks,p.1.length<=1000/\p.2.length<=1000
def MapV.no_cell{w:World}{m:Nat}{es:List (Int×Value)}(h:MapV w m es)(o:Nat):w.cell? ⟨m,o,none⟩=none:=by unfold MapV at h;simp [World.cell?,h]
def Ints.map{w w':World}{v:Value}{xs:List Int}{m:Nat}{es:List (Int×Value)}(h:Ints w v xs)(hm:MapV w m es)(k:Only (fun i=>i=m) w w'):Ints w' v xs:=by
 obtain⟨a,c,hv,hc,h3⟩:=h;refine⟨a,c,hv,hc,fun q=>?_⟩;obtain⟨g,o,ha,hg,kR⟩:=h3 q;have lV:g≠m:=by
  rintro rfl;have h0:=kR 0 _ (ac q);rw[hm.no_cell]at h0;cases h0
 exact⟨g,o,ha,aU hg k.size,fun j x hx=>(k.cell g _ hg lV).trans (kR j x hx)⟩
def Blk.onl{S:Nat->Prop}{w w':World}{g:Nat}{t:TypeId}{cs:Array Value}(h:Blk w g t cs)(k:Only S w w')(hs:¬ S g):Blk w' g t cs:=(k.block g h.lt hs).trans h
def Blk.no_map{w:World}{g m:Nat}{t:TypeId}{cs:Array Value}{es:List (Int×Value)}(h:Blk w g t cs)(hm:MapV w m es):g≠m:=by
 rintro rfl;unfold Blk at h;unfold MapV at hm;rw[h]at hm;cases hm
def Tryz.zeroBool(w:World):(zeroValue 4).run prog w=.ok (.bool false) w:=g_
def Strs.cell_of{w:World}{a:Option Addr}{n c:Nat}{xs:List Bs}(h:Strs w (.slice a n c) xs)(k:Nat)(x:Bs)(hx:xs[k]? = some x):∃g o,a=some ⟨g,o,none⟩/\g<w.heap.size/\w.cell? ⟨g,o+k,none⟩=some (.string (bs x))/\n=xs.length/\xs.length<=c:=by
 obtain⟨a',c',hv,hc,h3⟩:=h;obtain⟨rfl,rfl,rfl⟩:=bL hv;obtain⟨hk,_⟩:=ak.1 hx;obtain⟨g,o,ha,hg,kR⟩:=h3 a_;exact⟨g,o,ha,hg,kR k x hx,rfl,hc⟩
def Prs.cell_of{w:World}{a:Option Addr}{n c:Nat}{ps:List Pr}(h:Prs w (.slice a n c) ps)(k:Nat)(p:Pr)(hx:ps[k]? = some p):∃g o,a=some ⟨g,o,none⟩/\g<w.heap.size/\w.cell? ⟨g,o+k * 2,none⟩=some (.string (bs p.1))/\w.cell? ⟨g,o+k * 2+1,none⟩=some (.string (bs p.2))/\n=ps.length/\ps.length<=c:=by
 obtain⟨a',c',hv,hc,h3⟩:=h;obtain⟨rfl,rfl,rfl⟩:=bL hv;obtain⟨hk,_⟩:=ak.1 hx;obtain⟨g,o,ha,hg,kR⟩:=h3 a_;obtain⟨h0,h1⟩:=kR k p hx;exact⟨g,o,ha,hg,h0,h1,rfl,hc⟩
def Strs.form{w:World}{v:Value}{xs:List Bs}(h:Strs w v xs):∃a c,v=.slice a xs.length c/\xs.length<=c:=by
 obtain⟨a,c,hv,hc,_⟩:=h;exact⟨a,c,hv,hc⟩
def Prs.form{w:World}{v:Value}{ps:List Pr}(h:Prs w v ps):∃a c,v=.slice a ps.length c/\ps.length<=c:=by
 obtain⟨a,c,hv,hc,_⟩:=h;exact⟨a,c,hv,hc⟩
def Ints.form{w:World}{v:Value}{ps:List Int}(h:Ints w v ps):∃a c,v=.slice a ps.length c/\ps.length<=c:=by
 obtain⟨a,c,hv,hc,_⟩:=h;exact⟨a,c,hv,hc⟩
def Ints.cell_of{w:World}{a:Option Addr}{n c:Nat}{xs:List Int}(h:Ints w (.slice a n c) xs)(k:Nat)(x:Int)(hx:xs[k]? = some x):∃g o,a=some ⟨g,o,none⟩/\g<w.heap.size/\w.cell? ⟨g,o+k,none⟩=some (.int .i64 x):=by
 obtain⟨a',c',hv,hc,h3⟩:=h;obtain⟨rfl,rfl,rfl⟩:=bL hv;obtain⟨hk,_⟩:=ak.1 hx;obtain⟨g,o,ha,hg,kR⟩:=h3 a_;exact⟨g,o,ha,hg,kR k x hx⟩
def zb6{m:Nat}{a b c:World}(h:Kept a b)(k:Only (fun i=>i=m) b c)(hm:a.heap.size<=m):Kept a c:=h.trans' (k.below h.size (fun i e=>e ▸ hm))
def fU:=@Tryz.zeroBool
end Go.Proofs.YtnldgmhdjancbaaGreatDoor
