/- Parts. -/
import Derived.Test.YtnldgmhdjancbaaGreatDoorW01
set_option linter.all false
set_option maxRecDepth 100000
set_option maxHeartbeats 12800000
namespace Go.Proofs.YtnldgmhdjancbaaGreatDoor
open Go.RowKit Go.Proofs.Tryz
def zcZ(l:Bs):Nat:=(l.takeWhile (· == 32)).length
def zxP(t:Bs):Bs:=(t.reverse.dropWhile (· == 32)).reverse
def zxQ(l:Bs):Bs:=zxP (l.drop (zcZ l))
def zqY:∀l:Bs,zcZ l<=l.length
 | []=>by simp [zcZ]
 | b::l=>by
  have:=zqY l;unfold zcZ at this ⊢;rw[fS]
  split<;>simp at this ⊢;omega
def zqZ(l:Bs)(k:Nat)(hk:k<=l.length)(h1:∀j (hj:j<l.length),j<k->l[j]=32)(h2:∀h:k<l.length,l[k]≠32):zcZ l=k:=by
 induction l generalizing k with
 | nil=>simp at hk;subst hk;rfl
 | cons b l ih =>
  unfold zcZ;cases k with
  | zero =>
   have:=h2 b_;simp at this;rw[fS,aa (by simpa using this)];rfl
  | succ k =>
   have hb:=h1 0 b_ a_;simp at hb;rw[fS,ae (by simpa using hb),az];congr 1;exact ih k (by simpa using hk) (fun j hj hjk=>by have:=h1 (j+1) (by simpa using hj) a_;simpa using this) (fun h=>by have:=h2 (by simpa using h);simpa using this)
def zvV(t:Bs)(n:Nat)(hn:n<=t.length)(h1:∀b∈t.drop n,b=32)(h2:∀h:0<n,t[n - 1]'a_≠32):zxP t=t.take n:=by
 unfold zxP;have e:t.reverse=(t.drop n).reverse++(t.take n).reverse:=(by rw[<- gN,ce]);have e2:∀(xs ys:Bs),(∀b∈xs,b=32)->(xs++ys).dropWhile (· == 32)=ys.dropWhile (· == 32):=by
  intro xs ys
  induction xs with
  | nil=>intro _;rfl
  | cons b xs ih =>
   intro h;have hb:=h b b_;rw[ei,List.dropWhile_cons,ae (by simpa using hb)];exact ih (fun c hc=>h c (by simp [hc]))
 rw[e,e2 _ _ (fun b hb=>h1 b (by simpa using hb))];have e3:(t.take n).reverse.dropWhile (· == 32)=(t.take n).reverse:=by
  by_cases q:n=0
  .subst q;simp
  .have hlast:t.take n=t.take (n - 1)++[t[n - 1]'a_]:=by
    have:=bf (l:=t) (i:=n - 1) a_;rw[show n - 1+1=n from by omega]at this;exact this
   rw[hlast,gN];simp only[List.reverse_cons,List.reverse_nil,dV,List.singleton_append];rw[List.dropWhile_cons,aa (by simpa using h2 a_)]
 rw[e3,List.reverse_reverse]
def zxR(l:Bs)(w:World)(hs:l.length<=1100000):Calls prog 118 #[.string (bs l)] w fun e w'=>e=.returned (.int .i64 (zcZ l))/\w=w':=by
 go_in;go_wp2_with fail
 go_loop [3] (fun i=>∃k:Nat,k<=l.length/\i=.int .i64 k/\Hi (∀j (hj:j<l.length),j<k->l[j]=32)) (fun i=>l.length - (intOf i).toNat)
 .exact⟨0,ai _,rfl,fun j hj h=>by omega⟩
 case round =>
  obtain⟨k,hk,rfl,HA⟩:=hrel;by_cases kV:k<l.length
  .have i0:=zbL (P:=prog) (t:=9) aq l k kV k rfl;have HC:Hi (at8 l k=32↔l[k]=32):=(by show _↔_;rw[zbP l k kV];exact zj8 _ 32 c_);by_cases hb:at8 l k=32
   .have HN:Hi (∀j (hj:j<l.length),j<k+1->l[j]=32):=by
     intro j hj hjk;by_cases q:j<k
     .exact HA.o j hj q
     .obtain rfl:j=k:=a_;exact HC.o.1 hb
    have hb':(at8 l k==32)=true:=(by simpa using hb);generalize at8 l k=b at *;clear hb HC HA;go_wp2_with fail
    go_round
    .exact⟨k+1,a_,by go_num,HN.o⟩
    .simp [intOf];omega
   .have HF:Hi (zcZ l=k):=zqZ l k hk HA.o (fun _ q=>hb (HC.o.2 q));have hb':(at8 l k==32)=false:=(by simpa using hb);generalize at8 l k=b at *;clear hb HC HA;go_wp2;go_ret;exact⟨zaU (by rw[HF.o]),rfl⟩
  .have HF:Hi (zcZ l=k):=zqZ l k hk HA.o (fun h=>absurd h kV);clear HA;go_wp2;go_ret;exact⟨zaU (by rw[HF.o]),rfl⟩
def zDK(l:Bs)(w:World)(hs:l.length<=1100000):Calls prog 83 #[.string (bs l)] w fun e w'=>e=.returned (.string (bs (zxQ l)))/\w=w':=by
 have hil:=zqY l;have HI:=Hd (fun w=>zxR l w hs);have sl:=zgZ (P:=prog) (t:=9) aq l (zcZ l) hil (zcZ l) rfl _ rfl;have HT:Hi (zxQ l=zxP (l.drop (zcZ l))):=rfl;have htl:(l.drop (zcZ l)).length<=1100000:=e_;generalize l.drop (zcZ l)=t at *;generalize zcZ l=n0 at *;go_in;go_wp2_with fail;refine(HI.o _).mono ?_;rintro e w' ⟨rfl,rfl⟩;go_wp2_with fail;clear sl
 go_loop [0] (fun s=>∃n:Nat,n<=t.length/\s=.string (bs (t.take n))/\Hi (∀b∈t.drop n,b=32)) (fun s=>match s with|.string b=>b.size|_=>0)
 .exact⟨t.length,aw _,by rw[bx (aw _)],fun b hb=>by rw[db (aw _)]at hb;cases hb⟩
 case round =>
  obtain⟨n,hn,rfl,HA⟩:=hrel;have mh:(t.take n).length=n:=e_;have HLEN:=Hd mh;by_cases h0:n=0
  .subst h0;have HF:Hi (zxP t=t.take 0):=zvV t 0 a_ HA.o (fun h=>by omega);clear HA mh;simp only[cH];go_wp2;go_ret;exact⟨zf8 (by rw[HT.o,HF.o];rfl),rfl⟩
  .have kV:n - 1<(t.take n).length:=a_;have i0:=zbL (P:=prog) (t:=9) aq (t.take n) (n - 1) kV ((t.take n).length - 1) a_;have su:=zoV (P:=prog) (t:=9) aq (t.take n) (n - 1) a_ ((t.take n).length - 1) a_ (t.take (n - 1)) (by rw[kG];congr 1;omega);have hn1:n - 1<t.length:=a_;have HC:Hi (at8 (t.take n) (n - 1)=32↔t[n - 1]'hn1=32):=by
    show _↔_;rw[zbP _ _ kV,List.getElem_take];exact zj8 _ 32 c_
   have hpos:0<(t.take n).length:=a_;have lV:¬ t.take n=[]:=(by intro q;rw[q]at hpos;simp at hpos);have hle:(t.take n).length<=1100000:=a_;generalize hx:at8 (t.take n) (n - 1)=b at *;clear hx mh;by_cases hb:b=32
   .have HN:Hi (∀b∈t.drop (n - 1),b=32):=by
     intro c hc;have e:t.drop (n - 1)=t[n - 1]'a_::t.drop n:=by
      rw[aJ a_];congr 2;omega
     rw[e]at hc;rcases bj.1 hc with h|h
     .rw[h];exact HC.o.1 hb
     .exact HA.o c h
    have HM:Hi ((t.take (n - 1)).length<(t.take n).length):=(by show _<_;simp;omega);have hb':(b==32)=true:=(by simpa using hb);clear hb HC HA;generalize hx:t.take n=s at *;clear hx;go_wp2_with fail
    go_round
    .exact⟨n - 1,a_,rfl,HN.o⟩
    .simpa using HM.o
   .have HF:Hi (zxP t=t.take n):=zvV t n hn HA.o (fun _ q=>hb (HC.o.2 q));have hb':(b==32)=false:=(by simpa using hb);clear hb HC HA;generalize hx:t.take n=s at *;clear hx;go_wp2;go_ret;exact⟨zf8 (by rw[HT.o,HF.o]),rfl⟩
def zh8(a b:Bs):Lib.byteCells (a++b)=Lib.byteCells a++Lib.byteCells b:=by simp [Lib.byteCells]
abbrev Pr:=Bs×Bs
def Prs(w:World)(v:Value)(ps:List Pr):Prop :=
 ∃a c,v=.slice a ps.length c/\ps.length<=c/\(0<ps.length->∃g o,a=some ⟨g,o,none⟩/\g<w.heap.size/\∀j q,ps[j]? = some q ->
  w.cell? ⟨g,o+j * 2,none⟩=some (.string (bs q.1))/\w.cell? ⟨g,o+j * 2+1,none⟩=some (.string (bs q.2)))
def Prs.kept{w w':World}{v:Value}{ps:List Pr}(h:Prs w v ps)(k:Kept w w'):Prs w' v ps:=by
 obtain⟨a,c,hv,hc,h3⟩:=h;refine⟨a,c,hv,hc,fun q=>?_⟩;obtain⟨g,o,ha,hg,kR⟩:=h3 q;refine⟨g,o,ha,aU hg k.size,fun j x hx=>?_⟩;obtain⟨c0,c1⟩:=kR j x hx;exact⟨(k.cell (p:=⟨g,o+j * 2,none⟩) hg).trans c0,(k.cell (p:=⟨g,o+j * 2+1,none⟩) hg).trans c1⟩
def znE(ps:List Pr)(k:Bs):Bool:=ps.any fun q=>q.1==k
def zAq(ps:List Pr)(k:Bs)(n:Nat)(q:Pr)(h:ps[n]? = some q):znE (ps.take (n+1)) k=(znE (ps.take n) k || q.1==k):=by
 unfold znE;obtain⟨hk,rfl⟩:=ak.1 h;rw[bf hk,gJ];simp only[jE,List.any_nil,Bool.or_false]
def zAr(ps:List Pr)(k:Bs)(n:Nat)(h:znE (ps.take n) k=true):znE ps k=true:=by
 unfold znE at h ⊢;rw[dv]at h ⊢;obtain⟨x,hx,e⟩:=h;exact⟨x,eX hx,e⟩
def zDL(x y k:Bs)(b:Nat)(w:World)(hc:w.cell? ⟨b,0,none⟩=some (.string (bs k))):Calls prog 120 #[.agg #[.string (bs x),.string (bs y)],.pointer (some ⟨b,0,none⟩)] w fun e w'=>e=.returned (.bool (x==k))/\Kept w w':=by
 have hb:=ff w (a:=⟨b,0,none⟩) hc;simp only at hb;by_cases h:x=k
 .subst h;go_in;go_wp2;go_ret;exact⟨zaY b_,zaA _ _⟩
 .have h':(x==k)=false:=(by simpa using h);go_in;go_wp2;go_ret;exact⟨zaY (by simp [h']),zaA _ _⟩
def FoundPost(ps:List Pr)(k:Bs)(w:World)(e:Ending)(w':World):Prop:=∃r:Int,e=.returned (.int .i64 r)/\decide (0<=r)=znE ps k/\Kept w w'
def zoX(v:Value)(ps:List Pr)(k:Bs)(b:Nat)(w:World)(hv:Prs w v ps)(hN:ps.length<=1100000)(hc:w.cell? ⟨b,0,none⟩=some (.string (bs k))):Calls prog 165 #[v,.func (Fn.func 120) #[] #[.pointer (some ⟨b,0,none⟩)]] w (FoundPost ps k w):=by
 have HV:=Hd hv;have HC:=Hd hc;have hb:=ff w (a:=⟨b,0,none⟩) hc;simp only at hb;clear hc;obtain⟨a,c,rfl,hc,h3⟩:=hv;clear h3;go_in;go_wp2_with fail;go_loopw [8] (fun i wr=>∃n:Nat,n<=ps.length/\i=.int .i64 n/\Hi (znE (ps.take n) k=false)/\Kept w wr) (fun i _=>ps.length - (intOf i).toNat)
 .exact⟨0,ai _,rfl,rfl,af _⟩
 case round =>
  obtain⟨n,hn,rfl,HN,ou⟩:=hrel;by_cases kV:n<ps.length
  .obtain⟨q,hx⟩:∃x,ps[n]? = some x:=⟨_,ac kV⟩;obtain⟨a',c',hv',hc',h3⟩:=HV.o.kept ou;obtain⟨rfl,nj,rfl⟩:=bL hv';clear nj;obtain⟨g,o,rfl,hg,mU⟩:=h3 a_;obtain⟨c0,c1⟩:=mU n q hx;have HS:=Hd (zAq ps k n q hx);have HM:=Hd (zAr ps k (n+1));have oR:=Hd (zDL q.1 q.2 k b wr ((ou.cell (p:=⟨b,0,none⟩) hb).trans HC.o));have HR:=Hd ou;rw[HN.o,eM]at HS;clear ou mU h3 hv' hc' hx HN;obtain⟨x,y⟩:=q;simp only at c0 c1 HS oR;cases hxk:(x==k)
   .rw[hxk]at HS oR;go_wp2_with fail;refine k_ oR.o fun w1 ld=>?_;have HR1:=Hd (HR.o.trans ld);clear ld;go_wp2;go_roundw
    .exact⟨n+1,a_,by go_num,HS.o,HR1.o⟩
    .simp [intOf];omega
   .rw[hxk]at HS oR;go_wp2_with fail;refine k_ oR.o fun w1 ld=>?_;have HR1:=Hd (HR.o.trans ld);clear ld;go_wp2;go_ret;exact⟨n,rfl,by rw[HM.o HS.o];simp,HR1.o⟩
  .have HE:Hi (znE ps k=false):=(by have h:=HN.o;rw[bx a_]at h;exact h);have HR:=Hd ou;clear ou HN;go_wp2;go_ret;exact⟨-1,rfl,by rw[HE.o];rfl,HR.o⟩
def zkA(v:Value)(ps:List Pr)(k:Bs)(w:World)(hv:Prs w v ps)(hN:ps.length<=1100000):Calls prog 84 #[v,.string (bs k)] w fun e w'=>e=.returned (.bool (znE ps k))/\Kept w w':=by
 have rq:Hi (∀(b:Nat) (w:World),Prs w v ps->w.cell? ⟨b,0,none⟩=some (.string (bs k))->Calls prog 119 #[v,.func (Fn.func 120) #[] #[.pointer (some ⟨b,0,none⟩)]] w fun e w'=>e=.returned (.bool (znE ps k))/\Kept w w'):=by
  intro b w hv hc;have HI:=Hd (zoX v ps k b w hv hN hc);obtain⟨hb,HB⟩:=gX (znE ps k);unfold FoundPost at HI;rw[HB.o];rw[HB.o]at HI;obtain⟨a,c,rfl,nf,h3⟩:=hv;clear h3 hc;go_in;go_wp2_with fail;refine HI.o.mono ?_;rintro e w1 ⟨r,rfl,hr,ld⟩;have HK:=Hd ld;clear ld;cases hb
  .go_wp2;go_ret;exact⟨zaY (by simpa using hr),HK.o⟩
  .go_wp2;go_ret;exact⟨zaY (by simpa using hr),HK.o⟩
 have HV:=Hd hv;obtain⟨a,c,rfl,hc,h3⟩:=hv;clear h3;obtain⟨hb,HB⟩:=gX (znE ps k);rw[HB.o]at rq ⊢;go_in;go_wp2_with fail;refine(rq.o w.heap.size _ (HV.o.kept (zaA _ _)) (by have h:=(aI w 9 #[.string (bs k)]).cell 0 _ rfl;exact h)).mono ?_;rintro e w1 ⟨rfl,ld⟩;have HK:=Hd ((zaA w _).trans ld);clear ld;go_wp2;go_ret;exact⟨rfl,HK.o⟩
def za3(ps:List Pr)(k:Bs):Option Bs:=(ps.find? fun q=>q.1==k).map (·.2)
def zaH(s:ByteArray)(i:Nat)(low high:Int):Int:=if s.size<=i\/zaC s i<low\/high<zaC s i then -1 else zaC s i - 128
def zfT(b:Int):Int:=if b=224 then 160 else 128
def zcL(b:Int):Int:=if b=237 then 159 else 191
def ze5(b:Int):Int:=if b=240 then 144 else 128
def zcM(b:Int):Int:=if b=244 then 143 else 191
def zhH(s:ByteArray)(i:Nat):Int×Int :=
 if zaH s (i+1) (zfT (zaC s i)) (zcL (zaC s i))<0\/zaH s (i+2) 128 191<0 then(65533,1)
 else((zaC s i - 224) * 4096+zaH s (i+1) (zfT (zaC s i)) (zcL (zaC s i)) * 64+zaH s (i+2) 128 191,3)
def ztQ(s:ByteArray)(i:Nat):Int×Int :=
 if zaH s (i+1) (ze5 (zaC s i)) (zcM (zaC s i))<0\/zaH s (i+2) 128 191<0\/zaH s (i+3) 128 191<0 then(65533,1)
 else((zaC s i - 240) * 262144+zaH s (i+1) (ze5 (zaC s i)) (zcM (zaC s i)) * 4096+zaH s (i+2) 128 191 * 64+zaH s (i+3) 128 191,4)
def dec(s:ByteArray)(i:Nat):Int×Int :=
 if zaC s i<128 then(zaC s i,1)
 else if 194<=zaC s i/\zaC s i<=223 then
  if 0<=zaH s (i+1) 128 191 then((zaC s i - 192) * 64+zaH s (i+1) 128 191,2)else(65533,1)
 else if 224<=zaC s i/\zaC s i<=239 then zhH s i
 else if 240<=zaC s i/\zaC s i<=244 then ztQ s i
 else(65533,1)
def zGW{a b c d:Nat}(h:a=c)(k:b=d):(a,b)=(c,d):=by rw[h,k]
def zh9{a b c d:Int}(h:a=c)(k:b=d):(a,b)=(c,d):=by rw[h,k]
def zg0{s:ByteArray}{i:Nat}{l h:Int}(hh:0<=zaH s i l h):i<s.size/\l<=zaC s i/\zaC s i<=h/\zaH s i l h=zaC s i - 128:=by
 unfold zaH at hh ⊢;split at hh
 .omega
 .rw[aa (by assumption)];omega
def zGd(b0 b1 b2 b3:Nat)(e1 e2 e3:Bool):Nat×Nat :=
 let cont (e:Bool) (b:Nat):Bool:=e&&b / 64==2
 if b0<0x80 then(b0,1)
 else if b0 / 32==6&&cont e1 b1 then
  let c:=(b0 % 32) * 64+b1 % 64
  if c ≥ 0x80 then(c,2)else(Utf8.runeError,1)
 else if b0 / 16==14&&cont e1 b1&&cont e2 b2 then
  let c:=(b0 % 16) * 4096+(b1 % 64) * 64+b2 % 64
  if c ≥ 0x800&&Utf8.valid c then(c,3)else(Utf8.runeError,1)
 else if b0 / 8==30&&cont e1 b1&&cont e2 b2&&cont e3 b3 then
  let c:=(b0 % 8) * 262144+(b1 % 64) * 4096+(b2 % 64) * 64+b3 % 64
  if c ≥ 0x10000&&Utf8.valid c then(c,4)else(Utf8.runeError,1)
 else(Utf8.runeError,1)
def ztV(s:ByteArray)(i:Nat):Utf8.decode s i=zGd (s.get! i).toNat (s.get! (i+1)).toNat (s.get! (i+2)).toNat (s.get! (i+3)).toNat (decide (i+1<s.size)) (decide (i+2<s.size)) (decide (i+3<s.size)):=rfl
def zDM(b0 b1 b2 b3:Nat)(e1 e2 e3:Bool)(h:128<=b0/\b0<224):zGd b0 b1 b2 b3 e1 e2 e3=if 194<=b0/\e1=true/\128<=b1/\b1<192 then((b0 - 192) * 64+(b1 - 128),2)else(65533,1):=by
 unfold zGd;rw[aa a_];have h3:(b0 / 16==14)=false:=e_;have h4:(b0 / 8==30)=false:=e_;simp only[h3,h4,ju,dr,fe,Utf8.runeError];cases e1<;>simp
 .by_cases k:b0 / 32=6/\b1 / 64=2
  .rw[ae k];by_cases q:194<=b0
   .rw[ae a_,ae a_];apply zGW<;>omega
   .rw[aa a_,aa a_]
  .rw[aa k,aa a_]
def zq0(c:Nat):Utf8.valid (c:Int)=decide (c<55296\/(57344<=c/\c<=1114111)):=by
 unfold Utf8.valid;rw[dX];simp only[dL,ba,cq];omega
def zxS(b0 b1 b2 b3:Nat)(e1 e2 e3:Bool)(h:224<=b0/\b0<240):zGd b0 b1 b2 b3 e1 e2 e3=if e1=true/\e2=true/\(b0=224->160<=b1)/\128<=b1/\(b0=237->b1<=159)/\b1<=191/\128<=b2/\b2<192 then((b0 - 224) * 4096+(b1 - 128) * 64+(b2 - 128),3)else(65533,1):=by
 unfold zGd;rw[aa a_];have h2:(b0 / 32==6)=false:=e_;have h4:(b0 / 8==30)=false:=e_;have h3:b0 / 16=14:=a_;simp only[h2,h4,h3,ju,dr,fe,Utf8.runeError,zq0];cases e1<;>cases e2<;>simp;by_cases k:b1 / 64=2/\b2 / 64=2
 .rw[ae k]
  split<;>split<;>first|(exfalso;omega)|(apply zGW<;>omega)
 .rw[aa k,aa a_]
def zAs(b0 b1 b2 b3:Nat)(e1 e2 e3:Bool)(h:240<=b0/\b0<256):zGd b0 b1 b2 b3 e1 e2 e3=if b0<=244/\e1=true/\e2=true/\e3=true/\(b0=240->144<=b1)/\128<=b1/\(b0=244->b1<=143)/\b1<=191/\128<=b2/\b2<192/\128<=b3/\b3<192 then((b0 - 240) * 262144+(b1 - 128) * 4096+(b2 - 128) * 64+(b3 - 128),4)else(65533,1):=by
 unfold zGd;rw[aa a_];have h2:(b0 / 32==6)=false:=e_;have h3:(b0 / 16==14)=false:=e_;simp only[h2,h3,ju,dr,fe,Utf8.runeError,zq0];cases e1<;>cases e2<;>cases e3<;>simp;by_cases k:b0 / 8=30/\b1 / 64=2/\b2 / 64=2/\b3 / 64=2
 .rw[ae (by simpa [and_assoc]using k)]
  split<;>split<;>first|(exfalso;omega)|(apply zGW<;>omega)
 .rw[aa (by simpa [and_assoc]using k),aa a_]
def zGe(s:ByteArray)(i:Nat):dec s i=(((Utf8.decode s i).1:Int),((Utf8.decode s i).2:Int)):=by
 rw[ztV];have e0:=zgY s i;have e1:=zgY s (i+1);have e2:=zgY s (i+2);have e3:=zgY s (i+3);have u0:(s.get! i).toNat<256:=(s.get! i).toNat_lt;generalize (s.get! i).toNat=b0 at *;generalize (s.get! (i+1)).toNat=b1 at *;generalize (s.get! (i+2)).toNat=b2 at *;generalize (s.get! (i+3)).toNat=b3 at *;unfold dec;rw[e0];by_cases k1:b0<128
 .rw[ae a_];unfold zGd;rw[ae a_];rfl
 rw[aa a_];by_cases k2:b0<224
 .rw[zDM _ _ _ _ _ _ _ ⟨a_,k2⟩,aa (c:=224<=(b0:Int)/\_) a_,aa (c:=240<=(b0:Int)/\_) a_];simp only[cq];by_cases c:194<=b0/\i+1<s.size/\128<=b1/\b1<192
  .have m1:zaH s (i+1) 128 191=b1 - 128:=(by unfold zaH;rw[e1,aa a_]);rw[ae c,ae a_,m1,ae a_];apply zh9<;>simp only<;>omega
  .rw[aa c];by_cases c0:194<=(b0:Int)/\(b0:Int)<=223
   .have m1:zaH s (i+1) 128 191 = -1:=(by unfold zaH;rw[e1,ae a_]);rw[ae c0,m1,aa a_];rfl
   .rw[aa c0];rfl
 by_cases k3:b0<240
 .rw[zxS _ _ _ _ _ _ _ ⟨a_,k3⟩,aa a_,ae a_];simp only[cq];unfold zhH;rw[e0];have hl:(b0=224/\zfT b0=160)\/(b0≠224/\zfT b0=128):=(by unfold zfT;by_cases q:b0=224<;>simp [q];omega);have hh:(b0=237/\zcL b0=159)\/(b0≠237/\zcL b0=191):=(by unfold zcL;by_cases q:b0=237<;>simp [q];omega);by_cases c:i+1<s.size/\i+2<s.size/\(b0=224->160<=b1)/\128<=b1/\(b0=237->b1<=159)/\b1<=191/\128<=b2/\b2<192
  .have m1:zaH s (i+1) (zfT b0) (zcL b0)=b1 - 128:=(by unfold zaH;rw[e1,aa a_]);have m2:zaH s (i+2) 128 191=b2 - 128:=(by unfold zaH;rw[e2,aa a_]);rw[ae c,m1,m2,aa a_];apply zh9<;>simp only<;>omega
  .rw[aa c];have hn:zaH s (i+1) (zfT b0) (zcL b0)<0\/zaH s (i+2) 128 191<0:=by
    by_cases q:i+1<s.size/\zfT b0<=b1/\b1<=zcL b0
    .right;unfold zaH;rw[e2,ae a_];omega
    .left;unfold zaH;rw[e1,ae a_];omega
   rw[ae hn];rfl
 .rw[zAs _ _ _ _ _ _ _ ⟨a_,u0⟩,aa a_,aa a_];simp only[cq];by_cases c0:b0<=244
  .rw[ae a_];unfold ztQ;rw[e0];have hl:(b0=240/\ze5 b0=144)\/(b0≠240/\ze5 b0=128):=(by unfold ze5;by_cases q:b0=240<;>simp [q];omega);have hh:(b0=244/\zcM b0=143)\/(b0≠244/\zcM b0=191):=(by unfold zcM;by_cases q:b0=244<;>simp [q];omega);by_cases c:b0<=244/\i+1<s.size/\i+2<s.size/\i+3<s.size/\(b0=240->144<=b1)/\128<=b1/\(b0=244->b1<=143)/\b1<=191/\128<=b2/\b2<192/\128<=b3/\b3<192
   .have m1:zaH s (i+1) (ze5 b0) (zcM b0)=b1 - 128:=(by unfold zaH;rw[e1,aa a_]);have m2:zaH s (i+2) 128 191=b2 - 128:=(by unfold zaH;rw[e2,aa a_]);have m3:zaH s (i+3) 128 191=b3 - 128:=(by unfold zaH;rw[e3,aa a_]);rw[ae c,m1,m2,m3,aa a_];apply zh9<;>simp only<;>omega
   .rw[aa c];have hn:zaH s (i+1) (ze5 b0) (zcM b0)<0\/zaH s (i+2) 128 191<0\/zaH s (i+3) 128 191<0:=by
     by_cases q:i+1<s.size/\ze5 b0<=b1/\b1<=zcM b0
     .right;by_cases q2:i+2<s.size/\128<=b2/\b2<192
      .right;unfold zaH;rw[e3,ae a_];omega
      .left;unfold zaH;rw[e2,ae a_];omega
     .left;unfold zaH;rw[e1,ae a_];omega
    rw[ae hn];rfl
  .rw[aa a_,aa a_];rfl
def zd0(b:Int):Int:=if b<128 then 1 else if 194<=b/\b<=223 then 2 else if 224<=b/\b<=239 then 3 else if 240<=b/\b<=244 then 4 else 0
def zq1(b:Int):Int:=if b=224 then 160 else if b=240 then 144 else 128
def zkB(b:Int):Int:=if b=237 then 159 else if b=244 then 143 else 191
def zgK(c:Int):Bool:=decide (c<32/\c≠10\/c=127)
def zAt(b:Int)(w:World)(h0:0<=b)(h1:b<256):Calls prog 159 #[.int .u8 b] w fun e w'=>e=.returned (.int .i64 (zd0 b))/\w=w':=by
 go_in
 go_wp2
 all_goals go_ret
 all_goals exact⟨by simp [zd0];omega,rfl⟩
def zxT(b:Int)(w:World):Calls prog 160 #[.int .u8 b] w fun e w'=>e=.returned (.tuple #[.int .u8 (zq1 b),.int .u8 (zkB b)])/\w=w':=by
 go_in
 go_wp2
 all_goals go_ret2
 all_goals exact⟨zDI (by simp only[bh,ab,ne_eq]at *;unfold zq1;omega) (by simp only[bh,ab,ne_eq]at *;unfold zkB;omega),rfl⟩
def ztW(c:Int)(w:World):Calls prog 115 #[.int .i64 c] w fun e w'=>e=.returned (.bool (zgK c))/\w=w':=by
 go_in
 go_wp2
 all_goals go_ret
 all_goals exact⟨zaY (by unfold zgK;rw[dX];simp;omega),rfl⟩
def zq2(n:Int)(h₀:0<=n)(h₁:n<2 ^ 31):IntKind.i64.wrap n=n:=by rw[IntKind.wrap_i64];omega
def zDN(i:Nat)(hi:i<=31)(x:Int)(h0:0<=x)(h1:x<256):bits .and .i64 x (2 ^ i - 1)=x % 2 ^ i :=
 bits_mask .i64 31 c_ zq2 i hi x h0 a_
def zAu(x y:Int)(hx0:0<=x)(hx:x % 64=0)(hx1:x<1000000000)(h0:0<=y)(h1:y<64):bits .or .i64 x y=x+y :=
 bits_join .i64 31 c_ zq2 6 x y hx0 a_ a_ h0 a_ a_
def NextPost(s:ByteArray)(i:Nat)(w:World)(e:Ending)(w':World):Prop:=e=.returned (.tuple #[.int .i64 (dec s i).1,.int .i64 (dec s i).2])/\∃n,w'=w.drewN n
def NextPost.mk{s:ByteArray}{i:Nat}{w:World}{e:Ending}{w':World}{c n:Int}(h:dec s i=(c,n))(he:e=.returned (.tuple #[.int .i64 c,.int .i64 n]))(hw:∃n,w'=w.drewN n):NextPost s i w e w':=by
 unfold NextPost;rw[h];exact⟨he,hw⟩
def zAv(w:World):∃n,w=w.drewN n:=⟨0,rfl⟩
def zAw(w:World)(n:Nat):∃m,w.drewN n=w.drewN m:=⟨n,rfl⟩
def NextPost.of{s:ByteArray}{i:Nat}{w:World}{c n:Int}(h:dec s i=(c,n))(k:Calls prog 114 #[.string s,.int .i64 i] w fun e w'=>e=.returned (.tuple #[.int .i64 c,.int .i64 n])/\∃n,w'=w.drewN n):Calls prog 114 #[.string s,.int .i64 i] w (NextPost s i w) :=
 k.mono fun _ _ ⟨he,hw⟩=>NextPost.mk h he hw
def zxU{s:ByteArray}{k:Nat}{b:Int}(hb:zaC s k=b)(h:k<s.size)(j:Int)(e:j=k)(w:World):(Instr.index 9 (.string s) (.int .i64 j)).run prog w=.ok (.int .u8 b) w:=hb ▸ znU (P:=prog) (t:=9) aq s k h j e w
def zAx(i:Nat)(hi:i<=31)(m c b:Int)(e:m=2 ^ i - 1)(h0:0<=b)(h1:b<256)(h:b % 2 ^ i=c):bits .and .i64 b m=c:=by rw[e,zDN i hi b h0 h1,h]
def zIM(c b1:Int)(h0:0<=c)(h1:c<10000000)(h2:128<=b1)(h3:b1<192):bits .or .i64 (c * 64) (b1 % 64)=c * 64+(b1 - 128):=by
 rw[zAu _ _ a_ a_ a_ a_ a_];omega
def zDO(s:ByteArray)(i:Nat)(w:World)(hs:s.size<=1000000000)(hi:i<s.size):Calls prog 114 #[.string s,.int .i64 i] w (NextPost s i w):=by
 have hbl:=zcR s i;have Fh:=zcF s i;have GL:=zcR s (i+1);have GM:=zcF s (i+1);have GN:=zcR s (i+2);have GO:=zcF s (i+2);have GP:=zcR s (i+3);have GQ:=zcF s (i+3);obtain⟨b,hb⟩:∃b,zaC s i=b:=⟨_,rfl⟩;obtain⟨b1,mX⟩:∃b,zaC s (i+1)=b:=⟨_,rfl⟩;obtain⟨b2,mV⟩:∃b,zaC s (i+2)=b:=⟨_,rfl⟩;obtain⟨b3,mF⟩:∃b,zaC s (i+3)=b:=⟨_,rfl⟩;rw[hb]at hbl Fh;rw[mX]at GL GM;rw[mV]at GN GO;rw[mF]at GP GQ;have mo:∀(k:Nat) (x:Int) (l h:Int),zaC s (i+k)=x->(s.size<=i+k\/x<l\/h<x)->zaH s (i+k) l h = -1:=by
  intro k x l h e c;unfold zaH;rw[e,ae c]
 have my:∀(k:Nat) (x:Int) (l h:Int),zaC s (i+k)=x->i+k<s.size->l<=x->x<=h->zaH s (i+k) l h=x - 128:=by
  intro k x l h e c c1 c2;unfold zaH;rw[e,aa a_]
 refine dite (b<128) (fun k1=>?p1) (fun k1=>?n1)
 case' p1=>refine NextPost.of (by unfold dec;rw[hb,ae k1]) ?_
 case' n1 =>
  refine dite (b<194\/244<b) (fun k2=>?p2) (fun k2=>?n2)
  case' p2=>refine NextPost.of (by unfold dec;rw[hb,aa k1,aa a_,aa a_,aa a_]) ?_
  case' n2 =>
   refine dite (b<=223) (fun c2=>?p3) (fun c2=>?n3)
   case' p3 =>
    have hl:zq1 b=128:=(by unfold zq1;omega);have hh:zkB b=191:=(by unfold zkB;omega);have hd:dec s i=if 0<=zaH s (i+1) 128 191 then((b - 192) * 64+zaH s (i+1) 128 191,2)else(65533,1):=by
     unfold dec;rw[hb,aa k1,ae a_]
    have hm:=zAx 5 c_ 31 (b - 192) b rfl hbl Fh a_;refine dite (s.size<i+2\/b1<128\/191<b1) (fun q=>?p4) (fun q=>?n4)
    case' p4 =>
     refine NextPost.of (by rw[hd,mo 1 b1 _ _ mX a_,aa a_]) ?_;rcases(by omega:s.size<i+2\/i+2<=s.size/\b1<128\/i+2<=s.size/\191<b1)with q|⟨z,q⟩|⟨z,q⟩
    case' n4 =>
     refine NextPost.of (by rw[hd,my 1 b1 _ _ mX a_ a_ a_,ae a_]) ?_;have ho1:=zIM (b - 192) b1 a_ a_ a_ a_
   case' n3 =>
    refine dite (b<=239) (fun c3=>?p5) (fun c3=>?n5)
    case' p5 =>
     have hl:zq1 b=zfT b:=(by unfold zq1 zfT;omega);have hh:zkB b=zcL b:=(by unfold zkB zcL;omega);have hd:dec s i=if zaH s (i+1) (zfT b) (zcL b)<0\/zaH s (i+2) 128 191<0 then(65533,1)else((b - 224) * 4096+zaH s (i+1) (zfT b) (zcL b) * 64+zaH s (i+2) 128 191,3):=by
      unfold dec;rw[hb,aa k1,aa a_,ae a_];unfold zhH;rw[hb]
     have hlo:128<=zfT b:=(by unfold zfT;omega);have hhi:zcL b<=191:=(by unfold zcL;omega);have hm:=zAx 4 c_ 15 (b - 224) b rfl hbl Fh a_;refine dite (s.size<i+3\/b1<zfT b\/zcL b<b1) (fun q1=>?p6) (fun q1=>?n6)
     case' p6 =>
      refine NextPost.of (c:=65533) (n:=1) (by rw[hd];rcases q1 with q|q;(rw[mo 2 b2 _ _ mV a_,ae a_]);(rw[mo 1 b1 _ _ mX a_,ae a_])) ?_;rcases(by omega:s.size<i+3\/i+3<=s.size/\b1<zfT b\/i+3<=s.size/\zcL b<b1)with q|⟨z,q⟩|⟨z,q⟩
     case' n6 =>
      have ho1:=zIM (b - 224) b1 a_ a_ a_ a_;refine dite (b2<128\/191<b2) (fun q3=>?p7) (fun q3=>?n7)
      case' p7=>refine NextPost.of (by rw[hd,mo 2 b2 _ _ mV a_,ae a_]) ?_
      case' n7 =>
       refine NextPost.of (c:=((b - 224) * 64+(b1 - 128)) * 64+(b2 - 128)) (n:=3) (by rw[hd,my 1 b1 _ _ mX a_ a_ a_,my 2 b2 _ _ mV a_ a_ a_,aa a_];exact zh9 a_ rfl) ?_;have mQ:=zIM ((b - 224) * 64+(b1 - 128)) b2 a_ a_ a_ a_
    case' n5 =>
     have hl:zq1 b=ze5 b:=(by unfold zq1 ze5;omega);have hh:zkB b=zcM b:=(by unfold zkB zcM;omega);have hd:dec s i=if zaH s (i+1) (ze5 b) (zcM b)<0\/zaH s (i+2) 128 191<0\/zaH s (i+3) 128 191<0 then(65533,1)else((b - 240) * 262144+zaH s (i+1) (ze5 b) (zcM b) * 4096+zaH s (i+2) 128 191 * 64+zaH s (i+3) 128 191,4):=by
      unfold dec;rw[hb,aa k1,aa a_,aa a_,ae a_];unfold ztQ;rw[hb]
     have hlo:128<=ze5 b:=(by unfold ze5;omega);have hhi:zcM b<=191:=(by unfold zcM;omega);have hm:=zAx 3 c_ 7 (b - 240) b rfl hbl Fh a_;refine dite (s.size<i+4\/b1<ze5 b\/zcM b<b1) (fun q1=>?p8) (fun q1=>?n8)
     case' p8 =>
      refine NextPost.of (c:=65533) (n:=1) (by rw[hd];rcases q1 with q|q;(rw[mo 3 b3 _ _ mF a_,ae a_]);(rw[mo 1 b1 _ _ mX a_,ae a_])) ?_;rcases(by omega:s.size<i+4\/i+4<=s.size/\b1<ze5 b\/i+4<=s.size/\zcM b<b1)with q|⟨z,q⟩|⟨z,q⟩
     case' n8 =>
      have ho1:=zIM (b - 240) b1 a_ a_ a_ a_;refine dite (b2<128\/191<b2) (fun q3=>?p9) (fun q3=>?n9)
      case' p9=>refine NextPost.of (by rw[hd,mo 2 b2 _ _ mV a_,ae a_]) ?_
      case' n9 =>
       have mQ:=zIM ((b - 240) * 64+(b1 - 128)) b2 a_ a_ a_ a_;refine dite (b3<128\/191<b3) (fun q4=>?p10) (fun q4=>?n10)
       case' p10=>refine NextPost.of (by rw[hd,mo 3 b3 _ _ mF a_,ae a_]) ?_
       case' n10 =>
        refine NextPost.of (c:=(((b - 240) * 64+(b1 - 128)) * 64+(b2 - 128)) * 64+(b3 - 128)) (n:=4) (by rw[hd,my 1 b1 _ _ mX a_ a_ a_,my 2 b2 _ _ mV a_ a_ a_,my 3 b3 _ _ mF a_ a_ a_,aa a_];exact zh9 a_ rfl) ?_;have ho3:=zIM (((b - 240) * 64+(b1 - 128)) * 64+(b2 - 128)) b3 a_ a_ a_ a_
 all_goals
  have i0:=zxU hb hi i rfl
  (try have i1:=zxU mX a_ (i+1) a_)
  (try have i2:=zxU mV a_ (i+2) a_)
  (try have j2:=zxU mV a_ (i+1+1) a_)
  (try have i3:=zxU mF a_ (i+3) a_)
  (try have j3:=zxU mF a_ (i+1+2) a_)
  clear hb mX mV mF mo my
  (try clear hd)
  first
   | have hw:zd0 b=1:=by unfold zd0;omega
   | have hw:zd0 b=0:=by unfold zd0;omega
   | have hw:zd0 b=2:=by unfold zd0;omega
   | have hw:zd0 b=3:=by unfold zd0;omega
   | have hw:zd0 b=4:=by unfold zd0;omega
  go_in;go_wp2_with fail;refine(zAt _ _ a_ a_).mono ?_;rintro e w' ⟨rfl,rfl⟩;rw[hw];go_wp2_with fail
  (try (refine(zxT _ _).mono ?_;rintro e w' ⟨rfl,rfl⟩;go_wp2_with fail))
  (try (go_quiet (fail);go_wp2_with fail))
  (try (refine kC 4 ?_;repeat (rw[rounds_succ];go_wp2_with fail)))
  all_goals (try (go_ret2;exact⟨rfl,by first|exact zAv _|exact zAw _ _⟩))
def zeC(c:Int):Bool:=decide (c=10\/32<=c/\c≠127)
def zxV(c:Int)(w:World):Calls prog 67 #[.int .i64 c] w fun e w'=>e=.returned (.bool (zeC c))/\w=w':=by
 go_in
 go_wp2
 all_goals go_ret
 all_goals exact⟨zaY (by unfold zeC;rw[dX];simp;omega),rfl⟩
def zfY(s:ByteArray)(i:Nat)(low high:Int)(w:World)(j:Int)(hj:j=i)(hs:s.size<=1000000000)(hi:i<=1000000010):Calls prog 134 #[.string s,.int .i64 j,.int .i64 low,.int .i64 high] w fun e w'=>e=.returned (.int .i64 (zaH s i low high))/\w=w':=by
 subst hj;by_cases h:i<s.size
 .have i0:=znU (P:=prog) (t:=9) aq s i h i rfl;have h0:=zcR s i;have h1:=zcF s i;have HM:Hi (zaH s i low high=if zaC s i<low\/high<zaC s i then -1 else zaC s i - 128):=by
   show _=_;unfold zaH;by_cases q:zaC s i<low\/high<zaC s i
   .rw[ae (.inr q),ae q]
   .rw[aa a_,aa q]
  generalize zaC s i=b at *;go_in
  go_wp2
  all_goals go_ret
  all_goals exact⟨zaU (by rw[HM.o];first|rw[ae a_]|rw[aa a_]),rfl⟩
 .have HM:Hi (zaH s i low high = -1):=by
   show _=_;unfold zaH;rw[ae (.inl a_)]
  go_in
  go_wp2
  all_goals go_ret
  all_goals exact⟨zaU HM.o.symm,rfl⟩
def zAy(s:ByteArray)(i:Nat)(w:World)(hs:s.size<=1000000000)(hi:i<s.size):Calls prog 135 #[.string s,.int .i64 i] w fun e w'=>e=.returned (.agg #[.int .i64 (zhH s i).1,.int .i64 (zhH s i).2])/\Kept w w':=by
 have i0:=znU (P:=prog) (t:=9) aq s i hi i rfl;have h0:=zcR s i;have h1:=zcF s i;have ht:zhH s i=if zaH s (i+1) (zfT (zaC s i)) (zcL (zaC s i))<0\/zaH s (i+2) 128 191<0 then(65533,1)
   else((zaC s i - 224) * 4096+zaH s (i+1) (zfT (zaC s i)) (zcL (zaC s i)) * 64+zaH s (i+2) 128 191,3):=rfl
 have mX:zaH s (i+1) (zfT (zaC s i)) (zcL (zaC s i))<=63:=by
  have:=zcF s (i+1);unfold zaH zcL;split<;>omega
 have mV:zaH s (i+2) 128 191<=63:=(by unfold zaH;split<;>omega);have hc:((zaC s i==224)=true/\(zaC s i==237)=false/\zfT (zaC s i)=160/\zcL (zaC s i)=191) \/
   ((zaC s i==224)=false/\(zaC s i==237)=true/\zfT (zaC s i)=128/\zcL (zaC s i)=159) \/
   ((zaC s i==224)=false/\(zaC s i==237)=false/\zfT (zaC s i)=128/\zcL (zaC s i)=191):=by
  unfold zfT zcL;simp only[bh,ab,ne_eq];omega
 generalize zaC s i=b at *;rcases hc with⟨e1,e2,l1,l2⟩|⟨e1,e2,l1,l2⟩|⟨e1,e2,l1,l2⟩
 all_goals
  rw[l1,l2]at ht mX;have HT:=Hd ht;clear ht l1 l2;go_in;go_wp2_with (first|(go_at_call 134;refine(zfY _ (i+1) _ _ _ _ a_ a_ a_).mono ?_;rintro e w' ⟨rfl,rfl⟩)|(go_at_call 134;refine(zfY _ (i+2) _ _ _ _ a_ a_ a_).mono ?_;rintro e w' ⟨rfl,rfl⟩))
  all_goals first
   | (have q:=HT.o;rw[ae a_]at q;rw[q];exact bM (v:=.agg #[.int .i64 65533,.int .i64 1]) (by simp [results,results135,go_sem]) rfl ⟨rfl,zaA _ _⟩)
   | (have q:=HT.o;rw[aa a_]at q;rw[q];exact bM (v:=.agg #[.int .i64 _,.int .i64 3]) (by simp [results,results135,go_sem]) rfl ⟨rfl,zaA _ _⟩)
def zDP(s:ByteArray)(i:Nat)(w:World)(hs:s.size<=1000000000)(hi:i<s.size):Calls prog 136 #[.string s,.int .i64 i] w fun e w'=>e=.returned (.agg #[.int .i64 (ztQ s i).1,.int .i64 (ztQ s i).2])/\Kept w w':=by
 have i0:=znU (P:=prog) (t:=9) aq s i hi i rfl;have h0:=zcR s i;have h1:=zcF s i;have ht:ztQ s i=if zaH s (i+1) (ze5 (zaC s i)) (zcM (zaC s i))<0\/zaH s (i+2) 128 191<0\/zaH s (i+3) 128 191<0 then(65533,1)
   else((zaC s i - 240) * 262144+zaH s (i+1) (ze5 (zaC s i)) (zcM (zaC s i)) * 4096+zaH s (i+2) 128 191 * 64+zaH s (i+3) 128 191,4):=rfl
 have mX:zaH s (i+1) (ze5 (zaC s i)) (zcM (zaC s i))<=63:=by
  have:=zcF s (i+1);unfold zaH zcM;split<;>omega
 have mV:zaH s (i+2) 128 191<=63:=(by unfold zaH;split<;>omega);have mF:zaH s (i+3) 128 191<=63:=(by unfold zaH;split<;>omega);have hc:((zaC s i==240)=true/\(zaC s i==244)=false/\ze5 (zaC s i)=144/\zcM (zaC s i)=191) \/
   ((zaC s i==240)=false/\(zaC s i==244)=true/\ze5 (zaC s i)=128/\zcM (zaC s i)=143) \/
   ((zaC s i==240)=false/\(zaC s i==244)=false/\ze5 (zaC s i)=128/\zcM (zaC s i)=191):=by
  unfold ze5 zcM;simp only[bh,ab,ne_eq];omega
 generalize zaC s i=b at *;rcases hc with⟨e1,e2,l1,l2⟩|⟨e1,e2,l1,l2⟩|⟨e1,e2,l1,l2⟩
 all_goals
  rw[l1,l2]at ht mX;have HT:=Hd ht;clear ht l1 l2;go_in;go_wp2_with (first|(go_at_call 134;refine(zfY _ (i+1) _ _ _ _ a_ a_ a_).mono ?_;rintro e w' ⟨rfl,rfl⟩)|(go_at_call 134;refine(zfY _ (i+2) _ _ _ _ a_ a_ a_).mono ?_;rintro e w' ⟨rfl,rfl⟩)|(go_at_call 134;refine(zfY _ (i+3) _ _ _ _ a_ a_ a_).mono ?_;rintro e w' ⟨rfl,rfl⟩))
  all_goals first
   | (have q:=HT.o;rw[ae a_]at q;rw[q];exact bM (v:=.agg #[.int .i64 65533,.int .i64 1]) (by simp [results,results136,go_sem]) rfl ⟨rfl,zaA _ _⟩)
   | (have q:=HT.o;rw[aa a_]at q;rw[q];exact bM (v:=.agg #[.int .i64 _,.int .i64 4]) (by simp [results,results136,go_sem]) rfl ⟨rfl,zaA _ _⟩)
def zbC{W w1:World}(hb:Kept W w1):(∀b o,b<W.heap.size->w1.cell? ⟨b,o,none⟩=W.cell? ⟨b,o,none⟩)/\(∀b o,b<W.heap.size->w1.frozen? ⟨b,o,none⟩=W.frozen? ⟨b,o,none⟩) :=
 ⟨fun b o h=>hb.cell (p:=⟨b,o,none⟩) h,fun b o h=>hb.frozen (p:=⟨b,o,none⟩) h⟩
def zGf(s:ByteArray)(i:Nat)(w:World)(hs:s.size<=1000000000)(hi:i<s.size):Calls prog 100 #[.string s,.int .i64 i] w fun e w'=>e=.returned (.agg #[.int .i64 (dec s i).1,.int .i64 (dec s i).2])/\Kept w w':=by
 have i0:=znU (P:=prog) (t:=9) aq s i hi i rfl;have h0:=zcR s i;have h1:=zcF s i;have HD:Hi (dec s i=if zaC s i<128 then(zaC s i,1)
  else if 194<=zaC s i/\zaC s i<=223 then
   if 0<=zaH s (i+1) 128 191 then((zaC s i - 192) * 64+zaH s (i+1) 128 191,2)else(65533,1)
  else if 224<=zaC s i/\zaC s i<=239 then zhH s i
  else if 240<=zaC s i/\zaC s i<=244 then ztQ s i
  else(65533,1)):=rfl
 have mX:zaH s (i+1) 128 191<=63:=(by unfold zaH;split<;>omega);generalize zaC s i=b at *;by_cases c1:b<128
 .have q:=HD.o;rw[ae c1]at q;rw[q];clear q HD;go_enter gP,gA;go_wp2_with fail;exact bM (v:=.agg #[.int .i64 _,.int .i64 _]) (by simp [results,fW,go_sem]) rfl ⟨rfl,zaA _ _⟩
 by_cases c2:194<=b/\b<=223
 .have q:=HD.o;rw[aa c1,ae c2]at q;rw[q];clear q HD;by_cases c3:0<=zaH s (i+1) 128 191
  .rw[ae c3];go_enter gP,gA;go_wp2_with (go_at_call 134;refine(zfY _ (i+1) _ _ _ _ a_ a_ a_).mono ?_;rintro e w' ⟨rfl,rfl⟩);exact bM (v:=.agg #[.int .i64 _,.int .i64 _]) (by simp [results,fW,go_sem]) rfl ⟨rfl,zaA _ _⟩
  .rw[aa c3];go_enter gP,gA;go_wp2_with (go_at_call 134;refine(zfY _ (i+1) _ _ _ _ a_ a_ a_).mono ?_;rintro e w' ⟨rfl,rfl⟩);exact bM (v:=.agg #[.int .i64 _,.int .i64 _]) (by simp [results,fW,go_sem]) rfl ⟨rfl,zaA _ _⟩
 by_cases c3:224<=b/\b<=239
 .have q:=HD.o;rw[aa c1,aa c2,ae c3]at q;rw[q];clear q HD;go_enter gP,gA;go_wp2_with fail;refine(zAy _ _ _ a_ a_).mono ?_;rintro e w1 ⟨rfl,hk⟩;obtain⟨kc,kf⟩:=zbC hk;have hz:w.heap.size<w1.heap.size:=(by have:=hk.size;simp at this;omega);have Hk:=Hd hk;clear hk;go_wp2_with fail;refine bM (v:=.agg #[.int .i64 (zhH s i).1,.int .i64 (zhH s i).2]) (by simp [results,fW,go_sem,hz,kc,kf]) rfl ⟨rfl,?_⟩;exact iD (iD ((zaA w _).trans Hk.o) (aw _) _) (aw _) _
 by_cases c4:240<=b/\b<=244
 .have q:=HD.o;rw[aa c1,aa c2,aa c3,ae c4]at q;rw[q];clear q HD;go_enter gP,gA;go_wp2_with fail;refine(zDP _ _ _ a_ a_).mono ?_;rintro e w1 ⟨rfl,hk⟩;obtain⟨kc,kf⟩:=zbC hk;have hz:w.heap.size<w1.heap.size:=(by have:=hk.size;simp at this;omega);have Hk:=Hd hk;clear hk;go_wp2_with fail;refine bM (v:=.agg #[.int .i64 (ztQ s i).1,.int .i64 (ztQ s i).2]) (by simp [results,fW,go_sem,hz,kc,kf]) rfl ⟨rfl,?_⟩;exact iD (iD ((zaA w _).trans Hk.o) (aw _) _) (aw _) _
 .have q:=HD.o;rw[aa c1,aa c2,aa c3,aa c4]at q;rw[q];clear q HD;go_enter gP,gA;go_wp2_with fail
  all_goals exact bM (v:=.agg #[.int .i64 _,.int .i64 _]) (by simp [results,fW,go_sem]) rfl ⟨rfl,zaA _ _⟩
def zAz(s:ByteArray)(i:Nat)(l h:Int)(hh:h<=191):zaH s i l h<=63:=by unfold zaH;split<;>omega
def zaX(s:ByteArray)(i:Nat)(hi:i<s.size):0<=(dec s i).1/\(dec s i).1<=2000000/\1<=(dec s i).2/\(dec s i).2<=4/\(i:Int)+(dec s i).2<=s.size:=by
 have h0:=zcR s i;have m1:∀k l h,0<=zaH s k l h->k<s.size:=fun k l h q=>(zg0 q).1;have hh:∀k l h,h<=191->zaH s k l h<=63:=fun k l h q=>zAz s k l h q;unfold dec
 split
 .simp only;omega
 split
 .split
  .rename_i q;have:=m1 _ _ _ q;have:=hh (i+1) 128 191 a_;simp only;omega
  .simp only;omega
 split
 .unfold zhH
  split
  .simp only;omega
  .rename_i q;have a1:=m1 (i+2) 128 191 a_;have a2:=hh (i+1) (zfT (zaC s i)) (zcL (zaC s i)) (by unfold zcL;split<;>omega);have a3:=hh (i+2) 128 191 a_;simp only;omega
 split
 .unfold ztQ
  split
  .simp only;omega
  .rename_i q;have a1:=m1 (i+3) 128 191 a_;have a2:=hh (i+1) (ze5 (zaC s i)) (zcM (zaC s i)) (by unfold zcM;split<;>omega);have a3:=hh (i+2) 128 191 a_;have a4:=hh (i+3) 128 191 a_;simp only;omega
 .simp only;omega
def zb4(p:Int×Int):Bool:=zeC p.1 && !(p.1==65533&&p.2==1)
def zoY(c:Int):zgK c = !zeC c:=by
 unfold zgK zeC;rw[dX];simp;omega
def zbX(s:ByteArray)(i:Nat):Bool :=
 if i<s.size then zb4 (dec s i)&&zbX s (i+(dec s i).2.toNat)else true
termination_by s.size - i
decreasing_by have:=(zaX s i (by assumption)).2.2.1;omega
def zdW(s:ByteArray)(i:Nat)(h:i<s.size):zbX s i=(zb4 (dec s i)&&zbX s (i+(dec s i).2.toNat)):=by rw[zbX,ae h]
def zb1(s:ByteArray)(i:Nat)(h:¬ i<s.size):zbX s i=true:=by rw[zbX,aa h]
def za9(s:ByteArray):Bool:=zbX s 0
def zq3(s:ByteArray):Hi (za9 s=zbX s 0):=by unfold Hi za9;exact Eq.refl _
def zxW{w:World}{a b:Nat}:∃n,(w.drewN a).drewN b=w.drewN n:=⟨a+b,by simp [World.drewN,dU]⟩
def zlX(s:ByteArray)(w:World)(hs:s.size<=1000000000):Calls prog 80 #[.string s] w fun e w'=>e=.returned (.bool (za9 s))/\∃n,w'=w.drewN n:=by
 go_in
 go_wp2
 go_loopw [3] (fun i wr=>∃k m:Nat,k<=s.size/\i=.int .i64 k/\Hi (za9 s=zbX s k)/\wr=w.drewN m) (fun i _=>s.size - (intOf i).toNat)
 .exact⟨0,0,ai _,rfl,zq3 s,rfl⟩
 case round =>
  obtain⟨k,m,hk,rfl,HV,rfl⟩:=hrel;by_cases kV:k<s.size
  .have hb:=zaX s k kV;have HI:Hi (zbX s k=(zb4 (dec s k)&&zbX s (k+(dec s k).2.toNat))):=zdW s k kV;have HP:∀w,Calls prog 114 #[.string s,.int .i64 k] w (NextPost s k w):=fun w=>zDO s k w hs kV;unfold NextPost at HP;have HP:=Hd HP;obtain⟨c,n,hd⟩:∃c n,dec s k=(c,n):=⟨_,_,rfl⟩;rw[hd]at hb HI HP;simp only at hb HI HP;clear hd;obtain⟨b1,b2,b3,b4,b5⟩:=hb;by_cases q1:c=65533/\n=1
   .have t1:(c==65533)=true:=bh.2 q1.1;have t2:(n==1)=true:=bh.2 q1.2;have HG:Hi (zb4 (c,n)=false):=(by show _=_;simp only[zb4,t1,t2,Bool.and_self,Bool.not_true,gm]);clear q1;go_wp2_with fail;refine(HP.o _).mono ?_;rintro e w' ⟨rfl,nq,rfl⟩;go_wp2;go_ret;exact⟨zaY (by rw[HV.o,HI.o,HG.o];rfl),_,rfl⟩
   .have tt:(c==65533)=false\/(c==65533)=true/\(n==1)=false:=by
     simp only[bh,ab,ne_eq];omega
    have HG:Hi (zb4 (c,n) = !zgK c):=by
     show _=_;rw[zoY,Bool.not_not];rcases tt with t1|⟨t1,t2⟩
     .simp only[zb4,t1,ju,jt,Bool.and_true]
     .simp only[zb4,t1,t2,gm,jt,Bool.and_true]
    clear q1;have HN:Hi (k+n.toNat<=s.size):=(by show _<=_;omega);obtain⟨n,rfl⟩:∃n':Nat,n=n':=⟨n.toNat,a_⟩;obtain⟨u,hu⟩:∃u,zgK c=u:=⟨_,rfl⟩;rw[hu]at HG;cases u
    all_goals
     rcases tt with t1|⟨t1,t2⟩
     all_goals
      go_wp2_with fail;refine(HP.o _).mono ?_;rintro e w' ⟨rfl,nq,rfl⟩;go_wp2_with (go_at_call 115;refine(ztW _ _).mono ?_;rintro e w' ⟨rfl,rfl⟩)
      first
      | (
         go_ret;exact⟨zaY (by rw[HV.o,HI.o,HG.o];rfl),_,rfl⟩)
      | (
         go_roundw
         .exact⟨k+n,_,by have:=HN.o;simp at this;exact this,by go_num,by show _=_;rw[HV.o,HI.o,HG.o];simp,rfl⟩
         .simp [intOf];omega)
  .go_wp2;go_ret;exact⟨zaY (by rw[HV.o,zb1 s k kV]),_,rfl⟩
def zbI(s:ByteArray)(i:Nat):List (Int×Int) :=
 if i<s.size then dec s i::zbI s (i+(dec s i).2.toNat)else []
termination_by s.size - i
decreasing_by have:=(zaX s i (by assumption)).2.2.1;omega
def zeA(s:ByteArray)(i:Nat)(h:i<s.size):zbI s i=dec s i::zbI s (i+(dec s i).2.toNat):=by rw[zbI,ae h]
def zdS(s:ByteArray)(i:Nat)(h:¬ i<s.size):zbI s i=[]:=by rw[zbI,aa h]
def zcS(s:ByteArray):List (Int×Int):=zbI s 0
def zq4(s:ByteArray):Hi (zcS s=[]++zbI s 0):=by unfold Hi zcS;simp
def zgL(l:List (Int×Int)):List Value:=l.flatMap fun p=>[.int .i64 p.1,.int .i64 p.2]
def zq5(l:List (Int×Int))(c n:Int):zgL (l++[(c,n)])=zgL l++[.int .i64 c,.int .i64 n]:=by unfold zgL;simp
def znW(l:List (Int×Int))(j:Nat)(p:Int×Int)(h:l[j]? = some p):(zgL l)[2 * j]? = some (.int .i64 p.1)/\(zgL l)[2 * j+1]? = some (.int .i64 p.2):=by
 induction l generalizing j with
 | nil=>simp at h
 | cons a l ih =>
  cases j with
  | zero=>simp at h;subst h;exact⟨rfl,rfl⟩
  | succ j =>
   have:=ih j (by simpa using h);unfold zgL at this ⊢;rw[dB,show 2 * (j+1)=2 * j+2 from by omega,show 2 * j+2+1=2 * j+1+2 from by omega];exact this
def Tryz.infoPt:(prog.info? 130).map (fun i=>(i.zero,i.size,i.bytes))=some (some (.agg #[.int .i64 0,.int .i64 0]),2,16):=g_
def zoZ(s:ByteArray)(i:Nat):(zbI s i).length<=s.size - i:=by
 rcases bG i s.size with h|h
 .have hb:=(zaX s i h);have ih:=zoZ s (i+(dec s i).2.toNat);rw[zeA s i h,az];omega
 .rw[zdS s i a_];simp
termination_by s.size - i
decreasing_by have:=(zaX s i (by assumption)).2.2.1;omega
def znX(s:ByteArray)(w:World)(hs:s.size<=1000000000):Calls prog 66 #[.string s] w fun e w'=>∃v,e=.returned v/\w'.ownsRow w.heap.size 130 2 v (zcS s).length (zgL (zcS s))/\Kept w w':=by
 obtain⟨i0,hi,mr,mq,mm⟩:=cg Tryz.infoPt;obtain⟨B,hB⟩:∃B,B=w.heap.size:=⟨_,rfl⟩;have HB:=Hd hB;rw[<- hB];clear hB;go_in
 go_wp2
 go_loopw [3,4] (fun v i wr=>∃(k:Nat) (pts:List (Int×Int)),k<=s.size/\i=.int .i64 k/\pts.length<=k/\wr.ownsRow B 130 2 v pts.length (zgL pts)/\Hi (zcS s=pts++zbI s k)/\Below B w wr) (fun _ i _=>s.size - (intOf i).toNat)
 .exact⟨0,[],ai _,rfl,aw _,dg _ _ _ _,zq4 s,gc _ _⟩
 case round =>
  obtain⟨k,pts,hk,rfl,hpl,lc,HP,hbel⟩:=hrel;by_cases kV:k<s.size
  .have hb:=zaX s k kV;have HI:Hi (zbI s k=dec s k::zbI s (k+(dec s k).2.toNat)):=zeA s k kV;have HC:=Hd (fun w=>zGf s k w hs kV);obtain⟨c,n,hd⟩:∃c n,dec s k=(c,n):=⟨_,_,rfl⟩;rw[hd]at hb HI HC;simp only at hb HI HC;clear hd;obtain⟨b1,b2,b3,b4,b5⟩:=hb;obtain⟨n,rfl⟩:∃n':Nat,n=n':=⟨n.toNat,a_⟩;simp only[dH]at HI;have HW:=Hd lc;have HX:=Hd hbel;clear lc hbel;go_wp2_with fail;refine k_ (HC.o _) fun w1 ld=>?_;have mx:=za1 HW.o ld;have hs1:B<=w1.heap.size:=(by have:=HX.o.size;have:=ld.size;rw[HB.o];omega);have GR:=Hd (HX.o.trans (ld.mono (by have:=HX.o.size;rw[HB.o];exact this)));clear ld;go_wp2_with (at_builtin;refine cV _ rfl _ _ 127 rfl B 130 i0 (.agg #[.int .i64 0,.int .i64 0]) 2 16 underlying127 hi mr mq mm rfl c_ _ _ _ rfl ((mx.alloc _).alloc _) ⟨w1.heap.size+1,0,none⟩ 1 1 [.int .i64 c,.int .i64 n] rfl rfl ?c1 ?c2 ?c3 ?c4 ?c5 ?_)
   case c1=>exact zbO _ #[.int .i64 c,.int .i64 n] _ _ b_
   case c2=>intro u hu;simp at hu;rcases hu with rfl|rfl<;>rfl
   case c3=>unfold maxLen;omega
   case c4=>omega
   case c5=>simp;omega
   intro v' w2 lr lw _;have hc2:w2.cell? ⟨w1.heap.size,1,none⟩=some (.int .i64 n):=by
    rw[zxK lw _ _ e_ (zI2 mx _ (aw _))];simp
   have zw:Below B w w2:=((GR.o.alloc hs1 _).alloc e_ _).trans (za2 ((mx.alloc _).alloc _) lw e_);rw[<- zq5]at lr;have HO:=Hd lr;have lx:=Hd zw;clear lr lw zw mx;go_wp2;go_roundw
   case rel =>
    refine⟨k+n,pts++[(c,(n:Int))],a_,by go_num,e_,?_,?_,lx.o⟩
    .have:=HO.o;simpa using this
    .show _=_;rw[HP.o,HI.o];simp
   .simp [intOf];omega
  .have hown':=za1 lc (af _);go_wp2;go_ret;refine⟨_,rfl,?_,by rw[HB.o]at hbel;exact hbel⟩;have:zcS s=pts:=(by rw[HP.o,zdS s k kV];simp);rw[this];exact hown'
def zf9(s:ByteArray)(i:Nat):zbX s i=(zbI s i).all zb4:=by
 rcases bG i s.size with h|h
 .have hb:=(zaX s i h);have ih:=zf9 s (i+(dec s i).2.toNat);rw[zeA s i h,zdW s i h,ci,ih]
 .rw[zdS s i a_,zb1 s i a_];rfl
termination_by s.size - i
decreasing_by have:=(zaX s i (by assumption)).2.2.1;omega
def zo0(s:ByteArray):za9 s=(zcS s).all zb4:=zf9 s 0
end Go.Proofs.YtnldgmhdjancbaaGreatDoor
