/- Parts. -/
import Derived.Test.YtnldgmhdjancbaaGreatDoorW02
set_option linter.all false
set_option maxRecDepth 100000
set_option maxHeartbeats 1600000
namespace Go.Proofs.YtnldgmhdjancbaaGreatDoor
open Go.RowKit Go.Proofs.Tryz
def zc2{P:Program}(w:World)(k:Nat)(s:ByteArray)(pos:Nat)(ty:TypeId)(hk:w.heap[k]? = some (.stringIter s pos))(h:pos<s.size):(Instr.next (.pointer (some ⟨k,0,none⟩)) true ty).run P w=.ok (.tuple #[.bool true,.int .i64 pos,.int .i32 (dec s pos).1]) (w.iterAt k s (pos+(dec s pos).2.toNat)):=by
 rw[zGe];simp only[Instr.next,getObj,setObj,bo,Sem.run,hk,Result.andThen,h,jO,World.iterAt,dH];simp [goInt,Sem.run,hk]
def zbM{P:Program}(w:World)(k:Nat)(s:ByteArray)(pos:Nat)(ty:TypeId)(hk:w.heap[k]? = some (.stringIter s pos))(h:¬ pos<s.size):(Instr.next (.pointer (some ⟨k,0,none⟩)) true ty).run P w=.ok (.tuple #[.bool false]) w:=by
 simp [Instr.next,getObj,Sem.run,hk,h]
def zhL(r:Int):Bs:=(Utf8.encode r).data.toList
def zq6(r:Int):Utf8.encode r=bs (zhL r):=rfl
def zlY(n:Nat)(h:n<256)(k:128<=n):128<=((UInt8.ofNat n).toNat:Int):=by
 rw[fo,iK h];omega
def zDQ(r:Int)(h:128<=r):2<=(zhL r).length/\(zhL r).length<=4/\∀b∈zhL r,128<=(b.toNat:Int):=by
 have hc:128<=(if Utf8.valid r then r.toNat else Utf8.runeError)/\(if Utf8.valid r then r.toNat else Utf8.runeError)<=1114111:=by
  split
  .rename_i hv;unfold Utf8.valid at hv;simp only[dL,ba,cq]at hv;omega
  .unfold Utf8.runeError;omega
 unfold zhL Utf8.encode;generalize (if Utf8.valid r then r.toNat else Utf8.runeError)=c at *;simp only;rw[aa a_]
 split
 .refine⟨b_,b_,?_⟩;intro b hb;simp only[bj,bO,ej]at hb;rcases hb with rfl|rfl<;>exact zlY _ a_ a_
 split
 .refine⟨b_,b_,?_⟩;intro b hb;simp only[bj,bO,ej]at hb;rcases hb with rfl|rfl|rfl<;>exact zlY _ a_ a_
 .refine⟨b_,b_,?_⟩;intro b hb;simp only[bj,bO,ej]at hb;rcases hb with rfl|rfl|rfl|rfl<;>exact zlY _ a_ a_
def ztX(l:Bs)(j:Nat)(h:j<l.length):∃b∈l,at8 l j=(b.toNat:Int):=⟨l[j],dm h,zbP l j h⟩
def Ascii(cs:Bs):Prop:=∀b∈cs,(b.toNat:Int)<128
def zo1(c:UInt8)(l:Bs)(h:c∉l):Lib.indexByte l c = -1:=by
 have h1:=za6 c l;have h2:=gw l c;have h3:l.contains c=false:=(by simpa using h);rw[h3]at h1;simp at h1;omega
def zq7(cs:Bs)(r:Int)(w:World)(hr:128<=r)(hr2:r<=2000000)(lV:(r==65533)=false)(hcs:Ascii cs)(hl:cs.length<=1000):Calls prog 148 #[.string (bs cs),.int .i32 r] w fun e w'=>e=.returned (.int .i64 (-1))/\∃n,w'=w.drewN n:=by
 obtain⟨v,hv⟩:∃v,Lib.validRune r=v:=⟨_,rfl⟩;cases v
 .go_enter jZ,jC;go_wp2_with (go_at_call 182;refine(fR _ _).mono ?_;rintro e w' ⟨rfl,rfl⟩);go_ret;exact⟨rfl,0,rfl⟩
 .obtain⟨e1,e2,e3⟩:=zDQ r hr;have ni:=zq6 r;generalize zhL r=rs at *;have hlast:rs.length - 1<rs.length:=a_;obtain⟨b,hb,hbe⟩:=ztX rs (rs.length - 1) hlast;have i0:=zbL (P:=prog) (t:=9) aq rs (rs.length - 1) hlast (rs.length - 1) a_;have hbig:=e3 b hb;have hbl:(b.toNat:Int)<256:=(by have:=b.toNat_lt;omega);have hnot:∀k,Lib.indexByte (cs.drop k) b = -1:=fun k=>zo1 b _ (fun q=>by have:=hcs b (List.mem_of_mem_drop q);omega);obtain⟨c,hc⟩:∃c:Int,c=b.toNat:=⟨_,rfl⟩;rw[hbe,<- hc]at i0;have mX:∀x:Bs,Lib.indexByte x b = -1->∀w,Calls prog 77 #[.string (bs x),.int .u8 c] w fun e w'=>e=.returned (.int .i64 (-1))/\w'=w:=by
   intro x hx w;refine(iO (bs x) c w).mono ?_;rintro e w' ⟨rfl,rfl⟩;refine⟨?_,rfl⟩;rw[hc,dH,show b.toNat.toUInt8=b from by simp,zfW,hx]
  have HB:=Hd mX;rw[<- hc]at hbig hbl;clear hbe hb e3 hc mX;by_cases kV:rs.length - 1<cs.length
  .have i1:=zbL (P:=prog) (t:=9) aq cs (rs.length - 1) kV (rs.length - 1) a_;have hsm:at8 cs (rs.length - 1)<128:=(by obtain⟨b',hb',e⟩:=ztX cs _ kV;rw[e];exact hcs b' hb');have GS:=zh7 cs (rs.length - 1);generalize at8 cs (rs.length - 1)=c' at *;have sl:=zgZ (P:=prog) (t:=9) aq cs (rs.length) a_ (rs.length - 1+1) a_ _ rfl;have sl2:=zgZ (P:=prog) (t:=9) aq cs (rs.length) a_ (rs.length) rfl _ rfl;have HN:=Hd (HB.o _ (hnot rs.length));clear hnot HB;go_enter jZ,jC;go_wp2_with (first|(go_at_call 182;refine(fR _ _).mono ?_;rintro e w' ⟨rfl,rfl⟩))
   go_step3
   go_wp2_with (first|(go_at_call 182;refine(fR _ _).mono ?_;rintro e w' ⟨rfl,rfl⟩));refine kC 1 ?_;rw[rounds_succ];go_wp2_with fail
   go_step3
   go_wp2_with fail
   go_quiet (fail)
   obtain⟨w2,hw2⟩:∃x,x=w'.drewN nq:=⟨_,rfl⟩;rw[<- hw2];have HW2:=Hd hw2;clear hw2;go_wp2_with fail;have hsum:IntKind.i64.wrap (↑(List.length rs) - 1+1) = ↑(List.length rs):=kI _ a_ |>.trans a_;have JX:(0:Int) <= ↑(List.length rs):=a_
   go_quiet ((go_at_call 77;exact Calls.quiet_of_same (HN.o _)))
   go_wp2_with fail;rw[i8];go_wp2_with fail;rw[i8];go_wp2;go_ret;exact⟨rfl,by rw[HW2.o];exact zxW⟩
  .go_enter jZ,jC;go_wp2_with (go_at_call 182;refine(fR _ _).mono ?_;rintro e w' ⟨rfl,rfl⟩)
   go_step3
   go_wp2_with fail;refine kC 1 ?_;rw[rounds_succ];go_wp2_with fail
   try rw[i8]
   try rw[i8]
   go_ret;exact⟨rfl,0,rfl⟩
def ziA(l:Bs)(i:Nat)(h:at8 l i<128):dec (bs l) i=(at8 l i,1):=by unfold dec;rw[za4,ae h]
def zAA{P:Program}(w:World)(l:Bs)(pos:Nat)(ty:TypeId)(h:pos<l.length)(c n:Int)(hd:dec (bs l) pos=(c,n)):(Instr.next (.pointer (some ⟨w.heap.size,0,none⟩)) true ty).run P (w.iter (bs l) pos)=.ok (.tuple #[.bool true,.int .i64 pos,.int .i32 c]) (w.iter (bs l) (pos+n.toNat)):=by
 rw[run_next_any w (bs l) pos ty h];rw[zGe]at hd;obtain⟨h1,h2⟩:=Prod.mk.injEq _ _ _ _ ▸ hd;rw[h1,<- h2,dH]
def zq8(cs:Bs)(w:World)(hcs:Ascii cs)(hl:cs.length<=1000):Calls prog 148 #[.string (bs cs),.int .i32 65533] w fun e w'=>e=.returned (.int .i64 (-1))/\Kept w w':=by
 go_enter jZ,jC;go_wp2_with fail;go_loopw [5] (fun u wr=>∃pos:Nat,pos<=cs.length/\wr=w.iter (bs cs) pos) (fun u wr=>cs.length - wr.iterPos w.heap.size)
 .exact⟨0,ai _,rfl⟩
 case round =>
  obtain⟨pos,hp,rfl⟩:=hrel;by_cases kV:pos<cs.length
  .have hsm:at8 cs pos<128:=(by obtain⟨b',hb',e⟩:=ztX cs _ kV;rw[e];exact hcs b' hb');have GS:=zh7 cs pos;have nx:=fun ty=>zAA (P:=prog) w cs pos ty kV _ _ (ziA cs pos hsm);generalize at8 cs pos=c at *;have lV:(c==65533)=false:=(by rw[ab];omega);go_wp2;go_roundw
   .exact⟨pos+1,a_,rfl⟩
   .simp;omega
  .have nx:=fun ty=>run_next_end (P:=prog) w (bs cs) pos ty kV;go_wp2;go_ret;exact⟨rfl,zaA _ _⟩
def zeP(l:Bs):List Int:=(zcS (bs l)).map (·.1)
structure ColT where
 ranks:List Pr
 order:List Bs
 ignore:Bs
def zGX(c:ColT)(x:Int):Option Nat:=c.order.findIdx? fun s=>(zeP s).contains x
def ziB(c:ColT)(x:Int):Int:=if x=32 then 0 else match zGX c x with
 | some i=>(i:Int)+1
 | none=>(c.order.length:Int)+1+x
def znY(c:ColT)(x:Int):Option (List Int):=(c.ranks.find? fun p=>zeP p.1==[x]).map fun p=>zeP p.2
def zjL(c:ColT)(x:Int):List Int:=if(zeP c.ignore).contains x=true then []else match znY c x with
 | some v=>v.map (ziB c)
 | none=>[ziB c x]
def zgM(c:ColT)(s:Bs):List Int:=(zeP s).flatMap (zjL c)
def zgE:List Int->List Int->Int
 | [],[]=>0
 | [],_=>-1
 | _,[]=>1
 | x::xs,y::ys=>if x<y then -1 else if y<x then 1 else zgE xs ys
def zGg(a b:Bs):Int:=zgE (a.map fun x=>(x.toNat:Int)) (b.map fun x=>(x.toNat:Int))
def znJ(c:ColT)(a b:Bs):Int:=if zgE (zgM c a) (zgM c b)≠0 then zgE (zgM c a) (zgM c b)else zGg a b
def ziC(s:ByteArray)(i:Nat)(h:128<=zaC s i):128<=(dec s i).1/\∀j,j<(dec s i).2.toNat->128<=zaC s (i+j):=by
 have m1:∀k l h,0<=zaH s k l h->l<=zaC s k:=fun k l h q=>(zg0 q).2.1;have hl3:128<=zfT (zaC s i):=(by unfold zfT;split<;>omega);have hl4:128<=ze5 (zaC s i):=(by unfold ze5;split<;>omega);unfold dec;rw[aa a_]
 split
 .split
  .rename_i q;refine⟨by simp only;omega,fun j hj=>?_⟩;have:=m1 _ _ _ q;rcases(show j=0\/j=1 by simp only at hj;omega)with rfl|rfl
   .exact h
   .exact this
  .exact⟨by simp only;omega,fun j hj=>by
     simp only at hj;obtain rfl:j=0:=a_;exact h⟩
 split
 .unfold zhH
  split
  .exact⟨by simp only;omega,fun j hj=>by
     simp only at hj;obtain rfl:j=0:=a_;exact h⟩
  .rename_i q;have a1:=m1 (i+1) (zfT (zaC s i)) (zcL (zaC s i)) a_;have a2:=m1 (i+2) 128 191 a_;have a3:=zg0 (s:=s) (i:=i+1) (l:=zfT (zaC s i)) (h:=zcL (zaC s i)) a_;refine⟨?_,fun j hj=>?_⟩
   .simp only;by_cases e:zaC s i=224
    .have:zfT (zaC s i)=160:=(by unfold zfT;rw[ae e]);omega
    .omega
   .rcases(show j=0\/j=1\/j=2 by simp only at hj;omega)with rfl|rfl|rfl
    .exact h
    .omega
    .exact a2
 split
 .unfold ztQ
  split
  .exact⟨by simp only;omega,fun j hj=>by
     simp only at hj;obtain rfl:j=0:=a_;exact h⟩
  .rename_i q;have a1:=m1 (i+1) (ze5 (zaC s i)) (zcM (zaC s i)) a_;have a2:=m1 (i+2) 128 191 a_;have a4:=m1 (i+3) 128 191 a_;have a3:=zg0 (s:=s) (i:=i+1) (l:=ze5 (zaC s i)) (h:=zcM (zaC s i)) a_;refine⟨?_,fun j hj=>?_⟩
   .simp only;by_cases e:zaC s i=240
    .have:ze5 (zaC s i)=144:=(by unfold ze5;rw[ae e]);omega
    .omega
   .rcases(show j=0\/j=1\/j=2\/j=3 by simp only at hj;omega)with rfl|rfl|rfl|rfl
    .exact h
    .omega
    .exact a2
    .exact a4
 .exact⟨by simp only;omega,fun j hj=>by
    simp only at hj;obtain rfl:j=0:=a_;exact h⟩
def zvW(f:UInt8->Bool)(hf:∀b:UInt8,128<=(b.toNat:Int)->f b=false)(l:Bs):∀(n i:Nat),(∀j,j<n->128<=at8 l (i+j))->(l.drop i).any f=(l.drop (i+n)).any f
 | 0,i,_=>rfl
 | n+1,i,h=>by
  rw[show i+(n+1)=(i+1)+n from by omega,<- zvW f hf l n (i+1) (fun j hj=>by have:=h (j+1) a_;rw[show i+1+j=i+(j+1)from by omega];exact this)];rcases bG i l.length with q|q
  .rw[aJ q,jE,hf,eM];rw[<- zbP l i q];exact h 0 a_
  .rw[db q,db a_]
def zDR(f:UInt8->Bool)(l:Bs)(i:Nat)(h:i<l.length):(l.drop i).any f=(f l[i] || (l.drop (i+1)).any f):=by
 rw[aJ h,jE]
def zbN(cs:Bs)(b:UInt8):Bool:=cs.contains b
def AnyPost(l cs:Bs)(w:World)(e:Ending)(w':World):Prop:=∃r:Int,e=.returned (.int .i64 r)/\(decide (0<=r)=l.any (zbN cs))/\Kept w w'
def zxX(l cs:Bs)(w:World)(hcs:Ascii cs)(hl:cs.length<=1000)(h2:2<=cs.length)(h8:l.length<=8):Calls prog 109 #[.string (bs l),.string (bs cs)] w (AnyPost l cs w):=by
 have hne1:((cs.length:Int)==1)=false:=(by rw[ab];omega);have hce:cs.isEmpty=false:=(by cases cs<;>simp at h2 ⊢);have GT:¬ cs=[]:=(by cases cs<;>simp at h2 ⊢);have hf:∀b:UInt8,128<=(b.toNat:Int)->zbN cs b=false:=fun b hb=>by
  unfold zbN;rw[eE];intro q;have:=hcs b (by simpa using q);omega
 have HF:=Hd hf;clear hf;go_in;go_wp2_with (go_at_call 149;refine k_ (gt _ _) fun w' hw=>?_;obtain rfl:=hw.symm);go_loopw [9] (fun u wr=>∃pos:Nat,pos<=l.length/\wr.heap[w.heap.size]? = some (.stringIter (bs l) pos)/\Kept w wr/\Hi (l.any (zbN cs)=(l.drop pos).any (zbN cs))) (fun u wr=>l.length - wr.iterPos w.heap.size)
 .exact⟨0,ai _,eQ _ _ _,zaA _ _,rfl⟩
 case round =>
  obtain⟨pos,hp,mz,hk,HA⟩:=hrel;have sr:wr.iterPos w.heap.size=pos:=(by simp [World.iterPos,mz]);have ny:w.heap.size<wr.heap.size:=by
   rcases bG w.heap.size wr.heap.size with q|q
   .exact q
   .rw[bB q]at mz;cases mz
  by_cases kV:pos<l.length
  .have nx:=fun ty=>zc2 (P:=prog) wr w.heap.size (bs l) pos ty mz kV;have hb:=zaX (bs l) pos kV;have h0:=zh7 l pos;have hit2:∀p,(wr.iterAt w.heap.size (bs l) p).heap[w.heap.size]? = some (.stringIter (bs l) p):=fun p=>fy wr w.heap.size (bs l) pos p mz;have ll:∀p,Kept w (wr.iterAt w.heap.size (bs l) p):=fun p=>fj hk (aw _) (bs l) p;have HIT:=Hd hit2;have kX:=Hd ll;have ob:=Hd sr;clear hit2 ll sr;by_cases ha:at8 l pos<128
   .have HN:=Hd (zDR (zbN cs) l pos kV);rw[ziA l pos ha]at nx;simp only at nx;have HB:Hi (at8 l pos=(l[pos].toNat:Int)):=zbP l pos kV;generalize l[pos]=x at *;generalize at8 l pos=c at *;have HX:Hi (∀w,Calls prog 148 #[.string (bs cs),.int .i32 c] w fun e w'=>e=.returned (.int .i64 (Lib.indexByte cs x))/\w=w'):=by
     intro w;refine(gI (bs cs) c w h0 ha).mono ?_;rintro e w' ⟨rfl,rfl⟩;refine⟨?_,rfl⟩;rw[HB.o,dH,show x.toNat.toUInt8=x from by simp,zfW]
    have HC:Hi (decide (0<=Lib.indexByte cs x)=zbN cs x):=za6 x cs;have hge:=gw cs x;generalize Lib.indexByte cs x=r at *;by_cases hr:0<=r
    .go_wp2_with fail;refine(HX.o _).mono ?_;rintro e w1 ⟨rfl,rfl⟩;go_wp2;go_ret;exact⟨_,rfl,by rw[HA.o,HN.o,<- HC.o,bJ hr];simp,kX.o _⟩
    .go_wp2_with fail;refine(HX.o _).mono ?_;rintro e w1 ⟨rfl,rfl⟩;go_wp2;go_roundw
     .exact⟨pos+1,a_,HIT.o _,kX.o _,by show _=_;rw[HA.o,HN.o,<- HC.o,bH a_];simp⟩
     .rw[ob.o];have:=HIT.o (pos+1);simp [World.iterPos,this];omega
   .have HS:Hi ((l.drop pos).any (zbN cs)=(l.drop (pos+(dec (bs l) pos).2.toNat)).any (zbN cs)):=zvW (zbN cs) HF.o l _ pos (ziC (bs l) pos (by rw[za4];omega)).2;have hc:=(ziC (bs l) pos (by rw[za4];omega)).1;obtain⟨c,n,hd⟩:∃c n,dec (bs l) pos=(c,n):=⟨(dec (bs l) pos).1,(dec (bs l) pos).2,rfl⟩;rw[hd]at nx hb HS hc;simp only at nx hb HS hc;obtain⟨b1,b2,b3,b4,b5⟩:=hb;simp only[zdZ]at b5;have HX:Hi (∀w,Calls prog 148 #[.string (bs cs),.int .i32 c] w fun e w'=>e=.returned (.int .i64 (-1))/\Kept w w'):=by
     intro w;by_cases q:c=65533
     .rw[q];exact zq8 cs w hcs hl
     .refine(zq7 cs c w hc b2 (by rw[ab];exact q) hcs hl).mono ?_;rintro e w' ⟨rfl,n,rfl⟩;exact⟨rfl,zaB _ _⟩
    clear hd;go_wp2_with fail;refine k_ (HX.o _) fun w1 ld=>?_;have kT:=Hd ld;clear ld;go_wp2;go_roundw
    case rel =>
     refine⟨pos+n.toNat,a_,?_,(kX.o _).trans kT.o,by show _=_;rw[HA.o,HS.o]⟩;rw[kT.o.block _ (by rw[eV];exact ny)];exact HIT.o _
    case measure =>
     have:=HIT.o (pos+n.toNat);rw[<- kT.o.block _ (by rw[eV];exact ny)]at this;rw[ob.o];simp [World.iterPos,this];omega
  .have nx:=fun ty=>zbM (P:=prog) wr w.heap.size (bs l) pos ty mz kV;go_wp2;go_ret;exact⟨_,rfl,by rw[HA.o,db a_];rfl,hk⟩
def zvX(w:World):(zeroValue 211).run prog w=.ok (.agg (Array.replicate 256 (.bool false))) w:=g_
def zDS(l cs:Bs)(w:World)(hcs:Ascii cs)(hl:cs.length<=1000)(h2:2<=cs.length)(hs:l.length<=1000000000):Calls prog 109 #[.string (bs l),.string (bs cs)] w (AnyPost l cs w):=by
 by_cases h8:l.length<=8
 .exact zxX l cs w hcs hl h2 h8
 .refine(gR zvX (bs l) (bs cs) w (by simpa using h2) e_ e_ e_ (fun j b hb=>?_)).mono ?_
  .have:=hcs b (am (by simpa using hb));omega
  .rintro e w' ⟨rfl,rfl⟩;exact⟨_,rfl,zhK cs l,(zaA _ _).trans (zaA _ _)⟩
def zDT(l cs:Bs)(w:World)(hcs:Ascii cs)(hl:cs.length<=1000)(h2:2<=cs.length)(hs:l.length<=1000000000):Calls prog 163 #[.string (bs l),.string (bs cs)] w fun e w'=>e=.returned (.bool (l.any (zbN cs)))/\Kept w w':=by
 go_in;go_wp2_with fail;refine(zDS l cs _ hcs hl h2 hs).mono ?_;rintro e w1 ⟨r,rfl,hr,hk⟩;have HR:=Hd hr;clear hr;go_wp2_with fail
 all_goals go_ret
 all_goals exact⟨zaY (by rw[<- HR.o]),hk⟩
def IdxPost(l cs:Bs)(w:World)(e:Ending)(w':World):Prop:=e=.returned (.int .i64 (Lib.indexAny l cs))/\Kept w w'
def zkC(cs:Bs):∀(l:Bs) (pos:Nat),(∀b∈l.take pos,zbN cs b=false)->(∃x,l[pos]? = some x/\zbN cs x=true)->Lib.indexAny l cs=(pos:Int)
 | [],pos,_,⟨x,hx,_⟩=>by simp at hx
 | b::l,0,_,⟨x,hx,hc⟩=>by
  simp at hx;subst hx;unfold zbN at hc;rw[Lib.indexAny,ae hc];rfl
 | b::l,pos+1,h,⟨x,hx,hc⟩=>by
  have hb:cs.contains b=false:=h b b_;have ih:=zkC cs l pos (fun y hy=>h y (by rw[da];exact bl _ hy)) ⟨x,by simpa using hx,hc⟩;rw[Lib.indexAny,hb,ih];have:((pos:Int) == -1)=false:=(by rw[ab];omega);rw[this];simp
def ziD(cs:Bs):∀l:Bs,(∀b∈l,zbN cs b=false)->Lib.indexAny l cs = -1
 | [],_=>rfl
 | b::l,h=>by
  have hb:cs.contains b=false:=h b b_;rw[Lib.indexAny,hb,ziD cs l (fun y hy=>h y (bl _ hy))];rfl
def zvY(f:UInt8->Bool)(l:Bs)(pos:Nat)(h:pos<l.length)(h1:∀b∈l.take pos,f b=false)(h2:f l[pos]=false):∀b∈l.take (pos+1),f b=false:=by
 intro b hb;rw[bf h]at hb;rcases aV.1 hb with q|q
 .exact h1 b q
 .simp at q;rw[q];exact h2
def zq9(f:UInt8->Bool)(hf:∀b:UInt8,128<=(b.toNat:Int)->f b=false)(l:Bs):∀(n i:Nat),(∀b∈l.take i,f b=false)->(∀j,j<n->128<=zaC (bs l) (i+j))->∀b∈l.take (i+n),f b=false
 | 0,i,h,_=>h
 | n+1,i,h,hh=>by
  rcases bG i l.length with q|q
  .have h1:=hh 0 a_;rw[dl,za4,zbP l i q]at h1;have:=zq9 f hf l n (i+1) (zvY f l i q h (hf _ h1)) (fun j hj=>by have:=hh (j+1) a_;rwa [show i+1+j=i+(j+1)from by omega])
   rwa [show i+(n+1)=i+1+n from by omega]
  .intro b hb;rw[bx a_]at hb;exact h b (by rw[bx q];exact hb)
def zxY(l cs:Bs)(w:World)(hcs:Ascii cs)(hl:cs.length<=1000)(h2:2<=cs.length)(h8:l.length<=8):Calls prog 109 #[.string (bs l),.string (bs cs)] w (IdxPost l cs w):=by
 have hne1:((cs.length:Int)==1)=false:=(by rw[ab];omega);have hce:cs.isEmpty=false:=(by cases cs<;>simp at h2 ⊢);have GT:¬ cs=[]:=(by cases cs<;>simp at h2 ⊢);have hf:∀b:UInt8,128<=(b.toNat:Int)->zbN cs b=false:=fun b hb=>by
  unfold zbN;rw[eE];intro q;have:=hcs b (by simpa using q);omega
 have HF:=Hd hf;clear hf;go_in;go_wp2_with (go_at_call 149;refine k_ (gt _ _) fun w' hw=>?_;obtain rfl:=hw.symm);go_loopw [9] (fun u wr=>∃pos:Nat,pos<=l.length/\wr.heap[w.heap.size]? = some (.stringIter (bs l) pos)/\Kept w wr/\Hi (∀b∈l.take pos,zbN cs b=false)) (fun u wr=>l.length - wr.iterPos w.heap.size)
 .exact⟨0,ai _,eQ _ _ _,zaA _ _,(by show∀b∈_,_;simp)⟩
 case round =>
  obtain⟨pos,hp,mz,hk,HA⟩:=hrel;have sr:wr.iterPos w.heap.size=pos:=(by simp [World.iterPos,mz]);have ny:w.heap.size<wr.heap.size:=by
   rcases bG w.heap.size wr.heap.size with q|q
   .exact q
   .rw[bB q]at mz;cases mz
  by_cases kV:pos<l.length
  .have nx:=fun ty=>zc2 (P:=prog) wr w.heap.size (bs l) pos ty mz kV;have hb:=zaX (bs l) pos kV;have h0:=zh7 l pos;have hit2:∀p,(wr.iterAt w.heap.size (bs l) p).heap[w.heap.size]? = some (.stringIter (bs l) p):=fun p=>fy wr w.heap.size (bs l) pos p mz;have ll:∀p,Kept w (wr.iterAt w.heap.size (bs l) p):=fun p=>fj hk (aw _) (bs l) p;have HIT:=Hd hit2;have kX:=Hd ll;have ob:=Hd sr;clear hit2 ll sr;by_cases ha:at8 l pos<128
   .have AY:=Hd (fun h:zbN cs l[pos]=true=>zkC cs l pos HA.o ⟨l[pos],ac kV,h⟩);have HL2:=Hd (fun h:zbN cs l[pos]=false=>zvY (zbN cs) l pos kV HA.o h);rw[ziA l pos ha]at nx;simp only at nx;have HB:Hi (at8 l pos=(l[pos].toNat:Int)):=zbP l pos kV;generalize l[pos]=x at *;generalize at8 l pos=c at *;have HX:Hi (∀w,Calls prog 148 #[.string (bs cs),.int .i32 c] w fun e w'=>e=.returned (.int .i64 (Lib.indexByte cs x))/\w=w'):=by
     intro w;refine(gI (bs cs) c w h0 ha).mono ?_;rintro e w' ⟨rfl,rfl⟩;refine⟨?_,rfl⟩;rw[HB.o,dH,show x.toNat.toUInt8=x from by simp,zfW]
    have HC:Hi (decide (0<=Lib.indexByte cs x)=zbN cs x):=za6 x cs;have hge:=gw cs x;generalize Lib.indexByte cs x=r at *;by_cases hr:0<=r
    .go_wp2_with fail;refine(HX.o _).mono ?_;rintro e w1 ⟨rfl,rfl⟩;go_wp2;go_ret;exact⟨zaU (AY.o (by rw[<- HC.o];exact bJ hr)).symm,kX.o _⟩
    .go_wp2_with fail;refine(HX.o _).mono ?_;rintro e w1 ⟨rfl,rfl⟩;go_wp2;go_roundw
     .exact⟨pos+1,a_,HIT.o _,kX.o _,HL2.o (by rw[<- HC.o];exact bH a_)⟩
     .rw[ob.o];have:=HIT.o (pos+1);simp [World.iterPos,this];omega
   .have HS:Hi (∀b∈l.take (pos+(dec (bs l) pos).2.toNat),zbN cs b=false):=zq9 (zbN cs) HF.o l _ pos HA.o (ziC (bs l) pos (by rw[za4];omega)).2;have hc:=(ziC (bs l) pos (by rw[za4];omega)).1;obtain⟨c,n,hd⟩:∃c n,dec (bs l) pos=(c,n):=⟨(dec (bs l) pos).1,(dec (bs l) pos).2,rfl⟩;rw[hd]at nx hb HS hc;simp only at nx hb HS hc;obtain⟨b1,b2,b3,b4,b5⟩:=hb;simp only[zdZ]at b5;have HX:Hi (∀w,Calls prog 148 #[.string (bs cs),.int .i32 c] w fun e w'=>e=.returned (.int .i64 (-1))/\Kept w w'):=by
     intro w;by_cases q:c=65533
     .rw[q];exact zq8 cs w hcs hl
     .refine(zq7 cs c w hc b2 (by rw[ab];exact q) hcs hl).mono ?_;rintro e w' ⟨rfl,n,rfl⟩;exact⟨rfl,zaB _ _⟩
    clear hd;go_wp2_with fail;refine k_ (HX.o _) fun w1 ld=>?_;have kT:=Hd ld;clear ld;go_wp2;go_roundw
    case rel =>
     refine⟨pos+n.toNat,a_,?_,(kX.o _).trans kT.o,HS.o⟩;rw[kT.o.block _ (by rw[eV];exact ny)];exact HIT.o _
    case measure =>
     have:=HIT.o (pos+n.toNat);rw[<- kT.o.block _ (by rw[eV];exact ny)]at this;rw[ob.o];simp [World.iterPos,this];omega
  .have nx:=fun ty=>zbM (P:=prog) wr w.heap.size (bs l) pos ty mz kV;go_wp2;go_ret;exact⟨zaU (ziD cs l (fun b hb=>HA.o b (by rw[bx a_];exact hb))).symm,hk⟩
def zDU(l cs:Bs)(w:World)(hcs:Ascii cs)(hl:cs.length<=1000)(h2:2<=cs.length)(hs:l.length<=1000000000):Calls prog 109 #[.string (bs l),.string (bs cs)] w (IdxPost l cs w):=by
 by_cases h8:l.length<=8
 .exact zxY l cs w hcs hl h2 h8
 .refine(gR zvX (bs l) (bs cs) w (by simpa using h2) e_ e_ e_ (fun j b hb=>?_)).mono ?_
  .have:=hcs b (am (by simpa using hb));omega
  .rintro e w' ⟨rfl,rfl⟩;exact⟨rfl,(zaA _ _).trans (zaA _ _)⟩
def lnB(l:Bs):Bool:=za9 (bs l) && !l.contains 10
def zAB(b:UInt8):Bool:=decide (97<=(b.toNat:Int))&&decide ((b.toNat:Int)<=122)
def zb5(l:Bs)(most:Int)(more:Bs):Bool:=decide (1<=l.length)&&(decide ((l.length:Int)<=most)&&l.all fun b=>zAB b || more.contains b)
structure Pc where
 txt:Bs
 fld:Bool
 grp:Nat
def zb0:Bs:=[123,125,91,93]
def zlZ(l:Bs):Nat:=if Lib.indexAny l zb0<0 then l.length else(Lib.indexAny l zb0).toNat
def zjM:Nat->Bs->Nat->Nat->Option (List Pc)
 | 0,_,_,_=>none
 | _+1,[],_,g=>if g=0 then some []else none
 | f+1,b::r,gs,g =>
  if zbN zb0 b=false then(zjM f ((b::r).drop (zlZ (b::r))) gs g).map fun l=>⟨(b::r).take (zlZ (b::r)),false,g⟩::l
  else if b=123 then
   if zaM 125 r<r.length/\zb5 (r.take (zaM 125 r)) 20 []=true then(zjM f (r.drop (zaM 125 r+1)) gs g).map fun l=>⟨r.take (zaM 125 r),true,g⟩::l else none
  else if b=91/\g=0 then zjM f r (gs+1) (gs+1)
  else if b=93/\g≠0 then zjM f r gs 0
  else none
def zo2(t:Bs):Option (List Pc):=zjM (t.length+1) t 0 0
def zeV(t:Bs):Int:=if lnB t=false then 17 else if(zo2 t).isSome=true then 0 else 5
def zhM(t:Bs):List Pc:=if zeV t=0 then(zo2 t).getD []else []
def zk5(f gs g:Nat):zjM (f+1) [] gs g=if g=0 then some []else none:=rfl
def zk6{b:UInt8}{r:Bs}(f gs g:Nat)(h:zbN zb0 b=false):zjM (f+1) (b::r) gs g=(zjM f ((b::r).drop (zlZ (b::r))) gs g).map fun l=>⟨(b::r).take (zlZ (b::r)),false,g⟩::l:=by
 rw[zjM,ae h]
def zk7{r:Bs}(f gs g:Nat):zjM (f+1) (123::r) gs g=if zaM 125 r<r.length/\zb5 (r.take (zaM 125 r)) 20 []=true then(zjM f (r.drop (zaM 125 r+1)) gs g).map fun l=>⟨r.take (zaM 125 r),true,g⟩::l else none:=by
 rw[zjM,aa c_,ae rfl]
def ziE{r:Bs}(f gs g:Nat):zjM (f+1) (91::r) gs g=if g=0 then zjM f r (gs+1) (gs+1)else none:=by
 rw[zjM,aa c_,aa c_];by_cases h:g=0
 .rw[ae ⟨rfl,h⟩,ae h]
 .rw[aa (fun q=>h q.2),aa (fun q=>absurd q.1 c_),aa h]
def ziF{r:Bs}(f gs g:Nat):zjM (f+1) (93::r) gs g=if g=0 then none else zjM f r gs 0:=by
 rw[zjM,aa c_,aa c_,aa (fun q=>absurd q.1 c_)];by_cases h:g=0
 .rw[aa (fun q=>q.2 h),ae h]
 .rw[ae ⟨rfl,h⟩,aa h]
def zk8{r:Bs}(f gs g:Nat):zjM (f+1) (125::r) gs g=none:=by
 rw[zjM,aa c_,aa c_,aa (fun q=>absurd q.1 c_),aa (fun q=>absurd q.1 c_)]
def zeD{b:UInt8}(h:zbN zb0 b=true):b=123\/b=125\/b=91\/b=93:=by
 unfold zbN zb0 at h;simpa using h
def zhV(cs:Bs):∀l:Bs,Lib.indexAny l cs<(l.length:Int)
 | []=>by rw[Lib.indexAny];simp
 | b::l=>by
  have ih:=zhV cs l;rw[Lib.indexAny]
  split
  .simp only[az];omega
  .split
   .simp only[az];omega
   .simp only[az];omega
def zrA{b:UInt8}{r:Bs}(h:zbN zb0 b=true):Lib.indexAny (b::r) zb0=0:=by
 unfold zbN at h;rw[Lib.indexAny,ae h]
def zvZ{b:UInt8}{r:Bs}(h:zbN zb0 b=false):(Lib.indexAny (b::r) zb0 = -1/\zlZ (b::r)=r.length+1)\/(∃k:Nat,Lib.indexAny (b::r) zb0=(k:Int)/\zlZ (b::r)=k/\0<k/\k<=r.length):=by
 have hge:=gM zb0 (b::r);unfold zbN at h;have lV:Lib.indexAny (b::r) zb0≠0:=by
  rw[Lib.indexAny,h];have:=gM zb0 r;simp only[dr,fe]
  split
  .omega
  .rename_i q;rw[gz,ab]at q;omega
 by_cases q:Lib.indexAny (b::r) zb0 = -1
 .refine .inl ⟨q,?_⟩;unfold zlZ;rw[ae a_];simp
 .refine .inr ⟨(Lib.indexAny (b::r) zb0).toNat,a_,?_,a_,?_⟩
  .unfold zlZ;rw[aa a_]
  .have:=zhV zb0 (b::r);simp only[az]at this;omega
def ziG(l:Bs)(w:World)(hl:l.length<=1000000000):Calls prog 41 #[.string (bs l)] w fun e w'=>e=.returned (.bool (lnB l))/\Kept w w':=by
 have HV:=Hd (fun w=>zlX (bs l) w (by simpa using hl));have HC:=Hd (fun w=>fQ (bs l) 10 w);simp only[zfW]at HC;have mA:Hi (decide (0<=Lib.indexByte l 10)=List.contains l 10):=za6 10 l;have HL:Hi (lnB l=(za9 (bs l) && !l.contains 10)):=rfl;generalize lnB l=R at *;generalize za9 (bs l)=V at *;generalize List.contains l 10=C at *;go_in;go_wp2_with fail;refine(HV.o _).mono ?_;rintro e w1 ⟨rfl,n,rfl⟩;cases V with
 | false =>
  go_wp2;go_ret;exact⟨zaY (by rw[HL.o];rfl),zaB _ _⟩
 | true =>
  go_wp2_with fail;refine(HC.o _).mono ?_;rintro e w2 ⟨rfl,rfl⟩;go_wp2;go_ret;exact⟨zaY (by rw[HL.o,<- mA.o,eL];exact congrArg not (ki.2 Iff.rfl)),zaB _ _⟩
def zjN(l more:Bs)(most:Int)(w:World)(hl:l.length<=1000000000):Calls prog 38 #[.string (bs l),.int .i64 most,.string (bs more)] w fun e w'=>e=.returned (.bool (zb5 l most more))/\Kept w w':=by
 have HX:=Hd (fun c w=>iO (bs more) c w);simp only[zfW]at HX;have HF:Hi (∀k (hk:k<l.length),zAB l[k]=false->more.contains l[k]=false->zb5 l most more=false):=by
  intro k hk h1 h2;unfold zb5;have:(l.all fun b=>zAB b || more.contains b)=false:=io.2 ⟨l[k],dm hk,by rw[h1,h2];simp⟩;rw[this];simp
 have HT:Hi ((∀k (hk:k<l.length),zAB l[k]=true\/more.contains l[k]=true)->zb5 l most more=(decide (1<=l.length)&&decide ((l.length:Int)<=most))):=by
  intro h;unfold zb5;have:(l.all fun b=>zAB b || more.contains b)=true:=dn.2 (fun b hb=>by
   obtain⟨k,hk,e⟩:=dZ hb;have:=h k hk;rw[e]at this;rcases this with q|q<;>rw[q]<;>simp)
  rw[this];simp
 by_cases h0:l=[]
 .subst h0;go_in;go_wp2;go_ret;exact⟨rfl,af _⟩
 have h0':(l==([]:Bs))=false:=(by simpa using h0);have hl0:1<=l.length:=(by cases l<;>simp at h0 ⊢);by_cases h1:most<(l.length:Int)
 .have HE:Hi (zb5 l most more=false):=by
   show _=_;unfold zb5;rw[bH (show¬ (l.length:Int)<=most by omega)];simp
  obtain⟨R,HR⟩:=gX (zb5 l most more);rw[HR.o]at HE ⊢;go_in;go_wp2;go_ret;exact⟨zaY HE.o.symm,af _⟩
 have HE:Hi ((∀k (hk:k<l.length),zAB l[k]=true\/more.contains l[k]=true)->zb5 l most more=true):=by
  intro h;rw[HT.o h,bJ hl0,bJ (show(l.length:Int)<=most by omega)];rfl
 obtain⟨R,HR⟩:=gX (zb5 l most more);rw[HR.o]at HE HF ⊢;clear HT HR hl0;go_in;go_wp2_with fail
 go_loop [18] (fun i=>∃k:Nat,k<=l.length/\i=.int .i64 k/\Hi (∀j (hj:j<l.length),j<k->zAB l[j]=true\/more.contains l[j]=true)) (fun i=>l.length - (intOf i).toNat)
 .exact⟨0,ai _,rfl,fun j hj h=>by omega⟩
 case round =>
  obtain⟨k,hk,rfl,HN⟩:=hrel;by_cases kV:k<l.length
  .have i0:=zbL (P:=prog) (t:=9) aq l k kV k rfl;have h8:=zh7 l k;have HB:Hi (at8 l k=(l[k].toNat:Int)):=zbP l k kV;have qD:Hi (zAB l[k]=(decide (97<=at8 l k)&&decide (at8 l k<=122))):=by
    show _=_;rw[zbP l k kV];rfl
   have oU:Hi (decide (0<=Lib.indexByte more (at8 l k).toNat.toUInt8)=more.contains l[k]):=by
    show _=_;rw[HB.o,dH,show(l[k].toNat).toUInt8=l[k]from by simp,za6]
   have qa:=Hd (HF.o k kV);have AZ:Hi ((zAB l[k]=true\/more.contains l[k]=true)->∀j (hj:j<l.length),j<k+1->zAB l[j]=true\/more.contains l[j]=true):=by
    intro h j hj hjk;rcases bG j k with q|q
    .exact HN.o j hj q
    .obtain rfl:j=k:=a_;exact h
   have hge:=gw more (at8 l k).toNat.toUInt8;have tR:=Hd (fun w=>HX.o (at8 l k) w);by_cases hlow:97<=at8 l k/\at8 l k<=122
   .obtain⟨q1,q2⟩:=hlow;have HS:=Hd (AZ.o (.inl (by rw[qD.o,bJ q1,bJ q2];rfl)));have b1:¬ at8 l k<97:=a_;have b2:¬ 122<at8 l k:=a_;generalize at8 l k=b at *;clear AZ qa tR oU hge q1 q2 qD HB;go_wp2_with fail
    go_round
    .exact⟨k+1,a_,by go_num,HS.o⟩
    .simp [intOf];omega
   .have GU:Hi (zAB l[k]=false):=by
     show _=_;rw[qD.o,ja,ee,ee];omega
    have hlow':at8 l k<97\/122<at8 l k:=a_;generalize Lib.indexByte more (at8 l k).toNat.toUInt8=r at *;by_cases hr:0<=r
    .have HS:=Hd (AZ.o (.inr (by rw[<- oU.o];exact bJ hr)));have hr':¬ r<0:=a_;generalize at8 l k=b at *;clear AZ qa oU qD HB GU hlow;by_cases q1:b<97
     .clear hlow';go_wp2_with fail;refine(tR.o _).mono ?_;rintro e w2 ⟨rfl,rfl⟩;go_wp2_with fail
      go_round
      .exact⟨k+1,a_,by go_num,HS.o⟩
      .simp [intOf];omega
     .have q2:122<b:=a_;clear hlow';go_wp2_with fail;refine(tR.o _).mono ?_;rintro e w2 ⟨rfl,rfl⟩;go_wp2_with fail
      go_round
      .exact⟨k+1,a_,by go_num,HS.o⟩
      .simp [intOf];omega
    .have HR:=Hd (qa.o GU.o (by rw[<- oU.o];exact bH hr));have hr':r<0:=a_;generalize at8 l k=b at *;clear AZ qa oU qD HB GU hlow;by_cases q1:b<97
     .clear hlow';go_wp2_with fail;refine(tR.o _).mono ?_;rintro e w2 ⟨rfl,rfl⟩;go_wp2;go_ret;exact⟨zaY HR.o.symm,af _⟩
     .have q2:122<b:=a_;clear hlow';go_wp2_with fail;refine(tR.o _).mono ?_;rintro e w2 ⟨rfl,rfl⟩;go_wp2;go_ret;exact⟨zaY HR.o.symm,af _⟩
  .obtain rfl:k=l.length:=a_;have HR:=Hd (HE.o (fun k hk=>HN.o k hk hk));go_wp2;go_ret;exact⟨zaY HR.o.symm,af _⟩
structure Only (S:Nat->Prop) (w w':World):Prop where
 os:w'.os=w.os
 tape:w'.tape=w.tape
 output:w'.output=w.output
 size:w.heap.size<=w'.heap.size
 block:∀k,k<w.heap.size->¬ S k->w'.heap[k]? = w.heap[k]?
def Only.of_kept{S:Nat->Prop}{w w':World}(h:Kept w w'):Only S w w':=⟨h.os,h.tape,h.output,h.size,fun k hk _=>h.block k hk⟩
def Only.trans{S:Nat->Prop}{a b c:World}(h:Only S a b)(k:Only S b c):Only S a c :=
 ⟨k.os.trans h.os,k.tape.trans h.tape,k.output.trans h.output,bC h.size k.size,fun i hi hs=>(k.block i (aU hi h.size) hs).trans (h.block i hi hs)⟩
def Only.mono{S S':Nat->Prop}{w w':World}(h:Only S w w')(k:∀i,i<w.heap.size->S i->S' i):Only S' w w' :=
 ⟨h.os,h.tape,h.output,h.size,fun i hi hs=>h.block i hi (fun q=>hs (k i hi q))⟩
def Only.kept_trans{S:Nat->Prop}{a b c:World}(h:Kept a b)(k:Only S b c):Only S a c:=(Only.of_kept h).trans k
def Only.grown{w w':World}{row:Option Nat}(h:w.grownBy w' row):Only (fun i=>some i=row) w w':=⟨h.os,h.tape,h.output,h.size,fun k hk hs=>h.block k hk hs⟩
def Only.setCell{w:World}(g o:Nat)(v:Value):Only (fun i=>i=g) w (w.setCell ⟨g,o,none⟩ v) :=
 ⟨rfl,rfl,rfl,by simp [World.setCell],fun k hk hs=>by simp [World.setCell,eu,ke hs]⟩
def Only.below{S:Nat->Prop}{w w':World}{B:Nat}(h:Only S w w')(hB:B<=w.heap.size)(hS:∀i,S i->B<=i):Below B w w' :=
 ⟨h.os,h.tape,h.output,h.size,fun k hk=>h.block k a_ (fun q=>by have:=hS k q;omega)⟩
def Only.cell{S:Nat->Prop}{w w':World}(h:Only S w w')(g o:Nat)(hg:g<w.heap.size)(hs:¬ S g):w'.cell? ⟨g,o,none⟩=w.cell? ⟨g,o,none⟩:=jd (a:=⟨g,o,none⟩) (h.block g hg hs)
def Only.own{S:Nat->Prop}{w w':World}{base:Nat}{e:TypeId}{size:Nat}{v:Value}{n:Nat}{xs:List Value}(h:Only S w w')(ho:w.ownsRow base e size v n xs)(hs:∀g,v.ownBlock=some g->¬ S g):w'.ownsRow base e size v n xs:=by
 obtain⟨h1,h2⟩:=ho;refine⟨h1,?_⟩;rcases h2 with h2|⟨g,lJ,mK,hv,hg,hh,r⟩
 .exact .inl h2
 .have kV:g<w.heap.size:=by
   rcases bG g w.heap.size with q|q
   .exact q
   .rw[bB q]at hh;cases hh
  exact .inr ⟨g,lJ,mK,hv,hg,by rw[h.block g kV (hs g (by rw[hv];rfl))];exact hh,r⟩
def bc:=@Only.of_kept
def bK:=@Only.setCell
def ch:=@Only.grown
def iZ:=@Only.kept_trans
end Go.Proofs.YtnldgmhdjancbaaGreatDoor
