/- Parts. -/
import Derived.Test.YtnldgmhdjancbaaGreatDoorW18
set_option linter.all false
set_option maxRecDepth 100000
set_option maxHeartbeats 51200000
namespace Go.Proofs.YtnldgmhdjancbaaGreatDoor
open Go.RowKit Go.Proofs.Tryz
section
variable {α:Type}{R:(Nat->Prop)->World->List Value->α->Prop}{k:Nat}{A:Nat->Prop}{base:Nat}{e:TypeId}{w:World}{v:Value}{xs:List α}
def zdP{P:Program}(hR:ReadK R){ops:Array Oper}{rest:List Oper}{o:Oper}{a:Act}{Q:Exit->Act->World->Prop}(hgd:o.guard=none)(s x:Operand)(t:TypeId)(ho:o.op=.call { callee:=.builtin .append,args:=#[s,x],argTypes:=#[t,t] })
  (i:TypeInfo) (z:Value) (bytes:Nat) (ht:P.underlying t=some (.slice e)) (hi:P.info? e=some i) (hz:i.zero=some z) (hsize:i.size=k) (hby:i.bytes=bytes) (hzs:z.cells.size=k) (ny:0<k)
  {S:Nat->Prop} {ys:List α} (hs:a.eval s=v) (lc:OutG R k A base e w v xs) (v2:Value) (hx:a.eval x=v2) (hys:RowR S k (R S w) w v2 ys) (hS:∀g,g<w.heap.size->S g->A g/\v.ownBlock≠some g)
  (h63:xs.length+ys.length<=maxLen) (ng:(xs.length+ys.length) * bytes<=140737488355328) (mL:base<=w.heap.size)
  (h:∀v' w',OutG R k A base e w' v' (xs++ys)->w.grownBy w' v.ownBlock->wpList P ops Q rest (a.put o.dst v') w'):wpList P ops Q (o::rest) a w:=by
 obtain⟨css,h1,h2,mQ,h4⟩:=lc;obtain⟨a',c,rfl,hc⟩:=hys.form;obtain⟨css2,k1,k2,k4,k5⟩:=RowR.css ny hys;refine wpList_plain hgd fun _ hK=>zp7 w s x t ho base e i z k bytes ht hi hz hsize hby hzs ny v xs.length css.flatten hs mQ a' ys.length c css2.flatten hx (by rw[zlH css2 k2,k1]) (fun q=>?_) (fun u hu=>?_) h63 ng mL (fun v' w' q1 q2 q3=>hK _ _ (h v' w' ?_ q2))
 .obtain⟨g,o,e,_,_,kR⟩:=k5 q;exact⟨g,o,e,kR⟩
 .obtain⟨cs,hcs,hu⟩:=List.mem_flatten.1 hu;obtain⟨j,hj,rfl⟩:=dZ hcs;exact hR.one (k4 j _ _ (ac hj) (ac a_)) u hu
 .have oN:∀cs x,R (fun g=>A g/\v.ownBlock≠some g) w cs x->R (fun g'=>A g'/\v'.ownBlock≠some g') w' cs x:=fun cs x hx =>
   hR.sam hx (cm (ch q2) (fun g' _ hs q=>hs.2 q.symm)) (fun g' kV hs=>⟨hs.1,fun q=>(q3 g' q).elim (fun r=>hs.2 r) (fun r=>by omega)⟩)
  refine⟨css++css2,by simp [h1,k1],fun cs hcs=>(aV.1 hcs).elim (h2 cs) (k2 cs),?_,fun j cs x hc hx=>?_⟩
  .rw[List.flatten_append,ah];exact q1
  .rcases bG j xs.length with q|q
   .rw[bX a_]at hc hx;exact oN cs x (h4 j cs x hc hx)
   .rw[bp a_]at hc hx;rw[h1]at hc;exact oN cs x (hR.sam (k4 _ cs x hc hx) (fun _ _ _=>rfl) (fun g hg q=>hS g hg q))
end
def Tryz.infoU8:(prog.info? 5).map (fun i=>(i.zero,i.size,i.bytes))=some (some (.int .u8 0),1,1):=g_
def U8K(S:Nat->Prop)(w:World)(cs:List Value)(x:UInt8):Prop:=cs=[.int .u8 (x.toNat:Int)]
def u8K:ReadK U8K:=⟨fun h _ _=>h,fun h u hu=>by rw[h]at hu;simp at hu;subst hu;rfl⟩
def zFm(a:Option Addr)(c:Nat)(w:World):Calls prog 76 #[.slice a 1 c] w fun e w'=>e=.returned (.tuple #[])/\w'=w:=by
 go_in;go_wp2_with fail;go_loopw [2,3] (fun i j wr=>i=.int .i64 0/\j=.int .i64 0/\w=wr) (fun _ _ _=>0)
 .exact⟨rfl,rfl,rfl⟩
 case round =>
  obtain⟨rfl,rfl,rfl⟩:=hrel;go_wp2_with fail
  go_end0
  exact⟨rfl,rfl⟩
def zy8{n:Nat}(h1:1<=n)(h2:n<=26):zeN n=[UInt8.ofNat (96+n)]:=by
 unfold zeN;rw[zdV a_,show(n - 1) / 26=0 by omega,zdD,show 97+(n - 1) % 26=96+n by omega];rfl
def zp8(n:Nat)(h1:1<=n)(h2:n<=26)(w:World):Calls prog 37 #[.int .i64 n] w fun e w'=>e=.returned (.string (bs (zeN n)))/\Kept w w':=by
 obtain⟨i0,hi,mr,mq,mm⟩:=cg Tryz.infoU8;rw[zy8 h1 h2];obtain⟨b,HB⟩:=gX (UInt8.ofNat (96+n));have hbn:Hi (((b.toNat:Nat):Int)=(n:Int)+96):=by
  show _=_;rw[<- HB.o,fo];omega
 rw[HB.o];have w1:(IntKind.u8).wrap ((n:Int) - 1)=(n:Int) - 1:=j_;have w2:(IntKind.u8).wrap (97+((n:Int) - 1))=(n:Int)+96:=j_;have w3:((n:Int) - 1) % 26=(n:Int) - 1:=a_;have w4:((n:Int) - 1) / 26=0:=a_;go_in;go_wp2_with fail;simp only[zd8];go_loopw [0,3] (fun m o wr=>(m=.int .i64 n/\o=.slice none 0 0/\w=wr)\/(m=.int .i64 0/\∃g c,o=.slice (some ⟨g,0,none⟩) 1 c/\g<wr.heap.size/\wr.cell? ⟨g,0,none⟩=some (.int .u8 (b.toNat:Int))/\Hi (Kept w wr))) (fun m _ _=>(intOf m).toNat)
 .exact .inl ⟨rfl,rfl,rfl⟩
 case round =>
  rcases hrel with⟨rfl,rfl,rfl⟩|⟨rfl,g,c,rfl,hg,hc,HK⟩
  .have hn0:(0:Int)<(n:Int):=a_;have ly:=Hd (aI w 5 #[.int .u8 ((n:Int)+96)]);have lH:=Hd (zaA w (.cells #[.int .u8 ((n:Int)+96)] 5));have nS:=Hd (ey U8K 1 (fun _=>False) w.heap.size 5 (w.alloc (.cells #[.int .u8 ((n:Int)+96)] 5)));have hb6:w.heap.size<=(w.alloc (.cells #[.int .u8 ((n:Int)+96)] 5)).heap.size:=lH.o.size;go_wp2_with (at_builtin;refine zeG ?_);refine Hd ?_;refine zaO u8K rfl (.tmp 9) (.tmp 15) 145 rfl i0 _ 1 eN hi mr mq mm rfl a_ d_ nS.o _ [.int .u8 ((n:Int)+96)] b d_ (fun j u hu=>ly.o.cell j u (by rw[<- bE];exact hu)) rfl (by show _=_;rw[hbn.o]) (by unfold maxLen;simp) b_ hb6 _ rfl ?_;intro g7 pR w7 lp lf mB mT;obtain⟨g8,NH,e8,-,-,-,-,NI,hc8,Kv⟩:=lp.at_ 0 b rfl;have hcs:NH=[.int .u8 (b.toNat:Int)]:=Kv;subst hcs;cases e8;have c0:w7.cell? ⟨g7,0,none⟩=some (.int .u8 (b.toNat:Int)):=hc8 0 _ rfl;have mE:Hi (Kept w w7):=lH.o.trans' ((ch lf).below lH.o.size (fun i q=>by cases q));clear lp lf mB NI hc8 Kv ly nS lH;go_wp2;go_roundw
   .exact .inr ⟨by first|rfl|(congr 1;omega)|congr 1,g7,pR,rfl,mT,c0,mE.o⟩
   .first|(simp [intOf];done)|(simp [intOf];omega)
  .have hcv:(convert 145 9 (.slice (some ⟨g,0,none⟩) 1 c)).run prog wr=.ok (.string (bs [b])) wr:=by
    refine iN (P:=prog) wr 145 9 5 ⟨g,0,none⟩ c [b] eN gq aq ?_;intro j hj;have:j=0:=(by simpa using hj);subst this;exact hc
   go_wp2_with fail;refine(zFm (some ⟨g,0,none⟩) c wr).mono ?_;rintro e w8 ⟨rfl,rfl⟩;go_wp2
   (try go_ret)
   exact⟨rfl,HK.o⟩
def zy9(l:List Int):Bs:=l.flatMap zhL
def okR(c:Int):Prop:=0<=c/\c<=1114111/\(c<55296\/57343<c)
def zH3{l:List Int}{k:Nat}{x:Int}(h:l[k]? = some x):zy9 (l.take (k+1))=zy9 (l.take k)++zhL x:=by
 unfold zy9;rw[zaV h,eJ];simp
def zFn(l:List Int):(zy9 l).length<=4 * l.length:=by
 induction l with
 | nil=>exact aw _
 | cons x l ih =>
  unfold zy9 at ih ⊢;rw[dB,ah,az];have:=zpO x;omega
def zFo(c:Int):0<(zhL c).length:=by
 show 0<(Utf8.encode c).size;unfold Utf8.encode;simp only
 repeat' split
 all_goals simp [ByteArray.size]
def zCx(w:World)(l:Bs)(hl:0<l.length):RowR (fun g=>g=w.heap.size) 1 (U8K (fun g=>g=w.heap.size) (w.alloc (.cells (zjT l).toArray 5))) (w.alloc (.cells (zjT l).toArray 5)) (.slice (some ⟨w.heap.size,0,none⟩) l.length l.length) l:=by
 refine⟨_,_,rfl,aw _,fun _=>⟨w.heap.size,0,rfl,(aI w 5 (zjT l).toArray).lt,rfl,fun j x hx=>⟨[.int .u8 (x.toNat:Int)],rfl,fun i u hu=>?_,rfl⟩⟩⟩;cases i with
 | zero =>
  cases hu;obtain⟨hj,rfl⟩:=ak.1 hx;exact(aI w 5 (zjT l).toArray).cell _ _ (by simp [zjT,ac hj])
 | succ i=>simp at hu
def zzA(A:Nat->Prop)(B:Nat)(v:Value)(l:List Int)(w:World)(hv:OutG IntK 1 A B 3 w v l)(hl:l.length<=100000)(mn:∀x∈l,okR x):Calls prog 180 #[v] w fun e w'=>e=.returned (.string (bs (zy9 l)))/\Kept w w':=by
 obtain⟨i0,hi,mr,mq,mm⟩:=cg Tryz.infoU8;have HV:=Hd hv;have pM:=Hd mn;obtain⟨a,c,rfl,hc,hm⟩:=hv.form;have FT:=Hd (fun(x:Int) w' (h:okR x)=>zr8 x w' h.1 h.2.1 h.2.2);unfold BytesPost at FT;obtain⟨R,HR⟩:=gX (zy9 l);rw[HR.o];clear hv mn;go_in;go_wp2_with fail;simp only[zd8];go_loopw [3,8] (fun o i wr=>∃k:Nat,k<=l.length/\i=.int .i64 k/\Hi (OutG U8K 1 (fun _=>True) w.heap.size 5 wr o (zy9 (l.take k)))/\Hi (Kept w wr)) (fun _ i _=>l.length - (intOf i).toNat)
 .exact⟨0,ai _,rfl,ey _ _ _ _ _ _,af _⟩
 case round =>
  obtain⟨k,hk,rfl,HG,kO⟩:=hrel;by_cases kV:k<l.length
  .obtain⟨x,hx⟩:∃x,l[k]? = some x:=⟨_,ac kV⟩;obtain⟨g,cs,rfl,hbg,hg,-,-,nf,hcs,hcw⟩:=(HV.o.kept zIS kO.o).at_ k x hx;have wt:cs=[.int .i64 x]:=hcw;subst wt;have d0:=hcs 0 _ rfl;rw[fk,dl]at d0;have ua:=Hd (pM.o x (am hx));have HT:=Hd (zH3 hx);have Iq:Hi (0<(zhL x).length/\(zhL x).length<=4):=⟨zFo x,zpO x⟩;have htl:(zy9 (l.take k)).length<=400000:=(by have:=zFn (l.take k);rw[bw]at this;omega);have ma:=Hd (FT.o x wr ua.o);obtain⟨ar,cr,rfl,hcr,hmr⟩:=HG.o.form;obtain⟨us,nY⟩:=gX (zy9 (l.take k));rw[nY.o]at HG HT htl hcr;rw[nY.o];obtain⟨E,HE⟩:=gX (zhL x);rw[HE.o]at ma HT Iq;clear hx hcs nf hcw ua nY HE;go_wp2_with fail;refine ma.o.mono ?_;rintro e w2 ⟨rfl,rfl⟩;have kZ:=Hd (zaA wr (.cells (zjT E).toArray 5));have HG2:=Hd (HG.o.kept u8K kZ.o);have HRW:=Hd (zCx wr E Iq.o.1);have hb6:w.heap.size<=(wr.alloc (.cells (zjT E).toArray 5)).heap.size:=(kO.o.trans kZ.o).size;have hel:=Iq.o.2;go_wp2_with (at_builtin;refine zeG ?_);refine Hd ?_;refine zdP u8K rfl (.tmp 12) (.tmp 14) 145 rfl i0 _ 1 eN hi mr mq mm rfl a_ d_ HG2.o _ d_ HRW.o (fun g hg q=>⟨trivial,fun r=>by have:=(HG.o.blk g r).2;omega⟩) h_ a_ hb6 ?_;intro v7 w7 lp lf;obtain⟨a7,c7,rfl,-,-⟩:=lp.form;rw[ah]at lp;have mi:Hi (OutG U8K 1 (fun _=>True) w.heap.size 5 w7 (.slice a7 (us.length+E.length) c7) (zy9 (l.take (k+1)))):=(by rw[HT.o];exact lp);have mE:Hi (Kept w w7):=(kO.o.trans kZ.o).trans' ((ch lf).below (kO.o.trans kZ.o).size (fun i q=>(HG2.o.blk i q.symm).1));clear lp lf HG HG2 HRW kZ kO hb6;go_wp2;go_roundw
   .exact⟨k+1,a_,by go_num,mi.o,mE.o⟩
   .simp [intOf];omega
  .obtain rfl:k=l.length:=a_;rw[bi]at HG;rw[HR.o]at HG;clear HR;obtain⟨ar,cr,rfl,hcr,hmr⟩:=HG.o.form;have hcv:(convert 145 9 (.slice ar R.length cr)).run prog wr=.ok (.string (bs R)) wr:=by
    cases R with
    | nil =>
     rcases ar with _|g
     .exact run_convert_bytes_nil wr 145 5 eN gq 0 cr 9 aq
     .exact iN (P:=prog) wr 145 9 5 g cr [] eN gq aq (fun j hj=>by cases hj)
    | cons u us =>
     obtain⟨g,cs,rfl,-,-,-,-,-,-,-⟩:=HG.o.at_ 0 u rfl;refine iN (P:=prog) wr 145 9 5 ⟨g,0,none⟩ cr (u::us) eN gq aq ?_;intro j hj;obtain⟨g',cs',e',-,-,-,-,-,hcs',wt⟩:=HG.o.at_ j ((u::us)[j]'hj) (ac hj);cases e';have h2:cs'=[.int .u8 (((u::us)[j]'hj).toNat:Int)]:=wt;subst h2;have:=hcs' 0 _ rfl;rw[fk,dl]at this
     first|(rw[zfJ,bP];exact this)|(simpa [Addr.add]using this)
   clear HG;go_wp2
   (try go_ret)
   exact⟨rfl,kO.o⟩
def zjD:Bool->List Int->List Int->List Int
 | _,o,[]=>o
 | g,o,c::r=>if zIW c=true then zjD true o r else zjD false ((if g=true/\o≠[]then o++[32]else o)++[zAi c]) r
def zzB(s:Bs):Bs:=zy9 (zjD false [] (zeP s))
def zH4{c:Int}(h:okR c):okR (zAi c):=by
 unfold okR at *;unfold zAi
 split
 .omega
 .split<;>omega
def zp9:∀(l:List Int) (g:Bool) (o:List Int),(∀x∈l,okR x)->(∀x∈o,okR x)->(∀x∈zjD g o l,okR x)/\(zjD g o l).length<=o.length+2 * l.length
 | [],g,o,_,h=>⟨h,aw _⟩
 | c::r,g,o,hl,ho=>by
  unfold zjD;have hc:=hl c (bI ..);have hr:∀x∈r,okR x:=fun x hx=>hl x (bl _ hx)
  split
  .obtain⟨h1,h2⟩:=zp9 r true o hr ho;exact⟨h1,by rw[az];omega⟩
  .have h32:okR 32:=(by unfold okR;omega);obtain⟨h1,h2⟩:=zp9 r false ((if g=true/\o≠[]then o++[32]else o)++[zAi c]) hr (by
    intro x hx;rcases aV.1 hx with hx|hx
    .split at hx
     .rcases aV.1 hx with hx|hx
      .exact ho x hx
      .rw[bu.1 hx];exact h32
     .exact ho x hx
    .rw[bu.1 hx];exact zH4 hc)
   refine⟨h1,bC h2 ?_⟩;rw[ah,az,az]
   split
   .rw[ah];simp;omega
   .simp;omega
def zzC(s:Bs)(w:World)(hs:s.length<=10000):Calls prog 144 #[.string (bs s)] w fun e w'=>e=.returned (.string (bs (zzB s)))/\Kept w w':=by
 obtain⟨i1,hj,hy0,hy1,hy2⟩:=cg Tryz.infoInt;have mh:(zcS (bs s)).length<=s.length:=(by have:=zoZ (bs s) 0;unfold zcS;simpa using this);have CM:Hi (∀p∈zcS (bs s),okR p.1):=fun p hp=>zsD s p.1 (jw hp);have uG:Hi (∀l:List Int,zjD false [] ((zcS (bs s)).map (·.1))=l->zzB s=zy9 l):=fun l h=>(by unfold zzB zeP;rw[h]);have pM:Hi ((∀x∈zjD false [] ((zcS (bs s)).map (·.1)),okR x)/\(zjD false [] ((zcS (bs s)).map (·.1))).length<=2 * (zcS (bs s)).length):=by
  have h:=zp9 ((zcS (bs s)).map (·.1)) false [] (fun x hx=>by obtain⟨p,hp,rfl⟩:=bQ.1 hx;exact CM.o p hp) (fun x hx=>by cases hx);exact⟨h.1,by have:=h.2;simpa using this⟩
 obtain⟨FL,qh⟩:∃z,Hi (zzB s=z):=⟨_,rfl⟩;rw[qh.o]at uG ⊢;go_in;go_wp2_with fail;refine(znX (bs s) _ e_).mono ?_;rintro e w1 ⟨v,rfl,lc,hk⟩;generalize zcS (bs s)=P at *;obtain⟨a,c,rfl,h1,h2,h3⟩:=zaZ lc;have H3:=Hd h3;have lG:=Hd (znW P);have HK:=Hd hk;obtain⟨R,HR⟩:=gX (zjD false [] (P.map (·.1)));have qe:=Hd (uG.o R HR.o);rw[HR.o]at pM;clear h3 hk lc uG qh;go_wp2_with fail
 (try simp only[zd8])
 go_loopw [3,4,10] (fun ov gv i wr=>∃(k:Nat) (g:Bool) (o:List Int),k<=P.length/\i=.int .i64 k/\gv=.bool g/\o.length<=2 * k/\Hi (zjD g o ((P.drop k).map (·.1))=R)/\Hi (OutG IntK 1 (fun _=>False) w1.heap.size 3 wr ov o)/\Hi (Kept w1 wr)) (fun _ _ i _=>P.length - (intOf i).toNat)
 .exact⟨0,false,[],ai _,rfl,rfl,aw _,HR.o,ey _ _ _ _ _ _,af _⟩
 case round =>
  clear HR;obtain⟨k,gp,o,hk,rfl,rfl,hol,HN,ug,kO⟩:=hrel;by_cases kV:k<P.length
  .obtain⟨p,hp⟩:∃p,P[k]? = some p:=⟨_,ac kV⟩;obtain⟨g,rfl,_,hg,kR⟩:=H3.o a_;obtain⟨c0,c1⟩:=lG.o k p hp;have d0:wr.cell? ⟨g,k * 2,none⟩=some (.int .i64 p.1):=(kO.o.cell (p:=⟨g,k * 2,none⟩) hg).trans (kR _ _ (by rw[iU];exact c0));have d1:wr.cell? ⟨g,k * 2+1,none⟩=some (.int .i64 p.2):=(kO.o.cell (p:=⟨g,k * 2+1,none⟩) hg).trans (kR _ _ (by rw[iU];exact c1));have HM:Hi ((P.drop k).map (·.1)=p.1::(P.drop (k+1)).map (·.1)):=by
    obtain⟨hk',rfl⟩:=ak.1 hp;show _=_;rw[aJ hk',bd]
   have qc:Hi ((if zIW p.1=true then zjD true o ((P.drop (k+1)).map (·.1))else zjD false ((if gp=true/\o≠[]then o++[32]else o)++[zAi p.1]) ((P.drop (k+1)).map (·.1)))=R):=by
    show _=_;rw[<- HN.o,HM.o];rfl
   have hgr:g<wr.heap.size:=(by have:=kO.o.size;omega);obtain⟨ar,cr,rfl,hcr,hmr⟩:=ug.o.form;clear kR hp c0 c1 HN HM;obtain⟨x,n⟩:=p;simp only at d0 d1 qc;have HD:=Hd (aI wr 130 #[.int .i64 x,.int .i64 n]);have lj:=zaA wr (.cells #[.int .i64 x,.int .i64 n] 130);have ug:=Hd (ug.o.kept zIS lj);have kO:=Hd (kO.o.trans lj);clear lj;go_upto_region 6 with fail;generalize wr.alloc _=w0 at *;generalize wr.heap.size=D at *;have c0:=HD.o.cell 0 _ rfl;have cz:=HD.o.lt;clear d0 d1 hgr;go_wp2_with fail;refine(zuX x _).mono ?_;rintro e wy ⟨rfl,rfl⟩;cases hsp:zIW x with
   | true =>
    rw[ae hsp]at qc;go_wp2;go_roundw
    .exact⟨k+1,true,o,a_,by go_num,rfl,a_,qc.o,ug.o,kO.o⟩
    .simp [intOf];omega
   | false =>
    rw[aa (by rw[hsp];simp)]at qc;have Ir:Hi (∀us:List Int,(if gp=true/\o≠[]then o++[32]else o)=us->zjD false (us++[zAi x]) ((P.drop (k+1)).map (·.1))=R):=fun us h=>(by rw[<- h];exact qc.o);clear qc;rcases(show gp=false\/(gp=true/\o=[])\/(gp=true/\o≠[])by cases gp<;>by_cases q:o=[]<;>simp [q])with rfl|⟨rfl,rfl⟩|⟨rfl,ho⟩
    case' inl =>
     have qc:=Hd (Ir.o o (aa b_));obtain⟨us,nY⟩:∃us,us=o:=⟨_,rfl⟩;subst nY;obtain⟨wz,rJ⟩:∃x,x=w0:=⟨_,rfl⟩;subst rJ;have mN:us.length<=2 * k+1:=a_;go_wp2_with fail
    case' inr.inl =>
     obtain⟨us,nY⟩:∃us:List Int,Hi (([]:List Int)=us):=⟨[],rfl⟩;have qc:=Hd (Ir.o us ((aa b_).trans nY.o));have DW:Hi (OutG IntK 1 (fun _=>False) w1.heap.size 3 w0 (.slice ar 0 cr) us):=(by have h:=ug.o;obtain rfl:=nY.o;exact h);have mN:us.length<=2 * k+1:=(by rw[<- nY.o];simp);rw[cj];clear ug;have ug:=DW;clear DW nY;obtain⟨wz,rJ⟩:∃x,x=w0:=⟨_,rfl⟩;subst rJ;go_wp2_with fail
    case' inr.inr =>
     have NJ:(0:Int)<(o.length:Int):=(by have:=eI.2 ho;omega);have ly:=Hd (aI w0 3 #[.int .i64 32]);have kZ:=Hd (zaA w0 (.cells #[.int .i64 32] 3));have nS:=Hd (ug.o.kept zIS kZ.o);have oa:=Hd (kO.o.trans kZ.o);have zZ:=Hd (HD.o.kept kZ.o);have hb6:w1.heap.size<=(w0.alloc (.cells #[.int .i64 32] 3)).heap.size:=oa.o.size;go_wp2_with (at_builtin;refine zeG ?_);refine Hd ?_;refine zaO zIS rfl (.tmp 23) (.tmp 24) 178 rfl i1 _ 8 ew hj hy0 hy1 hy2 rfl a_ d_ nS.o _ [.int .i64 32] 32 d_ (fun j u hu=>ly.o.cell j u (by rw[<- bE];exact hu)) rfl rfl h_ a_ hb6 _ rfl ?_;intro g7 pR w7 lp lf mB mT;obtain⟨us,nY⟩:∃us:List Int,Hi (o++[32]=us):=⟨o++[32],rfl⟩;have qc:=Hd (Ir.o us ((ae ⟨by trivial,ho⟩).trans nY.o));have hle:o.length+1=us.length:=(by rw[<- nY.o,ah];rfl);have mN:us.length<=2 * k+1:=a_;rw[nY.o,hle]at lp;rw[hle];have Kw:=Hd (zZ.o.onl (ch lf) (fun q=>jk nS.o zZ.o c_ q.symm));have mE:Hi (Kept w1 w7):=oa.o.trans' ((ch lf).below oa.o.size (fun i q=>(nS.o.blk i q.symm).1));clear HD ug kO ly kZ nS oa zZ hb6 lf mB mT NJ ho hle;have ug:=Hd lp;have kO:=mE;have HD:=Kw;clear lp mE Kw c0 cz;obtain⟨wz,rJ⟩:∃x,x=w7:=⟨_,rfl⟩;subst rJ;have c0:=HD.o.cell 0 _ rfl;have cz:=HD.o.lt;go_wp2_with fail
    all_goals
     refine(zuZ x _).mono ?_;rintro e wy ⟨rfl,rfl⟩;obtain⟨y,HY⟩:=gX (zAi x);rw[HY.o]at qc ⊢;have ly:=Hd (aI wz 3 #[.int .i64 y]);have kZ:=Hd (zaA wz (.cells #[.int .i64 y] 3));have nS:=Hd (ug.o.kept zIS kZ.o);have oa:=Hd (kO.o.trans kZ.o);have hb6:w1.heap.size<=(wz.alloc (.cells #[.int .i64 y] 3)).heap.size:=oa.o.size;clear c0 cz;go_wp2_with (at_builtin;refine zeG ?_);refine Hd ?_;refine zaO zIS rfl (.tmp 26) (.tmp 30) 178 rfl i1 _ 8 ew hj hy0 hy1 hy2 rfl a_ d_ nS.o _ [.int .i64 y] y d_ (fun j u hu=>ly.o.cell j u (by rw[<- bE];exact hu)) rfl rfl h_ a_ hb6 _ rfl ?_;intro g8 QM w8 pC wu Is It;have sY:=Hd pC;have pk:Hi (Kept w1 w8):=oa.o.trans' ((ch wu).below oa.o.size (fun i q=>(nS.o.blk i q.symm).1));clear pC wu Is It ly kZ nS oa hb6 ug HD;go_wp2;go_roundw
     .exact⟨k+1,false,us++[y],a_,by go_num,rfl,by(rw[ah];simp;omega),qc.o,sY.o,pk.o⟩
     .simp [intOf];omega
  .obtain rfl:k=P.length:=a_;obtain rfl:o=R:=(by have:=HN.o;rw[du]at this;exact this);have pI:=Hd (zzA (fun _=>False) w1.heap.size _ o wr ug.o (by have:=pM.o.2;omega) pM.o.1);obtain⟨ar,cr,rfl,hcr,hmr⟩:=ug.o.form;go_wp2_with fail;refine k_ pI.o fun w9 pD=>?_;have pm:=Hd ((HK.o.trans kO.o).trans pD);clear pD pI;go_wp2
   (try go_ret)
   exact⟨by rw[qe.o];rfl,pm.o⟩
def zGA:Bs:=[32,45,95,46,58]
def zFp(s:Bs)(i:Nat):Bool:=if i<s.length then(zIX (dec (bs s) i).1 || zGz (dec (bs s) i).1 || zk2 [s.getD i 0] zGA)&&zFp s (i+(dec (bs s) i).2.toNat)else true
termination_by s.length - i
decreasing_by have:=(zaX (bs s) i (by simpa using ‹i<s.length›)).2.2.1;omega
def zgW(s:Bs):Bool:=decide (1<=s.length)&&decide (s.length<=60)&&(zzB s==s)&&zFp s 0
def zm4(s:Bs)(w:World)(hs:s.length<=1100000):Calls prog 108 #[.string (bs s)] w fun e w'=>e=.returned (.bool (zgW s))/\Kept w w':=by
 obtain⟨R,HR⟩:=gX (zgW s);rw[HR.o];unfold zgW at HR;by_cases h1:s.length<1
 .have HV:Hi (R=false):=(by show _=_;rw[<- HR.o,bH a_];rfl);clear HR;go_in;go_wp2
  (try go_ret)
  exact⟨by rw[HV.o];rfl,af _⟩
 by_cases h2:60<s.length
 .have HV:Hi (R=false):=(by show _=_;rw[<- HR.o,bH (show¬ s.length<=60 by omega),gm];rfl);clear HR;go_in;go_wp2
  (try go_ret)
  exact⟨by rw[HV.o];rfl,af _⟩
 rw[bJ (show 1<=s.length by omega),bJ (show s.length<=60 by omega),eL,eL]at HR;have Kx:=Hd (zzC s w a_);have om:=Hd (fun(i:Nat) w' (h:i<s.length)=>zD2 s i w' hs h);have rr:=Hd (fun(c:Int) w'=>zsX c w');have NK:=Hd (fun(c:Int) w'=>zuY c w');have sM:Hi (∀(b:UInt8) w',Calls prog 143 #[.string (bs [b]),.string (bs zGA)] w' fun e w''=>e=.returned (.bool (zk2 [b] zGA))/\Kept w' w''):=fun b w'=>zgU [b] zGA w' b_ c_;obtain⟨hY,oX⟩:∃f:UInt8->Bool,Hi (∀b,zk2 [b] zGA=f b):=⟨fun b=>zk2 [b] zGA,fun _=>rfl⟩;have sM:Hi (∀(b:UInt8) w',Calls prog 143 #[.string (bs [b]),.string (bs zGA)] w' fun e w''=>e=.returned (.bool (hY b))/\Kept w' w''):=fun b w'=>(by rw[<- oX.o];exact sM.o b w');unfold zGA at sM;go_in;go_wp2_with fail;refine k_ Kx.o fun w1 ld=>?_;have kT:=Hd ld;clear ld Kx;cases hf:(zzB s==s)with
 | false =>
  have HV:Hi (R=false):=(by show _=_;rw[<- HR.o,hf];rfl);go_wp2
  (try go_ret)
  exact⟨by rw[HV.o];rfl,kT.o⟩
 | true =>
  rw[hf,eL]at HR;go_wp2_with fail;go_loopw [3] (fun i wr=>∃k:Nat,k<=s.length/\i=.int .i64 k/\Hi (zFp s k=R)/\Hi (Kept w wr)) (fun i _=>s.length - (intOf i).toNat)
  .exact⟨0,ai _,rfl,HR.o,kT.o⟩
  case round =>
   clear HR kT hf;obtain⟨k,hk,rfl,HG,kO⟩:=hrel;by_cases kV:k<s.length
   .have hb:=zaX (bs s) k (by simpa using kV);rw[zdZ]at hb;have HN:=Hd (om.o k wr kV);have tE:Hi (((zIX (dec (bs s) k).1 || zGz (dec (bs s) k).1 || hY (s.getD k 0))&&zFp s (k+(dec (bs s) k).2.toNat))=R):=by
     show _=_;rw[<- oX.o,<- HG.o];conv=>rhs;rw[zFp,ae kV]
    have sl:=zgI (P:=prog) (t:=9) aq s k (k+1) a_ a_ k (k+1) rfl a_ [s.getD k 0] (by rw[zoW s k kV,cd,ac kV];rfl);generalize dec (bs s) k=d at *;obtain⟨c,n⟩:=d;simp only at hb HN tE;have hn1:1<=n:=hb.2.2.1;have hn2:(k:Int)+n<=s.length:=(by have:=hb.2.2.2.2;omega);obtain⟨m,rfl⟩:∃m:Nat,n=(m:Int):=⟨n.toNat,a_⟩;have hmm:((m:Nat):Int).toNat=m:=a_;rw[hmm]at tE;generalize s.getD k 0=b at *;clear HG hb hmm;go_wp2_with fail;refine k_ HN.o fun w2 ll=>?_;have kX:=Hd (kO.o.trans ll);clear ll HN kO;go_wp2_with fail;refine k_ (rr.o c _) fun w3 li=>?_;have lq:=Hd (kX.o.trans li);clear li kX;cases hl:zIX c with
    | true =>
     have HG2:Hi (zFp s (k+m)=R):=(by show _=_;rw[<- tE.o,hl];simp);go_wp2;go_roundw
     .exact⟨k+m,a_,by go_num,HG2.o,lq.o⟩
     .simp [intOf];omega
    | false =>
     go_wp2_with fail;refine(NK.o c _).mono ?_;rintro e w4 ⟨rfl,rfl⟩;cases hd:zGz c with
     | true =>
      have HG2:Hi (zFp s (k+m)=R):=(by show _=_;rw[<- tE.o,hl,hd];simp);go_wp2;go_roundw
      .exact⟨k+m,a_,by go_num,HG2.o,lq.o⟩
      .simp [intOf];omega
     | false =>
      go_wp2_with fail;refine k_ (sM.o b _) fun w5 lU=>?_;have lX:=Hd (lq.o.trans lU);clear lU lq;cases hh:hY b with
      | true =>
       have HG2:Hi (zFp s (k+m)=R):=(by show _=_;rw[<- tE.o,hl,hd,hh];simp);go_wp2;go_roundw
       .exact⟨k+m,a_,by go_num,HG2.o,lX.o⟩
       .simp [intOf];omega
      | false =>
       have HV:Hi (R=false):=(by show _=_;rw[<- tE.o,hl,hd,hh];rfl);go_wp2
       (try go_ret)
       exact⟨by rw[HV.o];rfl,lX.o⟩
   .obtain rfl:k=s.length:=a_;have HV:Hi (R=true):=(by show _=_;rw[<- HG.o,zFp,aa kV]);go_wp2
    (try go_ret)
    exact⟨by rw[HV.o];rfl,kO.o⟩
def OkX(x:Inl):Prop:=((x.text.length<=900000000/\(x.kind≠1->x.text.length<=1000000))/\x.dest.length<=1000000/\x.title.length<=1000000/\x.id.length<=1000000)/\(x.cls.length<=1000/\x.prs.length<=1000/\x.args.length<=1000/\x.cits.length<=1000)/\(∀s∈x.cls,s.length<=1000000)/\(∀p∈x.prs,p.1.length<=1000000/\p.2.length<=1000000)/\(∀s∈x.args,s.length<=1000000)/\∀c∈x.cits,c.key.length<=1000000/\c.pre.length<=1000000/\c.suf.length<=1000000
def ParX(S:Nat->Prop)(n:Nat)(w:World)(vC vP vA vT vK:Value)(x:Inl):Prop:=Strs w vC x.cls/\Prs w vP x.prs/\Strs w vA x.args/\Cits S w vT x.cits/\Lns S n w vK x.kids
def ParX.kept{S:Nat->Prop}{n:Nat}{w w':World}{vC vP vA vT vK:Value}{x:Inl}(h:ParX S n w vC vP vA vT vK x)(k:Kept w w'):ParX S n w' vC vP vA vT vK x:=⟨h.1.kept k,h.2.1.kept k,h.2.2.1.kept k,h.2.2.2.1.sam (cU k) (fun _ _ q=>q),h.2.2.2.2.kept k⟩
def zCy(kL:Int)(kN kP title id:Bs)(cls:List Bs)(prs:List Pr)(kM:List Inl):Int:=if kN≠[]/\(kP≠[]\/title≠[])then 5 else if kN≠[]/\zgW kN=false then 6 else if lnB kP=false\/lnB title=false then 17 else if kL=9/\zeO false kM=true then 5 else if kL=10 then atE id cls prs else 0
def zzD(x:Inl):Int:=zCy x.kind x.text x.dest x.title x.id x.cls x.prs x.kids
def zzE(S:Nat->Prop)(n:Nat)(x:Inl)(vC vP vA vT vK:Value)(w:World)(hp:ParX S n w vC vP vA vT vK x)(mn:OkX x)(ld:x.kind≠1)(hd:(zaD x.kids).length<=1000000):Calls prog 208 #[.agg (zn8 x vC vP vA vT vK).toArray] w fun e w'=>e=.returned (.int .i64 (zzD x))/\Kept w w':=by
 obtain⟨kL,kN,kP,title,id,cls,prs,args,kQ,kM⟩:=x;have sc:=Hd hp;obtain⟨hC,hP,hA,hT,hK⟩:=hp;simp only[Inl.kind,Inl.text,Inl.dest,Inl.title,Inl.id,Inl.cls,Inl.prs,Inl.args,Inl.cits,Inl.kids]at hC hP hA hT hK;obtain⟨aC,cC,rfl,lC⟩:=hC.form;obtain⟨aP,cP,rfl,lP⟩:=hP.form;obtain⟨aA,cA,rfl,lA⟩:=hA.form;obtain⟨aT,cT,rfl,lT⟩:=ge hT;obtain⟨aK,cK,rfl,lK⟩:=hK.form;obtain⟨⟨o1,o2,o3,o4⟩,⟨o5,o6,o7,o8⟩,o9,qS,qX,sg⟩:=mn;simp only[Inl.kind,Inl.text,Inl.dest,Inl.title,Inl.id,Inl.cls,Inl.prs,Inl.args,Inl.cits,Inl.kids]at o1 o2 o3 o4 o5 o6 o7 o8 o9 qS qX sg;have o1:=o1.2 ld;clear ld;have kZ:=Hd (zaA w (.cells #[.int .i64 kL,.string (bs kN),.string (bs kP),.string (bs title),.string (bs id),.slice aC cls.length cC,.slice aP prs.length cP,.slice aA args.length cA,.slice aT kQ.length cT,.slice aK kM.length cK] 65));have HD:=Hd (aI w 65 #[.int .i64 kL,.string (bs kN),.string (bs kP),.string (bs title),.string (bs id),.slice aC cls.length cC,.slice aP prs.length cP,.slice aA args.length cA,.slice aT kQ.length cT,.slice aK kM.length cK]);have pd:=Hd (fun(s:Bs) w' (h:s.length<=1100000)=>zdN s w' a_);have zC:=Hd (fun(s:Bs) w' (h:s.length<=1100000)=>zm4 s w' h);have Gd:Hi (∀w',Kept (w.alloc (.cells #[.int .i64 kL,.string (bs kN),.string (bs kP),.string (bs title),.string (bs id),.slice aC cls.length cC,.slice aP prs.length cP,.slice aA args.length cA,.slice aT kQ.length cT,.slice aK kM.length cK] 65)) w'->Calls prog 137 #[.slice aK kM.length cK,.bool false] w' fun e w''=>e=.returned (.bool (zeO false kM))/\Kept w' w''):=fun w' k=>zmZ S false n kM _ w' (hK.kept (kZ.o.trans k)) hd;have qP:Hi (∀w',Kept (w.alloc (.cells #[.int .i64 kL,.string (bs kN),.string (bs kP),.string (bs title),.string (bs id),.slice aC cls.length cC,.slice aP prs.length cP,.slice aA args.length cA,.slice aT kQ.length cT,.slice aK kM.length cK] 65)) w'->Calls prog 106 #[.agg #[.string (bs id),.slice aC cls.length cC,.slice aP prs.length cP]] w' fun e w''=>e=.returned (.int .i64 (atE id cls prs))/\Kept w' w''):=fun w' k=>zf2 id cls prs _ _ w' (hC.kept (kZ.o.trans k)) (hP.kept (kZ.o.trans k)) a_ o5 o6 (fun s hs=>by have:=o9 s hs;omega) (fun p hp=>by have:=qS p hp;omega);obtain⟨R,HR⟩:=gX (zCy kL kN kP title id cls prs kM);rw[show zzD (.mk kL kN kP title id cls prs args kQ kM)=R from HR.o];unfold zCy at HR;unfold zn8;simp only[Inl.kind,Inl.text,Inl.dest,Inl.title,Inl.id];clear sc hC hP hA hT hK;go_in;go_upto_region 1 with fail;generalize w.alloc _=w0 at *;generalize w.heap.size=D at *;have c1:=HD.o.cell 1 _ rfl;have c2:=HD.o.cell 2 _ rfl;have c3:=HD.o.cell 3 _ rfl;have cz:=HD.o.lt;rcases(show kN=[]\/(kN≠[]/\kP≠[])\/(kN≠[]/\kP=[]/\title≠[])\/(kN≠[]/\kP=[]/\title=[])by
  by_cases a:kN=[]<;>by_cases b:kP=[]<;>by_cases d:title=[]<;>simp [a,b,d])with hx0|⟨h1,h2⟩|⟨h1,hd0,h2⟩|⟨h1,hd0,ht0⟩
 case' inl =>
  have b1:(kN==[])=true:=(by rw[bh];exact hx0);have HR:Hi ((if lnB kP=false\/lnB title=false then 17 else if kL=9/\zeO false kM=true then 5 else if kL=10 then atE id cls prs else 0)=R):=(by have h:=HR.o;rw[aa (fun q=>q.1 hx0),aa (fun q=>q.1 hx0)]at h;exact h);obtain⟨wz,rJ⟩:∃x,x=w0:=⟨_,rfl⟩;have oh:Hi (Kept w0 wz):=(by rw[rJ];exact af _);go_upto_region 5 with fail;rw[<- rJ];clear rJ
 case' inr.inl =>
  have b1:(kN==[])=false:=(by rw[ab];exact h1);have b2:(kP==[])=false:=(by rw[ab];exact h2);have kS:Hi (R=5):=(by(show _=_;rw[<- HR.o];rw[ae ⟨h1,.inl h2⟩]));go_wp2
  (try go_ret)
  exact⟨by rw[kS.o];rfl,kZ.o.trans (af _)⟩
 case' inr.inr.inl =>
  have b1:(kN==[])=false:=(by rw[ab];exact h1);have b2:(title==[])=false:=(by rw[ab];exact h2);have b3:(kP==[])=true:=(by rw[bh];exact hd0);have kS:Hi (R=5):=(by(show _=_;rw[<- HR.o];rw[ae ⟨h1,.inr h2⟩]));go_wp2
  (try go_ret)
  exact⟨by rw[kS.o];rfl,kZ.o.trans (af _)⟩
 case' inr.inr.inr =>
  have b1:(kN==[])=false:=(by rw[ab];exact h1);have b2:(kP==[])=true:=(by rw[bh];exact hd0);have b3:(title==[])=true:=(by rw[bh];exact ht0);go_wp2_with fail;refine(zC.o kN _ a_).mono ?_;rintro e wz ⟨rfl,hkz⟩;have oh:=Hd hkz;clear hkz;by_cases hlb:zgW kN=false
  .rw[hlb];have kS:Hi (R=6):=(by(show _=_;rw[<- HR.o];rw[aa (fun q=>q.2.elim (fun r=>r hd0) (fun r=>r ht0)),ae ⟨h1,hlb⟩]));go_wp2
   (try go_ret)
   exact⟨by rw[kS.o];rfl,kZ.o.trans oh.o⟩
  have Iu:zgW kN=true:=(by simpa using hlb);have HR:Hi ((if lnB kP=false\/lnB title=false then 17 else if kL=9/\zeO false kM=true then 5 else if kL=10 then atE id cls prs else 0)=R):=(by have h:=HR.o;rw[aa (fun q=>q.2.elim (fun r=>r hd0) (fun r=>r ht0)),aa (fun q=>hlb q.2)]at h;exact h);rw[Iu];clear b2 b3 hd0 ht0 hlb;go_upto_region 5 with fail
 all_goals
  clear c1 c2 c3 cz;have c2:=(HD.o.kept oh.o).cell 2 _ rfl;have cz:=(HD.o.kept oh.o).lt;go_wp2_with fail;refine(pd.o kP _ a_).mono ?_;rintro e w5 ⟨rfl,lU⟩;have lX:=Hd (oh.o.trans lU);clear lU;clear c2 cz;cases hl1:lnB kP with
  | false =>
   have kS:Hi (R=17):=(by(show _=_;rw[<- HR.o];rw[ae (.inl hl1)]));go_wp2
   (try go_ret)
   exact⟨by rw[kS.o];rfl,kZ.o.trans lX.o⟩
  | true =>
   have c3:=(HD.o.kept lX.o).cell 3 _ rfl;have cz:=(HD.o.kept lX.o).lt;go_wp2_with fail;refine(pd.o title _ a_).mono ?_;rintro e w6 ⟨rfl,oW⟩;have lH:=Hd (lX.o.trans oW);clear oW;clear c3 cz;cases hl2:lnB title with
   | false =>
    have kS:Hi (R=17):=(by(show _=_;rw[<- HR.o];rw[ae (.inr hl2)]));go_wp2
    (try go_ret)
    exact⟨by rw[kS.o];rfl,kZ.o.trans lH.o⟩
   | true =>
    have HR:Hi ((if kL=9/\zeO false kM=true then 5 else if kL=10 then atE id cls prs else 0)=R):=(by have h:=HR.o;rw[aa (by rw[hl1,hl2];simp)]at h;exact h);clear hl1 hl2;have c0:=(HD.o.kept lH.o).cell 0 _ rfl;have c4:=(HD.o.kept lH.o).cell 4 _ rfl;have c5:=(HD.o.kept lH.o).cell 5 _ rfl;have c6:=(HD.o.kept lH.o).cell 6 _ rfl;have c9:=(HD.o.kept lH.o).cell 9 _ rfl;have cz:=(HD.o.kept lH.o).lt;rcases(show kL=9\/(kL≠9/\kL=10)\/(kL≠9/\kL≠10)by omega)with hq|⟨h9,hq⟩|⟨h9,h10⟩
    .subst hq;go_wp2_with fail;refine k_ (Gd.o _ lH.o) fun w7 mS=>?_;have mE:=Hd (lH.o.trans mS);clear mS c0 c4 c5 c6 c9 cz;have c0:=(HD.o.kept mE.o).cell 0 _ rfl;have cz:=(HD.o.kept mE.o).lt;cases hb:zeO false kM with
     | true =>
      have kS:Hi (R=5):=(by(show _=_;rw[<- HR.o];rw[ae ⟨by trivial,hb⟩]));go_wp2
      (try go_ret)
      exact⟨by rw[kS.o];rfl,kZ.o.trans mE.o⟩
     | false =>
      have kS:Hi (R=0):=(by(show _=_;rw[<- HR.o];rw[aa (by rw[hb];simp),aa c_]));go_wp2
      (try go_ret)
      exact⟨by rw[kS.o];rfl,kZ.o.trans mE.o⟩
    .subst hq;have kS:Hi (R=atE id cls prs):=(by(show _=_;rw[<- HR.o,aa b_,ae (by trivial)]));go_wp2_with fail;refine k_ (qP.o _ lH.o) fun w7 mS=>?_;have mE:=Hd (lH.o.trans mS);clear mS;go_wp2
     (try go_ret)
     exact⟨by rw[kS.o];rfl,kZ.o.trans mE.o⟩
    .have b9:(kL==9)=false:=(by simpa using h9);have b10:(kL==10)=false:=(by simpa using h10);have kS:Hi (R=0):=(by(show _=_;rw[<- HR.o];rw[aa (fun q=>h9 q.1),aa h10]));go_wp2
     (try go_ret)
     exact⟨by rw[kS.o];rfl,kZ.o.trans lH.o⟩
def pgB:Bs:=[112,97,103,101]
def zGB:Bs:=[124,123,125]
def zfP(l:List Bs):Bool:=l.any fun s=>!lnB s || zk2 s zGB
def zJ0(kL:Int)(kN title:Bs)(args:List Bs):Int:=if za8 kN=false then 6 else if kL=14/\title≠[]/\title≠pgB then 5 else if 8<args.length then 3 else if zfP args=true then 17 else 0
def zH5(x:Inl):Int:=zJ0 x.kind x.text x.title x.args
def zsY{l:List Bs}{s:Bs}(h:s∈l)(hb:lnB s=false\/zk2 s zGB=true):zfP l=true:=by
 unfold zfP;rw[dv];exact⟨s,h,by rcases hb with h|h<;>rw[h]<;>simp⟩
def zCz{l:List Bs}{k:Nat}{s:Bs}(h:l[k]? = some s)(h1:lnB s=true)(h2:zk2 s zGB=false)(h3:zfP (l.take k)=false):zfP (l.take (k+1))=false:=by
 unfold zfP at *;rw[zaV h,gJ,h3];simp [h1,h2]
def zu0(S:Nat->Prop)(n:Nat)(x:Inl)(vC vP vA vT vK:Value)(w:World)(hp:ParX S n w vC vP vA vT vK x)(mn:OkX x)(ld:x.kind≠1):Calls prog 209 #[.agg (zn8 x vC vP vA vT vK).toArray] w fun e w'=>e=.returned (.int .i64 (zH5 x))/\Kept w w':=by
 obtain⟨kL,kN,kP,title,id,cls,prs,args,kQ,kM⟩:=x;have sc:=Hd hp;obtain⟨hC,hP,hA,hT,hK⟩:=hp;simp only[Inl.kind,Inl.text,Inl.dest,Inl.title,Inl.id,Inl.cls,Inl.prs,Inl.args,Inl.cits,Inl.kids]at hC hP hA hT hK;obtain⟨aC,cC,rfl,lC⟩:=hC.form;obtain⟨aP,cP,rfl,lP⟩:=hP.form;obtain⟨aA,cA,rfl,lA⟩:=hA.form;obtain⟨aT,cT,rfl,lT⟩:=ge hT;obtain⟨aK,cK,rfl,lK⟩:=hK.form;obtain⟨⟨o1,o2,o3,o4⟩,⟨o5,o6,o7,o8⟩,o9,qS,qX,sg⟩:=mn;simp only[Inl.kind,Inl.text,Inl.dest,Inl.title,Inl.id,Inl.cls,Inl.prs,Inl.args,Inl.cits,Inl.kids]at o1 o2 o3 o4 o5 o6 o7 o8 o9 qS qX sg;have o1:=o1.2 ld;clear ld;have kZ:=Hd (zaA w (.cells #[.int .i64 kL,.string (bs kN),.string (bs kP),.string (bs title),.string (bs id),.slice aC cls.length cC,.slice aP prs.length cP,.slice aA args.length cA,.slice aT kQ.length cT,.slice aK kM.length cK] 65));have HD:=Hd (aI w 65 #[.int .i64 kL,.string (bs kN),.string (bs kP),.string (bs title),.string (bs id),.slice aC cls.length cC,.slice aP prs.length cP,.slice aA args.length cA,.slice aT kQ.length cT,.slice aK kM.length cK]);have pd:=Hd (fun(s:Bs) w' (h:s.length<=1100000)=>zdN s w' a_);have qA:=Hd (fun(s:Bs) w' (h:s.length<=1100000)=>zeI s w' h);have CN:=Hd (hA.kept kZ.o);have HO:=Hd qX;obtain⟨hY,oX⟩:∃f:Bs->Bool,Hi (∀s,zk2 s zGB=f s):=⟨fun s=>zk2 s zGB,fun _=>rfl⟩;have sM:Hi (∀(s:Bs) w',s.length<=1100000->Calls prog 143 #[.string (bs s),.string (bs zGB)] w' fun e w''=>e=.returned (.bool (hY s))/\Kept w' w''):=fun s w' h=>(by rw[<- oX.o];exact zgU s zGB w' h c_);unfold zGB at sM;obtain⟨R,HR⟩:=gX (zJ0 kL kN title args);rw[show zH5 (.mk kL kN kP title id cls prs args kQ kM)=R from HR.o];unfold zJ0 at HR;unfold zn8;simp only[Inl.kind,Inl.text,Inl.dest,Inl.title,Inl.id];clear sc hC hP hA hT hK qX;go_in;go_upto_region 1 with fail;generalize w.alloc _=w0 at *;generalize w.heap.size=D at *;have c1:=HD.o.cell 1 _ rfl;have cz:=HD.o.lt;go_wp2_with fail;refine(qA.o kN _ a_).mono ?_;rintro e w1 ⟨rfl,ld⟩;have kT:=Hd ld;clear ld c1 cz;cases hnb:za8 kN with
 | false =>
  have kS:Hi (R=6):=(by(show _=_;rw[<- HR.o];rw[ae hnb]));go_wp2
  (try go_ret)
  exact⟨by rw[kS.o];rfl,kZ.o.trans kT.o⟩
 | true =>
  have HR:Hi ((if kL=14/\title≠[]/\title≠pgB then 5 else if 8<args.length then 3 else if zfP args=true then 17 else 0)=R):=(by(have h:=HR.o;rw[aa (by rw[hnb];simp)]at h;exact h));have c0:=(HD.o.kept kT.o).cell 0 _ rfl;have c3:=(HD.o.kept kT.o).cell 3 _ rfl;have c7:=(HD.o.kept kT.o).cell 7 _ rfl;have cz:=(HD.o.kept kT.o).lt;rcases(show(kL=14/\title≠[]/\title≠pgB)\/kL≠14\/(kL=14/\title=[])\/(kL=14/\title≠[]/\title=pgB)by
   by_cases a:kL=14
   .by_cases b:title=[]
    .exact .inr (.inr (.inl ⟨a,b⟩))
    .by_cases d:title=pgB
     .exact .inr (.inr (.inr ⟨a,b,d⟩))
     .exact .inl ⟨a,b,d⟩
   .exact .inr (.inl a))with⟨h1,h2,h3⟩|h1|⟨h1,h2⟩|⟨h1,h2,h3⟩
  case' inl =>
   have b1:(title==[])=false:=(by rw[ab];exact h2);have b2:(title==[112,97,103,101])=false:=(by rw[ab];exact h3);have b0:(kL==14)=true:=(by rw[bh];exact h1);have kS:Hi (R=5):=(by(show _=_;rw[<- HR.o];rw[ae ⟨h1,h2,h3⟩]));go_wp2
   (try go_ret)
   exact⟨by rw[kS.o];rfl,kZ.o.trans kT.o⟩
  case' inr.inl =>
   have b0:(kL==14)=false:=(by rw[ab];exact h1);have HR:Hi ((if 8<args.length then 3 else if zfP args=true then 17 else 0)=R):=by(have h:=HR.o;rw[aa (fun q=>h1 q.1)]at h;exact h)
  case' inr.inr.inl =>
   have b0:(kL==14)=true:=(by rw[bh];exact h1);have b1:(title==[])=true:=(by rw[bh];exact h2);have HR:Hi ((if 8<args.length then 3 else if zfP args=true then 17 else 0)=R):=by(have h:=HR.o;rw[aa (fun q=>q.2.1 h2)]at h;exact h)
  case' inr.inr.inr =>
   have b0:(kL==14)=true:=(by rw[bh];exact h1);have b1:(title==[])=false:=(by rw[ab];exact h2);have b2:(title==[112,97,103,101])=true:=(by rw[bh];exact h3);have HR:Hi ((if 8<args.length then 3 else if zfP args=true then 17 else 0)=R):=by(have h:=HR.o;rw[aa (fun q=>q.2.2 h3)]at h;exact h)
  all_goals
   by_cases h8:8<args.length
   .have kS:Hi (R=3):=(by(show _=_;rw[<- HR.o];rw[ae h8]));go_wp2
    (try go_ret)
    exact⟨by rw[kS.o];rfl,kZ.o.trans kT.o⟩
   have HY:Hi (zfP args=true->R=17):=fun h=>(by rw[<- HR.o,aa h8,ae h]);have HN:Hi (zfP args=false->R=0):=fun h=>(by rw[<- HR.o,aa h8,aa (by rw[h];simp)]);go_wp2_with fail;go_loopw [3] (fun i wr=>∃k:Nat,k<=args.length/\i=.int .i64 k/\Hi (zfP (args.take k)=false)/\Hi (Kept w0 wr)) (fun i _=>args.length - (intOf i).toNat)
   .exact⟨0,ai _,rfl,rfl,kT.o⟩
   case round =>
    clear kT c0 c3 c7 cz HR;obtain⟨k,hk,rfl,HS,kO⟩:=hrel;have c7:=(HD.o.kept kO.o).cell 7 _ rfl;have cz:=(HD.o.kept kO.o).lt;by_cases kV:k<args.length
    .obtain⟨s,hs⟩:∃s,args[k]? = some s:=⟨_,ac kV⟩;have hsl:=HO.o s (am hs);have HX:=Hd hs;obtain⟨g,o,rfl,hg,d0,-,-⟩:=(CN.o.kept kO.o).cell_of k s hs;clear hs;go_wp2_with fail;refine(pd.o s _ a_).mono ?_;rintro e w2 ⟨rfl,ll⟩;have kX:=Hd (kO.o.trans ll);clear ll kO c7 cz d0 hg;cases hl:lnB s with
     | false =>
      have kS:=Hd (HY.o (zsY (am HX.o) (.inl hl)));go_wp2
      (try go_ret)
      exact⟨by rw[kS.o];rfl,kZ.o.trans kX.o⟩
     | true =>
      have c7:=(HD.o.kept kX.o).cell 7 _ rfl;have cz:=(HD.o.kept kX.o).lt;obtain⟨g2,o2,e2,hg2,d0,-,-⟩:=(CN.o.kept kX.o).cell_of k s HX.o;cases e2;go_wp2_with fail;refine(sM.o s _ a_).mono ?_;rintro e w3 ⟨rfl,li⟩;have lq:=Hd (kX.o.trans li);clear li kX c7 cz d0 hg2;cases hh:hY s with
      | true =>
       have kS:=Hd (HY.o (zsY (am HX.o) (.inr (by rw[oX.o];exact hh))));go_wp2
       (try go_ret)
       exact⟨by rw[kS.o];rfl,kZ.o.trans lq.o⟩
      | false =>
       have mb:=Hd (zCz HX.o hl (by rw[oX.o];exact hh) HS.o);go_wp2;go_roundw
       .exact⟨k+1,a_,by go_num,mb.o,lq.o⟩
       .simp [intOf];omega
    .obtain rfl:k=args.length:=a_;have kS:=Hd (HN.o (by have:=HS.o;rwa [bi]at this));go_wp2
     (try go_ret)
     exact⟨by rw[kS.o];rfl,kZ.o.trans kO.o⟩
def zIY:Bs:=[32,60,62]
def zGC(s:Bs):Nat:=s.findIdx fun b=>!ltB (b.toNat:Int)
def zu1(s:Bs):Bool:=decide (2<=zGC s)&&decide (zGC s<=20)&&decide (zGC s<s.length)&&(at8 s (zGC s)==58)&&lnB s && !zk2 s zIY
def zzF(s:Bs)(w:World)(hs:s.length<=1100000):Calls prog 211 #[.string (bs s)] w fun e w'=>e=.returned (.bool (zu1 s))/\Kept w w':=by
 obtain⟨hY,oX⟩:∃f:Bs->Bool,Hi (∀s,zk2 s zIY=f s):=⟨fun s=>zk2 s zIY,fun _=>rfl⟩;have pd:=Hd (fun w'=>zdN s w' a_);have sM:Hi (∀w',Calls prog 143 #[.string (bs s),.string (bs zIY)] w' fun e w''=>e=.returned (.bool (hY s))/\Kept w' w''):=fun w'=>(by rw[<- oX.o];exact zgU s zIY w' hs c_);unfold zIY at sM;obtain⟨R,HR⟩:=gX (zu1 s);rw[HR.o];unfold zu1 at HR;rw[oX.o]at HR;go_in;go_wp2_with fail;go_loopw [3] (fun i wr=>∃k:Nat,k<=s.length/\i=.int .i64 k/\Hi (∀j (hj:j<s.length),j<k->ltB (s[j].toNat:Int)=true)/\w=wr) (fun i _=>s.length - (intOf i).toNat)
 .exact⟨0,ai _,rfl,(fun j hj h=>by omega),rfl⟩
 case round =>
  obtain⟨k,hk,rfl,HS,rfl⟩:=hrel;by_cases kV:k<s.length
  .have i0:=zbL (P:=prog) (t:=9) aq s k kV k rfl;have HB:Hi (at8 s k=(s[k].toNat:Int)):=zbP s k kV;have nV:Hi (ltB (at8 s k)=false->zGC s=k):=fun h=>by
    unfold zGC;rw[List.findIdx_eq kV];rw[HB.o]at h;exact⟨by rw[h];rfl,fun j hj=>by rw[HS.o j a_ hj];rfl⟩
   have Bt:Hi (ltB (at8 s k)=true->∀j (hj:j<s.length),j<k+1->ltB (s[j].toNat:Int)=true):=fun h j hj hjk=>by
    rcases bG j k with q|q
    .exact HS.o j hj q
    .obtain rfl:j=k:=a_;rw[<- HB.o];exact h
   rcases(by omega:at8 s k<65\/(65<=at8 s k/\at8 s k<=90)\/(91<=at8 s k/\at8 s k<=96)\/(97<=at8 s k/\at8 s k<=122)\/122<at8 s k)with h|⟨h,h'⟩|⟨h,h'⟩|⟨h,h'⟩|h
   case' inr.inl =>
    have mb:=Hd (Bt.o (by unfold ltB;rw[ev];omega));generalize at8 s k=b at *;go_wp2;go_roundw
    .exact⟨k+1,a_,by go_num,mb.o,trivial⟩
    .simp [intOf];omega
   case' inr.inr.inr.inl =>
    have mb:=Hd (Bt.o (by unfold ltB;rw[ev];omega));generalize at8 s k=b at *;go_wp2;go_roundw
    .exact⟨k+1,a_,by go_num,mb.o,trivial⟩
    .simp [intOf];omega
   all_goals
    have hn:=nV.o (by unfold ltB;rw[ee];omega);rw[hn]at HR;clear nV Bt HB hn HS;go_upto_region 4 with fail;clear h i0
    (try clear h')
    by_cases h2:2<=k
    case neg =>
     have kS:Hi (R=false):=(by(show _=_;rw[<- HR.o];rw[bH h2];rfl));go_wp2
     (try go_ret)
     exact⟨by rw[kS.o];first|rfl|(simp;done)|(simp;omega),af _⟩
    by_cases h20:k<=20
    case neg =>
     have kS:Hi (R=false):=(by(show _=_;rw[<- HR.o];rw[bH h20];simp));go_wp2
     (try go_ret)
     exact⟨by rw[kS.o];first|rfl|(simp;done)|(simp;omega),af _⟩
    have hkl:=kV;have i0:=zbL (P:=prog) (t:=9) aq s k hkl k rfl;have oY:Hi ((at8 s k==58&&lnB s && !hY s)=R):=(by(have h:=HR.o;show _=_;rw[bJ h2,bJ h20,bJ hkl]at h;simpa using h));clear HR;have HR:=oY;clear oY;cases Ky:(at8 s k==58)with
    | false =>
     generalize at8 s k=b at *;have kS:Hi (R=false):=(by(show _=_;rw[<- HR.o];rw[Ky];rfl));go_wp2
     (try go_ret)
     exact⟨by rw[kS.o];first|rfl|(simp;done)|(simp;omega),af _⟩
    | true =>
     rw[Ky,eL]at HR;generalize at8 s k=b at *;go_wp2_with fail;refine k_ (pd.o _) fun w2 ll=>?_;have kX:=Hd ll;clear ll;cases hl:lnB s with
     | false =>
      have kS:Hi (R=false):=(by(show _=_;rw[<- HR.o];rw[hl];rfl));go_wp2
      (try go_ret)
      exact⟨by rw[kS.o];first|rfl|(simp;done)|(simp;omega),kX.o⟩
     | true =>
      rw[hl,eL]at HR;go_wp2_with fail;refine k_ (sM.o _) fun w3 li=>?_;have lq:=Hd (kX.o.trans li);clear li;go_wp2
      (try go_ret)
      exact⟨by rw[<- HR.o];first|rfl|simp,lq.o⟩
  .obtain rfl:k=s.length:=a_;have hn:zGC s=s.length:=by
    unfold zGC;rw[List.findIdx_eq_length];intro x hx;obtain⟨j,hj,rfl⟩:=dZ hx;rw[HS.o j hj hj];rfl
   rw[hn]at HR;have kS:Hi (R=false):=(by(show _=_;rw[<- HR.o,bH (iB _)];simp));by_cases h2:2<=s.length
   .by_cases h20:s.length<=20
    .go_wp2
     (try go_ret)
     exact⟨by rw[kS.o];first|rfl|(simp;done),af _⟩
    .go_wp2
     (try go_ret)
     exact⟨by rw[kS.o];first|rfl|(simp;done)|(simp;omega),af _⟩
   .go_wp2
    (try go_ret)
    exact⟨by rw[kS.o];first|rfl|(simp;done)|(simp;omega),af _⟩
def zJq(x:Inl)(zaM:Int)(first last:Bool):Int :=
 if x.kind=1\/x.kind=4\/x.kind=5 then(if x.text=[]\/lnB x.text=false then 17 else if x.kind≠5/\zaM=x.kind then 5 else 0)
 else if x.kind=2 then(if zaM=2\/zaM=3\/first=true\/last=true then 5 else 0)
 else if x.kind=3 then(if last=true then 5 else 0)
 else if x.kind=6\/x.kind=7\/x.kind=8 then(if x.kids=[]then 8 else 0)
 else if x.kind=9\/x.kind=10 then zzD x
 else if x.kind=11 then(if zwS x.id x.cls x.prs=true then 8 else atE x.id x.cls x.prs)
 else if x.kind=12\/x.kind=14\/x.kind=15 then zH5 x
 else if x.kind=13 then zm3 x.cits
 else if x.kind=16 then(if zu1 x.dest=false then 5 else 0)else 0
def zhA(fF:Inl->Bool)(x:Inl)(zaM:Int)(first last:Bool):Int:=if fF x=false then 5 else zJq x zaM first last
def zFq(S:Nat->Prop)(n:Nat)(fF:Inl->Bool)(xX:∀x,fF x=true->1<=x.kind/\x.kind<=16)(hF:∀(x:Inl) (vC vP vA vT vK:Value) (w:World),ParX S n w vC vP vA vT vK x->OkX x->Calls prog 207 #[.agg (zn8 x vC vP vA vT vK).toArray] w fun e w'=>e=.returned (.bool (fF x))/\Kept w w')(x:Inl)(zaM:Int)(first last:Bool)(vC vP vA vT vK:Value)(w:World)(hp:ParX S n w vC vP vA vT vK x)(mn:OkX x)(hd:(zaD x.kids).length<=1000000):Calls prog 196 #[.agg (zn8 x vC vP vA vT vK).toArray,.int .i64 zaM,.bool first,.bool last] w fun e w'=>e=.returned (.int .i64 (zhA fF x zaM first last))/\Kept w w':=by
 have pM:=Hd mn;have HX0:=Hd (fun w' (k:Kept w w')=>hF x vC vP vA vT vK w' (hp.kept k) mn);have pI:=Hd (fun(q:x.kind≠1) w' (k:Kept w w')=>zzE S n x vC vP vA vT vK w' (hp.kept k) mn q hd);have om:=Hd (fun(q:x.kind≠1) w' (k:Kept w w')=>zu0 S n x vC vP vA vT vK w' (hp.kept k) mn q);obtain⟨X,sw⟩:=gX x;have qa:=Hd (xX x);obtain⟨kL,kN,kP,title,id,cls,prs,args,kQ,kM⟩:=x;have sc:=Hd hp;obtain⟨hC,hP,hA,hT,hK⟩:=hp;simp only[Inl.kind,Inl.text,Inl.dest,Inl.title,Inl.id,Inl.cls,Inl.prs,Inl.args,Inl.cits,Inl.kids]at hC hP hA hT hK;obtain⟨aC,cC,rfl,lC⟩:=hC.form;obtain⟨aP,cP,rfl,lP⟩:=hP.form;obtain⟨aA,cA,rfl,lA⟩:=hA.form;obtain⟨aT,cT,rfl,lT⟩:=ge hT;obtain⟨aK,cK,rfl,lK⟩:=hK.form;obtain⟨⟨o1,o2,o3,o4⟩,⟨o5,o6,o7,o8⟩,o9,qS,qX,sg⟩:=mn;simp only[Inl.kind,Inl.text,Inl.dest,Inl.title,Inl.id,Inl.cls,Inl.prs,Inl.args,Inl.cits,Inl.kids]at o1 o2 o3 o4 o5 o6 o7 o8 o9 qS qX sg;have kZ:=Hd (zaA w (.cells #[.int .i64 kL,.string (bs kN),.string (bs kP),.string (bs title),.string (bs id),.slice aC cls.length cC,.slice aP prs.length cP,.slice aA args.length cA,.slice aT kQ.length cT,.slice aK kM.length cK] 65));have HD:=Hd (aI w 65 #[.int .i64 kL,.string (bs kN),.string (bs kP),.string (bs title),.string (bs id),.slice aC cls.length cC,.slice aP prs.length cP,.slice aA args.length cA,.slice aT kQ.length cT,.slice aK kM.length cK]);unfold zn8 at HX0 pI om;simp only[Inl.kind,Inl.text,Inl.dest,Inl.title,Inl.id]at HX0 pI om;have pd:=Hd (fun(s:Bs) w' (h:s.length<=900000000)=>zdN s w' h);have yO:=Hd (fun w'=>zjY id cls prs aC aP cC cP w');have F8:=Hd (fun w'=>zzF kP w' a_);have qP:Hi (∀w',Kept (w.alloc (.cells #[.int .i64 kL,.string (bs kN),.string (bs kP),.string (bs title),.string (bs id),.slice aC cls.length cC,.slice aP prs.length cP,.slice aA args.length cA,.slice aT kQ.length cT,.slice aK kM.length cK] 65)) w'->Calls prog 106 #[.agg #[.string (bs id),.slice aC cls.length cC,.slice aP prs.length cP]] w' fun e w''=>e=.returned (.int .i64 (atE id cls prs))/\Kept w' w''):=fun w' k=>zf2 id cls prs _ _ w' (hC.kept (kZ.o.trans k)) (hP.kept (kZ.o.trans k)) a_ o5 o6 (fun s hs=>by have:=o9 s hs;omega) (fun p hp=>by have:=qS p hp;omega);have uh:Hi (∀w',Kept (w.alloc (.cells #[.int .i64 kL,.string (bs kN),.string (bs kP),.string (bs title),.string (bs id),.slice aC cls.length cC,.slice aP prs.length cP,.slice aA args.length cA,.slice aT kQ.length cT,.slice aK kM.length cK] 65)) w'->Calls prog 210 #[.slice aT kQ.length cT] w' fun e w''=>e=.returned (.int .i64 (zm3 kQ))/\Kept w' w''):=fun w' k=>zuW S kQ _ w' (hT.sam (cU (kZ.o.trans k)) (fun _ _ q=>q)) o8 (fun c hc=>by have:=sg c hc;omega);have yP:=Hd (HX0.o _ kZ.o);have Kz:Hi (kL≠1->∀w',Kept (w.alloc (.cells #[.int .i64 kL,.string (bs kN),.string (bs kP),.string (bs title),.string (bs id),.slice aC cls.length cC,.slice aP prs.length cP,.slice aA args.length cA,.slice aT kQ.length cT,.slice aK kM.length cK] 65)) w'->Calls prog 208 #[.agg #[.int .i64 kL,.string (bs kN),.string (bs kP),.string (bs title),.string (bs id),.slice aC cls.length cC,.slice aP prs.length cP,.slice aA args.length cA,.slice aT kQ.length cT,.slice aK kM.length cK]] w' fun e w''=>e=.returned (.int .i64 (zzD (.mk kL kN kP title id cls prs args kQ kM)))/\Kept w' w''):=fun q w' k=>pI.o q w' (kZ.o.trans k);have qA:Hi (kL≠1->∀w',Kept (w.alloc (.cells #[.int .i64 kL,.string (bs kN),.string (bs kP),.string (bs title),.string (bs id),.slice aC cls.length cC,.slice aP prs.length cP,.slice aA args.length cA,.slice aT kQ.length cT,.slice aK kM.length cK] 65)) w'->Calls prog 209 #[.agg #[.int .i64 kL,.string (bs kN),.string (bs kP),.string (bs title),.string (bs id),.slice aC cls.length cC,.slice aP prs.length cP,.slice aA args.length cA,.slice aT kQ.length cT,.slice aK kM.length cK]] w' fun e w''=>e=.returned (.int .i64 (zH5 (.mk kL kN kP title id cls prs args kQ kM)))/\Kept w' w''):=fun q w' k=>om.o q w' (kZ.o.trans k);obtain⟨R,HR⟩:=gX (zhA fF (.mk kL kN kP title id cls prs args kQ kM) zaM first last);rw[HR.o];unfold zhA at HR;unfold zn8;simp only[Inl.kind,Inl.text,Inl.dest,Inl.title,Inl.id];simp only[Inl.kind]at qa;obtain⟨fb,tc⟩:∃b,Hi (fF (.mk kL kN kP title id cls prs args kQ kM)=b):=⟨_,rfl⟩;rw[tc.o]at yP qa HR;clear sc hC hP hA hT hK HX0 pI om sw pM hd;go_in;go_upto_region 1 with fail;generalize w.alloc _=w0 at *;generalize w.heap.size=D at *;have c0:=(HD.o.kept (af w0)).cell 0 _ rfl;have c1:=(HD.o.kept (af w0)).cell 1 _ rfl;have c2:=(HD.o.kept (af w0)).cell 2 _ rfl;have c3:=(HD.o.kept (af w0)).cell 3 _ rfl;have c4:=(HD.o.kept (af w0)).cell 4 _ rfl;have c5:=(HD.o.kept (af w0)).cell 5 _ rfl;have c6:=(HD.o.kept (af w0)).cell 6 _ rfl;have c7:=(HD.o.kept (af w0)).cell 7 _ rfl;have c8:=(HD.o.kept (af w0)).cell 8 _ rfl;have c9:=(HD.o.kept (af w0)).cell 9 _ rfl;have cz:=(HD.o.kept (af w0)).lt;go_wp2_with fail;refine k_ yP.o fun x1 hk=>?_;have kT:=Hd hk;clear hk yP c0 c1 c2 c3 c4 c5 c6 c7 c8 c9 cz;have c0:=(HD.o.kept kT.o).cell 0 _ rfl;have c1:=(HD.o.kept kT.o).cell 1 _ rfl;have c2:=(HD.o.kept kT.o).cell 2 _ rfl;have c3:=(HD.o.kept kT.o).cell 3 _ rfl;have c4:=(HD.o.kept kT.o).cell 4 _ rfl;have c5:=(HD.o.kept kT.o).cell 5 _ rfl;have c6:=(HD.o.kept kT.o).cell 6 _ rfl;have c7:=(HD.o.kept kT.o).cell 7 _ rfl;have c8:=(HD.o.kept kT.o).cell 8 _ rfl;have c9:=(HD.o.kept kT.o).cell 9 _ rfl;have cz:=(HD.o.kept kT.o).lt;cases fb with
 | false =>
  have kS:Hi (R=5):=(by(show _=_;rw[<- HR.o];rw[ae rfl]));go_wp2
  (try go_ret)
  exact⟨by rw[kS.o];rfl,kZ.o.trans kT.o⟩
 | true =>
  have oY:Hi (zJq (.mk kL kN kP title id cls prs args kQ kM) zaM first last=R):=(by(have h:=HR.o;rw[aa b_]at h;exact h));obtain⟨g1,g2⟩:=qa.o rfl;clear HR;have HR:=oY;clear oY qa;rcases(show kL=1\/kL=2\/kL=3\/kL=4\/kL=5\/kL=6\/kL=7\/kL=8\/kL=9\/kL=10\/kL=11\/kL=12\/kL=13\/kL=14\/kL=15\/kL=16 by omega)with rfl|rfl|rfl|rfl|rfl|rfl|rfl|rfl|rfl|rfl|rfl|rfl|rfl|rfl|rfl|rfl
  .clear g1 g2;have HR:Hi ((if kN=[]\/lnB kN=false then 17 else if(1:Int)≠5/\zaM=1 then 5 else 0)=R):=HR.o;by_cases h0:kN=[]
   .have b0:(kN==[])=true:=(by rw[bh];exact h0);have kS:Hi (R=17):=(by(show _=_;rw[<- HR.o];rw[ae (.inl h0)]));go_wp2
    (try go_ret)
    exact⟨by rw[kS.o];rfl,kZ.o.trans kT.o⟩
   have b0:(kN==[])=false:=(by rw[ab];exact h0);go_wp2_with fail;refine(pd.o kN _ a_).mono ?_;rintro e x2 ⟨rfl,hk⟩;have kX:=Hd (kT.o.trans hk);clear hk;clear c0 c1 c2 c4 c5 c6 c7 c8 c9 c3 cz;have c0:=(HD.o.kept kX.o).cell 0 _ rfl;have cz:=(HD.o.kept kX.o).lt;cases hl:lnB kN with
   | false =>
    have kS:Hi (R=17):=(by(show _=_;rw[<- HR.o];rw[ae (.inr hl)]));go_wp2
    (try go_ret)
    exact⟨by rw[kS.o];rfl,kZ.o.trans kX.o⟩
   | true =>
    by_cases hb:zaM=1
    .have bb:(zaM==1)=true:=(by rw[bh];exact hb);have kS:Hi (R=5):=(by(show _=_;rw[<- HR.o];rw[aa (by rw[hl];simp [h0]),ae ⟨c_,hb⟩]));go_wp2
     (try go_ret)
     exact⟨by rw[kS.o];rfl,kZ.o.trans kX.o⟩
    .have bb:(zaM==1)=false:=(by rw[ab];exact hb);have kS:Hi (R=0):=(by(show _=_;rw[<- HR.o];rw[aa (by rw[hl];simp [h0]),aa (fun q=>hb q.2)]));go_wp2
     (try go_ret)
     exact⟨by rw[kS.o];rfl,kZ.o.trans kX.o⟩
  .clear g1 g2;have HR:Hi ((if zaM=2\/zaM=3\/first=true\/last=true then 5 else 0)=R):=HR.o;by_cases h2:zaM=2
   .have b2:(zaM==2)=true:=(by rw[bh];exact h2);have kS:Hi (R=5):=(by(show _=_;rw[<- HR.o];rw[ae (.inl h2)]));go_wp2
    (try go_ret)
    exact⟨by rw[kS.o];rfl,kZ.o.trans kT.o⟩
   have b2:(zaM==2)=false:=(by rw[ab];exact h2);by_cases h3:zaM=3
   .have b3:(zaM==3)=true:=(by rw[bh];exact h3);have kS:Hi (R=5):=(by(show _=_;rw[<- HR.o];rw[ae (.inr (.inl h3))]));go_wp2
    (try go_ret)
    exact⟨by rw[kS.o];rfl,kZ.o.trans kT.o⟩
   have b3:(zaM==3)=false:=(by rw[ab];exact h3);cases first with
   | true =>
    have kS:Hi (R=5):=(by(show _=_;rw[<- HR.o];rw[ae (.inr (.inr (.inl rfl)))]));go_wp2
    (try go_ret)
    exact⟨by rw[kS.o];rfl,kZ.o.trans kT.o⟩
   | false =>
    cases last with
    | true =>
     have kS:Hi (R=5):=(by(show _=_;rw[<- HR.o];rw[ae (.inr (.inr (.inr rfl)))]));go_wp2
     (try go_ret)
     exact⟨by rw[kS.o];rfl,kZ.o.trans kT.o⟩
    | false =>
     have kS:Hi (R=0):=(by(show _=_;rw[<- HR.o];rw[aa (by simp [h2,h3])]));go_wp2
     (try go_ret)
     exact⟨by rw[kS.o];rfl,kZ.o.trans kT.o⟩
  .clear g1 g2;have HR:Hi ((if last=true then 5 else 0)=R):=HR.o;cases last with
   | true =>
    have kS:Hi (R=5):=(by(show _=_;rw[<- HR.o];rw[ae rfl]));go_wp2
    (try go_ret)
    exact⟨by rw[kS.o];rfl,kZ.o.trans kT.o⟩
   | false =>
    have kS:Hi (R=0):=(by(show _=_;rw[<- HR.o];rw[aa b_]));go_wp2
    (try go_ret)
    exact⟨by rw[kS.o];rfl,kZ.o.trans kT.o⟩
  .clear g1 g2;have HR:Hi ((if kN=[]\/lnB kN=false then 17 else if(4:Int)≠5/\zaM=4 then 5 else 0)=R):=HR.o;by_cases h0:kN=[]
   .have b0:(kN==[])=true:=(by rw[bh];exact h0);have kS:Hi (R=17):=(by(show _=_;rw[<- HR.o];rw[ae (.inl h0)]));go_wp2
    (try go_ret)
    exact⟨by rw[kS.o];rfl,kZ.o.trans kT.o⟩
   have b0:(kN==[])=false:=(by rw[ab];exact h0);go_wp2_with fail;refine(pd.o kN _ a_).mono ?_;rintro e x2 ⟨rfl,hk⟩;have kX:=Hd (kT.o.trans hk);clear hk;clear c0 c1 c2 c4 c5 c6 c7 c8 c9 c3 cz;have c0:=(HD.o.kept kX.o).cell 0 _ rfl;have cz:=(HD.o.kept kX.o).lt;cases hl:lnB kN with
   | false =>
    have kS:Hi (R=17):=(by(show _=_;rw[<- HR.o];rw[ae (.inr hl)]));go_wp2
    (try go_ret)
    exact⟨by rw[kS.o];rfl,kZ.o.trans kX.o⟩
   | true =>
    by_cases hb:zaM=4
    .have bb:(zaM==4)=true:=(by rw[bh];exact hb);have kS:Hi (R=5):=(by(show _=_;rw[<- HR.o];rw[aa (by rw[hl];simp [h0]),ae ⟨c_,hb⟩]));go_wp2
     (try go_ret)
     exact⟨by rw[kS.o];rfl,kZ.o.trans kX.o⟩
    .have bb:(zaM==4)=false:=(by rw[ab];exact hb);have kS:Hi (R=0):=(by(show _=_;rw[<- HR.o];rw[aa (by rw[hl];simp [h0]),aa (fun q=>hb q.2)]));go_wp2
     (try go_ret)
     exact⟨by rw[kS.o];rfl,kZ.o.trans kX.o⟩
  .clear g1 g2;have HR:Hi ((if kN=[]\/lnB kN=false then 17 else if(5:Int)≠5/\zaM=5 then 5 else 0)=R):=HR.o;by_cases h0:kN=[]
   .have b0:(kN==[])=true:=(by rw[bh];exact h0);have kS:Hi (R=17):=(by(show _=_;rw[<- HR.o];rw[ae (.inl h0)]));go_wp2
    (try go_ret)
    exact⟨by rw[kS.o];rfl,kZ.o.trans kT.o⟩
   have b0:(kN==[])=false:=(by rw[ab];exact h0);go_wp2_with fail;refine(pd.o kN _ a_).mono ?_;rintro e x2 ⟨rfl,hk⟩;have kX:=Hd (kT.o.trans hk);clear hk;clear c0 c1 c2 c4 c5 c6 c7 c8 c9 c3 cz;have c0:=(HD.o.kept kX.o).cell 0 _ rfl;have cz:=(HD.o.kept kX.o).lt;cases hl:lnB kN with
   | false =>
    have kS:Hi (R=17):=(by(show _=_;rw[<- HR.o];rw[ae (.inr hl)]));go_wp2
    (try go_ret)
    exact⟨by rw[kS.o];rfl,kZ.o.trans kX.o⟩
   | true =>
    have kS:Hi (R=0):=(by(show _=_;rw[<- HR.o];rw[aa (by rw[hl];simp [h0]),aa b_]));go_wp2
    (try go_ret)
    exact⟨by rw[kS.o];rfl,kZ.o.trans kX.o⟩
  .clear g1 g2;have HR:Hi ((if kM=[]then 8 else 0)=R):=HR.o;by_cases h0:kM=[]
   .have b0:((kM.length:Int)==0)=true:=(by simp [h0]);have kS:Hi (R=8):=(by(show _=_;rw[<- HR.o];rw[ae h0]));go_wp2
    (try go_ret)
    exact⟨by rw[kS.o];rfl,kZ.o.trans kT.o⟩
   .have b0:((kM.length:Int)==0)=false:=(by simpa using h0);have kS:Hi (R=0):=(by(show _=_;rw[<- HR.o];rw[aa h0]));go_wp2
    (try go_ret)
    exact⟨by rw[kS.o];rfl,kZ.o.trans kT.o⟩
  .clear g1 g2;have HR:Hi ((if kM=[]then 8 else 0)=R):=HR.o;by_cases h0:kM=[]
   .have b0:((kM.length:Int)==0)=true:=(by simp [h0]);have kS:Hi (R=8):=(by(show _=_;rw[<- HR.o];rw[ae h0]));go_wp2
    (try go_ret)
    exact⟨by rw[kS.o];rfl,kZ.o.trans kT.o⟩
   .have b0:((kM.length:Int)==0)=false:=(by simpa using h0);have kS:Hi (R=0):=(by(show _=_;rw[<- HR.o];rw[aa h0]));go_wp2
    (try go_ret)
    exact⟨by rw[kS.o];rfl,kZ.o.trans kT.o⟩
  .clear g1 g2;have HR:Hi ((if kM=[]then 8 else 0)=R):=HR.o;by_cases h0:kM=[]
   .have b0:((kM.length:Int)==0)=true:=(by simp [h0]);have kS:Hi (R=8):=(by(show _=_;rw[<- HR.o];rw[ae h0]));go_wp2
    (try go_ret)
    exact⟨by rw[kS.o];rfl,kZ.o.trans kT.o⟩
   .have b0:((kM.length:Int)==0)=false:=(by simpa using h0);have kS:Hi (R=0):=(by(show _=_;rw[<- HR.o];rw[aa h0]));go_wp2
    (try go_ret)
    exact⟨by rw[kS.o];rfl,kZ.o.trans kT.o⟩
  .clear g1 g2;have kS:Hi (R=zzD (.mk 9 kN kP title id cls prs args kQ kM)):=HR.o.symm;go_wp2_with fail;refine(Kz.o c_ _ kT.o).mono ?_;rintro e x2 ⟨rfl,hk⟩;have kX:=Hd (kT.o.trans hk);clear hk;go_wp2
   (try go_ret)
   exact⟨by rw[kS.o];rfl,kZ.o.trans kX.o⟩
  .clear g1 g2;have kS:Hi (R=zzD (.mk 10 kN kP title id cls prs args kQ kM)):=HR.o.symm;go_wp2_with fail;refine(Kz.o c_ _ kT.o).mono ?_;rintro e x2 ⟨rfl,hk⟩;have kX:=Hd (kT.o.trans hk);clear hk;go_wp2
   (try go_ret)
   exact⟨by rw[kS.o];rfl,kZ.o.trans kX.o⟩
  .clear g1 g2;have HR:Hi ((if zwS id cls prs=true then 8 else atE id cls prs)=R):=HR.o;go_wp2_with fail;refine k_ (yO.o _) fun x2 hk=>?_;have kX:=Hd (kT.o.trans hk);clear hk;clear c0 c1 c2 c4 c5 c6 c7 c8 c9 c3 cz;have c4:=(HD.o.kept kX.o).cell 4 _ rfl;have c5:=(HD.o.kept kX.o).cell 5 _ rfl;have c6:=(HD.o.kept kX.o).cell 6 _ rfl;have cz:=(HD.o.kept kX.o).lt;cases hn:zwS id cls prs with
   | true =>
    have kS:Hi (R=8):=(by(show _=_;rw[<- HR.o];rw[ae hn]));go_wp2
    (try go_ret)
    exact⟨by rw[kS.o];rfl,kZ.o.trans kX.o⟩
   | false =>
    have kS:Hi (R=atE id cls prs):=(by(show _=_;rw[<- HR.o,aa (by rw[hn];simp)]));go_wp2_with fail;refine k_ (qP.o _ kX.o) fun x3 hk=>?_;have lq:=Hd (kX.o.trans hk);clear hk;go_wp2
    (try go_ret)
    exact⟨by rw[kS.o];rfl,kZ.o.trans lq.o⟩
  .clear g1 g2;have kS:Hi (R=zH5 (.mk 12 kN kP title id cls prs args kQ kM)):=HR.o.symm;go_wp2_with fail;refine(qA.o c_ _ kT.o).mono ?_;rintro e x2 ⟨rfl,hk⟩;have kX:=Hd (kT.o.trans hk);clear hk;go_wp2
   (try go_ret)
   exact⟨by rw[kS.o];rfl,kZ.o.trans kX.o⟩
  .clear g1 g2;have kS:Hi (R=zm3 kQ):=HR.o.symm;go_wp2_with fail;refine k_ (uh.o _ kT.o) fun x2 hk=>?_;have kX:=Hd (kT.o.trans hk);clear hk;go_wp2
   (try go_ret)
   exact⟨by rw[kS.o];rfl,kZ.o.trans kX.o⟩
  .clear g1 g2;have kS:Hi (R=zH5 (.mk 14 kN kP title id cls prs args kQ kM)):=HR.o.symm;go_wp2_with fail;refine(qA.o c_ _ kT.o).mono ?_;rintro e x2 ⟨rfl,hk⟩;have kX:=Hd (kT.o.trans hk);clear hk;go_wp2
   (try go_ret)
   exact⟨by rw[kS.o];rfl,kZ.o.trans kX.o⟩
  .clear g1 g2;have kS:Hi (R=zH5 (.mk 15 kN kP title id cls prs args kQ kM)):=HR.o.symm;go_wp2_with fail;refine(qA.o c_ _ kT.o).mono ?_;rintro e x2 ⟨rfl,hk⟩;have kX:=Hd (kT.o.trans hk);clear hk;go_wp2
   (try go_ret)
   exact⟨by rw[kS.o];rfl,kZ.o.trans kX.o⟩
  .clear g1 g2;have HR:Hi ((if zu1 kP=false then 5 else 0)=R):=HR.o;go_wp2_with fail;refine k_ (F8.o _) fun x2 hk=>?_;have kX:=Hd (kT.o.trans hk);clear hk;cases ha:zu1 kP with
   | false =>
    have kS:Hi (R=5):=(by(show _=_;rw[<- HR.o];rw[ae ha]));go_wp2
    (try go_ret)
    exact⟨by rw[kS.o];rfl,kZ.o.trans kX.o⟩
   | true =>
    have kS:Hi (R=0):=(by(show _=_;rw[<- HR.o];rw[aa (by rw[ha];simp)]));go_wp2
    (try go_ret)
    exact⟨by rw[kS.o];rfl,kZ.o.trans kX.o⟩
end Go.Proofs.YtnldgmhdjancbaaGreatDoor
