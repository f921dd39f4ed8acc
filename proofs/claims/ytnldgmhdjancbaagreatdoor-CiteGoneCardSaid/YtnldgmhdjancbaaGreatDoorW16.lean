/- Parts. -/
import Derived.Test.YtnldgmhdjancbaaGreatDoorW15
set_option linter.all false
set_option maxRecDepth 100000
set_option maxHeartbeats 12800000
namespace Go.Proofs.YtnldgmhdjancbaaGreatDoor
open Go.RowKit Go.Proofs.Tryz
def IntK(_:Nat->Prop)(_:World)(cs:List Value)(x:Int):Prop:=cs=[.int .i64 x]
def zIS:ReadK IntK:=⟨fun h _ _=>h,fun h u hu=>by rw[h]at hu;simp at hu;subst hu;rfl⟩
section
variable {α β:Type}{R:(Nat->Prop)->World->List Value->α->Prop}{R':(Nat->Prop)->World->List Value->β->Prop}{k k':Nat}{A A':Nat->Prop}{base base':Nat}{e e':TypeId}{w w':World}{v v':Value}{xs:List α}{ys:List β}
def OutG.ne_blk(h:OutG R k A base e w v xs){b:Nat}{t:TypeId}{cs:Array Value}(hb:Blk w b t cs)(lV:e≠t):v.ownBlock≠some b:=by
 intro hg;obtain⟨_,_,_,ho,_⟩:=h;rcases ho.2 with⟨hv,_⟩|⟨g1,_,mK,hv,_,hbb,_⟩
 .rw[hv]at hg;cases hg
 .rw[hv]at hg;have e1:g1=b:=(by simpa [Value.ownBlock]using hg);rw[e1]at hbb;have h2:w.heap[b]? = some (.cells cs t (0,0)):=hb;rw[h2]at hbb;cases hbb;exact lV rfl
def zmT{P:Program}(hR:ReadK R){ops:Array Oper}{o:Oper}{a:Act}{K:Act->World->Prop}{Q:Exit->Act->World->Prop}{E:Prop}(hgd:o.guard=none)(s x:Operand)(t:TypeId)(ho:o.op=.call { callee:=.builtin .append,args:=#[s,x],argTypes:=#[t,t] })
  (i:TypeInfo) (z:Value) (bytes:Nat) (ht:P.underlying t=some (.slice e)) (hi:P.info? e=some i) (hz:i.zero=some z) (hsize:i.size=k) (hby:i.bytes=bytes) (hzs:z.cells.size=k) (ny:0<k)
  (hs:a.eval s=v) (lc:OutG R k A base e w v xs) (g0:Nat) (cs:List Value) (y:α) (hx:a.eval x=.slice (some ⟨g0,0,none⟩) 1 1) (hb:∀j u,cs[j]? = some u->w.cell? ⟨g0,j,none⟩=some u) (nf:cs.length=k)
  (hy:R (fun g=>A g/\v.ownBlock≠some g) w cs y) (h63:xs.length+1<=maxLen) (ng:(xs.length+1) * bytes<=140737488355328) (mL:base<=w.heap.size) (H:Nat) (hH:w.heap.size=H)
  (h:∀g lJ w',OutG R k A base e w' (.slice (some ⟨g,0,none⟩) (xs.length+1) lJ) (xs++[y])->w.grownBy w' v.ownBlock->(v.ownBlock=some g\/g=H)->g<w'.heap.size->K (a.put o.dst (.slice (some ⟨g,0,none⟩) (xs.length+1) lJ)) w') :
  if Region.wanted o (yielded ops a.tmps)=true then Oper.wp P o a w K Q else E:=by
 obtain⟨css,h1,h2,mQ,h4⟩:=lc;refine step_append_lies w hgd s x t ho base e i z k bytes ht hi hz hsize hby hzs ny v xs.length css.flatten hs mQ ⟨g0,0,none⟩ 1 1 cs hx (by rw[nf,ii]) (fun j u hu=>by rw[zfJ,bP];exact hb j u hu) (hR.one hy) a_ h63 ng mL H hH ?_;intro g lJ w' q1 q2 q3 q4;refine h g lJ w' ?_ q2 q3 q4;subst hH;exact OutG.app (ys:=[y]) (css2:=[cs]) hR h1 h2 h4 rfl (fun c hc=>by simp at hc;subst hc;exact nf) (fun j c u hc hu=>by
  cases j with
  | zero=>cases hc;cases hu;exact hy
  | succ j=>simp at hc) (by simpa using q1) q2 q3
end
section
variable {P:Program}{tm ti te:TypeId}
def zEX(hm:P.underlying tm=some (.map ti te))(hi:P.underlying ti=some .string)(w:World)(m:Nat)(es:List (Bs×Value))(k:Bs)(z:Value)(hz:(zeroValue te).run P w=.ok z w)(h:MapT w m es):(Instr.lookup tm (.map (some m)) (.string (bs k)) false).run P w=.ok ((zd5 es k).getD z) w:=by
 unfold MapT at h;unfold Instr.lookup;simp only[bo,bT hm,Result.andThen];rcases zJW hi w es k with⟨g1,g2⟩|⟨n,v,g1,_,g3,_⟩
 .simp only[getObj,bo,Sem.run,h,Result.andThen,bn,zfG hi,g2,g1,hz];simp [bn]
 .simp only[getObj,bo,Sem.run,h,Result.andThen,bn,zfG hi,g3,g1];simp [bn]
def upT(hm:P.underlying tm=some (.map ti te))(hi:P.underlying ti=some .string)(w:World)(m:Nat)(es:List (Bs×Value))(k:Bs)(v:Value)(h:MapT w m es):∃es',(∀k',zd5 es' k'=if k'=k then some v else zd5 es k')/\(Instr.mapUpdate tm (.map (some m)) (.string (bs k)) v).run P w=.ok () (ztR w m es'):=by
 cases hk:zd5 es k with
 | none=>exact⟨es++[(k,v)],zrT hk v,zKu hm hi w m es k v h hk⟩
 | some v0=>exact zEh hm hi w m es k v v0 h hk
end
structure EnvC (w:World):Prop where
 gnd:Gnd w
 tab:Lib.TabIs prog w "internal/strconv.uint64pow10" .u64 Lib.pow10Tab
 asc:Lib.TabIs prog w "strings.asciiSpace" .u8 Lib.asciiSpaceTab
def EnvC.kept{w w':World}(h:EnvC w)(k:Kept w w'):EnvC w':=⟨h.gnd.kept k,zeS h.tab k,Lib.tabBelow_of_tabIs h.asc w' k⟩
def zEY{α β:Type}{f:α->β}{l:List α}{k:Nat}{x:α}(h:l[k]? = some x):(l.take (k+1)).map f=(l.take k).map f++[f x]:=by
 rw[eo,h,cI];rfl
def Tryz.infoSor:(prog.info? 110).map (fun i=>(i.zero,i.size,i.bytes))=some (some (.agg #[.string ⟨#[]⟩,.int .i64 0,.string ⟨#[]⟩,.string ⟨#[]⟩,.string ⟨#[]⟩,.string ⟨#[]⟩,.slice none 0 0,.slice none 0 0,.slice none 0 0]),9,160):=g_
def Tryz.infoSo5:(prog.info? 50).map (fun i=>(i.zero,i.size,i.bytes))=some (some (.agg #[.string ⟨#[]⟩,.string ⟨#[]⟩,.slice none 0 0,.slice none 0 0,.slice none 0 0]),5,104):=g_
def OrdP(r:Int×List SrcT)(w:World)(e:Ending)(w':World):Prop:=∃v,e=.returned (.tuple #[v,.int .i64 r.1])/\OutG SrcK 5 (fun g=>w.heap.size<=g) w.heap.size 50 w' v r.2/\Kept w w'
def zBY(v vE:Value)(l:List SrcT)(y:StyT)(lang:Bs)(w:World)(ni:EnvC w)(hv:Srcs w v l)(hl:l.length<=19)(mI:∀s∈l,FitL s)(hE:Prs w vE y.entries)(hy:SmallY y):Calls prog 24 #[v,zfA vE y,.string (bs lang)] w (OrdP (zAd y lang l) w):=by
 obtain⟨i0,hi,mr,mq,mm⟩:=cg Tryz.infoSor;obtain⟨i5,hi5,Bn,Bo,Bp⟩:=cg Tryz.infoSo5;obtain⟨a,c,rfl,hc⟩:=(show∃a c,v=.slice a l.length c/\l.length<=c by obtain⟨a,c,e,q,_⟩:=hv;exact⟨a,c,e,q⟩);obtain⟨aE,cE,rfl,lE⟩:=(show∃a c,vE=.slice a y.entries.length c/\y.entries.length<=c by obtain⟨a,c,e,q,_⟩:=hE;exact⟨a,c,e,q⟩);have lg:=Hd (zaA w (.cells (zaK (.slice aE y.entries.length cE) y) 28));have mM:=Hd (aI w 28 (zaK (.slice aE y.entries.length cE) y));have qP:=Hd (fun w' (k:Kept w w')=>zjP (.slice aE y.entries.length cE) y w' (ni.gnd.kept k) hy (hE.kept k));have sE:=Hd ni;have HV:=Hd hv;have qe:=Hd mI;have sI:Hi (zcU y≠0->∀w',Kept w w'->OrdP (zAd y lang l) w (.returned (.tuple #[.slice none 0 0,.int .i64 (zcU y)])) w'):=fun h w' k=>by
  unfold zAd;rw[aa h];exact⟨_,rfl,ey _ _ _ _ _ _,k⟩
 have sJ:Hi (zcU y=0->∀u w',OutG SrcK 5 (fun g=>w.heap.size<=g) w.heap.size 50 w' u (zGo (zAc lang) (wsY y) l)->Kept w w'->OrdP (zAd y lang l) w (.returned (.tuple #[u,.int .i64 0])) w'):=fun h u w' h1 k=>by
  unfold zAd;rw[ae h];exact⟨_,rfl,h1,k⟩
 generalize OrdP (zAd y lang l) w=P at *;clear ni hv mI hE;obtain⟨B,mW⟩:=gX w.heap.size;have xO:w.heap.size<=B:=(by rw[mW.o];exact aw _);have oi:=Hd (zc9 mM.o);unfold zfA zaK at qP;unfold zaK at lg;unfold zfA zaK;go_in;go_upto_region 1 with fail;rw[mW.o]at mM oi;rw[mW.o];unfold zaK at mM oi;generalize w.alloc _=w0 at *;have yp:B<w0.heap.size:=mM.o.lt;obtain⟨⟨b0,b1,b2,b3,b4,b5,b6,b7,b8,b9⟩,bz⟩:=oi.o;have qd:=Hd (qP.o w0 lg.o);clear qP;go_wp2_with fail;refine k_ qd.o fun w1 ld=>?_;have kT:=Hd (lg.o.trans ld);have vX:=Hd (mM.o.kept ld);clear ld qd mM lg oi b0 b1 b2 b3 b4 b5 b6 b7 b8 b9 bz;by_cases he:¬ zcU y=0
 .have lV:(zcU y==0)=false:=(by rw[ab];exact he);have hnb:(zcU y != 0)=true:=(by rw[dd];exact he);have HF:=Hd (sI.o he w1 kT.o);generalize zcU y=E at *;go_wp2_with fail
  (try go_ret2)
  exact HF.o
 .have he:zcU y=0:=dR.1 he;have vo:=Hd (sJ.o he);have Bi:=Hd (zoF (zsL he));have hBw1:B<w1.heap.size:=vX.o.lt;rw[he];clear sI sJ;go_wp2_with fail;go_loopw [9,27] (fun o i wr=>∃(k:Nat),k<=l.length/\i=.int .i64 k/\Hi (OutG SorK 9 (fun g=>g<w1.heap.size) w1.heap.size 110 wr o ((l.take k).map zjV))/\Hi (Kept w1 wr)) (fun _ i _=>l.length - (intOf i).toNat)
  .exact⟨0,ai _,rfl,ey _ _ _ _ _ _,af _⟩
  case round =>
   obtain⟨k,hk,rfl,lu,kO⟩:=hrel;by_cases kV:k<l.length
   .obtain⟨x,hx⟩:∃x,l[k]? = some x:=⟨_,ac kV⟩;have hft:=qe.o x (am hx);have HT:=Hd (zEY (f:=zjV) hx);obtain⟨us,nY⟩:=gX ((l.take k).map zjV);have mN:us.length<=19:=(by rw[<- nY.o,bm,bw];omega);rw[nY.o]at lu HT;obtain⟨g,o,vA,vE,vF,rfl,hg,e0,e1,e2,e3,e4,pA,pE,pF⟩:=kF (HV.o.kept kT.o) k x hx;have c0:=(kO.o.cell (p:=⟨g,o+k * 5,none⟩) hg).trans e0;have c1:=(kO.o.cell (p:=⟨g,o+k * 5+1,none⟩) hg).trans e1;have c2:=(kO.o.cell (p:=⟨g,o+k * 5+2,none⟩) hg).trans e2;have c3:=(kO.o.cell (p:=⟨g,o+k * 5+3,none⟩) hg).trans e3;have c4:=(kO.o.cell (p:=⟨g,o+k * 5+4,none⟩) hg).trans e4;have we:Hi (SrcL (fun g=>g<w1.heap.size) w1 vA vE vF x):=⟨⟨pA,pA.ltB⟩,⟨pE,pE.ltB⟩,pF,pF.ltB⟩;obtain⟨aA,cA,rfl,lA⟩:=pA.shape;obtain⟨aS,cS,rfl,lS⟩:=pE.shape;obtain⟨aF,cF,rfl,lF⟩:=(show∃a c,vF=.slice a x.fields.length c/\x.fields.length<=c by obtain⟨a,c,e,l,_⟩:=pF;exact⟨a,c,e,l⟩);have hgr:g<wr.heap.size:=aU hg kO.o.size;have kZ:=Hd (zaA wr (.cells #[.string (bs x.key),.string (bs x.type),.slice aA x.author.length cA,.slice aS x.editor.length cS,.slice aF x.fields.length cF] 50));have pH:=Hd (aI wr 50 #[.string (bs x.key),.string (bs x.type),.slice aA x.author.length cA,.slice aS x.editor.length cS,.slice aF x.fields.length cF]);have sU:=Hd (fun w' (kk:Kept w1 w')=>zmB x.key x.type (.slice aA x.author.length cA) (.slice aS x.editor.length cS) (.slice aF x.fields.length cF) x.fields zhP w' (pF.kept kk) (by have:=hft.2.2.1;omega));unfold FieldPost zhP at sU;have F8:=Hd (fun w' (kk:Kept w1 w')=>zsA (.slice aA x.author.length cA) (.slice aS x.editor.length cS) (.slice aF x.fields.length cF) x w' (pA.kept kk) (pE.kept kk) rfl (by have:=zsJ hft;omega) (fun q hq=>by have:=hft.2.2.2.2.2 q (zsI x q hq);omega) (by have:=zsK hft;omega));have zL:=Hd (fun w' (kk:Kept w1 w')=>zrU x.key x.type (.slice aA x.author.length cA) (.slice aS x.editor.length cS) (.slice aF x.fields.length cF) x.fields w' (pF.kept kk) (by have:=hft.2.2.1;omega) (by have:=zpU hft.2.2.2.2.1 kYr;unfold kYr at this;omega));have Bq:Hi (zjV x=⟨⟨zgG x,zeE ((za3 x.fields [121,101,97,114]).getD []),(za3 x.fields [116,105,116,108,101]).getD [],x.key⟩,x⟩):=rfl;rw[Bq.o]at HT;generalize zgG x=au at *;generalize zeE ((za3 x.fields [121,101,97,114]).getD [])=yr at *;obtain⟨tt,qv⟩:=gX ((za3 x.fields [116,105,116,108,101]).getD []);rw[qv.o]at HT sU;generalize (za3 x.fields [116,105,116,108,101]).isSome=tb at *;clear e0 e1 e2 e3 e4 pA pE pF hx hft Bq qv;go_wp2_with fail;refine k_ (sU.o _ (kO.o.trans kZ.o)) fun w3 li=>?_;have lq:=Hd ((kO.o.trans kZ.o).trans li);have HI3:=Hd (pH.o.kept li);have oT:=Hd ((lu.o.kept zqR kZ.o).kept zqR li);obtain⟨I,DL⟩:=gX wr.heap.size;rw[DL.o]at HI3 ⊢;clear li sU kZ pH lu kO c0 c1 c2 c3 c4 hgr DL;go_upto_region 9 with fail;refine zEU x (.slice aA x.author.length cA) (.slice aS x.editor.length cS) (.slice aF x.fields.length cF) I tt au yr g_ ⟨_,rfl,rfl,rfl,rfl⟩ ⟨_,rfl,rfl,rfl,rfl⟩ ⟨_,rfl,rfl,rfl,rfl⟩ ⟨_,rfl,rfl,rfl,rfl⟩ ⟨_,rfl,rfl,rfl,rfl⟩ ⟨_,rfl,rfl,rfl,rfl⟩ ⟨_,rfl,rfl,rfl,rfl⟩ ⟨_,rfl,rfl,rfl,rfl⟩ ⟨_,rfl,rfl,rfl,rfl⟩ ⟨_,rfl,rfl,rfl,rfl⟩
     b_ rfl rfl HI3 (fun w' kk=>F8.o w' (lq.o.trans kk)) (fun w' kk=>zL.o w' (lq.o.trans kk)) ?_
    intro V w4 TB hV Ih hkb mu;simp only[Act.put,aj,ax,ay];rw[hV];have mg:=Hd (lq.o.trans mu);have HI4:=Hd (HI3.o.kept mu);have uZ:=Hd hkb;have t0:=uZ.o.cell 0 _ rfl;have t1:=uZ.o.cell 1 _ rfl;have t2:=uZ.o.cell 2 _ rfl;have t3:=uZ.o.cell 3 _ rfl;have tz:=uZ.o.lt;have Nv:=HI4.o.cell 0 _ rfl;have Nw:=HI4.o.cell 1 _ rfl;have Nx:=HI4.o.cell 2 _ rfl;have Ny:=HI4.o.cell 3 _ rfl;have Nz:=HI4.o.cell 4 _ rfl;have iz:=HI4.o.lt;have lj:=zaA w4 (.cells #[.string (bs au),.int .i64 yr,.string (bs tt),.string (bs x.key),.string (bs x.key),.string (bs x.type),.slice aA x.author.length cA,.slice aS x.editor.length cS,.slice aF x.fields.length cF] 110);have ly:=Hd (aI w4 110 #[.string (bs au),.int .i64 yr,.string (bs tt),.string (bs x.key),.string (bs x.key),.string (bs x.type),.slice aA x.author.length cA,.slice aS x.editor.length cS,.slice aF x.fields.length cF]);have nS:=Hd ((oT.o.kept zqR mu).kept zqR lj);have kZ:=Hd (mg.o.trans lj);obtain⟨ar,cr,rfl,hcr,hmr⟩:=oT.o.form;have og:Hi (SorK (fun g=>g<w1.heap.size/\(Value.slice ar us.length cr).ownBlock≠some g) _ [.string (bs au),.int .i64 yr,.string (bs tt),.string (bs x.key),.string (bs x.key),.string (bs x.type),.slice aA x.author.length cA,.slice aS x.editor.length cS,.slice aF x.fields.length cF] ⟨⟨au,yr,tt,x.key⟩,x⟩) :=
     ⟨_,_,_,rfl,we.o.sam (cU kZ.o) (fun g _ q=>⟨q,fun e=>by have:=(oT.o.blk g e).1;omega⟩)⟩
    have hbz:w1.heap.size<=(w4.alloc (.cells #[.string (bs au),.int .i64 yr,.string (bs tt),.string (bs x.key),.string (bs x.key),.string (bs x.type),.slice aA x.author.length cA,.slice aS x.editor.length cS,.slice aF x.fields.length cF] 110)).heap.size:=kZ.o.size;clear hV Ih hkb mu lj lq HI3 oT we F8 zL mg;go_wp2_with (at_builtin;refine zeG ?_);refine Hd ?_;refine zaO zqR rfl (.tmp 44) (.tmp 48) 102 rfl i0 _ 160 underlying102 hi mr mq mm rfl a_ d_ nS.o w4.heap.size _ _ d_ (fun j u hu=>ly.o.cell j u (by rw[<- bE];exact hu)) rfl og.o h_ a_ hbz _ rfl ?_;intro g7 pR w7 lp lf mB mT;have mi:Hi (OutG SorK 9 (fun g=>g<w1.heap.size) w1.heap.size 110 w7 (.slice (some ⟨g7,0,none⟩) (us.length+1) pR) ((l.take (k+1)).map zjV)):=(by rw[HT.o];exact lp);have mE:Hi (Kept w1 w7):=kZ.o.trans' ((ch lf).below kZ.o.size (fun i q=>(nS.o.blk i q.symm).1));clear lp lf mB mT ly nS kZ og hbz t0 t1 t2 t3 tz Nv Nw Nx Ny Nz iz HI4 uZ;go_wp2;go_roundw
    .exact⟨k+1,a_,by go_num,mi.o,mE.o⟩
    .simp [intOf];omega
   .obtain rfl:k=l.length:=a_;rw[bi]at lu;have lD:=Hd (kT.o.trans kO.o);have zL:=Hd (vX.o.kept kO.o);have F9:=Hd (sE.o.kept lD.o);have yG:=Hd (zyX lang wr F9.o.gnd F9.o.tab);unfold LocP at yG;have Cy:=Hd (zyT lang);have Ii:Hi ((zAc lang).ignore=[]):=rfl;obtain⟨C,mA⟩:=gX (zAc lang);rw[mA.o]at yG Cy vo Ii;obtain⟨so,uD⟩:=gX y.sort;have Ij:Hi (wsY y=Lib.fields so):=(by show _=_;rw[<- uD.o];rfl);have F1:Hi (∀b∈so,b.toNat<128):=fun b hb=>(Bi.o b (by rw[uD.o];exact hb)).1;have hsl:so.length<=100000:=(by rw[<- uD.o];exact hy.2.1);have xQ:Hi (wr.cell? ⟨B,2,none⟩=some (.string (bs so))/\B<wr.heap.size):=⟨by rw[<- uD.o];exact(zc9 zL.o).1.2.2.1,zL.o.lt⟩;rw[Ij.o]at vo;have NA:Hi ((Lib.fields so).length<=so.length+1):=(by show _<=_;rw[<- Ij.o,<- uD.o];exact zHy he);have HLEN:Hi ((l.map zjV).length=l.length):=bm _;obtain⟨xs,uz⟩:=gX (l.map zjV);have zR:Hi (∀z∈xs,FitKy z.k):=fun z hz=>by
     rw[<- uz.o]at hz;obtain⟨t,ht,rfl⟩:=bQ.1 hz;exact zBP (qe.o t ht)
    have wg:Hi (zAb (fun a b=>cfW C (Lib.fields so) a.k b.k) xs=(zGo C (Lib.fields so) l).map zjV):=by
     show _=_;rw[<- uz.o];exact zER _ _ _
    rw[uz.o]at lu HLEN;have Ik:xs.length<=19:=(by have:=HLEN.o;omega);obtain⟨os,wh⟩:=gX (zGo C (Lib.fields so) l);have NB:Hi (∀z∈os,FitL z):=fun z hz=>by
     rw[<- wh.o]at hz;exact qe.o z ((zsH C (Lib.fields so) l).mem_iff.1 hz)
    have hol:os.length<=19:=(by rw[<- wh.o,zES];omega);rw[wh.o]at wg vo;clear Bi uD Ij zL wh mA qe sE kO;go_wp2_with fail;refine yG.o.mono ?_;rintro e w2 ⟨vR,vO,rfl,yI,⟨Km,Kn⟩,ll⟩;have Dn:=Hd Km;have Ko:=Hd Kn;rw[Ii.o];have DM:=Hd yI;obtain⟨aR,cR,rfl,lR⟩:=yI.1.form;obtain⟨aO,cO,rfl,lO⟩:=yI.2.form;have kZ:=Hd (ll.trans (zaA w2 (.cells #[.slice aR C.ranks.length cR,.slice aO C.order.length cO,.string (bs [])] 112)));have ra:=Hd (aI w2 112 #[.slice aR C.ranks.length cR,.slice aO C.order.length cO,.string (bs [])]);have zT:=Hd (DM.o.kept (zaA w2 (.cells #[.slice aR C.ranks.length cR,.slice aO C.order.length cO,.string (bs [])] 112)));obtain⟨C2,nH⟩:=gX w2.heap.size;clear yI ll Km Kn yG DM;go_upto_region 13 with fail;rw[nH.o]at ra ⊢;generalize w2.alloc _=w3 at *;clear nH;have y2:=(kZ.o.cell (p:=⟨B,2,none⟩) xQ.o.2).trans xQ.o.1;have yz:B<w3.heap.size:=aU xQ.o.2 kZ.o.size;have xR:=Hd (Tryz.strings_Fields_laid (bs so) w3 e_ (fun j b hb=>F1.o b (am (by simpa using hb))) (F9.o.kept kZ.o).asc);simp only[zfW]at xR;obtain⟨ws,Il⟩:=gX (Lib.fields so);rw[Il.o]at xR wg;have hwl:ws.length<=1000000:=(by have h:=NA.o;rw[Il.o]at h;omega);clear Il;go_wp2_with fail;refine xR.o.mono ?_;rintro e w4 ⟨rfl,rfl⟩;have e4:(w3.alloc (.cells (List.map (fun l=>Value.string ⟨l.toArray⟩) ws).toArray 9))=w3.alloc (.cells (zaL ws).toArray 9):=rfl;rw[e4];clear e4;have xS:=zaA w3 (.cells (zaL ws).toArray 9);have Cv:=Hd (zn3 w3 ws);have sH:=Hd (aI w3 9 (zaL ws).toArray);have sK:=Hd (ra.o.kept xS);have zU:=Hd (zT.o.kept xS);have ri:=Hd (kZ.o.trans xS);generalize w3.alloc (.cells (zaL ws).toArray 9)=w4 at *;generalize w3.heap.size=S4 at *;clear xS ra zT kZ xR y2 yz;have hkb:=zaA w4 (.cells #[.slice (some ⟨S4,0,none⟩) ws.length ws.length] 37);have po:=Hd (aI w4 37 #[.slice (some ⟨S4,0,none⟩) ws.length ws.length]);have DN:=Hd (Cv.o.kept hkb);have DO:=Hd (sH.o.kept hkb);have CE:=Hd (sK.o.kept hkb);have wi:=Hd (zU.o.kept hkb);have xT:=Hd (ri.o.trans hkb);obtain⟨C1,nH⟩:=gX w4.heap.size;clear hkb Cv sH sK zU ri;go_upto_region 14 with fail;rw[nH.o]at po ⊢;generalize w4.alloc _=w5 at *;clear nH;have zW:=Hd (lu.o.kept zqR xT.o);obtain⟨ar,cr,rfl,hcr,hmr⟩:=lu.o.form;have hrow:∀g,(Value.slice ar xs.length cr).ownBlock=some g->w1.heap.size<=g/\g<wr.heap.size:=fun g q=>lu.o.blk g q;have n1:=OutG.ne_blk zW.o po.o c_;have n2:=OutG.ne_blk zW.o CE.o c_;have n3:=OutG.ne_blk zW.o DO.o c_;have Bq:=Hd (zyR C1 C2 w1.heap.size (fun g=>g<w1.heap.size) (fun a b=>cfW C ws a.k b.k) (fun z=>FitKy z.k) _ xs w5 zW.o zR.o Ik (fun w' cs ds p q hon gx gy hx hy=>by
     obtain⟨vA,vE,vF,rfl,h1⟩:=hx;obtain⟨uA,uE,uF,rfl,h2⟩:=hy;obtain⟨aA,cA,rfl,-⟩:=h1.1.1.shape;obtain⟨aS,cS,rfl,-⟩:=h1.2.1.1.shape;obtain⟨aF,cF,rfl,-⟩:=(show∃a c,vF=.slice a p.src.fields.length c/\p.src.fields.length<=c by obtain⟨a,c,e,l,_⟩:=h1.2.2.1;exact⟨a,c,e,l⟩);obtain⟨bA,dA,rfl,-⟩:=h2.1.1.shape;obtain⟨bS,dS,rfl,-⟩:=h2.2.1.1.shape;obtain⟨bF,dF,rfl,-⟩:=(show∃a c,uF=.slice a q.src.fields.length c/\q.src.fields.length<=c by obtain⟨a,c,e,l,_⟩:=h2.2.2.1;exact⟨a,c,e,l⟩);exact zsE C1 C2 (.slice (some ⟨S4,0,none⟩) ws.length ws.length) (.slice aR C.ranks.length cR) (.slice aO C.order.length cO) C ws p q aA aS aF bA bS bF _ _ _ _ _ _ cA cS cF dA dS dF w' (po.o.onl hon n1) (DN.o.onlS (S:=fun g=>g=S4) (fun _ g q=>by cases q;rfl) hon (fun g _ hs q=>n3 (by rw[<- hs];exact q))) (by rw[Ii.o];exact CE.o.onl hon n2)
      ⟨wi.o.1.onlS Dn.o hon (fun g _ hs q=>by have:=(hrow g q).2;omega),wi.o.2.onlS Ko.o hon (fun g _ hs q=>by have:=(hrow g q).2;omega)⟩ Cy.o gx gy hwl))
    unfold SrsS at Bq;rw[wg.o]at Bq;have hos:os.length=xs.length:=by
     have h1:=congrArg List.length wg.o;rw[zpQ,bm]at h1;exact h1.symm
    have DP:=Hd hos;clear n1 n2 n3 hos wg zR wi CE DO DN zW Dn Ko Cy;go_wp2_with fail;refine Bq.o.mono ?_;rintro e w6 ⟨rfl,pn,DQ⟩;have nS:=Hd pn;have lH:Hi (Kept w w6):=(lD.o.trans xT.o).trans' (DQ.below (lD.o.trans xT.o).size (fun i q=>by have h1:=(hrow i q).1;have h2:=kT.o.size;omega));have yJ:Hi (∀g,g<w1.heap.size->True):=fun _ _=>trivial;clear pn DQ Bq po xT hrow HLEN uz lu xQ F9 lD;go_wp2_with fail;go_loopw [17,61] (fun o i wx=>∃(k:Nat),k<=os.length/\i=.int .i64 k/\Hi (OutG SrcK 5 (fun g=>w6.heap.size<=g) w6.heap.size 50 wx o (os.take k))/\Hi (Kept w6 wx)) (fun _ i _=>os.length - (intOf i).toNat)
    .exact⟨0,ai _,rfl,ey _ _ _ _ _ _,af _⟩
    case round =>
     obtain⟨k,hk,rfl,lu,kO⟩:=hrel;have NC:w6.heap.size<=wr.heap.size:=kO.o.size;by_cases kV:k<xs.length
     .have hlo:k<os.length:=(by have:=DP.o;omega);obtain⟨x,hx⟩:∃x,os[k]? = some x:=⟨_,ac hlo⟩;have hft:=NB.o x (am hx);have HT:Hi (os.take (k+1)=os.take k++[x]):=(by show _=_;rw[eo,hx];rfl);obtain⟨us,nY⟩:=gX (os.take k);have mN:us.length<=19:=(by rw[<- nY.o,bw];omega);rw[nY.o]at lu HT;obtain⟨g,cs,rfl,hgb,hgz,-,-,-,mU,hR⟩:=(nS.o.kept zqR kO.o).at_ k (zjV x) (by rw[dy,hx];rfl);obtain⟨vA,vE,vF,rfl,hS⟩:=hR;have d0:wr.cell? ⟨g,k * 9,none⟩=some (.string (bs (zgG x))):=(by have h:=mU 0 _ rfl;rw[dl]at h;exact h);have d1:=mU 1 _ rfl;have d2:=mU 2 _ rfl;have d3:=mU 3 _ rfl;have d4:=mU 4 _ rfl;have d5:=mU 5 _ rfl;have d6:=mU 6 _ rfl;have d7:=mU 7 _ rfl;have d8:=mU 8 _ rfl;obtain⟨aA,cA,rfl,lA⟩:=hS.1.1.shape;obtain⟨aS,cS,rfl,lS⟩:=hS.2.1.1.shape;obtain⟨aF,cF,rfl,lF⟩:=(show∃a c,vF=.slice a x.fields.length c/\x.fields.length<=c by obtain⟨a,c,e,l,_⟩:=hS.2.2.1;exact⟨a,c,e,l⟩);have vu:=Hd (fun w' (kk:Kept wr w')=>zyW (.slice aA x.author.length cA) (.slice aS x.editor.length cS) (.slice aF x.fields.length cF) x w' (hS.1.1.kept kk) (hS.2.1.1.kept kk) (hS.2.2.1.kept kk) (by have:=hft.1;omega) (by have:=hft.2.1;omega) (by have:=hft.2.2.1;omega));unfold CpyS at vu;unfold zjV zBO at d1 d2 d3 d4 d5;simp only at d1 d2 d3 d4 d5;obtain⟨v1,hv1⟩:∃v,zeE ((za3 x.fields kYr).getD [])=v:=⟨_,rfl⟩;obtain⟨v2,hv2⟩:∃v,(za3 x.fields zhP).getD []=v:=⟨_,rfl⟩;obtain⟨v0,hv0⟩:∃v,zgG x=v:=⟨_,rfl⟩;rw[hv0]at d0;rw[hv1]at d1;rw[hv2]at d2;clear hv0 hv1 hv2 mU hS hx hft nY;have kZ:=Hd (zaA wr (.cells #[.string (bs v0),.int .i64 v1,.string (bs v2),.string (bs x.key),.string (bs x.key),.string (bs x.type),.slice aA x.author.length cA,.slice aS x.editor.length cS,.slice aF x.fields.length cF] 110));go_wp2_with fail;refine(vu.o _ kZ.o).mono ?_;rintro e w7 ⟨uA,uS,uF,rfl,hsl,mS⟩;obtain⟨bA,eA,rfl,-⟩:=hsl.1.1.shape;obtain⟨bS,eS,rfl,-⟩:=hsl.2.1.1.shape;obtain⟨bF,eF,rfl,-⟩:=(show∃a c,uF=.slice a x.fields.length c/\x.fields.length<=c by obtain⟨a,c,e,l,_⟩:=hsl.2.2.1;exact⟨a,c,e,l⟩);have mE:=Hd ((kO.o.trans kZ.o).trans mS);have Kp:=Hd ((lu.o.kept zDG kZ.o).kept zDG mS);have lj:=zaA w7 (.cells #[.string (bs x.key),.string (bs x.type),.slice bA x.author.length eA,.slice bS x.editor.length eS,.slice bF x.fields.length eF] 50);have ly:=Hd (aI w7 50 #[.string (bs x.key),.string (bs x.type),.slice bA x.author.length eA,.slice bS x.editor.length eS,.slice bF x.fields.length eF]);have yK:=Hd (Kp.o.kept zDG lj);have pk:=Hd (mE.o.trans lj);obtain⟨ao,co,rfl,hco,hmo⟩:=lu.o.form;have hzz:wr.heap.size<=(wr.alloc (.cells #[.string (bs v0),.int .i64 v1,.string (bs v2),.string (bs x.key),.string (bs x.key),.string (bs x.type),.slice aA x.author.length cA,.slice aS x.editor.length cS,.slice aF x.fields.length cF] 110)).heap.size:=kZ.o.size;have og:Hi (SrcK (fun g=>w6.heap.size<=g/\(Value.slice ao us.length co).ownBlock≠some g) _ [.string (bs x.key),.string (bs x.type),.slice bA x.author.length eA,.slice bS x.editor.length eS,.slice bF x.fields.length eF] x) :=
       ⟨_,_,_,rfl,hsl.sam (cU lj) (fun g _ q=>⟨a_,fun e=>by have:=(lu.o.blk g e).2;omega⟩)⟩
      have hbz:w6.heap.size<=(w7.alloc (.cells #[.string (bs x.key),.string (bs x.type),.slice bA x.author.length eA,.slice bS x.editor.length eS,.slice bF x.fields.length eF] 50)).heap.size:=bC NC (bC (bC hzz mS.size) lj.size);clear hsl mS lj vu kZ lu kO Kp mE d0 d1 d2 d3 d4 d5 d6 d7 d8 hzz hgz;go_wp2_with (at_builtin;refine zeG ?_);refine Hd ?_;refine zaO zDG rfl (.tmp 65) (.tmp 69) 26 rfl i5 _ 104 ia hi5 Bn Bo Bp rfl a_ d_ yK.o w7.heap.size _ _ d_ (fun j u hu=>ly.o.cell j u (by rw[<- bE];exact hu)) rfl og.o h_ a_ hbz _ rfl ?_;intro g7 pR w9 lp lf mB mT;have mi:Hi (OutG SrcK 5 (fun g=>w6.heap.size<=g) w6.heap.size 50 w9 (.slice (some ⟨g7,0,none⟩) (us.length+1) pR) (os.take (k+1))):=(by rw[HT.o];exact lp);have pm:Hi (Kept w6 w9):=pk.o.trans' ((ch lf).below pk.o.size (fun i q=>(yK.o.blk i q.symm).1));clear lp lf mB mT ly yK og hbz pk;go_wp2;go_roundw
      .exact⟨k+1,a_,by go_num,mi.o,pm.o⟩
      .simp [intOf];omega
     .obtain rfl:k=os.length:=(by have:=DP.o;omega);rw[bi]at lu;have HF:=Hd (vo.o _ _ ((lu.o.mono zDG (fun g _ q=>bC lH.o.size q)).low lH.o.size) (lH.o.trans kO.o));obtain⟨ao,co,rfl,hco,hmo⟩:=lu.o.form;clear lu vo;go_wp2_with fail
      (try go_ret2)
      exact HF.o
def zBZ(n:Nat):Bs:=if h:n=0 then []else UInt8.ofNat (97+(n - 1) % 26)::zBZ ((n - 1) / 26)
termination_by n
decreasing_by omega
def zeN(n:Nat):Bs:=(zBZ n).reverse
def zdD:zBZ 0=[]:=by rw[zBZ];rfl
def zdV{n:Nat}(h:0<n):zBZ n=UInt8.ofNat (97+(n - 1) % 26)::zBZ ((n - 1) / 26):=by
 rw[zBZ,jP a_]
def zlO{r:Nat}(h:r<26):(UInt8.ofNat (97+r)).toNat=97+r:=by
 rw[fo];omega
def zEZ:∀(m n:Nat),zBZ m=zBZ n->m=n:=by
 intro m
 induction m using Nat.strongRecOn with
 | _ m ih =>
  intro n h;rcases dT m with rfl|hm
  .rcases dT n with rfl|hn
   .rfl
   .rw[zdD,zdV hn]at h;cases h
  .rcases dT n with rfl|hn
   .rw[zdD,zdV hm]at h;cases h
   .rw[zdV hm,zdV hn]at h;obtain⟨h1,h2⟩:=eK h;have h3:=congrArg UInt8.toNat h1;rw[zlO (jK _ c_),zlO (jK _ c_)]at h3;have h4:=ih ((m - 1) / 26) a_ _ h2;omega
def zE0{m n:Nat}(h:zeN m=zeN n):m=n:=zEZ m n (List.reverse_inj.1 h)
def zHE{n:Nat}(h:0<n):zeN n≠[]:=by
 unfold zeN;rw[zdV h];simp
def zE1:∀n,(zBZ n).length<=n:=by
 intro n
 induction n using Nat.strongRecOn with
 | _ n ih =>
  rcases dT n with rfl|hn
  .rw[zdD];exact aw _
  .rw[zdV hn,az];have:=ih ((n - 1) / 26) a_;omega
def zwN(n:Nat):(zeN n).length<=n:=by unfold zeN;rw[List.length_reverse];exact zE1 n
abbrev Tok:=List (Option UInt8)
def ze2(s:Bs):Tok->Bs
 | []=>[]
 | none::l=>s++ze2 s l
 | some b::l=>b::ze2 s l
def zE2(s:Bs)(a b:Tok):ze2 s (a++b)=ze2 s a++ze2 s b:=by
 induction a with
 | nil=>rfl
 | cons x a ih =>
  cases x with
  | none=>show s++ze2 s (a++b)=(s++ze2 s a)++_;rw[ih,cX]
  | some c=>show c::ze2 s (a++b)=(c::ze2 s a)++_;rw[ih];rfl
def zuJ{a b:UInt8}(hab:a≠b):∀(l1 l2:Tok),ze2 [a] l1=ze2 [a] l2->ze2 [b] l1=ze2 [b] l2->l1=l2
 | [],[],_,_=>rfl
 | [],none::l2,h,_=>by cases h
 | [],some c::l2,h,_=>by cases h
 | none::l1,[],h,_=>by cases h
 | some c::l1,[],h,_=>by cases h
 | none::l1,none::l2,h1,h2=>by
  rw[zuJ hab l1 l2 (eK h1).2 (eK h2).2]
 | none::l1,some c::l2,h1,h2=>by
  have e1:=(eK (show a::ze2 [a] l1=c::ze2 [a] l2 from h1)).1;have e2:=(eK (show b::ze2 [b] l1=c::ze2 [b] l2 from h2)).1;exact absurd (e1.trans e2.symm) hab
 | some c::l1,none::l2,h1,h2=>by
  have e1:=(eK (show c::ze2 [a] l1=a::ze2 [a] l2 from h1)).1;have e2:=(eK (show c::ze2 [b] l1=b::ze2 [b] l2 from h2)).1;exact absurd (e1.symm.trans e2) hab
 | some c::l1,some d::l2,h1,h2=>by
  have e1:=eK (show c::ze2 [a] l1=d::ze2 [a] l2 from h1);have e2:=eK (show c::ze2 [b] l1=d::ze2 [b] l2 from h2);rw[zuJ hab l1 l2 e1.2 e2.2,e1.1]
def zB0(s:Bs)(l:Tok):(ze2 s l).length=(l.filter Option.isSome).length+(l.filter Option.isNone).length * s.length:=by
 induction l with
 | nil=>simp [ze2]
 | cons x l ih =>
  cases x with
  | none =>
   show(s++ze2 s l).length=_;rw[ah,ih,List.filter_cons_of_neg b_,List.filter_cons_of_pos d_,az,ij];omega
  | some c =>
   show(ze2 s l).length+1=_;rw[ih,List.filter_cons_of_pos d_,List.filter_cons_of_neg b_,az];omega
def zkR{s t:Bs}(h:s.length=t.length):∀l:Tok,none∈l->ze2 s l=ze2 t l->s=t
 | [],hn,_=>(bO hn).elim
 | none::l,_,q=>(List.append_inj q h).1
 | some c::l,hn,q=>by
  rcases bj.1 hn with r|r
  .cases r
  .exact zkR h l r (eK q).2
def zsP(s l:Bs):ze2 s (l.map some)=l:=by
 induction l with
 | nil=>rfl
 | cons b l ih=>show b::ze2 s (l.map some)=_;rw[ih]
def zB1{α:Type}(s:Bs)(l:List α)(g:α->Tok):ze2 s (l.flatMap g)=l.flatMap fun p=>ze2 s (g p):=by
 induction l with
 | nil=>rfl
 | cons x l ih=>rw[dB,dB,zE2,ih]
def zB2(s:Bs):ze2 s [none]=s:=by show s++[]=s;rw[bN]
def zHF{s t:Bs}{l:Tok}(hn:none∈l)(h:ze2 s l=ze2 t l):s=t:=by
 have h1:=congrArg List.length h;rw[zB0,zB0]at h1;have hp:0<(l.filter Option.isNone).length:=List.length_pos_of_mem (eU.2 ⟨hn,rfl⟩);have h2:(l.filter Option.isNone).length * s.length=(l.filter Option.isNone).length * t.length:=a_;exact zkR (Nat.eq_of_mul_eq_mul_left hp h2) l hn h
abbrev CitX:=Bs×Tok
def zfO(x:CitX)(n:Nat):Bs:=if n=0 then x.1 else ze2 (zeN n) x.2
def zg8{x:CitX}{n:Nat}(h:0<n):zfO x n=ze2 (zeN n) x.2:=aa a_
def zE3{x:CitX}(hx:none∈x.2){m n:Nat}(hm:0<m)(hn:0<n)(h:zfO x m=zfO x n):m=n:=by
 rw[zg8 hm,zg8 hn]at h;exact zE0 (zHF hx h)
def zsQ(taken:List Bs)(x:CitX):Nat->Nat->Nat
 | 0,n=>n+1
 | f+1,n=>if taken.contains (zfO x (n+1))=true then zsQ taken x f (n+1)else n+1
def zuK{x:CitX}(hx:none∈x.2):∀(m:Nat) (taken:List Bs) (a:Nat),0<a->(∀j,j<m->zfO x (a+j)∈taken)->m<=taken.length
 | 0,_,_,_,_=>ai _
 | m+1,taken,a,ha,h=>by
  have hm:=h m (Nat.lt_succ_self m);have h1:=zuK hx m (taken.filter fun t=>t != zfO x (a+m)) a ha (fun j hj=>by
   refine eU.2 ⟨h j a_,?_⟩;rw[dd];intro e;have:=zE3 hx a_ a_ e;omega)
  have h2:(taken.filter fun t=>t != zfO x (a+m)).length<taken.length:=by
   refine Nat.lt_of_le_of_ne (fC _ _) (fun e=>?_);have:=List.length_filter_eq_length_iff.1 e _ hm;simp at this
  omega
def zsR{x:CitX}(hx:none∈x.2)(taken:List Bs):∀(f n a:Nat),0<a->a<=n+1->(∀j,a<=j->j<=n->zfO x j∈taken)->taken.length<=f+(n+1 - a)->n<zsQ taken x f n/\zfO x (zsQ taken x f n)∉taken/\∀j,a<=j->j<zsQ taken x f n->zfO x j∈taken
 | 0,n,a,ha,ND,oy,hf=>by
  show n<n+1/\zfO x (n+1)∉taken/\∀j,a<=j->j<n+1->zfO x j∈taken;refine⟨a_,fun q=>?_,fun j h1 h2=>oy j h1 a_⟩;have:=zuK hx (n+2 - a) taken a ha (fun j hj=>by
   by_cases e:a+j=n+1
   .rw[e];exact q
   .exact oy _ a_ a_)
  omega
 | f+1,n,a,ha,ND,oy,hf=>by
  show n<(if taken.contains (zfO x (n+1))=true then zsQ taken x f (n+1)else n+1)/\zfO x (if taken.contains (zfO x (n+1))=true then zsQ taken x f (n+1)else n+1)∉taken/\∀j,a<=j->j<(if taken.contains (zfO x (n+1))=true then zsQ taken x f (n+1)else n+1)->zfO x j∈taken;by_cases q:taken.contains (zfO x (n+1))=true
  .rw[ae q];have hm:zfO x (n+1)∈taken:=(by simpa using q);obtain⟨h1,h2,h3⟩:=zsR hx taken f (n+1) a ha a_ (fun j k1 k2=>by
    by_cases e:j=n+1
    .rw[e];exact hm
    .exact oy j k1 a_) a_
   exact⟨a_,h2,h3⟩
  .rw[aa q];exact⟨a_,by simpa using q,fun j h1 h2=>oy j h1 a_⟩
def zbZ(ps:List Bs)(t:Bs):Bool:=ps.count t==1
def zk0(x:CitX):Bs×Bs:=(zfO x 1,zfO x 2)
def zpX:zeN 1=[97]:=by unfold zeN;rw[zdV a_];rw[show(1 - 1) / 26=0 from rfl,zdD];rfl
def zpY:zeN 2=[98]:=by unfold zeN;rw[zdV a_];rw[show(2 - 1) / 26=0 from rfl,zdD];rfl
def zHG{x y:CitX}(h:zk0 x=zk0 y):x.2=y.2:=by
 have h1:=congrArg Prod.fst h;have h2:=congrArg Prod.snd h;simp only[zk0,zg8 (show 0<1 by omega),zg8 (show 0<2 by omega),zpX,zpY]at h1 h2;exact zuJ c_ _ _ h1 h2
structure SufS where
 taken:List Bs
 next:Bs×Bs->Nat
 o:List Nat
def zgT(ps:List Bs)(st:SufS)(x:CitX):SufS :=
 if zbZ ps x.1=true then { st with o:=st.o++[0] }
 else⟨st.taken++[zfO x (zsQ st.taken x st.taken.length (st.next (zk0 x)))],fun k=>if k=zk0 x then zsQ st.taken x st.taken.length (st.next (zk0 x))else st.next k,st.o++[zsQ st.taken x st.taken.length (st.next (zk0 x))]⟩
def zKw(ps:List Bs):SufS:=⟨ps.filter (zbZ ps),fun _=>0,[]⟩
def zcA(ps:List Bs)(xs:List CitX):SufS:=xs.foldl (zgT ps) (zKw ps)
def zE4(xs:List CitX):List Nat:=(zcA (xs.map (·.1)) xs).o
def zh1(ps:List Bs)(xs:List CitX)(x:CitX):zcA ps (xs++[x])=zgT ps (zcA ps xs) x:=by unfold zcA;rw[fH];rfl
def zyZ(xs:List CitX)(out:List Nat):List Bs:=List.zipWith zfO xs out
structure SufI (ps:List Bs) (done:List CitX) (st:SufS):Prop where
 len:st.o.length=done.length
 tk:∀t,t∈st.taken↔(t∈ps/\zbZ ps t=true)\/t∈zyZ done st.o
 nx:∀(x:CitX) (n:Nat),none∈x.2->0<n->n<=st.next (zk0 x)->zfO x n∈st.taken
 ne:∀(i:Nat) (x:CitX),done[i]? = some x->zbZ ps x.1=true->st.o[i]? = some 0
 nd:(zyZ done st.o).Nodup
 al:∀(i:Nat) (x:CitX) (n:Nat),done[i]? = some x->st.o[i]? = some n->zbZ ps (zfO x n)=true->zfO x n∈ps->n=0/\zbZ ps x.1=true
 tl:st.taken.length<=(ps.filter (zbZ ps)).length+done.length
def zsS{done:List CitX}{out:List Nat}(h:out.length=done.length)(x:CitX)(n:Nat):zyZ (done++[x]) (out++[n])=zyZ done out++[zfO x n]:=by
 unfold zyZ;rw[List.zipWith_append h.symm];rfl
def zE5{done:List CitX}{out:List Nat}{t:Bs}(h:t∈zyZ done out):∃(i:Nat) (x:CitX) (n:Nat),done[i]? = some x/\out[i]? = some n/\zfO x n=t:=by
 obtain⟨i,hi⟩:=jq h;unfold zyZ at hi;rw[List.getElem?_zipWith]at hi;cases h1:done[i]? with
 | none=>rw[h1]at hi;simp at hi
 | some x =>
  cases h2:out[i]? with
  | none=>rw[h1,h2]at hi;simp at hi
  | some n=>rw[h1,h2]at hi;exact⟨i,x,n,h1,h2,by simpa using hi⟩
def zy0{done rest:List CitX}{x y:CitX}{j:Nat}(hy:done[j]? = some y)(h:zbZ ((done++x::rest).map (·.1)) x.1=true):y.1≠x.1:=by
 intro e;unfold zbZ at h;rw[cI,bd,gj,List.count_cons_self,bh]at h;have:0<(done.map (·.1)).count x.1:=List.count_pos_iff.2 (bQ.2 ⟨y,am hy,e⟩);omega
def SufI.zero(ps:List Bs):SufI ps [] (zKw ps):=by
 refine⟨rfl,fun t=>?_,fun x n _ h1 h2=>?_,fun i x h=>by simp at h,kH,fun i x n h=>by simp at h,aw _⟩
 .show t∈ps.filter (zbZ ps)↔_\/t∈[];rw[eU];simp
 .have h2':n<=0:=h2;omega
def SufI.old{ps:List Bs}{done:List CitX}{st:SufS}(h:SufI ps done st){x:CitX}(hx:none∈x.2):st.next (zk0 x)<zsQ st.taken x st.taken.length (st.next (zk0 x))/\zfO x (zsQ st.taken x st.taken.length (st.next (zk0 x)))∉st.taken/\∀j,1<=j->j<zsQ st.taken x st.taken.length (st.next (zk0 x))->zfO x j∈st.taken :=
 zsR hx st.taken st.taken.length (st.next (zk0 x)) 1 a_ a_ (fun j h1 h2=>h.nx x j hx a_ h2) a_
def zB3{done rest:List CitX}{st:SufS}{x:CitX}(h:SufI ((done++x::rest).map (·.1)) done st)(ha:zbZ ((done++x::rest).map (·.1)) x.1=true):x.1∉zyZ done st.o:=by
 intro q;obtain⟨i,y,n,h1,h2,h3⟩:=zE5 q;obtain⟨rfl,-⟩:=h.al i y n h1 h2 (by rw[h3];exact ha) (by rw[h3];simp);exact zy0 h1 ha h3
def SufI.step{done rest:List CitX}{st:SufS}{x:CitX}(h:SufI ((done++x::rest).map (·.1)) done st)(hx:none∈x.2):SufI ((done++x::rest).map (·.1)) (done++[x]) (zgT ((done++x::rest).map (·.1)) st x):=by
 obtain⟨ps,HP⟩:∃ps,(done++x::rest).map (·.1)=ps:=⟨_,rfl⟩;have hmem:x.1∈ps:=(by rw[<- HP];simp);unfold zgT;by_cases ha:zbZ ps x.1=true
 .have hnew:x.1∉zyZ done st.o:=(by rw[<- HP]at ha;exact zB3 h ha);rw[HP]at h ⊢;rw[ae ha];have e:=zsS h.len x 0;have e0:zfO x 0=x.1:=rfl;rw[e0]at e;refine⟨by simp [h.len],fun t=>?_,h.nx,fun i y hy hya=>?_,?_,fun i y n hy hn ht htp=>?_,by have:=h.tl;simp;omega⟩
  .show t∈st.taken↔_\/t∈zyZ (done++[x]) (st.o++[0]);rw[e,h.tk t,aV,bu];constructor
   .rintro(q|q)
    .exact .inl q
    .exact .inr (.inl q)
   .rintro(q|q|rfl)
    .exact .inl q
    .exact .inr q
    .exact .inl ⟨hmem,ha⟩
  .show(st.o++[0])[i]? = some 0;rcases bG i done.length with q|q
   .rw[bX q]at hy;rw[bX (by rw[h.len];exact q)];exact h.ne i y hy hya
   .have hi:i=done.length:=(by have:=(ak.1 hy).1;simp at this;omega);subst hi;rw[<- h.len];simp
  .show(zyZ (done++[x]) (st.o++[0])).Nodup;rw[e,kg];exact⟨h.nd,b_,fun a ha' b hb=>by rw[bu.1 hb];exact fun q=>hnew (q ▸ ha')⟩
  .have hn':(st.o++[0])[i]? = some n:=hn;rcases bG i done.length with q|q
   .rw[bX q]at hy;rw[bX (by rw[h.len];exact q)]at hn';exact h.al i y n hy hn' ht htp
   .have hi:i=done.length:=(by have:=(ak.1 hy).1;simp at this;omega);subst hi;have hy':x=y:=(by simpa using hy);subst hy';rw[<- h.len]at hn';have hn2:0=n:=(by simpa using hn');exact⟨hn2.symm,ha⟩
 .rw[HP]at h ⊢;rw[aa ha];obtain⟨r1,r2,r3⟩:=h.old hx;generalize zsQ st.taken x st.taken.length (st.next (zk0 x))=r at *;have e:=zsS h.len x r;refine⟨by simp [h.len],fun t=>?_,fun y n hy h1 h2=>?_,fun i y hy hya=>?_,?_,fun i y n hy hn ht htp=>?_,by have:=h.tl;simp;omega⟩
  .show t∈st.taken++[zfO x r]↔_\/t∈zyZ (done++[x]) (st.o++[r]);rw[e,aV,aV,bu,h.tk t];constructor
   .rintro((q|q)|q)
    .exact .inl q
    .exact .inr (.inl q)
    .exact .inr (.inr q)
   .rintro(q|q|q)
    .exact .inl (.inl q)
    .exact .inl (.inr q)
    .exact .inr q
  .show zfO y n∈st.taken++[zfO x r];have h2':n<=if zk0 y=zk0 x then r else st.next (zk0 y):=h2;by_cases q:zk0 y=zk0 x
   .rw[ae q]at h2';have ec:zfO y n=zfO x n:=(by rw[zg8 h1,zg8 h1,zHG q]);rw[ec];rcases bG n r with k|k
    .exact aV.2 (.inl (r3 n h1 k))
    .rw[show n=r by omega];simp
   .rw[aa q]at h2';exact aV.2 (.inl (h.nx y n hy h1 h2'))
  .show(st.o++[r])[i]? = some 0;rcases bG i done.length with q|q
   .rw[bX q]at hy;rw[bX (by rw[h.len];exact q)];exact h.ne i y hy hya
   .have hi:i=done.length:=(by have:=(ak.1 hy).1;simp at this;omega);subst hi;have hy':x=y:=(by simpa using hy);subst hy';exact absurd hya ha
  .show(zyZ (done++[x]) (st.o++[r])).Nodup;rw[e,kg];exact⟨h.nd,b_,fun a ha' b hb=>by rw[bu.1 hb];exact fun q=>r2 ((h.tk _).2 (.inr (q ▸ ha')))⟩
  .have hn':(st.o++[r])[i]? = some n:=hn;rcases bG i done.length with q|q
   .rw[bX q]at hy;rw[bX (by rw[h.len];exact q)]at hn';exact h.al i y n hy hn' ht htp
   .have hi:i=done.length:=(by have:=(ak.1 hy).1;simp at this;omega);subst hi;have hy':x=y:=(by simpa using hy);subst hy';rw[<- h.len]at hn';have hn2:r=n:=(by simpa using hn');subst hn2;exact absurd ((h.tk _).2 (.inl ⟨htp,ht⟩)) r2
def zpZ(xs:List CitX)(hx:∀x∈xs,none∈x.2):∀(done rest:List CitX),done++rest=xs->SufI (xs.map (·.1)) done (zcA (xs.map (·.1)) done):=by
 have key:∀(n:Nat) (done rest:List CitX),done.length=n->done++rest=xs->SufI (xs.map (·.1)) done (zcA (xs.map (·.1)) done):=by
  intro n
  induction n with
  | zero =>
   intro done rest h1 _;obtain rfl:=bD.1 h1;exact .zero _
  | succ n ih =>
   intro done rest h1 h2;obtain⟨o,y,rfl⟩:∃o y,done=o++[y]:=⟨done.dropLast,done.getLast (by intro q;subst q;cases h1),(fx _).symm⟩;have h3:o++y::rest=xs:=(by rw[<- h2];simp);have h4:=ih o (y::rest) (by simpa using h1) h3;rw[zh1];subst h3;exact h4.step (hx y b_)
 intro done rest h;exact key _ done rest rfl h
def zE6(xs:List CitX)(hx:∀x∈xs,none∈x.2):(zE4 xs).length=xs.length:=(zpZ xs hx xs [] b_).len
def zB4{l:Bs}{k:Nat}(hk:k<l.length)(h:l[k]=10):lnB l=false:=by
 unfold lnB;have:l.contains 10=true:=by
  rw[bR,<- h];exact dm hk
 rw[this];simp
def zGp{l:Bs}(h:∀k (hk:k<l.length),l[k]≠10):lnB l=za9 (bs l):=by
 unfold lnB;have:l.contains 10=false:=by
  rw[eE];intro q;rw[bR]at q;obtain⟨k,hk,e⟩:=dZ q;exact h k hk e
 rw[this];simp
def zB5{y:StyT}(h:zcU y=0):zeV y.cite=0/\zkU (zhM y.cite) (if y.numeric=true then zbH else zcN)=true:=by
 have hc:zv1 y=0:=by
  unfold zcU at h
  split at h
  .cases h
  .split at h
   .cases h
   .split at h
    .rename_i q;exact absurd h q
    .split at h
     .rename_i q;exact absurd h q
     .rename_i q;exact dR.1 q
 unfold zv1 at hc
 split at hc
 .rename_i q;exact absurd hc q
 .rename_i q;refine⟨dR.1 q,?_⟩;cases CF:zkU (zhM y.cite) (if y.numeric=true then zbH else zcN)with
  | true=>rfl
  | false=>rw[CF,ae rfl]at hc;cases hc
def zJY(val:Bs->Bs)(key:Bs)(ds:List Int)(p:Pc):Tok:=if ds.contains (p.grp:Int)=true then []else if p.fld=true then(if p.txt=key then [none]else(val p.txt).map some)else p.txt.map some
def zB6(val rj:Bs->Bs)(key s:Bs)(ds:List Int)(h1:val key=s)(h2:∀k,k≠key->val k=rj k)(p:Pc):ze2 s (zJY rj key ds p)=zhI val ds p:=by
 unfold zJY zhI
 split
 .rfl
 .split
  .split
   .rename_i q;rw[zB2,q,h1]
   .rename_i q;rw[zsP,h2 _ q]
  .rw[zsP]
def zy1(ps:List Pc)(v1 v2:Bs->Bs)(h:∀k,(v1 k==[])=(v2 k==[])):zcT ps v1=zcT ps v2:=by
 unfold zcT;congr 1;refine List.filter_congr fun p _=>?_;rw[h]
def zHH(ps:List Pc)(val:Bs->Bs)(key:Bs):Tok:=ps.flatMap (zJY val key (zcT ps val))
def zB7(ps:List Pc)(val rj:Bs->Bs)(key s:Bs)(hs:s≠[])(h0:rj key≠[])(h1:val key=s)(h2:∀k,k≠key->val k=rj k):zrI ps val=ze2 s (zHH ps rj key):=by
 have hd:zcT ps val=zcT ps rj:=zy1 ps val rj (fun k=>by
  by_cases q:k=key
  .subst q;have a:(val k==[])=false:=(by rw[h1];simpa using hs);have b:(rj k==[])=false:=(by simpa using h0);rw[a,b]
  .rw[h2 k q])
 unfold zrI zHH;rw[zB1,hd];congr 1;funext p;exact(zB6 val rj key s _ h1 h2 p).symm
def zB8(ps:List Pc)(val:Bs->Bs)(key:Bs)(h0:val key≠[])(h:zkU ps key=true):none∈zHH ps val key:=by
 unfold zkU at h;rw[dv]at h;obtain⟨p,hp,h1⟩:=h;rw[ba,ba,ir,bh]at h1;obtain⟨hf,ht,ho⟩:=h1;have hd:(zcT ps val).contains (p.grp:Int)=false:=by
  rw[eE];intro q;rw[bR]at q;unfold zcT at q;rw[bQ]at q;obtain⟨p2,hp2,e⟩:=q;rw[eU]at hp2;obtain⟨hm,hc⟩:=hp2;rw[ba,ba,bh]at hc;obtain⟨c1,c2,c3⟩:=hc;rw[eE]at ho;refine ho ?_;rw[bR];unfold zhN;rw[bQ];refine⟨p2,?_,e⟩;rw[eU];refine⟨hm,?_⟩;have:(p2.txt==key)=false:=by
   rw[ab];intro q;rw[q]at c3;exact h0 c3
  rw[c1,this,c2];rfl
 unfold zHH;rw[ef];refine⟨p,hp,?_⟩;unfold zJY;rw[hd,aa b_,ae hf,ae ht];simp
def zp0(c:FilT)(s:Bs):znP { c with suffix:=s } zcN=s:=by
 unfold znP zgF;rfl
def zoJ(c:FilT)(s k:Bs)(h:k≠zcN):znP { c with suffix:=s } k=znP c k:=by
 have hk:(zcN==k)=false:=(by rw[ab];exact fun e=>h e.symm);unfold znP zgF;simp only[fw,hk];rfl
def zE7{y:StyT}(hy:zcU y=0)(hn:y.numeric=false)(c:FilT)(s:Bs)(hs:s≠[]):zfH { c with suffix:=s } y.cite=ze2 s (zHH (zhM y.cite) (znP { c with suffix:=[97] }) zcN) :=
 zB7 _ _ _ _ s hs (by rw[zp0];simp) (zp0 c s) (fun k hk=>by rw[zoJ c s k hk,zoJ c [97] k hk])
def zB9{y:StyT}(hy:zcU y=0)(hn:y.numeric=false)(c:FilT):none∈zHH (zhM y.cite) (znP { c with suffix:=[97] }) zcN:=by
 have h:=(zB5 hy).2;rw[hn]at h;exact zB8 _ _ _ (by rw[zp0];simp) h
def zk1(s:SrcT)(y:StyT)(lang suf:Bs)(n:Int):FilT:=⟨s.key,s.type,s.author,s.editor,s.fields,lang,suf,n,y.most⟩
def zuL(s:SrcT)(y:StyT)(lang suf:Bs):Bs:=zfH (zk1 s y lang suf 0) y.cite
def zuM(y:StyT)(lang:Bs)(s:SrcT):CitX:=(zuL s y lang [],zHH (zhM y.cite) (znP (zk1 s y lang [97] 0)) zcN)
def zJh{y:StyT}(hy:zcU y=0)(hn:y.numeric=false)(lang:Bs)(s:SrcT)(n:Nat):zuL s y lang (zeN n)=zfO (zuM y lang s) n:=by
 unfold zfO
 split
 .rename_i q;subst q;unfold zeN;rw[zdD];rfl
 .rename_i q;exact zE7 hy hn (zk1 s y lang [] 0) (zeN n) (zHE a_)
def zmU{y:StyT}(hy:zcU y=0)(hn:y.numeric=false)(lang:Bs)(s:SrcT):none∈(zuM y lang s).2:=zB9 hy hn (zk1 s y lang [] 0)
def zjI(y:StyT)(lang:Bs)(l:List SrcT):Int×List Bs:=if zcU y=0 then(0,if y.numeric=true then l.map fun _=>[]else(zE4 (l.map (zuM y lang))).map zeN)else(zcU y,[])
def zGq{ps:List Bs}{done:List CitX}{st:SufS}(h:SufI ps done st){x:CitX}(hx:none∈x.2):zsQ st.taken x st.taken.length (st.next (zk0 x))<=st.taken.length+1:=by
 obtain⟨h1,h2,h3⟩:=h.old hx;have:=zuK hx (zsQ st.taken x st.taken.length (st.next (zk0 x)) - 1) st.taken 1 a_ (fun j hj=>h3 (1+j) a_ a_);omega
def zwO{ps:List Bs}{done:List CitX}{st:SufS}(h:SufI ps done st)(hl:done.length<=ps.length):st.taken.length<=2 * ps.length:=by
 have h1:=h.tl;have h2:=fC (zbZ ps) ps;omega
def jk:=@OutG.ne_blk
end Go.Proofs.YtnldgmhdjancbaaGreatDoor
