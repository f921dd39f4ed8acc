/- Parts. -/
import Derived.Test.YtnldgmhdjancbaaGreatDoorW16
set_option linter.all false
set_option maxRecDepth 100000
set_option maxHeartbeats 12800000
namespace Go.Proofs.YtnldgmhdjancbaaGreatDoor
open Go.RowKit Go.Proofs.Tryz
def FitL.fitV{s:SrcT}(h:FitL s)(y:StyT)(hy : -9223372036854775808<=y.most/\y.most<=9223372036854775807)(lang suf:Bs)(hs:suf.length<=1000)(n:Int)(hn : -9223372036854775808<=n/\n<=9223372036854775807):FitV (zk1 s y lang suf n):=by
 obtain⟨h1,h2,h3,h4,h5,h6⟩:=h;have h7:=zpU h5 kYr;have hq:∀q∈s.author++s.editor,zeB q<=10000:=fun q hq=>by
  have:=h6 q hq;unfold zeB;omega
 refine⟨⟨?_,?_,fun q hx=>hq q (gF _ hx),fun q hx=>hq q (gn _ hx),hy,?_,?_,hn⟩,?_,?_,?_,fun p hp=>?_⟩
 .show s.author.length<=_;omega
 .show s.editor.length<=_;omega
 .show s.fields.length<=_;omega
 .show((za3 s.fields kYr).getD []).length<=_;omega
 .show s.key.length<=_;omega
 .show s.type.length<=_;omega
 .show suf.length<=_;omega
 .have:=h5 p hp;omega
def zmV(Y L:Nat)(vA vE vF vY:Value)(s:SrcT)(y:StyT)(lang suf:Bs)(w:World)(ni:EnvC w)(hb:Blk w Y 28 (zaK vY y))(hl:Blk w L 9 #[.string (bs lang)])(hY:vY.oneCell'=true)(NE:y.cite.length<=100000)(hym : -9223372036854775808<=y.most/\y.most<=9223372036854775807)(hA:Perss w vA s.author)(hE:Perss w vE s.editor)(hF:Prs w vF s.fields)(hft:FitL s)(hs:suf.length<=1000):Calls prog 35 #[znF s.key s.type vA vE vF,.string (bs suf),.pointer (some ⟨Y,0,none⟩),.pointer (some ⟨L,0,none⟩)] w fun e w'=>e=.returned (.string (bs (zuL s y lang suf)))/\Kept w w':=by
 obtain⟨aA,cA,rfl,lA⟩:=hA.shape;obtain⟨aE,cE,rfl,lE⟩:=hE.shape;obtain⟨aF,cF,rfl,lF⟩:=(show∃a c,vF=.slice a s.fields.length c/\s.fields.length<=c by obtain⟨a,c,e,l,_⟩:=hF;exact⟨a,c,e,l⟩);have lg:=Hd (zaA w (.cells #[.string (bs s.key),.string (bs s.type),.slice aA s.author.length cA,.slice aE s.editor.length cE,.slice aF s.fields.length cF] 50));have sX:=Hd (aI w 50 #[.string (bs s.key),.string (bs s.type),.slice aA s.author.length cA,.slice aE s.editor.length cE,.slice aF s.fields.length cF]);have qh:=Hd (fun w' (k:Kept w w')=>zrZ (zk1 s y lang suf 0) y.cite (.slice aA s.author.length cA) (.slice aE s.editor.length cE) (.slice aF s.fields.length cF) vY y w' rfl hY (ni.gnd.kept k) (zeS ni.tab k) NE (hft.fitV y hym lang suf hs 0 a_) (hA.kept k) (hE.kept k) (hF.kept k));have mj:=Hd (fun w' (k:Kept w w')=>zc9 (hb.kept k));have Im:=Hd (fun w' (k:Kept w w')=>hl.kept k);unfold zfA zaK at qh;simp only[zk1]at qh;have pP:Hi (zfH (zk1 s y lang suf 0) y.cite=zuL s y lang suf):=rfl;unfold zk1 at pP;rw[pP.o]at qh;generalize zuL s y lang suf=R at *;generalize zeV y.cite=E at *;clear hA hE hF hb hl hft pP ni;go_in;go_upto_region 1 with fail;obtain⟨B,mW⟩:=gX w.heap.size;rw[mW.o]at sX ⊢;generalize w.alloc _=w0 at *;obtain⟨⟨b0,b1,b2,b3,b4,b5,b6,b7,b8,b9⟩,bz⟩:=mj.o w0 lg.o;have l0:=(Im.o w0 lg.o).cell 0 _ rfl;have lz:=(Im.o w0 lg.o).lt;have x0:=sX.o.cell 0 _ rfl;have x1:=sX.o.cell 1 _ rfl;have x2:=sX.o.cell 2 _ rfl;have x3:=sX.o.cell 3 _ rfl;have x4:=sX.o.cell 4 _ rfl;have xz:=sX.o.lt;have qQ:=Hd (qh.o w0 lg.o);clear qh mj Im mW;go_wp2_with fail;refine k_ qQ.o fun w2 ll=>?_;have kX:=Hd (lg.o.trans ll);clear ll qQ x0 x1 x2 x3 x4 xz b0 b1 b2 b3 b4 b5 b6 b7 b8 b9 bz l0 lz sX;go_wp2
 (try go_ret)
 exact⟨rfl,kX.o⟩
def Lns.at_{S:Nat->Prop}{n:Nat}{w:World}{a:Option Addr}{m c:Nat}{xs:List Inl}(h:Lns S (n+1) w (.slice a m c) xs)(j:Nat)(x:Inl)(hx:xs[j]? = some x):∃g o vC vP vA vT vK,a=some ⟨g,o,none⟩/\g<w.heap.size/\S g/\m=xs.length/\xs.length<=c/\(w.cell? ⟨g,o+j * 10,none⟩=some (.int .i64 x.kind)/\w.cell? ⟨g,o+j * 10+1,none⟩=some (.string (bs x.text))/\w.cell? ⟨g,o+j * 10+2,none⟩=some (.string (bs x.dest))/\w.cell? ⟨g,o+j * 10+3,none⟩=some (.string (bs x.title))/\w.cell? ⟨g,o+j * 10+4,none⟩=some (.string (bs x.id))/\w.cell? ⟨g,o+j * 10+5,none⟩=some vC/\w.cell? ⟨g,o+j * 10+6,none⟩=some vP/\w.cell? ⟨g,o+j * 10+7,none⟩=some vA/\w.cell? ⟨g,o+j * 10+8,none⟩=some vT/\w.cell? ⟨g,o+j * 10+9,none⟩=some vK)/\(∀i u,(zn8 x vC vP vA vT vK)[i]? = some u->w.cell? ⟨g,o+j * 10+i,none⟩=some u)/\(Strs w vC x.cls/\InB S vC x.cls.length)/\(Prs w vP x.prs/\InB S vP x.prs.length)/\(Strs w vA x.args/\InB S vA x.args.length)/\Cits S w vT x.cits/\Lns S n w vK x.kids:=by
 obtain⟨g,o,cs,ha,hg,hS,hl,hc,hR,hm,hle⟩:=iJ (show RowR S 10 _ _ _ _ from h) j x hx;obtain⟨vC,vP,vA,vT,vK,rfl,r1,r2,r3,r4,r5⟩:=hR;exact⟨g,o,vC,vP,vA,vT,vK,ha,hg,hS,hm,hle,⟨by simpa using hc 0 _ rfl,hc 1 _ rfl,hc 2 _ rfl,hc 3 _ rfl,hc 4 _ rfl,hc 5 _ rfl,hc 6 _ rfl,hc 7 _ rfl,hc 8 _ rfl,hc 9 _ rfl⟩,hc,r1,r2,r3,r4,r5⟩
def Bls.at_{S:Nat->Prop}{m0 n:Nat}{w:World}{a:Option Addr}{m c:Nat}{xs:List Blo}(h:Bls S m0 (n+1) w (.slice a m c) xs)(j:Nat)(x:Blo)(hx:xs[j]? = some x):∃g o vC vP vL vK,a=some ⟨g,o,none⟩/\g<w.heap.size/\S g/\m=xs.length/\xs.length<=c/\(w.cell? ⟨g,o+j * 11,none⟩=some (.int .i64 x.kind)/\w.cell? ⟨g,o+j * 11+1,none⟩=some (.int .i64 x.level)/\w.cell? ⟨g,o+j * 11+2,none⟩=some (.string (bs x.info))/\w.cell? ⟨g,o+j * 11+3,none⟩=some (.string (bs x.text))/\w.cell? ⟨g,o+j * 11+4,none⟩=some (.string (bs x.dest))/\w.cell? ⟨g,o+j * 11+5,none⟩=some (.string (bs x.title))/\w.cell? ⟨g,o+j * 11+6,none⟩=some (.string (bs x.id))/\w.cell? ⟨g,o+j * 11+7,none⟩=some vC/\w.cell? ⟨g,o+j * 11+8,none⟩=some vP/\w.cell? ⟨g,o+j * 11+9,none⟩=some vL/\w.cell? ⟨g,o+j * 11+10,none⟩=some vK)/\(∀i u,(zqQ x vC vP vL vK)[i]? = some u->w.cell? ⟨g,o+j * 11+i,none⟩=some u)/\(Strs w vC x.cls/\InB S vC x.cls.length)/\(Prs w vP x.prs/\InB S vP x.prs.length)/\Lns S m0 w vL x.line/\Bls S m0 n w vK x.kids:=by
 obtain⟨g,o,cs,ha,hg,hS,hl,hc,hR,hm,hle⟩:=iJ (show RowR S 11 _ _ _ _ from h) j x hx;obtain⟨vC,vP,vL,vK,rfl,r1,r2,r3,r4⟩:=hR;exact⟨g,o,vC,vP,vL,vK,ha,hg,hS,hm,hle,⟨by simpa using hc 0 _ rfl,hc 1 _ rfl,hc 2 _ rfl,hc 3 _ rfl,hc 4 _ rfl,hc 5 _ rfl,hc 6 _ rfl,hc 7 _ rfl,hc 8 _ rfl,hc 9 _ rfl,hc 10 _ rfl⟩,hc,r1,r2,r3,r4⟩
def Lns.no{S:Nat->Prop}{w:World}{v:Value}{xs:List Inl}(h:Lns S 0 w v xs):xs=[]:=h.1
def Bls.no{S:Nat->Prop}{m:Nat}{w:World}{v:Value}{xs:List Blo}(h:Bls S m 0 w v xs):xs=[]:=h.1
mutual
def zIT:Inl->Prop
 | .mk _ kN kP title id cls prs args kQ kM=>(kN.length<=900000000/\kP.length<=1000000/\title.length<=1000000/\id.length<=1000000/\cls.length<=1000000/\prs.length<=1000000/\args.length<=1000000/\kQ.length<=1000000/\kM.length<=1000000)/\zAe kM
def zAe:List Inl->Prop
 | []=>True
 | x::xs=>zIT x/\zAe xs
end
mutual
def zIU:Blo->Prop
 | .mk _ _ kW kN kP title id cls prs kY kM=>(kW.length<=1000000/\kN.length<=1000000/\kP.length<=1000000/\title.length<=1000000/\id.length<=1000000/\cls.length<=1000000/\prs.length<=1000000/\kY.length<=1000000/\kM.length<=1000000)/\zAe kY/\zy2 kM
def zy2:List Blo->Prop
 | []=>True
 | x::xs=>zIU x/\zy2 xs
end
def zp1{xs:List Inl}(h:zAe xs):∀x∈xs,zIT x:=by
 induction xs with
 | nil=>intro x hx;cases hx
 | cons y ys ih =>
  intro x hx;rcases bj.1 hx with rfl|hx
  .exact h.1
  .exact ih h.2 x hx
def zHI{xs:List Blo}(h:zy2 xs):∀x∈xs,zIU x:=by
 induction xs with
 | nil=>intro x hx;cases hx
 | cons y ys ih =>
  intro x hx;rcases bj.1 hx with rfl|hx
  .exact h.1
  .exact ih h.2 x hx
def zIT.fit{x:Inl}(h:zIT x):(x.text.length<=900000000/\x.dest.length<=1000000/\x.title.length<=1000000/\x.id.length<=1000000/\x.cls.length<=1000000/\x.prs.length<=1000000/\x.args.length<=1000000/\x.cits.length<=1000000/\x.kids.length<=1000000)/\zAe x.kids:=by cases x;exact h
def zIU.fit{x:Blo}(h:zIU x):(x.info.length<=1000000/\x.text.length<=1000000/\x.dest.length<=1000000/\x.title.length<=1000000/\x.id.length<=1000000/\x.cls.length<=1000000/\x.prs.length<=1000000/\x.line.length<=1000000/\x.kids.length<=1000000)/\zAe x.line/\zy2 x.kids:=by cases x;exact h
def zuN{xs:List Inl}{k:Nat}{x:Inl}(h:xs[k]? = some x):zbY (xs.take (k+1))=zbY (xs.take k)++zmL x:=by
 rw[zaV h,zoC];show _++(zmL x++[])=_;rw[bN]
def zCa(xs:List Inl)(k:Nat):(zbY (xs.take k)).length<=(zbY xs).length:=by
 conv=>rhs;rw[<- ce k xs]
 rw[zoC,ah];omega
def zy3{xs:List Inl}{k:Nat}{x:Inl}(h:xs[k]? = some x):zaD (xs.take (k+1))=zaD (xs.take k)++zeH x:=by
 rw[zaV h,zfM];show _++(zeH x++[])=_;rw[bN]
def zE8(xs:List Inl)(k:Nat):(zaD (xs.take k)).length<=(zaD xs).length:=by
 conv=>rhs;rw[<- ce k xs]
 rw[zfM,ah];omega
def zy4{xs:List Blo}{k:Nat}{x:Blo}(h:xs[k]? = some x):zaW (xs.take (k+1))=zaW (xs.take k)++ze1 x:=by
 rw[zaV h,zi5];show _++(ze1 x++[])=_;rw[bN]
def zE9(xs:List Blo)(k:Nat):(zaW (xs.take k)).length<=(zaW xs).length:=by
 conv=>rhs;rw[<- ce k xs]
 rw[zi5,ah];omega
def txB(s:Bs):Bs:=if s=[]then [63]else s
def txC(s:Bs):List Value:=[.int .i64 1,.string (bs (txB s)),.string (bs []),.string (bs []),.string (bs []),.slice none 0 0,.slice none 0 0,.slice none 0 0,.slice none 0 0,.slice none 0 0]
def txI(s:Bs):Inl:=.mk 1 (txB s) [] [] [] [] [] [] [] []
def zoK(s:Bs)(w:World):Calls prog 95 #[.string (bs s)] w fun e w'=>e=.returned (.agg (txC s).toArray)/\Kept w w':=by
 skip
 unfold txC txB;by_cases h:s=[]
 .subst h;rw[ae rfl];go_in;go_wp2_with fail;have hb:=aI w 65 #[.int .i64 1,.string (bs [63]),.string (bs []),.string (bs []),.string (bs []),.slice none 0 0,.slice none 0 0,.slice none 0 0,.slice none 0 0,.slice none 0 0];have hk:=zaA w (.cells #[.int .i64 1,.string (bs [63]),.string (bs []),.string (bs []),.string (bs []),.slice none 0 0,.slice none 0 0,.slice none 0 0,.slice none 0 0,.slice none 0 0] 65);generalize w.alloc _=w1 at *;have r0:=hb.cell 0 _ rfl;have r1:=hb.cell 1 _ rfl;have r2:=hb.cell 2 _ rfl;have r3:=hb.cell 3 _ rfl;have r4:=hb.cell 4 _ rfl;have r5:=hb.cell 5 _ rfl;have r6:=hb.cell 6 _ rfl;have r7:=hb.cell 7 _ rfl;have r8:=hb.cell 8 _ rfl;have r9:=hb.cell 9 _ rfl;have rz:=hb.lt;refine bM (v:=.agg #[.int .i64 1,.string (bs [63]),.string (bs []),.string (bs []),.string (bs []),.slice none 0 0,.slice none 0 0,.slice none 0 0,.slice none 0 0,.slice none 0 0]) ?_ rfl ⟨rfl,hk⟩;simp [results,results95,go_sem,r0,r1,r2,r3,r4,r5,r6,r7,r8,r9,rz]
 .have hb0:(s==([]:Bs))=false:=(by rw[ab];exact h);have hbe:s.isEmpty=false:=(by rw[cJ];exact h);rw[aa h];go_in;go_wp2_with fail;have hb:=aI w 65 #[.int .i64 1,.string (bs s),.string (bs []),.string (bs []),.string (bs []),.slice none 0 0,.slice none 0 0,.slice none 0 0,.slice none 0 0,.slice none 0 0];have hk:=zaA w (.cells #[.int .i64 1,.string (bs s),.string (bs []),.string (bs []),.string (bs []),.slice none 0 0,.slice none 0 0,.slice none 0 0,.slice none 0 0,.slice none 0 0] 65);generalize w.alloc _=w1 at *;have r0:=hb.cell 0 _ rfl;have r1:=hb.cell 1 _ rfl;have r2:=hb.cell 2 _ rfl;have r3:=hb.cell 3 _ rfl;have r4:=hb.cell 4 _ rfl;have r5:=hb.cell 5 _ rfl;have r6:=hb.cell 6 _ rfl;have r7:=hb.cell 7 _ rfl;have r8:=hb.cell 8 _ rfl;have r9:=hb.cell 9 _ rfl;have rz:=hb.lt;refine bM (v:=.agg #[.int .i64 1,.string (bs s),.string (bs []),.string (bs []),.string (bs []),.slice none 0 0,.slice none 0 0,.slice none 0 0,.slice none 0 0,.slice none 0 0]) ?_ rfl ⟨rfl,hk⟩;simp [results,results95,go_sem,r0,r1,r2,r3,r4,r5,r6,r7,r8,r9,rz]
def flC(vY:Value)(y:StyT)(lang:Bs)(vE:Value)(M:Nat):Array Value:=#[.string (bs y.name),.bool y.numeric,.string (bs y.sort),.string (bs y.cite),.string (bs y.bare),.string (bs y.between),.string (bs y.begin_),.string (bs y.end_),.int .i64 y.most,vY,.string (bs lang),vE,.map (some M)]
abbrev enV(s:SrcT)(suf:Bs)(n:Int)(vA vE vF:Value):Value:=.agg #[.string (bs s.key),.string (bs s.type),vA,vE,vF,.string (bs suf),.int .i64 n]
def zFa(F M:Nat)(vY sL vA vE vF:Value)(s:SrcT)(y:StyT)(lang suf t:Bs)(n:Int)(w:World)(ni:EnvC w)(hf:Blk w F 77 (flC vY y lang sL M))(hY:vY.oneCell'=true)(ht:t.length<=100000)(hym : -9223372036854775808<=y.most/\y.most<=9223372036854775807)(hn : -9223372036854775808<=n/\n<=9223372036854775807)(hA:Perss w vA s.author)(hE:Perss w vE s.editor)(hF:Prs w vF s.fields)(hft:FitL s)(hs:suf.length<=1000):Calls prog 96 #[.pointer (some ⟨F,0,none⟩),.string (bs t),enV s suf n vA vE vF] w fun e w'=>e=.returned (.string (bs (zfH (zk1 s y lang suf n) t)))/\Kept w w':=by
 obtain⟨aA,cA,rfl,lA⟩:=hA.shape;obtain⟨aE,cE,rfl,lE⟩:=hE.shape;obtain⟨aF,cF,rfl,lF⟩:=(show∃a c,vF=.slice a s.fields.length c/\s.fields.length<=c by obtain⟨a,c,e,l,_⟩:=hF;exact⟨a,c,e,l⟩);have lg:=Hd (zaA w (.cells #[.string (bs s.key),.string (bs s.type),.slice aA s.author.length cA,.slice aE s.editor.length cE,.slice aF s.fields.length cF,.string (bs suf),.int .i64 n] 79));have HX0:=Hd (aI w 79 #[.string (bs s.key),.string (bs s.type),.slice aA s.author.length cA,.slice aE s.editor.length cE,.slice aF s.fields.length cF,.string (bs suf),.int .i64 n]);have qh:=Hd (fun w' (k:Kept w w')=>zrZ (zk1 s y lang suf n) t (.slice aA s.author.length cA) (.slice aE s.editor.length cE) (.slice aF s.fields.length cF) vY y w' rfl hY (ni.gnd.kept k) (zeS ni.tab k) ht (hft.fitV y hym lang suf hs n hn) (hA.kept k) (hE.kept k) (hF.kept k));have qa:=Hd (fun w' (k:Kept w w')=>hf.kept k);unfold zfA zaK at qh;simp only[zk1]at qh;unfold flC at qa;have pP:Hi (zfH (zk1 s y lang suf n) t=zfH ⟨s.key,s.type,s.author,s.editor,s.fields,lang,suf,n,y.most⟩ t):=rfl;rw[pP.o];generalize zfH _ t=R at *;generalize zeV t=E at *;clear hA hE hF hf hft pP ni hY;go_in;go_upto_region 1 with fail;obtain⟨B,mW⟩:=gX w.heap.size;rw[mW.o]at HX0 ⊢;generalize w.alloc _=w0 at *;have HC:Hi (∀w',Kept w0 w'->((w'.cell? ⟨B,0,none⟩=some (.string (bs s.key))/\w'.cell? ⟨B,1,none⟩=some (.string (bs s.type))/\w'.cell? ⟨B,2,none⟩=some (.slice aA s.author.length cA)/\w'.cell? ⟨B,3,none⟩=some (.slice aE s.editor.length cE)/\w'.cell? ⟨B,4,none⟩=some (.slice aF s.fields.length cF)/\w'.cell? ⟨B,5,none⟩=some (.string (bs suf))/\w'.cell? ⟨B,6,none⟩=some (.int .i64 n)) /\
   (w'.cell? ⟨F,0,none⟩=some (.string (bs y.name))/\w'.cell? ⟨F,1,none⟩=some (.bool y.numeric)/\w'.cell? ⟨F,2,none⟩=some (.string (bs y.sort))/\w'.cell? ⟨F,3,none⟩=some (.string (bs y.cite))/\w'.cell? ⟨F,4,none⟩=some (.string (bs y.bare))/\w'.cell? ⟨F,5,none⟩=some (.string (bs y.between))/\w'.cell? ⟨F,6,none⟩=some (.string (bs y.begin_))/\w'.cell? ⟨F,7,none⟩=some (.string (bs y.end_))/\w'.cell? ⟨F,8,none⟩=some (.int .i64 y.most)/\w'.cell? ⟨F,9,none⟩=some vY/\w'.cell? ⟨F,10,none⟩=some (.string (bs lang)))/\(B<w'.heap.size/\F<w'.heap.size)/\Kept w0 w')):=fun w' k =>
  have h1:=HX0.o.kept k;have h2:=qa.o w' (lg.o.trans k)
  ⟨⟨h1.cell 0 _ rfl,h1.cell 1 _ rfl,h1.cell 2 _ rfl,h1.cell 3 _ rfl,h1.cell 4 _ rfl,h1.cell 5 _ rfl,h1.cell 6 _ rfl⟩,⟨h2.cell 0 _ rfl,h2.cell 1 _ rfl,h2.cell 2 _ rfl,h2.cell 3 _ rfl,h2.cell 4 _ rfl,h2.cell 5 _ rfl,h2.cell 6 _ rfl,h2.cell 7 _ rfl,h2.cell 8 _ rfl,h2.cell 9 _ rfl,h2.cell 10 _ rfl⟩,⟨h1.lt,h2.lt⟩,k⟩
 have hkd:Kept w0 w0.drew:=zaB w0 1;obtain⟨⟨t0,t1,t2,t3,t4,t5,t6⟩,⟨u0,u1,u2,u3,u4,u5,u6,u7,u8,u9,u10⟩,⟨z1,z2⟩,-⟩:=HC.o w0 (af _);clear HX0 qa mW
 go_region_held3 (fun w'=>(w'.cell? ⟨B,0,none⟩=some (.string (bs s.key))/\w'.cell? ⟨B,1,none⟩=some (.string (bs s.type))/\w'.cell? ⟨B,2,none⟩=some (.slice aA s.author.length cA)/\w'.cell? ⟨B,3,none⟩=some (.slice aE s.editor.length cE)/\w'.cell? ⟨B,4,none⟩=some (.slice aF s.fields.length cF)/\w'.cell? ⟨B,5,none⟩=some (.string (bs suf))/\w'.cell? ⟨B,6,none⟩=some (.int .i64 n)) /\
   (w'.cell? ⟨F,0,none⟩=some (.string (bs y.name))/\w'.cell? ⟨F,1,none⟩=some (.bool y.numeric)/\w'.cell? ⟨F,2,none⟩=some (.string (bs y.sort))/\w'.cell? ⟨F,3,none⟩=some (.string (bs y.cite))/\w'.cell? ⟨F,4,none⟩=some (.string (bs y.bare))/\w'.cell? ⟨F,5,none⟩=some (.string (bs y.between))/\w'.cell? ⟨F,6,none⟩=some (.string (bs y.begin_))/\w'.cell? ⟨F,7,none⟩=some (.string (bs y.end_))/\w'.cell? ⟨F,8,none⟩=some (.int .i64 y.most)/\w'.cell? ⟨F,9,none⟩=some vY/\w'.cell? ⟨F,10,none⟩=some (.string (bs lang)))/\(B<w'.heap.size/\F<w'.heap.size)/\Kept w0 w')
  ((refine HC.o _ ?_;assumption))
  (first
   | (go_at_call 36;refine k_ (qh.o _ (lg.o.trans hkd)) fun w3 li=>?_;have k1:Kept w w3:=(lg.o.trans hkd).trans li;have hkz:Kept w0 w3:=hkd.trans li;clear li))
 all_goals
  go_wp2
  (try go_ret)
  exact⟨rfl,k1⟩
def zHJ(x t:Bs)(hx:0<x.length)(hg:zb4 (dec (bs x) 0)=true):dec (bs (x++t)) 0=dec (bs x) 0:=by
 have e0:zaC (bs (x++t)) 0=zaC (bs x) 0:=(by rw[za4,za4];exact zlB x t 0 hx);have A:∀k a b,k<x.length->zaH (bs (x++t)) k a b=zaH (bs x) k a b:=by
  intro k a b h;unfold zaH;rw[za4,za4,zlB x t k h];have:((bs (x++t)).size<=k)↔((bs x).size<=k):=e_;simp only[this]
 have C:∀k a b,x.length<=k->zaH (bs x) k a b = -1:=by
  intro k a b h;unfold zaH;rw[ae (.inl (by simpa using h))]
 have bad:zb4 (65533,1)=false:=c_;unfold dec zhH ztQ at hg ⊢;rw[e0];simp only[bP]at hg ⊢;rcases(show x.length=1\/x.length=2\/x.length=3\/4<=x.length by omega)with h|h|h|h
 .simp only[C 1 _ _ a_,C 2 _ _ a_,C 3 _ _ a_]at hg ⊢
  split at hg
  .rename_i q;rw[ae q,ae q]
  .exfalso;revert hg;simp [bad]
 .simp only[A 1 _ _ a_,C 2 _ _ a_,C 3 _ _ a_]at hg ⊢
  split at hg
  .rename_i q;rw[ae q,ae q]
  .rename_i q
   split at hg
   .rename_i q2;rw[aa q,aa q,ae q2,ae q2]
   .exfalso;revert hg;simp [bad]
 .simp only[A 1 _ _ a_,A 2 _ _ a_,C 3 _ _ a_]at hg ⊢
  split at hg
  .rename_i q;rw[ae q,ae q]
  .rename_i q
   split at hg
   .rename_i q2;rw[aa q,aa q,ae q2,ae q2]
   .rename_i q2
    split at hg
    .rename_i q3;rw[aa q,aa q,aa q2,aa q2,ae q3,ae q3]
    .exfalso;revert hg;simp [bad]
 .simp only[A 1 _ _ a_,A 2 _ _ a_,A 3 _ _ a_]
def zsT(t:Bs):∀(n:Nat) (x:Bs),x.length<=n->za9 (bs x)=true->za9 (bs (x++t))=za9 (bs t)
 | 0,x,h,_=>by obtain rfl:x=[]:=bD.1 a_;rfl
 | n+1,x,h,hv=>by
  by_cases h0:x=[]
  .subst h0;rfl
  have hl:=eI.2 h0;have hb:=zaX (bs x) 0 (by simpa using hl);simp only[zdZ]at hb;rw[ze9 x hl,ba]at hv;have e:(x++t).drop (dec (bs x) 0).2.toNat=x.drop (dec (bs x) 0).2.toNat++t:=kv a_;rw[ze9 (x++t) e_,zHJ x t hl hv.1,hv.1,e,zsT t n _ e_ hv.2];rfl
def zHK{x t:Bs}(h:lnB x=true):lnB (x++t)=lnB t:=by
 unfold lnB at h ⊢;rw[ba]at h;rw[zsT t _ x (aw _) h.1,List.contains_append];have:x.contains 10=false:=(by simpa using h.2);rw[this,eM]
def zb8{x t:Bs}(h:lnB x=true)(h2:lnB t=true):lnB (x++t)=true:=by rw[zHK h,h2]
def zdE:lnB []=true:=zcP rfl
def zkS:lnB [32]=true:=zcP rfl
def zp2{α:Type}(f:α->Bs):∀l:List α,(∀x∈l,lnB (f x)=true)->lnB (l.flatMap f)=true
 | [],_=>zdE
 | x::l,h=>by
  rw[dB];exact zb8 (h x (bI ..)) (zp2 f l fun y hy=>h y (bl _ hy))
def zg9(s:Bs)(hs:lnB s=true)(l:List Bs)(h:∀x∈l,lnB x=true):lnB (Lib.join l s)=true:=by
 cases l with
 | nil=>rw[kh];exact zdE
 | cons x l =>
  rw[gC];refine zb8 (h x (bI ..)) ?_;unfold Lib.joinTail;rw[<- List.flatMap_def];exact zp2 _ l fun y hy=>zb8 hs (h y (bl _ hy))
def zGr(c:UInt8)(hc:32<=(c.toNat:Int)/\(c.toNat:Int)<127)(a b:Bs):lnB (a++c::b)=(lnB a&&lnB b):=zAL c hc a b
def zp3(c:UInt8)(hc:32<=(c.toNat:Int)/\(c.toNat:Int)<127)(b:Bs):lnB (c::b)=lnB b:=by
 have:=zGr c hc [] b;rw[dV,zdE]at this;exact this
def zwP{l:Bs}(h:za8 l=true):lnB l=true:=by
 unfold za8 at h;rw[ba,dn]at h;refine zcP ?_;unfold zBo;rw[dn];intro b hb;have:=h.2 b hb;unfold nmB zDF zyE at this;simp only[dL,ba,cq,bh]at this;rcases this with((((h|h)|rfl)|rfl)|rfl)|rfl
 .simp only[ba,cq];omega
 .simp only[ba,cq];omega
 all_goals decide
def zCb{b:UInt8}(h:zbN zb0 b=true):32<=(b.toNat:Int)/\(b.toNat:Int)<127:=by
 rcases zeD h with rfl|rfl|rfl|rfl<;>decide
def zuO{c:UInt8}(hc:32<=(c.toNat:Int)/\(c.toNat:Int)<127){l:Bs}{k:Nat}(hl:lnB l=true)(h:l.drop k=[]\/∃r,l.drop k=c::r):lnB (l.take k)=true/\lnB (l.drop k)=true:=by
 rcases h with h|⟨r,h⟩
 .have e:=ce k l;rw[h,bN]at e;rw[h,e];exact⟨hl,zdE⟩
 .have e:=ce k l;rw[h]at e;rw[<- e,zGr c hc,ba]at hl;rw[h,zp3 c hc];exact hl
def zCc{b:UInt8}{r:Bs}(h:zbN zb0 b=false):zlZ (b::r)=zlZ r+1:=by
 have hge:=gM zb0 r;unfold zbN at h;have e:Lib.indexAny (b::r) zb0=if(Lib.indexAny r zb0 == -1)=true then -1 else Lib.indexAny r zb0+1:=by
  conv=>lhs;rw[Lib.indexAny]
  rw[aa (by rw[h];exact Bool.false_ne_true)]
 unfold zlZ;rw[e];by_cases q:Lib.indexAny r zb0 = -1
 .rw[q];rfl
 .have hb:(Lib.indexAny r zb0 == -1)=false:=(by rw[ab];exact q);rw[hb,aa Bool.false_ne_true,aa a_,aa a_];omega
def zsU:∀l:Bs,l.drop (zlZ l)=[]\/∃c r,zbN zb0 c=true/\l.drop (zlZ l)=c::r
 | []=>.inl b_
 | b::r=>by
  cases hb:zbN zb0 b with
  | true =>
   refine .inr ⟨b,r,hb,?_⟩;unfold zlZ;rw[zrA hb,aa a_];rfl
  | false =>
   rw[zCc hb];exact zsU r
def zmW:∀(f:Nat) (t:Bs) (gs g:Nat) (l:List Pc),zjM f t gs g=some l->lnB t=true->∀p∈l,lnB p.txt=true
 | 0,_,_,_,_,h,_=>by cases h
 | f+1,[],gs,g,l,h,_=>by
  rw[zk5]at h
  split at h
  .cases h;intro p hp;cases hp
  .cases h
 | f+1,b::r,gs,g,l,h,hl=>by
  cases nc:zbN zb0 b with
  | false =>
   rw[zk6 f gs g nc,cG]at h;obtain⟨l2,h2,rfl⟩:=h;have hc:lnB ((b::r).take (zlZ (b::r)))=true/\lnB ((b::r).drop (zlZ (b::r)))=true:=by
    rcases zsU (b::r)with q|⟨c,r2,q1,q2⟩
    .exact zuO (c:=32) c_ hl (.inl q)
    .exact zuO (zCb q1) hl (.inr ⟨r2,q2⟩)
   intro p hp;rcases bj.1 hp with rfl|hp
   .exact hc.1
   .exact zmW f _ _ _ _ h2 hc.2 p hp
  | true =>
   rw[zp3 b (zCb nc)]at hl;rcases zeD nc with rfl|rfl|rfl|rfl
   .rw[zk7]at h
    split at h
    .rename_i q;rw[cG]at h;obtain⟨l2,h2,rfl⟩:=h;have e:=aJ q.1;rw[ztU 125 r q.1]at e;have hc:=zuO (c:=125) c_ hl (.inr ⟨_,e⟩);have h3:=hc.2;rw[e,zp3 125 c_]at h3;intro p hp;rcases bj.1 hp with rfl|hp
     .exact hc.1
     .exact zmW f _ _ _ _ h2 h3 p hp
    .cases h
   .rw[zk8]at h;cases h
   .rw[ziE]at h
    split at h
    .exact zmW f _ _ _ _ h hl
    .cases h
   .rw[ziF]at h
    split at h
    .cases h
    .exact zmW f _ _ _ _ h hl
def zHL(t:Bs):∀p∈zhM t,lnB p.txt=true:=by
 intro p hp;unfold zhM at hp
 split at hp
 .rename_i h;unfold zeV at h;cases hl:lnB t with
  | false=>rw[hl,ae rfl]at h;cases h
  | true =>
   cases hs:zo2 t with
   | none=>rw[hs]at hp;cases hp
   | some l=>rw[hs]at hp;exact zmW _ _ _ _ _ hs hl p hp
 .cases hp
def zFb(ps:List Pc)(val:Bs->Bs)(h1:∀p∈ps,lnB p.txt=true)(h2:∀k,lnB (val k)=true):lnB (zrI ps val)=true:=by
 unfold zrI;refine zp2 _ _ fun p hp=>?_;unfold zhI
 split
 .exact zdE
 .split
  .exact h2 _
  .exact h1 p hp
def CleanP(q:P4):Prop:=lnB q.1=true/\lnB q.2.1=true/\lnB q.2.2.1=true/\lnB q.2.2.2=true
def CleanS(s:SrcT):Prop:=(∀q∈s.author,CleanP q)/\(∀q∈s.editor,CleanP q)/\(∀p∈s.fields,lnB p.2=true)/\lnB s.key=true/\lnB s.type=true
def zlP{l:Bs}(h:zc6 l=true):lnB l=true:=by
 unfold zc6 at h;rw[ba,ba]at h;exact h.1.1
def zwQ{ps:List P4}(h:zeM ps=0):∀q∈ps,CleanP q:=by
 intro q hq;have:=zBn ps h q hq;unfold zhZ at this
 split at this
 .cases this
 split at this
 .rename_i h2;rw[ba,ba,ba]at h2;exact⟨zlP h2.1.1.1,zlP h2.1.1.2,zlP h2.1.2,zlP h2.2⟩
 .cases this
def zCd{l:List SrcT}(h:zdA l=0):∀s∈l,CleanS s:=by
 unfold zdA at h
 split at h
 .cases h
 intro s hs;obtain⟨k,hk⟩:=jq hs;obtain⟨h1,h2,-,h3⟩:=zEq l [] h k s hk;obtain⟨-,-,-,h4,h5,h6,-⟩:=zyM s h3;refine⟨zwQ h4,zwQ h5,?_,zwP h2,zwP h1⟩;intro p hp;obtain⟨j,hj⟩:=jq hp;have:=(zuB _ p (zEp _ [] h6 j p hj)).2.2.2.2.1;exact this
def zsV(lI:Bool){q:P4}(h:CleanP q):lnB (zbE lI q)=true:=by
 obtain⟨h1,h2,h3,h4⟩:=h;unfold zbE zdM;cases lI with
 | true =>
  refine zg9 _ zkS _ fun x hx=>?_;have hx:=(eU.1 hx).1;simp only[bj,bO,ej]at hx;rcases hx with rfl|rfl|rfl|rfl<;>assumption
 | false =>
  refine zg9 _ zkS _ fun x hx=>?_;have hx:=(eU.1 hx).1;simp only[bj,bO,ej]at hx;rcases hx with rfl|rfl<;>assumption
def zuP:lnB zlD=true:=zcP rfl
def zwR(l:Bs):lnB ((zeL l).getD [])=true:=by
 unfold zeL
 (repeat' split)<;>exact zcP rfl
def zuQ(l:Bs):lnB ((zcX l).getD [])=true:=by
 unfold zcX
 (repeat' split)<;>exact zcP rfl
def zCe(l:Bs)(xs:List Bs)(h:∀x∈xs,lnB x=true):lnB (zhO l xs)=true:=by
 unfold zhO
 split
 .exact zg9 _ zuP _ h
 .refine zb8 (zb8 (zb8 (zb8 (zg9 _ zuP _ fun x hx=>h x (List.dropLast_subset _ hx)) zkS) (zwR l)) zkS) ?_;rw[dY];cases hx:xs.getLast? with
  | none=>exact zdE
  | some x=>exact h x (gE hx)
def zi8(ps:List P4)(l:Bs)(most:Int)(lI:Bool)(h:∀q∈ps,CleanP q):lnB (zd4 ps l most lI)=true:=by
 unfold zd4
 split
 .refine zb8 (zb8 (zb8 (zb8 (zg9 _ zuP _ fun x hx=>?_) zkS) (zwR _)) zkS) (zuQ _);obtain⟨q,hq,rfl⟩:=bQ.1 hx;exact zsV lI (h q (eX hq))
 .refine zCe _ _ fun x hx=>?_;obtain⟨q,hq,rfl⟩:=bQ.1 hx;exact zsV lI (h q hq)
def zp4(n:Nat):zBo (Lib.decDigits n)=true:=by
 have h:∀k:Fin 10,zBo [UInt8.ofNat (48+k.val)]=true:=c_
 induction n using Nat.strongRecOn with
 | _ n ih =>
  rw[Lib.decDigits]
  split
  .rename_i q;exact h ⟨n,q⟩
  .rename_i q;have h1:=ih (n / 10) a_;have h2:=h ⟨n % 10,jK _ a_⟩;unfold zBo at h1 h2 ⊢;rw[fY,h1];exact h2
def zCf(n:Int)(h:0<=n):lnB (Lib.itoa n)=true:=by
 unfold Lib.itoa;rw[aa a_];exact zcP (zp4 _)
def zFc(v:Bs):0<=zeE v:=(zeF v).1
def zHM{s:SrcT}(hs:CleanS s)(y:StyT)(lang suf:Bs)(n:Int)(hf:lnB suf=true)(k:Bs):lnB (znP (zk1 s y lang suf n) k)=true:=by
 obtain⟨h1,h2,h3,h4,h5⟩:=hs;unfold znP;cases he:(zgF (zk1 s y lang suf n)).find? fun e=>e.1==k with
 | none =>
  show lnB ((za3 s.fields k).getD [])=true;cases hv:za3 s.fields k with
  | none=>exact zdE
  | some v =>
   unfold za3 at hv;rw[cG]at hv;obtain⟨p,hp,rfl⟩:=hv;exact h3 p (cw hp)
 | some e =>
  have hm:=cw he;show lnB e.2=true;unfold zgF at hm;simp only[bj,bO,ej]at hm;rcases hm with rfl|rfl|rfl|rfl|rfl|rfl|rfl|rfl|rfl
  .exact zi8 _ _ _ _ h1
  .exact zi8 _ _ _ _ h2
  .exact zi8 _ _ _ _ h1
  .exact zi8 _ _ _ _ h2
  .show lnB (ziX _)=true;unfold ziX
   split
   .exact zdE
   .exact zCf _ (zFc _)
  .exact hf
  .show lnB (zyG _)=true;unfold zyG
   split
   .exact zdE
   .exact zCf _ a_
  .exact h4
  .exact h5
def zFd{s:SrcT}(hs:CleanS s)(y:StyT)(lang suf:Bs)(n:Int)(hf:lnB suf=true)(t:Bs):lnB (zfH (zk1 s y lang suf n) t)=true :=
 zFb _ _ (zHL t) (zHM hs y lang suf n hf)
def zdN(l:Bs)(w:World)(hl:l.length<=900000000):Calls prog 14 #[.string (bs l)] w fun e w'=>e=.returned (.bool (lnB l))/\Kept w w':=by
 have HV:=Hd (zjO (bs l) w e_);have HF:Hi (∀k (hk:k<l.length),l[k]=10->lnB l=false):=fun k hk h=>zB4 hk h;have HT:Hi ((∀k (hk:k<l.length),l[k]≠10)->lnB l=za9 (bs l)):=fun h=>zGp h;have HZ:Hi (za9 (bs l)=false->lnB l=false):=fun h=>(by unfold lnB;rw[h];rfl);generalize lnB l=R at *;generalize za9 (bs l)=V at *;go_in;go_wp2_with fail;refine k_ HV.o fun w1 ld=>?_;have kT:=Hd ld;clear ld HV;cases V with
 | false =>
  obtain rfl:=HZ.o rfl;clear HF HT HZ;go_wp2;go_ret;exact⟨rfl,kT.o⟩
 | true =>
  clear HZ;go_wp2_with fail;go_loopw [3] (fun i wr=>∃k:Nat,k<=l.length/\i=.int .i64 k/\Hi (∀j (hj:j<l.length),j<k->l[j]≠10)/\w1=wr) (fun i _=>l.length - (intOf i).toNat)
  .exact⟨0,ai _,rfl,fun j hj h=>by omega,rfl⟩
  case round =>
   obtain⟨k,hk,rfl,HN,rfl⟩:=hrel;by_cases kV:k<l.length
   .have i0:=zbL (P:=prog) (t:=9) aq l k kV k rfl;have HD:Hi (at8 l k=10↔l[k]=10):=(by show _↔_;rw[zbP l k kV];exact zj8 _ 10 c_);by_cases h1:at8 l k=10
    .obtain rfl:=HF.o k kV (HD.o.1 h1);have hb':(at8 l k==10)=true:=(by simpa using h1);generalize at8 l k=b at *;clear h1 HD HF HT;go_wp2;go_ret;exact⟨rfl,kT.o⟩
    .have HS:Hi (∀j (hj:j<l.length),j<k+1->l[j]≠10):=by
      intro j hj hjk;rcases bG j k with q|q
      .exact HN.o j hj q
      .obtain rfl:j=k:=a_;exact fun q=>h1 (HD.o.2 q)
     have hb':(at8 l k==10)=false:=(by simpa using h1);generalize at8 l k=b at *;clear h1 HD HN;go_wp2;go_roundw
     .exact⟨k+1,a_,by go_num,HS.o,trivial⟩
     .simp [intOf];omega
   .obtain rfl:k=l.length:=a_;obtain rfl:=HT.o (fun k hk=>HN.o k hk hk);clear HF HT;go_wp2;go_ret;exact⟨rfl,kT.o⟩
def zoL(l:Bs)(w:World)(hl:l.length<=1100000):Calls prog 141 #[.string (bs l)] w fun e w'=>e=.returned (.bool (lnB l))/\Kept w w':=by
 have HV:=Hd (zjO (bs l) w e_);have HF:Hi (∀k (hk:k<l.length),l[k]=10->lnB l=false):=fun k hk h=>zB4 hk h;have HT:Hi ((∀k (hk:k<l.length),l[k]≠10)->lnB l=za9 (bs l)):=fun h=>zGp h;have HZ:Hi (za9 (bs l)=false->lnB l=false):=fun h=>(by unfold lnB;rw[h];rfl);generalize lnB l=R at *;generalize za9 (bs l)=V at *;go_in;go_wp2_with fail;refine k_ HV.o fun w1 ld=>?_;have kT:=Hd ld;clear ld HV;cases V with
 | false =>
  obtain rfl:=HZ.o rfl;clear HF HT HZ;go_wp2;go_ret;exact⟨rfl,kT.o⟩
 | true =>
  clear HZ;go_wp2_with fail;go_loopw [3] (fun i wr=>∃k:Nat,k<=l.length/\i=.int .i64 k/\Hi (∀j (hj:j<l.length),j<k->l[j]≠10)/\w1=wr) (fun i _=>l.length - (intOf i).toNat)
  .exact⟨0,ai _,rfl,fun j hj h=>by omega,rfl⟩
  case round =>
   obtain⟨k,hk,rfl,HN,rfl⟩:=hrel;by_cases kV:k<l.length
   .have i0:=zbL (P:=prog) (t:=9) aq l k kV k rfl;have HD:Hi (at8 l k=10↔l[k]=10):=(by show _↔_;rw[zbP l k kV];exact zj8 _ 10 c_);by_cases h1:at8 l k=10
    .obtain rfl:=HF.o k kV (HD.o.1 h1);have hb':(at8 l k==10)=true:=(by simpa using h1);generalize at8 l k=b at *;clear h1 HD HF HT;go_wp2;go_ret;exact⟨rfl,kT.o⟩
    .have HS:Hi (∀j (hj:j<l.length),j<k+1->l[j]≠10):=by
      intro j hj hjk;rcases bG j k with q|q
      .exact HN.o j hj q
      .obtain rfl:j=k:=a_;exact fun q=>h1 (HD.o.2 q)
     have hb':(at8 l k==10)=false:=(by simpa using h1);generalize at8 l k=b at *;clear h1 HD HN;go_wp2;go_roundw
     .exact⟨k+1,a_,by go_num,HS.o,trivial⟩
     .simp [intOf];omega
   .obtain rfl:k=l.length:=a_;obtain rfl:=HT.o (fun k hk=>HN.o k hk hk);clear HF HT;go_wp2;go_ret;exact⟨rfl,kT.o⟩
def trimB(l:Bs):Bool:=l.isEmpty || (at8 l 0 != 32&&at8 l (l.length - 1) != 32)
def zjX(l:Bs)(w:World)(hl:l.length<=1100000):Calls prog 15 #[.string (bs l)] w fun e w'=>e=.returned (.bool (trimB l))/\w=w':=by
 by_cases h0:l=[]
 .subst h0;have HR:Hi (trimB []=true):=rfl;go_in;go_wp2
  (try go_ret)
  exact⟨by rw[HR.o];rfl,rfl⟩
 .have mh:0<l.length:=eI.2 h0;have HT:Hi (trimB l=(at8 l 0 != 32&&at8 l (l.length - 1) != 32)):=by
   show _=_;unfold trimB;rw[cJ.2 h0];rfl
  have i0:=zbL (P:=prog) (t:=9) aq l 0 mh 0 rfl;have i1:=zbL (P:=prog) (t:=9) aq l (l.length - 1) a_ ((l.length:Int) - 1) a_;have lV:(l==[])=false:=(by rw[ab];exact h0);generalize trimB l=R at *;generalize at8 l 0=b at *;generalize at8 l (l.length - 1)=d at *;by_cases q1:b=32
  .subst q1;have HR:Hi (R=false):=(by show _=_;rw[HT.o];rfl);clear HT;go_in;go_wp2
   (try go_ret)
   exact⟨by rw[HR.o];rfl,rfl⟩
  .have hb:(b != 32)=true:=(by rw[dd];exact q1);have HR:Hi (R=(d != 32)):=(by show _=_;rw[HT.o,hb];rfl);clear HT;go_in;go_wp2
   (try go_ret)
   exact⟨by rw[HR.o];rfl,rfl⟩
def zk2(l t:Bs):Bool:=l.any fun b=>t.contains b
def zHN{l t:Bs}{i:Nat}(hi:i<l.length)(h:l[i]∈t):zk2 l t=true:=by
 unfold zk2;rw[dv];exact⟨_,dm hi,bR.2 h⟩
def zHO{l t:Bs}(h:∀i (hi:i<l.length),l[i]∉t):zk2 l t=false:=by
 unfold zk2;rw[eD];intro x hx;obtain⟨i,hi,rfl⟩:=dZ hx;rw[bR];exact h i hi
def zgU(l t:Bs)(w:World)(hl:l.length<=1100000)(ht:t.length<=100):Calls prog 143 #[.string (bs l),.string (bs t)] w fun e w'=>e=.returned (.bool (zk2 l t))/\Kept w w':=by
 have HY:Hi (∀i (hi:i<l.length),l[i]∈t->zk2 l t=true):=fun i hi h=>zHN hi h;have HN:Hi ((∀i (hi:i<l.length),l[i]∉t)->zk2 l t=false):=fun h=>zHO h;generalize zk2 l t=R at *;go_in;go_wp2_with fail;go_loopw [5] (fun i wr=>∃k:Nat,k<=l.length/\i=.int .i64 k/\Hi (∀j (hj:j<l.length),j<k->l[j]∉t)/\Hi (Kept w wr)) (fun i _=>l.length - (intOf i).toNat)
 .exact⟨0,ai _,rfl,(fun j hj h=>by omega),af _⟩
 case round =>
  obtain⟨k,hk,rfl,HS,kO⟩:=hrel;by_cases kV:k<l.length
  .go_wp2_with fail;go_loopw [6] (fun i wr=>∃q:Nat,q<=t.length/\i=.int .i64 q/\Hi (l[k]∉t.take q)/\Hi (Kept w wr)) (fun i _=>t.length - (intOf i).toNat)
   .exact⟨0,ai _,rfl,(by show _∉_;simp),kO.o⟩
   case round =>
    clear kO;obtain⟨q,hq,rfl,HQ,kO⟩:=hrel;by_cases xU:q<t.length
    .have i0:=zbL (P:=prog) (t:=9) aq l k kV k rfl;have i1:=zbL (P:=prog) (t:=9) aq t q xU q rfl;have HD:Hi (at8 l k=at8 t q↔l[k]=t[q]):=by
      show _↔_;rw[zbP l k kV,zbP t q xU];exact⟨fun h=>iX.1 a_,fun h=>by rw[h]⟩
     have nt:Hi (Kept w wr.drew):=kO.o.trans (zaB _ 1);by_cases h1:at8 l k=at8 t q
     .obtain rfl:=HY.o k kV (by rw[HD.o.1 h1];exact dm xU);have hb':(at8 l k==at8 t q)=true:=(by simpa using h1);generalize at8 l k=b at *;generalize at8 t q=d at *;clear h1 HD HY HN kO;go_wp2_with fail;go_region
      all_goals
       go_wp2
       (try go_ret)
       exact⟨rfl,nt.o⟩
     .have qG:Hi (l[k]∉t.take (q+1)):=by
       show _∉_;rw[bf xU];intro h;rcases aV.1 h with r|r
       .exact HQ.o r
       .exact h1 (HD.o.2 (bu.1 r))
      have hb':(at8 l k==at8 t q)=false:=(by simpa using h1);generalize at8 l k=b at *;generalize at8 t q=d at *;clear h1 HD kO HQ;go_wp2_with fail;go_region
      all_goals
       go_wp2;go_roundw
       .exact⟨q+1,a_,by go_num,qG.o,nt.o⟩
       .simp [intOf];omega
    .obtain rfl:q=t.length:=a_;have mb:Hi (∀j (hj:j<l.length),j<k+1->l[j]∉t):=by
      intro j hj hjk;rcases bG j k with r|r
      .exact HS.o j hj r
      .obtain rfl:j=k:=a_;have:=HQ.o
       rwa [bi]at this
     go_wp2;go_roundw
     .exact⟨k+1,a_,by go_num,mb.o,kO.o⟩
     .simp [intOf];omega
  .obtain rfl:k=l.length:=a_;obtain rfl:=HN.o (fun i hi=>HS.o i hi hi);clear HY HN;go_wp2
   (try go_ret)
   exact⟨rfl,kO.o⟩
def zCg(k:Int)(l:List Int)(g c:Nat)(w:World)(hg:g<w.heap.size)(hl:l.length<=100)(hc:∀(j:Nat) x,l[j]? = some x->w.cell? ⟨g,j,none⟩=some (.int .i64 x)):Calls prog 101 #[.int .i64 k,.slice (some ⟨g,0,none⟩) l.length c] w fun e w'=>e=.returned (.bool (l.contains k))/\w=w':=by
 have HC:=Hd hc;have HY:Hi (∀x∈l,x=k->l.contains k=true):=fun x hx h=>bR.2 (h ▸ hx);have HN:Hi (k∉l->l.contains k=false):=fun h=>(by rw[eE];exact fun q=>h (bR.1 q));generalize l.contains k=R at *;clear hc;go_in;go_wp2_with fail;go_loopw [5] (fun i wr=>∃q:Nat,q<=l.length/\i=.int .i64 q/\Hi (k∉l.take q)/\w=wr) (fun i _=>l.length - (intOf i).toNat)
 .exact⟨0,ai _,rfl,(by show _∉_;simp),rfl⟩
 case round =>
  obtain⟨q,hq,rfl,HQ,rfl⟩:=hrel;by_cases xU:q<l.length
  .have c0:=HC.o q l[q] (ac xU);by_cases h1:l[q]=k
   .obtain rfl:=HY.o _ (dm xU) h1;have hb:(l[q]==k)=true:=(by simpa using h1);generalize l[q]=x at *;clear h1 HY HN HQ;go_wp2
    (try go_ret)
    exact⟨rfl,rfl⟩
   .have qG:Hi (k∉l.take (q+1)):=by
     show _∉_;rw[bf xU];intro h;rcases aV.1 h with r|r
     .exact HQ.o r
     .exact h1 (bu.1 r).symm
    have hb:(l[q]==k)=false:=(by simpa using h1);generalize l[q]=x at *;clear h1 HQ;go_wp2;go_roundw
    .exact⟨q+1,a_,by go_num,qG.o,trivial⟩
    .simp [intOf];omega
  .obtain rfl:q=l.length:=a_;obtain rfl:=HN.o (by have:=HQ.o;rwa [bi]at this);clear HY HN;go_wp2
   (try go_ret)
   exact⟨rfl,rfl⟩
def zwS(id:Bs)(cls:List Bs)(prs:List Pr):Bool:=id.isEmpty&&cls.isEmpty&&prs.isEmpty
def zjY(id:Bs)(cls:List Bs)(prs:List Pr)(aC aP:Option Addr)(cC cP:Nat)(w:World):Calls prog 102 #[.agg #[.string (bs id),.slice aC cls.length cC,.slice aP prs.length cP]] w fun e w'=>e=.returned (.bool (zwS id cls prs))/\Kept w w':=by
 have HB:=Hd (aI w 39 #[.string (bs id),.slice aC cls.length cC,.slice aP prs.length cP]);have HK:=Hd (zaA w (.cells #[.string (bs id),.slice aC cls.length cC,.slice aP prs.length cP] 39));have b0:=HB.o.cell 0 _ rfl;have b1:=HB.o.cell 1 _ rfl;have b2:=HB.o.cell 2 _ rfl;have bz:=HB.o.lt;obtain⟨R,HR⟩:=gX (zwS id cls prs);rw[HR.o];unfold zwS at HR;rcases(show id≠[]\/(id=[]/\cls≠[])\/(id=[]/\cls=[]/\prs≠[])\/(id=[]/\cls=[]/\prs=[])by
  by_cases a:id=[]<;>by_cases b:cls=[]<;>by_cases d:prs=[]<;>simp [a,b,d])with h0|⟨rfl,h0⟩|⟨rfl,rfl,h0⟩|⟨rfl,rfl,rfl⟩
 case' inl=>(have hz:(id==[])=false:=(by rw[ab];exact h0);have HV:Hi (R=false):=(by show _=_;rw[<- HR.o,cJ.2 h0];rfl))
 case' inr.inl=>(have hz:((cls.length:Int)==0)=false:=(by simpa using h0);have HV:Hi (R=false):=(by show _=_;rw[<- HR.o,cJ.2 h0];rfl))
 case' inr.inr.inl=>(have hz:((prs.length:Int)==0)=false:=(by simpa using h0);have HV:Hi (R=false):=(by show _=_;rw[<- HR.o,cJ.2 h0];rfl))
 case' inr.inr.inr=>have HV:Hi (R=true):=HR.o.symm
 all_goals
  clear HR;go_in;go_wp2
  (try go_ret)
  exact⟨by rw[HV.o];rfl,HK.o⟩
def zmX{a b:Bool}(h:a=b):Ending.returned (.bool a)=.returned (.bool b):=by rw[h]
def ltB(c:Int):Bool:=decide (97<=c/\c<=122\/65<=c/\c<=90)
def ptB(c:Int):Bool:=decide ((97<=c/\c<=122\/65<=c/\c<=90)\/48<=c/\c<=57\/c=45\/c=95\/c=46\/c=58)
def zJi(l:Bs)(i:Nat)(h:i<l.length):ltB (at8 l i)=zDF l[i]:=by
 have:=zwD l i h;unfold ztS at this;unfold ltB;rw[dX,ev,this]
def zGs(l:Bs)(i:Nat)(h:i<l.length):ptB (at8 l i)=nmB l[i]:=by
 have:=zEn l i h;unfold ztS zi1 at this;unfold ptB;rw[dX,ev,this]
def zmY(c:Int)(w:World)(h0:0<=c)(h1:c<=255):Calls prog 31 #[.int .u8 c] w fun e w'=>e=.returned (.bool (ltB c))/\w=w':=by
 rcases(by omega:c<65\/(65<=c/\c<=90)\/(91<=c/\c<=96)\/(97<=c/\c<=122)\/122<c)with h|⟨h,h'⟩|⟨h,h'⟩|⟨h,h'⟩|h
 all_goals
  first
   | have HB:Hi (ltB c=true):=by(show _=_;unfold ltB;rw[ev];omega)
   | have HB:Hi (ltB c=false):=by(show _=_;unfold ltB;rw[ee];omega)
  go_in;go_wp2;go_ret;exact⟨zmX (by first|exact HB.o.symm|(refine kJ ?_ HB.o.symm;simp;omega)),rfl⟩
def zoM(c:Int)(w:World)(h0:0<=c)(h1:c<=255):Calls prog 65 #[.int .u8 c] w fun e w'=>e=.returned (.bool (ptB c))/\w=w':=by
 have HL:=Hd (zmY c w h0 h1);cases hl:ltB c
 .rw[hl]at HL;have hnl:¬ (97<=c/\c<=122\/65<=c/\c<=90):=(by unfold ltB at hl;rwa [ee]at hl);rcases(by omega:(c<45)\/c=45\/c=46\/c=47\/(48<=c/\c<=57)\/c=58\/(59<=c/\c<=64)\/(91<=c/\c<=94)\/c=95\/c=96\/(122<c))with h|h|h|h|⟨h,h'⟩|h|⟨h,h'⟩|⟨h,h'⟩|h|h|h
  all_goals
   first
    | have HB:Hi (ptB c=true):=by(show _=_;unfold ptB;rw[ev];omega)
    | have HB:Hi (ptB c=false):=by(show _=_;unfold ptB;rw[ee];omega)
   clear hnl hl
   try subst h
   go_in;go_wp2_with fail;refine HL.o.mono ?_;rintro e w' ⟨rfl,rfl⟩;go_wp2;go_ret;exact⟨zmX (by first|exact HB.o.symm|(refine kJ ?_ HB.o.symm;simp;omega)),rfl⟩
 .rw[hl]at HL;have HB:Hi (ptB c=true):=(by(show _=_;unfold ltB at hl;rw[ev]at hl;unfold ptB;rw[ev];exact .inl hl));clear hl;go_in;go_wp2_with fail;refine HL.o.mono ?_;rintro e w' ⟨rfl,rfl⟩;go_wp2;go_ret;exact⟨zmX (by first|exact HB.o.symm|(refine kJ ?_ HB.o.symm;simp;omega)),rfl⟩
def zFe(l:Bs)(k:Nat)(h:k<l.length)(ha:(l.take k).all nmB=true)(hb:nmB l[k]=true):(l.take (k+1)).all nmB=true:=by
 rw[bf h,fY,ha];simp [hb]
def zHP(l:Bs)(k:Nat)(h:k<l.length)(hb:nmB l[k]=false):l.all nmB=false:=by
 rw[io];exact⟨l[k],dm h,by rw[hb];simp⟩
def zCh(l:Bs)(w:World)(hs:l.length<=1100000):Calls prog 32 #[.string (bs l),.int .i64 0] w fun e w'=>(∃k:Nat,e=.returned (.int .i64 k)/\(k==l.length)=l.all nmB/\k<=l.length)/\w=w':=by
 have HP:=Hd (fun c w h0 h1=>zoM c w h0 h1);go_in;go_wp2_with fail
 go_loop [1] (fun i=>∃k:Nat,k<=l.length/\i=.int .i64 k/\Hi ((l.take k).all nmB=true)) (fun i=>l.length - (intOf i).toNat)
 .exact⟨0,ai _,rfl,rfl⟩
 case round =>
  obtain⟨k,hk,rfl,HA⟩:=hrel;by_cases kV:k<l.length
  .have i0:=zbL (P:=prog) (t:=9) aq l k kV k rfl;have h0:=zh7 l k;have h1:=zAn l k;have lG:=Hd (zGs l k kV);have HS:=Hd (fun hb=>zFe l k kV HA.o hb);have nV:=Hd (fun hb=>zHP l k kV hb);rw[<- lG.o]at HS nV;generalize at8 l k=b at *;go_wp2_with fail;refine(HP.o _ _ h0 a_).mono ?_;rintro e w' ⟨rfl,rfl⟩;cases hb:ptB b
   .have HF:=Hd (nV.o hb);go_wp2;go_ret;exact⟨⟨k,rfl,by rw[HF.o];simp;omega,a_⟩,rfl⟩
   .have HF:=Hd (HS.o hb);go_wp2_with fail
    go_round
    .exact⟨k+1,a_,by go_num,HF.o⟩
    .simp [intOf];omega
  .obtain rfl:k=l.length:=a_;have HF:Hi (l.all nmB=true):=by
    show _=_;have h:=HA.o
    rwa [bx (aw _)]at h
   clear HA;go_wp2;go_ret;exact⟨⟨_,rfl,by rw[HF.o];simp,aw _⟩,rfl⟩
def zeI(l:Bs)(w:World)(hs:l.length<=1100000):Calls prog 13 #[.string (bs l)] w fun e w'=>e=.returned (.bool (za8 l))/\Kept w w':=by
 have HW:=Hd (fun w=>zCh l w hs);have CH:=Hd (fun c w h0 h1=>zmY c w h0 h1);by_cases h1:l.length=0
 .have HB:Hi (za8 l=false):=by
   show _=_;obtain rfl:=bD.1 h1;rfl
  go_in;go_wp2;go_ret;exact⟨zmX (by first|exact HB.o.symm|(refine kJ ?_ HB.o.symm;simp;omega)),af _⟩
 by_cases De:60<l.length
 .have HB:Hi (za8 l=false):=by
   show _=_;rw[zfI l a_,bH a_];rfl
  go_in;go_wp2;go_ret;exact⟨zmX (by first|exact HB.o.symm|(refine kJ ?_ HB.o.symm;simp;omega)),af _⟩
 .have HB:Hi (za8 l=(ltB (at8 l 0)&&l.all nmB)):=by
   show _=_;rw[zfI l a_,bJ a_,zJi l 0 a_];rfl
  have i0:=zbL (P:=prog) (t:=9) aq l 0 a_ 0 rfl;have c0:=zh7 l 0;have c1:=zAn l 0;generalize at8 l 0=b at *;generalize l.all nmB=al at *;generalize za8 l=nb at *;have hp:1<=l.length:=a_;go_in;go_wp2_with fail;refine(CH.o _ _ c0 a_).mono ?_;rintro e w' ⟨rfl,rfl⟩;cases hb:ltB b
  .rw[hb]at HB;go_wp2;go_ret;exact⟨zmX HB.o.symm,af _⟩
  .rw[hb]at HB;go_wp2_with fail;refine(HW.o _).mono ?_;rintro e w' ⟨⟨k,rfl,hk,hkl⟩,rfl⟩;go_wp2;go_ret;exact⟨zmX (by rw[HB.o,<- hk];first|rfl|(simp only[eL];rw[dX,bh,bh];omega)),af _⟩
def zoN(v:Value)(ks:List Bs)(x:Bs)(w:World)(hv:Strs w v ks)(hl:ks.length<=1000000):Calls prog 140 #[v,.string (bs x)] w fun e w'=>e=.returned (.bool (ks.contains x))/\w=w':=by
 have HV:=Hd hv;obtain⟨a,c,rfl,hc⟩:=hv.form;have HT:Hi (x∈ks->ks.contains x=true):=fun h=>bR.2 h;have HN:Hi (x∉ks->ks.contains x=false):=fun h=>by
  rw[<- gz];exact fun q=>h (bR.1 q)
 generalize ks.contains x=R at *;clear hv;go_in;go_wp2_with fail;go_loopw [5] (fun i wr=>∃k:Nat,k<=ks.length/\i=.int .i64 k/\Hi (x∉ks.take k)/\w=wr) (fun i _=>ks.length - (intOf i).toNat)
 .exact⟨0,ai _,rfl,(by show x∉_;simp),rfl⟩
 case round =>
  obtain⟨k,hk,rfl,HX,rfl⟩:=hrel;by_cases kV:k<ks.length
  .obtain⟨z,hx⟩:∃z,ks[k]? = some z:=⟨_,ac kV⟩;obtain⟨g,o,rfl,hg,d0,-,-⟩:=HV.o.cell_of k z hx;by_cases hz:z=x
   .obtain rfl:=HT.o (by rw[<- hz];exact am hx);subst hz;clear hx HX HT HN;go_wp2;go_ret;exact⟨rfl,rfl⟩
   .have ph:Hi (x∉ks.take (k+1)):=zpW hx HX.o hz;have hzb:(z==x)=false:=(by rw[ab];exact hz);clear hx HX;go_wp2;go_roundw
    .exact⟨k+1,a_,by go_num,ph.o,trivial⟩
    .simp [intOf];omega
  .obtain rfl:k=ks.length:=a_;obtain rfl:=HN.o (by have:=HX.o;rwa [bi]at this);clear HX HT HN;go_wp2;go_ret;exact⟨rfl,rfl⟩
def zoO(v:Value)(ks:List Pr)(x:Bs)(w:World)(hv:Prs w v ks)(hl:ks.length<=1000000):Calls prog 142 #[v,.string (bs x)] w fun e w'=>e=.returned (.bool ((ks.map (·.1)).contains x))/\w=w':=by
 have HV:=Hd hv;obtain⟨a,c,rfl,hc⟩:=hv.form;have HT:Hi (x∈(ks.map (·.1))->(ks.map (·.1)).contains x=true):=fun h=>bR.2 h;have HN:Hi (x∉(ks.map (·.1))->(ks.map (·.1)).contains x=false):=fun h=>by
  rw[<- gz];exact fun q=>h (bR.1 q)
 generalize (ks.map (·.1)).contains x=R at *;clear hv;go_in;go_wp2_with fail;go_loopw [5] (fun i wr=>∃k:Nat,k<=ks.length/\i=.int .i64 k/\Hi (x∉(ks.take k).map (·.1))/\w=wr) (fun i _=>ks.length - (intOf i).toNat)
 .exact⟨0,ai _,rfl,(by show x∉_;simp),rfl⟩
 case round =>
  obtain⟨k,hk,rfl,HX,rfl⟩:=hrel;by_cases kV:k<ks.length
  .obtain⟨z,hx⟩:∃z,ks[k]? = some z:=⟨_,ac kV⟩;obtain⟨g,o,rfl,hg,d0,d1,-,-⟩:=HV.o.cell_of k z hx;by_cases hz:z.1=x
   .obtain rfl:=HT.o (by rw[<- hz];exact jw (am hx));subst hz;clear hx HX HT HN;go_wp2;go_ret;exact⟨rfl,rfl⟩
   .have ph:Hi (x∉(ks.take (k+1)).map (·.1)):=(by show x∉_;rw[jD];exact zpW (by rw[dy,hx];rfl) (by have:=HX.o;rwa [jD]at this) hz);have hzb:(z.1==x)=false:=(by rw[ab];exact hz);clear hx HX;go_wp2;go_roundw
    .exact⟨k+1,a_,by go_num,ph.o,trivial⟩
    .simp [intOf];omega
  .obtain rfl:k=ks.length:=a_;obtain rfl:=HN.o (by have:=HX.o;rwa [bi]at this);clear HX HT HN;go_wp2;go_ret;exact⟨rfl,rfl⟩
def Strs.pre{w:World}{a:Option Addr}{n c:Nat}{xs:List Bs}(h:Strs w (.slice a n c) xs)(k:Nat)(hk:k<=xs.length):Strs w (.slice a k c) (xs.take k):=by
 obtain⟨a',c',hv,hc,h3⟩:=h;obtain⟨rfl,rfl,rfl⟩:=bL hv;have hl:(xs.take k).length=k:=(by rw[bw];omega);refine⟨a,c,by rw[hl],a_,fun q=>?_⟩;obtain⟨g,o,ha,hg,kR⟩:=h3 a_;exact⟨g,o,ha,hg,fun j x hx=>kR j x (by rw[fq]at hx;split at hx<;>first|exact hx|cases hx)⟩
def Prs.pre{w:World}{a:Option Addr}{n c:Nat}{xs:List Pr}(h:Prs w (.slice a n c) xs)(k:Nat)(hk:k<=xs.length):Prs w (.slice a k c) (xs.take k):=by
 obtain⟨a',c',hv,hc,h3⟩:=h;obtain⟨rfl,rfl,rfl⟩:=bL hv;have hl:(xs.take k).length=k:=(by rw[bw];omega);refine⟨a,c,by rw[hl],a_,fun q=>?_⟩;obtain⟨g,o,ha,hg,kR⟩:=h3 a_;exact⟨g,o,ha,hg,fun j x hx=>kR j x (by rw[fq]at hx;split at hx<;>first|exact hx|cases hx)⟩
def zAf:List Bs->List Bs->Int
 | _,[]=>0
 | d,x::r=>if za8 x=false then 6 else if d.contains x=true then 7 else zAf (d++[x]) r
def zCi:List Pr->List Pr->Int
 | _,[]=>0
 | d,x::r=>if za8 x.1=false then 6 else if lnB x.2=false then 17 else if(d.map (·.1)).contains x.1=true then 7 else zCi (d++[x]) r
def atE(id:Bs)(cls:List Bs)(prs:List Pr):Int :=
 if id≠[]/\za8 id=false then 6 else if zAf [] cls≠0 then zAf [] cls else if zCi [] prs≠0 then zCi [] prs else if 32<cls.length\/32<prs.length then 3 else 0
def zHQ{l:List Bs}{k:Nat}{x:Bs}(h:l[k]? = some x):zAf (l.take k) (l.drop k)=if za8 x=false then 6 else if(l.take k).contains x=true then 7 else zAf (l.take (k+1)) (l.drop (k+1)):=by
 obtain⟨hk,rfl⟩:=ak.1 h;rw[aJ hk,zAf,<- zaV h]
def zHR{l:List Pr}{k:Nat}{x:Pr}(h:l[k]? = some x):zCi (l.take k) (l.drop k)=if za8 x.1=false then 6 else if lnB x.2=false then 17 else if((l.take k).map (·.1)).contains x.1=true then 7 else zCi (l.take (k+1)) (l.drop (k+1)):=by
 obtain⟨hk,rfl⟩:=ak.1 h;rw[aJ hk,zCi,<- zaV h]
def zf2(id:Bs)(cls:List Bs)(prs:List Pr)(vC vP:Value)(w:World)(hC:Strs w vC cls)(hP:Prs w vP prs)(hid:id.length<=1100000)(nf:cls.length<=1000)(hpl:prs.length<=1000)(hcs:∀s∈cls,s.length<=1100000)(hps:∀p∈prs,p.1.length<=1100000/\p.2.length<=1100000):Calls prog 106 #[.agg #[.string (bs id),vC,vP]] w fun e w'=>e=.returned (.int .i64 (atE id cls prs))/\Kept w w':=by
 obtain⟨aC,cC,rfl,lC⟩:=hC.form;obtain⟨aP,cP,rfl,lP⟩:=hP.form;have HB:=Hd (aI w 39 #[.string (bs id),.slice aC cls.length cC,.slice aP prs.length cP]);have HK:=Hd (zaA w (.cells #[.string (bs id),.slice aC cls.length cC,.slice aP prs.length cP] 39));have HC:=Hd (hC.kept HK.o);have HP:=Hd (hP.kept HK.o);have pP:=Hd hcs;have qI:=Hd hps;have HN:=Hd (fun(s:Bs) w' (h:s.length<=1100000)=>zeI s w' h);have HL:=Hd (fun(s:Bs) w' (h:s.length<=1100000)=>zoL s w' h);have H0:Hi (id≠[]->za8 id=false->atE id cls prs=6):=fun h1 h2=>(by unfold atE;rw[ae ⟨h1,h2⟩]);have H1:Hi ((id≠[]->za8 id=true)->atE id cls prs=if zAf [] cls≠0 then zAf [] cls else if zCi [] prs≠0 then zCi [] prs else if 32<cls.length\/32<prs.length then 3 else 0):=fun h=>by
  unfold atE;rw[aa (fun q=>by have:=h q.1;rw[this]at q;cases q.2)]
 obtain⟨R,HR⟩:=gX (atE id cls prs);rw[HR.o]at H0 H1 ⊢;clear hC hP hcs hps;go_in;go_upto_region 1 with fail;generalize w.alloc _=w0 at *;obtain⟨B,mW⟩:=gX w.heap.size;rw[mW.o]at HB ⊢;have b0:=HB.o.cell 0 _ rfl;have bz:=HB.o.lt;rcases(show id=[]\/(id≠[]/\za8 id=false)\/(id≠[]/\za8 id=true)by by_cases q:id=[]<;>cases h:za8 id<;>simp [q])with rfl|⟨hi,hn⟩|⟨hi,hn⟩
 case' inr.inl =>
  have hz:(id==[])=false:=(by rw[ab];exact hi);have kS:=Hd (H0.o hi hn);go_wp2_with fail;refine k_ (HN.o id _ hid) fun w1 ld=>?_;rw[hn];have kT:=Hd (HK.o.trans ld);clear ld;go_wp2
  (try go_ret)
  exact⟨by rw[kS.o];rfl,kT.o⟩
 case' inl =>
  have H2:=Hd (H1.o (fun h=>absurd rfl h));go_wp2_with fail;obtain⟨w1,hw1,HX⟩:∃x,x=w0/\Hi (Kept w0 x):=⟨_,rfl,af _⟩;rw[<- hw1];clear hw1
 case' inr.inr =>
  have hz:(id==[])=false:=(by rw[ab];exact hi);have H2:=Hd (H1.o (fun _=>hn));go_wp2_with fail;refine k_ (HN.o id _ hid) fun w1 ld=>?_;rw[hn];have HX:=Hd ld;clear ld;go_wp2_with fail
 all_goals
  have ma:=Hd (HB.o.kept HX.o);have lD:=Hd (HK.o.trans HX.o);have qZ:=Hd (HC.o.kept HX.o);have pt:=Hd (HP.o.kept HX.o);obtain⟨CG,Kq⟩:∃z,Hi (zAf [] cls=z):=⟨_,rfl⟩;obtain⟨PG,Kr⟩:∃z,Hi (zCi [] prs=z):=⟨_,rfl⟩;rw[Kq.o,Kr.o]at H2;have tC:Hi (∀e,e≠0->CG=e->R=e):=fun e h1 h2=>(by rw[H2.o,ae (by rw[h2];exact h1),h2]);have ue:Hi (∀e,CG=0->e≠0->PG=e->R=e):=fun e h0 h1 h2=>(by rw[H2.o,aa (by rw[h0];simp),ae (by rw[h2];exact h1),h2]);have CI:Hi (CG=0->PG=0->R=if 32<cls.length\/32<prs.length then 3 else 0):=fun h0 h1=>(by rw[H2.o,aa (by rw[h0];simp),aa (by rw[h1];simp)]);clear H2 HB HC HP HX H0 H1 b0 bz;go_loopw [3] (fun i wr=>∃k:Nat,k<=cls.length/\i=.int .i64 k/\Hi (zAf (cls.take k) (cls.drop k)=CG)/\Hi (Kept w1 wr)) (fun i _=>cls.length - (intOf i).toNat)
  .exact⟨0,ai _,rfl,Kq.o,af _⟩
  case round =>
   obtain⟨k,hk,rfl,lu,kO⟩:=hrel;have b1:=(ma.o.kept kO.o).cell 1 _ rfl;have bz:=(ma.o.kept kO.o).lt;by_cases kV:k<cls.length
   .obtain⟨x,hx⟩:∃x,cls[k]? = some x:=⟨_,ac kV⟩;have hxs:=pP.o x (am hx);have lG:=Hd (zHQ hx);rw[lu.o]at lG;obtain⟨g,o,rfl,hg,d0,-,-⟩:=(qZ.o.kept kO.o).cell_of k x hx;have ph:=Hd hx;clear hx lu;go_wp2_with fail;refine k_ (HN.o x _ hxs) fun w2 ll=>?_;have kX:=Hd (kO.o.trans ll);clear ll kO b1 bz d0 hg;cases oq:za8 x with
    | false =>
     have kS:=Hd (tC.o 6 b_ (by rw[lG.o,ae oq]));go_wp2
     (try go_ret)
     exact⟨by rw[kS.o];rfl,lD.o.trans kX.o⟩
    | true =>
     have nt:Hi (Kept w1 w2.drew):=kX.o.trans (zaB _ 1);have b1:=(ma.o.kept nt.o).cell 1 _ rfl;have bz:=(ma.o.kept nt.o).lt;obtain⟨g2,o2,e2,hg2,d2,-,-⟩:=(qZ.o.kept nt.o).cell_of k x ph.o;cases e2;have xV:=Hd (fun w' (kk:Kept w1 w')=>zoN _ (cls.take k) x w' (((qZ.o.kept kk).pre k hk)) (by rw[bw];omega));obtain⟨bt,CJ⟩:∃b,Hi ((cls.take k).contains x=b):=⟨_,rfl⟩;rw[CJ.o]at xV;have Br:Hi (CG=if bt=true then 7 else zAf (cls.take (k+1)) (cls.drop (k+1))):=(by show _=_;rw[lG.o,aa (by rw[oq];simp),CJ.o]);have hkc:(k:Int)<=(cC:Int):=a_;clear lG CJ ph oq;go_wp2_with fail
     go_region_law (go_simp;go_at_call 140;refine(xV.o _ nt.o).mono ?_;rintro e w3 ⟨rfl,rfl⟩)
     all_goals
      clear xV b1 bz d2 hg2;cases bt with
      | true =>
       have kS:=Hd (tC.o 7 b_ Br.o);go_wp2
       (try go_ret)
       exact⟨by rw[kS.o];rfl,lD.o.trans nt.o⟩
      | false =>
       have HG2:Hi (zAf (cls.take (k+1)) (cls.drop (k+1))=CG):=Br.o.symm;clear Br;go_wp2;go_roundw
       .exact⟨k+1,a_,by go_num,HG2.o,nt.o⟩
       .simp [intOf];omega
   .obtain rfl:k=cls.length:=a_;have sG:Hi (CG=0):=(by show _=_;rw[<- lu.o,du];rfl);have zX:Hi (∀e,e≠0->PG=e->R=e):=fun e h1 h2=>ue.o e sG.o h1 h2;have Ks:=Hd (CI.o sG.o);clear lu tC ue CI sG;obtain⟨wA,DR⟩:∃x,x=wr:=⟨_,rfl⟩;subst DR;go_wp2_with fail;go_loopw [4] (fun i wr=>∃k:Nat,k<=prs.length/\i=.int .i64 k/\Hi (zCi (prs.take k) (prs.drop k)=PG)/\Hi (Kept w1 wr)) (fun i _=>prs.length - (intOf i).toNat)
    .exact⟨0,ai _,rfl,Kr.o,kO.o⟩
    case round =>
     clear kO b1 bz;obtain⟨k,hk,rfl,lu,kO⟩:=hrel;have b1:=(ma.o.kept kO.o).cell 1 _ rfl;have b2:=(ma.o.kept kO.o).cell 2 _ rfl;have bz:=(ma.o.kept kO.o).lt;by_cases kV:k<prs.length
     .obtain⟨x,hx⟩:∃x,prs[k]? = some x:=⟨_,ac kV⟩;obtain⟨hs1,hs2⟩:=qI.o x (am hx);have lG:=Hd (zHR hx);rw[lu.o]at lG;have ph:=Hd hx;obtain⟨g,o,rfl,hg,d0,d1,-,-⟩:=(pt.o.kept kO.o).cell_of k x hx;clear hx lu;obtain⟨y,z⟩:=x;simp only at d0 d1 hs1 hs2 lG;go_wp2_with fail;refine k_ (HN.o y _ hs1) fun w2 ll=>?_;have kX:=Hd (kO.o.trans ll);clear ll kO b1 b2 bz d0 d1 hg;cases hny:za8 y with
      | false =>
       have kS:=Hd (zX.o 6 b_ (by rw[lG.o,ae hny]));go_wp2
       (try go_ret)
       exact⟨by rw[kS.o];rfl,lD.o.trans kX.o⟩
      | true =>
       rw[aa (by rw[hny];simp)]at lG;have b2:=(ma.o.kept kX.o).cell 2 _ rfl;have bz:=(ma.o.kept kX.o).lt;obtain⟨g2,o2,e2,hg2,d2,d3,-,-⟩:=(pt.o.kept kX.o).cell_of k _ ph.o;cases e2;clear hny;go_wp2_with fail;refine k_ (HL.o z _ hs2) fun w3 li=>?_;have lq:=Hd (kX.o.trans li);clear li kX b2 bz d2 d3 hg2;cases hlz:lnB z with
       | false =>
        have kS:=Hd (zX.o 17 b_ (by rw[lG.o,ae hlz]));go_wp2
        (try go_ret)
        exact⟨by rw[kS.o];rfl,lD.o.trans lq.o⟩
       | true =>
        rw[aa (by rw[hlz];simp)]at lG;have nt:Hi (Kept w1 w3.drew):=lq.o.trans (zaB _ 1);have b2:=(ma.o.kept nt.o).cell 2 _ rfl;have bz:=(ma.o.kept nt.o).lt;obtain⟨g2,o2,e2,hg2,d2,d3,-,-⟩:=(pt.o.kept nt.o).cell_of k _ ph.o;cases e2;have xV:=Hd (fun w' (kk:Kept w1 w')=>zoO _ (prs.take k) y w' (((pt.o.kept kk).pre k hk)) (by rw[bw];omega));obtain⟨bt,CJ⟩:∃b,Hi (((prs.take k).map (·.1)).contains y=b):=⟨_,rfl⟩;rw[CJ.o]at xV lG;have hkc:(k:Int)<=(cP:Int):=a_;clear CJ ph hlz;go_wp2_with fail
        go_region_law (go_simp;go_at_call 142;refine(xV.o _ nt.o).mono ?_;rintro e w4 ⟨rfl,rfl⟩)
        all_goals
         clear xV b2 bz d2 d3 hg2;cases bt with
         | true =>
          have kS:=Hd (zX.o 7 b_ lG.o);go_wp2
          (try go_ret)
          exact⟨by rw[kS.o];rfl,lD.o.trans nt.o⟩
         | false =>
          have HG2:Hi (zCi (prs.take (k+1)) (prs.drop (k+1))=PG):=lG.o.symm;clear lG;go_wp2;go_roundw
          .exact⟨k+1,a_,by go_num,HG2.o,nt.o⟩
          .simp [intOf];omega
     .obtain rfl:k=prs.length:=a_;have HR3:=Hd (Ks.o (by rw[<- lu.o,du];rfl));clear lu zX Ks;by_cases q1:32<cls.length
      .have kS:Hi (R=3):=(by show _=_;rw[HR3.o,ae (.inl q1)]);go_wp2
       (try go_ret)
       exact⟨by rw[kS.o];rfl,lD.o.trans kO.o⟩
      .by_cases q2:32<prs.length
       .have kS:Hi (R=3):=(by show _=_;rw[HR3.o,ae (.inr q2)]);go_wp2
        (try go_ret)
        exact⟨by rw[kS.o];rfl,lD.o.trans kO.o⟩
       .have kS:Hi (R=0):=(by show _=_;rw[HR3.o,aa a_]);go_wp2
        (try go_ret)
        exact⟨by rw[kS.o];rfl,lD.o.trans kO.o⟩
def zy5(l:List Bs):Nat:=(l.map List.length).sum
def zuR(l:List Pr):Nat:=(l.map fun p=>p.1.length+p.2.length).sum
def zdF(id:Bs)(cls:List Bs)(prs:List Pr):Prop:=cls.length<=40/\prs.length<=40/\id.length+zy5 cls+zuR prs<=600
def FitA(id:Bs)(cls:List Bs)(prs:List Pr):Prop:=id.length<=140737488355328/\cls.length<=140737488355328/\prs.length<=140737488355328/\(∀s∈cls,s.length<=140737488355328)/\∀p∈prs,p.1.length<=140737488355328/\p.2.length<=140737488355328
def zCj{l:List Bs}{k:Nat}{x:Bs}(h:l[k]? = some x):zy5 (l.take (k+1))=zy5 (l.take k)+x.length:=by
 unfold zy5;rw[zaV h,cI,eT];simp
def zCk{l:List Pr}{k:Nat}{x:Pr}(h:l[k]? = some x):zuR (l.take (k+1))=zuR (l.take k)+(x.1.length+x.2.length):=by
 unfold zuR;rw[zaV h,cI,eT];simp
def zFf{l:List Pr}{x:Pr}(h:x∈l):x.1.length+x.2.length<=zuR l:=by
 induction l with
 | nil=>cases h
 | cons y l ih =>
  have e:zuR (y::l)=y.1.length+y.2.length+zuR l:=(by unfold zuR;simp);rw[e];rcases bj.1 h with rfl|q
  .omega
  .have:=ih q;omega
def LongP(id:Bs)(cls:List Bs)(prs:List Pr)(w:World)(e:Ending)(w':World):Prop:=∃b:Bool,e=.returned (.bool b)/\(b=false↔zdF id cls prs)/\Kept w w'
def zwT(id:Bs)(cls:List Bs)(prs:List Pr)(vC vP:Value)(w:World)(hC:Strs w vC cls)(hP:Prs w vP prs)(hf:FitA id cls prs):Calls prog 28 #[atV id vC vP] w (LongP id cls prs w):=by
 obtain⟨f1,f2,f3,f4,f5⟩:=hf;have Ga:=Hd f4;have zK:=Hd f5;have HC:=Hd hC;have HP:=Hd hP;obtain⟨aC,cC,rfl,lC⟩:=hC.shape;obtain⟨aP,cP,rfl,lP⟩:=hP.shape;have ma:=Hd (aI w 39 #[.string (bs id),.slice aC cls.length cC,.slice aP prs.length cP]);have HK:=Hd (zaA w (.cells #[.string (bs id),.slice aC cls.length cC,.slice aP prs.length cP] 39));clear f4 f5 hC hP;have nV:Hi (∀w',Kept w w'->¬ zdF id cls prs->LongP id cls prs w (.returned (.bool true)) w'):=fun w' k h=>⟨true,rfl,⟨(fun q=>by cases q),fun q=>absurd q h⟩,k⟩;by_cases q1:40<cls.length
 .have HF:=Hd (nV.o _ HK.o (fun h=>by have:=h.1;omega));generalize LongP id cls prs w=P at *;go_in;go_wp2
  (try go_ret)
  exact HF.o
 by_cases q2:40<prs.length
 .have HF:=Hd (nV.o _ HK.o (fun h=>by have:=h.2.1;omega));generalize LongP id cls prs w=P at *;go_in;go_wp2
  (try go_ret)
  exact HF.o
 have qj:Hi (∀b w',(b=false↔id.length+zy5 cls+zuR prs<=600)->Kept w w'->LongP id cls prs w (.returned (.bool b)) w'):=fun b w' h k=>⟨b,rfl,⟨fun q=>⟨a_,a_,h.1 q⟩,fun q=>h.2 q.2.2⟩,k⟩;generalize LongP id cls prs w=P at *;go_in;go_wp2_with fail;generalize w.alloc (.cells #[.string (bs id),.slice aC cls.length cC,.slice aP prs.length cP] 39)=w0 at *;generalize w.heap.size=B at *;go_loopw [3,4] (fun n i wr=>∃(k:Nat),k<=cls.length/\i=.int .i64 k/\n=.int .i64 ((id.length+zy5 (cls.take k):Nat):Int)/\Hi (zy5 (cls.take k)<=140737488355328 * k)/\Hi (Kept w0 wr)) (fun _ i _=>cls.length - (intOf i).toNat)
 .exact⟨0,ai _,rfl,by simp [zy5],by show _<=_;simp [zy5],af _⟩
 case round =>
  obtain⟨k,hk,rfl,rfl,HS,kO⟩:=hrel;have b1:wr.cell? ⟨B,1,none⟩=some (.slice aC cls.length cC):=(ma.o.kept kO.o).cell 1 _ rfl;have z1:=(ma.o.kept kO.o).lt;by_cases kV:k<cls.length
  .obtain⟨x,hx⟩:∃x,cls[k]? = some x:=⟨_,ac kV⟩;obtain⟨g,o,rfl,hg,d0,-,-⟩:=(HC.o.kept (HK.o.trans kO.o)).cell_of k x hx;have od:=Ga.o x (am hx);have HT:=Hd (zCj hx);have hs1:=HS.o;clear hx;generalize zy5 (cls.take k)=s at *;go_wp2;go_roundw
   .exact⟨k+1,a_,by go_num,by rw[HT.o];first|go_num|(congr 1;omega),by show _<=_;rw[HT.o];omega,kO.o⟩
   .simp [intOf];omega
  .obtain rfl:k=cls.length:=a_;rw[bi];have hs1:=HS.o;rw[bi]at hs1;clear HS;obtain⟨s,CK⟩:=gX (zy5 cls);rw[CK.o]at hs1 qj ⊢;have tv:=Hd (HK.o.trans kO.o);have lx:=Hd (ma.o.kept kO.o);obtain⟨w1,rfl⟩:∃wo:World,wo=wr:=⟨_,rfl⟩;go_wp2_with fail;go_loopw [3,5] (fun n i wr=>∃(k:Nat),k<=prs.length/\i=.int .i64 k/\n=.int .i64 ((id.length+s+zuR (prs.take k):Nat):Int)/\Hi (zuR (prs.take k)<=281474976710656 * k)/\Hi (Kept w1 wr)) (fun _ i _=>prs.length - (intOf i).toNat)
   .exact⟨0,ai _,rfl,by simp [zuR],by show _<=_;simp [zuR],af _⟩
   case round =>
    obtain⟨k,hk,rfl,rfl,HS,zY⟩:=hrel;have b2:wr.cell? ⟨B,2,none⟩=some (.slice aP prs.length cP):=(lx.o.kept zY.o).cell 2 _ rfl;have QI:wr.drew.cell? ⟨B,2,none⟩=some (.slice aP prs.length cP):=b2;have z2:=(lx.o.kept zY.o).lt;by_cases kV:k<prs.length
    .obtain⟨x,hx⟩:∃x,prs[k]? = some x:=⟨_,ac kV⟩;obtain⟨g,o,rfl,hg,d0,d1,-,-⟩:=(HP.o.kept (tv.o.trans zY.o)).cell_of k x hx;obtain⟨od,hp2⟩:=zK.o x (am hx);have HT:=Hd (zCk hx);have hs2:=HS.o;clear hx;obtain⟨y,z⟩:=x;simp only at d0 d1 od hp2 HT;generalize zuR (prs.take k)=u at *;go_wp2_with fail;go_region
     all_goals
      go_wp2;go_roundw
      .exact⟨k+1,a_,by go_num,by rw[HT.o];first|go_num|(congr 1;omega),by show _<=_;rw[HT.o];omega,zY.o.trans (zaB _ _)⟩
      .simp [intOf];omega
    .obtain rfl:k=prs.length:=a_;rw[bi];have hs2:=HS.o;rw[bi]at hs2;clear HS;obtain⟨u,NF⟩:=gX (zuR prs);rw[NF.o]at hs2 qj ⊢;have HF:=Hd (qj.o (decide (600<(id.length:Int)+(s:Int)+(u:Int))) wr ⟨fun q=>by have:=of_decide_eq_false q;omega,fun q=>bH a_⟩ (tv.o.trans zY.o));go_wp2
     (try go_ret)
     exact HF.o
def fX:=@Lns.at_
def gQ:=@Bls.at_
end Go.Proofs.YtnldgmhdjancbaaGreatDoor
