/- Parts. -/
import Derived.Test.YtnldgmhdjancbaaGreatDoorW21
set_option linter.all false
set_option maxRecDepth 100000
set_option maxHeartbeats 25600000
namespace Go.Proofs.YtnldgmhdjancbaaGreatDoor
open Go.RowKit Go.Proofs.Tryz
def zf5(ss:List SrcT)(k:Bs):Option SrcT:=ss.find? fun s=>s.key==k
def zFE(ss:List SrcT)(k:Bs)(n:Nat)(s:SrcT)(hx:ss[n]? = some s)(hb:∀x∈ss.take n,(x.key==k)=false)(hk:(s.key==k)=true):zf5 ss k=some s:=by
 obtain⟨hk',rfl⟩:=ak.1 hx;unfold zf5;have e:ss=ss.take n++ss[n]::ss.drop (n+1):=(by rw[<- aJ hk',ce])
 conv=>lhs;rw[e]
 rw[ik,gW.2 (by intro x h;rw[hb x h];simp),iV (by simpa using hk)];rfl
def zzS(ss:List SrcT)(k:Bs)(hb:∀x∈ss,(x.key==k)=false):zf5 ss k=none:=by
 unfold zf5;rw[gW];intro x h;rw[hb x h];simp
def zJz{w wr:World}{v0 v1 v2 v3 v4:Value}(h:Kept w wr):Kept w (((((wr.setCell ⟨w.heap.size,0,none⟩ v0).setCell ⟨w.heap.size,1,none⟩ v1).setCell ⟨w.heap.size,2,none⟩ v2).setCell ⟨w.heap.size,3,none⟩ v3).setCell ⟨w.heap.size,4,none⟩ v4) :=
 zbF (zbF (zbF (zbF (zbF h _ _ _ (aw _)) _ _ _ (aw _)) _ _ _ (aw _)) _ _ _ (aw _)) _ _ _ (aw _)
def zeU{S:Nat->Prop}(w:World)(g o:Nat)(v:Value)(h:S g):Only S w (w.setCell ⟨g,o,none⟩ v):=(bK g o v).mono (fun i _ e=>e ▸ h)
def zKl{S:Nat->Prop}{w:World}{B:Nat}{v0 v1 v2 v3 v4:Value}(h:S B):Only S w (((((w.setCell ⟨B,0,none⟩ v0).setCell ⟨B,1,none⟩ v1).setCell ⟨B,2,none⟩ v2).setCell ⟨B,3,none⟩ v3).setCell ⟨B,4,none⟩ v4) :=
 ((((zeU _ _ _ _ h).trans (zeU _ _ _ _ h)).trans (zeU _ _ _ _ h)).trans (zeU _ _ _ _ h)).trans (zeU _ _ _ _ h)
def FindFr(o:Option SrcT)(w:World)(e:Ending)(w':World):Prop :=
 ∃vA vE vF,e=.returned (.tuple #[znF (o.getD zkV).key (o.getD zkV).type vA vE vF,.bool o.isSome])/\Perss w' vA (o.getD zkV).author/\Perss w' vE (o.getD zkV).editor/\Prs w' vF (o.getD zkV).fields/\(Fresh w.heap.size vA/\Fresh w.heap.size vE/\Fresh w.heap.size vF)/\Kept w w'
def Fresh.low{B B':Nat}{v:Value}(h:Fresh B v)(q:B'<=B):Fresh B' v:=fun g o n c e hn=>bC q (h g o n c e hn)
def zC0(v:Value)(ss:List SrcT)(k:Bs)(w:World)(hv:Srcs w v ss)(hl:ss.length<=1100000)(hL:∀s∈ss,s.author.length<=1100000/\s.editor.length<=1100000/\s.fields.length<=1100000):Calls prog 23 #[v,.string (bs k)] w (FindFr (zf5 ss k) w):=by
 have HV:=Hd hv;have HA:=Hd (zFE ss k);have nV:=Hd (zzS ss k);obtain⟨o,HO⟩:=gX (zf5 ss k);rw[HO.o]at HA nV ⊢;obtain⟨a,c,rfl,hc,h3⟩:=hv;clear h3;unfold FindFr;go_in;go_wp2_with fail;go_loopw [10] (fun i wr=>∃n:Nat,n<=ss.length/\i=.int .i64 n/\Hi (∀x∈ss.take n,(x.key==k)=false)/\Hi (Blk wr w.heap.size 50 #[.string (bs []),.string (bs []),.slice none 0 0,.slice none 0 0,.slice none 0 0])/\Hi (Kept w wr)) (fun i _=>ss.length - (intOf i).toNat)
 .exact⟨0,ai _,rfl,fun x h=>by simp at h,aI w _ _,zaA _ _⟩
 case round =>
  obtain⟨n,hn,rfl,HN,HB,kO⟩:=hrel;have b0:wr.cell? ⟨w.heap.size,0,none⟩=some (.string (bs [])):=HB.o.cell 0 _ rfl;have b1:wr.cell? ⟨w.heap.size,1,none⟩=some (.string (bs [])):=HB.o.cell 1 _ rfl;have b2:wr.cell? ⟨w.heap.size,2,none⟩=some (.slice none 0 0):=HB.o.cell 2 _ rfl;have b3:wr.cell? ⟨w.heap.size,3,none⟩=some (.slice none 0 0):=HB.o.cell 3 _ rfl;have b4:wr.cell? ⟨w.heap.size,4,none⟩=some (.slice none 0 0):=HB.o.cell 4 _ rfl;have f0:=HB.o.free 0;have f1:=HB.o.free 1;have f2:=HB.o.free 2;have f3:=HB.o.free 3;have f4:=HB.o.free 4;have z0:=HB.o.lt;by_cases kV:n<ss.length
  .obtain⟨s,hx⟩:∃x,ss[n]? = some x:=⟨_,ac kV⟩;obtain⟨a',c',hv',hc',h3⟩:=HV.o;obtain⟨rfl,nj,rfl⟩:=bL hv';clear nj hc';obtain⟨g,o2,rfl,hg',mU⟩:=h3 a_;obtain⟨vA,vE,vF,t0,t1,t2,t3,t4,pA,pE,pF⟩:=mU n s hx;have d0:=(kO.o.cell (p:=⟨g,_,none⟩) hg').trans t0;have d1:=(kO.o.cell (p:=⟨g,_,none⟩) hg').trans t1;have d2:=(kO.o.cell (p:=⟨g,_,none⟩) hg').trans t2;have d3:=(kO.o.cell (p:=⟨g,_,none⟩) hg').trans t3;have d4:=(kO.o.cell (p:=⟨g,_,none⟩) hg').trans t4;clear t0 t1 t2 t3 t4;have hg2:g<wr.heap.size:=aU hg' kO.o.size;have HL:=Hd (hL s (am hx));have qI:=Hd (And.intro pA (And.intro pE pF));have lG:=Hd (HA.o n s hx HN.o);obtain⟨aA,cA,rfl,zA,G8⟩:=pA;obtain⟨aE,cE,rfl,zE,G9⟩:=pE;obtain⟨aF,cF,rfl,zF,Ha⟩:=pF;clear zA G8 zE G9 zF Ha;cases hxk:(s.key==k)
   .have HS:Hi (∀x∈ss.take (n+1),(x.key==k)=false):=by
     intro x hxm;obtain⟨hk',rfl⟩:=ak.1 hx;rw[bf hk']at hxm;rcases aV.1 hxm with h|h
     .exact HN.o x h
     .simp at h;subst h;exact hxk
    clear mU h3 hv' hx HN lG b0 b1 b2 b3 b4 f0 f1 f2 f3 f4 z0;go_wp2;go_roundw
    .exact⟨n+1,a_,by go_num,HS.o,HB.o.kept (zaA _ _),kO.o.trans (zaA _ _)⟩
    .simp [intOf];omega
   .have mJ:=Hd (lG.o hxk);clear mU h3 hv' hx HN lG;obtain rfl:s.key=k:=(by simpa using hxk);clear hxk;have uC:=Hd (fun w h=>zg7 (.slice aA s.author.length cA) s.author w h HL.o.1);have nH:=Hd (fun w h=>zg7 (.slice aE s.editor.length cE) s.editor w h HL.o.2.1);have rq:=Hd (fun w h=>zoI (.slice aF s.fields.length cF) s.fields w h HL.o.2.2);have qy:=Hd (aI wr 50 #[.string (bs s.key),.string (bs s.type),.slice aA s.author.length cA,.slice aE s.editor.length cE,.slice aF s.fields.length cF]);have lg:=Hd (kO.o.trans (zaA wr (.cells #[.string (bs s.key),.string (bs s.type),.slice aA s.author.length cA,.slice aE s.editor.length cE,.slice aF s.fields.length cF] 50)));have hwr:w.heap.size<=wr.heap.size:=kO.o.size;go_wp2_with fail;refine(uC.o _ (qI.o.1.kept lg.o)).mono ?_;rintro e w1 ⟨v1,rfl,od,hf1,ld⟩;have pt:=Hd od;have pu:Hi (Fresh (wr.heap.size+1) v1):=(by show Fresh _ _;simpa using hf1);have ma:=Hd (qy.o.kept ld);have HR1:=Hd ((HB.o.kept (zaA wr _)).kept ld);have kT:=Hd (lg.o.trans ld);have kZ:=Hd (zbF kT.o wr.heap.size 2 v1 hwr);obtain⟨a1,c1,rfl,y1,y2⟩:=od;clear ld hf1 y1 y2 b0 b1 b2 b3 b4 f0 f1 f2 f3 f4 z0 d0 d1 d2 d3 d4 hg2 hg';have e2:w1.cell? ⟨wr.heap.size,2,none⟩=some (.slice aA s.author.length cA):=ma.o.cell 2 _ rfl;have e3:w1.cell? ⟨wr.heap.size,3,none⟩=some (.slice aE s.editor.length cE):=ma.o.cell 3 _ rfl;have f2:=ma.o.free 2;have z1:=ma.o.lt;go_wp2_with fail;refine(nH.o _ (qI.o.2.1.kept kZ.o)).mono ?_;rintro e w2 ⟨v2,rfl,hp2,hf2,ll⟩;have qt:=Hd hp2;have uj:Hi (Fresh (wr.heap.size+1) v2):=by
     show Fresh _ _;intro g' o' n' c' he hn;have:=hf2 g' o' n' c' he hn;rw[zc1]at this;omega
    have lx:Hi (Blk w2 wr.heap.size 50 #[.string (bs s.key),.string (bs s.type),.slice a1 s.author.length c1,.slice aE s.editor.length cE,.slice aF s.fields.length cF]):=(ma.o.set 2 _).kept ll;have kS:=Hd ((HR1.o.other wr.heap.size 2 (.slice a1 s.author.length c1) (by have:=HB.o.lt;omega)).kept ll);have IA:=Hd ((zeU (S:=fun i=>i<=wr.heap.size) w1 wr.heap.size 2 (.slice a1 s.author.length c1) (aw _)).trans (bc ll));have kX:=Hd (kZ.o.trans ll);have oa:=Hd (zbF kX.o wr.heap.size 3 v2 hwr);obtain⟨a2,c2,rfl,y1,y2⟩:=hp2;clear ll hf2 y1 y2 e2 e3 f2 z1;have e3:w2.cell? ⟨wr.heap.size,3,none⟩=some (.slice aE s.editor.length cE):=lx.o.cell 3 _ rfl;have e4:w2.cell? ⟨wr.heap.size,4,none⟩=some (.slice aF s.fields.length cF):=lx.o.cell 4 _ rfl;have f3:=lx.o.free 3;have z2:=lx.o.lt;go_wp2_with fail;refine(rq.o _ (qI.o.2.2.kept oa.o)).mono ?_;rintro e w3 ⟨v3,rfl,hp3,hf3,li⟩;have uc:=Hd hp3;have Af:Hi (Fresh (wr.heap.size+1) v3):=by
     show Fresh _ _;intro g' o' n' c' he hn;have:=hf3 g' o' n' c' he hn;rw[zc1]at this;omega
    have nl:Hi (Blk w3 wr.heap.size 50 #[.string (bs s.key),.string (bs s.type),.slice a1 s.author.length c1,.slice a2 s.editor.length c2,.slice aF s.fields.length cF]):=(lx.o.set 3 _).kept li;have HR3:=Hd ((kS.o.other wr.heap.size 3 (.slice a2 s.editor.length c2) (by have:=HB.o.lt;omega)).kept li);have D1:=Hd ((zeU (S:=fun i=>i<=wr.heap.size) w2 wr.heap.size 3 (.slice a2 s.editor.length c2) (aw _)).trans (bc li));have lq:=Hd (oa.o.trans li);have tv:=Hd (zbF lq.o wr.heap.size 4 v3 hwr);obtain⟨a3,c3,rfl,y1,y2⟩:=hp3;clear li hf3 y1 y2 e3 e4 f3 z2;have e0:w3.cell? ⟨wr.heap.size,0,none⟩=some (.string (bs s.key)):=nl.o.cell 0 _ rfl;have e1:w3.cell? ⟨wr.heap.size,1,none⟩=some (.string (bs s.type)):=nl.o.cell 1 _ rfl;have e2:w3.cell? ⟨wr.heap.size,2,none⟩=some (.slice a1 s.author.length c1):=nl.o.cell 2 _ rfl;have e3:w3.cell? ⟨wr.heap.size,3,none⟩=some (.slice a2 s.editor.length c2):=nl.o.cell 3 _ rfl;have e4:w3.cell? ⟨wr.heap.size,4,none⟩=some (.slice aF s.fields.length cF):=nl.o.cell 4 _ rfl;have f4:=nl.o.free 4;have z3:=nl.o.lt;have b0:w3.cell? ⟨w.heap.size,0,none⟩=some (.string (bs [])):=HR3.o.cell 0 _ rfl;have b1:w3.cell? ⟨w.heap.size,1,none⟩=some (.string (bs [])):=HR3.o.cell 1 _ rfl;have b2:w3.cell? ⟨w.heap.size,2,none⟩=some (.slice none 0 0):=HR3.o.cell 2 _ rfl;have b3:w3.cell? ⟨w.heap.size,3,none⟩=some (.slice none 0 0):=HR3.o.cell 3 _ rfl;have b4:w3.cell? ⟨w.heap.size,4,none⟩=some (.slice none 0 0):=HR3.o.cell 4 _ rfl;have h0:=HR3.o.free 0;have h1:=HR3.o.free 1;have h2:=HR3.o.free 2;have h3:=HR3.o.free 3;have h4:=HR3.o.free 4;have z4:=HR3.o.lt;have lV:w.heap.size≠wr.heap.size:=(by have:=HB.o.lt;omega);go_wp2_with fail;have Bv:=Hd ((zeU (S:=fun i=>i<=wr.heap.size) w3 wr.heap.size 4 (.slice a3 s.fields.length c3) (aw _)).trans (zKl (B:=w.heap.size) (v0:=.string (bs s.key)) (v1:=.string (bs s.type)) (v2:=.slice a1 s.author.length c1) (v3:=.slice a2 s.editor.length c2) (v4:=.slice a3 s.fields.length c3) hwr));have hK:=zJz tv.o (v0:=.string (bs s.key)) (v1:=.string (bs s.type)) (v2:=.slice a1 s.author.length c1) (v3:=.slice a2 s.editor.length c2) (v4:=.slice a3 s.fields.length c3);refine bM (v:=.tuple #[znF s.key s.type (.slice a1 s.author.length c1) (.slice a2 s.editor.length c2) (.slice a3 s.fields.length c3),.bool true]) (by simp [results,results23,go_sem,b0,b1,b2,b3,b4,z4,lV]) rfl ?_;refine⟨.slice a1 s.author.length c1,.slice a2 s.editor.length c2,.slice a3 s.fields.length c3,by rw[mJ.o];rfl,?_,?_,?_,⟨pu.o.low a_,uj.o.low a_,Af.o.low a_⟩,hK⟩
    .rw[mJ.o];exact pt.o.away pu.o ((IA.o.trans D1.o).trans Bv.o) (fun i h=>by omega)
    .rw[mJ.o];exact qt.o.away uj.o (D1.o.trans Bv.o) (fun i h=>by omega)
    .rw[mJ.o];exact uc.o.away Af.o Bv.o (fun i h=>by omega)
  .have HE:=Hd (nV.o (by have h:=HN.o;rw[bx a_]at h;exact h));go_wp2_with fail;have hK:=zJz kO.o (v0:=.string (bs [])) (v1:=.string (bs [])) (v2:=.slice none 0 0) (v3:=.slice none 0 0) (v4:=.slice none 0 0);refine bM (v:=.tuple #[znF [] [] (.slice none 0 0) (.slice none 0 0) (.slice none 0 0),.bool false]) (by simp [results,results23,go_sem,b0,b1,b2,b3,b4,z0]) rfl ?_;refine⟨.slice none 0 0,.slice none 0 0,.slice none 0 0,by rw[HE.o];rfl,?_,?_,?_,⟨ip _ _ _,ip _ _ _,ip _ _ _⟩,hK⟩
   .rw[HE.o];exact gf _
   .rw[HE.o];exact gf _
   .rw[HE.o];exact fL _
def zcG(l:List SrcT)(ks:List Bs):List SrcT:=ks.filterMap (zf5 l)
def zhJ(y:StyT)(l:List SrcT)(ks:List Bs):Int:=if zcU y≠0 then zcU y else if zdA l≠0 then zdA l else if ∀k∈ks,(zf5 l k).isSome=true then 0 else 13
def znB(y:StyT)(lang:Bs)(l:List SrcT)(ks:List Bs):List SrcT:=(zAd y lang (zcG l ks)).2
def fiC(y:StyT)(lang:Bs)(l:List SrcT)(ks:List Bs):FlT:=⟨y,lang,zf3 (znB y lang l ks) (zjI y lang (znB y lang l ks)).2⟩
def zC1{l:List SrcT}{k:Bs}{s:SrcT}(h:zf5 l k=some s):s∈l/\s.key=k:=by
 refine⟨cw h,?_⟩;have:=List.find?_some h;simpa using this
def zs3{l:List SrcT}{ks:List Bs}{s:SrcT}(h:s∈zcG l ks):s∈l:=by
 obtain⟨k,_,hk⟩:=List.mem_filterMap.1 h;exact(zC1 hk).1
def zxA(l:List SrcT):∀ks:List Bs,ks.Nodup->(zcG l ks).length<=l.length:=by
 have key:∀(ks:List Bs) (L:List Bs),ks.Nodup->(∀k∈ks,(zf5 l k).isSome=true->k∈L)->(zcG l ks).length<=L.length:=by
  intro ks
  induction ks with
  | nil=>intro L _ _;exact ai _
  | cons k ks ih =>
   intro L hn hL;obtain⟨h1,h2⟩:=List.nodup_cons.1 hn;unfold zcG;rw[jy];cases hf:zf5 l k with
   | none=>exact ih L h2 fun q hq=>hL q (bl _ hq)
   | some s =>
    have hk:=hL k (bI ..) (by rw[hf];rfl);have h3:=ih (L.erase k) h2 fun q hq hs=>(List.mem_erase_of_ne (show q≠k by intro e;subst e;exact h1 hq)).2 (hL q (bl _ hq) hs);have h4:=List.length_erase_of_mem hk;have h5:0<L.length:=List.length_pos_of_mem hk;unfold zcG at h3;rw[az];omega
 intro ks hn;have:=key ks (l.map (·.key)) hn fun k _ hk=>by
  obtain⟨s,hs⟩:=Option.isSome_iff_exists.1 hk;obtain⟨h1,rfl⟩:=zC1 hs;exact bQ.2 ⟨s,h1,rfl⟩
 rwa [bm]at this
def zzT{l:List SrcT}{ks:List Bs}{j:Nat}{k:Bs}{s:SrcT}(h:ks[j]? = some k)(hs:zf5 l k=some s):zcG l (ks.take (j+1))=zcG l (ks.take j)++[s]:=by
 unfold zcG;rw[zaV h,List.filterMap_append,jy,hs];rfl
def zFF(l:List SrcT)(ks:List Bs)(j:Nat):(zcG l (ks.take j)).length<=ks.length:=by
 have h1:(zcG l (ks.take j)).length<=(ks.take j).length:=List.length_filterMap_le _ _;have h2:(ks.take j).length<=ks.length:=List.length_take_le' _ _;omega
def zIm{y:StyT}(hy:zcU y=0)(lang:Bs)(l:List SrcT)(ks:List Bs):zAd y lang (zcG l ks)=(0,znB y lang l ks):=by
 unfold znB zAd;rw[ae hy]
def zs4{y:StyT}(hy:zcU y=0)(lang:Bs)(l:List SrcT)(ks:List Bs):(znB y lang l ks).Perm (zcG l ks):=by
 unfold znB zAd;rw[ae hy];exact zsH _ _ _
def zqH{y:StyT}(hy:zcU y=0){lang:Bs}{l:List SrcT}{ks:List Bs}{s:SrcT}(h:s∈znB y lang l ks):s∈l:=zs3 ((zs4 hy lang l ks).mem_iff.1 h)
def zvD{y:StyT}(hy:zcU y=0)(lang:Bs)(l:List SrcT){ks:List Bs}(h:ks.Nodup):(znB y lang l ks).length<=l.length:=by
 rw[(zs4 hy lang l ks).length_eq];exact zxA l ks h
def zIn{y:StyT}(hy:zcU y=0)(lang:Bs)(O:List SrcT):zjI y lang O=(0,(zjI y lang O).2):=by
 unfold zjI;rw[ae hy]
def znC(ss:List SrcT)(us:List Bs):(zf3 ss us).length=ss.length:=by unfold zf3;rw[List.length_mapIdx]
def zFG{ss:List SrcT}{us:List Bs}{k:Nat}{s:SrcT}{u:Bs}(h:ss[k]? = some s)(hu:us[k]? = some u):(zf3 ss us)[k]? = some ⟨s,u,(k:Int)+1⟩:=by
 unfold zf3;rw[eY,h,eR,cd,hu];rfl
def zs5{ss:List SrcT}{us:List Bs}{e:EnT}(h:e∈zf3 ss us):e.src∈ss/\(e.suf∈us\/e.suf=[])/\0<=e.num/\e.num<=ss.length:=by
 obtain⟨k,hk⟩:=i9.1 h;unfold zf3 at hk;rw[eY]at hk;obtain⟨s,hs,rfl⟩:=cG.1 hk;have hl:=(ak.1 hs).1;refine⟨am hs,?_,by show(0:Int)<=(k:Int)+1;omega,by show(k:Int)+1<=_;omega⟩;show us.getD k []∈us\/us.getD k []=[];rw[cd];cases hu:us[k]? with
 | none=>exact .inr rfl
 | some u=>exact .inl (am hu)
def zFH{es:List EnT}{k:Nat}{e:EnT}(h:es[k]? = some e)(q:Bs):lkE (es.take (k+1)) q=if q=e.src.key then e else lkE (es.take k) q:=by
 unfold lkE lkO;rw[zaV h,gN];show(List.find? _ (e::_)).getD _=_;rw[fw];by_cases hq:q=e.src.key
 .rw[ae hq];have:(e.src.key==q)=true:=(by simp [hq]);rw[this];rfl
 .rw[aa hq];have:(e.src.key==q)=false:=(by simpa using ke hq);rw[this];rfl
def zFI:∀n,zBo (zBZ n)=true:=by
 intro n
 induction n using Nat.strongRecOn with
 | _ n ih =>
  rcases dT n with rfl|hn
  .rw[zdD];rfl
  .rw[zdV hn];have h1:=ih ((n - 1) / 26) a_;have h2:(n - 1) % 26<26:=jK _ c_;unfold zBo at h1 ⊢;rw[ci,h1];have h3:∀r,r<26->(let u:UInt8:=UInt8.ofNat (97+r);(32<=u.toNat/\u.toNat<127)):=by
    intro r hr;show 32<=(UInt8.ofNat (97+r)).toNat/\_;rw[zlO hr];omega
   have h4:=h3 _ h2;simp only at h4;simp [zlO h2]
   try omega
def zC2(n:Nat):lnB (zeN n)=true:=by
 refine zcP ?_;have:=zFI n;unfold zBo zeN at *;rw[List.all_reverse];exact this
def zFJ{y:StyT}{lang:Bs}{O:List SrcT}{u:Bs}(h:u∈(zjI y lang O).2):lnB u=true:=by
 unfold zjI at h;by_cases hy:zcU y=0
 .rw[ae hy]at h;have h:u∈(if y.numeric=true then O.map fun _=>([]:Bs)else(zE4 (O.map (zuM y lang))).map zeN):=h;by_cases hn:y.numeric=true
  .rw[ae hn]at h;obtain⟨s,_,rfl⟩:=bQ.1 h;exact zdE
  .rw[aa hn]at h;obtain⟨m,_,rfl⟩:=bQ.1 h;exact zC2 m
 .rw[aa hy]at h;cases h
section
variable {y:StyT}(hy:zcU y=0)(lang:Bs){l:List SrcT}(hl:l.length<=8){ks:List Bs}(hn:ks.Nodup)
include hy hl hn
theorem zC3:(fiC y lang l ks).ents.length<=8:=by
 show(zf3 _ _).length<=8;rw[znC];have:=zvD hy lang l hn;omega
theorem zC4(hf:FewY y)(hs:∀s∈l,FitL s):FitQ (fiC y lang l ks):=by
 refine⟨hf,fun e he=>?_⟩;obtain⟨h1,h2,h3,h4⟩:=zs5 (show e∈zf3 _ _ from he);have h5:=zvD hy lang l hn;refine⟨hs _ (zqH hy h1),?_,h3,a_⟩;rcases h2 with h2|h2
 .exact zCZ hy a_ _ h2
 .rw[h2];exact ai _
theorem zC5(hb:lnB y.begin_=true)(hw:lnB y.between=true)(he:lnB y.end_=true)(hc:zdA l=0):CleanC (fiC y lang l ks):=by
 refine⟨hb,hw,he,fun e h=>?_⟩;obtain⟨h1,h2,h3,h4⟩:=zs5 (show e∈zf3 _ _ from h);refine⟨zCd hc _ (zqH hy h1),?_⟩;rcases h2 with h2|h2
 .exact zFJ h2
 .rw[h2];exact zdE
end
def Tryz.sizeIn1:(prog.info? 65).map (·.size)=some 10:=g_
def zJA:Array Value:=#[.int .i64 0,.string (bs []),.string (bs []),.string (bs []),.string (bs []),.slice none 0 0,.slice none 0 0,.slice none 0 0,.slice none 0 0,.slice none 0 0]
def zh2(vP:Value)(F R:Nat)(op cl bt jn x1 x2:Bs)(n0:Nat):Nat->(Nat->Value)->World->Prop
 | 0,V,_=>V 0=.pointer (some ⟨F,0,none⟩)
 | 1,V,_=>V 1=.pointer (some ⟨F,0,none⟩)
 | 2,V,_=>V 2=.pointer (some ⟨F,0,none⟩)
 | 3,V,_=>V 3=.pointer (some ⟨F,6,none⟩)
 | 4,V,_=>V 4=.string (bs op)
 | 5,V,_=>V 5=vP
 | 6,V,_=>V 6=.pointer (some ⟨F,0,none⟩)
 | 7,V,_=>V 7=.pointer (some ⟨F,0,none⟩)
 | 8,V,_=>V 8=.pointer (some ⟨F,0,none⟩)
 | 9,V,_=>V 9=.pointer (some ⟨F,5,none⟩)
 | 10,V,_=>V 10=.string (bs bt)
 | 11,V,_=>V 11=.string (bs jn)
 | 12,V,_=>V 12=.string (bs x1)
 | 13,V,_=>V 13=.pointer (some ⟨F,0,none⟩)
 | 14,V,_=>V 14=.pointer (some ⟨F,0,none⟩)
 | 15,V,_=>V 15=.pointer (some ⟨F,0,none⟩)
 | 16,V,_=>V 16=.pointer (some ⟨F,7,none⟩)
 | 17,V,_=>V 17=.string (bs cl)
 | 18,V,_=>V 18=.string (bs x2)
 | 19,V,_=>V 19=.agg (txC x2).toArray
 | _,_,_=>True
def zC6{ops:Array Oper}{id:Nat}{a:Act}{wr:World}{Q:Exit->Act->World->Prop}(vP:Value)(F R:Nat)(op cl bt jn x1 x2:Bs)(hc:zyU ops 21 20 #[[0,1,2,3,4,5,6,7,8,9,10,11,12,13,14,15,16,17,18,19]] #[[],[0],[1],[2],[3],[],[],[6],[7],[8],[9],[5,10],[4,11],[],[13],[14],[15],[16],[12,17],[18],[19]] 84=true)(p0:OpAt ops 0 (.move (.tmp 0)) (some 64))(p1:OpAt ops 1 (.nilCheck (.tmp 64)) (some 65))(p2:OpAt ops 2 (.fieldAddr 77 (.tmp 65) 0) (some 66))(p3:OpAt ops 3 (.fieldAddr 28 (.tmp 66) 6) (some 67))(p4:OpAt ops 4 (.load 9 (.tmp 67)) (some 68))(p5:OpAt ops 5 (.move (.tmp 5)) (some 69))(p6:OpAt ops 6 (.move (.tmp 0)) (some 70))(p7:OpAt ops 7 (.nilCheck (.tmp 70)) (some 71))(p8:OpAt ops 8 (.fieldAddr 77 (.tmp 71) 0) (some 72))(p9:OpAt ops 9 (.fieldAddr 28 (.tmp 72) 5) (some 73))(p10:OpAt ops 10 (.load 9 (.tmp 73)) (some 74))(D2:OpAt ops 11 (.call { callee:=.value (.func 86),args:=#[.tmp 69,.tmp 74],argTypes:=#[37,9] }) (some 75))
  (KC:OpAt ops 12 (.binOp .add 9 (.tmp 68) (.tmp 75) 9) (some 76))
  (KD:OpAt ops 13 (.move (.tmp 0)) (some 77))
  (KF:OpAt ops 14 (.nilCheck (.tmp 77)) (some 78))
  (KG:OpAt ops 15 (.fieldAddr 77 (.tmp 78) 0) (some 79))
  (p16:OpAt ops 16 (.fieldAddr 28 (.tmp 79) 7) (some 80))
  (KH:OpAt ops 17 (.load 9 (.tmp 80)) (some 81))
  (KI:OpAt ops 18 (.binOp .add 9 (.tmp 76) (.tmp 81) 9) (some 82))
  (KJ:OpAt ops 19 (.call { callee:=.value (.func 95),args:=#[.tmp 82],argTypes:=#[9] }) (some 83))
  (KK:OpAt ops 20 (.store 65 (.tmp 4) (.tmp 83)) none)
  (hz:84<=a.tmps.size) (h0:a.eval (.tmp 0)=.pointer (some ⟨F,0,none⟩)) (h5:a.eval (.tmp 5)=vP) (h4:a.eval (.tmp 4)=.pointer (some ⟨R,0,none⟩))
  (HR:Hi (Blk wr R 65 zJA)) (rq:Hi (F<wr.heap.size/\wr.cell? ⟨F,6,none⟩=some (.string (bs op))/\wr.cell? ⟨F,5,none⟩=some (.string (bs bt))/\wr.cell? ⟨F,7,none⟩=some (.string (bs cl)))) (HJ:Hi (∀w',Kept wr w'->Calls prog 86 #[vP,.string (bs bt)] w' fun e w''=>e=.returned (.string (bs jn))/\Kept w' w'')) (HA1:Hi (∀w,(Op.stringOp .add (bs op) (bs jn)).run prog w=.ok (.string (bs x1)) w)) (HA2:Hi (∀w,(Op.stringOp .add (bs x1) (bs cl)).run prog w=.ok (.string (bs x2)) w))
  (hend:∀(V:Nat->Value) w1 w',Kept wr w1->Only (fun i=>i=R) w1 w'->Blk w' R 65 (txC x2).toArray->Q .normal (((((((((((((((((((((a.put (some 64) (V 0)).put (some 65) (V 1)).put (some 66) (V 2)).put (some 67) (V 3)).put (some 68) (V 4)).put (some 69) (V 5)).put (some 70) (V 6)).put (some 71) (V 7)).put (some 72) (V 8)).put (some 73) (V 9)).put (some 74) (V 10)).put (some 75) (V 11)).put (some 76) (V 12)).put (some 77) (V 13)).put (some 78) (V 14)).put (some 79) (V 15)).put (some 80) (V 16)).put (some 81) (V 17)).put (some 82) (V 18)).put (some 83) (V 19)).put none (V 20)) w') :
  (Code.region id ops true).wp prog Q a wr:=by
 have e0:=zaF p0;have e1:=zaF p1;have e2:=zaF p2;have e3:=zaF p3;have e4:=zaF p4;have e5:=zaF p5;have e6:=zaF p6;have e7:=zaF p7;have e8:=zaF p8;have e9:=zaF p9;have e10:=zaF p10;have e11:=zaF D2;have e12:=zaF KC;have e13:=zaF KD;have e14:=zaF KF;have e15:=zaF KG;have e16:=zaF p16;have e17:=zaF KH;have e18:=zaF KI;have e19:=zaF KJ;have e20:=zaF KK;have mc:∀t,(t=0\/t=5\/t=4)->∀j,j<21->zgH ops j≠some t:=by
  intro t ht j hj;obtain rfl|rfl|rfl|rfl|rfl|rfl|rfl|rfl|rfl|rfl|rfl|rfl|rfl|rfl|rfl|rfl|rfl|rfl|rfl|rfl|rfl:j=0\/j=1\/j=2\/j=3\/j=4\/j=5\/j=6\/j=7\/j=8\/j=9\/j=10\/j=11\/j=12\/j=13\/j=14\/j=15\/j=16\/j=17\/j=18\/j=19\/j=20:=a_
  all_goals simp [e0,e1,e2,e3,e4,e5,e6,e7,e8,e9,e10,e11,e12,e13,e14,e15,e16,e17,e18,e19,e20]
  all_goals omega
 refine zbT 21 20 84 _ _ hc d_ hz (zh2 vP F R op cl bt jn x1 x2 wr.heap.size) (fun w=>Kept wr w) Kept
  (fun V w=>∃w1,Kept wr w1/\Only (fun i=>i=R) w1 w/\Blk w R 65 (txC x2).toArray) ?_ ?_ ?_ ?_ ?_ ?_ ?_ ?_ ?_
 .intro j hj V V' w hV h;have hjj:=hV j (.inl rfl);obtain rfl|rfl|rfl|rfl|rfl|rfl|rfl|rfl|rfl|rfl|rfl|rfl|rfl|rfl|rfl|rfl|rfl|rfl|rfl|rfl|rfl:j=0\/j=1\/j=2\/j=3\/j=4\/j=5\/j=6\/j=7\/j=8\/j=9\/j=10\/j=11\/j=12\/j=13\/j=14\/j=15\/j=16\/j=17\/j=18\/j=19\/j=20:=a_
  all_goals (simp only[zh2]at h ⊢;try (rw[<- hjj];exact h))
 .intro V V' w hV h;exact h
 .intro j hj lV V w w' h k;obtain rfl|rfl|rfl|rfl|rfl|rfl|rfl|rfl|rfl|rfl|rfl|rfl|rfl|rfl|rfl|rfl|rfl|rfl|rfl|rfl:j=0\/j=1\/j=2\/j=3\/j=4\/j=5\/j=6\/j=7\/j=8\/j=9\/j=10\/j=11\/j=12\/j=13\/j=14\/j=15\/j=16\/j=17\/j=18\/j=19:=a_
  all_goals exact h
 .intro j hj lV hni;exfalso;apply hni;have:j<20:=a_;simp only[Array.getD,dQ];obtain rfl|rfl|rfl|rfl|rfl|rfl|rfl|rfl|rfl|rfl|rfl|rfl|rfl|rfl|rfl|rfl|rfl|rfl|rfl|rfl:j=0\/j=1\/j=2\/j=3\/j=4\/j=5\/j=6\/j=7\/j=8\/j=9\/j=10\/j=11\/j=12\/j=13\/j=14\/j=15\/j=16\/j=17\/j=18\/j=19:=a_
  all_goals simp
 .exact zaB wr 1
 .intro i hi lV V a' w' hG hF hR hS K hK;have o0:=(hR 0 (mc 0 a_)).trans h0;have o5:=(hR 5 (mc 5 a_)).trans h5;have o4:=(hR 4 (mc 4 a_)).trans h4;have c6:w'.cell? ⟨F,6,none⟩=some (.string (bs op)):=(hG.cell (p:=⟨F,6,none⟩) rq.o.1).trans rq.o.2.1;have c5:w'.cell? ⟨F,5,none⟩=some (.string (bs bt)):=(hG.cell (p:=⟨F,5,none⟩) rq.o.1).trans rq.o.2.2.1;have c7:w'.cell? ⟨F,7,none⟩=some (.string (bs cl)):=(hG.cell (p:=⟨F,7,none⟩) rq.o.1).trans rq.o.2.2.2;have fz:=aU rq.o.1 hG.size;have same:∀v,zh2 vP F R op cl bt jn x1 x2 wr.heap.size i (upd V i v) w'->K (a'.put (zgH ops i) v) w':=fun v h=>hK v w' (af _) hG h;obtain rfl|rfl|rfl|rfl|rfl|rfl|rfl|rfl|rfl|rfl|rfl|rfl|rfl|rfl|rfl|rfl|rfl|rfl|rfl|rfl:i=0\/i=1\/i=2\/i=3\/i=4\/i=5\/i=6\/i=7\/i=8\/i=9\/i=10\/i=11\/i=12\/i=13\/i=14\/i=15\/i=16\/i=17\/i=18\/i=19:=a_
  .exact zdC p0 o0 (same _ (zaG _ _ _))
  .have z0:=((hF 0 b_).2 _ e0).trans (hF 0 b_).1;refine zaP p1 (v:=.pointer (some ⟨F,0,none⟩)) (w':=w') (fun o1 ho=>?_) (same _ (zaG _ _ _));simp only[execOp,ho,z0];simp [go_sem,fz]
  .have z1:=((hF 1 b_).2 _ e1).trans (hF 1 b_).1;refine zaP p2 (v:=.pointer (some ⟨F,0,none⟩)) (w':=w') (fun o1 ho=>?_) (same _ (zaG _ _ _));simp only[execOp,ho,z1];simp [go_sem,jR]
  .have z2:=((hF 2 b_).2 _ e2).trans (hF 2 b_).1;refine zaP p3 (v:=.pointer (some ⟨F,6,none⟩)) (w':=w') (fun o1 ho=>?_) (same _ (zaG _ _ _));simp only[execOp,ho,z2];simp [go_sem,dx]
  .have z3:=((hF 3 b_).2 _ e3).trans (hF 3 b_).1;refine zaP p4 (v:=.string (bs op)) (w':=w') (fun o1 ho=>?_) (same _ (zaG _ _ _));simp only[execOp,ho,z3];simp [go_sem,aq,c6]
  .exact zdC p5 o5 (same _ (zaG _ _ _))
  .exact zdC p6 o0 (same _ (zaG _ _ _))
  .have z6:=((hF 6 b_).2 _ e6).trans (hF 6 b_).1;refine zaP p7 (v:=.pointer (some ⟨F,0,none⟩)) (w':=w') (fun o1 ho=>?_) (same _ (zaG _ _ _));simp only[execOp,ho,z6];simp [go_sem,fz]
  .have z7:=((hF 7 b_).2 _ e7).trans (hF 7 b_).1;refine zaP p8 (v:=.pointer (some ⟨F,0,none⟩)) (w':=w') (fun o1 ho=>?_) (same _ (zaG _ _ _));simp only[execOp,ho,z7];simp [go_sem,jR]
  .have z8:=((hF 8 b_).2 _ e8).trans (hF 8 b_).1;refine zaP p9 (v:=.pointer (some ⟨F,5,none⟩)) (w':=w') (fun o1 ho=>?_) (same _ (zaG _ _ _));simp only[execOp,ho,z8];simp [go_sem,dx]
  .have z9:=((hF 9 b_).2 _ e9).trans (hF 9 b_).1;refine zaP p10 (v:=.string (bs bt)) (w':=w') (fun o1 ho=>?_) (same _ (zaG _ _ _));simp only[execOp,ho,z9];simp [go_sem,aq,c5]
  .have z5:=((hF 5 b_).2 _ e5).trans (hF 5 b_).1;have NM:=((hF 10 b_).2 _ e10).trans (hF 10 b_).1;refine zbU D2 (f:=86) (args:=#[vP,.string (bs bt)]) (w':=w') (fun o1 ho=>?_) ((HJ.o w' hG).mono fun e w'' ⟨he,hk⟩=>⟨_,he,hK _ w'' hk (hG.trans hk) (zaG _ _ _)⟩);simp only[execOp,ho,resolve,ck,bd,ca,z5,NM];simp [go_sem]
  .have z4:=((hF 4 b_).2 _ e4).trans (hF 4 b_).1;have KL:=((hF 11 b_).2 _ e11).trans (hF 11 b_).1;have z4:=((hF 4 b_).2 _ e4).trans (hF 4 b_).1;have KL:=((hF 11 b_).2 _ e11).trans (hF 11 b_).1;refine zaP KC (v:=.string (bs x1)) (w':=w') (fun o1 ho=>?_) (same _ (zaG _ _ _));have hadd:=HA1.o w';simp only[execOp,ho,z4,KL];simp [go_sem,hadd]
  .exact zdC KD o0 (same _ (zaG _ _ _))
  .have rc:=((hF 13 b_).2 _ e13).trans (hF 13 b_).1;refine zaP KF (v:=.pointer (some ⟨F,0,none⟩)) (w':=w') (fun o1 ho=>?_) (same _ (zaG _ _ _));simp only[execOp,ho,rc];simp [go_sem,fz]
  .have G1:=((hF 14 b_).2 _ e14).trans (hF 14 b_).1;refine zaP KG (v:=.pointer (some ⟨F,0,none⟩)) (w':=w') (fun o1 ho=>?_) (same _ (zaG _ _ _));simp only[execOp,ho,G1];simp [go_sem,jR]
  .have G2:=((hF 15 b_).2 _ e15).trans (hF 15 b_).1;refine zaP p16 (v:=.pointer (some ⟨F,7,none⟩)) (w':=w') (fun o1 ho=>?_) (same _ (zaG _ _ _));simp only[execOp,ho,G2];simp [go_sem,dx]
  .have G3:=((hF 16 b_).2 _ e16).trans (hF 16 b_).1;refine zaP KH (v:=.string (bs cl)) (w':=w') (fun o1 ho=>?_) (same _ (zaG _ _ _));simp only[execOp,ho,G3];simp [go_sem,aq,c7]
  .have z12:=((hF 12 b_).2 _ e12).trans (hF 12 b_).1;have z17:=((hF 17 b_).2 _ e17).trans (hF 17 b_).1;have z12:=((hF 12 b_).2 _ e12).trans (hF 12 b_).1;have z17:=((hF 17 b_).2 _ e17).trans (hF 17 b_).1;refine zaP KI (v:=.string (bs x2)) (w':=w') (fun o1 ho=>?_) (same _ (zaG _ _ _));have hadd:=HA2.o w';simp only[execOp,ho,z12,z17];simp [go_sem,hadd]
  .have G4:=((hF 18 b_).2 _ e18).trans (hF 18 b_).1;refine zbU KJ (f:=95) (args:=#[.string (bs x2)]) (w':=w') (fun o1 ho=>?_) (((fun w' _=>zoK x2 w') w' hG).mono fun e w'' ⟨he,hk⟩=>⟨_,he,hK _ w'' hk (hG.trans hk) (zaG _ _ _)⟩);simp only[execOp,ho,resolve,ck,bd,ca,G4];simp [go_sem]
 .intro V a' w' hG hF hR K hK;have o0:=(hR 0 (mc 0 a_)).trans h0;have o5:=(hR 5 (mc 5 a_)).trans h5;have o4:=(hR 4 (mc 4 a_)).trans h4;have z0:=((hF 19 b_).2 _ e19).trans (hF 19 b_).1;refine zcW KK fun o1 ho hg' hd'=>?_;refine zaI hg' 65 (.tmp 4) (.tmp 83) ho R zJA (txC x2).toArray o4 z0 (HR.o.kept hG) rfl Tryz.sizeIn1 (by simp [txC,Value.oneCell']) ?_;intro w2 mV mQ;rw[hd'];exact hK _ _ ⟨w',hG,mQ,mV⟩
 .intro i hi lV hni;exfalso;apply hni;have:i<20:=a_;obtain rfl|rfl|rfl|rfl|rfl|rfl|rfl|rfl|rfl|rfl|rfl|rfl|rfl|rfl|rfl|rfl|rfl|rfl|rfl|rfl:i=0\/i=1\/i=2\/i=3\/i=4\/i=5\/i=6\/i=7\/i=8\/i=9\/i=10\/i=11\/i=12\/i=13\/i=14\/i=15\/i=16\/i=17\/i=18\/i=19:=a_
  all_goals simp
 .intro V w' ⟨w1,g1,g2,g3⟩ _;have:=hend V w1 w' g1 g2 g3;simp only[zc4,e0,e1,e2,e3,e4,e5,e6,e7,e8,e9,e10,e11,e12,e13,e14,e15,e16,e17,e18,e19,e20];exact this
def Tryz.zeroEny(w:World):(zeroValue 79).run prog w=.ok (.agg #[.string (bs []),.string (bs []),.slice none 0 0,.slice none 0 0,.slice none 0 0,.string (bs []),.int .i64 0]) w:=g_
def EnyK(S:Nat->Prop)(w:World)(cs:List Value)(e:EnT):Prop:=∃vA vE vF,cs=[.string (bs e.src.key),.string (bs e.src.type),vA,vE,vF,.string (bs e.suf),.int .i64 e.num]/\SrcL S w vA vE vF e.src
def zFK:ReadK EnyK:=⟨fun⟨vA,vE,vF,h1,h2⟩ k hS=>⟨vA,vE,vF,h1,h2.sam k hS⟩,fun⟨vA,vE,vF,h1,h2⟩ u hu=>by
 obtain⟨⟨a1,_⟩,⟨b1,_⟩,c1,_⟩:=h2;obtain⟨a,c,rfl,_⟩:=a1;obtain⟨a,c,rfl,_⟩:=b1;obtain⟨a,c,rfl,_⟩:=c1;rw[h1]at hu;simp only[bj,bO,ej]at hu;rcases hu with rfl|rfl|rfl|rfl|rfl|rfl|rfl<;>rfl⟩
def zFL:Value:=.agg #[.string (bs []),.string (bs []),.slice none 0 0,.slice none 0 0,.slice none 0 0,.string (bs []),.int .i64 0]
def LkV(w:World)(v:Value)(e:EnT):Prop:=∃vA vE vF,v=enV e.src e.suf e.num vA vE vF/\Perss w vA e.src.author/\Perss w vE e.src.editor/\Prs w vF e.src.fields
def LkV.kept{w w':World}{v:Value}{e:EnT}(h:LkV w v e)(k:Kept w w'):LkV w' v e:=by
 obtain⟨vA,vE,vF,h1,h2,h3,h4⟩:=h;exact⟨vA,vE,vF,h1,h2.kept k,h3.kept k,h4.kept k⟩
def FlM(c:FlT)(F:Nat)(w:World):Prop:=∃vY sL M mp,Blk w F 77 (flC vY c.sty c.lang sL M)/\vY.oneCell'=true/\Prs w vY c.sty.entries/\RowR (fun _=>True) 7 (EnyK (fun _=>True) w) w sL c.ents/\MapT w M mp/\∀k,LkV w ((zd5 mp k).getD zFL) (lkE c.ents k)
def FlM.kept{c:FlT}{F:Nat}{w w':World}(h:FlM c F w)(k:Kept w w'):FlM c F w':=by
 obtain⟨vY,sL,M,mp,h1,h2,h3,h4,h5,h6⟩:=h;exact⟨vY,sL,M,mp,h1.kept k,h2,h3.kept k,gd h4 (cU k) (fun _ _ q=>q) (fun _ _ _ hx=>zFK.sam hx (cU k) (fun _ _ q=>q)),h5.kept k,fun q=>(h6 q).kept k⟩
def zs6(c:FlT)(F:Nat)(e:EnT)(t:Bs)(v:Value)(w:World)(ni:EnvC w)(hf:FlM c F w)(hc:FitQ c)(hv:LkV w v e)(he:FitL e.src/\e.suf.length<=100/\0<=e.num/\e.num<=1000)(ht:t.length<=100000):Calls prog 96 #[.pointer (some ⟨F,0,none⟩),.string (bs t),v] w fun e' w'=>e'=.returned (.string (bs (fiE c t e)))/\Kept w w':=by
 obtain⟨vY,sL,M,mp,h1,h2,h3,h4,h5,h6⟩:=hf;obtain⟨vA,vE,vF,rfl,k1,k2,k3⟩:=hv;exact zFa F M vY sL vA vE vF e.src c.sty c.lang e.suf t e.num w ni h1 h2 ht hc.1.2.2.2 ⟨a_,a_⟩ k1 k2 k3 he.1 a_
def zb3{P:Program}(a b x:Bs)(n m:Nat)(hx:a++b=x)(ha:a.length<=n)(hb:b.length<=m)(h:n+m<=9223372036854775807):(∀w,(Op.stringOp .add (bs a) (bs b)).run P w=.ok (.string (bs x)) w)/\x.length<=n+m:=by
 subst hx;refine⟨fun w=>?_,by rw[ah];omega⟩;rw[run_string_add_sum w (bs a) (bs b) (by simp only[zdZ];omega),zqW]
def zC7{α β:Type}(f:α->β){l:List α}{k:Nat}{x:α}(h:l[k]? = some x):(l.take (k+1)).map f=(l.take k).map f++[f x]:=by rw[zaV h,cI];rfl
def zFM{S:Nat->Prop}(c:FlT)(F:Nat)(vT:Value)(l:List Cit)(w:World)(ni:EnvC w)(hfl:FlM c F w)(hc:FitQ c)(hT:Cits S w vT l)(hl:l.length<=9)(hb:∀p∈l,p.key.length+p.pre.length+p.suf.length<=40000):Calls prog 99 #[.pointer (some ⟨F,0,none⟩),vT] w fun e w'=>e=.returned (.agg (txC (zm2 c l)).toArray)/\Kept w w':=by
 obtain⟨i0,hi,mr,mq,mm⟩:=cg Tryz.infoStr;obtain⟨aT,cT,rfl,lT⟩:=hT.form;have HT:=Hd hT;have NN:=Hd hb;have qh:=Hd (fun k v w' (q:Kept w w') (hv:LkV w' v (lkE c.ents k)) (t:Bs) (ht:t.length<=100000)=>zs6 c F (lkE c.ents k) t v w' (ni.kept q) (hfl.kept q) hc hv (znA hc k) ht);have xR:=Hd (fun k (t:Bs) (ht:t.length<=400)=>zqF (znA hc k).1 c.sty c.lang (lkE c.ents k).suf (lkE c.ents k).num (znA hc k).2.1 (znA hc k).2.2 ht);have sb:=Hd (fun p (h:p∈l)=>zw8 hc p (by have:=hb p h;omega));obtain⟨z1,z2,z3,z4,z5⟩:c.sty.begin_.length<=400/\c.sty.end_.length<=400/\c.sty.between.length<=400/\c.sty.cite.length<=400/\c.sty.bare.length<=400:=(by have:=hc.1.2.1;exact⟨a_,a_,a_,a_,a_⟩);have KM:=Hd (zw7 c.sty.between 560002 (l.map (zoQ c)) (fun x hx=>by
  obtain⟨p,hp,rfl⟩:=bQ.1 hx;exact sb.o p hp))
 have HJ2:Hi ((Lib.join (l.map (zoQ c)) c.sty.between).length<=5043618):=by
  have h1:=KM.o;rw[bm]at h1;have h2:l.length * (560002+c.sty.between.length)<=9 * 560402:=eC hl a_;show _<=_;omega
 obtain⟨vY,sL,M,mp,g1,g2,g3,g4,g5,g6⟩:=hfl;have tc:=Hd g1;have pX:=Hd g5;have tH:=Hd g6;obtain⟨JN,Gh⟩:=gX (Lib.join (l.map (zoQ c)) c.sty.between);have qO:Hi (zm2 c l=(c.sty.begin_++JN)++c.sty.end_):=(by show _=_;unfold zm2;rw[Gh.o]);rw[qO.o];rw[Gh.o]at HJ2;have hj2:=HJ2.o;have IB:=Hd hj2;obtain⟨KN,KO⟩:=zb3 (P:=prog) c.sty.begin_ JN (c.sty.begin_++JN) 400 5043618 rfl z1 hj2 a_;obtain⟨KP,NO⟩:=zb3 (P:=prog) (c.sty.begin_++JN) c.sty.end_ ((c.sty.begin_++JN)++c.sty.end_) 5044018 400 rfl KO z2 a_;have IC:=Hd KN;have ID:=Hd KP;clear KN KP KO NO hj2 g1 g2 g3 g4 g5 g6 ni hT hb KM HJ2 qO;obtain⟨R,sj⟩:=gX w.heap.size;have oI:=Hd (aI w 65 zJA);unfold zJA at oI;have lg:=Hd (zaA w (.cells #[.int .i64 0,.string (bs []),.string (bs []),.string (bs []),.string (bs []),.slice none 0 0,.slice none 0 0,.slice none 0 0,.slice none 0 0,.slice none 0 0] 65));rw[sj.o]at oI;go_in;go_upto_region 2 with fail;rw[sj.o];generalize w.alloc _=w0 at *;have NP:w.heap.size<=R:=(by rw[sj.o];exact aw _);go_wp2_with fail;go_loopw [5,12] (fun v i wr=>∃(k:Nat),k<=l.length/\i=.int .i64 k/\Hi (OutG StrK 1 (fun _=>False) w0.heap.size 9 wr v ((l.take k).map (zoQ c)))/\Hi (Kept w0 wr)) (fun _ i _=>l.length - (intOf i).toNat)
 .exact⟨0,ai _,rfl,ey _ _ _ _ _ _,af _⟩
 case round =>
  obtain⟨k,hk,rfl,lu,kO⟩:=hrel;have lD:=Hd (lg.o.trans kO.o);obtain⟨ar,cr,rfl,hcr,hmr⟩:=lu.o.form;have ow:((l.take k).map (zoQ c)).length=k:=(by rw[bm,bw];omega);rw[ow]at hcr ⊢;by_cases kV:k<l.length
  .obtain⟨p,hp⟩:∃p,l[k]? = some p:=⟨_,ac kV⟩;have sB:Hi ((l.take (k+1)).map (zoQ c)=(l.take k).map (zoQ c)++[zoQ c p]):=zC7 _ hp;have hpb:=NN.o p (am hp);have hpl:=sb.o p (am hp);obtain⟨g,o,cs,rfl,mY,qC,-,hcs,mU,-,-⟩:=iJ (show RowR S 4 CitW w _ _ from HT.o) k p hp;rw[mU]at hcs;have e0:w.cell? ⟨g,o+k * 4,none⟩=some (.string (bs p.key)):=hcs 0 _ rfl;have e1:w.cell? ⟨g,o+k * 4+1,none⟩=some (.string (bs p.pre)):=hcs 1 _ rfl;have e2:w.cell? ⟨g,o+k * 4+2,none⟩=some (.string (bs p.suf)):=hcs 2 _ rfl;have e3:w.cell? ⟨g,o+k * 4+3,none⟩=some (.bool p.bare):=hcs 3 _ rfl;have d0:=(lD.o.cell (p:=⟨g,o+k * 4,none⟩) mY).trans e0;have d1:=(lD.o.cell (p:=⟨g,o+k * 4+1,none⟩) mY).trans e1;have d2:=(lD.o.cell (p:=⟨g,o+k * 4+2,none⟩) mY).trans e2;have d3:=(lD.o.cell (p:=⟨g,o+k * 4+3,none⟩) mY).trans e3;have hgz:g<wr.heap.size:=aU mY lD.o.size;have qQ:=Hd (fun t ht v w' q hv=>qh.o p.key v w' q hv t ht);have CQ:=Hd (xR.o p.key);have Bw:=Hd (tH.o p.key);obtain⟨E,uH⟩:=gX (lkE c.ents p.key);have qI:Hi (zoQ c p=zGv (zFi p.pre (fiE c (if p.bare=true then c.sty.bare else c.sty.cite) E)) p.suf):=(by show _=_;unfold zoQ;rw[uH.o]);rw[uH.o]at qQ CQ Bw;rw[qI.o]at sB hpl;clear hcs mU e0 e1 e2 e3 uH qI qh xR tH hp;obtain⟨key,pre,suf,bare⟩:=p;simp only at d0 d1 d2 d3 hpb sB hpl qQ CQ Bw;have lj:=zaA wr (.cells #[.string (bs key),.string (bs pre),.string (bs suf),.bool bare] 62);have sG:=Hd (aI wr 62 #[.string (bs key),.string (bs pre),.string (bs suf),.bool bare]);have kZ:=Hd (lD.o.trans lj);have sN:=Hd (lu.o.kept zkW lj);have kT:=Hd (kO.o.trans lj);have pu:=Hd (tc.o.kept kZ.o);obtain⟨C,nH⟩:=gX wr.heap.size;rw[nH.o]at sG;clear lj lu;go_upto_region 5 with fail;rw[nH.o];generalize wr.alloc _=w1 at *;clear nH d0 d1 d2 d3 hgz;unfold flC at pu;have f3:=pu.o.cell 3 _ rfl;have f4:=pu.o.cell 4 _ rfl;have f12:=pu.o.cell 12 _ rfl;have fz:=pu.o.lt;have c0:=sG.o.cell 0 _ rfl;have c1:=sG.o.cell 1 _ rfl;have c2:=sG.o.cell 2 _ rfl;have c3:=sG.o.cell 3 _ rfl;have cz:=sG.o.lt;obtain⟨T,qv⟩:=gX ((if bare=true then c.sty.bare else c.sty.cite));rw[qv.o]at sB hpl;have htl:T.length<=400:=(by rw[<- qv.o];split<;>omega)
   go_upto_if 22 with fail
   go_cut [8,12]from 12 to 63 (fun t i wx=>t=.string (bs T)/\i=.int .i64 (k:Nat)/\wx=w1)
   case first =>
    cases bare with
    | true =>
     have q:c.sty.bare=T:=qv.o;rw[q]at f4;go_wp2_with fail
     go_meet
     .exact⟨rfl,rfl,rfl⟩
    | false =>
     have q:c.sty.cite=T:=qv.o;go_wp2_with fail
     go_meet
     .exact⟨by rw[q],rfl,rfl⟩
   case rest =>
    obtain⟨rfl,rfl,rfl⟩:=hcut;obtain⟨W1,hw1⟩:∃z:World,z=wc:=⟨_,rfl⟩;subst hw1;clear qv f3 f4;have hm1:=pX.o.kept (kZ.o.trans (zaB W1 1));have lk:=zEX (P:=prog) (tm:=74) (te:=79) underlying74 aq W1.drew M mp key _ (Tryz.zeroEny _) hm1;obtain⟨LV,Bx⟩:∃z,Hi ((zd5 mp key).getD zFL=z):=⟨_,rfl⟩;have IE:Hi (LkV w LV E):=(by(have h:=Bw.o;rw[Bx.o]at h;exact h));have Cx:(Instr.lookup 74 (.map (some M)) (.string (bs key)) false).run prog W1.drew=.ok LV W1.drew:=(by rw[<- Bx.o];exact lk);obtain⟨ft,qe⟩:=gX (fiE c T E);have hfl:ft.length<=520000:=(by rw[<- qe.o];exact CQ.o T htl);have KQ:=Hd (fun w' (q:Kept w w')=>qQ.o T a_ LV w' q (IE.o.kept q));rw[qe.o]at KQ sB hpl;have mA:Hi (∀w',Kept W1 w'->(w'.cell? ⟨F,12,none⟩=some (.map (some M))/\w'.cell? ⟨C,0,none⟩=some (.string (bs key)))/\(F<w'.heap.size/\C<w'.heap.size)/\Kept W1 w'):=fun w' k =>
     ⟨⟨(pu.o.kept k).cell 12 _ rfl,(sG.o.kept k).cell 0 _ rfl⟩,⟨(pu.o.kept k).lt,(sG.o.kept k).lt⟩,k⟩
    have hkd:Kept W1 W1.drew:=zaB W1 1;clear hm1 lk Bw Bx qQ CQ qe;go_upto_region 8 with fail
    go_region_held3 (fun w'=>(w'.cell? ⟨F,12,none⟩=some (.map (some M))/\w'.cell? ⟨C,0,none⟩=some (.string (bs key)))/\(F<w'.heap.size/\C<w'.heap.size)/\Kept W1 w')
     ((refine mA.o _ ?_;assumption))
     (first
      | (go_at_call 96;refine k_ (KQ.o _ (kZ.o.trans hkd)) fun w3 li=>?_;have k3:Kept W1 w3:=hkd.trans li;clear li))
    have oT:=Hd (sN.o.kept zkW k3);have lq:=Hd (kT.o.trans k3);have By:=Hd (sG.o.kept k3);clear Cx hkd mA f12 fz c0 c1 c2 c3 cz k3 pu sG sN kT kZ;have c1:=By.o.cell 1 _ rfl;have c2:=By.o.cell 2 _ rfl;have cz:=By.o.lt;obtain⟨s1,mt⟩:∃s1:Bs,Hi (zFi pre ft=s1):=⟨_,rfl⟩;rw[mt.o]at sB hpl;unfold zFi at mt;have hs1:s1.length<=560001:=(by rw[<- mt.o];split<;>(try simp only[ah,bU])<;>omega)
    go_upto_if 40 with fail
    go_cut [9,12]from 12 to 63 (fun t i wx=>t=.string (bs s1)/\i=.int .i64 (k:Nat)/\wx=w3)
    case first =>
     by_cases hp0:pre=[]
     .have q:ft=s1:=(by(have h:=mt.o;rw[ae hp0]at h;exact h));clear mt;subst hp0;subst q;go_wp2_with fail
      go_meet
      .exact⟨rfl,rfl,rfl⟩
     .have b0:(pre==[])=false:=(by rw[ab];exact hp0);have b9:pre.isEmpty=false:=(by rw[cJ];exact hp0);simp only[b9,jt];have q:pre++[32]++ft=s1:=(by(have h:=mt.o;rw[aa hp0]at h;exact h));obtain⟨a1,l1⟩:=zb3 (P:=prog) pre [32] (pre++[32]) 40000 1 rfl a_ b_ a_;obtain⟨a2,l2⟩:=zb3 (P:=prog) (pre++[32]) ft s1 40001 520000 q l1 hfl a_;have a1:=a1 w3;have a2:=a2 w3;go_wp2_with fail
      go_meet
      .exact⟨rfl,rfl,rfl⟩
    case rest =>
     obtain⟨rfl,rfl,rfl⟩:=hcut;obtain⟨w4,hw4⟩:∃z:World,z=wc:=⟨_,rfl⟩;subst hw4;clear c1 mt;obtain⟨s2,mb⟩:∃s2:Bs,Hi (zGv s1 suf=s2):=⟨_,rfl⟩;rw[mb.o]at sB hpl;unfold zGv at mb
     go_upto_if 48 with fail
     go_cut [9,12]from 12 to 63 (fun t i wx=>t=.string (bs s2)/\i=.int .i64 (k:Nat)/\wx=w4)
     case first =>
      by_cases hp0:suf=[]
      .have q:s1=s2:=(by(have h:=mb.o;rw[ae hp0]at h;exact h));clear mb;subst hp0;subst q;go_wp2_with fail
       go_meet
       .exact⟨rfl,rfl,rfl⟩
      .have b0:(suf==[])=false:=(by rw[ab];exact hp0);have b9:suf.isEmpty=false:=(by rw[cJ];exact hp0);simp only[b9,jt];have q:(if at8 suf 0=44 then s1 else s1++[32])++suf=s2:=(by(have h:=mb.o;rw[aa hp0]at h;exact h));have ix:=zbL (P:=prog) (t:=9) aq suf 0 (eI.2 hp0) 0 rfl;by_cases A1:at8 suf 0=44
       .rw[ae A1]at q;rw[A1]at ix;obtain⟨a2,l2⟩:=zb3 (P:=prog) s1 suf s2 560001 40000 q hs1 a_ a_;have a2:=a2 w4;go_wp2_with fail
        go_meet
        .exact⟨rfl,rfl,rfl⟩
       .rw[aa A1]at q;have b4:(at8 suf 0==44)=false:=(by rw[ab];exact A1);have b5:(at8 suf 0 != 44)=true:=(by rw[dd];exact A1);obtain⟨a1,l1⟩:=zb3 (P:=prog) s1 [32] (s1++[32]) 560001 1 rfl hs1 b_ a_;obtain⟨a2,l2⟩:=zb3 (P:=prog) (s1++[32]) suf s2 560002 40000 q l1 a_ a_;have a1:=a1 w4;have a2:=a2 w4;go_wp2_with fail
        go_meet
        .exact⟨rfl,rfl,rfl⟩
     case rest =>
      obtain⟨rfl,rfl,rfl⟩:=hcut;obtain⟨w5,NQ⟩:∃z:World,z=wc:=⟨_,rfl⟩;subst NQ;have lj:=zaA w5 (.cells #[.string (bs s2)] 9);have ly:=Hd (aI w5 9 #[.string (bs s2)]);have nS:=Hd (oT.o.kept zkW lj);have lH:=Hd (lq.o.trans lj);have hb6:w0.heap.size<=(w5.alloc (.cells #[.string (bs s2)] 9)).heap.size:=lH.o.size;clear lj oT lq mb By c2 cz;go_wp2_with (at_builtin;refine zeG ?_);refine Hd ?_;refine zaO zkW rfl (.tmp 59) (.tmp 61) 37 rfl i0 _ 16 dw hi mr mq mm rfl a_ (by rw[ow];rfl) nS.o _ [.string (bs s2)] s2 d_ (fun j u hu=>ly.o.cell j u (by rw[<- bE];exact hu)) rfl rfl (by rw[ow];unfold maxLen;omega) (by rw[ow];omega) hb6 _ rfl ?_;intro g7 pR w7 lp lf mB mT;have mi:Hi (OutG StrK 1 (fun _=>False) w0.heap.size 9 w7 (.slice (some ⟨g7,0,none⟩) (k+1) pR) ((l.take (k+1)).map (zoQ c))):=(by(rw[sB.o];have h:=lp;rw[ow]at h;exact h));have mE:Hi (Kept w0 w7):=lH.o.trans' ((ch lf).below lH.o.size (fun i q=>(nS.o.blk i q.symm).1));clear lp lf mB mT ly nS lH hb6 sB;go_wp2;go_roundw
      .exact⟨k+1,a_,by go_num,mi.o,mE.o⟩
      .simp [intOf];omega
  .obtain rfl:k=l.length:=a_;have oH:Hi (OutG StrK 1 (fun _=>False) w0.heap.size 9 wr (.slice ar l.length cr) (l.map (zoQ c))):=(by(have h:=lu.o;rw[ow,bi]at h;exact h));have xX:=tc.o.kept lD.o;unfold flC at xX;have rq:Hi (F<wr.heap.size/\wr.cell? ⟨F,6,none⟩=some (.string (bs c.sty.begin_))/\wr.cell? ⟨F,5,none⟩=some (.string (bs c.sty.between))/\wr.cell? ⟨F,7,none⟩=some (.string (bs c.sty.end_))):=⟨xX.lt,xX.cell 6 _ rfl,xX.cell 5 _ rfl,xX.cell 7 _ rfl⟩;have zH:Hi (∀w',Kept wr w'->Calls prog 86 #[.slice ar l.length cr,.string (bs c.sty.between)] w' fun e w''=>e=.returned (.string (bs JN))/\Kept w' w''):=fun w' k=>by
    have h:=zd9 (.slice ar l.length cr) (l.map (zoQ c)) c.sty.between w' ((iI oH.o).kept k) (by rw[bm];omega) (by rw[Gh.o];have:=IB.o;omega);rw[Gh.o]at h;exact h
   have mR:Hi (Blk wr R 65 zJA):=oI.o.kept kO.o;clear xX lu;go_upto_region 17 with fail;refine zC6 (.slice ar l.length cr) F R c.sty.begin_ c.sty.end_ c.sty.between JN (c.sty.begin_++JN) (c.sty.begin_++JN++c.sty.end_) g_ ⟨_,rfl,rfl,rfl,rfl⟩ ⟨_,rfl,rfl,rfl,rfl⟩ ⟨_,rfl,rfl,rfl,rfl⟩ ⟨_,rfl,rfl,rfl,rfl⟩ ⟨_,rfl,rfl,rfl,rfl⟩ ⟨_,rfl,rfl,rfl,rfl⟩ ⟨_,rfl,rfl,rfl,rfl⟩ ⟨_,rfl,rfl,rfl,rfl⟩ ⟨_,rfl,rfl,rfl,rfl⟩ ⟨_,rfl,rfl,rfl,rfl⟩ ⟨_,rfl,rfl,rfl,rfl⟩ ⟨_,rfl,rfl,rfl,rfl⟩ ⟨_,rfl,rfl,rfl,rfl⟩ ⟨_,rfl,rfl,rfl,rfl⟩ ⟨_,rfl,rfl,rfl,rfl⟩ ⟨_,rfl,rfl,rfl,rfl⟩ ⟨_,rfl,rfl,rfl,rfl⟩ ⟨_,rfl,rfl,rfl,rfl⟩ ⟨_,rfl,rfl,rfl,rfl⟩ ⟨_,rfl,rfl,rfl,rfl⟩ ⟨_,rfl,rfl,rfl,rfl⟩
    b_ rfl rfl rfl mR rq zH IC ID ?_
   intro V w1 w9 ld ho1 mX;simp only[Act.put,aj,ax,ay];have pm:Hi (Kept w w9):=(lD.o.trans ld).trans' (ho1.below (lD.o.trans ld).size (fun i e=>by rw[e];exact NP));unfold txC at mX;have r0:=mX.cell 0 _ rfl;have r1:=mX.cell 1 _ rfl;have r2:=mX.cell 2 _ rfl;have r3:=mX.cell 3 _ rfl;have r4:=mX.cell 4 _ rfl;have r5:=mX.cell 5 _ rfl;have r6:=mX.cell 6 _ rfl;have r7:=mX.cell 7 _ rfl;have r8:=mX.cell 8 _ rfl;have r9:=mX.cell 9 _ rfl;have rz:=mX.lt;clear ld ho1 mX mR rq zH;go_wp2_with fail;refine bM (v:=.agg #[.int .i64 1,.string (bs (txB (c.sty.begin_++JN++c.sty.end_))),.string (bs []),.string (bs []),.string (bs []),.slice none 0 0,.slice none 0 0,.slice none 0 0,.slice none 0 0,.slice none 0 0]) ?_ rfl ⟨rfl,pm.o⟩;simp [results,results99,go_sem,r0,r1,r2,r3,r4,r5,r6,r7,r8,r9,rz]
def zs7(id:Bs)(vC vP:Value)(cls:List Bs)(prs:List Pr)(w:World)(hC:Strs w vC cls)(hP:Prs w vP prs)(hc:cls.length<=1100000)(hp:prs.length<=1100000):Calls prog 56 #[atV id vC vP] w (CatP id cls prs w):=by
 have HC:=Hd hC;have HP:=Hd hP;obtain⟨aC,cC,rfl,lC⟩:=hC.shape;obtain⟨aP,cP,rfl,lP⟩:=hP.shape;have mA:=Hd (fun v w h=>zJe v cls w h hc);have vu:=Hd (fun v w h=>zKb v prs w h hp);unfold ClnS at mA;unfold ClnF at vu;clear hC hP;have e1:(w.alloc (.cells #[.string (bs id),.slice aC cls.length cC,.slice aP prs.length cP] 39)).heap.size=w.heap.size+1:=b_;have mv:=Hd ((aI w 39 #[.string (bs id),.slice aC cls.length cC,.slice aP prs.length cP]).alloc (.cells #[.string (bs []),.slice none 0 0,.slice none 0 0] 39));have oI:=aI (w.alloc (.cells #[.string (bs id),.slice aC cls.length cC,.slice aP prs.length cP] 39)) 39 #[.string (bs []),.slice none 0 0,.slice none 0 0];rw[e1]at oI;have HR:=Hd oI;have lg:=Hd ((zaA w (.cells #[.string (bs id),.slice aC cls.length cC,.slice aP prs.length cP] 39)).trans (zaA _ (.cells #[.string (bs []),.slice none 0 0,.slice none 0 0] 39)));clear oI e1;obtain⟨B,mW⟩:=gX w.heap.size;have xK:w.heap.size<=B:=(by rw[mW.o];exact aw _);have vv:w.heap.size<=B+1:=a_;go_in;go_wp2_with fail;generalize World.alloc (World.alloc _ _) _=w0 at *;rw[mW.o]at mv HR ⊢;clear mW;have yp:B<w0.heap.size:=mv.o.lt;have Dk:B+1<w0.heap.size:=HR.o.lt;refine(mA.o _ _ (HC.o.kept lg.o)).mono ?_;rintro e w1 ⟨v1,rfl,hs1,hi1,ld⟩;obtain⟨a1,c1,rfl,l1⟩:=hs1.shape;have mt:=Hd hs1;have HI1:=Hd hi1;have ma:=Hd (mv.o.kept ld);have HR1:=Hd (HR.o.kept ld);have kT:=Hd (lg.o.trans ld);have mm:w0.heap.size<=(w1.setCell ⟨B,1,none⟩ (.slice a1 cls.length c1)).heap.size:=(by rw[zc1];exact ld.size);clear hs1 hi1 ld mv HR lg mA HC;have b1:w1.cell? ⟨B,1,none⟩=some (.slice aC cls.length cC):=ma.o.cell 1 _ rfl;have b2:w1.cell? ⟨B,2,none⟩=some (.slice aP prs.length cP):=ma.o.cell 2 _ rfl;have f1:=ma.o.free 1;have bz:=ma.o.lt;have lx:Hi (Blk (w1.setCell ⟨B,1,none⟩ (.slice a1 cls.length c1)) B 39 #[.string (bs id),.slice a1 cls.length c1,.slice aP prs.length cP]):=ma.o.set 1 _;have kS:=Hd (HR1.o.other B 1 (.slice a1 cls.length c1) a_);have kX:=Hd (zbF kT.o B 1 (.slice a1 cls.length c1) xK);have mb:=Hd (mt.o.onlS HI1.o (bK B 1 (.slice a1 cls.length c1)) (fun g _ hs q=>by omega));clear ma HR1 kT mt;go_wp2_with fail;generalize World.setCell _ _ _=w2 at *;clear b1 b2 f1 bz;refine(vu.o _ _ (HP.o.kept kX.o)).mono ?_;rintro e w3 ⟨v2,rfl,hs3,hi3,li⟩;obtain⟨a3,c3,rfl,l3⟩:=hs3.shape;have uc:=Hd hs3;have HI3:=Hd hi3;have nl:=Hd (lx.o.kept li);have HR3:=Hd (kS.o.kept li);have lq:=Hd (kX.o.trans li);have oo:=Hd (mb.o.kept li);clear hs3 hi3 li lx kS kX mb vu HP;have b0:w3.cell? ⟨B,0,none⟩=some (.string (bs id)):=nl.o.cell 0 _ rfl;have b1:w3.cell? ⟨B,1,none⟩=some (.slice a1 cls.length c1):=nl.o.cell 1 _ rfl;have b2:w3.cell? ⟨B,2,none⟩=some (.slice aP prs.length cP):=nl.o.cell 2 _ rfl;have f2:=nl.o.free 2;have bz:=nl.o.lt;have oO:Hi (Blk (w3.setCell ⟨B,2,none⟩ (.slice a3 prs.length c3)) B 39 #[.string (bs id),.slice a1 cls.length c1,.slice a3 prs.length c3]):=nl.o.set 2 _;have HR4:=Hd (HR3.o.other B 2 (.slice a3 prs.length c3) a_);have mg:=Hd (zbF lq.o B 2 (.slice a3 prs.length c3) xK);have qm:=Hd (oo.o.onlS HI1.o (bK B 2 (.slice a3 prs.length c3)) (fun g _ hs q=>by omega));have se:=Hd (uc.o.onlS HI3.o (bK B 2 (.slice a3 prs.length c3)) (fun g _ hs q=>by omega));clear nl HR3 lq oo uc;go_wp2_with (first
  | (refine zaJ d_ 39 (.tmp 1) d_ B _ d_ oO.o _ di rfl Tryz.sizeAt ?_)
  | (refine zaI rfl 39 (.tmp 2) (.tmp 11) d_ (B+1) _ #[.string (bs id),.slice a1 cls.length c1,.slice a3 prs.length c3] d_ d_ HR4.o rfl Tryz.sizeAt (by simp only[bZ,ci,dc];rfl) ?_;intro w9 ml mw;have r0:w9.cell? ⟨B+1,0,none⟩=some (.string (bs id)):=ml.cell 0 _ rfl;have r1:w9.cell? ⟨B+1,1,none⟩=some (.slice a1 cls.length c1):=ml.cell 1 _ rfl;have r2:w9.cell? ⟨B+1,2,none⟩=some (.slice a3 prs.length c3):=ml.cell 2 _ rfl;have rz:=ml.lt;have pm:=Hd (mg.o.trans' (mw.below mg.o.size (fun i e=>by rw[e];exact vv)));have Dl:=Hd (qm.o.onlS HI1.o mw (fun g _ hs q=>by omega));have Dm:=Hd (se.o.onlS HI3.o mw (fun g _ hs q=>by omega));clear ml mw))
 have lh:CatP id cls prs w (.returned (atV id (.slice a1 cls.length c1) (.slice a3 prs.length c3))) w9:=⟨_,_,rfl,⟨Dl.o,HI1.o.mono fun g _ _ q=>by omega⟩,⟨Dm.o,HI3.o.mono fun g _ _ q=>by omega⟩,pm.o⟩;refine bM (v:=atV id (.slice a1 cls.length c1) (.slice a3 prs.length c3)) ?_ rfl lh;simp [results,results56,go_sem,r0,r1,r2,rz]
def znD(a b:Bs):Lib.byteCells (a++b)=Lib.byteCells a++Lib.byteCells b:=by simp [Lib.byteCells]
end Go.Proofs.YtnldgmhdjancbaaGreatDoor
