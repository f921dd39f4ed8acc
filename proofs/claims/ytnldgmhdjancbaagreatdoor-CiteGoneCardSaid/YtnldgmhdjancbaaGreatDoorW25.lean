/- Parts. -/
import Derived.Test.YtnldgmhdjancbaaGreatDoorW24
set_option linter.all false
set_option maxRecDepth 100000
set_option maxHeartbeats 25600000
namespace Go.Proofs.YtnldgmhdjancbaaGreatDoor
open Go.RowKit Go.Proofs.Tryz
def zk4:Bs:=[98,111,111,107]
def zJ1(key ul yr:Bs):SrcT:=⟨key,zk4,[(ul,[],[],[])],[],[([116,105,116,108,101],[84]),([121,101,97,114],yr)]⟩
def kEn:Bs:=[101,110]
def srA:SrcT:=zJ1 [97] [78,103] [50,48,48,49]
def srB:SrcT:=zJ1 [98] [78,103] [50,48,48,49]
def zFT:zhM zd2.cite=(zo2 zd2.cite).getD []:=zlG (zdT f_ f_)
def zIt:zhM zeQ.cite=(zo2 zeQ.cite).getD []:=zlG (zdT f_ f_)
def zIu:zE4 ([srA,srB].map (zuM zd2 kEn))=[1,2]:=by
 unfold zuM zuL zfH;rw[zFT];decide +kernel
def zJE:zfH (zk1 srA zeQ kEn [] 1) zeQ.cite=[49]:=by
 unfold zfH;rw[zIt];decide +kernel
def zJF:zdA [srA,srB]=0:=f_
def zxC:zf5 [srA,srB] [97]=some srA:=f_
def zxD:FitL srA:=by unfold FitL;decide +kernel
def zxE:FitL srB:=by unfold FitL;decide +kernel
def zzX:SmallY zd2:=by
 refine⟨c_,c_,c_,c_,c_,c_,c_,c_,fun p hp=>?_⟩;have h:p∈zl7:=hp;simp only[zl7,bj,bO,ej]at h;rcases h with rfl|rfl<;>exact⟨c_,c_⟩
def zDi:FewY zeQ:=by
 refine⟨c_,c_,fun p hp=>?_,c_⟩;have h:p∈zt2:=hp;simp only[zt2,bj,bO,ej]at h;rcases h with rfl|rfl<;>decide
def awI:Inl:=.mk 13 [] [] [] [] [] [] [] [⟨[97],[],[44,32,112,46,32,51],false⟩] []
def awB:Blo:=.mk 1 0 [] [] [] [] [] [] [] [awI] []
def zxF:zbQ [awB]=[[97]]:=f_
def zGP:zy2 [awB]:=by
 refine⟨⟨?_,⟨⟨?_,trivial⟩,trivial⟩,trivial⟩,trivial⟩
 all_goals decide
def zqJ:zaW [awB]=[awI]:=rfl
def zGQ:(zaW [awB]).length<=1000000:=by rw[zqJ];simp
def zGR:∀x∈zaW [awB],x.cits.length<=1000000:=fun x hx=>by
 rw[zqJ]at hx;rcases bu.1 hx with rfl;show([⟨[97],[],[44,32,112,46,32,51],false⟩]:List Cit).length<=_;simp
def zGS:((zaW [awB]).flatMap zbV).length<=1000000:=by rw[zqJ];decide +kernel
def zJG:∀b∈zaQ [awB],zsW b:=fun b hb=>by
 rcases bu.1 (show b∈[awB]from hb)with rfl;refine⟨⟨c_,by unfold zdF;decide⟩,fun x hx=>?_⟩;rcases bu.1 (show x∈[awI]from hx)with rfl;refine⟨c_,by unfold zdF;decide,c_,c_,?_,?_⟩
 .intro s hs;cases hs
 .intro p hp;rcases bu.1 (show p∈[(⟨[97],[],[44,32,112,46,32,51],false⟩:Cit)]from hp)with rfl;decide
def zIv:zcE [awB]<=1000:=f_
def zDj:zhJ zeQ [srA,srB] [[97]]=0:=by
 unfold zhJ;rw[aa (fun q=>q zuC),aa (fun q=>q zJF),ae];intro k hk;rw[bu.1 hk,zxC];rfl
def awT:Bs:=[91,49,44,32,112,46,32,51,93]
def zFU:(fiC zeQ kEn [srA,srB] [[97]]).ents=[⟨srA,[],1⟩]:=by
 have h1:zcG [srA,srB] [[97]]=[srA]:=(by unfold zcG;rw[jy,zxC];rfl);have h2:znB zeQ kEn [srA,srB] [[97]]=[srA]:=(by unfold znB zAd;rw[h1,ae zuC];rfl);show zf3 (znB zeQ kEn [srA,srB] [[97]]) (zjI zeQ kEn (znB zeQ kEn [srA,srB] [[97]])).2=_;rw[h2];have h3:zjI zeQ kEn [srA]=(0,[[]]):=(by unfold zjI;rw[ae zuC,ae c_];rfl);rw[h3];rfl
def zIw:zm2 (fiC zeQ kEn [srA,srB] [[97]]) [⟨[97],[],[44,32,112,46,32,51],false⟩]=awT:=by
 have h1:lkE (fiC zeQ kEn [srA,srB] [[97]]).ents [97]=⟨srA,[],1⟩:=by
  rw[zFU];unfold lkE lkO;rw[show([⟨srA,[],1⟩]:List EnT).reverse=[⟨srA,[],1⟩]from rfl,fw,show(((⟨srA,[],1⟩:EnT).src.key)==[97])=true from by decide];rfl
 have h2:zoQ (fiC zeQ kEn [srA,srB] [[97]]) ⟨[97],[],[44,32,112,46,32,51],false⟩=[49,44,32,112,46,32,51]:=by
  unfold zoQ;show zGv (zFi [] (fiE _ (if false=true then _ else _) (lkE _ [97]))) _=_;rw[h1];show zGv (zFi [] (zfH (zk1 srA zeQ kEn [] 1) zeQ.cite)) [44,32,112,46,32,51]=_;rw[zJE];decide +kernel
 unfold zm2;rw[bd,h2];show zeQ.begin_++Lib.join [[49,44,32,112,46,32,51]] zeQ.between++zeQ.end_=_;decide +kernel
def zIx:zcK (fiC zeQ kEn [srA,srB] [[97]]) 2 1 [awB]=[.mk 1 0 [] [] [] [] [] [] [] [txI awT] []]:=by
 have h1:zcJ (fiC zeQ kEn [srA,srB] [[97]]) 2 [awI]=[txI awT]:=by
  show [zfU _ _ awI]=_;have:zfU (fiC zeQ kEn [srA,srB] [[97]]) (zcJ (fiC zeQ kEn [srA,srB] [[97]]) 1) awI=txI (zm2 (fiC zeQ kEn [srA,srB] [[97]]) [⟨[97],[],[44,32,112,46,32,51],false⟩]):=by
   unfold zfU;rw[ae (show awI.kind=13 from rfl)];rfl
  rw[this,zIw]
 have h2:zcB 2 [txI awT]=[txI awT]:=rfl;have h3:zwU awB=false:=f_;rw[zqE _ _ _ _ (fun b hb=>by rw[bu.1 hb];exact h3)];show [zJv _ 2 _ awB]=_;unfold zJv;show [Blo.mk 1 0 [] [] [] [] [] [] [] (zcB 2 (zcJ _ 2 [awI])) _]=_;rw[h1,h2];rfl
def SrcWP(key ul yr:Bs)(w:World)(e:Ending)(w':World):Prop:=∃g1 g2:Nat,e=.returned (znF key zk4 (.slice (some ⟨g1,0,none⟩) 1 1) (.slice none 0 0) (.slice (some ⟨g2,0,none⟩) 2 2))/\Perss w' (.slice (some ⟨g1,0,none⟩) 1 1) [(ul,[],[],[])]/\Prs w' (.slice (some ⟨g2,0,none⟩) 2 2) [([116,105,116,108,101],[84]),([121,101,97,114],yr)]/\Kept w w'
def zFV(w:World)(ul:Bs):Perss (w.alloc (.cells #[.string (bs ul),.string (bs []),.string (bs []),.string (bs [])] 52)) (.slice (some ⟨w.heap.size,0,none⟩) 1 1) [(ul,[],[],[])]:=by
 have hb:=aI w 52 #[.string (bs ul),.string (bs []),.string (bs []),.string (bs [])];refine⟨_,_,rfl,aw _,fun _=>⟨_,0,rfl,hb.lt,fun j q hq=>?_⟩⟩;cases j with
 | zero=>cases hq;exact⟨hb.cell 0 _ rfl,hb.cell 1 _ rfl,hb.cell 2 _ rfl,hb.cell 3 _ rfl⟩
 | succ j=>simp at hq
def ztD(key ul yr:Bs)(w:World):Calls prog 18 #[.string (bs key),.string (bs ul),.string (bs yr)] w (SrcWP key ul yr w):=by
 have hk:∀(w0:World) (n:Nat),w0.heap.size=n->Kept w w0->SrcWP key ul yr w (.returned (znF key zk4 (.slice (some ⟨n,0,none⟩) 1 1) (.slice none 0 0) (.slice (some ⟨n+1,0,none⟩) 2 2))) ((w0.alloc (.cells #[.string (bs ul),.string (bs []),.string (bs []),.string (bs [])] 52)).alloc (.cells #[.string (bs [116,105,116,108,101]),.string (bs [84]),.string (bs [121,101,97,114]),.string (bs yr)] 46)):=by
  intro w0 n hn hk;have b1:=(zFV w0 ul).kept (zaA _ (.cells #[.string (bs [116,105,116,108,101]),.string (bs [84]),.string (bs [121,101,97,114]),.string (bs yr)] 46));have b2:=zt3 (w0.alloc (.cells #[.string (bs ul),.string (bs []),.string (bs []),.string (bs [])] 52)) ([116,105,116,108,101],[84]) ([121,101,97,114],yr);rw[hn]at b1;rw[de,hn]at b2;exact⟨n,n+1,rfl,b1,b2,(hk.trans (zaA _ _)).trans (zaA _ _)⟩
 have HK:=Hd hk;clear hk;have e0:(w.alloc (.cells #[.string (bs key),.string (bs zk4),.slice (some ⟨w.heap.size+1,0,none⟩) 1 1,.slice none 0 0,.slice (some ⟨w.heap.size+1+1,0,none⟩) 2 2] 50)).heap.size=w.heap.size+1:=b_;have Cs:=Hd e0;clear e0;go_in;go_wp2_with fail;refine bM (v:=znF key zk4 (.slice (some ⟨w.heap.size+1,0,none⟩) 1 1) (.slice none 0 0) (.slice (some ⟨w.heap.size+1+1,0,none⟩) 2 2)) ?_ rfl (HK.o _ (w.heap.size+1) Cs.o (zaA w _));simp [results,results18,go_sem,znF,zk4]
def zqK{α:Type}{S:Nat->Prop}{k:Nat}{R:List Value->α->Prop}{w:World}{g:Nat}{t:TypeId}{cs:List Value}{x:α}(h:Blk w g t cs.toArray)(hk:cs.length=k)(hS:S g)(hR:R cs x):RowR S k R w (.slice (some ⟨g,0,none⟩) 1 1) [x]:=by
 refine⟨_,1,rfl,aw _,fun _=>⟨g,0,rfl,h.lt,hS,fun j y hy=>?_⟩⟩;cases j with
 | zero =>
  cases hy;refine⟨cs,hk,fun i u hu=>?_,hR⟩;have e:=h.cell i u (by rw[dK];exact hu)
  rwa [show(0:Nat)+0 * k+i=i from by omega]
 | succ j=>simp at hy
def zIy{w:World}{C I B:Nat}(hc:Blk w C 62 #[.string (bs [97]),.string (bs []),.string (bs [44,32,112,46,32,51]),.bool false])(hi:Blk w I 65 #[.int .i64 13,.string (bs []),.string (bs []),.string (bs []),.string (bs []),.slice none 0 0,.slice none 0 0,.slice none 0 0,.slice (some ⟨C,0,none⟩) 1 1,.slice none 0 0])(hb:Blk w B 42 #[.int .i64 1,.int .i64 0,.string (bs []),.string (bs []),.string (bs []),.string (bs []),.string (bs []),.slice none 0 0,.slice none 0 0,.slice (some ⟨I,0,none⟩) 1 1,.slice none 0 0]):Bls (fun g=>g<w.heap.size) 2 1 w (.slice (some ⟨B,0,none⟩) 1 1) [awB]:=by
 have h1:Cits (fun g=>g<w.heap.size) w (.slice (some ⟨C,0,none⟩) 1 1) [⟨[97],[],[44,32,112,46,32,51],false⟩]:=zqK (cs:=[.string (bs [97]),.string (bs []),.string (bs [44,32,112,46,32,51]),.bool false]) hc rfl hc.lt rfl;have h2:Lns (fun g=>g<w.heap.size) 2 w (.slice (some ⟨I,0,none⟩) 1 1) [awI]:=zqK (k:=10) (cs:=[.int .i64 13,.string (bs []),.string (bs []),.string (bs []),.string (bs []),.slice none 0 0,.slice none 0 0,.slice none 0 0,.slice (some ⟨C,0,none⟩) 1 1,.slice none 0 0]) hi rfl hi.lt ⟨_,_,_,_,_,rfl,⟨eZ w,fu _ _⟩,⟨fL w,fu _ _⟩,⟨eZ w,fu _ _⟩,h1,iL _ _ _⟩;exact zqK (k:=11) (cs:=[.int .i64 1,.int .i64 0,.string (bs []),.string (bs []),.string (bs []),.string (bs []),.string (bs []),.slice none 0 0,.slice none 0 0,.slice (some ⟨I,0,none⟩) 1 1,.slice none 0 0]) hb rfl hb.lt ⟨_,_,_,_,rfl,⟨eZ w,fu _ _⟩,⟨fL w,fu _ _⟩,h2,kl _ _ _ _⟩
def zFW{w:World}{g:Nat}{t:TypeId}{k1 f1 y1 k2 f2 y2:Bs}{xP CB Jz JA:Value}(h:Blk w g t #[.string (bs k1),.string (bs zk4),xP,.slice none 0 0,CB,.string (bs k2),.string (bs zk4),Jz,.slice none 0 0,JA])(a1:Perss w xP [(f1,[],[],[])])(p1:Prs w CB [([116,105,116,108,101],[84]),([121,101,97,114],y1)])(a2:Perss w Jz [(f2,[],[],[])])(p2:Prs w JA [([116,105,116,108,101],[84]),([121,101,97,114],y2)]):Srcs w (.slice (some ⟨g,0,none⟩) 2 2) [zJ1 k1 f1 y1,zJ1 k2 f2 y2]:=by
 refine⟨_,2,rfl,aw _,fun _=>⟨g,0,rfl,h.lt,fun j s hs=>?_⟩⟩
 match j,hs with
 | 0,hs=>cases hs;exact⟨xP,_,CB,h.cell 0 _ rfl,h.cell 1 _ rfl,h.cell 2 _ rfl,h.cell 3 _ rfl,h.cell 4 _ rfl,a1,gf w,p1⟩
 | 1,hs=>cases hs;exact⟨Jz,_,JA,h.cell 5 _ rfl,h.cell 6 _ rfl,h.cell 7 _ rfl,h.cell 8 _ rfl,h.cell 9 _ rfl,a2,gf w,p2⟩
 | n+2,hs=>cases hs
def zFX(w:World)(n:Nat)(hn:w.heap.size=n):Kept w ((((w.alloc (.cells #[.string (bs [97]),.string (bs []),.string (bs [44,32,112,46,32,51]),.bool false] 62)).alloc (.cells #[.int .i64 13,.string (bs []),.string (bs []),.string (bs []),.string (bs []),.slice none 0 0,.slice none 0 0,.slice none 0 0,.slice (some ⟨n,0,none⟩) 1 1,.slice none 0 0] 65)).alloc (.cells #[.int .i64 1,.int .i64 0,.string (bs []),.string (bs []),.string (bs []),.string (bs []),.string (bs []),.slice none 0 0,.slice none 0 0,.slice (some ⟨n+1,0,none⟩) 1 1,.slice none 0 0] 42)).alloc (.cells #[.slice none 0 0,.slice (some ⟨n+1+1,0,none⟩) 1 1] 25))/\Blk ((((w.alloc (.cells #[.string (bs [97]),.string (bs []),.string (bs [44,32,112,46,32,51]),.bool false] 62)).alloc (.cells #[.int .i64 13,.string (bs []),.string (bs []),.string (bs []),.string (bs []),.slice none 0 0,.slice none 0 0,.slice none 0 0,.slice (some ⟨n,0,none⟩) 1 1,.slice none 0 0] 65)).alloc (.cells #[.int .i64 1,.int .i64 0,.string (bs []),.string (bs []),.string (bs []),.string (bs []),.string (bs []),.slice none 0 0,.slice none 0 0,.slice (some ⟨n+1,0,none⟩) 1 1,.slice none 0 0] 42)).alloc (.cells #[.slice none 0 0,.slice (some ⟨n+1+1,0,none⟩) 1 1] 25)) (n+1+1+1) 25 #[.slice none 0 0,.slice (some ⟨n+1+1,0,none⟩) 1 1]/\Bls (fun g=>g<((((w.alloc (.cells #[.string (bs [97]),.string (bs []),.string (bs [44,32,112,46,32,51]),.bool false] 62)).alloc (.cells #[.int .i64 13,.string (bs []),.string (bs []),.string (bs []),.string (bs []),.slice none 0 0,.slice none 0 0,.slice none 0 0,.slice (some ⟨n,0,none⟩) 1 1,.slice none 0 0] 65)).alloc (.cells #[.int .i64 1,.int .i64 0,.string (bs []),.string (bs []),.string (bs []),.string (bs []),.string (bs []),.slice none 0 0,.slice none 0 0,.slice (some ⟨n+1,0,none⟩) 1 1,.slice none 0 0] 42)).alloc (.cells #[.slice none 0 0,.slice (some ⟨n+1+1,0,none⟩) 1 1] 25)).heap.size) 2 1 ((((w.alloc (.cells #[.string (bs [97]),.string (bs []),.string (bs [44,32,112,46,32,51]),.bool false] 62)).alloc (.cells #[.int .i64 13,.string (bs []),.string (bs []),.string (bs []),.string (bs []),.slice none 0 0,.slice none 0 0,.slice none 0 0,.slice (some ⟨n,0,none⟩) 1 1,.slice none 0 0] 65)).alloc (.cells #[.int .i64 1,.int .i64 0,.string (bs []),.string (bs []),.string (bs []),.string (bs []),.string (bs []),.slice none 0 0,.slice none 0 0,.slice (some ⟨n+1,0,none⟩) 1 1,.slice none 0 0] 42)).alloc (.cells #[.slice none 0 0,.slice (some ⟨n+1+1,0,none⟩) 1 1] 25)) (.slice (some ⟨n+1+1,0,none⟩) 1 1) [awB]:=by
 have b1:=aI w 62 #[.string (bs [97]),.string (bs []),.string (bs [44,32,112,46,32,51]),.bool false];rw[hn]at b1;obtain⟨w1,hw1⟩:∃x,w.alloc (.cells #[.string (bs [97]),.string (bs []),.string (bs [44,32,112,46,32,51]),.bool false] 62)=x:=⟨_,rfl⟩;have k1:Kept w w1:=hw1 ▸ zaA w _;have n1:w1.heap.size=n+1:=(by rw[<- hw1,de,hn]);rw[hw1]at b1 ⊢;have b2:=aI w1 65 #[.int .i64 13,.string (bs []),.string (bs []),.string (bs []),.string (bs []),.slice none 0 0,.slice none 0 0,.slice none 0 0,.slice (some ⟨n,0,none⟩) 1 1,.slice none 0 0];rw[n1]at b2;obtain⟨w2,hw2⟩:∃x,w1.alloc (.cells #[.int .i64 13,.string (bs []),.string (bs []),.string (bs []),.string (bs []),.slice none 0 0,.slice none 0 0,.slice none 0 0,.slice (some ⟨n,0,none⟩) 1 1,.slice none 0 0] 65)=x:=⟨_,rfl⟩;have k2:Kept w1 w2:=hw2 ▸ zaA w1 _;have n2:w2.heap.size=n+1+1:=(by rw[<- hw2,de,n1]);rw[hw2]at b2 ⊢;have b3:=aI w2 42 #[.int .i64 1,.int .i64 0,.string (bs []),.string (bs []),.string (bs []),.string (bs []),.string (bs []),.slice none 0 0,.slice none 0 0,.slice (some ⟨n+1,0,none⟩) 1 1,.slice none 0 0];rw[n2]at b3;obtain⟨w3,hw3⟩:∃x,w2.alloc (.cells #[.int .i64 1,.int .i64 0,.string (bs []),.string (bs []),.string (bs []),.string (bs []),.string (bs []),.slice none 0 0,.slice none 0 0,.slice (some ⟨n+1,0,none⟩) 1 1,.slice none 0 0] 42)=x:=⟨_,rfl⟩;have k3:Kept w2 w3:=hw3 ▸ zaA w2 _;have n3:w3.heap.size=n+1+1+1:=(by rw[<- hw3,de,n2]);rw[hw3]at b3 ⊢;have b4:=aI w3 25 #[.slice none 0 0,.slice (some ⟨n+1+1,0,none⟩) 1 1];rw[n3]at b4;have k4:Kept w3 (w3.alloc (.cells #[.slice none 0 0,.slice (some ⟨n+1+1,0,none⟩) 1 1] 25)):=zaA w3 _;exact⟨((k1.trans k2).trans k3).trans k4,b4,zIy (((b1.kept k2).kept k3).kept k4) ((b2.kept k3).kept k4) (b3.kept k4)⟩
def awO:Blo:=.mk 1 0 [] [] [] [] [] [] [] [txI awT] []
def FiOneG(w:World)(e:Ending)(w':World):Prop:=∃vM vB,e=.returned (.tuple #[.agg #[vM,vB],.int .i64 0])/\Prs w' vM []/\Bls (fun g=>w.heap.size<=g) 2 1 w' vB [awO]/\Kept w w'
def zvL(w:World)(ni:EnvC w):Calls prog 7 #[] w fun e w'=>e=.returned (.bool true)/\Kept w w':=by
 have sE:=Hd ni;clear ni;have yf:=Hd ztD;unfold SrcWP znF at yf;have lh:Hi (∀w',Kept w w'->(Ending.returned (.bool true)=Ending.returned (.bool true))/\Kept w w'):=fun w' h=>⟨rfl,h⟩;have ma:=Hd (zkH [97,117,116,104,111,114,45,100,97,116,101] w);rw[zEw]at ma;unfold StyP at ma;simp only[dE,eO]at ma;have lx:=Hd (fun w=>zkH [110,117,109,101,114,105,99] w);simp only[zHh]at lx;unfold StyP at lx;simp only[dE,eO]at lx;obtain⟨y1,vX⟩:∃y,Hi (zd2=y):=⟨_,rfl⟩;obtain⟨y2,xQ⟩:∃y,Hi (zeQ=y):=⟨_,rfl⟩;rw[vX.o]at ma;simp only[xQ.o]at lx;unfold zfA zaK at ma lx;have uN:Hi (∀v vE w',EnvC w'->Srcs w' v [srA,srB]->Prs w' vE y1.entries->Calls prog 19 #[v,zfA vE y1,.string (bs [101,110])] w' (SufPo (0,[[97],[98]]) w')):=fun v vE w' h1 h2 h3=>by
  rw[<- vX.o]at h3 ⊢;have h:=ztC v vE [srA,srB] zd2 kEn w' h1 h2 b_ (fun s hs=>by
   simp only[bj,bO,ej]at hs;rcases hs with rfl|rfl
   .exact zxD
   .exact zxE) h3 zzX c_
  have e:zjI zd2 kEn [srA,srB]=(0,[[97],[98]]):=by
   unfold zjI;rw[ae zEv,aa c_,zIu];simp only[bd,ca,zpX,zpY]
  rw[e]at h;exact h
 have uG:Hi (∀vL vE vB w',EnvC w'->Srcs w' vL [srA,srB]->Prs w' vE y2.entries->Bls (fun g=>g<w'.heap.size) 2 1 w' vB [awB]->Calls prog 8 #[.agg #[.slice none 0 0,vB],vL,zfA vE y2,.string (bs [101,110])] w' (FiOneG w')):=fun vL vE vB w' h1 h2 h3 h4=>by
  rw[<- xQ.o]at h3 ⊢;have h:=zoR (m:=2) (n:=1) (.slice none 0 0) vB vL vE [] [srA,srB] zeQ kEn [awB] w' h1 (fL w') b_ h4 a_ b_ zGP zGQ zGR zGS zJG zIv h2 b_ (fun s hs=>by
   simp only[bj,bO,ej]at hs;rcases hs with rfl|rfl
   .exact zxD
   .exact zxE) h3 zDi.small zDi
  rw[zxF]at h;refine h.mono ?_;rintro e w2 ⟨uM,uB,rfl,k,-,q⟩;obtain⟨q1,q2⟩:=q zDj;rw[zIx]at q2;exact⟨uM,uB,by rw[zDj],q1,q2,k⟩
 have sd:Hi (∀vB w',Bls (fun g=>g<w'.heap.size) 2 1 w' vB [awB]->Calls prog 10 #[.agg #[.slice none 0 0,vB]] w' (CiKP [[97]] w')):=fun vB w' h=>by
  have h2:=zj6 2 1 none 0 0 vB [awB] w' h b_ zGP zGQ zGR zGS;rw[zxF]at h2;exact h2
 unfold SufPo at uN;unfold FiOneG at uG;unfold CiKP at sd;unfold zfA zaK at uN uG;go_in;go_wp2_with fail;refine ma.o.mono ?_;rintro e w1 ⟨Kg,rfl,od,ld⟩;obtain⟨uX,uY,rfl,Rm⟩:=od.form;have kT:=Hd ld;have pt:=Hd od;clear ld od ma;go_wp2_with fail;refine(lx.o _).mono ?_;rintro e w2 ⟨Rn,rfl,hp2,ll⟩;obtain⟨Ov,Ow,rfl,Ro⟩:=hp2.form;have uQ:=Hd ((aI w1 28 #[.string (bs y1.name),.bool y1.numeric,.string (bs y1.sort),.string (bs y1.cite),.string (bs y1.bare),.string (bs y1.between),.string (bs y1.begin_),.string (bs y1.end_),.int .i64 y1.most,.slice uX y1.entries.length uY]).kept ll);have pt:=Hd ((pt.o.kept (zaA w1 _)).kept ll);have qt:=Hd hp2;have kX:=Hd ((kT.o.trans (zaA w1 _)).trans ll);generalize w1.heap.size=B1 at *;clear lx kT hp2 ll;go_wp2_with fail;refine(yf.o [97] [78,103] [50,48,48,49] _).mono ?_;rintro e w3 ⟨LE,LF,rfl,ha1,hf1,li⟩;have uR:=Hd ((aI w2 28 #[.string (bs y2.name),.bool y2.numeric,.string (bs y2.sort),.string (bs y2.cite),.string (bs y2.bare),.string (bs y2.between),.string (bs y2.begin_),.string (bs y2.end_),.int .i64 y2.most,.slice Ov y2.entries.length Ow]).kept li);have xr:=(zaA w2 _).trans li;have lq:=Hd (kX.o.trans xr);have pt:=Hd (pt.o.kept xr);have qt:=Hd (qt.o.kept xr);have uQ:=Hd (uQ.o.kept xr);have HA1:=Hd ha1;have pu:=Hd hf1;generalize w2.heap.size=B2 at *;clear ha1 hf1 li xr kX;go_wp2_with fail;refine(yf.o [98] [78,103] [50,48,48,49] _).mono ?_;rintro e w4 ⟨LG,LH,rfl,ha2,hf2,mu⟩;have mg:=Hd (lq.o.trans mu);have pt:=Hd (pt.o.kept mu);have qt:=Hd (qt.o.kept mu);have uQ:=Hd (uQ.o.kept mu);have uR:=Hd (uR.o.kept mu);have HA1:=Hd (HA1.o.kept mu);have pu:=Hd (pu.o.kept mu);have HA2:=Hd ha2;have uj:=Hd hf2;clear ha2 hf2 mu lq yf;have lj:=zaA w4 (.cells #[.string (bs [97]),.string (bs zk4),.slice (some ⟨LE,0,none⟩) 1 1,.slice none 0 0,.slice (some ⟨LF,0,none⟩) 2 2,.string (bs [98]),.string (bs zk4),.slice (some ⟨LG,0,none⟩) 1 1,.slice none 0 0,.slice (some ⟨LH,0,none⟩) 2 2] 50);have hbl:=aI w4 50 #[.string (bs [97]),.string (bs zk4),.slice (some ⟨LE,0,none⟩) 1 1,.slice none 0 0,.slice (some ⟨LF,0,none⟩) 2 2,.string (bs [98]),.string (bs zk4),.slice (some ⟨LG,0,none⟩) 1 1,.slice none 0 0,.slice (some ⟨LH,0,none⟩) 2 2];have tu:=Hd (zFW hbl (HA1.o.kept lj) (pu.o.kept lj) (HA2.o.kept lj) (uj.o.kept lj));have qV:=Hd (uQ.o.kept lj);have d0:=qV.o.cell 0 _ rfl;have d1:=qV.o.cell 1 _ rfl;have d2:=qV.o.cell 2 _ rfl;have d3:=qV.o.cell 3 _ rfl;have d4:=qV.o.cell 4 _ rfl;have d5:=qV.o.cell 5 _ rfl;have d6:=qV.o.cell 6 _ rfl;have d7:=qV.o.cell 7 _ rfl;have d8:=qV.o.cell 8 _ rfl;have d9:=qV.o.cell 9 _ rfl;have kZ:=Hd lj;clear lj hbl HA1 pu HA2 uj;go_wp2_with fail;refine(uN.o _ _ _ (sE.o.kept (mg.o.trans kZ.o)) tu.o (pt.o.kept kZ.o)).mono ?_;rintro e w5 ⟨vS,rfl,hs5,lU⟩;obtain⟨aS,cS,rfl,lS⟩:=hs5.form;have zh:=kZ.o.trans lU;have lX:=Hd (mg.o.trans zh);have qt:=Hd (qt.o.kept zh);have uR:=Hd (uR.o.kept zh);have tu:=Hd (tu.o.kept lU);have mj:=Hd hs5;generalize w4.heap.size=L at *;clear uN pt uQ qV kZ mg hs5 lU zh d0 d1 d2 d3 d4 d5 d6 d7 d8 d9;obtain⟨hkd,CP,nX⟩:=zFX w5 _ rfl;have nt:=Hd hkd;have zZ:=Hd CP;have EW:=Hd nX;have rp:=Hd (uR.o.kept hkd);have d0:=rp.o.cell 0 _ rfl;have d1:=rp.o.cell 1 _ rfl;have d2:=rp.o.cell 2 _ rfl;have d3:=rp.o.cell 3 _ rfl;have d4:=rp.o.cell 4 _ rfl;have d5:=rp.o.cell 5 _ rfl;have d6:=rp.o.cell 6 _ rfl;have d7:=rp.o.cell 7 _ rfl;have d8:=rp.o.cell 8 _ rfl;have d9:=rp.o.cell 9 _ rfl;clear hkd CP nX;go_wp2_with fail;refine(uG.o _ _ _ _ (sE.o.kept (lX.o.trans nt.o)) (tu.o.kept nt.o) (qt.o.kept nt.o) EW.o).mono ?_;rintro e w6 ⟨Ox,Oy,rfl,LI,hb6,oW⟩;obtain⟨JB,JC,EX,-⟩:=LI.shape;have EY:Ox=.slice JB 0 JC:=EX;subst EY;obtain⟨LJ,JD,EZ,Rp⟩:=hb6.form;have E0:Oy=.slice LJ 1 JD:=EZ;subst E0;have rh:=Hd hb6;have Ci:=nt.o.trans oW;have lH:=Hd (lX.o.trans Ci);have mj:=Hd (mj.o.kept Ci);have zZ:=Hd (zZ.o.kept oW);have EW:=Hd ((EW.o.kept oW).mono (fun g _ q=>aU q oW.size));generalize w5.heap.size=D at *;have lj:=zaA w6 (.cells #[.slice JB 0 JC,.slice LJ 1 JD] 25);have JE:=zZ.o.kept lj;have d0:=JE.cell 0 _ rfl;have d1:=JE.cell 1 _ rfl;have kZ:=Hd lj;clear JE lj oW Ci hb6 LI EX lX nt tu qt uR uG EZ d2 d3 d4 d5 d6 d7 d8 d9;go_wp2_with fail;refine(sd.o _ _ ((EW.o.kept kZ.o).mono (fun g _ q=>aU q kZ.o.size))).mono ?_;rintro e w7 ⟨Oz,rfl,hs7,mS⟩;obtain⟨OA,GC,E3,LK,hcK⟩:=hs7;have JF:1<=GC:=LK;have E4:Oz=.slice OA 1 GC:=E3;subst E4;obtain⟨gK,oK,rfl,LL,hcK⟩:=hcK b_;have vG:Hi (Strs w7 (.slice (some ⟨gK,oK,none⟩) 1 GC) [[97]]):=⟨_,GC,rfl,a_,fun _=>⟨gK,oK,rfl,LL,hcK⟩⟩;have zi:=kZ.o.trans mS;obtain⟨Rq,Rr,LM,-,E5⟩:=mj.o.kept zi;obtain⟨rfl,-,rfl⟩:=bL LM;obtain⟨gS,oS,rfl,-,E5⟩:=E5 b_;have LN:=E5 0 _ rfl;rw[dl]at LN;have OB:=E5 1 _ rfl;have rm:=rh.o.kept zi;obtain⟨g6,o6,Rs,Rt,Ru,Rv,rfl,-,-,-,-,-,hc6,-,-,hL6,-⟩:=gQ rm 0 awO rfl;obtain⟨LO,LP,rfl,Rw⟩:=hL6.form;have hd7:=(aI w6 25 #[.slice JB 0 JC,.slice (some ⟨g6,o6,none⟩) 1 JD]).kept mS;have E6:Hi (∀w',Kept w7 w'->Calls prog 20 #[.slice LO awO.line.length LP] w' fun e w''=>e=.returned (.string (bs [91,49,44,32,112,46,32,51,93]))/\Kept w' w''):=fun w' k=>by
  have h:=zvK 2 awO.line (.slice LO awO.line.length LP) w' (hL6.kept k) c_ (fun x hx=>by
   rcases bu.1 (show x∈[txI awT]from hx)with rfl;exact⟨c_,fun y hy=>by cases hy⟩) f_
  rw[show zbY awO.line=[91,49,44,32,112,46,32,51,93]from by decide +kernel]at h;exact h
 have GD:=Hd hL6;have mE:=Hd (lH.o.trans zi);have OC:=hd7.cell 0 _ rfl;have dd1:=hd7.cell 1 _ rfl;have LQ:=hc6 9 _ rfl;rw[gi,dl]at LQ;clear hcK E5 rm hc6 hL6 hd7 LM E3 d0 d1 mj rh zZ EW lH sd;generalize w6.heap.size=B9 at *;clear zi mS kZ LL LK JF;go_wp2_with fail;refine k_ (E6.o _ (af _)) fun w8 pG=>?_;have Rx:w8.cell? ⟨gK,oK,none⟩=some (.string (bs [97])):=by
  obtain⟨a,c,hv,-,hcK⟩:=vG.o.kept pG;obtain⟨rfl,-,rfl⟩:=bL hv;obtain⟨g,o,hgo,-,hcK⟩:=hcK b_;cases hgo;have h:=hcK 0 _ rfl
  rwa [dl]at h
 have CL:=Hd (lh.o w8 (mE.o.trans pG));clear LN OB OC dd1 LQ E6 vG mE pG GD;go_wp2_with fail;refine bM (v:=.bool true) ?_ rfl ⟨rfl,CL.o.2⟩;simp [results,results7,go_sem]
def zDk{P:Program}{ops:Array Oper}{Q:Exit->Act->World->Prop}{l:List Oper}{a:Act}{w:World}(h:∀pb:Array Oper,(∀j:Nat,Option.bind (pb[j]?) Oper.dst=Option.bind (ops[j]?) Oper.dst)->wpList P pb Q l a w):wpList P ops Q l a w:=h ops fun _=>rfl
def zIz{P:Program}{o:Oper}{a:Act}{Q:Exit->Act->World->Prop}{K N:Act->World->Prop}{r:Result Next}(h:o.upon P a N (QK Q K) r):o.upon P a N Q r:=by
 unfold Oper.upon at h ⊢;revert h
 split<;>exact fun h=>h
def zDl{P:Program}{ops:Array Oper}{Q:Exit->Act->World->Prop}(l2:List Oper):∀(l1:List Oper) (a:Act) (w:World),wpList P ops (QK Q (wpList P ops Q l2)) l1 a w->wpList P ops Q (l1++l2) a w
 | [],a,w,h=>h
 | o::l1,a,w,h=>by
  rw[ei];unfold wpList at h ⊢
  split
  .rename_i hw;rw[ae hw]at h;rcases h with h|⟨h1,h2⟩
   .refine .inl ?_;have h3:=Oper.wp_mono (K':=wpList P ops Q (l1++l2)) (fun a w h=>zDl l2 l1 a w h) h;exact zIz h3
   .exact .inr ⟨h1,h2⟩
  .rename_i hw;rw[aa hw]at h;exact zDl l2 l1 _ w h
def zJH{P:Program}{ops:Array Oper}{Q:Exit->Act->World->Prop}{l:List Oper}{a:Act}{w:World}(n:Nat)(M:Act->World->Prop)(h1:wpList P ops (QK Q M) (l.take n) a w)(h2:∀a w,M a w->wpList P ops Q (l.drop n) a w):wpList P ops Q l a w:=by
 have h:=zDl (P:=P) (ops:=ops) (Q:=Q) (l.drop n) (l.take n) a w (rM h2 _ _ _ h1)
 rwa [ce]at h
where
 rM {P:Program} {ops:Array Oper} {Q:Exit->Act->World->Prop} {M M':Act->World->Prop} (hm:∀a w,M a w->M' a w):∀(l:List Oper) (a:Act) (w:World),wpList P ops (QK Q M) l a w->wpList P ops (QK Q M') l a w
 | [],a,w,h=>hm a w h
 | o::l,a,w,h=>by
  unfold wpList at h ⊢
  split
  .rename_i hw;rw[ae hw]at h;rcases h with h|⟨h1,h2⟩
   .refine .inl ?_;have h3:=Oper.wp_mono (K':=wpList P ops (QK Q M') l) (fun a w h=>rM hm l a w h) h;unfold Oper.wp Oper.upon at h3 ⊢;revert h3
    split<;>exact fun h=>h
   .exact .inr ⟨h1,h2⟩
  .rename_i hw;rw[aa hw]at h;exact rM hm l _ w h
def zcQ(a:Act):List Nat->List Value->Act
 | d::ds,u::us=>zcQ (a.put (some d) u) ds us
 | _,_=>a
def zbD{P:Program}{ops:Array Oper}{Q:Exit->Act->World->Prop}{l:List Oper}{a:Act}{w:World}(n:Nat)(ds:List Nat)(R:List Value->Prop)(h1:wpList P ops (QK Q fun a' w'=>Kept w w'/\∃us:List Value,us.length=ds.length/\R us/\a'=zcQ a ds us) (l.take n) a w)(h2:∀(us:List Value) (w':World),Kept w w'->us.length=ds.length->R us->wpList P ops Q (l.drop n) (zcQ a ds us) w'):wpList P ops Q l a w :=
 zJH n _ h1 fun a' w' ⟨e,us,hl,hr,ea⟩=>by subst ea;exact h2 us w' e hl hr
def zDH{l:List Value}(h:l.length=8):∃u1 u2 u3 u4 u5 u6 u7 u8,l=[u1,u2,u3,u4,u5,u6,u7,u8]:=by
 match l,h with
 | [u1,u2,u3,u4,u5,u6,u7,u8],_=>exact⟨u1,u2,u3,u4,u5,u6,u7,u8,rfl⟩
def zKm{l:List Value}(h:l.length=9):∃u1 u2 u3 u4 u5 u6 u7 u8 u9,l=[u1,u2,u3,u4,u5,u6,u7,u8,u9]:=by
 match l,h with
 | [u1,u2,u3,u4,u5,u6,u7,u8,u9],_=>exact⟨u1,u2,u3,u4,u5,u6,u7,u8,u9,rfl⟩
def zJI{l:List Value}(h:l.length=11):∃u1 u2 u3 u4 u5 u6 u7 u8 u9 u10 u11,l=[u1,u2,u3,u4,u5,u6,u7,u8,u9,u10,u11]:=by
 match l,h with
 | [u1,u2,u3,u4,u5,u6,u7,u8,u9,u10,u11],_=>exact⟨u1,u2,u3,u4,u5,u6,u7,u8,u9,u10,u11,rfl⟩
def zKn{l:List Value}(h:l.length=15):∃u1 u2 u3 u4 u5 u6 u7 u8 u9 u10 u11 u12 u13 u14 u15,l=[u1,u2,u3,u4,u5,u6,u7,u8,u9,u10,u11,u12,u13,u14,u15]:=by
 match l,h with
 | [u1,u2,u3,u4,u5,u6,u7,u8,u9,u10,u11,u12,u13,u14,u15],_=>exact⟨u1,u2,u3,u4,u5,u6,u7,u8,u9,u10,u11,u12,u13,u14,u15,rfl⟩
def zzY(S:Nat->Prop)(n:Nat)(x:Inl)(vC vP vA vT vK:Value)(w:World)(hp:ParX S n w vC vP vA vT vK x)(mn:OkX x):Calls prog 207 #[.agg (zn8 x vC vP vA vT vK).toArray] w fun e w'=>e=.returned (.bool (zfQ x))/\Kept w w':=by
 obtain⟨kL,kN,kP,title,id,cls,prs,args,kQ,kM⟩:=x;have sc:=Hd hp;obtain⟨hC,hP,hA,hT,hK⟩:=hp;simp only[Inl.kind,Inl.text,Inl.dest,Inl.title,Inl.id,Inl.cls,Inl.prs,Inl.args,Inl.cits,Inl.kids]at hC hP hA hT hK;obtain⟨aC,cC,rfl,lC⟩:=hC.form;obtain⟨aP,cP,rfl,lP⟩:=hP.form;obtain⟨aA,cA,rfl,lA⟩:=hA.form;obtain⟨aT,cT,rfl,lT⟩:=ge hT;obtain⟨aK,cK,rfl,lK⟩:=hK.form;obtain⟨⟨o1,o2,o3,o4⟩,⟨o5,o6,o7,o8⟩,o9,qS,qX,sg⟩:=mn;simp only[Inl.kind,Inl.text,Inl.dest,Inl.title,Inl.id,Inl.cls,Inl.prs,Inl.args,Inl.cits,Inl.kids]at o1 o2 o3 o4 o5 o6 o7 o8 o9 qS qX sg;have kZ:=Hd (zaA w (.cells #[.int .i64 kL,.string (bs kN),.string (bs kP),.string (bs title),.string (bs id),.slice aC cls.length cC,.slice aP prs.length cP,.slice aA args.length cA,.slice aT kQ.length cT,.slice aK kM.length cK] 65));have HD:=Hd (aI w 65 #[.int .i64 kL,.string (bs kN),.string (bs kP),.string (bs title),.string (bs id),.slice aC cls.length cC,.slice aP prs.length cP,.slice aA args.length cA,.slice aT kQ.length cT,.slice aK kM.length cK]);have yO:=Hd (fun w'=>zjY id cls prs aC aP cC cP w');obtain⟨na,uU⟩:∃z,Hi (zwS id cls prs=z):=⟨_,rfl⟩;rw[uU.o]at yO;have AY:Hi (∀w':World,Calls prog 101 #[.int .i64 kL,.slice (some ⟨w'.heap.size,0,none⟩) 8 8] (w'.alloc (.cells #[.int .i64 1,.int .i64 4,.int .i64 5,.int .i64 9,.int .i64 10,.int .i64 12,.int .i64 14,.int .i64 15] 3)) fun e w''=>e=.returned (.bool ([1,4,5,9,10,12,14,15].contains kL))/\Kept w' w''):=fun w'=>zgD kL [1,4,5,9,10,12,14,15] w' c_;have HL2:Hi (∀w':World,Calls prog 101 #[.int .i64 kL,.slice (some ⟨w'.heap.size,0,none⟩) 3 3] (w'.alloc (.cells #[.int .i64 9,.int .i64 10,.int .i64 16] 3)) fun e w''=>e=.returned (.bool ([9,10,16].contains kL))/\Kept w' w''):=fun w'=>zgD kL [9,10,16] w' c_;have E7:Hi (∀w':World,Calls prog 101 #[.int .i64 kL,.slice (some ⟨w'.heap.size,0,none⟩) 3 3] (w'.alloc (.cells #[.int .i64 9,.int .i64 10,.int .i64 14] 3)) fun e w''=>e=.returned (.bool ([9,10,14].contains kL))/\Kept w' w''):=fun w'=>zgD kL [9,10,14] w' c_;have wQ:Hi (∀w':World,Calls prog 101 #[.int .i64 kL,.slice (some ⟨w'.heap.size,0,none⟩) 2 2] (w'.alloc (.cells #[.int .i64 10,.int .i64 11] 3)) fun e w''=>e=.returned (.bool ([10,11].contains kL))/\Kept w' w''):=fun w'=>zgD kL [10,11] w' c_;have Al:Hi (∀w':World,Calls prog 101 #[.int .i64 kL,.slice (some ⟨w'.heap.size,0,none⟩) 6 6] (w'.alloc (.cells #[.int .i64 6,.int .i64 7,.int .i64 8,.int .i64 9,.int .i64 10,.int .i64 11] 3)) fun e w''=>e=.returned (.bool ([6,7,8,9,10,11].contains kL))/\Kept w' w''):=fun w'=>zgD kL [6,7,8,9,10,11] w' c_;obtain⟨R,HR⟩:=gX (zH8 kL kN kP title na args kQ kM);rw[show zfQ (.mk kL kN kP title id cls prs args kQ kM)=R by(unfold zfQ;show zH8 kL kN kP title (zwS id cls prs) args kQ kM=R;rw[uU.o];exact HR.o)];unfold zH8 at HR;generalize [1,4,5,9,10,12,14,15].contains kL=b1 at *;generalize [9,10,16].contains kL=b2 at *;generalize [9,10,14].contains kL=b3 at *;generalize [10,11].contains kL=b4 at *;generalize [6,7,8,9,10,11].contains kL=b5 at *;have e1:=zCD kN;have e2:=zCD kP;have e3:=zCD title;have e5:=zaS kM;have e6:=zaS args;have e7:=zaS kQ;have HE:=Hd (And.intro e1 (And.intro e2 (And.intro e3 (And.intro e5 (And.intro e6 e7)))));clear e1 e2 e3 e5 e6 e7;unfold zn8;simp only[Inl.kind,Inl.text,Inl.dest,Inl.title,Inl.id];clear sc hC hP hA hT hK;go_in;go_upto_region 1 with fail;generalize w.alloc _=x0 at *;generalize w.heap.size=D at *;have lg:Hi (Kept x0 x0):=af _;have cz:=(HD.o.kept lg.o).lt;have c0:=(HD.o.kept lg.o).cell 0 _ rfl;go_wp2_with fail;refine k_ (AY.o x0) fun x1 hk=>?_;have kT:=Hd (lg.o.trans hk);clear hk c0 cz;have cz:=(HD.o.kept kT.o).lt;have c0:=(HD.o.kept kT.o).cell 0 _ rfl;go_wp2_with fail;refine k_ (HL2.o x1) fun x2 hk=>?_;have kX:=Hd (kT.o.trans hk);clear hk c0 cz;have cz:=(HD.o.kept kX.o).lt;have c0:=(HD.o.kept kX.o).cell 0 _ rfl;go_wp2_with fail;refine k_ (E7.o x2) fun x3 hk=>?_;have lq:=Hd (kX.o.trans hk);clear hk c0 cz;have cz:=(HD.o.kept lq.o).lt;have c0:=(HD.o.kept lq.o).cell 0 _ rfl;go_wp2_with fail;refine k_ (wQ.o x3) fun x4 hk=>?_;have mg:=Hd (lq.o.trans hk);clear hk c0 cz;have cz:=(HD.o.kept mg.o).lt;have c0:=(HD.o.kept mg.o).cell 0 _ rfl;go_wp2_with fail;refine k_ (Al.o x4) fun x5 hk=>?_;have lX:=Hd (mg.o.trans hk);clear hk c0 cz;have nH:=Hd (fun w' (k:Kept x5 w')=>And.intro ((HD.o.kept (lX.o.trans k)).lt) (And.intro ((HD.o.kept (lX.o.trans k)).cell 0 _ rfl) (And.intro ((HD.o.kept (lX.o.trans k)).cell 1 _ rfl) (And.intro ((HD.o.kept (lX.o.trans k)).cell 2 _ rfl) (And.intro ((HD.o.kept (lX.o.trans k)).cell 3 _ rfl) (And.intro ((HD.o.kept (lX.o.trans k)).cell 4 _ rfl) (And.intro ((HD.o.kept (lX.o.trans k)).cell 5 _ rfl) (And.intro ((HD.o.kept (lX.o.trans k)).cell 6 _ rfl) (And.intro ((HD.o.kept (lX.o.trans k)).cell 7 _ rfl) (And.intro ((HD.o.kept (lX.o.trans k)).cell 8 _ rfl) ((HD.o.kept (lX.o.trans k)).cell 9 _ rfl)))))))))));clear AY HL2 E7 wQ Al;obtain⟨cz,c0,c1,c2,c3,c4,c5,c6,c7,c8,c9⟩:=nH.o x5 (af _);have ri:=Hd (kZ.o.trans lX.o);go_upto_region 6 with fail;refine wp_region_lit (zDk ?_);intro pb mC;have D3:Option.bind (pb[3]?) Oper.dst=some 31:=mC 3;have D8:Option.bind (pb[8]?) Oper.dst=some 36:=mC 8;have OD:Option.bind (pb[10]?) Oper.dst=some 38:=mC 10;have OE:Option.bind (pb[16]?) Oper.dst=some 44:=mC 16;have OF:Option.bind (pb[18]?) Oper.dst=some 46:=mC 18;have OG:Option.bind (pb[24]?) Oper.dst=some 52:=mC 24;have OH:Option.bind (pb[26]?) Oper.dst=some 54:=mC 26;have OI:Option.bind (pb[32]?) Oper.dst=some 60:=mC 32;have Ry:Option.bind (pb[34]?) Oper.dst=some 62:=mC 34;have OJ:Option.bind (pb[40]?) Oper.dst=some 68:=mC 40;have Rz:Option.bind (pb[42]?) Oper.dst=some 70:=mC 42;have OK:Option.bind (pb[49]?) Oper.dst=some 77:=mC 49;have RA:Option.bind (pb[53]?) Oper.dst=some 81:=mC 53;have RB:Option.bind (pb[60]?) Oper.dst=some 88:=mC 60;have OM:Option.bind (pb[64]?) Oper.dst=some 92:=mC 64;clear mC o1 o2 o3 o4 o5 o6 o7 o8 o9 qS qX sg;obtain⟨k0,tO⟩:∃z,Hi ((decide (1<=kL)&&decide (kL<=16))=z):=⟨_,rfl⟩;have hun:undef=Value.tuple #[]:=rfl;refine zbD 8 [28,29,30,31,32,33,34,35] (fun us=>us[7]? = some (.bool k0)) ?_ ?_
 .simp;by_cases g1:1<=kL
  .have gk:k0=decide (kL<=16):=(by(rw[<- tO.o,bJ g1];rfl));go_wp2_with fail;refine⟨af _,[?v1_1,?v1_2,?v1_3,?v1_4,?v1_5,?v1_6,?v1_7,?v1_8],rfl,?r1,?e1⟩
   case e1 =>
    simp only[zcQ,Act.put,aj,ax,ay];rfl
   case r1=>first|rfl|(rw[gk];first|rfl|(simp;done)|(simp;exact zaS _))
  .have gk:k0=false:=(by(rw[<- tO.o,bH g1];rfl));have g1':kL<1:=a_;go_wp2_with fail;refine⟨af _,[?v2_1,?v2_2,?v2_3,?v2_4,?v2_5,?v2_6,?v2_7,?v2_8],rfl,?r2,?e2⟩
   case e2 =>
    simp only[zcQ,Act.put,aj,ax,ay];rfl
   case r2=>first|rfl|(rw[gk];first|rfl|(simp;done)|(simp;exact zaS _))
 intro us ON nC mN nO;obtain⟨u1,u2,u3,u4,u5,u6,u7,u8,rfl⟩:=zDH mN;obtain rfl:u8=.bool k0:=(by simpa using nO);clear mN nO;simp only[zcQ,Act.put,aj,ax,ay];have AI:=Hd (nC);clear nC cz c0 c1 c2 c3 c4 c5 c6 c7 c8 c9;obtain⟨cz,c0,c1,c2,c3,c4,c5,c6,c7,c8,c9⟩:=nH.o ON AI.o;obtain⟨k1,zj⟩:∃z,Hi ((k0&&(b1 || kN.isEmpty))=z):=⟨_,rfl⟩;refine zbD 8 [36,37,38,39,40,41,42,43] (fun us=>us[7]? = some (.bool k1)) ?_ ?_
 .simp;cases k0 with
  | false =>
   have gk:k1=false:=(by(rw[<- zj.o];rfl));go_wp2_with fail;refine⟨af _,[?v3_1,?v3_2,?v3_3,?v3_4,?v3_5,?v3_6,?v3_7,?v3_8],rfl,?r3,?e3⟩
   case e3 =>
    simp only[zcQ,Act.put,aj,ax,ay];rfl
   case r3=>first|rfl|(rw[gk];first|rfl|(simp;done)|(simp;exact zaS _))
  | true =>
   cases b1 with
   | true =>
    have gk:k1=true:=(by(rw[<- zj.o];rfl));go_wp2_with fail;refine⟨af _,[?v4_1,?v4_2,?v4_3,?v4_4,?v4_5,?v4_6,?v4_7,?v4_8],rfl,?r4,?e4⟩
    case e4 =>
     simp only[zcQ,Act.put,aj,ax,ay];rfl
    case r4=>first|rfl|(rw[gk];first|rfl|(simp;done)|(simp;exact zaS _))
   | false =>
    have gk:k1=kN.isEmpty:=(by(rw[<- zj.o];simp));go_wp2_with fail;refine⟨af _,[?v5_1,?v5_2,?v5_3,?v5_4,?v5_5,?v5_6,?v5_7,?v5_8],rfl,?r5,?e5⟩
    case e5 =>
     simp only[zcQ,Act.put,aj,ax,ay];rfl
    case r5=>first|rfl|(rw[gk];first|rfl|(simp;done)|(simp;exact zaS _))
 intro us OO nC mN nO;obtain⟨u1,u2,u3,u4,u5,u6,u7,u8,rfl⟩:=zDH mN;obtain rfl:u8=.bool k1:=(by simpa using nO);clear mN nO;simp only[zcQ,Act.put,aj,ax,ay];have AJ:=Hd (AI.o.trans nC);clear nC cz c0 c1 c2 c3 c4 c5 c6 c7 c8 c9;obtain⟨cz,c0,c1,c2,c3,c4,c5,c6,c7,c8,c9⟩:=nH.o OO AJ.o;obtain⟨k2,zk⟩:∃z,Hi ((k1&&(b2 || kP.isEmpty))=z):=⟨_,rfl⟩;refine zbD 8 [44,45,46,47,48,49,50,51] (fun us=>us[7]? = some (.bool k2)) ?_ ?_
 .simp;cases k1 with
  | false =>
   have gk:k2=false:=(by(rw[<- zk.o];rfl));go_wp2_with fail;refine⟨af _,[?v6_1,?v6_2,?v6_3,?v6_4,?v6_5,?v6_6,?v6_7,?v6_8],rfl,?r6,?e6⟩
   case e6 =>
    simp only[zcQ,Act.put,aj,ax,ay];rfl
   case r6=>first|rfl|(rw[gk];first|rfl|(simp;done)|(simp;exact zaS _))
  | true =>
   cases b2 with
   | true =>
    have gk:k2=true:=(by(rw[<- zk.o];rfl));go_wp2_with fail;refine⟨af _,[?v7_1,?v7_2,?v7_3,?v7_4,?v7_5,?v7_6,?v7_7,?v7_8],rfl,?r7,?e7⟩
    case e7 =>
     simp only[zcQ,Act.put,aj,ax,ay];rfl
    case r7=>first|rfl|(rw[gk];first|rfl|(simp;done)|(simp;exact zaS _))
   | false =>
    have gk:k2=kP.isEmpty:=(by(rw[<- zk.o];simp));go_wp2_with fail;refine⟨af _,[?v8_1,?v8_2,?v8_3,?v8_4,?v8_5,?v8_6,?v8_7,?v8_8],rfl,?r8,?e8⟩
    case e8 =>
     simp only[zcQ,Act.put,aj,ax,ay];rfl
    case r8=>first|rfl|(rw[gk];first|rfl|(simp;done)|(simp;exact zaS _))
 intro us OP nC mN nO;obtain⟨u1,u2,u3,u4,u5,u6,u7,u8,rfl⟩:=zDH mN;obtain rfl:u8=.bool k2:=(by simpa using nO);clear mN nO;simp only[zcQ,Act.put,aj,ax,ay];have AK:=Hd (AJ.o.trans nC);clear nC cz c0 c1 c2 c3 c4 c5 c6 c7 c8 c9;obtain⟨cz,c0,c1,c2,c3,c4,c5,c6,c7,c8,c9⟩:=nH.o OP AK.o;obtain⟨k3,zl⟩:∃z,Hi ((k2&&(b3 || title.isEmpty))=z):=⟨_,rfl⟩;refine zbD 8 [52,53,54,55,56,57,58,59] (fun us=>us[7]? = some (.bool k3)) ?_ ?_
 .simp;cases k2 with
  | false =>
   have gk:k3=false:=(by(rw[<- zl.o];rfl));go_wp2_with fail;refine⟨af _,[?v9_1,?v9_2,?v9_3,?v9_4,?v9_5,?v9_6,?v9_7,?v9_8],rfl,?r9,?e9⟩
   case e9 =>
    simp only[zcQ,Act.put,aj,ax,ay];rfl
   case r9=>first|rfl|(rw[gk];first|rfl|(simp;done)|(simp;exact zaS _))
  | true =>
   cases b3 with
   | true =>
    have gk:k3=true:=(by(rw[<- zl.o];rfl));go_wp2_with fail;refine⟨af _,[?v10_1,?v10_2,?v10_3,?v10_4,?v10_5,?v10_6,?v10_7,?v10_8],rfl,?r10,?e10⟩
    case e10 =>
     simp only[zcQ,Act.put,aj,ax,ay];rfl
    case r10=>first|rfl|(rw[gk];first|rfl|(simp;done)|(simp;exact zaS _))
   | false =>
    have gk:k3=title.isEmpty:=(by(rw[<- zl.o];simp));go_wp2_with fail;refine⟨af _,[?v11_1,?v11_2,?v11_3,?v11_4,?v11_5,?v11_6,?v11_7,?v11_8],rfl,?r11,?e11⟩
    case e11 =>
     simp only[zcQ,Act.put,aj,ax,ay];rfl
    case r11=>first|rfl|(rw[gk];first|rfl|(simp;done)|(simp;exact zaS _))
 intro us OQ nC mN nO;obtain⟨u1,u2,u3,u4,u5,u6,u7,u8,rfl⟩:=zDH mN;obtain rfl:u8=.bool k3:=(by simpa using nO);clear mN nO;simp only[zcQ,Act.put,aj,ax,ay];have AL:=Hd (AK.o.trans nC);clear nC cz c0 c1 c2 c3 c4 c5 c6 c7 c8 c9;obtain⟨cz,c0,c1,c2,c3,c4,c5,c6,c7,c8,c9⟩:=nH.o OQ AL.o;obtain⟨k4,xu⟩:∃z,Hi ((k3&&(b4 || na))=z):=⟨_,rfl⟩;refine zbD 8 [60,61,62,63,64,65,66,67] (fun us=>us[7]? = some (.bool k4)) ?_ ?_
 .simp;cases k3 with
  | false =>
   have gk:k4=false:=(by(rw[<- xu.o];rfl));go_wp2_with (go_at_call 102;refine k_ (yO.o _) fun w9 pD=>?_;have pm:=Hd pD;clear pD);refine⟨(by first|exact pm.o|exact af _),[?v12_1,?v12_2,?v12_3,?v12_4,?v12_5,?v12_6,?v12_7,?v12_8],rfl,?r12,?e12⟩
   case e12 =>
    simp only[zcQ,Act.put,aj,ax,ay];rfl
   case r12=>first|rfl|(rw[gk];first|rfl|(simp;done)|(simp;exact zaS _))
  | true =>
   cases b4 with
   | true =>
    have gk:k4=true:=(by(rw[<- xu.o];rfl));go_wp2_with fail;refine⟨af _,[?v13_1,?v13_2,?v13_3,?v13_4,?v13_5,?v13_6,?v13_7,?v13_8],rfl,?r13,?e13⟩
    case e13 =>
     simp only[zcQ,Act.put,aj,ax,ay];rfl
    case r13=>first|rfl|(rw[gk];first|rfl|(simp;done)|(simp;exact zaS _))
   | false =>
    have gk:k4=na:=(by(rw[<- xu.o];simp));go_wp2_with (go_at_call 102;refine k_ (yO.o _) fun w9 pD=>?_;have pm:=Hd pD;clear pD);refine⟨(by first|exact pm.o|exact af _),[?v14_1,?v14_2,?v14_3,?v14_4,?v14_5,?v14_6,?v14_7,?v14_8],rfl,?r14,?e14⟩
    case e14 =>
     simp only[zcQ,Act.put,aj,ax,ay];rfl
    case r14=>first|rfl|(rw[gk];first|rfl|(simp;done)|(simp;exact zaS _))
 intro us OR nC mN nO;obtain⟨u1,u2,u3,u4,u5,u6,u7,u8,rfl⟩:=zDH mN;obtain rfl:u8=.bool k4:=(by simpa using nO);clear mN nO;simp only[zcQ,Act.put,aj,ax,ay];have AM:=Hd (AL.o.trans nC);clear nC cz c0 c1 c2 c3 c4 c5 c6 c7 c8 c9;obtain⟨cz,c0,c1,c2,c3,c4,c5,c6,c7,c8,c9⟩:=nH.o OR AM.o;obtain⟨k5,zm⟩:∃z,Hi ((k4&&(b5 || kM.isEmpty))=z):=⟨_,rfl⟩;refine zbD 9 [68,69,70,71,72,73,74,75,76] (fun us=>us[8]? = some (.bool k5)) ?_ ?_
 .simp;cases k4 with
  | false =>
   have gk:k5=false:=(by(rw[<- zm.o];rfl));go_wp2_with fail;refine⟨af _,[?v15_1,?v15_2,?v15_3,?v15_4,?v15_5,?v15_6,?v15_7,?v15_8,?v15_9],rfl,?r15,?e15⟩
   case e15 =>
    simp only[zcQ,Act.put,aj,ax,ay];rfl
   case r15=>first|rfl|(rw[gk];first|rfl|(simp;done)|(simp;exact zaS _))
  | true =>
   cases b5 with
   | true =>
    have gk:k5=true:=(by(rw[<- zm.o];rfl));go_wp2_with fail;refine⟨af _,[?v16_1,?v16_2,?v16_3,?v16_4,?v16_5,?v16_6,?v16_7,?v16_8,?v16_9],rfl,?r16,?e16⟩
    case e16 =>
     simp only[zcQ,Act.put,aj,ax,ay];rfl
    case r16=>first|rfl|(rw[gk];first|rfl|(simp;done)|(simp;exact zaS _))
   | false =>
    have gk:k5=kM.isEmpty:=(by(rw[<- zm.o];simp));go_wp2_with fail;refine⟨af _,[?v17_1,?v17_2,?v17_3,?v17_4,?v17_5,?v17_6,?v17_7,?v17_8,?v17_9],rfl,?r17,?e17⟩
    case e17 =>
     simp only[zcQ,Act.put,aj,ax,ay];rfl
    case r17=>first|rfl|(rw[gk];first|rfl|(simp;done)|(simp;exact zaS _))
 intro us OS nC mN nO;obtain⟨u1,u2,u3,u4,u5,u6,u7,u8,u9,rfl⟩:=zKm mN;obtain rfl:u9=.bool k5:=(by simpa using nO);clear mN nO;simp only[zcQ,Act.put,aj,ax,ay];have AN:=Hd (AM.o.trans nC);clear nC cz c0 c1 c2 c3 c4 c5 c6 c7 c8 c9;obtain⟨cz,c0,c1,c2,c3,c4,c5,c6,c7,c8,c9⟩:=nH.o OS AN.o;obtain⟨e15,C5⟩:∃z,(kL==15)=z:=⟨_,rfl⟩;obtain⟨e13,tn⟩:∃z,(kL==13)=z:=⟨_,rfl⟩;rw[C5,tn]at HR;obtain⟨k6,zn⟩:∃z,Hi ((k5&&(e15 || args.isEmpty))=z):=⟨_,rfl⟩;refine zbD 11 [77,78,79,80,81,82,83,84,85,86,87] (fun us=>us[10]? = some (.bool k6)) ?_ ?_
 .simp;cases k5 with
  | false =>
   have gk:k6=false:=(by(rw[<- zn.o];rfl));go_wp2_with fail;refine⟨af _,[?v18_1,?v18_2,?v18_3,?v18_4,?v18_5,?v18_6,?v18_7,?v18_8,?v18_9,?v18_10,?v18_11],rfl,?r18,?e18⟩
   case e18 =>
    simp only[zcQ,Act.put,aj,ax,ay];rfl
   case r18=>first|rfl|(rw[gk];first|rfl|(simp;done)|(simp;exact zaS _))
  | true =>
   cases e15 with
   | true =>
    have gk:k6=true:=(by(rw[<- zn.o];rfl));go_wp2_with fail;refine⟨af _,[?v19_1,?v19_2,?v19_3,?v19_4,?v19_5,?v19_6,?v19_7,?v19_8,?v19_9,?v19_10,?v19_11],rfl,?r19,?e19⟩
    case e19 =>
     simp only[zcQ,Act.put,aj,ax,ay];rfl
    case r19=>first|rfl|(rw[gk];first|rfl|(simp;done)|(simp;exact zaS _))
   | false =>
    have gk:k6=args.isEmpty:=(by(rw[<- zn.o];simp));go_wp2_with fail;refine⟨af _,[?v20_1,?v20_2,?v20_3,?v20_4,?v20_5,?v20_6,?v20_7,?v20_8,?v20_9,?v20_10,?v20_11],rfl,?r20,?e20⟩
    case e20 =>
     simp only[zcQ,Act.put,aj,ax,ay];rfl
    case r20=>first|rfl|(rw[gk];first|rfl|(simp;done)|(simp;exact zaS _))
 intro us OT nC mN nO;obtain⟨u1,u2,u3,u4,u5,u6,u7,u8,u9,u10,u11,rfl⟩:=zJI mN;obtain rfl:u11=.bool k6:=(by simpa using nO);clear mN nO;simp only[zcQ,Act.put,aj,ax,ay];have AO:=Hd (AN.o.trans nC);clear nC cz c0 c1 c2 c3 c4 c5 c6 c7 c8 c9;obtain⟨cz,c0,c1,c2,c3,c4,c5,c6,c7,c8,c9⟩:=nH.o OT AO.o;obtain⟨k7,zo⟩:∃z,Hi ((k6&&(e13 || kQ.isEmpty))=z):=⟨_,rfl⟩;refine zbD 11 [88,89,90,91,92,93,94,95,96,97,98] (fun us=>us[10]? = some (.bool k7)) ?_ ?_
 .simp;cases k6 with
  | false =>
   have gk:k7=false:=(by(rw[<- zo.o];rfl));go_wp2_with fail;refine⟨af _,[?v21_1,?v21_2,?v21_3,?v21_4,?v21_5,?v21_6,?v21_7,?v21_8,?v21_9,?v21_10,?v21_11],rfl,?r21,?e21⟩
   case e21 =>
    simp only[zcQ,Act.put,aj,ax,ay];rfl
   case r21=>first|rfl|(rw[gk];first|rfl|(simp;done)|(simp;exact zaS _))
  | true =>
   cases e13 with
   | true =>
    have gk:k7=true:=(by(rw[<- zo.o];rfl));go_wp2_with fail;refine⟨af _,[?v22_1,?v22_2,?v22_3,?v22_4,?v22_5,?v22_6,?v22_7,?v22_8,?v22_9,?v22_10,?v22_11],rfl,?r22,?e22⟩
    case e22 =>
     simp only[zcQ,Act.put,aj,ax,ay];rfl
    case r22=>first|rfl|(rw[gk];first|rfl|(simp;done)|(simp;exact zaS _))
   | false =>
    have gk:k7=kQ.isEmpty:=(by(rw[<- zo.o];simp));go_wp2_with fail;refine⟨af _,[?v23_1,?v23_2,?v23_3,?v23_4,?v23_5,?v23_6,?v23_7,?v23_8,?v23_9,?v23_10,?v23_11],rfl,?r23,?e23⟩
    case e23 =>
     simp only[zcQ,Act.put,aj,ax,ay];rfl
    case r23=>first|rfl|(rw[gk];first|rfl|(simp;done)|(simp;exact zaS _))
 intro us LR nC mN nO;obtain⟨u1,u2,u3,u4,u5,u6,u7,u8,u9,u10,u11,rfl⟩:=zJI mN;obtain rfl:u11=.bool k7:=(by simpa using nO);clear mN nO;simp only[zcQ,Act.put,aj,ax,ay];have um:=Hd (AO.o.trans nC);clear nC cz c0 c1 c2 c3 c4 c5 c6 c7 c8 c9 nH;have kS:Hi (R=k7):=by
  show _=_;rw[<- HR.o,<- zo.o,<- zn.o,<- zm.o,<- xu.o,<- zl.o,<- zk.o,<- zj.o,<- tO.o]
 clear HR;go_wp2
 (try go_ret)
 exact⟨by rw[kS.o];first|rfl|(simp;done),ri.o.trans um.o⟩
def zzZ(S:Nat->Prop)(m n:Nat)(b:Blo)(vC vP vL vK:Value)(w:World)(hp:ParB S m n w vC vP vL vK b)(mn:OkB b):Calls prog 68 #[.agg (zqQ b vC vP vL vK).toArray] w fun e w'=>e=.returned (.bool (zu4 b))/\Kept w w':=by
 obtain⟨kL,kU,kW,kN,kP,title,id,cls,prs,kY,kM⟩:=b;obtain⟨hC,hP,hL,hK⟩:=hp;simp only[Blo.cls,Blo.prs,Blo.line,Blo.kids]at hC hP hL hK;obtain⟨aC,cC,rfl,lC⟩:=hC.form;obtain⟨aP,cP,rfl,lP⟩:=hP.form;obtain⟨aL,cL,rfl,lL⟩:=hL.form;obtain⟨aK,cK,rfl,lK⟩:=hK.form;have kZ:=Hd (zaA w (.cells #[.int .i64 kL,.int .i64 kU,.string (bs kW),.string (bs kN),.string (bs kP),.string (bs title),.string (bs id),.slice aC cls.length cC,.slice aP prs.length cP,.slice aL kY.length cL,.slice aK kM.length cK] 42));have HD:=Hd (aI w 42 #[.int .i64 kL,.int .i64 kU,.string (bs kW),.string (bs kN),.string (bs kP),.string (bs title),.string (bs id),.slice aC cls.length cC,.slice aP prs.length cP,.slice aL kY.length cL,.slice aK kM.length cK]);have yO:=Hd (fun w'=>zjY id cls prs aC aP cC cP w');obtain⟨na,uU⟩:∃z,Hi (zwS id cls prs=z):=⟨_,rfl⟩;rw[uU.o]at yO;have AY:Hi (∀w':World,Calls prog 101 #[.int .i64 kL,.slice (some ⟨w'.heap.size,0,none⟩) 2 2] (w'.alloc (.cells #[.int .i64 2,.int .i64 8] 3)) fun e w''=>e=.returned (.bool ([2,8].contains kL))/\Kept w' w''):=fun w'=>zgD kL [2,8] w' c_;have HL2:Hi (∀w':World,Calls prog 101 #[.int .i64 kL,.slice (some ⟨w'.heap.size,0,none⟩) 5 5] (w'.alloc (.cells #[.int .i64 3,.int .i64 10,.int .i64 13,.int .i64 14,.int .i64 15] 3)) fun e w''=>e=.returned (.bool ([3,10,13,14,15].contains kL))/\Kept w' w''):=fun w'=>zgD kL [3,10,13,14,15] w' c_;have E7:Hi (∀w':World,Calls prog 101 #[.int .i64 kL,.slice (some ⟨w'.heap.size,0,none⟩) 2 2] (w'.alloc (.cells #[.int .i64 3,.int .i64 4] 3)) fun e w''=>e=.returned (.bool ([3,4].contains kL))/\Kept w' w''):=fun w'=>zgD kL [3,4] w' c_;have wQ:Hi (∀w':World,Calls prog 101 #[.int .i64 kL,.slice (some ⟨w'.heap.size,0,none⟩) 3 3] (w'.alloc (.cells #[.int .i64 2,.int .i64 4,.int .i64 13] 3)) fun e w''=>e=.returned (.bool ([2,4,13].contains kL))/\Kept w' w''):=fun w'=>zgD kL [2,4,13] w' c_;have Al:Hi (∀w':World,Calls prog 101 #[.int .i64 kL,.slice (some ⟨w'.heap.size,0,none⟩) 3 3] (w'.alloc (.cells #[.int .i64 1,.int .i64 2,.int .i64 12] 3)) fun e w''=>e=.returned (.bool ([1,2,12].contains kL))/\Kept w' w''):=fun w'=>zgD kL [1,2,12] w' c_;have Am:Hi (∀w':World,Calls prog 101 #[.int .i64 kL,.slice (some ⟨w'.heap.size,0,none⟩) 8 8] (w'.alloc (.cells #[.int .i64 6,.int .i64 7,.int .i64 8,.int .i64 9,.int .i64 10,.int .i64 11,.int .i64 13,.int .i64 14] 3)) fun e w''=>e=.returned (.bool ([6,7,8,9,10,11,13,14].contains kL))/\Kept w' w''):=fun w'=>zgD kL [6,7,8,9,10,11,13,14] w' c_;obtain⟨R,HR⟩:=gX (zI0 kL kU kW kN kP title na kY kM);rw[show zu4 (.mk kL kU kW kN kP title id cls prs kY kM)=R by(unfold zu4;show zI0 kL kU kW kN kP title (zwS id cls prs) kY kM=R;rw[uU.o];exact HR.o)];unfold zI0 at HR;generalize [2,8].contains kL=b1 at *;generalize [3,10,13,14,15].contains kL=b2 at *;generalize [3,4].contains kL=b3 at *;generalize [2,4,13].contains kL=b4 at *;generalize [1,2,12].contains kL=b5 at *;generalize [6,7,8,9,10,11,13,14].contains kL=b6 at *;unfold zqQ;simp only[Blo.kind,Blo.level,Blo.info,Blo.text,Blo.dest,Blo.title,Blo.id];clear hC hP hL hK mn;go_in;go_upto_region 1 with fail;generalize w.alloc _=x0 at *;generalize w.heap.size=D at *;have lg:Hi (Kept x0 x0):=af _;have cz:=(HD.o.kept lg.o).lt;have c0:=(HD.o.kept lg.o).cell 0 _ rfl;go_wp2_with fail;refine k_ (AY.o x0) fun x1 hk=>?_;have kT:=Hd (lg.o.trans hk);clear hk c0 cz;have cz:=(HD.o.kept kT.o).lt;have c0:=(HD.o.kept kT.o).cell 0 _ rfl;go_wp2_with fail;refine k_ (HL2.o x1) fun x2 hk=>?_;have kX:=Hd (kT.o.trans hk);clear hk c0 cz;have cz:=(HD.o.kept kX.o).lt;have c0:=(HD.o.kept kX.o).cell 0 _ rfl;go_wp2_with fail;refine k_ (E7.o x2) fun x3 hk=>?_;have lq:=Hd (kX.o.trans hk);clear hk c0 cz;have cz:=(HD.o.kept lq.o).lt;have c0:=(HD.o.kept lq.o).cell 0 _ rfl;go_wp2_with fail;refine k_ (wQ.o x3) fun x4 hk=>?_;have mg:=Hd (lq.o.trans hk);clear hk c0 cz;have cz:=(HD.o.kept mg.o).lt;have c0:=(HD.o.kept mg.o).cell 0 _ rfl;go_wp2_with fail;refine k_ (Al.o x4) fun x5 hk=>?_;have lX:=Hd (mg.o.trans hk);clear hk c0 cz;have cz:=(HD.o.kept lX.o).lt;have c0:=(HD.o.kept lX.o).cell 0 _ rfl;go_wp2_with fail;refine k_ (Am.o x5) fun x6 hk=>?_;have lH:=Hd (lX.o.trans hk);clear hk c0 cz;have nH:=Hd (fun w' (k:Kept x6 w')=>And.intro ((HD.o.kept (lH.o.trans k)).lt) (And.intro ((HD.o.kept (lH.o.trans k)).cell 0 _ rfl) (And.intro ((HD.o.kept (lH.o.trans k)).cell 1 _ rfl) (And.intro ((HD.o.kept (lH.o.trans k)).cell 2 _ rfl) (And.intro ((HD.o.kept (lH.o.trans k)).cell 3 _ rfl) (And.intro ((HD.o.kept (lH.o.trans k)).cell 4 _ rfl) (And.intro ((HD.o.kept (lH.o.trans k)).cell 5 _ rfl) (And.intro ((HD.o.kept (lH.o.trans k)).cell 6 _ rfl) (And.intro ((HD.o.kept (lH.o.trans k)).cell 7 _ rfl) (And.intro ((HD.o.kept (lH.o.trans k)).cell 8 _ rfl) (And.intro ((HD.o.kept (lH.o.trans k)).cell 9 _ rfl) ((HD.o.kept (lH.o.trans k)).cell 10 _ rfl))))))))))));clear AY HL2 E7 wQ Al Am;obtain⟨cz,c0,c1,c2,c3,c4,c5,c6,c7,c8,c9,c10⟩:=nH.o x6 (af _);have ri:=Hd (kZ.o.trans lH.o);go_upto_region 7 with fail;refine wp_region_lit (zDk ?_);intro pb mC;have D3:Option.bind (pb[3]?) Oper.dst=some 36:=mC 3;have D8:Option.bind (pb[8]?) Oper.dst=some 41:=mC 8;have OD:Option.bind (pb[10]?) Oper.dst=some 43:=mC 10;have OE:Option.bind (pb[16]?) Oper.dst=some 49:=mC 16;have OF:Option.bind (pb[18]?) Oper.dst=some 51:=mC 18;have OG:Option.bind (pb[24]?) Oper.dst=some 57:=mC 24;have OH:Option.bind (pb[26]?) Oper.dst=some 59:=mC 26;have OI:Option.bind (pb[32]?) Oper.dst=some 65:=mC 32;have RC:Option.bind (pb[36]?) Oper.dst=some 69:=mC 36;have OJ:Option.bind (pb[40]?) Oper.dst=some 73:=mC 40;have RD:Option.bind (pb[47]?) Oper.dst=some 80:=mC 47;have OK:Option.bind (pb[49]?) Oper.dst=some 82:=mC 49;have RE:Option.bind (pb[55]?) Oper.dst=some 88:=mC 55;have RF:Option.bind (pb[57]?) Oper.dst=some 90:=mC 57;have OM:Option.bind (pb[64]?) Oper.dst=some 97:=mC 64;have RG:Option.bind (pb[66]?) Oper.dst=some 99:=mC 66;clear mC;obtain⟨k0,tO⟩:∃z,Hi ((decide (1<=kL)&&decide (kL<=15))=z):=⟨_,rfl⟩;have hun:undef=Value.tuple #[]:=rfl;refine zbD 8 [33,34,35,36,37,38,39,40] (fun us=>us[7]? = some (.bool k0)) ?_ ?_
 .simp;by_cases g1:1<=kL
  .have gk:k0=decide (kL<=15):=(by(rw[<- tO.o,bJ g1];rfl));go_wp2_with fail;refine⟨af _,[?v101_1,?v101_2,?v101_3,?v101_4,?v101_5,?v101_6,?v101_7,?v101_8],rfl,?r101,?e101⟩
   case e101 =>
    simp only[zcQ,Act.put,aj,ax,ay];rfl
   case r101=>first|rfl|(rw[gk];first|rfl|(simp;done)|(simp;exact zaS _))
  .have gk:k0=false:=(by(rw[<- tO.o,bH g1];rfl));have g1':kL<1:=a_;go_wp2_with fail;refine⟨af _,[?v102_1,?v102_2,?v102_3,?v102_4,?v102_5,?v102_6,?v102_7,?v102_8],rfl,?r102,?e102⟩
   case e102 =>
    simp only[zcQ,Act.put,aj,ax,ay];rfl
   case r102=>first|rfl|(rw[gk];first|rfl|(simp;done)|(simp;exact zaS _))
 intro us OU nC mN nO;obtain⟨u1,u2,u3,u4,u5,u6,u7,u8,rfl⟩:=zDH mN;obtain rfl:u8=.bool k0:=(by simpa using nO);clear mN nO;simp only[zcQ,Act.put,aj,ax,ay];have AP:=Hd (nC);clear nC cz c0 c1 c2 c3 c4 c5 c6 c7 c8 c9 c10;obtain⟨cz,c0,c1,c2,c3,c4,c5,c6,c7,c8,c9,c10⟩:=nH.o OU AP.o;obtain⟨lz,hlz⟩:∃z,(kU==0)=z:=⟨_,rfl⟩;rw[hlz]at HR;obtain⟨k1,zj⟩:∃z,Hi ((k0&&(b1 || lz))=z):=⟨_,rfl⟩;refine zbD 8 [41,42,43,44,45,46,47,48] (fun us=>us[7]? = some (.bool k1)) ?_ ?_
 .simp;cases k0 with
  | false =>
   have gk:k1=false:=(by(rw[<- zj.o];rfl));go_wp2_with fail;refine⟨af _,[?v103_1,?v103_2,?v103_3,?v103_4,?v103_5,?v103_6,?v103_7,?v103_8],rfl,?r103,?e103⟩
   case e103 =>
    simp only[zcQ,Act.put,aj,ax,ay];rfl
   case r103=>first|rfl|(rw[gk];first|rfl|(simp;done)|(simp;exact zaS _))
  | true =>
   cases b1 with
   | true =>
    have gk:k1=true:=(by(rw[<- zj.o];rfl));go_wp2_with fail;refine⟨af _,[?v104_1,?v104_2,?v104_3,?v104_4,?v104_5,?v104_6,?v104_7,?v104_8],rfl,?r104,?e104⟩
    case e104 =>
     simp only[zcQ,Act.put,aj,ax,ay];rfl
    case r104=>first|rfl|(rw[gk];first|rfl|(simp;done)|(simp;exact zaS _))
   | false =>
    have gk:k1=lz:=(by(rw[<- zj.o];simp));go_wp2_with fail;refine⟨af _,[?v105_1,?v105_2,?v105_3,?v105_4,?v105_5,?v105_6,?v105_7,?v105_8],rfl,?r105,?e105⟩
    case e105 =>
     simp only[zcQ,Act.put,aj,ax,ay];rfl
    case r105=>first|rfl|(rw[gk];first|rfl|(simp;done)|(simp;exact zaS _))
 intro us OV nC mN nO;obtain⟨u1,u2,u3,u4,u5,u6,u7,u8,rfl⟩:=zDH mN;obtain rfl:u8=.bool k1:=(by simpa using nO);clear mN nO;simp only[zcQ,Act.put,aj,ax,ay];have AQ:=Hd (AP.o.trans nC);clear nC cz c0 c1 c2 c3 c4 c5 c6 c7 c8 c9 c10;obtain⟨cz,c0,c1,c2,c3,c4,c5,c6,c7,c8,c9,c10⟩:=nH.o OV AQ.o;obtain⟨k2,zk⟩:∃z,Hi ((k1&&(b2 || kW.isEmpty))=z):=⟨_,rfl⟩;refine zbD 8 [49,50,51,52,53,54,55,56] (fun us=>us[7]? = some (.bool k2)) ?_ ?_
 .simp;cases k1 with
  | false =>
   have gk:k2=false:=(by(rw[<- zk.o];rfl));go_wp2_with fail;refine⟨af _,[?v106_1,?v106_2,?v106_3,?v106_4,?v106_5,?v106_6,?v106_7,?v106_8],rfl,?r106,?e106⟩
   case e106 =>
    simp only[zcQ,Act.put,aj,ax,ay];rfl
   case r106=>first|rfl|(rw[gk];first|rfl|(simp;done)|(simp;exact zaS _))
  | true =>
   cases b2 with
   | true =>
    have gk:k2=true:=(by(rw[<- zk.o];rfl));go_wp2_with fail;refine⟨af _,[?v107_1,?v107_2,?v107_3,?v107_4,?v107_5,?v107_6,?v107_7,?v107_8],rfl,?r107,?e107⟩
    case e107 =>
     simp only[zcQ,Act.put,aj,ax,ay];rfl
    case r107=>first|rfl|(rw[gk];first|rfl|(simp;done)|(simp;exact zaS _))
   | false =>
    have gk:k2=kW.isEmpty:=(by(rw[<- zk.o];simp));go_wp2_with fail;refine⟨af _,[?v108_1,?v108_2,?v108_3,?v108_4,?v108_5,?v108_6,?v108_7,?v108_8],rfl,?r108,?e108⟩
    case e108 =>
     simp only[zcQ,Act.put,aj,ax,ay];rfl
    case r108=>first|rfl|(rw[gk];first|rfl|(simp;done)|(simp;exact zaS _))
 intro us OW nC mN nO;obtain⟨u1,u2,u3,u4,u5,u6,u7,u8,rfl⟩:=zDH mN;obtain rfl:u8=.bool k2:=(by simpa using nO);clear mN nO;simp only[zcQ,Act.put,aj,ax,ay];have AR:=Hd (AQ.o.trans nC);clear nC cz c0 c1 c2 c3 c4 c5 c6 c7 c8 c9 c10;obtain⟨cz,c0,c1,c2,c3,c4,c5,c6,c7,c8,c9,c10⟩:=nH.o OW AR.o;obtain⟨k3,zl⟩:∃z,Hi ((k2&&(b3 || kN.isEmpty))=z):=⟨_,rfl⟩;refine zbD 8 [57,58,59,60,61,62,63,64] (fun us=>us[7]? = some (.bool k3)) ?_ ?_
 .simp;cases k2 with
  | false =>
   have gk:k3=false:=(by(rw[<- zl.o];rfl));go_wp2_with fail;refine⟨af _,[?v109_1,?v109_2,?v109_3,?v109_4,?v109_5,?v109_6,?v109_7,?v109_8],rfl,?r109,?e109⟩
   case e109 =>
    simp only[zcQ,Act.put,aj,ax,ay];rfl
   case r109=>first|rfl|(rw[gk];first|rfl|(simp;done)|(simp;exact zaS _))
  | true =>
   cases b3 with
   | true =>
    have gk:k3=true:=(by(rw[<- zl.o];rfl));go_wp2_with fail;refine⟨af _,[?v110_1,?v110_2,?v110_3,?v110_4,?v110_5,?v110_6,?v110_7,?v110_8],rfl,?r110,?e110⟩
    case e110 =>
     simp only[zcQ,Act.put,aj,ax,ay];rfl
    case r110=>first|rfl|(rw[gk];first|rfl|(simp;done)|(simp;exact zaS _))
   | false =>
    have gk:k3=kN.isEmpty:=(by(rw[<- zl.o];simp));go_wp2_with fail;refine⟨af _,[?v111_1,?v111_2,?v111_3,?v111_4,?v111_5,?v111_6,?v111_7,?v111_8],rfl,?r111,?e111⟩
    case e111 =>
     simp only[zcQ,Act.put,aj,ax,ay];rfl
    case r111=>first|rfl|(rw[gk];first|rfl|(simp;done)|(simp;exact zaS _))
 intro us OX nC mN nO;obtain⟨u1,u2,u3,u4,u5,u6,u7,u8,rfl⟩:=zDH mN;obtain rfl:u8=.bool k3:=(by simpa using nO);clear mN nO;simp only[zcQ,Act.put,aj,ax,ay];have AT:=Hd (AR.o.trans nC);clear nC cz c0 c1 c2 c3 c4 c5 c6 c7 c8 c9 c10;obtain⟨cz,c0,c1,c2,c3,c4,c5,c6,c7,c8,c9,c10⟩:=nH.o OX AT.o;obtain⟨e15,C5⟩:∃z,(kL==15)=z:=⟨_,rfl⟩;rw[C5]at HR;obtain⟨k4,xu⟩:∃z,Hi ((k3&&(e15 || (kP.isEmpty&&title.isEmpty)))=z):=⟨_,rfl⟩;refine zbD 15 [65,66,67,68,69,70,71,72,73,74,75,76,77,78,79] (fun us=>us[14]? = some (.bool k4)) ?_ ?_
 .simp;cases k3 with
  | false =>
   have gk:k4=false:=(by(rw[<- xu.o];rfl));go_wp2_with fail;refine⟨af _,[?v112_1,?v112_2,?v112_3,?v112_4,?v112_5,?v112_6,?v112_7,?v112_8,?v112_9,?v112_10,?v112_11,?v112_12,?v112_13,?v112_14,?v112_15],rfl,?r112,?e112⟩
   case e112 =>
    simp only[zcQ,Act.put,aj,ax,ay];rfl
   case r112=>first|rfl|(rw[gk];first|rfl|(simp;done)|(simp;exact zaS _))
  | true =>
   cases e15 with
   | true =>
    have gk:k4=true:=(by(rw[<- xu.o];rfl));go_wp2_with fail;refine⟨af _,[?v113_1,?v113_2,?v113_3,?v113_4,?v113_5,?v113_6,?v113_7,?v113_8,?v113_9,?v113_10,?v113_11,?v113_12,?v113_13,?v113_14,?v113_15],rfl,?r113,?e113⟩
    case e113 =>
     simp only[zcQ,Act.put,aj,ax,ay];rfl
    case r113=>first|rfl|(rw[gk];first|rfl|(simp;done)|(simp;exact zaS _))
   | false =>
    by_cases hde:kP=[]
    .have gk:k4=title.isEmpty:=(by(rw[<- xu.o,hde];simp));clear xu HR;subst hde;go_wp2_with fail;refine⟨af _,[?v114_1,?v114_2,?v114_3,?v114_4,?v114_5,?v114_6,?v114_7,?v114_8,?v114_9,?v114_10,?v114_11,?v114_12,?v114_13,?v114_14,?v114_15],rfl,?r114,?e114⟩
     case e114 =>
      simp only[zcQ,Act.put,aj,ax,ay];rfl
     case r114=>first|rfl|(rw[gk];first|rfl|(simp;done)|(simp;exact zaS _))
    .have CP:kP.isEmpty=false:=(by rw[cJ];exact hde);have gk:k4=false:=(by(rw[<- xu.o,CP];rfl));go_wp2_with fail;refine⟨af _,[?v115_1,?v115_2,?v115_3,?v115_4,?v115_5,?v115_6,?v115_7,?v115_8,?v115_9,?v115_10,?v115_11,?v115_12,?v115_13,?v115_14,?v115_15],rfl,?r115,?e115⟩
     case e115 =>
      simp only[zcQ,Act.put,aj,ax,ay];rfl
     case r115=>first|rfl|(rw[gk];first|rfl|(simp;done)|(simp;exact zaS _))
 intro us OY nC mN nO;obtain⟨u1,u2,u3,u4,u5,u6,u7,u8,u9,u10,u11,u12,u13,u14,u15,rfl⟩:=zKn mN;obtain rfl:u15=.bool k4:=(by simpa using nO);clear mN nO;simp only[zcQ,Act.put,aj,ax,ay];have AU:=Hd (AT.o.trans nC);clear nC cz c0 c1 c2 c3 c4 c5 c6 c7 c8 c9 c10;obtain⟨cz,c0,c1,c2,c3,c4,c5,c6,c7,c8,c9,c10⟩:=nH.o OY AU.o;obtain⟨k5,zm⟩:∃z,Hi ((k4&&(b4 || na))=z):=⟨_,rfl⟩;refine zbD 8 [80,81,82,83,84,85,86,87] (fun us=>us[7]? = some (.bool k5)) ?_ ?_
 .simp;cases k4 with
  | false =>
   have gk:k5=false:=(by(rw[<- zm.o];rfl));go_wp2_with (go_at_call 102;refine k_ (yO.o _) fun w9 pD=>?_;have pm:=Hd pD;clear pD);refine⟨(by first|exact pm.o|exact af _),[?v116_1,?v116_2,?v116_3,?v116_4,?v116_5,?v116_6,?v116_7,?v116_8],rfl,?r116,?e116⟩
   case e116 =>
    simp only[zcQ,Act.put,aj,ax,ay];rfl
   case r116=>first|rfl|(rw[gk];first|rfl|(simp;done)|(simp;exact zaS _))
  | true =>
   cases b4 with
   | true =>
    have gk:k5=true:=(by(rw[<- zm.o];rfl));go_wp2_with fail;refine⟨af _,[?v117_1,?v117_2,?v117_3,?v117_4,?v117_5,?v117_6,?v117_7,?v117_8],rfl,?r117,?e117⟩
    case e117 =>
     simp only[zcQ,Act.put,aj,ax,ay];rfl
    case r117=>first|rfl|(rw[gk];first|rfl|(simp;done)|(simp;exact zaS _))
   | false =>
    have gk:k5=na:=(by(rw[<- zm.o];simp));go_wp2_with (go_at_call 102;refine k_ (yO.o _) fun w9 pD=>?_;have pm:=Hd pD;clear pD);refine⟨(by first|exact pm.o|exact af _),[?v118_1,?v118_2,?v118_3,?v118_4,?v118_5,?v118_6,?v118_7,?v118_8],rfl,?r118,?e118⟩
    case e118 =>
     simp only[zcQ,Act.put,aj,ax,ay];rfl
    case r118=>first|rfl|(rw[gk];first|rfl|(simp;done)|(simp;exact zaS _))
 intro us OZ nC mN nO;obtain⟨u1,u2,u3,u4,u5,u6,u7,u8,rfl⟩:=zDH mN;obtain rfl:u8=.bool k5:=(by simpa using nO);clear mN nO;simp only[zcQ,Act.put,aj,ax,ay];have AV:=Hd (AU.o.trans nC);clear nC cz c0 c1 c2 c3 c4 c5 c6 c7 c8 c9 c10;obtain⟨cz,c0,c1,c2,c3,c4,c5,c6,c7,c8,c9,c10⟩:=nH.o OZ AV.o;obtain⟨k6,zn⟩:∃z,Hi ((k5&&(b5 || kY.isEmpty))=z):=⟨_,rfl⟩;refine zbD 9 [88,89,90,91,92,93,94,95,96] (fun us=>us[8]? = some (.bool k6)) ?_ ?_
 .simp;cases k5 with
  | false =>
   have gk:k6=false:=(by(rw[<- zn.o];rfl));go_wp2_with fail;refine⟨af _,[?v119_1,?v119_2,?v119_3,?v119_4,?v119_5,?v119_6,?v119_7,?v119_8,?v119_9],rfl,?r119,?e119⟩
   case e119 =>
    simp only[zcQ,Act.put,aj,ax,ay];rfl
   case r119=>first|rfl|(rw[gk];first|rfl|(simp;done)|(simp;exact zaS _))
  | true =>
   cases b5 with
   | true =>
    have gk:k6=true:=(by(rw[<- zn.o];rfl));go_wp2_with fail;refine⟨af _,[?v120_1,?v120_2,?v120_3,?v120_4,?v120_5,?v120_6,?v120_7,?v120_8,?v120_9],rfl,?r120,?e120⟩
    case e120 =>
     simp only[zcQ,Act.put,aj,ax,ay];rfl
    case r120=>first|rfl|(rw[gk];first|rfl|(simp;done)|(simp;exact zaS _))
   | false =>
    have gk:k6=kY.isEmpty:=(by(rw[<- zn.o];simp));go_wp2_with fail;refine⟨af _,[?v121_1,?v121_2,?v121_3,?v121_4,?v121_5,?v121_6,?v121_7,?v121_8,?v121_9],rfl,?r121,?e121⟩
    case e121 =>
     simp only[zcQ,Act.put,aj,ax,ay];rfl
    case r121=>first|rfl|(rw[gk];first|rfl|(simp;done)|(simp;exact zaS _))
 intro us LR nC mN nO;obtain⟨u1,u2,u3,u4,u5,u6,u7,u8,u9,rfl⟩:=zKm mN;obtain rfl:u9=.bool k6:=(by simpa using nO);clear mN nO;simp only[zcQ,Act.put,aj,ax,ay];have um:=Hd (AV.o.trans nC);clear nC cz c0 c1 c2 c3 c4 c5 c6 c7 c8 c9 c10;obtain⟨cz,c0,c1,c2,c3,c4,c5,c6,c7,c8,c9,c10⟩:=nH.o LR um.o;obtain⟨k7,zo⟩:∃z,Hi ((k6&&(b6 || kM.isEmpty))=z):=⟨_,rfl⟩;refine zbD 9 [97,98,99,100,101,102,103,104,105] (fun us=>us[8]? = some (.bool k7)) ?_ ?_
 .simp;cases k6 with
  | false =>
   have gk:k7=false:=(by(rw[<- zo.o];rfl));go_wp2_with fail;refine⟨af _,[?v122_1,?v122_2,?v122_3,?v122_4,?v122_5,?v122_6,?v122_7,?v122_8,?v122_9],rfl,?r122,?e122⟩
   case e122 =>
    simp only[zcQ,Act.put,aj,ax,ay];rfl
   case r122=>first|rfl|(rw[gk];first|rfl|(simp;done)|(simp;exact zaS _))
  | true =>
   cases b6 with
   | true =>
    have gk:k7=true:=(by(rw[<- zo.o];rfl));go_wp2_with fail;refine⟨af _,[?v123_1,?v123_2,?v123_3,?v123_4,?v123_5,?v123_6,?v123_7,?v123_8,?v123_9],rfl,?r123,?e123⟩
    case e123 =>
     simp only[zcQ,Act.put,aj,ax,ay];rfl
    case r123=>first|rfl|(rw[gk];first|rfl|(simp;done)|(simp;exact zaS _))
   | false =>
    have gk:k7=kM.isEmpty:=(by(rw[<- zo.o];simp));go_wp2_with fail;refine⟨af _,[?v124_1,?v124_2,?v124_3,?v124_4,?v124_5,?v124_6,?v124_7,?v124_8,?v124_9],rfl,?r124,?e124⟩
    case e124 =>
     simp only[zcQ,Act.put,aj,ax,ay];rfl
    case r124=>first|rfl|(rw[gk];first|rfl|(simp;done)|(simp;exact zaS _))
 intro us RH nC mN nO;obtain⟨u1,u2,u3,u4,u5,u6,u7,u8,u9,rfl⟩:=zKm mN;obtain rfl:u9=.bool k7:=(by simpa using nO);clear mN nO;simp only[zcQ,Act.put,aj,ax,ay];have E8:=Hd (um.o.trans nC);clear nC cz c0 c1 c2 c3 c4 c5 c6 c7 c8 c9 c10 nH;have kS:Hi (R=k7):=by
  show _=_;rw[<- HR.o,<- zo.o,<- zn.o,<- zm.o,<- xu.o,<- zl.o,<- zk.o,<- zj.o,<- tO.o]
 clear HR;go_wp2
 (try go_ret)
 exact⟨by rw[kS.o];first|rfl|(simp;done),ri.o.trans E8.o⟩
def zcD(s:Bs)(i:Nat):Nat:=if h:i<s.length then(if nmB s[i]=true then zcD s (i+1)else i)else i
termination_by s.length - i
def ztE{s:Bs}{i:Nat}(h:i<s.length)(hb:nmB s[i]=true):zcD s i=zcD s (i+1):=by rw[zcD,fK h,ae hb]
def zxG{s:Bs}{i:Nat}(h:i<s.length)(hb:nmB s[i]=false):zcD s i=i:=by rw[zcD,fK h,aa (by rw[hb];simp)]
def ztF{s:Bs}{i:Nat}(h:¬ i<s.length):zcD s i=i:=by rw[zcD,jP h]
def zjE(s:Bs)(i:Nat)(h:i<=s.length):i<=zcD s i/\zcD s i<=s.length:=by
 by_cases hi:i<s.length
 .cases hb:nmB s[i]with
  | true =>
   rw[ztE hi hb];have:=zjE s (i+1) hi;omega
  | false=>rw[zxG hi hb];omega
 .rw[ztF hi];omega
termination_by s.length - i
def ztG(s:Bs)(i:Nat)(w:World)(hs:s.length<=1100000)(hi:i<=s.length):Calls prog 32 #[.string (bs s),.int .i64 i] w fun e w'=>e=.returned (.int .i64 (zcD s i:Nat))/\w=w':=by
 have HP:=Hd (fun c w h0 h1=>zoM c w h0 h1);obtain⟨R,HR⟩:=gX (zcD s i);rw[HR.o];go_in;go_wp2_with fail;go_loopw [1] (fun iv wr=>∃k:Nat,k<=s.length/\iv=.int .i64 k/\Hi (zcD s k=R)/\w=wr) (fun iv _=>s.length - (intOf iv).toNat)
 .exact⟨i,hi,rfl,HR.o,rfl⟩
 case round =>
  clear HR;obtain⟨k,hk,rfl,HS,rfl⟩:=hrel;by_cases kV:k<s.length
  .have i0:=zbL (P:=prog) (t:=9) aq s k kV k rfl;have h0:=zh7 s k;have h1:=zAn s k;have lG:=Hd (zGs s k kV);have HY:Hi (ptB (at8 s k)=true->zcD s (k+1)=R):=fun h=>(by rw[<- ztE kV (by rw[<- lG.o];exact h)];exact HS.o);have HN:Hi (ptB (at8 s k)=false->R=k):=fun h=>(by rw[<- HS.o];exact zxG kV (by rw[<- lG.o];exact h));clear lG;generalize at8 s k=b at *;go_wp2_with fail;refine(HP.o _ _ h0 a_).mono ?_;rintro e w' ⟨rfl,rfl⟩;cases hb:ptB b
   .obtain rfl:=HN.o hb;go_wp2;go_ret;exact⟨rfl,rfl⟩
   .have mb:=Hd (HY.o hb);go_wp2;go_roundw
    .exact⟨k+1,a_,by go_num,mb.o,trivial⟩
    .simp [intOf];omega
  .obtain rfl:R=k:=(by rw[<- HS.o];exact ztF kV);go_wp2;go_ret;exact⟨rfl,rfl⟩
def znI(s:Bs)(i:Nat)(out:Bs):Option (Bs×Nat) :=
 if h:i<s.length then(if s[i]=34 then some (out,i)else if s[i]=92 then(if h2:i+1<s.length then(if s[i+1]=34\/s[i+1]=92 then znI s (i+2) (out++[s[i+1]])else none)else none)else znI s (i+1) (out++[s[i]]))else some (out,i)
termination_by s.length - i
def zI1(s:Bs):Option (Bs×Nat)->Bs×Nat×Bool
 | none=>([],0,false)
 | some (o,j)=>if j<s.length/\lnB o=true then(o,j+1,true)else([],0,false)
def ztH(s:Bs)(i:Nat):Bs×Nat×Bool :=
 if i<s.length/\at8 s i=34 then zI1 s (znI s (i+1) [])else if za8 ((s.drop i).take (zcD s i - i))=true then((s.drop i).take (zcD s i - i),zcD s i,true)else([],0,false)
def zFY{s:Bs}{k:Nat}{o:Bs}(h:¬ k<s.length):znI s k o=some (o,k):=by rw[znI,jP h]
def zIA{s:Bs}{k:Nat}{o:Bs}(h:k<s.length)(h1:s[k]=34):znI s k o=some (o,k):=by rw[znI,fK h,ae h1]
def zJJ{s:Bs}{k:Nat}{o:Bs}(h:k<s.length)(h1:s[k]≠34)(h2:s[k]≠92):znI s k o=znI s (k+1) (o++[s[k]]):=by rw[znI,fK h,aa h1,aa h2]
def zJK{s:Bs}{k:Nat}{o:Bs}(h:k<s.length)(h2:s[k]=92)(h3:¬ k+1<s.length):znI s k o=none:=by rw[znI,fK h,aa (by rw[h2];decide),ae h2,jP h3]
def zJL{s:Bs}{k:Nat}{o:Bs}(h:k<s.length)(h2:s[k]=92)(h3:k+1<s.length)(h4:¬ (s[k+1]=34\/s[k+1]=92)):znI s k o=none:=by rw[znI,fK h,aa (by rw[h2];decide),ae h2,fK h3,aa h4]
def zGT{s:Bs}{k:Nat}{o:Bs}(h:k<s.length)(h2:s[k]=92)(h3:k+1<s.length)(h4:s[k+1]=34\/s[k+1]=92):znI s k o=znI s (k+2) (o++[s[k+1]]):=by rw[znI,fK h,aa (by rw[h2];decide),ae h2,fK h3,ae h4]
def zqL(s:Bs)(i:Nat)(h:i<s.length)(n:UInt8):at8 s i=(n.toNat:Int)↔s[i]=n:=by
 rw[zbP s i h];exact⟨fun q=>iX.1 a_,fun q=>by rw[q]⟩
def zvM(s:Bs)(i:Nat)(w:World)(hs:s.length<=1000000)(hi:i<=s.length):Calls prog 213 #[.string (bs s),.int .i64 i] w fun e w'=>e=.returned (.tuple #[.string (bs (ztH s i).1),.int .i64 ((ztH s i).2.1:Nat),.bool (ztH s i).2.2])/\Kept w w':=by
 have HW:=Hd (fun w'=>ztG s i w' a_ hi);have qA:=Hd (fun(t:Bs) w' (h:t.length<=1100000)=>zeI t w' h);have pd:=Hd (fun(t:Bs) w' (h:t.length<=1100000)=>zoL t w' h);obtain⟨R,HR⟩:=gX (ztH s i);rw[HR.o];unfold ztH at HR;rcases(show(i<s.length/\at8 s i=34)\/¬ (i<s.length/\at8 s i=34)from Decidable.em _)with⟨h1,h2⟩|h1
 case' inr =>
  have oY:Hi ((if za8 ((s.drop i).take (zcD s i - i))=true then((s.drop i).take (zcD s i - i),zcD s i,true)else(([]:Bs),0,false))=R):=(aa h1).symm.trans HR.o;clear HR;have HR:=oY;clear oY;have hwl:=zjE s i hi;obtain⟨W,yg⟩:=gX (zcD s i);rw[yg.o]at HR HW hwl;obtain⟨T,qv⟩:=gX ((s.drop i).take (W - i));rw[qv.o]at HR;have sl:=zgI (P:=prog) (t:=9) aq s i W hwl.1 hwl.2 i W rfl rfl T qv.o;have htl:T.length<=1100000:=(by rw[<- qv.o,bw,dO];omega);have hil:¬ ((s.length:Int)<(i:Int)):=a_;clear yg qv;rcases(show¬ i<s.length\/(i<s.length/\at8 s i≠34)by
   by_cases a:i<s.length
   .exact .inr ⟨a,fun q=>h1 ⟨a,q⟩⟩
   .exact .inl a)with h3|⟨h3,h4⟩
  case' inl=>have hge:(s.length:Int)<=(i:Int):=a_
  case' inr =>
   have i0:=zbL (P:=prog) (t:=9) aq s i h3 i rfl;have hb4:(at8 s i != 34)=true:=(by rw[dd];exact h4);have nR:(at8 s i==34)=false:=(by rw[ab];exact h4);generalize at8 s i=b at *
  all_goals
   clear h1;go_in;go_wp2_with fail;refine(HW.o _).mono ?_;rintro e w1 ⟨rfl,rfl⟩;go_wp2_with fail;refine k_ (qA.o T _ htl) fun w2 ll=>?_;have kX:=Hd ll;clear ll;cases hn:za8 T with
   | false =>
    have kS:Hi (R=([],0,false)):=(by(show _=_;rw[<- HR.o,aa (by rw[hn];simp)]));go_wp2_with fail
    (try go_ret3)
    exact⟨by rw[kS.o];rfl,kX.o⟩
   | true =>
    have kS:Hi (R=(T,W,true)):=(by(show _=_;rw[<- HR.o,ae hn]));go_wp2_with fail
    (try go_ret3)
    exact⟨by rw[kS.o];rfl,kX.o⟩
 case' inl =>
  have oY:Hi (zI1 s (znI s (i+1) [])=R):=(ae (show i<s.length/\at8 s i=34 from⟨h1,h2⟩)).symm.trans HR.o;clear HR;have HR:=oY;clear oY;have i0:=zbL (P:=prog) (t:=9) aq s i h1 i rfl;have hb4:(at8 s i != 34)=false:=(by rw[h2];rfl);rw[h2]at i0;clear h2 hb4;have h1':¬ s.length<=i:=a_;go_in;go_wp2_with fail
  (try simp only[zd8])
  clear i0;go_loopw [1,8] (fun iv ov wr=>∃(k:Nat) (o:Bs),k<=s.length/\iv=.int .i64 k/\ov=.string (bs o)/\o.length<=k/\Hi (zI1 s (znI s k o)=R)/\w=wr) (fun iv _ _=>s.length - (intOf iv).toNat)
  .exact⟨i+1,[],a_,by go_num,rfl,ai _,HR.o,rfl⟩
  case round =>
   clear HR;obtain⟨k,o,hk,rfl,rfl,hol,HS,rfl⟩:=hrel;by_cases kV:k<s.length
   .have i0:=zbL (P:=prog) (t:=9) aq s k kV k rfl;have u1:=Hd (zqL s k kV 34);have u2:=Hd (zqL s k kV 92);rcases(show at8 s k=34\/(at8 s k≠34/\at8 s k=92)\/(at8 s k≠34/\at8 s k≠92)by omega)with h1|⟨h1,h2⟩|⟨h1,h2⟩
    .have HV:=Hd (zIA (o:=o) kV (u1.o.1 h1));rw[h1]at i0;go_wp2_with fail;refine(pd.o o _ a_).mono ?_;rintro e w2 ⟨rfl,ll⟩;have kX:=Hd ll;clear ll;cases hl:lnB o with
     | false =>
      have kS:Hi (R=([],0,false)):=(by(show _=_;rw[<- HS.o,HV.o];show(if _ then _ else _)=_;rw[aa (by rw[hl];simp)]));go_wp2_with fail
      (try go_ret3)
      exact⟨by rw[kS.o];rfl,kX.o⟩
     | true =>
      have kS:Hi (R=(o,k+1,true)):=(by(show _=_;rw[<- HS.o,HV.o];show(if _ then _ else _)=_;rw[ae ⟨kV,hl⟩]));go_wp2_with fail
      (try go_ret3)
      exact⟨by rw[kS.o];rfl,kX.o⟩
    .have b1:(at8 s k != 34)=true:=(by rw[dd];exact h1);rw[h2]at i0 b1;by_cases h3:k+1<s.length
     .have i1:=zbL (P:=prog) (t:=9) aq s (k+1) h3 ((k:Int)+1) a_;have v1:=Hd (zqL s (k+1) h3 34);have v2:=Hd (zqL s (k+1) h3 92);have sl:=zgI (P:=prog) (t:=9) aq s (k+1) (k+2) a_ a_ ((k:Int)+1) ((k:Int)+1+1) a_ a_ [s[k+1]] (zoW s (k+1) h3);rcases(show at8 s (k+1)=34\/(at8 s (k+1)≠34/\at8 s (k+1)=92)\/(at8 s (k+1)≠34/\at8 s (k+1)≠92)by omega)with g1|⟨g1,g2⟩|⟨g1,g2⟩
      case' inl =>
       have HV:=Hd (zGT (o:=o) kV (u2.o.1 h2) h3 (.inl (v1.o.1 g1)));rw[g1]at i1
      case' inr.inl =>
       have HV:=Hd (zGT (o:=o) kV (u2.o.1 h2) h3 (.inr (v2.o.1 g2)));rw[g2]at i1
      case' inr.inr =>
       have HV:=Hd (zJL (o:=o) kV (u2.o.1 h2) h3 (fun q=>q.elim (fun r=>g1 (v1.o.2 r)) (fun r=>g2 (v2.o.2 r))));have b3:(at8 s (k+1) != 34)=true:=(by rw[dd];exact g1);have b4:(at8 s (k+1) != 92)=true:=(by rw[dd];exact g2);generalize at8 s (k+1)=c at *;have kS:Hi (R=([],0,false)):=(by(show _=_;rw[<- HS.o,HV.o];rfl));go_wp2_with fail
       (try go_ret3)
       exact⟨by rw[kS.o];rfl,af _⟩
      all_goals
       have mb:Hi (zI1 s (znI s (k+2) (o++[s[k+1]]))=R):=(by rw[<- HV.o];exact HS.o);generalize s[k+1]=x at *;clear HV HS;go_wp2;go_roundw
       .exact⟨k+2,o++[x],a_,by go_num,by first|rfl|simp,by(rw[ah];simp;omega),mb.o,trivial⟩
       .simp [intOf];omega
     .have HV:=Hd (zJK (o:=o) kV (u2.o.1 h2) h3);have hge:(s.length:Int)<=(k:Int)+1:=a_;have kS:Hi (R=([],0,false)):=(by(show _=_;rw[<- HS.o,HV.o];rfl));go_wp2_with fail
      (try go_ret3)
      exact⟨by rw[kS.o];rfl,af _⟩
    .have b1:(at8 s k != 34)=true:=(by rw[dd];exact h1);have b2:(at8 s k==92)=false:=(by rw[ab];exact h2);have sl:=zgI (P:=prog) (t:=9) aq s k (k+1) a_ a_ k ((k:Int)+1) rfl a_ [s[k]] (zoW s k kV);have mb:Hi (zI1 s (znI s (k+1) (o++[s[k]]))=R):=(by rw[<- zJJ kV (fun q=>h1 (u1.o.2 q)) (fun q=>h2 (u2.o.2 q))];exact HS.o);generalize at8 s k=b at *;generalize s[k]=x at *;clear HS;go_wp2;go_roundw
     .exact⟨k+1,o++[x],a_,by go_num,by first|rfl|simp,by(rw[ah];simp;omega),mb.o,trivial⟩
     .simp [intOf];omega
   .obtain rfl:k=s.length:=a_;have HV:=Hd (zFY (o:=o) kV);have kS:Hi (R=([],0,false)):=(by(show _=_;rw[<- HS.o,HV.o];show(if _ then _ else _)=_;rw[aa (fun q=>kV q.1)]));go_wp2_with fail
    (try go_ret3)
    exact⟨by rw[kS.o];rfl,af _⟩
structure AtT where
 id:Bs
 cls:List Bs
 prs:List Pr
def Own2(B:Nat)(w:World)(vC vP:Value)(cls:List Bs)(prs:List Pr):Prop:=w.ownsRow B 9 1 vC cls.length (zaL cls)/\w.ownsRow B 46 2 vP prs.length (zcO prs)
def zoS(a:AtT)(n:Bs):AtT×Int:=if a.cls.contains n=true then(a,7)else if 32<=a.cls.length then(a,3)else({ a with cls:=a.cls++[n] },0)
def Own2.kept{B:Nat}{w w':World}{vC vP:Value}{cls:List Bs}{prs:List Pr}(h:Own2 B w vC vP cls prs)(k:Kept w w'):Own2 B w' vC vP cls prs:=⟨za1 h.1 k,za1 h.2 k⟩
def Own2.only{B:Nat}{T:Nat->Prop}{w w':World}{vC vP:Value}{cls:List Bs}{prs:List Pr}(h:Own2 B w vC vP cls prs)(k:Only T w w')(h1:∀g,vC.ownBlock=some g->¬ T g)(h2:∀g,vP.ownBlock=some g->¬ T g):Own2 B w' vC vP cls prs:=⟨k.own h.1 h1,k.own h.2 h2⟩
def Own2.shape{B:Nat}{w:World}{vC vP:Value}{cls:List Bs}{prs:List Pr}(h:Own2 B w vC vP cls prs):∃aC cC aP cP,vC=.slice aC cls.length cC/\vP=.slice aP prs.length cP:=by
 obtain⟨aC,cC,h1,_⟩:=zaZ h.1;obtain⟨aP,cP,h2,_⟩:=zaZ h.2;exact⟨aC,cC,aP,cP,h1,h2⟩
def Own2.nil(B:Nat)(w:World):Own2 B w (.slice none 0 0) (.slice none 0 0) [] []:=⟨dg _ _ _ _,dg _ _ _ _⟩
def Own2.off{B:Nat}{w:World}{vC vP:Value}{cls:List Bs}{prs:List Pr}{b:Nat}{cs:Array Value}(h:Own2 B w vC vP cls prs)(hb:Blk w b 39 cs):some b≠vC.ownBlock/\some b≠vP.ownBlock:=⟨za7 h.1 hb c_,za7 h.2 hb c_⟩
def Own2.strs{B:Nat}{w:World}{vC vP:Value}{cls:List Bs}{prs:List Pr}(h:Own2 B w vC vP cls prs):Strs w vC cls:=gU h.1
def Own2.prs{B:Nat}{w:World}{vC vP:Value}{cls:List Bs}{prs:List Pr}(h:Own2 B w vC vP cls prs):Prs w vP prs:=Prs.own h.2
def Only.new{S S':Nat->Prop}{a b c:World}(h:Only S a b)(k:Only S' b c)(hs:∀i,i<a.heap.size->S' i->S i):Only S a c :=
 ⟨k.os.trans h.os,k.tape.trans h.tape,k.output.trans h.output,bC h.size k.size,fun i hi hn=>(k.block i (aU hi h.size) (fun q=>hn (hs i hi q))).trans (h.block i hi hn)⟩
def Tryz.sizeAt3:(prog.info? 39).map (fun x=>x.size)=some 3:=g_
def ClsP(B:Nat)(a:AtT)(n:Bs)(vC vP:Value)(w:World)(e:Ending)(w':World):Prop:=∃tP,e=.returned (.tuple #[.agg #[.string (bs a.id),tP,vP],.int .i64 (zoS a n).2])/\Own2 B w' tP vP (zoS a n).1.cls a.prs/\Only (fun i=>some i=vC.ownBlock) w w'
def zvN(B:Nat)(id:Bs)(cls:List Bs)(prs:List Pr)(n:Bs)(vC vP:Value)(w:World)(hO:Own2 B w vC vP cls prs)(hB:B<=w.heap.size)(hl:cls.length<=1000):Calls prog 212 #[.agg #[.string (bs id),vC,vP],.string (bs n)] w (ClsP B ⟨id,cls,prs⟩ n vC vP w):=by
 obtain⟨aC,cC,aP,cP,rfl,rfl⟩:=hO.shape;have xV:=Hd (fun w' (k:Kept w w')=>zoN (.slice aC cls.length cC) cls n w' (hO.strs.kept k) a_);have HO:=Hd hO;have lh:Hi (∀tP tQ er w',zoS ⟨id,cls,prs⟩ n=(⟨id,tQ,prs⟩,er)->Own2 B w' tP (.slice aP prs.length cP) tQ prs->Only (fun i=>some i=(Value.slice aC cls.length cC).ownBlock) w w'->ClsP B ⟨id,cls,prs⟩ n (.slice aC cls.length cC) (.slice aP prs.length cP) w (.returned (.tuple #[.agg #[.string (bs id),tP,.slice aP prs.length cP],.int .i64 er])) w'):=fun tP tQ er w' h1 h2 h3=>⟨tP,by rw[h1],by rw[h1];exact h2,h3⟩;generalize ClsP B ⟨id,cls,prs⟩ n (.slice aC cls.length cC) (.slice aP prs.length cP) w=P at *;have e1:(w.alloc (.cells #[.string (bs id),.slice aC cls.length cC,.slice aP prs.length cP] 39)).heap.size=w.heap.size+1:=b_;have mv:=Hd ((aI w 39 #[.string (bs id),.slice aC cls.length cC,.slice aP prs.length cP]).alloc (.cells #[.string (bs []),.slice none 0 0,.slice none 0 0] 39));have oI:=aI (w.alloc (.cells #[.string (bs id),.slice aC cls.length cC,.slice aP prs.length cP] 39)) 39 #[.string (bs []),.slice none 0 0,.slice none 0 0];rw[e1]at oI;have HR:=Hd oI;have lg:=Hd ((zaA w (.cells #[.string (bs id),.slice aC cls.length cC,.slice aP prs.length cP] 39)).trans (zaA _ (.cells #[.string (bs []),.slice none 0 0,.slice none 0 0] 39)));clear oI e1 hO;obtain⟨D,xj⟩:=gX w.heap.size;have O0:w.heap.size<=D:=(by rw[xj.o];exact aw _);go_in;go_upto_region 1 with fail;rw[xj.o]at mv HR ⊢;clear xj;generalize World.alloc (World.alloc _ _) _=w0 at *;have c0:=mv.o.cell 0 _ rfl;have c1:=mv.o.cell 1 _ rfl;have c2:=mv.o.cell 2 _ rfl;have cz:=mv.o.lt;go_wp2_with fail;refine(xV.o w0 lg.o).mono ?_;rintro e x1 ⟨rfl,rfl⟩;obtain⟨w1,hw1⟩:∃z:World,z=w0:=⟨_,rfl⟩;subst hw1;have kT:=lg;have ma:=mv;have HR1:=HR;have ub:=Hd (HO.o.kept kT.o);clear c0 c1 c2 cz mv HR lg xV;have c0:=ma.o.cell 0 _ rfl;have c1:=ma.o.cell 1 _ rfl;have c2:=ma.o.cell 2 _ rfl;have cz:=ma.o.lt;cases hc:cls.contains n with
 | true =>
  have HV:Hi (zoS ⟨id,cls,prs⟩ n=(⟨id,cls,prs⟩,7)):=(by(show _=_;unfold zoS;rw[ae hc]));go_wp2_with (first
   | (refine zaJ d_ 39 (.tmp 2) d_ D _ d_ ma.o _ di rfl Tryz.sizeAt3 ?_)
   | (refine zaI rfl 39 (.tmp 4) (.tmp 10) d_ (D+1) _ #[.string (bs id),.slice aC cls.length cC,.slice aP prs.length cP] d_ d_ HR1.o rfl Tryz.sizeAt3 (by simp only[bZ,ci,dc];rfl) ?_;intro w9 ml mw;have nJ:=Hd ml;have pB:=Hd mw;clear ml mw;have r0:w9.cell? ⟨D+1,0,none⟩=some (.string (bs id)):=nJ.o.cell 0 _ rfl;have r1:w9.cell? ⟨D+1,1,none⟩=some (.slice aC cls.length cC):=nJ.o.cell 1 _ rfl;have r2:w9.cell? ⟨D+1,2,none⟩=some (.slice aP prs.length cP):=nJ.o.cell 2 _ rfl;have rz:=nJ.o.lt))
  have hoff:=ub.o.off HR1.o;have HF:=Hd (lh.o (.slice aC cls.length cC) _ 7 w9 HV.o (ub.o.only pB.o (fun g q q2=>hoff.1 (by rw[q,q2])) (fun g q q2=>hoff.2 (by rw[q,q2]))) (Only.new (bc kT.o) pB.o (fun g q q2=>by omega)));clear lh;refine bM (v:=.tuple #[.agg #[.string (bs id),.slice aC cls.length cC,.slice aP prs.length cP],.int .i64 7]) ?_ rfl HF.o;simp [results,kw,go_sem,r0,r1,r2,rz]
 | false =>
  by_cases hge:32<=cls.length
  .have HV:Hi (zoS ⟨id,cls,prs⟩ n=(⟨id,cls,prs⟩,3)):=(by(show _=_;unfold zoS;rw[aa (by rw[hc];simp),ae hge]));go_wp2_with (first
    | (refine zaJ d_ 39 (.tmp 2) d_ D _ d_ ma.o _ di rfl Tryz.sizeAt3 ?_)
    | (refine zaI rfl 39 (.tmp 4) (.tmp 15) d_ (D+1) _ #[.string (bs id),.slice aC cls.length cC,.slice aP prs.length cP] d_ d_ HR1.o rfl Tryz.sizeAt3 (by simp only[bZ,ci,dc];rfl) ?_;intro w9 ml mw;have nJ:=Hd ml;have pB:=Hd mw;clear ml mw;have r0:w9.cell? ⟨D+1,0,none⟩=some (.string (bs id)):=nJ.o.cell 0 _ rfl;have r1:w9.cell? ⟨D+1,1,none⟩=some (.slice aC cls.length cC):=nJ.o.cell 1 _ rfl;have r2:w9.cell? ⟨D+1,2,none⟩=some (.slice aP prs.length cP):=nJ.o.cell 2 _ rfl;have rz:=nJ.o.lt))
   have hoff:=ub.o.off HR1.o;have HF:=Hd (lh.o (.slice aC cls.length cC) _ 3 w9 HV.o (ub.o.only pB.o (fun g q q2=>hoff.1 (by rw[q,q2])) (fun g q q2=>hoff.2 (by rw[q,q2]))) (Only.new (bc kT.o) pB.o (fun g q q2=>by omega)));clear lh;refine bM (v:=.tuple #[.agg #[.string (bs id),.slice aC cls.length cC,.slice aP prs.length cP],.int .i64 3]) ?_ rfl HF.o;simp [results,kw,go_sem,r0,r1,r2,rz]
  .have HV:Hi (zoS ⟨id,cls,prs⟩ n=(⟨id,cls++[n],prs⟩,0)):=(by(show _=_;unfold zoS;rw[aa (by rw[hc];simp),aa hge]));go_upto_region 5 with fail;have lj:=zaA w1 (.cells #[.string (bs n)] 9);have ly:=Hd (aI w1 9 #[.string (bs n)]);have mJ:=Hd (ub.o.kept lj);have lx:=Hd (ma.o.kept lj);have kS:=Hd (HR1.o.kept lj);have kX:=Hd (kT.o.trans lj);have mV:B<=(w1.alloc (.cells #[.string (bs n)] 9)).heap.size:=bC hB kX.o.size;clear lj ma HR1 kT ub;go_wp2_with (at_builtin;refine zeG ?_);refine Hd ?_;refine zd3 _ rfl (.tmp 17) (.tmp 19) rfl B (.slice aC cls.length cC) cls d_ mJ.o.1 n _ d_ ly.o a_ mV ?_;intro v7 w7 qW lf;have qB:=ch lf;have pc:=mJ.o.off lx.o;have qr:=mJ.o.off kS.o;have tf:Hi (Blk w7 D 39 #[.string (bs id),.slice aC cls.length cC,.slice aP prs.length cP]):=lx.o.onl qB pc.1;have zb:Hi (Blk w7 (D+1) 39 #[.string (bs []),.slice none 0 0,.slice none 0 0]):=kS.o.onl qB qr.1;have zX:Hi (w7.ownsRow B 46 2 (.slice aP prs.length cP) prs.length (zcO prs)):=qB.own mJ.o.2 (fun g q q2=>zg5 mJ.o.1 mJ.o.2 c_ g q2.symm q.symm);have E9:Hi (Only (fun i=>some i=(Value.slice aC cls.length cC).ownBlock) w w7):=iZ kX.o qB;obtain⟨a7,e7,hv7,-⟩:=zaZ qW;rw[ah,bU]at hv7;subst hv7;have Cj:=Hd qW;clear qW lf qB pc qr ly mJ lx kS kX mV c0 c1 c2 cz;have a1:=tf.o.cell 1 _ rfl;have f1:=tf.o.free 1;have cz:=tf.o.lt;have oZ:=bK (w:=w7) D 1 (.slice a7 (cls.length+1) e7);have hq:=za7 Cj.o tf.o c_;have hq2:=za7 zX.o tf.o c_;have pi:Hi (Blk (w7.setCell ⟨D,1,none⟩ (.slice a7 (cls.length+1) e7)) D 39 #[.string (bs id),.slice a7 (cls.length+1) e7,.slice aP prs.length cP]):=tf.o.set 1 _;have tJ:=Hd (zb.o.other D 1 (.slice a7 (cls.length+1) e7) a_);have sY:Hi (Own2 B (w7.setCell ⟨D,1,none⟩ (.slice a7 (cls.length+1) e7)) (.slice a7 (cls.length+1) e7) (.slice aP prs.length cP) (cls++[n]) prs):=⟨oZ.own Cj.o (fun g q q2=>hq (by rw[q,q2])),oZ.own zX.o (fun g q q2=>hq2 (by rw[q,q2]))⟩;have JG:Hi (Only (fun i=>some i=(Value.slice aC cls.length cC).ownBlock) w (w7.setCell ⟨D,1,none⟩ (.slice a7 (cls.length+1) e7))):=Only.new E9.o oZ (fun g q q2=>by omega);clear oZ hq hq2 Cj zX E9 zb;go_wp2_with (first
    | (refine zaJ d_ 39 (.tmp 2) d_ D _ d_ pi.o _ di rfl Tryz.sizeAt3 ?_)
    | (refine zaI rfl 39 (.tmp 4) (.tmp 22) d_ (D+1) _ #[.string (bs id),.slice a7 (cls.length+1) e7,.slice aP prs.length cP] d_ d_ tJ.o rfl Tryz.sizeAt3 (by simp only[bZ,ci,dc];rfl) ?_;intro w9 ml mw;have nJ:=Hd ml;have pB:=Hd mw;clear ml mw;have r0:w9.cell? ⟨D+1,0,none⟩=some (.string (bs id)):=nJ.o.cell 0 _ rfl;have r1:w9.cell? ⟨D+1,1,none⟩=some (.slice a7 (cls.length+1) e7):=nJ.o.cell 1 _ rfl;have r2:w9.cell? ⟨D+1,2,none⟩=some (.slice aP prs.length cP):=nJ.o.cell 2 _ rfl;have rz:=nJ.o.lt))
   have hoff:=sY.o.off tJ.o;have HF:=Hd (lh.o (.slice a7 (cls.length+1) e7) _ 0 w9 HV.o (sY.o.only pB.o (fun g q q2=>hoff.1 (by rw[q,q2])) (fun g q q2=>hoff.2 (by rw[q,q2]))) (Only.new JG.o pB.o (fun g q q2=>by omega)));clear lh;refine bM (v:=.tuple #[.agg #[.string (bs id),.slice a7 (cls.length+1) e7,.slice aP prs.length cP],.int .i64 0]) ?_ rfl HF.o;simp [results,kw,go_sem,r0,r1,r2,rz]
def gV:=@Only.new
end Go.Proofs.YtnldgmhdjancbaaGreatDoor
