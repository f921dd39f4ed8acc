/- The page's examples of styles, in plain Lean. No condition. -/
import Derived.Test.YtmcoomlkbgiboaaGreatDoorW22
import Derived.Test.YtmcoomlkbgiboaaGreatDoorW16
import Derived.Test.YtmcoomlkbgiboaaGreatDoorW35
import Derived.Test.YtmcoomlkbgiboaaGreatDoorW19
import Derived.Test.YtmcoomlkbgiboaaGreatDoorW37
import Derived.Test.YtmcoomlkbgiboaaGreatDoorW41
import Derived.Test.YtmcoomlkbgiboaaGreatDoorW13
import Derived.Test.YtmcoomlkbgiboaaGreatDoorW42
import Derived.Test.YtmcoomlkbgiboaaGreatDoorW30
set_option linter.all false
set_option maxRecDepth 100000
set_option maxHeartbeats 12800000
namespace Go.Proofs.YtmcoomlkbgiboaaGreatDoor
open Go.RowKit
def zE9 (l:Bs):Bool:=l.all fun b=>decide (32<=(b.toNat:Int)) && decide ((b.toNat:Int)<127)
theorem zhN {l:Bs} (h:zE9 l=true):lnB l=true:=by
 have:zd6 l=true:=zBt l (fun b hb=>by
  unfold zE9 at h;rw[List.all_eq_true] at h;have:=h b hb;simpa using this)
 exact this
theorem zCH {t:Bs} (h:zE9 t=true):zcU t=if (zj2 t).isSome=true then 0 else 5:=by
 unfold zcU;rw[zhN h];rfl
theorem zdH {t:Bs} (h:zE9 t=true) (hs:(zj2 t).isSome=true):zcU t=0:=by rw[zCH h,hs];rfl
theorem zkV {t:Bs} (h:zcU t=0):zeC t=(zj2 t).getD []:=by unfold zeC;rw[if_pos h]
theorem zD7:zqE zsN=0:=by
 unfold zqE zsN;rw[ze5,if_neg (by decide +kernel),if_neg (by decide +kernel),zdH (by decide +kernel) (by decide +kernel),if_neg (by decide),ze5,if_neg (by decide +kernel),if_neg (by decide +kernel),zdH (by decide +kernel) (by decide +kernel),if_neg (by decide),zkM,if_pos (by decide +kernel)]
theorem zCI:zqE zlQ=0:=by
 unfold zqE zlQ;rw[ze5,if_neg (by decide +kernel),if_neg (by decide +kernel),zdH (by decide +kernel) (by decide +kernel),if_neg (by decide),ze5,if_neg (by decide +kernel),if_neg (by decide +kernel),zdH (by decide +kernel) (by decide +kernel),if_neg (by decide),zkM,if_pos (by decide +kernel)]
theorem zD8:znI zj5=0:=by
 have h1:zcU zj5.cite=0:=zdH (by decide +kernel) (by decide +kernel);have h2:zcU zj5.bare=0:=zdH (by decide +kernel) (by decide +kernel);unfold znI;rw[h1,if_neg (by decide),zkV h1,h2,if_neg (by decide +kernel)]
theorem zCJ:znI zdU=0:=by
 have h1:zcU zdU.cite=0:=zdH (by decide +kernel) (by decide +kernel);have h2:zcU zdU.bare=0:=zdH (by decide +kernel) (by decide +kernel);unfold znI;rw[h1,if_neg (by decide),zkV h1,h2,if_neg (by decide +kernel)]
theorem zCK:zm2 zdU.sort=0:=by decide +kernel
theorem zD9:zdP zj5=0:=by
 unfold zdP;have h1:lnB zj5.between=true:=zhN (by decide +kernel);have h2:lnB zj5.begin_=true:=zhN (by decide +kernel);have h3:lnB zj5.end_=true:=zhN (by decide +kernel);have h4:zqE zj5.entries=0:=zD7;rw[if_neg (by decide),if_neg (by decide +kernel),if_neg (by decide),zD8,if_neg (by decide),h1,h2,h3,if_neg (by decide),if_neg (by decide),h4]
theorem zCL:zdP zdU=0:=by
 unfold zdP;have h1:lnB zdU.between=true:=zhN (by decide +kernel);have h2:lnB zdU.begin_=true:=zhN (by decide +kernel);have h3:lnB zdU.end_=true:=zhN (by decide +kernel);have h4:zqE zdU.entries=0:=zCI;rw[if_neg (by decide),if_neg (by decide +kernel),zCK,if_neg (by decide),zCJ,if_neg (by decide),h1,h2,h3,if_neg (by decide),if_neg (by decide),h4]
theorem zEa:zyY [110,117,109,101,114,105,99]=some zj5:=by
 unfold zyY;rw[if_neg (by decide),if_pos (by rfl)]
theorem zCM:zyY [97,117,116,104,111,114,45,100,97,116,101]=some zdU:=by
 unfold zyY;rw[if_pos (by rfl)]
def zkD:Bs:=[98,111,111,107]
def zFa (key fam yr:Bs):SrcT:=⟨key,zkD,[(fam,[],[],[])],[],[([116,105,116,108,101],[84]),([121,101,97,114],yr)]⟩
def kEn:Bs:=[101,110]
def srA:SrcT:=zFa [97] [78,103] [50,48,48,49]
def srB:SrcT:=zFa [98] [78,103] [50,48,48,49]
theorem zCN:zeC zdU.cite=(zj2 zdU.cite).getD []:=zkV (zdH (by decide +kernel) (by decide +kernel))
theorem zAB:zeC zj5.cite=(zj2 zj5.cite).getD []:=zkV (zdH (by decide +kernel) (by decide +kernel))
theorem zEb:zs0 ([srA,srB].map (zkU zdU kEn))=[1,2]:=by
 unfold zkU zrN zcR;rw[zCN];decide +kernel
theorem zDg:ctB zj5 kEn srA 1 [44,32,112,46,32,51]=[91,49,44,32,112,46,32,51,93]:=by
 unfold ctB zcR;rw[zAB];decide +kernel
theorem zEU:zcR (zg7 srA zj5 kEn [] 1) zj5.cite=[49]:=by
 unfold zcR;rw[zAB];decide +kernel
theorem zEV:ze2 [srA,srB]=0:=by decide +kernel
theorem zCO:zhM [srA,srB] [97]=some srA:=by decide +kernel
theorem zuI:FitL srA:=by unfold FitL;decide +kernel
theorem zuJ:FitL srB:=by unfold FitL;decide +kernel
def SrcWP (key fam yr:Bs) (w:World) (e:Ending) (w':World):Prop:=∃ g1 g2:Nat,e=.returned (zi0 key zkD (.slice (some ⟨g1,0,none⟩) 1 1) (.slice none 0 0) (.slice (some ⟨g2,0,none⟩) 2 2))/\Perss w' (.slice (some ⟨g1,0,none⟩) 1 1) [(fam,[],[],[])]/\Prs w' (.slice (some ⟨g2,0,none⟩) 2 2) [([116,105,116,108,101],[84]),([121,101,97,114],yr)]/\Kept w w'
theorem zCP (w:World) (fam:Bs):Perss (w.alloc (.cells #[.string (bs fam),.string (bs []),.string (bs []),.string (bs [])] 77)) (.slice (some ⟨w.heap.size,0,none⟩) 1 1) [(fam,[],[],[])]:=by
 have hb:=Blk.new w 77 #[.string (bs fam),.string (bs []),.string (bs []),.string (bs [])];refine ⟨_,_,rfl,Nat.le_refl _,fun _=>⟨_,0,rfl,hb.lt,fun j q hq=>?_⟩⟩;cases j with
 | zero=>cases hq;exact ⟨hb.cell 0 _ rfl,hb.cell 1 _ rfl,hb.cell 2 _ rfl,hb.cell 3 _ rfl⟩
 | succ j=>simp at hq
theorem zrS (key fam yr:Bs) (w:World):Calls Tryz.prog 29 #[.string (bs key),.string (bs fam),.string (bs yr)] w (SrcWP key fam yr w):=by
 have hk:∀ (w0:World) (n:Nat),w0.heap.size=n->Kept w w0->SrcWP key fam yr w (.returned (zi0 key zkD (.slice (some ⟨n,0,none⟩) 1 1) (.slice none 0 0) (.slice (some ⟨n+1,0,none⟩) 2 2))) ((w0.alloc (.cells #[.string (bs fam),.string (bs []),.string (bs []),.string (bs [])] 77)).alloc (.cells #[.string (bs [116,105,116,108,101]),.string (bs [84]),.string (bs [121,101,97,114]),.string (bs yr)] 62)):=by
  intro w0 n hn hk;have b1:=(zCP w0 fam).kept (zaA _ (.cells #[.string (bs [116,105,116,108,101]),.string (bs [84]),.string (bs [121,101,97,114]),.string (bs yr)] 62));have b2:=zsO (w0.alloc (.cells #[.string (bs fam),.string (bs []),.string (bs []),.string (bs [])] 77)) ([116,105,116,108,101],[84]) ([121,101,97,114],yr);rw[hn] at b1;rw[World.size_alloc,hn] at b2;exact ⟨n,n+1,rfl,b1,b2,(hk.trans (zaA _ _)).trans (zaA _ _)⟩
 have HK:=Hd hk;clear hk;have e0:(w.alloc (.cells #[.string (bs key),.string (bs zkD),.slice (some ⟨w.heap.size+1,0,none⟩) 1 1,.slice none 0 0,.slice (some ⟨w.heap.size+1+1,0,none⟩) 2 2] 50)).heap.size=w.heap.size+1:=(by simp);have HE0:=Hd e0;clear e0;go_enter Tryz.func29,Tryz.ntmps29;go_wp2_with fail;refine bodyPost_ret (v:=zi0 key zkD (.slice (some ⟨w.heap.size+1,0,none⟩) 1 1) (.slice none 0 0) (.slice (some ⟨w.heap.size+1+1,0,none⟩) 2 2)) ?_ rfl (HK.out _ (w.heap.size+1) HE0.out (zaA w _));simp [results,Tryz.results29,go_sem,zi0,zkD]
theorem zwY:SmallY zdU:=by
 refine ⟨by decide,by decide,by decide,by decide,by decide,by decide,by decide,by decide,fun p hp=>?_⟩;have h:p∈zlQ:=hp;simp only[zlQ,List.mem_cons,List.not_mem_nil,or_false] at h;rcases h with rfl|rfl <;> exact ⟨by decide,by decide⟩
theorem zAC:SmallY zj5:=by
 refine ⟨by decide,by decide,by decide,by decide,by decide,by decide,by decide,by decide,fun p hp=>?_⟩;have h:p∈zsN:=hp;simp only[zsN,List.mem_cons,List.not_mem_nil,or_false] at h;rcases h with rfl|rfl <;> exact ⟨by decide,by decide⟩
def awI:Inl:=.mk 13 [] [] [] [] [] [] [] [⟨[97],[],[44,32,112,46,32,51],false⟩] []
def awB:Blo:=.mk 1 0 [] [] [] [] [] [] [] [awI] []
theorem zuK:zAw [awB]=[[97]]:=by decide +kernel
theorem zDh:zCu [awB]:=by
 refine ⟨⟨?_,⟨⟨?_,trivial⟩,trivial⟩,trivial⟩,trivial⟩
 all_goals decide
theorem zpB:zbU [awB]=[awI]:=rfl
theorem zDi:(zbU [awB]).length<=1000000:=by rw[zpB];simp
theorem zDj:∀ x∈zbU [awB],x.cits.length<=1000000:=fun x hx=>by
 rw[zpB] at hx;rcases List.mem_singleton.1 hx with rfl;show ([⟨[97],[],[44,32,112,46,32,51],false⟩]:List Cit).length<=_;simp
theorem zDk:((zbU [awB]).flatMap zcK).length<=1000000:=by rw[zpB];decide +kernel
theorem zpC {α:Type} {S:Nat->Prop} {k:Nat} {R:List Value->α->Prop} {w:World} {g:Nat} {t:TypeId} {cs:List Value} {x:α} (h:Blk w g t cs.toArray) (hk:cs.length=k) (hS:S g) (hR:R cs x):RowR S k R w (.slice (some ⟨g,0,none⟩) 1 1) [x]:=by
 refine ⟨_,1,rfl,Nat.le_refl _,fun _=>⟨g,0,rfl,h.lt,hS,fun j y hy=>?_⟩⟩;cases j with
 | zero =>
  cases hy;refine ⟨cs,hk,fun i u hu=>?_,hR⟩;have e:=h.cell i u (by rw[List.getElem?_toArray];exact hu)
  rwa [show (0:Nat)+0 * k+i=i from by omega]
 | succ j=>simp at hy
theorem zEc {w:World} {C I B:Nat} (hc:Blk w C 68 #[.string (bs [97]),.string (bs []),.string (bs [44,32,112,46,32,51]),.bool false])
  (hi:Blk w I 71 #[.int .i64 13,.string (bs []),.string (bs []),.string (bs []),.string (bs []),.slice none 0 0,.slice none 0 0,.slice none 0 0,.slice (some ⟨C,0,none⟩) 1 1,.slice none 0 0])
  (hb:Blk w B 59 #[.int .i64 1,.int .i64 0,.string (bs []),.string (bs []),.string (bs []),.string (bs []),.string (bs []),.slice none 0 0,.slice none 0 0,.slice (some ⟨I,0,none⟩) 1 1,.slice none 0 0]) :
  Bls (fun g=>g<w.heap.size) 2 1 w (.slice (some ⟨B,0,none⟩) 1 1) [awB]:=by
 have h1:Cits (fun g=>g<w.heap.size) w (.slice (some ⟨C,0,none⟩) 1 1) [⟨[97],[],[44,32,112,46,32,51],false⟩]:=zpC (cs:=[.string (bs [97]),.string (bs []),.string (bs [44,32,112,46,32,51]),.bool false]) hc rfl hc.lt rfl;have h2:Lns (fun g=>g<w.heap.size) 2 w (.slice (some ⟨I,0,none⟩) 1 1) [awI]:=zpC (k:=10) (cs:=[.int .i64 13,.string (bs []),.string (bs []),.string (bs []),.string (bs []),.slice none 0 0,.slice none 0 0,.slice none 0 0,.slice (some ⟨C,0,none⟩) 1 1,.slice none 0 0]) hi rfl hi.lt ⟨_,_,_,_,_,rfl,⟨Strs.none_ w,InB.nil _ _⟩,⟨Prs.none_ w,InB.nil _ _⟩,⟨Strs.none_ w,InB.nil _ _⟩,h1,Lns.none_ _ _ _⟩;exact zpC (k:=11) (cs:=[.int .i64 1,.int .i64 0,.string (bs []),.string (bs []),.string (bs []),.string (bs []),.string (bs []),.slice none 0 0,.slice none 0 0,.slice (some ⟨I,0,none⟩) 1 1,.slice none 0 0]) hb rfl hb.lt ⟨_,_,_,_,rfl,⟨Strs.none_ w,InB.nil _ _⟩,⟨Prs.none_ w,InB.nil _ _⟩,h2,Bls.none_ _ _ _ _⟩
theorem zCQ {w:World} {g:Nat} {t:TypeId} {k1 f1 y1 k2 f2 y2:Bs} {vA1 vF1 vA2 vF2:Value} (h:Blk w g t #[.string (bs k1),.string (bs zkD),vA1,.slice none 0 0,vF1,.string (bs k2),.string (bs zkD),vA2,.slice none 0 0,vF2])
  (a1:Perss w vA1 [(f1,[],[],[])]) (p1:Prs w vF1 [([116,105,116,108,101],[84]),([121,101,97,114],y1)]) (a2:Perss w vA2 [(f2,[],[],[])]) (p2:Prs w vF2 [([116,105,116,108,101],[84]),([121,101,97,114],y2)]) :
  Srcs w (.slice (some ⟨g,0,none⟩) 2 2) [zFa k1 f1 y1,zFa k2 f2 y2]:=by
 refine ⟨_,2,rfl,Nat.le_refl _,fun _=>⟨g,0,rfl,h.lt,fun j s hs=>?_⟩⟩
 match j,hs with
 | 0,hs=>cases hs;exact ⟨vA1,_,vF1,h.cell 0 _ rfl,h.cell 1 _ rfl,h.cell 2 _ rfl,h.cell 3 _ rfl,h.cell 4 _ rfl,a1,Perss.none_ w,p1⟩
 | 1,hs=>cases hs;exact ⟨vA2,_,vF2,h.cell 5 _ rfl,h.cell 6 _ rfl,h.cell 7 _ rfl,h.cell 8 _ rfl,h.cell 9 _ rfl,a2,Perss.none_ w,p2⟩
 | n+2,hs=>cases hs
theorem zCR (w:World) (n:Nat) (hn:w.heap.size=n) :
  Kept w ((((w.alloc (.cells #[.string (bs [97]),.string (bs []),.string (bs [44,32,112,46,32,51]),.bool false] 68)).alloc (.cells #[.int .i64 13,.string (bs []),.string (bs []),.string (bs []),.string (bs []),.slice none 0 0,.slice none 0 0,.slice none 0 0,.slice (some ⟨n,0,none⟩) 1 1,.slice none 0 0] 71)).alloc (.cells #[.int .i64 1,.int .i64 0,.string (bs []),.string (bs []),.string (bs []),.string (bs []),.string (bs []),.slice none 0 0,.slice none 0 0,.slice (some ⟨n+1,0,none⟩) 1 1,.slice none 0 0] 59)).alloc (.cells #[.slice none 0 0,.slice (some ⟨n+1+1,0,none⟩) 1 1] 25)) /\
  Blk ((((w.alloc (.cells #[.string (bs [97]),.string (bs []),.string (bs [44,32,112,46,32,51]),.bool false] 68)).alloc (.cells #[.int .i64 13,.string (bs []),.string (bs []),.string (bs []),.string (bs []),.slice none 0 0,.slice none 0 0,.slice none 0 0,.slice (some ⟨n,0,none⟩) 1 1,.slice none 0 0] 71)).alloc (.cells #[.int .i64 1,.int .i64 0,.string (bs []),.string (bs []),.string (bs []),.string (bs []),.string (bs []),.slice none 0 0,.slice none 0 0,.slice (some ⟨n+1,0,none⟩) 1 1,.slice none 0 0] 59)).alloc (.cells #[.slice none 0 0,.slice (some ⟨n+1+1,0,none⟩) 1 1] 25)) (n+1+1+1) 25 #[.slice none 0 0,.slice (some ⟨n+1+1,0,none⟩) 1 1] /\
  Bls (fun g=>g<((((w.alloc (.cells #[.string (bs [97]),.string (bs []),.string (bs [44,32,112,46,32,51]),.bool false] 68)).alloc (.cells #[.int .i64 13,.string (bs []),.string (bs []),.string (bs []),.string (bs []),.slice none 0 0,.slice none 0 0,.slice none 0 0,.slice (some ⟨n,0,none⟩) 1 1,.slice none 0 0] 71)).alloc (.cells #[.int .i64 1,.int .i64 0,.string (bs []),.string (bs []),.string (bs []),.string (bs []),.string (bs []),.slice none 0 0,.slice none 0 0,.slice (some ⟨n+1,0,none⟩) 1 1,.slice none 0 0] 59)).alloc (.cells #[.slice none 0 0,.slice (some ⟨n+1+1,0,none⟩) 1 1] 25)).heap.size) 2 1 ((((w.alloc (.cells #[.string (bs [97]),.string (bs []),.string (bs [44,32,112,46,32,51]),.bool false] 68)).alloc (.cells #[.int .i64 13,.string (bs []),.string (bs []),.string (bs []),.string (bs []),.slice none 0 0,.slice none 0 0,.slice none 0 0,.slice (some ⟨n,0,none⟩) 1 1,.slice none 0 0] 71)).alloc (.cells #[.int .i64 1,.int .i64 0,.string (bs []),.string (bs []),.string (bs []),.string (bs []),.string (bs []),.slice none 0 0,.slice none 0 0,.slice (some ⟨n+1,0,none⟩) 1 1,.slice none 0 0] 59)).alloc (.cells #[.slice none 0 0,.slice (some ⟨n+1+1,0,none⟩) 1 1] 25)) (.slice (some ⟨n+1+1,0,none⟩) 1 1) [awB]:=by
 have b1:=Blk.new w 68 #[.string (bs [97]),.string (bs []),.string (bs [44,32,112,46,32,51]),.bool false];rw[hn] at b1;obtain ⟨w1,hw1⟩:∃ x,w.alloc (.cells #[.string (bs [97]),.string (bs []),.string (bs [44,32,112,46,32,51]),.bool false] 68)=x:=⟨_,rfl⟩;have k1:Kept w w1:=hw1 ▸ zaA w _;have n1:w1.heap.size=n+1:=(by rw[<- hw1,World.size_alloc,hn]);rw[hw1] at b1 ⊢;have b2:=Blk.new w1 71 #[.int .i64 13,.string (bs []),.string (bs []),.string (bs []),.string (bs []),.slice none 0 0,.slice none 0 0,.slice none 0 0,.slice (some ⟨n,0,none⟩) 1 1,.slice none 0 0];rw[n1] at b2;obtain ⟨w2,hw2⟩:∃ x,w1.alloc (.cells #[.int .i64 13,.string (bs []),.string (bs []),.string (bs []),.string (bs []),.slice none 0 0,.slice none 0 0,.slice none 0 0,.slice (some ⟨n,0,none⟩) 1 1,.slice none 0 0] 71)=x:=⟨_,rfl⟩;have k2:Kept w1 w2:=hw2 ▸ zaA w1 _;have n2:w2.heap.size=n+1+1:=(by rw[<- hw2,World.size_alloc,n1]);rw[hw2] at b2 ⊢;have b3:=Blk.new w2 59 #[.int .i64 1,.int .i64 0,.string (bs []),.string (bs []),.string (bs []),.string (bs []),.string (bs []),.slice none 0 0,.slice none 0 0,.slice (some ⟨n+1,0,none⟩) 1 1,.slice none 0 0];rw[n2] at b3;obtain ⟨w3,hw3⟩:∃ x,w2.alloc (.cells #[.int .i64 1,.int .i64 0,.string (bs []),.string (bs []),.string (bs []),.string (bs []),.string (bs []),.slice none 0 0,.slice none 0 0,.slice (some ⟨n+1,0,none⟩) 1 1,.slice none 0 0] 59)=x:=⟨_,rfl⟩;have k3:Kept w2 w3:=hw3 ▸ zaA w2 _;have n3:w3.heap.size=n+1+1+1:=(by rw[<- hw3,World.size_alloc,n2]);rw[hw3] at b3 ⊢;have b4:=Blk.new w3 25 #[.slice none 0 0,.slice (some ⟨n+1+1,0,none⟩) 1 1];rw[n3] at b4;have k4:Kept w3 (w3.alloc (.cells #[.slice none 0 0,.slice (some ⟨n+1+1,0,none⟩) 1 1] 25)):=zaA w3 _;exact ⟨((k1.trans k2).trans k3).trans k4,b4,zEc (((b1.kept k2).kept k3).kept k4) ((b2.kept k3).kept k4) (b3.kept k4)⟩
theorem ztC (w:World) (hen:EnvC w):Calls Tryz.prog 10 #[] w fun e w'=>e=.returned (.bool true)/\Kept w w':=by
 have HEN:=Hd hen;clear hen;have HSR:=Hd zrS;unfold SrcWP zi0 at HSR;have HFIN:Hid (∀ w',Kept w w'->(Ending.returned (.bool true)=Ending.returned (.bool true))/\Kept w w'):=fun w' h=>⟨rfl,h⟩;have HB1:=Hd (zjV [97,117,116,104,111,114,45,100,97,116,101] w);rw[zCM] at HB1;unfold StyP at HB1;simp only[Option.getD_some,Option.isSome_some] at HB1;have HB2:=Hd (fun w=>zjV [110,117,109,101,114,105,99] w);simp only[zEa] at HB2;unfold StyP at HB2;simp only[Option.getD_some,Option.isSome_some] at HB2;obtain ⟨y1,HY1⟩:∃ y,Hid (zdU=y):=⟨_,rfl⟩;obtain ⟨y2,HY2⟩:∃ y,Hid (zj5=y):=⟨_,rfl⟩;rw[HY1.out] at HB1;simp only[HY2.out] at HB2;unfold zeP zaE at HB1 HB2;have HSU:Hid (∀ v vE w',EnvC w'->Srcs w' v [srA,srB]->Prs w' vE y1.entries->Calls Tryz.prog 18 #[v,zeP vE y1,.string (bs [101,110])] w' (SufPo (0,[[97],[98]]) w')):=fun v vE w' h1 h2 h3=>by
  rw[<- HY1.out] at h3 ⊢;have h:=zmG v vE [srA,srB] zdU kEn w' h1 h2 (by simp) (fun s hs=>by
   simp only[List.mem_cons,List.not_mem_nil,or_false] at hs;rcases hs with rfl|rfl
   ·exact zuI
   ·exact zuJ) h3 zwY (by decide)
  have e:zkC zdU kEn [srA,srB]=(0,[[97],[98]]):=by
   unfold zkC;rw[if_pos zCL,if_neg (by decide),zEb];simp only[List.map_cons,List.map_nil,zo5,zo6]
  rw[e] at h;exact h
 have HFI:Hid (∀ vL vE vB w',EnvC w'->Srcs w' vL [srA,srB]->Prs w' vE y2.entries->Bls (fun g=>g<w'.heap.size) 2 1 w' vB [awB]->Calls Tryz.prog 25 #[.agg #[.slice none 0 0,vB],vL,zeP vE y2,.string (bs [101,110])] w' (FiOne [91,49,44,32,112,46,32,51,93] w')):=fun vL vE vB w' h1 h2 h3 h4=>by
  rw[<- HY2.out] at h3 ⊢;have h:=zCG 1 (.slice none 0 0) vB vL vE [] [srA,srB] srA zj5 kEn [97] [32,112,46,32,51] [] [] [] [] [] [] [] [] [] 0 [] [] [] [] [] [] w' h1 (Prs.none_ w') (by simp) h4 zDh zuK zDi zDj zDk h2 (by simp) (fun s hs=>by
   simp only[List.mem_cons,List.not_mem_nil,or_false] at hs;rcases hs with rfl|rfl
   ·exact zuI
   ·exact zuJ) zEV zCO h3 zAC (by decide) zD9 (by decide) (by simp) (by rw[zEU];simp) (by rw[zDg];decide) (by simp) (by simp)
  rw[zDg] at h;exact h
 have HKY:Hid (∀ vB w',Bls (fun g=>g<w'.heap.size) 2 1 w' vB [awB]->Calls Tryz.prog 12 #[.agg #[.slice none 0 0,vB]] w' (CiKP [[97]] w')):=fun vB w' h=>by
  have h2:=znX 2 1 none 0 0 vB [awB] w' h (by simp) zDh zDi zDj zDk;rw[zuK] at h2;exact h2
 unfold SufPo at HSU;unfold FiOne at HFI;unfold CiKP at HKY;unfold zeP zaE at HSU HFI;go_enter Tryz.func10,Tryz.ntmps10;go_wp2_with fail;refine HB1.out.mono ?_;rintro e w1 ⟨vE1,rfl,hp1,hk1⟩;obtain ⟨aE1,cE1,rfl,lE1⟩:=hp1.form;have HK1:=Hd hk1;have HP1:=Hd hp1;clear hk1 hp1 HB1;go_wp2_with fail;refine (HB2.out _).mono ?_;rintro e w2 ⟨vE2,rfl,hp2,hk2⟩;obtain ⟨aE2,cE2,rfl,lE2⟩:=hp2.form;have HY1B:=Hd ((Blk.new w1 33 #[.string (bs y1.name),.bool y1.numeric,.string (bs y1.sort),.string (bs y1.cite),.string (bs y1.bare),.string (bs y1.between),.string (bs y1.begin_),.string (bs y1.end_),.int .i64 y1.most,.slice aE1 y1.entries.length cE1]).kept hk2);have HP1:=Hd ((HP1.out.kept (zaA w1 _)).kept hk2);have HP2:=Hd hp2;have HK2:=Hd ((HK1.out.trans (zaA w1 _)).trans hk2);generalize w1.heap.size=B1 at *;clear HB2 HK1 hp2 hk2;go_wp2_with fail;refine (HSR.out [97] [78,103] [50,48,48,49] _).mono ?_;rintro e w3 ⟨gA1,gF1,rfl,ha1,hf1,hk3⟩;have HY2B:=Hd ((Blk.new w2 33 #[.string (bs y2.name),.bool y2.numeric,.string (bs y2.sort),.string (bs y2.cite),.string (bs y2.bare),.string (bs y2.between),.string (bs y2.begin_),.string (bs y2.end_),.int .i64 y2.most,.slice aE2 y2.entries.length cE2]).kept hk3);have hk23:=(zaA w2 _).trans hk3;have HK3:=Hd (HK2.out.trans hk23);have HP1:=Hd (HP1.out.kept hk23);have HP2:=Hd (HP2.out.kept hk23);have HY1B:=Hd (HY1B.out.kept hk23);have HA1:=Hd ha1;have HF1:=Hd hf1;generalize w2.heap.size=B2 at *;clear ha1 hf1 hk3 hk23 HK2;go_wp2_with fail;refine (HSR.out [98] [78,103] [50,48,48,49] _).mono ?_;rintro e w4 ⟨gA2,gF2,rfl,ha2,hf2,hk4⟩;have HK4:=Hd (HK3.out.trans hk4);have HP1:=Hd (HP1.out.kept hk4);have HP2:=Hd (HP2.out.kept hk4);have HY1B:=Hd (HY1B.out.kept hk4);have HY2B:=Hd (HY2B.out.kept hk4);have HA1:=Hd (HA1.out.kept hk4);have HF1:=Hd (HF1.out.kept hk4);have HA2:=Hd ha2;have HF2:=Hd hf2;clear ha2 hf2 hk4 HK3 HSR;have hka:=zaA w4 (.cells #[.string (bs [97]),.string (bs zkD),.slice (some ⟨gA1,0,none⟩) 1 1,.slice none 0 0,.slice (some ⟨gF1,0,none⟩) 2 2,.string (bs [98]),.string (bs zkD),.slice (some ⟨gA2,0,none⟩) 1 1,.slice none 0 0,.slice (some ⟨gF2,0,none⟩) 2 2] 50);have hbl:=Blk.new w4 50 #[.string (bs [97]),.string (bs zkD),.slice (some ⟨gA1,0,none⟩) 1 1,.slice none 0 0,.slice (some ⟨gF1,0,none⟩) 2 2,.string (bs [98]),.string (bs zkD),.slice (some ⟨gA2,0,none⟩) 1 1,.slice none 0 0,.slice (some ⟨gF2,0,none⟩) 2 2];have HSS:=Hd (zCQ hbl (HA1.out.kept hka) (HF1.out.kept hka) (HA2.out.kept hka) (HF2.out.kept hka));have HY1C:=Hd (HY1B.out.kept hka);have d0:=HY1C.out.cell 0 _ rfl;have d1:=HY1C.out.cell 1 _ rfl;have d2:=HY1C.out.cell 2 _ rfl;have d3:=HY1C.out.cell 3 _ rfl;have d4:=HY1C.out.cell 4 _ rfl;have d5:=HY1C.out.cell 5 _ rfl;have d6:=HY1C.out.cell 6 _ rfl;have d7:=HY1C.out.cell 7 _ rfl;have d8:=HY1C.out.cell 8 _ rfl;have d9:=HY1C.out.cell 9 _ rfl;have HKA:=Hd hka;clear hka hbl HA1 HF1 HA2 HF2;go_wp2_with fail;refine (HSU.out _ _ _ (HEN.out.kept (HK4.out.trans HKA.out)) HSS.out (HP1.out.kept HKA.out)).mono ?_;rintro e w5 ⟨vS,rfl,hs5,hk5⟩;obtain ⟨aS,cS,rfl,lS⟩:=hs5.form;have hk45:=HKA.out.trans hk5;have HK5:=Hd (HK4.out.trans hk45);have HP2:=Hd (HP2.out.kept hk45);have HY2B:=Hd (HY2B.out.kept hk45);have HSS:=Hd (HSS.out.kept hk5);have HST:=Hd hs5;generalize w4.heap.size=L at *;clear HSU HP1 HY1B HY1C HKA HK4 hs5 hk5 hk45 d0 d1 d2 d3 d4 d5 d6 d7 d8 d9;obtain ⟨hkd,hdb,hdl⟩:=zCR w5 _ rfl;have HKD:=Hd hkd;have HDB:=Hd hdb;have HDL:=Hd hdl;have HY2C:=Hd (HY2B.out.kept hkd);have d0:=HY2C.out.cell 0 _ rfl;have d1:=HY2C.out.cell 1 _ rfl;have d2:=HY2C.out.cell 2 _ rfl;have d3:=HY2C.out.cell 3 _ rfl;have d4:=HY2C.out.cell 4 _ rfl;have d5:=HY2C.out.cell 5 _ rfl;have d6:=HY2C.out.cell 6 _ rfl;have d7:=HY2C.out.cell 7 _ rfl;have d8:=HY2C.out.cell 8 _ rfl;have d9:=HY2C.out.cell 9 _ rfl;clear hkd hdb hdl;go_wp2_with fail;refine (HFI.out _ _ _ _ (HEN.out.kept (HK5.out.trans HKD.out)) (HSS.out.kept HKD.out) (HP2.out.kept HKD.out) HDL.out).mono ?_;rintro e w6 ⟨aM6,nM6,cM6,vB6,b6,rfl,hb6,hln6,hk6⟩;obtain ⟨aB6,cB6,hvb6,lB6⟩:=hb6.form;have hvb6':vB6=.slice aB6 1 cB6:=hvb6;subst hvb6';have HB6:=Hd hb6;have hk56:=HKD.out.trans hk6;have HK6:=Hd (HK5.out.trans hk56);have HST:=Hd (HST.out.kept hk56);have HDB:=Hd (HDB.out.kept hk6);have HDL:=Hd ((HDL.out.kept hk6).mono (fun g _ q=>Nat.lt_of_lt_of_le q hk6.size));have HLN6:=Hd hln6;generalize w5.heap.size=D at *;have hka:=zaA w6 (.cells #[.slice aM6 nM6 cM6,.slice aB6 1 cB6] 25);have hdc:=HDB.out.kept hka;have d0:=hdc.cell 0 _ rfl;have d1:=hdc.cell 1 _ rfl;have HKA:=Hd hka;clear hdc hka hk6 hk56 hb6 hln6 HK5 HKD HSS HP2 HY2B HFI hvb6 d2 d3 d4 d5 d6 d7 d8 d9;go_wp2_with fail;refine (HKY.out _ _ ((HDL.out.kept HKA.out).mono (fun g _ q=>Nat.lt_of_lt_of_le q HKA.out.size))).mono ?_;rintro e w7 ⟨vK7,rfl,hs7,hk7⟩;obtain ⟨aK7,cK7,hvk7,hlK,hcK⟩:=hs7;have hlK':1<=cK7:=hlK;have hvk7':vK7=.slice aK7 1 cK7:=hvk7;subst hvk7';obtain ⟨gK,oK,rfl,hgK,hcK⟩:=hcK (by simp);have HSK:Hid (Strs w7 (.slice (some ⟨gK,oK,none⟩) 1 cK7) [[97]]):=⟨_,cK7,rfl,by omega,fun _=>⟨gK,oK,rfl,hgK,hcK⟩⟩;have hk67:=HKA.out.trans hk7;obtain ⟨aS',cS',hvS,-,hcS⟩:=HST.out.kept hk67;obtain ⟨rfl,-,rfl⟩:=Value.slice.inj hvS;obtain ⟨gS,oS,rfl,-,hcS⟩:=hcS (by simp);have ss0:=hcS 0 _ rfl;rw[Nat.add_zero] at ss0;have ss1:=hcS 1 _ rfl;have hb7:=HB6.out.kept hk67;obtain ⟨g6,o6,vC6,vP6,vL6,vK6,rfl,-,-,-,-,-,hc6,-,-,hL6,-⟩:=Bls.at_ hb7 0 b6 rfl;obtain ⟨aL6,cL6,rfl,lL6⟩:=hL6.form;have hd7:=(Blk.new w6 25 #[.slice aM6 nM6 cM6,.slice (some ⟨g6,o6,none⟩) 1 cB6]).kept hk7;have HPLN:Hid (∀ w',Kept w7 w'->Calls Tryz.prog 30 #[.slice aL6 b6.line.length cL6] w' fun e w''=>e=.returned (.string (bs [91,49,44,32,112,46,32,51,93]))/\Kept w' w''):=fun w' k=>by
  have h:=ztB 2 b6.line (.slice aL6 b6.line.length cL6) w' (hL6.kept k) (by have:=HLN6.out.2.1;omega) (fun x hx=>by
   have e:=HLN6.out.2.2 x hx;rw[e];exact ⟨by simp,fun y hy=>absurd hy (by simp)⟩) (by rw[HLN6.out.1];decide)
  rw[HLN6.out.1] at h;exact h
 have HL7:=Hd hL6;have HK7:=Hd (HK6.out.trans hk67);have dd0:=hd7.cell 0 _ rfl;have dd1:=hd7.cell 1 _ rfl;have bb9:=hc6 9 _ rfl;rw[Nat.zero_mul,Nat.add_zero] at bb9;clear hcK hcS hb7 hc6 hL6 hd7 hvS hvk7 d0 d1 HST HB6 HDB HDL HK6 HKY;generalize w6.heap.size=B9 at *;clear hk67 hk7 HKA hgK hlK hlK';go_wp2_with fail;refine (HPLN.out _ (Kept.refl _)).mono ?_;rintro e w8 ⟨rfl,hk8⟩;have kk0:w8.cell? ⟨gK,oK,none⟩=some (.string (bs [97])):=by
  obtain ⟨a,c,hv,-,hcK⟩:=HSK.out.kept hk8;obtain ⟨rfl,-,rfl⟩:=Value.slice.inj hv;obtain ⟨g,o,hgo,-,hcK⟩:=hcK (by simp);cases hgo;have h:=hcK 0 _ rfl
  rwa [Nat.add_zero] at h
 have HF8:=Hd (HFIN.out w8 (HK7.out.trans hk8));clear ss0 ss1 dd0 dd1 bb9 HPLN HSK HK7 hk8 HL7;go_wp2_with fail;refine bodyPost_ret (v:=.bool true) ?_ rfl ⟨rfl,HF8.out.2⟩;simp [results,Tryz.results10,go_sem]
def nB (l:Bs):Nat:=l.countP (· == 123)
def zCS:Bs:=[123,110,117,109,98,101,114,125]
def mB:Bs->Nat
 | []=>0
 | b :: r=>mB r+if (b :: r).take 8=zCS then 1 else 0
theorem zjF {b:UInt8} {r:Bs} (h:b≠123):mB (b :: r)=mB r:=by
 rw[mB,if_neg,Nat.add_zero];intro q;unfold zCS at q;rw[List.take_succ_cons] at q;exact h (List.cons.inj q).1
theorem zgW {b:UInt8} {r:Bs} (h:b≠123):nB (b :: r)=nB r:=by
 unfold nB;rw[List.countP_cons_of_neg];simpa using h
theorem zAD {r:Bs}:nB (123 :: r)=nB r+1:=by
 unfold nB;rw[List.countP_cons_of_pos];simp
theorem zuL:∀ (a b:Bs),(∀ x∈a,x≠123)->mB (a ++ b)=mB b
 | [],_,_=>rfl
 | x :: a,b,h=>by
  rw[List.cons_append,zjF (h x (List.mem_cons_self ..)),zuL a b (fun y hy=>h y (List.mem_cons_of_mem _ hy))]
theorem zuM:∀ (a b:Bs),(∀ x∈a,x≠123)->nB (a ++ b)=nB b
 | [],_,_=>rfl
 | x :: a,b,h=>by
  rw[List.cons_append,zgW (h x (List.mem_cons_self ..)),zuM a b (fun y hy=>h y (List.mem_cons_of_mem _ hy))]
theorem zCT:∀ (l:Bs),∀ x∈l.take (ziW l),x≠123
 | [],x,h=>by simp at h
 | b :: r,x,h=>by
  intro q;subst q;have key:∀ l:Bs,(123:UInt8)∈l.take (ziW l)->False:=by
   intro l
   induction l with
   | nil=>intro h;simp at h
   | cons b r ih =>
    intro h;by_cases hb:za9 zbY b=true
    ·have h0:ziW (b :: r)=0:=(by unfold ziW;rw[zlI hb];rfl);rw[h0] at h;simp at h
    ·have hb':za9 zbY b=false:=(by simpa using hb);have hr:ziW (b :: r)=ziW r+1:=by
      unfold za9 at hb';unfold ziW;rw[Lib.indexAny,hb'];have hge:=Lib.indexAny_ge zbY r;simp only[Bool.false_eq_true,if_false];by_cases q:Lib.indexAny r zbY = -1
      ·rw[q];simp
      ·have h1:(Lib.indexAny r zbY == -1)=false:=(by simpa using q);rw[h1];simp only[Bool.false_eq_true,if_false];rw[if_neg (by omega),if_neg (by omega)];omega
     rw[hr,List.take_succ_cons] at h;rcases List.mem_cons.1 h with e|h
     ·rw[<- e] at hb';exact absurd hb' (by decide)
     ·exact ih h
  exact key _ h
theorem zwZ {l:Bs} (h:za6 l 20 []=true):∀ x∈l,x≠123/\x≠125:=by
 intro x hx;unfold za6 at h;rw[Bool.and_eq_true,Bool.and_eq_true,List.all_eq_true] at h;have h1:=h.2.2 x hx;constructor
 ·intro q;subst q;exact absurd h1 (by decide)
 ·intro q;subst q;exact absurd h1 (by decide)
theorem znZ {c:UInt8}:∀ (l:Bs),zaI c l<l.length->l=l.take (zaI c l) ++ c :: l.drop (zaI c l+1)
 | [],h=>by simp [zaI] at h
 | b :: r,h=>by
  by_cases q:b=c
  ·subst q;have e:zaI b (b :: r)=0:=(by unfold zaI;simp);rw[e];simp
  ·have e:zaI c (b :: r)=zaI c r+1:=(by unfold zaI;simp [q]);rw[e] at h ⊢;simp only[List.length_cons] at h;rw[List.take_succ_cons,List.drop_succ_cons,List.cons_append];exact congrArg (List.cons b) (znZ r (by omega))
def isF (p:Pc):Bool:=p.fld
def isN (p:Pc):Bool:=p.fld && decide (p.txt=zaZ)
theorem zmH:∀ (f:Nat) (r:Bs) (gs g:Nat) (ps:List Pc),zg2 f r gs g=some ps->nB r=ps.countP isF/\mB r=ps.countP isN
 | 0,_,_,_,_,h=>by cases h
 | f+1,[],gs,g,ps,h=>by
  rw[zdF] at h
  split at h
  ·cases h;exact ⟨rfl,rfl⟩
  ·cases h
 | f+1,b :: r,gs,g,ps,h=>by
  cases hin:za9 zbY b with
  | false =>
   rw[zeF _ _ _ hin,Option.map_eq_some_iff] at h;obtain ⟨l',h1,rfl⟩:=h;obtain ⟨i1,i2⟩:=zmH f _ gs g l' h1;have hf:=zCT (b :: r);have e:=List.take_append_drop (ziW (b :: r)) (b :: r);refine ⟨?_,?_⟩
   ·rw[<- e,zuM _ _ hf,i1,List.countP_cons_of_neg (by simp [isF])]
   ·rw[<- e,zuL _ _ hf,i2,List.countP_cons_of_neg (by simp [isN])]
  | true =>
   rcases zcI hin with rfl|rfl|rfl|rfl
   ·rw[zfN] at h
    split at h
    ·rename_i q;obtain ⟨q1,q2⟩:=q;rw[Option.map_eq_some_iff] at h;obtain ⟨l',h1,rfl⟩:=h;obtain ⟨i1,i2⟩:=zmH f _ gs g l' h1;have hs:=zwZ q2;have e:=znZ r q1;obtain ⟨nm,hnm⟩:∃ nm,r.take (zaI 125 r)=nm:=⟨_,rfl⟩;obtain ⟨tl,htl⟩:∃ tl,r.drop (zaI 125 r+1)=tl:=⟨_,rfl⟩;rw[hnm] at e hs q2 ⊢;rw[htl] at e i1 i2;have e2:r=nm ++ ([125] ++ tl):=(by rw[e];simp);have hf:∀ x∈nm,x≠123:=fun x hx=>(hs x hx).1;have hf2:∀ x∈([125]:Bs),x≠123:=(by decide);refine ⟨?_,?_⟩
     ·rw[zAD,e2,zuM _ _ hf,zuM _ _ hf2,i1,List.countP_cons_of_pos (by simp [isF])]
     ·rw[mB,e2,zuL _ _ hf,zuL _ _ hf2,i2,List.countP_cons];congr 1;have hd:(((123:UInt8) :: (nm ++ ([125] ++ tl))).take 8=zCS)↔nm=zaZ:=by
       constructor
       ·intro q;unfold zCS at q;rw[List.take_succ_cons] at q;have q':=(List.cons.inj q).2;have hb:zaI 125 (nm ++ ([125] ++ tl))=nm.length:=by
         rw[<- e2,<- hnm,List.length_take];have:=zxL 125 r;omega
        have hlen:nm.length=6:=by
         have h7:zaI 125 ((nm ++ ([125] ++ tl)).take 7)=6:=(by rw[q'];decide);by_cases h6:nm.length<=6
         ·by_cases h5:nm.length=6
          ·exact h5
          ·exfalso;have:(nm ++ ([125] ++ tl)).take 7=nm ++ ([125] ++ tl).take (7 - nm.length):=(by rw[List.take_append,List.take_of_length_le (by omega)]);rw[this] at h7;have h8:∀ (a b:Bs),(∀ x∈a,x≠125)->zaI 125 (a ++ 125 :: b)=a.length:=by
            intro a
            induction a with
            | nil=>intro b _;simp [zaI]
            | cons y a ih =>
             intro b ha;have hy:=ha y (List.mem_cons_self ..);have:=ih b (fun z hz=>ha z (List.mem_cons_of_mem _ hz));unfold zaI at this ⊢;rw[List.cons_append,List.takeWhile_cons_of_pos (by simpa using hy),List.length_cons,this,List.length_cons]
           have h9:([125] ++ tl).take (7 - nm.length)=125 :: tl.take (6 - nm.length):=by
            rw[show 7 - nm.length=(6 - nm.length)+1 from by omega];rfl
           rw[h9,h8 nm _ (fun x hx=>(hs x hx).2)] at h7;exact h5 h7
         ·exfalso;have h7':(125:UInt8)∈(nm ++ ([125] ++ tl)).take 7:=(by rw[q'];decide);rw[List.take_append_of_le_length (by omega)] at h7';exact (hs 125 (List.mem_of_mem_take h7')).2 rfl
        have:(nm ++ ([125] ++ tl)).take 6=zaZ:=by
         have:(nm ++ ([125] ++ tl)).take 6=((nm ++ ([125] ++ tl)).take 7).take 6:=(by rw[List.take_take];rfl);rw[this,q'];rfl
        rw[<- hlen,List.take_left] at this;exact this
       ·intro q;rw[q];rfl
      by_cases hq:nm=zaZ
      ·rw[if_pos (hd.2 hq)];simp [isN,hq]
      ·rw[if_neg (fun x=>hq (hd.1 x))];simp [isN,hq]
    ·cases h
   ·rw[zfO] at h;cases h
   ·rw[zd8] at h
    split at h
    ·obtain ⟨i1,i2⟩:=zmH f _ _ _ ps h;exact ⟨by rw[zgW (by decide)];exact i1,by rw[zjF (by decide)];exact i2⟩
    ·cases h
   ·rw[zd9] at h
    split at h
    ·cases h
    ·obtain ⟨i1,i2⟩:=zmH f _ _ _ ps h;exact ⟨by rw[zgW (by decide)];exact i1,by rw[zjF (by decide)];exact i2⟩
theorem zuN {t:Bs} (h:zcU t=0):nB t=(zeC t).countP isF/\mB t=(zeC t).countP isN:=by
 have hs:(zj2 t).isSome=true:=by
  unfold zcU at h
  split at h
  ·cases h
  ·split at h
   ·assumption
   ·cases h
 obtain ⟨ps,hp⟩:=Option.isSome_iff_exists.1 hs;have:zeC t=ps:=(by unfold zeC;rw[if_pos h,hp];rfl);rw[this];exact zmH _ _ _ _ ps hp
theorem zw0 {t:Bs} (h:zcU t=0) (hn:nB t=mB t):∀ p∈zeC t,p.fld=true->p.txt=zaZ:=by
 obtain ⟨h1,h2⟩:=zuN h;rw[h1,h2] at hn;intro p hp hf;have key:∀ l:List Pc,l.countP isF=l.countP isN->∀ p∈l,isF p=true->isN p=true:=by
  intro l
  induction l with
  | nil=>intro _ p hp;cases hp
  | cons x l ih =>
   intro e p hp hf;have hle:l.countP isN<=l.countP isF:=List.countP_mono_left (fun y _ hy=>by unfold isN at hy;rw[Bool.and_eq_true] at hy;exact hy.1);rw[List.countP_cons,List.countP_cons] at e;have hx:isF x=true->isN x=true:=by
    intro q;rw[q] at e;by_cases r:isN x=true
    ·exact r
    ·rw[if_pos rfl,if_neg r] at e;omega
   have e2:l.countP isF=l.countP isN:=by
    by_cases q:isF x=true
    ·rw[if_pos q,if_pos (hx q)] at e;omega
    ·have:¬ isN x=true:=fun r=>q (by unfold isN at r;rw[Bool.and_eq_true] at r;exact r.1);rw[if_neg q,if_neg this] at e;omega
   rcases List.mem_cons.1 hp with rfl|hp
   ·exact hx hf
   ·exact ih e2 p hp hf
 have:=key _ hn p hp hf;unfold isN at this;rw[Bool.and_eq_true,decide_eq_true_eq] at this;exact this.2
theorem zAE {t:Bs} (h:zcU t=0) (hm:mB t=0):∀ p∈zeC t,p.fld=true->p.txt≠zaZ:=by
 obtain ⟨-,h2⟩:=zuN h;rw[hm] at h2;intro p hp hf q;have:=List.countP_eq_zero.1 h2.symm p hp;unfold isN at this;rw[hf,q] at this;exact this rfl
theorem zCU (c:FilT) (n:Int) (k:Bs) (h:k≠zaZ):znK { c with number:=n } k=znK c k:=by
 have hk:(zaZ == k)=false:=(by rw[beq_eq_false_iff_ne];exact fun e=>h e.symm);unfold znK zgY zlS zi6;simp only[List.find?_cons,hk]
theorem zAF (c:FilT):znK c zaZ=zAU c:=by unfold znK zgY;rfl
theorem zmI {ps:List Pc} {v1 v2:Bs->Bs} (h:∀ p∈ps,p.fld=true->v1 p.txt=v2 p.txt):zoL ps v1=zoL ps v2:=by
 have hd:zcD ps v1=zcD ps v2:=by
  unfold zcD;congr 1;refine List.filter_congr fun p hp=>?_;cases hf:p.fld with
  | false=>rfl
  | true=>rw[h p hp hf]
 unfold zoL;rw[hd];have key:∀ l:List Pc,(∀ p∈l,p∈ps)->l.flatMap (zgX v1 (zcD ps v2))=l.flatMap (zgX v2 (zcD ps v2)):=by
  intro l
  induction l with
  | nil=>intro _;rfl
  | cons p l ih =>
   intro hl;rw[List.flatMap_cons,List.flatMap_cons,ih (fun q hq=>hl q (List.mem_cons_of_mem _ hq))];congr 1;unfold zgX
   split
   ·rfl
   ·split
    ·rename_i q;exact h p (hl p (List.mem_cons_self ..)) q
    ·rfl
 exact key ps (fun _ h=>h)
theorem zAG {y:StyT} (hy:zdP y=0) (hm:mB y.cite=0) (s:SrcT) (lang suf:Bs) (n:Int):zcR (zg7 s y lang suf n) y.cite=zrN s y lang suf:=by
 unfold zrN zcR;exact zmI (fun p hp hf=>by
  have h:=zAE (zgJ hy).1 hm p hp hf;exact (zCU (zg7 s y lang suf 0) n p.txt h))
theorem zCV:∀ n:Nat,n<20->Lib.itoa (n:Int)≠[]:=by decide +kernel
theorem zw1:∀ m:Nat,m<20->∀ n:Nat,n<20->Lib.itoa (m:Int)=Lib.itoa (n:Int)->m=n:=by decide +kernel
theorem zEd {y:StyT} (hy:zdP y=0) (hnum:y.numeric=true) (hnm:nB y.cite=mB y.cite) (s s':SrcT) (lang:Bs) (n n':Nat) (h1:1<=n/\n<20) (h2:1<=n'/\n'<20) (h:zcR (zg7 s y lang [] (n:Int)) y.cite=zcR (zg7 s' y lang [] (n':Int)) y.cite):n=n':=by
 have hall:=zw0 (zgJ hy).1 hnm;have hfr:=(zgJ hy).2;rw[hnum,if_pos rfl] at hfr;have key:∀ (s:SrcT) (n:Nat),1<=n/\n<20->zcR (zg7 s y lang [] (n:Int)) y.cite=zeG (Lib.itoa n) (zDe (zeC y.cite) (fun _=>[0]) zaZ):=by
  intro s n hn;have e:zcR (zg7 s y lang [] (n:Int)) y.cite=zoL (zeC y.cite) (fun k=>if k=zaZ then Lib.itoa n else [0]):=zmI (fun p hp hf=>by
   rw[hall p hp hf,zAF,if_pos rfl];show (if (n:Int)<1 then [] else Lib.itoa n)=_;rw[if_neg (by omega)])
  rw[e];exact zrL _ _ _ _ _ (zCV n hn.2) (by simp) (if_pos rfl) (fun k hk=>if_neg hk)
 rw[key s n h1,key s' n' h2] at h;exact zw1 n h1.2 n' h2.2 (zAb (zrM _ _ _ (by simp) hfr) h)
end Go.Proofs.YtmcoomlkbgiboaaGreatDoor
