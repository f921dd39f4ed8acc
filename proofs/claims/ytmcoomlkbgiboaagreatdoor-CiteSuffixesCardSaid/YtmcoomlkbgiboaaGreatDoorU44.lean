/- The page's examples of styles, in plain Lean. No condition. -/
import Derived.Test.YtmcoomlkbgiboaaGreatDoorU22
import Derived.Test.YtmcoomlkbgiboaaGreatDoorU16
import Derived.Test.YtmcoomlkbgiboaaGreatDoorU36
import Derived.Test.YtmcoomlkbgiboaaGreatDoorU19
import Derived.Test.YtmcoomlkbgiboaaGreatDoorU38
import Derived.Test.YtmcoomlkbgiboaaGreatDoorU42
import Derived.Test.YtmcoomlkbgiboaaGreatDoorU12
import Derived.Test.YtmcoomlkbgiboaaGreatDoorU43
import Derived.Test.YtmcoomlkbgiboaaGreatDoorU29
import Derived.Test.YtmcoomlkbgiboaaGreatDoorU37
import Derived.Test.YtmcoomlkbgiboaaGreatDoorU35
import Derived.Test.YtmcoomlkbgiboaaGreatDoorU25
import Derived.Test.YtmcoomlkbgiboaaGreatDoorU33
set_option linter.all false
set_option maxRecDepth 100000
set_option maxHeartbeats 12800000
namespace Go.Proofs.YtmcoomlkbgiboaaGreatDoor
open Go.RowKit
def zE9 (l:Bs):Bool:=l.all fun b=>decide (32<=(b.toNat:Int)) && decide ((b.toNat:Int)<127)
theorem zhV {l:Bs} (h:zE9 l=true):lnB l=true:=by
 have:zhJ l=true:=zBh l (fun b hb=>by
  unfold zE9 at h;rw[List.all_eq_true] at h;have:=h b hb;simpa using this)
 exact this
theorem zCz {t:Bs} (h:zE9 t=true):zcW t=if (zkM t).isSome=true then 0 else 5:=by
 unfold zcW;rw[zhV h];rfl
theorem zdN {t:Bs} (h:zE9 t=true) (hs:(zkM t).isSome=true):zcW t=0:=by rw[zCz h,hs];rfl
theorem zkY {t:Bs} (h:zcW t=0):zeK t=(zkM t).getD []:=by unfold zeK;rw[if_pos h]
theorem zD7:zqU zsU=0:=by
 unfold zqU zsU;rw[ze6,if_neg (by decide +kernel),if_neg (by decide +kernel),zdN (by decide +kernel) (by decide +kernel),if_neg (by decide),ze6,if_neg (by decide +kernel),if_neg (by decide +kernel),zdN (by decide +kernel) (by decide +kernel),if_neg (by decide),zkQ,if_pos (by decide +kernel)]
theorem zCA:zqU zlR=0:=by
 unfold zqU zlR;rw[ze6,if_neg (by decide +kernel),if_neg (by decide +kernel),zdN (by decide +kernel) (by decide +kernel),if_neg (by decide),ze6,if_neg (by decide +kernel),if_neg (by decide +kernel),zdN (by decide +kernel) (by decide +kernel),if_neg (by decide),zkQ,if_pos (by decide +kernel)]
theorem zD8:znL zkB=0:=by
 have h1:zcW zkB.cite=0:=zdN (by decide +kernel) (by decide +kernel);have h2:zcW zkB.bare=0:=zdN (by decide +kernel) (by decide +kernel);unfold znL;rw[h1,if_neg (by decide),zkY h1,h2,if_neg (by decide +kernel)]
theorem zCB:znL zd0=0:=by
 have h1:zcW zd0.cite=0:=zdN (by decide +kernel) (by decide +kernel);have h2:zcW zd0.bare=0:=zdN (by decide +kernel) (by decide +kernel);unfold znL;rw[h1,if_neg (by decide),zkY h1,h2,if_neg (by decide +kernel)]
theorem zCC:zm2 zd0.sort=0:=by decide +kernel
theorem zD9:zdZ zkB=0:=by
 unfold zdZ;have h1:lnB zkB.between=true:=zhV (by decide +kernel);have h2:lnB zkB.begin_=true:=zhV (by decide +kernel);have h3:lnB zkB.end_=true:=zhV (by decide +kernel);have h4:zqU zkB.entries=0:=zD7;rw[if_neg (by decide),if_neg (by decide +kernel),if_neg (by decide),zD8,if_neg (by decide),h1,h2,h3,if_neg (by decide),if_neg (by decide),h4]
theorem zCD:zdZ zd0=0:=by
 unfold zdZ;have h1:lnB zd0.between=true:=zhV (by decide +kernel);have h2:lnB zd0.begin_=true:=zhV (by decide +kernel);have h3:lnB zd0.end_=true:=zhV (by decide +kernel);have h4:zqU zd0.entries=0:=zCA;rw[if_neg (by decide),if_neg (by decide +kernel),zCC,if_neg (by decide),zCB,if_neg (by decide),h1,h2,h3,if_neg (by decide),if_neg (by decide),h4]
theorem zEa:zyS [110,117,109,101,114,105,99]=some zkB:=by
 unfold zyS;rw[if_neg (by decide),if_pos (by rfl)]
theorem zCE:zyS [97,117,116,104,111,114,45,100,97,116,101]=some zd0:=by
 unfold zyS;rw[if_pos (by rfl)]
def zkG:Bs:=[98,111,111,107]
def zFa (key fam yr:Bs):SrcT:=⟨key,zkG,[(fam,[],[],[])],[],[([116,105,116,108,101],[84]),([121,101,97,114],yr)]⟩
def kEn:Bs:=[101,110]
def srA:SrcT:=zFa [97] [78,103] [50,48,48,49]
def srB:SrcT:=zFa [98] [78,103] [50,48,48,49]
theorem zCF:zeK zd0.cite=(zkM zd0.cite).getD []:=zkY (zdN (by decide +kernel) (by decide +kernel))
theorem zAF:zeK zkB.cite=(zkM zkB.cite).getD []:=zkY (zdN (by decide +kernel) (by decide +kernel))
theorem zEb:zCa ([srA,srB].map (zn5 zd0 kEn))=[1,2]:=by
 unfold zn5 zhG zdD;rw[zCF];decide +kernel
theorem zC3:ctB zkB kEn srA 1 [44,32,112,46,32,51]=[91,49,44,32,112,46,32,51,93]:=by
 unfold ctB zdD;rw[zAF];decide +kernel
theorem zES:zdD (zkX srA zkB kEn [] 1) zkB.cite=[49]:=by
 unfold zdD;rw[zAF];decide +kernel
theorem zET:zqJ [srA,srB]=0:=by decide +kernel
theorem zCG:zr2 [srA,srB] [97]=some srA:=by decide +kernel
theorem zuH:FitL srA:=by unfold FitL;decide +kernel
theorem zuI:FitL srB:=by unfold FitL;decide +kernel
def SrcWP (key fam yr:Bs) (w:World) (e:Ending) (w':World):Prop:=∃ g1 g2:Nat,e=.returned (zhB key zkG (.slice (some ⟨g1,0,none⟩) 1 1) (.slice none 0 0) (.slice (some ⟨g2,0,none⟩) 2 2))/\Perss w' (.slice (some ⟨g1,0,none⟩) 1 1) [(fam,[],[],[])]/\Prs w' (.slice (some ⟨g2,0,none⟩) 2 2) [([116,105,116,108,101],[84]),([121,101,97,114],yr)]/\Kept w w'
theorem zCH (w:World) (fam:Bs):Perss (w.alloc (.cells #[.string (bs fam),.string (bs []),.string (bs []),.string (bs [])] 77)) (.slice (some ⟨w.heap.size,0,none⟩) 1 1) [(fam,[],[],[])]:=by
 have hb:=Blk.new w 77 #[.string (bs fam),.string (bs []),.string (bs []),.string (bs [])];refine ⟨_,_,rfl,Nat.le_refl _,fun _=>⟨_,0,rfl,hb.lt,fun j q hq=>?_⟩⟩;cases j with
 | zero=>cases hq;exact ⟨hb.cell 0 _ rfl,hb.cell 1 _ rfl,hb.cell 2 _ rfl,hb.cell 3 _ rfl⟩
 | succ j=>simp at hq
theorem zr3 (key fam yr:Bs) (w:World):Calls Tryz.prog 29 #[.string (bs key),.string (bs fam),.string (bs yr)] w (SrcWP key fam yr w):=by
 have hk:∀ (w0:World) (n:Nat),w0.heap.size=n->Kept w w0->SrcWP key fam yr w (.returned (zhB key zkG (.slice (some ⟨n,0,none⟩) 1 1) (.slice none 0 0) (.slice (some ⟨n+1,0,none⟩) 2 2))) ((w0.alloc (.cells #[.string (bs fam),.string (bs []),.string (bs []),.string (bs [])] 77)).alloc (.cells #[.string (bs [116,105,116,108,101]),.string (bs [84]),.string (bs [121,101,97,114]),.string (bs yr)] 62)):=by
  intro w0 n hn hk;have b1:=(zCH w0 fam).kept (zaA _ (.cells #[.string (bs [116,105,116,108,101]),.string (bs [84]),.string (bs [121,101,97,114]),.string (bs yr)] 62));have b2:=zsV (w0.alloc (.cells #[.string (bs fam),.string (bs []),.string (bs []),.string (bs [])] 77)) ([116,105,116,108,101],[84]) ([121,101,97,114],yr);rw[hn] at b1;rw[World.size_alloc,hn] at b2;exact ⟨n,n+1,rfl,b1,b2,(hk.trans (zaA _ _)).trans (zaA _ _)⟩
 have HK:=Hd hk;clear hk;have e0:(w.alloc (.cells #[.string (bs key),.string (bs zkG),.slice (some ⟨w.heap.size+1,0,none⟩) 1 1,.slice none 0 0,.slice (some ⟨w.heap.size+1+1,0,none⟩) 2 2] 50)).heap.size=w.heap.size+1:=(by simp);have HE0:=Hd e0;clear e0;go_enter Tryz.func29,Tryz.ntmps29;go_wp2_with fail;refine bodyPost_ret (v:=zhB key zkG (.slice (some ⟨w.heap.size+1,0,none⟩) 1 1) (.slice none 0 0) (.slice (some ⟨w.heap.size+1+1,0,none⟩) 2 2)) ?_ rfl (HK.out _ (w.heap.size+1) HE0.out (zaA w _));simp [results,Tryz.results29,go_sem,zhB,zkG]
theorem zwV:SmallY zd0:=by
 refine ⟨by decide,by decide,by decide,by decide,by decide,by decide,by decide,by decide,fun p hp=>?_⟩;have h:p∈zlR:=hp;simp only[zlR,List.mem_cons,List.not_mem_nil,or_false] at h;rcases h with rfl|rfl <;> exact ⟨by decide,by decide⟩
theorem zAG:SmallY zkB:=by
 refine ⟨by decide,by decide,by decide,by decide,by decide,by decide,by decide,by decide,fun p hp=>?_⟩;have h:p∈zsU:=hp;simp only[zsU,List.mem_cons,List.not_mem_nil,or_false] at h;rcases h with rfl|rfl <;> exact ⟨by decide,by decide⟩
def awI:Inl:=.mk 13 [] [] [] [] [] [] [] [⟨[97],[],[44,32,112,46,32,51],false⟩] []
def awB:Blo:=.mk 1 0 [] [] [] [] [] [] [] [awI] []
theorem zuJ:zAB [awB]=[[97]]:=by decide +kernel
theorem zC4:zCm [awB]:=by
 refine ⟨⟨?_,⟨⟨?_,trivial⟩,trivial⟩,trivial⟩,trivial⟩
 all_goals decide
theorem zpN:zbW [awB]=[awI]:=rfl
theorem zC5:(zbW [awB]).length<=1000000:=by rw[zpN];simp
theorem zC6:∀ x∈zbW [awB],x.cits.length<=1000000:=fun x hx=>by
 rw[zpN] at hx;rcases List.mem_singleton.1 hx with rfl;show ([⟨[97],[],[44,32,112,46,32,51],false⟩]:List Cit).length<=_;simp
theorem zC7:((zbW [awB]).flatMap zcL).length<=1000000:=by rw[zpN];decide +kernel
theorem zpO {α:Type} {S:Nat->Prop} {k:Nat} {R:List Value->α->Prop} {w:World} {g:Nat} {t:TypeId} {cs:List Value} {x:α} (h:Blk w g t cs.toArray) (hk:cs.length=k) (hS:S g) (hR:R cs x):RowR S k R w (.slice (some ⟨g,0,none⟩) 1 1) [x]:=by
 refine ⟨_,1,rfl,Nat.le_refl _,fun _=>⟨g,0,rfl,h.lt,hS,fun j y hy=>?_⟩⟩;cases j with
 | zero =>
  cases hy;refine ⟨cs,hk,fun i u hu=>?_,hR⟩;have e:=h.cell i u (by rw[List.getElem?_toArray];exact hu)
  rwa [show (0:Nat)+0 * k+i=i from by omega]
 | succ j=>simp at hy
theorem zEc {w:World} {C I B:Nat} (hc:Blk w C 68 #[.string (bs [97]),.string (bs []),.string (bs [44,32,112,46,32,51]),.bool false])
  (hi:Blk w I 71 #[.int .i64 13,.string (bs []),.string (bs []),.string (bs []),.string (bs []),.slice none 0 0,.slice none 0 0,.slice none 0 0,.slice (some ⟨C,0,none⟩) 1 1,.slice none 0 0])
  (hb:Blk w B 59 #[.int .i64 1,.int .i64 0,.string (bs []),.string (bs []),.string (bs []),.string (bs []),.string (bs []),.slice none 0 0,.slice none 0 0,.slice (some ⟨I,0,none⟩) 1 1,.slice none 0 0]) :
  Bls (fun g=>g<w.heap.size) 2 1 w (.slice (some ⟨B,0,none⟩) 1 1) [awB]:=by
 have h1:Cits (fun g=>g<w.heap.size) w (.slice (some ⟨C,0,none⟩) 1 1) [⟨[97],[],[44,32,112,46,32,51],false⟩]:=zpO (cs:=[.string (bs [97]),.string (bs []),.string (bs [44,32,112,46,32,51]),.bool false]) hc rfl hc.lt rfl;have h2:Lns (fun g=>g<w.heap.size) 2 w (.slice (some ⟨I,0,none⟩) 1 1) [awI]:=zpO (k:=10) (cs:=[.int .i64 13,.string (bs []),.string (bs []),.string (bs []),.string (bs []),.slice none 0 0,.slice none 0 0,.slice none 0 0,.slice (some ⟨C,0,none⟩) 1 1,.slice none 0 0]) hi rfl hi.lt ⟨_,_,_,_,_,rfl,⟨Strs.none_ w,InB.nil _ _⟩,⟨Prs.none_ w,InB.nil _ _⟩,⟨Strs.none_ w,InB.nil _ _⟩,h1,Lns.none_ _ _ _⟩;exact zpO (k:=11) (cs:=[.int .i64 1,.int .i64 0,.string (bs []),.string (bs []),.string (bs []),.string (bs []),.string (bs []),.slice none 0 0,.slice none 0 0,.slice (some ⟨I,0,none⟩) 1 1,.slice none 0 0]) hb rfl hb.lt ⟨_,_,_,_,rfl,⟨Strs.none_ w,InB.nil _ _⟩,⟨Prs.none_ w,InB.nil _ _⟩,h2,Bls.none_ _ _ _ _⟩
theorem zCI {w:World} {g:Nat} {t:TypeId} {k1 f1 y1 k2 f2 y2:Bs} {vA1 vF1 vA2 vF2:Value} (h:Blk w g t #[.string (bs k1),.string (bs zkG),vA1,.slice none 0 0,vF1,.string (bs k2),.string (bs zkG),vA2,.slice none 0 0,vF2])
  (a1:Perss w vA1 [(f1,[],[],[])]) (p1:Prs w vF1 [([116,105,116,108,101],[84]),([121,101,97,114],y1)]) (a2:Perss w vA2 [(f2,[],[],[])]) (p2:Prs w vF2 [([116,105,116,108,101],[84]),([121,101,97,114],y2)]) :
  Srcs w (.slice (some ⟨g,0,none⟩) 2 2) [zFa k1 f1 y1,zFa k2 f2 y2]:=by
 refine ⟨_,2,rfl,Nat.le_refl _,fun _=>⟨g,0,rfl,h.lt,fun j s hs=>?_⟩⟩
 match j,hs with
 | 0,hs=>cases hs;exact ⟨vA1,_,vF1,h.cell 0 _ rfl,h.cell 1 _ rfl,h.cell 2 _ rfl,h.cell 3 _ rfl,h.cell 4 _ rfl,a1,Perss.none_ w,p1⟩
 | 1,hs=>cases hs;exact ⟨vA2,_,vF2,h.cell 5 _ rfl,h.cell 6 _ rfl,h.cell 7 _ rfl,h.cell 8 _ rfl,h.cell 9 _ rfl,a2,Perss.none_ w,p2⟩
 | n+2,hs=>cases hs
theorem zCJ (w:World) (n:Nat) (hn:w.heap.size=n) :
  Kept w ((((w.alloc (.cells #[.string (bs [97]),.string (bs []),.string (bs [44,32,112,46,32,51]),.bool false] 68)).alloc (.cells #[.int .i64 13,.string (bs []),.string (bs []),.string (bs []),.string (bs []),.slice none 0 0,.slice none 0 0,.slice none 0 0,.slice (some ⟨n,0,none⟩) 1 1,.slice none 0 0] 71)).alloc (.cells #[.int .i64 1,.int .i64 0,.string (bs []),.string (bs []),.string (bs []),.string (bs []),.string (bs []),.slice none 0 0,.slice none 0 0,.slice (some ⟨n+1,0,none⟩) 1 1,.slice none 0 0] 59)).alloc (.cells #[.slice none 0 0,.slice (some ⟨n+1+1,0,none⟩) 1 1] 25)) /\
  Blk ((((w.alloc (.cells #[.string (bs [97]),.string (bs []),.string (bs [44,32,112,46,32,51]),.bool false] 68)).alloc (.cells #[.int .i64 13,.string (bs []),.string (bs []),.string (bs []),.string (bs []),.slice none 0 0,.slice none 0 0,.slice none 0 0,.slice (some ⟨n,0,none⟩) 1 1,.slice none 0 0] 71)).alloc (.cells #[.int .i64 1,.int .i64 0,.string (bs []),.string (bs []),.string (bs []),.string (bs []),.string (bs []),.slice none 0 0,.slice none 0 0,.slice (some ⟨n+1,0,none⟩) 1 1,.slice none 0 0] 59)).alloc (.cells #[.slice none 0 0,.slice (some ⟨n+1+1,0,none⟩) 1 1] 25)) (n+1+1+1) 25 #[.slice none 0 0,.slice (some ⟨n+1+1,0,none⟩) 1 1] /\
  Bls (fun g=>g<((((w.alloc (.cells #[.string (bs [97]),.string (bs []),.string (bs [44,32,112,46,32,51]),.bool false] 68)).alloc (.cells #[.int .i64 13,.string (bs []),.string (bs []),.string (bs []),.string (bs []),.slice none 0 0,.slice none 0 0,.slice none 0 0,.slice (some ⟨n,0,none⟩) 1 1,.slice none 0 0] 71)).alloc (.cells #[.int .i64 1,.int .i64 0,.string (bs []),.string (bs []),.string (bs []),.string (bs []),.string (bs []),.slice none 0 0,.slice none 0 0,.slice (some ⟨n+1,0,none⟩) 1 1,.slice none 0 0] 59)).alloc (.cells #[.slice none 0 0,.slice (some ⟨n+1+1,0,none⟩) 1 1] 25)).heap.size) 2 1 ((((w.alloc (.cells #[.string (bs [97]),.string (bs []),.string (bs [44,32,112,46,32,51]),.bool false] 68)).alloc (.cells #[.int .i64 13,.string (bs []),.string (bs []),.string (bs []),.string (bs []),.slice none 0 0,.slice none 0 0,.slice none 0 0,.slice (some ⟨n,0,none⟩) 1 1,.slice none 0 0] 71)).alloc (.cells #[.int .i64 1,.int .i64 0,.string (bs []),.string (bs []),.string (bs []),.string (bs []),.string (bs []),.slice none 0 0,.slice none 0 0,.slice (some ⟨n+1,0,none⟩) 1 1,.slice none 0 0] 59)).alloc (.cells #[.slice none 0 0,.slice (some ⟨n+1+1,0,none⟩) 1 1] 25)) (.slice (some ⟨n+1+1,0,none⟩) 1 1) [awB]:=by
 have b1:=Blk.new w 68 #[.string (bs [97]),.string (bs []),.string (bs [44,32,112,46,32,51]),.bool false];rw[hn] at b1;obtain ⟨w1,hw1⟩:∃ x,w.alloc (.cells #[.string (bs [97]),.string (bs []),.string (bs [44,32,112,46,32,51]),.bool false] 68)=x:=⟨_,rfl⟩;have k1:Kept w w1:=hw1 ▸ zaA w _;have n1:w1.heap.size=n+1:=(by rw[<- hw1,World.size_alloc,hn]);rw[hw1] at b1 ⊢;have b2:=Blk.new w1 71 #[.int .i64 13,.string (bs []),.string (bs []),.string (bs []),.string (bs []),.slice none 0 0,.slice none 0 0,.slice none 0 0,.slice (some ⟨n,0,none⟩) 1 1,.slice none 0 0];rw[n1] at b2;obtain ⟨w2,hw2⟩:∃ x,w1.alloc (.cells #[.int .i64 13,.string (bs []),.string (bs []),.string (bs []),.string (bs []),.slice none 0 0,.slice none 0 0,.slice none 0 0,.slice (some ⟨n,0,none⟩) 1 1,.slice none 0 0] 71)=x:=⟨_,rfl⟩;have k2:Kept w1 w2:=hw2 ▸ zaA w1 _;have n2:w2.heap.size=n+1+1:=(by rw[<- hw2,World.size_alloc,n1]);rw[hw2] at b2 ⊢;have b3:=Blk.new w2 59 #[.int .i64 1,.int .i64 0,.string (bs []),.string (bs []),.string (bs []),.string (bs []),.string (bs []),.slice none 0 0,.slice none 0 0,.slice (some ⟨n+1,0,none⟩) 1 1,.slice none 0 0];rw[n2] at b3;obtain ⟨w3,hw3⟩:∃ x,w2.alloc (.cells #[.int .i64 1,.int .i64 0,.string (bs []),.string (bs []),.string (bs []),.string (bs []),.string (bs []),.slice none 0 0,.slice none 0 0,.slice (some ⟨n+1,0,none⟩) 1 1,.slice none 0 0] 59)=x:=⟨_,rfl⟩;have k3:Kept w2 w3:=hw3 ▸ zaA w2 _;have n3:w3.heap.size=n+1+1+1:=(by rw[<- hw3,World.size_alloc,n2]);rw[hw3] at b3 ⊢;have b4:=Blk.new w3 25 #[.slice none 0 0,.slice (some ⟨n+1+1,0,none⟩) 1 1];rw[n3] at b4;have k4:Kept w3 (w3.alloc (.cells #[.slice none 0 0,.slice (some ⟨n+1+1,0,none⟩) 1 1] 25)):=zaA w3 _;exact ⟨((k1.trans k2).trans k3).trans k4,b4,zEc (((b1.kept k2).kept k3).kept k4) ((b2.kept k3).kept k4) (b3.kept k4)⟩
theorem ztE (w:World) (hen:EnvC w):Calls Tryz.prog 10 #[] w fun e w'=>e=.returned (.bool true)/\Kept w w':=by
 have HEN:=Hd hen;clear hen;have HSR:=Hd zr3;unfold SrcWP zhB at HSR;have HFIN:Hid (∀ w',Kept w w'->(Ending.returned (.bool true)=Ending.returned (.bool true))/\Kept w w'):=fun w' h=>⟨rfl,h⟩;have HB1:=Hd (zj1 [97,117,116,104,111,114,45,100,97,116,101] w);rw[zCE] at HB1;unfold StyP at HB1;simp only[Option.getD_some,Option.isSome_some] at HB1;have HB2:=Hd (fun w=>zj1 [110,117,109,101,114,105,99] w);simp only[zEa] at HB2;unfold StyP at HB2;simp only[Option.getD_some,Option.isSome_some] at HB2;obtain ⟨y1,HY1⟩:∃ y,Hid (zd0=y):=⟨_,rfl⟩;obtain ⟨y2,HY2⟩:∃ y,Hid (zkB=y):=⟨_,rfl⟩;rw[HY1.out] at HB1;simp only[HY2.out] at HB2;unfold zdU zaD at HB1 HB2;have HSU:Hid (∀ v vE w',EnvC w'->Srcs w' v [srA,srB]->Prs w' vE y1.entries->Calls Tryz.prog 18 #[v,zdU vE y1,.string (bs [101,110])] w' (SufPo (0,[[97],[98]]) w')):=fun v vE w' h1 h2 h3=>by
  rw[<- HY1.out] at h3 ⊢;have h:=zmK v vE [srA,srB] zd0 kEn w' h1 h2 (by simp) (fun s hs=>by
   simp only[List.mem_cons,List.not_mem_nil,or_false] at hs;rcases hs with rfl|rfl
   ·exact zuH
   ·exact zuI) h3 zwV (by decide)
  have e:zmF zd0 kEn [srA,srB]=(0,[[97],[98]]):=by
   unfold zmF;rw[if_pos zCD,if_neg (by decide),zEb];simp only[List.map_cons,List.map_nil,ziT,zpB]
  rw[e] at h;exact h
 have HFI:Hid (∀ vL vE vB w',EnvC w'->Srcs w' vL [srA,srB]->Prs w' vE y2.entries->Bls (fun g=>g<w'.heap.size) 2 1 w' vB [awB]->Calls Tryz.prog 25 #[.agg #[.slice none 0 0,vB],vL,zdU vE y2,.string (bs [101,110])] w' (FiOne [91,49,44,32,112,46,32,51,93] w')):=fun vL vE vB w' h1 h2 h3 h4=>by
  rw[<- HY2.out] at h3 ⊢;have h:=zCy 1 (.slice none 0 0) vB vL vE [] [srA,srB] srA zkB kEn [97] [32,112,46,32,51] [] [] [] [] [] [] [] [] [] 0 [] [] [] [] [] [] w' h1 (Prs.none_ w') (by simp) h4 zC4 zuJ zC5 zC6 zC7 h2 (by simp) (fun s hs=>by
   simp only[List.mem_cons,List.not_mem_nil,or_false] at hs;rcases hs with rfl|rfl
   ·exact zuH
   ·exact zuI) zET zCG h3 zAG (by decide) zD9 (by decide) (by simp) (by rw[zES];simp) (by rw[zC3];decide) (by simp) (by simp)
  rw[zC3] at h;exact h
 have HKY:Hid (∀ vB w',Bls (fun g=>g<w'.heap.size) 2 1 w' vB [awB]->Calls Tryz.prog 12 #[.agg #[.slice none 0 0,vB]] w' (CiKP [[97]] w')):=fun vB w' h=>by
  have h2:=zn6 2 1 none 0 0 vB [awB] w' h (by simp) zC4 zC5 zC6 zC7;rw[zuJ] at h2;exact h2
 unfold SufPo at HSU;unfold FiOne at HFI;unfold CiKP at HKY;unfold zdU zaD at HSU HFI;go_enter Tryz.func10,Tryz.ntmps10;go_wp2_with fail;refine HB1.out.mono ?_;rintro e w1 ⟨vE1,rfl,hp1,hk1⟩;obtain ⟨aE1,cE1,rfl,lE1⟩:=hp1.form;have HK1:=Hd hk1;have HP1:=Hd hp1;clear hk1 hp1 HB1;go_wp2_with fail;refine (HB2.out _).mono ?_;rintro e w2 ⟨vE2,rfl,hp2,hk2⟩;obtain ⟨aE2,cE2,rfl,lE2⟩:=hp2.form;have HY1B:=Hd ((Blk.new w1 33 #[.string (bs y1.name),.bool y1.numeric,.string (bs y1.sort),.string (bs y1.cite),.string (bs y1.bare),.string (bs y1.between),.string (bs y1.begin_),.string (bs y1.end_),.int .i64 y1.most,.slice aE1 y1.entries.length cE1]).kept hk2);have HP1:=Hd ((HP1.out.kept (zaA w1 _)).kept hk2);have HP2:=Hd hp2;have HK2:=Hd ((HK1.out.trans (zaA w1 _)).trans hk2);generalize w1.heap.size=B1 at *;clear HB2 HK1 hp2 hk2;go_wp2_with fail;refine (HSR.out [97] [78,103] [50,48,48,49] _).mono ?_;rintro e w3 ⟨gA1,gF1,rfl,ha1,hf1,hk3⟩;have HY2B:=Hd ((Blk.new w2 33 #[.string (bs y2.name),.bool y2.numeric,.string (bs y2.sort),.string (bs y2.cite),.string (bs y2.bare),.string (bs y2.between),.string (bs y2.begin_),.string (bs y2.end_),.int .i64 y2.most,.slice aE2 y2.entries.length cE2]).kept hk3);have hk23:=(zaA w2 _).trans hk3;have HK3:=Hd (HK2.out.trans hk23);have HP1:=Hd (HP1.out.kept hk23);have HP2:=Hd (HP2.out.kept hk23);have HY1B:=Hd (HY1B.out.kept hk23);have HA1:=Hd ha1;have HF1:=Hd hf1;generalize w2.heap.size=B2 at *;clear ha1 hf1 hk3 hk23 HK2;go_wp2_with fail;refine (HSR.out [98] [78,103] [50,48,48,49] _).mono ?_;rintro e w4 ⟨gA2,gF2,rfl,ha2,hf2,hk4⟩;have HK4:=Hd (HK3.out.trans hk4);have HP1:=Hd (HP1.out.kept hk4);have HP2:=Hd (HP2.out.kept hk4);have HY1B:=Hd (HY1B.out.kept hk4);have HY2B:=Hd (HY2B.out.kept hk4);have HA1:=Hd (HA1.out.kept hk4);have HF1:=Hd (HF1.out.kept hk4);have HA2:=Hd ha2;have HF2:=Hd hf2;clear ha2 hf2 hk4 HK3 HSR;have hka:=zaA w4 (.cells #[.string (bs [97]),.string (bs zkG),.slice (some ⟨gA1,0,none⟩) 1 1,.slice none 0 0,.slice (some ⟨gF1,0,none⟩) 2 2,.string (bs [98]),.string (bs zkG),.slice (some ⟨gA2,0,none⟩) 1 1,.slice none 0 0,.slice (some ⟨gF2,0,none⟩) 2 2] 50);have hbl:=Blk.new w4 50 #[.string (bs [97]),.string (bs zkG),.slice (some ⟨gA1,0,none⟩) 1 1,.slice none 0 0,.slice (some ⟨gF1,0,none⟩) 2 2,.string (bs [98]),.string (bs zkG),.slice (some ⟨gA2,0,none⟩) 1 1,.slice none 0 0,.slice (some ⟨gF2,0,none⟩) 2 2];have HSS:=Hd (zCI hbl (HA1.out.kept hka) (HF1.out.kept hka) (HA2.out.kept hka) (HF2.out.kept hka));have HY1C:=Hd (HY1B.out.kept hka);have d0:=HY1C.out.cell 0 _ rfl;have d1:=HY1C.out.cell 1 _ rfl;have d2:=HY1C.out.cell 2 _ rfl;have d3:=HY1C.out.cell 3 _ rfl;have d4:=HY1C.out.cell 4 _ rfl;have d5:=HY1C.out.cell 5 _ rfl;have d6:=HY1C.out.cell 6 _ rfl;have d7:=HY1C.out.cell 7 _ rfl;have d8:=HY1C.out.cell 8 _ rfl;have d9:=HY1C.out.cell 9 _ rfl;have HKA:=Hd hka;clear hka hbl HA1 HF1 HA2 HF2;go_wp2_with fail;refine (HSU.out _ _ _ (HEN.out.kept (HK4.out.trans HKA.out)) HSS.out (HP1.out.kept HKA.out)).mono ?_;rintro e w5 ⟨vS,rfl,hs5,hk5⟩;obtain ⟨aS,cS,rfl,lS⟩:=hs5.form;have hk45:=HKA.out.trans hk5;have HK5:=Hd (HK4.out.trans hk45);have HP2:=Hd (HP2.out.kept hk45);have HY2B:=Hd (HY2B.out.kept hk45);have HSS:=Hd (HSS.out.kept hk5);have HST:=Hd hs5;generalize w4.heap.size=L at *;clear HSU HP1 HY1B HY1C HKA HK4 hs5 hk5 hk45 d0 d1 d2 d3 d4 d5 d6 d7 d8 d9;obtain ⟨hkd,hdb,hdl⟩:=zCJ w5 _ rfl;have HKD:=Hd hkd;have HDB:=Hd hdb;have HDL:=Hd hdl;have HY2C:=Hd (HY2B.out.kept hkd);have d0:=HY2C.out.cell 0 _ rfl;have d1:=HY2C.out.cell 1 _ rfl;have d2:=HY2C.out.cell 2 _ rfl;have d3:=HY2C.out.cell 3 _ rfl;have d4:=HY2C.out.cell 4 _ rfl;have d5:=HY2C.out.cell 5 _ rfl;have d6:=HY2C.out.cell 6 _ rfl;have d7:=HY2C.out.cell 7 _ rfl;have d8:=HY2C.out.cell 8 _ rfl;have d9:=HY2C.out.cell 9 _ rfl;clear hkd hdb hdl;go_wp2_with fail;refine (HFI.out _ _ _ _ (HEN.out.kept (HK5.out.trans HKD.out)) (HSS.out.kept HKD.out) (HP2.out.kept HKD.out) HDL.out).mono ?_;rintro e w6 ⟨aM6,nM6,cM6,vB6,b6,rfl,hb6,hln6,hk6⟩;obtain ⟨aB6,cB6,hvb6,lB6⟩:=hb6.form;have hvb6':vB6=.slice aB6 1 cB6:=hvb6;subst hvb6';have HB6:=Hd hb6;have hk56:=HKD.out.trans hk6;have HK6:=Hd (HK5.out.trans hk56);have HST:=Hd (HST.out.kept hk56);have HDB:=Hd (HDB.out.kept hk6);have HDL:=Hd ((HDL.out.kept hk6).mono (fun g _ q=>Nat.lt_of_lt_of_le q hk6.size));have HLN6:=Hd hln6;generalize w5.heap.size=D at *;have hka:=zaA w6 (.cells #[.slice aM6 nM6 cM6,.slice aB6 1 cB6] 25);have hdc:=HDB.out.kept hka;have d0:=hdc.cell 0 _ rfl;have d1:=hdc.cell 1 _ rfl;have HKA:=Hd hka;clear hdc hka hk6 hk56 hb6 hln6 HK5 HKD HSS HP2 HY2B HFI hvb6 d2 d3 d4 d5 d6 d7 d8 d9;go_wp2_with fail;refine (HKY.out _ _ ((HDL.out.kept HKA.out).mono (fun g _ q=>Nat.lt_of_lt_of_le q HKA.out.size))).mono ?_;rintro e w7 ⟨vK7,rfl,hs7,hk7⟩;obtain ⟨aK7,cK7,hvk7,hlK,hcK⟩:=hs7;have hlK':1<=cK7:=hlK;have hvk7':vK7=.slice aK7 1 cK7:=hvk7;subst hvk7';obtain ⟨gK,oK,rfl,hgK,hcK⟩:=hcK (by simp);have HSK:Hid (Strs w7 (.slice (some ⟨gK,oK,none⟩) 1 cK7) [[97]]):=⟨_,cK7,rfl,by omega,fun _=>⟨gK,oK,rfl,hgK,hcK⟩⟩;have hk67:=HKA.out.trans hk7;obtain ⟨aS',cS',hvS,-,hcS⟩:=HST.out.kept hk67;obtain ⟨rfl,-,rfl⟩:=Value.slice.inj hvS;obtain ⟨gS,oS,rfl,-,hcS⟩:=hcS (by simp);have ss0:=hcS 0 _ rfl;rw[Nat.add_zero] at ss0;have ss1:=hcS 1 _ rfl;have hb7:=HB6.out.kept hk67;obtain ⟨g6,o6,vC6,vP6,vL6,vK6,rfl,-,-,-,-,-,hc6,-,-,hL6,-⟩:=Bls.at_ hb7 0 b6 rfl;obtain ⟨aL6,cL6,rfl,lL6⟩:=hL6.form;have hd7:=(Blk.new w6 25 #[.slice aM6 nM6 cM6,.slice (some ⟨g6,o6,none⟩) 1 cB6]).kept hk7;have HPLN:Hid (∀ w',Kept w7 w'->Calls Tryz.prog 30 #[.slice aL6 b6.line.length cL6] w' fun e w''=>e=.returned (.string (bs [91,49,44,32,112,46,32,51,93]))/\Kept w' w''):=fun w' k=>by
  have h:=ztD 2 b6.line (.slice aL6 b6.line.length cL6) w' (hL6.kept k) (by have:=HLN6.out.2.1;omega) (fun x hx=>by
   have e:=HLN6.out.2.2 x hx;rw[e];exact ⟨by simp,fun y hy=>absurd hy (by simp)⟩) (by rw[HLN6.out.1];decide)
  rw[HLN6.out.1] at h;exact h
 have HL7:=Hd hL6;have HK7:=Hd (HK6.out.trans hk67);have dd0:=hd7.cell 0 _ rfl;have dd1:=hd7.cell 1 _ rfl;have bb9:=hc6 9 _ rfl;rw[Nat.zero_mul,Nat.add_zero] at bb9;clear hcK hcS hb7 hc6 hL6 hd7 hvS hvk7 d0 d1 HST HB6 HDB HDL HK6 HKY;generalize w6.heap.size=B9 at *;clear hk67 hk7 HKA hgK hlK hlK';go_wp2_with fail;refine (HPLN.out _ (Kept.refl _)).mono ?_;rintro e w8 ⟨rfl,hk8⟩;have kk0:w8.cell? ⟨gK,oK,none⟩=some (.string (bs [97])):=by
  obtain ⟨a,c,hv,-,hcK⟩:=HSK.out.kept hk8;obtain ⟨rfl,-,rfl⟩:=Value.slice.inj hv;obtain ⟨g,o,hgo,-,hcK⟩:=hcK (by simp);cases hgo;have h:=hcK 0 _ rfl
  rwa [Nat.add_zero] at h
 have HF8:=Hd (HFIN.out w8 (HK7.out.trans hk8));clear ss0 ss1 dd0 dd1 bb9 HPLN HSK HK7 hk8 HL7;go_wp2_with fail;refine bodyPost_ret (v:=.bool true) ?_ rfl ⟨rfl,HF8.out.2⟩;simp [results,Tryz.results10,go_sem]
theorem zpP (vA vE vF vY:Value) (s:SrcT) (y:StyT) (lang suf:Bs) (w:World) (hY:vY.oneCell'=true) (hyc:y.cite.length<=100000) (hym : -9223372036854775808<=y.most/\y.most<=9223372036854775807)
  (hA:Perss w vA s.author) (hE:Perss w vE s.editor) (hF:Prs w vF s.fields) (hft:FitL s) (hs:suf.length<=1000) :
  Calls Tryz.prog 51 #[zhB s.key s.type vA vE vF,zdU vY y,.string (bs lang),.string (bs suf),.int .i64 0] w fun e w'=>e=.returned (.string (bs (zhG s y lang suf)))/\Kept w w':=by
 obtain ⟨aA,cA,rfl,lA⟩:=hA.shape;obtain ⟨aE,cE,rfl,lE⟩:=hE.shape;obtain ⟨aF,cF,rfl,lF⟩:=hF.shape;have hk1:=zaA w (.cells #[.string (bs s.key),.string (bs s.type),.slice aA s.author.length cA,.slice aE s.editor.length cE,.slice aF s.fields.length cF] 50);have HBX:=Hd (Blk.new w 50 #[.string (bs s.key),.string (bs s.type),.slice aA s.author.length cA,.slice aE s.editor.length cE,.slice aF s.fields.length cF]);have HFL:=Hd (fun w' (k:Kept w w')=>zwE (zkX s y lang suf 0) y.cite (.slice aA s.author.length cA) (.slice aE s.editor.length cE) (.slice aF s.fields.length cF) vY y w' rfl hY hyc (hft.fitV y hym lang suf hs 0 (by omega)) (hA.kept k) (hE.kept k) (hF.kept k));have HBY:=Hd (Blk.new (w.alloc (.cells #[.string (bs s.key),.string (bs s.type),.slice aA s.author.length cA,.slice aE s.editor.length cE,.slice aF s.fields.length cF] 50)) 33 (zaD vY y));have HK2:=Hd (hk1.trans (zaA (w.alloc (.cells #[.string (bs s.key),.string (bs s.type),.slice aA s.author.length cA,.slice aE s.editor.length cE,.slice aF s.fields.length cF] 50)) (.cells (zaD vY y) 33)));have HBX2:=Hd (HBX.out.alloc (.cells (zaD vY y) 33));clear hk1 HBX;unfold zdU zaD at HFL;unfold zaD at HBY HK2 HBX2;simp only[zkX,World.size_alloc] at HFL HBY;have HCS:Hid (zdD (zkX s y lang suf 0) y.cite=zhG s y lang suf):=rfl;unfold zkX at HCS;rw[HCS.out] at HFL;generalize zhG s y lang suf=R at *;generalize zcW y.cite=E at *;clear hA hE hF hft HCS;unfold zdU zaD zhB;unfold zhB at HFL;go_enter Tryz.func51,Tryz.ntmps51;go_upto_region 1 with fail;generalize World.alloc (World.alloc w _) _=w2 at *;have b0:=HBY.out.cell 0 _ rfl;have b1:=HBY.out.cell 1 _ rfl;have b2:=HBY.out.cell 2 _ rfl;have b3:=HBY.out.cell 3 _ rfl;have b4:=HBY.out.cell 4 _ rfl;have b5:=HBY.out.cell 5 _ rfl;have b6:=HBY.out.cell 6 _ rfl;have b7:=HBY.out.cell 7 _ rfl;have b8:=HBY.out.cell 8 _ rfl;have b9:=HBY.out.cell 9 _ rfl;have bz:=HBY.out.lt;have x0:=HBX2.out.cell 0 _ rfl;have x1:=HBX2.out.cell 1 _ rfl;have x2:=HBX2.out.cell 2 _ rfl;have x3:=HBX2.out.cell 3 _ rfl;have x4:=HBX2.out.cell 4 _ rfl;have xz:=HBX2.out.lt;go_wp2_with fail;refine (HFL.out w2 HK2.out).mono ?_;rintro e w3 ⟨rfl,hk3⟩;have HK3:=Hd (HK2.out.trans hk3);clear hk3 HFL;go_wp2_with fail
 (try go_ret)
 exact ⟨rfl,HK3.out⟩
theorem zmL:zcY 0=[]:=by unfold zcY;rw[zc9];rfl
theorem zm6 (m:Nat) (hm:m<=24) (w:World) :
  Calls Tryz.prog 53 #[.string (bs (zcY m))] w fun e w'=>e=.returned (.string (bs (zcY (m+1))))/\Kept w w':=by
 rcases Nat.eq_zero_or_pos m with rfl|h1
 ·rw[zmL,ziT];go_enter Tryz.func53,Tryz.ntmps53;go_wp2_with fail;simp only[zcO];go_loopw [3] (fun i wr=>i=.int .i64 (-1)/\w=wr) (fun _ _=>0)
  case atStart=>exact ⟨by rfl,rfl⟩
  case round =>
   obtain ⟨rfl,rfl⟩:=hrel;go_wp2_with fail;simp only[zcO];go_loopw [6,7] (fun o i wr=>o=.string (bs [97])/\i=.int .i64 0/\w=wr) (fun _ _ _=>0)
   case atStart=>exact ⟨rfl,rfl,rfl⟩
   case round =>
    obtain ⟨rfl,rfl,rfl⟩:=hrel;go_wp2_with fail
    (try go_ret)
    exact ⟨rfl,Kept.refl _⟩
 ·rw[zjO h1 (by omega),zjO (by omega) (by omega)];obtain ⟨b,HB⟩:∃ b,Hid (UInt8.ofNat (96+m)=b):=⟨_,rfl⟩;obtain ⟨d,HD⟩:∃ d,Hid (UInt8.ofNat (96+(m+1))=d):=⟨_,rfl⟩;have hb:Hid (((b.toNat:Nat):Int)=(m:Int)+96):=(by show _=_;rw[<- HB.out,UInt8.toNat_ofNat'];omega);have hd:Hid (((d.toNat:Nat):Int)=(m:Int)+97):=(by show _=_;rw[<- HD.out,UInt8.toNat_ofNat'];omega);rw[HB.out,HD.out];have sl:=zkH (P:=Tryz.prog) (t:=9) Tryz.underlying9 [b] 0 (by simp) 0 rfl [] rfl;have ix:∀ w,(Instr.index 9 (.string (bs [b])) (.int .i64 0)).run Tryz.prog w=.ok (.int .u8 (b.toNat:Int)) w:=fun w=>zd3 Tryz.underlying9 [b] 0 (by simp) 0 rfl w;have w2:(IntKind.u8).wrap ((b.toNat:Int)+1)=(d.toNat:Int):=(by rw[hb.out,hd.out];simp [IntKind.wrap,IntKind.signed,IntKind.bits];omega);have hbz:(b.toNat:Int)<122:=(by rw[hb.out];omega);have hcv:(convert 120 9 (.slice (some ⟨w.heap.size,0,none⟩) 1 1)).run Tryz.prog (w.alloc (.cells #[.int .u8 (d.toNat:Int)] 5)).drew=.ok (.string (bs [d])) (w.alloc (.cells #[.int .u8 (d.toNat:Int)] 5)).drew:=by
   refine run_convert_bytes_back (P:=Tryz.prog) _ 120 9 5 ⟨w.heap.size,0,none⟩ 1 [d] Tryz.underlying120 Tryz.underlying5 Tryz.underlying9 ?_;intro j hj;obtain rfl:j=0:=(by simpa using hj);exact ((Blk.new w 5 #[.int .u8 (d.toNat:Int)]).kept (zaB _ 1)).cell 0 _ rfl
  have HKW:Hid (Kept w (w.alloc (.cells #[.int .u8 (d.toNat:Int)] 5)).drew):=(zaA w _).trans (zaB _ 1);clear hb hd HB HD;go_enter Tryz.func53,Tryz.ntmps53;go_wp2_with fail;go_loopw [3] (fun i wr=>i=.int .i64 0/\w=wr) (fun _ _=>0)
  case atStart=>exact ⟨by rfl,rfl⟩
  case round =>
   obtain ⟨rfl,rfl⟩:=hrel;go_wp2_with fail;go_region
   all_goals
    go_wp2_with fail;go_loopw [4,5] (fun o i wr=>o=.string (bs [d])/\i=.int .i64 1/\Hid (Kept w wr)) (fun _ _ _=>0)
    case atStart=>exact ⟨by first|rfl|simp,by first|rfl|simp,HKW.out⟩
    case round =>
     obtain ⟨rfl,rfl,HKR⟩:=hrel;go_wp2_with fail
     (try go_ret)
     exact ⟨rfl,HKR.out⟩
end Go.Proofs.YtmcoomlkbgiboaaGreatDoor
