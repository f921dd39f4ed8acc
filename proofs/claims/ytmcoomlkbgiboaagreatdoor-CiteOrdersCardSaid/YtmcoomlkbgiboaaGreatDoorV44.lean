/- The page's examples of styles, in plain Lean. No condition. -/
import Derived.Test.YtmcoomlkbgiboaaGreatDoorV22
import Derived.Test.YtmcoomlkbgiboaaGreatDoorV16
import Derived.Test.YtmcoomlkbgiboaaGreatDoorV36
import Derived.Test.YtmcoomlkbgiboaaGreatDoorV19
import Derived.Test.YtmcoomlkbgiboaaGreatDoorV38
import Derived.Test.YtmcoomlkbgiboaaGreatDoorV42
import Derived.Test.YtmcoomlkbgiboaaGreatDoorV12
import Derived.Test.YtmcoomlkbgiboaaGreatDoorV43
import Derived.Test.YtmcoomlkbgiboaaGreatDoorV30
import Derived.Test.YtmcoomlkbgiboaaGreatDoorV29
import Derived.Test.YtmcoomlkbgiboaaGreatDoorV35
set_option linter.all false
set_option maxRecDepth 100000
set_option maxHeartbeats 12800000
namespace Go.Proofs.YtmcoomlkbgiboaaGreatDoor
open Go.RowKit
def zFG (l:Bs):Bool:=l.all fun b=>decide (32<=(b.toNat:Int)) && decide ((b.toNat:Int)<127)
theorem zhX {l:Bs} (h:zFG l=true):lnB l=true:=by
 have:zhJ l=true:=zBP l (fun b hb=>by
  unfold zFG at h;rw[List.all_eq_true] at h;have:=h b hb;simpa using this)
 exact this
theorem zDa {t:Bs} (h:zFG t=true):zdD t=if (zkX t).isSome=true then 0 else 5:=by
 unfold zdD;rw[zhX h];rfl
theorem zdO {t:Bs} (h:zFG t=true) (hs:(zkX t).isSome=true):zdD t=0:=by rw[zDa h,hs];rfl
theorem zk9 {t:Bs} (h:zdD t=0):zf2 t=(zkX t).getD []:=by unfold zf2;rw[if_pos h]
theorem zEA:zq3 ztA=0:=by
 unfold zq3 ztA;rw[ze7,if_neg (by decide +kernel),if_neg (by decide +kernel),zdO (by decide +kernel) (by decide +kernel),if_neg (by decide),ze7,if_neg (by decide +kernel),if_neg (by decide +kernel),zdO (by decide +kernel) (by decide +kernel),if_neg (by decide),zk1,if_pos (by decide +kernel)]
theorem zDb:zq3 zl3=0:=by
 unfold zq3 zl3;rw[ze7,if_neg (by decide +kernel),if_neg (by decide +kernel),zdO (by decide +kernel) (by decide +kernel),if_neg (by decide),ze7,if_neg (by decide +kernel),if_neg (by decide +kernel),zdO (by decide +kernel) (by decide +kernel),if_neg (by decide),zk1,if_pos (by decide +kernel)]
theorem zEB:znY zkL=0:=by
 have h1:zdD zkL.cite=0:=zdO (by decide +kernel) (by decide +kernel);have h2:zdD zkL.bare=0:=zdO (by decide +kernel) (by decide +kernel);unfold znY;rw[h1,if_neg (by decide),zk9 h1,h2,if_neg (by decide +kernel)]
theorem zDc:znY zdZ=0:=by
 have h1:zdD zdZ.cite=0:=zdO (by decide +kernel) (by decide +kernel);have h2:zdD zdZ.bare=0:=zdO (by decide +kernel) (by decide +kernel);unfold znY;rw[h1,if_neg (by decide),zk9 h1,h2,if_neg (by decide +kernel)]
theorem zDd:znE zdZ.sort=0:=by decide +kernel
theorem zEC:zdY zkL=0:=by
 unfold zdY;have h1:lnB zkL.between=true:=zhX (by decide +kernel);have h2:lnB zkL.begin_=true:=zhX (by decide +kernel);have h3:lnB zkL.end_=true:=zhX (by decide +kernel);have h4:zq3 zkL.entries=0:=zEA;rw[if_neg (by decide),if_neg (by decide +kernel),if_neg (by decide),zEB,if_neg (by decide),h1,h2,h3,if_neg (by decide),if_neg (by decide),h4]
theorem zDe:zdY zdZ=0:=by
 unfold zdY;have h1:lnB zdZ.between=true:=zhX (by decide +kernel);have h2:lnB zdZ.begin_=true:=zhX (by decide +kernel);have h3:lnB zdZ.end_=true:=zhX (by decide +kernel);have h4:zq3 zdZ.entries=0:=zDb;rw[if_neg (by decide),if_neg (by decide +kernel),zDd,if_neg (by decide),zDc,if_neg (by decide),h1,h2,h3,if_neg (by decide),if_neg (by decide),h4]
theorem zED:zzJ [110,117,109,101,114,105,99]=some zkL:=by
 unfold zzJ;rw[if_neg (by decide),if_pos (by rfl)]
theorem zDf:zzJ [97,117,116,104,111,114,45,100,97,116,101]=some zdZ:=by
 unfold zzJ;rw[if_pos (by rfl)]
def zkT:Bs:=[98,111,111,107]
def zFH (key fam yr:Bs):SrcT:=⟨key,zkT,[(fam,[],[],[])],[],[([116,105,116,108,101],[84]),([121,101,97,114],yr)]⟩
def kEn:Bs:=[101,110]
def srA:SrcT:=zFH [97] [78,103] [50,48,48,49]
def srB:SrcT:=zFH [98] [78,103] [50,48,48,49]
theorem zDg:zf2 zdZ.cite=(zkX zdZ.cite).getD []:=zk9 (zdO (by decide +kernel) (by decide +kernel))
theorem zA5:zf2 zkL.cite=(zkX zkL.cite).getD []:=zk9 (zdO (by decide +kernel) (by decide +kernel))
theorem zEE:zE8 ([srA,srB].map (zAK zdZ kEn))=[1,2]:=by
 unfold zAK ztW zeK;rw[zDg];decide +kernel
theorem zDI:ctB zkL kEn srA 1 [44,32,112,46,32,51]=[91,49,44,32,112,46,32,51,93]:=by
 unfold ctB zeK;rw[zA5];decide +kernel
theorem zFq:zeK (zoL srA zkL kEn [] 1) zkL.cite=[49]:=by
 unfold zeK;rw[zA5];decide +kernel
theorem zFr:zqR [srA,srB]=0:=by decide +kernel
theorem zDh:zsF [srA,srB] [97]=some srA:=by decide +kernel
theorem zu6:FitL srA:=by unfold FitL;decide +kernel
theorem zu7:FitL srB:=by unfold FitL;decide +kernel
def SrcWP (key fam yr:Bs) (w:World) (e:Ending) (w':World):Prop:=∃ g1 g2:Nat,e=.returned (zhK key zkT (.slice (some ⟨g1,0,none⟩) 1 1) (.slice none 0 0) (.slice (some ⟨g2,0,none⟩) 2 2))/\Perss w' (.slice (some ⟨g1,0,none⟩) 1 1) [(fam,[],[],[])]/\Prs w' (.slice (some ⟨g2,0,none⟩) 2 2) [([116,105,116,108,101],[84]),([121,101,97,114],yr)]/\Kept w w'
theorem zDi (w:World) (fam:Bs):Perss (w.alloc (.cells #[.string (bs fam),.string (bs []),.string (bs []),.string (bs [])] 77)) (.slice (some ⟨w.heap.size,0,none⟩) 1 1) [(fam,[],[],[])]:=by
 have hb:=Blk.new w 77 #[.string (bs fam),.string (bs []),.string (bs []),.string (bs [])];refine ⟨_,_,rfl,Nat.le_refl _,fun _=>⟨_,0,rfl,hb.lt,fun j q hq=>?_⟩⟩;cases j with
 | zero=>cases hq;exact ⟨hb.cell 0 _ rfl,hb.cell 1 _ rfl,hb.cell 2 _ rfl,hb.cell 3 _ rfl⟩
 | succ j=>simp at hq
theorem zsG (key fam yr:Bs) (w:World):Calls Tryz.prog 29 #[.string (bs key),.string (bs fam),.string (bs yr)] w (SrcWP key fam yr w):=by
 have hk:∀ (w0:World) (n:Nat),w0.heap.size=n->Kept w w0->SrcWP key fam yr w (.returned (zhK key zkT (.slice (some ⟨n,0,none⟩) 1 1) (.slice none 0 0) (.slice (some ⟨n+1,0,none⟩) 2 2))) ((w0.alloc (.cells #[.string (bs fam),.string (bs []),.string (bs []),.string (bs [])] 77)).alloc (.cells #[.string (bs [116,105,116,108,101]),.string (bs [84]),.string (bs [121,101,97,114]),.string (bs yr)] 62)):=by
  intro w0 n hn hk;have b1:=(zDi w0 fam).kept (zaA _ (.cells #[.string (bs [116,105,116,108,101]),.string (bs [84]),.string (bs [121,101,97,114]),.string (bs yr)] 62));have b2:=ztB (w0.alloc (.cells #[.string (bs fam),.string (bs []),.string (bs []),.string (bs [])] 77)) ([116,105,116,108,101],[84]) ([121,101,97,114],yr);rw[hn] at b1;rw[World.size_alloc,hn] at b2;exact ⟨n,n+1,rfl,b1,b2,(hk.trans (zaA _ _)).trans (zaA _ _)⟩
 have HK:=Hd hk;clear hk;have e0:(w.alloc (.cells #[.string (bs key),.string (bs zkT),.slice (some ⟨w.heap.size+1,0,none⟩) 1 1,.slice none 0 0,.slice (some ⟨w.heap.size+1+1,0,none⟩) 2 2] 50)).heap.size=w.heap.size+1:=(by simp);have HE0:=Hd e0;clear e0;go_enter Tryz.func29,Tryz.ntmps29;go_wp2_with fail;refine bodyPost_ret (v:=zhK key zkT (.slice (some ⟨w.heap.size+1,0,none⟩) 1 1) (.slice none 0 0) (.slice (some ⟨w.heap.size+1+1,0,none⟩) 2 2)) ?_ rfl (HK.out _ (w.heap.size+1) HE0.out (zaA w _));simp [results,Tryz.results29,go_sem,zhK,zkT]
theorem zxF:SmallY zdZ:=by
 refine ⟨by decide,by decide,by decide,by decide,by decide,by decide,by decide,by decide,fun p hp=>?_⟩;have h:p∈zl3:=hp;simp only[zl3,List.mem_cons,List.not_mem_nil,or_false] at h;rcases h with rfl|rfl <;> exact ⟨by decide,by decide⟩
theorem zA6:SmallY zkL:=by
 refine ⟨by decide,by decide,by decide,by decide,by decide,by decide,by decide,by decide,fun p hp=>?_⟩;have h:p∈ztA:=hp;simp only[ztA,List.mem_cons,List.not_mem_nil,or_false] at h;rcases h with rfl|rfl <;> exact ⟨by decide,by decide⟩
def awI:Inl:=.mk 13 [] [] [] [] [] [] [] [⟨[97],[],[44,32,112,46,32,51],false⟩] []
def awB:Blo:=.mk 1 0 [] [] [] [] [] [] [] [awI] []
theorem zu8:zAZ [awB]=[[97]]:=by decide +kernel
theorem zDJ:zCV [awB]:=by
 refine ⟨⟨?_,⟨⟨?_,trivial⟩,trivial⟩,trivial⟩,trivial⟩
 all_goals decide
theorem zpZ:zbX [awB]=[awI]:=rfl
theorem zDK:(zbX [awB]).length<=1000000:=by rw[zpZ];simp
theorem zDL:∀ x∈zbX [awB],x.cits.length<=1000000:=fun x hx=>by
 rw[zpZ] at hx;rcases List.mem_singleton.1 hx with rfl;show ([⟨[97],[],[44,32,112,46,32,51],false⟩]:List Cit).length<=_;simp
theorem zDM:((zbX [awB]).flatMap zcN).length<=1000000:=by rw[zpZ];decide +kernel
theorem zp0 {α:Type} {S:Nat->Prop} {k:Nat} {R:List Value->α->Prop} {w:World} {g:Nat} {t:TypeId} {cs:List Value} {x:α} (h:Blk w g t cs.toArray) (hk:cs.length=k) (hS:S g) (hR:R cs x):RowR S k R w (.slice (some ⟨g,0,none⟩) 1 1) [x]:=by
 refine ⟨_,1,rfl,Nat.le_refl _,fun _=>⟨g,0,rfl,h.lt,hS,fun j y hy=>?_⟩⟩;cases j with
 | zero =>
  cases hy;refine ⟨cs,hk,fun i u hu=>?_,hR⟩;have e:=h.cell i u (by rw[List.getElem?_toArray];exact hu)
  rwa [show (0:Nat)+0 * k+i=i from by omega]
 | succ j=>simp at hy
theorem zEF {w:World} {C I B:Nat} (hc:Blk w C 68 #[.string (bs [97]),.string (bs []),.string (bs [44,32,112,46,32,51]),.bool false])
  (hi:Blk w I 71 #[.int .i64 13,.string (bs []),.string (bs []),.string (bs []),.string (bs []),.slice none 0 0,.slice none 0 0,.slice none 0 0,.slice (some ⟨C,0,none⟩) 1 1,.slice none 0 0])
  (hb:Blk w B 59 #[.int .i64 1,.int .i64 0,.string (bs []),.string (bs []),.string (bs []),.string (bs []),.string (bs []),.slice none 0 0,.slice none 0 0,.slice (some ⟨I,0,none⟩) 1 1,.slice none 0 0]) :
  Bls (fun g=>g<w.heap.size) 2 1 w (.slice (some ⟨B,0,none⟩) 1 1) [awB]:=by
 have h1:Cits (fun g=>g<w.heap.size) w (.slice (some ⟨C,0,none⟩) 1 1) [⟨[97],[],[44,32,112,46,32,51],false⟩]:=zp0 (cs:=[.string (bs [97]),.string (bs []),.string (bs [44,32,112,46,32,51]),.bool false]) hc rfl hc.lt rfl;have h2:Lns (fun g=>g<w.heap.size) 2 w (.slice (some ⟨I,0,none⟩) 1 1) [awI]:=zp0 (k:=10) (cs:=[.int .i64 13,.string (bs []),.string (bs []),.string (bs []),.string (bs []),.slice none 0 0,.slice none 0 0,.slice none 0 0,.slice (some ⟨C,0,none⟩) 1 1,.slice none 0 0]) hi rfl hi.lt ⟨_,_,_,_,_,rfl,⟨Strs.none_ w,InB.nil _ _⟩,⟨Prs.none_ w,InB.nil _ _⟩,⟨Strs.none_ w,InB.nil _ _⟩,h1,Lns.none_ _ _ _⟩;exact zp0 (k:=11) (cs:=[.int .i64 1,.int .i64 0,.string (bs []),.string (bs []),.string (bs []),.string (bs []),.string (bs []),.slice none 0 0,.slice none 0 0,.slice (some ⟨I,0,none⟩) 1 1,.slice none 0 0]) hb rfl hb.lt ⟨_,_,_,_,rfl,⟨Strs.none_ w,InB.nil _ _⟩,⟨Prs.none_ w,InB.nil _ _⟩,h2,Bls.none_ _ _ _ _⟩
theorem zDj {w:World} {g:Nat} {t:TypeId} {k1 f1 y1 k2 f2 y2:Bs} {vA1 vF1 vA2 vF2:Value} (h:Blk w g t #[.string (bs k1),.string (bs zkT),vA1,.slice none 0 0,vF1,.string (bs k2),.string (bs zkT),vA2,.slice none 0 0,vF2])
  (a1:Perss w vA1 [(f1,[],[],[])]) (p1:Prs w vF1 [([116,105,116,108,101],[84]),([121,101,97,114],y1)]) (a2:Perss w vA2 [(f2,[],[],[])]) (p2:Prs w vF2 [([116,105,116,108,101],[84]),([121,101,97,114],y2)]) :
  Srcs w (.slice (some ⟨g,0,none⟩) 2 2) [zFH k1 f1 y1,zFH k2 f2 y2]:=by
 refine ⟨_,2,rfl,Nat.le_refl _,fun _=>⟨g,0,rfl,h.lt,fun j s hs=>?_⟩⟩
 match j,hs with
 | 0,hs=>cases hs;exact ⟨vA1,_,vF1,h.cell 0 _ rfl,h.cell 1 _ rfl,h.cell 2 _ rfl,h.cell 3 _ rfl,h.cell 4 _ rfl,a1,Perss.none_ w,p1⟩
 | 1,hs=>cases hs;exact ⟨vA2,_,vF2,h.cell 5 _ rfl,h.cell 6 _ rfl,h.cell 7 _ rfl,h.cell 8 _ rfl,h.cell 9 _ rfl,a2,Perss.none_ w,p2⟩
 | n+2,hs=>cases hs
theorem zDk (w:World) (n:Nat) (hn:w.heap.size=n) :
  Kept w ((((w.alloc (.cells #[.string (bs [97]),.string (bs []),.string (bs [44,32,112,46,32,51]),.bool false] 68)).alloc (.cells #[.int .i64 13,.string (bs []),.string (bs []),.string (bs []),.string (bs []),.slice none 0 0,.slice none 0 0,.slice none 0 0,.slice (some ⟨n,0,none⟩) 1 1,.slice none 0 0] 71)).alloc (.cells #[.int .i64 1,.int .i64 0,.string (bs []),.string (bs []),.string (bs []),.string (bs []),.string (bs []),.slice none 0 0,.slice none 0 0,.slice (some ⟨n+1,0,none⟩) 1 1,.slice none 0 0] 59)).alloc (.cells #[.slice none 0 0,.slice (some ⟨n+1+1,0,none⟩) 1 1] 25)) /\
  Blk ((((w.alloc (.cells #[.string (bs [97]),.string (bs []),.string (bs [44,32,112,46,32,51]),.bool false] 68)).alloc (.cells #[.int .i64 13,.string (bs []),.string (bs []),.string (bs []),.string (bs []),.slice none 0 0,.slice none 0 0,.slice none 0 0,.slice (some ⟨n,0,none⟩) 1 1,.slice none 0 0] 71)).alloc (.cells #[.int .i64 1,.int .i64 0,.string (bs []),.string (bs []),.string (bs []),.string (bs []),.string (bs []),.slice none 0 0,.slice none 0 0,.slice (some ⟨n+1,0,none⟩) 1 1,.slice none 0 0] 59)).alloc (.cells #[.slice none 0 0,.slice (some ⟨n+1+1,0,none⟩) 1 1] 25)) (n+1+1+1) 25 #[.slice none 0 0,.slice (some ⟨n+1+1,0,none⟩) 1 1] /\
  Bls (fun g=>g<((((w.alloc (.cells #[.string (bs [97]),.string (bs []),.string (bs [44,32,112,46,32,51]),.bool false] 68)).alloc (.cells #[.int .i64 13,.string (bs []),.string (bs []),.string (bs []),.string (bs []),.slice none 0 0,.slice none 0 0,.slice none 0 0,.slice (some ⟨n,0,none⟩) 1 1,.slice none 0 0] 71)).alloc (.cells #[.int .i64 1,.int .i64 0,.string (bs []),.string (bs []),.string (bs []),.string (bs []),.string (bs []),.slice none 0 0,.slice none 0 0,.slice (some ⟨n+1,0,none⟩) 1 1,.slice none 0 0] 59)).alloc (.cells #[.slice none 0 0,.slice (some ⟨n+1+1,0,none⟩) 1 1] 25)).heap.size) 2 1 ((((w.alloc (.cells #[.string (bs [97]),.string (bs []),.string (bs [44,32,112,46,32,51]),.bool false] 68)).alloc (.cells #[.int .i64 13,.string (bs []),.string (bs []),.string (bs []),.string (bs []),.slice none 0 0,.slice none 0 0,.slice none 0 0,.slice (some ⟨n,0,none⟩) 1 1,.slice none 0 0] 71)).alloc (.cells #[.int .i64 1,.int .i64 0,.string (bs []),.string (bs []),.string (bs []),.string (bs []),.string (bs []),.slice none 0 0,.slice none 0 0,.slice (some ⟨n+1,0,none⟩) 1 1,.slice none 0 0] 59)).alloc (.cells #[.slice none 0 0,.slice (some ⟨n+1+1,0,none⟩) 1 1] 25)) (.slice (some ⟨n+1+1,0,none⟩) 1 1) [awB]:=by
 have b1:=Blk.new w 68 #[.string (bs [97]),.string (bs []),.string (bs [44,32,112,46,32,51]),.bool false];rw[hn] at b1;obtain ⟨w1,hw1⟩:∃ x,w.alloc (.cells #[.string (bs [97]),.string (bs []),.string (bs [44,32,112,46,32,51]),.bool false] 68)=x:=⟨_,rfl⟩;have k1:Kept w w1:=hw1 ▸ zaA w _;have n1:w1.heap.size=n+1:=(by rw[<- hw1,World.size_alloc,hn]);rw[hw1] at b1 ⊢;have b2:=Blk.new w1 71 #[.int .i64 13,.string (bs []),.string (bs []),.string (bs []),.string (bs []),.slice none 0 0,.slice none 0 0,.slice none 0 0,.slice (some ⟨n,0,none⟩) 1 1,.slice none 0 0];rw[n1] at b2;obtain ⟨w2,hw2⟩:∃ x,w1.alloc (.cells #[.int .i64 13,.string (bs []),.string (bs []),.string (bs []),.string (bs []),.slice none 0 0,.slice none 0 0,.slice none 0 0,.slice (some ⟨n,0,none⟩) 1 1,.slice none 0 0] 71)=x:=⟨_,rfl⟩;have k2:Kept w1 w2:=hw2 ▸ zaA w1 _;have n2:w2.heap.size=n+1+1:=(by rw[<- hw2,World.size_alloc,n1]);rw[hw2] at b2 ⊢;have b3:=Blk.new w2 59 #[.int .i64 1,.int .i64 0,.string (bs []),.string (bs []),.string (bs []),.string (bs []),.string (bs []),.slice none 0 0,.slice none 0 0,.slice (some ⟨n+1,0,none⟩) 1 1,.slice none 0 0];rw[n2] at b3;obtain ⟨w3,hw3⟩:∃ x,w2.alloc (.cells #[.int .i64 1,.int .i64 0,.string (bs []),.string (bs []),.string (bs []),.string (bs []),.string (bs []),.slice none 0 0,.slice none 0 0,.slice (some ⟨n+1,0,none⟩) 1 1,.slice none 0 0] 59)=x:=⟨_,rfl⟩;have k3:Kept w2 w3:=hw3 ▸ zaA w2 _;have n3:w3.heap.size=n+1+1+1:=(by rw[<- hw3,World.size_alloc,n2]);rw[hw3] at b3 ⊢;have b4:=Blk.new w3 25 #[.slice none 0 0,.slice (some ⟨n+1+1,0,none⟩) 1 1];rw[n3] at b4;have k4:Kept w3 (w3.alloc (.cells #[.slice none 0 0,.slice (some ⟨n+1+1,0,none⟩) 1 1] 25)):=zaA w3 _;exact ⟨((k1.trans k2).trans k3).trans k4,b4,zEF (((b1.kept k2).kept k3).kept k4) ((b2.kept k3).kept k4) (b3.kept k4)⟩
theorem zt3 (w:World) (hen:EnvC w):Calls Tryz.prog 10 #[] w fun e w'=>e=.returned (.bool true)/\Kept w w':=by
 have HEN:=Hd hen;clear hen;have HSR:=Hd zsG;unfold SrcWP zhK at HSR;have HFIN:Hid (∀ w',Kept w w'->(Ending.returned (.bool true)=Ending.returned (.bool true))/\Kept w w'):=fun w' h=>⟨rfl,h⟩;have HB1:=Hd (zkC [97,117,116,104,111,114,45,100,97,116,101] w);rw[zDf] at HB1;unfold StyP at HB1;simp only[Option.getD_some,Option.isSome_some] at HB1;have HB2:=Hd (fun w=>zkC [110,117,109,101,114,105,99] w);simp only[zED] at HB2;unfold StyP at HB2;simp only[Option.getD_some,Option.isSome_some] at HB2;obtain ⟨y1,HY1⟩:∃ y,Hid (zdZ=y):=⟨_,rfl⟩;obtain ⟨y2,HY2⟩:∃ y,Hid (zkL=y):=⟨_,rfl⟩;rw[HY1.out] at HB1;simp only[HY2.out] at HB2;unfold zeJ zaE at HB1 HB2;have HSU:Hid (∀ v vE w',EnvC w'->Srcs w' v [srA,srB]->Prs w' vE y1.entries->Calls Tryz.prog 18 #[v,zeJ vE y1,.string (bs [101,110])] w' (SufPo (0,[[97],[98]]) w')):=fun v vE w' h1 h2 h3=>by
  rw[<- HY1.out] at h3 ⊢;have h:=zsE v vE [srA,srB] zdZ kEn w' h1 h2 (by simp) (fun s hs=>by
   simp only[List.mem_cons,List.not_mem_nil,or_false] at hs;rcases hs with rfl|rfl
   ·exact zu6
   ·exact zu7) h3 zxF (by decide)
  have e:zxS zdZ kEn [srA,srB]=(0,[[97],[98]]):=by
   unfold zxS;rw[if_pos zDe,if_neg (by decide),zEE];simp only[List.map_cons,List.map_nil,zpS,zpT]
  rw[e] at h;exact h
 have HFI:Hid (∀ vL vE vB w',EnvC w'->Srcs w' vL [srA,srB]->Prs w' vE y2.entries->Bls (fun g=>g<w'.heap.size) 2 1 w' vB [awB]->Calls Tryz.prog 25 #[.agg #[.slice none 0 0,vB],vL,zeJ vE y2,.string (bs [101,110])] w' (FiOne [91,49,44,32,112,46,32,51,93] w')):=fun vL vE vB w' h1 h2 h3 h4=>by
  rw[<- HY2.out] at h3 ⊢;have h:=zC9 1 (.slice none 0 0) vB vL vE [] [srA,srB] srA zkL kEn [97] [32,112,46,32,51] [] [] [] [] [] [] [] [] [] 0 [] [] [] [] [] [] w' h1 (Prs.none_ w') (by simp) h4 zDJ zu8 zDK zDL zDM h2 (by simp) (fun s hs=>by
   simp only[List.mem_cons,List.not_mem_nil,or_false] at hs;rcases hs with rfl|rfl
   ·exact zu6
   ·exact zu7) zFr zDh h3 zA6 (by decide) zEC (by decide) (by simp) (by rw[zFq];simp) (by rw[zDI];decide) (by simp) (by simp)
  rw[zDI] at h;exact h
 have HKY:Hid (∀ vB w',Bls (fun g=>g<w'.heap.size) 2 1 w' vB [awB]->Calls Tryz.prog 12 #[.agg #[.slice none 0 0,vB]] w' (CiKP [[97]] w')):=fun vB w' h=>by
  have h2:=zoM 2 1 none 0 0 vB [awB] w' h (by simp) zDJ zDK zDL zDM;rw[zu8] at h2;exact h2
 unfold SufPo at HSU;unfold FiOne at HFI;unfold CiKP at HKY;unfold zeJ zaE at HSU HFI;go_enter Tryz.func10,Tryz.ntmps10;go_wp2_with fail;refine HB1.out.mono ?_;rintro e w1 ⟨vE1,rfl,hp1,hk1⟩;obtain ⟨aE1,cE1,rfl,lE1⟩:=hp1.form;have HK1:=Hd hk1;have HP1:=Hd hp1;clear hk1 hp1 HB1;go_wp2_with fail;refine (HB2.out _).mono ?_;rintro e w2 ⟨vE2,rfl,hp2,hk2⟩;obtain ⟨aE2,cE2,rfl,lE2⟩:=hp2.form;have HY1B:=Hd ((Blk.new w1 33 #[.string (bs y1.name),.bool y1.numeric,.string (bs y1.sort),.string (bs y1.cite),.string (bs y1.bare),.string (bs y1.between),.string (bs y1.begin_),.string (bs y1.end_),.int .i64 y1.most,.slice aE1 y1.entries.length cE1]).kept hk2);have HP1:=Hd ((HP1.out.kept (zaA w1 _)).kept hk2);have HP2:=Hd hp2;have HK2:=Hd ((HK1.out.trans (zaA w1 _)).trans hk2);generalize w1.heap.size=B1 at *;clear HB2 HK1 hp2 hk2;go_wp2_with fail;refine (HSR.out [97] [78,103] [50,48,48,49] _).mono ?_;rintro e w3 ⟨gA1,gF1,rfl,ha1,hf1,hk3⟩;have HY2B:=Hd ((Blk.new w2 33 #[.string (bs y2.name),.bool y2.numeric,.string (bs y2.sort),.string (bs y2.cite),.string (bs y2.bare),.string (bs y2.between),.string (bs y2.begin_),.string (bs y2.end_),.int .i64 y2.most,.slice aE2 y2.entries.length cE2]).kept hk3);have hk23:=(zaA w2 _).trans hk3;have HK3:=Hd (HK2.out.trans hk23);have HP1:=Hd (HP1.out.kept hk23);have HP2:=Hd (HP2.out.kept hk23);have HY1B:=Hd (HY1B.out.kept hk23);have HA1:=Hd ha1;have HF1:=Hd hf1;generalize w2.heap.size=B2 at *;clear ha1 hf1 hk3 hk23 HK2;go_wp2_with fail;refine (HSR.out [98] [78,103] [50,48,48,49] _).mono ?_;rintro e w4 ⟨gA2,gF2,rfl,ha2,hf2,hk4⟩;have HK4:=Hd (HK3.out.trans hk4);have HP1:=Hd (HP1.out.kept hk4);have HP2:=Hd (HP2.out.kept hk4);have HY1B:=Hd (HY1B.out.kept hk4);have HY2B:=Hd (HY2B.out.kept hk4);have HA1:=Hd (HA1.out.kept hk4);have HF1:=Hd (HF1.out.kept hk4);have HA2:=Hd ha2;have HF2:=Hd hf2;clear ha2 hf2 hk4 HK3 HSR;have hka:=zaA w4 (.cells #[.string (bs [97]),.string (bs zkT),.slice (some ⟨gA1,0,none⟩) 1 1,.slice none 0 0,.slice (some ⟨gF1,0,none⟩) 2 2,.string (bs [98]),.string (bs zkT),.slice (some ⟨gA2,0,none⟩) 1 1,.slice none 0 0,.slice (some ⟨gF2,0,none⟩) 2 2] 50);have hbl:=Blk.new w4 50 #[.string (bs [97]),.string (bs zkT),.slice (some ⟨gA1,0,none⟩) 1 1,.slice none 0 0,.slice (some ⟨gF1,0,none⟩) 2 2,.string (bs [98]),.string (bs zkT),.slice (some ⟨gA2,0,none⟩) 1 1,.slice none 0 0,.slice (some ⟨gF2,0,none⟩) 2 2];have HSS:=Hd (zDj hbl (HA1.out.kept hka) (HF1.out.kept hka) (HA2.out.kept hka) (HF2.out.kept hka));have HY1C:=Hd (HY1B.out.kept hka);have d0:=HY1C.out.cell 0 _ rfl;have d1:=HY1C.out.cell 1 _ rfl;have d2:=HY1C.out.cell 2 _ rfl;have d3:=HY1C.out.cell 3 _ rfl;have d4:=HY1C.out.cell 4 _ rfl;have d5:=HY1C.out.cell 5 _ rfl;have d6:=HY1C.out.cell 6 _ rfl;have d7:=HY1C.out.cell 7 _ rfl;have d8:=HY1C.out.cell 8 _ rfl;have d9:=HY1C.out.cell 9 _ rfl;have HKA:=Hd hka;clear hka hbl HA1 HF1 HA2 HF2;go_wp2_with fail;refine (HSU.out _ _ _ (HEN.out.kept (HK4.out.trans HKA.out)) HSS.out (HP1.out.kept HKA.out)).mono ?_;rintro e w5 ⟨vS,rfl,hs5,hk5⟩;obtain ⟨aS,cS,rfl,lS⟩:=hs5.form;have hk45:=HKA.out.trans hk5;have HK5:=Hd (HK4.out.trans hk45);have HP2:=Hd (HP2.out.kept hk45);have HY2B:=Hd (HY2B.out.kept hk45);have HSS:=Hd (HSS.out.kept hk5);have HST:=Hd hs5;generalize w4.heap.size=L at *;clear HSU HP1 HY1B HY1C HKA HK4 hs5 hk5 hk45 d0 d1 d2 d3 d4 d5 d6 d7 d8 d9;obtain ⟨hkd,hdb,hdl⟩:=zDk w5 _ rfl;have HKD:=Hd hkd;have HDB:=Hd hdb;have HDL:=Hd hdl;have HY2C:=Hd (HY2B.out.kept hkd);have d0:=HY2C.out.cell 0 _ rfl;have d1:=HY2C.out.cell 1 _ rfl;have d2:=HY2C.out.cell 2 _ rfl;have d3:=HY2C.out.cell 3 _ rfl;have d4:=HY2C.out.cell 4 _ rfl;have d5:=HY2C.out.cell 5 _ rfl;have d6:=HY2C.out.cell 6 _ rfl;have d7:=HY2C.out.cell 7 _ rfl;have d8:=HY2C.out.cell 8 _ rfl;have d9:=HY2C.out.cell 9 _ rfl;clear hkd hdb hdl;go_wp2_with fail;refine (HFI.out _ _ _ _ (HEN.out.kept (HK5.out.trans HKD.out)) (HSS.out.kept HKD.out) (HP2.out.kept HKD.out) HDL.out).mono ?_;rintro e w6 ⟨aM6,nM6,cM6,vB6,b6,rfl,hb6,hln6,hk6⟩;obtain ⟨aB6,cB6,hvb6,lB6⟩:=hb6.form;have hvb6':vB6=.slice aB6 1 cB6:=hvb6;subst hvb6';have HB6:=Hd hb6;have hk56:=HKD.out.trans hk6;have HK6:=Hd (HK5.out.trans hk56);have HST:=Hd (HST.out.kept hk56);have HDB:=Hd (HDB.out.kept hk6);have HDL:=Hd ((HDL.out.kept hk6).mono (fun g _ q=>Nat.lt_of_lt_of_le q hk6.size));have HLN6:=Hd hln6;generalize w5.heap.size=D at *;have hka:=zaA w6 (.cells #[.slice aM6 nM6 cM6,.slice aB6 1 cB6] 25);have hdc:=HDB.out.kept hka;have d0:=hdc.cell 0 _ rfl;have d1:=hdc.cell 1 _ rfl;have HKA:=Hd hka;clear hdc hka hk6 hk56 hb6 hln6 HK5 HKD HSS HP2 HY2B HFI hvb6 d2 d3 d4 d5 d6 d7 d8 d9;go_wp2_with fail;refine (HKY.out _ _ ((HDL.out.kept HKA.out).mono (fun g _ q=>Nat.lt_of_lt_of_le q HKA.out.size))).mono ?_;rintro e w7 ⟨vK7,rfl,hs7,hk7⟩;obtain ⟨aK7,cK7,hvk7,hlK,hcK⟩:=hs7;have hlK':1<=cK7:=hlK;have hvk7':vK7=.slice aK7 1 cK7:=hvk7;subst hvk7';obtain ⟨gK,oK,rfl,hgK,hcK⟩:=hcK (by simp);have HSK:Hid (Strs w7 (.slice (some ⟨gK,oK,none⟩) 1 cK7) [[97]]):=⟨_,cK7,rfl,by omega,fun _=>⟨gK,oK,rfl,hgK,hcK⟩⟩;have hk67:=HKA.out.trans hk7;obtain ⟨aS',cS',hvS,-,hcS⟩:=HST.out.kept hk67;obtain ⟨rfl,-,rfl⟩:=Value.slice.inj hvS;obtain ⟨gS,oS,rfl,-,hcS⟩:=hcS (by simp);have ss0:=hcS 0 _ rfl;rw[Nat.add_zero] at ss0;have ss1:=hcS 1 _ rfl;have hb7:=HB6.out.kept hk67;obtain ⟨g6,o6,vC6,vP6,vL6,vK6,rfl,-,-,-,-,-,hc6,-,-,hL6,-⟩:=Bls.at_ hb7 0 b6 rfl;obtain ⟨aL6,cL6,rfl,lL6⟩:=hL6.form;have hd7:=(Blk.new w6 25 #[.slice aM6 nM6 cM6,.slice (some ⟨g6,o6,none⟩) 1 cB6]).kept hk7;have HPLN:Hid (∀ w',Kept w7 w'->Calls Tryz.prog 30 #[.slice aL6 b6.line.length cL6] w' fun e w''=>e=.returned (.string (bs [91,49,44,32,112,46,32,51,93]))/\Kept w' w''):=fun w' k=>by
  have h:=zt2 2 b6.line (.slice aL6 b6.line.length cL6) w' (hL6.kept k) (by have:=HLN6.out.2.1;omega) (fun x hx=>by
   have e:=HLN6.out.2.2 x hx;rw[e];exact ⟨by simp,fun y hy=>absurd hy (by simp)⟩) (by rw[HLN6.out.1];decide)
  rw[HLN6.out.1] at h;exact h
 have HL7:=Hd hL6;have HK7:=Hd (HK6.out.trans hk67);have dd0:=hd7.cell 0 _ rfl;have dd1:=hd7.cell 1 _ rfl;have bb9:=hc6 9 _ rfl;rw[Nat.zero_mul,Nat.add_zero] at bb9;clear hcK hcS hb7 hc6 hL6 hd7 hvS hvk7 d0 d1 HST HB6 HDB HDL HK6 HKY;generalize w6.heap.size=B9 at *;clear hk67 hk7 HKA hgK hlK hlK';go_wp2_with fail;refine (HPLN.out _ (Kept.refl _)).mono ?_;rintro e w8 ⟨rfl,hk8⟩;have kk0:w8.cell? ⟨gK,oK,none⟩=some (.string (bs [97])):=by
  obtain ⟨a,c,hv,-,hcK⟩:=HSK.out.kept hk8;obtain ⟨rfl,-,rfl⟩:=Value.slice.inj hv;obtain ⟨g,o,hgo,-,hcK⟩:=hcK (by simp);cases hgo;have h:=hcK 0 _ rfl
  rwa [Nat.add_zero] at h
 have HF8:=Hd (HFIN.out w8 (HK7.out.trans hk8));clear ss0 ss1 dd0 dd1 bb9 HPLN HSK HK7 hk8 HL7;go_wp2_with fail;refine bodyPost_ret (v:=.bool true) ?_ rfl ⟨rfl,HF8.out.2⟩;simp [results,Tryz.results10,go_sem]
theorem zu9 {L:List P4} {k:Nat} {q:P4} (h:L[k]? = some q):Lib.join ((L.take (k+1)).map zg6) [44,32]=(if k=0 then [] else Lib.join ((L.take k).map zg6) [44,32] ++ [44,32]) ++ zg6 q:=by
 rw[ztH h,zjR];obtain ⟨hk,_⟩:=List.getElem?_eq_some_iff.1 h;by_cases h0:k=0
 ·subst h0;simp
 ·rw[if_neg h0,if_neg];intro q;have:=congrArg List.length q;rw[List.length_map,List.length_take] at this;have h2:min k L.length=0:=this;omega
theorem zi3 (vA vE vF:Value) (s:SrcT) (w:World) (hA:Perss w vA s.author) (hE:Perss w vE s.editor) (hF:vF.oneCell'=true) (hl:(zhA s).length<=5) (hq:∀ q∈zhA s,q.1.length+q.2.1.length+q.2.2.1.length+q.2.2.2.length<=200) :
  Calls Tryz.prog 103 #[zhK s.key s.type vA vE vF] w fun e w'=>e=.returned (.string (bs (zcX s)))/\Kept w w':=by
 obtain ⟨aA,cA,rfl,lA⟩:=hA.shape;obtain ⟨aE,cE,rfl,lE⟩:=hE.shape;have HK0:=Hd (zaA w (.cells #[.string (bs s.key),.string (bs s.type),.slice aA s.author.length cA,.slice aE s.editor.length cE,vF] 50));have HB0:=Hd (Blk.new w 50 #[.string (bs s.key),.string (bs s.type),.slice aA s.author.length cA,.slice aE s.editor.length cE,vF]);obtain ⟨skey,styp,au,ed,fs⟩:=s;simp only at HK0 HB0 hA hE;by_cases hz:au=[]
 ·have HL:Hid (zhA ⟨skey,styp,au,ed,fs⟩=ed):=if_pos hz;rw[HL.out] at hl hq;have HJ:Hid (Lib.join (ed.map zg6) [44,32]=zcX ⟨skey,styp,au,ed,fs⟩):=(by unfold zcX;rw[HL.out];rfl);generalize zcX ⟨skey,styp,au,ed,fs⟩=R at *;subst hz;have HP:=Hd (hE.kept HK0.out);have HQ:=Hd hq;clear hA hE hq HL;go_enter Tryz.func103,Tryz.ntmps103;go_wp2_with fail;generalize w.alloc _=w1 at *;go_loopw [4,5] (fun o i wr=>∃ (k:Nat) (t:Bs),k<=ed.length/\i=.int .i64 k/\o=.string (bs t)/\Hid (Lib.join ((ed.take k).map zg6) [44,32]=t)/\t.length<=1202 * k/\Hid (Kept w1 wr)) (fun _ i _=>ed.length - (intOf i).toNat)
  case atStart=>exact ⟨0,[],Nat.zero_le _,rfl,rfl,rfl,by simp,Kept.refl _⟩
  case round =>
   obtain ⟨k,t,hk,rfl,rfl,HT,htl,HKR⟩:=hrel;by_cases hlt:k<ed.length
   ·obtain ⟨q,hx⟩:∃ x,ed[k]? = some x:=⟨_,List.getElem?_eq_getElem hlt⟩;have hqs:=HQ.out q (List.mem_of_getElem? hx);have hqi:=zpO q.1 q.2.1 q.2.2.1 q.2.2.2;have HN:=Hd (zu9 hx);rw[HT.out] at HN;obtain ⟨g,o,rfl,hg,d0,d1,d2,d3⟩:=(HP.out.kept HKR.out).at_ k q hx;obtain ⟨nm,HNM⟩:∃ nm,Hid (zg6 q=nm):=⟨_,rfl⟩;rw[HNM.out] at HN;obtain ⟨q1,q2,q3,q4⟩:=q;simp only at d0 d1 d2 d3 hqs hqi;have HIN:=Hd (zi0 q1 q2 q3 q4 false wr (by omega));have HNM2:Hid (zz8 q1 q2 q3 q4 false=nm):=HNM.out;rw[HNM2.out] at HIN hqi;clear hx HNM HNM2;by_cases hk0:k=0
    ·have HN2:Hid (Lib.join ((ed.take (k+1)).map zg6) [44,32]=t ++ nm):=by
      show _=_;have h:=HN.out;rw[if_pos hk0] at h;rw[h];have:t=[]:=List.length_eq_zero_iff.1 (by omega);rw[this]
     have hp:decide (0<(k:Int))=false:=decide_eq_false (by omega);have hp2:¬ 0<k:=(by omega);clear HN hk0;go_wp2_with fail;refine HIN.out.mono ?_;rintro e w3 ⟨rfl,hk3⟩;have HK3:=Hd (HKR.out.trans hk3);clear hk3 HIN d0 d1 d2 d3 HKR;go_wp2_with fail;go_roundw
     case rel=>exact ⟨k+1,t ++ nm,by omega,by go_num,by simp,HN2.out,by simp;omega,HK3.out⟩
     case measure=>simp [intOf];omega
    ·have HN2:Hid (Lib.join ((ed.take (k+1)).map zg6) [44,32]=t ++ [44,32] ++ nm):=by
      show _=_;have h:=HN.out;rw[if_neg hk0] at h;exact h
     have hp:decide (0<(k:Int))=true:=decide_eq_true (by omega);have hp2:0<k:=(by omega);clear HN hk0;go_wp2_with fail;refine HIN.out.mono ?_;rintro e w3 ⟨rfl,hk3⟩;have HK3:=Hd (HKR.out.trans hk3);clear hk3 HIN d0 d1 d2 d3 HKR;go_wp2_with fail;go_roundw
     case rel=>exact ⟨k+1,t ++ [44,32] ++ nm,by omega,by go_num,by simp,HN2.out,by simp;omega,HK3.out⟩
     case measure=>simp [intOf];omega
   ·obtain rfl:k=ed.length:=(by omega);rw[List.take_length] at HT;have HR:Hid (R=t):=(by show _=_;rw[<- HJ.out,HT.out]);have HKZ:=Hd (HK0.out.trans HKR.out);clear HT HJ HKR;go_wp2_with fail
    (try go_ret)
    exact ⟨zc6 (by rw[HR.out]),HKZ.out⟩
 ·have HL:Hid (zhA ⟨skey,styp,au,ed,fs⟩=au):=if_neg hz;rw[HL.out] at hl hq;have HJ:Hid (Lib.join (au.map zg6) [44,32]=zcX ⟨skey,styp,au,ed,fs⟩):=(by unfold zcX;rw[HL.out];rfl);generalize zcX ⟨skey,styp,au,ed,fs⟩=R at *;have hnz:0<au.length:=by
     rcases Nat.eq_zero_or_pos au.length with e|e
     ·exact absurd (List.length_eq_zero_iff.1 e) hz
     ·exact e
  have hnz1:¬ au.length=0:=(by omega);have hnz2:decide ((au.length:Int)=0)=false:=decide_eq_false (by omega);clear hz;have HP:=Hd (hA.kept HK0.out);have HQ:=Hd hq;clear hA hE hq HL;go_enter Tryz.func103,Tryz.ntmps103;go_wp2_with fail;generalize w.alloc _=w1 at *;go_loopw [4,5] (fun o i wr=>∃ (k:Nat) (t:Bs),k<=au.length/\i=.int .i64 k/\o=.string (bs t)/\Hid (Lib.join ((au.take k).map zg6) [44,32]=t)/\t.length<=1202 * k/\Hid (Kept w1 wr)) (fun _ i _=>au.length - (intOf i).toNat)
  case atStart=>exact ⟨0,[],Nat.zero_le _,rfl,rfl,rfl,by simp,Kept.refl _⟩
  case round =>
   obtain ⟨k,t,hk,rfl,rfl,HT,htl,HKR⟩:=hrel;by_cases hlt:k<au.length
   ·obtain ⟨q,hx⟩:∃ x,au[k]? = some x:=⟨_,List.getElem?_eq_getElem hlt⟩;have hqs:=HQ.out q (List.mem_of_getElem? hx);have hqi:=zpO q.1 q.2.1 q.2.2.1 q.2.2.2;have HN:=Hd (zu9 hx);rw[HT.out] at HN;obtain ⟨g,o,rfl,hg,d0,d1,d2,d3⟩:=(HP.out.kept HKR.out).at_ k q hx;obtain ⟨nm,HNM⟩:∃ nm,Hid (zg6 q=nm):=⟨_,rfl⟩;rw[HNM.out] at HN;obtain ⟨q1,q2,q3,q4⟩:=q;simp only at d0 d1 d2 d3 hqs hqi;have HIN:=Hd (zi0 q1 q2 q3 q4 false wr (by omega));have HNM2:Hid (zz8 q1 q2 q3 q4 false=nm):=HNM.out;rw[HNM2.out] at HIN hqi;clear hx HNM HNM2;by_cases hk0:k=0
    ·have HN2:Hid (Lib.join ((au.take (k+1)).map zg6) [44,32]=t ++ nm):=by
      show _=_;have h:=HN.out;rw[if_pos hk0] at h;rw[h];have:t=[]:=List.length_eq_zero_iff.1 (by omega);rw[this]
     have hp:decide (0<(k:Int))=false:=decide_eq_false (by omega);have hp2:¬ 0<k:=(by omega);clear HN hk0;go_wp2_with fail;refine HIN.out.mono ?_;rintro e w3 ⟨rfl,hk3⟩;have HK3:=Hd (HKR.out.trans hk3);clear hk3 HIN d0 d1 d2 d3 HKR;go_wp2_with fail;go_roundw
     case rel=>exact ⟨k+1,t ++ nm,by omega,by go_num,by simp,HN2.out,by simp;omega,HK3.out⟩
     case measure=>simp [intOf];omega
    ·have HN2:Hid (Lib.join ((au.take (k+1)).map zg6) [44,32]=t ++ [44,32] ++ nm):=by
      show _=_;have h:=HN.out;rw[if_neg hk0] at h;exact h
     have hp:decide (0<(k:Int))=true:=decide_eq_true (by omega);have hp2:0<k:=(by omega);clear HN hk0;go_wp2_with fail;refine HIN.out.mono ?_;rintro e w3 ⟨rfl,hk3⟩;have HK3:=Hd (HKR.out.trans hk3);clear hk3 HIN d0 d1 d2 d3 HKR;go_wp2_with fail;go_roundw
     case rel=>exact ⟨k+1,t ++ [44,32] ++ nm,by omega,by go_num,by simp,HN2.out,by simp;omega,HK3.out⟩
     case measure=>simp [intOf];omega
   ·obtain rfl:k=au.length:=(by omega);rw[List.take_length] at HT;have HR:Hid (R=t):=(by show _=_;rw[<- HJ.out,HT.out]);have HKZ:=Hd (HK0.out.trans HKR.out);clear HT HJ HKR;go_wp2_with fail
    (try go_ret)
    exact ⟨zc6 (by rw[HR.out]),HKZ.out⟩
end Go.Proofs.YtmcoomlkbgiboaaGreatDoor
