/- cite.compare, Order$1: sources compared. Conditions: the collation is small; lengths. -/
import Derived.Test.YtmcoomlkbgiboaaGreatDoorV24
import Derived.Test.YtmcoomlkbgiboaaGreatDoorV28
import Derived.Test.YtmcoomlkbgiboaaGreatDoorV13
import Derived.Test.YtmcoomlkbgiboaaGreatDoorV02
import Derived.Test.YtmcoomlkbgiboaaGreatDoorV04
import Derived.Test.YtmcoomlkbgiboaaGreatDoorV01
import Derived.Test.YtmcoomlkbgiboaaGreatDoorV26
import Derived.Test.YtmcoomlkbgiboaaGreatDoorV27
import Derived.Test.YtmcoomlkbgiboaaGreatDoorV19
import Derived.Test.YtmcoomlkbgiboaaGreatDoorV21
import Derived.Test.YtmcoomlkbgiboaaGreatDoorV09
import Derived.Laws.StructEq
import Derived.Lib.ItoaNum
import Derived.Lib.Fields
set_option linter.all false
set_option maxRecDepth 100000
set_option maxHeartbeats 6400000
namespace Go.Proofs.YtmcoomlkbgiboaaGreatDoor
open Go.RowKit
def zFC (x:KeyT):Value:=.agg #[.string (bs x.author),.int .i64 x.year,.string (bs x.title),.string (bs x.key)]
def FitKy (x:KeyT):Prop:=x.author.length<=100000/\x.title.length<=100000/\x.key.length<=100000/\(-9223372036854775808<=x.year/\x.year<=9223372036854775807)
theorem zpM (vR vO:Value) (c:ColT) (wd:Bs) (x y:KeyT) (w:World) (hc:Col w vR vO c) (hs:SmallC c) (hx:FitKy x) (hy:FitKy y) :
  Calls Tryz.prog 42 #[zmZ vR vO c.ignore,.string (bs wd),zFC x,zFC y] w fun e w'=>e=.returned (.int .i64 (zb8 c wd x y))/\Kept w w':=by
 obtain ⟨x1,x2,x3,x4⟩:=hx;obtain ⟨y1,y2,y3,y4⟩:=hy;have HA:=Hd (fun w' (k:Kept w w')=>zmH vR vO c x.author y.author w' (hc.kept k) hs x1 y1);have HT:=Hd (fun w' (k:Kept w w')=>zmH vR vO c x.title y.title w' (hc.kept k) hs x2 y2);have HY:=Hd (fun w'=>Tryz.cmp_Compare_int x.year y.year w');have HK:=Hd (fun w'=>Tryz.strings_Compare (bs x.key) (bs y.key) w');obtain ⟨aR,cR,rfl,lR⟩:=hc.1.form;obtain ⟨aO,cO,rfl,lO⟩:=hc.2.form;have HW:Hid (zb8 c wd x y=if wd=zeT then zgV c x.author y.author else if wd=znG then zBj x.year y.year else if wd=zb1 then zgV c x.title y.title else zkJ x.key y.key):=rfl;rw[HW.out];unfold zmZ at HA HT;obtain ⟨xa,xy,xt,xk⟩:=x;obtain ⟨ya,yy,yt,yk⟩:=y;simp only at HA HT HY HK;clear hc hs x1 x2 x3 y1 y2 y3 HW;have HK0:Hid (Kept w (((w.alloc (.cells #[.slice aR c.ranks.length cR,.slice aO c.order.length cO,.string (bs c.ignore)] 88)).alloc (.cells #[.string (bs xa),.int .i64 xy,.string (bs xt),.string (bs xk)] 84)).alloc (.cells #[.string (bs ya),.int .i64 yy,.string (bs yt),.string (bs yk)] 84))):=((zaA w _).trans (zaA _ _)).trans (zaA _ _);have hb:=((Blk.new w 88 #[.slice aR c.ranks.length cR,.slice aO c.order.length cO,.string (bs c.ignore)]).alloc (.cells #[.string (bs xa),.int .i64 xy,.string (bs xt),.string (bs xk)] 84)).alloc (.cells #[.string (bs ya),.int .i64 yy,.string (bs yt),.string (bs yk)] 84);have hx:=(Blk.new (w.alloc (.cells #[.slice aR c.ranks.length cR,.slice aO c.order.length cO,.string (bs c.ignore)] 88)) 84 #[.string (bs xa),.int .i64 xy,.string (bs xt),.string (bs xk)]).alloc (.cells #[.string (bs ya),.int .i64 yy,.string (bs yt),.string (bs yk)] 84);have hy:=Blk.new ((w.alloc (.cells #[.slice aR c.ranks.length cR,.slice aO c.order.length cO,.string (bs c.ignore)] 88)).alloc (.cells #[.string (bs xa),.int .i64 xy,.string (bs xt),.string (bs xk)] 84)) 84 #[.string (bs ya),.int .i64 yy,.string (bs yt),.string (bs yk)];obtain ⟨B,HBB⟩:∃ B,Hid (w.heap.size=B):=⟨_,rfl⟩;simp only[World.size_alloc,HBB.out] at hb hx hy;have q0:=hb.cell 0 _ rfl;have q1:=hb.cell 1 _ rfl;have q2:=hb.cell 2 _ rfl;have qz:=hb.lt;have x0:=hx.cell 0 _ rfl;have x1:=hx.cell 1 _ rfl;have x2:=hx.cell 2 _ rfl;have x3:=hx.cell 3 _ rfl;have xz:=hx.lt;have y0:=hy.cell 0 _ rfl;have y1:=hy.cell 1 _ rfl;have y2:=hy.cell 2 _ rfl;have y3:=hy.cell 3 _ rfl;have yz:=hy.lt;clear hb hx hy;unfold zeT znG zb1 zmZ zFC;dsimp only;by_cases h1:wd=[97,117,116,104,111,114]
 ·rw[if_pos h1];subst h1;go_enter Tryz.func42,Tryz.ntmps42;go_upto_region 1 with fail;rw[HBB.out];generalize World.alloc (World.alloc (World.alloc w _) _) _=w0 at *;go_wp2_with fail;refine (HA.out _ HK0.out).mono ?_;rintro e w5 ⟨rfl,hk⟩;have HKZ:=Hd (HK0.out.trans hk);clear hk HA HT HY HK;go_wp2_with fail
  (try go_ret)
  exact ⟨rfl,HKZ.out⟩
 have b1:(wd == [97,117,116,104,111,114])=false:=(by rw[beq_eq_false_iff_ne];exact h1);rw[if_neg h1];by_cases h2:wd=[121,101,97,114]
 ·rw[if_pos h2];subst h2;go_enter Tryz.func42,Tryz.ntmps42;go_upto_region 1 with fail;rw[HBB.out];generalize World.alloc (World.alloc (World.alloc w _) _) _=w0 at *;go_wp2_with fail;refine (HY.out _).mono ?_;rintro e w5 ⟨rfl,rfl⟩;clear HA HT HY HK;go_wp2_with fail
  (try go_ret)
  exact ⟨rfl,HK0.out⟩
 have b2:(wd == [121,101,97,114])=false:=(by rw[beq_eq_false_iff_ne];exact h2);rw[if_neg h2];by_cases h3:wd=[116,105,116,108,101]
 ·rw[if_pos h3];subst h3;go_enter Tryz.func42,Tryz.ntmps42;go_upto_region 1 with fail;rw[HBB.out];generalize World.alloc (World.alloc (World.alloc w _) _) _=w0 at *;go_wp2_with fail;refine (HT.out _ HK0.out).mono ?_;rintro e w5 ⟨rfl,hk⟩;have HKZ:=Hd (HK0.out.trans hk);clear hk HA HT HY HK;go_wp2_with fail
  (try go_ret)
  exact ⟨rfl,HKZ.out⟩
 have b3:(wd == [116,105,116,108,101])=false:=(by rw[beq_eq_false_iff_ne];exact h3);rw[if_neg h3];have HE:=Hd (zpK xk yk);go_enter Tryz.func42,Tryz.ntmps42;go_upto_region 1 with fail;rw[HBB.out];generalize World.alloc (World.alloc (World.alloc w _) _) _=w0 at *;go_wp2_with fail;refine (HK.out _).mono ?_;rintro e w5 ⟨rfl,rfl⟩;clear HA HT HY HK;go_wp2_with fail
 (try go_ret)
 exact ⟨zaG (by simpa using HE.out),HK0.out⟩
theorem zAg {x y:KeyT}:(x.author == y.author && (x.year == y.year && (x.title == y.title && x.key == y.key)))=true↔x=y:=by
 obtain ⟨a,b,c,d⟩:=x;obtain ⟨e,f,g,h⟩:=y;simp
theorem zEe (c:ColT) (ws:List Bs) (k:Nat) (h:ws.length<=k) (x y:KeyT):cfW c (ws.drop k) x y=0:=by
 rw[List.drop_of_length_le h];rfl
theorem zrQ (C C2:Nat) (vW vR vO:Value) (c:ColT) (ws:List Bs) (x y:SorT) (aA aE aF aA' aE' aF':Option Addr) (nA nE nF nA' nE' nF' cA cE cF cA' cE' cF':Nat) (w:World)
  (hW:Blk w C 29 #[vW]) (hws:Strs w vW ws) (hcb:Blk w C2 88 #[vR,vO,.string (bs c.ignore)]) (hc:Col w vR vO c) (hs:SmallC c) (hx:FitKy x.k) (hy:FitKy y.k) (hwl:ws.length<=1000000) :
  Calls Tryz.prog 41 #[.agg (zEQ x (.slice aA nA cA) (.slice aE nE cE) (.slice aF nF cF)).toArray,.agg (zEQ y (.slice aA' nA' cA') (.slice aE' nE' cE') (.slice aF' nF' cF')).toArray,.pointer (some ⟨C,0,none⟩),.pointer (some ⟨C2,0,none⟩)] w fun e w'=>e=.returned (.int .i64 (cfW c ws x.k y.k))/\Kept w w':=by
 have HCM:=Hd (fun (wd:Bs) w' (k:Kept w w')=>zpM vR vO c wd x.k y.k w' (hc.kept k) hs hx hy);have HSELF:=Hd (fun h:x.k=y.k=>(show cfW c ws x.k y.k=0 by rw[h];exact zCa c ws y.k));have HSAME:=Hd (zAg (x:=x.k) (y:=y.k));have HDR:=Hd (fun k wd (h:ws[k]? = some wd)=>zuZ (c:=c) h x.k y.k);have HEND:=Hd (fun k h=>zEe c ws k h x.k y.k);have HWS:=Hd hws;obtain ⟨aW,cW,rfl,lW⟩:=(show ∃ a cc,vW=.slice a ws.length cc/\ws.length<=cc by obtain ⟨a,c,e,l,_⟩:=hws;exact ⟨a,c,e,l⟩);obtain ⟨aR,cR,rfl,lR⟩:=hc.1.form;obtain ⟨aO,cO,rfl,lO⟩:=hc.2.form;unfold zmZ zFC at HCM;obtain ⟨⟨xa,xy,xt,xk⟩,⟨xsk,xst,xau,xed,xfs⟩⟩:=x;obtain ⟨⟨ya,yy,yt,yk⟩,⟨ysk,yst,yau,yed,yfs⟩⟩:=y;unfold zEQ;simp only at HCM HSELF HSAME HDR HEND;dsimp only;have HK0:Hid (Kept w ((w.alloc (.cells #[.string (bs xa),.int .i64 xy,.string (bs xt),.string (bs xk),.string (bs xsk),.string (bs xst),.slice aA nA cA,.slice aE nE cE,.slice aF nF cF] 86)).alloc (.cells #[.string (bs ya),.int .i64 yy,.string (bs yt),.string (bs yk),.string (bs ysk),.string (bs yst),.slice aA' nA' cA',.slice aE' nE' cE',.slice aF' nF' cF'] 86))):=(zaA w _).trans (zaA _ _);have hxb:=(Blk.new w 86 #[.string (bs xa),.int .i64 xy,.string (bs xt),.string (bs xk),.string (bs xsk),.string (bs xst),.slice aA nA cA,.slice aE nE cE,.slice aF nF cF]).alloc (.cells #[.string (bs ya),.int .i64 yy,.string (bs yt),.string (bs yk),.string (bs ysk),.string (bs yst),.slice aA' nA' cA',.slice aE' nE' cE',.slice aF' nF' cF'] 86);have hyb:=Blk.new (w.alloc (.cells #[.string (bs xa),.int .i64 xy,.string (bs xt),.string (bs xk),.string (bs xsk),.string (bs xst),.slice aA nA cA,.slice aE nE cE,.slice aF nF cF] 86)) 86 #[.string (bs ya),.int .i64 yy,.string (bs yt),.string (bs yk),.string (bs ysk),.string (bs yst),.slice aA' nA' cA',.slice aE' nE' cE',.slice aF' nF' cF'];obtain ⟨B,HBB⟩:∃ B,Hid (w.heap.size=B):=⟨_,rfl⟩;simp only[World.size_alloc,HBB.out] at hxb hyb;have HXB:=Hd hxb;have HYB:=Hd hyb;have HWB:=Hd (hW.kept HK0.out);have HCB:=Hd (hcb.kept HK0.out);have HF0:Hid (∀ n w',n=cfW c ws ⟨xa,xy,xt,xk⟩ ⟨ya,yy,yt,yk⟩->Kept w w'->(Ending.returned (.int .i64 n)=.returned (.int .i64 (cfW c ws ⟨xa,xy,xt,xk⟩ ⟨ya,yy,yt,yk⟩))/\Kept w w')):=fun n w' e k=>⟨by rw[e],k⟩;have hd0:cfW c ws ⟨xa,xy,xt,xk⟩ ⟨ya,yy,yt,yk⟩=cfW c (ws.drop 0) ⟨xa,xy,xt,xk⟩ ⟨ya,yy,yt,yk⟩:=rfl;obtain ⟨R,HR⟩:∃ R,Hid (cfW c ws ⟨xa,xy,xt,xk⟩ ⟨ya,yy,yt,yk⟩=R):=⟨_,rfl⟩;have HD0:=Hd hd0;rw[HR.out] at HF0 HD0 HSELF ⊢;clear hxb hyb hW hcb hws hc hs hx hy hd0;go_enter Tryz.func41,Tryz.ntmps41;go_upto_region 1 with fail;rw[HBB.out];generalize World.alloc (World.alloc w _) _=w0 at *;have x0:=HXB.out.cell 0 _ rfl;have x1:=HXB.out.cell 1 _ rfl;have x2:=HXB.out.cell 2 _ rfl;have x3:=HXB.out.cell 3 _ rfl;have xz:=HXB.out.lt;have y0:=HYB.out.cell 0 _ rfl;have y1:=HYB.out.cell 1 _ rfl;have y2:=HYB.out.cell 2 _ rfl;have y3:=HYB.out.cell 3 _ rfl;have yz:=HYB.out.lt;have w0c:=HWB.out.cell 0 _ rfl;have wz:=HWB.out.lt;by_cases ha:xa=ya
 ·subst ha;by_cases hy:xy=yy
  ·subst hy;by_cases ht:xt=yt
   ·subst ht;by_cases hk:xk=yk
    ·subst hk;have HRZ:=Hd (HF0.out 0 w0 (HSELF.out rfl).symm HK0.out);clear HSELF HSAME HCM HDR HEND HF0;go_wp2_with fail
     (try go_ret)
     exact HRZ.out
    ·have hk0:(xk == yk)=false:=(by rw[beq_eq_false_iff_ne];exact hk);clear HSELF HSAME;go_wp2_with fail;go_loopw [17] (fun i wr=>∃ (k:Nat),k<=ws.length/\i=.int .i64 k/\Hid (R=cfW c (ws.drop k) ⟨xa,xy,xt,xk⟩ ⟨xa,xy,xt,yk⟩)/\Hid (Kept w0 wr)) (fun i _=>ws.length - (intOf i).toNat)
     case atStart=>exact ⟨0,Nat.zero_le _,rfl,HD0.out,Kept.refl _⟩
     case round =>
      clear x0 x1 x2 x3 xz y0 y1 y2 y3 yz w0c wz;obtain ⟨k,hkk,rfl,HRK,HKR⟩:=hrel;by_cases hlt:k<ws.length
      ·obtain ⟨wd,hx⟩:∃ x,ws[k]? = some x:=⟨_,List.getElem?_eq_getElem hlt⟩;obtain ⟨g,o,rfl,hg,d0,-,-⟩:=(HWS.out.kept (HK0.out.trans HKR.out)).cell_of k wd hx;have HX2:=Hd (HDR.out k wd hx);have HC:=Hd (HCM.out wd wr (HK0.out.trans HKR.out));have x0:=(HXB.out.kept HKR.out).cell 0 _ rfl;have x1:=(HXB.out.kept HKR.out).cell 1 _ rfl;have x2:=(HXB.out.kept HKR.out).cell 2 _ rfl;have x3:=(HXB.out.kept HKR.out).cell 3 _ rfl;have xz:=(HXB.out.kept HKR.out).lt;have y0:=(HYB.out.kept HKR.out).cell 0 _ rfl;have y1:=(HYB.out.kept HKR.out).cell 1 _ rfl;have y2:=(HYB.out.kept HKR.out).cell 2 _ rfl;have y3:=(HYB.out.kept HKR.out).cell 3 _ rfl;have yz:=(HYB.out.kept HKR.out).lt;have q0:=(HCB.out.kept HKR.out).cell 0 _ rfl;have q1:=(HCB.out.kept HKR.out).cell 1 _ rfl;have q2:=(HCB.out.kept HKR.out).cell 2 _ rfl;have qz:=(HCB.out.kept HKR.out).lt;obtain ⟨n,HN⟩:∃ n,Hid (zb8 c wd ⟨xa,xy,xt,xk⟩ ⟨xa,xy,xt,yk⟩=n):=⟨_,rfl⟩;rw[HN.out] at HC HX2;clear hx HN;go_wp2_with fail;refine HC.out.mono ?_;rintro e w5 ⟨rfl,hk5⟩;have HK5:=Hd (HKR.out.trans hk5);clear hk5 HC x0 x1 x2 x3 xz y0 y1 y2 y3 yz q0 q1 q2 qz d0;by_cases hn0:n=0
       ·subst hn0;have HR2:Hid (R=cfW c (ws.drop (k+1)) ⟨xa,xy,xt,xk⟩ ⟨xa,xy,xt,yk⟩):=by
         show _=_;rw[HRK.out,HX2.out,if_neg (by simp)]
        clear HRK HX2;go_wp2_with fail;go_roundw
        case rel=>exact ⟨k+1,by omega,by go_num,HR2.out,HK5.out⟩
        case measure=>simp [intOf];omega
       ·have HR2:=Hd (HF0.out n w5 (by rw[HRK.out,HX2.out,if_pos hn0]) (HK0.out.trans HK5.out));clear HRK HX2;go_wp2_with fail
        (try go_ret)
        exact HR2.out
      ·have HR2:=Hd (HF0.out 0 wr (by rw[HRK.out,HEND.out k (by omega)]) (HK0.out.trans HKR.out));clear HRK;go_wp2_with fail
       (try go_ret)
       exact HR2.out
   ·have ht0:(xt == yt)=false:=(by rw[beq_eq_false_iff_ne];exact ht);clear HSELF HSAME;go_wp2_with fail;go_loopw [17] (fun i wr=>∃ (k:Nat),k<=ws.length/\i=.int .i64 k/\Hid (R=cfW c (ws.drop k) ⟨xa,xy,xt,xk⟩ ⟨xa,xy,yt,yk⟩)/\Hid (Kept w0 wr)) (fun i _=>ws.length - (intOf i).toNat)
    case atStart=>exact ⟨0,Nat.zero_le _,rfl,HD0.out,Kept.refl _⟩
    case round =>
     clear x0 x1 x2 x3 xz y0 y1 y2 y3 yz w0c wz;obtain ⟨k,hkk,rfl,HRK,HKR⟩:=hrel;by_cases hlt:k<ws.length
     ·obtain ⟨wd,hx⟩:∃ x,ws[k]? = some x:=⟨_,List.getElem?_eq_getElem hlt⟩;obtain ⟨g,o,rfl,hg,d0,-,-⟩:=(HWS.out.kept (HK0.out.trans HKR.out)).cell_of k wd hx;have HX2:=Hd (HDR.out k wd hx);have HC:=Hd (HCM.out wd wr (HK0.out.trans HKR.out));have x0:=(HXB.out.kept HKR.out).cell 0 _ rfl;have x1:=(HXB.out.kept HKR.out).cell 1 _ rfl;have x2:=(HXB.out.kept HKR.out).cell 2 _ rfl;have x3:=(HXB.out.kept HKR.out).cell 3 _ rfl;have xz:=(HXB.out.kept HKR.out).lt;have y0:=(HYB.out.kept HKR.out).cell 0 _ rfl;have y1:=(HYB.out.kept HKR.out).cell 1 _ rfl;have y2:=(HYB.out.kept HKR.out).cell 2 _ rfl;have y3:=(HYB.out.kept HKR.out).cell 3 _ rfl;have yz:=(HYB.out.kept HKR.out).lt;have q0:=(HCB.out.kept HKR.out).cell 0 _ rfl;have q1:=(HCB.out.kept HKR.out).cell 1 _ rfl;have q2:=(HCB.out.kept HKR.out).cell 2 _ rfl;have qz:=(HCB.out.kept HKR.out).lt;obtain ⟨n,HN⟩:∃ n,Hid (zb8 c wd ⟨xa,xy,xt,xk⟩ ⟨xa,xy,yt,yk⟩=n):=⟨_,rfl⟩;rw[HN.out] at HC HX2;clear hx HN;go_wp2_with fail;refine HC.out.mono ?_;rintro e w5 ⟨rfl,hk5⟩;have HK5:=Hd (HKR.out.trans hk5);clear hk5 HC x0 x1 x2 x3 xz y0 y1 y2 y3 yz q0 q1 q2 qz d0;by_cases hn0:n=0
      ·subst hn0;have HR2:Hid (R=cfW c (ws.drop (k+1)) ⟨xa,xy,xt,xk⟩ ⟨xa,xy,yt,yk⟩):=by
        show _=_;rw[HRK.out,HX2.out,if_neg (by simp)]
       clear HRK HX2;go_wp2_with fail;go_roundw
       case rel=>exact ⟨k+1,by omega,by go_num,HR2.out,HK5.out⟩
       case measure=>simp [intOf];omega
      ·have HR2:=Hd (HF0.out n w5 (by rw[HRK.out,HX2.out,if_pos hn0]) (HK0.out.trans HK5.out));clear HRK HX2;go_wp2_with fail
       (try go_ret)
       exact HR2.out
     ·have HR2:=Hd (HF0.out 0 wr (by rw[HRK.out,HEND.out k (by omega)]) (HK0.out.trans HKR.out));clear HRK;go_wp2_with fail
      (try go_ret)
      exact HR2.out
  ·have hy0:(xy == yy)=false:=(by rw[beq_eq_false_iff_ne];exact hy);clear HSELF HSAME;go_wp2_with fail;go_loopw [17] (fun i wr=>∃ (k:Nat),k<=ws.length/\i=.int .i64 k/\Hid (R=cfW c (ws.drop k) ⟨xa,xy,xt,xk⟩ ⟨xa,yy,yt,yk⟩)/\Hid (Kept w0 wr)) (fun i _=>ws.length - (intOf i).toNat)
   case atStart=>exact ⟨0,Nat.zero_le _,rfl,HD0.out,Kept.refl _⟩
   case round =>
    clear x0 x1 x2 x3 xz y0 y1 y2 y3 yz w0c wz;obtain ⟨k,hkk,rfl,HRK,HKR⟩:=hrel;by_cases hlt:k<ws.length
    ·obtain ⟨wd,hx⟩:∃ x,ws[k]? = some x:=⟨_,List.getElem?_eq_getElem hlt⟩;obtain ⟨g,o,rfl,hg,d0,-,-⟩:=(HWS.out.kept (HK0.out.trans HKR.out)).cell_of k wd hx;have HX2:=Hd (HDR.out k wd hx);have HC:=Hd (HCM.out wd wr (HK0.out.trans HKR.out));have x0:=(HXB.out.kept HKR.out).cell 0 _ rfl;have x1:=(HXB.out.kept HKR.out).cell 1 _ rfl;have x2:=(HXB.out.kept HKR.out).cell 2 _ rfl;have x3:=(HXB.out.kept HKR.out).cell 3 _ rfl;have xz:=(HXB.out.kept HKR.out).lt;have y0:=(HYB.out.kept HKR.out).cell 0 _ rfl;have y1:=(HYB.out.kept HKR.out).cell 1 _ rfl;have y2:=(HYB.out.kept HKR.out).cell 2 _ rfl;have y3:=(HYB.out.kept HKR.out).cell 3 _ rfl;have yz:=(HYB.out.kept HKR.out).lt;have q0:=(HCB.out.kept HKR.out).cell 0 _ rfl;have q1:=(HCB.out.kept HKR.out).cell 1 _ rfl;have q2:=(HCB.out.kept HKR.out).cell 2 _ rfl;have qz:=(HCB.out.kept HKR.out).lt;obtain ⟨n,HN⟩:∃ n,Hid (zb8 c wd ⟨xa,xy,xt,xk⟩ ⟨xa,yy,yt,yk⟩=n):=⟨_,rfl⟩;rw[HN.out] at HC HX2;clear hx HN;go_wp2_with fail;refine HC.out.mono ?_;rintro e w5 ⟨rfl,hk5⟩;have HK5:=Hd (HKR.out.trans hk5);clear hk5 HC x0 x1 x2 x3 xz y0 y1 y2 y3 yz q0 q1 q2 qz d0;by_cases hn0:n=0
     ·subst hn0;have HR2:Hid (R=cfW c (ws.drop (k+1)) ⟨xa,xy,xt,xk⟩ ⟨xa,yy,yt,yk⟩):=by
       show _=_;rw[HRK.out,HX2.out,if_neg (by simp)]
      clear HRK HX2;go_wp2_with fail;go_roundw
      case rel=>exact ⟨k+1,by omega,by go_num,HR2.out,HK5.out⟩
      case measure=>simp [intOf];omega
     ·have HR2:=Hd (HF0.out n w5 (by rw[HRK.out,HX2.out,if_pos hn0]) (HK0.out.trans HK5.out));clear HRK HX2;go_wp2_with fail
      (try go_ret)
      exact HR2.out
    ·have HR2:=Hd (HF0.out 0 wr (by rw[HRK.out,HEND.out k (by omega)]) (HK0.out.trans HKR.out));clear HRK;go_wp2_with fail
     (try go_ret)
     exact HR2.out
 ·have ha0:(xa == ya)=false:=(by rw[beq_eq_false_iff_ne];exact ha);clear HSELF HSAME;go_wp2_with fail;go_loopw [17] (fun i wr=>∃ (k:Nat),k<=ws.length/\i=.int .i64 k/\Hid (R=cfW c (ws.drop k) ⟨xa,xy,xt,xk⟩ ⟨ya,yy,yt,yk⟩)/\Hid (Kept w0 wr)) (fun i _=>ws.length - (intOf i).toNat)
  case atStart=>exact ⟨0,Nat.zero_le _,rfl,HD0.out,Kept.refl _⟩
  case round =>
   clear x0 x1 x2 x3 xz y0 y1 y2 y3 yz w0c wz;obtain ⟨k,hkk,rfl,HRK,HKR⟩:=hrel;by_cases hlt:k<ws.length
   ·obtain ⟨wd,hx⟩:∃ x,ws[k]? = some x:=⟨_,List.getElem?_eq_getElem hlt⟩;obtain ⟨g,o,rfl,hg,d0,-,-⟩:=(HWS.out.kept (HK0.out.trans HKR.out)).cell_of k wd hx;have HX2:=Hd (HDR.out k wd hx);have HC:=Hd (HCM.out wd wr (HK0.out.trans HKR.out));have x0:=(HXB.out.kept HKR.out).cell 0 _ rfl;have x1:=(HXB.out.kept HKR.out).cell 1 _ rfl;have x2:=(HXB.out.kept HKR.out).cell 2 _ rfl;have x3:=(HXB.out.kept HKR.out).cell 3 _ rfl;have xz:=(HXB.out.kept HKR.out).lt;have y0:=(HYB.out.kept HKR.out).cell 0 _ rfl;have y1:=(HYB.out.kept HKR.out).cell 1 _ rfl;have y2:=(HYB.out.kept HKR.out).cell 2 _ rfl;have y3:=(HYB.out.kept HKR.out).cell 3 _ rfl;have yz:=(HYB.out.kept HKR.out).lt;have q0:=(HCB.out.kept HKR.out).cell 0 _ rfl;have q1:=(HCB.out.kept HKR.out).cell 1 _ rfl;have q2:=(HCB.out.kept HKR.out).cell 2 _ rfl;have qz:=(HCB.out.kept HKR.out).lt;obtain ⟨n,HN⟩:∃ n,Hid (zb8 c wd ⟨xa,xy,xt,xk⟩ ⟨ya,yy,yt,yk⟩=n):=⟨_,rfl⟩;rw[HN.out] at HC HX2;clear hx HN;go_wp2_with fail;refine HC.out.mono ?_;rintro e w5 ⟨rfl,hk5⟩;have HK5:=Hd (HKR.out.trans hk5);clear hk5 HC x0 x1 x2 x3 xz y0 y1 y2 y3 yz q0 q1 q2 qz d0;by_cases hn0:n=0
    ·subst hn0;have HR2:Hid (R=cfW c (ws.drop (k+1)) ⟨xa,xy,xt,xk⟩ ⟨ya,yy,yt,yk⟩):=by
      show _=_;rw[HRK.out,HX2.out,if_neg (by simp)]
     clear HRK HX2;go_wp2_with fail;go_roundw
     case rel=>exact ⟨k+1,by omega,by go_num,HR2.out,HK5.out⟩
     case measure=>simp [intOf];omega
    ·have HR2:=Hd (HF0.out n w5 (by rw[HRK.out,HX2.out,if_pos hn0]) (HK0.out.trans HK5.out));clear HRK HX2;go_wp2_with fail
     (try go_ret)
     exact HR2.out
   ·have HR2:=Hd (HF0.out 0 wr (by rw[HRK.out,HEND.out k (by omega)]) (HK0.out.trans HKR.out));clear HRK;go_wp2_with fail
    (try go_ret)
    exact HR2.out
def nyB:Bs:=[195,177,195,145]
def zf7 (n:Nat):List Bs:=(List.range n).map fun k=>[UInt8.ofNat (48+k)]
def zBk (es:Bool) (k:Nat):List Bs:=[UInt8.ofNat (97+k),UInt8.ofNat (65+k)] :: (if es=true/\k=13 then [nyB] else [])
def zkG (es:Bool) (n:Nat):List Bs:=(List.range n).flatMap (zBk es)
theorem zrR (n:Nat):zf7 (n+1)=zf7 n ++ [[UInt8.ofNat (48+n)]]:=by unfold zf7;rw[List.range_succ,List.map_append];rfl
theorem zmI (es:Bool) (n:Nat):zkG es (n+1)=zkG es n ++ zBk es n:=by unfold zkG;rw[List.range_succ,List.flatMap_append];simp
theorem zg7 (n:Nat):(zf7 n).length=n:=by simp [zf7]
theorem zk6 (es:Bool) (n:Nat):(zkG es n).length<=2 * n:=by
 induction n with
 | zero=>simp [zkG]
 | succ n ih =>
  rw[zmI,List.length_append];have:(zBk es n).length<=2:=(by unfold zBk;split <;> simp);omega
def wDe:Bs:=[100,101]
def wFr:Bs:=[102,114]
def wEs:Bs:=[101,115]
def zAh:Bs:=[195,164,32,97,44,32,195,182,32,111,44,32,195,188,32,117,44,32,195,132,32,97,44,32,195,150,32,111,44,32,195,156,32,117,44,32,195,159,32,115,115]
def zAi:Bs:=[195,160,32,97,44,32,195,162,32,97,44,32,195,167,32,99,44,32,195,168,32,101,44,32,195,169,32,101,44,32,195,170,32,101,44,32,195,171,32,101,44,32] ++ [195,174,32,105,44,32,195,175,32,105,44,32,195,180,32,111,44,32,195,185,32,117,44,32,195,187,32,117,44,32,195,188,32,117,44,32,195,128,32,97,44,32] ++ ([195,130,32,97,44,32,195,135,32,99,44,32,195,136,32,101,44,32,195,137,32,101,44,32,195,138,32,101,44,32,195,139,32,101,44,32,195,142,32,105,44,32] ++ [195,143,32,105,44,32,195,148,32,111,44,32,195,153,32,117,44,32,195,155,32,117,44,32,195,156,32,117,44,32,195,166,32,97,101,44,32,197,147,32,111,101])
def zAj:Bs:=[195,161,32,97,44,32,195,169,32,101,44,32,195,173,32,105,44,32,195,179,32,111,44,32,195,186,32,117,44,32,195,188,32,117,44] ++ [32,195,129,32,97,44,32,195,137,32,101,44,32,195,141,32,105,44,32,195,147,32,111,44,32,195,154,32,117,44,32,195,156,32,117]
def zAk:List Pr:=[([195,164],[97]),([195,182],[111]),([195,188],[117]),([195,132],[97]),([195,150],[111]),([195,156],[117]),([195,159],[115,115])]
def zAl:List Pr:=[([195,160],[97]),([195,162],[97]),([195,167],[99]),([195,168],[101]),([195,169],[101]),([195,170],[101]),([195,171],[101]),([195,174],[105]),([195,175],[105]),([195,180],[111]),([195,185],[117]),([195,187],[117]),([195,188],[117]),([195,128],[97]),
 ([195,130],[97]),([195,135],[99]),([195,136],[101]),([195,137],[101]),([195,138],[101]),([195,139],[101]),([195,142],[105]),([195,143],[105]),([195,148],[111]),([195,153],[117]),([195,155],[117]),([195,156],[117]),([195,166],[97,101]),([197,147],[111,101])]
def zAm:List Pr:=[([195,161],[97]),([195,169],[101]),([195,173],[105]),([195,179],[111]),([195,186],[117]),([195,188],[117]),([195,129],[97]),([195,137],[101]),([195,141],[105]),([195,147],[111]),([195,154],[117]),([195,156],[117])]
def rkL (lang:Bs):List Pr:=if lang=wDe then zAk else if lang=wFr then zAl else if lang=wEs then zAm else []
def zoB (lang:Bs):ColT:=⟨rkL lang,zf7 10 ++ zkG (lang == wEs) 26,[]⟩
def zcC (p:Pr):Bs:=p.1 ++ (32 :: p.2)
theorem zEf:(Lib.splitB (bs [44,32]) 0 (Lib.countB (bs zAh) (bs [44,32])) (bs zAh)).map (·.data.toList)=zAk.map zcC:=by decide +kernel
theorem zEg:(Lib.splitB (bs [44,32]) 0 (Lib.countB (bs zAi) (bs [44,32])) (bs zAi)).map (·.data.toList)=zAl.map zcC:=by decide +kernel
theorem zEh:(Lib.splitB (bs [44,32]) 0 (Lib.countB (bs zAj) (bs [44,32])) (bs zAj)).map (·.data.toList)=zAm.map zcC:=by decide +kernel
theorem zEi:Lib.countB (bs zAh) (bs [44,32])+1=7:=by decide +kernel
theorem zEj:Lib.countB (bs zAi) (bs [44,32])+1=28:=by decide +kernel
theorem zEk:Lib.countB (bs zAj) (bs [44,32])+1=12:=by decide +kernel
theorem zCt:∀ k:Nat,k<10->Lib.itoa (k:Int)=[UInt8.ofNat (48+k)]:=by decide +kernel
theorem zmJ:∀ (l cur:Bs),(∀ b∈l,Lib.isSp b=(b == 32))->Lib.fieldsGo cur l=((l.foldl (zbS 32) ([],cur)).1 ++ [(l.foldl (zbS 32) ([],cur)).2]).filter (fun x=>!x.isEmpty)
 | [],cur,_=>by
  show (if cur.isEmpty then [] else [cur])=[cur].filter _;cases cur <;> rfl
 | b :: l,cur,h=>by
  have hb:=h b (List.mem_cons_self ..);have ih:=fun c=>zmJ l c (fun x hx=>h x (List.mem_cons_of_mem _ hx));show (if Lib.isSp b then (if cur.isEmpty then Lib.fieldsGo [] l else cur :: Lib.fieldsGo [] l) else Lib.fieldsGo (cur ++ [b]) l)=_;rw[hb,List.foldl_cons];by_cases q:b=32
  ·have e:zbS 32 (([]:List Bs),cur) b=([cur],[]):=(by subst q;rfl);rw[if_pos (by simpa using q),e,zeX];show _=(cur :: ((l.foldl (zbS 32) ([],[])).1 ++ [(l.foldl (zbS 32) ([],[])).2])).filter _;rw[List.filter_cons,ih []];cases cur <;> rfl
  ·have e:zbS 32 (([]:List Bs),cur) b=([],cur ++ [b]):=(by unfold zbS;simp [q]);rw[if_neg (by simpa using q),e,ih]
theorem zrS (l:Bs) (hb:∀ b∈l,Lib.isSp b=(b == 32)) (hn:∀ x∈za1 32 l,x≠[]):Lib.fields l=za1 32 l:=by
 unfold Lib.fields;rw[zmJ l [] hb];show (za1 32 l).filter _=_;rw[List.filter_eq_self];intro x hx;have:=hn x hx;cases x with
 | nil=>exact absurd rfl this
 | cons a x=>rfl
theorem zjM:∀ (l cur:Bs) (b:UInt8),b∈cur ++ l->b=32\/∃ x∈(l.foldl (zbS 32) ([],cur)).1 ++ [(l.foldl (zbS 32) ([],cur)).2],b∈x
 | [],cur,b,h=>.inr ⟨cur,by simp,by simpa using h⟩
 | c :: l,cur,b,h=>by
  rw[List.foldl_cons];by_cases q:c=32
  ·have e:zbS 32 (([]:List Bs),cur) c=([cur],[]):=(by subst q;rfl);rw[e,zeX];rcases List.mem_append.1 h with r|r
   ·exact .inr ⟨cur,by simp,r⟩
   ·rcases List.mem_cons.1 r with r|r
    ·exact .inl (r.trans q)
    ·rcases zjM l [] b (by simpa using r) with k|⟨x,k1,k2⟩
     ·exact .inl k
     ·refine .inr ⟨x,?_,k2⟩;rw[List.mem_append] at k1 ⊢;rcases k1 with k1|k1
      ·exact .inl (List.mem_append.2 (.inr k1))
      ·exact .inr k1
  ·have e:zbS 32 (([]:List Bs),cur) c=([],cur ++ [c]):=(by unfold zbS;simp [q]);rw[e];exact zjM l (cur ++ [c]) b (by simpa using h)
theorem ztK (l:Bs) (b:UInt8) (h:b∈l):b=32\/∃ x∈za1 32 l,b∈x:=zjM l [] b (by simpa using h)
def kYr:Bs:=[121,101,97,114]
def zcY (s:SrcT):KeyT:=⟨zcX s,zdC ((zaZ s.fields kYr).getD []),(zaZ s.fields zb1).getD [],s.key⟩
def zjN (s:SrcT):SorT:=⟨zcY s,s⟩
def cfO (c:ColT) (ws:List Bs) (a b:SrcT):Int:=cfW c ws (zcY a) (zcY b)
def zoC (c:ColT) (ws:List Bs) (l:List SrcT):List SrcT:=zkP (cfO c ws) l
theorem zCu (c:ColT) (ws:List Bs) (l:List SrcT):zxQ (fun a b=>cfW c ws a.k b.k) (l.map zjN)=(zoC c ws l).map zjN:=by
 unfold zxQ zoC;rw[zpD (fun x y=>(zD9 SorT.k (zz1 c ws)).anti x y)];exact (zz2 (fun a b:SorT=>cfW c ws a.k b.k) zjN l).symm
theorem zpN (c:ColT) (ws:List Bs) (l:List SrcT):(zoC c ws l).length=l.length:=zrE _
theorem zmK (c:ColT) (ws:List Bs) (l:List SrcT):(zoC c ws l).Perm l:=zn4 _
def FitL (s:SrcT):Prop:=s.author.length<=5/\s.editor.length<=5/\s.fields.length<=12/\s.key.length+s.type.length<=200/\(∀ f∈s.fields,f.1.length+f.2.length<=200)/\∀ q∈s.author ++ s.editor,q.1.length+q.2.1.length+q.2.2.1.length+q.2.2.2.length<=200
def FewY (y:StyT):Prop:=y.entries.length<=12/\y.cite.length+y.bare.length+y.between.length+y.begin_.length+y.end_.length+y.sort.length+y.name.length<=400/\(∀ p∈y.entries,p.1.length+p.2.length<=300)/\(-9223372036854775808<=y.most/\y.most<=9223372036854775807)
theorem FewY.small {y:StyT} (h:FewY y):SmallY y:=by
 obtain ⟨h1,h2,h3,_⟩:=h;refine ⟨by omega,by omega,by omega,by omega,by omega,by omega,by omega,by omega,fun p hp=>?_⟩;have:=h3 p hp;constructor <;> omega
theorem ziS (s:SrcT):∀ q∈zhA s,q∈s.author ++ s.editor:=fun q h=>by
 unfold zhA at h
 split at h
 ·exact List.mem_append_right _ h
 ·exact List.mem_append_left _ h
theorem ziT {s:SrcT} (h:FitL s):(zhA s).length<=5:=by
 unfold zhA
 split
 ·exact h.2.1
 ·exact h.1
theorem zpO (a b c d:Bs):(zz8 a b c d false).length<=a.length+b.length+c.length+d.length+1000:=by
 have h1:=zdH [c,a];have h2:zlK [c,a]=c.length+1+(a.length+1+0):=rfl;have h3:zeI b false=b:=rfl;unfold zz8;rw[h3,List.length_append,List.length_append];have h4:(if b=[] then ([]:Bs) else [44,32] ++ b).length<=b.length+2:=(by split <;> simp);have h5:(if d=[] then ([]:Bs) else [44,32] ++ d).length<=d.length+2:=(by split <;> simp);omega
theorem ziU {s:SrcT} (h:FitL s):(zcX s).length<=9000:=by
 have h1:=zcJ 1200 ((zhA s).map zg6) (fun x hx=>by
  obtain ⟨q,hq,rfl⟩:=List.mem_map.1 hx;have h2:=h.2.2.2.2.2 q (ziS s q hq);have h3:=zpO q.1 q.2.1 q.2.2.1 q.2.2.2;unfold zg6;omega)
 have h4:=ziT h;rw[List.length_map] at h1;have h5:(zhA s).length * (1200+2)<=5 * (1200+2):=Nat.mul_le_mul_right _ h4;have h6:zcX s=Lib.join ((zhA s).map zg6) zi5:=rfl;rw[h6];omega
theorem zfT {ps:List Pr} {n:Nat} (h:∀ p∈ps,p.1.length+p.2.length<=n) (k:Bs):((zaZ ps k).getD []).length<=n:=by
 unfold zaZ;cases hx:ps.find? fun q=>q.1 == k with
 | none=>simp
 | some p =>
  have:=h p (List.mem_of_find?_eq_some hx);simp only[Option.map_some,Option.getD_some];omega
theorem zAn {s:SrcT} (h:FitL s):FitKy (zcY s):=by
 have h1:=ziU h;have h2:=zfT h.2.2.2.2.1 zb1;have h3:=h.2.2.2.1;have h4:=zhR ((zaZ s.fields kYr).getD []);exact ⟨by show (zcX s).length<=_;omega,by show ((zaZ s.fields zb1).getD []).length<=_;omega,by show s.key.length<=_;omega,by show _<=zdC _;omega,by show zdC _<=_;omega⟩
theorem zoD (lang:Bs):SmallC (zoB lang):=by
 have h1:=zk6 (lang == wEs) 26;have hr:rkL lang=zAk\/rkL lang=zAl\/rkL lang=zAm\/rkL lang=[]:=by
  unfold rkL
  split
  ·exact .inl rfl
  ·split
   ·exact .inr (.inl rfl)
   ·split
    ·exact .inr (.inr (.inl rfl))
    ·exact .inr (.inr (.inr rfl))
 refine ⟨?_,?_,?_,?_,?_⟩
 ·show (rkL lang).length<=_;rcases hr with e|e|e|e <;> rw[e] <;> decide
 ·show (zf7 10 ++ zkG (lang == wEs) 26).length<=_;rw[List.length_append,zg7];omega
 ·show ([]:Bs).length<=_;simp
 ·intro s hs;rcases List.mem_append.1 (show s∈zf7 10 ++ zkG (lang == wEs) 26 from hs) with h|h
  ·unfold zf7 at h;obtain ⟨k,-,rfl⟩:=List.mem_map.1 h;simp
  ·unfold zkG at h;obtain ⟨k,-,h⟩:=List.mem_flatMap.1 h;unfold zBk at h;rcases List.mem_cons.1 h with rfl|h
   ·simp
   ·split at h
    ·rw[List.mem_singleton.1 h];decide
    ·cases h
 ·show ∀ p∈rkL lang,_;rcases hr with e|e|e|e <;> rw[e] <;> decide
def wsY (y:StyT):List Bs:=Lib.fields y.sort
theorem zpP {x:Bs} (h:zo5 x=true):x≠[]/\∀ b∈x,b.toNat<128/\Lib.isSp b=false:=by
 rcases zo6 h with rfl|rfl|rfl|rfl
 all_goals exact ⟨by decide,by decide +kernel⟩
theorem zjO {l:Bs} (h:znE l=0):l=[]\/(za1 32 l).all zo5=true:=by
 unfold znE at h
 split at h
 ·exact .inl ‹_›
 ·right
  split at h
  ·cases h
  ·rename_i q;simpa using q
theorem zoE {l:Bs} (h:znE l=0):∀ b∈l,b.toNat<128/\Lib.isSp b=(b == 32):=by
 intro b hb;rcases zjO h with rfl|q
 ·cases hb
 ·rcases ztK l b hb with rfl|⟨x,hx,hbx⟩
  ·decide +kernel
  ·have h1:=(zpP (List.all_eq_true.1 q x hx)).2 b hbx;refine ⟨h1.1,?_⟩;rw[h1.2];symm;rw[beq_eq_false_iff_ne];intro e;subst e;exact absurd h1.2 (by decide +kernel)
theorem zmL {y:StyT} (h:zdY y=0):znE y.sort=0:=by
 unfold zdY at h
 split at h
 ·cases h
 ·split at h
  ·cases h
  ·split at h
   ·rename_i q;exact absurd h q
   ·rename_i q;simpa using q
theorem zrT {y:StyT} (h:zdY y=0) (h0:y.sort≠[]):wsY y=za1 32 y.sort:=by
 have h1:=zmL h;rcases zjO h1 with q|q
 ·exact absurd q h0
 ·exact zrS y.sort (fun b hb=>(zoE h1 b hb).2) (fun x hx=>(zpP (List.all_eq_true.1 q x hx)).1)
theorem zAo {y:StyT} (h0:y.sort=[]):wsY y=[]:=by unfold wsY;rw[h0];rfl
theorem zAp {y:StyT} (h:zdY y=0):(wsY y).length<=y.sort.length+1:=by
 by_cases h0:y.sort=[]
 ·rw[zAo h0];simp
 ·rw[zrT h h0,zcO];have:=List.count_le_length (a:=(32:UInt8)) (l:=y.sort);omega
def zoF (y:StyT) (lang:Bs) (l:List SrcT):Int × List SrcT:=if zdY y=0 then (0,zoC (zoB lang) (wsY y) l) else (zdY y,[])
end Go.Proofs.YtmcoomlkbgiboaaGreatDoor
