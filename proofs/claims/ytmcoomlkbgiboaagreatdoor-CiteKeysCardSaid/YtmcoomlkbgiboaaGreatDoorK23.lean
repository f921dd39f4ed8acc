/- cite.compare, Order$1: sources compared. Conditions: the collation is small; lengths. -/
import Derived.Test.YtmcoomlkbgiboaaGreatDoorK19
import Derived.Test.YtmcoomlkbgiboaaGreatDoorK22
import Derived.Test.YtmcoomlkbgiboaaGreatDoorK07
import Derived.Test.YtmcoomlkbgiboaaGreatDoorK02
import Derived.Test.YtmcoomlkbgiboaaGreatDoorK10
import Derived.Laws.StructEq
import Derived.Lib.ItoaNum

set_option linter.all false
namespace Go.Proofs.YtmcoomlkbgiboaaGreatDoor
open Go.RowKit

def keyV (x:KeyT):Value:=.agg #[.string (bs x.author),.int .i64 x.year,.string (bs x.title),.string (bs x.key)]
def FitKy (x:KeyT):Prop:=x.author.length≤100000∧x.title.length≤100000∧x.key.length≤100000∧(-9223372036854775808≤x.year∧x.year≤9223372036854775807)
set_option maxRecDepth 100000 in
set_option maxHeartbeats 3200000 in
theorem cicompare_any (vR vO:Value) (c:ColT) (wd:Bs) (x y:KeyT) (w:World) (hc:Col w vR vO c) (hs:SmallC c) (hx:FitKy x) (hy:FitKy y) :
  Calls Tryz.prog 42 #[colV vR vO c.ignore,.string (bs wd),keyV x,keyV y] w fun e w'=>e=.returned (.int .i64 (wordC c wd x y))∧Kept w w':=by
 obtain ⟨x1,x2,x3,x4⟩:=hx
 obtain ⟨y1,y2,y3,y4⟩:=hy
 have HA:=Lib.hid (fun w' (k:Kept w w')=>compare_any vR vO c x.author y.author w' (hc.kept k) hs x1 y1)
 have HT:=Lib.hid (fun w' (k:Kept w w')=>compare_any vR vO c x.title y.title w' (hc.kept k) hs x2 y2)
 have HY:=Lib.hid (fun w'=>Tryz.cmp_Compare_int x.year y.year w')
 have HK:=Lib.hid (fun w'=>Tryz.strings_Compare (bs x.key) (bs y.key) w')
 obtain ⟨aR,cR,rfl,lR⟩:=hc.1.form
 obtain ⟨aO,cO,rfl,lO⟩:=hc.2.form
 have HW:Hid (wordC c wd x y=if wd=wAuthor then cmpC c x.author y.author else if wd=wYear then cmpZ x.year y.year else if wd=wTitle then cmpC c x.title y.title else cmpB x.key y.key):=rfl
 rw [HW.out]
 unfold colV at HA HT
 obtain ⟨xa,xy,xt,xk⟩:=x
 obtain ⟨ya,yy,yt,yk⟩:=y
 simp only at HA HT HY HK
 clear hc hs x1 x2 x3 y1 y2 y3 HW
 have HK0:Hid (Kept w (((w.alloc (.cells #[.slice aR c.ranks.length cR,.slice aO c.order.length cO,.string (bs c.ignore)] 88)).alloc (.cells #[.string (bs xa),.int .i64 xy,.string (bs xt),.string (bs xk)] 84)).alloc (.cells #[.string (bs ya),.int .i64 yy,.string (bs yt),.string (bs yk)] 84))):=((kept_alloc w _).trans (kept_alloc _ _)).trans (kept_alloc _ _)
 have hb:=((Blk.new w 88 #[.slice aR c.ranks.length cR,.slice aO c.order.length cO,.string (bs c.ignore)]).alloc (.cells #[.string (bs xa),.int .i64 xy,.string (bs xt),.string (bs xk)] 84)).alloc (.cells #[.string (bs ya),.int .i64 yy,.string (bs yt),.string (bs yk)] 84)
 have hx:=(Blk.new (w.alloc (.cells #[.slice aR c.ranks.length cR,.slice aO c.order.length cO,.string (bs c.ignore)] 88)) 84 #[.string (bs xa),.int .i64 xy,.string (bs xt),.string (bs xk)]).alloc (.cells #[.string (bs ya),.int .i64 yy,.string (bs yt),.string (bs yk)] 84)
 have hy:=Blk.new ((w.alloc (.cells #[.slice aR c.ranks.length cR,.slice aO c.order.length cO,.string (bs c.ignore)] 88)).alloc (.cells #[.string (bs xa),.int .i64 xy,.string (bs xt),.string (bs xk)] 84)) 84 #[.string (bs ya),.int .i64 yy,.string (bs yt),.string (bs yk)]
 obtain ⟨B,HBB⟩:∃ B,Hid (w.heap.size=B):=⟨_,rfl⟩
 simp only [World.size_alloc,HBB.out] at hb hx hy
 have q0:=hb.cell 0 _ rfl
 have q1:=hb.cell 1 _ rfl
 have q2:=hb.cell 2 _ rfl
 have qz:=hb.lt
 have x0:=hx.cell 0 _ rfl
 have x1:=hx.cell 1 _ rfl
 have x2:=hx.cell 2 _ rfl
 have x3:=hx.cell 3 _ rfl
 have xz:=hx.lt
 have y0:=hy.cell 0 _ rfl
 have y1:=hy.cell 1 _ rfl
 have y2:=hy.cell 2 _ rfl
 have y3:=hy.cell 3 _ rfl
 have yz:=hy.lt
 clear hb hx hy
 unfold wAuthor wYear wTitle colV keyV
 dsimp only
 by_cases h1:wd=[97,117,116,104,111,114]
 ·rw [if_pos h1]
  subst h1
  go_enter Tryz.func42,Tryz.ntmps42
  go_upto_region 1 with fail
  rw [HBB.out]
  generalize World.alloc (World.alloc (World.alloc w _) _) _=w0 at *
  go_wp2_with fail
  refine (HA.out _ HK0.out).mono ?_
  rintro e w5 ⟨rfl,hk⟩
  have HKZ:=Lib.hid (HK0.out.trans hk)
  clear hk HA HT HY HK
  go_wp2_with fail
  (try go_ret)
  exact ⟨rfl,HKZ.out⟩
 have b1:(wd == [97,117,116,104,111,114])=false:=by rw [beq_eq_false_iff_ne]; exact h1
 rw [if_neg h1]
 by_cases h2:wd=[121,101,97,114]
 ·rw [if_pos h2]
  subst h2
  go_enter Tryz.func42,Tryz.ntmps42
  go_upto_region 1 with fail
  rw [HBB.out]
  generalize World.alloc (World.alloc (World.alloc w _) _) _=w0 at *
  go_wp2_with fail
  refine (HY.out _).mono ?_
  rintro e w5 ⟨rfl,rfl⟩
  clear HA HT HY HK
  go_wp2_with fail
  (try go_ret)
  exact ⟨rfl,HK0.out⟩
 have b2:(wd == [121,101,97,114])=false:=by rw [beq_eq_false_iff_ne]; exact h2
 rw [if_neg h2]
 by_cases h3:wd=[116,105,116,108,101]
 ·rw [if_pos h3]
  subst h3
  go_enter Tryz.func42,Tryz.ntmps42
  go_upto_region 1 with fail
  rw [HBB.out]
  generalize World.alloc (World.alloc (World.alloc w _) _) _=w0 at *
  go_wp2_with fail
  refine (HT.out _ HK0.out).mono ?_
  rintro e w5 ⟨rfl,hk⟩
  have HKZ:=Lib.hid (HK0.out.trans hk)
  clear hk HA HT HY HK
  go_wp2_with fail
  (try go_ret)
  exact ⟨rfl,HKZ.out⟩
 have b3:(wd == [116,105,116,108,101])=false:=by rw [beq_eq_false_iff_ne]; exact h3
 rw [if_neg h3]
 have HE:=Lib.hid (cmpB_lib xk yk)
 go_enter Tryz.func42,Tryz.ntmps42
 go_upto_region 1 with fail
 rw [HBB.out]
 generalize World.alloc (World.alloc (World.alloc w _) _) _=w0 at *
 go_wp2_with fail
 refine (HK.out _).mono ?_
 rintro e w5 ⟨rfl,rfl⟩
 clear HA HT HY HK
 go_wp2_with fail
 (try go_ret)
 exact ⟨ret_int (by simpa using HE.out),HK0.out⟩
theorem keys_same {x y:KeyT}:(x.author == y.author && (x.year == y.year && (x.title == y.title && x.key == y.key)))=true↔x=y:=by
 obtain ⟨a,b,c,d⟩:=x
 obtain ⟨e,f,g,h⟩:=y
 simp
/-- What the words leave. -/
theorem cfW_end (c:ColT) (ws:List Bs) (k:Nat) (h:ws.length≤k) (x y:KeyT):cfW c (ws.drop k) x y=0:=by
 rw [List.drop_of_length_le h]; rfl
set_option maxRecDepth 100000 in
set_option maxHeartbeats 6400000 in
theorem ciorder1_any (C C2:Nat) (vW vR vO:Value) (c:ColT) (ws:List Bs) (x y:SorT) (aA aE aF aA' aE' aF':Option Addr) (nA nE nF nA' nE' nF' cA cE cF cA' cE' cF':Nat) (w:World)
  (hW:Blk w C 29 #[vW]) (hws:Strs w vW ws) (hcb:Blk w C2 88 #[vR,vO,.string (bs c.ignore)]) (hc:Col w vR vO c) (hs:SmallC c) (hx:FitKy x.k) (hy:FitKy y.k) (hwl:ws.length≤1000000) :
  Calls Tryz.prog 41 #[.agg (sorC x (.slice aA nA cA) (.slice aE nE cE) (.slice aF nF cF)).toArray,.agg (sorC y (.slice aA' nA' cA') (.slice aE' nE' cE') (.slice aF' nF' cF')).toArray,.pointer (some ⟨C,0,none⟩),.pointer (some ⟨C2,0,none⟩)] w fun e w'=>e=.returned (.int .i64 (cfW c ws x.k y.k))∧Kept w w':=by
 have HCM:=Lib.hid (fun (wd:Bs) w' (k:Kept w w')=>cicompare_any vR vO c wd x.k y.k w' (hc.kept k) hs hx hy)
 have HSELF:=Lib.hid (fun h:x.k=y.k=>(show cfW c ws x.k y.k=0 by rw [h]; exact cfW_self c ws y.k))
 have HSAME:=Lib.hid (keys_same (x:=x.k) (y:=y.k))
 have HDR:=Lib.hid (fun k wd (h:ws[k]? = some wd)=>cfW_drop (c:=c) h x.k y.k)
 have HEND:=Lib.hid (fun k h=>cfW_end c ws k h x.k y.k)
 have HWS:=Lib.hid hws
 obtain ⟨aW,cW,rfl,lW⟩:=(show ∃ a cc,vW=.slice a ws.length cc∧ws.length≤cc by obtain ⟨a,c,e,l,_⟩:=hws; exact ⟨a,c,e,l⟩)
 obtain ⟨aR,cR,rfl,lR⟩:=hc.1.form
 obtain ⟨aO,cO,rfl,lO⟩:=hc.2.form
 unfold colV keyV at HCM
 obtain ⟨⟨xa,xy,xt,xk⟩,⟨xsk,xst,xau,xed,xfs⟩⟩:=x
 obtain ⟨⟨ya,yy,yt,yk⟩,⟨ysk,yst,yau,yed,yfs⟩⟩:=y
 unfold sorC
 simp only at HCM HSELF HSAME HDR HEND
 dsimp only
 have HK0:Hid (Kept w ((w.alloc (.cells #[.string (bs xa),.int .i64 xy,.string (bs xt),.string (bs xk),.string (bs xsk),.string (bs xst),.slice aA nA cA,.slice aE nE cE,.slice aF nF cF] 86)).alloc (.cells #[.string (bs ya),.int .i64 yy,.string (bs yt),.string (bs yk),.string (bs ysk),.string (bs yst),.slice aA' nA' cA',.slice aE' nE' cE',.slice aF' nF' cF'] 86))):=(kept_alloc w _).trans (kept_alloc _ _)
 have hxb:=(Blk.new w 86 #[.string (bs xa),.int .i64 xy,.string (bs xt),.string (bs xk),.string (bs xsk),.string (bs xst),.slice aA nA cA,.slice aE nE cE,.slice aF nF cF]).alloc (.cells #[.string (bs ya),.int .i64 yy,.string (bs yt),.string (bs yk),.string (bs ysk),.string (bs yst),.slice aA' nA' cA',.slice aE' nE' cE',.slice aF' nF' cF'] 86)
 have hyb:=Blk.new (w.alloc (.cells #[.string (bs xa),.int .i64 xy,.string (bs xt),.string (bs xk),.string (bs xsk),.string (bs xst),.slice aA nA cA,.slice aE nE cE,.slice aF nF cF] 86)) 86 #[.string (bs ya),.int .i64 yy,.string (bs yt),.string (bs yk),.string (bs ysk),.string (bs yst),.slice aA' nA' cA',.slice aE' nE' cE',.slice aF' nF' cF']
 obtain ⟨B,HBB⟩:∃ B,Hid (w.heap.size=B):=⟨_,rfl⟩
 simp only [World.size_alloc,HBB.out] at hxb hyb
 have HXB:=Lib.hid hxb
 have HYB:=Lib.hid hyb
 have HWB:=Lib.hid (hW.kept HK0.out)
 have HCB:=Lib.hid (hcb.kept HK0.out)
 have HF0:Hid (∀ n w',n=cfW c ws ⟨xa,xy,xt,xk⟩ ⟨ya,yy,yt,yk⟩→Kept w w'→(Ending.returned (.int .i64 n)=.returned (.int .i64 (cfW c ws ⟨xa,xy,xt,xk⟩ ⟨ya,yy,yt,yk⟩))∧Kept w w')):=fun n w' e k=>⟨by rw [e],k⟩
 have hd0:cfW c ws ⟨xa,xy,xt,xk⟩ ⟨ya,yy,yt,yk⟩=cfW c (ws.drop 0) ⟨xa,xy,xt,xk⟩ ⟨ya,yy,yt,yk⟩:=rfl
 obtain ⟨R,HR⟩:∃ R,Hid (cfW c ws ⟨xa,xy,xt,xk⟩ ⟨ya,yy,yt,yk⟩=R):=⟨_,rfl⟩
 have HD0:=Lib.hid hd0
 rw [HR.out] at HF0 HD0 HSELF ⊢
 clear hxb hyb hW hcb hws hc hs hx hy hd0
 go_enter Tryz.func41,Tryz.ntmps41
 go_upto_region 1 with fail
 rw [HBB.out]
 generalize World.alloc (World.alloc w _) _=w0 at *
 have x0:=HXB.out.cell 0 _ rfl
 have x1:=HXB.out.cell 1 _ rfl
 have x2:=HXB.out.cell 2 _ rfl
 have x3:=HXB.out.cell 3 _ rfl
 have xz:=HXB.out.lt
 have y0:=HYB.out.cell 0 _ rfl
 have y1:=HYB.out.cell 1 _ rfl
 have y2:=HYB.out.cell 2 _ rfl
 have y3:=HYB.out.cell 3 _ rfl
 have yz:=HYB.out.lt
 have w0c:=HWB.out.cell 0 _ rfl
 have wz:=HWB.out.lt
 by_cases ha:xa=ya
 ·subst ha
  by_cases hy:xy=yy
  ·subst hy
   by_cases ht:xt=yt
   ·subst ht
    by_cases hk:xk=yk
    ·subst hk
     have HRZ:=Lib.hid (HF0.out 0 w0 (HSELF.out rfl).symm HK0.out)
     clear HSELF HSAME HCM HDR HEND HF0
     go_wp2_with fail
     (try go_ret)
     exact HRZ.out
    ·have hk0:(xk == yk)=false:=by rw [beq_eq_false_iff_ne]; exact hk
     clear HSELF HSAME
     go_wp2_with fail
     go_loopw [17] (fun i wr=>∃ (k:Nat),k≤ws.length∧i=.int .i64 k∧Hid (R=cfW c (ws.drop k) ⟨xa,xy,xt,xk⟩ ⟨xa,xy,xt,yk⟩)∧Hid (Kept w0 wr)) (fun i _=>ws.length - (intOf i).toNat)
     case atStart=>exact ⟨0,Nat.zero_le _,rfl,HD0.out,Kept.refl _⟩
     case round =>
      clear x0 x1 x2 x3 xz y0 y1 y2 y3 yz w0c wz
      obtain ⟨k,hkk,rfl,HRK,HKR⟩:=hrel
      by_cases hlt:k<ws.length
      ·obtain ⟨wd,hx⟩:∃ x,ws[k]? = some x:=⟨_,List.getElem?_eq_getElem hlt⟩
       obtain ⟨g,o,rfl,hg,d0,-,-⟩:=(HWS.out.kept (HK0.out.trans HKR.out)).cell_of k wd hx
       have HX2:=Lib.hid (HDR.out k wd hx)
       have HC:=Lib.hid (HCM.out wd wr (HK0.out.trans HKR.out))
       have x0:=(HXB.out.kept HKR.out).cell 0 _ rfl
       have x1:=(HXB.out.kept HKR.out).cell 1 _ rfl
       have x2:=(HXB.out.kept HKR.out).cell 2 _ rfl
       have x3:=(HXB.out.kept HKR.out).cell 3 _ rfl
       have xz:=(HXB.out.kept HKR.out).lt
       have y0:=(HYB.out.kept HKR.out).cell 0 _ rfl
       have y1:=(HYB.out.kept HKR.out).cell 1 _ rfl
       have y2:=(HYB.out.kept HKR.out).cell 2 _ rfl
       have y3:=(HYB.out.kept HKR.out).cell 3 _ rfl
       have yz:=(HYB.out.kept HKR.out).lt
       have q0:=(HCB.out.kept HKR.out).cell 0 _ rfl
       have q1:=(HCB.out.kept HKR.out).cell 1 _ rfl
       have q2:=(HCB.out.kept HKR.out).cell 2 _ rfl
       have qz:=(HCB.out.kept HKR.out).lt
       obtain ⟨n,HN⟩:∃ n,Hid (wordC c wd ⟨xa,xy,xt,xk⟩ ⟨xa,xy,xt,yk⟩=n):=⟨_,rfl⟩
       rw [HN.out] at HC HX2
       clear hx HN
       go_wp2_with fail
       refine HC.out.mono ?_
       rintro e w5 ⟨rfl,hk5⟩
       have HK5:=Lib.hid (HKR.out.trans hk5)
       clear hk5 HC x0 x1 x2 x3 xz y0 y1 y2 y3 yz q0 q1 q2 qz d0
       by_cases hn0:n=0
       ·subst hn0
        have HR2:Hid (R=cfW c (ws.drop (k+1)) ⟨xa,xy,xt,xk⟩ ⟨xa,xy,xt,yk⟩):=by
         show _=_
         rw [HRK.out,HX2.out,if_neg (by simp)]
        clear HRK HX2
        go_wp2_with fail
        go_roundw
        case rel=>exact ⟨k+1,by omega,by go_num,HR2.out,HK5.out⟩
        case measure=>simp [intOf]; omega
       ·have HR2:=Lib.hid (HF0.out n w5 (by rw [HRK.out,HX2.out,if_pos hn0]) (HK0.out.trans HK5.out))
        clear HRK HX2
        go_wp2_with fail
        (try go_ret)
        exact HR2.out
      ·have HR2:=Lib.hid (HF0.out 0 wr (by rw [HRK.out,HEND.out k (by omega)]) (HK0.out.trans HKR.out))
       clear HRK
       go_wp2_with fail
       (try go_ret)
       exact HR2.out
   ·have ht0:(xt == yt)=false:=by rw [beq_eq_false_iff_ne]; exact ht
    clear HSELF HSAME
    go_wp2_with fail
    go_loopw [17] (fun i wr=>∃ (k:Nat),k≤ws.length∧i=.int .i64 k∧Hid (R=cfW c (ws.drop k) ⟨xa,xy,xt,xk⟩ ⟨xa,xy,yt,yk⟩)∧Hid (Kept w0 wr)) (fun i _=>ws.length - (intOf i).toNat)
    case atStart=>exact ⟨0,Nat.zero_le _,rfl,HD0.out,Kept.refl _⟩
    case round =>
     clear x0 x1 x2 x3 xz y0 y1 y2 y3 yz w0c wz
     obtain ⟨k,hkk,rfl,HRK,HKR⟩:=hrel
     by_cases hlt:k<ws.length
     ·obtain ⟨wd,hx⟩:∃ x,ws[k]? = some x:=⟨_,List.getElem?_eq_getElem hlt⟩
      obtain ⟨g,o,rfl,hg,d0,-,-⟩:=(HWS.out.kept (HK0.out.trans HKR.out)).cell_of k wd hx
      have HX2:=Lib.hid (HDR.out k wd hx)
      have HC:=Lib.hid (HCM.out wd wr (HK0.out.trans HKR.out))
      have x0:=(HXB.out.kept HKR.out).cell 0 _ rfl
      have x1:=(HXB.out.kept HKR.out).cell 1 _ rfl
      have x2:=(HXB.out.kept HKR.out).cell 2 _ rfl
      have x3:=(HXB.out.kept HKR.out).cell 3 _ rfl
      have xz:=(HXB.out.kept HKR.out).lt
      have y0:=(HYB.out.kept HKR.out).cell 0 _ rfl
      have y1:=(HYB.out.kept HKR.out).cell 1 _ rfl
      have y2:=(HYB.out.kept HKR.out).cell 2 _ rfl
      have y3:=(HYB.out.kept HKR.out).cell 3 _ rfl
      have yz:=(HYB.out.kept HKR.out).lt
      have q0:=(HCB.out.kept HKR.out).cell 0 _ rfl
      have q1:=(HCB.out.kept HKR.out).cell 1 _ rfl
      have q2:=(HCB.out.kept HKR.out).cell 2 _ rfl
      have qz:=(HCB.out.kept HKR.out).lt
      obtain ⟨n,HN⟩:∃ n,Hid (wordC c wd ⟨xa,xy,xt,xk⟩ ⟨xa,xy,yt,yk⟩=n):=⟨_,rfl⟩
      rw [HN.out] at HC HX2
      clear hx HN
      go_wp2_with fail
      refine HC.out.mono ?_
      rintro e w5 ⟨rfl,hk5⟩
      have HK5:=Lib.hid (HKR.out.trans hk5)
      clear hk5 HC x0 x1 x2 x3 xz y0 y1 y2 y3 yz q0 q1 q2 qz d0
      by_cases hn0:n=0
      ·subst hn0
       have HR2:Hid (R=cfW c (ws.drop (k+1)) ⟨xa,xy,xt,xk⟩ ⟨xa,xy,yt,yk⟩):=by
        show _=_
        rw [HRK.out,HX2.out,if_neg (by simp)]
       clear HRK HX2
       go_wp2_with fail
       go_roundw
       case rel=>exact ⟨k+1,by omega,by go_num,HR2.out,HK5.out⟩
       case measure=>simp [intOf]; omega
      ·have HR2:=Lib.hid (HF0.out n w5 (by rw [HRK.out,HX2.out,if_pos hn0]) (HK0.out.trans HK5.out))
       clear HRK HX2
       go_wp2_with fail
       (try go_ret)
       exact HR2.out
     ·have HR2:=Lib.hid (HF0.out 0 wr (by rw [HRK.out,HEND.out k (by omega)]) (HK0.out.trans HKR.out))
      clear HRK
      go_wp2_with fail
      (try go_ret)
      exact HR2.out
  ·have hy0:(xy == yy)=false:=by rw [beq_eq_false_iff_ne]; exact hy
   clear HSELF HSAME
   go_wp2_with fail
   go_loopw [17] (fun i wr=>∃ (k:Nat),k≤ws.length∧i=.int .i64 k∧Hid (R=cfW c (ws.drop k) ⟨xa,xy,xt,xk⟩ ⟨xa,yy,yt,yk⟩)∧Hid (Kept w0 wr)) (fun i _=>ws.length - (intOf i).toNat)
   case atStart=>exact ⟨0,Nat.zero_le _,rfl,HD0.out,Kept.refl _⟩
   case round =>
    clear x0 x1 x2 x3 xz y0 y1 y2 y3 yz w0c wz
    obtain ⟨k,hkk,rfl,HRK,HKR⟩:=hrel
    by_cases hlt:k<ws.length
    ·obtain ⟨wd,hx⟩:∃ x,ws[k]? = some x:=⟨_,List.getElem?_eq_getElem hlt⟩
     obtain ⟨g,o,rfl,hg,d0,-,-⟩:=(HWS.out.kept (HK0.out.trans HKR.out)).cell_of k wd hx
     have HX2:=Lib.hid (HDR.out k wd hx)
     have HC:=Lib.hid (HCM.out wd wr (HK0.out.trans HKR.out))
     have x0:=(HXB.out.kept HKR.out).cell 0 _ rfl
     have x1:=(HXB.out.kept HKR.out).cell 1 _ rfl
     have x2:=(HXB.out.kept HKR.out).cell 2 _ rfl
     have x3:=(HXB.out.kept HKR.out).cell 3 _ rfl
     have xz:=(HXB.out.kept HKR.out).lt
     have y0:=(HYB.out.kept HKR.out).cell 0 _ rfl
     have y1:=(HYB.out.kept HKR.out).cell 1 _ rfl
     have y2:=(HYB.out.kept HKR.out).cell 2 _ rfl
     have y3:=(HYB.out.kept HKR.out).cell 3 _ rfl
     have yz:=(HYB.out.kept HKR.out).lt
     have q0:=(HCB.out.kept HKR.out).cell 0 _ rfl
     have q1:=(HCB.out.kept HKR.out).cell 1 _ rfl
     have q2:=(HCB.out.kept HKR.out).cell 2 _ rfl
     have qz:=(HCB.out.kept HKR.out).lt
     obtain ⟨n,HN⟩:∃ n,Hid (wordC c wd ⟨xa,xy,xt,xk⟩ ⟨xa,yy,yt,yk⟩=n):=⟨_,rfl⟩
     rw [HN.out] at HC HX2
     clear hx HN
     go_wp2_with fail
     refine HC.out.mono ?_
     rintro e w5 ⟨rfl,hk5⟩
     have HK5:=Lib.hid (HKR.out.trans hk5)
     clear hk5 HC x0 x1 x2 x3 xz y0 y1 y2 y3 yz q0 q1 q2 qz d0
     by_cases hn0:n=0
     ·subst hn0
      have HR2:Hid (R=cfW c (ws.drop (k+1)) ⟨xa,xy,xt,xk⟩ ⟨xa,yy,yt,yk⟩):=by
       show _=_
       rw [HRK.out,HX2.out,if_neg (by simp)]
      clear HRK HX2
      go_wp2_with fail
      go_roundw
      case rel=>exact ⟨k+1,by omega,by go_num,HR2.out,HK5.out⟩
      case measure=>simp [intOf]; omega
     ·have HR2:=Lib.hid (HF0.out n w5 (by rw [HRK.out,HX2.out,if_pos hn0]) (HK0.out.trans HK5.out))
      clear HRK HX2
      go_wp2_with fail
      (try go_ret)
      exact HR2.out
    ·have HR2:=Lib.hid (HF0.out 0 wr (by rw [HRK.out,HEND.out k (by omega)]) (HK0.out.trans HKR.out))
     clear HRK
     go_wp2_with fail
     (try go_ret)
     exact HR2.out
 ·have ha0:(xa == ya)=false:=by rw [beq_eq_false_iff_ne]; exact ha
  clear HSELF HSAME
  go_wp2_with fail
  go_loopw [17] (fun i wr=>∃ (k:Nat),k≤ws.length∧i=.int .i64 k∧Hid (R=cfW c (ws.drop k) ⟨xa,xy,xt,xk⟩ ⟨ya,yy,yt,yk⟩)∧Hid (Kept w0 wr)) (fun i _=>ws.length - (intOf i).toNat)
  case atStart=>exact ⟨0,Nat.zero_le _,rfl,HD0.out,Kept.refl _⟩
  case round =>
   clear x0 x1 x2 x3 xz y0 y1 y2 y3 yz w0c wz
   obtain ⟨k,hkk,rfl,HRK,HKR⟩:=hrel
   by_cases hlt:k<ws.length
   ·obtain ⟨wd,hx⟩:∃ x,ws[k]? = some x:=⟨_,List.getElem?_eq_getElem hlt⟩
    obtain ⟨g,o,rfl,hg,d0,-,-⟩:=(HWS.out.kept (HK0.out.trans HKR.out)).cell_of k wd hx
    have HX2:=Lib.hid (HDR.out k wd hx)
    have HC:=Lib.hid (HCM.out wd wr (HK0.out.trans HKR.out))
    have x0:=(HXB.out.kept HKR.out).cell 0 _ rfl
    have x1:=(HXB.out.kept HKR.out).cell 1 _ rfl
    have x2:=(HXB.out.kept HKR.out).cell 2 _ rfl
    have x3:=(HXB.out.kept HKR.out).cell 3 _ rfl
    have xz:=(HXB.out.kept HKR.out).lt
    have y0:=(HYB.out.kept HKR.out).cell 0 _ rfl
    have y1:=(HYB.out.kept HKR.out).cell 1 _ rfl
    have y2:=(HYB.out.kept HKR.out).cell 2 _ rfl
    have y3:=(HYB.out.kept HKR.out).cell 3 _ rfl
    have yz:=(HYB.out.kept HKR.out).lt
    have q0:=(HCB.out.kept HKR.out).cell 0 _ rfl
    have q1:=(HCB.out.kept HKR.out).cell 1 _ rfl
    have q2:=(HCB.out.kept HKR.out).cell 2 _ rfl
    have qz:=(HCB.out.kept HKR.out).lt
    obtain ⟨n,HN⟩:∃ n,Hid (wordC c wd ⟨xa,xy,xt,xk⟩ ⟨ya,yy,yt,yk⟩=n):=⟨_,rfl⟩
    rw [HN.out] at HC HX2
    clear hx HN
    go_wp2_with fail
    refine HC.out.mono ?_
    rintro e w5 ⟨rfl,hk5⟩
    have HK5:=Lib.hid (HKR.out.trans hk5)
    clear hk5 HC x0 x1 x2 x3 xz y0 y1 y2 y3 yz q0 q1 q2 qz d0
    by_cases hn0:n=0
    ·subst hn0
     have HR2:Hid (R=cfW c (ws.drop (k+1)) ⟨xa,xy,xt,xk⟩ ⟨ya,yy,yt,yk⟩):=by
      show _=_
      rw [HRK.out,HX2.out,if_neg (by simp)]
     clear HRK HX2
     go_wp2_with fail
     go_roundw
     case rel=>exact ⟨k+1,by omega,by go_num,HR2.out,HK5.out⟩
     case measure=>simp [intOf]; omega
    ·have HR2:=Lib.hid (HF0.out n w5 (by rw [HRK.out,HX2.out,if_pos hn0]) (HK0.out.trans HK5.out))
     clear HRK HX2
     go_wp2_with fail
     (try go_ret)
     exact HR2.out
   ·have HR2:=Lib.hid (HF0.out 0 wr (by rw [HRK.out,HEND.out k (by omega)]) (HK0.out.trans HKR.out))
    clear HRK
    go_wp2_with fail
    (try go_ret)
    exact HR2.out
end Go.Proofs.YtmcoomlkbgiboaaGreatDoor

/- Plain: the collations of the languages. No condition. -/
set_option linter.all false
namespace Go.Proofs.YtmcoomlkbgiboaaGreatDoor
open Go.RowKit

def nyB:Bs:=[195,177,195,145]
def digN (n:Nat):List Bs:=(List.range n).map fun k=>[UInt8.ofNat (48+k)]
def letC (es:Bool) (k:Nat):List Bs:=[UInt8.ofNat (97+k),UInt8.ofNat (65+k)] :: (if es=true∧k=13 then [nyB] else [])
def letN (es:Bool) (n:Nat):List Bs:=(List.range n).flatMap (letC es)
theorem digN_succ (n:Nat):digN (n+1)=digN n ++ [[UInt8.ofNat (48+n)]]:=by unfold digN; rw [List.range_succ,List.map_append]; rfl
theorem letN_succ (es:Bool) (n:Nat):letN es (n+1)=letN es n ++ letC es n:=by unfold letN; rw [List.range_succ,List.flatMap_append]; simp
theorem digN_len (n:Nat):(digN n).length=n:=by simp [digN]
theorem letN_len (es:Bool) (n:Nat):(letN es n).length≤2 * n:=by
 induction n with
 | zero=>simp [letN]
 | succ n ih =>
  rw [letN_succ,List.length_append]
  have:(letC es n).length≤2:=by unfold letC; split <;> simp
  omega
def wDe:Bs:=[100,101]
def wFr:Bs:=[102,114]
def wEs:Bs:=[101,115]
def allDe:Bs:=[195,164,32,97,44,32,195,182,32,111,44,32,195,188,32,117,44,32,195,132,32,97,44,32,195,150,32,111,44,32,195,156,32,117,44,32,195,159,32,115,115]
def allFr:Bs:=[195,160,32,97,44,32,195,162,32,97,44,32,195,167,32,99,44,32,195,168,32,101,44,32,195,169,32,101,44,32,195,170,32,101,44,32,195,171,32,101,44,32] ++ [195,174,32,105,44,32,195,175,32,105,44,32,195,180,32,111,44,32,195,185,32,117,44,32,195,187,32,117,44,32,195,188,32,117,44,32,195,128,32,97,44,32] ++ ([195,130,32,97,44,32,195,135,32,99,44,32,195,136,32,101,44,32,195,137,32,101,44,32,195,138,32,101,44,32,195,139,32,101,44,32,195,142,32,105,44,32] ++ [195,143,32,105,44,32,195,148,32,111,44,32,195,153,32,117,44,32,195,155,32,117,44,32,195,156,32,117,44,32,195,166,32,97,101,44,32,197,147,32,111,101])
def allEs:Bs:=[195,161,32,97,44,32,195,169,32,101,44,32,195,173,32,105,44,32,195,179,32,111,44,32,195,186,32,117,44,32,195,188,32,117,44] ++ [32,195,129,32,97,44,32,195,137,32,101,44,32,195,141,32,105,44,32,195,147,32,111,44,32,195,154,32,117,44,32,195,156,32,117]
/-- The rules of a language. -/
def rkDe:List Pr:=[([195,164],[97]),([195,182],[111]),([195,188],[117]),([195,132],[97]),([195,150],[111]),([195,156],[117]),([195,159],[115,115])]
def rkFr:List Pr:=[([195,160],[97]),([195,162],[97]),([195,167],[99]),([195,168],[101]),([195,169],[101]),([195,170],[101]),([195,171],[101]),([195,174],[105]),([195,175],[105]),([195,180],[111]),([195,185],[117]),([195,187],[117]),([195,188],[117]),([195,128],[97]),
 ([195,130],[97]),([195,135],[99]),([195,136],[101]),([195,137],[101]),([195,138],[101]),([195,139],[101]),([195,142],[105]),([195,143],[105]),([195,148],[111]),([195,153],[117]),([195,155],[117]),([195,156],[117]),([195,166],[97,101]),([197,147],[111,101])]
def rkEs:List Pr:=[([195,161],[97]),([195,169],[101]),([195,173],[105]),([195,179],[111]),([195,186],[117]),([195,188],[117]),([195,129],[97]),([195,137],[101]),([195,141],[105]),([195,147],[111]),([195,154],[117]),([195,156],[117])]
def rkL (lang:Bs):List Pr:=if lang=wDe then rkDe else if lang=wFr then rkFr else if lang=wEs then rkEs else []
def locC (lang:Bs):ColT:=⟨rkL lang,digN 10 ++ letN (lang == wEs) 26,[]⟩
/-- A rule as it is written. -/
def ruleTx (p:Pr):Bs:=p.1 ++ (32 :: p.2)
theorem splitDe:(Lib.splitB (bs [44,32]) 0 (Lib.countB (bs allDe) (bs [44,32])) (bs allDe)).map (·.data.toList)=rkDe.map ruleTx:=by decide +kernel
theorem splitFr:(Lib.splitB (bs [44,32]) 0 (Lib.countB (bs allFr) (bs [44,32])) (bs allFr)).map (·.data.toList)=rkFr.map ruleTx:=by decide +kernel
theorem splitEs:(Lib.splitB (bs [44,32]) 0 (Lib.countB (bs allEs) (bs [44,32])) (bs allEs)).map (·.data.toList)=rkEs.map ruleTx:=by decide +kernel
theorem countDe:Lib.countB (bs allDe) (bs [44,32])+1=7:=by decide +kernel
theorem countFr:Lib.countB (bs allFr) (bs [44,32])+1=28:=by decide +kernel
theorem countEs:Lib.countB (bs allEs) (bs [44,32])+1=12:=by decide +kernel
theorem itoa_dig:∀ k:Nat,k<10→Lib.itoa (k:Int)=[UInt8.ofNat (48+k)]:=by decide +kernel
end Go.Proofs.YtmcoomlkbgiboaaGreatDoor

/- strings.IndexAny at ASCII sets, every text: the place. Conditions: lengths. -/
set_option linter.all false
namespace Go.Proofs.YtmcoomlkbgiboaaGreatDoor
open Go.RowKit

def IdxPost (l cs:Bs) (w:World) (e:Ending) (w':World):Prop:=e=.returned (.int .i64 (Lib.indexAny l cs))∧Kept w w'
theorem indexAny_hit (cs:Bs):∀ (l:Bs) (pos:Nat),(∀ b∈l.take pos,inSet cs b=false)→(∃ x,l[pos]? = some x∧inSet cs x=true)→Lib.indexAny l cs=(pos:Int)
 | [],pos,_,⟨x,hx,_⟩=>by simp at hx
 | b :: l,0,_,⟨x,hx,hc⟩=>by
  simp at hx
  subst hx
  unfold inSet at hc
  rw [Lib.indexAny,if_pos hc]; rfl
 | b :: l,pos+1,h,⟨x,hx,hc⟩=>by
  have hb:cs.contains b=false:=h b (by simp)
  have ih:=indexAny_hit cs l pos (fun y hy=>h y (by rw [List.take_succ_cons]; exact List.mem_cons_of_mem _ hy)) ⟨x,by simpa using hx,hc⟩
  rw [Lib.indexAny,hb,ih]
  have:((pos:Int) == -1)=false:=by rw [beq_eq_false_iff_ne]; omega
  rw [this]; simp
theorem indexAny_none (cs:Bs):∀ l:Bs,(∀ b∈l,inSet cs b=false)→Lib.indexAny l cs = -1
 | [],_=>rfl
 | b :: l,h=>by
  have hb:cs.contains b=false:=h b (by simp)
  rw [Lib.indexAny,hb,indexAny_none cs l (fun y hy=>h y (List.mem_cons_of_mem _ hy))]; rfl
theorem take_one (f:UInt8→Bool) (l:Bs) (pos:Nat) (h:pos<l.length) (h1:∀ b∈l.take pos,f b=false) (h2:f l[pos]=false):∀ b∈l.take (pos+1),f b=false:=by
 intro b hb
 rw [List.take_succ_eq_append_getElem h] at hb
 rcases List.mem_append.1 hb with q | q
 ·exact h1 b q
 ·simp at q; rw [q]; exact h2
theorem take_high (f:UInt8→Bool) (hf:∀ b:UInt8,128≤(b.toNat:Int)→f b=false) (l:Bs):∀ (n i:Nat),(∀ b∈l.take i,f b=false)→(∀ j,j<n→128≤byteAt (bs l) (i+j))→∀ b∈l.take (i+n),f b=false
 | 0,i,h,_=>h
 | n+1,i,h,hh=>by
  rcases Nat.lt_or_ge i l.length with q | q
  ·have h1:=hh 0 (by omega)
   rw [Nat.add_zero,byteAt_bs,at8_get l i q] at h1
   have:=take_high f hf l n (i+1) (take_one f l i q h (hf _ h1)) (fun j hj=>by have:=hh (j+1) (by omega); rwa [show i+1+j=i+(j+1) from by omega])
   rwa [show i+(n+1)=i+1+n from by omega]
  ·intro b hb
   rw [List.take_of_length_le (by omega)] at hb
   exact h b (by rw [List.take_of_length_le q]; exact hb)

set_option maxRecDepth 100000 in
set_option maxHeartbeats 1600000 in
theorem iidx_short (l cs:Bs) (w:World) (hcs:Ascii cs) (hl:cs.length≤1000) (h2:2≤cs.length) (h8:l.length≤8) :
  Calls Tryz.prog 118 #[.string (bs l),.string (bs cs)] w (IdxPost l cs w):=by
 have hne1:((cs.length:Int) == 1)=false:=by rw [beq_eq_false_iff_ne]; omega
 have hce:cs.isEmpty=false:=by cases cs <;> simp at h2 ⊢
 have hce':¬ cs=[]:=by cases cs <;> simp at h2 ⊢
 have hf:∀ b:UInt8,128≤(b.toNat:Int)→inSet cs b=false:=fun b hb=>by
  unfold inSet
  rw [Bool.eq_false_iff]
  intro q
  have:=hcs b (by simpa using q)
  omega
 have HF:=Lib.hid hf
 clear hf
 go_enter Tryz.func118,Tryz.ntmps118
 go_wp2_with (go_at_call 159; refine (Tryz.strings_shouldUseASCIISet _ _).mono ?_; rintro e w' ⟨rfl,hw⟩; obtain rfl:=hw.symm)
 go_loopw [9] (fun u wr=>∃ pos:Nat,pos≤l.length∧wr.heap[w.heap.size]? = some (.stringIter (bs l) pos)∧Kept w wr∧Hid (∀ b∈l.take pos,inSet cs b=false)) (fun u wr=>l.length - wr.iterPos w.heap.size)
 case atStart=>exact ⟨0,Nat.zero_le _,World.iter_heap _ _ _,kept_alloc _ _,(by show ∀ b∈_,_; simp)⟩
 case round =>
  obtain ⟨pos,hp,hit,hk,HA⟩:=hrel
  have hip:wr.iterPos w.heap.size=pos:=by simp [World.iterPos,hit]
  have hsz:w.heap.size<wr.heap.size:=by
   rcases Nat.lt_or_ge w.heap.size wr.heap.size with q | q
   ·exact q
   ·rw [Array.getElem?_eq_none q] at hit; cases hit
  by_cases hlt:pos<l.length
  ·have nx:=fun ty=>run_next_k (P:=Tryz.prog) wr w.heap.size (bs l) pos ty hit hlt
   have hb:=dec_bounds (bs l) pos hlt
   have h0:=at8_lo l pos
   have hit2:∀ p,(wr.iterAt w.heap.size (bs l) p).heap[w.heap.size]? = some (.stringIter (bs l) p):=fun p=>Lib.iterAt_heap wr w.heap.size (bs l) pos p hit
   have hk2:∀ p,Kept w (wr.iterAt w.heap.size (bs l) p):=fun p=>Lib.below_iterAt hk (Nat.le_refl _) (bs l) p
   have HIT:=Lib.hid hit2
   have HK2:=Lib.hid hk2
   have HIP:=Lib.hid hip
   clear hit2 hk2 hip
   by_cases ha:at8 l pos<128
   ·have HL1:=Lib.hid (fun h:inSet cs l[pos]=true=>indexAny_hit cs l pos HA.out ⟨l[pos],List.getElem?_eq_getElem hlt,h⟩)
    have HL2:=Lib.hid (fun h:inSet cs l[pos]=false=>take_one (inSet cs) l pos hlt HA.out h)
    rw [dec_ascii l pos ha] at nx
    simp only at nx
    have HB:Hid (at8 l pos=(l[pos].toNat:Int)):=at8_get l pos hlt
    generalize l[pos]=x at *
    generalize at8 l pos=c at *
    have HX:Hid (∀ w,Calls Tryz.prog 158 #[.string (bs cs),.int .i32 c] w fun e w'=>e=.returned (.int .i64 (Lib.indexByte cs x))∧w=w'):=by
     intro w
     refine (Tryz.strings_IndexRune_ascii (bs cs) c w h0 ha).mono ?_
     rintro e w' ⟨rfl,rfl⟩
     refine ⟨?_,rfl⟩
     rw [HB.out,Int.toNat_natCast,show x.toNat.toUInt8=x from by simp,bs_data]
    have HC:Hid (decide (0≤Lib.indexByte cs x)=inSet cs x):=indexByte_contains x cs
    have hge:=Lib.indexByte_ge cs x
    generalize Lib.indexByte cs x=r at *
    by_cases hr:0≤r
    ·go_wp2_with fail
     refine (HX.out _).mono ?_
     rintro e w1 ⟨rfl,rfl⟩
     go_wp2_with fail
     go_ret
     exact ⟨ret_int (HL1.out (by rw [← HC.out]; exact decide_eq_true hr)).symm,HK2.out _⟩
    ·go_wp2_with fail
     refine (HX.out _).mono ?_
     rintro e w1 ⟨rfl,rfl⟩
     go_wp2_with fail
     go_roundw
     case rel=>exact ⟨pos+1,by omega,HIT.out _,HK2.out _,HL2.out (by rw [← HC.out]; exact decide_eq_false (by omega))⟩
     case measure=>rw [HIP.out]; have:=HIT.out (pos+1); simp [World.iterPos,this]; omega
   ·have HS:Hid (∀ b∈l.take (pos+(dec (bs l) pos).2.toNat),inSet cs b=false):=take_high (inSet cs) HF.out l _ pos HA.out (dec_high (bs l) pos (by rw [byteAt_bs]; omega)).2
    have hc:=(dec_high (bs l) pos (by rw [byteAt_bs]; omega)).1
    obtain ⟨c,n,hd⟩:∃ c n,dec (bs l) pos=(c,n):=⟨(dec (bs l) pos).1,(dec (bs l) pos).2,rfl⟩
    rw [hd] at nx hb HS hc
    simp only at nx hb HS hc
    obtain ⟨b1,b2,b3,b4,b5⟩:=hb
    simp only [bs_size] at b5
    have HX:Hid (∀ w,Calls Tryz.prog 158 #[.string (bs cs),.int .i32 c] w fun e w'=>e=.returned (.int .i64 (-1))∧Kept w w'):=by
     intro w
     by_cases q:c=65533
     ·rw [q]; exact irune_err cs w hcs hl
     ·refine (irune_big cs c w hc b2 (by rw [beq_eq_false_iff_ne]; exact q) hcs hl).mono ?_
      rintro e w' ⟨rfl,n,rfl⟩
      exact ⟨rfl,kept_drewN _ _⟩
    clear hd
    go_wp2_with fail
    refine (HX.out _).mono ?_
    rintro e w1 ⟨rfl,hk1⟩
    have HK1:=Lib.hid hk1
    clear hk1
    go_wp2_with fail
    go_roundw
    case rel =>
     refine ⟨pos+n.toNat,by omega,?_,(HK2.out _).trans HK1.out,HS.out⟩
     rw [HK1.out.block _ (by rw [Lib.iterAt_size]; exact hsz)]
     exact HIT.out _
    case measure =>
     have:=HIT.out (pos+n.toNat)
     rw [← HK1.out.block _ (by rw [Lib.iterAt_size]; exact hsz)] at this
     rw [HIP.out]
     simp [World.iterPos,this]; omega
  ·have nx:=fun ty=>run_next_k_end (P:=Tryz.prog) wr w.heap.size (bs l) pos ty hit hlt
   go_wp2_with fail
   go_ret
   exact ⟨ret_int (indexAny_none cs l (fun b hb=>HA.out b (by rw [List.take_of_length_le (by omega)]; exact hb))).symm,hk⟩

theorem iidx_any (l cs:Bs) (w:World) (hcs:Ascii cs) (hl:cs.length≤1000) (h2:2≤cs.length) (hs:l.length≤1000000000) :
  Calls Tryz.prog 118 #[.string (bs l),.string (bs cs)] w (IdxPost l cs w):=by
 by_cases h8:l.length≤8
 ·exact iidx_short l cs w hcs hl h2 h8
 ·refine (Tryz.strings_IndexAny_long zero_set (bs l) (bs cs) w (by simpa using h2) (by simp; omega) (by simp; omega) (by simp; omega) (fun j b hb=>?_)).mono ?_
  ·have:=hcs b (List.mem_of_getElem? (by simpa using hb)); omega
  ·rintro e w' ⟨rfl,rfl⟩
   exact ⟨rfl,(kept_alloc _ _).trans (kept_alloc _ _)⟩
end Go.Proofs.YtmcoomlkbgiboaaGreatDoor

/- Styles in plain Lean: lines, small words, pieces of templates. No condition. -/
set_option linter.all false
namespace Go.Proofs.YtmcoomlkbgiboaaGreatDoor
open Go.RowKit

/-- Is a text a line of clean text? -/
def lnB (l:Bs):Bool:=validB (bs l) && !l.contains 10
def lowB (b:UInt8):Bool:=decide (97≤(b.toNat:Int)) && decide ((b.toNat:Int)≤122)
/-- Has a text 1 to most bytes, all of them small letters or in more? -/
def smallB (l:Bs) (most:Int) (more:Bs):Bool:=decide (1≤l.length) && (decide ((l.length:Int)≤most) && l.all fun b=>lowB b || more.contains b)
/-- A piece of a template. -/
structure Pc where
 txt:Bs
 fld:Bool
 grp:Nat
def spSet:Bs:=[123,125,91,93]
/-- How many bytes stand ahead of the first special one. -/
def runN (l:Bs):Nat:=if Lib.indexAny l spSet<0 then l.length else (Lib.indexAny l spSet).toNat
/-- The pieces of what is left of a template: gs groups have begun, the place is in group g (0: in none). -/
def splP:Nat→Bs→Nat→Nat→Option (List Pc)
 | 0,_,_,_=>none
 | _+1,[],_,g=>if g=0 then some [] else none
 | f+1,b :: r,gs,g =>
  if inSet spSet b=false then (splP f ((b :: r).drop (runN (b :: r))) gs g).map fun l=>⟨(b :: r).take (runN (b :: r)),false,g⟩ :: l
  else if b=123 then
   if before 125 r<r.length∧smallB (r.take (before 125 r)) 20 []=true then (splP f (r.drop (before 125 r+1)) gs g).map fun l=>⟨r.take (before 125 r),true,g⟩ :: l else none
  else if b=91∧g=0 then splP f r (gs+1) (gs+1)
  else if b=93∧g≠0 then splP f r gs 0
  else none
def splT (t:Bs):Option (List Pc):=splP (t.length+1) t 0 0
/-- The error and the pieces of a template. -/
def splE (t:Bs):Int:=if lnB t=false then 17 else if (splT t).isSome=true then 0 else 5
def splL (t:Bs):List Pc:=if splE t=0 then (splT t).getD [] else []
theorem splP_end (f gs g:Nat):splP (f+1) [] gs g=if g=0 then some [] else none:=rfl
theorem splP_run {b:UInt8} {r:Bs} (f gs g:Nat) (h:inSet spSet b=false):splP (f+1) (b :: r) gs g=(splP f ((b :: r).drop (runN (b :: r))) gs g).map fun l=>⟨(b :: r).take (runN (b :: r)),false,g⟩ :: l:=by
 rw [splP,if_pos h]
theorem splP_fld {r:Bs} (f gs g:Nat):splP (f+1) (123 :: r) gs g=if before 125 r<r.length∧smallB (r.take (before 125 r)) 20 []=true then (splP f (r.drop (before 125 r+1)) gs g).map fun l=>⟨r.take (before 125 r),true,g⟩ :: l else none:=by
 rw [splP,if_neg (by decide),if_pos rfl]
theorem splP_open {r:Bs} (f gs g:Nat):splP (f+1) (91 :: r) gs g=if g=0 then splP f r (gs+1) (gs+1) else none:=by
 rw [splP,if_neg (by decide),if_neg (by decide)]
 by_cases h:g=0
 ·rw [if_pos ⟨rfl,h⟩,if_pos h]
 ·rw [if_neg (fun q=>h q.2),if_neg (fun q=>absurd q.1 (by decide)),if_neg h]
theorem splP_shut {r:Bs} (f gs g:Nat):splP (f+1) (93 :: r) gs g=if g=0 then none else splP f r gs 0:=by
 rw [splP,if_neg (by decide),if_neg (by decide),if_neg (fun q=>absurd q.1 (by decide))]
 by_cases h:g=0
 ·rw [if_neg (fun q=>q.2 h),if_pos h]
 ·rw [if_pos ⟨rfl,h⟩,if_neg h]
theorem splP_bad {r:Bs} (f gs g:Nat):splP (f+1) (125 :: r) gs g=none:=by
 rw [splP,if_neg (by decide),if_neg (by decide),if_neg (fun q=>absurd q.1 (by decide)),if_neg (fun q=>absurd q.1 (by decide))]
theorem spSet_cases {b:UInt8} (h:inSet spSet b=true):b=123∨b=125∨b=91∨b=93:=by
 unfold inSet spSet at h
 simpa using h
theorem indexAny_lt (cs:Bs):∀ l:Bs,Lib.indexAny l cs<(l.length:Int)
 | []=>by rw [Lib.indexAny]; simp
 | b :: l=>by
  have ih:=indexAny_lt cs l
  rw [Lib.indexAny]
  split
  ·simp only [List.length_cons]; omega
  ·split
   ·simp only [List.length_cons]; omega
   ·simp only [List.length_cons]; omega
theorem runN_zero {b:UInt8} {r:Bs} (h:inSet spSet b=true):Lib.indexAny (b :: r) spSet=0:=by
 unfold inSet at h
 rw [Lib.indexAny,if_pos h]
theorem runN_pos {b:UInt8} {r:Bs} (h:inSet spSet b=false):(Lib.indexAny (b :: r) spSet = -1∧runN (b :: r)=r.length+1)∨(∃ k:Nat,Lib.indexAny (b :: r) spSet=(k:Int)∧runN (b :: r)=k∧0<k∧k≤r.length):=by
 have hge:=Lib.indexAny_ge spSet (b :: r)
 unfold inSet at h
 have hne:Lib.indexAny (b :: r) spSet≠0:=by
  rw [Lib.indexAny,h]
  have:=Lib.indexAny_ge spSet r
  simp only [Bool.false_eq_true,if_false]
  split
  ·omega
  ·rename_i q
   rw [Bool.not_eq_true,beq_eq_false_iff_ne] at q
   omega
 by_cases q:Lib.indexAny (b :: r) spSet = -1
 ·refine .inl ⟨q,?_⟩
  unfold runN
  rw [if_pos (by omega)]; simp
 ·refine .inr ⟨(Lib.indexAny (b :: r) spSet).toNat,by omega,?_,by omega,?_⟩
  ·unfold runN
   rw [if_neg (by omega)]
  ·have:=indexAny_lt spSet (b :: r)
   simp only [List.length_cons] at this
   omega
end Go.Proofs.YtmcoomlkbgiboaaGreatDoor
