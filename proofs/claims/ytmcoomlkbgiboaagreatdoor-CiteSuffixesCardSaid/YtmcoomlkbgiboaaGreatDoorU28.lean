/- How texts compare: the library's word and the plain one. No condition. -/
import Derived.Test.YtmcoomlkbgiboaaGreatDoorU23
import Derived.Test.YtmcoomlkbgiboaaGreatDoorU27
import Derived.Test.YtmcoomlkbgiboaaGreatDoorU24
import Derived.Test.YtmcoomlkbgiboaaGreatDoorU13
import Derived.Test.YtmcoomlkbgiboaaGreatDoorU02
import Derived.Test.YtmcoomlkbgiboaaGreatDoorU04
import Derived.Lib.Bytealg
import Derived.Laws.StructEq
import Derived.Lib.ItoaNum
set_option linter.all false
set_option maxRecDepth 100000
set_option maxHeartbeats 6400000
namespace Go.Proofs.YtmcoomlkbgiboaaGreatDoor
open Go.RowKit
theorem zFh (a b:UInt8):a<b↔(a.toNat:Int)<(b.toNat:Int):=by rw[UInt8.lt_iff_toNat_lt];omega
theorem zo4:∀ a b:Bs,Lib.compareBytes a b=zCU a b
 | [],[]=>rfl
 | [],_ :: _=>rfl
 | _ :: _,[]=>rfl
 | a :: x,b :: y=>by
  have ih:=zo4 x y;unfold zCU at ih ⊢;rw[Lib.compareBytes,List.map_cons,List.map_cons,zf4,ih];simp only[zFh]
theorem zzL (v u:Value) (x y:List Int) (w:World) (hv:Ints w v x) (hu:Ints w u y) (hx:x.length<=200000000) (hy:y.length<=200000000) :
  Calls Tryz.prog 145 #[v,u] w fun e w'=>e=.returned (.int .i64 (zf4 x y))/\w=w':=by
 have HV:=Hd hv;have HU:=Hd hu;obtain ⟨a,c,rfl,hc⟩:=hv.form;obtain ⟨b,d,rfl,hd⟩:=hu.form;clear hv hu;have HAT:=Hd (zDw x y);have HEN:=Hd (zBy x y);obtain ⟨R,HR⟩:∃ R,Hid (zf4 x y=R):=⟨_,rfl⟩;rw[HR.out];go_enter Tryz.func145,Tryz.ntmps145;go_wp2_with fail
 go_loop [11] (fun i=>∃ k:Nat,k<=x.length/\k<=y.length/\i=.int .i64 k/\Hid (zf4 (x.drop k) (y.drop k)=R)) (fun i=>x.length - (intOf i).toNat)
 case atStart=>exact ⟨0,Nat.zero_le _,Nat.zero_le _,rfl,HR.out⟩
 case round =>
  obtain ⟨k,hk,hk2,rfl,HA⟩:=hrel;by_cases hlt:k<x.length
  ·obtain ⟨p,hp⟩:∃ z,x[k]? = some z:=⟨_,List.getElem?_eq_getElem hlt⟩;obtain ⟨g,o,rfl,hg,d0⟩:=HV.out.cell_of k p hp;by_cases hlt2:k<y.length
   ·obtain ⟨q,hq⟩:∃ z,y[k]? = some z:=⟨_,List.getElem?_eq_getElem hlt2⟩;obtain ⟨g2,o2,rfl,hg2,d1⟩:=HU.out.cell_of k q hq;have HS:Hid (R=if p<q then -1 else if q<p then 1 else zf4 (x.drop (k+1)) (y.drop (k+1))):=by
     show _=_;rw[<- HA.out,HAT.out k hlt hlt2];obtain ⟨_,rfl⟩:=List.getElem?_eq_some_iff.1 hp;obtain ⟨_,rfl⟩:=List.getElem?_eq_some_iff.1 hq;rfl
    have HC:=Hd (fun w=>Tryz.cmp_Compare_int p q w);unfold Lib.compareInt at HC;clear hp hq;by_cases h1:p<q
    ·rw[if_pos h1] at HS HC;go_wp2_with fail;refine (HC.out _).mono ?_;rintro e w' ⟨rfl,rfl⟩;go_wp2_with fail;go_ret;exact ⟨zaK HS.out.symm,rfl⟩
    rw[if_neg h1] at HS HC;by_cases h2:q<p
    ·rw[if_pos h2] at HS HC;go_wp2_with fail;refine (HC.out _).mono ?_;rintro e w' ⟨rfl,rfl⟩;go_wp2_with fail;go_ret;exact ⟨zaK HS.out.symm,rfl⟩
    rw[if_neg h2] at HS;rw[if_neg (show ¬ p > q from h2)] at HC;go_wp2_with fail;refine (HC.out _).mono ?_;rintro e w' ⟨rfl,rfl⟩;go_wp2_with fail
    go_round
    case rel=>exact ⟨k+1,by omega,by omega,by go_num,HS.out.symm⟩
    case measure=>simp [intOf];omega
   ·have HS:Hid (R=1):=by
     show _=_;rw[<- HA.out,HEN.out k hk hk2 (fun q=>hlt2 q.2),if_neg (by omega),if_pos (by omega)]
    clear hp;go_wp2_with fail;go_ret;exact ⟨zaK HS.out.symm,rfl⟩
  ·have HS:Hid (R=if x.length<y.length then -1 else 0):=by
    show _=_;rw[<- HA.out,HEN.out k hk hk2 (fun q=>hlt q.1)];by_cases q:x.length<y.length
    ·rw[if_pos q,if_pos q]
    ·rw[if_neg q,if_neg q,if_neg (by omega)]
   by_cases h1:x.length<y.length
   ·rw[if_pos h1] at HS;go_wp2_with fail;go_ret;exact ⟨zaK HS.out.symm,rfl⟩
   ·rw[if_neg h1] at HS;go_wp2_with fail;go_ret;exact ⟨zaK HS.out.symm,rfl⟩
theorem zuA {c:ColT} (hs:SmallC c) (s:Bs):(zgG c s).length<=1000 * s.length:=by
 have h1:∀ x,(zi7 c x).length<=1000:=fun x=>by
  unfold zi7
  split
  ·simp
  ·split
   ·rename_i v hv;have:=zzJ hs hv;simpa using this
   ·simp
 have h2:∀ xs:List Int,(xs.flatMap (zi7 c)).length<=1000 * xs.length:=by
  intro xs
  induction xs with
  | nil=>simp
  | cons x xs ih =>
   have:=h1 x;rw[List.flatMap_cons,List.length_append,List.length_cons];omega
 have h3:=h2 (zeV s);have h4:=ziB s;unfold zgG;omega
theorem zBU (c:ColT) (a b:Bs):zm0 c a b=if zf4 (zgG c a) (zgG c b)≠0 then zf4 (zgG c a) (zgG c b) else Lib.compareBytes a b:=by
 rw[zo4];rfl
theorem zlZ (vR vO:Value) (c:ColT) (a b:Bs) (w:World) (hv:Col w vR vO c) (hs:SmallC c) (ha:a.length<=100000) (hb:b.length<=100000) :
  Calls Tryz.prog 95 #[zAM vR vO c.ignore,.string (bs a),.string (bs b)] w fun e w'=>e=.returned (.int .i64 (zm0 c a b))/\Kept w w':=by
 have HV:=Hd hv;have HT:=Hd (fun w h=>zv1 vR vO c w h hs);have HKA:=Hd (fun v w h=>zzK v c a w h hs ha);have HKB:=Hd (fun v w h=>zzK v c b w h hs hb);have hla:=zuA hs a;have hlb:=zuA hs b;have HE:=Hd (zBU c a b);have HEQ:=Hd (fun h:a=b=>(show zm0 c a b=0 from (zy4 c a b).2 h));have HSC:=Hd (fun w=>Tryz.strings_Compare (bs a) (bs b) w);simp only[zfL] at HSC;obtain ⟨aR,cR,rfl,lR⟩:=hv.1.form;obtain ⟨aO,cO,rfl,lO⟩:=hv.2.form;clear hv;have HK0:=Hd (zaA w (.cells #[.slice aR c.ranks.length cR,.slice aO c.order.length cO,.string (bs c.ignore)] 88));generalize zm0 c a b=R at *;generalize zgG c a=ka at *;generalize zgG c b=kb at *;generalize Lib.compareBytes a b=S at *;unfold IntsP at HKA HKB;by_cases hab:a=b
 ·have HR:=Hd (HEQ.out hab);subst hab;go_enter Tryz.func95,Tryz.ntmps95;go_wp2_with fail;go_ret;exact ⟨zaK HR.out.symm,HK0.out⟩
 have hab':(a == b)=false:=(by simpa using hab);go_enter Tryz.func95,Tryz.ntmps95;go_wp2_with fail;refine (HT.out _ (HV.out.kept HK0.out)).mono ?_;rintro e w1 ⟨v1,rfl,ht1,hk1⟩;have HT1:=Hd ht1;have HK1:=Hd (HK0.out.trans hk1);obtain ⟨m1,m2,m3,es,rfl,_,_,_,_⟩:=ht1;clear hk1;have HB1:=Hd (Blk.new w1 196 #[.map (some m1),.map (some m2),.map (some m3),.int .i64 c.order.length]);have HK2:=Hd (HK1.out.trans (zaA w1 (.cells #[.map (some m1),.map (some m2),.map (some m3),.int .i64 c.order.length] 196)));have HT2:=Hd (HT1.out.kept (zaA w1 (.cells #[.map (some m1),.map (some m2),.map (some m3),.int .i64 c.order.length] 196)));go_wp2_with fail;generalize w1.alloc (.cells #[.map (some m1),.map (some m2),.map (some m3),.int .i64 c.order.length] 196)=w2 at *;generalize w1.heap.size=B at *;have t0:w2.cell? ⟨B,0,none⟩=some (.map (some m1)):=HB1.out.cell 0 _ rfl;have t1:w2.cell? ⟨B,1,none⟩=some (.map (some m2)):=HB1.out.cell 1 _ rfl;have t2:w2.cell? ⟨B,2,none⟩=some (.map (some m3)):=HB1.out.cell 2 _ rfl;have t3:w2.cell? ⟨B,3,none⟩=some (.int .i64 c.order.length):=HB1.out.cell 3 _ rfl;have zt:=HB1.out.lt;have HCC:Hid (∀ w',Kept w2 w'->(w'.cell? ⟨B,0,none⟩=some (.map (some m1))/\w'.cell? ⟨B,1,none⟩=some (.map (some m2))/\w'.cell? ⟨B,2,none⟩=some (.map (some m3))/\w'.cell? ⟨B,3,none⟩=some (.int .i64 c.order.length))/\B<w'.heap.size/\Kept w2 w'):=fun w' h =>
  ⟨⟨(h.cell (p:=⟨B,0,none⟩) zt).trans t0,(h.cell (p:=⟨B,1,none⟩) zt).trans t1,(h.cell (p:=⟨B,2,none⟩) zt).trans t2,(h.cell (p:=⟨B,3,none⟩) zt).trans t3⟩,Nat.lt_of_lt_of_le zt h.size,h⟩
 have hkd:Kept w2 w2.drew:=zaB w2 1;have HCMP:=Hd (fun v u w (h1:Ints w v ka) (h2:Ints w u kb)=>zzL v u ka kb w h1 h2 (by omega) (by omega))
 go_region_held3 (fun w'=>(w'.cell? ⟨B,0,none⟩=some (.map (some m1))/\w'.cell? ⟨B,1,none⟩=some (.map (some m2))/\w'.cell? ⟨B,2,none⟩=some (.map (some m3))/\w'.cell? ⟨B,3,none⟩=some (.int .i64 c.order.length))/\B<w'.heap.size/\Kept w2 w')
  ((refine HCC.out _ ?_;assumption))
  (first
   | (go_at_call 145;refine (HCMP.out _ _ _ HIA2.out HIB2.out).mono ?_;rintro e w5 ⟨rfl,rfl⟩)
   | (go_at_call_of 146 (Value.string (bs b));refine (HKB.out _ _ (HT2.out.kept kA)).mono ?_;rintro e w4 ⟨vB,rfl,hiB,hk4⟩;have kB:Kept w2 w4:=kA.trans hk4;have HIA2:=Hd (HIA.out.kept hk4);have HIB2:=Hd hiB;obtain ⟨aB,cB,rfl,lB⟩:=hiB.form;clear hk4 hiB)
   | (go_at_call_of 146 (Value.string (bs a));refine (HKA.out _ _ (HT2.out.kept hkd)).mono ?_;rintro e w3 ⟨vA,rfl,hiA,hk3⟩;have kA:Kept w2 w3:=hkd.trans hk3;have HIA:=Hd hiA;obtain ⟨aA,cA,rfl,lA⟩:=hiA.form;clear hk3 hiA))
 all_goals
  have HKZ:=Hd (HK2.out.trans kB);clear HCC kA kB HIA2 HIB2;generalize zf4 ka kb=D at *;by_cases hD:D=0
  ·subst hD;rw[if_neg (by simp)] at HE;go_wp2_with fail;refine (HSC.out _).mono ?_;rintro e w6 ⟨rfl,rfl⟩;go_wp2_with fail;go_ret;exact ⟨zaK HE.out.symm,HKZ.out⟩
  ·rw[if_pos hD] at HE;have hD':(D == 0)=false:=(by simpa using hD);go_wp2_with fail;go_ret;exact ⟨zaK HE.out.symm,HKZ.out⟩
def zE4 (x:KeyT):Value:=.agg #[.string (bs x.author),.int .i64 x.year,.string (bs x.title),.string (bs x.key)]
def FitKy (x:KeyT):Prop:=x.author.length<=100000/\x.title.length<=100000/\x.key.length<=100000/\(-9223372036854775808<=x.year/\x.year<=9223372036854775807)
theorem zo5 (vR vO:Value) (c:ColT) (wd:Bs) (x y:KeyT) (w:World) (hc:Col w vR vO c) (hs:SmallC c) (hx:FitKy x) (hy:FitKy y) :
  Calls Tryz.prog 42 #[zAM vR vO c.ignore,.string (bs wd),zE4 x,zE4 y] w fun e w'=>e=.returned (.int .i64 (zfC c wd x y))/\Kept w w':=by
 obtain ⟨x1,x2,x3,x4⟩:=hx;obtain ⟨y1,y2,y3,y4⟩:=hy;have HA:=Hd (fun w' (k:Kept w w')=>zlZ vR vO c x.author y.author w' (hc.kept k) hs x1 y1);have HT:=Hd (fun w' (k:Kept w w')=>zlZ vR vO c x.title y.title w' (hc.kept k) hs x2 y2);have HY:=Hd (fun w'=>Tryz.cmp_Compare_int x.year y.year w');have HK:=Hd (fun w'=>Tryz.strings_Compare (bs x.key) (bs y.key) w');obtain ⟨aR,cR,rfl,lR⟩:=hc.1.form;obtain ⟨aO,cO,rfl,lO⟩:=hc.2.form;have HW:Hid (zfC c wd x y=if wd=zo0 then zm0 c x.author y.author else if wd=zBz then zEl x.year y.year else if wd=zhC then zm0 c x.title y.title else zCU x.key y.key):=rfl;rw[HW.out];unfold zAM at HA HT;obtain ⟨xa,xy,xt,xk⟩:=x;obtain ⟨ya,yy,yt,yk⟩:=y;simp only at HA HT HY HK;clear hc hs x1 x2 x3 y1 y2 y3 HW;have HK0:Hid (Kept w (((w.alloc (.cells #[.slice aR c.ranks.length cR,.slice aO c.order.length cO,.string (bs c.ignore)] 88)).alloc (.cells #[.string (bs xa),.int .i64 xy,.string (bs xt),.string (bs xk)] 84)).alloc (.cells #[.string (bs ya),.int .i64 yy,.string (bs yt),.string (bs yk)] 84))):=((zaA w _).trans (zaA _ _)).trans (zaA _ _);have hb:=((Blk.new w 88 #[.slice aR c.ranks.length cR,.slice aO c.order.length cO,.string (bs c.ignore)]).alloc (.cells #[.string (bs xa),.int .i64 xy,.string (bs xt),.string (bs xk)] 84)).alloc (.cells #[.string (bs ya),.int .i64 yy,.string (bs yt),.string (bs yk)] 84);have hx:=(Blk.new (w.alloc (.cells #[.slice aR c.ranks.length cR,.slice aO c.order.length cO,.string (bs c.ignore)] 88)) 84 #[.string (bs xa),.int .i64 xy,.string (bs xt),.string (bs xk)]).alloc (.cells #[.string (bs ya),.int .i64 yy,.string (bs yt),.string (bs yk)] 84);have hy:=Blk.new ((w.alloc (.cells #[.slice aR c.ranks.length cR,.slice aO c.order.length cO,.string (bs c.ignore)] 88)).alloc (.cells #[.string (bs xa),.int .i64 xy,.string (bs xt),.string (bs xk)] 84)) 84 #[.string (bs ya),.int .i64 yy,.string (bs yt),.string (bs yk)];obtain ⟨B,HBB⟩:∃ B,Hid (w.heap.size=B):=⟨_,rfl⟩;simp only[World.size_alloc,HBB.out] at hb hx hy;have q0:=hb.cell 0 _ rfl;have q1:=hb.cell 1 _ rfl;have q2:=hb.cell 2 _ rfl;have qz:=hb.lt;have x0:=hx.cell 0 _ rfl;have x1:=hx.cell 1 _ rfl;have x2:=hx.cell 2 _ rfl;have x3:=hx.cell 3 _ rfl;have xz:=hx.lt;have y0:=hy.cell 0 _ rfl;have y1:=hy.cell 1 _ rfl;have y2:=hy.cell 2 _ rfl;have y3:=hy.cell 3 _ rfl;have yz:=hy.lt;clear hb hx hy;unfold zo0 zBz zhC zAM zE4;dsimp only;by_cases h1:wd=[97,117,116,104,111,114]
 ·rw[if_pos h1];subst h1;go_enter Tryz.func42,Tryz.ntmps42;go_upto_region 1 with fail;rw[HBB.out];generalize World.alloc (World.alloc (World.alloc w _) _) _=w0 at *;go_wp2_with fail;refine (HA.out _ HK0.out).mono ?_;rintro e w5 ⟨rfl,hk⟩;have HKZ:=Hd (HK0.out.trans hk);clear hk HA HT HY HK;go_wp2_with fail
  (try go_ret)
  exact ⟨rfl,HKZ.out⟩
 have b1:(wd == [97,117,116,104,111,114])=false:=(by rw[beq_eq_false_iff_ne];exact h1);rw[if_neg h1];by_cases h2:wd=[121,101,97,114]
 ·rw[if_pos h2];subst h2;go_enter Tryz.func42,Tryz.ntmps42;go_upto_region 1 with fail;rw[HBB.out];generalize World.alloc (World.alloc (World.alloc w _) _) _=w0 at *;go_wp2_with fail;refine (HY.out _).mono ?_;rintro e w5 ⟨rfl,rfl⟩;clear HA HT HY HK;go_wp2_with fail
  (try go_ret)
  exact ⟨rfl,HK0.out⟩
 have b2:(wd == [121,101,97,114])=false:=(by rw[beq_eq_false_iff_ne];exact h2);rw[if_neg h2];by_cases h3:wd=[116,105,116,108,101]
 ·rw[if_pos h3];subst h3;go_enter Tryz.func42,Tryz.ntmps42;go_upto_region 1 with fail;rw[HBB.out];generalize World.alloc (World.alloc (World.alloc w _) _) _=w0 at *;go_wp2_with fail;refine (HT.out _ HK0.out).mono ?_;rintro e w5 ⟨rfl,hk⟩;have HKZ:=Hd (HK0.out.trans hk);clear hk HA HT HY HK;go_wp2_with fail
  (try go_ret)
  exact ⟨rfl,HKZ.out⟩
 have b3:(wd == [116,105,116,108,101])=false:=(by rw[beq_eq_false_iff_ne];exact h3);rw[if_neg h3];have HE:=Hd (zo4 xk yk);go_enter Tryz.func42,Tryz.ntmps42;go_upto_region 1 with fail;rw[HBB.out];generalize World.alloc (World.alloc (World.alloc w _) _) _=w0 at *;go_wp2_with fail;refine (HK.out _).mono ?_;rintro e w5 ⟨rfl,rfl⟩;clear HA HT HY HK;go_wp2_with fail
 (try go_ret)
 exact ⟨zaK (by simpa using HE.out),HK0.out⟩
theorem zzM {x y:KeyT}:(x.author == y.author && (x.year == y.year && (x.title == y.title && x.key == y.key)))=true↔x=y:=by
 obtain ⟨a,b,c,d⟩:=x;obtain ⟨e,f,g,h⟩:=y;simp
theorem zDD (c:ColT) (ws:List Bs) (k:Nat) (h:ws.length<=k) (x y:KeyT):cfW c (ws.drop k) x y=0:=by
 rw[List.drop_of_length_le h];rfl
theorem zrE (C C2:Nat) (vW vR vO:Value) (c:ColT) (ws:List Bs) (x y:SorT) (aA aE aF aA' aE' aF':Option Addr) (nA nE nF nA' nE' nF' cA cE cF cA' cE' cF':Nat) (w:World)
  (hW:Blk w C 29 #[vW]) (hws:Strs w vW ws) (hcb:Blk w C2 88 #[vR,vO,.string (bs c.ignore)]) (hc:Col w vR vO c) (hs:SmallC c) (hx:FitKy x.k) (hy:FitKy y.k) (hwl:ws.length<=1000000) :
  Calls Tryz.prog 41 #[.agg (zEm x (.slice aA nA cA) (.slice aE nE cE) (.slice aF nF cF)).toArray,.agg (zEm y (.slice aA' nA' cA') (.slice aE' nE' cE') (.slice aF' nF' cF')).toArray,.pointer (some ⟨C,0,none⟩),.pointer (some ⟨C2,0,none⟩)] w fun e w'=>e=.returned (.int .i64 (cfW c ws x.k y.k))/\Kept w w':=by
 have HCM:=Hd (fun (wd:Bs) w' (k:Kept w w')=>zo5 vR vO c wd x.k y.k w' (hc.kept k) hs hx hy);have HSELF:=Hd (fun h:x.k=y.k=>(show cfW c ws x.k y.k=0 by rw[h];exact zBA c ws y.k));have HSAME:=Hd (zzM (x:=x.k) (y:=y.k));have HDR:=Hd (fun k wd (h:ws[k]? = some wd)=>zBC (c:=c) h x.k y.k);have HEND:=Hd (fun k h=>zDD c ws k h x.k y.k);have HWS:=Hd hws;obtain ⟨aW,cW,rfl,lW⟩:=(show ∃ a cc,vW=.slice a ws.length cc/\ws.length<=cc by obtain ⟨a,c,e,l,_⟩:=hws;exact ⟨a,c,e,l⟩);obtain ⟨aR,cR,rfl,lR⟩:=hc.1.form;obtain ⟨aO,cO,rfl,lO⟩:=hc.2.form;unfold zAM zE4 at HCM;obtain ⟨⟨xa,xy,xt,xk⟩,⟨xsk,xst,xau,xed,xfs⟩⟩:=x;obtain ⟨⟨ya,yy,yt,yk⟩,⟨ysk,yst,yau,yed,yfs⟩⟩:=y;unfold zEm;simp only at HCM HSELF HSAME HDR HEND;dsimp only;have HK0:Hid (Kept w ((w.alloc (.cells #[.string (bs xa),.int .i64 xy,.string (bs xt),.string (bs xk),.string (bs xsk),.string (bs xst),.slice aA nA cA,.slice aE nE cE,.slice aF nF cF] 86)).alloc (.cells #[.string (bs ya),.int .i64 yy,.string (bs yt),.string (bs yk),.string (bs ysk),.string (bs yst),.slice aA' nA' cA',.slice aE' nE' cE',.slice aF' nF' cF'] 86))):=(zaA w _).trans (zaA _ _);have hxb:=(Blk.new w 86 #[.string (bs xa),.int .i64 xy,.string (bs xt),.string (bs xk),.string (bs xsk),.string (bs xst),.slice aA nA cA,.slice aE nE cE,.slice aF nF cF]).alloc (.cells #[.string (bs ya),.int .i64 yy,.string (bs yt),.string (bs yk),.string (bs ysk),.string (bs yst),.slice aA' nA' cA',.slice aE' nE' cE',.slice aF' nF' cF'] 86);have hyb:=Blk.new (w.alloc (.cells #[.string (bs xa),.int .i64 xy,.string (bs xt),.string (bs xk),.string (bs xsk),.string (bs xst),.slice aA nA cA,.slice aE nE cE,.slice aF nF cF] 86)) 86 #[.string (bs ya),.int .i64 yy,.string (bs yt),.string (bs yk),.string (bs ysk),.string (bs yst),.slice aA' nA' cA',.slice aE' nE' cE',.slice aF' nF' cF'];obtain ⟨B,HBB⟩:∃ B,Hid (w.heap.size=B):=⟨_,rfl⟩;simp only[World.size_alloc,HBB.out] at hxb hyb;have HXB:=Hd hxb;have HYB:=Hd hyb;have HWB:=Hd (hW.kept HK0.out);have HCB:=Hd (hcb.kept HK0.out);have HF0:Hid (∀ n w',n=cfW c ws ⟨xa,xy,xt,xk⟩ ⟨ya,yy,yt,yk⟩->Kept w w'->(Ending.returned (.int .i64 n)=.returned (.int .i64 (cfW c ws ⟨xa,xy,xt,xk⟩ ⟨ya,yy,yt,yk⟩))/\Kept w w')):=fun n w' e k=>⟨by rw[e],k⟩;have hd0:cfW c ws ⟨xa,xy,xt,xk⟩ ⟨ya,yy,yt,yk⟩=cfW c (ws.drop 0) ⟨xa,xy,xt,xk⟩ ⟨ya,yy,yt,yk⟩:=rfl;obtain ⟨R,HR⟩:∃ R,Hid (cfW c ws ⟨xa,xy,xt,xk⟩ ⟨ya,yy,yt,yk⟩=R):=⟨_,rfl⟩;have HD0:=Hd hd0;rw[HR.out] at HF0 HD0 HSELF ⊢;clear hxb hyb hW hcb hws hc hs hx hy hd0;go_enter Tryz.func41,Tryz.ntmps41;go_upto_region 1 with fail;rw[HBB.out];generalize World.alloc (World.alloc w _) _=w0 at *;have x0:=HXB.out.cell 0 _ rfl;have x1:=HXB.out.cell 1 _ rfl;have x2:=HXB.out.cell 2 _ rfl;have x3:=HXB.out.cell 3 _ rfl;have xz:=HXB.out.lt;have y0:=HYB.out.cell 0 _ rfl;have y1:=HYB.out.cell 1 _ rfl;have y2:=HYB.out.cell 2 _ rfl;have y3:=HYB.out.cell 3 _ rfl;have yz:=HYB.out.lt;have w0c:=HWB.out.cell 0 _ rfl;have wz:=HWB.out.lt;by_cases ha:xa=ya
 ·subst ha;by_cases hy:xy=yy
  ·subst hy;by_cases ht:xt=yt
   ·subst ht;by_cases hk:xk=yk
    ·subst hk;have HRZ:=Hd (HF0.out 0 w0 (HSELF.out rfl).symm HK0.out);clear HSELF HSAME HCM HDR HEND HF0;go_wp2_with fail
     (try go_ret)
     exact HRZ.out
    ·have hk0:(xk == yk)=false:=(by rw[beq_eq_false_iff_ne];exact hk);clear HSELF HSAME;go_wp2_with fail;go_loopw [17] (fun i wr=>∃ (k:Nat),k<=ws.length/\i=.int .i64 k/\Hid (R=cfW c (ws.drop k) ⟨xa,xy,xt,xk⟩ ⟨xa,xy,xt,yk⟩)/\Hid (Kept w0 wr)) (fun i _=>ws.length - (intOf i).toNat)
     case atStart=>exact ⟨0,Nat.zero_le _,rfl,HD0.out,Kept.refl _⟩
     case round =>
      clear x0 x1 x2 x3 xz y0 y1 y2 y3 yz w0c wz;obtain ⟨k,hkk,rfl,HRK,HKR⟩:=hrel;by_cases hlt:k<ws.length
      ·obtain ⟨wd,hx⟩:∃ x,ws[k]? = some x:=⟨_,List.getElem?_eq_getElem hlt⟩;obtain ⟨g,o,rfl,hg,d0,-,-⟩:=(HWS.out.kept (HK0.out.trans HKR.out)).cell_of k wd hx;have HX2:=Hd (HDR.out k wd hx);have HC:=Hd (HCM.out wd wr (HK0.out.trans HKR.out));have x0:=(HXB.out.kept HKR.out).cell 0 _ rfl;have x1:=(HXB.out.kept HKR.out).cell 1 _ rfl;have x2:=(HXB.out.kept HKR.out).cell 2 _ rfl;have x3:=(HXB.out.kept HKR.out).cell 3 _ rfl;have xz:=(HXB.out.kept HKR.out).lt;have y0:=(HYB.out.kept HKR.out).cell 0 _ rfl;have y1:=(HYB.out.kept HKR.out).cell 1 _ rfl;have y2:=(HYB.out.kept HKR.out).cell 2 _ rfl;have y3:=(HYB.out.kept HKR.out).cell 3 _ rfl;have yz:=(HYB.out.kept HKR.out).lt;have q0:=(HCB.out.kept HKR.out).cell 0 _ rfl;have q1:=(HCB.out.kept HKR.out).cell 1 _ rfl;have q2:=(HCB.out.kept HKR.out).cell 2 _ rfl;have qz:=(HCB.out.kept HKR.out).lt;obtain ⟨n,HN⟩:∃ n,Hid (zfC c wd ⟨xa,xy,xt,xk⟩ ⟨xa,xy,xt,yk⟩=n):=⟨_,rfl⟩;rw[HN.out] at HC HX2;clear hx HN;go_wp2_with fail;refine HC.out.mono ?_;rintro e w5 ⟨rfl,hk5⟩;have HK5:=Hd (HKR.out.trans hk5);clear hk5 HC x0 x1 x2 x3 xz y0 y1 y2 y3 yz q0 q1 q2 qz d0;by_cases hn0:n=0
       ·subst hn0;have HR2:Hid (R=cfW c (ws.drop (k+1)) ⟨xa,xy,xt,xk⟩ ⟨xa,xy,xt,yk⟩):=by
         show _=_;rw[HRK.out,HX2.out,if_neg (by simp)]
        clear HRK HX2;go_wp2_with fail;go_roundw
        case rel=>exact ⟨k+1,by omega,by go_num,HR2.out,HK5.out⟩
        case measure=>simp [intOf];omega
       ·have HR2:=Hd (HF0.out n w5 (by rw[HRK.out,HX2.out,if_pos hn0]) (HK0.out.trans HK5.out));clear HRK HX2;go_wp2_with fail
        (try go_ret)
        exact HR2.out
      ·have HR2:=Hd (HF0.out 0 wr (by rw[HRK.out,HEND.out k (by omega)]) (HK0.out.trans HKR.out));clear HRK;go_wp2_with fail
       (try go_ret)
       exact HR2.out
   ·have ht0:(xt == yt)=false:=(by rw[beq_eq_false_iff_ne];exact ht);clear HSELF HSAME;go_wp2_with fail;go_loopw [17] (fun i wr=>∃ (k:Nat),k<=ws.length/\i=.int .i64 k/\Hid (R=cfW c (ws.drop k) ⟨xa,xy,xt,xk⟩ ⟨xa,xy,yt,yk⟩)/\Hid (Kept w0 wr)) (fun i _=>ws.length - (intOf i).toNat)
    case atStart=>exact ⟨0,Nat.zero_le _,rfl,HD0.out,Kept.refl _⟩
    case round =>
     clear x0 x1 x2 x3 xz y0 y1 y2 y3 yz w0c wz;obtain ⟨k,hkk,rfl,HRK,HKR⟩:=hrel;by_cases hlt:k<ws.length
     ·obtain ⟨wd,hx⟩:∃ x,ws[k]? = some x:=⟨_,List.getElem?_eq_getElem hlt⟩;obtain ⟨g,o,rfl,hg,d0,-,-⟩:=(HWS.out.kept (HK0.out.trans HKR.out)).cell_of k wd hx;have HX2:=Hd (HDR.out k wd hx);have HC:=Hd (HCM.out wd wr (HK0.out.trans HKR.out));have x0:=(HXB.out.kept HKR.out).cell 0 _ rfl;have x1:=(HXB.out.kept HKR.out).cell 1 _ rfl;have x2:=(HXB.out.kept HKR.out).cell 2 _ rfl;have x3:=(HXB.out.kept HKR.out).cell 3 _ rfl;have xz:=(HXB.out.kept HKR.out).lt;have y0:=(HYB.out.kept HKR.out).cell 0 _ rfl;have y1:=(HYB.out.kept HKR.out).cell 1 _ rfl;have y2:=(HYB.out.kept HKR.out).cell 2 _ rfl;have y3:=(HYB.out.kept HKR.out).cell 3 _ rfl;have yz:=(HYB.out.kept HKR.out).lt;have q0:=(HCB.out.kept HKR.out).cell 0 _ rfl;have q1:=(HCB.out.kept HKR.out).cell 1 _ rfl;have q2:=(HCB.out.kept HKR.out).cell 2 _ rfl;have qz:=(HCB.out.kept HKR.out).lt;obtain ⟨n,HN⟩:∃ n,Hid (zfC c wd ⟨xa,xy,xt,xk⟩ ⟨xa,xy,yt,yk⟩=n):=⟨_,rfl⟩;rw[HN.out] at HC HX2;clear hx HN;go_wp2_with fail;refine HC.out.mono ?_;rintro e w5 ⟨rfl,hk5⟩;have HK5:=Hd (HKR.out.trans hk5);clear hk5 HC x0 x1 x2 x3 xz y0 y1 y2 y3 yz q0 q1 q2 qz d0;by_cases hn0:n=0
      ·subst hn0;have HR2:Hid (R=cfW c (ws.drop (k+1)) ⟨xa,xy,xt,xk⟩ ⟨xa,xy,yt,yk⟩):=by
        show _=_;rw[HRK.out,HX2.out,if_neg (by simp)]
       clear HRK HX2;go_wp2_with fail;go_roundw
       case rel=>exact ⟨k+1,by omega,by go_num,HR2.out,HK5.out⟩
       case measure=>simp [intOf];omega
      ·have HR2:=Hd (HF0.out n w5 (by rw[HRK.out,HX2.out,if_pos hn0]) (HK0.out.trans HK5.out));clear HRK HX2;go_wp2_with fail
       (try go_ret)
       exact HR2.out
     ·have HR2:=Hd (HF0.out 0 wr (by rw[HRK.out,HEND.out k (by omega)]) (HK0.out.trans HKR.out));clear HRK;go_wp2_with fail
      (try go_ret)
      exact HR2.out
  ·have hy0:(xy == yy)=false:=(by rw[beq_eq_false_iff_ne];exact hy);clear HSELF HSAME;go_wp2_with fail;go_loopw [17] (fun i wr=>∃ (k:Nat),k<=ws.length/\i=.int .i64 k/\Hid (R=cfW c (ws.drop k) ⟨xa,xy,xt,xk⟩ ⟨xa,yy,yt,yk⟩)/\Hid (Kept w0 wr)) (fun i _=>ws.length - (intOf i).toNat)
   case atStart=>exact ⟨0,Nat.zero_le _,rfl,HD0.out,Kept.refl _⟩
   case round =>
    clear x0 x1 x2 x3 xz y0 y1 y2 y3 yz w0c wz;obtain ⟨k,hkk,rfl,HRK,HKR⟩:=hrel;by_cases hlt:k<ws.length
    ·obtain ⟨wd,hx⟩:∃ x,ws[k]? = some x:=⟨_,List.getElem?_eq_getElem hlt⟩;obtain ⟨g,o,rfl,hg,d0,-,-⟩:=(HWS.out.kept (HK0.out.trans HKR.out)).cell_of k wd hx;have HX2:=Hd (HDR.out k wd hx);have HC:=Hd (HCM.out wd wr (HK0.out.trans HKR.out));have x0:=(HXB.out.kept HKR.out).cell 0 _ rfl;have x1:=(HXB.out.kept HKR.out).cell 1 _ rfl;have x2:=(HXB.out.kept HKR.out).cell 2 _ rfl;have x3:=(HXB.out.kept HKR.out).cell 3 _ rfl;have xz:=(HXB.out.kept HKR.out).lt;have y0:=(HYB.out.kept HKR.out).cell 0 _ rfl;have y1:=(HYB.out.kept HKR.out).cell 1 _ rfl;have y2:=(HYB.out.kept HKR.out).cell 2 _ rfl;have y3:=(HYB.out.kept HKR.out).cell 3 _ rfl;have yz:=(HYB.out.kept HKR.out).lt;have q0:=(HCB.out.kept HKR.out).cell 0 _ rfl;have q1:=(HCB.out.kept HKR.out).cell 1 _ rfl;have q2:=(HCB.out.kept HKR.out).cell 2 _ rfl;have qz:=(HCB.out.kept HKR.out).lt;obtain ⟨n,HN⟩:∃ n,Hid (zfC c wd ⟨xa,xy,xt,xk⟩ ⟨xa,yy,yt,yk⟩=n):=⟨_,rfl⟩;rw[HN.out] at HC HX2;clear hx HN;go_wp2_with fail;refine HC.out.mono ?_;rintro e w5 ⟨rfl,hk5⟩;have HK5:=Hd (HKR.out.trans hk5);clear hk5 HC x0 x1 x2 x3 xz y0 y1 y2 y3 yz q0 q1 q2 qz d0;by_cases hn0:n=0
     ·subst hn0;have HR2:Hid (R=cfW c (ws.drop (k+1)) ⟨xa,xy,xt,xk⟩ ⟨xa,yy,yt,yk⟩):=by
       show _=_;rw[HRK.out,HX2.out,if_neg (by simp)]
      clear HRK HX2;go_wp2_with fail;go_roundw
      case rel=>exact ⟨k+1,by omega,by go_num,HR2.out,HK5.out⟩
      case measure=>simp [intOf];omega
     ·have HR2:=Hd (HF0.out n w5 (by rw[HRK.out,HX2.out,if_pos hn0]) (HK0.out.trans HK5.out));clear HRK HX2;go_wp2_with fail
      (try go_ret)
      exact HR2.out
    ·have HR2:=Hd (HF0.out 0 wr (by rw[HRK.out,HEND.out k (by omega)]) (HK0.out.trans HKR.out));clear HRK;go_wp2_with fail
     (try go_ret)
     exact HR2.out
 ·have ha0:(xa == ya)=false:=(by rw[beq_eq_false_iff_ne];exact ha);clear HSELF HSAME;go_wp2_with fail;go_loopw [17] (fun i wr=>∃ (k:Nat),k<=ws.length/\i=.int .i64 k/\Hid (R=cfW c (ws.drop k) ⟨xa,xy,xt,xk⟩ ⟨ya,yy,yt,yk⟩)/\Hid (Kept w0 wr)) (fun i _=>ws.length - (intOf i).toNat)
  case atStart=>exact ⟨0,Nat.zero_le _,rfl,HD0.out,Kept.refl _⟩
  case round =>
   clear x0 x1 x2 x3 xz y0 y1 y2 y3 yz w0c wz;obtain ⟨k,hkk,rfl,HRK,HKR⟩:=hrel;by_cases hlt:k<ws.length
   ·obtain ⟨wd,hx⟩:∃ x,ws[k]? = some x:=⟨_,List.getElem?_eq_getElem hlt⟩;obtain ⟨g,o,rfl,hg,d0,-,-⟩:=(HWS.out.kept (HK0.out.trans HKR.out)).cell_of k wd hx;have HX2:=Hd (HDR.out k wd hx);have HC:=Hd (HCM.out wd wr (HK0.out.trans HKR.out));have x0:=(HXB.out.kept HKR.out).cell 0 _ rfl;have x1:=(HXB.out.kept HKR.out).cell 1 _ rfl;have x2:=(HXB.out.kept HKR.out).cell 2 _ rfl;have x3:=(HXB.out.kept HKR.out).cell 3 _ rfl;have xz:=(HXB.out.kept HKR.out).lt;have y0:=(HYB.out.kept HKR.out).cell 0 _ rfl;have y1:=(HYB.out.kept HKR.out).cell 1 _ rfl;have y2:=(HYB.out.kept HKR.out).cell 2 _ rfl;have y3:=(HYB.out.kept HKR.out).cell 3 _ rfl;have yz:=(HYB.out.kept HKR.out).lt;have q0:=(HCB.out.kept HKR.out).cell 0 _ rfl;have q1:=(HCB.out.kept HKR.out).cell 1 _ rfl;have q2:=(HCB.out.kept HKR.out).cell 2 _ rfl;have qz:=(HCB.out.kept HKR.out).lt;obtain ⟨n,HN⟩:∃ n,Hid (zfC c wd ⟨xa,xy,xt,xk⟩ ⟨ya,yy,yt,yk⟩=n):=⟨_,rfl⟩;rw[HN.out] at HC HX2;clear hx HN;go_wp2_with fail;refine HC.out.mono ?_;rintro e w5 ⟨rfl,hk5⟩;have HK5:=Hd (HKR.out.trans hk5);clear hk5 HC x0 x1 x2 x3 xz y0 y1 y2 y3 yz q0 q1 q2 qz d0;by_cases hn0:n=0
    ·subst hn0;have HR2:Hid (R=cfW c (ws.drop (k+1)) ⟨xa,xy,xt,xk⟩ ⟨ya,yy,yt,yk⟩):=by
      show _=_;rw[HRK.out,HX2.out,if_neg (by simp)]
     clear HRK HX2;go_wp2_with fail;go_roundw
     case rel=>exact ⟨k+1,by omega,by go_num,HR2.out,HK5.out⟩
     case measure=>simp [intOf];omega
    ·have HR2:=Hd (HF0.out n w5 (by rw[HRK.out,HX2.out,if_pos hn0]) (HK0.out.trans HK5.out));clear HRK HX2;go_wp2_with fail
     (try go_ret)
     exact HR2.out
   ·have HR2:=Hd (HF0.out 0 wr (by rw[HRK.out,HEND.out k (by omega)]) (HK0.out.trans HKR.out));clear HRK;go_wp2_with fail
    (try go_ret)
    exact HR2.out
def nyB:Bs:=[195,177,195,145]
def zl0 (n:Nat):List Bs:=(List.range n).map fun k=>[UInt8.ofNat (48+k)]
def zCW (es:Bool) (k:Nat):List Bs:=[UInt8.ofNat (97+k),UInt8.ofNat (65+k)] :: (if es=true/\k=13 then [nyB] else [])
def zpS (es:Bool) (n:Nat):List Bs:=(List.range n).flatMap (zCW es)
theorem zzN (n:Nat):zl0 (n+1)=zl0 n ++ [[UInt8.ofNat (48+n)]]:=by unfold zl0;rw[List.range_succ,List.map_append];rfl
theorem zrF (es:Bool) (n:Nat):zpS es (n+1)=zpS es n ++ zCW es n:=by unfold zpS;rw[List.range_succ,List.flatMap_append];simp
theorem zkU (n:Nat):(zl0 n).length=n:=by simp [zl0]
theorem zo6 (es:Bool) (n:Nat):(zpS es n).length<=2 * n:=by
 induction n with
 | zero=>simp [zpS]
 | succ n ih =>
  rw[zrF,List.length_append];have:(zCW es n).length<=2:=(by unfold zCW;split <;> simp);omega
def wDe:Bs:=[100,101]
def wFr:Bs:=[102,114]
def wEs:Bs:=[101,115]
def zzO:Bs:=[195,164,32,97,44,32,195,182,32,111,44,32,195,188,32,117,44,32,195,132,32,97,44,32,195,150,32,111,44,32,195,156,32,117,44,32,195,159,32,115,115]
def zzP:Bs:=[195,160,32,97,44,32,195,162,32,97,44,32,195,167,32,99,44,32,195,168,32,101,44,32,195,169,32,101,44,32,195,170,32,101,44,32,195,171,32,101,44,32] ++ [195,174,32,105,44,32,195,175,32,105,44,32,195,180,32,111,44,32,195,185,32,117,44,32,195,187,32,117,44,32,195,188,32,117,44,32,195,128,32,97,44,32] ++ ([195,130,32,97,44,32,195,135,32,99,44,32,195,136,32,101,44,32,195,137,32,101,44,32,195,138,32,101,44,32,195,139,32,101,44,32,195,142,32,105,44,32] ++ [195,143,32,105,44,32,195,148,32,111,44,32,195,153,32,117,44,32,195,155,32,117,44,32,195,156,32,117,44,32,195,166,32,97,101,44,32,197,147,32,111,101])
def zzQ:Bs:=[195,161,32,97,44,32,195,169,32,101,44,32,195,173,32,105,44,32,195,179,32,111,44,32,195,186,32,117,44,32,195,188,32,117,44] ++ [32,195,129,32,97,44,32,195,137,32,101,44,32,195,141,32,105,44,32,195,147,32,111,44,32,195,154,32,117,44,32,195,156,32,117]
def zCX:List Pr:=[([195,164],[97]),([195,182],[111]),([195,188],[117]),([195,132],[97]),([195,150],[111]),([195,156],[117]),([195,159],[115,115])]
def zCY:List Pr:=[([195,160],[97]),([195,162],[97]),([195,167],[99]),([195,168],[101]),([195,169],[101]),([195,170],[101]),([195,171],[101]),([195,174],[105]),([195,175],[105]),([195,180],[111]),([195,185],[117]),([195,187],[117]),([195,188],[117]),([195,128],[97]),
 ([195,130],[97]),([195,135],[99]),([195,136],[101]),([195,137],[101]),([195,138],[101]),([195,139],[101]),([195,142],[105]),([195,143],[105]),([195,148],[111]),([195,153],[117]),([195,155],[117]),([195,156],[117]),([195,166],[97,101]),([197,147],[111,101])]
def zCZ:List Pr:=[([195,161],[97]),([195,169],[101]),([195,173],[105]),([195,179],[111]),([195,186],[117]),([195,188],[117]),([195,129],[97]),([195,137],[101]),([195,141],[105]),([195,147],[111]),([195,154],[117]),([195,156],[117])]
def rkL (lang:Bs):List Pr:=if lang=wDe then zCX else if lang=wFr then zCY else if lang=wEs then zCZ else []
def zw3 (lang:Bs):ColT:=⟨rkL lang,zl0 10 ++ zpS (lang == wEs) 26,[]⟩
def zcD (p:Pr):Bs:=p.1 ++ (32 :: p.2)
theorem zDE:(Lib.splitB (bs [44,32]) 0 (Lib.countB (bs zzO) (bs [44,32])) (bs zzO)).map (·.data.toList)=zCX.map zcD:=by decide +kernel
theorem zDF:(Lib.splitB (bs [44,32]) 0 (Lib.countB (bs zzP) (bs [44,32])) (bs zzP)).map (·.data.toList)=zCY.map zcD:=by decide +kernel
theorem zDG:(Lib.splitB (bs [44,32]) 0 (Lib.countB (bs zzQ) (bs [44,32])) (bs zzQ)).map (·.data.toList)=zCZ.map zcD:=by decide +kernel
theorem zDH:Lib.countB (bs zzO) (bs [44,32])+1=7:=by decide +kernel
theorem zDI:Lib.countB (bs zzP) (bs [44,32])+1=28:=by decide +kernel
theorem zDJ:Lib.countB (bs zzQ) (bs [44,32])+1=12:=by decide +kernel
theorem zBV:∀ k:Nat,k<10->Lib.itoa (k:Int)=[UInt8.ofNat (48+k)]:=by decide +kernel
end Go.Proofs.YtmcoomlkbgiboaaGreatDoor
