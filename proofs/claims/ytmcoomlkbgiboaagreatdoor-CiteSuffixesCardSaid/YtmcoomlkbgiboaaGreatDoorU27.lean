/- slices.insertionSortCmpFunc at cite's sortables. Conditions: what is asked of the comparison. -/
import Derived.Test.YtmcoomlkbgiboaaGreatDoorU24
import Derived.Test.YtmcoomlkbgiboaaGreatDoorU23
import Derived.Test.YtmcoomlkbgiboaaGreatDoorU26
import Derived.Test.YtmcoomlkbgiboaaGreatDoorU17
import Derived.Test.YtmcoomlkbgiboaaGreatDoorU25
import Derived.Test.YtmcoomlkbgiboaaGreatDoorU16
import Derived.Sort.WalkA
import Derived.BigQuiet
import Derived.Deep.RegionWith
import Derived.Deep.MidRow
import Derived.Deep.RegionHeld3
set_option linter.all false
set_option maxRecDepth 100000
set_option maxHeartbeats 6400000
namespace Go.Proofs.YtmcoomlkbgiboaaGreatDoor
open Go.RowKit Go.Sort
instance inhSorT:Inhabited SorT:=⟨⟨⟨[],0,[],[]⟩,⟨[],[],[],[],[]⟩⟩⟩
theorem zfF {d:Array SorT} {i:Nat} (h:i<d.size):d.toList[i]? = some d[i]! := by
 rw[Array.getElem?_toList,Array.getElem?_eq_getElem h,getElem!_pos d i h]
theorem zrC (d:Array SorT) (i j:Nat) (hi:i<d.size) (hj:j<d.size):(swp d i j).toList=(d.toList.set i d[j]!).set j d[i]! := by
 unfold swp;rw[Array.toList_setIfInBounds,Array.toList_setIfInBounds]
theorem zBN {d:Array SorT} {i j:Nat} (hi:i<d.size) (hj:j<d.size) {p:SorT->Prop} (h:∀ x∈d.toList,p x):∀ x∈(swp d i j).toList,p x:=by
 intro x hx;rw[zrC d i j hi hj] at hx;have at_:∀ i,i<d.size->p d[i]! := fun i q=>h _ (List.mem_of_getElem? (zfF q));rcases List.mem_or_eq_of_mem_set hx with hx|rfl
 ·rcases List.mem_or_eq_of_mem_set hx with hx|rfl
  ·exact h x hx
  ·exact at_ j hj
 ·exact at_ i hi
def SrtS (g cap base:Nat) (A:Nat->Prop) (d':Array SorT) (w:World) (e:Ending) (w':World):Prop:=e=.returned (.tuple #[])/\OutG SorK 9 A base 86 w' (.slice (some ⟨g,0,none⟩) d'.size cap) d'.toList/\Only (fun i=>i=g) w w'
theorem zvY (C C2 base:Nat) (A:Nat->Prop) (cf:SorT->SorT->Int) (good:SorT->Prop) (g cap a b:Nat) (d:Array SorT) (w:World)
  (hO:OutG SorK 9 A base 86 w (.slice (some ⟨g,0,none⟩) d.size cap) d.toList) (hg:∀ x∈d.toList,good x) (hab:a<=b) (hb:b<=d.size) (hsz:d.size<=1000000)
  (hcmp:∀ (w':World) (cs ds:List Value) (x y:SorT),Only (fun i=>i=g) w w'->good x->good y->SorK (fun i=>A i/\g≠i) w' cs x->SorK (fun i=>A i/\g≠i) w' ds y ->
   Calls Tryz.prog 41 #[.agg cs.toArray,.agg ds.toArray,.pointer (some ⟨C,0,none⟩),.pointer (some ⟨C2,0,none⟩)] w' fun e w''=>e=.returned (.int .i64 (cf x y))/\Kept w' w'') :
  Calls Tryz.prog 142 #[.slice (some ⟨g,0,none⟩) d.size cap,.int .i64 a,.int .i64 b,.func (.func 41) #[] #[.pointer (some ⟨C,0,none⟩),.pointer (some ⟨C2,0,none⟩)]] w
   (SrtS g cap base A (insertionSort (ltS cf) d a b) w):=by
 have HFIN:Hid (∀ (w':World) (dk:Array SorT),OutG SorK 9 A base 86 w' (.slice (some ⟨g,0,none⟩) d.size cap) dk.toList->dk.size=d.size->Only (fun i=>i=g) w w'->insOuter (ltS cf) a b b dk=insOuter (ltS cf) a b (a+1) d->SrtS g cap base A (insertionSort (ltS cf) d a b) w (.returned (.tuple #[])) w'):=by
  intro w' dk h1 h2 h3 h4;have h5:insertionSort (ltS cf) d a b=dk:=(by unfold insertionSort;rw[<- h4,insOuter_stop _ _ _ _ _ (Nat.lt_irrefl b)]);rw[h5];exact ⟨rfl,by rw[h2];exact h1,h3⟩
 generalize hP:SrtS g cap base A (insertionSort (ltS cf) d a b) w=P at *;have HC:=Hd hcmp;have HO:=Hd hO;have HG:=Hd hg;clear hcmp hO hg hP;go_enter Tryz.func142,Tryz.ntmps142;go_wp2_with fail;go_loopw [8] (fun vi wr=>∃ (i:Nat) (dk:Array SorT),vi=.int .i64 i/\a<i/\(i<=b\/i=a+1)/\dk.size=d.size/\Hid (OutG SorK 9 A base 86 wr (.slice (some ⟨g,0,none⟩) d.size cap) dk.toList)/\Hid (Only (fun i=>i=g) w wr)/\Hid (∀ x∈dk.toList,good x)/\Hid (insOuter (ltS cf) a b i dk=insOuter (ltS cf) a b (a+1) d)) (fun vi _=>b+1 - (intOf vi).toNat)
 case atStart=>exact ⟨a+1,d,by go_num,by omega,.inr rfl,rfl,HO.out,Only.of_kept (Kept.refl w),HG.out,rfl⟩
 case round =>
  obtain ⟨i,dk,rfl,hai,hib,hsk,HOR,HKR,HGR,HIR⟩:=hrel;by_cases hlt:i<b
  ·have hltz:(i:Int)<(b:Int):=(by omega);go_wp2_with fail;obtain ⟨wo,hwo⟩:∃ wo:World,wo=wr:=⟨_,rfl⟩;rw[<- hwo] at HOR HKR;rw[<- hwo];go_loopw [9] (fun vj wr=>∃ (j:Nat) (dj:Array SorT),vj=.int .i64 j/\a<=j/\j<=i/\dj.size=d.size/\Hid (OutG SorK 9 A base 86 wr (.slice (some ⟨g,0,none⟩) d.size cap) dj.toList)/\Hid (Only (fun i=>i=g) w wr)/\Hid (∀ x∈dj.toList,good x)/\Hid (insInner (ltS cf) a j dj=insInner (ltS cf) a i dk)) (fun vj _=>(intOf vj).toNat)
   case atStart=>exact ⟨i,dk,rfl,by omega,Nat.le_refl _,hsk,HOR.out,HKR.out,HGR.out,rfl⟩
   case round =>
    clear HOR HKR HGR hwo;obtain ⟨j,dj,rfl,haj,hji,hsj,HOJ,HKJ,HGJ,HIJ⟩:=hrel;have OUT:Hid ((j<=a\/ltS cf dj[j]! dj[j - 1]! = false)->insOuter (ltS cf) a b (i+1) dj=insOuter (ltS cf) a b (a+1) d):=fun hs=>by
     rw[<- HIR.out,insOuter_go _ _ _ _ _ hlt,<- HIJ.out,insInner_stop _ _ _ _ hs]
    by_cases hja:a<j
    ·obtain ⟨jp,HJP⟩:∃ jp,Hid (j=jp+1):=⟨j - 1,Hd (by omega)⟩;have hj1:j<dj.size:=(by omega);have hj2:jp<dj.size:=(by have:=HJP.out;omega);obtain ⟨x,HX⟩:∃ x,Hid (dj[j]! = x):=⟨_,rfl⟩;obtain ⟨y,HY⟩:∃ x,Hid (dj[jp]! = x):=⟨_,rfl⟩;have gx:=HGJ.out _ (List.mem_of_getElem? (zfF hj1));have gy:=HGJ.out _ (List.mem_of_getElem? (zfF hj2));obtain ⟨g1,cx,e1,hb1,hlt1,-,-,hlx,hcx,hrx⟩:=HOJ.out.at_ j _ (zfF hj1);obtain ⟨g2,cy,e2,-,-,-,-,hly,hcy,hry⟩:=HOJ.out.at_ jp _ (zfF hj2);cases e1;cases e2;have OUT2:Hid (j<=a\/ltS cf x y=false->insOuter (ltS cf) a b (i+1) dj=insOuter (ltS cf) a b (a+1) d):=fun h=>OUT.out (by
      rw[HX.out,show j - 1=jp by have:=HJP.out;omega,HY.out];exact h)
     have NXT:Hid (ltS cf x y=true->insInner (ltS cf) a jp (swp dj j jp)=insInner (ltS cf) a i dk):=fun h=>by
      have e:=HJP.out;rw[<- HIJ.out,insInner_go (ltS cf) a j dj hja (by rw[HX.out,show j - 1=jp by omega,HY.out];exact h),show j - 1=jp by omega]
     have HSW:Hid ((swp dj j jp).toList=(dj.toList.set j y).set jp x):=by
      have:=zrC dj j jp hj1 hj2;rw[HX.out,HY.out] at this;exact this
     have HGS:Hid (∀ x∈(swp dj j jp).toList,good x):=zBN hj1 hj2 HGJ.out;rw[HX.out] at gx hrx;rw[HY.out] at gy hry;have HRX0:=Hd hrx;have HRY0:=Hd hry;obtain ⟨vA,vE,vF,rfl,⟨hA,-⟩,⟨hE,-⟩,hF,-⟩:=hrx;obtain ⟨vA',vE',vF',rfl,⟨hA',-⟩,⟨hE',-⟩,hF',-⟩:=hry;obtain ⟨⟨author,year,title,key⟩,⟨skey,styp,pa,pe,pf⟩⟩:=x;obtain ⟨⟨author',year',title',key'⟩,⟨skey',styp',pa',pe',pf'⟩⟩:=y;simp only at hA hE hF hA' hE' hF';obtain ⟨aA,cA,rfl,lA⟩:=hA.shape;obtain ⟨aE,cE,rfl,lE⟩:=hE.shape;obtain ⟨aF,cF,rfl,lF⟩:=hF.shape;obtain ⟨aA',cA',rfl,lA'⟩:=hA'.shape;obtain ⟨aE',cE',rfl,lE'⟩:=hE'.shape;obtain ⟨aF',cF',rfl,lF'⟩:=hF'.shape;unfold zEm at hcx hcy HRX0 HRY0;simp only at hcx hcy HRX0 HRY0;obtain ⟨op,hp11⟩:∃ op,jp * 9=op:=⟨_,rfl⟩;have hj11:j * 9=op+9:=(by have:=HJP.out;omega);have x0:wr.cell? ⟨g,op+9,none⟩=some (.string (bs author)):=(by have:=hcx 0 _ rfl;rw[hj11,Nat.add_assoc] at this;exact this);have x1:wr.cell? ⟨g,op+10,none⟩=some (.int .i64 year):=(by have:=hcx 1 _ rfl;rw[hj11,Nat.add_assoc] at this;exact this);have x2:wr.cell? ⟨g,op+11,none⟩=some (.string (bs title)):=(by have:=hcx 2 _ rfl;rw[hj11,Nat.add_assoc] at this;exact this);have x3:wr.cell? ⟨g,op+12,none⟩=some (.string (bs key)):=(by have:=hcx 3 _ rfl;rw[hj11,Nat.add_assoc] at this;exact this);have x4:wr.cell? ⟨g,op+13,none⟩=some (.string (bs skey)):=(by have:=hcx 4 _ rfl;rw[hj11,Nat.add_assoc] at this;exact this);have x5:wr.cell? ⟨g,op+14,none⟩=some (.string (bs styp)):=(by have:=hcx 5 _ rfl;rw[hj11,Nat.add_assoc] at this;exact this);have x6:wr.cell? ⟨g,op+15,none⟩=some (.slice aA pa.length cA):=(by have:=hcx 6 _ rfl;rw[hj11,Nat.add_assoc] at this;exact this);have x7:wr.cell? ⟨g,op+16,none⟩=some (.slice aE pe.length cE):=(by have:=hcx 7 _ rfl;rw[hj11,Nat.add_assoc] at this;exact this);have x8:wr.cell? ⟨g,op+17,none⟩=some (.slice aF pf.length cF):=(by have:=hcx 8 _ rfl;rw[hj11,Nat.add_assoc] at this;exact this);have y0:wr.cell? ⟨g,op,none⟩=some (.string (bs author')):=(by have:=hcy 0 _ rfl;rw[hp11] at this;exact this);have y1:wr.cell? ⟨g,op+1,none⟩=some (.int .i64 year'):=(by have:=hcy 1 _ rfl;rw[hp11] at this;exact this);have y2:wr.cell? ⟨g,op+2,none⟩=some (.string (bs title')):=(by have:=hcy 2 _ rfl;rw[hp11] at this;exact this);have y3:wr.cell? ⟨g,op+3,none⟩=some (.string (bs key')):=(by have:=hcy 3 _ rfl;rw[hp11] at this;exact this);have y4:wr.cell? ⟨g,op+4,none⟩=some (.string (bs skey')):=(by have:=hcy 4 _ rfl;rw[hp11] at this;exact this);have y5:wr.cell? ⟨g,op+5,none⟩=some (.string (bs styp')):=(by have:=hcy 5 _ rfl;rw[hp11] at this;exact this);have y6:wr.cell? ⟨g,op+6,none⟩=some (.slice aA' pa'.length cA'):=(by have:=hcy 6 _ rfl;rw[hp11] at this;exact this);have y7:wr.cell? ⟨g,op+7,none⟩=some (.slice aE' pe'.length cE'):=(by have:=hcy 7 _ rfl;rw[hp11] at this;exact this);have y8:wr.cell? ⟨g,op+8,none⟩=some (.slice aF' pf'.length cF'):=(by have:=hcy 8 _ rfl;rw[hp11] at this;exact this);have hzg:g<wr.heap.size:=hlt1;have HRX:=Hd HRX0.out;have HRY:=Hd HRY0.out;have wj:IntKind.i64.wrap ((j:Int) - 1)=(jp:Int):=(by rw[IntKind.wrap_i64];have:=HJP.out;omega);have HS:Hid (∀ w',Kept wr w'->(w'.cell? ⟨g,op+9,none⟩=some (.string (bs author))/\w'.cell? ⟨g,op+10,none⟩=some (.int .i64 year)/\w'.cell? ⟨g,op+11,none⟩=some (.string (bs title))/\w'.cell? ⟨g,op+12,none⟩=some (.string (bs key))/\w'.cell? ⟨g,op+13,none⟩=some (.string (bs skey))/\w'.cell? ⟨g,op+14,none⟩=some (.string (bs styp))/\w'.cell? ⟨g,op+15,none⟩=some (.slice aA pa.length cA)/\w'.cell? ⟨g,op+16,none⟩=some (.slice aE pe.length cE)/\w'.cell? ⟨g,op+17,none⟩=some (.slice aF pf.length cF))/\(w'.cell? ⟨g,op,none⟩=some (.string (bs author'))/\w'.cell? ⟨g,op+1,none⟩=some (.int .i64 year')/\w'.cell? ⟨g,op+2,none⟩=some (.string (bs title'))/\w'.cell? ⟨g,op+3,none⟩=some (.string (bs key'))/\w'.cell? ⟨g,op+4,none⟩=some (.string (bs skey'))/\w'.cell? ⟨g,op+5,none⟩=some (.string (bs styp'))/\w'.cell? ⟨g,op+6,none⟩=some (.slice aA' pa'.length cA')/\w'.cell? ⟨g,op+7,none⟩=some (.slice aE' pe'.length cE')/\w'.cell? ⟨g,op+8,none⟩=some (.slice aF' pf'.length cF'))/\g<w'.heap.size/\Kept wr w'):=fun w' h=>⟨⟨(h.cell (p:=⟨g,op+9,none⟩) hzg).trans x0,(h.cell (p:=⟨g,op+10,none⟩) hzg).trans x1,(h.cell (p:=⟨g,op+11,none⟩) hzg).trans x2,(h.cell (p:=⟨g,op+12,none⟩) hzg).trans x3,(h.cell (p:=⟨g,op+13,none⟩) hzg).trans x4,(h.cell (p:=⟨g,op+14,none⟩) hzg).trans x5,(h.cell (p:=⟨g,op+15,none⟩) hzg).trans x6,(h.cell (p:=⟨g,op+16,none⟩) hzg).trans x7,(h.cell (p:=⟨g,op+17,none⟩) hzg).trans x8⟩,⟨(h.cell (p:=⟨g,op,none⟩) hzg).trans y0,(h.cell (p:=⟨g,op+1,none⟩) hzg).trans y1,(h.cell (p:=⟨g,op+2,none⟩) hzg).trans y2,(h.cell (p:=⟨g,op+3,none⟩) hzg).trans y3,(h.cell (p:=⟨g,op+4,none⟩) hzg).trans y4,(h.cell (p:=⟨g,op+5,none⟩) hzg).trans y5,(h.cell (p:=⟨g,op+6,none⟩) hzg).trans y6,(h.cell (p:=⟨g,op+7,none⟩) hzg).trans y7,(h.cell (p:=⟨g,op+8,none⟩) hzg).trans y8⟩,Nat.lt_of_lt_of_le hzg h.size,h⟩;have q0:decide ((a:Int)<(j:Int))=true:=decide_eq_true (by omega);have q0':decide (a<j)=true:=decide_eq_true (by omega);have q1:(0:Int)<=(jp:Int):=(by omega);have q1':(0:Int)<=(j:Int):=(by omega);have q2:(j:Int)<(d.size:Int):=(by omega);have q3:(jp:Int)<(d.size:Int):=(by omega);have HCC:=Hd (fun w' (k:Kept wr w')=>HC.out w' _ _ _ _ (HKJ.out.trans (Only.of_kept k)) gx gy (zpR.sam HRX.out (Sam.kept k) (fun _ _ q=>q)) (zpR.sam HRY.out (Sam.kept k) (fun _ _ q=>q)));obtain ⟨r,HR⟩:∃ r,Hid (cf ⟨⟨author,year,title,key⟩,⟨skey,styp,pa,pe,pf⟩⟩ ⟨⟨author',year',title',key'⟩,⟨skey',styp',pa',pe',pf'⟩⟩=r):=⟨_,rfl⟩;unfold ltS at OUT2 NXT;rw[HR.out] at HCC OUT2 NXT;clear hA hE hF hA' hE' hF' gx gy hcx hcy hlx hly hlt1 hb1 HRX0 HRY0;have hkd:Kept wr wr.drew:=zaB wr 1;by_cases hlv:r<0
     ·have hl1:decide (r<0)=true:=decide_eq_true hlv;go_wp2_with fail
      go_region_held3 (fun w'=>(w'.cell? ⟨g,op+9,none⟩=some (.string (bs author))/\w'.cell? ⟨g,op+10,none⟩=some (.int .i64 year)/\w'.cell? ⟨g,op+11,none⟩=some (.string (bs title))/\w'.cell? ⟨g,op+12,none⟩=some (.string (bs key))/\w'.cell? ⟨g,op+13,none⟩=some (.string (bs skey))/\w'.cell? ⟨g,op+14,none⟩=some (.string (bs styp))/\w'.cell? ⟨g,op+15,none⟩=some (.slice aA pa.length cA)/\w'.cell? ⟨g,op+16,none⟩=some (.slice aE pe.length cE)/\w'.cell? ⟨g,op+17,none⟩=some (.slice aF pf.length cF))/\(w'.cell? ⟨g,op,none⟩=some (.string (bs author'))/\w'.cell? ⟨g,op+1,none⟩=some (.int .i64 year')/\w'.cell? ⟨g,op+2,none⟩=some (.string (bs title'))/\w'.cell? ⟨g,op+3,none⟩=some (.string (bs key'))/\w'.cell? ⟨g,op+4,none⟩=some (.string (bs skey'))/\w'.cell? ⟨g,op+5,none⟩=some (.string (bs styp'))/\w'.cell? ⟨g,op+6,none⟩=some (.slice aA' pa'.length cA')/\w'.cell? ⟨g,op+7,none⟩=some (.slice aE' pe'.length cE')/\w'.cell? ⟨g,op+8,none⟩=some (.slice aF' pf'.length cF'))/\g<w'.heap.size/\Kept wr w')
       ((refine HS.out _ ?_;assumption))
       (first|(go_at_call 41;refine (HCC.out _ (by assumption)).mono ?_;rintro e w5 ⟨rfl,hk5⟩;have kz:Kept wr w5:=Kept.trans (by assumption) hk5;have KZ:=Hd kz;clear hk5))
      clear HS HCC;have HO5:=Hd (HOJ.out.kept zpR KZ.out);have HRX5:=Hd (zpR.sam HRX.out (Sam.kept KZ.out) (fun _ _ q=>q));have HRY5:=Hd (zpR.sam HRY.out (Sam.kept KZ.out) (fun _ _ q=>q));have hthj:∀ i,i<9->w5.frozen? ⟨g,op+(9+i),none⟩=false:=fun i hi=>by
       have:=(HO5.out.there j (by rw[Array.length_toList];omega) i hi).2;rw[hj11,Nat.add_assoc] at this;exact this
      have hthp:∀ i,i<9->w5.frozen? ⟨g,op+i,none⟩=false:=fun i hi=>by
       have:=(HO5.out.there jp (by rw[Array.length_toList];omega) i hi).2;rw[hp11] at this;exact this
      have z0:w5.cell? ⟨g,op+9,none⟩=some (.string (bs author)):=(KZ.out.cell (p:=⟨g,op+9,none⟩) hzg).trans x0;have z1:w5.cell? ⟨g,op+10,none⟩=some (.int .i64 year):=(KZ.out.cell (p:=⟨g,op+10,none⟩) hzg).trans x1;have z2:w5.cell? ⟨g,op+11,none⟩=some (.string (bs title)):=(KZ.out.cell (p:=⟨g,op+11,none⟩) hzg).trans x2;have z3:w5.cell? ⟨g,op+12,none⟩=some (.string (bs key)):=(KZ.out.cell (p:=⟨g,op+12,none⟩) hzg).trans x3;have z4:w5.cell? ⟨g,op+13,none⟩=some (.string (bs skey)):=(KZ.out.cell (p:=⟨g,op+13,none⟩) hzg).trans x4;have z5:w5.cell? ⟨g,op+14,none⟩=some (.string (bs styp)):=(KZ.out.cell (p:=⟨g,op+14,none⟩) hzg).trans x5;have z6:w5.cell? ⟨g,op+15,none⟩=some (.slice aA pa.length cA):=(KZ.out.cell (p:=⟨g,op+15,none⟩) hzg).trans x6;have z7:w5.cell? ⟨g,op+16,none⟩=some (.slice aE pe.length cE):=(KZ.out.cell (p:=⟨g,op+16,none⟩) hzg).trans x7;have z8:w5.cell? ⟨g,op+17,none⟩=some (.slice aF pf.length cF):=(KZ.out.cell (p:=⟨g,op+17,none⟩) hzg).trans x8;have u0:w5.cell? ⟨g,op,none⟩=some (.string (bs author')):=(KZ.out.cell (p:=⟨g,op,none⟩) hzg).trans y0;have u1:w5.cell? ⟨g,op+1,none⟩=some (.int .i64 year'):=(KZ.out.cell (p:=⟨g,op+1,none⟩) hzg).trans y1;have u2:w5.cell? ⟨g,op+2,none⟩=some (.string (bs title')):=(KZ.out.cell (p:=⟨g,op+2,none⟩) hzg).trans y2;have u3:w5.cell? ⟨g,op+3,none⟩=some (.string (bs key')):=(KZ.out.cell (p:=⟨g,op+3,none⟩) hzg).trans y3;have u4:w5.cell? ⟨g,op+4,none⟩=some (.string (bs skey')):=(KZ.out.cell (p:=⟨g,op+4,none⟩) hzg).trans y4;have u5:w5.cell? ⟨g,op+5,none⟩=some (.string (bs styp')):=(KZ.out.cell (p:=⟨g,op+5,none⟩) hzg).trans y5;have u6:w5.cell? ⟨g,op+6,none⟩=some (.slice aA' pa'.length cA'):=(KZ.out.cell (p:=⟨g,op+6,none⟩) hzg).trans y6;have u7:w5.cell? ⟨g,op+7,none⟩=some (.slice aE' pe'.length cE'):=(KZ.out.cell (p:=⟨g,op+7,none⟩) hzg).trans y7;have u8:w5.cell? ⟨g,op+8,none⟩=some (.slice aF' pf'.length cF'):=(KZ.out.cell (p:=⟨g,op+8,none⟩) hzg).trans y8;have fx0:w5.frozen? ⟨g,op+9,none⟩=false:=hthj 0 (by omega);have fx1:w5.frozen? ⟨g,op+10,none⟩=false:=hthj 1 (by omega);have fx2:w5.frozen? ⟨g,op+11,none⟩=false:=hthj 2 (by omega);have fx3:w5.frozen? ⟨g,op+12,none⟩=false:=hthj 3 (by omega);have fx4:w5.frozen? ⟨g,op+13,none⟩=false:=hthj 4 (by omega);have fx5:w5.frozen? ⟨g,op+14,none⟩=false:=hthj 5 (by omega);have fx6:w5.frozen? ⟨g,op+15,none⟩=false:=hthj 6 (by omega);have fx7:w5.frozen? ⟨g,op+16,none⟩=false:=hthj 7 (by omega);have fx8:w5.frozen? ⟨g,op+17,none⟩=false:=hthj 8 (by omega);have fy0:w5.frozen? ⟨g,op,none⟩=false:=hthp 0 (by omega);have fy1:w5.frozen? ⟨g,op+1,none⟩=false:=hthp 1 (by omega);have fy2:w5.frozen? ⟨g,op+2,none⟩=false:=hthp 2 (by omega);have fy3:w5.frozen? ⟨g,op+3,none⟩=false:=hthp 3 (by omega);have fy4:w5.frozen? ⟨g,op+4,none⟩=false:=hthp 4 (by omega);have fy5:w5.frozen? ⟨g,op+5,none⟩=false:=hthp 5 (by omega);have fy6:w5.frozen? ⟨g,op+6,none⟩=false:=hthp 6 (by omega);have fy7:w5.frozen? ⟨g,op+7,none⟩=false:=hthp 7 (by omega);have fy8:w5.frozen? ⟨g,op+8,none⟩=false:=hthp 8 (by omega);clear hthj hthp;go_wp2_with fail;go_region;clear z0 u0 fx0 fy0 z1 u1 fx1 fy1 z2 u2 fx2 fy2 z3 u3 fx3 fy3 z4 u4 fx4 fy4 z5 u5 fx5 fy5 z6 u6 fx6 fy6 z7 u7 fx7 fy7 z8 u8 fx8 fy8;generalize hW:World.drew _=w8;have hW2:((w5.setCells g (op+9) [.string (bs author'),.int .i64 year',.string (bs title'),.string (bs key'),.string (bs skey'),.string (bs styp'),.slice aA' pa'.length cA',.slice aE' pe'.length cE',.slice aF' pf'.length cF']).setCells g op [.string (bs author),.int .i64 year,.string (bs title),.string (bs key),.string (bs skey),.string (bs styp),.slice aA pa.length cA,.slice aE pe.length cE,.slice aF pf.length cF]).drew=w8:=hW;clear hW;have ho6:=HO5.out.put zpR j (by rw[Array.length_toList];exact hj1) [.string (bs author'),.int .i64 year',.string (bs title'),.string (bs key'),.string (bs skey'),.string (bs styp'),.slice aA' pa'.length cA',.slice aE' pe'.length cE',.slice aF' pf'.length cF'] _ rfl HRY5.out;rw[hj11] at ho6;have hrx6:=zpR.sam HRX5.out (Sam.only (zc1 [.string (bs author'),.int .i64 year',.string (bs title'),.string (bs key'),.string (bs skey'),.string (bs styp'),.slice aA' pa'.length cA',.slice aE' pe'.length cE',.slice aF' pf'.length cF'] (op+9) w5) (fun _ _ q h=>q.2 h.symm)) (fun _ _ q=>q);have ho7:=ho6.put zpR jp (by rw[List.length_set,Array.length_toList];exact hj2) [.string (bs author),.int .i64 year,.string (bs title),.string (bs key),.string (bs skey),.string (bs styp),.slice aA pa.length cA,.slice aE pe.length cE,.slice aF pf.length cF] _ rfl hrx6;rw[hp11,<- HSW.out] at ho7;have HO8:Hid (OutG SorK 9 A base 86 w8 (.slice (some ⟨g,0,none⟩) d.size cap) (swp dj j jp).toList):=(by rw[<- hW2];exact ho7.kept zpR (zaB _ 1));have HK8:Hid (Only (fun i=>i=g) w w8):=by
       rw[<- hW2];exact (HKJ.out.trans (Only.of_kept KZ.out)).trans (((zc1 _ _ _).trans (zc1 _ _ _)).trans (Only.of_kept (zaB _ 1)))
      have HN8:=Hd (NXT.out hl1);have hsz8:(swp dj j jp).size=d.size:=(by rw[size_swp];exact hsj);clear ho6 hrx6 ho7 hW2 HO5 HRX5 HRY5 HSW NXT OUT OUT2;go_wp2_with fail;go_roundw
      case rel=>exact ⟨jp,swp dj j jp,rfl,by have:=HJP.out;omega,by have:=HJP.out;omega,hsz8,HO8.out,HK8.out,HGS.out,HN8.out⟩
      case measure=>have:=HJP.out;simp [intOf];omega
     ·have hl1:decide (r<0)=false:=decide_eq_false hlv;go_wp2_with fail
      go_region_held3 (fun w'=>(w'.cell? ⟨g,op+9,none⟩=some (.string (bs author))/\w'.cell? ⟨g,op+10,none⟩=some (.int .i64 year)/\w'.cell? ⟨g,op+11,none⟩=some (.string (bs title))/\w'.cell? ⟨g,op+12,none⟩=some (.string (bs key))/\w'.cell? ⟨g,op+13,none⟩=some (.string (bs skey))/\w'.cell? ⟨g,op+14,none⟩=some (.string (bs styp))/\w'.cell? ⟨g,op+15,none⟩=some (.slice aA pa.length cA)/\w'.cell? ⟨g,op+16,none⟩=some (.slice aE pe.length cE)/\w'.cell? ⟨g,op+17,none⟩=some (.slice aF pf.length cF))/\(w'.cell? ⟨g,op,none⟩=some (.string (bs author'))/\w'.cell? ⟨g,op+1,none⟩=some (.int .i64 year')/\w'.cell? ⟨g,op+2,none⟩=some (.string (bs title'))/\w'.cell? ⟨g,op+3,none⟩=some (.string (bs key'))/\w'.cell? ⟨g,op+4,none⟩=some (.string (bs skey'))/\w'.cell? ⟨g,op+5,none⟩=some (.string (bs styp'))/\w'.cell? ⟨g,op+6,none⟩=some (.slice aA' pa'.length cA')/\w'.cell? ⟨g,op+7,none⟩=some (.slice aE' pe'.length cE')/\w'.cell? ⟨g,op+8,none⟩=some (.slice aF' pf'.length cF'))/\g<w'.heap.size/\Kept wr w')
       ((refine HS.out _ ?_;assumption))
       (first|(go_at_call 41;refine (HCC.out _ (by assumption)).mono ?_;rintro e w5 ⟨rfl,hk5⟩;have kz:Kept wr w5:=Kept.trans (by assumption) hk5;have KZ:=Hd kz;clear hk5))
      clear HS HCC;have HO5:=Hd (HOJ.out.kept zpR KZ.out);have HK5:Hid (Only (fun i=>i=g) w w5):=HKJ.out.trans (Only.of_kept KZ.out);have HN5:=Hd (OUT2.out (.inr hl1));clear OUT OUT2 NXT HSW;go_wp2_with fail;go_roundw
      case rel=>exact ⟨i+1,dj,by go_num,by omega,.inl (by omega),hsj,HO5.out,HK5.out,HGJ.out,HN5.out⟩
      case measure=>simp [intOf];omega
    ·have q0:decide ((a:Int)<(j:Int))=false:=decide_eq_false (by omega);have q0':decide (a<j)=false:=decide_eq_false hja;have HN5:=Hd (OUT.out (.inl (by omega)));clear OUT;go_wp2_with fail
     go_quiet (fail)
     go_wp2_with fail;go_roundw
     case rel=>exact ⟨i+1,dj,by go_num,by omega,.inl (by omega),hsj,HOJ.out.kept zpR (zaB wr _),HKJ.out.trans (Only.of_kept (zaB wr _)),HGJ.out,HN5.out⟩
     case measure=>simp [intOf];omega
  ·have hltz:¬ (i:Int)<(b:Int):=(by omega);have HF:=Hd (HFIN.out wr dk HOR.out hsk HKR.out (by rw[<- HIR.out,insOuter_stop _ _ _ _ _ hlt,insOuter_stop _ _ _ _ _ (Nat.lt_irrefl b)]));go_wp2_with fail
   go_end0
   exact HF.out
theorem zvZ (v fv:Value) (w:World) :
  Calls Tryz.prog 142 #[v,.int .i64 0,.int .i64 0,fv] w fun e w'=>e=.returned (.tuple #[])/\w'=w:=by
 go_enter Tryz.func142,Tryz.ntmps142;go_wp2_with fail;go_loopw [8] (fun vi wr=>vi=.int .i64 1/\w=wr) (fun _ _=>0)
 case atStart=>exact ⟨rfl,rfl⟩
 case round =>
  obtain ⟨rfl,rfl⟩:=hrel;go_wp2_with fail
  go_end0
  exact ⟨rfl,rfl⟩
def zw2 (cf:SorT->SorT->Int) (xs:List SorT):List SorT:=(insertionSort (ltS cf) xs.toArray 0 xs.length).toList
theorem zhE (lt:SorT->SorT->Bool) (a:Nat):∀ (j:Nat) (d:Array SorT),(insInner lt a j d).size=d.size
 | 0,d=>rfl
 | j+1,d=>by
  unfold insInner
  split
  ·rw[zhE lt a j,size_swp]
  ·rfl
theorem zhF (lt:SorT->SorT->Bool) (a b:Nat):∀ (n i:Nat) (d:Array SorT),b - i<=n->(insOuter lt a b i d).size=d.size
 | 0,i,d,h=>by rw[insOuter_stop _ _ _ _ _ (by omega)]
 | n+1,i,d,h=>by
  by_cases q:i<b
  ·rw[insOuter_go _ _ _ _ _ q,zhF lt a b n (i+1) _ (by omega),zhE]
  ·rw[insOuter_stop _ _ _ _ _ q]
theorem zo3 (cf:SorT->SorT->Int) (xs:List SorT):(zw2 cf xs).length=xs.length:=by
 unfold zw2 insertionSort;rw[Array.length_toList,zhF _ _ _ _ _ _ (Nat.le_refl _),List.size_toArray]
theorem zBO (cf:SorT->SorT->Int):zw2 cf []=[]:=List.length_eq_zero_iff.1 (zo3 cf [])
def SrsS (base:Nat) (A:Nat->Prop) (v:Value) (zs:List SorT) (w:World) (e:Ending) (w':World):Prop:=e=.returned (.tuple #[])/\OutG SorK 9 A base 86 w' v zs/\Only (fun i=>v.ownBlock=some i) w w'
theorem zzF (C C2 base:Nat) (A:Nat->Prop) (cf:SorT->SorT->Int) (good:SorT->Prop) (v:Value) (xs:List SorT) (w:World)
  (hO:OutG SorK 9 A base 86 w v xs) (hg:∀ x∈xs,good x) (hl:xs.length<=19)
  (hcmp:∀ (w':World) (cs ds:List Value) (x y:SorT),Only (fun i=>v.ownBlock=some i) w w'->good x->good y->SorK (fun i=>A i/\v.ownBlock≠some i) w' cs x->SorK (fun i=>A i/\v.ownBlock≠some i) w' ds y ->
   Calls Tryz.prog 41 #[.agg cs.toArray,.agg ds.toArray,.pointer (some ⟨C,0,none⟩),.pointer (some ⟨C2,0,none⟩)] w' fun e w''=>e=.returned (.int .i64 (cf x y))/\Kept w' w'') :
  Calls Tryz.prog 94 #[v,.int .i64 xs.length,.func (.func 41) #[] #[.pointer (some ⟨C,0,none⟩),.pointer (some ⟨C2,0,none⟩)]] w (SrsS base A v (zw2 cf xs) w):=by
 have HS:Hid (Calls Tryz.prog 142 #[v,.int .i64 0,.int .i64 xs.length,.func (.func 41) #[] #[.pointer (some ⟨C,0,none⟩),.pointer (some ⟨C2,0,none⟩)]] w (SrsS base A v (zw2 cf xs) w)):=by
  by_cases hn:xs.length=0
  ·obtain rfl:xs=[]:=List.length_eq_zero_iff.1 hn;refine (zvZ v _ w).mono ?_;rintro e w' ⟨rfl,rfl⟩;rw[zBO];exact ⟨rfl,hO,Only.of_kept (Kept.refl _)⟩
  ·obtain ⟨a,c,rfl,hc,hm⟩:=hO.form;obtain ⟨g,cs,rfl,-⟩:=hO.at_ 0 xs[0] (List.getElem?_eq_getElem (by omega));have e0:∀ i,(Value.slice (some ⟨g,0,none⟩) xs.length c).ownBlock=some i↔i=g:=fun i=>by
    constructor
    ·intro h;have:g=i:=(by simpa [Value.ownBlock] using h);exact this.symm
    ·rintro rfl;rfl
   have e1:(fun i=>A i/\(Value.slice (some ⟨g,0,none⟩) xs.length c).ownBlock≠some i)=(fun i=>A i/\g≠i):=by
    funext i;simp [Value.ownBlock]
   have e2:(fun i=>(Value.slice (some ⟨g,0,none⟩) xs.length c).ownBlock=some i)=(fun i=>i=g):=by
    funext i;exact propext (e0 i)
   have:=zvY C C2 base A cf good g c 0 xs.length xs.toArray w (by simpa using hO) (by simpa using hg) (Nat.zero_le _) (by simp) (by simp;omega) (fun w' cs ds x y h1 h2 h3 h4 h5=>hcmp w' cs ds x y (by rw[e2];exact h1) h2 h3 (by rw[e1];exact h4) (by rw[e1];exact h5));refine Calls.mono (by simpa using this) ?_;rintro e w' ⟨r1,r2,r3⟩;refine ⟨r1,?_,by rw[e2];exact r3⟩;have hz:(insertionSort (ltS cf) xs.toArray 0 xs.length).size=xs.length:=by
    have:=zo3 cf xs;unfold zw2 at this;rwa [Array.length_toList] at this
   rw[hz] at r2;exact r2
 have HS2:Hid (Calls Tryz.prog 142 #[v,.int .i64 0,.int .i64 xs.length,.func (.func 41) #[] #[.pointer (some ⟨C,0,none⟩),.pointer (some ⟨C2,0,none⟩)]] w (fun e w'=>e=.returned (.tuple #[])/\Hid (SrsS base A v (zw2 cf xs) w (.returned (.tuple #[])) w'))):=by
  refine HS.out.mono ?_;rintro e w' ⟨rfl,h2,h3⟩;exact ⟨rfl,rfl,h2,h3⟩
 have hl':(xs.length:Int)<=19:=(by omega);clear HS;generalize hQ:SrsS base A v (zw2 cf xs) w=Q at *;clear hO hg hcmp hQ;have q1:decide ((20:Int)<=(xs.length:Int))=false:=decide_eq_false (by omega);have q2:decide ((20:Int)<(xs.length:Int))=false:=decide_eq_false (by omega);have q1':decide (20<=xs.length)=false:=decide_eq_false (by omega);have q2':decide (20<xs.length)=false:=decide_eq_false (by omega);go_enter Tryz.func94,Tryz.ntmps94;go_wp2_with fail;go_loopw [7,8] (fun va vb wr=>va=.int .i64 0/\vb=.int .i64 20/\w=wr) (fun _ _ _=>0)
 case atStart=>exact ⟨rfl,rfl,rfl⟩
 case round =>
  obtain ⟨rfl,rfl,rfl⟩:=hrel;go_wp2_with fail;refine HS2.out.mono ?_;rintro e w1 ⟨rfl,HQ⟩;clear HS2;go_wp2_with fail;go_loopw [6,7,8,9] (fun v6 v7 v8 v9 wr=>v6=.int .i64 20/\w1=wr) (fun _ _ _ _ _=>0)
  case atStart=>exact ⟨rfl,rfl⟩
  case round =>
   obtain ⟨rfl,rfl⟩:=hrel;go_wp2_with fail
   go_end0
   exact HQ.out
theorem zv0 (C C2 base:Nat) (A:Nat->Prop) (cf:SorT->SorT->Int) (good:SorT->Prop) (v:Value) (xs:List SorT) (w:World)
  (hO:OutG SorK 9 A base 86 w v xs) (hg:∀ x∈xs,good x) (hl:xs.length<=19)
  (hcmp:∀ (w':World) (cs ds:List Value) (x y:SorT),Only (fun i=>v.ownBlock=some i) w w'->good x->good y->SorK (fun i=>A i/\v.ownBlock≠some i) w' cs x->SorK (fun i=>A i/\v.ownBlock≠some i) w' ds y ->
   Calls Tryz.prog 41 #[.agg cs.toArray,.agg ds.toArray,.pointer (some ⟨C,0,none⟩),.pointer (some ⟨C2,0,none⟩)] w' fun e w''=>e=.returned (.int .i64 (cf x y))/\Kept w' w'') :
  Calls Tryz.prog 40 #[v,.func (.func 41) #[] #[.pointer (some ⟨C,0,none⟩),.pointer (some ⟨C2,0,none⟩)]] w (SrsS base A v (zw2 cf xs) w):=by
 have HS:=Hd (zzF C C2 base A cf good v xs w hO hg hl hcmp);obtain ⟨a,c,rfl,-⟩:=hO.form;unfold SrsS at HS ⊢;clear hO hg hcmp;go_enter Tryz.func40,Tryz.ntmps40;go_wp2_with fail;refine HS.out.mono ?_;rintro e w1 ⟨rfl,h2,h3⟩;go_wp2_with fail
 go_end0
 exact ⟨rfl,h2,h3⟩
end Go.Proofs.YtmcoomlkbgiboaaGreatDoor
namespace Go.Proofs.YtmcoomlkbgiboaaGreatDoor
open Go.RowKit
def IntsQ (xs:List Int) (w:World) (e:Ending) (w':World):Prop:=∃ v,e=.returned v/\Ints w' v xs/\(∀ g,v.ownBlock=some g->w.heap.size<=g)/\Kept w w'
theorem zsZ (l:Bs) (w:World) (hl:l.length<=1100000):Calls Tryz.prog 192 #[.string (bs l)] w (IntsQ (zeV l) w):=by
 obtain ⟨i0,hi,hz0,hz1,hz2⟩:=info_parts Tryz.infoInt;have H0:Hid (zeV l=[] ++ zsQ l 0):=(by show _=_;rw[zlJ];rfl);unfold IntsQ;go_enter Tryz.func192,Tryz.ntmps192;go_wp2_with (at_make;refine wpList_make_own _ rfl _ _ 199 rfl w.heap.size 3 i0 (.int .i64 0) 1 Tryz.underlying199 hi hz0 hz1 .i64 .i64 l.length l.length rfl rfl rfl (by rw[hz2];omega) (by unfold maxLen;omega) (by simp) ?_;intro w1 hown hgrow);have HK1:Kept w w1:=Below.grown (Below.refl _ _) hgrow (Nat.le_refl _) (fun j hj=>by cases hj);have hs1:w.heap.size<=w1.heap.size:=HK1.size;go_loopw [3] (fun v wr=>∃ (pos:Nat) (xs:List Int),pos<=l.length/\wr.heap[w1.heap.size]? = some (.stringIter (bs l) pos)/\wr.ownsRow w.heap.size 3 1 v xs.length (zyD xs)/\Hid (zeV l=xs ++ zsQ l pos)/\xs.length<=pos/\Kept w wr) (fun _ wr=>l.length - wr.iterPos w1.heap.size)
 case atStart=>exact ⟨0,[],Nat.zero_le _,World.iter_heap _ _ _,zaU hown (zaA _ _),H0,Nat.le_refl _,HK1.trans (zaA _ _)⟩
 case round =>
  clear hown hgrow;obtain ⟨pos,xs,hp,hit,hown,HA,hxl,hk⟩:=hrel;have hip:wr.iterPos w1.heap.size=pos:=(by simp [World.iterPos,hit]);have hsz:w1.heap.size<wr.heap.size:=by
   rcases Nat.lt_or_ge w1.heap.size wr.heap.size with q|q
   ·exact q
   ·rw[Array.getElem?_eq_none q] at hit;cases hit
  by_cases hlt:pos<l.length
  ·have nx:=fun ty=>zc0 (P:=Tryz.prog) wr w1.heap.size (bs l) pos ty hit hlt;have hb:=za6 (bs l) pos hlt;have HP:=Hd (zoL l pos hlt);have hitW:(wr.iterAt w1.heap.size (bs l) (pos+(dec (bs l) pos).2.toNat)).heap[w1.heap.size]? = some (.stringIter (bs l) (pos+(dec (bs l) pos).2.toNat)):=Lib.iterAt_heap wr w1.heap.size (bs l) pos _ hit;have hkW:Kept w (wr.iterAt w1.heap.size (bs l) (pos+(dec (bs l) pos).2.toNat)):=Lib.below_iterAt hk hs1 (bs l) _;have hoW:=zhN hown hit (bs l) (pos+(dec (bs l) pos).2.toNat);have hne:=zhM hown hit;have hzW:(wr.iterAt w1.heap.size (bs l) (pos+(dec (bs l) pos).2.toNat)).heap.size=wr.heap.size:=Lib.iterAt_size ..;obtain ⟨c,n,hd⟩:∃ c n,dec (bs l) pos=(c,n):=⟨(dec (bs l) pos).1,(dec (bs l) pos).2,rfl⟩;rw[hd] at nx hb HP hitW hkW hoW hzW;simp only at nx hb HP hitW hkW hoW hzW;obtain ⟨b1,b2,b3,b4,b5⟩:=hb;simp only[zeE] at b5;obtain ⟨W,HW⟩:∃ W,Hid (wr.iterAt w1.heap.size (bs l) (pos+n.toNat)=W):=⟨_,rfl⟩;simp only[HW.out] at nx hitW hkW hoW hzW;have HITW:=Hd hitW;have HKW:=Hd hkW;have HNE:=Hd hne;have HIP:=Hd hip;have hszW:w1.heap.size<W.heap.size:=(by omega);have hwW:w.heap.size<=W.heap.size:=(by omega);clear hitW hkW hd hip hit hk hown hne hzW;go_wp2_with (at_builtin;refine wpList_append_own _ rfl _ _ 199 rfl w.heap.size 3 i0 (.int .i64 0) 1 8 Tryz.underlying199 hi hz0 hz1 hz2 rfl (by decide) _ _ _ rfl (hoW.alloc _) ⟨W.heap.size,0,none⟩ 1 1 [.int .i64 c] rfl rfl ?_ ?_ ?_ ?_ ?_ ?_)
   ·exact zaV _ #[.int .i64 c] _ _ (by simp)
   ·intro u hu;simp at hu;subst hu;rfl
   ·unfold maxLen;omega
   ·omega
   ·simp;omega
   intro v' w2 hown2 hgrow2 _;have HB2:=Hd ((HKW.out.trans (zaA W _)).trans' (zaG (hoW.alloc _) hgrow2 (by simp;omega)));have hit2:w2.heap[w1.heap.size]? = some (.stringIter (bs l) (pos+n.toNat)):=by
    rw[hgrow2.block w1.heap.size (by simp;omega) HNE.out,Below.heap_alloc _ _ _ hszW];exact HITW.out
   have HIT2:=Hd hit2;rw[<- ziC] at hown2;have HO:=Hd hown2;clear hown2 hgrow2 hoW hit2;go_wp2_with fail;go_roundw
   case rel=>exact ⟨pos+n.toNat,xs ++ [c],by omega,HIT2.out,by simpa using HO.out,by show _=_;rw[HA.out,HP.out];simp,by simp;omega,HB2.out⟩
   case measure=>rw[HIP.out];have:=HIT2.out;simp [World.iterPos,this];omega
  ·have nx:=fun ty=>zbR (P:=Tryz.prog) wr w1.heap.size (bs l) pos ty hit hlt;have HI:=Hd (Ints.own hown);have HBS:=Hd (fun g h=>(hown.lt g h).1);have HL:Hid (zeV l=xs):=by
    show _=_;rw[HA.out,ziA l pos hlt,List.append_nil]
   have HK:=Hd hk;clear hown hk;go_wp2_with fail;go_ret;exact ⟨_,rfl,by rw[HL.out];exact HI.out,HBS.out,HK.out⟩
theorem Tryz.zeroInt (w:World):(zeroValue 3).run Tryz.prog w=.ok (.int .i64 0) w:=by kernel_rfl
theorem Tryz.zeroInts (w:World):(zeroValue 199).run Tryz.prog w=.ok (.slice none 0 0) w:=by kernel_rfl
theorem ValsR.onl {w w':World} {es es':List (Int × Value)} {c:ColT} {m:Nat} (h:ValsR w es c) (hm:MapV w m es') (k:Only (fun i=>i=m) w w'):ValsR w' es c:=fun x=>by
 have:=h x;cases hv:znJ c x with
 | none=>rw[hv] at this;exact this
 | some ys =>
  rw[hv] at this;obtain ⟨v,h1,h2⟩:=this;exact ⟨v,h1,h2.map hm k⟩
theorem zrD {w:World} {es:List (Int × Value)} {c c':ColT} (h:ValsR w es c) (he:∀ x,znJ c' x=znJ c x):ValsR w es c':=fun x=>by rw[he x];exact h x
theorem zzG {w:World} {es:List (Int × Value)} {rs:List Pr} {o:List Bs} {i:Bs} (h:ValsR w es ⟨rs,o,i⟩) (p:Pr) (hp:(zeV p.1).length≠1):ValsR w es ⟨rs ++ [p],o,i⟩ :=
 zrD h fun x=>by
  rw[zlK];cases znJ ⟨rs,o,i⟩ x with
  | some ys=>rfl
  | none =>
   simp only;rw[if_neg (fun q=>hp (by rw[q];rfl))]
theorem zBP {w:World} {es:List (Int × Value)} {rs:List Pr} {o:List Bs} {i:Bs} (h:ValsR w es ⟨rs,o,i⟩) (p:Pr) (x:Int) (u:Value) (hp:zeV p.1=[x]) (hx:zdG es x=some u):ValsR w es ⟨rs ++ [p],o,i⟩ :=
 zrD h fun y=>by
  rw[zlK];cases hv:znJ ⟨rs,o,i⟩ y with
  | some ys=>rfl
  | none =>
   simp only;rw[if_neg];intro q;rw[hp] at q;obtain rfl:x=y:=(by simpa using q);have:=h x;rw[hv] at this;rw[hx] at this;cases this
theorem zBQ {w:World} {es:List (Int × Value)} {rs:List Pr} {o:List Bs} {i:Bs} (h:ValsR w es ⟨rs,o,i⟩) (p:Pr) (x:Int) (v:Value) (hp:zeV p.1=[x]) (hx:zdG es x=none) (hv:Ints w v (zeV p.2)):ValsR w (es ++ [(x,v)]) ⟨rs ++ [p],o,i⟩:=fun y=>by
 have hy:=h y;rw[zlK,ziD];cases hw:znJ ⟨rs,o,i⟩ y with
 | some ys =>
  rw[hw] at hy;obtain ⟨u,h1,h2⟩:=hy;exact ⟨u,by rw[h1],h2⟩
 | none =>
  rw[hw] at hy;simp only at hy ⊢;rw[hy,hp];by_cases q:x=y
  ·subst q;rw[if_pos rfl,if_pos rfl];exact ⟨v,rfl,hv⟩
  ·rw[if_neg (by simpa using q),if_neg q]
abbrev zBR:Array Value:=#[.map none,.map none,.map none,.int .i64 0]
def ValsF (es:List (Int × Value)) (B:Nat):Prop:=∀ x v,zdG es x=some v->∀ g,v.ownBlock=some g->B<=g
theorem ValsF.nil (B:Nat):ValsF [] B:=fun x v h=>by
 have e:zdG [] x=none:=rfl;rw[e] at h;cases h
theorem ValsF.push {es:List (Int × Value)} {B:Nat} (h:ValsF es B) (x:Int) (v:Value) (hv:∀ g,v.ownBlock=some g->B<=g):ValsF (es ++ [(x,v)]) B:=fun y u hu=>by
 rw[ziD] at hu;cases hy:zdG es y with
 | some u'=>rw[hy] at hu;cases hu;exact h y u hy
 | none =>
  rw[hy] at hu;simp only at hu
  split at hu
  ·cases hu;exact hv
  ·cases hu
theorem ValsR.blk {w w':World} {es:List (Int × Value)} {c:ColT} {b B:Nat} (h:ValsR w es c) (hf:ValsF es B) (hb:b<B) (k:Only (fun i=>i=b) w w'):ValsR w' es c:=fun x=>by
 have:=h x;cases hv:znJ c x with
 | none=>rw[hv] at this;exact this
 | some ys =>
  rw[hv] at this;obtain ⟨v,h1,h2⟩:=this;have hg:=hf x v h1;refine ⟨v,h1,h2.only k (fun g e=>.inr (fun o n cc q=>?_))⟩;have:=hg g (by rw[q];rfl);omega
structure TS (w:World) (B:Nat) (vR vO:Value) (ig:Bs) (n:Nat) (e1 e2 e3:List (Int × Value)):Prop where
 box:Blk w B 88 #[vR,vO,.string (bs ig)]
 res:Blk w (B+1) 196 zBR
 m1:MapV w (B+1+1) e1
 m2:MapV w (B+1+1+1) e2
 m3:MapV w (B+1+1+1+1) e3
 tab:Blk w (B+1+1+1+1+1) 196 #[.map (some (B+1+1)),.map (some (B+1+1+1)),.map (some (B+1+1+1+1)),.int .i64 n]
theorem TS.kept {w w':World} {B:Nat} {vR vO:Value} {ig:Bs} {n:Nat} {e1 e2 e3:List (Int × Value)} (h:TS w B vR vO ig n e1 e2 e3) (k:Kept w w'):TS w' B vR vO ig n e1 e2 e3 :=
 ⟨h.box.kept k,h.res.kept k,h.m1.kept k,h.m2.kept k,h.m3.kept k,h.tab.kept k⟩
theorem TS.put1 {w:World} {B:Nat} {vR vO:Value} {ig:Bs} {n:Nat} {e1 e2 e3:List (Int × Value)} (h:TS w B vR vO ig n e1 e2 e3) (e:List (Int × Value)):TS (zoI w (B+1+1) e) B vR vO ig n e e2 e3 :=
 have o:=zc6 w (B+1+1) e
 ⟨h.box.onl o (by omega),h.res.onl o (by omega),zh5 w _ e h.m1.lt,h.m2.only o (by omega),h.m3.only o (by omega),h.tab.onl o (by omega)⟩
theorem TS.put2 {w:World} {B:Nat} {vR vO:Value} {ig:Bs} {n:Nat} {e1 e2 e3:List (Int × Value)} (h:TS w B vR vO ig n e1 e2 e3) (e:List (Int × Value)):TS (zoI w (B+1+1+1) e) B vR vO ig n e1 e e3 :=
 have o:=zc6 w (B+1+1+1) e
 ⟨h.box.onl o (by omega),h.res.onl o (by omega),h.m1.only o (by omega),zh5 w _ e h.m2.lt,h.m3.only o (by omega),h.tab.onl o (by omega)⟩
theorem TS.put3 {w:World} {B:Nat} {vR vO:Value} {ig:Bs} {n:Nat} {e1 e2 e3:List (Int × Value)} (h:TS w B vR vO ig n e1 e2 e3) (e:List (Int × Value)):TS (zoI w (B+1+1+1+1) e) B vR vO ig n e1 e2 e :=
 have o:=zc6 w (B+1+1+1+1) e
 ⟨h.box.onl o (by omega),h.res.onl o (by omega),h.m1.only o (by omega),h.m2.only o (by omega),zh5 w _ e h.m3.lt,h.tab.onl o (by omega)⟩
def TabR (w:World) (v:Value) (c:ColT):Prop:=∃ m1 m2 m3 es,v=.agg #[.map (some m1),.map (some m2),.map (some m3),.int .i64 c.order.length]/\MapV w m1 (ze4 (zeV c.ignore))/\MapV w m2 es/\ValsR w es c/\MapV w m3 (zE1 c)
theorem TabR.kept {w w':World} {v:Value} {c:ColT} (h:TabR w v c) (k:Kept w w'):TabR w' v c:=by
 obtain ⟨m1,m2,m3,es,hv,h1,h2,h3,h4⟩:=h;exact ⟨m1,m2,m3,es,hv,h1.kept k,h2.kept k,h3.kept k,h4.kept k⟩
theorem zBS (w:World) (vR vO:Value) (ig:Bs) (n:Nat) :
  TS ((((((w.alloc (.cells #[vR,vO,.string (bs ig)] 88)).alloc (.cells zBR 196)).alloc (.map #[] 0)).alloc (.map #[] 0)).alloc (.map #[] 0)).alloc (.cells #[.map (some (w.heap.size+1+1)),.map (some (w.heap.size+1+1+1)),.map (some (w.heap.size+1+1+1+1)),.int .i64 n] 196)) w.heap.size vR vO ig n [] [] []:=by
 have k:∀ (w:World) (o:Obj),Kept w (w.alloc o):=zaA;have s:∀ (w:World) (o:Obj),(w.alloc o).heap.size=w.heap.size+1:=fun w o=>(by simp);refine ⟨?_,?_,?_,?_,?_,?_⟩
 ·exact (((((Blk.new w _ _).alloc _).alloc _).alloc _).alloc _).alloc _
 ·have h:=Blk.new (w.alloc (.cells #[vR,vO,.string (bs ig)] 88)) 196 zBR;rw[s] at h;exact (((h.alloc _).alloc _).alloc _).alloc _
 ·have h:=MapV.made ((w.alloc (.cells #[vR,vO,.string (bs ig)] 88)).alloc (.cells zBR 196));rw[s,s] at h;exact ((h.kept (k _ _)).kept (k _ _)).kept (k _ _)
 ·have h:=MapV.made (((w.alloc (.cells #[vR,vO,.string (bs ig)] 88)).alloc (.cells zBR 196)).alloc (.map #[] 0));rw[s,s,s] at h;exact (h.kept (k _ _)).kept (k _ _)
 ·have h:=MapV.made ((((w.alloc (.cells #[vR,vO,.string (bs ig)] 88)).alloc (.cells zBR 196)).alloc (.map #[] 0)).alloc (.map #[] 0));rw[s,s,s,s] at h;exact h.kept (k _ _)
 ·have h:=Blk.new (((((w.alloc (.cells #[vR,vO,.string (bs ig)] 88)).alloc (.cells zBR 196)).alloc (.map #[] 0)).alloc (.map #[] 0)).alloc (.map #[] 0)) 196 #[.map (some (w.heap.size+1+1)),.map (some (w.heap.size+1+1+1)),.map (some (w.heap.size+1+1+1+1)),.int .i64 n];rw[s,s,s,s,s] at h;exact h
theorem zDz (w:World) (o1 o2 o3 o4 o5 o6:Obj):Kept w ((((((w.alloc o1).alloc o2).alloc o3).alloc o4).alloc o5).alloc o6) :=
 (((((zaA _ _).trans (zaA _ _)).trans (zaA _ _)).trans (zaA _ _)).trans (zaA _ _)).trans (zaA _ _)
theorem zv1 (vR vO:Value) (c:ColT) (w:World) (hv:Col w vR vO c) (hs:SmallC c) :
  Calls Tryz.prog 144 #[zAM vR vO c.ignore] w fun e w'=>∃ v,e=.returned v/\TabR w' v c/\Kept w w':=by
 obtain ⟨s1,s2,s3,s4,s5⟩:=hs;have HV:=Hd hv;obtain ⟨aR,cR,rfl,lR⟩:=hv.1.form;obtain ⟨aO,cO,rfl,lO⟩:=hv.2.form;have HS4:=Hd s4;have HS5:=Hd s5;clear hv s4 s5;have mk1:=fun w=>run_makeMap (P:=Tryz.prog) 116 w;have mk2:=fun w=>run_makeMap (P:=Tryz.prog) 193 w;have mk3:=fun w=>run_makeMap (P:=Tryz.prog) 194 w;have HTS:=Hd (zBS w (.slice aR c.ranks.length cR) (.slice aO c.order.length cO) c.ignore c.order.length);have HKS:=Hd (zDz w (.cells #[.slice aR c.ranks.length cR,.slice aO c.order.length cO,.string (bs c.ignore)] 88) (.cells zBR 196) (.map #[] 0) (.map #[] 0) (.map #[] 0) (.cells #[.map (some (w.heap.size+1+1)),.map (some (w.heap.size+1+1+1)),.map (some (w.heap.size+1+1+1+1)),.int .i64 c.order.length] 196));have HL0:=Hd (fun w=>zhO c.ignore w (by omega));unfold IntsP at HL0;have hig:=ziB c.ignore;go_enter Tryz.func144,Tryz.ntmps144;go_wp2_with fail;generalize (((((w.alloc (.cells #[.slice aR c.ranks.length cR,.slice aO c.order.length cO,.string (bs c.ignore)] 88)).alloc (.cells zBR 196)).alloc (.map #[] 0)).alloc (.map #[] 0)).alloc (.map #[] 0)).alloc (.cells #[.map (some (w.heap.size+1+1)),.map (some (w.heap.size+1+1+1)),.map (some (w.heap.size+1+1+1+1)),.int .i64 c.order.length] 196)=w0 at *;refine (HL0.out _).mono ?_;rintro e w1 ⟨v1,rfl,hv1,hk1⟩;have HV1:=Hd hv1;have HT1:=Hd (HTS.out.kept hk1);have HK1:=Hd (HKS.out.trans hk1);obtain ⟨a1,c1,rfl,hc1⟩:=hv1.form;obtain ⟨xs,HXE⟩:∃ xs,Hid (zeV c.ignore=xs):=⟨_,rfl⟩;rw[HXE.out] at HV1 hc1 hig ⊢;have HXS:Hid (ze4 xs=ze4 (xs.take xs.length)):=by
  show _=_;rw[List.take_of_length_le (Nat.le_refl _)]
 clear hv1 hk1 HTS HKS HL0;go_wp2_with fail;go_loopw [28] (fun i wr=>∃ k:Nat,k<=xs.length/\i=.int .i64 k/\Hid (TS wr w.heap.size (.slice aR c.ranks.length cR) (.slice aO c.order.length cO) c.ignore c.order.length (ze4 (xs.take k)) [] [])/\Hid (Only (fun i=>i=w.heap.size+1+1) w1 wr)) (fun i _=>xs.length - (intOf i).toNat)
 case atStart=>exact ⟨0,Nat.zero_le _,rfl,HT1.out,Only.of_kept (Kept.refl _)⟩
 case round =>
  obtain ⟨k,hk,rfl,HT,HO⟩:=hrel;have HKW:Hid (Kept w wr):=zcB HK1.out HO.out (by omega);by_cases hlt:k<xs.length
  ·obtain ⟨y,hx⟩:∃ y,xs[k]? = some y:=⟨_,List.getElem?_eq_getElem hlt⟩;obtain ⟨g,o,rfl,hg,d0⟩:=(HV1.out.map HT1.out.m1 HO.out).cell_of k y hx;have t0:wr.cell? ⟨w.heap.size+1+1+1+1+1,0,none⟩=some (.map (some (w.heap.size+1+1))):=HT.out.tab.cell 0 _ rfl;have zt:=HT.out.tab.lt;have HNX:Hid (ze4 (xs.take (k+1))=if (zdG (ze4 (xs.take k)) y).isSome=true then ze4 (xs.take k) else ze4 (xs.take k) ++ [(y,.bool true)]):=by
    show _=_;obtain ⟨hk',rfl⟩:=List.getElem?_eq_some_iff.1 hx;rw[List.take_succ_eq_append_getElem hk',ze5]
   have up:(Instr.mapUpdate 116 (.map (some (w.heap.size+1+1))) (.int .i64 y) (.bool true)).run Tryz.prog wr=.ok () (zoI wr (w.heap.size+1+1) (ze4 (xs.take (k+1)))):=by
    cases hgv:zdG (ze4 (xs.take k)) y with
    | none =>
     rw[HNX.out,hgv];exact zEt (P:=Tryz.prog) Tryz.underlying116 Tryz.underlying3 wr _ _ y (.bool true) HT.out.m1 hgv
    | some u =>
     have hu:u=.bool true:=by
      have:=zsR (xs.take k) y;rw[hgv] at this
      split at this
      ·exact Option.some.inj this
      ·cases this
     subst hu;rw[HNX.out,hgv];exact zx5 (P:=Tryz.prog) Tryz.underlying116 Tryz.underlying3 wr _ _ y (.bool true) HT.out.m1 hgv
   have HT2:=Hd (HT.out.put1 (ze4 (xs.take (k+1))));have HO2:=Hd (HO.out.trans (zc6 wr (w.heap.size+1+1) (ze4 (xs.take (k+1)))));generalize zoI wr (w.heap.size+1+1) (ze4 (xs.take (k+1)))=w5 at *;clear hx;go_wp2_with fail;go_roundw
   case rel=>exact ⟨k+1,by omega,by go_num,HT2.out,HO2.out⟩
   case measure=>simp [intOf];omega
  ·obtain rfl:k=xs.length:=(by omega);rw[<- HXS.out] at HT;have b0:wr.cell? ⟨w.heap.size,0,none⟩=some (.slice aR c.ranks.length cR):=HT.out.box.cell 0 _ rfl;have z0:=HT.out.box.lt;obtain ⟨E1,HE1⟩:∃ E1,Hid (ze4 xs=E1):=⟨_,rfl⟩;rw[HE1.out] at HT;clear HXS HO HV1 HT1 HK1 hlt;go_wp2_with fail;clear b0 z0;go_loopw [39] (fun i wr=>∃ (k:Nat) (es:List (Int × Value)),k<=c.ranks.length/\i=.int .i64 k/\Hid (TS wr w.heap.size (.slice aR c.ranks.length cR) (.slice aO c.order.length cO) c.ignore c.order.length E1 es [])/\Hid (ValsR wr es ⟨c.ranks.take k,c.order,c.ignore⟩)/\Hid (ValsF es (w.heap.size+1+1))/\Hid (Kept w wr)) (fun i _=>c.ranks.length - (intOf i).toNat)
   case atStart=>exact ⟨0,[],Nat.zero_le _,rfl,HT.out,ValsR.nil _ _ _,ValsF.nil _,HKW.out⟩
   case round =>
    clear HT HKW;obtain ⟨j,es,hj,rfl,HT,HVR,HVF,HKW⟩:=hrel;have hwr2:w.heap.size+1+1<=wr.heap.size:=(by have:=HT.out.tab.lt;omega);by_cases hlt2:j<c.ranks.length
    ·obtain ⟨p,hx⟩:∃ x,c.ranks[j]? = some x:=⟨_,List.getElem?_eq_getElem hlt2⟩;obtain ⟨hp1,hp2⟩:=HS5.out p (List.mem_of_getElem? hx);obtain ⟨g,o,rfl,hg,d0,d1,_,_⟩:=(HV.out.1.kept HKW.out).cell_of j p hx;have HTK:Hid (c.ranks.take (j+1)=c.ranks.take j ++ [p]):=by
      obtain ⟨hk',rfl⟩:=List.getElem?_eq_some_iff.1 hx;exact List.take_succ_eq_append_getElem hk'
     obtain ⟨x,y⟩:=p;simp only at hp1 hp2 d0 d1;have HLX:=Hd (fun w=>zhO x w (by omega));have HLY:=Hd (fun w=>zsZ y w (by omega));unfold IntsP at HLX;unfold IntsQ at HLY;have hxl:=ziB x;have HBX:=Hd (Blk.new wr 62 #[.string (bs x),.string (bs y)]);have HKX:=Hd (zaA wr (.cells #[.string (bs x),.string (bs y)] 62));have HSK:=Hd (fun w' (h:ValsR w' es ⟨c.ranks.take j,c.order,c.ignore⟩) hp=>zzG h (x,y) hp);have HOLD:=Hd (fun w' (h:ValsR w' es ⟨c.ranks.take j,c.order,c.ignore⟩) z u hp hu=>zBP h (x,y) z u hp hu);have HNEW:=Hd (fun w' (h:ValsR w' es ⟨c.ranks.take j,c.order,c.ignore⟩) z u hp hu hv=>zBQ h (x,y) z u hp hu hv);rw[<- HTK.out] at HSK HOLD HNEW;simp only at HSK HOLD HNEW;clear hx HTK;generalize zeV x=px at *;generalize zeV y=py at *;go_wp2_with fail;refine (HLX.out _).mono ?_;rintro e w3 ⟨v3,rfl,hi3,hk3⟩;have HKA:=Hd (HKX.out.trans hk3);have HI3:=Hd hi3;have HT3:=Hd (HT.out.kept HKA.out);have HV3:=Hd (HVR.out.kept HKA.out);have HK3:=Hd (HKW.out.trans HKA.out);have HBX3:=Hd (HBX.out.kept hk3);obtain ⟨a3,c3,rfl,hc3⟩:=hi3.form;clear hk3 hi3 d0 d1 hg;by_cases hpx:px.length=1
     case neg =>
      have hpx':((px.length:Int) == 1)=false:=(by rw[beq_eq_false_iff_ne];omega);have HVN:=Hd (HSK.out w3 HV3.out hpx);clear HSK HOLD HNEW;go_wp2_with fail;go_roundw
      case rel=>exact ⟨j+1,es,by omega,by go_num,HT3.out,HVN.out,HVF.out,HK3.out⟩
      case measure=>simp [intOf];omega
     obtain ⟨z,rfl⟩:∃ z,px=[z]:=List.length_eq_one_iff.1 hpx;obtain ⟨g3,o3,rfl,hg3,q0⟩:=HI3.out.cell_of 0 z rfl;rw[Nat.add_zero] at q0;have t1:w3.cell? ⟨w.heap.size+1+1+1+1+1,1,none⟩=some (.map (some (w.heap.size+1+1+1))):=HT3.out.tab.cell 1 _ rfl;have zt:=HT3.out.tab.lt;have lk:=fun w' (h:MapV w' (w.heap.size+1+1+1) es)=>zkL (P:=Tryz.prog) Tryz.underlying193 Tryz.underlying3 w' (w.heap.size+1+1+1) es z (.slice none 0 0) (Tryz.zeroInts w') h;simp only[List.length_cons,List.length_nil,Nat.zero_add] at hc3 HI3 ⊢;cases hgv:zdG es z with
     | some u =>
      have HVN:=Hd (HOLD.out w3 HV3.out z u rfl hgv);simp only[hgv] at lk;have lkq:=fun n=>lk (w3.drewN n) (HT3.out.kept (zaB w3 n)).m2;clear HSK HOLD HNEW lk hgv;go_wp2_with fail
      go_quiet (fail)
      go_wp2_with fail;go_roundw
      case rel=>exact ⟨j+1,es,by omega,by go_num,HT3.out.kept (zaB _ _),HVN.out.kept (zaB _ _),HVF.out,HK3.out.trans (zaB _ _)⟩
      case measure=>simp [intOf];omega
     | none =>
      simp only[hgv] at lk;have lkq:=fun n=>lk (w3.drewN n) (HT3.out.kept (zaB w3 n)).m2;have HGV:=Hd hgv;clear HSK HOLD lk hgv;go_wp2_with fail
      go_quiet (fail)
      have HT4:=Hd (HT3.out.kept (zaB w3 nq));have HV4:=Hd (HV3.out.kept (zaB w3 nq));have HK4:=Hd (HK3.out.trans (zaB w3 nq));have HBX4:=Hd (HBX3.out.kept (zaB w3 nq));have HI4:=Hd (HI3.out.kept (zaB w3 nq));clear q0 t1 zt lkq hg3 HT3 HV3 HK3 HBX3 HI3 HKA;generalize w3.drewN nq=w4 at *;go_wp2_with fail;obtain ⟨g4,o4,he4,hg3,q0⟩:=HI4.out.cell_of 0 z rfl;obtain ⟨rfl,rfl⟩:g4=g3/\o4=o3:=(by cases he4;exact ⟨rfl,rfl⟩);rw[Nat.add_zero] at q0;have t1:w4.cell? ⟨w.heap.size+1+1+1+1+1,1,none⟩=some (.map (some (w.heap.size+1+1+1))):=HT4.out.tab.cell 1 _ rfl;have zt:=HT4.out.tab.lt;have p1:w4.cell? ⟨wr.heap.size,1,none⟩=some (.string (bs y)):=HBX4.out.cell 1 _ rfl;have zp:=HBX4.out.lt;have hnp:¬ wr.heap.size=w.heap.size+1+1+1:=HBX4.out.no_map HT4.out.m2;have hng:¬ g4=w.heap.size+1+1+1:=by
       rintro rfl;rw[HT4.out.m2.no_cell] at q0;cases q0
      have HCC:Hid (∀ w',Only (fun i=>i=w.heap.size+1+1+1) w4 w'->(w'.cell? ⟨w.heap.size+1+1+1+1+1,1,none⟩=some (.map (some (w.heap.size+1+1+1)))/\w'.cell? ⟨wr.heap.size,1,none⟩=some (.string (bs y))/\w'.cell? ⟨g4,o4,none⟩=some (.int .i64 z))/\(w.heap.size+1+1+1+1+1<w'.heap.size/\wr.heap.size<w'.heap.size/\g4<w'.heap.size)/\Only (fun i=>i=w.heap.size+1+1+1) w4 w'):=fun w' h =>
       ⟨⟨(h.cell _ 1 zt (by omega)).trans t1,(h.cell _ 1 zp hnp).trans p1,(h.cell g4 o4 hg3 hng).trans q0⟩,⟨Nat.lt_of_lt_of_le zt h.size,Nat.lt_of_lt_of_le zp h.size,Nat.lt_of_lt_of_le hg3 h.size⟩,h⟩
      have HUP:Hid (∀ w' v,Kept w4 w'->(Instr.mapUpdate 193 (.map (some (w.heap.size+1+1+1))) (.int .i64 z) v).run Tryz.prog w'=.ok () (zoI w' (w.heap.size+1+1+1) (es ++ [(z,v)]))):=fun w' v h =>
       zEt (P:=Tryz.prog) Tryz.underlying193 Tryz.underlying3 w' _ es z v (HT4.out.kept h).m2 HGV.out
      have hkd:Kept w4 w4.drew:=zaB w4 1;have okd:Only (fun i=>i=w.heap.size+1+1+1) w4 w4.drew:=Only.of_kept hkd
      go_region_held3 (fun w'=>(w'.cell? ⟨w.heap.size+1+1+1+1+1,1,none⟩=some (.map (some (w.heap.size+1+1+1)))/\w'.cell? ⟨wr.heap.size,1,none⟩=some (.string (bs y))/\w'.cell? ⟨g4,o4,none⟩=some (.int .i64 z))/\(w.heap.size+1+1+1+1+1<w'.heap.size/\wr.heap.size<w'.heap.size/\g4<w'.heap.size)/\Only (fun i=>i=w.heap.size+1+1+1) w4 w')
       ((refine HCC.out _ ?_;assumption))
       (first
        | (go_at_call 192;refine (HLY.out _).mono ?_;rintro e w5 ⟨v5,rfl,hi5,hf5,hk5⟩;have k5:Kept w4 w5:=hkd.trans hk5;have HF5:=Hd hf5;have HI5:=Hd hi5;have up5:=HUP.out w5 v5 k5;have o5:Only (fun i=>i=w.heap.size+1+1+1) w4 w5:=Only.of_kept k5;have o6:=o5.trans (zc6 w5 (w.heap.size+1+1+1) (es ++ [(z,v5)]));obtain ⟨a5,c5,rfl,hc5⟩:=hi5.form;clear hk5 hi5 hf5))
      all_goals
       have HF5:∀ g,(Value.slice a5 py.length c5).ownBlock=some g->w.heap.size+1+1<=g:=fun g h=>by
        have:=HF5.out g h;have h8:w4.heap.size<=g:=this;have:=HT4.out.tab.lt;omega
       have HT5:=Hd ((HT4.out.kept k5).put2 (es ++ [(z,Value.slice a5 py.length c5)]));have HM5:=Hd (HT4.out.kept k5).m2;have HO5:=Hd (zc6 w5 (w.heap.size+1+1+1) (es ++ [(z,Value.slice a5 py.length c5)]));have HV5:=Hd (HNEW.out _ ((HV4.out.kept k5).onl HM5.out HO5.out) z (Value.slice a5 py.length c5) rfl HGV.out (HI5.out.map HM5.out HO5.out));have HK5:=Hd (zcB (HK4.out.trans k5) HO5.out (by omega));clear HUP HCC up5 o5 o6 okd hkd;generalize zoI w5 (w.heap.size+1+1+1) (es ++ [(z,Value.slice a5 py.length c5)])=w6 at *;go_wp2_with fail;go_roundw
       case rel=>exact ⟨j+1,es ++ [(z,Value.slice a5 py.length c5)],by omega,by go_num,HT5.out,HV5.out,HVF.out.push z _ HF5,HK5.out⟩
       case measure=>simp [intOf];omega
    ·obtain rfl:j=c.ranks.length:=(by omega);rw[List.take_of_length_le (Nat.le_refl _)] at HVR;have HVRC:Hid (ValsR wr es c):=HVR.out;have b1:wr.cell? ⟨w.heap.size,1,none⟩=some (.slice aO c.order.length cO):=HT.out.box.cell 1 _ rfl;have z1:=HT.out.box.lt;have H00:Hid (([]:List (Int × Value))=zwY (c.order.take 0) 0 []):=rfl;clear HVR hlt2;go_wp2_with fail;clear b1 z1;go_loopw [72] (fun i wr2=>∃ k:Nat,k<=c.order.length/\i=.int .i64 k/\Hid (TS wr2 w.heap.size (.slice aR c.ranks.length cR) (.slice aO c.order.length cO) c.ignore c.order.length E1 es (zwY (c.order.take k) 0 []))/\Hid (ValsR wr2 es c)/\Hid (Kept w wr2)) (fun i _=>c.order.length - (intOf i).toNat)
     case atStart=>exact ⟨0,Nat.zero_le _,rfl,HT.out,HVRC.out,HKW.out⟩
     case round =>
      clear HT HVRC HKW;obtain ⟨k,hk,rfl,HT,HVR,HKW⟩:=hrel;by_cases hlt3:k<c.order.length
      ·obtain ⟨s,hx⟩:∃ x,c.order[k]? = some x:=⟨_,List.getElem?_eq_getElem hlt3⟩;have hsl:=HS4.out s (List.mem_of_getElem? hx);obtain ⟨g,o,rfl,hg,d0,_,_⟩:=(HV.out.2.kept HKW.out).cell_of k s hx;have HGN:Hid (zwY (c.order.take (k+1)) 0 []=zm1 k (zwY (c.order.take k) 0 []) (zeV s)):=by
        show _=_;obtain ⟨hk',rfl⟩:=List.getElem?_eq_some_iff.1 hx;rw[List.take_succ_eq_append_getElem hk',zqP];congr 1;simp;omega
       have HLS:=Hd (fun w=>zhO s w (by omega));unfold IntsP at HLS;have hpl:=ziB s;clear hx;generalize zeV s=ps at *;generalize zwY (c.order.take k) 0 []=e3 at *;go_wp2_with fail;refine (HLS.out _).mono ?_;rintro e w3 ⟨v3,rfl,hi3,hk3⟩;have HI3:=Hd hi3;have HT3:=Hd (HT.out.kept hk3);have HV3:=Hd (HVR.out.kept hk3);have HK3:=Hd (HKW.out.trans hk3);obtain ⟨a3,c3,rfl,hc3⟩:=hi3.form;clear hk3 hi3 d0 hg HT HVR HKW;go_wp2_with fail;go_loopw [80] (fun i wr3=>∃ n:Nat,n<=ps.length/\i=.int .i64 n/\Hid (TS wr3 w.heap.size (.slice aR c.ranks.length cR) (.slice (some ⟨g,o,none⟩) c.order.length cO) c.ignore c.order.length E1 es (zm1 k e3 (ps.take n)))/\Hid (Only (fun i=>i=w.heap.size+1+1+1+1) w3 wr3)) (fun i _=>ps.length - (intOf i).toNat)
       case atStart=>exact ⟨0,Nat.zero_le _,rfl,HT3.out,Only.of_kept (Kept.refl _)⟩
       case round =>
        obtain ⟨n,hn,rfl,HT,HO⟩:=hrel;have HVR:Hid (ValsR wr es c):=HV3.out.onl HT3.out.m3 HO.out;have HKW:Hid (Kept w wr):=zcB HK3.out HO.out (by omega);by_cases hlt4:n<ps.length
        ·obtain ⟨y,hx⟩:∃ y,ps[n]? = some y:=⟨_,List.getElem?_eq_getElem hlt4⟩;obtain ⟨g,o,rfl,hg,d0⟩:=(HI3.out.map HT3.out.m3 HO.out).cell_of n y hx;have t2:wr.cell? ⟨w.heap.size+1+1+1+1+1,2,none⟩=some (.map (some (w.heap.size+1+1+1+1))):=HT.out.tab.cell 2 _ rfl;have zt:=HT.out.tab.lt;have HNX:Hid (zm1 k e3 (ps.take (n+1))=if (zdG (zm1 k e3 (ps.take n)) y).isSome=true then zm1 k e3 (ps.take n) else zm1 k e3 (ps.take n) ++ [(y,.int .i64 k)]):=by
          show _=_;obtain ⟨hk',rfl⟩:=List.getElem?_eq_some_iff.1 hx;rw[List.take_succ_eq_append_getElem hk',zyE]
         have lk:=zkL (P:=Tryz.prog) Tryz.underlying194 Tryz.underlying3 wr (w.heap.size+1+1+1+1) (zm1 k e3 (ps.take n)) y (.int .i64 0) (Tryz.zeroInt wr) HT.out.m3;clear hx;cases hgv:zdG (zm1 k e3 (ps.take n)) y with
         | some u =>
          rw[hgv] at HNX lk;rw[if_pos (by rfl)] at HNX;simp only[Option.getD_some,Option.isSome_some] at lk;rw[<- HNX.out] at HT;go_wp2_with fail;go_roundw
          case rel=>exact ⟨n+1,by omega,by go_num,HT.out,HO.out⟩
          case measure=>simp [intOf];omega
         | none =>
          rw[hgv] at HNX lk;rw[if_neg (by simp)] at HNX;simp only[Option.getD_none,Option.isSome_none] at lk;have up:=zEt (P:=Tryz.prog) Tryz.underlying194 Tryz.underlying3 wr _ _ y (.int .i64 k) HT.out.m3 hgv;rw[<- HNX.out] at up;have HT2:=Hd (HT.out.put3 (zm1 k e3 (ps.take (n+1))));have HO2:=Hd (HO.out.trans (zc6 wr (w.heap.size+1+1+1+1) (zm1 k e3 (ps.take (n+1)))));generalize zoI wr (w.heap.size+1+1+1+1) (zm1 k e3 (ps.take (n+1)))=w5 at *;clear hgv HNX;go_wp2_with fail;go_roundw
          case rel=>exact ⟨n+1,by omega,by go_num,HT2.out,HO2.out⟩
          case measure=>simp [intOf];omega
        ·obtain rfl:n=ps.length:=(by omega);rw[List.take_of_length_le (Nat.le_refl _),<- HGN.out] at HT;go_wp2_with fail;go_roundw
         case rel=>exact ⟨k+1,by omega,by go_num,HT.out,HVR.out,HKW.out⟩
         case measure=>simp [intOf];omega
      ·obtain rfl:k=c.order.length:=(by omega);rw[List.take_of_length_le (Nat.le_refl _)] at HT;have t0:wr.cell? ⟨w.heap.size+1+1+1+1+1,0,none⟩=some (.map (some (w.heap.size+1+1))):=HT.out.tab.cell 0 _ rfl;have t1:wr.cell? ⟨w.heap.size+1+1+1+1+1,1,none⟩=some (.map (some (w.heap.size+1+1+1))):=HT.out.tab.cell 1 _ rfl;have t2:wr.cell? ⟨w.heap.size+1+1+1+1+1,2,none⟩=some (.map (some (w.heap.size+1+1+1+1))):=HT.out.tab.cell 2 _ rfl;have t3:wr.cell? ⟨w.heap.size+1+1+1+1+1,3,none⟩=some (.int .i64 c.order.length):=HT.out.tab.cell 3 _ rfl;have zt:=HT.out.tab.lt;have r0:wr.cell? ⟨w.heap.size+1,0,none⟩=some (.map none):=HT.out.res.cell 0 _ rfl;have r1:wr.cell? ⟨w.heap.size+1,1,none⟩=some (.map none):=HT.out.res.cell 1 _ rfl;have r2:wr.cell? ⟨w.heap.size+1,2,none⟩=some (.map none):=HT.out.res.cell 2 _ rfl;have r3:wr.cell? ⟨w.heap.size+1,3,none⟩=some (.int .i64 0):=HT.out.res.cell 3 _ rfl;have f0:=HT.out.res.free 0;have f1:=HT.out.res.free 1;have f2:=HT.out.res.free 2;have f3:=HT.out.res.free 3;have zr:=HT.out.res.lt;go_wp2_with fail;have hO:Only (fun i=>i=w.heap.size+1) wr ((((wr.setCell ⟨w.heap.size+1,0,none⟩ (.map (some (w.heap.size+1+1)))).setCell ⟨w.heap.size+1,1,none⟩ (.map (some (w.heap.size+1+1+1)))).setCell ⟨w.heap.size+1,2,none⟩ (.map (some (w.heap.size+1+1+1+1)))).setCell ⟨w.heap.size+1,3,none⟩ (.int .i64 c.order.length)) :=
        ((((Only.setCell _ 0 _).trans (Only.setCell _ 1 _)).trans (Only.setCell _ 2 _)).trans (Only.setCell _ 3 _))
       refine bodyPost_ret (v:=.agg #[.map (some (w.heap.size+1+1)),.map (some (w.heap.size+1+1+1)),.map (some (w.heap.size+1+1+1+1)),.int .i64 c.order.length]) (by simp [results,Tryz.results144,go_sem,r0,r1,r2,r3,zr]) rfl ?_;refine ⟨_,rfl,⟨_,_,_,es,rfl,?_,HT.out.m2.only hO (by omega),HVR.out.blk HVF.out (by omega) hO,HT.out.m3.only hO (by omega)⟩,zcB HKW.out hO (by omega)⟩;rw[HXE.out,HE1.out];exact HT.out.m1.only hO (by omega)
theorem znT (l:Bs):∀ (n k:Nat),l.length - k<=n->∀ y∈zsQ l k,0<=y/\y<=1114111/\(y<55296\/57343<y)
 | 0,k,hk,y,hy=>by rw[ziA l k (by omega)] at hy;cases hy
 | n+1,k,hk,y,hy=>by
  by_cases q:k<l.length
  ·rw[zoL l k q] at hy;rcases List.mem_cons.1 hy with rfl|hy
   ·exact zq8 (bs l) k
   ·have hb:=za6 (bs l) k (by simpa using q);exact znT l n _ (by omega) y hy
  ·rw[ziA l k q] at hy;cases hy
theorem zzH (l:Bs):∀ y∈zeV l,0<=y/\y<=1114111/\(y<55296\/57343<y):=znT l _ 0 (Nat.le_refl _)
theorem zzI {c:ColT} {x:Int} {ys:List Int} (h:znJ c x=some ys):∀ y∈ys,0<=y/\y<=1114111/\(y<55296\/57343<y):=by
 unfold znJ at h;cases hf:c.ranks.find? (fun p=>zeV p.1 == [x]) with
 | none=>rw[hf] at h;cases h
 | some p=>rw[hf] at h;cases h;exact zzH p.2
theorem zzJ {c:ColT} (hs:SmallC c) {x:Int} {ys:List Int} (h:znJ c x=some ys):ys.length<=1000:=by
 unfold znJ at h;cases hf:c.ranks.find? (fun p=>zeV p.1 == [x]) with
 | none=>rw[hf] at h;cases h
 | some p =>
  rw[hf] at h;cases h;have:=(hs.2.2.2.2 p (List.mem_of_find?_eq_some hf)).2;have h2:=ziB p.2;simp only;omega
theorem zBT (v:Value) (c:ColT) (x:Int) (w:World) (hv:TabR w v c) (hs:SmallC c) (hx0:0<=x) (hx1:x<=1114111) :
  Calls Tryz.prog 193 #[v,.int .i64 x] w fun e w'=>e=.returned (.int .i64 (zh7 c x))/\Kept w w':=by
 obtain ⟨m1,m2,m3,es,rfl,h1,h2,h3,h4⟩:=hv;have hn:=hs.2.1;have HR:Hid (zh7 c x=if x=32 then 0 else match zDj c x with
  | some i=>(i:Int)+1
  | none=>(c.order.length:Int)+1+x):=rfl
 have hlen:∀ i,zDj c x=some i->i<c.order.length:=fun i h=>by
  unfold zDj at h;exact (List.findIdx?_eq_some_iff_getElem.1 h).1
 have lk:=zkL (P:=Tryz.prog) Tryz.underlying194 Tryz.underlying3 (w.alloc (.cells #[.map (some m1),.map (some m2),.map (some m3),.int .i64 c.order.length] 196)) m3 (zE1 c) x (.int .i64 0) (Tryz.zeroInt _) (h4.kept (zaA _ _));rw[zDl] at lk;generalize zh7 c x=R at *;generalize c.order.length=n at *;clear h1 h2 h3 h4;by_cases h32:x=32
 ·rw[if_pos h32] at HR;subst h32;clear lk;go_enter Tryz.func193,Tryz.ntmps193;go_wp2_with fail;go_ret;exact ⟨zaK HR.out.symm,zaA _ _⟩
 rw[if_neg h32] at HR;have h32':(x == 32)=false:=(by simpa using h32);cases hgi:zDj c x with
 | none =>
  rw[hgi] at HR lk;simp only[Option.map_none,Option.getD_none,Option.isSome_none] at lk;have HR2:Hid (R=(n:Int)+1+x):=HR;clear HR hgi hlen;go_enter Tryz.func193,Tryz.ntmps193;go_wp2_with fail;go_ret;exact ⟨zaK HR2.out.symm,zaA _ _⟩
 | some i =>
  have hi:=hlen i hgi;rw[hgi] at HR lk;simp only[Option.map_some,Option.getD_some,Option.isSome_some] at lk;have HR2:Hid (R=(i:Int)+1):=HR;clear HR hgi hlen;go_enter Tryz.func193,Tryz.ntmps193;go_wp2_with fail;go_ret;exact ⟨zaK HR2.out.symm,zaA _ _⟩
theorem zDA (c:ColT) (s:Bs) (k:Nat) (h:k<s.length):(zsQ s k).flatMap (zi7 c)=zi7 c (dec (bs s) k).1 ++ (zsQ s (k+(dec (bs s) k).2.toNat)).flatMap (zi7 c):=by
 rw[zoL s k h,List.flatMap_cons]
def RowQ (xs:List Int) (w:World) (e:Ending) (w':World):Prop:=∃ v,e=.returned v/\w'.ownsRow w.heap.size 3 1 v xs.length (zyD xs)/\Kept w w'
theorem zDB (v:Value) (c:ColT) (s:Bs) (w:World) (hv:TabR w v c) (hs:SmallC c) (hl:s.length<=100000) :
  Calls Tryz.prog 146 #[v,.string (bs s)] w (RowQ (zgG c s) w):=by
 obtain ⟨i0,hi,hz0,hz1,hz2⟩:=info_parts Tryz.infoInt;have HTR:=Hd hv;have HRK:=Hd (fun w' x (h:Kept w w') h0 h1=>zBT v c x w' (hv.kept h) hs h0 h1);obtain ⟨m1,m2,m3,es,rfl,h1,h2,h3,h4⟩:=hv;have HM1:=Hd h1;have HM2:=Hd h2;have HVR:=Hd h3;have HVL:Hid (∀ x ys,znJ c x=some ys->ys.length<=1000/\∀ y∈ys,0<=y/\y<=1114111/\(y<55296\/57343<y)):=fun x ys h=>⟨zzJ hs h,zzI h⟩;clear h1 h2 h3 h4;have H0:Hid (zgG c s=[] ++ (zsQ s 0).flatMap (zi7 c)):=(by show _=_;rw[zlJ];rfl);have HB0:=Hd (Blk.new w 196 #[.map (some m1),.map (some m2),.map (some m3),.int .i64 c.order.length]);have HK0:=Hd (zaA w (.cells #[.map (some m1),.map (some m2),.map (some m3),.int .i64 c.order.length] 196));unfold RowQ;go_enter Tryz.func146,Tryz.ntmps146;go_wp2_with fail;go_loopw [5] (fun v wr=>∃ (pos:Nat) (xs:List Int),pos<=s.length/\xs.length<=1000 * pos/\wr.heap[w.heap.size+1]? = some (.stringIter (bs s) pos)/\wr.ownsRow (w.heap.size+2) 3 1 v xs.length (zyD xs)/\Hid (zgG c s=xs ++ (zsQ s pos).flatMap (zi7 c))/\Hid (Blk wr w.heap.size 196 #[.map (some m1),.map (some m2),.map (some m3),.int .i64 c.order.length])/\Hid (Kept w wr)) (fun _ wr=>s.length - wr.iterPos (w.heap.size+1))
 case atStart=>exact ⟨0,[],Nat.zero_le _,Nat.zero_le _,by have h:=World.iter_heap (w.alloc (.cells #[.map (some m1),.map (some m2),.map (some m3),.int .i64 c.order.length] 196)) (bs s) 0;simpa using h,World.ownsRow_nil _ _ _ _,H0.out,HB0.out.alloc _,HK0.out.trans (zaA _ _)⟩
 case round =>
  obtain ⟨pos,xs,hp,hxl,hit,hown,HA,HB,HK⟩:=hrel;have hip:wr.iterPos (w.heap.size+1)=pos:=(by simp [World.iterPos,hit]);have hsz:w.heap.size+1<wr.heap.size:=by
   rcases Nat.lt_or_ge (w.heap.size+1) wr.heap.size with q|q
   ·exact q
   ·rw[Array.getElem?_eq_none q] at hit;cases hit
  by_cases hlt:pos<s.length
  ·have nx:=fun ty=>zc0 (P:=Tryz.prog) wr (w.heap.size+1) (bs s) pos ty hit hlt;have hb:=za6 (bs s) pos hlt;have hdv:=zq8 (bs s) pos;have HP:=Hd (zDA c s pos hlt);have hitW:(wr.iterAt (w.heap.size+1) (bs s) (pos+(dec (bs s) pos).2.toNat)).heap[w.heap.size+1]? = some (.stringIter (bs s) (pos+(dec (bs s) pos).2.toNat)):=Lib.iterAt_heap wr (w.heap.size+1) (bs s) pos _ hit;have hkW:Kept w (wr.iterAt (w.heap.size+1) (bs s) (pos+(dec (bs s) pos).2.toNat)):=Lib.below_iterAt HK.out (by omega) (bs s) _;have hoW:=zhN hown hit (bs s) (pos+(dec (bs s) pos).2.toNat);have hbW:=HB.out.onl (zlM wr (w.heap.size+1) (bs s) (pos+(dec (bs s) pos).2.toNat)) (by omega);have hzW:(wr.iterAt (w.heap.size+1) (bs s) (pos+(dec (bs s) pos).2.toNat)).heap.size=wr.heap.size:=Lib.iterAt_size ..;obtain ⟨x,n,hd⟩:∃ c n,dec (bs s) pos=(c,n):=⟨(dec (bs s) pos).1,(dec (bs s) pos).2,rfl⟩;rw[hd] at nx hb hdv HP hitW hkW hoW hbW hzW;simp only at nx hb hdv HP hitW hkW hoW hbW hzW;obtain ⟨b1,b2,b3,b4,b5⟩:=hb;simp only[zeE] at b5;obtain ⟨hx0,hx1,_⟩:=hdv;obtain ⟨W,HW⟩:∃ W,Hid (wr.iterAt (w.heap.size+1) (bs s) (pos+n.toNat)=W):=⟨_,rfl⟩;simp only[HW.out] at nx hitW hkW hoW hbW hzW;have HITW:=Hd hitW;have HKW:=Hd hkW;have HOW:=Hd hoW;have HBW:=Hd hbW;have HIP:=Hd hip;have hszW:w.heap.size+1<W.heap.size:=(by omega);have t0:W.cell? ⟨w.heap.size,0,none⟩=some (.map (some m1)):=hbW.cell 0 _ rfl;have t1:W.cell? ⟨w.heap.size,1,none⟩=some (.map (some m2)):=hbW.cell 1 _ rfl;have t2:W.cell? ⟨w.heap.size,2,none⟩=some (.map (some m3)):=hbW.cell 2 _ rfl;have t3:W.cell? ⟨w.heap.size,3,none⟩=some (.int .i64 c.order.length):=hbW.cell 3 _ rfl;have lk1:=zvF (P:=Tryz.prog) Tryz.underlying116 Tryz.underlying3 W m1 (ze4 (zeV c.ignore)) x (.bool false) (Tryz.zeroBool W) (HM1.out.kept hkW);rw[zgV] at lk1;have HK1:Hid (zi7 c x=if (zeV c.ignore).contains x=true then [] else match znJ c x with
    | some v=>v.map (zh7 c)
    | none=>[zh7 c x]):=rfl
   clear hitW hkW hoW hbW hzW hd hip hit hown HK HB;cases hct:(zeV c.ignore).contains x
   case true =>
    rw[hct] at lk1 HK1;rw[if_pos rfl] at HK1;have hown:=HOW.out;go_wp2_with fail;go_roundw
    case rel=>exact ⟨pos+n.toNat,xs,by omega,by omega,HITW.out,hown,by show _=_;rw[HA.out,HP.out,HK1.out];simp,HBW.out,HKW.out⟩
    case measure=>rw[HIP.out];have:=HITW.out;simp [World.iterPos,this];omega
   rw[hct] at lk1 HK1;rw[if_neg (by simp)] at HK1;have lk2:=zkL (P:=Tryz.prog) Tryz.underlying193 Tryz.underlying3 W m2 es x (.slice none 0 0) (Tryz.zeroInts W) (HM2.out.kept HKW.out);have HVX:=Hd (HVR.out x);cases hval:znJ c x with
   | none =>
    rw[hval] at HVX HK1;have hgn:zdG es x=none:=HVX.out;rw[hgn] at lk2;simp only[Option.getD_none,Option.isSome_none] at lk2;have HK2:Hid (zi7 c x=[zh7 c x]):=HK1;have HRX:=Hd (fun w' h=>HRK.out w' x h hx0 hx1);generalize zh7 c x=r at *;clear hval hgn HK1;go_wp2_with fail;refine (HRX.out _ HKW.out).mono ?_;rintro e w3 ⟨rfl,hk3⟩;have HK3:=Hd (HKW.out.trans hk3);have HB3:=Hd (HBW.out.kept hk3);have HIT3:Hid (w3.heap[w.heap.size+1]? = some (.stringIter (bs s) (pos+n.toNat))):=by
     show _=_;rw[hk3.block _ hszW];exact HITW.out
    have hown:=zaU HOW.out hk3;have hsz3:W.heap.size<=w3.heap.size:=hk3.size;clear hk3 t0 t1 t2 t3;go_wp2_with (at_builtin;refine wpList_append_own _ rfl _ _ 199 rfl (w.heap.size+2) 3 i0 (.int .i64 0) 1 8 Tryz.underlying199 hi hz0 hz1 hz2 rfl (by decide) _ _ _ rfl (hown.alloc _) ⟨w3.heap.size,0,none⟩ 1 1 [.int .i64 r] rfl rfl (zaV _ #[.int .i64 r] _ _ (by simp)) (by intro u hu;simp at hu;subst hu;rfl) (by unfold maxLen;omega) (by omega) (by simp;omega) ?_;intro v' w4 hown2 hgrow2 _);have hb4:Below (w.heap.size+2) w3 w4:=((Below.refl _ w3).alloc (by omega) _).trans (zaG (hown.alloc _) hgrow2 (by simp;omega));have HK4:=Hd (HK3.out.trans' (hb4.mono (by omega)));have HB4:Hid (Blk w4 w.heap.size 196 #[.map (some m1),.map (some m2),.map (some m3),.int .i64 c.order.length]):=(hb4.block _ (by omega)).trans HB3.out;have HIT4:Hid (w4.heap[w.heap.size+1]? = some (.stringIter (bs s) (pos+n.toNat))):=(hb4.block _ (by omega)).trans HIT3.out;rw[<- ziC] at hown2;have HO:=Hd hown2;clear hown2 hgrow2 hown hb4;go_wp2_with fail;go_roundw
    case rel=>exact ⟨pos+n.toNat,xs ++ [r],by omega,by simp;omega,HIT4.out,by simpa using HO.out,by show _=_;rw[HA.out,HP.out,HK2.out];simp,HB4.out,HK4.out⟩
    case measure=>rw[HIP.out];have:=HIT4.out;simp [World.iterPos,this];omega
   | some ys =>
    rw[hval] at HVX HK1;have hgs:∃ u,zdG es x=some u/\Ints w u ys:=HVX.out;obtain ⟨u,hu,hiu⟩:=hgs;rw[hu] at lk2;simp only[Option.getD_some,Option.isSome_some] at lk2;have HK2:Hid (zi7 c x=ys.map (zh7 c)):=HK1;obtain ⟨hyl,hyr⟩:=HVL.out x ys hval;have HYR:=Hd hyr;have HIU:=Hd hiu;obtain ⟨au,cu,rfl,hcu⟩:=hiu.form;have hown:=HOW.out;clear hval hu HK1 HVX hyr hiu;go_wp2_with fail;clear t0 t1 t2 t3;go_loopw [5,41] (fun v i wr2=>∃ (j:Nat) (zs:List Int),j<=ys.length/\i=.int .i64 j/\zs.length=xs.length+j/\wr2.heap[w.heap.size+1]? = some (.stringIter (bs s) (pos+n.toNat))/\wr2.ownsRow (w.heap.size+2) 3 1 v zs.length (zyD zs)/\Hid (zs=xs ++ (ys.take j).map (zh7 c))/\Hid (Blk wr2 w.heap.size 196 #[.map (some m1),.map (some m2),.map (some m3),.int .i64 c.order.length])/\Hid (Kept w wr2)) (fun _ i _=>ys.length - (intOf i).toNat)
    case atStart=>exact ⟨0,xs,Nat.zero_le _,rfl,rfl,HITW.out,hown,by show _=_;simp,HBW.out,HKW.out⟩
    case round =>
     clear hown HOW lk1 lk2 nx;obtain ⟨j,zs,hj,rfl,hzl,hit2,hown,HZ,HB2,HK2'⟩:=hrel;have hsz2:w.heap.size+1<wr.heap.size:=by
      rcases Nat.lt_or_ge (w.heap.size+1) wr.heap.size with q|q
      ·exact q
      ·rw[Array.getElem?_eq_none q] at hit2;cases hit2
     have HIT2:=Hd hit2;clear hit2;by_cases hlt2:j<ys.length
     ·obtain ⟨y,hy⟩:∃ y,ys[j]? = some y:=⟨_,List.getElem?_eq_getElem hlt2⟩;obtain ⟨g,o,rfl,hg,d0⟩:=(HIU.out.kept HK2'.out).cell_of j y hy;obtain ⟨hy0,hy1,_⟩:=HYR.out y (List.mem_of_getElem? hy);have HZ2:Hid (zs ++ [zh7 c y]=xs ++ (ys.take (j+1)).map (zh7 c)):=by
       show _=_;obtain ⟨hj',rfl⟩:=List.getElem?_eq_some_iff.1 hy;rw[List.take_succ_eq_append_getElem hj',HZ.out,List.map_append,List.append_assoc];rfl
      have HRX:=Hd (fun w' h=>HRK.out w' y h hy0 hy1);generalize zh7 c y=r at *;have t0:wr.cell? ⟨w.heap.size,0,none⟩=some (.map (some m1)):=HB2.out.cell 0 _ rfl;have t1:wr.cell? ⟨w.heap.size,1,none⟩=some (.map (some m2)):=HB2.out.cell 1 _ rfl;have t2:wr.cell? ⟨w.heap.size,2,none⟩=some (.map (some m3)):=HB2.out.cell 2 _ rfl;have t3:wr.cell? ⟨w.heap.size,3,none⟩=some (.int .i64 c.order.length):=HB2.out.cell 3 _ rfl;have HOWN:=Hd hown;clear hy hown;go_wp2_with fail;refine (HRX.out _ HK2'.out).mono ?_;rintro e w3 ⟨rfl,hk3⟩;have HK3:=Hd (HK2'.out.trans hk3);have HB3:=Hd (HB2.out.kept hk3);have HIT3:Hid (w3.heap[w.heap.size+1]? = some (.stringIter (bs s) (pos+n.toNat))):=by
       show _=_;rw[hk3.block _ hsz2];exact HIT2.out
      have hown:=zaU HOWN.out hk3;have hsz3:wr.heap.size<=w3.heap.size:=hk3.size;clear hk3 t0 t1 t2 t3 d0 hg;go_wp2_with (at_builtin;refine wpList_append_own _ rfl _ _ 199 rfl (w.heap.size+2) 3 i0 (.int .i64 0) 1 8 Tryz.underlying199 hi hz0 hz1 hz2 rfl (by decide) _ _ _ rfl (hown.alloc _) ⟨w3.heap.size,0,none⟩ 1 1 [.int .i64 r] rfl rfl (zaV _ #[.int .i64 r] _ _ (by simp)) (by intro u hu;simp at hu;subst hu;rfl) (by unfold maxLen;omega) (by omega) (by simp;omega) ?_;intro v' w4 hown2 hgrow2 _);have hb4:Below (w.heap.size+2) w3 w4:=((Below.refl _ w3).alloc (by omega) _).trans (zaG (hown.alloc _) hgrow2 (by simp;omega));have HK4:=Hd (HK3.out.trans' (hb4.mono (by omega)));have HB4:Hid (Blk w4 w.heap.size 196 #[.map (some m1),.map (some m2),.map (some m3),.int .i64 c.order.length]):=(hb4.block _ (by omega)).trans HB3.out;have HIT4:Hid (w4.heap[w.heap.size+1]? = some (.stringIter (bs s) (pos+n.toNat))):=(hb4.block _ (by omega)).trans HIT3.out;rw[<- ziC] at hown2;have HO:=Hd hown2;clear hown2 hgrow2 hown hb4;go_wp2_with fail;go_roundw
      case rel=>exact ⟨j+1,zs ++ [r],by omega,by go_num,by simp;omega,HIT4.out,by simpa using HO.out,HZ2.out,HB4.out,HK4.out⟩
      case measure=>simp [intOf];omega
     ·obtain rfl:j=ys.length:=(by omega);have HZZ:Hid (zs=xs ++ zi7 c x):=by
       show _=_;have h:=HZ.out;rw[List.take_of_length_le (Nat.le_refl _)] at h;rw[h,HK2.out]
      have HOWN:=Hd hown;clear hown;go_wp2_with fail;go_roundw
      case rel=>exact ⟨pos+n.toNat,zs,by omega,by omega,HIT2.out,HOWN.out,by show _=_;rw[HA.out,HP.out,HZZ.out];simp,HB2.out,HK2'.out⟩
      case measure=>rw[HIP.out];have:=HIT2.out;simp [World.iterPos,this];omega
  ·have nx:=fun ty=>zbR (P:=Tryz.prog) wr (w.heap.size+1) (bs s) pos ty hit hlt;have HI:=Hd (ztI hown (show w.heap.size<=w.heap.size+2 by omega));have HL:Hid (zgG c s=xs):=by
    show _=_;rw[HA.out,ziA s pos hlt];simp
   clear hown;go_wp2_with fail;go_ret;exact ⟨_,rfl,by rw[HL.out];exact HI.out,HK.out⟩
theorem zDC (v:Value) (c:ColT) (s:Bs) (w:World) (hv:TabR w v c) (hs:SmallC c) (hl:s.length<=100000) :
  Calls Tryz.prog 146 #[v,.string (bs s)] w (IntsQ (zgG c s) w) :=
 (zDB v c s w hv hs hl).mono fun _ _ ⟨v,h1,h2,h3⟩=>⟨v,h1,Ints.own h2,fun g hg=>(h2.lt g hg).1,h3⟩
theorem zzK (v:Value) (c:ColT) (s:Bs) (w:World) (hv:TabR w v c) (hs:SmallC c) (hl:s.length<=100000) :
  Calls Tryz.prog 146 #[v,.string (bs s)] w (IntsP (zgG c s) w) :=
 (zDC v c s w hv hs hl).mono fun _ _ ⟨v,h1,h2,_,h3⟩=>⟨v,h1,h2,h3⟩
end Go.Proofs.YtmcoomlkbgiboaaGreatDoor
