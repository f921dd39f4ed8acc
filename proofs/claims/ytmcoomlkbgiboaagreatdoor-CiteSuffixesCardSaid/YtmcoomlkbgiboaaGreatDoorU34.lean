/- The reference's languages, words and lists. Conditions: lengths. -/
import Derived.Test.YtmcoomlkbgiboaaGreatDoorU03
import Derived.Test.YtmcoomlkbgiboaaGreatDoorU25
import Derived.Test.YtmcoomlkbgiboaaGreatDoorU04
import Derived.Test.YtmcoomlkbgiboaaGreatDoorU07
set_option linter.all false
set_option maxRecDepth 100000
set_option maxHeartbeats 6400000
namespace Go.Proofs.YtmcoomlkbgiboaaGreatDoor
open Go.RowKit
def ziU:List Bs:=[lEn,lDe,lFr,lEs]
def zDW (l:Bs):Int:=if l=lEn then 0 else if l=lDe then 1 else if l=lFr then 2 else if l=lEs then 3 else -1
def zbL:Array Value:=#[.string (bs [101,110]),.string (bs [100,101]),.string (bs [102,114]),.string (bs [101,115])]
theorem zfG (w:World):Calls Tryz.prog 149 #[] w fun e w'=>e=.returned (.slice (some ⟨w.heap.size,0,none⟩) 4 4)/\w'=w.alloc (.cells zbL 9):=by
 go_enter Tryz.func149,Tryz.ntmps149;go_wp2_with fail;go_ret;exact ⟨rfl,rfl⟩
theorem znY (k:Nat) (h:k<4):k=0\/k=1\/k=2\/k=3:=by omega
theorem znZ (l:Bs) (w:World):Calls Tryz.prog 99 #[.string (bs l)] w fun e w'=>e=.returned (.int .i64 (zDW l))/\Kept w w':=by
 go_enter Tryz.func99,Tryz.ntmps99;go_wp2_with fail;refine (zfG _).mono ?_;rintro e w1 ⟨rfl,rfl⟩;have HB:=Hd (Blk.new w 9 zbL);have HK:=Hd (zaA w (.cells zbL 9));generalize w.alloc (.cells zbL 9)=w1 at *;have c0:w1.cell? ⟨w.heap.size,0,none⟩=some (.string (bs [101,110])):=HB.out.cell 0 _ rfl;have c1:w1.cell? ⟨w.heap.size,1,none⟩=some (.string (bs [100,101])):=HB.out.cell 1 _ rfl;have c2:w1.cell? ⟨w.heap.size,2,none⟩=some (.string (bs [102,114])):=HB.out.cell 2 _ rfl;have c3:w1.cell? ⟨w.heap.size,3,none⟩=some (.string (bs [101,115])):=HB.out.cell 3 _ rfl;have z:=HB.out.lt;go_wp2_with fail
 go_loop [4] (fun i=>∃ k:Nat,k<=4/\i=.int .i64 k/\Hid (∀ j,j<k->ziU[j]? ≠ some l)) (fun i=>4 - (intOf i).toNat)
 case atStart=>exact ⟨0,Nat.zero_le _,rfl,fun j h=>by omega⟩
 case round =>
  obtain ⟨k,hk,rfl,HN⟩:=hrel;by_cases hlt:k<4
  ·rcases znY k hlt with rfl|rfl|rfl|rfl
   ·by_cases hx:[101,110]=l
    ·subst hx;go_wp2_with fail;go_ret;exact ⟨rfl,HK.out⟩
    ·have hx':(([101,110]:Bs) == l)=false:=(by simpa using hx);have HN2:Hid (∀ j,j<1->ziU[j]? ≠ some l):=fun j hj=>by
      rcases (show j=0\/j=0 by omega) with rfl|rfl
      ·intro q;exact hx (by injection q)
      ·intro q;exact hx (by injection q)
     go_wp2_with fail
     go_round
     case rel=>exact ⟨1,by omega,by go_num,HN2.out⟩
     case measure=>simp [intOf]
   ·have n0:=HN.out 0 (by omega);by_cases hx:[100,101]=l
    ·subst hx;go_wp2_with fail;go_ret;exact ⟨rfl,HK.out⟩
    ·have hx':(([100,101]:Bs) == l)=false:=(by simpa using hx);have HN2:Hid (∀ j,j<2->ziU[j]? ≠ some l):=fun j hj=>by
      rcases (show j=0\/j=1 by omega) with rfl|rfl
      ·exact n0
      ·intro q;exact hx (by injection q)
     clear n0;go_wp2_with fail
     go_round
     case rel=>exact ⟨2,by omega,by go_num,HN2.out⟩
     case measure=>simp [intOf]
   ·by_cases hx:[102,114]=l
    ·subst hx;go_wp2_with fail;go_ret;exact ⟨rfl,HK.out⟩
    ·have hx':(([102,114]:Bs) == l)=false:=(by simpa using hx);have HN2:Hid (∀ j,j<3->ziU[j]? ≠ some l):=fun j hj=>by
      rcases (show j<2\/j=2 by omega) with h|rfl
      ·exact HN.out j h
      ·intro q;exact hx (by injection q)
     go_wp2_with fail
     go_round
     case rel=>exact ⟨3,by omega,by go_num,HN2.out⟩
     case measure=>simp [intOf]
   ·by_cases hx:[101,115]=l
    ·subst hx;go_wp2_with fail;go_ret;exact ⟨rfl,HK.out⟩
    ·have hx':(([101,115]:Bs) == l)=false:=(by simpa using hx);have HN2:Hid (∀ j,j<4->ziU[j]? ≠ some l):=fun j hj=>by
      rcases (show j<3\/j=3 by omega) with h|rfl
      ·exact HN.out j h
      ·intro q;exact hx (by injection q)
     go_wp2_with fail
     go_round
     case rel=>exact ⟨4,by omega,by go_num,HN2.out⟩
     case measure=>simp [intOf]
  ·have HI:Hid (zDW l = -1):=by
    have h:=HN.out;have h0:=h 0 (by omega);have h1:=h 1 (by omega);have h2:=h 2 (by omega);have h3:=h 3 (by omega);show _=_;unfold zDW;rw[if_neg (fun q=>h0 (by rw[q];rfl)),if_neg (fun q=>h1 (by rw[q];rfl)),if_neg (fun q=>h2 (by rw[q];rfl)),if_neg (fun q=>h3 (by rw[q];rfl))]
   clear HN;go_wp2_with fail;go_ret;exact ⟨zaK HI.out.symm,HK.out⟩
def zuF:Array Value:=#[.string (bs [97,110,100]),.string (bs [97,110,100]),.string (bs [117,110,100]),.string (bs [117,110,100]),.string (bs [101,116]),.string (bs [101,116]),.string (bs [121]),.string (bs [121])]
def zmB:Array Value:=#[.string (bs [111,116,104,101,114,115]),.string (bs [111,116,104,101,114,115]),.string (bs [97,110,100,101,114,101]),.string (bs [97,110,100,101,114,101]),.string (bs [97,117,116,114,101,115]),.string (bs [97,117,116,114,101,115]),.string (bs [111,116,114,111,115]),.string (bs [111,116,114,111,115])]
theorem zv9 (w:World):Calls Tryz.prog 271 #[.string (bs [97,110,100])] w fun e w'=>e=.returned (.slice (some ⟨w.heap.size,0,none⟩) 4 4)/\w'=w.alloc (.cells zuF 254):=by
 go_enter Tryz.func271,Tryz.ntmps271;go_wp2_with fail;go_ret;exact ⟨rfl,rfl⟩
theorem zpG (w:World):Calls Tryz.prog 271 #[.string (bs [111,116,104,101,114,115])] w fun e w'=>e=.returned (.slice (some ⟨w.heap.size,0,none⟩) 4 4)/\w'=w.alloc (.cells zmB 254):=by
 go_enter Tryz.func271,Tryz.ntmps271;go_wp2_with fail;go_ret;exact ⟨rfl,rfl⟩
theorem zpH {w:World} {g:Nat} (h:Blk w g 254 zuF) (k:Nat) (x:Bs) (hx:[[97,110,100],[117,110,100],[101,116],[121]][k]? = some x):w.cell? ⟨g,k * 2,none⟩=some (.string (bs x))/\w.cell? ⟨g,k * 2+1,none⟩=some (.string (bs x)):=by
 match k with
 | 0=>cases hx;exact ⟨h.cell 0 _ rfl,h.cell 1 _ rfl⟩
 | 1=>cases hx;exact ⟨h.cell 2 _ rfl,h.cell 3 _ rfl⟩
 | 2=>cases hx;exact ⟨h.cell 4 _ rfl,h.cell 5 _ rfl⟩
 | 3=>cases hx;exact ⟨h.cell 6 _ rfl,h.cell 7 _ rfl⟩
 | k+4=>cases hx
theorem zg3 {w:World} {g:Nat} (h:Blk w g 254 zmB) (k:Nat) (x:Bs) (hx:[[111,116,104,101,114,115],[97,110,100,101,114,101],[97,117,116,114,101,115],[111,116,114,111,115]][k]? = some x):w.cell? ⟨g,k * 2,none⟩=some (.string (bs x))/\w.cell? ⟨g,k * 2+1,none⟩=some (.string (bs x)):=by
 match k with
 | 0=>cases hx;exact ⟨h.cell 0 _ rfl,h.cell 1 _ rfl⟩
 | 1=>cases hx;exact ⟨h.cell 2 _ rfl,h.cell 3 _ rfl⟩
 | 2=>cases hx;exact ⟨h.cell 4 _ rfl,h.cell 5 _ rfl⟩
 | 3=>cases hx;exact ⟨h.cell 6 _ rfl,h.cell 7 _ rfl⟩
 | k+4=>cases hx
theorem zc2 (key l x:Bs) (k:Nat) (hk:k<4) (cs:Array Value) (n:Int) (w:World) (hi:zDW l=k)
  (HW:Hid (∀ w,Calls Tryz.prog 271 #[.string (bs key)] w fun e w'=>e=.returned (.slice (some ⟨w.heap.size,0,none⟩) 4 4)/\w'=w.alloc (.cells cs 254)))
  (HC:Hid (∀ (w:World) (g:Nat),Blk w g 254 cs->w.cell? ⟨g,k * 2,none⟩=some (.string (bs x))/\w.cell? ⟨g,k * 2+1,none⟩=some (.string (bs x)))) :
  Calls Tryz.prog 241 #[.string (bs l),.string (bs key),.int .i64 n] w fun e w'=>e=.returned (.tuple #[.string (bs x),.bool true])/\Kept w w':=by
 have HI:=Hd (fun w=>znZ l w);rw[hi] at HI;clear hi;by_cases hn:n=1
 ·subst hn;go_enter Tryz.func241,Tryz.ntmps241;go_wp2_with fail;refine (HI.out _).mono ?_;rintro e w1 ⟨rfl,hk1⟩;have HK1:=Hd hk1;clear hk1;go_wp2_with fail;refine (HW.out _).mono ?_;rintro e w2 ⟨rfl,rfl⟩;obtain ⟨c0,c1⟩:=HC.out _ _ (Blk.new w1 254 cs);have HK2:=Hd (HK1.out.trans (zaA w1 (.cells cs 254)));have z:=(Blk.new w1 254 cs).lt;generalize w1.alloc (.cells cs 254)=w2 at *;go_wp2_with fail;go_ret2;exact ⟨rfl,HK2.out⟩
 ·have hn':(n == 1)=false:=(by simpa using hn);clear hn;go_enter Tryz.func241,Tryz.ntmps241;go_wp2_with fail;refine (HI.out _).mono ?_;rintro e w1 ⟨rfl,hk1⟩;have HK1:=Hd hk1;clear hk1;go_wp2_with fail;refine (HW.out _).mono ?_;rintro e w2 ⟨rfl,rfl⟩;obtain ⟨c0,c1⟩:=HC.out _ _ (Blk.new w1 254 cs);have HK2:=Hd (HK1.out.trans (zaA w1 (.cells cs 254)));have z:=(Blk.new w1 254 cs).lt;generalize w1.alloc (.cells cs 254)=w2 at *;go_wp2_with fail;go_ret2;exact ⟨rfl,HK2.out⟩
theorem zn0 (key l:Bs) (cs:Array Value) (n:Int) (w:World) (hi:zDW l = -1)
  (HW:Hid (∀ w,Calls Tryz.prog 271 #[.string (bs key)] w fun e w'=>e=.returned (.slice (some ⟨w.heap.size,0,none⟩) 4 4)/\w'=w.alloc (.cells cs 254))) :
  Calls Tryz.prog 241 #[.string (bs l),.string (bs key),.int .i64 n] w fun e w'=>e=.returned (.tuple #[.string (bs []),.bool false])/\Kept w w':=by
 have HI:=Hd (fun w=>znZ l w);rw[hi] at HI;clear hi;go_enter Tryz.func241,Tryz.ntmps241;go_wp2_with fail;refine (HI.out _).mono ?_;rintro e w1 ⟨rfl,hk1⟩;have HK1:=Hd hk1;clear hk1;go_wp2_with fail;refine (HW.out _).mono ?_;rintro e w2 ⟨rfl,rfl⟩;have HK2:=Hd (HK1.out.trans (zaA w1 (.cells cs 254)));generalize w1.alloc (.cells cs 254)=w2 at *;go_wp2_with fail;go_ret2;exact ⟨rfl,HK2.out⟩
theorem zmC (l:Bs) (n:Int) (w:World):Calls Tryz.prog 241 #[.string (bs l),.string (bs [97,110,100]),.int .i64 n] w fun e w'=>e=.returned (.tuple #[.string (bs ((zb0 l).getD [])),.bool (zb0 l).isSome])/\Kept w w':=by
 have HW:=Hd zv9;by_cases h1:l=lEn
 ·subst h1;exact zc2 _ lEn _ 0 (by omega) _ n w rfl HW (fun w g h=>zpH h 0 _ rfl)
 by_cases h2:l=lDe
 ·subst h2;exact zc2 _ lDe _ 1 (by omega) _ n w rfl HW (fun w g h=>zpH h 1 _ rfl)
 by_cases h3:l=lFr
 ·subst h3;exact zc2 _ lFr _ 2 (by omega) _ n w rfl HW (fun w g h=>zpH h 2 _ rfl)
 by_cases h4:l=lEs
 ·subst h4;exact zc2 _ lEs _ 3 (by omega) _ n w rfl HW (fun w g h=>zpH h 3 _ rfl)
 unfold zb0;rw[if_neg h1,if_neg h2,if_neg h3,if_neg h4];exact zn0 _ l _ n w (by unfold zDW;rw[if_neg h1,if_neg h2,if_neg h3,if_neg h4]) HW
theorem zj8 (l:Bs) (n:Int) (w:World):Calls Tryz.prog 241 #[.string (bs l),.string (bs [111,116,104,101,114,115]),.int .i64 n] w fun e w'=>e=.returned (.tuple #[.string (bs ((zbV l).getD [])),.bool (zbV l).isSome])/\Kept w w':=by
 have HW:=Hd zpG;by_cases h1:l=lEn
 ·subst h1;exact zc2 _ lEn _ 0 (by omega) _ n w rfl HW (fun w g h=>zg3 h 0 _ rfl)
 by_cases h2:l=lDe
 ·subst h2;exact zc2 _ lDe _ 1 (by omega) _ n w rfl HW (fun w g h=>zg3 h 1 _ rfl)
 by_cases h3:l=lFr
 ·subst h3;exact zc2 _ lFr _ 2 (by omega) _ n w rfl HW (fun w g h=>zg3 h 2 _ rfl)
 by_cases h4:l=lEs
 ·subst h4;exact zc2 _ lEs _ 3 (by omega) _ n w rfl HW (fun w g h=>zg3 h 3 _ rfl)
 unfold zbV;rw[if_neg h1,if_neg h2,if_neg h3,if_neg h4];exact zn0 _ l _ n w (by unfold zDW;rw[if_neg h1,if_neg h2,if_neg h3,if_neg h4]) HW
theorem zn1 (sep:Bs) (xs:List Bs) (x:Bs):Lib.join (xs ++ [x]) sep=(if xs=[] then [] else Lib.join xs sep ++ sep) ++ x:=by
 cases xs with
 | nil=>simp [Lib.join_one]
 | cons a r =>
  rw[List.cons_append,Lib.join_cons,Lib.join_cons];simp [Lib.joinTail]
theorem zpI (sep:Bs) (m:Nat) (xs:List Bs) (h:∀ x∈xs,x.length<=m):(Lib.join xs sep).length<=xs.length * (m+sep.length):=by
 refine zn7 (P:=fun xs=>(∀ x∈xs,x.length<=m)->(Lib.join xs sep).length<=xs.length * (m+sep.length)) ?_ ?_ xs h
 ·intro _;rw[Lib.join_nil];simp
 ·intro xs x ih hx;have h1:=ih (fun y hy=>hx y (by simp [hy]));have h2:=hx x (by simp);rw[zn1,List.length_append,List.length_append,Nat.add_mul];simp only[List.length_cons,List.length_nil,Nat.zero_add,Nat.one_mul]
  split
  ·simp;omega
  ·rw[List.length_append];omega
def zn2 (l:Bs) (xs:List Bs) (k:Nat):Bs:=if k=xs.length then zd4 l xs else Lib.join (xs.take k) zdO
theorem zz9 (l:Bs) (xs:List Bs):zn2 l xs 0=[]:=by
 unfold zn2;by_cases h:0=xs.length
 ·rw[if_pos h];obtain rfl:xs=[]:=List.length_eq_zero_iff.1 h.symm;unfold zd4;rw[if_pos (.inr (by simp)),Lib.join_nil]
 ·rw[if_neg h];simp [Lib.join_nil]
theorem zmD (xs:List Bs) (k:Nat) (x:Bs) (h:xs[k]? = some x):Lib.join (xs.take (k+1)) zdO=(if k=0 then [] else Lib.join (xs.take k) zdO ++ zdO) ++ x:=by
 obtain ⟨hk,rfl⟩:=List.getElem?_eq_some_iff.1 h;rw[List.take_succ_eq_append_getElem hk,zn1];by_cases q:k=0
 ·subst q;simp
 ·rw[if_neg q,if_neg];intro e;have:=congrArg List.length e;rw[List.length_take,List.length_nil] at this;omega
theorem zhQ (l:Bs) (xs:List Bs) (k:Nat) (h:k<xs.length):zn2 l xs k=Lib.join (xs.take k) zdO:=by unfold zn2;rw[if_neg (by omega)]
theorem zwA (l:Bs) (xs:List Bs) (k:Nat) (x:Bs) (h:xs[k]? = some x) (hp:¬ (0<k/\k=xs.length - 1/\(zb0 l).isSome=true)):zn2 l xs (k+1)=(if k=0 then [] else zn2 l xs k ++ zdO) ++ x:=by
 have hk:=(List.getElem?_eq_some_iff.1 h).1;rw[zhQ l xs k hk,<- zmD xs k x h];by_cases q:k+1=xs.length
 ·have e:zn2 l xs (k+1)=zd4 l xs:=(by unfold zn2;rw[if_pos q]);rw[e,List.take_of_length_le (by omega)];unfold zd4;rw[if_pos];by_cases q0:0<k
  ·left;cases hs:(zb0 l).isSome
   ·rfl
   ·exact absurd ⟨q0,by omega,hs⟩ hp
  ·right;omega
 ·unfold zn2;rw[if_neg q]
theorem zAa (l:Bs) (xs:List Bs) (k:Nat) (x:Bs) (h:xs[k]? = some x) (h0:0<k) (h1:k=xs.length - 1) (hs:(zb0 l).isSome=true):zn2 l xs (k+1)=zn2 l xs k ++ [32] ++ (zb0 l).getD [] ++ [32] ++ x:=by
 have hk:=(List.getElem?_eq_some_iff.1 h).1;rw[zhQ l xs k hk];have e:zn2 l xs (k+1)=zd4 l xs:=(by unfold zn2;rw[if_pos (by omega)]);rw[e];unfold zd4;rw[if_neg (by rw[hs];simp;omega)];have e1:xs.dropLast=xs.take k:=(by rw[List.dropLast_eq_take,h1]);have e2:xs.getLastD []=x:=by
  rw[List.getLastD_eq_getLast?,List.getLast?_eq_getElem?,<- h1,h];rfl
 rw[e1,e2]
theorem zCh (l:Bs) (xs:List Bs) (m:Nat) (h:∀ x∈xs,x.length<=m) (k:Nat) (hk:k<xs.length):(zn2 l xs k).length<=xs.length * (m+2):=by
 rw[zhQ l xs k hk];have h1:=zpI zdO m (xs.take k) (fun x hx=>h x (List.mem_of_mem_take hx));have h2:(xs.take k).length<=xs.length:=(by simp;omega);have:=Nat.mul_le_mul_right (m+2) h2;have e:zdO.length=2:=rfl;rw[e] at h1;omega
theorem zg4 (l:Bs) (v:Value) (xs:List Bs) (w:World) (hv:Strs w v xs) (hN:xs.length<=900) (hm:∀ x∈xs,x.length<=10004) :
  Calls Tryz.prog 240 #[.string (bs l),v] w fun e w'=>e=.returned (.string (bs (zd4 l xs)))/\Kept w w':=by
 have HT:=Hd (fun w=>zmC l 1 w);have hal:=zeY l;have HM:=Hd hm;have HV:=Hd hv;have HZ:=Hd (zz9 l xs);have HP:=Hd (zwA l xs);have HL:=Hd (zAa l xs);have HLEN:=Hd (fun k hk=>zCh l xs 10004 hm k hk);have HEND:Hid (zn2 l xs xs.length=zd4 l xs):=(by show _=_;unfold zn2;rw[if_pos rfl]);have HSP:Hid (zdO=[44,32]):=rfl;clear hm;generalize (zb0 l).getD []=an at *;generalize (zb0 l).isSome=ok at *;obtain ⟨a,c,rfl,hc,h3⟩:=hv;clear h3;go_enter Tryz.func240,Tryz.ntmps240;go_wp2_with fail;refine (HT.out _).mono ?_;rintro e w1 ⟨rfl,hk1⟩;have HK1:=Hd hk1;clear hk1;go_wp2_with fail;simp only[zcO]
 go_loop [7,8] (fun s i=>∃ k:Nat,k<=xs.length/\i=.int .i64 k/\s=.string (bs (zn2 l xs k))) (fun _ i=>xs.length - (intOf i).toNat)
 case atStart=>exact ⟨0,Nat.zero_le _,rfl,by rw[HZ.out]⟩
 case round =>
  obtain ⟨k,hk,rfl,rfl⟩:=hrel;by_cases hlt:k<xs.length
  ·obtain ⟨x,hx⟩:∃ x,xs[k]? = some x:=⟨_,List.getElem?_eq_getElem hlt⟩;obtain ⟨a',c',hv',hc',h3⟩:=HV.out.kept HK1.out;obtain ⟨rfl,hdead,rfl⟩:=Value.slice.inj hv';clear hdead hc';obtain ⟨g,o,rfl,hg,hcc⟩:=h3 (by omega);have c0:=hcc k x hx;have hxm:=HM.out x (List.mem_of_getElem? hx);have hjl:=HLEN.out k hlt;have hjl:(zn2 l xs k).length<=10000000:=by
    have:=Nat.mul_le_mul_right (10004+2) hN;omega
   have HPX:=Hd (HP.out k x hx);have HLX:=Hd (HL.out k x hx);clear hcc h3 hv' hx;obtain ⟨nx,HNX⟩:∃ nx,Hid (zn2 l xs (k+1)=nx):=⟨_,rfl⟩;rw[HNX.out] at HPX HLX;generalize hak:zn2 l xs k=ak at *;have HAK:=Hd hak;clear hak;by_cases h0:k=0
   ·subst h0;obtain rfl:ak=[]:=HAK.out.symm.trans HZ.out;have HX:Hid (nx=x):=(by show _=_;rw[HPX.out (by omega)];simp);clear HPX HLX;rw[Nat.add_zero] at c0;go_wp2_with fail
    go_round
    case rel=>exact ⟨1,by omega,by go_num,by rw[HNX.out,HX.out]⟩
    case measure=>simp [intOf];omega
   ·have hpos:0<k:=(by omega);by_cases hl:k=xs.length - 1
    ·have hb:((k:Int) == (xs.length:Int) - 1)=true:=(by rw[beq_iff_eq];omega);cases ok
     ·have HX:Hid (nx=ak ++ [44,32] ++ x):=(by show _=_;rw[HPX.out (by simp),if_neg h0];rfl);clear HPX HLX hl h0;go_wp2_with fail
      go_round
      case rel=>exact ⟨k+1,by omega,by go_num,by rw[HNX.out,HX.out];simp⟩
      case measure=>simp [intOf];omega
     ·have HX:Hid (nx=ak ++ [32] ++ an ++ [32] ++ x):=HLX.out hpos hl rfl;clear HPX HLX hl h0;go_wp2_with fail
      go_round
      case rel=>exact ⟨k+1,by omega,by go_num,by rw[HNX.out,HX.out];simp⟩
      case measure=>simp [intOf];omega
    ·have hb:((k:Int) == (xs.length:Int) - 1)=false:=(by rw[beq_eq_false_iff_ne];omega);have HX:Hid (nx=ak ++ [44,32] ++ x):=(by show _=_;rw[HPX.out (fun q=>hl q.2.1),if_neg h0];rfl);clear HPX HLX hl h0;go_wp2_with fail
     go_round
     case rel=>exact ⟨k+1,by omega,by go_num,by rw[HNX.out,HX.out];simp⟩
     case measure=>simp [intOf];omega
  ·obtain rfl:k=xs.length:=(by omega);rw[HEND.out];go_wp2_with fail;go_ret;exact ⟨rfl,HK1.out⟩
def zdT (l:Bs) (k:Nat):Bool:=(ziU.take k).any fun x=>x == l
theorem zg5 (l:Bs):zdT l 4=(zb0 l).isSome:=by
 unfold zdT ziU zb0;by_cases h1:l=lEn
 ·subst h1;rfl
 by_cases h2:l=lDe
 ·subst h2;rfl
 by_cases h3:l=lFr
 ·subst h3;rfl
 by_cases h4:l=lEs
 ·subst h4;rfl
 rw[if_neg h1,if_neg h2,if_neg h3,if_neg h4];have e:∀ x:Bs,¬ l=x->(x == l)=false:=fun x h=>(by simpa using fun q=>h q.symm);simp [e _ h1,e _ h2,e _ h3,e _ h4]
theorem zfW (l:Bs) (k:Nat) (x:Bs) (h:ziU[k]? = some x):zdT l (k+1)=(zdT l k || x == l):=by
 unfold zdT;obtain ⟨hk,rfl⟩:=List.getElem?_eq_some_iff.1 h;rw[List.take_succ_eq_append_getElem hk,List.any_append];simp only[List.any_cons,List.any_nil,Bool.or_false]
theorem zeD (w:World) (q:P4) (h:zcQ q<=10000):Calls Tryz.prog 239 #[p4V q] w fun e w'=>e=.returned (.string (bs (zaE true q)))/\Kept w w' :=
 zxF q.1 q.2.1 q.2.2.1 q.2.2.2 w (by unfold zcQ at h;simp [zmS];omega)
theorem zdK (w:World) (q:P4) (h:zcQ q<=10000):Calls Tryz.prog 199 #[p4V q] w fun e w'=>e=.returned (.string (bs (zaE false q)))/\Kept w w' :=
 zuU q.1 q.2.1 q.2.2.1 q.2.2.2 w (by unfold zcQ at h;simp [zmS];omega)
theorem ziV {w:World} {g:Nat} (h:Blk w g 9 zbL) (k:Nat) (hk:k<4):∃ x,ziU[k]? = some x/\w.cell? ⟨g,k,none⟩=some (.string (bs x)):=by
 rcases znY k hk with rfl|rfl|rfl|rfl
 ·exact ⟨_,rfl,h.cell 0 _ rfl⟩
 ·exact ⟨_,rfl,h.cell 1 _ rfl⟩
 ·exact ⟨_,rfl,h.cell 2 _ rfl⟩
 ·exact ⟨_,rfl,h.cell 3 _ rfl⟩
theorem zAb (v:Value) (ps:List P4) (l:Bs) (m:Nat) (full:Bool) (w:World) (hv:Perss w v ps) (hN:ps.length<=900) (hq:∀ q∈ps,zcQ q<=10000) (hk:(zb0 l).isSome=true) (hm1:1<=m) (hm2:m<ps.length) :
  Calls Tryz.prog 201 #[v,.string (bs l),.int .i64 m,.bool full] w fun e w'=>e=.returned (.string (bs (Lib.join ((ps.map (zaE full)).take m) zdO ++ [32] ++ (zb0 l).getD [] ++ [32] ++ (zbV l).getD [])))/\Kept w w':=by
 obtain ⟨i0,hi,hz0,hz1,hz2⟩:=info_parts Tryz.infoStr;have HV:=Hd hv;have HQ:=Hd hq;clear hq;obtain ⟨a,c,rfl,hc,h3⟩:=hv;clear h3;have HKN:Hid (zdT l 4=true):=(by show _=_;rw[zg5,hk]);clear hk;have hm1':decide ((m:Int)<1)=false:=(by simp;omega);have hm2':decide (ps.length<=m)=false:=(by simp;omega);go_enter Tryz.func201,Tryz.ntmps201;go_wp2_with fail;refine (zfG _).mono ?_;rintro e w1 ⟨rfl,rfl⟩;have HB:=Hd (Blk.new w 9 zbL);have HK:=Hd (zaA w (.cells zbL 9));generalize w.alloc (.cells zbL 9)=w1 at *;have z:=HB.out.lt;go_wp2_with fail
 go_loop [9,11] (fun v i=>∃ (k:Nat),k<=4/\i=.int .i64 k/\v=.bool (zdT l k)) (fun _ i=>4 - (intOf i).toNat)
 case atStart=>exact ⟨0,Nat.zero_le _,rfl,rfl⟩
 case round =>
  obtain ⟨k,hk4,rfl,rfl⟩:=hrel;by_cases hlt4:k<4
  ·obtain ⟨x,hx,hcx⟩:=ziV HB.out k hlt4;have HS:=Hd (zfW l k x hx);clear hx;generalize zdT l k=kb at *;cases kb
   ·cases hxl:(x == l)
    ·rw[hxl] at HS;go_wp2_with fail
     go_round
     case rel=>exact ⟨k+1,by omega,by go_num,by rw[HS.out];simp⟩
     case measure=>simp [intOf];omega
    ·rw[hxl] at HS;go_wp2_with fail
     go_round
     case rel=>exact ⟨k+1,by omega,by go_num,by rw[HS.out];simp⟩
     case measure=>simp [intOf];omega
   ·go_wp2_with fail
    go_round
    case rel=>exact ⟨k+1,by omega,by go_num,by rw[HS.out];simp⟩
    case measure=>simp [intOf];omega
  ·obtain rfl:k=4:=(by omega);rw[HKN.out];go_wp2_with fail;go_loopw [12,13] (fun v i wr=>∃ (k:Nat),k<=ps.length/\i=.int .i64 k/\wr.ownsRow w1.heap.size 9 1 v ((ps.take k).map (zaE full)).length (zaH ((ps.take k).map (zaE full)))/\Kept w1 wr) (fun _ i _=>ps.length - (intOf i).toNat)
   case atStart=>exact ⟨0,Nat.zero_le _,rfl,World.ownsRow_nil _ _ _ _,Kept.refl _⟩
   case round =>
    obtain ⟨k,hkl,rfl,hown,hkr⟩:=hrel;by_cases hlt:k<ps.length
    ·obtain ⟨q,hx⟩:∃ x,ps[k]? = some x:=⟨_,List.getElem?_eq_getElem hlt⟩;obtain ⟨a',c',hv',hc',h3⟩:=(HV.out.kept HK.out).kept hkr;obtain ⟨rfl,hdead,rfl⟩:=Value.slice.inj hv';clear hdead;obtain ⟨g,o,rfl,hg,hcc⟩:=h3 (by omega);obtain ⟨c0,c1,c2,c3⟩:=hcc k q hx;have hqs:=HQ.out q (List.mem_of_getElem? hx);have HF:=Hd (map_take (zaE full) ps k q hx);have hfl:((ps.take k).map (zaE full)).length<=k:=(by simp;omega);generalize (ps.take k).map (zaE full)=ws at *;have hsz:w1.heap.size<=wr.heap.size:=hkr.size;have HR:=Hd hkr;have HW:=Hd hown;have HNF:=Hd (fun w=>zeD w q hqs);have HNS:=Hd (fun w=>zdK w q hqs);clear hkr hx hown hcc h3 hv' hc';obtain ⟨qf,qg,qp,qs⟩:=q;simp only at c0 c1 c2 c3;cases full
     ·go_wp2_with fail;refine (HNS.out _).mono ?_;rintro e w2 ⟨rfl,hk2⟩;generalize zaE false (qf,qg,qp,qs)=nm at *;have hown:=zaU HW.out hk2;have HR2:=Hd (HR.out.trans hk2);have hsz2:w1.heap.size<=w2.heap.size:=HR2.out.size;clear hk2 HNF HNS;go_wp2_with (at_builtin;refine wpList_append_own _ rfl _ _ 29 rfl w1.heap.size 9 i0 (.string ⟨#[]⟩) 1 16 Tryz.underlying29 hi hz0 hz1 hz2 rfl (by decide) _ _ _ rfl (hown.alloc _) ⟨w2.heap.size,0,none⟩ 1 1 [.string (bs nm)] rfl rfl ?_ ?_ ?_ ?_ ?_ ?_)
      ·exact zaV _ #[.string (bs nm)] _ _ (by simp)
      ·intro u hu;simp at hu;subst hu;rfl
      ·unfold maxLen;omega
      ·omega
      ·simp;omega
      intro v' w3 hown2 hgrow _;have HB2:=Hd ((HR2.out.trans (zaA w2 _)).trans' (zaG (hown.alloc _) hgrow (by simp;omega)));rw[<- zaT] at hown2;have HO:=Hd hown2;clear hown2 hgrow hown;go_wp2_with fail;go_roundw
      case rel=>exact ⟨k+1,by omega,by go_num,by rw[HF.out];simpa using HO.out,HB2.out⟩
      case measure=>simp [intOf];omega
     ·go_wp2_with fail;refine (HNF.out _).mono ?_;rintro e w2 ⟨rfl,hk2⟩;generalize zaE true (qf,qg,qp,qs)=nm at *;have hown:=zaU HW.out hk2;have HR2:=Hd (HR.out.trans hk2);have hsz2:w1.heap.size<=w2.heap.size:=HR2.out.size;clear hk2 HNF HNS;go_wp2_with (at_builtin;refine wpList_append_own _ rfl _ _ 29 rfl w1.heap.size 9 i0 (.string ⟨#[]⟩) 1 16 Tryz.underlying29 hi hz0 hz1 hz2 rfl (by decide) _ _ _ rfl (hown.alloc _) ⟨w2.heap.size,0,none⟩ 1 1 [.string (bs nm)] rfl rfl ?_ ?_ ?_ ?_ ?_ ?_)
      ·exact zaV _ #[.string (bs nm)] _ _ (by simp)
      ·intro u hu;simp at hu;subst hu;rfl
      ·unfold maxLen;omega
      ·omega
      ·simp;omega
      intro v' w3 hown2 hgrow _;have HB2:=Hd ((HR2.out.trans (zaA w2 _)).trans' (zaG (hown.alloc _) hgrow (by simp;omega)));rw[<- zaT] at hown2;have HO:=Hd hown2;clear hown2 hgrow hown;go_wp2_with fail;go_roundw
      case rel=>exact ⟨k+1,by omega,by go_num,by rw[HF.out];simpa using HO.out,HB2.out⟩
      case measure=>simp [intOf];omega
    ·have HW:=Hd (Strs.own hown);have HR:=Hd (HK.out.trans hkr);rw[List.take_of_length_le (by omega)] at HW;have hnl:(ps.map (zaE full)).length<=900:=(by rw[List.length_map];exact hN);have HNM:=Hd (zb4 full ps HQ.out);clear hown hkr;have HA:=Hd (fun w=>zmC l 1 w);have HO:=Hd (fun w=>zj8 l 2 w);go_wp2_with fail;simp only[zcO]
     go_loop [14,15] (fun s i=>∃ j:Nat,j<=m/\i=.int .i64 j/\s=.string (bs (Lib.join ((ps.map (zaE full)).take j) zdO))) (fun _ i=>m - (intOf i).toNat)
     case atStart=>exact ⟨0,Nat.zero_le _,rfl,by simp [Lib.join_nil]⟩
     case round =>
      obtain ⟨j,hj,rfl,rfl⟩:=hrel;have hjm:=zpI zdO 10004 ((ps.map (zaE full)).take j) (fun x hx=>HNM.out x (List.mem_of_mem_take hx));have hjl:(Lib.join ((ps.map (zaE full)).take j) zdO).length<=10000000:=by
       have e:zdO.length=2:=rfl;rw[e] at hjm;have h2:((ps.map (zaE full)).take j).length<=900:=(by rw[List.length_take];omega);have:=Nat.mul_le_mul_right (10004+2) h2;omega
      clear hjm;by_cases hjlt:j<m
      ·obtain ⟨x,hx⟩:∃ x,(ps.map (zaE full))[j]? = some x:=⟨_,List.getElem?_eq_getElem (by rw[List.length_map];omega)⟩;obtain ⟨a',c',hv',hc',h3⟩:=HW.out;subst hv';clear hc';obtain ⟨g2,o2,rfl,hg2,hcc⟩:=h3 (by rw[List.length_map];omega);have c0:=hcc j x hx;have hxm:=HNM.out x (List.mem_of_getElem? hx);have HJ:=Hd (zmD (ps.map (zaE full)) j x hx);have hml:(ps.map (zaE full)).length=ps.length:=List.length_map _;have hj9:j<(ps.map (zaE full)).length:=(by omega);clear hcc h3 hx hml;generalize ps.map (zaE full)=ns at *;generalize hjj:Lib.join (ns.take j) zdO=jj at *;have HJJ:=Hd hjj;clear hjj;by_cases h0:j=0
       ·subst h0;obtain rfl:jj=[]:=(by rw[<- HJJ.out];simp [Lib.join_nil]);rw[Nat.add_zero] at c0;go_wp2_with fail
        go_round
        case rel=>exact ⟨1,by omega,by go_num,by rw[HJ.out];simp⟩
        case measure=>simp [intOf];omega
       ·have hpos:0<j:=(by omega);rw[if_neg h0] at HJ;clear h0;go_wp2_with fail
        go_round
        case rel=>exact ⟨j+1,by omega,by go_num,by rw[HJ.out];simp [zdO]⟩
        case measure=>simp [intOf];omega
      ·obtain rfl:j=m:=(by omega);have hal:=zeY l;have hol:=zeN l;obtain ⟨an,HAN⟩:∃ an,Hid ((zb0 l).getD []=an):=⟨_,rfl⟩;rw[HAN.out] at HA hal;obtain ⟨an1,HAN1⟩:∃ an,Hid ((zb0 l).isSome=an):=⟨_,rfl⟩;rw[HAN1.out] at HA;obtain ⟨ot,HOT⟩:∃ an,Hid ((zbV l).getD []=an):=⟨_,rfl⟩;rw[HOT.out] at HO hol;obtain ⟨ot1,HOT1⟩:∃ an,Hid ((zbV l).isSome=an):=⟨_,rfl⟩;rw[HOT1.out] at HO;obtain ⟨jj,HJJ⟩:∃ an,Hid (Lib.join ((ps.map (zaE full)).take j) zdO=an):=⟨_,rfl⟩;rw[HJJ.out] at hjl ⊢;go_wp2_with fail;refine (HA.out _).mono ?_;rintro e w2 ⟨rfl,hk2⟩;have HR2:=Hd (HR.out.trans hk2);clear hk2;go_wp2_with fail;refine (HO.out _).mono ?_;rintro e w3 ⟨rfl,hk3⟩;have HR3:=Hd (HR2.out.trans hk3);clear hk3;go_wp2_with fail;go_ret;exact ⟨zb1 (by rw[HAN.out,HOT.out,HJJ.out];simp),HR3.out⟩
theorem zAc (v:Value) (ps:List P4) (l:Bs) (most:Int) (full:Bool) (w:World) (hv:Perss w v ps) (hN:ps.length<=900) (hq:∀ q∈ps,zcQ q<=10000) (hk:(zb0 l).isSome=true) (hm:¬ (1<=most/\most<ps.length)) (hmr : -9223372036854775808<=most/\most<=9223372036854775807) :
  Calls Tryz.prog 201 #[v,.string (bs l),.int .i64 most,.bool full] w fun e w'=>e=.returned (.string (bs (zd4 l (ps.map (zaE full)))))/\Kept w w':=by
 obtain ⟨i0,hi,hz0,hz1,hz2⟩:=info_parts Tryz.infoStr;have HV:=Hd hv;have HQ:=Hd hq;clear hq;obtain ⟨a,c,rfl,hc,h3⟩:=hv;clear h3;have HKN:Hid (zdT l 4=true):=(by show _=_;rw[zg5,hk]);clear hk;have hmc:(decide (most<1)=true)\/(decide (most<1)=false/\decide ((ps.length:Int)<=most)=true/\(ps.length:Int)<=most/\1<=most):=by
  by_cases h:most<1
  ·left;simpa using h
  ·right;simp;omega
 clear hm;go_enter Tryz.func201,Tryz.ntmps201;go_wp2_with fail;refine (zfG _).mono ?_;rintro e w1 ⟨rfl,rfl⟩;have HB:=Hd (Blk.new w 9 zbL);have HK:=Hd (zaA w (.cells zbL 9));generalize w.alloc (.cells zbL 9)=w1 at *;have z:=HB.out.lt;go_wp2_with fail
 go_loop [9,11] (fun v i=>∃ (k:Nat),k<=4/\i=.int .i64 k/\v=.bool (zdT l k)) (fun _ i=>4 - (intOf i).toNat)
 case atStart=>exact ⟨0,Nat.zero_le _,rfl,rfl⟩
 case round =>
  obtain ⟨k,hk4,rfl,rfl⟩:=hrel;by_cases hlt4:k<4
  ·obtain ⟨x,hx,hcx⟩:=ziV HB.out k hlt4;have HS:=Hd (zfW l k x hx);clear hx;generalize zdT l k=kb at *;cases kb
   ·cases hxl:(x == l)
    ·rw[hxl] at HS;go_wp2_with fail
     go_round
     case rel=>exact ⟨k+1,by omega,by go_num,by rw[HS.out];simp⟩
     case measure=>simp [intOf];omega
    ·rw[hxl] at HS;go_wp2_with fail
     go_round
     case rel=>exact ⟨k+1,by omega,by go_num,by rw[HS.out];simp⟩
     case measure=>simp [intOf];omega
   ·go_wp2_with fail
    go_round
    case rel=>exact ⟨k+1,by omega,by go_num,by rw[HS.out];simp⟩
    case measure=>simp [intOf];omega
  ·obtain rfl:k=4:=(by omega);rw[HKN.out];rcases hmc with hm1|⟨hm1,hm2,hm3,hm4⟩
   ·go_wp2_with fail;go_loopw [12,13] (fun v i wr=>∃ (k:Nat),k<=ps.length/\i=.int .i64 k/\wr.ownsRow w1.heap.size 9 1 v ((ps.take k).map (zaE full)).length (zaH ((ps.take k).map (zaE full)))/\Kept w1 wr) (fun _ i _=>ps.length - (intOf i).toNat)
    case atStart=>exact ⟨0,Nat.zero_le _,rfl,World.ownsRow_nil _ _ _ _,Kept.refl _⟩
    case round =>
     obtain ⟨k,hkl,rfl,hown,hkr⟩:=hrel;by_cases hlt:k<ps.length
     ·obtain ⟨q,hx⟩:∃ x,ps[k]? = some x:=⟨_,List.getElem?_eq_getElem hlt⟩;obtain ⟨a',c',hv',hc',h3⟩:=(HV.out.kept HK.out).kept hkr;obtain ⟨rfl,hdead,rfl⟩:=Value.slice.inj hv';clear hdead;obtain ⟨g,o,rfl,hg,hcc⟩:=h3 (by omega);obtain ⟨c0,c1,c2,c3⟩:=hcc k q hx;have hqs:=HQ.out q (List.mem_of_getElem? hx);have HF:=Hd (map_take (zaE full) ps k q hx);have hfl:((ps.take k).map (zaE full)).length<=k:=(by simp;omega);generalize (ps.take k).map (zaE full)=ws at *;have hsz:w1.heap.size<=wr.heap.size:=hkr.size;have HR:=Hd hkr;have HW:=Hd hown;have HNF:=Hd (fun w=>zeD w q hqs);have HNS:=Hd (fun w=>zdK w q hqs);clear hkr hx hown hcc h3 hv' hc';obtain ⟨qf,qg,qp,qs⟩:=q;simp only at c0 c1 c2 c3;cases full
      ·go_wp2_with fail;refine (HNS.out _).mono ?_;rintro e w2 ⟨rfl,hk2⟩;generalize zaE false (qf,qg,qp,qs)=nm at *;have hown:=zaU HW.out hk2;have HR2:=Hd (HR.out.trans hk2);have hsz2:w1.heap.size<=w2.heap.size:=HR2.out.size;clear hk2 HNF HNS;go_wp2_with (at_builtin;refine wpList_append_own _ rfl _ _ 29 rfl w1.heap.size 9 i0 (.string ⟨#[]⟩) 1 16 Tryz.underlying29 hi hz0 hz1 hz2 rfl (by decide) _ _ _ rfl (hown.alloc _) ⟨w2.heap.size,0,none⟩ 1 1 [.string (bs nm)] rfl rfl ?_ ?_ ?_ ?_ ?_ ?_)
       ·exact zaV _ #[.string (bs nm)] _ _ (by simp)
       ·intro u hu;simp at hu;subst hu;rfl
       ·unfold maxLen;omega
       ·omega
       ·simp;omega
       intro v' w3 hown2 hgrow _;have HB2:=Hd ((HR2.out.trans (zaA w2 _)).trans' (zaG (hown.alloc _) hgrow (by simp;omega)));rw[<- zaT] at hown2;have HO:=Hd hown2;clear hown2 hgrow hown;go_wp2_with fail;go_roundw
       case rel=>exact ⟨k+1,by omega,by go_num,by rw[HF.out];simpa using HO.out,HB2.out⟩
       case measure=>simp [intOf];omega
      ·go_wp2_with fail;refine (HNF.out _).mono ?_;rintro e w2 ⟨rfl,hk2⟩;generalize zaE true (qf,qg,qp,qs)=nm at *;have hown:=zaU HW.out hk2;have HR2:=Hd (HR.out.trans hk2);have hsz2:w1.heap.size<=w2.heap.size:=HR2.out.size;clear hk2 HNF HNS;go_wp2_with (at_builtin;refine wpList_append_own _ rfl _ _ 29 rfl w1.heap.size 9 i0 (.string ⟨#[]⟩) 1 16 Tryz.underlying29 hi hz0 hz1 hz2 rfl (by decide) _ _ _ rfl (hown.alloc _) ⟨w2.heap.size,0,none⟩ 1 1 [.string (bs nm)] rfl rfl ?_ ?_ ?_ ?_ ?_ ?_)
       ·exact zaV _ #[.string (bs nm)] _ _ (by simp)
       ·intro u hu;simp at hu;subst hu;rfl
       ·unfold maxLen;omega
       ·omega
       ·simp;omega
       intro v' w3 hown2 hgrow _;have HB2:=Hd ((HR2.out.trans (zaA w2 _)).trans' (zaG (hown.alloc _) hgrow (by simp;omega)));rw[<- zaT] at hown2;have HO:=Hd hown2;clear hown2 hgrow hown;go_wp2_with fail;go_roundw
       case rel=>exact ⟨k+1,by omega,by go_num,by rw[HF.out];simpa using HO.out,HB2.out⟩
       case measure=>simp [intOf];omega
     ·have HW:=Hd (Strs.own hown);have HR:=Hd (HK.out.trans hkr);rw[List.take_of_length_le (by omega)] at HW;have hnl:(ps.map (zaE full)).length<=900:=(by rw[List.length_map];exact hN);have HNM:=Hd (zb4 full ps HQ.out);clear hown hkr;go_wp2_with fail;refine (zg4 l _ _ _ HW.out hnl HNM.out).mono ?_;rintro e w2 ⟨rfl,hk2⟩;have HR2:=Hd (HR.out.trans hk2);clear hk2;go_wp2_with fail;go_ret;exact ⟨rfl,HR2.out⟩
   ·go_wp2_with fail;go_loopw [12,13] (fun v i wr=>∃ (k:Nat),k<=ps.length/\i=.int .i64 k/\wr.ownsRow w1.heap.size 9 1 v ((ps.take k).map (zaE full)).length (zaH ((ps.take k).map (zaE full)))/\Kept w1 wr) (fun _ i _=>ps.length - (intOf i).toNat)
    case atStart=>exact ⟨0,Nat.zero_le _,rfl,World.ownsRow_nil _ _ _ _,Kept.refl _⟩
    case round =>
     obtain ⟨k,hkl,rfl,hown,hkr⟩:=hrel;by_cases hlt:k<ps.length
     ·obtain ⟨q,hx⟩:∃ x,ps[k]? = some x:=⟨_,List.getElem?_eq_getElem hlt⟩;obtain ⟨a',c',hv',hc',h3⟩:=(HV.out.kept HK.out).kept hkr;obtain ⟨rfl,hdead,rfl⟩:=Value.slice.inj hv';clear hdead;obtain ⟨g,o,rfl,hg,hcc⟩:=h3 (by omega);obtain ⟨c0,c1,c2,c3⟩:=hcc k q hx;have hqs:=HQ.out q (List.mem_of_getElem? hx);have HF:=Hd (map_take (zaE full) ps k q hx);have hfl:((ps.take k).map (zaE full)).length<=k:=(by simp;omega);generalize (ps.take k).map (zaE full)=ws at *;have hsz:w1.heap.size<=wr.heap.size:=hkr.size;have HR:=Hd hkr;have HW:=Hd hown;have HNF:=Hd (fun w=>zeD w q hqs);have HNS:=Hd (fun w=>zdK w q hqs);clear hkr hx hown hcc h3 hv' hc';obtain ⟨qf,qg,qp,qs⟩:=q;simp only at c0 c1 c2 c3;cases full
      ·go_wp2_with fail;refine (HNS.out _).mono ?_;rintro e w2 ⟨rfl,hk2⟩;generalize zaE false (qf,qg,qp,qs)=nm at *;have hown:=zaU HW.out hk2;have HR2:=Hd (HR.out.trans hk2);have hsz2:w1.heap.size<=w2.heap.size:=HR2.out.size;clear hk2 HNF HNS;go_wp2_with (at_builtin;refine wpList_append_own _ rfl _ _ 29 rfl w1.heap.size 9 i0 (.string ⟨#[]⟩) 1 16 Tryz.underlying29 hi hz0 hz1 hz2 rfl (by decide) _ _ _ rfl (hown.alloc _) ⟨w2.heap.size,0,none⟩ 1 1 [.string (bs nm)] rfl rfl ?_ ?_ ?_ ?_ ?_ ?_)
       ·exact zaV _ #[.string (bs nm)] _ _ (by simp)
       ·intro u hu;simp at hu;subst hu;rfl
       ·unfold maxLen;omega
       ·omega
       ·simp;omega
       intro v' w3 hown2 hgrow _;have HB2:=Hd ((HR2.out.trans (zaA w2 _)).trans' (zaG (hown.alloc _) hgrow (by simp;omega)));rw[<- zaT] at hown2;have HO:=Hd hown2;clear hown2 hgrow hown;go_wp2_with fail;go_roundw
       case rel=>exact ⟨k+1,by omega,by go_num,by rw[HF.out];simpa using HO.out,HB2.out⟩
       case measure=>simp [intOf];omega
      ·go_wp2_with fail;refine (HNF.out _).mono ?_;rintro e w2 ⟨rfl,hk2⟩;generalize zaE true (qf,qg,qp,qs)=nm at *;have hown:=zaU HW.out hk2;have HR2:=Hd (HR.out.trans hk2);have hsz2:w1.heap.size<=w2.heap.size:=HR2.out.size;clear hk2 HNF HNS;go_wp2_with (at_builtin;refine wpList_append_own _ rfl _ _ 29 rfl w1.heap.size 9 i0 (.string ⟨#[]⟩) 1 16 Tryz.underlying29 hi hz0 hz1 hz2 rfl (by decide) _ _ _ rfl (hown.alloc _) ⟨w2.heap.size,0,none⟩ 1 1 [.string (bs nm)] rfl rfl ?_ ?_ ?_ ?_ ?_ ?_)
       ·exact zaV _ #[.string (bs nm)] _ _ (by simp)
       ·intro u hu;simp at hu;subst hu;rfl
       ·unfold maxLen;omega
       ·omega
       ·simp;omega
       intro v' w3 hown2 hgrow _;have HB2:=Hd ((HR2.out.trans (zaA w2 _)).trans' (zaG (hown.alloc _) hgrow (by simp;omega)));rw[<- zaT] at hown2;have HO:=Hd hown2;clear hown2 hgrow hown;go_wp2_with fail;go_roundw
       case rel=>exact ⟨k+1,by omega,by go_num,by rw[HF.out];simpa using HO.out,HB2.out⟩
       case measure=>simp [intOf];omega
     ·have HW:=Hd (Strs.own hown);have HR:=Hd (HK.out.trans hkr);rw[List.take_of_length_le (by omega)] at HW;have hnl:(ps.map (zaE full)).length<=900:=(by rw[List.length_map];exact hN);have HNM:=Hd (zb4 full ps HQ.out);clear hown hkr;go_wp2_with fail;refine (zg4 l _ _ _ HW.out hnl HNM.out).mono ?_;rintro e w2 ⟨rfl,hk2⟩;have HR2:=Hd (HR.out.trans hk2);clear hk2;go_wp2_with fail;go_ret;exact ⟨rfl,HR2.out⟩
theorem zAd (v:Value) (ps:List P4) (l:Bs) (m:Nat) (full:Bool) (w:World) (hv:Perss w v ps) (hN:ps.length<=900) (hq:∀ q∈ps,zcQ q<=10000) (hk:(zb0 l).isSome=false) (hm1:1<=m) (hm2:m<ps.length) :
  Calls Tryz.prog 201 #[v,.string (bs l),.int .i64 m,.bool full] w fun e w'=>e=.returned (.string (bs (Lib.join ((ps.map (zaE full)).take m) zdO ++ [32] ++ (zb0 lEn).getD [] ++ [32] ++ (zbV lEn).getD [])))/\Kept w w':=by
 obtain ⟨i0,hi,hz0,hz1,hz2⟩:=info_parts Tryz.infoStr;have HV:=Hd hv;have HQ:=Hd hq;clear hq;obtain ⟨a,c,rfl,hc,h3⟩:=hv;clear h3;have HKN:Hid (zdT l 4=false):=(by show _=_;rw[zg5,hk]);clear hk;have hm1':decide ((m:Int)<1)=false:=(by simp;omega);have hm2':decide (ps.length<=m)=false:=(by simp;omega);go_enter Tryz.func201,Tryz.ntmps201;go_wp2_with fail;refine (zfG _).mono ?_;rintro e w1 ⟨rfl,rfl⟩;have HB:=Hd (Blk.new w 9 zbL);have HK:=Hd (zaA w (.cells zbL 9));generalize w.alloc (.cells zbL 9)=w1 at *;have z:=HB.out.lt;go_wp2_with fail
 go_loop [9,11] (fun v i=>∃ (k:Nat),k<=4/\i=.int .i64 k/\v=.bool (zdT l k)) (fun _ i=>4 - (intOf i).toNat)
 case atStart=>exact ⟨0,Nat.zero_le _,rfl,rfl⟩
 case round =>
  obtain ⟨k,hk4,rfl,rfl⟩:=hrel;by_cases hlt4:k<4
  ·obtain ⟨x,hx,hcx⟩:=ziV HB.out k hlt4;have HS:=Hd (zfW l k x hx);clear hx;generalize zdT l k=kb at *;cases kb
   ·cases hxl:(x == l)
    ·rw[hxl] at HS;go_wp2_with fail
     go_round
     case rel=>exact ⟨k+1,by omega,by go_num,by rw[HS.out];simp⟩
     case measure=>simp [intOf];omega
    ·rw[hxl] at HS;go_wp2_with fail
     go_round
     case rel=>exact ⟨k+1,by omega,by go_num,by rw[HS.out];simp⟩
     case measure=>simp [intOf];omega
   ·go_wp2_with fail
    go_round
    case rel=>exact ⟨k+1,by omega,by go_num,by rw[HS.out];simp⟩
    case measure=>simp [intOf];omega
  ·obtain rfl:k=4:=(by omega);rw[HKN.out];go_wp2_with fail
   try simp only[zcO]
   go_loopw [12,13] (fun v i wr=>∃ (k:Nat),k<=ps.length/\i=.int .i64 k/\wr.ownsRow w1.heap.size 9 1 v ((ps.take k).map (zaE full)).length (zaH ((ps.take k).map (zaE full)))/\Kept w1 wr) (fun _ i _=>ps.length - (intOf i).toNat)
   case atStart=>exact ⟨0,Nat.zero_le _,rfl,World.ownsRow_nil _ _ _ _,Kept.refl _⟩
   case round =>
    obtain ⟨k,hkl,rfl,hown,hkr⟩:=hrel;by_cases hlt:k<ps.length
    ·obtain ⟨q,hx⟩:∃ x,ps[k]? = some x:=⟨_,List.getElem?_eq_getElem hlt⟩;obtain ⟨a',c',hv',hc',h3⟩:=(HV.out.kept HK.out).kept hkr;obtain ⟨rfl,hdead,rfl⟩:=Value.slice.inj hv';clear hdead;obtain ⟨g,o,rfl,hg,hcc⟩:=h3 (by omega);obtain ⟨c0,c1,c2,c3⟩:=hcc k q hx;have hqs:=HQ.out q (List.mem_of_getElem? hx);have HF:=Hd (map_take (zaE full) ps k q hx);have hfl:((ps.take k).map (zaE full)).length<=k:=(by simp;omega);generalize (ps.take k).map (zaE full)=ws at *;have hsz:w1.heap.size<=wr.heap.size:=hkr.size;have HR:=Hd hkr;have HW:=Hd hown;have HNF:=Hd (fun w=>zeD w q hqs);have HNS:=Hd (fun w=>zdK w q hqs);clear hkr hx hown hcc h3 hv' hc';obtain ⟨qf,qg,qp,qs⟩:=q;simp only at c0 c1 c2 c3;cases full
     ·go_wp2_with fail;refine (HNS.out _).mono ?_;rintro e w2 ⟨rfl,hk2⟩;generalize zaE false (qf,qg,qp,qs)=nm at *;have hown:=zaU HW.out hk2;have HR2:=Hd (HR.out.trans hk2);have hsz2:w1.heap.size<=w2.heap.size:=HR2.out.size;clear hk2 HNF HNS;go_wp2_with (at_builtin;refine wpList_append_own _ rfl _ _ 29 rfl w1.heap.size 9 i0 (.string ⟨#[]⟩) 1 16 Tryz.underlying29 hi hz0 hz1 hz2 rfl (by decide) _ _ _ rfl (hown.alloc _) ⟨w2.heap.size,0,none⟩ 1 1 [.string (bs nm)] rfl rfl ?_ ?_ ?_ ?_ ?_ ?_)
      ·exact zaV _ #[.string (bs nm)] _ _ (by simp)
      ·intro u hu;simp at hu;subst hu;rfl
      ·unfold maxLen;omega
      ·omega
      ·simp;omega
      intro v' w3 hown2 hgrow _;have HB2:=Hd ((HR2.out.trans (zaA w2 _)).trans' (zaG (hown.alloc _) hgrow (by simp;omega)));rw[<- zaT] at hown2;have HO:=Hd hown2;clear hown2 hgrow hown;go_wp2_with fail;go_roundw
      case rel=>exact ⟨k+1,by omega,by go_num,by rw[HF.out];simpa using HO.out,HB2.out⟩
      case measure=>simp [intOf];omega
     ·go_wp2_with fail;refine (HNF.out _).mono ?_;rintro e w2 ⟨rfl,hk2⟩;generalize zaE true (qf,qg,qp,qs)=nm at *;have hown:=zaU HW.out hk2;have HR2:=Hd (HR.out.trans hk2);have hsz2:w1.heap.size<=w2.heap.size:=HR2.out.size;clear hk2 HNF HNS;go_wp2_with (at_builtin;refine wpList_append_own _ rfl _ _ 29 rfl w1.heap.size 9 i0 (.string ⟨#[]⟩) 1 16 Tryz.underlying29 hi hz0 hz1 hz2 rfl (by decide) _ _ _ rfl (hown.alloc _) ⟨w2.heap.size,0,none⟩ 1 1 [.string (bs nm)] rfl rfl ?_ ?_ ?_ ?_ ?_ ?_)
      ·exact zaV _ #[.string (bs nm)] _ _ (by simp)
      ·intro u hu;simp at hu;subst hu;rfl
      ·unfold maxLen;omega
      ·omega
      ·simp;omega
      intro v' w3 hown2 hgrow _;have HB2:=Hd ((HR2.out.trans (zaA w2 _)).trans' (zaG (hown.alloc _) hgrow (by simp;omega)));rw[<- zaT] at hown2;have HO:=Hd hown2;clear hown2 hgrow hown;go_wp2_with fail;go_roundw
      case rel=>exact ⟨k+1,by omega,by go_num,by rw[HF.out];simpa using HO.out,HB2.out⟩
      case measure=>simp [intOf];omega
    ·have HW:=Hd (Strs.own hown);have HR:=Hd (HK.out.trans hkr);rw[List.take_of_length_le (by omega)] at HW;have hnl:(ps.map (zaE full)).length<=900:=(by rw[List.length_map];exact hN);have HNM:=Hd (zb4 full ps HQ.out);clear hown hkr;have HA:=Hd (fun w=>zmC lEn 1 w);have HO:=Hd (fun w=>zj8 lEn 2 w);go_wp2_with fail;simp only[zcO]
     go_loop [14,15] (fun s i=>∃ j:Nat,j<=m/\i=.int .i64 j/\s=.string (bs (Lib.join ((ps.map (zaE full)).take j) zdO))) (fun _ i=>m - (intOf i).toNat)
     case atStart=>exact ⟨0,Nat.zero_le _,rfl,by simp [Lib.join_nil]⟩
     case round =>
      obtain ⟨j,hj,rfl,rfl⟩:=hrel;have hjm:=zpI zdO 10004 ((ps.map (zaE full)).take j) (fun x hx=>HNM.out x (List.mem_of_mem_take hx));have hjl:(Lib.join ((ps.map (zaE full)).take j) zdO).length<=10000000:=by
       have e:zdO.length=2:=rfl;rw[e] at hjm;have h2:((ps.map (zaE full)).take j).length<=900:=(by rw[List.length_take];omega);have:=Nat.mul_le_mul_right (10004+2) h2;omega
      clear hjm;by_cases hjlt:j<m
      ·obtain ⟨x,hx⟩:∃ x,(ps.map (zaE full))[j]? = some x:=⟨_,List.getElem?_eq_getElem (by rw[List.length_map];omega)⟩;obtain ⟨a',c',hv',hc',h3⟩:=HW.out;subst hv';clear hc';obtain ⟨g2,o2,rfl,hg2,hcc⟩:=h3 (by rw[List.length_map];omega);have c0:=hcc j x hx;have hxm:=HNM.out x (List.mem_of_getElem? hx);have HJ:=Hd (zmD (ps.map (zaE full)) j x hx);have hml:(ps.map (zaE full)).length=ps.length:=List.length_map _;have hj9:j<(ps.map (zaE full)).length:=(by omega);clear hcc h3 hx hml;generalize ps.map (zaE full)=ns at *;generalize hjj:Lib.join (ns.take j) zdO=jj at *;have HJJ:=Hd hjj;clear hjj;by_cases h0:j=0
       ·subst h0;obtain rfl:jj=[]:=(by rw[<- HJJ.out];simp [Lib.join_nil]);rw[Nat.add_zero] at c0;go_wp2_with fail
        go_round
        case rel=>exact ⟨1,by omega,by go_num,by rw[HJ.out];simp⟩
        case measure=>simp [intOf];omega
       ·have hpos:0<j:=(by omega);rw[if_neg h0] at HJ;clear h0;go_wp2_with fail
        go_round
        case rel=>exact ⟨j+1,by omega,by go_num,by rw[HJ.out];simp [zdO]⟩
        case measure=>simp [intOf];omega
      ·obtain rfl:j=m:=(by omega);have hal:=zeY lEn;have hol:=zeN lEn;obtain ⟨an,HAN⟩:∃ an,Hid ((zb0 lEn).getD []=an):=⟨_,rfl⟩;rw[HAN.out] at HA hal;obtain ⟨an1,HAN1⟩:∃ an,Hid ((zb0 lEn).isSome=an):=⟨_,rfl⟩;rw[HAN1.out] at HA;obtain ⟨ot,HOT⟩:∃ an,Hid ((zbV lEn).getD []=an):=⟨_,rfl⟩;rw[HOT.out] at HO hol;obtain ⟨ot1,HOT1⟩:∃ an,Hid ((zbV lEn).isSome=an):=⟨_,rfl⟩;rw[HOT1.out] at HO;obtain ⟨jj,HJJ⟩:∃ an,Hid (Lib.join ((ps.map (zaE full)).take j) zdO=an):=⟨_,rfl⟩;rw[HJJ.out] at hjl ⊢;go_wp2_with fail;refine (HA.out _).mono ?_;rintro e w2 ⟨rfl,hk2⟩;have HR2:=Hd (HR.out.trans hk2);clear hk2;go_wp2_with fail;refine (HO.out _).mono ?_;rintro e w3 ⟨rfl,hk3⟩;have HR3:=Hd (HR2.out.trans hk3);clear hk3;go_wp2_with fail;go_ret;exact ⟨zb1 (by rw[HAN.out,HOT.out,HJJ.out];simp),HR3.out⟩
theorem zAe (v:Value) (ps:List P4) (l:Bs) (most:Int) (full:Bool) (w:World) (hv:Perss w v ps) (hN:ps.length<=900) (hq:∀ q∈ps,zcQ q<=10000) (hk:(zb0 l).isSome=false) (hm:¬ (1<=most/\most<ps.length)) (hmr : -9223372036854775808<=most/\most<=9223372036854775807) :
  Calls Tryz.prog 201 #[v,.string (bs l),.int .i64 most,.bool full] w fun e w'=>e=.returned (.string (bs (zd4 lEn (ps.map (zaE full)))))/\Kept w w':=by
 obtain ⟨i0,hi,hz0,hz1,hz2⟩:=info_parts Tryz.infoStr;have HV:=Hd hv;have HQ:=Hd hq;clear hq;obtain ⟨a,c,rfl,hc,h3⟩:=hv;clear h3;have HKN:Hid (zdT l 4=false):=(by show _=_;rw[zg5,hk]);clear hk;have hmc:(decide (most<1)=true)\/(decide (most<1)=false/\decide ((ps.length:Int)<=most)=true/\(ps.length:Int)<=most/\1<=most):=by
  by_cases h:most<1
  ·left;simpa using h
  ·right;simp;omega
 clear hm;go_enter Tryz.func201,Tryz.ntmps201;go_wp2_with fail;refine (zfG _).mono ?_;rintro e w1 ⟨rfl,rfl⟩;have HB:=Hd (Blk.new w 9 zbL);have HK:=Hd (zaA w (.cells zbL 9));generalize w.alloc (.cells zbL 9)=w1 at *;have z:=HB.out.lt;go_wp2_with fail
 go_loop [9,11] (fun v i=>∃ (k:Nat),k<=4/\i=.int .i64 k/\v=.bool (zdT l k)) (fun _ i=>4 - (intOf i).toNat)
 case atStart=>exact ⟨0,Nat.zero_le _,rfl,rfl⟩
 case round =>
  obtain ⟨k,hk4,rfl,rfl⟩:=hrel;by_cases hlt4:k<4
  ·obtain ⟨x,hx,hcx⟩:=ziV HB.out k hlt4;have HS:=Hd (zfW l k x hx);clear hx;generalize zdT l k=kb at *;cases kb
   ·cases hxl:(x == l)
    ·rw[hxl] at HS;go_wp2_with fail
     go_round
     case rel=>exact ⟨k+1,by omega,by go_num,by rw[HS.out];simp⟩
     case measure=>simp [intOf];omega
    ·rw[hxl] at HS;go_wp2_with fail
     go_round
     case rel=>exact ⟨k+1,by omega,by go_num,by rw[HS.out];simp⟩
     case measure=>simp [intOf];omega
   ·go_wp2_with fail
    go_round
    case rel=>exact ⟨k+1,by omega,by go_num,by rw[HS.out];simp⟩
    case measure=>simp [intOf];omega
  ·obtain rfl:k=4:=(by omega);rw[HKN.out];rcases hmc with hm1|⟨hm1,hm2,hm3,hm4⟩
   ·go_wp2_with fail
    try simp only[zcO]
    go_loopw [12,13] (fun v i wr=>∃ (k:Nat),k<=ps.length/\i=.int .i64 k/\wr.ownsRow w1.heap.size 9 1 v ((ps.take k).map (zaE full)).length (zaH ((ps.take k).map (zaE full)))/\Kept w1 wr) (fun _ i _=>ps.length - (intOf i).toNat)
    case atStart=>exact ⟨0,Nat.zero_le _,rfl,World.ownsRow_nil _ _ _ _,Kept.refl _⟩
    case round =>
     obtain ⟨k,hkl,rfl,hown,hkr⟩:=hrel;by_cases hlt:k<ps.length
     ·obtain ⟨q,hx⟩:∃ x,ps[k]? = some x:=⟨_,List.getElem?_eq_getElem hlt⟩;obtain ⟨a',c',hv',hc',h3⟩:=(HV.out.kept HK.out).kept hkr;obtain ⟨rfl,hdead,rfl⟩:=Value.slice.inj hv';clear hdead;obtain ⟨g,o,rfl,hg,hcc⟩:=h3 (by omega);obtain ⟨c0,c1,c2,c3⟩:=hcc k q hx;have hqs:=HQ.out q (List.mem_of_getElem? hx);have HF:=Hd (map_take (zaE full) ps k q hx);have hfl:((ps.take k).map (zaE full)).length<=k:=(by simp;omega);generalize (ps.take k).map (zaE full)=ws at *;have hsz:w1.heap.size<=wr.heap.size:=hkr.size;have HR:=Hd hkr;have HW:=Hd hown;have HNF:=Hd (fun w=>zeD w q hqs);have HNS:=Hd (fun w=>zdK w q hqs);clear hkr hx hown hcc h3 hv' hc';obtain ⟨qf,qg,qp,qs⟩:=q;simp only at c0 c1 c2 c3;cases full
      ·go_wp2_with fail;refine (HNS.out _).mono ?_;rintro e w2 ⟨rfl,hk2⟩;generalize zaE false (qf,qg,qp,qs)=nm at *;have hown:=zaU HW.out hk2;have HR2:=Hd (HR.out.trans hk2);have hsz2:w1.heap.size<=w2.heap.size:=HR2.out.size;clear hk2 HNF HNS;go_wp2_with (at_builtin;refine wpList_append_own _ rfl _ _ 29 rfl w1.heap.size 9 i0 (.string ⟨#[]⟩) 1 16 Tryz.underlying29 hi hz0 hz1 hz2 rfl (by decide) _ _ _ rfl (hown.alloc _) ⟨w2.heap.size,0,none⟩ 1 1 [.string (bs nm)] rfl rfl ?_ ?_ ?_ ?_ ?_ ?_)
       ·exact zaV _ #[.string (bs nm)] _ _ (by simp)
       ·intro u hu;simp at hu;subst hu;rfl
       ·unfold maxLen;omega
       ·omega
       ·simp;omega
       intro v' w3 hown2 hgrow _;have HB2:=Hd ((HR2.out.trans (zaA w2 _)).trans' (zaG (hown.alloc _) hgrow (by simp;omega)));rw[<- zaT] at hown2;have HO:=Hd hown2;clear hown2 hgrow hown;go_wp2_with fail;go_roundw
       case rel=>exact ⟨k+1,by omega,by go_num,by rw[HF.out];simpa using HO.out,HB2.out⟩
       case measure=>simp [intOf];omega
      ·go_wp2_with fail;refine (HNF.out _).mono ?_;rintro e w2 ⟨rfl,hk2⟩;generalize zaE true (qf,qg,qp,qs)=nm at *;have hown:=zaU HW.out hk2;have HR2:=Hd (HR.out.trans hk2);have hsz2:w1.heap.size<=w2.heap.size:=HR2.out.size;clear hk2 HNF HNS;go_wp2_with (at_builtin;refine wpList_append_own _ rfl _ _ 29 rfl w1.heap.size 9 i0 (.string ⟨#[]⟩) 1 16 Tryz.underlying29 hi hz0 hz1 hz2 rfl (by decide) _ _ _ rfl (hown.alloc _) ⟨w2.heap.size,0,none⟩ 1 1 [.string (bs nm)] rfl rfl ?_ ?_ ?_ ?_ ?_ ?_)
       ·exact zaV _ #[.string (bs nm)] _ _ (by simp)
       ·intro u hu;simp at hu;subst hu;rfl
       ·unfold maxLen;omega
       ·omega
       ·simp;omega
       intro v' w3 hown2 hgrow _;have HB2:=Hd ((HR2.out.trans (zaA w2 _)).trans' (zaG (hown.alloc _) hgrow (by simp;omega)));rw[<- zaT] at hown2;have HO:=Hd hown2;clear hown2 hgrow hown;go_wp2_with fail;go_roundw
       case rel=>exact ⟨k+1,by omega,by go_num,by rw[HF.out];simpa using HO.out,HB2.out⟩
       case measure=>simp [intOf];omega
     ·have HW:=Hd (Strs.own hown);have HR:=Hd (HK.out.trans hkr);rw[List.take_of_length_le (by omega)] at HW;have hnl:(ps.map (zaE full)).length<=900:=(by rw[List.length_map];exact hN);have HNM:=Hd (zb4 full ps HQ.out);clear hown hkr;go_wp2_with fail;refine (zg4 lEn _ _ _ HW.out hnl HNM.out).mono ?_;rintro e w2 ⟨rfl,hk2⟩;have HR2:=Hd (HR.out.trans hk2);clear hk2;go_wp2_with fail;go_ret;exact ⟨rfl,HR2.out⟩
   ·go_wp2_with fail
    try simp only[zcO]
    go_loopw [12,13] (fun v i wr=>∃ (k:Nat),k<=ps.length/\i=.int .i64 k/\wr.ownsRow w1.heap.size 9 1 v ((ps.take k).map (zaE full)).length (zaH ((ps.take k).map (zaE full)))/\Kept w1 wr) (fun _ i _=>ps.length - (intOf i).toNat)
    case atStart=>exact ⟨0,Nat.zero_le _,rfl,World.ownsRow_nil _ _ _ _,Kept.refl _⟩
    case round =>
     obtain ⟨k,hkl,rfl,hown,hkr⟩:=hrel;by_cases hlt:k<ps.length
     ·obtain ⟨q,hx⟩:∃ x,ps[k]? = some x:=⟨_,List.getElem?_eq_getElem hlt⟩;obtain ⟨a',c',hv',hc',h3⟩:=(HV.out.kept HK.out).kept hkr;obtain ⟨rfl,hdead,rfl⟩:=Value.slice.inj hv';clear hdead;obtain ⟨g,o,rfl,hg,hcc⟩:=h3 (by omega);obtain ⟨c0,c1,c2,c3⟩:=hcc k q hx;have hqs:=HQ.out q (List.mem_of_getElem? hx);have HF:=Hd (map_take (zaE full) ps k q hx);have hfl:((ps.take k).map (zaE full)).length<=k:=(by simp;omega);generalize (ps.take k).map (zaE full)=ws at *;have hsz:w1.heap.size<=wr.heap.size:=hkr.size;have HR:=Hd hkr;have HW:=Hd hown;have HNF:=Hd (fun w=>zeD w q hqs);have HNS:=Hd (fun w=>zdK w q hqs);clear hkr hx hown hcc h3 hv' hc';obtain ⟨qf,qg,qp,qs⟩:=q;simp only at c0 c1 c2 c3;cases full
      ·go_wp2_with fail;refine (HNS.out _).mono ?_;rintro e w2 ⟨rfl,hk2⟩;generalize zaE false (qf,qg,qp,qs)=nm at *;have hown:=zaU HW.out hk2;have HR2:=Hd (HR.out.trans hk2);have hsz2:w1.heap.size<=w2.heap.size:=HR2.out.size;clear hk2 HNF HNS;go_wp2_with (at_builtin;refine wpList_append_own _ rfl _ _ 29 rfl w1.heap.size 9 i0 (.string ⟨#[]⟩) 1 16 Tryz.underlying29 hi hz0 hz1 hz2 rfl (by decide) _ _ _ rfl (hown.alloc _) ⟨w2.heap.size,0,none⟩ 1 1 [.string (bs nm)] rfl rfl ?_ ?_ ?_ ?_ ?_ ?_)
       ·exact zaV _ #[.string (bs nm)] _ _ (by simp)
       ·intro u hu;simp at hu;subst hu;rfl
       ·unfold maxLen;omega
       ·omega
       ·simp;omega
       intro v' w3 hown2 hgrow _;have HB2:=Hd ((HR2.out.trans (zaA w2 _)).trans' (zaG (hown.alloc _) hgrow (by simp;omega)));rw[<- zaT] at hown2;have HO:=Hd hown2;clear hown2 hgrow hown;go_wp2_with fail;go_roundw
       case rel=>exact ⟨k+1,by omega,by go_num,by rw[HF.out];simpa using HO.out,HB2.out⟩
       case measure=>simp [intOf];omega
      ·go_wp2_with fail;refine (HNF.out _).mono ?_;rintro e w2 ⟨rfl,hk2⟩;generalize zaE true (qf,qg,qp,qs)=nm at *;have hown:=zaU HW.out hk2;have HR2:=Hd (HR.out.trans hk2);have hsz2:w1.heap.size<=w2.heap.size:=HR2.out.size;clear hk2 HNF HNS;go_wp2_with (at_builtin;refine wpList_append_own _ rfl _ _ 29 rfl w1.heap.size 9 i0 (.string ⟨#[]⟩) 1 16 Tryz.underlying29 hi hz0 hz1 hz2 rfl (by decide) _ _ _ rfl (hown.alloc _) ⟨w2.heap.size,0,none⟩ 1 1 [.string (bs nm)] rfl rfl ?_ ?_ ?_ ?_ ?_ ?_)
       ·exact zaV _ #[.string (bs nm)] _ _ (by simp)
       ·intro u hu;simp at hu;subst hu;rfl
       ·unfold maxLen;omega
       ·omega
       ·simp;omega
       intro v' w3 hown2 hgrow _;have HB2:=Hd ((HR2.out.trans (zaA w2 _)).trans' (zaG (hown.alloc _) hgrow (by simp;omega)));rw[<- zaT] at hown2;have HO:=Hd hown2;clear hown2 hgrow hown;go_wp2_with fail;go_roundw
       case rel=>exact ⟨k+1,by omega,by go_num,by rw[HF.out];simpa using HO.out,HB2.out⟩
       case measure=>simp [intOf];omega
     ·have HW:=Hd (Strs.own hown);have HR:=Hd (HK.out.trans hkr);rw[List.take_of_length_le (by omega)] at HW;have hnl:(ps.map (zaE full)).length<=900:=(by rw[List.length_map];exact hN);have HNM:=Hd (zb4 full ps HQ.out);clear hown hkr;go_wp2_with fail;refine (zg4 lEn _ _ _ HW.out hnl HNM.out).mono ?_;rintro e w2 ⟨rfl,hk2⟩;have HR2:=Hd (HR.out.trans hk2);clear hk2;go_wp2_with fail;go_ret;exact ⟨rfl,HR2.out⟩
theorem zn3 (v:Value) (ps:List P4) (l:Bs) (most:Int) (full:Bool) (w:World) (hv:Perss w v ps) (hN:ps.length<=900) (hq:∀ q∈ps,zcQ q<=10000) (hmr : -9223372036854775808<=most/\most<=9223372036854775807) :
  Calls Tryz.prog 201 #[v,.string (bs l),.int .i64 most,.bool full] w fun e w'=>e=.returned (.string (bs (zcN ps l most full)))/\Kept w w':=by
 unfold zcN zlD;cases hk:(zb0 l).isSome
 ·by_cases hm:1<=most/\most<ps.length
  ·rw[if_pos hm];obtain ⟨m,rfl⟩:∃ m:Nat,most=m:=⟨most.toNat,by omega⟩;have:=zAd v ps l m full w hv hN hq hk (by omega) (by omega);rw[<- List.map_take] at this;exact this
  ·rw[if_neg hm];exact zAe v ps l most full w hv hN hq hk hm hmr
 ·by_cases hm:1<=most/\most<ps.length
  ·rw[if_pos hm];obtain ⟨m,rfl⟩:∃ m:Nat,most=m:=⟨most.toNat,by omega⟩;have:=zAb v ps l m full w hv hN hq hk (by omega) (by omega);rw[<- List.map_take] at this;exact this
  ·rw[if_neg hm];exact zAc v ps l most full w hv hN hq hk hm hmr
end Go.Proofs.YtmcoomlkbgiboaaGreatDoor
