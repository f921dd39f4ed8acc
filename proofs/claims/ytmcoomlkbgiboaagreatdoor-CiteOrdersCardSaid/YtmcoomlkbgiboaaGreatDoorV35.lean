/- The reference's Initials and Inverted. Conditions: lengths. -/
import Derived.Test.YtmcoomlkbgiboaaGreatDoorV34
import Derived.Test.YtmcoomlkbgiboaaGreatDoorV22
import Derived.Test.YtmcoomlkbgiboaaGreatDoorV07
import Derived.Test.YtmcoomlkbgiboaaGreatDoorV33
import Derived.Test.YtmcoomlkbgiboaaGreatDoorV19
import Derived.Test.YtmcoomlkbgiboaaGreatDoorV08
import Derived.Deep.RegionHeld3
import Derived.BigQuiet
set_option linter.all false
set_option maxRecDepth 100000
set_option maxHeartbeats 6400000
namespace Go.Proofs.YtmcoomlkbgiboaaGreatDoor
open Go.RowKit
theorem zoJ (c:UInt8) (l x:Bs) (h:x∈zaU c l):x≠[]/\x.length<=l.length:=by
 unfold zaU at h;obtain ⟨h1,h2⟩:=List.mem_filter.1 h;refine ⟨by simpa [zdE] using h2,?_⟩;have hs:∀ (xs:List Bs) (x:Bs),x∈xs->x.length+1<=(xs.map (fun x=>x.length+1)).sum:=by
  intro xs
  induction xs with
  | nil=>intro x h;cases h
  | cons a r ih =>
   intro x h;simp only[List.map_cons,List.sum_cons];rcases List.mem_cons.1 h with rfl|h
   ·omega
   ·have:=ih x h;omega
 have:=hs _ x h1;rw[znL] at this;omega
theorem zgM (c:UInt8) (l:Bs):(zaU c l).length<=l.length+1:=by
 unfold zaU;have h1:=List.length_filter_le zdE (za1 c l);rw[zcO] at h1;have h2:=List.count_le_length (l:=l) (a:=c);omega
theorem zjR (sep:Bs) (xs:List Bs) (x:Bs):Lib.join (xs ++ [x]) sep=(if xs=[] then [] else Lib.join xs sep ++ sep) ++ x:=by
 cases xs with
 | nil=>simp [Lib.join_one]
 | cons a r =>
  rw[List.cons_append,Lib.join_cons,Lib.join_cons];simp [Lib.joinTail]
theorem zCQ (sep:Bs) (m:Nat) (xs:List Bs) (h:∀ x∈xs,x.length<=m):(Lib.join xs sep).length<=xs.length * (m+sep.length):=by
 refine zoN (P:=fun xs=>(∀ x∈xs,x.length<=m)->(Lib.join xs sep).length<=xs.length * (m+sep.length)) ?_ ?_ xs h
 ·intro _;rw[Lib.join_nil];simp
 ·intro xs x ih hx;have h1:=ih (fun y hy=>hx y (by simp [hy]));have h2:=hx x (by simp);rw[zjR,List.length_append,List.length_append,Nat.add_mul];simp only[List.length_cons,List.length_nil,Nat.zero_add,Nat.one_mul]
  split
  ·simp;omega
  ·rw[List.length_append];omega
theorem zwX (x:Bs):(zbU x).length<=5:=by unfold zbU;have:=zk4 (dec (bs x) 0).1;simp;omega
theorem zu4 (ys:List Bs):(Lib.join (ys.map zbU) [45]).length<=6 * ys.length:=by
 have:=zCQ [45] 5 (ys.map zbU) (fun x hx=>by obtain ⟨y,_,rfl⟩:=List.mem_map.1 hx;exact zwX y);simp at this;omega
theorem zCR (m:Nat) (xs:List Bs) (h:∀ x∈xs,x.length<=m):zlK xs<=xs.length * (m+1):=by
 unfold zlK
 induction xs with
 | nil=>simp
 | cons a r ih =>
  have h1:=ih (fun x hx=>h x (by simp [hx]));have h2:=h a (by simp);simp only[List.map_cons,List.sum_cons,List.length_cons,Nat.add_mul,Nat.one_mul];omega
theorem zr3 (f:Bs->Bs) (ps:List Bs) (k:Nat) (q:Bs) (h:ps[k]? = some q):(ps.take (k+1)).map f=(ps.take k).map f ++ [f q]:=by
 obtain ⟨hk,rfl⟩:=List.getElem?_eq_some_iff.1 h;rw[List.take_succ_eq_append_getElem hk,List.map_append];rfl
theorem zpV (f g p s:Bs) (w:World) (hs:g.length<=1000):Calls Tryz.prog 200 #[zh2 f g p s] w fun e w'=>e=.returned (.string (bs (zb5 g)))/\Kept w w':=by
 obtain ⟨i0',hi',hz0,hz1,hz2⟩:=info_parts Tryz.infoStr;have HI:Hid (zb5 g=zbM ((zaU 32 g).map zf6)):=rfl;have HP:=Hd (fun w=>zoI g 32 w (by omega));have HM:Hid (∀ x∈zaU 32 g,x.length<=1000):=fun x hx=>(by have:=(zoJ 32 g x hx).2;omega);have hwl:=zgM 32 g;generalize zaU 32 g=ws at *;go_enter Tryz.func200,Tryz.ntmps200;go_wp2_with fail;refine (HP.out _).mono ?_;rintro e w1 ⟨vw,rfl,hst,hk1⟩;have HK1:=Hd ((zaA w _).trans hk1);have HST:=Hd hst;obtain ⟨aw,cw,rfl,hcw,_⟩:=hst;clear hk1;go_wp2_with fail;go_loopw [3,5] (fun v i wr=>∃ (k:Nat),k<=ws.length/\i=.int .i64 k/\wr.ownsRow w1.heap.size 9 1 v ((ws.take k).map zf6).length (zaF ((ws.take k).map zf6))/\Kept w1 wr) (fun _ i _=>ws.length - (intOf i).toNat)
 case atStart=>exact ⟨0,Nat.zero_le _,rfl,World.ownsRow_nil _ _ _ _,Kept.refl _⟩
 case round =>
  obtain ⟨k,hkl,rfl,hown,hkr⟩:=hrel;by_cases hlt:k<ws.length
  ·obtain ⟨x,hx⟩:∃ x,ws[k]? = some x:=⟨_,List.getElem?_eq_getElem hlt⟩;obtain ⟨wo,rfl⟩:∃ wo:World,wo=wr:=⟨_,rfl⟩;obtain ⟨a',c',hv',hc',h3⟩:=HST.out.kept hkr;obtain ⟨rfl,hdead,rfl⟩:=Value.slice.inj hv';clear hdead;obtain ⟨gg,o,rfl,hgg,hcc⟩:=h3 (by omega);have c0:=hcc k x hx;have hxm:=HM.out x (List.mem_of_getElem? hx);have HF:=Hd (zr3 zf6 ws k x hx);have hfl:((ws.take k).map zf6).length<=k:=(by simp;omega);have HPX:=Hd (fun w=>zoI x 45 w (by omega));have HIX:Hid (zf6 x=Lib.join ((zaU 45 x).map zbU) [45]):=rfl;have HMX:Hid (∀ y∈zaU 45 x,y≠[]/\y.length<=1000):=fun y hy=>(by have:=zoJ 45 x y hy;exact ⟨this.1,by omega⟩);have hyl:=zgM 45 x;have HJL:=Hd (fun n=>zu4 ((zaU 45 x).take n));generalize (ws.take k).map zf6=us at *;generalize zf6 x=ix at *;generalize zaU 45 x=ys at *;have hsz:w1.heap.size<=wo.heap.size:=hkr.size;have HR:=Hd hkr;have HW:=Hd hown;clear hkr hown hcc h3 hv' hc' hx;go_wp2_with fail;refine (HPX.out _).mono ?_;rintro e w2 ⟨vy,rfl,hsy,hk2⟩;have HSY:=Hd hsy;have HR2:=Hd (HR.out.trans hk2);have HW2:=Hd (zaP HW.out hk2);have hsz2:w1.heap.size<=w2.heap.size:=HR2.out.size;obtain ⟨ay,cy,rfl,hcy,_⟩:=hsy;clear hk2 c0 hgg hsz;go_wp2_with fail;simp only[zeB];go_loopw [6,8] (fun v i wr=>∃ (j:Nat),j<=ys.length/\i=.int .i64 j/\v=.string (bs (Lib.join ((ys.take j).map zbU) [45]))/\Kept w2 wr) (fun _ i _=>ys.length - (intOf i).toNat)
   case atStart=>exact ⟨0,Nat.zero_le _,rfl,rfl,Kept.refl _⟩
   case round =>
    obtain ⟨j,hjl,rfl,rfl,hkr⟩:=hrel;by_cases hj:j<ys.length
    ·obtain ⟨y,hy⟩:∃ y,ys[j]? = some y:=⟨_,List.getElem?_eq_getElem hj⟩;obtain ⟨a',c',hv',hc',h3⟩:=HSY.out.kept hkr;obtain ⟨rfl,hdead,rfl⟩:=Value.slice.inj hv';clear hdead;obtain ⟨gy,oy,rfl,hgy,hcc⟩:=h3 (by omega);have c0:=hcc j y hy;obtain ⟨hyn,hym⟩:=HMX.out y (List.mem_of_getElem? hy);have hjb:=HJL.out j;have hjb:(Lib.join ((ys.take j).map zbU) [45]).length<=10000:=(by rw[List.length_take] at hjb;omega);have HJ:Hid (Lib.join ((ys.take (j+1)).map zbU) [45]=(if 0<j then Lib.join ((ys.take j).map zbU) [45] ++ [45] else Lib.join ((ys.take j).map zbU) [45]) ++ (zgS (dec (bs y) 0).1 ++ [46])):=by
      show _=_;rw[zr3 zbU ys j y hy,zjR];have e:zbU y=zgS (dec (bs y) 0).1 ++ [46]:=rfl;rw[e];by_cases q:0<j
      ·rw[if_pos q,if_neg];intro h;have:=congrArg List.length h;rw[List.length_map,List.length_take,List.length_nil] at this;omega
      ·obtain rfl:j=0:=(by omega);simp [Lib.join_nil]
     have hv:=zmC (bs y) 0;have HN:=Hd (fun w=>zAC y w (by omega) (by have:=List.length_pos_iff.2 hyn;omega));generalize (dec (bs y) 0).2=dn at *;generalize (dec (bs y) 0).1=dc at *;have hel:=zk4 dc;obtain ⟨v0,v1,v2⟩:=hv;generalize Lib.join ((ys.take j).map zbU) [45]=js at *;have HKR:=Hd hkr;clear hkr hcc h3 hv' hc' hy hyn;by_cases q:0<j
     ·rw[if_pos q] at HJ;have HA:=Hd (fun w=>zmD (js ++ [45]) dc w (by simp;omega) v0 v1 v2);generalize hec:zgS dc=ec at *;clear hec v0 v1 v2;go_wp2_with fail;refine (HN.out _).mono ?_;rintro e w3 ⟨rfl,hk3⟩;have HK3:=Hd (HKR.out.trans hk3);clear hk3 c0;go_wp2_with fail;refine (HA.out _).mono ?_;rintro e w4 ⟨rfl,hk4⟩;have HK4:=Hd (HK3.out.trans hk4);clear hk4;go_wp2_with fail;go_roundw
      case rel=>exact ⟨j+1,by omega,by go_num,by first|(rw[HJ.out];done)|(rw[HJ.out];simp),HK4.out⟩
      case measure=>simp [intOf];omega
     ·rw[if_neg q] at HJ;have HA:=Hd (fun w=>zmD js dc w (by omega) v0 v1 v2);generalize hec:zgS dc=ec at *;clear hec v0 v1 v2;go_wp2_with fail;refine (HN.out _).mono ?_;rintro e w3 ⟨rfl,hk3⟩;have HK3:=Hd (HKR.out.trans hk3);clear hk3 c0;go_wp2_with fail;refine (HA.out _).mono ?_;rintro e w4 ⟨rfl,hk4⟩;have HK4:=Hd (HK3.out.trans hk4);clear hk4;go_wp2_with fail;go_roundw
      case rel=>exact ⟨j+1,by omega,by go_num,by first|(rw[HJ.out];done)|(rw[HJ.out];simp),HK4.out⟩
      case measure=>simp [intOf];omega
    ·rw[List.take_of_length_le (by omega)];have hjb:=HJL.out ys.length;rw[List.take_of_length_le (Nat.le_refl _)] at hjb;rw[<- HIX.out];rw[<- HIX.out] at hjb;have hown:=zaP HW2.out hkr;have HR3:=Hd (HR2.out.trans hkr);have hsz3:w1.heap.size<=wr.heap.size:=HR3.out.size;clear hkr;go_wp2_with (at_builtin;refine wpList_append_own _ rfl _ _ 29 rfl w1.heap.size 9 i0' (.string ⟨#[]⟩) 1 16 Tryz.underlying29 hi' hz0 hz1 hz2 rfl (by decide) _ _ _ rfl (hown.alloc _) ⟨wr.heap.size,0,none⟩ 1 1 [.string (bs ix)] rfl rfl ?_ ?_ ?_ ?_ ?_ ?_)
     ·exact za0 _ #[.string (bs ix)] _ _ (by simp)
     ·intro u hu;simp at hu;subst hu;rfl
     ·unfold maxLen;omega
     ·omega
     ·simp;omega
     intro v' w3 hown2 hgrow _;have HB2:=Hd ((HR3.out.trans (zaA wr _)).trans' (zaI (hown.alloc _) hgrow (by simp;omega)));rw[<- za8] at hown2;have HO:=Hd hown2;clear hown2 hgrow hown;go_wp2_with fail;go_roundw
     case rel=>exact ⟨k+1,by omega,by go_num,by rw[HF.out];simpa using HO.out,HB2.out⟩
     case measure=>simp [intOf];omega
  ·have HW:=Hd (Strs.own hown);have HR:=Hd (HK1.out.trans hkr);rw[List.take_of_length_le (by omega)] at HW;have hb:zlK (ws.map zf6)<=100000000:=by
    have h1:∀ x∈ws.map zf6,x.length<=6006:=by
     intro x hx;obtain ⟨y,hy,rfl⟩:=List.mem_map.1 hx;have a:=zu4 (zaU 45 y);have b:=zgM 45 y;have c:=HM.out y hy;show (Lib.join ((zaU 45 y).map zbU) [45]).length<=6006;omega
    have h2:=zCR 6006 (ws.map zf6) h1;have h3:(ws.map zf6).length<=1001:=(by simp;omega);have:=Nat.mul_le_mul_right 6007 h3;omega
   clear hown hkr;go_wp2_with fail;refine (zlL _ _ _ HW.out hb).mono ?_;rintro e w2 ⟨rfl,rfl⟩;go_wp2_with fail;go_ret;exact ⟨zc6 HI.out.symm,HR.out⟩
theorem zi0 (f g p s:Bs) (i:Bool) (w:World) (hs:f.length+g.length+p.length+s.length<=1000) :
  Calls Tryz.prog 151 #[zh2 f g p s,.bool i] w fun e w'=>e=.returned (.string (bs (zz8 f g p s i)))/\Kept w w':=by
 have hbu:zlK [p,f]<=1000002:=(by simp [zlK];omega);have hsh:=zdH [p,f];have hin:=ziR g;have HL:Hid (zz8 f g p s i=zbM [p,f] ++ (if zeI g i=[] then [] else [44,32] ++ zeI g i) ++ (if s=[] then [] else [44,32] ++ s)):=rfl;have hgl:(zeI g i).length<=6000000:=(by unfold zeI;split <;> omega);have HS:=Hd (fun w=>zvJ f g p s w (by omega));have HI:=Hd (fun w=>zpV f g p s w (by omega));have HGI:Hid (zeI g i=if i then zb5 g else g):=rfl;generalize zbM [p,f]=sh at *;generalize zb5 g=il at *;generalize zeI g i=gv at *;cases i
 ·obtain rfl:gv=g:=HGI.out;clear HGI;by_cases hg:gv=[] <;> by_cases hs':s=[]
  all_goals
   first|subst hg|(have hge:gv.isEmpty=false:=by simpa using hg)
   first|subst hs'|(have hse:s.isEmpty=false:=by simpa using hs')
   try simp only[List.length_nil,Nat.add_zero,Nat.zero_add] at hs
   go_enter Tryz.func151,Tryz.ntmps151;go_wp2_with fail;refine (HS.out _).mono ?_;rintro e w1 ⟨rfl,hk1⟩;obtain ⟨kc,kf⟩:=za9 hk1;have hz:w.heap.size<w1.heap.size:=(by have:=hk1.size;simp at this;omega);have HK:=Hd ((zaA w _).trans hk1);clear hk1;go_wp2_with fail;go_ret;exact ⟨zc6 (by rw[HL.out];simp [*]),HK.out⟩
 ·obtain rfl:gv=il:=HGI.out;clear HGI;by_cases hg:gv=[] <;> by_cases hs':s=[]
  all_goals
   first|subst hg|(have hge:gv.isEmpty=false:=by simpa using hg)
   first|subst hs'|(have hse:s.isEmpty=false:=by simpa using hs')
   try simp only[List.length_nil,Nat.add_zero,Nat.zero_add] at hs
   go_enter Tryz.func151,Tryz.ntmps151;go_wp2_with fail;refine (HS.out _).mono ?_;rintro e w1 ⟨rfl,hk1⟩;obtain ⟨kc,kf⟩:=za9 hk1;have hz:w.heap.size<w1.heap.size:=(by have:=hk1.size;simp at this;omega);have HK1:=Hd hk1;clear hk1;go_wp2_with fail;refine (HI.out _).mono ?_;rintro e w2 ⟨rfl,hk2⟩;have HK2:=Hd (HK1.out.trans hk2);clear kc kf hk2 hz;obtain ⟨kc,kf⟩:=za9 HK2.out;have hz:w.heap.size<w2.heap.size:=(by have:=HK2.out.size;simp at this;omega);have HK:=Hd ((zaA w _).trans HK2.out);go_wp2_with fail;go_ret;exact ⟨zc6 (by rw[HL.out];simp [*]),HK.out⟩
theorem zi1:∀ (f:Nat) (r:Bs) (G g:Nat) (l:List Rp),zkK f r G g=some l->l.length<=r.length
 | 0,_,_,_,_,h=>by cases h
 | f+1,[],G,g,l,h=>by
  rw[zkZ] at h
  split at h
  ·cases h;simp
  ·cases h
 | f+1,b :: r,G,g,l,h=>by
  cases hin:zbN zcA b with
  | false =>
   rw[zo2 _ _ _ hin,Option.map_eq_some_iff] at h;obtain ⟨l',h1,rfl⟩:=h;have:=zi1 f r G g l' h1;simp only[List.length_cons];omega
  | true =>
   rcases zcV hin with rfl|rfl|rfl|rfl
   ·rw[zo3] at h
    split at h
    ·rw[Option.map_eq_some_iff] at h;obtain ⟨l',h1,rfl⟩:=h;have:=zi1 f _ G g l' h1;rw[List.length_drop] at this;simp only[List.length_cons];omega
    ·cases h
   ·rw[zo4] at h;cases h
   ·rw[zl0] at h
    split at h
    ·have:=zi1 f r _ _ l h;simp only[List.length_cons];omega
    ·cases h
   ·rw[zl1] at h
    split at h
    ·cases h
    ·have:=zi1 f r _ _ l h;simp only[List.length_cons];omega
theorem zFc:∀ k:Fin 256,(zd6 (UInt8.ofNat k.val) || zcE.contains (UInt8.ofNat k.val))=((decide (97<=k.val) && decide (k.val<=122)) || ((decide (48<=k.val) && decide (k.val<=57)) || decide (k.val=45))):=by decide +kernel
theorem zFd (b:UInt8):(zd6 b || zcE.contains b)=((decide (97<=b.toNat) && decide (b.toNat<=122)) || ((decide (48<=b.toNat) && decide (b.toNat<=57)) || decide (b.toNat=45))):=by
 have:=zFc ⟨b.toNat,b.toNat_lt⟩;simpa using this
theorem zr4 {l:Bs} {m:Int} {more:Bs} (h:∀ k (hk:k<l.length),(zd6 l[k] || more.contains l[k])=true):zbA l m more=(decide (1<=(l.length:Int)) && decide ((l.length:Int)<=m)):=by
 unfold zbA;have:(l.all fun b=>zd6 b || more.contains b)=true:=List.all_eq_true.2 (fun b hb=>by
  obtain ⟨k,hk,e⟩:=List.getElem_of_mem hb;rw[<- e];exact h k hk)
 rw[this,Bool.and_true];congr 1;rw[decide_eq_decide];omega
theorem zr5 {l:Bs} {m:Int} {more:Bs} {k:Nat} (hk:k<l.length) (h:(zd6 l[k] || more.contains l[k])=false):zbA l m more=false:=by
 unfold zbA;have:(l.all fun b=>zd6 b || more.contains b)=false:=List.all_eq_false.2 ⟨l[k],List.getElem_mem hk,by rw[h];simp⟩;rw[this];simp
theorem ztS (l:Bs) (w:World) (hl:l.length<=9223372036854775807):Calls Tryz.prog 54 #[.string (bs l)] w fun e w'=>e=.returned (.bool (zbA l 60 zcE))/\Kept w w':=by
 have HB:Hid (∀ k (hk:k<l.length),(zd6 l[k] || zcE.contains l[k])=false->zbA l 60 zcE=false):=fun k hk h=>zr5 hk h;have HO:Hid ((∀ k (hk:k<l.length),(zd6 l[k] || zcE.contains l[k])=true)->zbA l 60 zcE=(decide (1<=(l.length:Int)) && decide ((l.length:Int)<=60))):=fun h=>zr4 h;generalize zbA l 60 zcE=R at *;go_enter Tryz.func54,Tryz.ntmps54;go_wp2_with fail
 go_loop [3] (fun i=>∃ k:Nat,k<=l.length/\i=.int .i64 k/\Hid (∀ j (hj:j<l.length),j<k->(zd6 l[j] || zcE.contains l[j])=true)) (fun i=>l.length - (intOf i).toNat)
 case atStart=>exact ⟨0,Nat.zero_le _,rfl,fun j hj h=>by omega⟩
 case round =>
  obtain ⟨k,hk,rfl,HN⟩:=hrel;by_cases hlt:k<l.length
  ·have i0:=zc0 (P:=Tryz.prog) (t:=9) Tryz.underlying9 l k hlt k rfl;have h80:=zf8 l k;have h81:=zp5 l k;have HRL:=Hd (fun w=>zk8 (at8 l k) w h80 h81);have HC:Hid ((zd6 l[k] || zcE.contains l[k])=((decide (97<=at8 l k) && decide (at8 l k<=122)) || ((decide (48<=at8 l k) && decide (at8 l k<=57)) || decide (at8 l k=45)))):=by
    show _=_;rw[zFd,zbE l k hlt];have z:∀ (p q:Prop) [Decidable p] [Decidable q],(p↔q)->decide p=decide q:=fun p q _ _ h=>(by rw[decide_eq_decide];exact h);rw[z (97<=l[k].toNat) (97<=(l[k].toNat:Int)) (by omega),z (l[k].toNat<=122) ((l[k].toNat:Int)<=122) (by omega),z (48<=l[k].toNat) (48<=(l[k].toNat:Int)) (by omega),z (l[k].toNat<=57) ((l[k].toNat:Int)<=57) (by omega),z (l[k].toNat=45) ((l[k].toNat:Int)=45) (by omega)]
   have HNX:Hid ((zd6 l[k] || zcE.contains l[k])=true->∀ j (hj:j<l.length),j<k+1->(zd6 l[j] || zcE.contains l[j])=true):=fun h j hj hjk=>by
    rcases Nat.lt_or_ge j k with q|q
    ·exact HN.out j hj q
    ·obtain rfl:j=k:=(by omega);exact h
   have HBD:=Hd (HB.out k hlt);rw[HC.out] at HNX HBD;clear HC HN;generalize at8 l k=b at *;cases c1:(decide (97<=b) && decide (b<=122)) with
   | true =>
    have HS:=Hd (HNX.out (by rw[c1];rfl));rw[c1] at HRL;clear c1 HNX HBD;go_wp2_with fail;refine (HRL.out _).mono ?_;rintro e w1 ⟨rfl,rfl⟩;go_wp2_with fail
    go_round
    case rel=>exact ⟨k+1,by omega,by go_num,HS.out⟩
    case measure=>simp [intOf];omega
   | false =>
    rw[c1] at HRL HNX HBD;rw[Bool.false_or] at HNX HBD;clear c1;by_cases d1:b<48
    ·have e1:decide (48<=b)=false:=decide_eq_false (by omega);rw[e1,Bool.false_and,Bool.false_or] at HNX HBD;by_cases d3:b=45
     ·have HS:=Hd (HNX.out (decide_eq_true d3));have d3':(b == 45)=true:=beq_iff_eq.2 d3;have d3n:(b != 45)=false:=(by rw[bne,d3'];rfl);clear HNX HBD d3;go_wp2_with fail;refine (HRL.out _).mono ?_;rintro e w1 ⟨rfl,rfl⟩;go_wp2_with fail
      go_round
      case rel=>exact ⟨k+1,by omega,by go_num,HS.out⟩
      case measure=>simp [intOf];omega
     ·have HR:=Hd (HBD.out (decide_eq_false d3));have d3':(b == 45)=false:=beq_eq_false_iff_ne.2 d3;have d3n:(b != 45)=true:=(by rw[bne,d3'];rfl);clear HNX HBD;go_wp2_with fail;refine (HRL.out _).mono ?_;rintro e w1 ⟨rfl,rfl⟩;go_wp2_with fail;go_ret;exact ⟨zaN HR.out.symm,Kept.refl _⟩
    ·have e1:decide (48<=b)=true:=decide_eq_true (by omega);rw[e1,Bool.true_and] at HNX HBD;by_cases d2:57<b
     ·have e2:decide (b<=57)=false:=decide_eq_false (by omega);have d3:¬ b=45:=(by omega);have e3:decide (b=45)=false:=decide_eq_false d3;have d3':(b == 45)=false:=beq_eq_false_iff_ne.2 d3;have d3n:(b != 45)=true:=(by rw[bne,d3'];rfl);have HR:=Hd (HBD.out (by rw[e2,e3];rfl));clear HNX HBD;go_wp2_with fail;refine (HRL.out _).mono ?_;rintro e w1 ⟨rfl,rfl⟩;go_wp2_with fail;go_ret;exact ⟨zaN HR.out.symm,Kept.refl _⟩
     ·have e2:decide (b<=57)=true:=decide_eq_true (by omega);have HS:=Hd (HNX.out (by rw[e2];rfl));clear HNX HBD;go_wp2_with fail;refine (HRL.out _).mono ?_;rintro e w1 ⟨rfl,rfl⟩;go_wp2_with fail
      go_round
      case rel=>exact ⟨k+1,by omega,by go_num,HS.out⟩
      case measure=>simp [intOf];omega
  ·obtain rfl:k=l.length:=(by omega);have HR:=Hd (HO.out (fun k hk=>HN.out k hk hk));by_cases d1:1<=l.length
   ·have e1:decide (1<=(l.length:Int))=true:=decide_eq_true (by omega);by_cases d2:l.length<=60
    ·have e2:decide ((l.length:Int)<=60)=true:=decide_eq_true (by omega);rw[e1,e2] at HR;go_wp2_with fail;go_ret;exact ⟨zaN HR.out.symm,Kept.refl _⟩
    ·have e2:decide ((l.length:Int)<=60)=false:=decide_eq_false (by omega);rw[e1,e2] at HR;go_wp2_with fail;go_ret;exact ⟨zaN HR.out.symm,Kept.refl _⟩
   ·have e1:decide (1<=(l.length:Int))=false:=decide_eq_false (by omega);rw[e1,Bool.false_and] at HR;go_wp2_with fail;go_ret;exact ⟨zaN HR.out.symm,Kept.refl _⟩
theorem ztT (l:Bs) (w:World) (hl:l.length<=9223372036854775807):Calls Tryz.prog 114 #[.string (bs l)] w fun e w'=>e=.returned (.bool (l == [42] || zbA l 20 []))/\Kept w w':=by
 have HB:Hid (∀ k (hk:k<l.length),zd6 l[k]=false->(l == [42] || zbA l 20 [])=(l == [42])):=fun k hk h=>by
  rw[zr5 hk (by rw[h];rfl),Bool.or_false]
 have HO:Hid ((∀ k (hk:k<l.length),zd6 l[k]=true)->(l == [42] || zbA l 20 [])=(decide (1<=(l.length:Int)) && decide ((l.length:Int)<=20))):=fun h=>by
  rw[zr4 (fun k hk=>by rw[h k hk];rfl)];have:(l == [42])=false:=by
   rw[beq_eq_false_iff_ne];rintro rfl;exact absurd (h 0 (by simp)) (by decide)
  rw[this,Bool.false_or]
 generalize (l == [42] || zbA l 20 [])=R at *;obtain ⟨bs42,H42⟩:∃ b,Hid ((l == [42])=b):=⟨_,rfl⟩;have h42:=H42.out;rw[H42.out] at HB;go_enter Tryz.func114,Tryz.ntmps114;go_wp2_with fail
 go_loop [3] (fun i=>∃ k:Nat,k<=l.length/\i=.int .i64 k/\Hid (∀ j (hj:j<l.length),j<k->zd6 l[j]=true)) (fun i=>l.length - (intOf i).toNat)
 case atStart=>exact ⟨0,Nat.zero_le _,rfl,fun j hj h=>by omega⟩
 case round =>
  obtain ⟨k,hk,rfl,HN⟩:=hrel;by_cases hlt:k<l.length
  ·have i0:=zc0 (P:=Tryz.prog) (t:=9) Tryz.underlying9 l k hlt k rfl;have h80:=zf8 l k;have h81:=zp5 l k;have HRL:=Hd (fun w=>zk8 (at8 l k) w h80 h81);have HC:Hid (zd6 l[k]=(decide (97<=at8 l k) && decide (at8 l k<=122))):=by
    show _=_;rw[zbE l k hlt];rfl
   have HNX:Hid (zd6 l[k]=true->∀ j (hj:j<l.length),j<k+1->zd6 l[j]=true):=fun h j hj hjk=>by
    rcases Nat.lt_or_ge j k with q|q
    ·exact HN.out j hj q
    ·obtain rfl:j=k:=(by omega);exact h
   have HBD:=Hd (HB.out k hlt);rw[HC.out] at HNX HBD;clear HC HN;generalize at8 l k=b at *;cases c1:(decide (97<=b) && decide (b<=122)) with
   | true =>
    have HS:=Hd (HNX.out c1);rw[c1] at HRL;clear c1 HNX HBD;go_wp2_with fail;refine (HRL.out _).mono ?_;rintro e w1 ⟨rfl,rfl⟩;go_wp2_with fail
    go_round
    case rel=>exact ⟨k+1,by omega,by go_num,HS.out⟩
    case measure=>simp [intOf];omega
   | false =>
    have HR:=Hd (HBD.out c1);rw[c1] at HRL;clear c1 HNX HBD;go_wp2_with fail;refine (HRL.out _).mono ?_;rintro e w1 ⟨rfl,rfl⟩;go_wp2_with fail;go_ret;exact ⟨zaN HR.out.symm,Kept.refl _⟩
  ·obtain rfl:k=l.length:=(by omega);have HR:=Hd (HO.out (fun k hk=>HN.out k hk hk));by_cases d1:1<=l.length
   ·have e1:decide (1<=(l.length:Int))=true:=decide_eq_true (by omega);by_cases d2:l.length<=20
    ·have e2:decide ((l.length:Int)<=20)=true:=decide_eq_true (by omega);rw[e1,e2] at HR;go_wp2_with fail;go_ret;exact ⟨zaN HR.out.symm,Kept.refl _⟩
    ·have e2:decide ((l.length:Int)<=20)=false:=decide_eq_false (by omega);rw[e1,e2] at HR;go_wp2_with fail;go_ret;exact ⟨zaN HR.out.symm,Kept.refl _⟩
   ·have e1:decide (1<=(l.length:Int))=false:=decide_eq_false (by omega);rw[e1,Bool.false_and] at HR;go_wp2_with fail;go_ret;exact ⟨zaN HR.out.symm,Kept.refl _⟩
def WrdSt (c:UInt8) (t:Bs) (k fr:Nat) (xs:List Bs):Prop:=k<=t.length/\fr<=k/\xs=(zi7 c (t.take k)).1/\(t.take k).drop fr=(zi7 c (t.take k)).2
theorem WrdSt.start (c:UInt8) (t:Bs):WrdSt c t 0 0 []:=⟨Nat.zero_le _,Nat.le_refl _,by simp [zi7],by simp [zi7]⟩
theorem WrdSt.feed {c:UInt8} {t:Bs} {k fr:Nat} {xs:List Bs} (h:WrdSt c t k fr xs) (hk:k<t.length) (hb:t[k]=c):WrdSt c t (k+1) (k+1) (xs ++ [(t.drop fr).take (k - fr)])/\fr<=k:=by
 obtain ⟨h1,h2,h3,h4⟩:=h;refine ⟨⟨by omega,Nat.le_refl _,?_,?_⟩,h2⟩
 ·rw[zbT t k hk,zb3,hb];rw[show (t.drop fr).take (k - fr)=(t.take k).drop fr from by rw[List.drop_take],h4,h3];simp [zbS]
 ·rw[zbT t k hk,zb3,hb];rw[List.drop_of_length_le (by simp;omega)];simp [zbS]
theorem WrdSt.other {c:UInt8} {t:Bs} {k fr:Nat} {xs:List Bs} (h:WrdSt c t k fr xs) (hk:k<t.length) (hb:t[k]≠c):WrdSt c t (k+1) fr xs/\fr<=k:=by
 obtain ⟨h1,h2,h3,h4⟩:=h;refine ⟨⟨by omega,by omega,?_,?_⟩,h2⟩
 ·rw[zbT t k hk,zb3];simp [zbS,hb,h3]
 ·rw[zbT t k hk,zb3,List.drop_append_of_le_length (by simp;omega),h4];simp [zbS,hb]
theorem WrdSt.done {c:UInt8} {t:Bs} {fr:Nat} {xs:List Bs} (h:WrdSt c t t.length fr xs):fr<=t.length/\za1 c t=xs ++ [t.drop fr]:=by
 obtain ⟨h1,h2,h3,h4⟩:=h;rw[List.take_of_length_le (Nat.le_refl _)] at h3 h4;refine ⟨h2,?_⟩;unfold za1;rw[h3,<- h4]
theorem zr6 (t:Bs) (w:World) (ht:t.length<=1100000):Calls Tryz.prog 109 #[.string (bs t)] w (SliP (za1 32 t) w):=by
 obtain ⟨i0',hi',hz0,hz1,hz2⟩:=info_parts Tryz.infoStr;go_enter Tryz.func109,Tryz.ntmps109;go_wp2_with fail;go_loopw [3,4,5] (fun v fv i wr=>∃ (k fr:Nat) (xs:List Bs),k<=t.length/\i=.int .i64 k/\fv=.int .i64 fr/\fr<=k/\xs.length<=k/\wr.ownsRow w.heap.size 9 1 v xs.length (zaF xs)/\Hid (WrdSt 32 t k fr xs)/\Kept w wr) (fun _ _ i _=>t.length - (intOf i).toNat)
 case atStart=>exact ⟨0,0,[],Nat.zero_le _,rfl,rfl,Nat.zero_le _,Nat.le_refl _,World.ownsRow_nil _ _ _ _,WrdSt.start 32 t,Kept.refl _⟩
 case round =>
  obtain ⟨k,fr,xs,hk,rfl,rfl,hfr,hxl,hown,HS,hkr⟩:=hrel;have hsz:w.heap.size<=wr.heap.size:=hkr.size;have HKR:=Hd hkr;have HOWN:=Hd hown;clear hkr hown;by_cases hlt:k<t.length
  ·have i0:=zc0 (P:=Tryz.prog) (t:=9) Tryz.underlying9 t k hlt k rfl;have HC:Hid (at8 t k=32↔t[k]=32):=(by show _↔_;rw[zbE t k hlt];exact zeY _ 32 (by decide));by_cases hb:at8 t k=32
   ·obtain ⟨hst,hfk⟩:=HS.out.feed hlt (HC.out.1 hb);have sl:=zhH (P:=Tryz.prog) (t:=9) Tryz.underlying9 t fr k hfk (by omega) fr k rfl rfl _ rfl;have HST:=Hd hst;have hown:=HOWN.out;have hb':(at8 t k == 32)=true:=(by simpa using hb);generalize (t.drop fr).take (k - fr)=y at *;generalize at8 t k=b at *;clear hst HC hb;go_wp2_with (at_builtin;refine wpList_append_own _ rfl _ _ 29 rfl w.heap.size 9 i0' (.string ⟨#[]⟩) 1 16 Tryz.underlying29 hi' hz0 hz1 hz2 rfl (by decide) _ _ _ rfl (hown.alloc _) ⟨wr.heap.size,0,none⟩ 1 1 [.string (bs y)] rfl rfl ?_ ?_ ?_ ?_ ?_ ?_)
    ·exact za0 _ #[.string (bs y)] _ _ (by simp)
    ·intro u hu;simp at hu;subst hu;rfl
    ·unfold maxLen;omega
    ·omega
    ·simp;omega
    intro v' w2 hown2 hgrow _;have HB2:=Hd ((HKR.out.trans (zaA wr _)).trans' (zaI (hown.alloc _) hgrow (by simp;omega)));rw[<- za8] at hown2;have HO:=Hd hown2;clear hown2 hgrow hown;go_wp2_with fail;go_roundw
    case rel=>exact ⟨k+1,k+1,xs ++ [y],by omega,by go_num,by go_num,by omega,by simp;omega,by simpa using HO.out,HST.out,HB2.out⟩
    case measure=>simp [intOf];omega
   ·obtain ⟨hst,hfk⟩:=HS.out.other hlt (fun q=>hb (HC.out.2 q));have HST:=Hd hst;have hb':(at8 t k == 32)=false:=(by simpa using hb);generalize at8 t k=b at *;clear hst HC hb;go_wp2_with fail;go_roundw
    case rel=>exact ⟨k+1,fr,xs,by omega,by go_num,rfl,by omega,by omega,HOWN.out,HST.out,HKR.out⟩
    case measure=>simp [intOf];omega
  ·obtain rfl:k=t.length:=(by omega);obtain ⟨hfl,hfin⟩:=HS.out.done;have HFIN:=Hd hfin;clear hfin;have sl:=zfM (P:=Tryz.prog) (t:=9) Tryz.underlying9 t fr hfl fr rfl _ rfl;have hown:=HOWN.out;generalize t.drop fr=y at *;go_wp2_with (at_builtin;refine wpList_append_own _ rfl _ _ 29 rfl w.heap.size 9 i0' (.string ⟨#[]⟩) 1 16 Tryz.underlying29 hi' hz0 hz1 hz2 rfl (by decide) _ _ _ rfl (hown.alloc _) ⟨wr.heap.size,0,none⟩ 1 1 [.string (bs y)] rfl rfl ?_ ?_ ?_ ?_ ?_ ?_)
   ·exact za0 _ #[.string (bs y)] _ _ (by simp)
   ·intro u hu;simp at hu;subst hu;rfl
   ·unfold maxLen;omega
   ·omega
   ·simp;omega
   intro v' w2 hown2 hgrow _;have HB2:=Hd ((HKR.out.trans (zaA wr _)).trans' (zaI (hown.alloc _) hgrow (by simp;omega)));rw[<- za8] at hown2;have hown3:w2.ownsRow w.heap.size 9 1 v' (xs ++ [y]).length (zaF (xs ++ [y])):=(by simpa using hown2);have HO:Hid (Strs w2 v' (xs ++ [y])):=Strs.own hown3;clear hown3;clear hown2 hgrow hown;go_wp2_with fail;go_ret;exact ⟨_,rfl,by rw[HFIN.out];exact HO.out,HB2.out⟩
theorem zr7 (l:Bs) (w:World) (hl:l.length<=100000):Calls Tryz.prog 55 #[.string (bs l)] w fun e w'=>e=.returned (.int .i64 (znE l))/\Kept w w':=by
 by_cases h0:l=[]
 ·subst h0;go_enter Tryz.func55,Tryz.ntmps55;go_wp2_with fail;go_ret;exact ⟨rfl,Kept.refl _⟩
 have h0':(l == ([]:Bs))=false:=(by simpa using h0);have HE:Hid (znE l=if (za1 32 l).all zo5=false then 13 else if zBU (za1 32 l)=true then 7 else 0):=by
  show _=_;unfold znE;rw[if_neg h0]
 have HSP:=Hd (zr6 l w (by omega));unfold SliP at HSP;have hwl:(za1 32 l).length<=100001:=by
  rw[zcO];have:=List.count_le_length (a:=(32:UInt8)) (l:=l);omega
 generalize znE l=R at *;generalize za1 32 l=ws at *;go_enter Tryz.func55,Tryz.ntmps55;go_wp2_with fail;refine HSP.out.mono ?_;rintro e w1 ⟨v,rfl,hsv,hk1⟩;have HK1:=Hd hk1;have HS1:=Hd hsv;obtain ⟨aw,cw,rfl,hcw⟩:=hsv.form;clear HSP hsv hk1;go_wp2_with fail;go_loopw [4] (fun i wr=>∃ k:Nat,k<=ws.length/\i=.int .i64 k/\Hid (∀ j (hj:j<ws.length),j<k->zo5 ws[j]=true)/\Hid (Kept w1 wr)) (fun i _=>ws.length - (intOf i).toNat)
 case atStart=>exact ⟨0,Nat.zero_le _,rfl,fun j hj h=>by omega,Kept.refl _⟩
 case round =>
  obtain ⟨k,hk,rfl,HN,HKR⟩:=hrel;by_cases hlt:k<ws.length
  ·have hx:=List.getElem?_eq_getElem hlt;obtain ⟨g,o,he,hg,d0,-,-⟩:=(HS1.out.kept HKR.out).cell_of k _ hx;cases he;have HNX:Hid (zo5 ws[k]=true->∀ j (hj:j<ws.length),j<k+1->zo5 ws[j]=true):=by
    intro h j hj hjk;rcases Nat.lt_or_ge j k with q|q
    ·exact HN.out j hj q
    ·obtain rfl:j=k:=(by omega);exact h
   have HBAD:Hid (zo5 ws[k]=false->R=13):=by
    intro h;rw[HE.out,if_pos];exact List.all_eq_false.2 ⟨ws[k],List.getElem_mem hlt,by rw[h];simp⟩
   clear hx;generalize ws[k]=x at *;cases hs:zo5 x with
   | false =>
    have HR:=Hd (HBAD.out hs);obtain ⟨c1,c2,c3,c4⟩:=zq4 hs;clear hs;unfold zdX at c1;unfold zd9 at c2;unfold zl2 at c3;unfold zxN at c4;go_wp2_with fail;go_ret;exact ⟨zaG HR.out.symm,HK1.out.trans HKR.out⟩
   | true =>
    have HNO:=Hd (HNX.out hs);have hc:=zo6 hs;clear hs HBAD HNX HN;rcases hc with rfl|rfl|rfl|rfl
    all_goals
     (first|unfold zdX at d0|unfold zd9 at d0|unfold zl2 at d0|unfold zxN at d0)
     go_wp2_with fail;go_roundw
     case rel=>exact ⟨k+1,by omega,by go_num,HNO.out,HKR.out⟩
     case measure=>simp [intOf];omega
  ·obtain rfl:k=ws.length:=(by omega);have HE2:Hid (R=if zBU ws=true then 7 else 0):=by
    show _=_;rw[HE.out,if_neg];rw[Bool.not_eq_false];refine List.all_eq_true.2 (fun b hb=>?_);obtain ⟨j,hj,e⟩:=List.getElem_of_mem hb;rw[<- e];exact HN.out j hj hj
   have HD1:Hid (∀ i (hi:i<ws.length),(ws.take i).contains ws[i]=true->R=7):=fun i hi h=>(by rw[HE2.out,if_pos (zuQ hi h)]);have HD2:Hid ((∀ i (hi:i<ws.length),(ws.take i).contains ws[i]=false)->R=0):=fun h=>(by rw[HE2.out,zzH h];rfl);have HKS:=Hd HKR.out;clear HE HE2 HN HKR hlt;go_wp2_with fail;go_loopw [5] (fun i wr=>∃ k:Nat,k<=ws.length/\i=.int .i64 k/\Hid (∀ j (hj:j<ws.length),j<k->(ws.take j).contains ws[j]=false)/\Hid (Kept w1 wr)) (fun i _=>ws.length - (intOf i).toNat)
   case atStart=>exact ⟨0,Nat.zero_le _,rfl,fun j hj h=>by omega,HKS.out⟩
   case round =>
    clear HKS;obtain ⟨k,hk,rfl,HN,HKR⟩:=hrel;by_cases hlt:k<ws.length
    ·have hx:=List.getElem?_eq_getElem hlt;obtain ⟨g,o,he,hg,d0,-,-⟩:=(HS1.out.kept HKR.out).cell_of k _ hx;cases he;have HNX:Hid ((ws.take k).contains ws[k]=false->∀ j (hj:j<ws.length),j<k+1->(ws.take j).contains ws[j]=false):=by
      intro h j hj hjk;rcases Nat.lt_or_ge j k with q|q
      ·exact HN.out j hj q
      ·obtain rfl:j=k:=(by omega);exact h
     have HYES:=Hd (HD1.out k hlt);have HHIT:Hid (∀ i (hi:i<ws.length),i<k->ws[i]=ws[k]->(ws.take k).contains ws[k]=true):=fun i hi hik e=>by
      rw[List.contains_iff_mem,<- e];exact List.mem_take_iff_getElem.2 ⟨i,by omega,rfl⟩
     have HMISS:Hid ((∀ i (hi:i<ws.length),i<k->ws[i]≠ws[k])->(ws.take k).contains ws[k]=false):=fun h=>by
      rw[Bool.eq_false_iff];intro q;rw[List.contains_iff_mem] at q;obtain ⟨i,hi,e⟩:=List.mem_take_iff_getElem.1 q;exact h i (by omega) (by omega) e
     have hk1:(k:Int)<=(ws.length:Int):=(by omega);have HKS:=Hd HKR.out;have HX:=Hd hx;clear hx HN HKR;generalize ws[k]=x at *;go_wp2_with fail;go_loopw [6] (fun i wr=>∃ m:Nat,m<=k/\i=.int .i64 m/\Hid (∀ j (hj:j<ws.length),j<m->ws[j]≠x)/\Hid (Kept w1 wr)) (fun i _=>k - (intOf i).toNat)
     case atStart=>exact ⟨0,Nat.zero_le _,rfl,fun j hj h=>by omega,HKS.out⟩
     case round =>
      clear HKS hg d0;obtain ⟨m,hm,rfl,HM,HKR⟩:=hrel;by_cases hlt2:m<k
      ·have hml:m<ws.length:=(by omega);have hy:=List.getElem?_eq_getElem hml;obtain ⟨g,o,he,hg,d0,-,-⟩:=(HS1.out.kept HKR.out).cell_of m _ hy;cases he;obtain ⟨g2,o2,he2,hg2,dx,-,-⟩:=(HS1.out.kept HKR.out).cell_of k x HX.out;cases he2;have HH:=Hd (HHIT.out m hml hlt2);have HMX:Hid (ws[m]≠x->∀ j (hj:j<ws.length),j<m+1->ws[j]≠x):=by
        intro h j hj hjk;rcases Nat.lt_or_ge j m with q|q
        ·exact HM.out j hj q
        ·obtain rfl:j=m:=(by omega);exact h
       clear hy HM;generalize ws[m]=y at *;by_cases hxy:y=x
       ·have HR:=Hd (HYES.out (HH.out hxy));subst hxy;go_wp2_with fail
        go_quiet (fail)
        all_goals
         have HKZ:=Hd (HKR.out.trans (zaB wr nq));go_wp2_with fail;go_ret;exact ⟨zaG HR.out.symm,HK1.out.trans HKZ.out⟩
       ·have hxy':(y == x)=false:=(by simpa using hxy);have HNO:=Hd (HMX.out hxy);clear hxy;go_wp2_with fail
        go_quiet (fail)
        all_goals
         have HKZ:=Hd (HKR.out.trans (zaB wr nq));go_wp2_with fail;go_roundw
         case rel=>exact ⟨m+1,by omega,by go_num,HNO.out,HKZ.out⟩
         case measure=>simp [intOf];omega
      ·obtain rfl:m=k:=(by omega);have HNO:=Hd (HNX.out (HMISS.out (fun i hi hik=>HM.out i hi hik)));clear HM;go_wp2_with fail;go_roundw
       case rel=>exact ⟨m+1,by omega,by go_num,HNO.out,HKR.out⟩
       case measure=>simp [intOf];omega
    ·obtain rfl:k=ws.length:=(by omega);have HR:=Hd (HD2.out (fun i hi=>HN.out i hi hi));go_wp2_with fail;go_ret;exact ⟨zaG HR.out.symm,HK1.out.trans HKR.out⟩
end Go.Proofs.YtmcoomlkbgiboaaGreatDoor
