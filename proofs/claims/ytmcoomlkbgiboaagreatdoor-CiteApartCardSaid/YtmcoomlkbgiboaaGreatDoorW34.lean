/- template and num of publisherref31. Conditions: lengths. -/
import Derived.Test.YtmcoomlkbgiboaaGreatDoorW33
import Derived.Test.YtmcoomlkbgiboaaGreatDoorW20
import Derived.Test.YtmcoomlkbgiboaaGreatDoorW22
import Derived.Test.YtmcoomlkbgiboaaGreatDoorW03
import Derived.Test.YtmcoomlkbgiboaaGreatDoorW25
import Derived.Test.YtmcoomlkbgiboaaGreatDoorW04
import Derived.Test.YtmcoomlkbgiboaaGreatDoorW07
import Derived.Test.YtmcoomlkbgiboaaGreatDoorW19
import Derived.Test.YtmcoomlkbgiboaaGreatDoorW08
import Derived.Deep.RegionHeld3
import Derived.BigQuiet
set_option linter.all false
set_option maxRecDepth 100000
set_option maxHeartbeats 6400000
namespace Go.Proofs.YtmcoomlkbgiboaaGreatDoor
open Go.RowKit
theorem zCq (t:Bs):(zm1 t).isSome=(zj2 t).isSome:=by
 unfold zm1;cases zj2 t <;> rfl
theorem zEI {t:Bs} (h:zcU t=0):zm1 t=some (ztW (zeC t)):=by
 unfold zm1;have h1:zeC t=(zj2 t).getD []:=(by unfold zeC;rw[if_pos h]);rw[h1];unfold zcU at h
 split at h
 ·cases h
 ·split at h
  ·rename_i q;cases hs:zj2 t with
   | none=>rw[hs] at q;cases q
   | some l=>rfl
  ·cases h
theorem zCr {t:Bs} {b c:Bool} (h1:lnB t=b) (h2:(zm1 t).isSome=c):zcU t=if b=false then 17 else if c=true then 0 else 5:=by
 subst h1 h2;unfold zcU;rw[zCq]
theorem zfR (t:Bs) (w:World) (ht:t.length<=100000):Calls Tryz.prog 110 #[.string (bs t)] w fun e w'=>e=.returned (.int .i64 (zcU t))/\Kept w w':=by
 have HL:=Hd (fun w=>zfQ t w (by omega));have HP:=Hd (fun w=>znV t w ht);unfold PartsP at HP;obtain ⟨b,HB⟩:∃ b,Hid (lnB t=b):=⟨_,rfl⟩;obtain ⟨c,HC⟩:∃ c,Hid ((zm1 t).isSome=c):=⟨_,rfl⟩;have HE:=Hd (zCr HB.out HC.out);rw[HE.out];rw[HB.out] at HL;rw[HC.out] at HP;clear HB HC HE;generalize zm1 t=S at *;go_enter Tryz.func110,Tryz.ntmps110;go_wp2_with fail;refine (HL.out _).mono ?_;rintro e w1 ⟨rfl,hk1⟩;have HK1:=Hd hk1;clear hk1;cases b with
 | false =>
  go_wp2_with fail;go_ret;exact ⟨rfl,HK1.out⟩
 | true =>
  go_wp2_with fail;refine (HP.out _).mono ?_;rintro e w2 ⟨v,rfl,hv,-,hk2⟩;have HK2:=Hd (HK1.out.trans hk2);clear hk2;cases c with
  | false =>
   go_wp2_with fail;go_ret;exact ⟨rfl,HK2.out⟩
  | true =>
   go_wp2_with fail;go_ret;exact ⟨rfl,HK2.out⟩
theorem ziR:∀ (f:Nat) (r:Bs) (G g:Nat) (l:List Rp),zj4 f r G g=some l->l.length<=r.length
 | 0,_,_,_,_,h=>by cases h
 | f+1,[],G,g,l,h=>by
  rw[zkK] at h
  split at h
  ·cases h;simp
  ·cases h
 | f+1,b :: r,G,g,l,h=>by
  cases hin:za9 zbY b with
  | false =>
   rw[zoI _ _ _ hin,Option.map_eq_some_iff] at h;obtain ⟨l',h1,rfl⟩:=h;have:=ziR f r G g l' h1;simp only[List.length_cons];omega
  | true =>
   rcases zcI hin with rfl|rfl|rfl|rfl
   ·rw[zoJ] at h
    split at h
    ·rw[Option.map_eq_some_iff] at h;obtain ⟨l',h1,rfl⟩:=h;have:=ziR f _ G g l' h1;rw[List.length_drop] at this;simp only[List.length_cons];omega
    ·cases h
   ·rw[zoK] at h;cases h
   ·rw[zlN] at h
    split at h
    ·have:=ziR f r _ _ l h;simp only[List.length_cons];omega
    ·cases h
   ·rw[zlO] at h
    split at h
    ·cases h
    ·have:=ziR f r _ _ l h;simp only[List.length_cons];omega
theorem zEJ:∀ k:Fin 256,(zdZ (UInt8.ofNat k.val) || zcA.contains (UInt8.ofNat k.val))=((decide (97<=k.val) && decide (k.val<=122)) || ((decide (48<=k.val) && decide (k.val<=57)) || decide (k.val=45))):=by decide +kernel
theorem zEK (b:UInt8):(zdZ b || zcA.contains b)=((decide (97<=b.toNat) && decide (b.toNat<=122)) || ((decide (48<=b.toNat) && decide (b.toNat<=57)) || decide (b.toNat=45))):=by
 have:=zEJ ⟨b.toNat,b.toNat_lt⟩;simpa using this
theorem zrF {l:Bs} {m:Int} {more:Bs} (h:∀ k (hk:k<l.length),(zdZ l[k] || more.contains l[k])=true):za6 l m more=(decide (1<=(l.length:Int)) && decide ((l.length:Int)<=m)):=by
 unfold za6;have:(l.all fun b=>zdZ b || more.contains b)=true:=List.all_eq_true.2 (fun b hb=>by
  obtain ⟨k,hk,e⟩:=List.getElem_of_mem hb;rw[<- e];exact h k hk)
 rw[this,Bool.and_true];congr 1;rw[decide_eq_decide];omega
theorem zrG {l:Bs} {m:Int} {more:Bs} {k:Nat} (hk:k<l.length) (h:(zdZ l[k] || more.contains l[k])=false):za6 l m more=false:=by
 unfold za6;have:(l.all fun b=>zdZ b || more.contains b)=false:=List.all_eq_false.2 ⟨l[k],List.getElem_mem hk,by rw[h];simp⟩;rw[this];simp
theorem zs2 (l:Bs) (w:World) (hl:l.length<=9223372036854775807):Calls Tryz.prog 54 #[.string (bs l)] w fun e w'=>e=.returned (.bool (za6 l 60 zcA))/\Kept w w':=by
 have HB:Hid (∀ k (hk:k<l.length),(zdZ l[k] || zcA.contains l[k])=false->za6 l 60 zcA=false):=fun k hk h=>zrG hk h;have HO:Hid ((∀ k (hk:k<l.length),(zdZ l[k] || zcA.contains l[k])=true)->za6 l 60 zcA=(decide (1<=(l.length:Int)) && decide ((l.length:Int)<=60))):=fun h=>zrF h;generalize za6 l 60 zcA=R at *;go_enter Tryz.func54,Tryz.ntmps54;go_wp2_with fail
 go_loop [3] (fun i=>∃ k:Nat,k<=l.length/\i=.int .i64 k/\Hid (∀ j (hj:j<l.length),j<k->(zdZ l[j] || zcA.contains l[j])=true)) (fun i=>l.length - (intOf i).toNat)
 case atStart=>exact ⟨0,Nat.zero_le _,rfl,fun j hj h=>by omega⟩
 case round =>
  obtain ⟨k,hk,rfl,HN⟩:=hrel;by_cases hlt:k<l.length
  ·have i0:=zb6 (P:=Tryz.prog) (t:=9) Tryz.underlying9 l k hlt k rfl;have h80:=zeT l k;have h81:=zk0 l k;have HRL:=Hd (fun w=>zkT (at8 l k) w h80 h81);have HC:Hid ((zdZ l[k] || zcA.contains l[k])=((decide (97<=at8 l k) && decide (at8 l k<=122)) || ((decide (48<=at8 l k) && decide (at8 l k<=57)) || decide (at8 l k=45)))):=by
    show _=_;rw[zEK,za7 l k hlt];have z:∀ (p q:Prop) [Decidable p] [Decidable q],(p↔q)->decide p=decide q:=fun p q _ _ h=>(by rw[decide_eq_decide];exact h);rw[z (97<=l[k].toNat) (97<=(l[k].toNat:Int)) (by omega),z (l[k].toNat<=122) ((l[k].toNat:Int)<=122) (by omega),z (48<=l[k].toNat) (48<=(l[k].toNat:Int)) (by omega),z (l[k].toNat<=57) ((l[k].toNat:Int)<=57) (by omega),z (l[k].toNat=45) ((l[k].toNat:Int)=45) (by omega)]
   have HNX:Hid ((zdZ l[k] || zcA.contains l[k])=true->∀ j (hj:j<l.length),j<k+1->(zdZ l[j] || zcA.contains l[j])=true):=fun h j hj hjk=>by
    rcases Nat.lt_or_ge j k with q|q
    ·exact HN.out j hj q
    ·obtain rfl:j=k:=(by omega);exact h
   have HBD:=Hd (HB.out k hlt);rw[HC.out] at HNX HBD;clear HC HN;generalize at8 l k=b at *;cases c1:(decide (97<=b) && decide (b<=122)) with
   | true =>
    have HS:=Hd (HNX.out (by rw[c1];rfl));rw[c1] at HRL;clear c1 HNX HBD;go_wp2_with fail;refine (HRL.out _).mono ?_;rintro e w1 ⟨rfl,rfl⟩;go_wp2_with fail
    go_round
    case rel=>exact ⟨k+1,by omega,by go_num,HS.out⟩
    case measure=>simp [intOf];omega
   | false =>
    rw[c1] at HRL HNX HBD;rw[Bool.false_or] at HNX HBD;clear c1;by_cases d1:b<48
    ·have e1:decide (48<=b)=false:=decide_eq_false (by omega);rw[e1,Bool.false_and,Bool.false_or] at HNX HBD;by_cases d3:b=45
     ·have HS:=Hd (HNX.out (decide_eq_true d3));have d3':(b == 45)=true:=beq_iff_eq.2 d3;have d3n:(b != 45)=false:=(by rw[bne,d3'];rfl);clear HNX HBD d3;go_wp2_with fail;refine (HRL.out _).mono ?_;rintro e w1 ⟨rfl,rfl⟩;go_wp2_with fail
      go_round
      case rel=>exact ⟨k+1,by omega,by go_num,HS.out⟩
      case measure=>simp [intOf];omega
     ·have HR:=Hd (HBD.out (decide_eq_false d3));have d3':(b == 45)=false:=beq_eq_false_iff_ne.2 d3;have d3n:(b != 45)=true:=(by rw[bne,d3'];rfl);clear HNX HBD;go_wp2_with fail;refine (HRL.out _).mono ?_;rintro e w1 ⟨rfl,rfl⟩;go_wp2_with fail;go_ret;exact ⟨zaH HR.out.symm,Kept.refl _⟩
    ·have e1:decide (48<=b)=true:=decide_eq_true (by omega);rw[e1,Bool.true_and] at HNX HBD;by_cases d2:57<b
     ·have e2:decide (b<=57)=false:=decide_eq_false (by omega);have d3:¬ b=45:=(by omega);have e3:decide (b=45)=false:=decide_eq_false d3;have d3':(b == 45)=false:=beq_eq_false_iff_ne.2 d3;have d3n:(b != 45)=true:=(by rw[bne,d3'];rfl);have HR:=Hd (HBD.out (by rw[e2,e3];rfl));clear HNX HBD;go_wp2_with fail;refine (HRL.out _).mono ?_;rintro e w1 ⟨rfl,rfl⟩;go_wp2_with fail;go_ret;exact ⟨zaH HR.out.symm,Kept.refl _⟩
     ·have e2:decide (b<=57)=true:=decide_eq_true (by omega);have HS:=Hd (HNX.out (by rw[e2];rfl));clear HNX HBD;go_wp2_with fail;refine (HRL.out _).mono ?_;rintro e w1 ⟨rfl,rfl⟩;go_wp2_with fail
      go_round
      case rel=>exact ⟨k+1,by omega,by go_num,HS.out⟩
      case measure=>simp [intOf];omega
  ·obtain rfl:k=l.length:=(by omega);have HR:=Hd (HO.out (fun k hk=>HN.out k hk hk));by_cases d1:1<=l.length
   ·have e1:decide (1<=(l.length:Int))=true:=decide_eq_true (by omega);by_cases d2:l.length<=60
    ·have e2:decide ((l.length:Int)<=60)=true:=decide_eq_true (by omega);rw[e1,e2] at HR;go_wp2_with fail;go_ret;exact ⟨zaH HR.out.symm,Kept.refl _⟩
    ·have e2:decide ((l.length:Int)<=60)=false:=decide_eq_false (by omega);rw[e1,e2] at HR;go_wp2_with fail;go_ret;exact ⟨zaH HR.out.symm,Kept.refl _⟩
   ·have e1:decide (1<=(l.length:Int))=false:=decide_eq_false (by omega);rw[e1,Bool.false_and] at HR;go_wp2_with fail;go_ret;exact ⟨zaH HR.out.symm,Kept.refl _⟩
theorem zs3 (l:Bs) (w:World) (hl:l.length<=9223372036854775807):Calls Tryz.prog 114 #[.string (bs l)] w fun e w'=>e=.returned (.bool (l == [42] || za6 l 20 []))/\Kept w w':=by
 have HB:Hid (∀ k (hk:k<l.length),zdZ l[k]=false->(l == [42] || za6 l 20 [])=(l == [42])):=fun k hk h=>by
  rw[zrG hk (by rw[h];rfl),Bool.or_false]
 have HO:Hid ((∀ k (hk:k<l.length),zdZ l[k]=true)->(l == [42] || za6 l 20 [])=(decide (1<=(l.length:Int)) && decide ((l.length:Int)<=20))):=fun h=>by
  rw[zrF (fun k hk=>by rw[h k hk];rfl)];have:(l == [42])=false:=by
   rw[beq_eq_false_iff_ne];rintro rfl;exact absurd (h 0 (by simp)) (by decide)
  rw[this,Bool.false_or]
 generalize (l == [42] || za6 l 20 [])=R at *;obtain ⟨bs42,H42⟩:∃ b,Hid ((l == [42])=b):=⟨_,rfl⟩;have h42:=H42.out;rw[H42.out] at HB;go_enter Tryz.func114,Tryz.ntmps114;go_wp2_with fail
 go_loop [3] (fun i=>∃ k:Nat,k<=l.length/\i=.int .i64 k/\Hid (∀ j (hj:j<l.length),j<k->zdZ l[j]=true)) (fun i=>l.length - (intOf i).toNat)
 case atStart=>exact ⟨0,Nat.zero_le _,rfl,fun j hj h=>by omega⟩
 case round =>
  obtain ⟨k,hk,rfl,HN⟩:=hrel;by_cases hlt:k<l.length
  ·have i0:=zb6 (P:=Tryz.prog) (t:=9) Tryz.underlying9 l k hlt k rfl;have h80:=zeT l k;have h81:=zk0 l k;have HRL:=Hd (fun w=>zkT (at8 l k) w h80 h81);have HC:Hid (zdZ l[k]=(decide (97<=at8 l k) && decide (at8 l k<=122))):=by
    show _=_;rw[za7 l k hlt];rfl
   have HNX:Hid (zdZ l[k]=true->∀ j (hj:j<l.length),j<k+1->zdZ l[j]=true):=fun h j hj hjk=>by
    rcases Nat.lt_or_ge j k with q|q
    ·exact HN.out j hj q
    ·obtain rfl:j=k:=(by omega);exact h
   have HBD:=Hd (HB.out k hlt);rw[HC.out] at HNX HBD;clear HC HN;generalize at8 l k=b at *;cases c1:(decide (97<=b) && decide (b<=122)) with
   | true =>
    have HS:=Hd (HNX.out c1);rw[c1] at HRL;clear c1 HNX HBD;go_wp2_with fail;refine (HRL.out _).mono ?_;rintro e w1 ⟨rfl,rfl⟩;go_wp2_with fail
    go_round
    case rel=>exact ⟨k+1,by omega,by go_num,HS.out⟩
    case measure=>simp [intOf];omega
   | false =>
    have HR:=Hd (HBD.out c1);rw[c1] at HRL;clear c1 HNX HBD;go_wp2_with fail;refine (HRL.out _).mono ?_;rintro e w1 ⟨rfl,rfl⟩;go_wp2_with fail;go_ret;exact ⟨zaH HR.out.symm,Kept.refl _⟩
  ·obtain rfl:k=l.length:=(by omega);have HR:=Hd (HO.out (fun k hk=>HN.out k hk hk));by_cases d1:1<=l.length
   ·have e1:decide (1<=(l.length:Int))=true:=decide_eq_true (by omega);by_cases d2:l.length<=20
    ·have e2:decide ((l.length:Int)<=20)=true:=decide_eq_true (by omega);rw[e1,e2] at HR;go_wp2_with fail;go_ret;exact ⟨zaH HR.out.symm,Kept.refl _⟩
    ·have e2:decide ((l.length:Int)<=20)=false:=decide_eq_false (by omega);rw[e1,e2] at HR;go_wp2_with fail;go_ret;exact ⟨zaH HR.out.symm,Kept.refl _⟩
   ·have e1:decide (1<=(l.length:Int))=false:=decide_eq_false (by omega);rw[e1,Bool.false_and] at HR;go_wp2_with fail;go_ret;exact ⟨zaH HR.out.symm,Kept.refl _⟩
def WrdSt (c:UInt8) (t:Bs) (k fr:Nat) (xs:List Bs):Prop:=k<=t.length/\fr<=k/\xs=(zhO c (t.take k)).1/\(t.take k).drop fr=(zhO c (t.take k)).2
theorem WrdSt.start (c:UInt8) (t:Bs):WrdSt c t 0 0 []:=⟨Nat.zero_le _,Nat.le_refl _,by simp [zhO],by simp [zhO]⟩
theorem WrdSt.feed {c:UInt8} {t:Bs} {k fr:Nat} {xs:List Bs} (h:WrdSt c t k fr xs) (hk:k<t.length) (hb:t[k]=c):WrdSt c t (k+1) (k+1) (xs ++ [(t.drop fr).take (k - fr)])/\fr<=k:=by
 obtain ⟨h1,h2,h3,h4⟩:=h;refine ⟨⟨by omega,Nat.le_refl _,?_,?_⟩,h2⟩
 ·rw[zdI t k hk,zd3,hb];rw[show (t.drop fr).take (k - fr)=(t.take k).drop fr from by rw[List.drop_take],h4,h3];simp [zb0]
 ·rw[zdI t k hk,zd3,hb];rw[List.drop_of_length_le (by simp;omega)];simp [zb0]
theorem WrdSt.other {c:UInt8} {t:Bs} {k fr:Nat} {xs:List Bs} (h:WrdSt c t k fr xs) (hk:k<t.length) (hb:t[k]≠c):WrdSt c t (k+1) fr xs/\fr<=k:=by
 obtain ⟨h1,h2,h3,h4⟩:=h;refine ⟨⟨by omega,by omega,?_,?_⟩,h2⟩
 ·rw[zdI t k hk,zd3];simp [zb0,hb,h3]
 ·rw[zdI t k hk,zd3,List.drop_append_of_le_length (by simp;omega),h4];simp [zb0,hb]
theorem WrdSt.done {c:UInt8} {t:Bs} {fr:Nat} {xs:List Bs} (h:WrdSt c t t.length fr xs):fr<=t.length/\za4 c t=xs ++ [t.drop fr]:=by
 obtain ⟨h1,h2,h3,h4⟩:=h;rw[List.take_of_length_le (Nat.le_refl _)] at h3 h4;refine ⟨h2,?_⟩;unfold za4;rw[h3,<- h4]
theorem zrH (t:Bs) (w:World) (ht:t.length<=1100000):Calls Tryz.prog 109 #[.string (bs t)] w (SliP (za4 32 t) w):=by
 obtain ⟨i0',hi',hz0,hz1,hz2⟩:=info_parts Tryz.infoStr;go_enter Tryz.func109,Tryz.ntmps109;go_wp2_with fail;go_loopw [3,4,5] (fun v fv i wr=>∃ (k fr:Nat) (xs:List Bs),k<=t.length/\i=.int .i64 k/\fv=.int .i64 fr/\fr<=k/\xs.length<=k/\wr.ownsRow w.heap.size 9 1 v xs.length (zaG xs)/\Hid (WrdSt 32 t k fr xs)/\Kept w wr) (fun _ _ i _=>t.length - (intOf i).toNat)
 case atStart=>exact ⟨0,0,[],Nat.zero_le _,rfl,rfl,Nat.zero_le _,Nat.le_refl _,World.ownsRow_nil _ _ _ _,WrdSt.start 32 t,Kept.refl _⟩
 case round =>
  obtain ⟨k,fr,xs,hk,rfl,rfl,hfr,hxl,hown,HS,hkr⟩:=hrel;have hsz:w.heap.size<=wr.heap.size:=hkr.size;have HKR:=Hd hkr;have HOWN:=Hd hown;clear hkr hown;by_cases hlt:k<t.length
  ·have i0:=zb6 (P:=Tryz.prog) (t:=9) Tryz.underlying9 t k hlt k rfl;have HC:Hid (at8 t k=32↔t[k]=32):=(by show _↔_;rw[za7 t k hlt];exact zcZ _ 32 (by decide));by_cases hb:at8 t k=32
   ·obtain ⟨hst,hfk⟩:=HS.out.feed hlt (HC.out.1 hb);have sl:=zk1 (P:=Tryz.prog) (t:=9) Tryz.underlying9 t fr k hfk (by omega) fr k rfl rfl _ rfl;have HST:=Hd hst;have hown:=HOWN.out;have hb':(at8 t k == 32)=true:=(by simpa using hb);generalize (t.drop fr).take (k - fr)=y at *;generalize at8 t k=b at *;clear hst HC hb;go_wp2_with (at_builtin;refine wpList_append_own _ rfl _ _ 29 rfl w.heap.size 9 i0' (.string ⟨#[]⟩) 1 16 Tryz.underlying29 hi' hz0 hz1 hz2 rfl (by decide) _ _ _ rfl (hown.alloc _) ⟨wr.heap.size,0,none⟩ 1 1 [.string (bs y)] rfl rfl ?_ ?_ ?_ ?_ ?_ ?_)
    ·exact za5 _ #[.string (bs y)] _ _ (by simp)
    ·intro u hu;simp at hu;subst hu;rfl
    ·unfold maxLen;omega
    ·omega
    ·simp;omega
    intro v' w2 hown2 hgrow _;have HB2:=Hd ((HKR.out.trans (zaA wr _)).trans' (zaO (hown.alloc _) hgrow (by simp;omega)));rw[<- zbF] at hown2;have HO:=Hd hown2;clear hown2 hgrow hown;go_wp2_with fail;go_roundw
    case rel=>exact ⟨k+1,k+1,xs ++ [y],by omega,by go_num,by go_num,by omega,by simp;omega,by simpa using HO.out,HST.out,HB2.out⟩
    case measure=>simp [intOf];omega
   ·obtain ⟨hst,hfk⟩:=HS.out.other hlt (fun q=>hb (HC.out.2 q));have HST:=Hd hst;have hb':(at8 t k == 32)=false:=(by simpa using hb);generalize at8 t k=b at *;clear hst HC hb;go_wp2_with fail;go_roundw
    case rel=>exact ⟨k+1,fr,xs,by omega,by go_num,rfl,by omega,by omega,HOWN.out,HST.out,HKR.out⟩
    case measure=>simp [intOf];omega
  ·obtain rfl:k=t.length:=(by omega);obtain ⟨hfl,hfin⟩:=HS.out.done;have HFIN:=Hd hfin;clear hfin;have sl:=zeD (P:=Tryz.prog) (t:=9) Tryz.underlying9 t fr hfl fr rfl _ rfl;have hown:=HOWN.out;generalize t.drop fr=y at *;go_wp2_with (at_builtin;refine wpList_append_own _ rfl _ _ 29 rfl w.heap.size 9 i0' (.string ⟨#[]⟩) 1 16 Tryz.underlying29 hi' hz0 hz1 hz2 rfl (by decide) _ _ _ rfl (hown.alloc _) ⟨wr.heap.size,0,none⟩ 1 1 [.string (bs y)] rfl rfl ?_ ?_ ?_ ?_ ?_ ?_)
   ·exact za5 _ #[.string (bs y)] _ _ (by simp)
   ·intro u hu;simp at hu;subst hu;rfl
   ·unfold maxLen;omega
   ·omega
   ·simp;omega
   intro v' w2 hown2 hgrow _;have HB2:=Hd ((HKR.out.trans (zaA wr _)).trans' (zaO (hown.alloc _) hgrow (by simp;omega)));rw[<- zbF] at hown2;have hown3:w2.ownsRow w.heap.size 9 1 v' (xs ++ [y]).length (zaG (xs ++ [y])):=(by simpa using hown2);have HO:Hid (Strs w2 v' (xs ++ [y])):=Strs.own hown3;clear hown3;clear hown2 hgrow hown;go_wp2_with fail;go_ret;exact ⟨_,rfl,by rw[HFIN.out];exact HO.out,HB2.out⟩
theorem zrI (l:Bs) (w:World) (hl:l.length<=100000):Calls Tryz.prog 55 #[.string (bs l)] w fun e w'=>e=.returned (.int .i64 (zm2 l))/\Kept w w':=by
 by_cases h0:l=[]
 ·subst h0;go_enter Tryz.func55,Tryz.ntmps55;go_wp2_with fail;go_ret;exact ⟨rfl,Kept.refl _⟩
 have h0':(l == ([]:Bs))=false:=(by simpa using h0);have HE:Hid (zm2 l=if (za4 32 l).all zoM=false then 13 else if zBx (za4 32 l)=true then 7 else 0):=by
  show _=_;unfold zm2;rw[if_neg h0]
 have HSP:=Hd (zrH l w (by omega));unfold SliP at HSP;have hwl:(za4 32 l).length<=100001:=by
  rw[zcY];have:=List.count_le_length (a:=(32:UInt8)) (l:=l);omega
 generalize zm2 l=R at *;generalize za4 32 l=ws at *;go_enter Tryz.func55,Tryz.ntmps55;go_wp2_with fail;refine HSP.out.mono ?_;rintro e w1 ⟨v,rfl,hsv,hk1⟩;have HK1:=Hd hk1;have HS1:=Hd hsv;obtain ⟨aw,cw,rfl,hcw⟩:=hsv.form;clear HSP hsv hk1;go_wp2_with fail;go_loopw [4] (fun i wr=>∃ k:Nat,k<=ws.length/\i=.int .i64 k/\Hid (∀ j (hj:j<ws.length),j<k->zoM ws[j]=true)/\Hid (Kept w1 wr)) (fun i _=>ws.length - (intOf i).toNat)
 case atStart=>exact ⟨0,Nat.zero_le _,rfl,fun j hj h=>by omega,Kept.refl _⟩
 case round =>
  obtain ⟨k,hk,rfl,HN,HKR⟩:=hrel;by_cases hlt:k<ws.length
  ·have hx:=List.getElem?_eq_getElem hlt;obtain ⟨g,o,he,hg,d0,-,-⟩:=(HS1.out.kept HKR.out).cell_of k _ hx;cases he;have HNX:Hid (zoM ws[k]=true->∀ j (hj:j<ws.length),j<k+1->zoM ws[j]=true):=by
    intro h j hj hjk;rcases Nat.lt_or_ge j k with q|q
    ·exact HN.out j hj q
    ·obtain rfl:j=k:=(by omega);exact h
   have HBAD:Hid (zoM ws[k]=false->R=13):=by
    intro h;rw[HE.out,if_pos];exact List.all_eq_false.2 ⟨ws[k],List.getElem_mem hlt,by rw[h];simp⟩
   clear hx;generalize ws[k]=x at *;cases hs:zoM x with
   | false =>
    have HR:=Hd (HBAD.out hs);obtain ⟨c1,c2,c3,c4⟩:=zqF hs;clear hs;unfold zdT at c1;unfold zd0 at c2;unfold zlP at c3;unfold zw9 at c4;go_wp2_with fail;go_ret;exact ⟨zaK HR.out.symm,HK1.out.trans HKR.out⟩
   | true =>
    have HNO:=Hd (HNX.out hs);have hc:=zoN hs;clear hs HBAD HNX HN;rcases hc with rfl|rfl|rfl|rfl
    all_goals
     (first|unfold zdT at d0|unfold zd0 at d0|unfold zlP at d0|unfold zw9 at d0)
     go_wp2_with fail;go_roundw
     case rel=>exact ⟨k+1,by omega,by go_num,HNO.out,HKR.out⟩
     case measure=>simp [intOf];omega
  ·obtain rfl:k=ws.length:=(by omega);have HE2:Hid (R=if zBx ws=true then 7 else 0):=by
    show _=_;rw[HE.out,if_neg];rw[Bool.not_eq_false];refine List.all_eq_true.2 (fun b hb=>?_);obtain ⟨j,hj,e⟩:=List.getElem_of_mem hb;rw[<- e];exact HN.out j hj hj
   have HD1:Hid (∀ i (hi:i<ws.length),(ws.take i).contains ws[i]=true->R=7):=fun i hi h=>(by rw[HE2.out,if_pos (ztY hi h)]);have HD2:Hid ((∀ i (hi:i<ws.length),(ws.take i).contains ws[i]=false)->R=0):=fun h=>(by rw[HE2.out,zyW h];rfl);have HKS:=Hd HKR.out;clear HE HE2 HN HKR hlt;go_wp2_with fail;go_loopw [5] (fun i wr=>∃ k:Nat,k<=ws.length/\i=.int .i64 k/\Hid (∀ j (hj:j<ws.length),j<k->(ws.take j).contains ws[j]=false)/\Hid (Kept w1 wr)) (fun i _=>ws.length - (intOf i).toNat)
   case atStart=>exact ⟨0,Nat.zero_le _,rfl,fun j hj h=>by omega,HKS.out⟩
   case round =>
    clear HKS;obtain ⟨k,hk,rfl,HN,HKR⟩:=hrel;by_cases hlt:k<ws.length
    ·have hx:=List.getElem?_eq_getElem hlt;obtain ⟨g,o,he,hg,d0,-,-⟩:=(HS1.out.kept HKR.out).cell_of k _ hx;cases he;have HNX:Hid ((ws.take k).contains ws[k]=false->∀ j (hj:j<ws.length),j<k+1->(ws.take j).contains ws[j]=false):=by
      intro h j hj hjk;rcases Nat.lt_or_ge j k with q|q
      ·exact HN.out j hj q
      ·obtain rfl:j=k:=(by omega);exact h
     have HYES:=Hd (HD1.out k hlt);have HHIT:Hid (∀ i (hi:i<ws.length),i<k->ws[i]=ws[k]->(ws.take k).contains ws[k]=true):=fun i hi hik e=>by
      rw[List.contains_iff_mem,<- e];exact List.mem_take_iff_getElem.2 ⟨i,by omega,rfl⟩
     have HMISS:Hid ((∀ i (hi:i<ws.length),i<k->ws[i]≠ws[k])->(ws.take k).contains ws[k]=false):=fun h=>by
      rw[Bool.eq_false_iff];intro q;rw[List.contains_iff_mem] at q;obtain ⟨i,hi,e⟩:=List.mem_take_iff_getElem.1 q;exact h i (by omega) (by omega) e
     have hk1:(k:Int)<=(ws.length:Int):=(by omega);have HKS:=Hd HKR.out;have HX:=Hd hx;clear hx HN HKR;generalize ws[k]=x at *;go_wp2_with fail;go_loopw [6] (fun i wr=>∃ m:Nat,m<=k/\i=.int .i64 m/\Hid (∀ j (hj:j<ws.length),j<m->ws[j]≠x)/\Hid (Kept w1 wr)) (fun i _=>k - (intOf i).toNat)
     case atStart=>exact ⟨0,Nat.zero_le _,rfl,fun j hj h=>by omega,HKS.out⟩
     case round =>
      clear HKS hg d0;obtain ⟨m,hm,rfl,HM,HKR⟩:=hrel;by_cases hlt2:m<k
      ·have hml:m<ws.length:=(by omega);have hy:=List.getElem?_eq_getElem hml;obtain ⟨g,o,he,hg,d0,-,-⟩:=(HS1.out.kept HKR.out).cell_of m _ hy;cases he;obtain ⟨g2,o2,he2,hg2,dx,-,-⟩:=(HS1.out.kept HKR.out).cell_of k x HX.out;cases he2;have HH:=Hd (HHIT.out m hml hlt2);have HMX:Hid (ws[m]≠x->∀ j (hj:j<ws.length),j<m+1->ws[j]≠x):=by
        intro h j hj hjk;rcases Nat.lt_or_ge j m with q|q
        ·exact HM.out j hj q
        ·obtain rfl:j=m:=(by omega);exact h
       clear hy HM;generalize ws[m]=y at *;by_cases hxy:y=x
       ·have HR:=Hd (HYES.out (HH.out hxy));subst hxy;go_wp2_with fail
        go_quiet (fail)
        all_goals
         have HKZ:=Hd (HKR.out.trans (zaB wr nq));go_wp2_with fail;go_ret;exact ⟨zaK HR.out.symm,HK1.out.trans HKZ.out⟩
       ·have hxy':(y == x)=false:=(by simpa using hxy);have HNO:=Hd (HMX.out hxy);clear hxy;go_wp2_with fail
        go_quiet (fail)
        all_goals
         have HKZ:=Hd (HKR.out.trans (zaB wr nq));go_wp2_with fail;go_roundw
         case rel=>exact ⟨m+1,by omega,by go_num,HNO.out,HKZ.out⟩
         case measure=>simp [intOf];omega
      ·obtain rfl:m=k:=(by omega);have HNO:=Hd (HNX.out (HMISS.out (fun i hi hik=>HM.out i hi hik)));clear HM;go_wp2_with fail;go_roundw
       case rel=>exact ⟨m+1,by omega,by go_num,HNO.out,HKR.out⟩
       case measure=>simp [intOf];omega
    ·obtain rfl:k=ws.length:=(by omega);have HR:=Hd (HD2.out (fun i hi=>HN.out i hi hi));go_wp2_with fail;go_ret;exact ⟨zaK HR.out.symm,HK1.out.trans HKR.out⟩
end Go.Proofs.YtmcoomlkbgiboaaGreatDoor
