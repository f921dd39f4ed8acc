/- Plain: the citations of a bibliography differ. Condition: the style is valid. -/
import Derived.Test.YtmcoomlkbgiboaaGreatDoorW43
import Derived.Test.YtmcoomlkbgiboaaGreatDoorW15
import Derived.Test.YtmcoomlkbgiboaaGreatDoorW08
import Derived.Test.YtmcoomlkbgiboaaGreatDoorW17
import Derived.Test.YtmcoomlkbgiboaaGreatDoorW24
import Derived.Test.YtmcoomlkbgiboaaGreatDoorW30
import Derived.Test.YtmcoomlkbgiboaaGreatDoorW10
set_option linter.all false
set_option maxRecDepth 100000
set_option maxHeartbeats 3200000
namespace Go.Proofs.YtmcoomlkbgiboaaGreatDoor
open Go.RowKit
def apT (y:StyT) (lang:Bs) (O:List SrcT) (ss:List Bs) (i:Nat):Bs:=zcR (zg7 (O.getD i ⟨[],[],[],[],[]⟩) y lang (ss.getD i []) ((i+1:Nat):Int)) y.cite
theorem zrT {y:StyT} {lang:Bs} {O:List SrcT} {ss:List Bs} {i:Nat} {s:SrcT} {u:Bs} (h1:O[i]? = some s) (h2:ss[i]? = some u):apT y lang O ss i=zcR (zg7 s y lang u ((i+1:Nat):Int)) y.cite:=by
 unfold apT;rw[List.getD_eq_getElem?_getD,List.getD_eq_getElem?_getD,h1,h2];rfl
theorem zAH {xs:List CitX} {ns:List Nat} {i:Nat} {x:CitX} {n:Nat} (h1:xs[i]? = some x) (h2:ns[i]? = some n):(zrD xs ns)[i]? = some (zeQ x n):=by
 unfold zrD;rw[List.getElem?_zipWith,h1,h2]
theorem zuO {y:StyT} (hy:zdP y=0) (lang:Bs) (O:List SrcT):(zkC y lang O).2.length=O.length:=by
 unfold zkC;rw[if_pos hy];show (if y.numeric=true then O.map fun _=>[] else (zs0 (O.map (zkU y lang))).map zeB).length=_;by_cases hn:y.numeric=true
 ·rw[if_pos hn,List.length_map]
 ·have hn':y.numeric=false:=(by simpa using hn);rw[if_neg hn,List.length_map,zuE _ (fun x hx=>by
   obtain ⟨s,_,rfl⟩:=List.mem_map.1 hx;exact ziT hy hn' lang s),List.length_map]
theorem zAI (xs:List CitX) (hx:∀ x∈xs,none∈x.2):∀ (n:Nat) (done rest:List CitX),done.length=n->done ++ rest=xs->∀ m∈(zcC (xs.map (·.1)) done).out,m<=2 * xs.length+1:=by
 intro n
 induction n with
 | zero =>
  intro done rest h1 _ m hm;obtain rfl:=List.length_eq_zero_iff.1 h1;cases hm
 | succ n ih =>
  intro done rest h1 h2 m hm;obtain ⟨o,y,rfl⟩:∃ o y,done=o ++ [y]:=⟨done.dropLast,done.getLast (by intro q;subst q;cases h1),(List.dropLast_concat_getLast _).symm⟩;have h3:o ++ y :: rest=xs:=(by rw[<- h2];simp);have h4:=zkS xs hx o (y :: rest) h3;have h5:=ih o (y :: rest) (by simpa using h1) h3;have h6:=zDf h4 (hx y (by rw[<- h3];simp));have h7:=zuF h4 (by rw[List.length_map,<- h3,List.length_append];omega);rw[List.length_map] at h7;rw[zhH] at hm;unfold zgI at hm
  split at hm
  ·rcases List.mem_append.1 hm with q|q
   ·exact h5 m q
   ·rw[List.mem_singleton.1 q];omega
  ·rcases List.mem_append.1 hm with q|q
   ·exact h5 m q
   ·rw[List.mem_singleton.1 q];omega
theorem zAJ {y:StyT} (hy:zdP y=0) {lang:Bs} {O:List SrcT} (hO:O.length<=18) (u:Bs) (h:u∈(zkC y lang O).2):u.length<=100:=by
 unfold zkC at h;rw[if_pos hy] at h;have h:u∈(if y.numeric=true then O.map fun _=>([]:Bs) else (zs0 (O.map (zkU y lang))).map zeB):=h;by_cases hn:y.numeric=true
 ·rw[if_pos hn] at h;obtain ⟨s,_,rfl⟩:=List.mem_map.1 h;simp
 ·have hn':y.numeric=false:=(by simpa using hn);rw[if_neg hn] at h;obtain ⟨m,hm,rfl⟩:=List.mem_map.1 h;have h1:=zAI (O.map (zkU y lang)) (fun x hx=>by
   obtain ⟨s,_,rfl⟩:=List.mem_map.1 hx;exact ziT hy hn' lang s) _ _ [] rfl (List.append_nil _) m hm
  rw[List.length_map] at h1;have:=zuD m;omega
theorem zCW {y:StyT} (hy:zdP y=0) (lang:Bs) (O:List SrcT) (hO:O.length<=18) (h:if y.numeric=true then nB y.cite=mB y.cite else mB y.cite=0) (i j:Nat) (hi:i<O.length) (hj:j<O.length) (hne:i≠j) :
  apT y lang O (zkC y lang O).2 i≠apT y lang O (zkC y lang O).2 j:=by
 have hl:=zuO hy lang O;obtain ⟨s,hs⟩:∃ s,O[i]? = some s:=⟨_,List.getElem?_eq_getElem hi⟩;obtain ⟨t,ht⟩:∃ s,O[j]? = some s:=⟨_,List.getElem?_eq_getElem hj⟩;by_cases hn:y.numeric=true
 ·rw[if_pos hn] at h;have e:(zkC y lang O).2=O.map fun _=>([]:Bs):=(by unfold zkC;rw[if_pos hy];exact if_pos hn);rw[e];have u1:(O.map fun _=>([]:Bs))[i]? = some []:=(by rw[List.getElem?_map,hs];rfl);have u2:(O.map fun _=>([]:Bs))[j]? = some []:=(by rw[List.getElem?_map,ht];rfl);rw[zrT hs u1,zrT ht u2];intro q;have:=zEd hy hn h s t lang (i+1) (j+1) ⟨by omega,by omega⟩ ⟨by omega,by omega⟩ q;omega
 ·have hn':y.numeric=false:=(by simpa using hn);rw[if_neg hn] at h;have e:(zkC y lang O).2=(zs0 (O.map (zkU y lang))).map zeB:=(by unfold zkC;rw[if_pos hy];exact if_neg hn);have hx:∀ x∈O.map (zkU y lang),none∈x.2:=fun x hx=>by
   obtain ⟨s,_,rfl⟩:=List.mem_map.1 hx;exact ziT hy hn' lang s
  have hln:=zuE _ hx;rw[List.length_map] at hln;obtain ⟨m,hm⟩:∃ m,(zs0 (O.map (zkU y lang)))[i]? = some m:=⟨_,List.getElem?_eq_getElem (by omega)⟩;obtain ⟨n,hn2⟩:∃ m,(zs0 (O.map (zkU y lang)))[j]? = some m:=⟨_,List.getElem?_eq_getElem (by omega)⟩;rw[e];have u1:((zs0 (O.map (zkU y lang))).map zeB)[i]? = some (zeB m):=(by rw[List.getElem?_map,hm];rfl);have u2:((zs0 (O.map (zkU y lang))).map zeB)[j]? = some (zeB n):=(by rw[List.getElem?_map,hn2];rfl);rw[zrT hs u1,zrT ht u2,zAG hy h,zAG hy h,zAi hy hn',zAi hy hn'];intro q;have nd:=zAd _ hx;have v1:=zAH (xs:=O.map (zkU y lang)) (i:=i) (by rw[List.getElem?_map,hs];rfl) hm;have v2:=zAH (xs:=O.map (zkU y lang)) (i:=j) (by rw[List.getElem?_map,ht];rfl) hn2;rw[q] at v1;have hlt:i<(zrD (O.map (zkU y lang)) (zs0 (O.map (zkU y lang)))).length:=by
   obtain ⟨z,_⟩:=List.getElem?_eq_some_iff.1 v1;exact z
  exact hne ((List.getElem?_inj hlt nd).1 (by rw[v1,v2]))
theorem zEe {t:Bs} {k:Nat} (h:k<t.length):nB (t.drop k)=nB (t.drop (k+1))+if t[k]=123 then 1 else 0:=by
 rw[List.drop_eq_getElem_cons h];by_cases q:t[k]=123
 ·rw[if_pos q,q,zAD]
 ·rw[if_neg q,zgW q];rfl
theorem zEf {t:Bs} {k:Nat} (h:k<t.length):mB (t.drop k)=mB (t.drop (k+1))+if (t.drop k).take 8=zCS then 1 else 0:=by
 rw[List.drop_eq_getElem_cons h,mB]
theorem zCX {t:Bs} {k:Nat} (h:(t.drop k).take 8=zCS):k+8<=t.length:=by
 have:=congrArg List.length h;rw[List.length_take,List.length_drop] at this;have h8:zCS.length=8:=rfl;rw[h8] at this;omega
theorem zFo (t:Bs):nB t<=t.length:=List.countP_le_length
theorem zEW:∀ t:Bs,mB t<=t.length
 | []=>Nat.le_refl _
 | b :: r=>by
  have:=zEW r;rw[mB,List.length_cons]
  split <;> omega
theorem zrU (t:Bs) (w:World) (ht:t.length<=1100000):Calls Tryz.prog 22 #[.string (bs t)] w fun e w'=>e=.returned (.tuple #[.int .i64 (nB t),.int .i64 (mB t)])/\w'=w:=by
 have hn:=zFo t;have hm:=zEW t;have HN0:Hid (nB t=0+nB (t.drop 0)):=(by show _=_;simp);have HM0:Hid (mB t=0+mB (t.drop 0)):=(by show _=_;simp);obtain ⟨N,HN⟩:∃ N,Hid (nB t=N):=⟨_,rfl⟩;obtain ⟨M,HM⟩:∃ M,Hid (mB t=M):=⟨_,rfl⟩;rw[HN.out] at hn HN0 ⊢;rw[HM.out] at hm HM0 ⊢;clear HN HM;go_enter Tryz.func22,Tryz.ntmps22;go_wp2_with fail;go_loopw [4,5,6] (fun nv mv i wr=>∃ (k n m:Nat),k<=t.length/\i=.int .i64 k/\nv=.int .i64 n/\mv=.int .i64 m/\n<=k/\m<=k/\Hid (N=n+nB (t.drop k))/\Hid (M=m+mB (t.drop k))/\Hid (w=wr)) (fun _ _ i _=>t.length - (intOf i).toNat)
 case atStart=>exact ⟨0,0,0,Nat.zero_le _,rfl,rfl,rfl,Nat.le_refl _,Nat.le_refl _,HN0.out,HM0.out,rfl⟩
 case round =>
  obtain ⟨k,n,m,hk,rfl,rfl,rfl,hnk,hmk,HNR,HMR,HW⟩:=hrel;by_cases hlt:k<t.length
  ·have i0:=zb6 (P:=Tryz.prog) (t:=9) Tryz.underlying9 t k hlt k rfl;have HC:Hid (at8 t k=123↔t[k]=123):=(by show _↔_;rw[za7 t k hlt];exact zcZ _ 123 (by decide));have hw8:IntKind.i64.wrap ((k:Int)+8)=(k:Int)+8:=IntWalk.i64_in _ (by omega);obtain ⟨x,HX⟩:∃ x,Hid ((t.drop k).take 8=x):=⟨_,rfl⟩;have HNS:=Hd (zEe hlt);have HMS:=Hd (zEf hlt);have HL8:Hid (x=zCS->k+8<=t.length):=fun h=>zCX (by rw[HX.out];exact h);rw[HX.out] at HMS;have HSL:Hid (k+8<=t.length->∀ w,(Instr.slice 9 (.string (bs t)) (some (.int .i64 (k:Int))) (some (.int .i64 ((k:Int)+8))) none).run Tryz.prog w=.ok (.string (bs x)) w):=fun h w=>zk1 (P:=Tryz.prog) (t:=9) Tryz.underlying9 t k (k+8) (by omega) h k ((k:Int)+8) rfl (by omega) x (by rw[show k+8 - k=8 by omega];exact HX.out) w;obtain ⟨b,HB⟩:∃ b,Hid (at8 t k=b):=⟨_,rfl⟩;rw[HB.out] at HC i0;obtain ⟨n2,HN2,hn2,hn3⟩:∃ n2:Nat,Hid (N=n2+nB (t.drop (k+1)))/\((b=123/\n2=n+1)\/(b≠123/\n2=n))/\n2<=k+1:=by
    by_cases q:t[k]=123
    ·refine ⟨n+1,?_,.inl ⟨HC.out.2 q,rfl⟩,by omega⟩;show _=_;rw[HNR.out,HNS.out,if_pos q];omega
    ·refine ⟨n,?_,.inr ⟨fun h=>q (HC.out.1 h),rfl⟩,by omega⟩;show _=_;rw[HNR.out,HNS.out,if_neg q];omega
   clear HC HNR HNS HX HB;rcases hn2 with ⟨hb,rfl⟩|⟨hb,rfl⟩
   all_goals
    first
     | (have hb1:(b == 123)=true:=by simpa using hb)
     | (have hb1:(b == 123)=false:=by simpa using hb)
    clear hb;by_cases h8:k+8<=t.length
    ·have s0:=HSL.out h8;have g1:(k:Int)+8<=(t.length:Int):=(by omega);by_cases hx:x=zCS
     ·have HM2:Hid (M=(m+1)+mB (t.drop (k+1))):=(by show _=_;rw[HMR.out,HMS.out,if_pos hx];omega);have hx1:(x == [123,110,117,109,98,101,114,125])=true:=(by rw[beq_iff_eq];exact hx);clear HMR HMS HSL HL8 hx;go_wp2_with fail;go_roundw
      case rel=>exact ⟨k+1,_,m+1,by omega,by go_num,rfl,by go_num,by omega,by omega,HN2.out,HM2.out,HW.out⟩
      case measure=>simp [intOf];omega
     ·have HM2:Hid (M=m+mB (t.drop (k+1))):=(by show _=_;rw[HMR.out,HMS.out,if_neg hx];omega);have hx1:(x == [123,110,117,109,98,101,114,125])=false:=(by rw[beq_eq_false_iff_ne];exact hx);clear HMR HMS HSL HL8 hx;go_wp2_with fail;go_roundw
      case rel=>exact ⟨k+1,_,m,by omega,by go_num,rfl,rfl,by omega,by omega,HN2.out,HM2.out,HW.out⟩
      case measure=>simp [intOf];omega
    ·have HM2:Hid (M=m+mB (t.drop (k+1))):=(by show _=_;rw[HMR.out,HMS.out,if_neg (fun h=>h8 (HL8.out h))];omega);have g1:¬ (k:Int)+8<=(t.length:Int):=(by omega);clear HMR HMS HSL HL8;go_wp2_with fail;go_roundw
     case rel=>exact ⟨k+1,_,m,by omega,by go_num,rfl,rfl,by omega,by omega,HN2.out,HM2.out,HW.out⟩
     case measure=>simp [intOf];omega
  ·obtain rfl:k=t.length:=(by omega);have e1:N=n:=(by have h:=HNR.out;rw[List.drop_length] at h;exact h);have e2:M=m:=(by have h:=HMR.out;rw[List.drop_length] at h;exact h);subst e1 e2;have HWW:=HW;clear HNR HMR HW;go_wp2_with fail
   (try go_ret2)
   exact ⟨rfl,HWW.out.symm⟩
theorem Srcs.row2 {S S':Nat->Prop} {w:World} {v:Value} {xs:List SrcT} (h:RowR S 5 (SrcK S' w) w v xs):Srcs w v xs:=by
 obtain ⟨a,c,hv,hc,h3⟩:=h;refine ⟨a,c,hv,hc,fun q=>?_⟩;obtain ⟨g,o,ha,hg,-,hcell⟩:=h3 q;refine ⟨g,o,ha,hg,fun j s hs=>?_⟩;obtain ⟨cs,hl,hcs,vA,vE,vF,rfl,⟨pA,-⟩,⟨pE,-⟩,pF,-⟩:=hcell j s hs;exact ⟨vA,vE,vF,(by have:=hcs 0 _ rfl;rwa [Nat.add_zero] at this),hcs 1 _ rfl,hcs 2 _ rfl,hcs 3 _ rfl,hcs 4 _ rfl,pA,pE,pF⟩
theorem Srcs.outO {A:Nat->Prop} {base:Nat} {w:World} {v:Value} {xs:List SrcT} (h:OutG SrcK 5 A base 50 w v xs):Srcs w v xs :=
 Srcs.row2 (OutG.row (S:=fun _=>True) zv4 (h.mono zv4 (fun _ _ _=>trivial)) (fun _ _ h=>h) (fun _ _=>trivial))
theorem zmJ {a b:Bool} (h:a=b):Ending.returned (.bool a)=.returned (.bool b):=by rw[h]
def ltB (c:Int):Bool:=decide (97<=c/\c<=122\/65<=c/\c<=90)
def ptB (c:Int):Bool:=decide ((97<=c/\c<=122\/65<=c/\c<=90)\/48<=c/\c<=57\/c=45\/c=95\/c=46\/c=58)
theorem zEX (l:Bs) (i:Nat) (h:i<l.length):ltB (at8 l i)=zBk l[i]:=by
 have:=ztP l i h;unfold zrW at this;unfold ltB;rw[Bool.eq_iff_iff,decide_eq_true_iff,this]
theorem zEY (l:Bs) (i:Nat) (h:i<l.length):ptB (at8 l i)=nmB l[i]:=by
 have:=zBl l i h;unfold zrW zh1 at this;unfold ptB;rw[Bool.eq_iff_iff,decide_eq_true_iff,this]
theorem zmK (c:Int) (w:World) (h0:0<=c) (h1:c<=255):Calls Tryz.prog 122 #[.int .u8 c] w fun e w'=>e=.returned (.bool (ltB c))/\w=w':=by
 rcases (by omega:c<65\/(65<=c/\c<=90)\/(91<=c/\c<=96)\/(97<=c/\c<=122)\/122<c) with h|⟨h,h'⟩|⟨h,h'⟩|⟨h,h'⟩|h
 all_goals
  first
   | have HB:Hid (ltB c=true):=by (show _=_;unfold ltB;rw[decide_eq_true_iff];omega)
   | have HB:Hid (ltB c=false):=by (show _=_;unfold ltB;rw[decide_eq_false_iff_not];omega)
  go_enter Tryz.func122,Tryz.ntmps122;go_wp2_with fail;go_ret;exact ⟨zmJ (by first|exact HB.out.symm|(refine Eq.trans ?_ HB.out.symm;simp;omega)),rfl⟩
theorem zw2 (c:Int) (w:World) (h0:0<=c) (h1:c<=255):Calls Tryz.prog 167 #[.int .u8 c] w fun e w'=>e=.returned (.bool (ptB c))/\w=w':=by
 have HL:=Hd (zmK c w h0 h1);cases hl:ltB c
 ·rw[hl] at HL;have hnl:¬ (97<=c/\c<=122\/65<=c/\c<=90):=(by unfold ltB at hl;rwa [decide_eq_false_iff_not] at hl);rcases (by omega:(c<45)\/c=45\/c=46\/c=47\/(48<=c/\c<=57)\/c=58\/(59<=c/\c<=64)\/(91<=c/\c<=94)\/c=95\/c=96\/(122<c)) with h|h|h|h|⟨h,h'⟩|h|⟨h,h'⟩|⟨h,h'⟩|h|h|h
  all_goals
   first
    | have HB:Hid (ptB c=true):=by (show _=_;unfold ptB;rw[decide_eq_true_iff];omega)
    | have HB:Hid (ptB c=false):=by (show _=_;unfold ptB;rw[decide_eq_false_iff_not];omega)
   clear hnl hl
   try subst h
   go_enter Tryz.func167,Tryz.ntmps167;go_wp2_with fail;refine HL.out.mono ?_;rintro e w' ⟨rfl,rfl⟩;go_wp2_with fail;go_ret;exact ⟨zmJ (by first|exact HB.out.symm|(refine Eq.trans ?_ HB.out.symm;simp;omega)),rfl⟩
 ·rw[hl] at HL;have HB:Hid (ptB c=true):=(by (show _=_;unfold ltB at hl;rw[decide_eq_true_iff] at hl;unfold ptB;rw[decide_eq_true_iff];exact .inl hl));clear hl;go_enter Tryz.func167,Tryz.ntmps167;go_wp2_with fail;refine HL.out.mono ?_;rintro e w' ⟨rfl,rfl⟩;go_wp2_with fail;go_ret;exact ⟨zmJ (by first|exact HB.out.symm|(refine Eq.trans ?_ HB.out.symm;simp;omega)),rfl⟩
theorem zCY (l:Bs) (k:Nat) (h:k<l.length) (ha:(l.take k).all nmB=true) (hb:nmB l[k]=true):(l.take (k+1)).all nmB=true:=by
 rw[List.take_succ_eq_append_getElem h,List.all_append,ha];simp [hb]
theorem zEg (l:Bs) (k:Nat) (h:k<l.length) (hb:nmB l[k]=false):l.all nmB=false:=by
 rw[List.all_eq_false];exact ⟨l[k],List.getElem_mem h,by rw[hb];simp⟩
theorem zAK (l:Bs) (w:World) (hs:l.length<=1100000):Calls Tryz.prog 123 #[.string (bs l),.int .i64 0] w fun e w'=>(∃ k:Nat,e=.returned (.int .i64 k)/\(k == l.length)=l.all nmB/\k<=l.length)/\w=w':=by
 have HP:=Hd (fun c w h0 h1=>zw2 c w h0 h1);go_enter Tryz.func123,Tryz.ntmps123;go_wp2_with fail
 go_loop [1] (fun i=>∃ k:Nat,k<=l.length/\i=.int .i64 k/\Hid ((l.take k).all nmB=true)) (fun i=>l.length - (intOf i).toNat)
 case atStart=>exact ⟨0,Nat.zero_le _,rfl,rfl⟩
 case round =>
  obtain ⟨k,hk,rfl,HA⟩:=hrel;by_cases hlt:k<l.length
  ·have i0:=zb6 (P:=Tryz.prog) (t:=9) Tryz.underlying9 l k hlt k rfl;have h0:=zeT l k;have h1:=zk0 l k;have HAT:=Hd (zEY l k hlt);have HS:=Hd (fun hb=>zCY l k hlt HA.out hb);have HNO:=Hd (fun hb=>zEg l k hlt hb);rw[<- HAT.out] at HS HNO;generalize at8 l k=b at *;go_wp2_with fail;refine (HP.out _ _ h0 (by omega)).mono ?_;rintro e w' ⟨rfl,rfl⟩;cases hb:ptB b
   ·have HF:=Hd (HNO.out hb);go_wp2_with fail;go_ret;exact ⟨⟨k,rfl,by rw[HF.out];simp;omega,by omega⟩,rfl⟩
   ·have HF:=Hd (HS.out hb);go_wp2_with fail
    go_round
    case rel=>exact ⟨k+1,by omega,by go_num,HF.out⟩
    case measure=>simp [intOf];omega
  ·obtain rfl:k=l.length:=(by omega);have HF:Hid (l.all nmB=true):=by
    show _=_;have h:=HA.out
    rwa [List.take_of_length_le (Nat.le_refl _)] at h
   clear HA;go_wp2_with fail;go_ret;exact ⟨⟨_,rfl,by rw[HF.out];simp,Nat.le_refl _⟩,rfl⟩
theorem zmL (l:Bs) (w:World) (hs:l.length<=1100000):Calls Tryz.prog 66 #[.string (bs l)] w fun e w'=>e=.returned (.bool (zc0 l))/\Kept w w':=by
 have HW:=Hd (fun w=>zAK l w hs);have HLT:=Hd (fun c w h0 h1=>zmK c w h0 h1);by_cases h1:l.length=0
 ·have HB:Hid (zc0 l=false):=by
   show _=_;obtain rfl:=List.length_eq_zero_iff.1 h1;rfl
  go_enter Tryz.func66,Tryz.ntmps66;go_wp2_with fail;go_ret;exact ⟨zmJ (by first|exact HB.out.symm|(refine Eq.trans ?_ HB.out.symm;simp;omega)),Kept.refl _⟩
 by_cases h60:60<l.length
 ·have HB:Hid (zc0 l=false):=by
   show _=_;rw[ze0 l (by omega),decide_eq_false (by omega)];rfl
  go_enter Tryz.func66,Tryz.ntmps66;go_wp2_with fail;go_ret;exact ⟨zmJ (by first|exact HB.out.symm|(refine Eq.trans ?_ HB.out.symm;simp;omega)),Kept.refl _⟩
 ·have HB:Hid (zc0 l=(ltB (at8 l 0) && l.all nmB)):=by
   show _=_;rw[ze0 l (by omega),decide_eq_true (by omega),zEX l 0 (by omega)];rfl
  have i0:=zb6 (P:=Tryz.prog) (t:=9) Tryz.underlying9 l 0 (by omega) 0 rfl;have c0:=zeT l 0;have c1:=zk0 l 0;generalize at8 l 0=b at *;generalize l.all nmB=al at *;generalize zc0 l=nb at *;have hp:1<=l.length:=(by omega);go_enter Tryz.func66,Tryz.ntmps66;go_wp2_with fail;refine (HLT.out _ _ c0 (by omega)).mono ?_;rintro e w' ⟨rfl,rfl⟩;cases hb:ltB b
  ·rw[hb] at HB;go_wp2_with fail;go_ret;exact ⟨zmJ HB.out.symm,Kept.refl _⟩
  ·rw[hb] at HB;go_wp2_with fail;refine (HW.out _).mono ?_;rintro e w' ⟨⟨k,rfl,hk,hkl⟩,rfl⟩;go_wp2_with fail;go_ret;exact ⟨zmJ (by rw[HB.out,<- hk];first|rfl|(simp only[Bool.true_and];rw[Bool.eq_iff_iff,beq_iff_eq,beq_iff_eq];omega)),Kept.refl _⟩
end Go.Proofs.YtmcoomlkbgiboaaGreatDoor
