/- few of law32: where it answers true, the sources and the style are few and short. Conditions: lengths that a machine can tell. -/
import Derived.Test.YtmcoomlkbgiboaaGreatDoorU09
import Derived.Test.YtmcoomlkbgiboaaGreatDoorU07
import Derived.Test.YtmcoomlkbgiboaaGreatDoorU13
import Derived.Test.YtmcoomlkbgiboaaGreatDoorU22
import Derived.Test.YtmcoomlkbgiboaaGreatDoorU29
import Derived.Test.YtmcoomlkbgiboaaGreatDoorU26
import Derived.BigQuiet
import Derived.Great.BuildSlice
set_option linter.all false
set_option maxRecDepth 100000
set_option maxHeartbeats 12800000
namespace Go.Proofs.YtmcoomlkbgiboaaGreatDoor
open Go.RowKit
theorem ziQ {α:Type} {P:α->Prop} {l:List α} {k:Nat} {x:α} (hx:l[k]? = some x) (h:∀ y∈l.take k,P y) (hp:P x):∀ y∈l.take (k+1),P y:=by
 intro y hy;obtain ⟨hk',rfl⟩:=List.getElem?_eq_some_iff.1 hx;rw[List.take_succ_eq_append_getElem hk'] at hy;rcases List.mem_append.1 hy with q|q
 ·exact h y q
 ·simp at q;subst q;exact hp
theorem zjH {w:World} {v:Value} {ps:List P4} (h:Perss w v ps):∃ a c,v=.slice a ps.length c/\ps.length<=c:=by
 obtain ⟨a,c,hv,hc,_⟩:=h;exact ⟨a,c,hv,hc⟩
theorem zcK (n:Int) (h0 : -9223372036854775808<=n) (h1:n<=9223372036854775807):IntKind.i64.wrap n=n:=IntWalk.i64_in n (by omega)
def FewP (l:List SrcT) (y:StyT) (w:World) (e:Ending) (w':World):Prop:=∃ b:Bool,e=.returned (.bool b)/\(b=true->l.length<=8/\(∀ s∈l,FitL s)/\FewY y)/\Kept w w'
theorem FewP.no {l:List SrcT} {y:StyT} {w w':World} (k:Kept w w'):FewP l y w (.returned (.bool false)) w':=⟨false,rfl,(fun h=>by cases h),k⟩
theorem zzV (l:List SrcT) (y:StyT) (v vE:Value) (w:World) (hv:Srcs w v l) (hE:Prs w vE y.entries) (hl:l.length<=140737488355328) (hfs:∀ s∈l,FitS s) (hfy:FitY y) :
  Calls Tryz.prog 14 #[v,zdU vE y] w (FewP l y w):=by
 have HE:=Hd hE;have HV:=Hd hv;have HFS:=Hd hfs;obtain ⟨y1,y2,y3,y4,y5,y6,y7,y8,y9,y10⟩:=hfy;have HY10:=Hd y10;clear y10 hfs;obtain ⟨aE,cE,rfl,zE⟩:=hE.form;obtain ⟨a,c,rfl,zV⟩:=(show ∃ a c,v=.slice a l.length c/\l.length<=c by obtain ⟨a,c,e,q,_⟩:=hv;exact ⟨a,c,e,q⟩);clear hE hv;have HNO:Hid (∀ w',Kept w w'->FewP l y w (.returned (.bool false)) w'):=fun w' k=>FewP.no k;have HYES:Hid (∀ w',l.length<=8->(∀ s∈l,FitL s)->FewY y->Kept w w'->FewP l y w (.returned (.bool true)) w'):=fun w' h1 h2 h3 k=>⟨true,rfl,(fun _=>⟨h1,h2,h3⟩),k⟩;have HBK:=Hd (Blk.new w 33 (zaD (.slice aE y.entries.length cE) y));have HK0:=Hd (zaA w (.cells (zaD (.slice aE y.entries.length cE) y) 33));unfold zdU;unfold zaD at HBK HK0 ⊢;generalize hP:FewP l y w=P at *;clear hP;obtain ⟨s1,HS1⟩:∃ s:Int,Hid ((y.cite.length:Int)+(y.bare.length:Int)=s):=⟨_,rfl⟩;obtain ⟨s2,HS2⟩:∃ s:Int,Hid (s1+(y.between.length:Int)=s):=⟨_,rfl⟩;obtain ⟨s3,HS3⟩:∃ s:Int,Hid (s2+(y.begin_.length:Int)=s):=⟨_,rfl⟩;obtain ⟨s4,HS4⟩:∃ s:Int,Hid (s3+(y.end_.length:Int)=s):=⟨_,rfl⟩;obtain ⟨s5,HS5⟩:∃ s:Int,Hid (s4+(y.sort.length:Int)=s):=⟨_,rfl⟩;obtain ⟨s6,HS6⟩:∃ s:Int,Hid (s5+(y.name.length:Int)=s):=⟨_,rfl⟩;have e1:IntKind.i64.wrap ((y.cite.length:Int)+(y.bare.length:Int))=s1:=(by rw[zcK _ (by omega) (by omega)];exact HS1.out);have e2:IntKind.i64.wrap (s1+(y.between.length:Int))=s2:=(by have:=HS1.out;rw[zcK _ (by omega) (by omega)];exact HS2.out);have e3:IntKind.i64.wrap (s2+(y.begin_.length:Int))=s3:=(by have:=HS1.out;have:=HS2.out;rw[zcK _ (by omega) (by omega)];exact HS3.out);have e4:IntKind.i64.wrap (s3+(y.end_.length:Int))=s4:=(by have:=HS1.out;have:=HS2.out;have:=HS3.out;rw[zcK _ (by omega) (by omega)];exact HS4.out);have e5:IntKind.i64.wrap (s4+(y.sort.length:Int))=s5:=(by have:=HS1.out;have:=HS2.out;have:=HS3.out;have:=HS4.out;rw[zcK _ (by omega) (by omega)];exact HS5.out);have e6:IntKind.i64.wrap (s5+(y.name.length:Int))=s6:=(by have:=HS1.out;have:=HS2.out;have:=HS3.out;have:=HS4.out;have:=HS5.out;rw[zcK _ (by omega) (by omega)];exact HS6.out);by_cases g1:8<l.length
 ·go_enter Tryz.func14,Tryz.ntmps14;go_wp2_with fail;exact HNO.out _ HK0.out
 by_cases g2:12<y.entries.length
 ·go_enter Tryz.func14,Tryz.ntmps14;go_wp2_with fail;exact HNO.out _ HK0.out
 by_cases g3:400<s6
 ·go_enter Tryz.func14,Tryz.ntmps14;go_wp2_with fail;exact HNO.out _ HK0.out
 have HG3:Hid (y.cite.length+y.bare.length+y.between.length+y.begin_.length+y.end_.length+y.sort.length+y.name.length<=400):=by
  have:=HS1.out;have:=HS2.out;have:=HS3.out;have:=HS4.out;have:=HS5.out;have:=HS6.out;show _<=_;omega
 go_enter Tryz.func14,Tryz.ntmps14;go_wp2_with fail;clear e1 e2 e3 e4 e5 e6 HS1 HS2 HS3 HS4 HS5 HS6 g3;generalize w.alloc _=W0 at *;obtain ⟨S,HSS⟩:∃ S,Hid (w.heap.size=S):=⟨_,rfl⟩;rw[HSS.out] at HBK ⊢;go_loopw [5] (fun i wr=>∃ k:Nat,k<=y.entries.length/\i=.int .i64 k/\Hid (∀ q∈y.entries.take k,q.1.length+q.2.length<=300)/\Hid (Kept W0 wr)) (fun i _=>y.entries.length - (intOf i).toNat)
 case atStart=>exact ⟨0,Nat.zero_le _,rfl,(fun q h=>by simp at h),Kept.refl _⟩
 case round =>
  obtain ⟨k,hk,rfl,HN,HKR⟩:=hrel;have t9:wr.cell? ⟨S,9,none⟩=some (.slice aE y.entries.length cE):=(HBK.out.kept HKR.out).cell 9 _ rfl;have zS:=(HBK.out.kept HKR.out).lt;by_cases hlt:k<y.entries.length
  ·obtain ⟨q,hx⟩:∃ x,y.entries[k]? = some x:=⟨_,List.getElem?_eq_getElem hlt⟩;obtain ⟨q1l,q2l⟩:=HY10.out q (List.mem_of_getElem? hx);obtain ⟨g,o,rfl,hg',d0,d1,-,-⟩:=(HE.out.kept (HK0.out.trans HKR.out)).cell_of k q hx;have HST:=Hd (fun hp=>ziQ (P:=fun q:Pr=>q.1.length+q.2.length<=300) hx HN.out hp);obtain ⟨p1,p2⟩:=q;simp only at d0 d1 q1l q2l;clear hx;have hk0:(0:Int)<=(k:Int):=(by omega);have hk1:(k:Int)<(y.entries.length:Int):=(by omega);have hk2:((k:Int)).toNat=k:=(by omega);obtain ⟨s1,HS1⟩:∃ s:Int,Hid ((p1.length:Int)+(p2.length:Int)=s):=⟨_,rfl⟩;have e1:IntKind.i64.wrap ((p1.length:Int)+(p2.length:Int))=s1:=(by rw[zcK _ (by omega) (by omega)];exact HS1.out);by_cases hbig:300<s1
   ·have hd:decide ((300:Int)<s1)=true:=decide_eq_true hbig;go_wp2_with fail
    go_quiet (fail)
    go_wp2_with fail;exact HNO.out _ (HK0.out.trans (HKR.out.trans (zaB _ _)))
   ·have hd:decide ((300:Int)<s1)=false:=decide_eq_false hbig;have HS5:=Hd (HST.out (by have h1:=HS1.out;show p1.length+p2.length<=300;omega));go_wp2_with fail
    go_quiet (fail)
    go_wp2_with fail;go_roundw
    case rel=>exact ⟨k+1,by omega,by go_num,HS5.out,HKR.out.trans (zaB _ _)⟩
    case measure=>simp [intOf];omega
  ·have HFY:Hid (FewY y):=⟨by omega,HG3.out,(by have h:=HN.out;rw[List.take_of_length_le (by omega)] at h;exact h),y8⟩;have HKY:=Hd (HK0.out.trans HKR.out);clear HN HG3 HBK HE HY10;go_wp2_with fail;clear t9 zS HKR;obtain ⟨wo,rfl⟩:∃ wo:World,wo=wr:=⟨_,rfl⟩;go_loopw [6] (fun i wr=>∃ k:Nat,k<=l.length/\i=.int .i64 k/\Hid (∀ s∈l.take k,FitL s)/\Hid (Kept wo wr)) (fun i _=>l.length - (intOf i).toNat)
   case atStart=>exact ⟨0,Nat.zero_le _,rfl,(fun q h=>by simp at h),Kept.refl _⟩
   case round =>
    obtain ⟨k,hk,rfl,HN,HKR⟩:=hrel;by_cases hlt:k<l.length
    ·obtain ⟨s,hx⟩:∃ x,l[k]? = some x:=⟨_,List.getElem?_eq_getElem hlt⟩;obtain ⟨l1,l2,l3,l4,l5,l6,l7⟩:=HFS.out s (List.mem_of_getElem? hx);have HL6:=Hd l6;have HL7:=Hd l7;have HST:=Hd (fun hp=>ziQ (P:=FitL) hx HN.out hp);have HKX:=Hd (HKY.out.trans HKR.out);obtain ⟨g,o,vA,vD,vF,rfl,hgg,d0,d1,d2,d3,d4,hA,hD,hF⟩:=Srcs.at_ (HV.out.kept HKX.out) k s hx;clear l6 l7 hx;obtain ⟨aA,cA,rfl,zA⟩:=zjH hA;obtain ⟨aD,cD,rfl,zD⟩:=zjH hD;obtain ⟨aF,cF,rfl,zF⟩:=hF.form;have HBS:=Hd (Blk.new wr 50 #[.string (bs s.key),.string (bs s.type),.slice aA s.author.length cA,.slice aD s.editor.length cD,.slice aF s.fields.length cF]);have hks:=zaA wr (.cells #[.string (bs s.key),.string (bs s.type),.slice aA s.author.length cA,.slice aD s.editor.length cD,.slice aF s.fields.length cF] 50);have HA:=Hd (hA.kept hks);have HD:=Hd (hD.kept hks);have HF:=Hd (hF.kept hks);have HKS:=Hd hks;clear hA hD hF hks;by_cases n1:5<s.author.length
     ·go_wp2_with fail;exact HNO.out _ (HKX.out.trans HKS.out)
     by_cases n2:5<s.editor.length
     ·go_wp2_with fail;exact HNO.out _ (HKX.out.trans HKS.out)
     by_cases n3:12<s.fields.length
     ·go_wp2_with fail;exact HNO.out _ (HKX.out.trans HKS.out)
     by_cases n4:200<s.key.length+s.type.length
     ·have n4':(200:Int)<(s.key.length:Int)+(s.type.length:Int):=(by omega);go_wp2_with fail;exact HNO.out _ (HKX.out.trans HKS.out)
     have n4':¬ (200:Int)<(s.key.length:Int)+(s.type.length:Int):=(by omega);go_wp2_with fail;clear d0 d1 d2 d3 d4;have HKW:=Hd (HKR.out.trans HKS.out);generalize wr.alloc _=W1 at *;obtain ⟨B,HBB⟩:∃ B,Hid (wr.heap.size=B):=⟨_,rfl⟩;rw[HBB.out] at HBS ⊢;go_loopw [8] (fun i wq=>∃ j:Nat,j<=s.fields.length/\i=.int .i64 j/\Hid (∀ q∈s.fields.take j,q.1.length+q.2.length<=200)/\Hid (Kept W1 wq)) (fun i _=>s.fields.length - (intOf i).toNat)
     case atStart=>exact ⟨0,Nat.zero_le _,rfl,(fun q h=>by simp at h),Kept.refl _⟩
     case round =>
      obtain ⟨j,hj,rfl,HNF,HKF⟩:=hrel;have t4:wr.cell? ⟨B,4,none⟩=some (.slice aF s.fields.length cF):=(HBS.out.kept HKF.out).cell 4 _ rfl;have zB:=(HBS.out.kept HKF.out).lt;by_cases hlt2:j<s.fields.length
      ·obtain ⟨q,hx⟩:∃ x,s.fields[j]? = some x:=⟨_,List.getElem?_eq_getElem hlt2⟩;obtain ⟨q1l,q2l⟩:=HL6.out q (List.mem_of_getElem? hx);obtain ⟨g,o,rfl,hg',d0,d1,-,-⟩:=(HF.out.kept HKF.out).cell_of j q hx;have HST2:=Hd (fun hp=>ziQ (P:=fun q:Pr=>q.1.length+q.2.length<=200) hx HNF.out hp);obtain ⟨p1,p2⟩:=q;simp only at d0 d1 q1l q2l;clear hx;have hk0:(0:Int)<=(j:Int):=(by omega);have hk1:(j:Int)<(s.fields.length:Int):=(by omega);have hk2:((j:Int)).toNat=j:=(by omega);obtain ⟨s1,HS1⟩:∃ s:Int,Hid ((p1.length:Int)+(p2.length:Int)=s):=⟨_,rfl⟩;have e1:IntKind.i64.wrap ((p1.length:Int)+(p2.length:Int))=s1:=(by rw[zcK _ (by omega) (by omega)];exact HS1.out);by_cases hbig:200<s1
       ·have hd:decide ((200:Int)<s1)=true:=decide_eq_true hbig;go_wp2_with fail
        go_quiet (fail)
        go_wp2_with fail;exact HNO.out _ (HKX.out.trans (HKS.out.trans (HKF.out.trans (zaB _ _))))
       ·have hd:decide ((200:Int)<s1)=false:=decide_eq_false hbig;have HS5:=Hd (HST2.out (by have h1:=HS1.out;show p1.length+p2.length<=200;omega));go_wp2_with fail
        go_quiet (fail)
        go_wp2_with fail;go_roundw
        case rel=>exact ⟨j+1,by omega,by go_num,HS5.out,HKF.out.trans (zaB _ _)⟩
        case measure=>simp [intOf];omega
      ·have HFA:Hid (∀ q∈s.fields,q.1.length+q.2.length<=200):=(by have h:=HNF.out;rw[List.take_of_length_le (by omega)] at h;exact h);have HKQ:=Hd (HKW.out.trans HKF.out);have HKP:=Hd (HKX.out.trans (HKS.out.trans HKF.out));have HBK2:=Hd (HBS.out.kept HKF.out);have HA2:=Hd (HA.out.kept HKF.out);have HD2:=Hd (HD.out.kept HKF.out);clear HNF HBS HA HD HF HKF HL6;go_wp2_with fail;have b2:wr.cell? ⟨B,2,none⟩=some (.slice aA s.author.length cA):=HBK2.out.cell 2 _ rfl;have b3:wr.cell? ⟨B,3,none⟩=some (.slice aD s.editor.length cD):=HBK2.out.cell 3 _ rfl;have z4:=HBK2.out.lt;clear t4 zB;have HC:Hid (∀ w',Kept wr w'->w'.cell? ⟨B,2,none⟩=some (.slice aA s.author.length cA)/\w'.cell? ⟨B,3,none⟩=some (.slice aD s.editor.length cD)/\Kept wr w'):=fun w' h=>⟨(h.cell (p:=⟨B,2,none⟩) z4).trans b2,(h.cell (p:=⟨B,3,none⟩) z4).trans b3,h⟩;have k0:Kept wr (wr.alloc (.cells #[] 77)).drew:=(zaA wr _).trans (zaB _ 1);have k00:Kept wr wr.drew:=zaB wr 1;have HO0:=Hd (World.ownsRow_made (size:=4) (e:=77) wr #[] 0 (Nat.le_refl _) (by unfold maxLen;omega) (by simp)).drew;have hsum:s.author.length+s.editor.length<=80:=(by omega)
       go_region_held3 (fun w'=>w'.cell? ⟨B,2,none⟩=some (.slice aA s.author.length cA)/\w'.cell? ⟨B,3,none⟩=some (.slice aD s.editor.length cD)/\Kept wr w')
        ((refine HC.out _ ?_;with_reducible assumption))
        (first
         | (refine ze0 _ rfl (.tmp 135) (.tmp 137) rfl wr.heap.size v1 s.author (by simp [Act.eval,Act.put]) HO1.out _ s.editor (by simp [Act.eval,Act.put]) (HD2.out.kept k1) (by omega) k1.size ?_;intro v2 w2 hown2 hgrow2;have HO2:=Hd hown2;have k2:Kept wr w2:=k1.trans' (zaG HO1.out hgrow2 k1.size);clear hown2 hgrow2)
         | (refine ze0 _ rfl (.tmp 132) (.tmp 134) rfl wr.heap.size _ [] (by simp [Act.eval,Act.put]) HO0.out _ s.author (by simp [Act.eval,Act.put]) (HA2.out.kept k0) (by simp;omega) k0.size ?_;intro v1 w1 hown1 hgrow1;have HO1:Hid (w1.ownsRow wr.heap.size 77 4 v1 s.author.length (zb2 s.author)):=hown1;have k1:Kept wr w1:=k0.trans' (zaG HO0.out hgrow1 k0.size);clear hown1 hgrow1))
       all_goals
        have HV2:=Hd (Perss.ownY HO2.out);obtain ⟨a2,c2,rfl,hc2⟩:=zjH HV2.out;have hln:(s.author ++ s.editor).length<=80:=(by rw[List.length_append];omega);have HKZ:=Hd (HKP.out.trans k2);have HKY2:=Hd (HKQ.out.trans k2);have HFT:Hid ((∀ q∈s.author ++ s.editor,zcQ q<=200)->FitL s):=by
         show _->_;intro hp;exact ⟨by omega,by omega,by omega,by omega,HFA.out,hp⟩
        clear k0 k00 k1 k2 HO0 HO1 HO2 b2 b3 z4 HC hsum HKP HKQ HA2 HD2 HBK2;obtain ⟨ps,HPS⟩:∃ ps,Hid (s.author ++ s.editor=ps):=⟨_,rfl⟩;rw[HPS.out] at HV2 HL7 hln hc2 HFT ⊢;go_wp2_with fail;go_loopw [10] (fun i wz=>∃ m:Nat,m<=ps.length/\i=.int .i64 m/\Hid (∀ q∈ps.take m,zcQ q<=200)/\Hid (Kept w2 wz)) (fun i _=>ps.length - (intOf i).toNat)
        case atStart=>exact ⟨0,Nat.zero_le _,rfl,(fun q h=>by simp at h),Kept.refl _⟩
        case round =>
         obtain ⟨m,hm,rfl,HNP,HKG⟩:=hrel;by_cases hlt3:m<ps.length
         ·obtain ⟨q,hx⟩:∃ x,ps[m]? = some x:=⟨_,List.getElem?_eq_getElem hlt3⟩;obtain ⟨q1l,q2l,q3l,q4l⟩:=HL7.out q (List.mem_of_getElem? hx);obtain ⟨a',c',hv',hc',h3⟩:=HV2.out.kept HKG.out;obtain ⟨rfl,hdead,rfl⟩:=Value.slice.inj hv';clear hdead hc';obtain ⟨g,o,rfl,hg',hcc⟩:=h3 (by omega);obtain ⟨d0,d1,d2,d3⟩:=hcc m q hx;have HST3:=Hd (fun hp=>ziQ (P:=fun q=>zcQ q<=200) hx HNP.out hp);have HSZ:Hid (zcQ q=q.1.length+q.2.1.length+q.2.2.1.length+q.2.2.2.length):=rfl;obtain ⟨p1,p2,p3,p4⟩:=q;simp only at d0 d1 d2 d3 q1l q2l q3l q4l HSZ;clear hcc h3 hv' hx;have hk0:(0:Int)<=(m:Int):=(by omega);have hk1:(m:Int)<(ps.length:Int):=(by omega);have hk2:((m:Int)).toNat=m:=(by omega);obtain ⟨s1,HS1⟩:∃ s:Int,Hid ((p1.length:Int)+(p2.length:Int)=s):=⟨_,rfl⟩;obtain ⟨s2,HS2⟩:∃ s:Int,Hid (s1+(p3.length:Int)=s):=⟨_,rfl⟩;obtain ⟨s3,HS3⟩:∃ s:Int,Hid (s2+(p4.length:Int)=s):=⟨_,rfl⟩;have e1:IntKind.i64.wrap ((p1.length:Int)+(p2.length:Int))=s1:=(by rw[zcK _ (by omega) (by omega)];exact HS1.out);have e2:IntKind.i64.wrap (s1+(p3.length:Int))=s2:=(by have:=HS1.out;rw[zcK _ (by omega) (by omega)];exact HS2.out);have e3:IntKind.i64.wrap (s2+(p4.length:Int))=s3:=(by have:=HS1.out;have:=HS2.out;rw[zcK _ (by omega) (by omega)];exact HS3.out);by_cases hbig:200<s3
          ·have hd:decide ((200:Int)<s3)=true:=decide_eq_true hbig;go_wp2_with fail
           go_quiet (fail)
           go_wp2_with fail;exact HNO.out _ (HKZ.out.trans (HKG.out.trans (zaB _ _)))
          ·have hd:decide ((200:Int)<s3)=false:=decide_eq_false hbig;have HS5:=Hd (HST3.out (by have h1:=HS1.out;have h2:=HS2.out;have h3:=HS3.out;have h4:=HSZ.out;show zcQ _<=200;omega));go_wp2_with fail
           go_quiet (fail)
           go_wp2_with fail;go_roundw
           case rel=>exact ⟨m+1,by omega,by go_num,HS5.out,HKG.out.trans (zaB _ _)⟩
           case measure=>simp [intOf];omega
         ·have HPA2:Hid (∀ q∈ps,zcQ q<=200):=(by have h:=HNP.out;rw[List.take_of_length_le (by omega)] at h;exact h);have HNX:=Hd (HST.out (HFT.out HPA2.out));have HKN:=Hd (HKY2.out.trans HKG.out);clear HNP HKG HFT HPA2;go_wp2_with fail;go_roundw
          case rel=>exact ⟨k+1,by omega,by go_num,HNX.out,HKN.out⟩
          case measure=>simp [intOf];omega
    ·have HLA:Hid (∀ s∈l,FitL s):=(by have h:=HN.out;rw[List.take_of_length_le (by omega)] at h;exact h);go_wp2_with fail;exact HYES.out _ (by omega) HLA.out HFY.out (HKY.out.trans HKR.out)
theorem Tryz.sizeIn:(Tryz.prog.info? 71).map (fun x=>x.size)=some 10:=by kernel_rfl
theorem Tryz.infoIn:(Tryz.prog.info? 71).map (fun i=>(i.zero,i.size,i.bytes))=some (some (.agg #[.int .i64 0,.string ⟨#[]⟩,.string ⟨#[]⟩,.string ⟨#[]⟩,.string ⟨#[]⟩,.slice none 0 0,.slice none 0 0,.slice none 0 0,.slice none 0 0,.slice none 0 0]),10,192):=by kernel_rfl
def znX:List Value:=[.int .i64 0,.string ⟨#[]⟩,.string ⟨#[]⟩,.string ⟨#[]⟩,.string ⟨#[]⟩,.slice none 0 0,.slice none 0 0,.slice none 0 0,.slice none 0 0,.slice none 0 0]
theorem zDN (n:Nat) (S:Nat->Prop) (w:World):InlK n S w znX (.mk 0 [] [] [] [] [] [] [] [] []) :=
 ⟨_,_,_,_,_,rfl,⟨Strs.none_ w,InB.nil _ _⟩,⟨Prs.none_ w,InB.nil _ _⟩,⟨Strs.none_ w,InB.nil _ _⟩,RowR.none_ _ _ _ _,Lns.none_ _ _ _⟩
theorem zj6 (a:Act) (d:Nat) (v:Value) (s:Nat) (h:d<a.tmps.size):(a.put (some d) v).tmps[s]? = if s=d then some v else a.tmps[s]?:=by
 show (a.tmps.setIfInBounds d v)[s]? = _;by_cases q:s=d
 ·subst q;rw[if_pos rfl,Array.getElem?_setIfInBounds_self_of_lt h]
 ·rw[if_neg q,Array.getElem?_setIfInBounds_ne (fun e=>q e.symm)]
theorem ziR (a:Act) (d:Nat) (v:Value):(a.put (some d) v).tmps.size=a.tmps.size:=by
 show (a.tmps.setIfInBounds d v).size=_;rw[Array.size_setIfInBounds]
theorem zzW {a b:Act} (h1:a.defers=b.defers) (h2:∀ s:Nat,a.tmps[s]? = b.tmps[s]?):a=b:=by
 obtain ⟨t,d⟩:=a;obtain ⟨t',d'⟩:=b;obtain rfl:t=t':=Array.ext_getElem? h2;obtain rfl:d=d':=h1;rfl
theorem zEA {D:Nat->Option Nat} {V:Nat->Value} {L:Array Bool} {a0 a:Act} (S:Slots 8 D V L a0 a) (hD:∀ i,D i=if i<6 then some (27+i) else none) (hon:∀ i,i<8->On L i) (hz:33<=a0.tmps.size):a=(((((a0.put (some 27) (V 0)).put (some 28) (V 1)).put (some 29) (V 2)).put (some 30) (V 3)).put (some 31) (V 4)).put (some 32) (V 5):=by
 have hdf:∀ (b:Act) (d:Nat) (u:Value),(b.put (some d) u).defers=b.defers:=fun _ _ _=>rfl;refine zzW (by rw[hdf,hdf,hdf,hdf,hdf,hdf];exact S.defers) (fun s=>?_);have v (i:Nat) (h:i<6):=S.val i (27+i) (by omega) (by rw[hD,if_pos h]) (hon i (by omega));rw[zj6 _ _ _ _ (by simp only[ziR];omega)];by_cases q5:s=32
 ·subst q5;rw[if_pos rfl];exact v 5 (by omega)
 rw[if_neg q5,zj6 _ _ _ _ (by simp only[ziR];omega)];by_cases q4:s=31
 ·subst q4;rw[if_pos rfl];exact v 4 (by omega)
 rw[if_neg q4,zj6 _ _ _ _ (by simp only[ziR];omega)];by_cases q3:s=30
 ·subst q3;rw[if_pos rfl];exact v 3 (by omega)
 rw[if_neg q3,zj6 _ _ _ _ (by simp only[ziR];omega)];by_cases q2:s=29
 ·subst q2;rw[if_pos rfl];exact v 2 (by omega)
 rw[if_neg q2,zj6 _ _ _ _ (by simp only[ziR];omega)];by_cases q1:s=28
 ·subst q1;rw[if_pos rfl];exact v 1 (by omega)
 rw[if_neg q1,zj6 _ _ _ _ (by omega)];by_cases q0:s=27
 ·subst q0;rw[if_pos rfl];exact v 0 (by omega)
 rw[if_neg q0];refine S.rest s (fun i hi h=>?_);rw[hD] at h;by_cases q:i<6
 ·rw[if_pos q] at h;have:=Option.some.inj h;omega
 ·rw[if_neg q] at h;cases h
def puD (i:Nat):Option Nat:=if i<6 then some (27+i) else none
def puV (v:Value) (cells:List Value) (m Z g cap:Nat):Nat->Value
 | 0=>v
 | 1=>.agg cells.toArray
 | 2=>.int .i64 m
 | 3=>.slice (some ⟨Z,0,none⟩) 1 1
 | 4=>.slice (some ⟨g,0,none⟩) (m+1) cap
 | _=>.pointer (some ⟨g,m * 10,none⟩)
theorem zEB (v:Value) (cells:List Value) (m Z g cap g' cap':Nat) (j:Nat) (h:j<4):puV v cells m Z g cap j=puV v cells m Z g' cap' j:=by
 match j,h with
 | 0,_|1,_|2,_|3,_=>rfl
open Classical in
theorem ifc {α:Type} {p q:Prop} (h:p↔q) (a b:α):(if p then a else b)=if q then a else b:=by
 by_cases r:p
 ·rw[if_pos r,if_pos (h.1 r)]
 ·rw[if_neg r,if_neg (fun s=>r (h.2 s))]
open Classical in
structure PuJ (A:Nat->Prop) (N O I Z base:Nat) (v:Value) (xs:List Inl) (cells:List Value) (x:Inl) (w6:World) (a0:Act) (L:Array Bool) (a:Act) (w:World) (g cap:Nat):Prop where
 size:L.size=8
 slots:Slots 8 puD (puV v cells xs.length Z g cap) L a0 a
 c4:On L 4->∀ j,j<4->On L j
 c5:On L 5->On L 4
 c6:On L 6->On L 4
 c7:On L 7->On L 4
 lo:¬ On L 4->Kept w6 w/\(¬ On L 3->w.heap.size=Z)/\(On L 3->Blk w Z 71 znX.toArray)
 hi:On L 4->OutG (InlK N) 10 A base 71 w (.slice (some ⟨g,0,none⟩) (xs.length+1) cap) (xs ++ [if On L 6 then x else .mk 0 [] [] [] [] [] [] [] [] []])/\Blk w O 57 #[if On L 7 then .slice (some ⟨g,0,none⟩) (xs.length+1) cap else v]/\Blk w I 71 cells.toArray/\InlK N (fun g'=>A g'/\g≠g') w cells x/\Only (fun i=>i=O\/base<=i) w6 w/\g≠I
def PuI (A:Nat->Prop) (N O I Z base:Nat) (v:Value) (xs:List Inl) (cells:List Value) (x:Inl) (w6:World) (a0:Act) (L:Array Bool) (a:Act) (w:World):Prop:=∃ g cap,PuJ A N O I Z base v xs cells x w6 a0 L a w g cap
theorem zl2 (i:Nat):∀ j d,j<8->puD i=some d->puD j=some d->j=i:=by
 intro j d _ h1 h2;unfold puD at h1 h2
 split at h1 <;> split at h2 <;> simp_all
 omega
theorem zrM (n i:Nat) (hz:33<=n):∀ d,puD i=some d->d<n:=by
 intro d h1;unfold puD at h1
 split at h1 <;> simp at h1
 omega
theorem zkV {A:Nat->Prop} {N O I Z base:Nat} {v:Value} {xs:List Inl} {cells:List Value} {x:Inl} {w6:World} {a0:Act} {L:Array Bool} {a:Act} {w:World} {g cap:Nat} (h:PuJ A N O I Z base v xs cells x w6 a0 L a w g cap) (hz:33<=a0.tmps.size) (i:Nat) (hi:i<8) (h3:i≠3) (h4:i≠4) (h6:i≠6) (h7:i≠7) (h5:i=5->On L 4) :
  PuI A N O I Z base v xs cells x w6 a0 (L.setIfInBounds i true) (a.put (puD i) (puV v cells xs.length Z g cap i)) w:=by
 refine ⟨g,cap,?_,h.slots.put i hi (by rw[h.size];exact hi) (zl2 i) (zrM _ i hz) _ (fun _=>rfl) (fun _ _ _=>rfl),?_,?_,?_,?_,?_,?_⟩
 ·rw[Array.size_setIfInBounds];exact h.size
 ·intro q j hj;exact za8 (h.c4 ((ze7 h4).1 q) j hj)
 ·intro q;rcases zf2 q with q|q
  ·exact za8 (h5 q.symm)
  ·exact za8 (h.c5 q)
 ·intro q;exact za8 (h.c6 ((ze7 h6).1 q))
 ·intro q;exact za8 (h.c7 ((ze7 h7).1 q))
 ·intro q;obtain ⟨k1,k2,k3⟩:=h.lo (fun r=>q (za8 r));exact ⟨k1,fun r=>k2 (fun r'=>r (za8 r')),fun r=>k3 ((ze7 h3).1 r)⟩
 ·intro q;have:=h.hi ((ze7 h4).1 q);rw[ifc (ze7 h6),ifc (ze7 h7)];exact this
theorem zs2 {A:Nat->Prop} {N O I base:Nat} {v:Value} {xs:List Inl} {cells:List Value} {x:Inl} {w:World} {a:Act} {Q:Exit->Act->World->Prop} {id:Nat} {o0 o1 o2 o3 o4 o5 o6 o7:Oper}
  (p0:o0.op=.load 57 (.tmp 1)) (p1:o1.op=.load 71 (.tmp 5)) (p2:o2.op=.call { callee:=.builtin .len,args:=#[.tmp 27],argTypes:=#[57] })
  (p3:o3.op=.buildSlice 57 1 #[(0,.const (.agg znX.toArray))]) (p4:o4.op=.call { callee:=.builtin .append,args:=#[.tmp 27,.tmp 30],argTypes:=#[57,57] })
  (p5:o5.op=.indexAddr 57 (.tmp 31) (.tmp 29)) (p6:o6.op=.store 71 (.tmp 32) (.tmp 28)) (p7:o7.op=.store 57 (.tmp 1) (.tmp 31))
  (q0:o0.guard=none) (q1:o1.guard=none) (q2:o2.guard=none) (q3:o3.guard=none) (q4:o4.guard=none) (q5:o5.guard=none) (q6:o6.guard=none) (q7:o7.guard=none)
  (d0:o0.dst=some 27) (d1:o1.dst=some 28) (d2:o2.dst=some 29) (d3:o3.dst=some 30) (d4:o4.dst=some 31) (d5:o5.dst=some 32) (d6:o6.dst=none) (d7:o7.dst=none)
  (hm:Tryz.prog.follows .mixedOrders=true) (hac:acB #[o0,o1,o2,o3,o4,o5,o6,o7]=true)
  (e2:⟨0,.data⟩∈o2.after) (e40:⟨0,.data⟩∈o4.after) (e43:⟨3,.data⟩∈o4.after) (e41:⟨1,.phase⟩∈o4.after) (e42:⟨2,.phase⟩∈o4.after) (e54:⟨4,.data⟩∈o5.after) (e52:⟨2,.data⟩∈o5.after) (e65:⟨5,.data⟩∈o6.after) (e61:⟨1,.data⟩∈o6.after) (e64:⟨4,.chain⟩∈o6.after) (e74:⟨4,.data⟩∈o7.after)
  (hz:33<=a.tmps.size) (hx1:a.eval (.tmp 1)=.pointer (some ⟨O,0,none⟩)) (hx5:a.eval (.tmp 5)=.pointer (some ⟨I,0,none⟩))
  (hcl:cells.length=10) (hO:Blk w O 57 #[v]) (hI:Blk w I 71 cells.toArray) (hv:OutG (InlK N) 10 A base 71 w v xs)
  (hAO:∀ g,A g->g≠O) (hvO:v.ownBlock≠some O) (hvI:v.ownBlock≠some I) (hOI:O≠I) (hOb:O<base) (hbI:base<=I) (hy:InlK N (fun g=>A g/\v.ownBlock≠some g) w cells x) (hlen:xs.length+1<=1000001)
  (h:∀ u0 u1 u2 u3 u4 u5 g cap w',OutG (InlK N) 10 A base 71 w' (.slice (some ⟨g,0,none⟩) (xs.length+1) cap) (xs ++ [x])->Blk w' O 57 #[.slice (some ⟨g,0,none⟩) (xs.length+1) cap]->Only (fun i=>i=O\/base<=i) w w' ->
   Q .normal ((((((a.put (some 27) u0).put (some 28) u1).put (some 29) u2).put (some 30) u3).put (some 31) u4).put (some 32) u5) w') :
  (Code.region id #[o0,o1,o2,o3,o4,o5,o6,o7] true).wp Tryz.prog Q a w:=by
 obtain ⟨i0,hi,hz0,hz1,hz2⟩:=info_parts Tryz.infoIn;have hbase:base<=w.heap.size:=(by have:=hI.lt;omega);refine zfS (PuI A N O I w.heap.size base v xs cells x w a) hm (zBm hac) ?_ ?_ ?_
 ·have hno:∀ i,¬ On (Array.replicate 8 false) i:=fun i=>zgH 8 i;exact ⟨0,0,rfl,Slots.start 8 puD _ 8 a,fun q=>absurd q (hno _),fun q=>absurd q (hno _),fun q=>absurd q (hno _),fun q=>absurd q (hno _),fun _=>⟨zaB w 1,fun _=>rfl,fun q=>absurd q (hno _)⟩,fun q=>absurd q (hno _)⟩
 ·intro L a1 w1 hI hall;obtain ⟨g,cap,J⟩:=hI;have hon:∀ i,i<8->On L i:=fun i hi=>by
   have:=hall i hi;have hlt:i<L.size:=(by have:=J.size;omega);unfold On;rw[Array.getD_eq_getD_getElem?,Array.getElem?_eq_getElem hlt] at this ⊢;exact this
  obtain ⟨r1,r2,_,_,r5,_⟩:=J.hi (hon 4 (by omega));rw[if_pos (hon 6 (by omega))] at r1;rw[if_pos (hon 7 (by omega))] at r2;rw[zEA J.slots (fun i=>rfl) hon hz];exact h _ _ _ _ _ _ g cap w1 r1 r2 r5
 ·intro L a1 w1 i hII hi8 hn hed;obtain ⟨g,cap,J⟩:=hII;have S:=J.slots;have n0:=ztZ hn;have sx1:=(S.ext 1 (by intro i _;unfold puD;split <;> simp;omega)).trans hx1;have sx5:=(S.ext 5 (by intro i _;unfold puD;split <;> simp;omega)).trans hx5;replace hi8:i<8:=hi8;obtain rfl|rfl|rfl|rfl|rfl|rfl|rfl|rfl:i=0\/i=1\/i=2\/i=3\/i=4\/i=5\/i=6\/i=7:=(by omega)
  · -- load of the list
   have n4:¬ On L 4:=fun q=>n0 (J.c4 q 0 (by omega));obtain ⟨hk,-,-⟩:=J.lo n4;have t:=(hO.kept hk).cell 0 _ rfl;refine zaS (o:=o0) rfl q0 (v:=v) (w':=w1) ?_ ?_
   ·simp only[execOp,p0,sx1];simp [go_sem,t,Tryz.underlying57]
   ·rw[d0];exact zkV J hz 0 (by omega) (by omega) (by omega) (by omega) (by omega) (by omega)
  · -- load of the element
   have n4:¬ On L 4:=fun q=>n0 (J.c4 q 1 (by omega));obtain ⟨hk,-,-⟩:=J.lo n4;refine zlY (o:=o1) rfl ?_;refine zaW q1 71 (.tmp 5) p1 I cells.toArray sx5 (hI.kept hk) _ Tryz.underlying71 rfl ?_ ?_
   ·rw[List.size_toArray,hcl];exact Tryz.sizeIn
   ·rw[d1];exact zkV J hz 1 (by omega) (by omega) (by omega) (by omega) (by omega) (by omega)
  · -- its length
   have z:a1.eval (.tmp 27)=v:=S.eval 0 27 (by omega) rfl (hed _ rfl _ e2 rfl);obtain ⟨av,cv,hvv,_,_⟩:=hv.form;refine zaS (o:=o2) rfl q2 (v:=.int .i64 xs.length) (w':=w1) ?_ ?_
   ·simp only[execOp,p2,resolve,invoke,builtin,Sem.run_bind,Sem.run_pure,Result.andThen_ok,List.map_toArray,List.map_cons,List.map_nil,z,hvv];simp [go_sem,Tryz.underlying57]
   ·rw[d2];exact zkV J hz 2 (by omega) (by omega) (by omega) (by omega) (by omega) (by omega)
  · -- a row of one
   have n4:¬ On L 4:=fun q=>n0 (J.c4 q 3 (by omega));obtain ⟨hk,hsz,-⟩:=J.lo n4;replace hsz:=hsz n0;refine zlY (o:=o3) rfl ?_;refine wpList_buildSlice q3 57 71 1 _ p3 znX.toArray i0 _ Tryz.underlying57 hi hz0 (by rw[hz1];decide) (by rw[hz1];decide) (by rw[hz1];kernel_rfl) ?_;rw[d3,hsz];refine ⟨g,cap,by rw[Array.size_setIfInBounds];exact J.size,S.put 3 (by omega) (by rw[J.size];omega) (zl2 3) (zrM _ 3 hz) _ (fun _=>rfl) (fun _ _ _=>rfl),fun q=>absurd ((ze7 (by omega)).1 q) n4,fun q=>absurd (J.c5 ((ze7 (by omega)).1 q)) n4,fun q=>absurd (J.c6 ((ze7 (by omega)).1 q)) n4,fun q=>absurd (J.c7 ((ze7 (by omega)).1 q)) n4,fun _=>⟨hk.trans (zaA _ _),fun q=>absurd (zeR (by rw[J.size];omega)) q,fun _=>?_⟩,fun q=>absurd ((ze7 (by omega)).1 q) n4⟩;have:=Blk.new w1 71 znX.toArray;rw[hsz] at this;exact this
  · -- the append
   have f0:=hed _ rfl _ e40 rfl;have f1:=hed _ rfl _ e41 rfl;have f2:=hed _ rfl _ e42 rfl;have f3:=hed _ rfl _ e43 rfl;obtain ⟨hk,-,hzb⟩:=J.lo n0;have hzb:=hzb f3;have z0:a1.eval (.tmp 27)=v:=S.eval 0 27 (by omega) rfl f0;have z3:a1.eval (.tmp 30)=.slice (some ⟨w.heap.size,0,none⟩) 1 1:=S.eval 3 30 (by omega) rfl f3;have hv1:=hv.kept (zgI N) hk;refine zlY (o:=o4) rfl ?_;refine zaQ (zgI N) q4 (.tmp 27) (.tmp 30) 57 p4 i0 _ 192 Tryz.underlying57 hi hz0 hz1 hz2 rfl (by omega) z0 hv1 w.heap.size znX (.mk 0 [] [] [] [] [] [] [] [] []) z3 (fun j u hu=>hzb.cell j u (by rw[List.getElem?_toArray];exact hu)) rfl (zDN _ _ _) (by unfold maxLen;omega) (by omega) (Nat.le_trans hbase hk.size) _ rfl ?_;intro g2 cap2 w2 hout hgrow hat hlt;have hon:=Only.grown hgrow;have hg2:g2≠I/\∀ g',v.ownBlock≠some g'->g'<w.heap.size->g2≠g':=by
    refine ⟨?_,fun g' hne hl=>?_⟩
    ·rcases hat with q|q
     ·intro e;exact hvI (by rw[q,e])
     ·have:=hI.lt;have:=hk.size;omega
    ·rcases hat with q|q
     ·intro e;exact hne (by rw[q,e])
     ·have:=hk.size;omega
   have n6:¬ On L 6:=fun q=>n0 (J.c6 q);have n7:¬ On L 7:=fun q=>n0 (J.c7 q);show PuI _ _ _ _ _ _ _ _ _ _ _ _ _ _ _;rw[d4];refine ⟨g2,cap2,by rw[Array.size_setIfInBounds];exact J.size,S.put 4 (by omega) (by rw[J.size];omega) (zl2 4) (zrM _ 4 hz) _ (fun _=>rfl) (fun j hj ho=>?_),fun _ j hj=>za8 ?_,fun q=>absurd (J.c5 ((ze7 (by omega)).1 q)) n0,fun q=>absurd (J.c6 ((ze7 (by omega)).1 q)) n0,fun q=>absurd (J.c7 ((ze7 (by omega)).1 q)) n0,fun q=>absurd (zeR (by rw[J.size];omega)) q,fun _=>?_⟩
   ·refine zEB _ _ _ _ _ _ _ _ j ?_;rcases Nat.lt_or_ge j 4 with q|q
    ·exact q
    ·exfalso;obtain rfl|rfl|rfl|rfl:j=4\/j=5\/j=6\/j=7:=(by omega)
     ·exact n0 ho
     ·exact n0 (J.c5 ho)
     ·exact n6 ho
     ·exact n7 ho
   ·obtain rfl|rfl|rfl|rfl:j=0\/j=1\/j=2\/j=3:=(by omega)
    ·exact f0
    ·exact f1
    ·exact f2
    ·exact f3
   ·rw[if_neg (fun q=>n6 ((ze7 (by omega)).1 q)),if_neg (fun q=>n7 ((ze7 (by omega)).1 q))];have hO1:=hO.kept hk;have hI1:=hI.kept hk;refine ⟨hout,?_,?_,?_,?_,hg2.1⟩
    ·show w2.heap[O]? = _;rw[hon.block O hO1.lt (fun q=>hvO q.symm)];exact hO1
    ·show w2.heap[I]? = _;rw[hon.block I hI1.lt (fun q=>hvI q.symm)];exact hI1
    ·have hy1:=(zgI N).sam hy (Sam.kept hk) (fun _ _ q=>q);have hy2:InlK N (fun g=>g<w.heap.size/\A g/\v.ownBlock≠some g) w cells x:=(zgI N).sam hy (fun _ _ _=>rfl) (fun g hg q=>⟨hg,q⟩);exact (zgI N).sam ((zgI N).sam hy2 (Sam.kept hk) (fun _ _ q=>q)) (Sam.only hon (fun g _ q r=>q.2.2 r.symm)) (fun g' _ q=>⟨q.2.1,hg2.2 g' q.2.2 q.1⟩)
    ·refine (Only.of_kept hk).trans (hon.mono (fun i _ q=>.inr (hv.blk i q.symm).1))
  · -- the new element's place
   have f4:=hed _ rfl _ e54 rfl;have z4:=S.eval 4 31 (by omega) rfl f4;have z2:=S.eval 2 29 (by omega) rfl (hed _ rfl _ e52 rfl);obtain ⟨hout,-⟩:=J.hi f4;obtain ⟨_,_,hvv,hcap,hmax⟩:=hout.form;refine zaS (o:=o5) rfl q5 (v:=.pointer (some ⟨g,xs.length * 10,none⟩)) (w':=w1) ?_ ?_
   ·simp only[execOp,p5,z4,z2,puV];simp [go_sem,Tryz.underlying57,Tryz.sizeIn];intro hh;omega
   ·rw[d5];exact zkV J hz 5 (by omega) (by omega) (by omega) (by omega) (by omega) (fun _=>f4)
  · -- the element is stored
   have f5:=hed _ rfl _ e65 rfl;have f4:=J.c5 f5;have z5:=S.eval 5 32 (by omega) rfl f5;have z1:=S.eval 1 28 (by omega) rfl (hed _ rfl _ e61 rfl);obtain ⟨hout,hO1,hI1,hy1,hon,hgI⟩:=J.hi f4;rw[if_neg n0] at hout;have hgb:=hout.blk g rfl;refine zlY (o:=o6) rfl ?_;refine zkF (zgI N) q6 (.tmp 32) (.tmp 28) p6 hout xs.length (by simp) cells x z5 z1 hcl Tryz.sizeIn hy1 ?_;intro w2 hout2 hon2;rw[List.set_append_right _ _ (Nat.le_refl _),Nat.sub_self,List.set_cons_zero] at hout2;show PuI _ _ _ _ _ _ _ _ _ _ _ _ _ _ _;rw[d6];refine ⟨g,cap,by rw[Array.size_setIfInBounds];exact J.size,S.put 6 (by omega) (by rw[J.size];omega) (zl2 6) (zrM _ 6 hz) _ (fun q=>by cases q) (fun _ _ _=>rfl),fun _ j hj=>za8 (J.c4 f4 j hj),fun _=>za8 f4,fun _=>za8 f4,fun _=>za8 f4,fun q=>absurd (za8 f4) q,fun _=>?_⟩;rw[if_pos (zeR (by rw[J.size];omega)),ifc (ze7 (by omega))];refine ⟨hout2,?_,?_,(zgI N).sam hy1 (Sam.only hon2 (fun g' _ q r=>q.2 r.symm)) (fun _ _ q=>q),hon.trans (hon2.mono (fun i _ q=>.inr (by omega))),hgI⟩
   ·show w2.heap[O]? = _;rw[hon2.block O hO1.lt (by omega)];exact hO1
   ·show w2.heap[I]? = _;rw[hon2.block I hI1.lt (fun q=>hgI q.symm)];exact hI1
  · -- the list is stored
   have f4:=hed _ rfl _ e74 rfl;have z4:=S.eval 4 31 (by omega) rfl f4;obtain ⟨hout,hO1,hI1,hy1,hon,hgI⟩:=J.hi f4;rw[if_neg n0] at hO1;have hgb:=hout.blk g rfl;have t:=hO1.cell 0 _ rfl;have fr:=hO1.free 0;have on2:=Only.setCell (w:=w1) O 0 (.slice (some ⟨g,0,none⟩) (xs.length+1) cap);refine zcR (o:=o7) rfl q7 (w':=w1.setCell ⟨O,0,none⟩ (.slice (some ⟨g,0,none⟩) (xs.length+1) cap)) ?_ ?_
   ·simp only[execOp,p7,sx1,z4,puV];simp [go_sem,t,fr,Tryz.underlying57]
   ·rw[d7];refine ⟨g,cap,by rw[Array.size_setIfInBounds];exact J.size,S.put 7 (by omega) (by rw[J.size];omega) (zl2 7) (zrM _ 7 hz) _ (fun q=>by cases q) (fun _ _ _=>rfl),fun _ j hj=>za8 (J.c4 f4 j hj),fun _=>za8 f4,fun _=>za8 f4,fun _=>za8 f4,fun q=>absurd (za8 f4) q,fun _=>?_⟩;rw[ifc (ze7 (by omega)),if_pos (zeR (by rw[J.size];omega))];refine ⟨hout.only (zgI N) on2 (fun g' _ q _ r=>hAO g' q r) (fun g' q r=>by have e:g=g':=(by simpa [Value.ownBlock] using q);omega),hO1.set 0 _,?_,(zgI N).sam hy1 (Sam.only on2 (fun g' _ q r=>hAO g' q.1 r)) (fun _ _ q=>q),hon.trans (on2.mono (fun i _ q=>.inl q)),hgI⟩;show (w1.setCell _ _).heap[I]? = _;rw[on2.block I hI1.lt (fun q=>hOI q.symm)];exact hI1
def upd (V:Nat->Value) (i:Nat) (v:Value):Nat->Value:=fun j=>if j=i then v else V j
theorem zaR (V:Nat->Value) (i:Nat) (v:Value):upd V i v i=v:=if_pos rfl
theorem zrN {V:Nat->Value} {i j:Nat} {v:Value} (h:j≠i):upd V i v j=V j:=if_neg h
def zdF (D:Nat->Option Nat) (V:Nat->Value):Nat->Act->Act
 | 0,a=>a
 | n+1,a=>(zdF D V n a).put (D n) (V n)
theorem ziS (D:Nat->Option Nat) (V:Nat->Value):∀ (n:Nat) (a:Act),(zdF D V n a).defers=a.defers
 | 0,_=>rfl
 | n+1,a=>by
  show ((zdF D V n a).put (D n) (V n)).defers=_;rw[<- ziS D V n a];cases D n <;> rfl
theorem zzX (a:Act) (d:Option Nat) (v:Value):(a.put d v).tmps.size=a.tmps.size:=by cases d <;> simp [Act.put]
theorem zl3 (D:Nat->Option Nat) (V:Nat->Value):∀ (n:Nat) (a:Act),(zdF D V n a).tmps.size=a.tmps.size
 | 0,_=>rfl
 | n+1,a=>by show ((zdF D V n a).put (D n) (V n)).tmps.size=_;rw[zzX,zl3 D V n a]
theorem zrO {D:Nat->Option Nat} {V:Nat->Value}:∀ (n:Nat) (a:Act) (i d:Nat),i<n->D i=some d->(∀ j,j<n->D j=some d->j=i)->d<a.tmps.size->(zdF D V n a).tmps[d]? = some (V i)
 | 0,_,_,_,h,_,_,_=>absurd h (Nat.not_lt_zero _)
 | n+1,a,i,d,h,hd,hu,hs=>by
  show ((zdF D V n a).put (D n) (V n)).tmps[d]? = _;by_cases q:i=n
  ·subst q;rw[hd,zj6 _ _ _ _ (by rw[zl3];exact hs),if_pos rfl]
  ·have ih:=zrO (V:=V) n a i d (by omega) hd (fun j hj=>hu j (by omega)) hs;cases hn:D n with
   | none=>exact ih
   | some e =>
    have hne:d≠e:=fun x=>q (hu n (by omega) (by rw[hn,x])).symm;by_cases he:e<(zdF D V n a).tmps.size
    ·rw[zj6 _ _ _ _ he,if_neg hne];exact ih
    ·show ((zdF D V n a).tmps.setIfInBounds e (V n))[d]? = _;rw[Array.getElem?_setIfInBounds_ne (fun x=>hne x.symm)];exact ih
theorem zl4 {D:Nat->Option Nat} {V:Nat->Value}:∀ (n:Nat) (a:Act) (s:Nat),(∀ j,j<n->D j≠some s)->(zdF D V n a).tmps[s]? = a.tmps[s]?
 | 0,_,_,_=>rfl
 | n+1,a,s,h=>by
  show ((zdF D V n a).put (D n) (V n)).tmps[s]? = _;have ih:=zl4 (V:=V) n a s (fun j hj=>h j (by omega));cases hn:D n with
  | none=>exact ih
  | some e =>
   have hne:s≠e:=fun x=>h n (by omega) (by rw[hn,x]);show ((zdF D V n a).tmps.setIfInBounds e (V n))[s]? = _;rw[Array.getElem?_setIfInBounds_ne (fun x=>hne x.symm)];exact ih
theorem zzY {n:Nat} {D:Nat->Option Nat} {V:Nat->Value} {L:Array Bool} {a0 a:Act} (S:Slots n D V L a0 a) (hinj:∀ i j d,i<n->j<n->D i=some d->D j=some d->j=i) (hlt:∀ i d,i<n->D i=some d->d<a0.tmps.size) (hon:∀ i,i<n->On L i):a=zdF D V n a0:=by
 refine zzW (by rw[ziS];exact S.defers) (fun s=>?_);by_cases h:∃ i,i<n/\D i=some s
 ·obtain ⟨i,hi,hd⟩:=h;rw[S.val i s hi hd (hon i hi),zrO n a0 i s hi hd (fun j hj e=>hinj i j s hi hj hd e) (hlt i s hi hd)]
 ·rw[S.rest s (fun i hi e=>h ⟨i,hi,e⟩),zl4 n a0 s (fun i hi e=>h ⟨i,hi,e⟩)]
section
variable {P:Program} {ops:Array Oper} {Q:Exit->Act->World->Prop}
def OpAt (ops:Array Oper) (i:Nat) (op:Op) (d:Option Nat):Prop:=∃ o,ops[i]? = some o/\o.op=op/\o.guard=none/\o.dst=d
def zg8 (ops:Array Oper) (i:Nat):Option Nat:=(ops[i]?).bind (·.dst)
def zFu (o:Oper) (j:Nat):Bool:=o.after.any fun e=>Region.binds .any e && e.on == j
def zzZ (ops:Array Oper) (n s:Nat) (ea dep:Array (List Nat)) (m:Nat):Bool :=
 ops.size == n && decide (s<n) && acB ops &&
 ((
    List.range n).all fun i=>match ops[i]? with
    | none=>false
    | some o=>((dep.getD i []).all fun j=>j != i && decide (j<n) && o.after.any fun e=>Region.binds .any e && (e.on == j || (dep.getD e.on []).contains j)) &&
     (match o.dst with|none=>true|some d=>decide (d<m) && (List.range n).all fun j=>j == i || zg8 ops j != some d)) &&
 ((ea.getD 0 []).all fun i=>decide (i<s) && (match ops[s]? with|none=>false|some o=>zFu o i))
theorem zz0 {n s m:Nat} {ea dep:Array (List Nat)} (h:zzZ ops n s ea dep m=true):ops.size=n/\s<n/\acB ops=true:=by
 unfold zzZ at h;simp only[Bool.and_eq_true,beq_iff_eq,decide_eq_true_eq] at h;exact ⟨h.1.1.1.1,h.1.1.1.2,h.1.1.2⟩
theorem zo8 {n s m:Nat} {ea dep:Array (List Nat)} (h:zzZ ops n s ea dep m=true) {i:Nat} {o:Oper} (ho:ops[i]? = some o) :
  (∀ j∈dep.getD i [],j≠i/\j<n/\∃ e∈o.after,Region.binds .any e=true/\(e.on=j\/j∈dep.getD e.on []))/\(∀ d,o.dst=some d->d<m/\∀ j,j<n->zg8 ops j=some d->j=i):=by
 have hn:=(zz0 h).1;unfold zzZ at h;simp only[Bool.and_eq_true] at h;have h1:=List.all_eq_true.1 h.1.2 i (List.mem_range.2 (by rw[<- hn];exact (Array.getElem?_eq_some_iff.1 ho).1));rw[ho] at h1;simp only[Bool.and_eq_true] at h1;obtain ⟨h2,h3⟩:=h1;refine ⟨fun j hj=>?_,fun d hd=>?_⟩
 ·have:=List.all_eq_true.1 h2 j hj;simp only[Bool.and_eq_true,bne_iff_ne,decide_eq_true_eq] at this;obtain ⟨⟨q1,q2⟩,q3⟩:=this;obtain ⟨k,hk,q⟩:=Array.any_eq_true.1 q3;simp only[Bool.and_eq_true,Bool.or_eq_true,beq_iff_eq,List.contains_iff_mem] at q;exact ⟨q1,q2,_,Array.getElem_mem hk,q.1,q.2⟩
 ·rw[hd] at h3;simp only[Bool.and_eq_true,decide_eq_true_eq] at h3;refine ⟨h3.1,fun j hj hdj=>?_⟩;have:=List.all_eq_true.1 h3.2 j (List.mem_range.2 hj);simp only[Bool.or_eq_true,beq_iff_eq,bne_iff_ne] at this;rcases this with q|q
  ·exact q
  ·exact absurd hdj q
theorem zDO {n s m:Nat} {ea dep:Array (List Nat)} (h:zzZ ops n s ea dep m=true) {i:Nat} (hi:i∈ea.getD 0 []) {o:Oper} (ho:ops[s]? = some o):i<s/\∃ e∈o.after,Region.binds .any e=true/\e.on=i:=by
 unfold zzZ at h;simp only[Bool.and_eq_true] at h;have h1:=List.all_eq_true.1 h.2 i hi;rw[ho] at h1;simp only[Bool.and_eq_true,decide_eq_true_eq] at h1;obtain ⟨q1,q2⟩:=h1;unfold zFu at q2;obtain ⟨k,hk,q⟩:=Array.any_eq_true.1 q2;simp only[Bool.and_eq_true,beq_iff_eq] at q;exact ⟨q1,_,Array.getElem_mem hk,q.1,q.2⟩
end
def Late (n:Nat) (D:Nat->Option Nat) (L:Array Bool) (a0 a:Act):Prop:=∀ i d,i<n->D i=some d->¬ On L i->a.tmps[d]? = a0.tmps[d]?
theorem Late.eval {n:Nat} {D:Nat->Option Nat} {L:Array Bool} {a0 a:Act} (h:Late n D L a0 a) (i d:Nat) (hi:i<n) (hd:D i=some d) (ho:¬ On L i):a.eval (.tmp d)=a0.eval (.tmp d):=by
 show a.tmps.getD d undef=a0.tmps.getD d undef;rw[Array.getD_eq_getD_getElem?,Array.getD_eq_getD_getElem?,h i d hi hd ho]
theorem Late.put {n:Nat} {D:Nat->Option Nat} {L:Array Bool} {a0 a:Act} (h:Late n D L a0 a) (i:Nat) (hi:i<n) (hinj:∀ j d,j<n->D i=some d->D j=some d->j=i) (hL:i<L.size) (v:Value):Late n D (L.setIfInBounds i true) a0 (a.put (D i) v):=by
 intro j d hj hd ho;have hji:j≠i:=fun e=>ho (by rw[e];exact zeR hL);have h0:=h j d hj hd (fun q=>ho (za8 q));cases hdi:D i with
 | none=>exact h0
 | some e =>
  have hne:e≠d:=fun q=>hji (hinj j d hj (by rw[hdi,q]) hd);show (a.tmps.setIfInBounds e v)[d]? = _;rw[Array.getElem?_setIfInBounds_ne hne];exact h0
section
variable {P:Program} {ops:Array Oper} {Q:Exit->Act->World->Prop}
def FacIL (n s:Nat) (D:Nat->Option Nat) (ea:List Nat) (dep:Nat->List Nat) (F:Nat->(Nat->Value)->World->Prop) (G:World->Prop) (Fin:(Nat->Value)->World->Prop) (a0:Act) (L:Array Bool) (a:Act) (w:World):Prop :=
 L.size=n/\∃ V,Slots n D V L a0 a/\Late n D L a0 a/\(∀ j,j<n->On L j->∀ i∈dep j,On L i)/\(¬ On L s->G w/\∀ j,j<n->On L j->F j V w)/\(On L s->Fin V w/\(∀ i∈ea,On L i)/\∀ j,j<n->On L j->j≠s->j ∉ ea->F j V w)
theorem zcS {id:Nat} {a:Act} {w:World} (n s m:Nat) (ea dep:Array (List Nat)) (hc:zzZ ops n s ea dep m=true) (hm:P.follows .mixedOrders=true) (hz:m<=a.tmps.size)
  (F:Nat->(Nat->Value)->World->Prop) (G:World->Prop) (St:World->World->Prop) (Fin:(Nat->Value)->World->Prop)
  (hloc:∀ j,j<n->∀ V V' w,(∀ i,i=j\/i∈dep.getD j []->V i=V' i)->F j V w->F j V' w)
  (hfin:∀ V V' w,(∀ i,i=s\/i∈ea.getD 0 []->V i=V' i)->Fin V w->Fin V' w)
  (hst:∀ j,j<n->j≠s->∀ V w w',F j V w->St w w'->F j V w')
  (hfree:∀ j,j<n->j≠s->j ∉ ea.getD 0 []->∀ V w w',F j V w->F j V w')
  (hG0:G w.drew)
  (hstep:∀ i,i<n->i≠s->∀ V a' w',G w'->(∀ j∈dep.getD i [],F j V w'/\∀ d,zg8 ops j=some d->a'.eval (.tmp d)=V j)->(∀ t,(∀ j,j<n->zg8 ops j≠some t)->a'.eval (.tmp t)=a.eval (.tmp t))->(∀ d,zg8 ops s=some d->a'.eval (.tmp d)=a.eval (.tmp d)) ->
   ∀ K:Act->World->Prop,(∀ v w'',St w' w''->G w''->F i (upd V i v) w''->K (a'.put (zg8 ops i) v) w'')->wpOp P ops Q i K a' w')
  (hlast:∀ V a' w',G w'->(∀ j∈ea.getD 0 [],F j V w'/\∀ d,zg8 ops j=some d->a'.eval (.tmp d)=V j)->(∀ t,(∀ j,j<n->zg8 ops j≠some t)->a'.eval (.tmp t)=a.eval (.tmp t)) ->
   ∀ K:Act->World->Prop,(∀ v w'',Fin (upd V s v) w''->K (a'.put (zg8 ops s) v) w'')->wpOp P ops Q s K a' w')
  (hafter:∀ i,i<n->i≠s->i ∉ ea.getD 0 []->∀ V a' w',Fin V w'->(∀ j∈dep.getD i [],(j≠s->j ∉ ea.getD 0 []->F j V w')/\∀ d,zg8 ops j=some d->a'.eval (.tmp d)=V j) ->
   ∀ K:Act->World->Prop,(∀ v,F i (upd V i v) w'->K (a'.put (zg8 ops i) v) w')->wpOp P ops Q i K a' w')
  (hend:∀ V w',Fin V w'->(∀ j,j<n->j≠s->j ∉ ea.getD 0 []->F j V w')->Q .normal (zdF (zg8 ops) V n a) w') :
  (Code.region id ops true).wp P Q a w:=by
 obtain ⟨hn,hs,hac⟩:=zz0 hc;have hO:∀ i,i<n->∃ o,ops[i]? = some o:=fun i hi=>⟨_,Array.getElem?_eq_getElem (by rw[hn];exact hi)⟩;have hdo:∀ {i:Nat} {o:Oper},ops[i]? = some o->zg8 ops i=o.dst:=fun h=>(by unfold zg8;rw[h];rfl);have hinj:∀ i j d,i<n->j<n->zg8 ops i=some d->zg8 ops j=some d->j=i:=fun i j d hi hj h1 h2=>by
  obtain ⟨o,ho⟩:=hO i hi;exact ((zo8 hc ho).2 d (by rw[<- hdo ho];exact h1)).2 j hj h2
 have hlt:∀ i d,i<n->zg8 ops i=some d->d<a.tmps.size:=fun i d hi h1=>by
  obtain ⟨o,ho⟩:=hO i hi;exact Nat.lt_of_lt_of_le ((zo8 hc ho).2 d (by rw[<- hdo ho];exact h1)).1 hz
 subst hn;generalize hD:zg8 ops=D at *;generalize hE:ea.getD 0 []=E at *;refine zfS (FacIL ops.size s D E (fun i=>dep.getD i []) F G Fin a) hm (zBm hac) ?_ ?_ ?_
 ·have hno:∀ i,¬ On (Array.replicate ops.size false) i:=fun i=>zgH ops.size i;exact ⟨by simp,fun _=>undef,Slots.start _ _ _ _ _,fun _ _ _ _ _=>rfl,fun j _ h=>absurd h (hno j),fun _=>⟨hG0,fun j _ h=>absurd h (hno j)⟩,fun h=>absurd h (hno s)⟩
 ·intro L a1 w1 ⟨hsz,V,S,_,_,_,h4⟩ hall;have hon:∀ i,i<ops.size->On L i:=fun i hi=>by
   have:=hall i hi;unfold On;rw[Array.getD_eq_getD_getElem?,Array.getElem?_eq_getElem (by omega)] at this ⊢;exact this
  rw[zzY S hinj hlt hon];exact hend V w1 (h4 (hon s hs)).1 fun j hj q1 q2=>(h4 (hon s hs)).2.2 j hj (hon j hj) q1 q2
 ·intro L a1 w1 i ⟨hsz,V,S,SL,h2,h3,h4⟩ hi hn hed;obtain ⟨o,ho⟩:=hO i hi;have n0:=ztZ hn;have hdon:∀ j∈dep.getD i [],On L j/\j≠i/\j<ops.size:=fun j hj=>by
   obtain ⟨q1,q0,e,he,hb,q⟩:=(zo8 hc ho).1 j hj;have h5:=hed o ho e he hb;refine ⟨?_,q1,q0⟩;rcases q with rfl|q
   ·exact h5
   ·have hlt2:e.on<ops.size:=by
     have:=zBm hac i o ho e he hb;omega
    exact h2 e.on hlt2 h5 j q
  have hev:∀ j,j<ops.size->On L j->∀ d,D j=some d->a1.eval (.tmp d)=V j:=fun j hj h d hd=>S.eval j d hj hd h;have hrest:∀ t,(∀ j,j<ops.size->D j≠some t)->a1.eval (.tmp t)=a.eval (.tmp t):=fun t ht=>S.ext t ht;have hput:∀ v,Slots ops.size D (upd V i v) (L.setIfInBounds i true) a (a1.put (D i) v):=fun v=>S.put i hi (by omega) (fun j d hj h5 h6=>hinj i j d hi hj h5 h6) (fun d hd=>hlt i d hi hd) v (fun _=>(zaR V i v).symm) (fun j _ hj=>(zrN (fun e=>n0 (by rw[<- e];exact hj))).symm);have hlate:∀ v,Late ops.size D (L.setIfInBounds i true) a (a1.put (D i) v):=fun v=>SL.put i hi (fun j d hj h5 h6=>hinj i j d hi hj h5 h6) (by omega) v;have hcl:∀ j,j<ops.size->On (L.setIfInBounds i true) j->∀ k∈dep.getD j [],On (L.setIfInBounds i true) k:=fun j hj h k hk=>by
   rcases zf2 h with rfl|q
   ·exact za8 (hdon k hk).1
   ·exact za8 (h2 j hj q k hk)
  have hFl:∀ v w2 j,j<ops.size->On L j->F j V w2->F j (upd V i v) w2:=fun v w2 j hj q h6=>by
   refine hloc j hj V (upd V i v) w2 (fun k hk=>(zrN ?_).symm) h6;rintro rfl;rcases hk with rfl|hk
   ·exact n0 q
   ·exact n0 (h2 j hj q k hk)
  by_cases his:i=s
  ·subst his;obtain ⟨hG,hFs⟩:=h3 n0;have hall:∀ j∈E,j<ops.size/\On L j/\j≠i:=fun j hj=>by
    obtain ⟨q,e,he,hb,rfl⟩:=zDO hc (by rw[hE];exact hj) ho;exact ⟨by omega,hed o ho e he hb,by omega⟩
   refine hlast V a1 w1 hG (fun j hj=>⟨hFs j (hall j hj).1 (hall j hj).2.1,hev j (hall j hj).1 (hall j hj).2.1⟩) hrest _ (fun v w2 k1=>?_);refine ⟨by rw[Array.size_setIfInBounds];exact hsz,upd V i v,hput v,hlate v,hcl,fun h=>absurd (zeR (by omega)) h,fun _=>⟨k1,fun j hj=>za8 (hall j hj).2.1,fun j hj h q1 q2=>?_⟩⟩;rcases zf2 h with q|q
   ·exact absurd q q1
   ·exact hFl v w2 j hj q (hfree j hj q1 q2 V w1 w2 (hFs j hj q))
  ·have hso:On (L.setIfInBounds i true) s->On L s:=fun h=>by
    rcases zf2 h with q|q
    ·exact absurd q.symm his
    ·exact q
   by_cases hos:On L s
   ·obtain ⟨hF,hEa,hFr⟩:=h4 hos;have hiE:i ∉ E:=fun q=>n0 (hEa i q);refine hafter i hi his hiE V a1 w1 hF (fun j hj=>⟨fun q1 q2=>hFr j (hdon j hj).2.2 (hdon j hj).1 q1 q2,hev j (hdon j hj).2.2 (hdon j hj).1⟩) _ (fun v k1=>?_);refine ⟨by rw[Array.size_setIfInBounds];exact hsz,upd V i v,hput v,hlate v,hcl,fun h=>absurd (za8 hos) h,fun _=>⟨hfin V _ w1 (fun k hk=>(zrN ?_).symm) hF,fun j hj=>za8 (hEa j hj),fun j hj h q1 q2=>?_⟩⟩
    ·rintro rfl;rcases hk with q|q
     ·exact his q
     ·exact hiE q
    ·rcases zf2 h with rfl|q
     ·exact k1
     ·exact hFl v w1 j hj q (hFr j hj q q1 q2)
   ·obtain ⟨hG,hFs⟩:=h3 hos;refine hstep i hi his V a1 w1 hG (fun j hj=>⟨hFs j (hdon j hj).2.2 (hdon j hj).1,hev j (hdon j hj).2.2 (hdon j hj).1⟩) hrest (fun d hd=>SL.eval s d hs hd hos) _ (fun v w2 k1 k2 k3=>?_);refine ⟨by rw[Array.size_setIfInBounds];exact hsz,upd V i v,hput v,hlate v,hcl,fun _=>⟨k2,fun j hj h=>?_⟩,fun h=>absurd (hso h) hos⟩;rcases zf2 h with rfl|q
    ·exact k3
    ·exact hFl v w2 j hj q (hst j hj (fun e=>hos (e ▸ q)) V w1 w2 (hFs j hj q) k1)
end
end Go.Proofs.YtmcoomlkbgiboaaGreatDoor
