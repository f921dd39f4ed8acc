/- one and Check of publisherref30. Conditions: lengths. -/
import Derived.Test.YtmcoomlkbgiboaaGreatDoorW45
import Derived.Test.YtmcoomlkbgiboaaGreatDoorW30
import Derived.Test.YtmcoomlkbgiboaaGreatDoorW43
import Derived.Test.YtmcoomlkbgiboaaGreatDoorW44
import Derived.Test.YtmcoomlkbgiboaaGreatDoorW41
import Derived.Test.YtmcoomlkbgiboaaGreatDoorW35
import Derived.Test.YtmcoomlkbgiboaaGreatDoorW42
import Derived.Test.YtmcoomlkbgiboaaGreatDoorW01
import Derived.Test.YtmcoomlkbgiboaaGreatDoorRows
import Derived.ProofKit
import Derived.OpenShut
import Derived.Carry
import Derived.ChangeSame
import Derived.Deep.DeepHandedRow
import Derived.Lib.LaidTab
import Derived.Shelf.Vars
import Derived.Lib.ItoaNum
import Derived.Lib.Space
import Derived.Lib.SpaceR
import Derived.Stop.LaidErr
import Derived.MakeChecks
import Derived.Deep.DeepWitnessRowRef
set_option linter.all false
set_option maxRecDepth 100000
set_option maxHeartbeats 12800000
namespace Go.Proofs.YtmcoomlkbgiboaaGreatDoor
open Go.RowKit
theorem Srcs.front {w:World} {a:Option Addr} {n c:Nat} {ss:List SrcT} (h:Srcs w (.slice a n c) ss) (k:Nat) (hk:k<=ss.length) (c':Nat) (hc:k<=c'):Srcs w (.slice a k c') (ss.take k):=by
 obtain ⟨a',c2,hv,_,h3⟩:=h;obtain ⟨rfl,_,_⟩:=Value.slice.inj hv;refine ⟨a,c',by rw[List.length_take,Nat.min_eq_left hk],by rw[List.length_take];omega,fun q=>?_⟩;rw[List.length_take] at q;obtain ⟨g,o,ha,hg,hc⟩:=h3 (by omega);refine ⟨g,o,ha,hg,fun j x hx=>hc j x ?_⟩;rw[List.getElem?_take] at hx
 split at hx
 ·exact hx
 ·cases hx
def zEh (ks:List Bs) (s:SrcT):Int:=if zc0 s.type=false\/zc0 s.key=false then 6 else if ks.contains s.key=true then 7 else zw7 s
theorem zC0 (l:List SrcT) (k:Nat) (s:SrcT) (h:l[k]? = some s):zAR ((l.take k).map (·.key)) (l.drop k)=if zEh ((l.take k).map (·.key)) s≠0 then zEh ((l.take k).map (·.key)) s else zAR ((l.take (k+1)).map (·.key)) (l.drop (k+1)):=by
 rw[zyH l _ k s h];have e:(l.take (k+1)).map (·.key)=(l.take k).map (·.key) ++ [s.key]:=by
  obtain ⟨hk,rfl⟩:=List.getElem?_eq_some_iff.1 h;rw[List.take_succ_eq_append_getElem hk,List.map_append];rfl
 rw[e];unfold zEh
 split
 ·rfl
 split
 ·rfl
 ·rfl
theorem zC1 (s:SrcT) (vA vE vF vB:Value) (ss:List SrcT) (w:World) (hA:Perss w vA s.author) (hE:Perss w vE s.editor) (hF:Prs w vF s.fields) (hB:Srcs w vB ss) (hsm:SmallS s) (hl:ss.length<=1100000) :
  Calls Tryz.prog 59 #[zi0 s.key s.type vA vE vF,vB] w fun e w'=>e=.returned (.int .i64 (zEh (ss.map (·.key)) s))/\Kept w w':=by
 have HR:Hid (zEh (ss.map (·.key)) s=if zc0 s.type=false\/zc0 s.key=false then 6 else if (zhM ss s.key).isSome=true then 7 else zw7 s):=by
  show _=_;rw[zAL];rfl
 have HS:Hid (zw7 s=if (32<s.author.length\/32<s.editor.length)\/24<s.fields.length then 3 else if zdL s.author≠0 then zdL s.author else if zdL s.editor≠0 then zdL s.editor else if zoE [] s.fields≠0 then zoE [] s.fields else if zhZ s.fields [116,105,116,108,101]=true then 0 else 8):=rfl;obtain ⟨R,HRR⟩:∃ R,Hid (zEh (ss.map (·.key)) s=R):=⟨_,rfl⟩;rw[HRR.out] at HR ⊢;clear HRR;obtain ⟨m1,m2,m3,l1,l2,l3,l4,l5⟩:=hsm;have HNT:=Hd (fun w=>zmL s.type w l5);have HNK:=Hd (fun w=>zmL s.key w l4);have HFD:=Hd (fun w' (h:Kept w w')=>zAA vB ss s.key w' (hB.kept h) hl);have HPA:=Hd (fun w' (h:Kept w w')=>zj1 vA s.author w' (hA.kept h) m1 l1);have HPE:=Hd (fun w' (h:Kept w w')=>zj1 vE s.editor w' (hE.kept h) m2 l2);have HFF:=Hd (fun w' (h:Kept w w')=>ztE vF s.fields w' (hF.kept h) m3 l3);have HFT:=Hd (fun w' (h:Kept w w')=>zvN s.key s.type vA vE vF s.fields [116,105,116,108,101] w' (hF.kept h) l3);unfold FindPost at HFD;unfold FieldPost at HFT;rw[zCZ] at HFT;generalize (zbC s.fields [116,105,116,108,101]).getD []=fv at *;obtain ⟨aA,cA,rfl,zA,zA'⟩:=hA;obtain ⟨aE,cE,rfl,zE,zE'⟩:=hE;obtain ⟨aF,cF,rfl,zF,zF'⟩:=hF;obtain ⟨aB,cB,rfl,zB,zB'⟩:=hB;clear zA zA' zE zE' zF zF' zB zB';have HBK:=Hd (Blk.new w 50 #[.string (bs s.key),.string (bs s.type),.slice aA s.author.length cA,.slice aE s.editor.length cE,.slice aF s.fields.length cF]);have HK0:=Hd (zaA w (.cells #[.string (bs s.key),.string (bs s.type),.slice aA s.author.length cA,.slice aE s.editor.length cE,.slice aF s.fields.length cF] 50));generalize zc0 s.type=n1 at *;generalize zc0 s.key=n2 at *;generalize (zhM ss s.key).isSome=fb at *;generalize (zhM ss s.key).getD zvV=xs at *;generalize zdL s.author=EA at *;generalize zdL s.editor=EE at *;generalize zoE [] s.fields=EF at *;generalize zhZ s.fields [116,105,116,108,101]=hb at *;generalize zw7 s=SE at *;go_enter Tryz.func59,Tryz.ntmps59;go_wp2_with fail;generalize w.alloc (.cells #[.string (bs s.key),.string (bs s.type),.slice aA s.author.length cA,.slice aE s.editor.length cE,.slice aF s.fields.length cF] 50)=w0 at *;generalize hBB:w.heap.size=B at *;refine (HNT.out _).mono ?_;rintro e w1 ⟨rfl,hk⟩;have HK1:=Hd (HK0.out.trans hk);have HB1:=Hd (HBK.out.kept hk);clear hk HBK HK0;have c0:w1.cell? ⟨B,0,none⟩=some (.string (bs s.key)):=HB1.out.cell 0 _ rfl;have z1:=HB1.out.lt;cases n1
 ·rw[if_pos (.inl rfl)] at HR;go_wp2_with fail;go_ret;exact ⟨by rw[HR.out];rfl,HK1.out⟩
 go_wp2_with fail;refine (HNK.out _).mono ?_;rintro e w2 ⟨rfl,hk⟩;have HK2:=Hd (HK1.out.trans hk);have HB2:=Hd (HB1.out.kept hk);clear hk c0 z1 HB1 HK1;have c0:w2.cell? ⟨B,0,none⟩=some (.string (bs s.key)):=HB2.out.cell 0 _ rfl;have z2:=HB2.out.lt;cases n2
 ·rw[if_pos (.inr rfl)] at HR;go_wp2_with fail;go_ret;exact ⟨by rw[HR.out];rfl,HK2.out⟩
 rw[if_neg (by simp)] at HR;go_wp2_with fail;refine (HFD.out _ HK2.out).mono ?_;rintro e w3 ⟨uA,uE,uF,rfl,pA,pE,pF,hk⟩;have HK3:=Hd ((HK2.out.trans hk));have HB3:=Hd (HB2.out.kept hk);clear hk c0 z2 HB2 HK2;obtain ⟨bA,dA,rfl,y1,y2⟩:=pA;obtain ⟨bE,dE,rfl,y3,y4⟩:=pE;obtain ⟨bF,dF,rfl,y5,y6⟩:=pF;clear y1 y2 y3 y4 y5 y6;have hw4:=zaA w3 (.cells #[.string (bs xs.key),.string (bs xs.type),.slice bA xs.author.length dA,.slice bE xs.editor.length dE,.slice bF xs.fields.length dF] 50);have HK4:=Hd (HK3.out.trans hw4);have HB4:=Hd (HB3.out.kept hw4);clear hw4;cases fb
 case true =>
  rw[if_pos rfl] at HR;go_wp2_with fail;go_ret;exact ⟨by rw[HR.out];rfl,HK4.out⟩
 rw[if_neg (by simp),HS.out] at HR;have c2:w3.cell? ⟨B,2,none⟩=some (.slice aA s.author.length cA):=HB3.out.cell 2 _ rfl;have c3:w3.cell? ⟨B,3,none⟩=some (.slice aE s.editor.length cE):=HB3.out.cell 3 _ rfl;have c4:w3.cell? ⟨B,4,none⟩=some (.slice aF s.fields.length cF):=HB3.out.cell 4 _ rfl;have z3:=HB3.out.lt;by_cases q1:32<s.author.length
 ·rw[if_pos (.inl (.inl q1))] at HR;go_wp2_with fail;go_ret;exact ⟨by rw[HR.out];rfl,HK4.out⟩
 by_cases q2:32<s.editor.length
 ·rw[if_pos (.inl (.inr q2))] at HR;go_wp2_with fail;go_ret;exact ⟨by rw[HR.out];rfl,HK4.out⟩
 by_cases q3:24<s.fields.length
 ·rw[if_pos (.inr q3)] at HR;go_wp2_with fail;go_ret;exact ⟨by rw[HR.out];rfl,HK4.out⟩
 rw[if_neg (by omega)] at HR;go_wp2_with fail;refine (HPA.out _ HK4.out).mono ?_;rintro e w5 ⟨rfl,hk⟩;have HK5:=Hd (HK4.out.trans hk);have HB5:=Hd (HB4.out.kept hk);clear hk c2 c3 c4 z3;by_cases hEA:EA=0
 case neg =>
  rw[if_pos hEA] at HR;go_wp2_with fail;go_ret;exact ⟨by rw[HR.out];rfl,HK5.out⟩
 subst hEA;rw[if_neg (by simp)] at HR;have c3:w5.cell? ⟨B,3,none⟩=some (.slice aE s.editor.length cE):=HB5.out.cell 3 _ rfl;have z5:=HB5.out.lt;go_wp2_with fail;refine (HPE.out _ HK5.out).mono ?_;rintro e w6 ⟨rfl,hk⟩;have HK6:=Hd (HK5.out.trans hk);have HB6:=Hd (HB5.out.kept hk);clear hk c3 z5;by_cases hEE:EE=0
 case neg =>
  rw[if_pos hEE] at HR;go_wp2_with fail;go_ret;exact ⟨by rw[HR.out];rfl,HK6.out⟩
 subst hEE;rw[if_neg (by simp)] at HR;have c4:w6.cell? ⟨B,4,none⟩=some (.slice aF s.fields.length cF):=HB6.out.cell 4 _ rfl;have z6:=HB6.out.lt;go_wp2_with fail;refine (HFF.out _ HK6.out).mono ?_;rintro e w7 ⟨rfl,hk⟩;have HK7:=Hd (HK6.out.trans hk);have HB7:=Hd (HB6.out.kept hk);clear hk c4 z6;by_cases hEF:EF=0
 case neg =>
  rw[if_pos hEF] at HR;go_wp2_with fail;go_ret;exact ⟨by rw[HR.out];rfl,HK7.out⟩
 subst hEF;rw[if_neg (by simp)] at HR;have c0:w7.cell? ⟨B,0,none⟩=some (.string (bs s.key)):=HB7.out.cell 0 _ rfl;have c1:w7.cell? ⟨B,1,none⟩=some (.string (bs s.type)):=HB7.out.cell 1 _ rfl;have c2:w7.cell? ⟨B,2,none⟩=some (.slice aA s.author.length cA):=HB7.out.cell 2 _ rfl;have c3:w7.cell? ⟨B,3,none⟩=some (.slice aE s.editor.length cE):=HB7.out.cell 3 _ rfl;have c4:w7.cell? ⟨B,4,none⟩=some (.slice aF s.fields.length cF):=HB7.out.cell 4 _ rfl;have z7:=HB7.out.lt;go_wp2_with fail;refine (HFT.out _ HK7.out).mono ?_;rintro e w8 ⟨rfl,hk⟩;have HK8:=Hd (HK7.out.trans hk);clear hk c0 c1 c2 c3 c4 z7;cases hb
 ·rw[if_neg (by simp)] at HR;go_wp2_with fail;go_ret;exact ⟨by rw[HR.out];rfl,HK8.out⟩
 ·rw[if_pos rfl] at HR;go_wp2_with fail;go_ret;exact ⟨by rw[HR.out];rfl,HK8.out⟩
theorem zw4 (v:Value) (ss:List SrcT) (w:World) (hv:Srcs w v ss) (hs:∀ s∈ss,SmallS s) (hl:ss.length<=1100000) :
  Calls Tryz.prog 21 #[v] w fun e w'=>e=.returned (.int .i64 (ze2 ss))/\Kept w w':=by
 have HV:=Hd hv;have HR:Hid (ze2 ss=if 256<ss.length then 3 else zAR ((ss.take 0).map (·.key)) (ss.drop 0)):=rfl;obtain ⟨R,HRR⟩:∃ R,Hid (ze2 ss=R):=⟨_,rfl⟩;rw[HRR.out] at HR ⊢;clear HRR;obtain ⟨a,c,rfl,hc,hh⟩:=hv;clear hh;by_cases hlim:256<ss.length
 ·rw[if_pos hlim] at HR;go_enter Tryz.func21,Tryz.ntmps21;go_wp2_with fail;go_ret;exact ⟨by rw[HR.out];rfl,Kept.refl _⟩
 ·rw[if_neg hlim] at HR;have hlim':ss.length<=256:=(by omega);go_enter Tryz.func21,Tryz.ntmps21;go_wp2_with fail;go_loopw [11] (fun i wr=>∃ k:Nat,k<=ss.length/\i=.int .i64 k/\Hid (R=zAR ((ss.take k).map (·.key)) (ss.drop k))/\Hid (Kept w wr)) (fun i _=>ss.length - (intOf i).toNat)
  case atStart=>exact ⟨0,Nat.zero_le _,rfl,HR,Kept.refl _⟩
  case round =>
   obtain ⟨k,hk,rfl,HP,HKR⟩:=hrel;by_cases hlt:k<ss.length
   ·obtain ⟨s,hx⟩:∃ x,ss[k]? = some x:=⟨_,List.getElem?_eq_getElem hlt⟩;have HSM:=Hd (hs s (List.mem_of_getElem? hx));have HAT:=Hd (zC0 ss k s hx);rw[HAT.out] at HP;obtain ⟨a',c',hv',hc',h3⟩:=HV.out;obtain ⟨rfl,hdead,rfl⟩:=Value.slice.inj hv';clear hdead hc';obtain ⟨g,o,rfl,hg',hcc⟩:=h3 (by omega);obtain ⟨vA,vE,vF,t0,t1,t2,t3,t4,pA,pE,pF⟩:=hcc k s hx;have d0:=(HKR.out.cell (p:=⟨g,_,none⟩) hg').trans t0;have d1:=(HKR.out.cell (p:=⟨g,_,none⟩) hg').trans t1;have d2:=(HKR.out.cell (p:=⟨g,_,none⟩) hg').trans t2;have d3:=(HKR.out.cell (p:=⟨g,_,none⟩) hg').trans t3;have d4:=(HKR.out.cell (p:=⟨g,_,none⟩) hg').trans t4;clear t0 t1 t2 t3 t4;have hg2:g<wr.heap.size:=Nat.lt_of_lt_of_le hg' HKR.out.size;have HON:=Hd (fun w' (h:Kept w w')=>zC1 s vA vE vF (.slice (some ⟨g,o,none⟩) k c) (ss.take k) w' (pA.kept h) (pE.kept h) (pF.kept h) ((HV.out.kept h).front k hk c (by omega)) HSM.out (by rw[List.length_take];omega));obtain ⟨aA,cA,rfl,zA,zA'⟩:=pA;obtain ⟨aE,cE,rfl,zE,zE'⟩:=pE;obtain ⟨aF,cF,rfl,zF,zF'⟩:=pF;clear zA zA' zE zE' zF zF';have HBK:=Hd (Blk.new wr 50 #[.string (bs s.key),.string (bs s.type),.slice aA s.author.length cA,.slice aE s.editor.length cE,.slice aF s.fields.length cF]);have HK1:=Hd (HKR.out.trans (zaA wr (.cells #[.string (bs s.key),.string (bs s.type),.slice aA s.author.length cA,.slice aE s.editor.length cE,.slice aF s.fields.length cF] 50)));clear hcc h3 hv' hx HAT;generalize zEh ((ss.take k).map (·.key)) s=E at *;go_wp2_with fail;generalize wr.alloc (.cells #[.string (bs s.key),.string (bs s.type),.slice aA s.author.length cA,.slice aE s.editor.length cE,.slice aF s.fields.length cF] 50)=w1 at *;generalize wr.heap.size=B at *;clear d0 d1 d2 d3 d4 hg' hg2;have HC:Hid (∀ w',Kept w1 w'->(w'.cell? ⟨B,0,none⟩=some (.string (bs s.key))/\w'.cell? ⟨B,1,none⟩=some (.string (bs s.type))/\w'.cell? ⟨B,2,none⟩=some (.slice aA s.author.length cA)/\w'.cell? ⟨B,3,none⟩=some (.slice aE s.editor.length cE)/\w'.cell? ⟨B,4,none⟩=some (.slice aF s.fields.length cF))/\B<w'.heap.size/\Kept w1 w'):=fun w' h=>⟨⟨(HBK.out.kept h).cell 0 _ rfl,(HBK.out.kept h).cell 1 _ rfl,(HBK.out.kept h).cell 2 _ rfl,(HBK.out.kept h).cell 3 _ rfl,(HBK.out.kept h).cell 4 _ rfl⟩,(HBK.out.kept h).lt,h⟩;have hKd:Kept w1 w1.drew:=zaB w1 1;have HKD:=Hd (HK1.out.trans hKd);have hkc:k<=c:=(by omega);have i1:(0:Int)<=(k:Int):=(by omega);have i2:(k:Int)<=(c:Int):=(by omega)
    go_region_held3 (fun w'=>(w'.cell? ⟨B,0,none⟩=some (.string (bs s.key))/\w'.cell? ⟨B,1,none⟩=some (.string (bs s.type))/\w'.cell? ⟨B,2,none⟩=some (.slice aA s.author.length cA)/\w'.cell? ⟨B,3,none⟩=some (.slice aE s.editor.length cE)/\w'.cell? ⟨B,4,none⟩=some (.slice aF s.fields.length cF))/\B<w'.heap.size/\Kept w1 w')
     ((refine HC.out _ ?_;first|assumption|exact Kept.refl _))
     (first|(go_at_call 59;refine (HON.out _ HKD.out).mono ?_;rintro e w2 ⟨rfl,hk2⟩;have k2:=Kept.trans hKd hk2;clear hk2))
    all_goals
     have HK2:=Hd (HK1.out.trans k2);clear k2 HC hKd i1 i2;by_cases hE:E=0
     ·subst hE;rw[if_neg (by simp)] at HP;go_wp2_with fail;go_roundw
      case rel=>exact ⟨k+1,by omega,by go_num,HP,HK2⟩
      case measure=>simp [intOf];omega
     ·rw[if_pos hE] at HP;go_wp2_with fail;go_ret;exact ⟨by rw[HP.out];rfl,HK2.out⟩
   ·obtain rfl:k=ss.length:=(by omega);rw[List.drop_length] at HP;have HZ:Hid (R=0):=HP.out;go_wp2_with fail;go_ret;exact ⟨by rw[HZ.out];rfl,HKR.out⟩
theorem zrV (l:List SrcT) (y:StyT) (v vE:Value) (lang:Bs) (w:World) (hen:EnvC w) (hv:Srcs w v l) (hE:Prs w vE y.entries) (hl:l.length<=140737488355328) (hfs:∀ s∈l,FitS s) (hfy:FitY y) :
  Calls Tryz.prog 6 #[v,zeP vE y,.string (bs lang)] w fun e w'=>e=.returned (.bool true)/\Kept w w':=by
 have HFW:=Hd (fun w' (k:Kept w w')=>zz0 l y v vE w' (hv.kept k) (hE.kept k) hl hfs hfy);unfold FewP at HFW;have HAW:=Hd (fun w' (k:Kept w w')=>ztC w' (hen.kept k));have HOR:=Hd (fun l' v' w' (k:Kept w w') (h:Srcs w' v' l') (h1:l'.length<=19) (h2:∀ s∈l',FitL s) (h3:FewY y)=>zq9 v' vE l' y lang w' (hen.kept k) h h1 h2 (hE.kept k) h3.small);unfold OrdP at HOR;have HSU:=Hd (fun l' v' w' (k:Kept w w') (h:Srcs w' v' l') (h1:l'.length<=8) (h2:∀ s∈l',FitL s) (h3:FewY y)=>zmG v' vE l' y lang w' (hen.kept k) h h1 h2 (hE.kept k) h3.small h3.2.2.2);unfold SufPo at HSU;have HC1:=Hd (fun w' (k:Kept w w') (h3:FewY y)=>zrK vE y w' h3.small (hE.kept k));have HC2:=Hd (fun w' (k:Kept w w') (h1:l.length<=8) (h2:∀ s∈l,FitL s)=>zw4 v l w' (hv.kept k) (fun s hs=>(h2 s hs).small) (by omega));have HFD:=Hd (fun w' (h3:FewY y)=>zrU y.cite w' (by have:=h3.2.1;omega));have HFL0:=Hd (fun (s:SrcT) (suf:Bs) (n:Int) vA vX vF w' (k:Kept w w') (h1:Perss w' vA s.author) (h2:Perss w' vX s.editor) (h3:Prs w' vF s.fields) (hf:FitL s) (hs:suf.length<=1000) (hn:0<=n/\n<=100) (hy:FewY y)=>zlU (zg7 s y lang suf n) y.cite vA vX vF vE y w' rfl (by obtain ⟨a,c,e,_⟩:=hE;rw[e];rfl) (hen.gnd.kept k) (zd1 hen.tab k) (by have:=hy.2.1;omega) (hf.fitV y hy.2.2.2 lang suf hs n (by omega)) h1 h2 h3);simp only[zg7] at HFL0;have HSO:=Hd (fun v v' xs ys w' (h1:Srcs w' v xs) (h2:Srcs w' v' ys) (h3:xs.length<=19) (h4:ys.length<=19) (h5:∀ s∈xs,FitL s) (h6:∀ s∈ys,FitL s)=>zo3 v v' xs ys w' h1 h2 (by omega) (by omega) (fun s hs=>by have:=h5 s hs;unfold FitL at this;omega) (fun s hs=>by have:=h6 s hs;unfold FitL at this;omega));obtain ⟨aE,cE,rfl,zE⟩:=hE.form;obtain ⟨a,c,rfl,zV⟩:=(show ∃ a c,v=.slice a l.length c/\l.length<=c by obtain ⟨a,c,e,q,_⟩:=hv;exact ⟨a,c,e,q⟩);have HV:=Hd hv;have hka:=zaA w (.cells (zaE (.slice aE y.entries.length cE) y) 33);have HY0:=Hd (Blk.new w 33 (zaE (.slice aE y.entries.length cE) y));have HK0:=Hd hka;unfold zeP at HFW HOR HSU HC1 HFL0 ⊢;unfold zaE at HFW HOR HSU HC1 HFL0 HY0 HK0 ⊢;clear hka hen hv hE hfs hfy;go_enter Tryz.func6,Tryz.ntmps6;go_wp2_with fail;generalize w.alloc _=W0 at *;obtain ⟨S,HSS⟩:∃ S,Hid (w.heap.size=S):=⟨_,rfl⟩;rw[HSS.out] at HY0 ⊢;refine (HFW.out W0 HK0.out).mono ?_;rintro e w1 ⟨b,rfl,hb,hk1⟩;have HK1:=Hd (HK0.out.trans hk1);have HY1:=Hd (HY0.out.kept hk1);clear hk1 HFW HY0 HK0;cases b with
 | false =>
  go_wp2_with fail;refine (HAW.out w1 HK1.out).mono ?_;rintro e w2 ⟨rfl,hk2⟩;have HK2:=Hd (HK1.out.trans hk2);clear hk2;go_wp2_with fail
  (try go_ret)
  exact ⟨rfl,HK2.out⟩
 | true =>
  obtain ⟨hl8,hfl,hfy⟩:=hb rfl;have HFL:=Hd hfl;have HFY:=Hd hfy;clear hb hfl hfy;have c0:=HY1.out.cell 0 _ rfl;have c1:=HY1.out.cell 1 _ rfl;have c2:=HY1.out.cell 2 _ rfl;have c3:=HY1.out.cell 3 _ rfl;have c4:=HY1.out.cell 4 _ rfl;have c5:=HY1.out.cell 5 _ rfl;have c6:=HY1.out.cell 6 _ rfl;have c7:=HY1.out.cell 7 _ rfl;have c8:=HY1.out.cell 8 _ rfl;have c9:=HY1.out.cell 9 _ rfl;go_wp2_with fail;refine (HC1.out w1 HK1.out HFY.out).mono ?_;clear c0 c1 c2 c3 c4 c5 c6 c7 c8 c9;rintro e w2 ⟨rfl,hk2⟩;have HK2:=Hd (HK1.out.trans hk2);have HY2:=Hd (HY1.out.kept hk2);clear hk2 HK1 HY1 HC1;by_cases hst:¬ zdP y=0
  ·have hne:(zdP y == 0)=false:=(by rw[beq_eq_false_iff_ne];exact hst);have hnb:(zdP y != 0)=true:=(by rw[bne_iff_ne];exact hst);clear hst;generalize zdP y=E at *;go_wp2_with fail;refine (HAW.out w2 HK2.out).mono ?_;rintro e w9 ⟨rfl,hk9⟩;have HK9:=Hd (HK2.out.trans hk9);clear hk9;go_wp2_with fail
   (try go_ret)
   exact ⟨rfl,HK9.out⟩
  have hst:zdP y=0:=Decidable.not_not.1 hst;rw[hst];go_wp2_with fail;refine (HC2.out w2 HK2.out (by omega) HFL.out).mono ?_;rintro e w3 ⟨rfl,hk3⟩;have HK3:=Hd (HK2.out.trans hk3);have HY3:=Hd (HY2.out.kept hk3);clear hk3 HK2 HY2 HC2;by_cases hck:¬ ze2 l=0
  ·have hne:(ze2 l == 0)=false:=(by rw[beq_eq_false_iff_ne];exact hck);have hnb:(ze2 l != 0)=true:=(by rw[bne_iff_ne];exact hck);clear hck hst;generalize ze2 l=E at *;go_wp2_with fail;refine (HAW.out w3 HK3.out).mono ?_;rintro e w9 ⟨rfl,hk9⟩;have HK9:=Hd (HK3.out.trans hk9);clear hk9;go_wp2_with fail
   (try go_ret)
   exact ⟨rfl,HK9.out⟩
  have hck:ze2 l=0:=Decidable.not_not.1 hck;rw[hck];clear hck;have c0:=HY3.out.cell 0 _ rfl;have c1:=HY3.out.cell 1 _ rfl;have c2:=HY3.out.cell 2 _ rfl;have c3:=HY3.out.cell 3 _ rfl;have c4:=HY3.out.cell 4 _ rfl;have c5:=HY3.out.cell 5 _ rfl;have c6:=HY3.out.cell 6 _ rfl;have c7:=HY3.out.cell 7 _ rfl;have c8:=HY3.out.cell 8 _ rfl;have c9:=HY3.out.cell 9 _ rfl;go_wp2_with fail;refine (HFD.out w3 HFY.out).mono ?_;rintro e w3' ⟨rfl,hw3⟩;subst hw3;clear HFD;have HCN0:Hid (∀ b,y.numeric=b->(if b=true then nB y.cite=mB y.cite else mB y.cite=0)->(if y.numeric=true then nB y.cite=mB y.cite else mB y.cite=0)):=fun b hb h=>(by rw[hb];exact h);have HORX:=Hd (HOR.out l _ w3' HK3.out (HV.out.kept HK3.out) (by omega) HFL.out HFY.out);clear HOR;obtain ⟨N,HNN⟩:∃ N,Hid (nB y.cite=N):=⟨_,rfl⟩;obtain ⟨M,HMM⟩:∃ M,Hid (mB y.cite=M):=⟨_,rfl⟩;rw[HNN.out,HMM.out] at HCN0 ⊢;have hcase:(y.numeric=true/\N=M)\/(y.numeric=true/\N≠M)\/(y.numeric=false/\M=0)\/(y.numeric=false/\M≠0):=by
   cases y.numeric with
   | true=>by_cases h:N=M <;> simp [h]
   | false=>by_cases h:M=0 <;> simp [h]
  rcases hcase with ⟨hnu,hq⟩|⟨hnu,hq⟩|⟨hnu,hq⟩|⟨hnu,hq⟩
  case inr.inl =>
   rw[hnu] at c1;have q1:((N:Int) == (M:Int))=false:=(by rw[beq_eq_false_iff_ne];omega);have q2:((N:Int) != (M:Int))=true:=(by rw[bne_iff_ne];omega);clear HCN0 hq HNN HMM hnu hst;go_wp2_with fail;refine (HAW.out w3' HK3.out).mono ?_;rintro e w9 ⟨rfl,hk9⟩;have HK9:=Hd (HK3.out.trans hk9);clear hk9;go_wp2_with fail
   (try go_ret)
   exact ⟨rfl,HK9.out⟩
  case inr.inr.inr =>
   rw[hnu] at c1;have q1:decide (0<(M:Int))=true:=decide_eq_true (by omega);have q2:0<M:=(by omega);clear HCN0 hq HNN HMM hnu hst;go_wp2_with fail;refine (HAW.out w3' HK3.out).mono ?_;rintro e w9 ⟨rfl,hk9⟩;have HK9:=Hd (HK3.out.trans hk9);clear hk9;go_wp2_with fail
   (try go_ret)
   exact ⟨rfl,HK9.out⟩
  case' inl =>
   have HCN:=Hd (HCN0.out true hnu (by rw[if_pos rfl];exact hq));rw[hnu] at c1;have q1:((N:Int) == (M:Int))=true:=(by rw[beq_iff_eq];omega);have q2:((N:Int) != (M:Int))=false:=by rw[hq];simp
  case' inr.inr.inl =>
   have HCN:=Hd (HCN0.out false hnu (by rw[if_neg (by decide)];exact hq));rw[hnu] at c1;have q1:decide (0<(M:Int))=false:=decide_eq_false (by omega);have q2:¬ 0<M:=by omega
  all_goals
   rw[<- HNN.out,<- HMM.out] at HCN;clear HCN0 hq HNN HMM hnu;go_upto_region 6 with fail;obtain ⟨nu,HNU⟩:∃ nu,Hid (y.numeric=nu):=⟨_,rfl⟩;rw[HNU.out] at HORX HSU HFL0 HY3;clear c0 c1 c2 c3 c4 c5 c6 c7 c8 c9 q1 q2;have c0:=HY3.out.cell 0 _ rfl;have c1:=HY3.out.cell 1 _ rfl;have c2:=HY3.out.cell 2 _ rfl;have c3:=HY3.out.cell 3 _ rfl;have c4:=HY3.out.cell 4 _ rfl;have c5:=HY3.out.cell 5 _ rfl;have c6:=HY3.out.cell 6 _ rfl;have c7:=HY3.out.cell 7 _ rfl;have c8:=HY3.out.cell 8 _ rfl;have c9:=HY3.out.cell 9 _ rfl;go_wp2_with fail;have hpm:=zq1 (zsT lang) (wsY y) l;have e1:zCc y lang l=(0,zAW (zsT lang) (wsY y) l):=if_pos hst;rw[e1] at HORX;simp only at HORX;obtain ⟨O,HO⟩:∃ O,Hid (zAW (zsT lang) (wsY y) l=O):=⟨_,rfl⟩;rw[HO.out] at HORX hpm;have HFO:Hid (∀ s∈O,FitL s):=fun s hs=>HFL.out s (hpm.mem_iff.1 hs);have hol:=hpm.length_eq;have HOL:=Hd hol;have HSL:=Hd (zuO hst lang O);have HAP:=Hd (zCW hst lang O (by omega) HCN.out);have HSUE:Hid ((zkC y lang O).1=0):=(by show _=_;unfold zkC;rw[if_pos hst]);have HSM:=Hd (fun u h=>zAJ hst (lang:=lang) (O:=O) (by omega) u h);have HSPL:Hid (zcU y.cite=0):=(zgJ hst).1;have hO8:O.length<=8:=(by omega);clear e1 hpm HO hol hst HCN;refine HORX.out.mono ?_;rintro e w4 ⟨vO,rfl,ho,hk4⟩;have hs4:=Srcs.outO ho;have HK4:=Hd (HK3.out.trans hk4);have HY4:=Hd (HY3.out.kept hk4);have HS4:=Hd hs4;obtain ⟨aO,cO,rfl,zO⟩:=(show ∃ a c,vO=.slice a O.length c/\O.length<=c by obtain ⟨a,c,e,q,_⟩:=hs4;exact ⟨a,c,e,q⟩);have HSUX:=Hd (HSU.out O _ w4 HK4.out HS4.out hO8 HFO.out HFY.out);clear ho hk4 hs4 HK3 HY3 HORX HSU;have c0:=HY4.out.cell 0 _ rfl;have c1:=HY4.out.cell 1 _ rfl;have c2:=HY4.out.cell 2 _ rfl;have c3:=HY4.out.cell 3 _ rfl;have c4:=HY4.out.cell 4 _ rfl;have c5:=HY4.out.cell 5 _ rfl;have c6:=HY4.out.cell 6 _ rfl;have c7:=HY4.out.cell 7 _ rfl;have c8:=HY4.out.cell 8 _ rfl;have c9:=HY4.out.cell 9 _ rfl;go_wp2_with fail;refine HSUX.out.mono ?_;rintro e w5 ⟨vS,rfl,hss,hk5⟩;rw[HSUE.out];obtain ⟨ss,HSS⟩:∃ ss,Hid ((zkC y lang O).2=ss):=⟨_,rfl⟩;rw[HSS.out] at hss HSL HAP;have HK5:=Hd (HK4.out.trans hk5);have HY5:=Hd (HY4.out.kept hk5);have HS5:=Hd (HS4.out.kept hk5);have HSB:Hid (∀ u∈ss,u.length<=100):=fun u h=>HSM.out u (by rw[HSS.out];exact h);obtain ⟨aS,cS,rfl,lS⟩:=hss.shape;have HX5:=Hd hss;rw[HSL.out] at lS ⊢;rw[HOL.out] at HSL zO hO8 ⊢;clear hss hk5 HK4 HY4 HS4 HSUX HSUE HSS HSM c0 c1 c2 c3 c4 c5 c6 c7 c8 c9;have hcells:=HY5.out;go_wp2_with fail;rw[HSPL.out] at HFL0;obtain ⟨tx,HTX⟩:∃ tx:Nat->Bs,Hid ((∀ i s u,O[i]? = some s->ss[i]? = some u->zcR (zg7 s y lang u ((i+1:Nat):Int)) y.cite=tx i)/\∀ i j,i<l.length->j<l.length->i≠j->tx i≠tx j):=⟨apT y lang O ss,fun i s u h1 h2=>(zrT h1 h2).symm,fun i j h1 h2 h3=>HAP.out i j (by rw[HOL.out];exact h1) (by rw[HOL.out];exact h2) h3⟩;obtain ⟨i0,hi,hz0,hz1,hz2⟩:=info_parts Tryz.infoStr;clear HAP HSPL hcells;go_loopw [13,14] (fun ov i wr=>∃ k:Nat,k<=l.length/\i=.int .i64 k/\Hid (wr.ownsRow w5.heap.size 9 1 ov ((List.range k).map tx).length (zaG ((List.range k).map tx)))/\Hid (Kept w5 wr)) (fun _ i _=>l.length - (intOf i).toNat)
   case atStart=>exact ⟨0,Nat.zero_le _,rfl,World.ownsRow_nil _ _ _ _,Kept.refl _⟩
   case round =>
    obtain ⟨k,hk,rfl,HOW,HKR⟩:=hrel;by_cases hlt:k<l.length
    ·obtain ⟨s,hs⟩:∃ s,O[k]? = some s:=⟨_,List.getElem?_eq_getElem (by have:=HOL.out;omega)⟩;obtain ⟨u,hu⟩:∃ u,ss[k]? = some u:=⟨_,List.getElem?_eq_getElem (by have:=HSL.out;omega)⟩;have hsf:=HFO.out s (List.mem_of_getElem? hs);have hub:=HSB.out u (List.mem_of_getElem? hu);have htx:=HTX.out.1 k s u hs hu;obtain ⟨g,o,vA,vX,vF,rfl,hg,d0,d1,d2,d3,d4,pA,pX,pF⟩:=Srcs.at_ (HS5.out.kept HKR.out) k s hs;obtain ⟨g2,o2,rfl,hg2,e0,-,-⟩:=(HX5.out.kept HKR.out).cell_of k u hu;obtain ⟨pa,qa,rfl,la⟩:=pA.shape;obtain ⟨pe,qe,rfl,le⟩:=pX.shape;obtain ⟨pf,qf,rfl,lf⟩:=pF.shape;have HFX:=Hd (fun w' (kk:Kept wr w')=>HFL0.out s u ((k+1:Nat):Int) _ _ _ w' (HK5.out.trans (HKR.out.trans kk)) (pA.kept kk) (pX.kept kk) (pF.kept kk) hsf (by omega) ⟨by omega,by omega⟩ HFY.out);unfold zg7 at htx;rw[htx,show ((k+1:Nat):Int)=(k:Int)+1 by omega] at HFX;unfold zi0 at HFX;have HYR:=Hd (HY5.out.kept HKR.out);have HCC:Hid (∀ w',Kept wr w'->(w'.cell? ⟨S,0,none⟩=some (.string (bs y.name))/\w'.cell? ⟨S,1,none⟩=some (.bool nu)/\w'.cell? ⟨S,2,none⟩=some (.string (bs y.sort))/\w'.cell? ⟨S,3,none⟩=some (.string (bs y.cite))/\w'.cell? ⟨S,4,none⟩=some (.string (bs y.bare))/\w'.cell? ⟨S,5,none⟩=some (.string (bs y.between))/\w'.cell? ⟨S,6,none⟩=some (.string (bs y.begin_))/\w'.cell? ⟨S,7,none⟩=some (.string (bs y.end_))/\w'.cell? ⟨S,8,none⟩=some (.int .i64 y.most)/\w'.cell? ⟨S,9,none⟩=some (.slice aE y.entries.length cE))/\(w'.cell? ⟨g,o+k * 5,none⟩=some (.string (bs s.key))/\w'.cell? ⟨g,o+k * 5+1,none⟩=some (.string (bs s.type))/\w'.cell? ⟨g,o+k * 5+2,none⟩=some (.slice pa s.author.length qa)/\w'.cell? ⟨g,o+k * 5+3,none⟩=some (.slice pe s.editor.length qe)/\w'.cell? ⟨g,o+k * 5+4,none⟩=some (.slice pf s.fields.length qf))/\(w'.cell? ⟨g2,o2+k,none⟩=some (.string (bs u)))/\(S<w'.heap.size/\g<w'.heap.size/\g2<w'.heap.size)/\Kept wr w'):=fun w' h =>
      ⟨⟨(HYR.out.kept h).cell 0 _ rfl,(HYR.out.kept h).cell 1 _ rfl,(HYR.out.kept h).cell 2 _ rfl,(HYR.out.kept h).cell 3 _ rfl,(HYR.out.kept h).cell 4 _ rfl,(HYR.out.kept h).cell 5 _ rfl,(HYR.out.kept h).cell 6 _ rfl,(HYR.out.kept h).cell 7 _ rfl,(HYR.out.kept h).cell 8 _ rfl,(HYR.out.kept h).cell 9 _ rfl⟩,⟨(h.cell (p:=⟨g,o+k * 5,none⟩) hg).trans d0,(h.cell (p:=⟨g,o+k * 5+1,none⟩) hg).trans d1,(h.cell (p:=⟨g,o+k * 5+2,none⟩) hg).trans d2,(h.cell (p:=⟨g,o+k * 5+3,none⟩) hg).trans d3,(h.cell (p:=⟨g,o+k * 5+4,none⟩) hg).trans d4⟩,(h.cell (p:=⟨g2,o2+k,none⟩) hg2).trans e0,⟨(HYR.out.kept h).lt,Nat.lt_of_lt_of_le hg h.size,Nat.lt_of_lt_of_le hg2 h.size⟩,h⟩
     obtain ⟨⟨y0,y1,y2,y3,y4,y5,y6,y7,y8,y9⟩,-,-,⟨zS,-,-⟩,-⟩:=HCC.out wr (Kept.refl _);have hkd:Kept wr wr.drew:=zaB wr 1;have hwk:IntKind.i64.wrap ((k:Int)+1)=(k:Int)+1:=IntWalk.i64_in _ (by omega);have f1:(0:Int)<=(k:Int):=(by omega);have f2:(k:Int)<(l.length:Int):=(by omega);obtain ⟨tk,HTK⟩:∃ tk,Hid (tx k=tk):=⟨_,rfl⟩;rw[HTK.out] at HFX;clear hs hu hsf hub htx pA pX pF;go_wp2_with fail
     go_region_held3 (fun w'=>(w'.cell? ⟨S,0,none⟩=some (.string (bs y.name))/\w'.cell? ⟨S,1,none⟩=some (.bool nu)/\w'.cell? ⟨S,2,none⟩=some (.string (bs y.sort))/\w'.cell? ⟨S,3,none⟩=some (.string (bs y.cite))/\w'.cell? ⟨S,4,none⟩=some (.string (bs y.bare))/\w'.cell? ⟨S,5,none⟩=some (.string (bs y.between))/\w'.cell? ⟨S,6,none⟩=some (.string (bs y.begin_))/\w'.cell? ⟨S,7,none⟩=some (.string (bs y.end_))/\w'.cell? ⟨S,8,none⟩=some (.int .i64 y.most)/\w'.cell? ⟨S,9,none⟩=some (.slice aE y.entries.length cE))/\(w'.cell? ⟨g,o+k * 5,none⟩=some (.string (bs s.key))/\w'.cell? ⟨g,o+k * 5+1,none⟩=some (.string (bs s.type))/\w'.cell? ⟨g,o+k * 5+2,none⟩=some (.slice pa s.author.length qa)/\w'.cell? ⟨g,o+k * 5+3,none⟩=some (.slice pe s.editor.length qe)/\w'.cell? ⟨g,o+k * 5+4,none⟩=some (.slice pf s.fields.length qf))/\(w'.cell? ⟨g2,o2+k,none⟩=some (.string (bs u)))/\(S<w'.heap.size/\g<w'.heap.size/\g2<w'.heap.size)/\Kept wr w')
      ((refine HCC.out _ ?_;assumption))
      (first|(go_at_call 23;refine (HFX.out _ hkd).mono ?_;rintro e w6 ⟨rfl,hk6⟩;have kA:Kept wr w6:=hkd.trans hk6;clear hk6))
     all_goals
      have HKA:=Hd kA;have HOW6:=Hd (zaX HOW.out kA);have HK6:=Hd (HKR.out.trans kA);clear kA hkd HCC HYR HFX y0 y1 y2 y3 y4 y5 y6 y7 y8 y9 zS d0 d1 d2 d3 d4 e0 hg hg2;have HST6:=Hd (Strs.own HOW6.out);have hrl:((List.range k).map tx).length=k:=(by rw[List.length_map,List.length_range]);obtain ⟨xs,HXS⟩:∃ xs,Hid ((List.range k).map tx=xs):=⟨_,rfl⟩;rw[HXS.out] at HST6 HOW6 hrl;have HRL:=Hd hrl;obtain ⟨ar,cr,rfl,zr,mr,-⟩:=za1 HOW6.out;rw[hrl] at HST6;clear HOW hrl;have HNX:Hid ((List.range (k+1)).map tx=xs ++ [tk]):=(by show _=_;rw[List.range_succ,List.map_append,HXS.out];show xs ++ [tx k]=_;rw[HTK.out]);have HXJ:Hid (∀ j,j<k->xs[j]? = some (tx j)):=fun j h=>(by rw[<- HXS.out,List.getElem?_map,List.getElem?_range h];rfl);have HNE:Hid (∀ j,j<k->tx j≠tk):=fun j h=>(by rw[<- HTK.out];exact HTX.out.2 j k (by omega) (by omega) (by omega));clear HXS HTK;go_wp2_with fail;go_loopw [17] (fun i wq=>∃ j:Nat,j<=k/\i=.int .i64 j/\Hid (w6=wq)) (fun i _=>k - (intOf i).toNat)
      case atStart=>exact ⟨0,Nat.zero_le _,rfl,rfl⟩
      case round =>
       obtain ⟨j,hj,rfl,HWQ⟩:=hrel;have hwq:=HWQ.out;subst hwq;clear HWQ;by_cases hlt2:j<k
       ·obtain ⟨g3,o3,rfl,hg3,e3,-,-⟩:=HST6.out.cell_of j (tx j) (HXJ.out j hlt2);have hne:(tx j == tk)=false:=(by rw[beq_eq_false_iff_ne];exact HNE.out j hlt2);have hjx:j<xs.length:=(by have:=HRL.out;omega);generalize tx j=tj at *;go_wp2_with fail;go_roundw
        case rel=>first|exact ⟨j+1,by omega,by go_num,rfl⟩|exact ⟨j+1,by omega,by go_num,trivial⟩
        case measure=>simp [intOf];omega
       ·obtain rfl:j=k:=(by omega);have hown:=HOW6.out;have hxl:xs.length<=18:=(by have:=HRL.out;omega);have hbs:w5.heap.size<=w6.heap.size:=HK6.out.size;clear HXJ HNE HST6 HOW6 HRL;go_wp2_with (at_builtin;refine wpList_append_own _ rfl _ _ 29 rfl w5.heap.size 9 i0 (.string ⟨#[]⟩) 1 16 Tryz.underlying29 hi hz0 hz1 hz2 rfl (by decide) _ _ _ rfl (hown.alloc _) ⟨w6.heap.size,0,none⟩ 1 1 [.string (bs tk)] rfl rfl ?_ ?_ ?_ ?_ ?_ ?_)
        ·exact za5 _ #[.string (bs tk)] _ _ (by simp)
        ·intro u hu;simp at hu;subst hu;rfl
        ·unfold maxLen;omega
        ·omega
        ·simp;omega
        intro v' w7 hown2 hgrow _;have HB2:=Hd ((HK6.out.trans (zaA w6 _)).trans' (zaO (hown.alloc _) hgrow (by simp;omega)));rw[<- zbF] at hown2;have HO:Hid (World.ownsRow w7 w5.heap.size 9 1 v' ((List.range (j+1)).map tx).length (zaG ((List.range (j+1)).map tx))):=by
         have h3:=hown2;rw[show (xs.length+1)=(xs ++ [tk]).length by simp] at h3;rw[HNX.out];exact h3
        clear hown2 hgrow hown HNX;go_wp2_with fail;go_roundw
        case rel=>exact ⟨j+1,by omega,by go_num,HO.out,HB2.out⟩
        case measure=>simp [intOf];omega
    ·obtain rfl:k=l.length:=(by omega);have HKW:=Hd (HK5.out.trans HKR.out);clear HOW HKR;go_wp2_with fail;refine (HAW.out wr HKW.out).mono ?_;rintro e w9 ⟨rfl,hk9⟩;have HK9:=Hd (HKW.out.trans hk9);clear hk9;go_wp2_with fail
     (try go_ret)
     exact ⟨rfl,HK9.out⟩
end Go.Proofs.YtmcoomlkbgiboaaGreatDoor
namespace Go.Proofs.YtmcoomlkbgiboaaGreatDoor
open Go.ChangeShapes Go.WideShapes Go.ChangeAt Go.RowKit
theorem Tryz.ownNone:ownKnob Tryz.prog.godebug=none:=by kernel_rfl
theorem Tryz.laidOut:laidOutB Tryz.prog=true:=by kernel_rfl
section
variable {H:Type} {enc:TypeId × Value->H} {P:Program}
theorem ziU (hl:laidOutB P=true) {W W':World} {sp:Nat->Bool}:∀ {ts:List TypeId} {vs:List Value} {ds:List (DataW H)} {p:List MemPlace},
  (∀ t∈ts,P.readableRec t=true/\t<P.types.size)->DataW.TrodAll enc P W 0 (fun _=>true) true ts vs ds p->(∀ x∈p,W.sameAt W' x)->(∀ x∈p,sp x.block=true)->DataW.TrodAll enc P W' 0 sp true ts vs ds p
 | [],vs,ds,p,_,h,_,_=>by
  obtain ⟨rfl,rfl,rfl⟩:=trodAll_nil h;exact trodAll_mk0
 | t :: ts,vs,ds,p,hr,h,hs,hp=>by
  obtain ⟨v,vs',d,ds',p1,p2,rfl,rfl,rfl,h0,h1⟩:=trodAll_cons h;have h0':=WideElems.Trod_stays hl (hr t (by simp)).1 (hr t (by simp)).2 h0 (fun x hx=>hs x (by simp [hx])) (sp':=sp) (fun x hx=>hp x (by simp [hx]));exact trodAll_cons_mk h0' (ziU hl (fun t ht=>hr t (by simp [ht])) h1 (fun x hx=>hs x (by simp [hx])) (fun x hx=>hp x (by simp [hx])))
theorem zC2 {f:Func} {s:ChangeSpec} {apart fresh handsOn again:Bool} {W W':World} {args:Array Value} {ds gs:List (DataW H)} {zaI:List MemPlace} {bt:TypeId}
  (hl:laidOutB P=true) (hread:∀ t∈f.params.toList,P.readableRec t=true/\t<P.types.size) (hr:f.resultTypes=#[bt]) (hbt:P.underlying bt=some .bool) (hsv:s.vars=[])
  (hW:DataW.Whole enc P f.params.toList s.vars apart W args.toList ds gs zaI) (hs:s.fn H ds={ results:=[.lit (.bool true)],args:=ds }) (hb:Kept W W') :
  s.post enc P f apart fresh handsOn again W args (.bool true) W':=by
 have hW':=hW;have hlt:∀ p∈zaI,p.block<W.heap.size:=fun p hp=>hW'.lt p hp;have hold:∀ p∈zaI,(fun b=>decide (b<W.heap.size)) p.block=true:=fun p hp=>(by simpa using hlt p hp);obtain ⟨pa,pv,hA,hV,hbe,hz,hn⟩:=hW;rw[hsv] at hV;obtain ⟨rfl,rfl⟩:=trodVars_none hV;rw[List.append_nil] at hbe;subst hbe;have hs':s.fn H (ds ++ [])={ results:=[.lit (.bool true)],args:=ds }:=(by rw[List.append_nil];exact hs);have hres:∀ (b:Nat) (sp:Nat->Bool) (hd:Bool),DataW.TrodAll enc P W' b sp hd f.resultTypes.toList ((Value.bool true).resultList f.resultTypes.size) (s.fn H (ds ++ [])).results []:=by
  intro b sp hd;rw[hs',hr];exact trodAll_cons_mk (shut_bool hbt _) trodAll_mk0
 have hargs:∀ sp:Nat->Bool,(∀ p∈zaI,sp p.block=true)->DataW.TrodAll enc P W' 0 sp true f.params.toList args.toList (s.fn H (ds ++ [])).args zaI:=by
  intro sp hsp;rw[hs'];exact ziU hl hread hA (fun x hx=>hb.same (hlt x hx)) hsp
 have hvars:∀ sp:Nat->Bool,DataW.TrodVars enc P W' sp s.vars (s.fn H (ds ++ [])).vars []:=by
  intro sp;rw[hs',hsv];rfl
 have hok:=ok_one (P:=P) (W':=W') (v:=.bool true) hr rfl (okWide_bool_mk hbt _);refine ⟨ds,[],zaI,[],zaI,[],hW',hres _ _ _,hargs _ hold,hvars _,World.keptBut_mono (fun p hp=>⟨hp,?_⟩) (hb.frame (· ∈ zaI)),fun _=>?_⟩
 ·exact Or.inr (Or.inl hp)
 ·refine ⟨hok,_,_,([] ++ zaI) ++ [],⟨[] ++ zaI,[],trodAll_append (hargs _ (fun _ _=>rfl)) (hres _ _ _),hvars _,rfl,?_,?_⟩,?_⟩
  ·intro b off hp;have hin:MemPlace.cell b off∈zaI:=(by simpa using hp);rw[hb.frozen (hlt _ hin)];exact hz b off hin
  ·intro ha;have:=hn ha;simpa using this
  ·intro p hp _;simpa using hp
end
theorem zEZ {W:World} (h:W.ShapedOpen Tryz.prog):Gnd W :=
 Go.Proofs.cell_of_shapedOpen_int (zero:=#[.int .i64 0]) (t:=3) h (of_decide_eq_true (by kernel_rfl)) (by kernel_rfl) rfl (by kernel_rfl) (by kernel_rfl) Tryz.underlying3
def firstCells:Array Value:=(Go.Pinned.utf8FirstZ.map fun (n:Nat)=>Value.int .u8 (n:Int)).toArray
def ztF:Array Value:=#[.int .u8 128,.int .u8 191,.int .u8 160,.int .u8 191,.int .u8 128,.int .u8 159,.int .u8 144,.int .u8 191,.int .u8 128,.int .u8 143,.int .u8 0,.int .u8 0,.int .u8 0,.int .u8 0,.int .u8 0,.int .u8 0,.int .u8 0,.int .u8 0,.int .u8 0,.int .u8 0,.int .u8 0,.int .u8 0,.int .u8 0,.int .u8 0,.int .u8 0,.int .u8 0,.int .u8 0,.int .u8 0,.int .u8 0,.int .u8 0,.int .u8 0,.int .u8 0]
def zfT (cs:Array Value):Obj->Obj
 | .cells _ t frozen=>.cells cs t frozen
 | o=>o
abbrev TabW (W:World):Prop:=Lib.TabIs Tryz.prog W "internal/strconv.uint64pow10" .u64 Lib.pow10Tab/\Lib.TabIs Tryz.prog W "strings.asciiSpace" .u8 Lib.asciiSpaceTab
def zkW (k:IntKind) (zs:List Int):Array Value:=(zs.map fun z=>Value.int k z).toArray
def zFp:List Int:=[0,1,28,2,29,14,24,3,30,22,20,15,25,17,4,8,31,27,13,23,21,19,16,7,26,12,18,6,11,5,10,9]
def zFq:List Int:=[0,1,56,2,57,49,28,3,61,58,42,50,38,29,17,4,62,47,59,36,45,43,51,22,53,39,33,30,24,18,12,5,63,55,48,27,60,41,37,16,46,35,44,21,52,32,23,11,54,26,40,15,34,20,31,10,25,14,19,9,13,8,7,6]
noncomputable def zFz:Nat:=(World.holding Tryz.prog default ⟨#[],#[],[]⟩).heap.size
noncomputable def zfE (os:Os):World :=
 let w0:=World.holding Tryz.prog os ⟨#[.cells (Lib.whiteT.map fun (z:Nat)=>Value.int .u16 (z:Int)).toArray 240,.cells #[.slice (some ⟨zFz,0,none⟩) 7 7,.slice none 0 0,.int .i64 2] 237],#[],[]⟩
 { w0 with heap:=((((((w0.heap.modify 4 (zfT firstCells)).modify 5 (zfT ztF)).modify 6 (zfT (zkW .u8 zFp))).modify 7 (zfT (zkW .u8 zFq))).modify 3 (zfT (zkW .u64 Lib.pow10Tab))).modify 0 (zfT (zkW .u8 Lib.asciiSpaceTab))).modify 1 (zfT #[.pointer (some ⟨zFz+1,0,none⟩)]) }
abbrev zEi:List (String × DataW Unit):=[("math/bits.deBruijn32tab",Rows.laid_math_bits_deBruijn32tab),("math/bits.deBruijn64tab",Rows.laid_math_bits_deBruijn64tab),("internal/strconv.uint64pow10",Rows.laid_internal_strconv_uint64pow10),("unicode/utf8.acceptRanges",Rows.laid_unicode_utf8_acceptRanges),("unicode.White_Space",Rows.laid_unicode_White_Space),("strings.asciiSpace",Rows.laid_strings_asciiSpace),("unicode/utf8.first",Rows.laid_unicode_utf8_first)]
def ndB:List MemPlace->Nat->Bool
 | [],_=>true
 | .cell b off :: r,s=>decide (off<512) && (!s.testBit (b * 512+off) && ndB r (s ||| 2 ^ (b * 512+off)))
 | .map _ :: _,_=>false
theorem zDl:∀ (ps:List MemPlace) (s:Nat),ndB ps s=true->ps.Nodup/\∀ p∈ps,∃ b off,p=.cell b off/\off<512/\s.testBit (b * 512+off)=false
 | [],_,_=>⟨List.nodup_nil,fun _ h=>(List.not_mem_nil h).elim⟩
 | .cell b off :: r,s,h=>by
  unfold ndB at h;rw[Bool.and_eq_true,Bool.and_eq_true,decide_eq_true_eq,Bool.not_eq_true'] at h;obtain ⟨h1,h2,h3⟩:=h;obtain ⟨i1,i2⟩:=zDl r _ h3;refine ⟨List.nodup_cons.2 ⟨fun hm=>?_,i1⟩,fun p hp=>?_⟩
  ·obtain ⟨b',off',e,_,q⟩:=i2 _ hm;cases e;rw[Nat.testBit_or,Nat.testBit_two_pow_self,Bool.or_true] at q;cases q
  ·rcases List.mem_cons.1 hp with rfl|hp
   ·exact ⟨b,off,rfl,h1,h2⟩
   ·obtain ⟨b',off',e,h4,q⟩:=i2 p hp;refine ⟨b',off',e,h4,?_⟩;rw[Nat.testBit_or,Bool.or_eq_false_iff] at q;exact q.1
 | .map _ :: _,_,h=>by simp [ndB] at h
theorem ztG {P:Program} {w:World} {l:List (String × DataW Unit)} (fuel:Nat) (h:(DataW.laidRun P w fuel (l.map (·.1))).map (·.1)=some l)
  (hr:(DataW.laidRun P w fuel (l.map (·.1))).map (fun x=>ndB x.2 0 && laidRowsB P w x.2)=some true):laidMet P l w:=by
 cases hx:DataW.laidRun P w fuel (l.map (·.1)) with
 | none=>simp [hx] at h
 | some x =>
  obtain ⟨l',ps⟩:=x;simp only[hx,Option.map_some,Option.some.injEq] at h hr;subst h;simp only[Bool.and_eq_true] at hr;exact laidMet_of_run fuel hx (decide_eq_true (zDl _ _ hr.1).1) hr.2
theorem zAO (os:Os) (args:Array Value):laidMet Tryz.prog zEi ((zfE os).forCall (fun _ _=>0) ⟨#[],args,[]⟩).memory :=
 ztG 10 (by kernel_rfl) (by kernel_rfl)
theorem zAP (os:Os) (args:Array Value):((zfE os).forCall (fun _ _=>0) ⟨#[],args,[]⟩).variablesRefB Tryz.checked.prog=true:=by kernel_rfl
theorem zw5 (os:Os) (args:Array Value):(((zfE os).forCall (fun _ _=>0) ⟨#[],args,[]⟩).heap.toList.drop Tryz.checked.prog.globals.size).take ((begin Tryz.checked.prog (fun _ _=>0) default).world.heap.size - Tryz.checked.prog.globals.size)=(begin Tryz.checked.prog (fun _ _=>0) default).world.heap.toList.drop Tryz.checked.prog.globals.size:=by kernel_rfl
theorem zE0 {W:World} (h:laidMet Tryz.prog zEi W):TabW W :=
 ⟨Lib.tabIs_of_head (g:=3) (t:=285) (e:=267) (n:=20) (by kernel_rfl) (by kernel_rfl) (by kernel_rfl) (by kernel_rfl) (by kernel_rfl) (by kernel_rfl) (h.tail.tail),
  Lib.tabIs_of_head (g:=0) (t:=155) (e:=5) (n:=256) (by kernel_rfl) (by kernel_rfl) (by kernel_rfl) (by kernel_rfl) (by kernel_rfl) (by kernel_rfl) (h.tail.tail.tail.tail.tail)⟩
theorem zEj {W:World} (h:laidMetH Tryz.prog zEi W):TabW W:=by
 rw[Go.MakeChecks.laidMetH_plain _ _ _ (by kernel_rfl)] at h;exact zE0 h
end Go.Proofs.YtmcoomlkbgiboaaGreatDoor
