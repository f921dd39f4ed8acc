/- itself and cites of publisherref31. Conditions: lengths. -/
import Derived.Test.YtmcoomlkbgiboaaGreatDoorV34
import Derived.Test.YtmcoomlkbgiboaaGreatDoorV35
import Derived.Test.YtmcoomlkbgiboaaGreatDoorV19
import Derived.Test.YtmcoomlkbgiboaaGreatDoorV22
import Derived.Test.YtmcoomlkbgiboaaGreatDoorV18
import Derived.Test.YtmcoomlkbgiboaaGreatDoorV33
import Derived.Test.YtmcoomlkbgiboaaGreatDoorV29
import Derived.BigQuiet
set_option linter.all false
set_option maxRecDepth 100000
set_option maxHeartbeats 6400000
namespace Go.Proofs.YtmcoomlkbgiboaaGreatDoor
open Go.RowKit
def zxR (key:Bs) (pg:Nat) (q:Rp):Bool:=pg == 0 || (!(q.grp == pg) || (q.fld == [] || q.fld == key))
theorem zAD (l:List Rp) (key:Bs):zDG l key=l.any fun p=>(p.fld == key) && l.all (zxR key p.grp):=rfl
theorem zCS (l:List Rp) (f:Rp->Bool) (k:Nat) (hk:k<l.length):(l.take (k+1)).all f=((l.take k).all f && f l[k]):=by
 rw[List.take_succ_eq_append_getElem hk,List.all_append];simp
theorem zFe (l:List Rp) (key:Bs) (h:∀ j (hj:j<l.length),((l[j].fld == key) && l.all (zxR key l[j].grp))=false):zDG l key=false:=by
 rw[zAD,List.any_eq_false];intro p hp;obtain ⟨j,hj,e⟩:=List.getElem_of_mem hp;rw[<- e,h j hj];simp
theorem zEs (l:List Rp) (key:Bs) (j:Nat) (hj:j<l.length) (h:((l[j].fld == key) && l.all (zxR key l[j].grp))=true):zDG l key=true:=by
 rw[zAD,List.any_eq_true];exact ⟨l[j],List.getElem_mem hj,h⟩
theorem ztU (v:Value) (ps:List Rp) (key:Bs) (w:World) (hv:Rps w v ps) (hl:ps.length<=100000):Calls Tryz.prog 112 #[v,.string (bs key)] w fun e w'=>e=.returned (.bool (zDG ps key))/\Kept w w':=by
 have HP2:=Hd hv;have HNO:=Hd (zFe ps key);have HYS:=Hd (zEs ps key);obtain ⟨aP,cP,rfl,hcp⟩:=HP2.out.form;clear hv;generalize zDG ps key=R at *;go_enter Tryz.func112,Tryz.ntmps112;go_wp2_with fail;go_loopw [5] (fun i wr=>∃ n:Nat,n<=ps.length/\i=.int .i64 n/\Hid (∀ j (hj:j<ps.length),j<n->((ps[j].fld == key) && ps.all (zxR key ps[j].grp))=false)/\Hid (Kept w wr)) (fun i _=>ps.length - (intOf i).toNat)
 case atStart=>exact ⟨0,Nat.zero_le _,rfl,fun j hj h=>by omega,Kept.refl _⟩
 case round =>
  obtain ⟨n,hn,rfl,HN,HKR⟩:=hrel;by_cases hlt:n<ps.length
  ·have hx:=List.getElem?_eq_getElem hlt;have HNX:Hid (((ps[n].fld == key) && ps.all (zxR key ps[n].grp))=false->∀ j (hj:j<ps.length),j<n+1->((ps[j].fld == key) && ps.all (zxR key ps[j].grp))=false):=fun h j hj hjk=>by
    rcases Nat.lt_or_ge j n with q|q
    ·exact HN.out j hj q
    ·obtain rfl:j=n:=(by omega);exact h
   have HYN:=Hd (HYS.out n hlt);clear HN;generalize ps[n]=p at *;obtain ⟨px,pf,pg⟩:=p;simp only at HNX HYN;obtain ⟨g,o,rfl,hg,-,p1,-⟩:=(HP2.out.kept HKR.out).cell_of n _ hx;simp only at p1;have HX:=Hd hx;clear hx;cases hpf:(pf == key) with
   | false =>
    have hne:(pf != key)=true:=(by rw[bne,hpf];rfl);rw[hpf,Bool.false_and] at HNX;have HS:=Hd (HNX.out rfl);clear HNX HYN;go_wp2_with fail;go_roundw
    case rel=>exact ⟨n+1,by omega,by go_num,HS.out,HKR.out⟩
    case measure=>simp [intOf];omega
   | true =>
    have hne:(pf != key)=false:=(by rw[bne,hpf];rfl);rw[hpf,Bool.true_and] at HNX HYN;have HAN:=Hd (fun k hk=>zCS ps (zxR key pg) k hk);have HAT:Hid ((ps.take ps.length).all (zxR key pg)=ps.all (zxR key pg)):=(by show _=_;rw[List.take_of_length_le (Nat.le_refl _)]);have HA0:Hid ((ps.take 0).all (zxR key pg)=true):=rfl;have HQ:Hid (∀ q,zxR key pg q=(pg == 0 || (!(q.grp == pg) || (q.fld == [] || q.fld == key)))):=fun q=>rfl;generalize zxR key pg=F at *;go_wp2_with fail;obtain ⟨wo,rfl⟩:∃ wo:World,wo=wr:=⟨_,rfl⟩;clear p1;go_loopw [6,7] (fun d i wr=>∃ k:Nat,k<=ps.length/\i=.int .i64 k/\d=.bool ((ps.take k).all F)/\Hid (Kept w wr)) (fun _ i _=>ps.length - (intOf i).toNat)
    case atStart=>exact ⟨0,Nat.zero_le _,rfl,by rw[HA0.out],HKR.out⟩
    case round =>
     obtain ⟨k,hk,rfl,rfl,HKQ⟩:=hrel;by_cases hlk:k<ps.length
     ·have hx:=List.getElem?_eq_getElem hlk;have HGK:=Hd (HAN.out k hlk);rw[HQ.out] at HGK;generalize ps[k]=q at *;obtain ⟨qx,qf,qg⟩:=q;simp only at HGK;generalize (ps.take k).all F=D at *;obtain ⟨g1,o1,ha,hg1,-,-,p2⟩:=(HP2.out.kept HKQ.out).cell_of n _ HX.out;obtain ⟨rfl,rfl⟩:g=g1/\o=o1:=(by cases ha;exact ⟨rfl,rfl⟩);obtain ⟨g1,o1,ha',-,-,q1,q2⟩:=(HP2.out.kept HKQ.out).cell_of k _ hx;obtain ⟨rfl,rfl⟩:g=g1/\o=o1:=(by cases ha';exact ⟨rfl,rfl⟩);simp only at p2 q1 q2;clear ha ha' hx;have hNP:(n:Int)<(ps.length:Int):=(by omega);have hKP:(k:Int)<(ps.length:Int):=(by omega);cases D with
      | false =>
       rw[Bool.false_and] at HGK;go_wp2_with fail
       go_quiet (fail)
       all_goals
        have HKZ:=Hd (HKQ.out.trans (zaB wr nq));go_wp2_with fail;go_roundw
        case rel=>exact ⟨k+1,by omega,by go_num,by rw[HGK.out],HKZ.out⟩
        case measure=>simp [intOf];omega
      | true =>
       rw[Bool.true_and] at HGK;cases h0:(pg == 0) with
       | true =>
        obtain rfl:pg=0:=(by simpa using h0);rw[h0,Bool.true_or] at HGK;clear h0;go_wp2_with fail
        go_quiet (fail)
        all_goals
         have HKZ:=Hd (HKQ.out.trans (zaB wr nq));go_wp2_with fail;go_roundw
         case rel=>exact ⟨k+1,by omega,by go_num,by rw[HGK.out],HKZ.out⟩
         case measure=>simp [intOf];omega
       | false =>
        rw[h0,Bool.false_or] at HGK;have h0i:((pg:Int) == 0)=false:=(by rw[beq_eq_false_iff_ne] at h0 ⊢;omega);cases hgq:(qg == pg) with
        | false =>
         have hgi:((qg:Int) == (pg:Int))=false:=(by rw[beq_eq_false_iff_ne] at hgq ⊢;omega);have hgn:((qg:Int) != (pg:Int))=true:=(by rw[bne,hgi];rfl);rw[hgq,Bool.not_false,Bool.true_or] at HGK;clear hgq;go_wp2_with fail
         go_quiet (fail)
         all_goals
          have HKZ:=Hd (HKQ.out.trans (zaB wr nq));go_wp2_with fail;go_roundw
          case rel=>exact ⟨k+1,by omega,by go_num,by rw[HGK.out],HKZ.out⟩
          case measure=>simp [intOf];omega
        | true =>
         have hgi:((qg:Int) == (pg:Int))=true:=(by rw[beq_iff_eq] at hgq ⊢;omega);have hgn:((qg:Int) != (pg:Int))=false:=(by rw[bne,hgi];rfl);rw[hgq,Bool.not_true,Bool.false_or] at HGK;clear hgq;cases hqf:(qf == ([]:Bs)) with
         | true =>
          rw[hqf,Bool.true_or] at HGK;go_wp2_with fail
          go_quiet (fail)
          all_goals
           have HKZ:=Hd (HKQ.out.trans (zaB wr nq));go_wp2_with fail;go_roundw
           case rel=>exact ⟨k+1,by omega,by go_num,by rw[HGK.out],HKZ.out⟩
           case measure=>simp [intOf];omega
         | false =>
          rw[hqf,Bool.false_or] at HGK;obtain ⟨bk,hbk⟩:∃ b,(qf == key)=b:=⟨_,rfl⟩;rw[hbk] at HGK;go_wp2_with fail
          go_quiet (fail)
          all_goals
           have HKZ:=Hd (HKQ.out.trans (zaB wr nq));go_wp2_with fail;go_roundw
           case rel=>exact ⟨k+1,by omega,by go_num,by rw[HGK.out],HKZ.out⟩
           case measure=>simp [intOf];omega
     ·obtain rfl:k=ps.length:=(by omega);rw[HAT.out];generalize ps.all F=D at *;cases D with
      | true =>
       have HR:=Hd (HYN.out rfl);go_wp2_with fail;go_ret;exact ⟨zaN HR.out.symm,HKQ.out⟩
      | false =>
       have HS:=Hd (HNX.out rfl);go_wp2_with fail;go_roundw
       case rel=>exact ⟨n+1,by omega,by go_num,HS.out,HKQ.out⟩
       case measure=>simp [intOf];omega
  ·obtain rfl:n=ps.length:=(by omega);have HR:=Hd (HNO.out (fun j hj=>HN.out j hj hj));go_wp2_with fail;go_ret;exact ⟨zaN HR.out.symm,HKR.out⟩
theorem zr8 (vE:Value) (y:StyT) (w:World) (hs:SmallY y):Calls Tryz.prog 56 #[zeJ vE y] w fun e w'=>e=.returned (.int .i64 (znY y))/\Kept w w':=by
 obtain ⟨-,-,s3,s4,-⟩:=hs;have HC:=Hd (fun w=>zfV y.cite w s3);have HB:=Hd (fun w=>zfV y.bare w s4);have HQ:=Hd (fun w=>zoH y.cite w s3);unfold PartsP at HQ;have HRT:Hid (zdD y.cite=0->znD y.cite=some (zuO (zf2 y.cite))/\(zuO (zf2 y.cite)).length<=100000):=fun h=>by
  have h1:=zFb h;have h2:=zi1 _ _ _ _ _ ((zzE y.cite).symm.trans h1);exact ⟨h1,by omega⟩
 have HF:Hid (∀ v k w,k≠[]->zdD y.cite=0->Rps w v (zuO (zf2 y.cite))->Calls Tryz.prog 112 #[v,.string (bs k)] w fun e w'=>e=.returned (.bool (zf4 (zf2 y.cite) k))/\Kept w w'):=fun v k w hk h0 h=>by
  rw[<- zBT (zf2 y.cite) k hk (fun p hp=>(zuP p hp).1)];exact ztU v (zuO (zf2 y.cite)) k w h (HRT.out h0).2
 have HE:Hid (znY y=if zdD y.cite≠0 then zdD y.cite else if zf4 (zf2 y.cite) (if y.numeric=true then zbF else zcD)=false then 8 else zdD y.bare):=rfl;generalize znY y=R at *;generalize zdD y.cite=E1 at *;generalize zdD y.bare=E2 at *;generalize hL:zf2 y.cite=L at *;generalize zuO L=X at *;generalize znD y.cite=S at *;clear hL;unfold zeJ zaE;have HK0:=Hd (zaA w (.cells (zaE vE y) 33));have HB0:=Hd (Blk.new w 33 (zaE vE y));unfold zaE at HK0 HB0;go_enter Tryz.func56,Tryz.ntmps56;go_wp2_with fail;generalize w.alloc _=w0 at *;generalize w.heap.size=B at *;refine (HC.out _).mono ?_;rintro e w1 ⟨rfl,hk1⟩;have HK1:=Hd (HK0.out.trans hk1);have HB1:=Hd (HB0.out.kept hk1);clear hk1 HC;by_cases h1:E1=0
 case neg =>
  rw[if_pos h1] at HE;have h1':(E1 == 0)=false:=(by simpa using h1);go_wp2_with fail;go_ret;exact ⟨zaG HE.out.symm,HK1.out⟩
 subst h1;rw[if_neg (by simp)] at HE;have HRS:=Hd (HRT.out rfl).1;have HFF:=Hd (fun v k w hk h=>HF.out v k w hk rfl h);rw[HRS.out] at HQ;simp only[Option.isSome_some,Option.some.injEq] at HQ;clear HRT HRS HF;have b3:w1.cell? ⟨B,3,none⟩=some (.string (bs y.cite)):=HB1.out.cell 3 _ rfl;have z1:=HB1.out.lt;go_wp2_with fail;refine (HQ.out _).mono ?_;rintro e w2 ⟨v,rfl,-,hp,hk2⟩;have HP2:=Hd (hp X rfl);have HK2:=Hd (HK1.out.trans hk2);have HB2:=Hd (HB1.out.kept hk2);obtain ⟨aP,cP,rfl,hcp⟩:=HP2.out.form;clear hp hk2 HQ b3 z1 HB1 HK1;have b1:w2.cell? ⟨B,1,none⟩=some (.bool y.numeric):=HB2.out.cell 1 _ rfl;have z2:=HB2.out.lt;cases hn:y.numeric
 all_goals
  rw[hn] at b1 HE;simp only[Bool.false_eq_true,if_false,if_true] at HE;clear hn
  (first|unfold zcD at HE|unfold zbF at HE)
  go_wp2_with fail;refine (HFF.out _ _ _ (by simp) HP2.out).mono ?_;rintro e w3 ⟨rfl,hk3⟩;have HK3:=Hd (HK2.out.trans hk3);have HB3:=Hd (HB2.out.kept hk3);clear hk3 b1 z2;generalize zf4 L _=F at *;cases F with
  | false =>
   rw[if_pos rfl] at HE;go_wp2_with fail;go_ret;exact ⟨zaG HE.out.symm,HK3.out⟩
  | true =>
   rw[if_neg (by simp)] at HE;have b4:w3.cell? ⟨B,4,none⟩=some (.string (bs y.bare)):=HB3.out.cell 4 _ rfl;have z3:=HB3.out.lt;go_wp2_with fail;refine (HB.out _).mono ?_;rintro e w4 ⟨rfl,hk4⟩;have HK4:=Hd (HK3.out.trans hk4);clear hk4;go_wp2_with fail;go_ret;exact ⟨zaG HE.out.symm,HK4.out⟩
def zi2 (ps:List Pr) (k:Nat):List Bs:=(ps.take k).map (·.1)
theorem zwY (ps:List Pr) (k:Nat) (hk:k<ps.length):zi2 ps (k+1)=zi2 ps k ++ [ps[k].1]:=by
 unfold zi2;rw[List.take_succ_eq_append_getElem hk,List.map_append];rfl
theorem zAE (ps:List Pr) (k:Nat) (x:Bs) (hk:k<=ps.length):(zi2 ps k).contains x=true↔∃ j,∃ hj:j<ps.length,j<k/\ps[j].1=x:=by
 unfold zi2;rw[List.contains_iff_mem,List.mem_map];constructor
 ·rintro ⟨p,hp,e⟩;obtain ⟨j,hj,e2⟩:=List.mem_take_iff_getElem.1 hp;exact ⟨j,by omega,by omega,by rw[e2,e]⟩
 ·rintro ⟨j,hj,hjk,e⟩;exact ⟨ps[j],List.mem_take_iff_getElem.2 ⟨j,by omega,rfl⟩,e⟩
theorem ztV (v:Value) (ps:List Pr) (w:World) (hv:Prs w v ps) (hn:ps.length<=100000) (hl:∀ p∈ps,p.1.length<=100000/\p.2.length<=100000):Calls Tryz.prog 58 #[v] w fun e w'=>e=.returned (.int .i64 (zq3 ps))/\Kept w w':=by
 have HV:=Hd hv;have HLL:=Hd hl;obtain ⟨a,c,rfl,hc⟩:=hv.form;have H0:Hid (zq3 ps=zBh (zi2 ps 0) (ps.drop 0)):=rfl;have HK0:Hid ((zi2 ps 0).contains [42]=false):=rfl;have HKN:=Hd (zwY ps);have HKH:=Hd (zAE ps);generalize zq3 ps=R at *;clear hv hl;go_enter Tryz.func58,Tryz.ntmps58;go_wp2_with fail;go_loopw [3,4] (fun d i wr=>∃ k:Nat,k<=ps.length/\i=.int .i64 k/\d=.bool ((zi2 ps k).contains [42])/\Hid (R=zBh (zi2 ps k) (ps.drop k))/\Hid (Kept w wr)) (fun _ i _=>ps.length - (intOf i).toNat)
 case atStart=>exact ⟨0,Nat.zero_le _,rfl,by rw[HK0.out],H0.out,Kept.refl _⟩
 case round =>
  obtain ⟨k,hk,rfl,rfl,HA,HKR⟩:=hrel;by_cases hlt:k<ps.length
  ·have hx:=List.getElem?_eq_getElem hlt;obtain ⟨g,o,rfl,hg,d0,d1,-,-⟩:=(HV.out.kept HKR.out).cell_of k _ hx;obtain ⟨hl1,hl2⟩:=HLL.out _ (List.getElem_mem hlt);have HD:Hid (ps.drop k=ps[k] :: ps.drop (k+1)):=List.drop_eq_getElem_cons hlt;have HKX:=Hd (HKN.out k hlt);rw[HD.out,ze7] at HA;have HHAS:=Hd (HKH.out k ps[k].1 hk);have HX:=Hd hx;clear HD hx;generalize ps[k]=p at *;obtain ⟨x,y⟩:=p;simp only at d0 d1 hl1 hl2 HA HKX HHAS;have HS:=Hd (fun w=>ztT x w (by omega));have HSP:=Hd (fun w=>zfV y w hl2);obtain ⟨b,HBB⟩:∃ b,Hid ((x == [42] || zbA x 20 [])=b):=⟨_,rfl⟩;rw[HBB.out] at HS;cases b with
   | false =>
    have hbb:=HBB.out;rw[Bool.or_eq_false_iff] at hbb;rw[if_pos hbb] at HA;clear hbb HBB;go_wp2_with fail;refine (HS.out _).mono ?_;rintro e w2 ⟨rfl,hk2⟩;have HK2:=Hd (HKR.out.trans hk2);clear hk2;go_wp2_with fail;go_ret;exact ⟨zaG HA.out.symm,HK2.out⟩
   | true =>
    rw[if_neg (fun q=>by have:=HBB.out;rw[q.1,q.2] at this;cases this)] at HA;have HYS:Hid ((∃ j,∃ hj:j<ps.length,j<k/\ps[j].1=x)->R=7):=fun h=>(by rw[HA.out,if_pos (HHAS.out.2 h)]);have HNS:Hid ((∀ j (hj:j<ps.length),j<k->ps[j].1≠x)->R=if zdD y≠0 then zdD y else zBh (zi2 ps (k+1)) (ps.drop (k+1))):=fun h=>by
     rw[HA.out,if_neg (fun q=>by obtain ⟨j,hj,hjk,e⟩:=HHAS.out.1 q;exact h j hj hjk e),HKX.out]
    have HST:Hid ((zi2 ps (k+1)).contains [42]=((zi2 ps k).contains [42] || (x == [42]))):=by
     show _=_;rw[HKX.out,Bool.eq_iff_iff,List.contains_iff_mem,Bool.or_eq_true,List.contains_iff_mem,beq_iff_eq,List.mem_append,List.mem_singleton];constructor
     ·rintro (h|h)
      ·exact .inl h
      ·exact .inr h.symm
     ·rintro (h|h)
      ·exact .inl h
      ·exact .inr h.symm
    clear HBB HA HHAS HKX;generalize (zi2 ps k).contains [42]=D at *;go_wp2_with fail;refine (HS.out _).mono ?_;rintro e w2 ⟨rfl,hk2⟩;have HK2:=Hd (HKR.out.trans hk2);clear hk2 HKR d0 d1 HS hg;go_wp2_with fail;have hk1:(k:Int)<=(ps.length:Int):=(by omega);obtain ⟨wo,rfl⟩:∃ wo:World,wo=w2:=⟨_,rfl⟩;go_loopw [5] (fun i wr=>∃ m:Nat,m<=k/\i=.int .i64 m/\Hid (∀ j (hj:j<ps.length),j<m->ps[j].1≠x)/\Hid (Kept w wr)) (fun i _=>k - (intOf i).toNat)
    case atStart=>exact ⟨0,Nat.zero_le _,rfl,fun j hj h=>by omega,HK2.out⟩
    case round =>
     clear HK2;obtain ⟨m,hm,rfl,HM,HKR⟩:=hrel;obtain ⟨g1,o1,ha,hg1,e0,e1,-,-⟩:=(HV.out.kept HKR.out).cell_of k _ HX.out;obtain ⟨rfl,rfl⟩:g=g1/\o=o1:=(by cases ha;exact ⟨rfl,rfl⟩);simp only at e0 e1;clear ha;by_cases hlt2:m<k
     ·have hml:m<ps.length:=(by omega);have hy:=List.getElem?_eq_getElem hml;obtain ⟨g1,o1,ha,-,q0,-,-,-⟩:=(HV.out.kept HKR.out).cell_of m _ hy;obtain ⟨rfl,rfl⟩:g=g1/\o=o1:=(by cases ha;exact ⟨rfl,rfl⟩);have HMX:Hid (ps[m].1≠x->∀ j (hj:j<ps.length),j<m+1->ps[j].1≠x):=by
       intro h j hj hjk;rcases Nat.lt_or_ge j m with q|q
       ·exact HM.out j hj q
       ·obtain rfl:j=m:=(by omega);exact h
      have HYM:Hid (ps[m].1=x->R=7):=fun e=>HYS.out ⟨m,hml,hlt2,e⟩;clear ha hy HM;generalize ps[m].1=z at *;cases hzx:(z == x) with
      | true =>
       have HR:=Hd (HYM.out (beq_iff_eq.1 hzx));go_wp2_with fail
       go_quiet (fail)
       all_goals
        have HKZ:=Hd (HKR.out.trans (zaB wr nq));go_wp2_with fail;go_ret;exact ⟨zaG HR.out.symm,HKZ.out⟩
      | false =>
       have HNO:=Hd (HMX.out (beq_eq_false_iff_ne.1 hzx));go_wp2_with fail
       go_quiet (fail)
       all_goals
        have HKZ:=Hd (HKR.out.trans (zaB wr nq));go_wp2_with fail;go_roundw
        case rel=>exact ⟨m+1,by omega,by go_num,HNO.out,HKZ.out⟩
        case measure=>simp [intOf];omega
     ·obtain rfl:m=k:=(by omega);have HA:=Hd (HNS.out HM.out);clear HNS HYS HM;generalize zdD y=E at *;go_wp2_with fail;refine (HSP.out _).mono ?_;rintro e w4 ⟨rfl,hk4⟩;have HK4:=Hd (HKR.out.trans hk4);clear hk4 e0 e1;obtain ⟨g1,o1,ha,hg1,f0,f1,-,-⟩:=(HV.out.kept HK4.out).cell_of m _ HX.out;obtain ⟨rfl,rfl⟩:g=g1/\o=o1:=(by cases ha;exact ⟨rfl,rfl⟩);simp only at f0 f1;clear ha;by_cases h5:E=0
      case neg =>
       rw[if_pos h5] at HA;have h5':(E == 0)=false:=(by simpa using h5);clear h5;go_wp2_with fail;go_ret;exact ⟨zaG HA.out.symm,HK4.out⟩
      subst h5;rw[if_neg (by simp)] at HA;cases D with
      | true =>
       rw[Bool.true_or] at HST;go_wp2_with fail;go_roundw
       case rel=>exact ⟨m+1,by omega,by go_num,by rw[HST.out],HA.out,HK4.out⟩
       case measure=>simp [intOf];omega
      | false =>
       rw[Bool.false_or] at HST;obtain ⟨b42,h42⟩:∃ b,(x == [42])=b:=⟨_,rfl⟩;rw[h42] at HST;go_wp2_with fail;go_roundw
       case rel=>exact ⟨m+1,by omega,by go_num,by rw[HST.out],HA.out,HK4.out⟩
       case measure=>simp [intOf];omega
  ·obtain rfl:k=ps.length:=(by omega);rw[List.drop_of_length_le (Nat.le_refl _),zk1] at HA;generalize (zi2 ps ps.length).contains [42]=D at *;cases D with
   | true =>
    rw[if_pos rfl] at HA;go_wp2_with fail;go_ret;exact ⟨zaG HA.out.symm,HKR.out⟩
   | false =>
    rw[if_neg (by simp)] at HA;go_wp2_with fail;go_ret;exact ⟨zaG HA.out.symm,HKR.out⟩
theorem zr9 (vE:Value) (y:StyT) (w:World) (hs:SmallY y) (hv:Prs w vE y.entries):Calls Tryz.prog 20 #[zeJ vE y] w fun e w'=>e=.returned (.int .i64 (zdY y))/\Kept w w':=by
 have HV:=Hd hv;have HSM:=Hd hs;obtain ⟨s1,s2,s3,s4,s5,s6,s7,s8,s9⟩:=hs;have H1:=Hd (fun w=>ztS y.name w (by omega));have H2:=Hd (fun w=>zr7 y.sort w s2);have H3:=Hd (fun w=>zr8 vE y w HSM.out);have H4:=Hd (fun w=>zfU y.between w (by omega));have H5:=Hd (fun w=>zfU y.begin_ w (by omega));have H6:=Hd (fun w=>zfU y.end_ w (by omega));have H7:=Hd (fun w h'=>ztV vE y.entries w h' (by omega) s9);have HE:Hid (zdY y=if 128<y.entries.length then 3 else if zbA y.name 60 zcE=false then 6 else if znE y.sort≠0 then znE y.sort else if znY y≠0 then znY y else if lnB y.between=false\/lnB y.begin_=false\/lnB y.end_=false then 17 else if y.most<1\/32<y.most then 9 else zq3 y.entries):=rfl;obtain ⟨aE,cE,rfl,lE⟩:=hv.form;generalize zdY y=R at *;generalize zbA y.name 60 zcE=b1 at *;generalize znE y.sort=e2 at *;generalize znY y=e3 at *;generalize lnB y.between=b4 at *;generalize lnB y.begin_=b5 at *;generalize lnB y.end_=b6 at *;generalize zq3 y.entries=e7 at *;clear hv s9;unfold zeJ zaE at H3 ⊢;have HK0:=Hd (zaA w (.cells (zaE (.slice aE y.entries.length cE) y) 33));have HB0:=Hd (Blk.new w 33 (zaE (.slice aE y.entries.length cE) y));unfold zaE at HK0 HB0;by_cases h1:128<y.entries.length
 ·rw[if_pos h1] at HE;go_enter Tryz.func20,Tryz.ntmps20;go_wp2_with fail;go_ret;exact ⟨zaG HE.out.symm,HK0.out⟩
 rw[if_neg h1] at HE;go_enter Tryz.func20,Tryz.ntmps20;go_wp2_with fail;generalize w.alloc _=w0 at *;generalize w.heap.size=B at *;have HCC:Hid (∀ w',Kept w0 w'->Blk w' B 33 #[.string (bs y.name),.bool y.numeric,.string (bs y.sort),.string (bs y.cite),.string (bs y.bare),.string (bs y.between),.string (bs y.begin_),.string (bs y.end_),.int .i64 y.most,.slice aE y.entries.length cE]):=fun w' h=>HB0.out.kept h;refine (H1.out _).mono ?_;rintro e w1 ⟨rfl,hk⟩;have K1:=Hd hk;clear hk;cases b1 with
 | false =>
  rw[if_pos rfl] at HE;go_wp2_with fail;go_ret;exact ⟨zaG HE.out.symm,HK0.out.trans K1.out⟩
 | true =>
 rw[if_neg (by simp)] at HE;have t2:w1.cell? ⟨B,2,none⟩=some (.string (bs y.sort)):=(HCC.out _ K1.out).cell 2 _ rfl;have z1:=(HCC.out _ K1.out).lt;go_wp2_with fail;refine (H2.out _).mono ?_;rintro e w2 ⟨rfl,hk⟩;have K2:=Hd (K1.out.trans hk);clear hk t2 z1 K1;by_cases h2:e2=0
 case neg =>
  rw[if_pos h2] at HE;have h2':(e2 == 0)=false:=(by simpa using h2);go_wp2_with fail;go_ret;exact ⟨zaG HE.out.symm,HK0.out.trans K2.out⟩
 subst h2;rw[if_neg (by simp)] at HE;have t0:w2.cell? ⟨B,0,none⟩=some (.string (bs y.name)):=(HCC.out _ K2.out).cell 0 _ rfl;have t1:w2.cell? ⟨B,1,none⟩=some (.bool y.numeric):=(HCC.out _ K2.out).cell 1 _ rfl;have t2:w2.cell? ⟨B,2,none⟩=some (.string (bs y.sort)):=(HCC.out _ K2.out).cell 2 _ rfl;have t3:w2.cell? ⟨B,3,none⟩=some (.string (bs y.cite)):=(HCC.out _ K2.out).cell 3 _ rfl;have t4:w2.cell? ⟨B,4,none⟩=some (.string (bs y.bare)):=(HCC.out _ K2.out).cell 4 _ rfl;have t5:w2.cell? ⟨B,5,none⟩=some (.string (bs y.between)):=(HCC.out _ K2.out).cell 5 _ rfl;have t6:w2.cell? ⟨B,6,none⟩=some (.string (bs y.begin_)):=(HCC.out _ K2.out).cell 6 _ rfl;have t7:w2.cell? ⟨B,7,none⟩=some (.string (bs y.end_)):=(HCC.out _ K2.out).cell 7 _ rfl;have t8:w2.cell? ⟨B,8,none⟩=some (.int .i64 y.most):=(HCC.out _ K2.out).cell 8 _ rfl;have t9:w2.cell? ⟨B,9,none⟩=some (.slice aE y.entries.length cE):=(HCC.out _ K2.out).cell 9 _ rfl;have z1:=(HCC.out _ K2.out).lt;go_wp2_with fail;refine (H3.out _).mono ?_;rintro e w3 ⟨rfl,hk⟩;have K3:=Hd (K2.out.trans hk);clear hk t0 t1 t2 t3 t4 t5 t6 t7 t8 t9 z1 K2;by_cases h3:e3=0
 case neg =>
  rw[if_pos h3] at HE;have h3':(e3 == 0)=false:=(by simpa using h3);go_wp2_with fail;go_ret;exact ⟨zaG HE.out.symm,HK0.out.trans K3.out⟩
 subst h3;rw[if_neg (by simp)] at HE;have t5:w3.cell? ⟨B,5,none⟩=some (.string (bs y.between)):=(HCC.out _ K3.out).cell 5 _ rfl;have z1:=(HCC.out _ K3.out).lt;go_wp2_with fail;refine (H4.out _).mono ?_;rintro e w4 ⟨rfl,hk⟩;have K4:=Hd (K3.out.trans hk);clear hk t5 z1 K3;cases b4 with
 | false =>
  rw[if_pos (.inl rfl)] at HE;go_wp2_with fail;go_ret;exact ⟨zaG HE.out.symm,HK0.out.trans K4.out⟩
 | true =>
 have t6:w4.cell? ⟨B,6,none⟩=some (.string (bs y.begin_)):=(HCC.out _ K4.out).cell 6 _ rfl;have z1:=(HCC.out _ K4.out).lt;go_wp2_with fail;refine (H5.out _).mono ?_;rintro e w5 ⟨rfl,hk⟩;have K5:=Hd (K4.out.trans hk);clear hk t6 z1 K4;cases b5 with
 | false =>
  rw[if_pos (.inr (.inl rfl))] at HE;go_wp2_with fail;go_ret;exact ⟨zaG HE.out.symm,HK0.out.trans K5.out⟩
 | true =>
 have t7:w5.cell? ⟨B,7,none⟩=some (.string (bs y.end_)):=(HCC.out _ K5.out).cell 7 _ rfl;have z1:=(HCC.out _ K5.out).lt;go_wp2_with fail;refine (H6.out _).mono ?_;rintro e w6 ⟨rfl,hk⟩;have K6:=Hd (K5.out.trans hk);clear hk t7 z1 K5;cases b6 with
 | false =>
  rw[if_pos (.inr (.inr rfl))] at HE;go_wp2_with fail;go_ret;exact ⟨zaG HE.out.symm,HK0.out.trans K6.out⟩
 | true =>
 rw[if_neg (by simp)] at HE;have t8:w6.cell? ⟨B,8,none⟩=some (.int .i64 y.most):=(HCC.out _ K6.out).cell 8 _ rfl;have t9:w6.cell? ⟨B,9,none⟩=some (.slice aE y.entries.length cE):=(HCC.out _ K6.out).cell 9 _ rfl;have z1:=(HCC.out _ K6.out).lt;by_cases h8:y.most<1
 ·rw[if_pos (.inl h8)] at HE;go_wp2_with fail;go_ret;exact ⟨zaG HE.out.symm,HK0.out.trans K6.out⟩
 by_cases h9:32<y.most
 ·rw[if_pos (.inr h9)] at HE;go_wp2_with fail;go_ret;exact ⟨zaG HE.out.symm,HK0.out.trans K6.out⟩
 rw[if_neg (fun q=>q.elim h8 h9)] at HE;go_wp2_with fail;refine (H7.out _ (HV.out.kept (HK0.out.trans K6.out))).mono ?_;rintro e w7 ⟨rfl,hk⟩;have K7:=Hd (K6.out.trans hk);clear hk;go_wp2_with fail;go_ret;exact ⟨zaG HE.out.symm,HK0.out.trans K7.out⟩
theorem zAF {y:StyT} (h:zdY y=0):zdD y.cite=0/\zf4 (zf2 y.cite) (if y.numeric=true then zbF else zcD)=true:=by
 have hc:znY y=0:=by
  unfold zdY at h
  split at h
  ·cases h
  ·split at h
   ·cases h
   ·split at h
    ·rename_i q;exact absurd h q
    ·split at h
     ·rename_i q;exact absurd h q
     ·rename_i q;exact Decidable.not_not.1 q
 unfold znY at hc
 split at hc
 ·rename_i q;exact absurd hc q
 ·rename_i q;refine ⟨Decidable.not_not.1 q,?_⟩;cases hfb:zf4 (zf2 y.cite) (if y.numeric=true then zbF else zcD) with
  | true=>rfl
  | false=>rw[hfb,if_pos rfl] at hc;cases hc
def zFD (val:Bs->Bs) (key:Bs) (ds:List Int) (p:Pc):Tok:=if ds.contains (p.grp:Int)=true then [] else if p.fld=true then (if p.txt=key then [none] else (val p.txt).map some) else p.txt.map some
theorem zAG (val val0:Bs->Bs) (key s:Bs) (ds:List Int) (h1:val key=s) (h2:∀ k,k≠key->val k=val0 k) (p:Pc):zeW s (zFD val0 key ds p)=zjJ val ds p:=by
 unfold zFD zjJ
 split
 ·rfl
 ·split
  ·split
   ·rename_i q;rw[zAA,q,h1]
   ·rename_i q;rw[zrY,h2 _ q]
  ·rw[zrY]
theorem zwZ (ps:List Pc) (v1 v2:Bs->Bs) (h:∀ k,(v1 k == [])=(v2 k == [])):zcW ps v1=zcW ps v2:=by
 unfold zcW;congr 1;refine List.filter_congr fun p _=>?_;rw[h]
def zEt (ps:List Pc) (val:Bs->Bs) (key:Bs):Tok:=ps.flatMap (zFD val key (zcW ps val))
theorem zAH (ps:List Pc) (val val0:Bs->Bs) (key s:Bs) (hs:s≠[]) (h0:val0 key≠[]) (h1:val key=s) (h2:∀ k,k≠key->val k=val0 k):zzF ps val=zeW s (zEt ps val0 key):=by
 have hd:zcW ps val=zcW ps val0:=zwZ ps val val0 (fun k=>by
  by_cases q:k=key
  ·subst q;have a:(val k == [])=false:=(by rw[h1];simpa using hs);have b:(val0 k == [])=false:=(by simpa using h0);rw[a,b]
  ·rw[h2 k q])
 unfold zzF zEt;rw[zAz,hd];congr 1;funext p;exact (zAG val val0 key s _ h1 h2 p).symm
theorem zAI (ps:List Pc) (val:Bs->Bs) (key:Bs) (h0:val key≠[]) (h:zf4 ps key=true):none∈zEt ps val key:=by
 unfold zf4 at h;rw[List.any_eq_true] at h;obtain ⟨p,hp,h1⟩:=h;rw[Bool.and_eq_true,Bool.and_eq_true,Bool.not_eq_true',beq_iff_eq] at h1;obtain ⟨hf,ht,ho⟩:=h1;have hd:(zcW ps val).contains (p.grp:Int)=false:=by
  rw[Bool.eq_false_iff];intro q;rw[List.contains_iff_mem] at q;unfold zcW at q;rw[List.mem_map] at q;obtain ⟨p2,hp2,e⟩:=q;rw[List.mem_filter] at hp2;obtain ⟨hm,hc⟩:=hp2;rw[Bool.and_eq_true,Bool.and_eq_true,beq_iff_eq] at hc;obtain ⟨c1,c2,c3⟩:=hc;rw[Bool.eq_false_iff] at ho;refine ho ?_;rw[List.contains_iff_mem];unfold zg1;rw[List.mem_map];refine ⟨p2,?_,e⟩;rw[List.mem_filter];refine ⟨hm,?_⟩;have:(p2.txt == key)=false:=by
   rw[beq_eq_false_iff_ne];intro q;rw[q] at c3;exact h0 c3
  rw[c1,this,c2];rfl
 unfold zEt;rw[List.mem_flatMap];refine ⟨p,hp,?_⟩;unfold zFD;rw[hd,if_neg (by simp),if_pos hf,if_pos ht];simp
theorem zpW (c:FilT) (s:Bs):ztC { c with suffix:=s } zcD=s:=by
 unfold ztC ziK;rfl
theorem zoK (c:FilT) (s k:Bs) (h:k≠zcD):ztC { c with suffix:=s } k=ztC c k:=by
 have hk:(zcD == k)=false:=(by rw[beq_eq_false_iff_ne];exact fun e=>h e.symm);unfold ztC ziK;simp only[List.find?_cons,hk];rfl
theorem zCT {y:StyT} (hy:zdY y=0) (hn:y.numeric=false) (c:FilT) (s:Bs) (hs:s≠[]):zeK { c with suffix:=s } y.cite=zeW s (zEt (zf2 y.cite) (ztC { c with suffix:=[97] }) zcD) :=
 zAH _ _ _ _ s hs (by rw[zpW];simp) (zpW c s) (fun k hk=>by rw[zoK c s k hk,zoK c [97] k hk])
theorem zAJ {y:StyT} (hy:zdY y=0) (hn:y.numeric=false) (c:FilT):none∈zEt (zf2 y.cite) (ztC { c with suffix:=[97] }) zcD:=by
 have h:=(zAF hy).2;rw[hn] at h;exact zAI _ _ _ (by rw[zpW];simp) h
def zoL (s:SrcT) (y:StyT) (lang suf:Bs) (n:Int):FilT:=⟨s.key,s.type,s.author,s.editor,s.fields,lang,suf,n,y.most⟩
def ztW (s:SrcT) (y:StyT) (lang suf:Bs):Bs:=zeK (zoL s y lang suf 0) y.cite
def zAK (y:StyT) (lang:Bs) (s:SrcT):CitX:=(ztW s y lang [],zEt (zf2 y.cite) (ztC (zoL s y lang [97] 0)) zcD)
theorem zFf {y:StyT} (hy:zdY y=0) (hn:y.numeric=false) (lang:Bs) (s:SrcT) (n:Nat):ztW s y lang (zfJ n)=zfG (zAK y lang s) n:=by
 unfold zfG
 split
 ·rename_i q;subst q;unfold zfJ;rw[zdS];rfl
 ·rename_i q;exact zCT hy hn (zoL s y lang [] 0) (zfJ n) (zEo (by omega))
theorem zAL {y:StyT} (hy:zdY y=0) (hn:y.numeric=false) (lang:Bs) (s:SrcT):none∈(zAK y lang s).2:=zAJ hy hn (zoL s y lang [] 0)
def zxS (y:StyT) (lang:Bs) (l:List SrcT):Int × List Bs:=if zdY y=0 then (0,if y.numeric=true then l.map fun _=>[] else (zE8 (l.map (zAK y lang))).map zfJ) else (zdY y,[])
theorem zFg {ps:List Bs} {done:List CitX} {st:SufS} (h:SufI ps done st) {x:CitX} (hx:none∈x.2):zrZ st.taken x st.taken.length (st.next (zkS x))<=st.taken.length+1:=by
 obtain ⟨h1,h2,h3⟩:=h.old hx;have:=ztQ hx (zrZ st.taken x st.taken.length (st.next (zkS x)) - 1) st.taken 1 (by omega) (fun j hj=>h3 (1+j) (by omega) (by omega));omega
theorem zCU {ps:List Bs} {done:List CitX} {st:SufS} (h:SufI ps done st) (hl:done.length<=ps.length):st.taken.length<=2 * ps.length:=by
 have h1:=h.tl;have h2:=List.length_filter_le (zb7 ps) ps;omega
end Go.Proofs.YtmcoomlkbgiboaaGreatDoor
