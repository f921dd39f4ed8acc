/- itself and cites of publisherref31. Conditions: lengths. -/
import Derived.Test.YtmcoomlkbgiboaaGreatDoorU33
import Derived.Test.YtmcoomlkbgiboaaGreatDoorU35
import Derived.Test.YtmcoomlkbgiboaaGreatDoorU19
import Derived.Test.YtmcoomlkbgiboaaGreatDoorU22
import Derived.Test.YtmcoomlkbgiboaaGreatDoorU18
import Derived.Test.YtmcoomlkbgiboaaGreatDoorU32
import Derived.Test.YtmcoomlkbgiboaaGreatDoorU29
import Derived.BigQuiet
set_option linter.all false
set_option maxRecDepth 100000
set_option maxHeartbeats 6400000
namespace Go.Proofs.YtmcoomlkbgiboaaGreatDoor
open Go.RowKit
def zw4 (key:Bs) (pg:Nat) (q:Rp):Bool:=pg == 0 || (!(q.grp == pg) || (q.fld == [] || q.fld == key))
theorem zAh (l:List Rp) (key:Bs):zCV l key=l.any fun p=>(p.fld == key) && l.all (zw4 key p.grp):=rfl
theorem zCj (l:List Rp) (f:Rp->Bool) (k:Nat) (hk:k<l.length):(l.take (k+1)).all f=((l.take k).all f && f l[k]):=by
 rw[List.take_succ_eq_append_getElem hk,List.all_append];simp
theorem zEH (l:List Rp) (key:Bs) (h:∀ j (hj:j<l.length),((l[j].fld == key) && l.all (zw4 key l[j].grp))=false):zCV l key=false:=by
 rw[zAh,List.any_eq_false];intro p hp;obtain ⟨j,hj,e⟩:=List.getElem_of_mem hp;rw[<- e,h j hj];simp
theorem zDZ (l:List Rp) (key:Bs) (j:Nat) (hj:j<l.length) (h:((l[j].fld == key) && l.all (zw4 key l[j].grp))=true):zCV l key=true:=by
 rw[zAh,List.any_eq_true];exact ⟨l[j],List.getElem_mem hj,h⟩
theorem zs7 (v:Value) (ps:List Rp) (key:Bs) (w:World) (hv:Rps w v ps) (hl:ps.length<=100000):Calls Tryz.prog 112 #[v,.string (bs key)] w fun e w'=>e=.returned (.bool (zCV ps key))/\Kept w w':=by
 have HP2:=Hd hv;have HNO:=Hd (zEH ps key);have HYS:=Hd (zDZ ps key);obtain ⟨aP,cP,rfl,hcp⟩:=HP2.out.form;clear hv;generalize zCV ps key=R at *;go_enter Tryz.func112,Tryz.ntmps112;go_wp2_with fail;go_loopw [5] (fun i wr=>∃ n:Nat,n<=ps.length/\i=.int .i64 n/\Hid (∀ j (hj:j<ps.length),j<n->((ps[j].fld == key) && ps.all (zw4 key ps[j].grp))=false)/\Hid (Kept w wr)) (fun i _=>ps.length - (intOf i).toNat)
 case atStart=>exact ⟨0,Nat.zero_le _,rfl,fun j hj h=>by omega,Kept.refl _⟩
 case round =>
  obtain ⟨n,hn,rfl,HN,HKR⟩:=hrel;by_cases hlt:n<ps.length
  ·have hx:=List.getElem?_eq_getElem hlt;have HNX:Hid (((ps[n].fld == key) && ps.all (zw4 key ps[n].grp))=false->∀ j (hj:j<ps.length),j<n+1->((ps[j].fld == key) && ps.all (zw4 key ps[j].grp))=false):=fun h j hj hjk=>by
    rcases Nat.lt_or_ge j n with q|q
    ·exact HN.out j hj q
    ·obtain rfl:j=n:=(by omega);exact h
   have HYN:=Hd (HYS.out n hlt);clear HN;generalize ps[n]=p at *;obtain ⟨px,pf,pg⟩:=p;simp only at HNX HYN;obtain ⟨g,o,rfl,hg,-,p1,-⟩:=(HP2.out.kept HKR.out).cell_of n _ hx;simp only at p1;have HX:=Hd hx;clear hx;cases hpf:(pf == key) with
   | false =>
    have hne:(pf != key)=true:=(by rw[bne,hpf];rfl);rw[hpf,Bool.false_and] at HNX;have HS:=Hd (HNX.out rfl);clear HNX HYN;go_wp2_with fail;go_roundw
    case rel=>exact ⟨n+1,by omega,by go_num,HS.out,HKR.out⟩
    case measure=>simp [intOf];omega
   | true =>
    have hne:(pf != key)=false:=(by rw[bne,hpf];rfl);rw[hpf,Bool.true_and] at HNX HYN;have HAN:=Hd (fun k hk=>zCj ps (zw4 key pg) k hk);have HAT:Hid ((ps.take ps.length).all (zw4 key pg)=ps.all (zw4 key pg)):=(by show _=_;rw[List.take_of_length_le (Nat.le_refl _)]);have HA0:Hid ((ps.take 0).all (zw4 key pg)=true):=rfl;have HQ:Hid (∀ q,zw4 key pg q=(pg == 0 || (!(q.grp == pg) || (q.fld == [] || q.fld == key)))):=fun q=>rfl;generalize zw4 key pg=F at *;go_wp2_with fail;obtain ⟨wo,rfl⟩:∃ wo:World,wo=wr:=⟨_,rfl⟩;clear p1;go_loopw [6,7] (fun d i wr=>∃ k:Nat,k<=ps.length/\i=.int .i64 k/\d=.bool ((ps.take k).all F)/\Hid (Kept w wr)) (fun _ i _=>ps.length - (intOf i).toNat)
    case atStart=>exact ⟨0,Nat.zero_le _,rfl,by rw[HA0.out],HKR.out⟩
    case round =>
     obtain ⟨k,hk,rfl,rfl,HKQ⟩:=hrel;by_cases hlk:k<ps.length
     ·have hx:=List.getElem?_eq_getElem hlk;have HGK:=Hd (HAN.out k hlk);rw[HQ.out] at HGK;generalize ps[k]=q at *;obtain ⟨qx,qf,qg⟩:=q;simp only at HGK;generalize (ps.take k).all F=D at *;obtain ⟨g1,o1,ha,hg1,-,-,p2⟩:=(HP2.out.kept HKQ.out).cell_of n _ HX.out;obtain ⟨rfl,rfl⟩:g=g1/\o=o1:=(by cases ha;exact ⟨rfl,rfl⟩);obtain ⟨g1,o1,ha',-,-,q1,q2⟩:=(HP2.out.kept HKQ.out).cell_of k _ hx;obtain ⟨rfl,rfl⟩:g=g1/\o=o1:=(by cases ha';exact ⟨rfl,rfl⟩);simp only at p2 q1 q2;clear ha ha' hx;have hNP:(n:Int)<(ps.length:Int):=(by omega);have hKP:(k:Int)<(ps.length:Int):=(by omega);cases D with
      | false =>
       rw[Bool.false_and] at HGK;go_wp2_with fail
       go_quiet (fail)
       all_goals
        have HKZ:=Hd (HKQ.out.trans (zaB wr nq));go_wp2_with fail;go_roundw
        case rel=>exact ⟨k+1,by omega,by go_num,by rw[HGK.out],HKZ.out⟩
        case measure=>simp [intOf];omega
      | true =>
       rw[Bool.true_and] at HGK;cases h0:(pg == 0) with
       | true =>
        obtain rfl:pg=0:=(by simpa using h0);rw[h0,Bool.true_or] at HGK;clear h0;go_wp2_with fail
        go_quiet (fail)
        all_goals
         have HKZ:=Hd (HKQ.out.trans (zaB wr nq));go_wp2_with fail;go_roundw
         case rel=>exact ⟨k+1,by omega,by go_num,by rw[HGK.out],HKZ.out⟩
         case measure=>simp [intOf];omega
       | false =>
        rw[h0,Bool.false_or] at HGK;have h0i:((pg:Int) == 0)=false:=(by rw[beq_eq_false_iff_ne] at h0 ⊢;omega);cases hgq:(qg == pg) with
        | false =>
         have hgi:((qg:Int) == (pg:Int))=false:=(by rw[beq_eq_false_iff_ne] at hgq ⊢;omega);have hgn:((qg:Int) != (pg:Int))=true:=(by rw[bne,hgi];rfl);rw[hgq,Bool.not_false,Bool.true_or] at HGK;clear hgq;go_wp2_with fail
         go_quiet (fail)
         all_goals
          have HKZ:=Hd (HKQ.out.trans (zaB wr nq));go_wp2_with fail;go_roundw
          case rel=>exact ⟨k+1,by omega,by go_num,by rw[HGK.out],HKZ.out⟩
          case measure=>simp [intOf];omega
        | true =>
         have hgi:((qg:Int) == (pg:Int))=true:=(by rw[beq_iff_eq] at hgq ⊢;omega);have hgn:((qg:Int) != (pg:Int))=false:=(by rw[bne,hgi];rfl);rw[hgq,Bool.not_true,Bool.false_or] at HGK;clear hgq;cases hqf:(qf == ([]:Bs)) with
         | true =>
          rw[hqf,Bool.true_or] at HGK;go_wp2_with fail
          go_quiet (fail)
          all_goals
           have HKZ:=Hd (HKQ.out.trans (zaB wr nq));go_wp2_with fail;go_roundw
           case rel=>exact ⟨k+1,by omega,by go_num,by rw[HGK.out],HKZ.out⟩
           case measure=>simp [intOf];omega
         | false =>
          rw[hqf,Bool.false_or] at HGK;obtain ⟨bk,hbk⟩:∃ b,(qf == key)=b:=⟨_,rfl⟩;rw[hbk] at HGK;go_wp2_with fail
          go_quiet (fail)
          all_goals
           have HKZ:=Hd (HKQ.out.trans (zaB wr nq));go_wp2_with fail;go_roundw
           case rel=>exact ⟨k+1,by omega,by go_num,by rw[HGK.out],HKZ.out⟩
           case measure=>simp [intOf];omega
     ·obtain rfl:k=ps.length:=(by omega);rw[HAT.out];generalize ps.all F=D at *;cases D with
      | true =>
       have HR:=Hd (HYN.out rfl);go_wp2_with fail;go_ret;exact ⟨zaO HR.out.symm,HKQ.out⟩
      | false =>
       have HS:=Hd (HNX.out rfl);go_wp2_with fail;go_roundw
       case rel=>exact ⟨n+1,by omega,by go_num,HS.out,HKQ.out⟩
       case measure=>simp [intOf];omega
  ·obtain rfl:n=ps.length:=(by omega);have HR:=Hd (HNO.out (fun j hj=>HN.out j hj hj));go_wp2_with fail;go_ret;exact ⟨zaO HR.out.symm,HKR.out⟩
theorem zrW (vE:Value) (y:StyT) (w:World) (hs:SmallY y):Calls Tryz.prog 56 #[zdU vE y] w fun e w'=>e=.returned (.int .i64 (znL y))/\Kept w w':=by
 obtain ⟨-,-,s3,s4,-⟩:=hs;have HC:=Hd (fun w=>zeA y.cite w s3);have HB:=Hd (fun w=>zeA y.bare w s4);have HQ:=Hd (fun w=>zjK y.cite w s3);unfold PartsP at HQ;have HRT:Hid (zcW y.cite=0->zlP y.cite=some (ziY (zeK y.cite))/\(ziY (zeK y.cite)).length<=100000):=fun h=>by
  have h1:=zz8 h;have h2:=zg6 _ _ _ _ _ ((zsS y.cite).symm.trans h1);exact ⟨h1,by omega⟩
 have HF:Hid (∀ v k w,k≠[]->zcW y.cite=0->Rps w v (ziY (zeK y.cite))->Calls Tryz.prog 112 #[v,.string (bs k)] w fun e w'=>e=.returned (.bool (zf5 (zeK y.cite) k))/\Kept w w'):=fun v k w hk h0 h=>by
  rw[<- zBk (zeK y.cite) k hk (fun p hp=>(zoQ p hp).1)];exact zs7 v (ziY (zeK y.cite)) k w h (HRT.out h0).2
 have HE:Hid (znL y=if zcW y.cite≠0 then zcW y.cite else if zf5 (zeK y.cite) (if y.numeric=true then zbD else zb9)=false then 8 else zcW y.bare):=rfl;generalize znL y=R at *;generalize zcW y.cite=E1 at *;generalize zcW y.bare=E2 at *;generalize hL:zeK y.cite=L at *;generalize ziY L=X at *;generalize zlP y.cite=S at *;clear hL;unfold zdU zaD;have HK0:=Hd (zaA w (.cells (zaD vE y) 33));have HB0:=Hd (Blk.new w 33 (zaD vE y));unfold zaD at HK0 HB0;go_enter Tryz.func56,Tryz.ntmps56;go_wp2_with fail;generalize w.alloc _=w0 at *;generalize w.heap.size=B at *;refine (HC.out _).mono ?_;rintro e w1 ⟨rfl,hk1⟩;have HK1:=Hd (HK0.out.trans hk1);have HB1:=Hd (HB0.out.kept hk1);clear hk1 HC;by_cases h1:E1=0
 case neg =>
  rw[if_pos h1] at HE;have h1':(E1 == 0)=false:=(by simpa using h1);go_wp2_with fail;go_ret;exact ⟨zaK HE.out.symm,HK1.out⟩
 subst h1;rw[if_neg (by simp)] at HE;have HRS:=Hd (HRT.out rfl).1;have HFF:=Hd (fun v k w hk h=>HF.out v k w hk rfl h);rw[HRS.out] at HQ;simp only[Option.isSome_some,Option.some.injEq] at HQ;clear HRT HRS HF;have b3:w1.cell? ⟨B,3,none⟩=some (.string (bs y.cite)):=HB1.out.cell 3 _ rfl;have z1:=HB1.out.lt;go_wp2_with fail;refine (HQ.out _).mono ?_;rintro e w2 ⟨v,rfl,-,hp,hk2⟩;have HP2:=Hd (hp X rfl);have HK2:=Hd (HK1.out.trans hk2);have HB2:=Hd (HB1.out.kept hk2);obtain ⟨aP,cP,rfl,hcp⟩:=HP2.out.form;clear hp hk2 HQ b3 z1 HB1 HK1;have b1:w2.cell? ⟨B,1,none⟩=some (.bool y.numeric):=HB2.out.cell 1 _ rfl;have z2:=HB2.out.lt;cases hn:y.numeric
 all_goals
  rw[hn] at b1 HE;simp only[Bool.false_eq_true,if_false,if_true] at HE;clear hn
  (first|unfold zb9 at HE|unfold zbD at HE)
  go_wp2_with fail;refine (HFF.out _ _ _ (by simp) HP2.out).mono ?_;rintro e w3 ⟨rfl,hk3⟩;have HK3:=Hd (HK2.out.trans hk3);have HB3:=Hd (HB2.out.kept hk3);clear hk3 b1 z2;generalize zf5 L _=F at *;cases F with
  | false =>
   rw[if_pos rfl] at HE;go_wp2_with fail;go_ret;exact ⟨zaK HE.out.symm,HK3.out⟩
  | true =>
   rw[if_neg (by simp)] at HE;have b4:w3.cell? ⟨B,4,none⟩=some (.string (bs y.bare)):=HB3.out.cell 4 _ rfl;have z3:=HB3.out.lt;go_wp2_with fail;refine (HB.out _).mono ?_;rintro e w4 ⟨rfl,hk4⟩;have HK4:=Hd (HK3.out.trans hk4);clear hk4;go_wp2_with fail;go_ret;exact ⟨zaK HE.out.symm,HK4.out⟩
def ziW (ps:List Pr) (k:Nat):List Bs:=(ps.take k).map (·.1)
theorem zwF (ps:List Pr) (k:Nat) (hk:k<ps.length):ziW ps (k+1)=ziW ps k ++ [ps[k].1]:=by
 unfold ziW;rw[List.take_succ_eq_append_getElem hk,List.map_append];rfl
theorem zAi (ps:List Pr) (k:Nat) (x:Bs) (hk:k<=ps.length):(ziW ps k).contains x=true↔∃ j,∃ hj:j<ps.length,j<k/\ps[j].1=x:=by
 unfold ziW;rw[List.contains_iff_mem,List.mem_map];constructor
 ·rintro ⟨p,hp,e⟩;obtain ⟨j,hj,e2⟩:=List.mem_take_iff_getElem.1 hp;exact ⟨j,by omega,by omega,by rw[e2,e]⟩
 ·rintro ⟨j,hj,hjk,e⟩;exact ⟨ps[j],List.mem_take_iff_getElem.2 ⟨j,by omega,rfl⟩,e⟩
theorem zs8 (v:Value) (ps:List Pr) (w:World) (hv:Prs w v ps) (hn:ps.length<=100000) (hl:∀ p∈ps,p.1.length<=100000/\p.2.length<=100000):Calls Tryz.prog 58 #[v] w fun e w'=>e=.returned (.int .i64 (zqU ps))/\Kept w w':=by
 have HV:=Hd hv;have HLL:=Hd hl;obtain ⟨a,c,rfl,hc⟩:=hv.form;have H0:Hid (zqU ps=zAN (ziW ps 0) (ps.drop 0)):=rfl;have HK0:Hid ((ziW ps 0).contains [42]=false):=rfl;have HKN:=Hd (zwF ps);have HKH:=Hd (zAi ps);generalize zqU ps=R at *;clear hv hl;go_enter Tryz.func58,Tryz.ntmps58;go_wp2_with fail;go_loopw [3,4] (fun d i wr=>∃ k:Nat,k<=ps.length/\i=.int .i64 k/\d=.bool ((ziW ps k).contains [42])/\Hid (R=zAN (ziW ps k) (ps.drop k))/\Hid (Kept w wr)) (fun _ i _=>ps.length - (intOf i).toNat)
 case atStart=>exact ⟨0,Nat.zero_le _,rfl,by rw[HK0.out],H0.out,Kept.refl _⟩
 case round =>
  obtain ⟨k,hk,rfl,rfl,HA,HKR⟩:=hrel;by_cases hlt:k<ps.length
  ·have hx:=List.getElem?_eq_getElem hlt;obtain ⟨g,o,rfl,hg,d0,d1,-,-⟩:=(HV.out.kept HKR.out).cell_of k _ hx;obtain ⟨hl1,hl2⟩:=HLL.out _ (List.getElem_mem hlt);have HD:Hid (ps.drop k=ps[k] :: ps.drop (k+1)):=List.drop_eq_getElem_cons hlt;have HKX:=Hd (HKN.out k hlt);rw[HD.out,ze6] at HA;have HHAS:=Hd (HKH.out k ps[k].1 hk);have HX:=Hd hx;clear HD hx;generalize ps[k]=p at *;obtain ⟨x,y⟩:=p;simp only at d0 d1 hl1 hl2 HA HKX HHAS;have HS:=Hd (fun w=>zs6 x w (by omega));have HSP:=Hd (fun w=>zeA y w hl2);obtain ⟨b,HBB⟩:∃ b,Hid ((x == [42] || za7 x 20 [])=b):=⟨_,rfl⟩;rw[HBB.out] at HS;cases b with
   | false =>
    have hbb:=HBB.out;rw[Bool.or_eq_false_iff] at hbb;rw[if_pos hbb] at HA;clear hbb HBB;go_wp2_with fail;refine (HS.out _).mono ?_;rintro e w2 ⟨rfl,hk2⟩;have HK2:=Hd (HKR.out.trans hk2);clear hk2;go_wp2_with fail;go_ret;exact ⟨zaK HA.out.symm,HK2.out⟩
   | true =>
    rw[if_neg (fun q=>by have:=HBB.out;rw[q.1,q.2] at this;cases this)] at HA;have HYS:Hid ((∃ j,∃ hj:j<ps.length,j<k/\ps[j].1=x)->R=7):=fun h=>(by rw[HA.out,if_pos (HHAS.out.2 h)]);have HNS:Hid ((∀ j (hj:j<ps.length),j<k->ps[j].1≠x)->R=if zcW y≠0 then zcW y else zAN (ziW ps (k+1)) (ps.drop (k+1))):=fun h=>by
     rw[HA.out,if_neg (fun q=>by obtain ⟨j,hj,hjk,e⟩:=HHAS.out.1 q;exact h j hj hjk e),HKX.out]
    have HST:Hid ((ziW ps (k+1)).contains [42]=((ziW ps k).contains [42] || (x == [42]))):=by
     show _=_;rw[HKX.out,Bool.eq_iff_iff,List.contains_iff_mem,Bool.or_eq_true,List.contains_iff_mem,beq_iff_eq,List.mem_append,List.mem_singleton];constructor
     ·rintro (h|h)
      ·exact .inl h
      ·exact .inr h.symm
     ·rintro (h|h)
      ·exact .inl h
      ·exact .inr h.symm
    clear HBB HA HHAS HKX;generalize (ziW ps k).contains [42]=D at *;go_wp2_with fail;refine (HS.out _).mono ?_;rintro e w2 ⟨rfl,hk2⟩;have HK2:=Hd (HKR.out.trans hk2);clear hk2 HKR d0 d1 HS hg;go_wp2_with fail;have hk1:(k:Int)<=(ps.length:Int):=(by omega);obtain ⟨wo,rfl⟩:∃ wo:World,wo=w2:=⟨_,rfl⟩;go_loopw [5] (fun i wr=>∃ m:Nat,m<=k/\i=.int .i64 m/\Hid (∀ j (hj:j<ps.length),j<m->ps[j].1≠x)/\Hid (Kept w wr)) (fun i _=>k - (intOf i).toNat)
    case atStart=>exact ⟨0,Nat.zero_le _,rfl,fun j hj h=>by omega,HK2.out⟩
    case round =>
     clear HK2;obtain ⟨m,hm,rfl,HM,HKR⟩:=hrel;obtain ⟨g1,o1,ha,hg1,e0,e1,-,-⟩:=(HV.out.kept HKR.out).cell_of k _ HX.out;obtain ⟨rfl,rfl⟩:g=g1/\o=o1:=(by cases ha;exact ⟨rfl,rfl⟩);simp only at e0 e1;clear ha;by_cases hlt2:m<k
     ·have hml:m<ps.length:=(by omega);have hy:=List.getElem?_eq_getElem hml;obtain ⟨g1,o1,ha,-,q0,-,-,-⟩:=(HV.out.kept HKR.out).cell_of m _ hy;obtain ⟨rfl,rfl⟩:g=g1/\o=o1:=(by cases ha;exact ⟨rfl,rfl⟩);have HMX:Hid (ps[m].1≠x->∀ j (hj:j<ps.length),j<m+1->ps[j].1≠x):=by
       intro h j hj hjk;rcases Nat.lt_or_ge j m with q|q
       ·exact HM.out j hj q
       ·obtain rfl:j=m:=(by omega);exact h
      have HYM:Hid (ps[m].1=x->R=7):=fun e=>HYS.out ⟨m,hml,hlt2,e⟩;clear ha hy HM;generalize ps[m].1=z at *;cases hzx:(z == x) with
      | true =>
       have HR:=Hd (HYM.out (beq_iff_eq.1 hzx));go_wp2_with fail
       go_quiet (fail)
       all_goals
        have HKZ:=Hd (HKR.out.trans (zaB wr nq));go_wp2_with fail;go_ret;exact ⟨zaK HR.out.symm,HKZ.out⟩
      | false =>
       have HNO:=Hd (HMX.out (beq_eq_false_iff_ne.1 hzx));go_wp2_with fail
       go_quiet (fail)
       all_goals
        have HKZ:=Hd (HKR.out.trans (zaB wr nq));go_wp2_with fail;go_roundw
        case rel=>exact ⟨m+1,by omega,by go_num,HNO.out,HKZ.out⟩
        case measure=>simp [intOf];omega
     ·obtain rfl:m=k:=(by omega);have HA:=Hd (HNS.out HM.out);clear HNS HYS HM;generalize zcW y=E at *;go_wp2_with fail;refine (HSP.out _).mono ?_;rintro e w4 ⟨rfl,hk4⟩;have HK4:=Hd (HKR.out.trans hk4);clear hk4 e0 e1;obtain ⟨g1,o1,ha,hg1,f0,f1,-,-⟩:=(HV.out.kept HK4.out).cell_of m _ HX.out;obtain ⟨rfl,rfl⟩:g=g1/\o=o1:=(by cases ha;exact ⟨rfl,rfl⟩);simp only at f0 f1;clear ha;by_cases h5:E=0
      case neg =>
       rw[if_pos h5] at HA;have h5':(E == 0)=false:=(by simpa using h5);clear h5;go_wp2_with fail;go_ret;exact ⟨zaK HA.out.symm,HK4.out⟩
      subst h5;rw[if_neg (by simp)] at HA;cases D with
      | true =>
       rw[Bool.true_or] at HST;go_wp2_with fail;go_roundw
       case rel=>exact ⟨m+1,by omega,by go_num,by rw[HST.out],HA.out,HK4.out⟩
       case measure=>simp [intOf];omega
      | false =>
       rw[Bool.false_or] at HST;obtain ⟨b42,h42⟩:∃ b,(x == [42])=b:=⟨_,rfl⟩;rw[h42] at HST;go_wp2_with fail;go_roundw
       case rel=>exact ⟨m+1,by omega,by go_num,by rw[HST.out],HA.out,HK4.out⟩
       case measure=>simp [intOf];omega
  ·obtain rfl:k=ps.length:=(by omega);rw[List.drop_of_length_le (Nat.le_refl _),zkQ] at HA;generalize (ziW ps ps.length).contains [42]=D at *;cases D with
   | true =>
    rw[if_pos rfl] at HA;go_wp2_with fail;go_ret;exact ⟨zaK HA.out.symm,HKR.out⟩
   | false =>
    rw[if_neg (by simp)] at HA;go_wp2_with fail;go_ret;exact ⟨zaK HA.out.symm,HKR.out⟩
theorem zrX (vE:Value) (y:StyT) (w:World) (hs:SmallY y) (hv:Prs w vE y.entries):Calls Tryz.prog 20 #[zdU vE y] w fun e w'=>e=.returned (.int .i64 (zdZ y))/\Kept w w':=by
 have HV:=Hd hv;have HSM:=Hd hs;obtain ⟨s1,s2,s3,s4,s5,s6,s7,s8,s9⟩:=hs;have H1:=Hd (fun w=>zs5 y.name w (by omega));have H2:=Hd (fun w=>zrV y.sort w s2);have H3:=Hd (fun w=>zrW vE y w HSM.out);have H4:=Hd (fun w=>zfV y.between w (by omega));have H5:=Hd (fun w=>zfV y.begin_ w (by omega));have H6:=Hd (fun w=>zfV y.end_ w (by omega));have H7:=Hd (fun w h'=>zs8 vE y.entries w h' (by omega) s9);have HE:Hid (zdZ y=if 128<y.entries.length then 3 else if za7 y.name 60 zcE=false then 6 else if zm2 y.sort≠0 then zm2 y.sort else if znL y≠0 then znL y else if lnB y.between=false\/lnB y.begin_=false\/lnB y.end_=false then 17 else if y.most<1\/32<y.most then 9 else zqU y.entries):=rfl;obtain ⟨aE,cE,rfl,lE⟩:=hv.form;generalize zdZ y=R at *;generalize za7 y.name 60 zcE=b1 at *;generalize zm2 y.sort=e2 at *;generalize znL y=e3 at *;generalize lnB y.between=b4 at *;generalize lnB y.begin_=b5 at *;generalize lnB y.end_=b6 at *;generalize zqU y.entries=e7 at *;clear hv s9;unfold zdU zaD at H3 ⊢;have HK0:=Hd (zaA w (.cells (zaD (.slice aE y.entries.length cE) y) 33));have HB0:=Hd (Blk.new w 33 (zaD (.slice aE y.entries.length cE) y));unfold zaD at HK0 HB0;by_cases h1:128<y.entries.length
 ·rw[if_pos h1] at HE;go_enter Tryz.func20,Tryz.ntmps20;go_wp2_with fail;go_ret;exact ⟨zaK HE.out.symm,HK0.out⟩
 rw[if_neg h1] at HE;go_enter Tryz.func20,Tryz.ntmps20;go_wp2_with fail;generalize w.alloc _=w0 at *;generalize w.heap.size=B at *;have HCC:Hid (∀ w',Kept w0 w'->Blk w' B 33 #[.string (bs y.name),.bool y.numeric,.string (bs y.sort),.string (bs y.cite),.string (bs y.bare),.string (bs y.between),.string (bs y.begin_),.string (bs y.end_),.int .i64 y.most,.slice aE y.entries.length cE]):=fun w' h=>HB0.out.kept h;refine (H1.out _).mono ?_;rintro e w1 ⟨rfl,hk⟩;have K1:=Hd hk;clear hk;cases b1 with
 | false =>
  rw[if_pos rfl] at HE;go_wp2_with fail;go_ret;exact ⟨zaK HE.out.symm,HK0.out.trans K1.out⟩
 | true =>
 rw[if_neg (by simp)] at HE;have t2:w1.cell? ⟨B,2,none⟩=some (.string (bs y.sort)):=(HCC.out _ K1.out).cell 2 _ rfl;have z1:=(HCC.out _ K1.out).lt;go_wp2_with fail;refine (H2.out _).mono ?_;rintro e w2 ⟨rfl,hk⟩;have K2:=Hd (K1.out.trans hk);clear hk t2 z1 K1;by_cases h2:e2=0
 case neg =>
  rw[if_pos h2] at HE;have h2':(e2 == 0)=false:=(by simpa using h2);go_wp2_with fail;go_ret;exact ⟨zaK HE.out.symm,HK0.out.trans K2.out⟩
 subst h2;rw[if_neg (by simp)] at HE;have t0:w2.cell? ⟨B,0,none⟩=some (.string (bs y.name)):=(HCC.out _ K2.out).cell 0 _ rfl;have t1:w2.cell? ⟨B,1,none⟩=some (.bool y.numeric):=(HCC.out _ K2.out).cell 1 _ rfl;have t2:w2.cell? ⟨B,2,none⟩=some (.string (bs y.sort)):=(HCC.out _ K2.out).cell 2 _ rfl;have t3:w2.cell? ⟨B,3,none⟩=some (.string (bs y.cite)):=(HCC.out _ K2.out).cell 3 _ rfl;have t4:w2.cell? ⟨B,4,none⟩=some (.string (bs y.bare)):=(HCC.out _ K2.out).cell 4 _ rfl;have t5:w2.cell? ⟨B,5,none⟩=some (.string (bs y.between)):=(HCC.out _ K2.out).cell 5 _ rfl;have t6:w2.cell? ⟨B,6,none⟩=some (.string (bs y.begin_)):=(HCC.out _ K2.out).cell 6 _ rfl;have t7:w2.cell? ⟨B,7,none⟩=some (.string (bs y.end_)):=(HCC.out _ K2.out).cell 7 _ rfl;have t8:w2.cell? ⟨B,8,none⟩=some (.int .i64 y.most):=(HCC.out _ K2.out).cell 8 _ rfl;have t9:w2.cell? ⟨B,9,none⟩=some (.slice aE y.entries.length cE):=(HCC.out _ K2.out).cell 9 _ rfl;have z1:=(HCC.out _ K2.out).lt;go_wp2_with fail;refine (H3.out _).mono ?_;rintro e w3 ⟨rfl,hk⟩;have K3:=Hd (K2.out.trans hk);clear hk t0 t1 t2 t3 t4 t5 t6 t7 t8 t9 z1 K2;by_cases h3:e3=0
 case neg =>
  rw[if_pos h3] at HE;have h3':(e3 == 0)=false:=(by simpa using h3);go_wp2_with fail;go_ret;exact ⟨zaK HE.out.symm,HK0.out.trans K3.out⟩
 subst h3;rw[if_neg (by simp)] at HE;have t5:w3.cell? ⟨B,5,none⟩=some (.string (bs y.between)):=(HCC.out _ K3.out).cell 5 _ rfl;have z1:=(HCC.out _ K3.out).lt;go_wp2_with fail;refine (H4.out _).mono ?_;rintro e w4 ⟨rfl,hk⟩;have K4:=Hd (K3.out.trans hk);clear hk t5 z1 K3;cases b4 with
 | false =>
  rw[if_pos (.inl rfl)] at HE;go_wp2_with fail;go_ret;exact ⟨zaK HE.out.symm,HK0.out.trans K4.out⟩
 | true =>
 have t6:w4.cell? ⟨B,6,none⟩=some (.string (bs y.begin_)):=(HCC.out _ K4.out).cell 6 _ rfl;have z1:=(HCC.out _ K4.out).lt;go_wp2_with fail;refine (H5.out _).mono ?_;rintro e w5 ⟨rfl,hk⟩;have K5:=Hd (K4.out.trans hk);clear hk t6 z1 K4;cases b5 with
 | false =>
  rw[if_pos (.inr (.inl rfl))] at HE;go_wp2_with fail;go_ret;exact ⟨zaK HE.out.symm,HK0.out.trans K5.out⟩
 | true =>
 have t7:w5.cell? ⟨B,7,none⟩=some (.string (bs y.end_)):=(HCC.out _ K5.out).cell 7 _ rfl;have z1:=(HCC.out _ K5.out).lt;go_wp2_with fail;refine (H6.out _).mono ?_;rintro e w6 ⟨rfl,hk⟩;have K6:=Hd (K5.out.trans hk);clear hk t7 z1 K5;cases b6 with
 | false =>
  rw[if_pos (.inr (.inr rfl))] at HE;go_wp2_with fail;go_ret;exact ⟨zaK HE.out.symm,HK0.out.trans K6.out⟩
 | true =>
 rw[if_neg (by simp)] at HE;have t8:w6.cell? ⟨B,8,none⟩=some (.int .i64 y.most):=(HCC.out _ K6.out).cell 8 _ rfl;have t9:w6.cell? ⟨B,9,none⟩=some (.slice aE y.entries.length cE):=(HCC.out _ K6.out).cell 9 _ rfl;have z1:=(HCC.out _ K6.out).lt;by_cases h8:y.most<1
 ·rw[if_pos (.inl h8)] at HE;go_wp2_with fail;go_ret;exact ⟨zaK HE.out.symm,HK0.out.trans K6.out⟩
 by_cases h9:32<y.most
 ·rw[if_pos (.inr h9)] at HE;go_wp2_with fail;go_ret;exact ⟨zaK HE.out.symm,HK0.out.trans K6.out⟩
 rw[if_neg (fun q=>q.elim h8 h9)] at HE;go_wp2_with fail;refine (H7.out _ (HV.out.kept (HK0.out.trans K6.out))).mono ?_;rintro e w7 ⟨rfl,hk⟩;have K7:=Hd (K6.out.trans hk);clear hk;go_wp2_with fail;go_ret;exact ⟨zaK HE.out.symm,HK0.out.trans K7.out⟩
theorem zAj {y:StyT} (h:zdZ y=0):zcW y.cite=0/\zf5 (zeK y.cite) (if y.numeric=true then zbD else zb9)=true:=by
 have hc:znL y=0:=by
  unfold zdZ at h
  split at h
  ·cases h
  ·split at h
   ·cases h
   ·split at h
    ·rename_i q;exact absurd h q
    ·split at h
     ·rename_i q;exact absurd h q
     ·rename_i q;exact Decidable.not_not.1 q
 unfold znL at hc
 split at hc
 ·rename_i q;exact absurd hc q
 ·rename_i q;refine ⟨Decidable.not_not.1 q,?_⟩;cases hfb:zf5 (zeK y.cite) (if y.numeric=true then zbD else zb9) with
  | true=>rfl
  | false=>rw[hfb,if_pos rfl] at hc;cases hc
def zE6 (val:Bs->Bs) (key:Bs) (ds:List Int) (p:Pc):Tok:=if ds.contains (p.grp:Int)=true then [] else if p.fld=true then (if p.txt=key then [none] else (val p.txt).map some) else p.txt.map some
theorem zAk (val val0:Bs->Bs) (key s:Bs) (ds:List Int) (h1:val key=s) (h2:∀ k,k≠key->val k=val0 k) (p:Pc):zeU s (zE6 val0 key ds p)=ziH val ds p:=by
 unfold zE6 ziH
 split
 ·rfl
 ·split
  ·split
   ·rename_i q;rw[zz6,q,h1]
   ·rename_i q;rw[zrP,h2 _ q]
  ·rw[zrP]
theorem zwG (ps:List Pc) (v1 v2:Bs->Bs) (h:∀ k,(v1 k == [])=(v2 k == [])):zcM ps v1=zcM ps v2:=by
 unfold zcM;congr 1;refine List.filter_congr fun p _=>?_;rw[h]
def zD0 (ps:List Pc) (val:Bs->Bs) (key:Bs):Tok:=ps.flatMap (zE6 val key (zcM ps val))
theorem zAl (ps:List Pc) (val val0:Bs->Bs) (key s:Bs) (hs:s≠[]) (h0:val0 key≠[]) (h1:val key=s) (h2:∀ k,k≠key->val k=val0 k):zsT ps val=zeU s (zD0 ps val0 key):=by
 have hd:zcM ps val=zcM ps val0:=zwG ps val val0 (fun k=>by
  by_cases q:k=key
  ·subst q;have a:(val k == [])=false:=(by rw[h1];simpa using hs);have b:(val0 k == [])=false:=(by simpa using h0);rw[a,b]
  ·rw[h2 k q])
 unfold zsT zD0;rw[zz5,hd];congr 1;funext p;exact (zAk val val0 key s _ h1 h2 p).symm
theorem zAm (ps:List Pc) (val:Bs->Bs) (key:Bs) (h0:val key≠[]) (h:zf5 ps key=true):none∈zD0 ps val key:=by
 unfold zf5 at h;rw[List.any_eq_true] at h;obtain ⟨p,hp,h1⟩:=h;rw[Bool.and_eq_true,Bool.and_eq_true,Bool.not_eq_true',beq_iff_eq] at h1;obtain ⟨hf,ht,ho⟩:=h1;have hd:(zcM ps val).contains (p.grp:Int)=false:=by
  rw[Bool.eq_false_iff];intro q;rw[List.contains_iff_mem] at q;unfold zcM at q;rw[List.mem_map] at q;obtain ⟨p2,hp2,e⟩:=q;rw[List.mem_filter] at hp2;obtain ⟨hm,hc⟩:=hp2;rw[Bool.and_eq_true,Bool.and_eq_true,beq_iff_eq] at hc;obtain ⟨c1,c2,c3⟩:=hc;rw[Bool.eq_false_iff] at ho;refine ho ?_;rw[List.contains_iff_mem];unfold zgX;rw[List.mem_map];refine ⟨p2,?_,e⟩;rw[List.mem_filter];refine ⟨hm,?_⟩;have:(p2.txt == key)=false:=by
   rw[beq_eq_false_iff_ne];intro q;rw[q] at c3;exact h0 c3
  rw[c1,this,c2];rfl
 unfold zD0;rw[List.mem_flatMap];refine ⟨p,hp,?_⟩;unfold zE6;rw[hd,if_neg (by simp),if_pos hf,if_pos ht];simp
theorem zpK (c:FilT) (s:Bs):zmM { c with suffix:=s } zb9=s:=by
 unfold zmM zfR;rfl
theorem zn4 (c:FilT) (s k:Bs) (h:k≠zb9):zmM { c with suffix:=s } k=zmM c k:=by
 have hk:(zb9 == k)=false:=(by rw[beq_eq_false_iff_ne];exact fun e=>h e.symm);unfold zmM zfR;simp only[List.find?_cons,hk];rfl
theorem zCk {y:StyT} (hy:zdZ y=0) (hn:y.numeric=false) (c:FilT) (s:Bs) (hs:s≠[]):zdD { c with suffix:=s } y.cite=zeU s (zD0 (zeK y.cite) (zmM { c with suffix:=[97] }) zb9) :=
 zAl _ _ _ _ s hs (by rw[zpK];simp) (zpK c s) (fun k hk=>by rw[zn4 c s k hk,zn4 c [97] k hk])
theorem zAn {y:StyT} (hy:zdZ y=0) (hn:y.numeric=false) (c:FilT):none∈zD0 (zeK y.cite) (zmM { c with suffix:=[97] }) zb9:=by
 have h:=(zAj hy).2;rw[hn] at h;exact zAm _ _ _ (by rw[zpK];simp) h
def zkX (s:SrcT) (y:StyT) (lang suf:Bs) (n:Int):FilT:=⟨s.key,s.type,s.author,s.editor,s.fields,lang,suf,n,y.most⟩
def zhG (s:SrcT) (y:StyT) (lang suf:Bs):Bs:=zdD (zkX s y lang suf 0) y.cite
def zn5 (y:StyT) (lang:Bs) (s:SrcT):CitX:=(zhG s y lang [],zD0 (zeK y.cite) (zmM (zkX s y lang [97] 0)) zb9)
theorem zC2 {y:StyT} (hy:zdZ y=0) (hn:y.numeric=false) (lang:Bs) (s:SrcT) (n:Nat):zhG s y lang (zcY n)=zeC (zn5 y lang s) n:=by
 unfold zeC
 split
 ·rename_i q;subst q;unfold zcY;rw[zc9];rfl
 ·rename_i q;exact zCk hy hn (zkX s y lang [] 0) (zcY n) (zDR (by omega))
theorem zmE {y:StyT} (hy:zdZ y=0) (hn:y.numeric=false) (lang:Bs) (s:SrcT):none∈(zn5 y lang s).2:=zAn hy hn (zkX s y lang [] 0)
def zmF (y:StyT) (lang:Bs) (l:List SrcT):Int × List Bs:=if zdZ y=0 then (0,if y.numeric=true then l.map fun _=>[] else (zCa (l.map (zn5 y lang))).map zcY) else (zdZ y,[])
theorem zEI {ps:List Bs} {done:List CitX} {st:SufS} (h:SufI ps done st) {x:CitX} (hx:none∈x.2):zo9 st.taken x st.taken.length (st.next (zjJ x))<=st.taken.length+1:=by
 obtain ⟨h1,h2,h3⟩:=h.old hx;have:=zpA hx (zo9 st.taken x st.taken.length (st.next (zjJ x)) - 1) st.taken 1 (by omega) (fun j hj=>h3 (1+j) (by omega) (by omega));omega
theorem zCl {ps:List Bs} {done:List CitX} {st:SufS} (h:SufI ps done st) (hl:done.length<=ps.length):st.taken.length<=2 * ps.length:=by
 have h1:=h.tl;have h2:=List.length_filter_le (zbE ps) ps;omega
end Go.Proofs.YtmcoomlkbgiboaaGreatDoor
