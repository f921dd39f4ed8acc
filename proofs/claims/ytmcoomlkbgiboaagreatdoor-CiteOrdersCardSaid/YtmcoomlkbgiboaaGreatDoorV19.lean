/- checkSort of style. Conditions: lengths. -/
import Derived.Test.YtmcoomlkbgiboaaGreatDoorV14
import Derived.Test.YtmcoomlkbgiboaaGreatDoorV02
import Derived.Test.YtmcoomlkbgiboaaGreatDoorV17
import Derived.Test.YtmcoomlkbgiboaaGreatDoorV18
import Derived.Test.YtmcoomlkbgiboaaGreatDoorV16
import Derived.Lib.ItoaNum
set_option linter.all false
set_option maxRecDepth 100000
set_option maxHeartbeats 6400000
namespace Go.Proofs.YtmcoomlkbgiboaaGreatDoor
open Go.RowKit
def zdX:Bs:=[97,117,116,104,111,114]
def zd9:Bs:=[121,101,97,114]
def zl2:Bs:=[116,105,116,108,101]
def zxN:Bs:=[107,101,121]
def zo5 (x:Bs):Bool:=x == zdX || (x == zd9 || (x == zl2 || x == zxN))
def zBU (ws:List Bs):Bool:=(List.range ws.length).any fun i=>(ws.take i).contains (ws.getD i [])
def znE (l:Bs):Int:=if l=[] then 0 else if (za1 32 l).all zo5=false then 13 else if zBU (za1 32 l)=true then 7 else 0
theorem zuQ {ws:List Bs} {i:Nat} (h:i<ws.length) (hc:(ws.take i).contains ws[i]=true):zBU ws=true:=by
 unfold zBU;refine List.any_eq_true.2 ⟨i,by simpa using h,?_⟩;rw[List.getD_eq_getElem?_getD,List.getElem?_eq_getElem h];exact hc
theorem zzH {ws:List Bs} (h:∀ i (hi:i<ws.length),(ws.take i).contains ws[i]=false):zBU ws=false:=by
 unfold zBU;rw[List.any_eq_false];intro i hi;have hi':i<ws.length:=(by simpa using hi);rw[List.getD_eq_getElem?_getD,List.getElem?_eq_getElem hi'];have:=h i hi';simp only[Option.getD_some];rw[this];simp
theorem zq4 {x:Bs} (h:zo5 x=false):(x == zdX)=false/\(x == zd9)=false/\(x == zl2)=false/\(x == zxN)=false:=by
 unfold zo5 at h;simp only[Bool.or_eq_false_iff] at h;exact ⟨h.1,h.2.1,h.2.2.1,h.2.2.2⟩
theorem zo6 {x:Bs} (h:zo5 x=true):x=zdX\/x=zd9\/x=zl2\/x=zxN:=by
 unfold zo5 at h;simpa using h
theorem znZ (w:World) (xs:List Bs):Strs (w.alloc (.cells (zaF xs).toArray 9)) (.slice (some ⟨w.heap.size,0,none⟩) xs.length xs.length) xs:=by
 refine ⟨_,_,rfl,Nat.le_refl _,fun _=>⟨w.heap.size,0,rfl,by simp,fun j x hx=>?_⟩⟩;have hb:=Blk.new w 9 (zaF xs).toArray;refine hb.cell (0+j) _ ?_;rw[Nat.zero_add,List.getElem?_toArray];unfold zaF;rw[List.getElem?_map,hx];rfl
theorem zzI (l:Bs) (w:World) (hg:Gnd w) (hl:l.length<=100000):Calls Tryz.prog 83 #[.string (bs l)] w fun e w'=>e=.returned (.int .i64 (znE l))/\Kept w w':=by
 by_cases h0:l=[]
 ·subst h0;go_enter Tryz.func83,Tryz.ntmps83;go_wp2_with fail;go_ret;exact ⟨rfl,Kept.refl _⟩
 have h0':(l == ([]:Bs))=false:=(by simpa using h0);have HE:Hid (znE l=if (za1 32 l).all zo5=false then 13 else if zBU (za1 32 l)=true then 7 else 0):=by
  show _=_;unfold znE;rw[if_neg h0]
 have HSP:=Hd (zp6 l 32 w hg (by omega));have hwl:(za1 32 l).length<=100001:=by
  rw[zcO];have:=List.count_le_length (a:=(32:UInt8)) (l:=l);omega
 clear hg;generalize znE l=R at *;generalize za1 32 l=ws at *;go_enter Tryz.func83,Tryz.ntmps83;go_wp2_with fail;refine HSP.out.mono ?_;rintro e w1 ⟨rfl,rfl⟩;have HK1:=Hd (zaA w (.cells (zaF ws).toArray 9));have HS1:=Hd (znZ w ws);generalize w.alloc (.cells (zaF ws).toArray 9)=w1 at *;generalize w.heap.size=B at *;clear HSP;go_wp2_with fail;go_loopw [16] (fun i wr=>∃ k:Nat,k<=ws.length/\i=.int .i64 k/\Hid (∀ j (hj:j<ws.length),j<k->zo5 ws[j]=true)/\Hid (Kept w1 wr)) (fun i _=>ws.length - (intOf i).toNat)
 case atStart=>exact ⟨0,Nat.zero_le _,rfl,fun j hj h=>by omega,Kept.refl _⟩
 case round =>
  obtain ⟨k,hk,rfl,HN,HKR⟩:=hrel;by_cases hlt:k<ws.length
  ·have hx:=List.getElem?_eq_getElem hlt;obtain ⟨g,o,he,hg,d0,-,-⟩:=(HS1.out.kept HKR.out).cell_of k _ hx;cases he;rw[Nat.zero_add] at d0;have HNX:Hid (zo5 ws[k]=true->∀ j (hj:j<ws.length),j<k+1->zo5 ws[j]=true):=by
    intro h j hj hjk;rcases Nat.lt_or_ge j k with q|q
    ·exact HN.out j hj q
    ·obtain rfl:j=k:=(by omega);exact h
   have HBAD:Hid (zo5 ws[k]=false->R=13):=by
    intro h;rw[HE.out,if_pos];exact List.all_eq_false.2 ⟨ws[k],List.getElem_mem hlt,by rw[h];simp⟩
   clear hx;generalize ws[k]=x at *;cases hs:zo5 x with
   | false =>
    have HR:=Hd (HBAD.out hs);obtain ⟨c1,c2,c3,c4⟩:=zq4 hs;clear hs;unfold zdX at c1;unfold zd9 at c2;unfold zl2 at c3;unfold zxN at c4;go_wp2_with fail;go_ret;exact ⟨zaG HR.out.symm,HK1.out.trans HKR.out⟩
   | true =>
    have HNO:=Hd (HNX.out hs);have hc:=zo6 hs;clear hs HBAD HNX HN;rcases hc with rfl|rfl|rfl|rfl
    all_goals
     (first|unfold zdX at d0|unfold zd9 at d0|unfold zl2 at d0|unfold zxN at d0)
     go_wp2_with fail;go_roundw
     case rel=>exact ⟨k+1,by omega,by go_num,HNO.out,HKR.out⟩
     case measure=>simp [intOf];omega
  ·obtain rfl:k=ws.length:=(by omega);have HE2:Hid (R=if zBU ws=true then 7 else 0):=by
    show _=_;rw[HE.out,if_neg];rw[Bool.not_eq_false];refine List.all_eq_true.2 (fun b hb=>?_);obtain ⟨j,hj,e⟩:=List.getElem_of_mem hb;rw[<- e];exact HN.out j hj hj
   have HD1:Hid (∀ i (hi:i<ws.length),(ws.take i).contains ws[i]=true->R=7):=fun i hi h=>(by rw[HE2.out,if_pos (zuQ hi h)]);have HD2:Hid ((∀ i (hi:i<ws.length),(ws.take i).contains ws[i]=false)->R=0):=fun h=>(by rw[HE2.out,zzH h];rfl);have HKS:=Hd HKR.out;clear HE HE2 HN HKR hlt;go_wp2_with fail;go_loopw [29] (fun i wr=>∃ k:Nat,k<=ws.length/\i=.int .i64 k/\Hid (∀ j (hj:j<ws.length),j<k->(ws.take j).contains ws[j]=false)/\Hid (Kept w1 wr)) (fun i _=>ws.length - (intOf i).toNat)
   case atStart=>exact ⟨0,Nat.zero_le _,rfl,fun j hj h=>by omega,HKS.out⟩
   case round =>
    clear HKS;obtain ⟨k,hk,rfl,HN,HKR⟩:=hrel;by_cases hlt:k<ws.length
    ·have hx:=List.getElem?_eq_getElem hlt;obtain ⟨g,o,he,hg,d0,-,-⟩:=(HS1.out.kept HKR.out).cell_of k _ hx;cases he;rw[Nat.zero_add] at d0;have HNX:Hid ((ws.take k).contains ws[k]=false->∀ j (hj:j<ws.length),j<k+1->(ws.take j).contains ws[j]=false):=by
      intro h j hj hjk;rcases Nat.lt_or_ge j k with q|q
      ·exact HN.out j hj q
      ·obtain rfl:j=k:=(by omega);exact h
     have HYES:=Hd (HD1.out k hlt);have HHIT:Hid (∀ i (hi:i<ws.length),i<k->ws[i]=ws[k]->(ws.take k).contains ws[k]=true):=fun i hi hik e=>by
      rw[List.contains_iff_mem,<- e];exact List.mem_take_iff_getElem.2 ⟨i,by omega,rfl⟩
     have HMISS:Hid ((∀ i (hi:i<ws.length),i<k->ws[i]≠ws[k])->(ws.take k).contains ws[k]=false):=fun h=>by
      rw[Bool.eq_false_iff];intro q;rw[List.contains_iff_mem] at q;obtain ⟨i,hi,e⟩:=List.mem_take_iff_getElem.1 q;exact h i (by omega) (by omega) e
     have hk1:(k:Int)<=(ws.length:Int):=(by omega);have HKS:=Hd HKR.out;clear hx HN HKR;generalize ws[k]=x at *;go_wp2_with fail;go_loopw [38] (fun i wr=>∃ m:Nat,m<=k/\i=.int .i64 m/\Hid (∀ j (hj:j<ws.length),j<m->ws[j]≠x)/\Hid (Kept w1 wr)) (fun i _=>k - (intOf i).toNat)
     case atStart=>exact ⟨0,Nat.zero_le _,rfl,fun j hj h=>by omega,HKS.out⟩
     case round =>
      clear HKS hg d0;obtain ⟨m,hm,rfl,HM,HKR⟩:=hrel;by_cases hlt2:m<k
      ·have hml:m<ws.length:=(by omega);have hy:=List.getElem?_eq_getElem hml;obtain ⟨g,o,he,hg,d0,-,-⟩:=(HS1.out.kept HKR.out).cell_of m _ hy;cases he;rw[Nat.zero_add] at d0;have HH:=Hd (HHIT.out m hml hlt2);have HMX:Hid (ws[m]≠x->∀ j (hj:j<ws.length),j<m+1->ws[j]≠x):=by
        intro h j hj hjk;rcases Nat.lt_or_ge j m with q|q
        ·exact HM.out j hj q
        ·obtain rfl:j=m:=(by omega);exact h
       clear hy HM;generalize ws[m]=y at *;by_cases hxy:y=x
       ·have HR:=Hd (HYES.out (HH.out hxy));subst hxy;go_wp2_with fail;go_ret;exact ⟨zaG HR.out.symm,HK1.out.trans HKR.out⟩
       ·have hxy':(y == x)=false:=(by simpa using hxy);have HNO:=Hd (HMX.out hxy);clear hxy;go_wp2_with fail;go_roundw
        case rel=>exact ⟨m+1,by omega,by go_num,HNO.out,HKR.out⟩
        case measure=>simp [intOf];omega
      ·obtain rfl:m=k:=(by omega);have HNO:=Hd (HNX.out (HMISS.out (fun i hi hik=>HM.out i hi hik)));clear HM;go_wp2_with fail;go_roundw
       case rel=>exact ⟨m+1,by omega,by go_num,HNO.out,HKR.out⟩
       case measure=>simp [intOf];omega
    ·obtain rfl:k=ws.length:=(by omega);have HR:=Hd (HD2.out (fun i hi=>HN.out i hi hi));go_wp2_with fail;go_ret;exact ⟨zaG HR.out.symm,HK1.out.trans HKR.out⟩
def zcE:Bs:=[48,49,50,51,52,53,54,55,56,57,45]
def zdY (y:StyT):Int :=
 if 128<y.entries.length then 3
 else if zbA y.name 60 zcE=false then 6
 else if znE y.sort≠0 then znE y.sort
 else if znY y≠0 then znY y
 else if lnB y.between=false\/lnB y.begin_=false\/lnB y.end_=false then 17
 else if y.most<1\/32<y.most then 9
 else zq3 y.entries
theorem zjK (vE:Value) (y:StyT) (w:World) (hg:Gnd w) (hs:SmallY y) (hv:Prs w vE y.entries):Calls Tryz.prog 34 #[zeJ vE y] w fun e w'=>e=.returned (.int .i64 (zdY y))/\Kept w w':=by
 have HG:=Hd hg;have HV:=Hd hv;have HSM:=Hd hs;obtain ⟨s1,s2,s3,s4,s5,s6,s7,s8,s9⟩:=hs;have H1:=Hd (fun w=>zjH y.name zcE 60 w (by omega));have H2:=Hd (fun w h=>zzI y.sort w h s2);have H3:=Hd (fun w h=>zzC vE y w h HSM.out);have H4:=Hd (fun w=>ziC y.between w (by omega));have H5:=Hd (fun w=>ziC y.begin_ w (by omega));have H6:=Hd (fun w=>ziC y.end_ w (by omega));have H7:=Hd (fun w h h'=>zzG vE y.entries w h h' (by omega) s9);have HE:Hid (zdY y=if 128<y.entries.length then 3 else if zbA y.name 60 zcE=false then 6 else if znE y.sort≠0 then znE y.sort else if znY y≠0 then znY y else if lnB y.between=false\/lnB y.begin_=false\/lnB y.end_=false then 17 else if y.most<1\/32<y.most then 9 else zq3 y.entries):=rfl;obtain ⟨aE,cE,rfl,lE⟩:=hv.form;generalize zdY y=R at *;generalize zbA y.name 60 zcE=b1 at *;generalize znE y.sort=e2 at *;generalize znY y=e3 at *;generalize lnB y.between=b4 at *;generalize lnB y.begin_=b5 at *;generalize lnB y.end_=b6 at *;generalize zq3 y.entries=e7 at *;clear hg hv s9;unfold zeJ zaE at H3 ⊢;have HK0:=Hd (zaA w (.cells (zaE (.slice aE y.entries.length cE) y) 33));have HB0:=Hd (Blk.new w 33 (zaE (.slice aE y.entries.length cE) y));unfold zaE at HK0 HB0;by_cases h1:128<y.entries.length
 ·rw[if_pos h1] at HE;go_enter Tryz.func34,Tryz.ntmps34;go_wp2_with fail;go_ret;exact ⟨zaG HE.out.symm,HK0.out⟩
 rw[if_neg h1] at HE;go_enter Tryz.func34,Tryz.ntmps34;go_wp2_with fail;generalize w.alloc _=w0 at *;generalize w.heap.size=B at *;have HCC:Hid (∀ w',Kept w0 w'->Blk w' B 33 #[.string (bs y.name),.bool y.numeric,.string (bs y.sort),.string (bs y.cite),.string (bs y.bare),.string (bs y.between),.string (bs y.begin_),.string (bs y.end_),.int .i64 y.most,.slice aE y.entries.length cE]):=fun w' h=>HB0.out.kept h;refine (H1.out _).mono ?_;rintro e w1 ⟨rfl,hk⟩;have K1:=Hd hk;clear hk;cases b1 with
 | false =>
  rw[if_pos rfl] at HE;go_wp2_with fail;go_ret;exact ⟨zaG HE.out.symm,HK0.out.trans K1.out⟩
 | true =>
 rw[if_neg (by simp)] at HE;have t2:w1.cell? ⟨B,2,none⟩=some (.string (bs y.sort)):=(HCC.out _ K1.out).cell 2 _ rfl;have z1:=(HCC.out _ K1.out).lt;go_wp2_with fail;refine (H2.out _ (HG.out.kept (HK0.out.trans K1.out))).mono ?_;rintro e w2 ⟨rfl,hk⟩;have K2:=Hd (K1.out.trans hk);clear hk t2 z1 K1;by_cases h2:e2=0
 case neg =>
  rw[if_pos h2] at HE;have h2':(e2 == 0)=false:=(by simpa using h2);go_wp2_with fail;go_ret;exact ⟨zaG HE.out.symm,HK0.out.trans K2.out⟩
 subst h2;rw[if_neg (by simp)] at HE;have t0:w2.cell? ⟨B,0,none⟩=some (.string (bs y.name)):=(HCC.out _ K2.out).cell 0 _ rfl;have t1:w2.cell? ⟨B,1,none⟩=some (.bool y.numeric):=(HCC.out _ K2.out).cell 1 _ rfl;have t2:w2.cell? ⟨B,2,none⟩=some (.string (bs y.sort)):=(HCC.out _ K2.out).cell 2 _ rfl;have t3:w2.cell? ⟨B,3,none⟩=some (.string (bs y.cite)):=(HCC.out _ K2.out).cell 3 _ rfl;have t4:w2.cell? ⟨B,4,none⟩=some (.string (bs y.bare)):=(HCC.out _ K2.out).cell 4 _ rfl;have t5:w2.cell? ⟨B,5,none⟩=some (.string (bs y.between)):=(HCC.out _ K2.out).cell 5 _ rfl;have t6:w2.cell? ⟨B,6,none⟩=some (.string (bs y.begin_)):=(HCC.out _ K2.out).cell 6 _ rfl;have t7:w2.cell? ⟨B,7,none⟩=some (.string (bs y.end_)):=(HCC.out _ K2.out).cell 7 _ rfl;have t8:w2.cell? ⟨B,8,none⟩=some (.int .i64 y.most):=(HCC.out _ K2.out).cell 8 _ rfl;have t9:w2.cell? ⟨B,9,none⟩=some (.slice aE y.entries.length cE):=(HCC.out _ K2.out).cell 9 _ rfl;have z1:=(HCC.out _ K2.out).lt;go_wp2_with fail;refine (H3.out _ (HG.out.kept (HK0.out.trans K2.out))).mono ?_;rintro e w3 ⟨rfl,hk⟩;have K3:=Hd (K2.out.trans hk);clear hk t0 t1 t2 t3 t4 t5 t6 t7 t8 t9 z1 K2;by_cases h3:e3=0
 case neg =>
  rw[if_pos h3] at HE;have h3':(e3 == 0)=false:=(by simpa using h3);go_wp2_with fail;go_ret;exact ⟨zaG HE.out.symm,HK0.out.trans K3.out⟩
 subst h3;rw[if_neg (by simp)] at HE;have t5:w3.cell? ⟨B,5,none⟩=some (.string (bs y.between)):=(HCC.out _ K3.out).cell 5 _ rfl;have z1:=(HCC.out _ K3.out).lt;go_wp2_with fail;refine (H4.out _).mono ?_;rintro e w4 ⟨rfl,hk⟩;have K4:=Hd (K3.out.trans hk);clear hk t5 z1 K3;cases b4 with
 | false =>
  rw[if_pos (.inl rfl)] at HE;go_wp2_with fail;go_ret;exact ⟨zaG HE.out.symm,HK0.out.trans K4.out⟩
 | true =>
 have t6:w4.cell? ⟨B,6,none⟩=some (.string (bs y.begin_)):=(HCC.out _ K4.out).cell 6 _ rfl;have z1:=(HCC.out _ K4.out).lt;go_wp2_with fail;refine (H5.out _).mono ?_;rintro e w5 ⟨rfl,hk⟩;have K5:=Hd (K4.out.trans hk);clear hk t6 z1 K4;cases b5 with
 | false =>
  rw[if_pos (.inr (.inl rfl))] at HE;go_wp2_with fail;go_ret;exact ⟨zaG HE.out.symm,HK0.out.trans K5.out⟩
 | true =>
 have t7:w5.cell? ⟨B,7,none⟩=some (.string (bs y.end_)):=(HCC.out _ K5.out).cell 7 _ rfl;have z1:=(HCC.out _ K5.out).lt;go_wp2_with fail;refine (H6.out _).mono ?_;rintro e w6 ⟨rfl,hk⟩;have K6:=Hd (K5.out.trans hk);clear hk t7 z1 K5;cases b6 with
 | false =>
  rw[if_pos (.inr (.inr rfl))] at HE;go_wp2_with fail;go_ret;exact ⟨zaG HE.out.symm,HK0.out.trans K6.out⟩
 | true =>
 rw[if_neg (by simp)] at HE;have t8:w6.cell? ⟨B,8,none⟩=some (.int .i64 y.most):=(HCC.out _ K6.out).cell 8 _ rfl;have t9:w6.cell? ⟨B,9,none⟩=some (.slice aE y.entries.length cE):=(HCC.out _ K6.out).cell 9 _ rfl;have z1:=(HCC.out _ K6.out).lt;by_cases h8:y.most<1
 ·rw[if_pos (.inl h8)] at HE;go_wp2_with fail;go_ret;exact ⟨zaG HE.out.symm,HK0.out.trans K6.out⟩
 by_cases h9:32<y.most
 ·rw[if_pos (.inr h9)] at HE;go_wp2_with fail;go_ret;exact ⟨zaG HE.out.symm,HK0.out.trans K6.out⟩
 rw[if_neg (fun q=>q.elim h8 h9)] at HE;go_wp2_with fail;refine (H7.out _ (HG.out.kept (HK0.out.trans K6.out)) (HV.out.kept (HK0.out.trans K6.out))).mono ?_;rintro e w7 ⟨rfl,hk⟩;have K7:=Hd (K6.out.trans hk);clear hk;go_wp2_with fail;go_ret;exact ⟨zaG HE.out.symm,HK0.out.trans K7.out⟩
def zl3:List Pr:=[([42],[123,97,117,116,104,111,114,115,125,32,40,123,121,101,97,114,125,123,115,117,102,102,105,120,125,41,46,32,123,116,105,116,108,101,125,46,91,32,123,112,117,98,108,105,115,104,101,114,125,46,93]),([97,114,116,105,99,108,101],[123,97,117,116,104,111,114,115,125,32,40,123,121,101,97,114,125,123,115,117,102,102,105,120,125,41,46,32,123,116,105,116,108,101,125,46,32,123,106,111,117,114,110,97,108,125,91,32,123,118,111,108,117,109,101,125,93,91,44,32,123,112,97,103,101,115,125,93,46])]
def zdZ:StyT:=⟨[97,117,116,104,111,114,45,100,97,116,101],false,[97,117,116,104,111,114,32,121,101,97,114,32,116,105,116,108,101,32,107,101,121],[123,97,117,116,104,111,114,125,32,123,121,101,97,114,125,123,115,117,102,102,105,120,125],[123,121,101,97,114,125,123,115,117,102,102,105,120,125],[59,32],[40],[41],2,zl3⟩
def ztA:List Pr:=[([42],[123,110,117,109,98,101,114,125,46,32,123,97,117,116,104,111,114,115,125,46,32,123,116,105,116,108,101,125,91,44,32,123,121,101,97,114,125,93,46]),([97,114,116,105,99,108,101],[123,110,117,109,98,101,114,125,46,32,123,97,117,116,104,111,114,115,125,46,32,123,116,105,116,108,101,125,46,32,123,106,111,117,114,110,97,108,125,91,32,123,118,111,108,117,109,101,125,93,91,44,32,123,121,101,97,114,125,93,91,44,32,123,112,97,103,101,115,125,93,46])]
def zkL:StyT:=⟨[110,117,109,101,114,105,99],true,[],[123,110,117,109,98,101,114,125],[123,110,117,109,98,101,114,125],[44,32],[91],[93],3,ztA⟩
def zq5:StyT:=⟨[],false,[],[],[],[],[],[],0,[]⟩
def zzJ (n:Bs):Option StyT:=if n=zdZ.name then some zdZ else if n=zkL.name then some zkL else none
def StyP (o:Option StyT) (w:World) (e:Ending) (w':World):Prop:=∃ vE,e=.returned (.tuple #[zeJ vE (o.getD zq5),.bool o.isSome])/\Prs w' vE (o.getD zq5).entries/\Kept w w'
theorem ztB (w:World) (p q:Pr):Prs (w.alloc (.cells #[.string (bs p.1),.string (bs p.2),.string (bs q.1),.string (bs q.2)] 62)) (.slice (some ⟨w.heap.size,0,none⟩) 2 2) [p,q]:=by
 refine ⟨_,_,rfl,Nat.le_refl _,fun _=>⟨w.heap.size,0,rfl,by simp,fun j x hx=>?_⟩⟩;have hb:=Blk.new w 62 #[.string (bs p.1),.string (bs p.2),.string (bs q.1),.string (bs q.2)]
 match j with
 | 0=>cases hx;exact ⟨hb.cell 0 _ rfl,hb.cell 1 _ rfl⟩
 | 1=>cases hx;exact ⟨hb.cell 2 _ rfl,hb.cell 3 _ rfl⟩
 | j+2=>simp at hx
theorem zkC (n:Bs) (w:World):Calls Tryz.prog 28 #[.string (bs n)] w (StyP (zzJ n) w):=by
 by_cases h1:n=zdZ.name
 ·have e:zzJ n=some zdZ:=(by unfold zzJ;rw[if_pos h1]);rw[e];subst h1;clear e;unfold StyP;show Calls _ _ #[.string (bs [97,117,116,104,111,114,45,100,97,116,101])] _ _;go_enter Tryz.func28,Tryz.ntmps28;go_wp2_with fail;refine bodyPost_ret (v:=.tuple #[zeJ (.slice (some ⟨w.heap.size+1,0,none⟩) 2 2) zdZ,.bool true]) ?_ rfl ⟨_,rfl,?_,(zaA _ _).trans (zaA _ _)⟩
  ·unfold zeJ zaE zdZ;simp [results,Tryz.results28,go_sem]
  ·have h:=ztB (w.alloc (.cells (zaE (.slice (some ⟨w.heap.size+1,0,none⟩) 2 2) zdZ) 33)) (zl3.getD 0 ([],[])) (zl3.getD 1 ([],[]));have e:(w.alloc (.cells (zaE (.slice (some ⟨w.heap.size+1,0,none⟩) 2 2) zdZ) 33)).heap.size=w.heap.size+1:=(by simp);rw[e] at h;exact h
 by_cases h2:n=zkL.name
 ·have e:zzJ n=some zkL:=(by unfold zzJ;rw[if_neg h1,if_pos h2]);rw[e];subst h2;clear e h1;unfold StyP;show Calls _ _ #[.string (bs [110,117,109,101,114,105,99])] _ _;go_enter Tryz.func28,Tryz.ntmps28;go_wp2_with fail;refine bodyPost_ret (v:=.tuple #[zeJ (.slice (some ⟨w.heap.size+1,0,none⟩) 2 2) zkL,.bool true]) ?_ rfl ⟨_,rfl,?_,(zaA _ _).trans (zaA _ _)⟩
  ·unfold zeJ zaE zkL;simp [results,Tryz.results28,go_sem]
  ·have h:=ztB (w.alloc (.cells (zaE (.slice (some ⟨w.heap.size+1,0,none⟩) 2 2) zkL) 33)) (ztA.getD 0 ([],[])) (ztA.getD 1 ([],[]));have e:(w.alloc (.cells (zaE (.slice (some ⟨w.heap.size+1,0,none⟩) 2 2) zkL) 33)).heap.size=w.heap.size+1:=(by simp);rw[e] at h;exact h
 have e:zzJ n=none:=(by unfold zzJ;rw[if_neg h1,if_neg h2]);rw[e];have g1:(n == ([97,117,116,104,111,114,45,100,97,116,101]:Bs))=false:=beq_eq_false_iff_ne.2 h1;have g2:(n == ([110,117,109,101,114,105,99]:Bs))=false:=beq_eq_false_iff_ne.2 h2;clear e h1 h2;unfold StyP;go_enter Tryz.func28,Tryz.ntmps28;go_wp2_with fail;refine bodyPost_ret (v:=.tuple #[zeJ (.slice none 0 0) zq5,.bool false]) ?_ rfl ⟨_,rfl,⟨none,0,rfl,Nat.le_refl _,fun q=>absurd q (by simp [zq5])⟩,zaA _ _⟩;unfold zeJ zaE zq5;simp [results,Tryz.results28,go_sem]
theorem zo7 (n:Nat) (h:¬ n<10):Lib.decDigits n=Lib.decDigits (n / 10) ++ [UInt8.ofNat (48+n % 10)]:=by
 rw[Lib.decDigits,dif_neg h]
end Go.Proofs.YtmcoomlkbgiboaaGreatDoor
