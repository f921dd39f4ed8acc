/- checkSort of style. Conditions: lengths. -/
import Derived.Test.YtmcoomlkbgiboaaGreatDoorU14
import Derived.Test.YtmcoomlkbgiboaaGreatDoorU02
import Derived.Test.YtmcoomlkbgiboaaGreatDoorU17
import Derived.Test.YtmcoomlkbgiboaaGreatDoorU18
import Derived.Test.YtmcoomlkbgiboaaGreatDoorU16
import Derived.Lib.ItoaNum
set_option linter.all false
set_option maxRecDepth 100000
set_option maxHeartbeats 6400000
namespace Go.Proofs.YtmcoomlkbgiboaaGreatDoor
open Go.RowKit
def zdH:Bs:=[97,117,116,104,111,114]
def zdY:Bs:=[121,101,97,114]
def zlQ:Bs:=[116,105,116,108,101]
def zvN:Bs:=[107,101,121]
def zoR (x:Bs):Bool:=x == zdH || (x == zdY || (x == zlQ || x == zvN))
def zBl (ws:List Bs):Bool:=(List.range ws.length).any fun i=>(ws.take i).contains (ws.getD i [])
def zm2 (l:Bs):Int:=if l=[] then 0 else if (za4 32 l).all zoR=false then 13 else if zBl (za4 32 l)=true then 7 else 0
theorem ztY {ws:List Bs} {i:Nat} (h:i<ws.length) (hc:(ws.take i).contains ws[i]=true):zBl ws=true:=by
 unfold zBl;refine List.any_eq_true.2 ⟨i,by simpa using h,?_⟩;rw[List.getD_eq_getElem?_getD,List.getElem?_eq_getElem h];exact hc
theorem zyQ {ws:List Bs} (h:∀ i (hi:i<ws.length),(ws.take i).contains ws[i]=false):zBl ws=false:=by
 unfold zBl;rw[List.any_eq_false];intro i hi;have hi':i<ws.length:=(by simpa using hi);rw[List.getD_eq_getElem?_getD,List.getElem?_eq_getElem hi'];have:=h i hi';simp only[Option.getD_some];rw[this];simp
theorem zqV {x:Bs} (h:zoR x=false):(x == zdH)=false/\(x == zdY)=false/\(x == zlQ)=false/\(x == zvN)=false:=by
 unfold zoR at h;simp only[Bool.or_eq_false_iff] at h;exact ⟨h.1,h.2.1,h.2.2.1,h.2.2.2⟩
theorem zoS {x:Bs} (h:zoR x=true):x=zdH\/x=zdY\/x=zlQ\/x=zvN:=by
 unfold zoR at h;simpa using h
theorem znM (w:World) (xs:List Bs):Strs (w.alloc (.cells (zaH xs).toArray 9)) (.slice (some ⟨w.heap.size,0,none⟩) xs.length xs.length) xs:=by
 refine ⟨_,_,rfl,Nat.le_refl _,fun _=>⟨w.heap.size,0,rfl,by simp,fun j x hx=>?_⟩⟩;have hb:=Blk.new w 9 (zaH xs).toArray;refine hb.cell (0+j) _ ?_;rw[Nat.zero_add,List.getElem?_toArray];unfold zaH;rw[List.getElem?_map,hx];rfl
theorem zyR (l:Bs) (w:World) (hg:Gnd w) (hl:l.length<=100000):Calls Tryz.prog 83 #[.string (bs l)] w fun e w'=>e=.returned (.int .i64 (zm2 l))/\Kept w w':=by
 by_cases h0:l=[]
 ·subst h0;go_enter Tryz.func83,Tryz.ntmps83;go_wp2_with fail;go_ret;exact ⟨rfl,Kept.refl _⟩
 have h0':(l == ([]:Bs))=false:=(by simpa using h0);have HE:Hid (zm2 l=if (za4 32 l).all zoR=false then 13 else if zBl (za4 32 l)=true then 7 else 0):=by
  show _=_;unfold zm2;rw[if_neg h0]
 have HSP:=Hd (zpX l 32 w hg (by omega));have hwl:(za4 32 l).length<=100001:=by
  rw[zc5];have:=List.count_le_length (a:=(32:UInt8)) (l:=l);omega
 clear hg;generalize zm2 l=R at *;generalize za4 32 l=ws at *;go_enter Tryz.func83,Tryz.ntmps83;go_wp2_with fail;refine HSP.out.mono ?_;rintro e w1 ⟨rfl,rfl⟩;have HK1:=Hd (zaA w (.cells (zaH ws).toArray 9));have HS1:=Hd (znM w ws);generalize w.alloc (.cells (zaH ws).toArray 9)=w1 at *;generalize w.heap.size=B at *;clear HSP;go_wp2_with fail;go_loopw [16] (fun i wr=>∃ k:Nat,k<=ws.length/\i=.int .i64 k/\Hid (∀ j (hj:j<ws.length),j<k->zoR ws[j]=true)/\Hid (Kept w1 wr)) (fun i _=>ws.length - (intOf i).toNat)
 case atStart=>exact ⟨0,Nat.zero_le _,rfl,fun j hj h=>by omega,Kept.refl _⟩
 case round =>
  obtain ⟨k,hk,rfl,HN,HKR⟩:=hrel;by_cases hlt:k<ws.length
  ·have hx:=List.getElem?_eq_getElem hlt;obtain ⟨g,o,he,hg,d0,-,-⟩:=(HS1.out.kept HKR.out).cell_of k _ hx;cases he;rw[Nat.zero_add] at d0;have HNX:Hid (zoR ws[k]=true->∀ j (hj:j<ws.length),j<k+1->zoR ws[j]=true):=by
    intro h j hj hjk;rcases Nat.lt_or_ge j k with q|q
    ·exact HN.out j hj q
    ·obtain rfl:j=k:=(by omega);exact h
   have HBAD:Hid (zoR ws[k]=false->R=13):=by
    intro h;rw[HE.out,if_pos];exact List.all_eq_false.2 ⟨ws[k],List.getElem_mem hlt,by rw[h];simp⟩
   clear hx;generalize ws[k]=x at *;cases hs:zoR x with
   | false =>
    have HR:=Hd (HBAD.out hs);obtain ⟨c1,c2,c3,c4⟩:=zqV hs;clear hs;unfold zdH at c1;unfold zdY at c2;unfold zlQ at c3;unfold zvN at c4;go_wp2_with fail;go_ret;exact ⟨zaK HR.out.symm,HK1.out.trans HKR.out⟩
   | true =>
    have HNO:=Hd (HNX.out hs);have hc:=zoS hs;clear hs HBAD HNX HN;rcases hc with rfl|rfl|rfl|rfl
    all_goals
     (first|unfold zdH at d0|unfold zdY at d0|unfold zlQ at d0|unfold zvN at d0)
     go_wp2_with fail;go_roundw
     case rel=>exact ⟨k+1,by omega,by go_num,HNO.out,HKR.out⟩
     case measure=>simp [intOf];omega
  ·obtain rfl:k=ws.length:=(by omega);have HE2:Hid (R=if zBl ws=true then 7 else 0):=by
    show _=_;rw[HE.out,if_neg];rw[Bool.not_eq_false];refine List.all_eq_true.2 (fun b hb=>?_);obtain ⟨j,hj,e⟩:=List.getElem_of_mem hb;rw[<- e];exact HN.out j hj hj
   have HD1:Hid (∀ i (hi:i<ws.length),(ws.take i).contains ws[i]=true->R=7):=fun i hi h=>(by rw[HE2.out,if_pos (ztY hi h)]);have HD2:Hid ((∀ i (hi:i<ws.length),(ws.take i).contains ws[i]=false)->R=0):=fun h=>(by rw[HE2.out,zyQ h];rfl);have HKS:=Hd HKR.out;clear HE HE2 HN HKR hlt;go_wp2_with fail;go_loopw [29] (fun i wr=>∃ k:Nat,k<=ws.length/\i=.int .i64 k/\Hid (∀ j (hj:j<ws.length),j<k->(ws.take j).contains ws[j]=false)/\Hid (Kept w1 wr)) (fun i _=>ws.length - (intOf i).toNat)
   case atStart=>exact ⟨0,Nat.zero_le _,rfl,fun j hj h=>by omega,HKS.out⟩
   case round =>
    clear HKS;obtain ⟨k,hk,rfl,HN,HKR⟩:=hrel;by_cases hlt:k<ws.length
    ·have hx:=List.getElem?_eq_getElem hlt;obtain ⟨g,o,he,hg,d0,-,-⟩:=(HS1.out.kept HKR.out).cell_of k _ hx;cases he;rw[Nat.zero_add] at d0;have HNX:Hid ((ws.take k).contains ws[k]=false->∀ j (hj:j<ws.length),j<k+1->(ws.take j).contains ws[j]=false):=by
      intro h j hj hjk;rcases Nat.lt_or_ge j k with q|q
      ·exact HN.out j hj q
      ·obtain rfl:j=k:=(by omega);exact h
     have HYES:=Hd (HD1.out k hlt);have HHIT:Hid (∀ i (hi:i<ws.length),i<k->ws[i]=ws[k]->(ws.take k).contains ws[k]=true):=fun i hi hik e=>by
      rw[List.contains_iff_mem,<- e];exact List.mem_take_iff_getElem.2 ⟨i,by omega,rfl⟩
     have HMISS:Hid ((∀ i (hi:i<ws.length),i<k->ws[i]≠ws[k])->(ws.take k).contains ws[k]=false):=fun h=>by
      rw[Bool.eq_false_iff];intro q;rw[List.contains_iff_mem] at q;obtain ⟨i,hi,e⟩:=List.mem_take_iff_getElem.1 q;exact h i (by omega) (by omega) e
     have hk1:(k:Int)<=(ws.length:Int):=(by omega);have HKS:=Hd HKR.out;clear hx HN HKR;generalize ws[k]=x at *;go_wp2_with fail;go_loopw [38] (fun i wr=>∃ m:Nat,m<=k/\i=.int .i64 m/\Hid (∀ j (hj:j<ws.length),j<m->ws[j]≠x)/\Hid (Kept w1 wr)) (fun i _=>k - (intOf i).toNat)
     case atStart=>exact ⟨0,Nat.zero_le _,rfl,fun j hj h=>by omega,HKS.out⟩
     case round =>
      clear HKS hg d0;obtain ⟨m,hm,rfl,HM,HKR⟩:=hrel;by_cases hlt2:m<k
      ·have hml:m<ws.length:=(by omega);have hy:=List.getElem?_eq_getElem hml;obtain ⟨g,o,he,hg,d0,-,-⟩:=(HS1.out.kept HKR.out).cell_of m _ hy;cases he;rw[Nat.zero_add] at d0;have HH:=Hd (HHIT.out m hml hlt2);have HMX:Hid (ws[m]≠x->∀ j (hj:j<ws.length),j<m+1->ws[j]≠x):=by
        intro h j hj hjk;rcases Nat.lt_or_ge j m with q|q
        ·exact HM.out j hj q
        ·obtain rfl:j=m:=(by omega);exact h
       clear hy HM;generalize ws[m]=y at *;by_cases hxy:y=x
       ·have HR:=Hd (HYES.out (HH.out hxy));subst hxy;go_wp2_with fail;go_ret;exact ⟨zaK HR.out.symm,HK1.out.trans HKR.out⟩
       ·have hxy':(y == x)=false:=(by simpa using hxy);have HNO:=Hd (HMX.out hxy);clear hxy;go_wp2_with fail;go_roundw
        case rel=>exact ⟨m+1,by omega,by go_num,HNO.out,HKR.out⟩
        case measure=>simp [intOf];omega
      ·obtain rfl:m=k:=(by omega);have HNO:=Hd (HNX.out (HMISS.out (fun i hi hik=>HM.out i hi hik)));clear HM;go_wp2_with fail;go_roundw
       case rel=>exact ⟨m+1,by omega,by go_num,HNO.out,HKR.out⟩
       case measure=>simp [intOf];omega
    ·obtain rfl:k=ws.length:=(by omega);have HR:=Hd (HD2.out (fun i hi=>HN.out i hi hi));go_wp2_with fail;go_ret;exact ⟨zaK HR.out.symm,HK1.out.trans HKR.out⟩
def zcE:Bs:=[48,49,50,51,52,53,54,55,56,57,45]
def zdZ (y:StyT):Int :=
 if 128<y.entries.length then 3
 else if za7 y.name 60 zcE=false then 6
 else if zm2 y.sort≠0 then zm2 y.sort
 else if znL y≠0 then znL y
 else if lnB y.between=false\/lnB y.begin_=false\/lnB y.end_=false then 17
 else if y.most<1\/32<y.most then 9
 else zqU y.entries
theorem zjA (vE:Value) (y:StyT) (w:World) (hg:Gnd w) (hs:SmallY y) (hv:Prs w vE y.entries):Calls Tryz.prog 34 #[zdU vE y] w fun e w'=>e=.returned (.int .i64 (zdZ y))/\Kept w w':=by
 have HG:=Hd hg;have HV:=Hd hv;have HSM:=Hd hs;obtain ⟨s1,s2,s3,s4,s5,s6,s7,s8,s9⟩:=hs;have H1:=Hd (fun w=>zi8 y.name zcE 60 w (by omega));have H2:=Hd (fun w h=>zyR y.sort w h s2);have H3:=Hd (fun w h=>zyL vE y w h HSM.out);have H4:=Hd (fun w=>zh9 y.between w (by omega));have H5:=Hd (fun w=>zh9 y.begin_ w (by omega));have H6:=Hd (fun w=>zh9 y.end_ w (by omega));have H7:=Hd (fun w h h'=>zyP vE y.entries w h h' (by omega) s9);have HE:Hid (zdZ y=if 128<y.entries.length then 3 else if za7 y.name 60 zcE=false then 6 else if zm2 y.sort≠0 then zm2 y.sort else if znL y≠0 then znL y else if lnB y.between=false\/lnB y.begin_=false\/lnB y.end_=false then 17 else if y.most<1\/32<y.most then 9 else zqU y.entries):=rfl;obtain ⟨aE,cE,rfl,lE⟩:=hv.form;generalize zdZ y=R at *;generalize za7 y.name 60 zcE=b1 at *;generalize zm2 y.sort=e2 at *;generalize znL y=e3 at *;generalize lnB y.between=b4 at *;generalize lnB y.begin_=b5 at *;generalize lnB y.end_=b6 at *;generalize zqU y.entries=e7 at *;clear hg hv s9;unfold zdU zaD at H3 ⊢;have HK0:=Hd (zaA w (.cells (zaD (.slice aE y.entries.length cE) y) 33));have HB0:=Hd (Blk.new w 33 (zaD (.slice aE y.entries.length cE) y));unfold zaD at HK0 HB0;by_cases h1:128<y.entries.length
 ·rw[if_pos h1] at HE;go_enter Tryz.func34,Tryz.ntmps34;go_wp2_with fail;go_ret;exact ⟨zaK HE.out.symm,HK0.out⟩
 rw[if_neg h1] at HE;go_enter Tryz.func34,Tryz.ntmps34;go_wp2_with fail;generalize w.alloc _=w0 at *;generalize w.heap.size=B at *;have HCC:Hid (∀ w',Kept w0 w'->Blk w' B 33 #[.string (bs y.name),.bool y.numeric,.string (bs y.sort),.string (bs y.cite),.string (bs y.bare),.string (bs y.between),.string (bs y.begin_),.string (bs y.end_),.int .i64 y.most,.slice aE y.entries.length cE]):=fun w' h=>HB0.out.kept h;refine (H1.out _).mono ?_;rintro e w1 ⟨rfl,hk⟩;have K1:=Hd hk;clear hk;cases b1 with
 | false =>
  rw[if_pos rfl] at HE;go_wp2_with fail;go_ret;exact ⟨zaK HE.out.symm,HK0.out.trans K1.out⟩
 | true =>
 rw[if_neg (by simp)] at HE;have t2:w1.cell? ⟨B,2,none⟩=some (.string (bs y.sort)):=(HCC.out _ K1.out).cell 2 _ rfl;have z1:=(HCC.out _ K1.out).lt;go_wp2_with fail;refine (H2.out _ (HG.out.kept (HK0.out.trans K1.out))).mono ?_;rintro e w2 ⟨rfl,hk⟩;have K2:=Hd (K1.out.trans hk);clear hk t2 z1 K1;by_cases h2:e2=0
 case neg =>
  rw[if_pos h2] at HE;have h2':(e2 == 0)=false:=(by simpa using h2);go_wp2_with fail;go_ret;exact ⟨zaK HE.out.symm,HK0.out.trans K2.out⟩
 subst h2;rw[if_neg (by simp)] at HE;have t0:w2.cell? ⟨B,0,none⟩=some (.string (bs y.name)):=(HCC.out _ K2.out).cell 0 _ rfl;have t1:w2.cell? ⟨B,1,none⟩=some (.bool y.numeric):=(HCC.out _ K2.out).cell 1 _ rfl;have t2:w2.cell? ⟨B,2,none⟩=some (.string (bs y.sort)):=(HCC.out _ K2.out).cell 2 _ rfl;have t3:w2.cell? ⟨B,3,none⟩=some (.string (bs y.cite)):=(HCC.out _ K2.out).cell 3 _ rfl;have t4:w2.cell? ⟨B,4,none⟩=some (.string (bs y.bare)):=(HCC.out _ K2.out).cell 4 _ rfl;have t5:w2.cell? ⟨B,5,none⟩=some (.string (bs y.between)):=(HCC.out _ K2.out).cell 5 _ rfl;have t6:w2.cell? ⟨B,6,none⟩=some (.string (bs y.begin_)):=(HCC.out _ K2.out).cell 6 _ rfl;have t7:w2.cell? ⟨B,7,none⟩=some (.string (bs y.end_)):=(HCC.out _ K2.out).cell 7 _ rfl;have t8:w2.cell? ⟨B,8,none⟩=some (.int .i64 y.most):=(HCC.out _ K2.out).cell 8 _ rfl;have t9:w2.cell? ⟨B,9,none⟩=some (.slice aE y.entries.length cE):=(HCC.out _ K2.out).cell 9 _ rfl;have z1:=(HCC.out _ K2.out).lt;go_wp2_with fail;refine (H3.out _ (HG.out.kept (HK0.out.trans K2.out))).mono ?_;rintro e w3 ⟨rfl,hk⟩;have K3:=Hd (K2.out.trans hk);clear hk t0 t1 t2 t3 t4 t5 t6 t7 t8 t9 z1 K2;by_cases h3:e3=0
 case neg =>
  rw[if_pos h3] at HE;have h3':(e3 == 0)=false:=(by simpa using h3);go_wp2_with fail;go_ret;exact ⟨zaK HE.out.symm,HK0.out.trans K3.out⟩
 subst h3;rw[if_neg (by simp)] at HE;have t5:w3.cell? ⟨B,5,none⟩=some (.string (bs y.between)):=(HCC.out _ K3.out).cell 5 _ rfl;have z1:=(HCC.out _ K3.out).lt;go_wp2_with fail;refine (H4.out _).mono ?_;rintro e w4 ⟨rfl,hk⟩;have K4:=Hd (K3.out.trans hk);clear hk t5 z1 K3;cases b4 with
 | false =>
  rw[if_pos (.inl rfl)] at HE;go_wp2_with fail;go_ret;exact ⟨zaK HE.out.symm,HK0.out.trans K4.out⟩
 | true =>
 have t6:w4.cell? ⟨B,6,none⟩=some (.string (bs y.begin_)):=(HCC.out _ K4.out).cell 6 _ rfl;have z1:=(HCC.out _ K4.out).lt;go_wp2_with fail;refine (H5.out _).mono ?_;rintro e w5 ⟨rfl,hk⟩;have K5:=Hd (K4.out.trans hk);clear hk t6 z1 K4;cases b5 with
 | false =>
  rw[if_pos (.inr (.inl rfl))] at HE;go_wp2_with fail;go_ret;exact ⟨zaK HE.out.symm,HK0.out.trans K5.out⟩
 | true =>
 have t7:w5.cell? ⟨B,7,none⟩=some (.string (bs y.end_)):=(HCC.out _ K5.out).cell 7 _ rfl;have z1:=(HCC.out _ K5.out).lt;go_wp2_with fail;refine (H6.out _).mono ?_;rintro e w6 ⟨rfl,hk⟩;have K6:=Hd (K5.out.trans hk);clear hk t7 z1 K5;cases b6 with
 | false =>
  rw[if_pos (.inr (.inr rfl))] at HE;go_wp2_with fail;go_ret;exact ⟨zaK HE.out.symm,HK0.out.trans K6.out⟩
 | true =>
 rw[if_neg (by simp)] at HE;have t8:w6.cell? ⟨B,8,none⟩=some (.int .i64 y.most):=(HCC.out _ K6.out).cell 8 _ rfl;have t9:w6.cell? ⟨B,9,none⟩=some (.slice aE y.entries.length cE):=(HCC.out _ K6.out).cell 9 _ rfl;have z1:=(HCC.out _ K6.out).lt;by_cases h8:y.most<1
 ·rw[if_pos (.inl h8)] at HE;go_wp2_with fail;go_ret;exact ⟨zaK HE.out.symm,HK0.out.trans K6.out⟩
 by_cases h9:32<y.most
 ·rw[if_pos (.inr h9)] at HE;go_wp2_with fail;go_ret;exact ⟨zaK HE.out.symm,HK0.out.trans K6.out⟩
 rw[if_neg (fun q=>q.elim h8 h9)] at HE;go_wp2_with fail;refine (H7.out _ (HG.out.kept (HK0.out.trans K6.out)) (HV.out.kept (HK0.out.trans K6.out))).mono ?_;rintro e w7 ⟨rfl,hk⟩;have K7:=Hd (K6.out.trans hk);clear hk;go_wp2_with fail;go_ret;exact ⟨zaK HE.out.symm,HK0.out.trans K7.out⟩
def zlR:List Pr:=[([42],[123,97,117,116,104,111,114,115,125,32,40,123,121,101,97,114,125,123,115,117,102,102,105,120,125,41,46,32,123,116,105,116,108,101,125,46,91,32,123,112,117,98,108,105,115,104,101,114,125,46,93]),([97,114,116,105,99,108,101],[123,97,117,116,104,111,114,115,125,32,40,123,121,101,97,114,125,123,115,117,102,102,105,120,125,41,46,32,123,116,105,116,108,101,125,46,32,123,106,111,117,114,110,97,108,125,91,32,123,118,111,108,117,109,101,125,93,91,44,32,123,112,97,103,101,115,125,93,46])]
def zd0:StyT:=⟨[97,117,116,104,111,114,45,100,97,116,101],false,[97,117,116,104,111,114,32,121,101,97,114,32,116,105,116,108,101,32,107,101,121],[123,97,117,116,104,111,114,125,32,123,121,101,97,114,125,123,115,117,102,102,105,120,125],[123,121,101,97,114,125,123,115,117,102,102,105,120,125],[59,32],[40],[41],2,zlR⟩
def zsU:List Pr:=[([42],[123,110,117,109,98,101,114,125,46,32,123,97,117,116,104,111,114,115,125,46,32,123,116,105,116,108,101,125,91,44,32,123,121,101,97,114,125,93,46]),([97,114,116,105,99,108,101],[123,110,117,109,98,101,114,125,46,32,123,97,117,116,104,111,114,115,125,46,32,123,116,105,116,108,101,125,46,32,123,106,111,117,114,110,97,108,125,91,32,123,118,111,108,117,109,101,125,93,91,44,32,123,121,101,97,114,125,93,91,44,32,123,112,97,103,101,115,125,93,46])]
def zkB:StyT:=⟨[110,117,109,101,114,105,99],true,[],[123,110,117,109,98,101,114,125],[123,110,117,109,98,101,114,125],[44,32],[91],[93],3,zsU⟩
def zqW:StyT:=⟨[],false,[],[],[],[],[],[],0,[]⟩
def zyS (n:Bs):Option StyT:=if n=zd0.name then some zd0 else if n=zkB.name then some zkB else none
def StyP (o:Option StyT) (w:World) (e:Ending) (w':World):Prop:=∃ vE,e=.returned (.tuple #[zdU vE (o.getD zqW),.bool o.isSome])/\Prs w' vE (o.getD zqW).entries/\Kept w w'
theorem zsV (w:World) (p q:Pr):Prs (w.alloc (.cells #[.string (bs p.1),.string (bs p.2),.string (bs q.1),.string (bs q.2)] 62)) (.slice (some ⟨w.heap.size,0,none⟩) 2 2) [p,q]:=by
 refine ⟨_,_,rfl,Nat.le_refl _,fun _=>⟨w.heap.size,0,rfl,by simp,fun j x hx=>?_⟩⟩;have hb:=Blk.new w 62 #[.string (bs p.1),.string (bs p.2),.string (bs q.1),.string (bs q.2)]
 match j with
 | 0=>cases hx;exact ⟨hb.cell 0 _ rfl,hb.cell 1 _ rfl⟩
 | 1=>cases hx;exact ⟨hb.cell 2 _ rfl,hb.cell 3 _ rfl⟩
 | j+2=>simp at hx
theorem zj1 (n:Bs) (w:World):Calls Tryz.prog 28 #[.string (bs n)] w (StyP (zyS n) w):=by
 by_cases h1:n=zd0.name
 ·have e:zyS n=some zd0:=(by unfold zyS;rw[if_pos h1]);rw[e];subst h1;clear e;unfold StyP;show Calls _ _ #[.string (bs [97,117,116,104,111,114,45,100,97,116,101])] _ _;go_enter Tryz.func28,Tryz.ntmps28;go_wp2_with fail;refine bodyPost_ret (v:=.tuple #[zdU (.slice (some ⟨w.heap.size+1,0,none⟩) 2 2) zd0,.bool true]) ?_ rfl ⟨_,rfl,?_,(zaA _ _).trans (zaA _ _)⟩
  ·unfold zdU zaD zd0;simp [results,Tryz.results28,go_sem]
  ·have h:=zsV (w.alloc (.cells (zaD (.slice (some ⟨w.heap.size+1,0,none⟩) 2 2) zd0) 33)) (zlR.getD 0 ([],[])) (zlR.getD 1 ([],[]));have e:(w.alloc (.cells (zaD (.slice (some ⟨w.heap.size+1,0,none⟩) 2 2) zd0) 33)).heap.size=w.heap.size+1:=(by simp);rw[e] at h;exact h
 by_cases h2:n=zkB.name
 ·have e:zyS n=some zkB:=(by unfold zyS;rw[if_neg h1,if_pos h2]);rw[e];subst h2;clear e h1;unfold StyP;show Calls _ _ #[.string (bs [110,117,109,101,114,105,99])] _ _;go_enter Tryz.func28,Tryz.ntmps28;go_wp2_with fail;refine bodyPost_ret (v:=.tuple #[zdU (.slice (some ⟨w.heap.size+1,0,none⟩) 2 2) zkB,.bool true]) ?_ rfl ⟨_,rfl,?_,(zaA _ _).trans (zaA _ _)⟩
  ·unfold zdU zaD zkB;simp [results,Tryz.results28,go_sem]
  ·have h:=zsV (w.alloc (.cells (zaD (.slice (some ⟨w.heap.size+1,0,none⟩) 2 2) zkB) 33)) (zsU.getD 0 ([],[])) (zsU.getD 1 ([],[]));have e:(w.alloc (.cells (zaD (.slice (some ⟨w.heap.size+1,0,none⟩) 2 2) zkB) 33)).heap.size=w.heap.size+1:=(by simp);rw[e] at h;exact h
 have e:zyS n=none:=(by unfold zyS;rw[if_neg h1,if_neg h2]);rw[e];have g1:(n == ([97,117,116,104,111,114,45,100,97,116,101]:Bs))=false:=beq_eq_false_iff_ne.2 h1;have g2:(n == ([110,117,109,101,114,105,99]:Bs))=false:=beq_eq_false_iff_ne.2 h2;clear e h1 h2;unfold StyP;go_enter Tryz.func28,Tryz.ntmps28;go_wp2_with fail;refine bodyPost_ret (v:=.tuple #[zdU (.slice none 0 0) zqW,.bool false]) ?_ rfl ⟨_,rfl,⟨none,0,rfl,Nat.le_refl _,fun q=>absurd q (by simp [zqW])⟩,zaA _ _⟩;unfold zdU zaD zqW;simp [results,Tryz.results28,go_sem]
theorem ziI (n:Nat) (h:¬ n<10):Lib.decDigits n=Lib.decDigits (n / 10) ++ [UInt8.ofNat (48+n % 10)]:=by
 rw[Lib.decDigits,dif_neg h]
end Go.Proofs.YtmcoomlkbgiboaaGreatDoor
