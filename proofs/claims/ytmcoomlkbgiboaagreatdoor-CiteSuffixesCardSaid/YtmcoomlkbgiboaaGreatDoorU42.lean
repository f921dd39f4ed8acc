/- cite.letters at 26 or less; slices.Reverse at one byte. Conditions: the number. -/
import Derived.Test.YtmcoomlkbgiboaaGreatDoorU23
import Derived.Test.YtmcoomlkbgiboaaGreatDoorU26
import Derived.Test.YtmcoomlkbgiboaaGreatDoorU24
import Derived.Test.YtmcoomlkbgiboaaGreatDoorU32
import Derived.Test.YtmcoomlkbgiboaaGreatDoorU41
import Derived.Test.YtmcoomlkbgiboaaGreatDoorU37
import Derived.Test.YtmcoomlkbgiboaaGreatDoorU29
import Derived.Test.YtmcoomlkbgiboaaGreatDoorU04
import Derived.Lib.ItoaNum
import Derived.Lib.TrimByte
set_option linter.all false
set_option maxRecDepth 100000
set_option maxHeartbeats 25600000
namespace Go.Proofs.YtmcoomlkbgiboaaGreatDoor
open Go.RowKit
theorem Tryz.infoU8:(Tryz.prog.info? 5).map (fun i=>(i.zero,i.size,i.bytes))=some (some (.int .u8 0),1,1):=by kernel_rfl
def U8K (S:Nat->Prop) (w:World) (cs:List Value) (x:UInt8):Prop:=cs=[.int .u8 (x.toNat:Int)]
theorem u8K:ReadK U8K:=⟨fun h _ _=>h,fun h u hu=>by rw[h] at hu;simp at hu;subst hu;rfl⟩
theorem zCt (a:Option Addr) (c:Nat) (w:World):Calls Tryz.prog 106 #[.slice a 1 c] w fun e w'=>e=.returned (.tuple #[])/\w'=w:=by
 go_enter Tryz.func106,Tryz.ntmps106;go_wp2_with fail;go_loopw [2,3] (fun i j wr=>i=.int .i64 0/\j=.int .i64 0/\w=wr) (fun _ _ _=>0)
 case atStart=>exact ⟨rfl,rfl,rfl⟩
 case round =>
  obtain ⟨rfl,rfl,rfl⟩:=hrel;go_wp2_with fail
  go_end0
  exact ⟨rfl,rfl⟩
theorem zjO {n:Nat} (h1:1<=n) (h2:n<=26):zcY n=[UInt8.ofNat (96+n)]:=by
 unfold zcY;rw[zd9 (by omega),show (n - 1) / 26=0 by omega,zc9,show 97+(n - 1) % 26=96+n by omega];rfl
theorem zpM (n:Nat) (h1:1<=n) (h2:n<=26) (w:World):Calls Tryz.prog 50 #[.int .i64 n] w fun e w'=>e=.returned (.string (bs (zcY n)))/\Kept w w':=by
 obtain ⟨i0,hi,hz0,hz1,hz2⟩:=info_parts Tryz.infoU8;rw[zjO h1 h2];obtain ⟨b,HB⟩:∃ b,Hid (UInt8.ofNat (96+n)=b):=⟨_,rfl⟩;have hbn:Hid (((b.toNat:Nat):Int)=(n:Int)+96):=by
  show _=_;rw[<- HB.out,UInt8.toNat_ofNat'];omega
 rw[HB.out];have w1:(IntKind.u8).wrap ((n:Int) - 1)=(n:Int) - 1:=(by simp [IntKind.wrap,IntKind.signed,IntKind.bits];omega);have w2:(IntKind.u8).wrap (97+((n:Int) - 1))=(n:Int)+96:=(by simp [IntKind.wrap,IntKind.signed,IntKind.bits];omega);have w3:((n:Int) - 1) % 26=(n:Int) - 1:=(by omega);have w4:((n:Int) - 1) / 26=0:=(by omega);go_enter Tryz.func50,Tryz.ntmps50;go_wp2_with fail;simp only[zcO];go_loopw [0,3] (fun m o wr=>(m=.int .i64 n/\o=.slice none 0 0/\w=wr)\/(m=.int .i64 0/\∃ g c,o=.slice (some ⟨g,0,none⟩) 1 c/\g<wr.heap.size/\wr.cell? ⟨g,0,none⟩=some (.int .u8 (b.toNat:Int))/\Hid (Kept w wr))) (fun m _ _=>(intOf m).toNat)
 case atStart=>exact .inl ⟨rfl,rfl,rfl⟩
 case round =>
  rcases hrel with ⟨rfl,rfl,rfl⟩|⟨rfl,g,c,rfl,hg,hc,HK⟩
  ·have hn0:(0:Int)<(n:Int):=(by omega);have HROW:=Hd (Blk.new w 5 #[.int .u8 ((n:Int)+96)]);have HK6:=Hd (zaA w (.cells #[.int .u8 ((n:Int)+96)] 5));have HG6:=Hd (OutG.nil U8K 1 (fun _=>False) w.heap.size 5 (w.alloc (.cells #[.int .u8 ((n:Int)+96)] 5)));have hb6:w.heap.size<=(w.alloc (.cells #[.int .u8 ((n:Int)+96)] 5)).heap.size:=HK6.out.size;go_wp2_with (at_builtin;refine zjE ?_);refine Hd ?_;refine zaQ u8K rfl (.tmp 9) (.tmp 15) 120 rfl i0 _ 1 Tryz.underlying120 hi hz0 hz1 hz2 rfl (by omega) (by rfl) HG6.out _ [.int .u8 ((n:Int)+96)] b (by rfl) (fun j u hu=>HROW.out.cell j u (by rw[<- Array.getElem?_toList];exact hu)) rfl (by show _=_;rw[hbn.out]) (by unfold maxLen;simp) (by simp) hb6 _ rfl ?_;intro g7 c7' w7 hout7 hgrow7 hat7 hlt7;obtain ⟨g8,cs8,e8,-,-,-,-,hl8,hc8,hr8⟩:=hout7.at_ 0 b rfl;have hcs:cs8=[.int .u8 (b.toNat:Int)]:=hr8;subst hcs;cases e8;have c0:w7.cell? ⟨g7,0,none⟩=some (.int .u8 (b.toNat:Int)):=hc8 0 _ rfl;have HK7:Hid (Kept w w7):=HK6.out.trans' ((Only.grown hgrow7).below HK6.out.size (fun i q=>by cases q));clear hout7 hgrow7 hat7 hl8 hc8 hr8 HROW HG6 HK6;go_wp2_with fail;go_roundw
   case rel=>exact .inr ⟨by first|rfl|(congr 1;omega)|congr 1,g7,c7',rfl,hlt7,c0,HK7.out⟩
   case measure=>first|(simp [intOf];done)|(simp [intOf];omega)
  ·have hcv:(convert 120 9 (.slice (some ⟨g,0,none⟩) 1 c)).run Tryz.prog wr=.ok (.string (bs [b])) wr:=by
    refine run_convert_bytes_back (P:=Tryz.prog) wr 120 9 5 ⟨g,0,none⟩ c [b] Tryz.underlying120 Tryz.underlying5 Tryz.underlying9 ?_;intro j hj;have:j=0:=(by simpa using hj);subst this;exact hc
   go_wp2_with fail;refine (zCt (some ⟨g,0,none⟩) c wr).mono ?_;rintro e w8 ⟨rfl,rfl⟩;go_wp2_with fail
   (try go_ret)
   exact ⟨rfl,HK.out⟩
def SufPo (r:Int × List Bs) (w:World) (e:Ending) (w':World):Prop:=∃ v,e=.returned (.tuple #[v,.int .i64 r.1])/\Strs w' v r.2/\Kept w w'
theorem zmJ (l:List SrcT):(l.map fun _=>([]:Bs))=List.replicate l.length []:=by
 induction l with
 | nil=>rfl
 | cons x l ih=>rw[List.map_cons,ih,List.length_cons,List.replicate_succ]
theorem zr1 {l:List Bs} {f:Bs->Bool} {k:Nat} {p:Bs} (h:l[k]? = some p):(l.take (k+1)).filter f=(l.take k).filter f ++ (if f p=true then [p] else []):=by
 rw[List.take_succ,h,List.filter_append];congr 1;show [p].filter f=_;rw[List.filter_cons,List.filter_nil]
theorem zAz {l:List Bs} {k:Nat} {p:Bs} (h:l[k]? = some p) (h1:l.count p=1):p ∉ l.take k:=by
 intro q;obtain ⟨hk,e⟩:=List.getElem?_eq_some_iff.1 h;have e1:l=l.take k ++ l.drop k:=(List.take_append_drop k l).symm;rw[e1,List.count_append] at h1;have h2:1<=(l.take k).count p:=List.one_le_count_iff.2 q;have h3:1<=(l.drop k).count p:=List.one_le_count_iff.2 (by rw[List.drop_eq_getElem_cons hk,e];exact List.mem_cons_self ..);omega
theorem zmK (v vE:Value) (l:List SrcT) (y:StyT) (lang:Bs) (w:World) (hen:EnvC w) (hv:Srcs w v l) (hl:l.length<=8) (hfit:∀ s∈l,FitL s) (hE:Prs w vE y.entries) (hy:SmallY y) (hym : -9223372036854775808<=y.most/\y.most<=9223372036854775807) :
  Calls Tryz.prog 18 #[v,zdU vE y,.string (bs lang)] w (SufPo (zmF y lang l) w):=by
 obtain ⟨i0,hi,hz0,hz1,hz2⟩:=info_parts Tryz.infoStr;obtain ⟨a,c,rfl,hc⟩:=(show ∃ a c,v=.slice a l.length c/\l.length<=c by obtain ⟨a,c,e,q,_⟩:=hv;exact ⟨a,c,e,q⟩);obtain ⟨aE,cE,rfl,lE⟩:=(show ∃ a c,vE=.slice a y.entries.length c/\y.entries.length<=c by obtain ⟨a,c,e,q,_⟩:=hE;exact ⟨a,c,e,q⟩);have HK0:=Hd ((zaA w (.cells (zaD (.slice aE y.entries.length cE) y) 33)).trans (zaA _ (.cells #[.string (bs lang)] 9)));have HY0:=Hd ((Blk.new w 33 (zaD (.slice aE y.entries.length cE) y)).alloc (.cells #[.string (bs lang)] 9));have HL0:=Hd (Blk.new (w.alloc (.cells (zaD (.slice aE y.entries.length cE) y) 33)) 9 #[.string (bs lang)]);have HCH:=Hd (fun w' (k:Kept w w')=>zjA (.slice aE y.entries.length cE) y w' (hen.gnd.kept k) hy (hE.kept k));have HEN:=Hd hen;have HV:=Hd hv;have HFT:=Hd hfit;have HYC:Hid (y.cite.length<=100000):=hy.2.2.1;have HYM:=Hd hym;have HFIN0:Hid (zdZ y≠0->∀ w',Kept w w'->SufPo (zmF y lang l) w (.returned (.tuple #[.slice none 0 0,.int .i64 (zdZ y)])) w'):=fun h w' k=>by
  unfold zmF;rw[if_neg h];exact ⟨_,rfl,Strs.none_ _,k⟩
 have HFIN1:Hid (zdZ y=0->y.numeric=true->∀ u w',Strs w' u (List.replicate l.length [])->Kept w w'->SufPo (zmF y lang l) w (.returned (.tuple #[u,.int .i64 0])) w'):=fun h hn u w' h1 k=>by
  unfold zmF;rw[if_pos h,if_pos hn,zmJ];exact ⟨_,rfl,h1,k⟩
 have HFIN2:Hid (zdZ y=0->y.numeric=false->∀ u w',Strs w' u ((zCa (l.map (zn5 y lang))).map zcY)->Kept w w'->SufPo (zmF y lang l) w (.returned (.tuple #[u,.int .i64 0])) w'):=fun h hn u w' h1 k=>by
  unfold zmF;rw[if_pos h,if_neg (by rw[hn];simp)];exact ⟨_,rfl,h1,k⟩
 generalize SufPo (zmF y lang l) w=P at *;clear hen hv hfit hE hy hym;obtain ⟨B,HBB⟩:∃ B,Hid (w.heap.size=B):=⟨_,rfl⟩;have hwB:w.heap.size<=B:=(by rw[HBB.out];exact Nat.le_refl _);rw[World.size_alloc] at HL0;rw[HBB.out] at HY0 HL0;have HYC9:Hid ((Value.slice aE y.entries.length cE).oneCell'=true):=rfl;obtain ⟨YC,HYE⟩:∃ YC,Hid (zaD (.slice aE y.entries.length cE) y=YC):=⟨_,rfl⟩;have HB10:=Hd (zcC HY0.out);unfold zdU zaD at HCH;unfold zaD at HK0 HB10 HL0;unfold zdU zaD;go_enter Tryz.func18,Tryz.ntmps18;go_upto_region 1 with fail;rw[HBB.out];have hY0:=HY0.out;unfold zaD at hY0;have HY1:=Hd hY0;clear hY0 HY0;generalize World.alloc (World.alloc w _) _=w0 at *;have hBw0:B+1<w0.heap.size:=HL0.out.lt;obtain ⟨⟨b0,b1,b2,b3,b4,b5,b6,b7,b8,b9⟩,bz⟩:=HB10.out;have HCX:=Hd (HCH.out w0 HK0.out);clear HCH;go_wp2_with fail;refine HCX.out.mono ?_;rintro e w1 ⟨rfl,hk1⟩;have HK1:=Hd (HK0.out.trans hk1);have HYB:Hid (Blk w1 B 33 YC):=(by rw[<- HYE.out];exact HY1.out.kept hk1);have HLB:=Hd (HL0.out.kept hk1);clear hk1 HCX HY1 HL0 HK0 HB10 b0 b1 b2 b3 b4 b5 b6 b7 b8 b9 bz;by_cases he:¬ zdZ y=0
 ·have hne:(zdZ y == 0)=false:=(by rw[beq_eq_false_iff_ne];exact he);have hnb:(zdZ y != 0)=true:=(by rw[bne_iff_ne];exact he);have HF:=Hd (HFIN0.out he w1 HK1.out);generalize zdZ y=E at *;go_wp2_with fail
  (try go_ret2)
  exact HF.out
 ·have he:zdZ y=0:=Decidable.not_not.1 he;have HFN1:=Hd (HFIN1.out he);have HFN2:=Hd (HFIN2.out he);have HSE:=Hd he;rw[he];clear HFIN0 HFIN1 HFIN2 he;obtain ⟨n,HN⟩:∃ n,Hid (l.length=n):=⟨_,rfl⟩;obtain ⟨w2,mkS,own2,gr2⟩:=run_makeSlice_full (P:=Tryz.prog) (w:=w1) w1.heap.size 29 9 i0 _ 1 Tryz.underlying29 hi hz0 hz1 .i64 .i64 l.length (by omega) (by rw[hz2];omega) (by unfold maxLen;omega) (Nat.le_refl _);have hcl:Value.cells (.string ⟨#[]⟩)=#[.string (bs [])]:=rfl;rw[hcl,Nat.mul_one,toList_madeCells_one] at own2;have hk2:Kept w1 w2:=(Only.grown gr2).below (Nat.le_refl _) (fun i h=>by cases h);have HO2:=Hd (OutG.strs0 own2);have HK2:=Hd (HK1.out.trans hk2);have HYB2:=Hd (HYB.out.kept hk2);have HLB2:=Hd (HLB.out.kept hk2);have HB1:Hid (B+1<w1.heap.size):=HLB.out.lt;have hy2:=HYB2.out;rw[<- HYE.out] at hy2;obtain ⟨⟨-,b1,-,-,-,-,-,-,-,-⟩,bz⟩:=zcC hy2;clear own2 gr2 hk2 hy2 HYB HLB;cases hnum:y.numeric with
  | true =>
   have HF:=Hd (HFN1.out hnum _ w2 (Strs.outO HO2.out) HK2.out);rw[hnum] at b1;go_wp2_with fail
   (try go_ret2)
   exact HF.out
  | false =>
   have HF:=Hd (HFN2.out hnum);have HNU:=Hd hnum;rw[hnum] at b1;obtain ⟨O,HOE⟩:∃ O,Hid (w1.heap.size=O):=⟨_,rfl⟩;rw[HOE.out] at HO2 HB1 mkS;obtain ⟨w3,mkT,own3,gr3⟩:=run_makeSlice_full (P:=Tryz.prog) (w:=w2) w2.heap.size 29 9 i0 _ 1 Tryz.underlying29 hi hz0 hz1 .i64 .i64 l.length (by omega) (by rw[hz2];omega) (by unfold maxLen;omega) (Nat.le_refl _);rw[hcl,Nat.mul_one,toList_madeCells_one] at own3;have hk3:Kept w2 w3:=(Only.grown gr3).below (Nat.le_refl _) (fun i h=>by cases h);have HP3:=Hd (OutG.strs0 own3);have HOP:Hid (O<w2.heap.size):=(HO2.out.blk O rfl).2;have mkM:=run_makeMap (P:=Tryz.prog) 99 w3;have HKM:=Hd ((HK2.out.trans hk3).trans (zaA w3 (.map #[] 0)));have HMT:Hid (MapT (w3.alloc (.map #[] 0)) w3.heap.size []):=MapT.made w3;have HPT:Hid (w2.heap.size<w3.heap.size):=(HP3.out.blk w2.heap.size rfl).2;have HSA:Hid (SuA B YC lang O w2.heap.size l.length (List.replicate l.length []) (List.replicate l.length []) (w3.alloc (.map #[] 0))) :=
    ⟨(HYB2.out.kept hk3).kept (zaA _ _),(HLB2.out.kept hk3).kept (zaA _ _),(HO2.out.kept zfJ hk3).kept zfJ (zaA _ _),HP3.out.kept zfJ (zaA _ _)⟩
   obtain ⟨PL,HPE⟩:∃ PL,Hid (w2.heap.size=PL):=⟨_,rfl⟩;obtain ⟨TM,HTE⟩:∃ TM,Hid (w3.heap.size=TM):=⟨_,rfl⟩;rw[HPE.out] at HOP HPT HSA mkT;rw[HTE.out] at HPT HMT;have HTZ:Hid (TM<(w3.alloc (.map #[] 0)).heap.size):=HMT.out.lt;obtain ⟨ps,HPS⟩:∃ ps,Hid ((l.map (zn5 y lang)).map (·.1)=ps):=⟨_,rfl⟩;have HPA:Hid (∀ (k:Nat) x,l[k]? = some x->ps[k]? = some (zhG x y lang [])):=fun k x h=>by
    rw[<- HPS.out,List.getElem?_map,List.getElem?_map,h];rfl
   have HPL:Hid (ps.length=l.length):=(by show _=_;rw[<- HPS.out,List.length_map,List.length_map]);clear own3 gr3 hk3 HP3 HYB2 HLB2 HO2 HK2 HK1 HN;go_upto_region 10 with fail;rw[HTE.out]
   try rw[HOE.out]
   try rw[HPE.out]
   clear mkM mkS mkT b1 bz HOE HPE HTE;generalize w3.alloc _=w4 at *;go_wp2_with fail;go_loopw [41] (fun i wr=>∃ (k:Nat) (es:List (Bs × Value)),k<=l.length/\i=.int .i64 k/\Hid (SuA B YC lang O PL l.length (List.replicate l.length []) (ps.take k ++ List.replicate (l.length - k) []) wr)/\Hid (MapT wr TM es)/\Hid (∀ t,(zdV es t).getD (.int .i64 0)=.int .i64 ((ps.take k).count t:Nat))/\Hid (Kept w wr)/\Hid (TM<wr.heap.size)) (fun i _=>l.length - (intOf i).toNat)
   case atStart=>exact ⟨0,[],Nat.zero_le _,rfl,(by rw[List.take_zero,List.nil_append,Nat.sub_zero];exact HSA.out),HMT.out,(fun t=>by rw[List.take_zero];rfl),HKM.out,HTZ.out⟩
   case round =>
    clear HSA HMT HKM HTZ;obtain ⟨k,es,hk,rfl,HSA,HMT,HCV,HKR,HTZ⟩:=hrel;by_cases hlt:k<l.length
    ·obtain ⟨x,hx⟩:∃ x,l[k]? = some x:=⟨_,List.getElem?_eq_getElem hlt⟩;have hft:=HFT.out x (List.mem_of_getElem? hx);have hpx:=HPA.out k x hx;obtain ⟨g,o,vA,vE,vF,rfl,hg,c0,c1,c2,c3,c4,pA,pE,pF⟩:=Srcs.at_ (HV.out.kept HKR.out) k x hx;obtain ⟨aA,cA,rfl,lA⟩:=pA.shape;obtain ⟨aS,cS,rfl,lS⟩:=pE.shape;obtain ⟨aF,cF,rfl,lF⟩:=(show ∃ a c,vF=.slice a x.fields.length c/\x.fields.length<=c by obtain ⟨a,c,e,l,_⟩:=pF;exact ⟨a,c,e,l⟩);have HKA:=Hd (zaA wr (.cells #[.string (bs x.key),.string (bs x.type),.slice aA x.author.length cA,.slice aS x.editor.length cS,.slice aF x.fields.length cF] 50));have HSA2:=Hd (HSA.out.kept HKA.out);have HCT:=Hd (zmG B (B+1) (.slice aA x.author.length cA) (.slice aS x.editor.length cS) (.slice aF x.fields.length cF) (.slice aE y.entries.length cE) x y lang [] _ (HEN.out.kept (HKR.out.trans HKA.out)) (by rw[HYE.out];exact HSA2.out.yb) HSA2.out.lb HYC9.out HYC.out HYM.out (pA.kept HKA.out) (pE.kept HKA.out) (pF.kept HKA.out) hft (by simp));obtain ⟨p,HPP⟩:∃ p,Hid (zhG x y lang []=p):=⟨_,rfl⟩;rw[HPP.out] at hpx HCT;have HTK:Hid (ps.take (k+1)=ps.take k ++ [p]):=(by show _=_;rw[List.take_succ,hpx];rfl);have HTL:Hid ((ps.take k).length=k):=(by show _=_;rw[List.length_take,HPL.out];omega);have HCN:=Hd (fun t=>znW (x:=t) hpx);clear pA pE pF hx hft hpx HPP;go_wp2_with fail;refine HCT.out.mono ?_;rintro e w5 ⟨rfl,hk5⟩;have HK5:=Hd ((HKR.out.trans HKA.out).trans hk5);have HSA5:=Hd (HSA2.out.kept hk5);have HMT5:=Hd ((HMT.out.kept HKA.out).kept hk5);have hz5:TM<w5.heap.size:=HMT5.out.lt;have hget:(ps.take k ++ List.replicate (l.length - k) ([]:Bs))[k]? = some []:=by
      rw[List.getElem?_append_right (by rw[HTL.out];exact Nat.le_refl _),HTL.out,Nat.sub_self,List.getElem?_replicate,if_pos (by omega)]
     obtain ⟨q0,q1,q2,-⟩:=zjN HSA5.out.pla k [] hget;have hop:=HOP.out;have hpt:=HPT.out;have hb1:=HB1.out;have hlen:k<(ps.take k ++ List.replicate (l.length - k) ([]:Bs)).length:=(by rw[List.length_append,HTL.out,List.length_replicate];omega);have HSA6:=Hd (HSA5.out.setP k hlen p hb1 hop);have hset:(ps.take k ++ List.replicate (l.length - k) ([]:Bs)).set k p=ps.take (k+1) ++ List.replicate (l.length - (k+1)) []:=by
      have:=zCs (ps.take k) (l.length - k) (by omega) p;rw[HTL.out] at this;rw[this,HTK.out,Nat.sub_sub]
     rw[hset] at HSA6;have ho6:=Only.setCell (w:=w5) PL k (.string (bs p));have HMT6:=Hd (HMT5.out.only ho6 (by omega));have HK6:=Hd (HK5.out.trans' (ho6.below HK5.out.size (fun i e=>by omega)));have hnext:(ps.take (k+1) ++ List.replicate (l.length - (k+1)) ([]:Bs))[k]? = some p:=by
      rw[List.getElem?_append_left (by rw[HTK.out,List.length_append,HTL.out];simp),HTK.out,List.getElem?_append_right (by rw[HTL.out];exact Nat.le_refl _),HTL.out,Nat.sub_self];rfl
     obtain ⟨r0,-,r2,-⟩:=zjN HSA6.out.pla k p hnext;have lk:=zB3 (P:=Tryz.prog) (tm:=99) (te:=3) Tryz.underlying99 Tryz.underlying9 (w5.setCell ⟨PL,k,none⟩ (.string (bs p))) TM es p (.int .i64 0) (zfX _) HMT6.out;rw[HCV.out p] at lk;obtain ⟨m,HMC⟩:∃ m,Hid ((ps.take k).count p=m):=⟨_,rfl⟩;have hm8:m<=8:=by
      rw[<- HMC.out];have:=List.count_le_length (a:=p) (l:=ps.take k);rw[HTL.out] at this;omega
     rw[HMC.out] at lk;obtain ⟨es',hes,up⟩:=upT (P:=Tryz.prog) (tm:=99) (te:=3) Tryz.underlying99 Tryz.underlying9 (w5.setCell ⟨PL,k,none⟩ (.string (bs p))) TM es p (.int .i64 ((m:Int)+1)) HMT6.out;have ho7:=ze9 (w5.setCell ⟨PL,k,none⟩ (.string (bs p))) TM es';have HSA7:=Hd (HSA6.out.only ho7 (by omega) (by omega) (by omega) (by omega));have HMT7:=Hd (zg0 (w5.setCell ⟨PL,k,none⟩ (.string (bs p))) TM es' HMT6.out.lt);have HK7:=Hd (HK6.out.trans' (ho7.below HK6.out.size (fun i e=>by omega)));have HCV7:Hid (∀ t,(zdV es' t).getD (.int .i64 0)=.int .i64 ((ps.take (k+1)).count t:Nat)):=fun t=>by
      rw[hes t,HCN.out t];by_cases q:t=p
      ·subst q;rw[if_pos rfl,HMC.out,if_pos (by simp)];rfl
      ·rw[if_neg q,HCV.out t,if_neg (by simp;exact fun e=>q e.symm)];rfl
     have HTZ7:Hid (TM<(zsX (w5.setCell ⟨PL,k,none⟩ (.string (bs p))) TM es').heap.size):=HMT7.out.lt;clear hget hlen hset hnext ho6 ho7 hes HSA6 HSA5 HSA2 HSA HMT6 HMT5 HMT HK6 HK5 HCV HCN HKA HCT HTK HTL HMC hk5 hop hpt hb1 HTZ;go_wp2_with fail;go_roundw
     case rel=>exact ⟨k+1,es',by omega,by go_num,HSA7.out,HMT7.out,HCV7.out,HK7.out,HTZ7.out⟩
     case measure=>simp [intOf];omega
    ·obtain rfl:k=l.length:=(by omega);have hpt:ps.take l.length=ps:=(by rw[<- HPL.out,List.take_length]);rw[hpt,Nat.sub_self,List.replicate_zero,List.append_nil] at HSA;rw[hpt] at HCV;have mkN:=run_makeMap (P:=Tryz.prog) 73 wr;have hka:=zaA wr (.map #[] 0);have HKB:Hid (MapK (wr.alloc (.map #[] 0)) wr.heap.size []):=MapK_made wr;have HSB:=Hd (HSA.out.kept hka);have HMB:=Hd (HMT.out.kept hka);have HKC:=Hd (HKR.out.trans hka);obtain ⟨TK,HTE⟩:∃ TK,Hid (wr.heap.size=TK):=⟨_,rfl⟩;rw[HTE.out] at HKB HTZ;clear hpt hka HSA HMT HKR;go_upto_region 17 with fail;rw[HTE.out];clear mkN HTE;generalize wr.alloc _=w5 at *;go_wp2_with fail;obtain ⟨wo,rfl⟩:∃ wo:World,wo=wr:=⟨_,rfl⟩;go_loopw [63] (fun i wr=>∃ (k:Nat),k<=l.length/\i=.int .i64 k/\Hid (SuA B YC lang O PL l.length (List.replicate l.length []) ps wr)/\Hid (MapT wr TM es)/\Hid (MapK wr TK ((ps.take k).filter (zbE ps)))/\Hid (Kept w wr)) (fun i _=>l.length - (intOf i).toNat)
     case atStart=>exact ⟨0,Nat.zero_le _,rfl,HSB.out,HMB.out,(by rw[List.take_zero];exact HKB.out),HKC.out⟩
     case round =>
      clear HSB HMB HKB HKC;obtain ⟨k,hk,rfl,HSA,HMT,HMK,HKR⟩:=hrel;by_cases hlt:k<l.length
      ·obtain ⟨p,hx⟩:∃ x,ps[k]? = some x:=⟨_,List.getElem?_eq_getElem (by rw[HPL.out];exact hlt)⟩;obtain ⟨q0,-,q2,-⟩:=zjN HSA.out.pla k p hx;have hmz:=HMT.out.lt;have lk:=zB3 (P:=Tryz.prog) (tm:=99) (te:=3) Tryz.underlying99 Tryz.underlying9 wr TM es p (.int .i64 0) (zfX _) HMT.out;rw[HCV.out p] at lk;obtain ⟨m,HMC⟩:∃ m,Hid (ps.count p=m):=⟨_,rfl⟩;rw[HMC.out] at lk;have HTK:=Hd (zr1 (f:=zbE ps) hx);by_cases hm1:m=1
       ·have hal:zbE ps p=true:=(by unfold zbE;rw[HMC.out,hm1];rfl);have hmb:((m:Int) == 1)=true:=(by rw[hm1];rfl);have hmi:(m:Int)=1:=(by rw[hm1];rfl);rw[hal] at HTK;have hnot:p ∉ (ps.take k).filter (zbE ps):=fun q=>zAz hx (by rw[HMC.out];exact hm1) (List.mem_filter.1 q).1;obtain ⟨us,HUS⟩:∃ us,Hid ((ps.take k).filter (zbE ps)=us):=⟨_,rfl⟩;rw[HUS.out] at HMK HTK hnot;have up:=zEg wr TK us p HMK.out hnot;have ho7:=zdQ wr TK (us ++ [p]);have hb1:=HB1.out;have hop:=HOP.out;have hpt:=HPT.out;have htz:=HTZ.out;have HSA7:=Hd (HSA.out.only ho7 (by omega) (by omega) (by omega) (by omega));have HMT7:=Hd (HMT.out.only ho7 (by omega));have HMK7:Hid (MapK (zoK wr TK (us ++ [p])) TK ((ps.take (k+1)).filter (zbE ps))):=(by rw[HTK.out];exact zgS wr TK (us ++ [p]) HMK.out.lt);have HK7:=Hd (HKR.out.trans' (ho7.below HKR.out.size (fun i e=>by omega)));clear ho7 hnot hal hx HTK HUS HSA HMT HMK HKR HMC hb1 hop hpt htz;go_wp2_with fail;go_roundw
        case rel=>exact ⟨k+1,by omega,by go_num,HSA7.out,HMT7.out,HMK7.out,HK7.out⟩
        case measure=>simp [intOf];omega
       ·have hal:zbE ps p=false:=(by unfold zbE;rw[HMC.out,beq_eq_false_iff_ne];exact hm1);have hmb:((m:Int) == 1)=false:=(by rw[beq_eq_false_iff_ne];omega);have hmi:¬ (m:Int)=1:=(by omega);rw[hal] at HTK;have HMK7:Hid (MapK wr TK ((ps.take (k+1)).filter (zbE ps))):=(by rw[HTK.out];simp only[Bool.false_eq_true,if_false,List.append_nil];exact HMK.out);clear hal hx HTK HMK HMC;go_wp2_with fail;go_roundw
        case rel=>exact ⟨k+1,by omega,by go_num,HSA.out,HMT.out,HMK7.out,HKR.out⟩
        case measure=>simp [intOf];omega
      ·obtain rfl:k=l.length:=(by omega);have hpt:ps.take l.length=ps:=(by rw[<- HPL.out,List.take_length]);rw[hpt] at HMK;have mkN:=run_makeMap (P:=Tryz.prog) 100 wr;have hka:=zaA wr (.map #[] 0);have HQB:Hid (MapQ (wr.alloc (.map #[] 0)) wr.heap.size []):=MapQ.made wr;have HSB:=Hd (HSA.out.kept hka);have HMB:=Hd (HMT.out.kept hka);have HKB:=Hd (MapK_kept HMK.out hka);have HKC:=Hd (HKR.out.trans hka);have HKZ:Hid (TK<wr.heap.size):=HMK.out.lt;obtain ⟨NX,HTE⟩:∃ NX,Hid (wr.heap.size=NX):=⟨_,rfl⟩;rw[HTE.out] at HQB HKZ;clear hpt hka HSA HMT HKR HMK;go_upto_region 24 with fail;rw[HTE.out];clear mkN HTE;generalize wr.alloc _=w6 at *;go_wp2_with fail;obtain ⟨xs,HXS⟩:∃ xs,Hid (l.map (zn5 y lang)=xs):=⟨_,rfl⟩;have HXA:Hid (∀ (k:Nat) x,l[k]? = some x->xs[k]? = some (zn5 y lang x)):=fun k x h=>(by rw[<- HXS.out,List.getElem?_map,h];rfl);have HXL:Hid (xs.length=l.length):=(by show _=_;rw[<- HXS.out,List.length_map]);have HHO:Hid (∀ z∈xs,none∈z.2):=fun z hz=>by
        rw[<- HXS.out] at hz;obtain ⟨t,-,rfl⟩:=List.mem_map.1 hz;exact zmE HSE.out HNU.out lang t
       rw[HXS.out] at HF HPS;have HINV:Hid (∀ k:Nat,SufI ps (xs.take k) (zbX ps (xs.take k))):=fun k=>by
        have:=zpD xs HHO.out (xs.take k) (xs.drop k) (List.take_append_drop k xs);rw[HPS.out] at this;exact this
       have HSN:Hid (zCa xs=(zbX ps (xs.take xs.length)).out):=(by show _=_;rw[List.take_length];unfold zCa;rw[HPS.out]);rw[HSN.out,HXL.out] at HF;clear HXS HSN;obtain ⟨wo2,rfl⟩:∃ wo:World,wo=wr:=⟨_,rfl⟩;go_loopw [77] (fun i wr=>∃ (k:Nat) (esq:List (KyP × Value)),k<=l.length/\i=.int .i64 k/\Hid (SuA B YC lang O PL l.length ((zbX ps (xs.take k)).out.map zcY ++ List.replicate (l.length - k) []) ps wr)/\Hid (MapT wr TM es)/\Hid (MapK wr TK (zbX ps (xs.take k)).taken)/\Hid (MapQ wr NX esq)/\Hid (∀ q,(zjM esq q).getD (.int .i64 0)=.int .i64 ((zbX ps (xs.take k)).next q:Nat))/\Hid (Kept w wr)) (fun i _=>l.length - (intOf i).toNat)
       case atStart=>exact ⟨0,[],Nat.zero_le _,rfl,HSB.out,HMB.out,HKB.out,HQB.out,(fun q=>rfl),HKC.out⟩
       case round =>
        clear HSB HMB HKB HQB HKC;obtain ⟨k,esq,hk,rfl,HSA,HMT,HMK,HMQ,HNV,HKR⟩:=hrel;by_cases hlt:k<l.length
        ·obtain ⟨x,hx⟩:∃ x,l[k]? = some x:=⟨_,List.getElem?_eq_getElem hlt⟩;have hft:=HFT.out x (List.mem_of_getElem? hx);have hpx:=HPA.out k x hx;have hxx:=HXA.out k x hx;have HHX:=Hd (HHO.out _ (List.mem_of_getElem? hxx));have HIV:=Hd (HINV.out k);have HNXT:Hid (zbX ps (xs.take (k+1))=zd1 ps (zbX ps (xs.take k)) (zn5 y lang x)):=by
          show _=_;rw[List.take_succ,hxx];exact zfU _ _ _
         have HOL:Hid ((zbX ps (xs.take k)).out.length=k):=by
          show _=_;rw[HIV.out.len,List.length_take,HXL.out];omega
         have HTL:Hid ((zbX ps (xs.take k)).taken.length<=16):=by
          show _<=_;have:=zCl HIV.out (by rw[List.length_take,HPL.out];omega);rw[HPL.out] at this;omega
         obtain ⟨st,HST⟩:∃ st,Hid (zbX ps (xs.take k)=st):=⟨_,rfl⟩;rw[HST.out] at HSA HMK HNV HIV HNXT HOL HTL;clear HST;obtain ⟨g,o,vA,vE,vF,rfl,hg0,e0,e1,e2,e3,e4,pA,pE,pF⟩:=Srcs.at_ HV.out k x hx;have c0:=(HKR.out.cell (p:=⟨g,o+k * 5,none⟩) hg0).trans e0;have c1:=(HKR.out.cell (p:=⟨g,o+k * 5+1,none⟩) hg0).trans e1;have c2:=(HKR.out.cell (p:=⟨g,o+k * 5+2,none⟩) hg0).trans e2;have c3:=(HKR.out.cell (p:=⟨g,o+k * 5+3,none⟩) hg0).trans e3;have c4:=(HKR.out.cell (p:=⟨g,o+k * 5+4,none⟩) hg0).trans e4;have hg:g<wr.heap.size:=Nat.lt_of_lt_of_le hg0 HKR.out.size;obtain ⟨aA,cA,rfl,lA⟩:=pA.shape;obtain ⟨aS,cS,rfl,lS⟩:=pE.shape;obtain ⟨aF,cF,rfl,lF⟩:=(show ∃ a c,vF=.slice a x.fields.length c/\x.fields.length<=c by obtain ⟨a,c,e,l,_⟩:=pF;exact ⟨a,c,e,l⟩);have HPA2:=Hd pA;have HPE2:=Hd pE;have HPF2:=Hd pF;have HFT2:=Hd hft;have hka:=zaA wr (.cells #[.string (bs x.key),.string (bs x.type),.slice aA x.author.length cA,.slice aS x.editor.length cS,.slice aF x.fields.length cF] 50);have HIB:=Hd (Blk.new wr 50 #[.string (bs x.key),.string (bs x.type),.slice aA x.author.length cA,.slice aS x.editor.length cS,.slice aF x.fields.length cF]);have HSA2:=Hd (HSA.out.kept hka);have HMT2:=Hd (HMT.out.kept hka);have HMK2:=Hd (MapK_kept HMK.out hka);have HMQ2:=Hd (HMQ.out.kept hka);have HKR2:=Hd (HKR.out.trans hka);have HKO:=Hd (show Kept wr _ from hka);have HPAW:=Hd pA;have HPEW:=Hd pE;have HPFW:=Hd pF;have HNZ:Hid (NX<wr.heap.size):=HMQ.out.lt;obtain ⟨I,HIE⟩:∃ I,Hid (wr.heap.size=I):=⟨_,rfl⟩;rw[HIE.out] at HIB HNZ;obtain ⟨X,HXX⟩:∃ X,Hid (zn5 y lang x=X):=⟨_,rfl⟩;have HCX:Hid (∀ n:Nat,zhG x y lang (zcY n)=zeC X n):=fun n=>(by rw[<- HXX.out];exact zC2 HSE.out HNU.out lang x n);rw[HXX.out] at HNXT HHX;have HX1:Hid (X.1=zhG x y lang []):=(by show _=_;rw[<- HXX.out];rfl);obtain ⟨p,HPP⟩:∃ p,Hid (zhG x y lang []=p):=⟨_,rfl⟩;rw[HPP.out] at hpx HX1;clear pA pE pF hft hx hxx hka HPA2 HPE2 HPF2 e0 e1 e2 e3 e4 hg0 HXX HPP HSA HMT HMK HMQ HKR;go_upto_region 27 with fail;rw[HIE.out];clear c0 c1 c2 c3 c4 hg HIE HKO;generalize wr.alloc _=w7 at *;obtain ⟨q0,-,q2,-⟩:=zjN HSA2.out.pla k p hpx;have hmz:=HMT2.out.lt;have lk:=zB3 (P:=Tryz.prog) (tm:=99) (te:=3) Tryz.underlying99 Tryz.underlying9 w7 TM es p (.int .i64 0) (zfX _) HMT2.out;rw[HCV.out p] at lk;obtain ⟨m,HMC⟩:∃ m,Hid (ps.count p=m):=⟨_,rfl⟩;rw[HMC.out] at lk;by_cases hm1:m=1
         ·have hal:zbE ps X.1=true:=(by rw[HX1.out];unfold zbE;rw[HMC.out,hm1];rfl);have hmb:((m:Int) == 1)=true:=(by rw[hm1];rfl);have hmi:(m:Int)=1:=(by rw[hm1];rfl);have HS:Hid (zbX ps (xs.take (k+1))={ st with out:=st.out ++ [0] }):=by
           show _=_;rw[HNXT.out];unfold zd1;rw[if_pos hal]
          have hos:st.out.map zcY ++ List.replicate (l.length - k) []=(st.out ++ [0]).map zcY ++ List.replicate (l.length - (k+1)) []:=by
           rw[List.map_append,List.append_assoc];congr 1;have e0:zcY 0=[]:=(by unfold zcY;rw[zc9];rfl);obtain ⟨r,hr⟩:∃ r,l.length - k=r+1:=⟨l.length - k - 1,by omega⟩;rw[hr,show l.length - (k+1)=r from by omega,List.replicate_succ,List.map_cons,List.map_nil,e0];rfl
          rw[hos] at HSA2;have HA9:Hid (SuA B YC lang O PL l.length ((zbX ps (xs.take (k+1))).out.map zcY ++ List.replicate (l.length - (k+1)) []) ps w7):=(by rw[HS.out];exact HSA2.out);have HK9:Hid (MapK w7 TK (zbX ps (xs.take (k+1))).taken):=(by rw[HS.out];exact HMK2.out);have HN9:Hid (∀ q,(zjM esq q).getD (.int .i64 0)=.int .i64 ((zbX ps (xs.take (k+1))).next q:Nat)):=(by rw[HS.out];exact HNV.out);clear hal hos HS HSA2 HMK2 HNV HNXT HIV HHX HX1 HCX hpx HMC HOL HTL HIB;go_wp2_with fail;go_roundw
          case rel=>exact ⟨k+1,esq,by omega,by go_num,HA9.out,HMT2.out,HK9.out,HMQ2.out,HN9.out,HKR2.out⟩
          case measure=>simp [intOf];omega
         ·have hal:¬ zbE ps X.1=true:=(by rw[HX1.out];unfold zbE;rw[HMC.out,beq_iff_eq];exact hm1);have hmb:((m:Int) == 1)=false:=(by rw[beq_eq_false_iff_ne];omega);have hmi:¬ (m:Int)=1:=(by omega);obtain ⟨old1,old2,old3⟩:=HIV.out.old HHX.out;have hf17:=zEI HIV.out HHX.out;have hnx:=HNXT.out;unfold zd1 at hnx;rw[if_neg hal] at hnx;obtain ⟨fr,HFR⟩:∃ fr,Hid (zo9 st.taken X st.taken.length (st.next (zjJ X))=fr):=⟨_,rfl⟩;rw[HFR.out] at old1 old2 old3 hf17 hnx;have HNX2:=Hd hnx;have HOLD2:=Hd old2;have HOLD3:=Hd old3;have hfr17:fr<=17:=(by have:=HTL.out;omega);have HC1:Hid (zhG x y lang [97]=(zjJ X).1):=(by have h:=HCX.out 1;rw[ziT] at h;exact h);have HC2:Hid (zhG x y lang [98]=(zjJ X).2):=(by have h:=HCX.out 2;rw[zpB] at h;exact h);obtain ⟨⟨t1,t2⟩,HSH⟩:∃ q,Hid (zjJ X=q):=⟨_,rfl⟩;rw[HSH.out] at HC1 HC2 HNX2 old1;have HCL:Hid (∀ (suf:Bs),suf.length<=1000->∀ w',Kept w w'->Blk w' B 33 YC->Blk w' (B+1) 9 #[.string (bs lang)]->Calls Tryz.prog 49 #[.agg #[.string (bs x.key),.string (bs x.type),.slice aA x.author.length cA,.slice aS x.editor.length cS,.slice aF x.fields.length cF],.string (bs suf),.pointer (some ⟨B,0,none⟩),.pointer (some ⟨B+1,0,none⟩)] w' fun e w''=>e=.returned (.string (bs (zhG x y lang suf)))/\Kept w' w''):=fun suf hs w' kk hyb hlb =>
           zmG B (B+1) (.slice aA x.author.length cA) (.slice aS x.editor.length cS) (.slice aF x.fields.length cF) (.slice aE y.entries.length cE) x y lang suf w' (HEN.out.kept kk) (by rw[HYE.out];exact hyb) hlb HYC9.out HYC.out HYM.out (HPAW.out.kept kk) (HPEW.out.kept kk) (HPFW.out.kept kk) HFT2.out hs
          have HCA:Hid (∀ w',Kept w7 w'->Calls Tryz.prog 49 #[.agg #[.string (bs x.key),.string (bs x.type),.slice aA x.author.length cA,.slice aS x.editor.length cS,.slice aF x.fields.length cF],.string (bs [97]),.pointer (some ⟨B,0,none⟩),.pointer (some ⟨B+1,0,none⟩)] w' fun e w''=>e=.returned (.string (bs t1))/\Kept w' w''):=fun w' kk=>by
           have h:=HCL.out [97] (by simp) w' (HKR2.out.trans kk) (HSA2.out.yb.kept kk) (HSA2.out.lb.kept kk);rw[HC1.out] at h;exact h
          have HCB:Hid (∀ w',Kept w7 w'->Calls Tryz.prog 49 #[.agg #[.string (bs x.key),.string (bs x.type),.slice aA x.author.length cA,.slice aS x.editor.length cS,.slice aF x.fields.length cF],.string (bs [98]),.pointer (some ⟨B,0,none⟩),.pointer (some ⟨B+1,0,none⟩)] w' fun e w''=>e=.returned (.string (bs t2))/\Kept w' w''):=fun w' kk=>by
           have h:=HCL.out [98] (by simp) w' (HKR2.out.trans kk) (HSA2.out.yb.kept kk) (HSA2.out.lb.kept kk);rw[HC2.out] at h;exact h
          have hos:st.out.map zcY ++ List.replicate (l.length - k) []=st.out.map zcY ++ ([]:Bs) :: List.replicate (l.length - (k+1)) []:=by
           obtain ⟨r,hr⟩:∃ r,l.length - k=r+1:=⟨l.length - k - 1,by omega⟩;rw[hr,show l.length - (k+1)=r from by omega,List.replicate_succ]
          rw[hos] at HSA2;clear old2 old3 hnx hal hos HNXT HMC hpx HX1 HC1 HC2 HIV HHX HFR hf17;go_upto_region 28 with fail;refine zAx x (.slice aA x.author.length cA) (.slice aS x.editor.length cS) (.slice aF x.fields.length cF) B (B+1) I t1 t2 (by kernel_rfl) ⟨_,rfl,rfl,rfl,rfl⟩ ⟨_,rfl,rfl,rfl,rfl⟩ ⟨_,rfl,rfl,rfl,rfl⟩ ⟨_,rfl,rfl,rfl,rfl⟩ ⟨_,rfl,rfl,rfl,rfl⟩ ⟨_,rfl,rfl,rfl,rfl⟩ ⟨_,rfl,rfl,rfl,rfl⟩ ⟨_,rfl,rfl,rfl,rfl⟩ ⟨_,rfl,rfl,rfl,rfl⟩
           (by simp) rfl rfl HIB HCA HCB ?_
          intro V w8 J hV hJ hJb hk8;simp only[Act.put,List.setIfInBounds_toArray,List.set_cons_zero,List.set_cons_succ];rw[hV];have HJB:=Hd hJb;have HIB8:=Hd (HIB.out.kept hk8);have HSA8:=Hd (HSA2.out.kept hk8);have HMT8:=Hd (HMT2.out.kept hk8);have HMK8:=Hd (MapK_kept HMK2.out hk8);have HMQ8:=Hd (HMQ2.out.kept hk8);have HKR8:=Hd (HKR2.out.trans hk8);have hIw:=HIB.out.lt;have HIJ:Hid (I<J):=(by show _<_;omega);clear hV hJ hJb hk8 HIB HSA2 HMT2 HMK2 HMQ2 HKR2 HCA HCB hIw q0 q2 lk hmz hmb hmi;go_wp2_with fail;obtain ⟨wo3,rfl⟩:∃ wo:World,wo=wr:=⟨_,rfl⟩
          go_loopg [22] (fr - st.next (t1,t2)) (fun gk t wr=>∃ (m:Nat) (esq:List (KyP × Value)) (u:Bs),gk=fr - m/\m<fr/\Hid (SuA B YC lang O PL l.length (st.out.map zcY ++ u :: List.replicate (l.length - (k+1)) []) ps wr)/\Hid (MapT wr TM es)/\Hid (MapK wr TK st.taken)/\Hid (MapQ wr NX esq)/\Hid (∀ q,(zjM esq q).getD (.int .i64 0)=.int .i64 ((if q=(t1,t2) then m else st.next q:Nat):Int))/\Hid (Blk wr I 50 #[.string (bs x.key),.string (bs x.type),.slice aA x.author.length cA,.slice aS x.editor.length cS,.slice aF x.fields.length cF])/\Hid (Blk wr J 102 #[.string (bs t1),.string (bs t2)])/\Hid (Kept w wr))
          case atStart =>
           refine ⟨st.next (t1,t2),esq,[],rfl,old1,HSA8.out,HMT8.out,HMK8.out,HMQ8.out,fun q=>?_,HIB8.out,HJB.out,HKR8.out⟩;rw[HNV.out q];by_cases e:q=(t1,t2)
           ·rw[if_pos e,e]
           ·rw[if_neg e]
          case round =>
           clear HSA8 HMT8 HMK8 HMQ8 HIB8 HJB HKR8 HNV;obtain ⟨m,esq',u,hgk,hmf,HSA,HMT,HMK,HMQ,HNV,HIB,HJB,HKR⟩:=hrel;obtain ⟨fs,hky⟩:=Tryz.keyShape 3 100 Tryz.underlying100;have HKY:=Hd hky;have hmqd:MapQ wr.drew NX esq':=HMQ.out.kept (zaB wr 1);obtain ⟨es2,n2,hn2,hset,hget,em⟩:=zEL hky wr.drew NX esq' (t1,t2) (.int .i64 0) zfX hmqd;have hv:(zjM esq' (t1,t2)).getD (.int .i64 0)=.int .i64 ((m:Nat):Int):=(by rw[HNV.out];rw[if_pos rfl]);rw[hv] at hn2 em;have lkA:=zD3 hky wr.drew NX esq' (t1,t2) (.int .i64 0) (zfX _) hmqd;rw[hv] at lkA;have lkB:=zD3 hky (zm5 wr.drew NX es2) NX es2 (t1,t2) (.int .i64 0) (zfX _) (zpL _ _ _ hmqd.lt);rw[hget,hv] at lkB;have stq:=zEM (P:=Tryz.prog) (tm:=100) (zm5 wr.drew NX es2) NX es2 n2 (t1,t2) _ (.int .i64 ((m:Int)+1)) (zpL _ _ _ hmqd.lt) hn2;change Sem.run _ (Instr.mapEntry _ _ (.agg #[.string (bs t1),.string (bs t2)])) _=_ at em;change Sem.run _ (Instr.lookup _ _ (.agg #[.string (bs t1),.string (bs t2)]) _) _=_ at lkA;change Sem.run _ (Instr.lookup _ _ (.agg #[.string (bs t1),.string (bs t2)]) _) _=_ at lkB;have hm17:m<17:=(by omega);have j0:=HJB.out.cell 0 _ rfl;have j1:=HJB.out.cell 1 _ rfl;have jz:=HJB.out.lt;have HSET:=Hd hset;have HMZ:=Hd hmqd.lt;clear hky hmqd hv hn2 hset hget;go_upto_region 29 with fail;go_region;obtain ⟨es3,HE3⟩:∃ es3,Hid (es2.set n2 ((t1,t2),.int .i64 ((m:Int)+1))=es3):=⟨_,rfl⟩;have HNV3:Hid (∀ q,(zjM es3 q).getD (.int .i64 0)=.int .i64 ((if q=(t1,t2) then m+1 else st.next q:Nat):Int)):=fun q=>by
            rw[<- HE3.out,HSET.out];by_cases e:q=(t1,t2)
            ·rw[if_pos e,if_pos e];rfl
            ·rw[if_neg e,if_neg e,HNV.out,if_neg e]
           rw[HE3.out];have kd:=zaB wr 1;have hoq:Only (fun g=>g=NX) wr.drew (zm5 (zm5 wr.drew NX es2) NX es3):=(zrZ wr.drew NX es2).trans (zrZ _ NX es3);have hb1:=HB1.out;have hop:=HOP.out;have hpt:=HPT.out;have htz:=HTZ.out;have hkz:=HKZ.out;have hnz:=HNZ.out;have hij:=HIJ.out;have HSA3:=Hd ((HSA.out.kept kd).only hoq (by omega) (by omega) (by omega) (by omega));have HMT3:=Hd ((HMT.out.kept kd).only hoq (by omega));have HMK3:=Hd ((MapK_kept HMK.out kd).only hoq (by omega));have HMQ3:Hid (MapQ (zm5 (zm5 wr.drew NX es2) NX es3) NX es3):=zpL _ _ _ (by rw[zAv];exact HMZ.out);have HIB3:=Hd ((HIB.out.kept kd).onl hoq (by omega));have HJB3:=Hd ((HJB.out.kept kd).onl hoq (by omega));have HKR3:=Hd ((HKR.out.trans kd).trans' (hoq.below (HKR.out.trans kd).size (fun i e=>by omega)));generalize zm5 (zm5 wr.drew NX es2) NX es3=w9 at *;clear kd hoq em lkA lkB stq j0 j1 jz HSA HMT HMK HMQ HNV HIB HJB HKR HE3 HSET HMZ;have j0:=HJB3.out.cell 0 _ rfl;have j1:=HJB3.out.cell 1 _ rfl;have jz:=HJB3.out.lt;have lkC:=zD3 HKY.out w9 NX es3 (t1,t2) (.int .i64 0) (zfX _) HMQ3.out;rw[HNV3.out,if_pos rfl,show ((m+1:Nat):Int)=(m:Int)+1 from rfl] at lkC;change Sem.run _ (Instr.lookup _ _ (.agg #[.string (bs t1),.string (bs t2)]) _) _=_ at lkC;have HLT:=Hd (zpM (m+1) (by omega) (by omega) w9);rw[show ((m+1:Nat):Int)=(m:Int)+1 from rfl] at HLT;have hll:=zuD (m+1);have HCM:=Hd (HCX.out (m+1));obtain ⟨lt,HLTE⟩:∃ lt,Hid (zcY (m+1)=lt):=⟨_,rfl⟩;rw[HLTE.out] at HLT hll HCM;go_wp2_with fail;refine HLT.out.mono ?_;rintro e w10 ⟨rfl,hk10⟩;have HSA10:=Hd (HSA3.out.kept hk10);have HMT10:=Hd (HMT3.out.kept hk10);have HMK10:=Hd (MapK_kept HMK3.out hk10);have HMQ10:=Hd (HMQ3.out.kept hk10);have HIB10:=Hd (HIB3.out.kept hk10);have HJB10:=Hd (HJB3.out.kept hk10);have HKR10:=Hd (HKR3.out.trans hk10);clear hk10 HLT HSA3 HMT3 HMK3 HMQ3 HIB3 HJB3 HKR3 j0 j1 jz lkC HKY;have hol:(st.out.map zcY).length=k:=(by rw[List.length_map,HOL.out]);have hgk2:(st.out.map zcY ++ u :: List.replicate (l.length - (k+1)) ([]:Bs))[k]? = some u:=by
            rw[List.getElem?_append_right (by omega),hol,Nat.sub_self];rfl
           obtain ⟨q0,q1,q2,-⟩:=zjN HSA10.out.out k u hgk2;have hsl:k<(st.out.map zcY ++ u :: List.replicate (l.length - (k+1)) ([]:Bs)).length:=(by rw[List.length_append,hol,List.length_cons];omega);have hsa11:=HSA10.out.setO k hsl lt hb1 hop;have hsm:(st.out.map zcY ++ u :: List.replicate (l.length - (k+1)) ([]:Bs)).set k lt=st.out.map zcY ++ lt :: List.replicate (l.length - (k+1)) []:=by
            have:=zAw (st.out.map zcY) u lt (List.replicate (l.length - (k+1)) ([]:Bs));rw[hol] at this;exact this
           rw[hsm] at hsa11;have HSA11:=Hd hsa11;have ho11:=Only.setCell (w:=w10) O k (.string (bs lt));have HMT11:=Hd (HMT10.out.only ho11 (by omega));have HMK11:=Hd (HMK10.out.only ho11 (by omega));have HMQ11:=Hd (HMQ10.out.only ho11 (by omega));have HIB11:=Hd (HIB10.out.onl ho11 (by omega));have HJB11:=Hd (HJB10.out.onl ho11 (by omega));have HKR11:=Hd (HKR10.out.trans' (ho11.below HKR10.out.size (fun i e=>by omega)));have HCO:Hid (O<(w10.setCell ⟨O,k,none⟩ (.string (bs lt))).heap.size/\(w10.setCell ⟨O,k,none⟩ (.string (bs lt))).cell? ⟨O,k,none⟩=some (.string (bs lt))):=by
            obtain ⟨h1,-,h2,-⟩:=zjN HSA11.out.out k lt (by rw[List.getElem?_append_right (by omega),hol,Nat.sub_self];rfl);exact ⟨h2,h1⟩
           clear hol hgk2 hsl hsa11 hsm ho11 HSA10 HMT10 HMK10 HMQ10 HIB10 HJB10 HKR10;go_upto_region 31 with fail;generalize w10.setCell _ _=w11 at *;obtain ⟨t,HTE⟩:∃ t,Hid (zhG x y lang lt=t):=⟨_,rfl⟩;refine zAy x (.slice aA x.author.length cA) (.slice aS x.editor.length cS) (.slice aF x.fields.length cF) B (B+1) I O l.length k lt t (by kernel_rfl) ⟨_,rfl,rfl,rfl,rfl⟩ ⟨_,rfl,rfl,rfl,rfl⟩ ⟨_,rfl,rfl,rfl,rfl⟩ ⟨_,rfl,rfl,rfl,rfl⟩ ⟨_,rfl,rfl,rfl,rfl⟩ ⟨_,rfl,rfl,rfl,rfl⟩ ⟨_,rfl,rfl,rfl,rfl⟩ ⟨_,rfl,rfl,rfl,rfl⟩
            (by simp) rfl rfl rfl rfl HIB11 HCO hlt (by omega) (fun w' kk=>by
             have h:=HCL.out lt (by omega) w' (HKR11.out.trans kk) (HSA11.out.yb.kept kk) (HSA11.out.lb.kept kk);rw[HTE.out] at h;exact h) ?_
           intro V w12 hV hk12;simp only[Act.put,List.setIfInBounds_toArray,List.set_cons_zero,List.set_cons_succ];rw[hV];have HTC:Hid (t=zeC X (m+1)):=(by rw[<- HTE.out];exact HCM.out);have HSA12:=Hd (HSA11.out.kept hk12);have HMT12:=Hd (HMT11.out.kept hk12);have HMK12:=Hd (MapK_kept HMK11.out hk12);have HMQ12:=Hd (HMQ11.out.kept hk12);have HIB12:=Hd (HIB11.out.kept hk12);have HJB12:=Hd (HJB11.out.kept hk12);have HKR12:=Hd (HKR11.out.trans hk12);have lkT:=zvI w12 TK st.taken t HMK12.out;clear hV hk12 HSA11 HMT11 HMK11 HMQ11 HIB11 HJB11 HKR11 HCO HTE HCM;cases hct:st.taken.contains t with
           | true =>
            rw[hct] at lkT;have hmn:m+1<fr:=by
             rcases Nat.lt_or_ge (m+1) fr with q|q
             ·exact q
             ·have e:m+1=fr:=(by omega);have h1:=HOLD2.out;rw[<- e,<- HTC.out] at h1;exact absurd (by simpa using hct) h1
            clear hct HTC;go_wp2_with fail
            go_roundg (fr - (m+1))
            case rel=>exact ⟨m+1,es3,lt,rfl,hmn,HSA12.out,HMT12.out,HMK12.out,HMQ12.out,HNV3.out,HIB12.out,HJB12.out,HKR12.out⟩
            case measure=>omega
           | false =>
            rw[hct] at lkT;have hnot:t ∉ st.taken:=(by simpa using hct);have hme:m+1=fr:=by
             rcases Nat.lt_or_ge (m+1) fr with q|q
             ·have h1:=HOLD3.out (m+1) (by omega) q;rw[<- HTC.out] at h1;exact absurd h1 hnot
             ·omega
            have up:=zEg w12 TK st.taken t HMK12.out hnot;have ho13:=zdQ w12 TK (st.taken ++ [t]);have HSA13:=Hd (HSA12.out.only ho13 (by omega) (by omega) (by omega) (by omega));have HMT13:=Hd (HMT12.out.only ho13 (by omega));have HMK13:=Hd (zgS w12 TK (st.taken ++ [t]) HMK12.out.lt);have HMQ13:=Hd (HMQ12.out.only ho13 (by omega));have HKR13:=Hd (HKR12.out.trans' (ho13.below HKR12.out.size (fun i e=>by omega)));have hos:st.out.map zcY ++ lt :: List.replicate (l.length - (k+1)) []=(zbX ps (xs.take (k+1))).out.map zcY ++ List.replicate (l.length - (k+1)) []:=by
             rw[HNX2.out,<- hme];show _=(st.out ++ [m+1]).map zcY ++ _;rw[List.map_append,List.append_assoc,List.map_cons,HLTE.out];rfl
            rw[hos] at HSA13;have HK14:Hid (MapK (zoK w12 TK (st.taken ++ [t])) TK (zbX ps (xs.take (k+1))).taken):=by
             rw[HNX2.out,<- hme];show MapK _ TK (st.taken ++ [zeC X (m+1)]);rw[<- HTC.out];exact HMK13.out
            have HNV14:Hid (∀ q,(zjM es3 q).getD (.int .i64 0)=.int .i64 ((zbX ps (xs.take (k+1))).next q:Nat)):=fun q=>by
             rw[HNV3.out q,HNX2.out,<- hme]
            clear hct hnot ho13 hos HTC hme HSA12 HMT12 HMK12 HMQ12 HIB12 HJB12 HKR12 HMK13 HNV3 HNX2 HOLD2 HOLD3;go_wp2_with fail;go_roundw
            case rel=>exact ⟨k+1,es3,by omega,by go_num,HSA13.out,HMT13.out,HK14.out,HMQ13.out,HNV14.out,HKR13.out⟩
            case measure=>simp [intOf];omega
        ·obtain rfl:k=l.length:=(by omega);rw[Nat.sub_self,List.replicate_zero,List.append_nil] at HSA;have HFX:=Hd (HF.out _ wr (Strs.outO HSA.out.out) HKR.out);clear HF HSA HMT HMK HMQ HNV;go_wp2_with fail
         (try go_ret2)
         exact HFX.out
def zEN:Bs:=[105,110,100,101,120]
def zFk:Bs:=[107,101,121]
def zD4 (s:Bs):Bs:=Lib.trimB s 32
def zEO (s:Bs):Bs:=zD4 ((zD4 s).take (zaP 33 (zD4 s)))
def zFC (x:Inl):Bool:=decide (x.kind=11) && x.cls.contains zEN
def zEP (x:Inl):Bs:=(zFB x.prs zFk).getD (zaX x.kids)
def zFl (x:Inl):Bs:=match zFC x with|true=>zEO (zEP x)|false=>[]
def okM (x:Inl):Bool:=!(zFl x == [])
def idN (n:Nat):Bs:=[105,120,45] ++ Lib.itoa n
def zEQ (used:List Bs):Nat->Nat->Nat
 | 0,n=>n+1
 | f+1,n=>if used.contains (idN (n+1))=true then zEQ used f (n+1) else n+1
def zFm (used:List Bs) (n:Nat):Nat:=zEQ used used.length n
def zCu (x:Inl):Bool:=x.id == [] && okM x
def zAA (used:List Bs) (n:Nat) (b:Bool):Nat:=match b with|true=>zFm used n|false=>n
def idS (id:Bs) (m:Nat) (b:Bool):Bs:=match b with|true=>idN m|false=>id
mutual
def mk1 (used:List Bs):Nat->Inl->Inl × Nat
 | n,.mk kind text dest title id cls prs args cits kids =>
  (.mk kind text dest title (idS id (zAA used n (zCu (.mk kind text dest title id cls prs args cits kids))) (zCu (.mk kind text dest title id cls prs args cits kids))) cls prs args cits
   (mkL used (zAA used n (zCu (.mk kind text dest title id cls prs args cits kids))) kids).1,(mkL used (zAA used n (zCu (.mk kind text dest title id cls prs args cits kids))) kids).2)
def mkL (used:List Bs):Nat->List Inl->List Inl × Nat
 | n,[]=>([],n)
 | n,x :: xs=>((mk1 used n x).1 :: (mkL used (mk1 used n x).2 xs).1,(mkL used (mk1 used n x).2 xs).2)
end
def zd2 (out:List Bs) (k:Bs):List Bs:=if out.contains k=true then out else out ++ [k]
def zf8 (ks:List Bs):List Bs:=ks.foldl zd2 []
def zcL (x:Inl):List Bs:=if x.kind=13 then x.cits.map (·.key) else []
def zD5 (xs:List Inl):List Bs:=zf8 (xs.flatMap zcL)
def zAB (xs:List Blo):List Bs:=zD5 (zbW xs)
theorem zAC (a b:List Bs):zf8 (a ++ b)=b.foldl zd2 (zf8 a):=by unfold zf8;rw[List.foldl_append]
theorem zwR (a:List Bs) (k:Bs):zf8 (a ++ [k])=zd2 (zf8 a) k:=by rw[zAC];rfl
theorem zAD (l:List Bs):(zf8 l).length<=l.length:=by
 have key:∀ (l out:List Bs),(l.foldl zd2 out).length<=out.length+l.length:=by
  intro l
  induction l with
  | nil=>intro out;exact Nat.le_refl _
  | cons k l ih =>
   intro out;have h1:=ih (zd2 out k);have h2:(zd2 out k).length<=out.length+1:=(by unfold zd2;split <;> simp);rw[List.length_cons];show (l.foldl zd2 (zd2 out k)).length<=_;omega
 simpa [zf8] using key l []
theorem zD6 {ds:List Inl} {k:Nat} {x:Inl} (h:ds[k]? = some x):(ds.take (k+1)).flatMap zcL=(ds.take k).flatMap zcL ++ zcL x:=by
 rw[zgM h,List.flatMap_append];simp
theorem zCv {ds:List Inl} {k:Nat} {x:Inl} (h:ds[k]? = some x):((ds.take k).flatMap zcL).length+(zcL x).length<=(ds.flatMap zcL).length:=by
 obtain ⟨hk,rfl⟩:=List.getElem?_eq_some_iff.1 h;have h0:ds=ds.take k ++ (ds[k] :: ds.drop (k+1)):=(by rw[<- List.drop_eq_getElem_cons hk,List.take_append_drop])
 conv=>rhs;rw[h0]
 rw[List.flatMap_append,List.flatMap_cons,List.length_append,List.length_append];omega
theorem zwS {us:List Bs} {k:Bs} (h:us.contains k=true):zd2 us k=us:=if_pos h
theorem zwT {us:List Bs} {k:Bs} (h:us.contains k=false):zd2 us k=us ++ [k]:=if_neg (by rw[h];simp)
theorem zAE {pre:List Bs} {cs:List Cit} {j:Nat} {c:Cit} (h:cs[j]? = some c):zf8 (pre ++ (cs.take (j+1)).map (·.key))=zd2 (zf8 (pre ++ (cs.take j).map (·.key))) c.key:=by
 rw[zgM h,List.map_append,<- List.append_assoc];exact zwR _ _
end Go.Proofs.YtmcoomlkbgiboaaGreatDoor
