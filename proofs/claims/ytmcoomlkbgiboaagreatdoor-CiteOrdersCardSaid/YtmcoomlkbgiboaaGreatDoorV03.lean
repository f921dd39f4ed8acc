/- person.clean and person.joined. Conditions: lengths. -/
import Derived.Test.YtmcoomlkbgiboaaGreatDoorV02
import Derived.Deep.RegionWith
set_option linter.all false
set_option maxRecDepth 100000
set_option maxHeartbeats 3200000
namespace Go.Proofs.YtmcoomlkbgiboaaGreatDoor
open Go.RowKit
def zdE (x:Bs):Bool:=!x.isEmpty
theorem zlH (sp:List Bs) (k:Nat) (x:Bs) (h:sp[k]? = some x):(sp.take (k+1)).filter zdE=(sp.take k).filter zdE ++ (if zdE x then [x] else []):=by
 obtain ⟨hk,rfl⟩:=List.getElem?_eq_some_iff.1 h;rw[List.take_succ_eq_append_getElem hk,List.filter_append];congr 1;by_cases q:zdE sp[k]=true
 ·rw[if_pos q];simp [q]
 ·rw[if_neg q];simp [q]
theorem zp8 (sp:List Bs) (k:Nat):((sp.take k).filter zdE).length<=k :=
 Nat.le_trans (List.length_filter_le _ _) (List.length_take_le _ _)
theorem zlI (xs:List Bs):(Lib.join xs [32]).length<=(xs.map (fun x=>x.length+1)).sum:=by
 cases xs with
 | nil=>simp [Lib.join_nil]
 | cons a r =>
  rw[Lib.join_cons];have:∀ r:List Bs,(Lib.joinTail [32] r).length=(r.map (fun x=>x.length+1)).sum:=by
   intro r
   induction r with
   | nil=>rfl
   | cons b r ih=>unfold Lib.joinTail at ih ⊢;simp only[List.map_cons,List.flatten_cons,List.length_append,ih,List.sum_cons];simp;omega
  rw[List.length_append,this r];simp
theorem zfO (p:Bs->Bool):∀ xs:List Bs,((xs.filter p).map (fun x=>x.length+1)).sum<=(xs.map (fun x=>x.length+1)).sum
 | []=>by simp
 | a :: r=>by
  have ih:=zfO p r;rw[List.filter_cons]
  split <;> simp <;> omega
theorem zBq (c:UInt8) (l:Bs):((zi7 c l).1.map (fun x=>x.length+1)).sum+(zi7 c l).2.length=l.length:=by
 refine zoN (P:=fun l=>((zi7 c l).1.map (fun x=>x.length+1)).sum+(zi7 c l).2.length=l.length) ?_ ?_ l
 ·simp [zi7]
 ·intro l b ih;rw[zb3];unfold zbS
  split <;> simp [List.sum_append] <;> omega
theorem znL (c:UInt8) (l:Bs):((za1 c l).map (fun x=>x.length+1)).sum=l.length+1:=by
 have:=zBq c l;unfold za1;rw[List.map_append,List.sum_append];simp;omega
theorem zx0 (l:Bs):(zlD l).length<=l.length+1:=by
 unfold zlD zxV;have h1:=zlI ((za1 32 l).filter (fun x=>!x.isEmpty));have h2:=zfO (fun x=>!x.isEmpty) (za1 32 l);have h3:=znL 32 l;omega
theorem zx1 (l:Bs) (w:World) (hg:Gnd w) (hs:l.length<=100000000) :
  Calls Tryz.prog 261 #[.string (bs l)] w fun e w'=>e=.returned (.string (bs (zlD l)))/\Kept w w':=by
 obtain ⟨i0,hi,hz0,hz1,hz2⟩:=info_parts Tryz.infoStr;have HCL:Hid (zlD l=Lib.join ((za1 32 l).filter zdE) [32]):=rfl;have hlen:=zx0 l;have hsl:(za1 32 l).length<=l.length+1:=(by rw[zcO];have:=List.count_le_length (a:=(32:UInt8)) (l:=l);omega);go_enter Tryz.func261,Tryz.ntmps261;go_wp2_with fail;refine (zp6 l 32 _ hg (by omega)).mono ?_;rintro e w1 ⟨rfl,hw1⟩;have hz:w1.heap.size=w.heap.size+1:=(by rw[hw1];simp);have hk1:Kept w w1:=(by rw[hw1];exact zaA _ _);have hc1:∀ j x,(za1 32 l)[j]? = some x->w1.cell? ⟨w.heap.size,j,none⟩=some (.string (bs x)):=by
  intro j x hx;have:=za0 w (zaF (za1 32 l)).toArray 9 w.heap.size rfl j (.string (bs x)) (zfN _ j x hx);rw[hw1];have e1:((⟨w.heap.size,0,none⟩:Addr).add j)=⟨w.heap.size,j,none⟩:=(by unfold Addr.add;split <;> simp_all);rw[e1] at this;exact this
 generalize za1 32 l=sp at *;have HC1:=Hd hc1;have HK1:=Hd hk1;have HZ:=Hd hz;have hzl:w.heap.size<w1.heap.size:=(by omega);clear hc1 hk1 hw1 hz;go_wp2_with fail;go_loopw [3,9] (fun v i wr=>∃ (k:Nat),k<=sp.length/\i=.int .i64 k/\wr.ownsRow w1.heap.size 9 1 v ((sp.take k).filter zdE).length (zaF ((sp.take k).filter zdE))/\Kept w1 wr) (fun _ i _=>sp.length - (intOf i).toNat)
 case atStart=>exact ⟨0,Nat.zero_le _,rfl,World.ownsRow_nil _ _ _ _,Kept.refl _⟩
 case round =>
  obtain ⟨k,hkl,rfl,hown,hkr⟩:=hrel;by_cases hlt:k<sp.length
  ·obtain ⟨x,hx⟩:∃ x,sp[k]? = some x:=⟨_,List.getElem?_eq_getElem hlt⟩;have hcell:wr.cell? ⟨w.heap.size,k,none⟩=some (.string (bs x)):=(hkr.cell (p:=⟨w.heap.size,k,none⟩) hzl).trans (HC1.out k x hx);have HF:=Hd (zlH sp k x hx);have hfl:=zp8 sp k;generalize (sp.take k).filter zdE=ws at *;have hsz:w1.heap.size<=wr.heap.size:=hkr.size;have HR:=Hd hkr;have HW:=Hd hown;clear hkr hx hown;by_cases he:x=[]
   ·subst he;go_wp2_with fail;go_roundw
    case rel=>exact ⟨k+1,by omega,by go_num,by rw[HF.out];simpa [zdE] using HW.out,HR.out⟩
    case measure=>simp [intOf];omega
   ·have hown:=HW.out;have hee:x.isEmpty=false:=(by simpa using he);go_wp2_with (at_builtin;refine wpList_append_own _ rfl _ _ 29 rfl w1.heap.size 9 i0 (.string ⟨#[]⟩) 1 16 Tryz.underlying29 hi hz0 hz1 hz2 rfl (by decide) _ _ _ rfl (hown.alloc _) ⟨wr.heap.size,0,none⟩ 1 1 [.string (bs x)] rfl rfl ?c1 ?c2 ?c3 ?c4 ?c5 ?_)
    case c1=>exact za0 _ #[.string (bs x)] _ _ (by simp)
    case c2=>intro u hu;simp at hu;subst hu;rfl
    case c3=>unfold maxLen;omega
    case c4=>omega
    case c5=>simp;omega
    intro v' w2 hown2 hgrow _;have HB2:=Hd ((HR.out.trans (zaA wr _)).trans' (zaI (hown.alloc _) hgrow (by simp;omega)));rw[<- za8] at hown2;have HO:=Hd hown2;clear hown2 hgrow hown;go_wp2_with fail;go_roundw
    case rel=>exact ⟨k+1,by omega,by go_num,by rw[HF.out];simpa [zdE,hee] using HO.out,HB2.out⟩
    case measure=>simp [intOf];omega
  ·have HW:=Hd (Strs.own hown);have HR:=Hd hkr;rw[List.take_of_length_le (by omega)] at HW;have hfl:(sp.filter zdE).length<=sp.length:=List.length_filter_le _ _;clear hown hkr;go_wp2_with fail;refine (zd3 _ _ _ _ HW.out (by omega) (by rw[<- HCL.out];omega)).mono ?_;rintro e w2 ⟨rfl,hk2⟩;go_wp2_with fail;go_ret;exact ⟨zc6 HCL.out.symm,(HK1.out.trans HR.out).trans hk2⟩
def zeQ (l:Bs):Option Bs:=if l=lEn then some [97,110,100] else if l=lDe then some [117,110,100] else if l=lFr then some [101,116] else if l=lEs then some [121] else none
def zd4 (l:Bs):Option Bs:=if l=lEn then some [111,116,104,101,114,115] else if l=lDe then some [97,110,100,101,114,101] else if l=lFr then some [97,117,116,114,101,115] else if l=lEs then some [111,116,114,111,115] else none
theorem zj3 {l m:Bs} (h:¬ l=m):(l == m)=false:=by simpa using h
theorem zgP (l:Bs) (n:Int) (w:World):Calls Tryz.prog 162 #[.string (bs l),.string (bs [97,110,100]),.int .i64 n] w fun e w'=>e=.returned (.tuple #[.string (bs ((zeQ l).getD [])),.bool (zeQ l).isSome])/\Kept w w':=by
 unfold zeQ;by_cases h1:l=lEn
 ·rw[if_pos h1,h1];exact zsO n w
 by_cases h2:l=lDe
 ·rw[if_neg h1,if_pos h2,h2];exact zsP n w
 by_cases h3:l=lFr
 ·rw[if_neg h1,if_neg h2,if_pos h3,h3];exact zsQ n w
 by_cases h4:l=lEs
 ·rw[if_neg h1,if_neg h2,if_neg h3,if_pos h4,h4];exact zsR n w
 ·rw[if_neg h1,if_neg h2,if_neg h3,if_neg h4];exact zxZ l _ n w (zj3 h1) (zj3 h2) (zj3 h3) (zj3 h4)
theorem zsS (l:Bs) (n:Int) (w:World):Calls Tryz.prog 162 #[.string (bs l),.string (bs [111,116,104,101,114,115]),.int .i64 n] w fun e w'=>e=.returned (.tuple #[.string (bs ((zd4 l).getD [])),.bool (zd4 l).isSome])/\Kept w w':=by
 unfold zd4;by_cases h1:l=lEn
 ·rw[if_pos h1,h1];exact zm1 n w
 by_cases h2:l=lDe
 ·rw[if_neg h1,if_pos h2,h2];exact zm2 n w
 by_cases h3:l=lFr
 ·rw[if_neg h1,if_neg h2,if_pos h3,h3];exact zm3 n w
 by_cases h4:l=lEs
 ·rw[if_neg h1,if_neg h2,if_neg h3,if_pos h4,h4];exact zm4 n w
 ·rw[if_neg h1,if_neg h2,if_neg h3,if_neg h4];exact zxZ l _ n w (zj3 h1) (zj3 h2) (zj3 h3) (zj3 h4)
def zi5:Bs:=[44,32]
def znM (l:Bs) (xs:List Bs):Bs:=if (zeQ l).isSome=false\/xs.length<2 then Lib.join xs zi5 else Lib.join xs.dropLast zi5 ++ [32] ++ (zeQ l).getD [] ++ [32] ++ xs.getLastD []
theorem zlJ (l:Bs):((zeQ l).getD []).length<=3:=by
 unfold zeQ;by_cases h1:l=lEn
 ·rw[if_pos h1];decide
 by_cases h2:l=lDe
 ·rw[if_neg h1,if_pos h2];decide
 by_cases h3:l=lFr
 ·rw[if_neg h1,if_neg h2,if_pos h3];decide
 by_cases h4:l=lEs
 ·rw[if_neg h1,if_neg h2,if_neg h3,if_pos h4];decide
 ·rw[if_neg h1,if_neg h2,if_neg h3,if_neg h4];decide
theorem zvI {w:World} {a:Option Addr} {c:Nat} {xs:List Bs} (h:Strs w (.slice a xs.length c) xs) (n:Nat) (hn:n<=xs.length):Strs w (.slice a n c) (xs.take n):=by
 obtain ⟨a',c',hv,hc,h3⟩:=h;obtain ⟨rfl,_,rfl⟩:=Value.slice.inj hv;refine ⟨a,c,by simp;omega,by simp;omega,fun q=>?_⟩;obtain ⟨g,o,ha,hg,hcell⟩:=h3 (by simp at q;omega);refine ⟨g,o,ha,hg,fun j x hx=>hcell j x ?_⟩;rw[List.getElem?_take] at hx
 split at hx
 ·exact hx
 ·cases hx
theorem zx2 (l:Bs) (v:Value) (xs:List Bs) (w:World) (hv:Strs w v xs) (hN:xs.length<=1000000) (hlen:(Lib.join xs zi5).length<=10000000) (hlen2:(Lib.join xs.dropLast zi5).length<=10000000) (hlast:(xs.getLastD []).length<=10000000) :
  Calls Tryz.prog 164 #[.string (bs l),v] w fun e w'=>e=.returned (.string (bs (znM l xs)))/\Kept w w':=by
 have HL:Hid (znM l xs=if (zeQ l).isSome=false\/xs.length<2 then Lib.join xs zi5 else Lib.join xs.dropLast zi5 ++ [32] ++ (zeQ l).getD [] ++ [32] ++ xs.getLastD []):=rfl;have HT:=Hd (fun w=>zgP l 1 w);have hal:=zlJ l;have HV:=Hd hv;have HSP:Hid (zi5=[44,32]):=rfl;generalize (zeQ l).getD []=an at *;generalize (zeQ l).isSome=ok at *;obtain ⟨a,c,rfl,hc,h3⟩:=hv;have H3:=Hd h3;clear h3;cases ok
 ·go_enter Tryz.func164,Tryz.ntmps164;go_wp2_with fail;refine (HT.out _).mono ?_;rintro e w1 ⟨rfl,hk1⟩;have HK1:=Hd hk1;clear hk1;go_wp2_with fail;rw[<- HSP.out];refine (zd3 _ xs _ _ (HV.out.kept HK1.out) (by omega) (by omega)).mono ?_;rintro e w2 ⟨rfl,hk2⟩;have HK2:=Hd (HK1.out.trans hk2);clear hk2;go_wp2_with fail;go_ret;exact ⟨zc6 (by rw[HL.out,if_pos (.inl (by first|rfl|trivial))]),HK2.out⟩
 by_cases h2:xs.length<2
 ·go_enter Tryz.func164,Tryz.ntmps164;go_wp2_with fail;refine (HT.out _).mono ?_;rintro e w1 ⟨rfl,hk1⟩;have HK1:=Hd hk1;clear hk1;go_wp2_with fail;rw[<- HSP.out];refine (zd3 _ xs _ _ (HV.out.kept HK1.out) (by omega) (by omega)).mono ?_;rintro e w2 ⟨rfl,hk2⟩;have HK2:=Hd (HK1.out.trans hk2);clear hk2;go_wp2_with fail;go_ret;exact ⟨zc6 (by rw[HL.out,if_pos (.inr h2)]),HK2.out⟩
 ·obtain ⟨g,o,rfl,hg,hcell⟩:=H3.out (by omega);have hx:xs[xs.length - 1]? = some (xs.getLastD []):=by
   rw[List.getLastD_eq_getLast?,List.getLast?_eq_getElem?,List.getElem?_eq_getElem (by omega)];rfl
  have hcl:=hcell (xs.length - 1) _ hx;have HE:Hid (znM l xs=Lib.join xs.dropLast zi5 ++ [32] ++ an ++ [32] ++ xs.getLastD []):=(by show _=_;rw[HL.out,if_neg (by simp;omega)]);have HD:Hid (xs.dropLast=xs.take (xs.length - 1)):=(by show _=_;rw[List.dropLast_eq_take]);generalize xs.getLastD []=la at *;have HC:=Hd hcl;clear hcl hx hcell;go_enter Tryz.func164,Tryz.ntmps164;go_wp2_with fail;refine (HT.out _).mono ?_;rintro e w1 ⟨rfl,hk1⟩;have HK1:=Hd hk1;have c1:w1.cell? ⟨g,o+(xs.length - 1),none⟩=some (.string (bs la)):=(hk1.cell (p:=⟨g,o+(xs.length - 1),none⟩) hg).trans HC.out;have hg1:g<w1.heap.size:=(by have:=hk1.size;omega);clear hk1;go_wp2_with fail;have HJ:Hid (∀ w2,Kept w1 w2->Calls Tryz.prog 88 #[.slice (some ⟨g,o,none⟩) (xs.length - 1) c,.string (bs [44,32])] w2 fun e w'=>e=.returned (.string (bs (Lib.join xs.dropLast zi5)))/\Kept w2 w'):=by
   intro w2 hk;have hst:=zvI (HV.out.kept (HK1.out.trans hk)) (xs.length - 1) (by omega);rw[<- HD.out] at hst;exact zd3 _ xs.dropLast zi5 w2 hst (by simp;omega) (by omega)
  have HC2:Hid (∀ {w2:World},Kept w1.drew w2->w2.cell? ⟨g,o+(xs.length - 1),none⟩=some (.string (bs la))/\g<w2.heap.size/\Kept w w2):=by
   intro w2 hk;have hk:Kept w1 w2:=(zaB w1 1).trans hk;exact ⟨(hk.cell (p:=⟨g,o+(xs.length - 1),none⟩) hg1).trans c1,by have:=hk.size;omega,HK1.out.trans hk⟩
  generalize hjl:Lib.join xs.dropLast zi5=jl at *;have hsum:IntKind.i64.wrap ((xs.length:Int) - 1)=(xs.length:Int) - 1:=IntWalk.i64_in _ (by omega)
  go_region_with (go_at_call 88;refine (HJ.out _ (zaB w1 1)).mono ?_;rintro e w2 ⟨rfl,hk2⟩;obtain ⟨q1,q2,q3⟩:=HC2.out hk2;have HQ:=Hd q3;clear q3 hk2)
  all_goals
   go_wp2_with fail;go_ret;exact ⟨zc6 (by rw[HE.out];simp),HQ.out⟩
def zbM (xs:List Bs):Bs:=Lib.join (xs.filter zdE) [32]
def zlK (xs:List Bs):Nat:=(xs.map (fun x=>x.length+1)).sum
theorem zdH (xs:List Bs):(zbM xs).length<=zlK xs:=Nat.le_trans (zlI _) (zfO _ _)
theorem zuA (xs:List Bs):xs.length<=zlK xs:=by
 unfold zlK
 induction xs with
 | nil=>simp
 | cons a r ih=>simp only[List.map_cons,List.sum_cons,List.length_cons];omega
theorem zx3 (xs:List Bs) (k:Nat):zlK (xs.take k)<=zlK xs:=by
 unfold zlK
 conv=>rhs;rw[<- List.take_append_drop k xs]
 rw[List.map_append,List.sum_append];omega
theorem zp9 (xs:List Bs) (x:Bs):zbM (xs ++ [x])=(if zbM xs≠[]/\x≠[] then zbM xs ++ [32] else zbM xs) ++ x:=by
 unfold zbM;rw[List.filter_append];by_cases hx:x=[]
 ·subst hx;simp [zdE]
 ·have e:[x].filter zdE=[x]:=(by simp [zdE,hx]);rw[e,zxW];by_cases hf:xs.filter zdE=[]
  ·rw[hf];simp [Lib.join_nil]
  ·have hne:Lib.join (xs.filter zdE) [32]≠[]:=by
    cases hq:xs.filter zdE with
    | nil=>exact absurd hq hf
    | cons a r =>
     have ha:a∈xs.filter zdE:=(by rw[hq];simp);have ha':a≠[]:=(by have:=(List.mem_filter.1 ha).2;simpa [zdE] using this);rw[Lib.join_cons];simp [ha']
   rw[if_neg hf,if_pos ⟨hne,hx⟩]
theorem znN (v:Value) (sp:List Bs) (w:World) (hv:Strs w v sp) (hs:zlK sp<=100000000) :
  Calls Tryz.prog 183 #[v] w fun e w'=>e=.returned (.string (bs (zbM sp)))/\Kept w w':=by
 obtain ⟨i0,hi,hz0,hz1,hz2⟩:=info_parts Tryz.infoStr;have HCL:Hid (zbM sp=Lib.join (sp.filter zdE) [32]):=rfl;have hlen:=zdH sp;have hsl:=zuA sp;obtain ⟨a,c,rfl,hc,h3⟩:=hv;have H3:=Hd h3;clear h3;go_enter Tryz.func183,Tryz.ntmps183;go_wp2_with fail;simp only[zeB];go_loopw [3,8] (fun v i wr=>∃ (k:Nat),k<=sp.length/\i=.int .i64 k/\wr.ownsRow w.heap.size 9 1 v ((sp.take k).filter zdE).length (zaF ((sp.take k).filter zdE))/\Kept w wr) (fun _ i _=>sp.length - (intOf i).toNat)
 case atStart=>exact ⟨0,Nat.zero_le _,rfl,World.ownsRow_nil _ _ _ _,Kept.refl _⟩
 case round =>
  obtain ⟨k,hkl,rfl,hown,hkr⟩:=hrel;by_cases hlt:k<sp.length
  ·obtain ⟨x,hx⟩:∃ x,sp[k]? = some x:=⟨_,List.getElem?_eq_getElem hlt⟩;obtain ⟨g,o,rfl,hg,hcc⟩:=H3.out (by omega);have hcell:wr.cell? ⟨g,o+k,none⟩=some (.string (bs x)):=(hkr.cell (p:=⟨g,o+k,none⟩) hg).trans (hcc k x hx);have HF:=Hd (zlH sp k x hx);have hfl:=zp8 sp k;generalize (sp.take k).filter zdE=ws at *;have hsz:w.heap.size<=wr.heap.size:=hkr.size;have HR:=Hd hkr;have HW:=Hd hown;clear hkr hx hown hcc;by_cases he:x=[]
   ·subst he;go_wp2_with fail;go_roundw
    case rel=>exact ⟨k+1,by omega,by go_num,by rw[HF.out];simpa [zdE] using HW.out,HR.out⟩
    case measure=>simp [intOf];omega
   ·have hown:=HW.out;have hee:x.isEmpty=false:=(by simpa using he);go_wp2_with (at_builtin;refine wpList_append_own _ rfl _ _ 29 rfl w.heap.size 9 i0 (.string ⟨#[]⟩) 1 16 Tryz.underlying29 hi hz0 hz1 hz2 rfl (by decide) _ _ _ rfl (hown.alloc _) ⟨wr.heap.size,0,none⟩ 1 1 [.string (bs x)] rfl rfl ?c1 ?c2 ?c3 ?c4 ?c5 ?_)
    case c1=>exact za0 _ #[.string (bs x)] _ _ (by simp)
    case c2=>intro u hu;simp at hu;subst hu;rfl
    case c3=>unfold maxLen;omega
    case c4=>omega
    case c5=>simp;omega
    intro v' w2 hown2 hgrow _;have HB2:=Hd ((HR.out.trans (zaA wr _)).trans' (zaI (hown.alloc _) hgrow (by simp;omega)));rw[<- za8] at hown2;have HO:=Hd hown2;clear hown2 hgrow hown;go_wp2_with fail;go_roundw
    case rel=>exact ⟨k+1,by omega,by go_num,by rw[HF.out];simpa [zdE,hee] using HO.out,HB2.out⟩
    case measure=>simp [intOf];omega
  ·have HW:=Hd (Strs.own hown);have HR:=Hd hkr;rw[List.take_of_length_le (by omega)] at HW;have hfl:(sp.filter zdE).length<=sp.length:=List.length_filter_le _ _;clear hown hkr;go_wp2_with fail;refine (zd3 _ _ _ _ HW.out (by omega) (by rw[<- HCL.out];omega)).mono ?_;rintro e w2 ⟨rfl,hk2⟩;go_wp2_with fail;go_ret;exact ⟨zc6 HCL.out.symm,HR.out.trans hk2⟩
theorem zlL (v:Value) (sp:List Bs) (w:World) (hv:Strs w v sp) (hs:zlK sp<=100000000) :
  Calls Tryz.prog 236 #[v] w fun e w'=>e=.returned (.string (bs (zbM sp)))/\w=w':=by
 have hsl:=zuA sp;obtain ⟨a,c,rfl,hc,h3⟩:=hv;have H3:=Hd h3;clear h3;go_enter Tryz.func236,Tryz.ntmps236;go_wp2_with fail
 go_loop [3,4] (fun v i=>∃ (k:Nat) (o:Bs),k<=sp.length/\i=.int .i64 k/\v=.string (bs o)/\Hid (o=zbM (sp.take k))) (fun _ i=>sp.length - (intOf i).toNat)
 case atStart=>exact ⟨0,[],Nat.zero_le _,rfl,rfl,rfl⟩
 case round =>
  obtain ⟨k,t,hkl,rfl,rfl,HT⟩:=hrel;by_cases hlt:k<sp.length
  ·obtain ⟨x,hx⟩:∃ x,sp[k]? = some x:=⟨_,List.getElem?_eq_getElem hlt⟩;obtain ⟨g,o,rfl,hg,hcc⟩:=H3.out (by omega);have hcell:=hcc k x hx;have htk:sp.take (k+1)=sp.take k ++ [x]:=by
    obtain ⟨hk,rfl⟩:=List.getElem?_eq_some_iff.1 hx;exact List.take_succ_eq_append_getElem hk
   have HF:Hid (zbM (sp.take (k+1))=(if t≠[]/\x≠[] then t ++ [32] else t) ++ x):=(by show _=_;rw[htk,zp9,<- HT.out]);have hb1:(zbM (sp.take (k+1))).length<=100000000:=Nat.le_trans (Nat.le_trans (zdH _) (zx3 _ _)) hs;rw[HF.out] at hb1;clear hcc hx htk;by_cases ht:t=[]
   ·subst ht;simp only[ne_eq,not_true_eq_false,false_and,if_false,List.nil_append] at hb1;go_wp2_with fail
    go_round
    case rel=>exact ⟨k+1,x,by omega,by go_num,by simp,by show _=_;rw[HF.out];simp⟩
    case measure=>simp [intOf];omega
   ·have hte:t.isEmpty=false:=(by simpa using ht);by_cases he:x=[]
    ·subst he;simp only[ne_eq,not_true_eq_false,and_false,if_false,List.append_nil] at hb1;go_wp2_with fail
     go_round
     case rel=>exact ⟨k+1,t,by omega,by go_num,by simp,by show _=_;rw[HF.out];simp⟩
     case measure=>simp [intOf];omega
    ·have hee:x.isEmpty=false:=(by simpa using he);rw[if_pos ⟨ht,he⟩] at hb1;simp only[List.length_append,List.length_cons,List.length_nil] at hb1;go_wp2_with fail
     go_round
     case rel=>exact ⟨k+1,t ++ [32] ++ x,by omega,by go_num,by simp,by show _=_;rw[HF.out,if_pos ⟨ht,he⟩]⟩
     case measure=>simp [intOf];omega
  ·go_wp2_with fail;go_ret;exact ⟨zc6 (by rw[HT.out,List.take_of_length_le (by omega)]),rfl⟩
abbrev zh2 (f g p s:Bs):Value:=.agg #[.string (bs f),.string (bs g),.string (bs p),.string (bs s)]
theorem zoQ (w:World) (arr:Array Value) (xs:List Bs) (n:Nat) (hn:n=xs.length) (h:arr.toList=zaF xs) (e:TypeId) (g:Nat) (hg:g=w.heap.size):Strs (w.alloc (.cells arr e)) (.slice (some ⟨g,0,none⟩) n n) xs:=by
 subst hn hg;refine ⟨_,_,rfl,Nat.le_refl _,fun _=>⟨w.heap.size,0,rfl,by simp,fun j x hx=>?_⟩⟩;have:=za0 w arr e w.heap.size rfl j (.string (bs x)) (by rw[h];exact zfN xs j x hx);have e1:((⟨w.heap.size,0,none⟩:Addr).add j)=⟨w.heap.size,j,none⟩:=(by unfold Addr.add;split <;> simp_all);rw[e1] at this;rw[Nat.zero_add];exact this
theorem zBr (f g p s:Bs) (w:World) (h:zlK [g,p,f,s]<=100000000) :
  Calls Tryz.prog 163 #[zh2 f g p s] w fun e w'=>e=.returned (.string (bs (zbM [g,p,f,s])))/\Kept w w':=by
 go_enter Tryz.func163,Tryz.ntmps163;go_wp2_with fail;refine (znN _ [g,p,f,s] _ (zoQ _ _ _ _ rfl rfl _ _ (by simp)) h).mono ?_;rintro e w1 ⟨rfl,hk⟩;go_wp2_with fail;go_ret;exact ⟨rfl,((zaA _ _).trans (zaA _ _)).trans hk⟩
theorem zqA (f g p s:Bs) (w:World) (h:zlK [p,f]<=100000000) :
  Calls Tryz.prog 136 #[zh2 f g p s] w fun e w'=>e=.returned (.string (bs (zbM [p,f])))/\Kept w w':=by
 go_enter Tryz.func136,Tryz.ntmps136;go_wp2_with fail;refine (znN _ [p,f] _ (zoQ _ _ _ _ rfl rfl _ _ (by simp)) h).mono ?_;rintro e w1 ⟨rfl,hk⟩;go_wp2_with fail;go_ret;exact ⟨rfl,((zaA _ _).trans (zaA _ _)).trans hk⟩
theorem zvJ (f g p s:Bs) (w:World) (h:zlK [p,f]<=100000000) :
  Calls Tryz.prog 199 #[zh2 f g p s] w fun e w'=>e=.returned (.string (bs (zbM [p,f])))/\Kept w w':=by
 go_enter Tryz.func199,Tryz.ntmps199;go_wp2_with fail;refine (zlL _ [p,f] _ (zoQ _ _ _ _ rfl rfl _ _ (by simp)) h).mono ?_;rintro e w1 ⟨rfl,rfl⟩;go_wp2_with fail;go_ret;exact ⟨rfl,(zaA _ _).trans (zaA _ _)⟩
end Go.Proofs.YtmcoomlkbgiboaaGreatDoor
