/- person.clean and person.joined. Conditions: lengths. -/
import Derived.Test.YtmcoomlkbgiboaaGreatDoorU02
import Derived.Deep.RegionWith
set_option linter.all false
set_option maxRecDepth 100000
set_option maxHeartbeats 3200000
namespace Go.Proofs.YtmcoomlkbgiboaaGreatDoor
open Go.RowKit
def zeG (x:Bs):Bool:=!x.isEmpty
theorem zk7 (sp:List Bs) (k:Nat) (x:Bs) (h:sp[k]? = some x):(sp.take (k+1)).filter zeG=(sp.take k).filter zeG ++ (if zeG x then [x] else []):=by
 obtain ⟨hk,rfl⟩:=List.getElem?_eq_some_iff.1 h;rw[List.take_succ_eq_append_getElem hk,List.filter_append];congr 1;by_cases q:zeG sp[k]=true
 ·rw[if_pos q];simp [q]
 ·rw[if_neg q];simp [q]
theorem zpZ (sp:List Bs) (k:Nat):((sp.take k).filter zeG).length<=k :=
 Nat.le_trans (List.length_filter_le _ _) (List.length_take_le _ _)
theorem zk8 (xs:List Bs):(Lib.join xs [32]).length<=(xs.map (fun x=>x.length+1)).sum:=by
 cases xs with
 | nil=>simp [Lib.join_nil]
 | cons a r =>
  rw[Lib.join_cons];have:∀ r:List Bs,(Lib.joinTail [32] r).length=(r.map (fun x=>x.length+1)).sum:=by
   intro r
   induction r with
   | nil=>rfl
   | cons b r ih=>unfold Lib.joinTail at ih ⊢;simp only[List.map_cons,List.flatten_cons,List.length_append,ih,List.sum_cons];simp;omega
  rw[List.length_append,this r];simp
theorem zfN (p:Bs->Bool):∀ xs:List Bs,((xs.filter p).map (fun x=>x.length+1)).sum<=(xs.map (fun x=>x.length+1)).sum
 | []=>by simp
 | a :: r=>by
  have ih:=zfN p r;rw[List.filter_cons]
  split <;> simp <;> omega
theorem zAU (c:UInt8) (l:Bs):((zpU c l).1.map (fun x=>x.length+1)).sum+(zpU c l).2.length=l.length:=by
 refine zn7 (P:=fun l=>((zpU c l).1.map (fun x=>x.length+1)).sum+(zpU c l).2.length=l.length) ?_ ?_ l
 ·simp [zpU]
 ·intro l b ih;rw[zf9];unfold zb7
  split <;> simp [List.sum_append] <;> omega
theorem zuS (c:UInt8) (l:Bs):((za4 c l).map (fun x=>x.length+1)).sum=l.length+1:=by
 have:=zAU c l;unfold za4;rw[List.map_append,List.sum_append];simp;omega
theorem zxB (l:Bs):(zk2 l).length<=l.length+1:=by
 unfold zk2 zw6;have h1:=zk8 ((za4 32 l).filter (fun x=>!x.isEmpty));have h2:=zfN (fun x=>!x.isEmpty) (za4 32 l);have h3:=zuS 32 l;omega
theorem zxC (l:Bs) (w:World) (hg:Gnd w) (hs:l.length<=100000000) :
  Calls Tryz.prog 261 #[.string (bs l)] w fun e w'=>e=.returned (.string (bs (zk2 l)))/\Kept w w':=by
 obtain ⟨i0,hi,hz0,hz1,hz2⟩:=info_parts Tryz.infoStr;have HCL:Hid (zk2 l=Lib.join ((za4 32 l).filter zeG) [32]):=rfl;have hlen:=zxB l;have hsl:(za4 32 l).length<=l.length+1:=(by rw[zc5];have:=List.count_le_length (a:=(32:UInt8)) (l:=l);omega);go_enter Tryz.func261,Tryz.ntmps261;go_wp2_with fail;refine (zpX l 32 _ hg (by omega)).mono ?_;rintro e w1 ⟨rfl,hw1⟩;have hz:w1.heap.size=w.heap.size+1:=(by rw[hw1];simp);have hk1:Kept w w1:=(by rw[hw1];exact zaA _ _);have hc1:∀ j x,(za4 32 l)[j]? = some x->w1.cell? ⟨w.heap.size,j,none⟩=some (.string (bs x)):=by
  intro j x hx;have:=zaV w (zaH (za4 32 l)).toArray 9 w.heap.size rfl j (.string (bs x)) (zhH _ j x hx);rw[hw1];have e1:((⟨w.heap.size,0,none⟩:Addr).add j)=⟨w.heap.size,j,none⟩:=(by unfold Addr.add;split <;> simp_all);rw[e1] at this;exact this
 generalize za4 32 l=sp at *;have HC1:=Hd hc1;have HK1:=Hd hk1;have HZ:=Hd hz;have hzl:w.heap.size<w1.heap.size:=(by omega);clear hc1 hk1 hw1 hz;go_wp2_with fail;go_loopw [3,9] (fun v i wr=>∃ (k:Nat),k<=sp.length/\i=.int .i64 k/\wr.ownsRow w1.heap.size 9 1 v ((sp.take k).filter zeG).length (zaH ((sp.take k).filter zeG))/\Kept w1 wr) (fun _ i _=>sp.length - (intOf i).toNat)
 case atStart=>exact ⟨0,Nat.zero_le _,rfl,World.ownsRow_nil _ _ _ _,Kept.refl _⟩
 case round =>
  obtain ⟨k,hkl,rfl,hown,hkr⟩:=hrel;by_cases hlt:k<sp.length
  ·obtain ⟨x,hx⟩:∃ x,sp[k]? = some x:=⟨_,List.getElem?_eq_getElem hlt⟩;have hcell:wr.cell? ⟨w.heap.size,k,none⟩=some (.string (bs x)):=(hkr.cell (p:=⟨w.heap.size,k,none⟩) hzl).trans (HC1.out k x hx);have HF:=Hd (zk7 sp k x hx);have hfl:=zpZ sp k;generalize (sp.take k).filter zeG=ws at *;have hsz:w1.heap.size<=wr.heap.size:=hkr.size;have HR:=Hd hkr;have HW:=Hd hown;clear hkr hx hown;by_cases he:x=[]
   ·subst he;go_wp2_with fail;go_roundw
    case rel=>exact ⟨k+1,by omega,by go_num,by rw[HF.out];simpa [zeG] using HW.out,HR.out⟩
    case measure=>simp [intOf];omega
   ·have hown:=HW.out;have hee:x.isEmpty=false:=(by simpa using he);go_wp2_with (at_builtin;refine wpList_append_own _ rfl _ _ 29 rfl w1.heap.size 9 i0 (.string ⟨#[]⟩) 1 16 Tryz.underlying29 hi hz0 hz1 hz2 rfl (by decide) _ _ _ rfl (hown.alloc _) ⟨wr.heap.size,0,none⟩ 1 1 [.string (bs x)] rfl rfl ?c1 ?c2 ?c3 ?c4 ?c5 ?_)
    case c1=>exact zaV _ #[.string (bs x)] _ _ (by simp)
    case c2=>intro u hu;simp at hu;subst hu;rfl
    case c3=>unfold maxLen;omega
    case c4=>omega
    case c5=>simp;omega
    intro v' w2 hown2 hgrow _;have HB2:=Hd ((HR.out.trans (zaA wr _)).trans' (zaG (hown.alloc _) hgrow (by simp;omega)));rw[<- zaT] at hown2;have HO:=Hd hown2;clear hown2 hgrow hown;go_wp2_with fail;go_roundw
    case rel=>exact ⟨k+1,by omega,by go_num,by rw[HF.out];simpa [zeG,hee] using HO.out,HB2.out⟩
    case measure=>simp [intOf];omega
  ·have HW:=Hd (Strs.own hown);have HR:=Hd hkr;rw[List.take_of_length_le (by omega)] at HW;have hfl:(sp.filter zeG).length<=sp.length:=List.length_filter_le _ _;clear hown hkr;go_wp2_with fail;refine (zd5 _ _ _ _ HW.out (by omega) (by rw[<- HCL.out];omega)).mono ?_;rintro e w2 ⟨rfl,hk2⟩;go_wp2_with fail;go_ret;exact ⟨zb1 HCL.out.symm,(HK1.out.trans HR.out).trans hk2⟩
def zb0 (l:Bs):Option Bs:=if l=lEn then some [97,110,100] else if l=lDe then some [117,110,100] else if l=lFr then some [101,116] else if l=lEs then some [121] else none
def zbV (l:Bs):Option Bs:=if l=lEn then some [111,116,104,101,114,115] else if l=lDe then some [97,110,100,101,114,101] else if l=lFr then some [97,117,116,114,101,115] else if l=lEs then some [111,116,114,111,115] else none
theorem zjW {l m:Bs} (h:¬ l=m):(l == m)=false:=by simpa using h
theorem zgO (l:Bs) (n:Int) (w:World):Calls Tryz.prog 162 #[.string (bs l),.string (bs [97,110,100]),.int .i64 n] w fun e w'=>e=.returned (.tuple #[.string (bs ((zb0 l).getD [])),.bool (zb0 l).isSome])/\Kept w w':=by
 unfold zb0;by_cases h1:l=lEn
 ·rw[if_pos h1,h1];exact zr6 n w
 by_cases h2:l=lDe
 ·rw[if_neg h1,if_pos h2,h2];exact zr7 n w
 by_cases h3:l=lFr
 ·rw[if_neg h1,if_neg h2,if_pos h3,h3];exact zr8 n w
 by_cases h4:l=lEs
 ·rw[if_neg h1,if_neg h2,if_neg h3,if_pos h4,h4];exact zr9 n w
 ·rw[if_neg h1,if_neg h2,if_neg h3,if_neg h4];exact zxA l _ n w (zjW h1) (zjW h2) (zjW h3) (zjW h4)
theorem zsA (l:Bs) (n:Int) (w:World):Calls Tryz.prog 162 #[.string (bs l),.string (bs [111,116,104,101,114,115]),.int .i64 n] w fun e w'=>e=.returned (.tuple #[.string (bs ((zbV l).getD [])),.bool (zbV l).isSome])/\Kept w w':=by
 unfold zbV;by_cases h1:l=lEn
 ·rw[if_pos h1,h1];exact zmO n w
 by_cases h2:l=lDe
 ·rw[if_neg h1,if_pos h2,h2];exact zmP n w
 by_cases h3:l=lFr
 ·rw[if_neg h1,if_neg h2,if_pos h3,h3];exact zmQ n w
 by_cases h4:l=lEs
 ·rw[if_neg h1,if_neg h2,if_neg h3,if_pos h4,h4];exact zmR n w
 ·rw[if_neg h1,if_neg h2,if_neg h3,if_neg h4];exact zxA l _ n w (zjW h1) (zjW h2) (zjW h3) (zjW h4)
def zdO:Bs:=[44,32]
def zd4 (l:Bs) (xs:List Bs):Bs:=if (zb0 l).isSome=false\/xs.length<2 then Lib.join xs zdO else Lib.join xs.dropLast zdO ++ [32] ++ (zb0 l).getD [] ++ [32] ++ xs.getLastD []
theorem zeY (l:Bs):((zb0 l).getD []).length<=3:=by
 unfold zb0;by_cases h1:l=lEn
 ·rw[if_pos h1];decide
 by_cases h2:l=lDe
 ·rw[if_neg h1,if_pos h2];decide
 by_cases h3:l=lFr
 ·rw[if_neg h1,if_neg h2,if_pos h3];decide
 by_cases h4:l=lEs
 ·rw[if_neg h1,if_neg h2,if_neg h3,if_pos h4];decide
 ·rw[if_neg h1,if_neg h2,if_neg h3,if_neg h4];decide
theorem zuT {w:World} {a:Option Addr} {c:Nat} {xs:List Bs} (h:Strs w (.slice a xs.length c) xs) (n:Nat) (hn:n<=xs.length):Strs w (.slice a n c) (xs.take n):=by
 obtain ⟨a',c',hv,hc,h3⟩:=h;obtain ⟨rfl,_,rfl⟩:=Value.slice.inj hv;refine ⟨a,c,by simp;omega,by simp;omega,fun q=>?_⟩;obtain ⟨g,o,ha,hg,hcell⟩:=h3 (by simp at q;omega);refine ⟨g,o,ha,hg,fun j x hx=>hcell j x ?_⟩;rw[List.getElem?_take] at hx
 split at hx
 ·exact hx
 ·cases hx
theorem zxD (l:Bs) (v:Value) (xs:List Bs) (w:World) (hv:Strs w v xs) (hN:xs.length<=1000000) (hlen:(Lib.join xs zdO).length<=10000000) (hlen2:(Lib.join xs.dropLast zdO).length<=10000000) (hlast:(xs.getLastD []).length<=10000000) :
  Calls Tryz.prog 164 #[.string (bs l),v] w fun e w'=>e=.returned (.string (bs (zd4 l xs)))/\Kept w w':=by
 have HL:Hid (zd4 l xs=if (zb0 l).isSome=false\/xs.length<2 then Lib.join xs zdO else Lib.join xs.dropLast zdO ++ [32] ++ (zb0 l).getD [] ++ [32] ++ xs.getLastD []):=rfl;have HT:=Hd (fun w=>zgO l 1 w);have hal:=zeY l;have HV:=Hd hv;have HSP:Hid (zdO=[44,32]):=rfl;generalize (zb0 l).getD []=an at *;generalize (zb0 l).isSome=ok at *;obtain ⟨a,c,rfl,hc,h3⟩:=hv;have H3:=Hd h3;clear h3;cases ok
 ·go_enter Tryz.func164,Tryz.ntmps164;go_wp2_with fail;refine (HT.out _).mono ?_;rintro e w1 ⟨rfl,hk1⟩;have HK1:=Hd hk1;clear hk1;go_wp2_with fail;rw[<- HSP.out];refine (zd5 _ xs _ _ (HV.out.kept HK1.out) (by omega) (by omega)).mono ?_;rintro e w2 ⟨rfl,hk2⟩;have HK2:=Hd (HK1.out.trans hk2);clear hk2;go_wp2_with fail;go_ret;exact ⟨zb1 (by rw[HL.out,if_pos (.inl (by first|rfl|trivial))]),HK2.out⟩
 by_cases h2:xs.length<2
 ·go_enter Tryz.func164,Tryz.ntmps164;go_wp2_with fail;refine (HT.out _).mono ?_;rintro e w1 ⟨rfl,hk1⟩;have HK1:=Hd hk1;clear hk1;go_wp2_with fail;rw[<- HSP.out];refine (zd5 _ xs _ _ (HV.out.kept HK1.out) (by omega) (by omega)).mono ?_;rintro e w2 ⟨rfl,hk2⟩;have HK2:=Hd (HK1.out.trans hk2);clear hk2;go_wp2_with fail;go_ret;exact ⟨zb1 (by rw[HL.out,if_pos (.inr h2)]),HK2.out⟩
 ·obtain ⟨g,o,rfl,hg,hcell⟩:=H3.out (by omega);have hx:xs[xs.length - 1]? = some (xs.getLastD []):=by
   rw[List.getLastD_eq_getLast?,List.getLast?_eq_getElem?,List.getElem?_eq_getElem (by omega)];rfl
  have hcl:=hcell (xs.length - 1) _ hx;have HE:Hid (zd4 l xs=Lib.join xs.dropLast zdO ++ [32] ++ an ++ [32] ++ xs.getLastD []):=(by show _=_;rw[HL.out,if_neg (by simp;omega)]);have HD:Hid (xs.dropLast=xs.take (xs.length - 1)):=(by show _=_;rw[List.dropLast_eq_take]);generalize xs.getLastD []=la at *;have HC:=Hd hcl;clear hcl hx hcell;go_enter Tryz.func164,Tryz.ntmps164;go_wp2_with fail;refine (HT.out _).mono ?_;rintro e w1 ⟨rfl,hk1⟩;have HK1:=Hd hk1;have c1:w1.cell? ⟨g,o+(xs.length - 1),none⟩=some (.string (bs la)):=(hk1.cell (p:=⟨g,o+(xs.length - 1),none⟩) hg).trans HC.out;have hg1:g<w1.heap.size:=(by have:=hk1.size;omega);clear hk1;go_wp2_with fail;have HJ:Hid (∀ w2,Kept w1 w2->Calls Tryz.prog 88 #[.slice (some ⟨g,o,none⟩) (xs.length - 1) c,.string (bs [44,32])] w2 fun e w'=>e=.returned (.string (bs (Lib.join xs.dropLast zdO)))/\Kept w2 w'):=by
   intro w2 hk;have hst:=zuT (HV.out.kept (HK1.out.trans hk)) (xs.length - 1) (by omega);rw[<- HD.out] at hst;exact zd5 _ xs.dropLast zdO w2 hst (by simp;omega) (by omega)
  have HC2:Hid (∀ {w2:World},Kept w1.drew w2->w2.cell? ⟨g,o+(xs.length - 1),none⟩=some (.string (bs la))/\g<w2.heap.size/\Kept w w2):=by
   intro w2 hk;have hk:Kept w1 w2:=(zaB w1 1).trans hk;exact ⟨(hk.cell (p:=⟨g,o+(xs.length - 1),none⟩) hg1).trans c1,by have:=hk.size;omega,HK1.out.trans hk⟩
  generalize hjl:Lib.join xs.dropLast zdO=jl at *;have hsum:IntKind.i64.wrap ((xs.length:Int) - 1)=(xs.length:Int) - 1:=IntWalk.i64_in _ (by omega)
  go_region_with (go_at_call 88;refine (HJ.out _ (zaB w1 1)).mono ?_;rintro e w2 ⟨rfl,hk2⟩;obtain ⟨q1,q2,q3⟩:=HC2.out hk2;have HQ:=Hd q3;clear q3 hk2)
  all_goals
   go_wp2_with fail;go_ret;exact ⟨zb1 (by rw[HE.out];simp),HQ.out⟩
def zbS (xs:List Bs):Bs:=Lib.join (xs.filter zeG) [32]
def zmS (xs:List Bs):Nat:=(xs.map (fun x=>x.length+1)).sum
theorem zeB (xs:List Bs):(zbS xs).length<=zmS xs:=Nat.le_trans (zk8 _) (zfN _ _)
theorem ztK (xs:List Bs):xs.length<=zmS xs:=by
 unfold zmS
 induction xs with
 | nil=>simp
 | cons a r ih=>simp only[List.map_cons,List.sum_cons,List.length_cons];omega
theorem zxE (xs:List Bs) (k:Nat):zmS (xs.take k)<=zmS xs:=by
 unfold zmS
 conv=>rhs;rw[<- List.take_append_drop k xs]
 rw[List.map_append,List.sum_append];omega
theorem zp0 (xs:List Bs) (x:Bs):zbS (xs ++ [x])=(if zbS xs≠[]/\x≠[] then zbS xs ++ [32] else zbS xs) ++ x:=by
 unfold zbS;rw[List.filter_append];by_cases hx:x=[]
 ·subst hx;simp [zeG]
 ·have e:[x].filter zeG=[x]:=(by simp [zeG,hx]);rw[e,zw7];by_cases hf:xs.filter zeG=[]
  ·rw[hf];simp [Lib.join_nil]
  ·have hne:Lib.join (xs.filter zeG) [32]≠[]:=by
    cases hq:xs.filter zeG with
    | nil=>exact absurd hq hf
    | cons a r =>
     have ha:a∈xs.filter zeG:=(by rw[hq];simp);have ha':a≠[]:=(by have:=(List.mem_filter.1 ha).2;simpa [zeG] using this);rw[Lib.join_cons];simp [ha']
   rw[if_neg hf,if_pos ⟨hne,hx⟩]
theorem zm8 (v:Value) (sp:List Bs) (w:World) (hv:Strs w v sp) (hs:zmS sp<=100000000) :
  Calls Tryz.prog 183 #[v] w fun e w'=>e=.returned (.string (bs (zbS sp)))/\Kept w w':=by
 obtain ⟨i0,hi,hz0,hz1,hz2⟩:=info_parts Tryz.infoStr;have HCL:Hid (zbS sp=Lib.join (sp.filter zeG) [32]):=rfl;have hlen:=zeB sp;have hsl:=ztK sp;obtain ⟨a,c,rfl,hc,h3⟩:=hv;have H3:=Hd h3;clear h3;go_enter Tryz.func183,Tryz.ntmps183;go_wp2_with fail;simp only[zcO];go_loopw [3,8] (fun v i wr=>∃ (k:Nat),k<=sp.length/\i=.int .i64 k/\wr.ownsRow w.heap.size 9 1 v ((sp.take k).filter zeG).length (zaH ((sp.take k).filter zeG))/\Kept w wr) (fun _ i _=>sp.length - (intOf i).toNat)
 case atStart=>exact ⟨0,Nat.zero_le _,rfl,World.ownsRow_nil _ _ _ _,Kept.refl _⟩
 case round =>
  obtain ⟨k,hkl,rfl,hown,hkr⟩:=hrel;by_cases hlt:k<sp.length
  ·obtain ⟨x,hx⟩:∃ x,sp[k]? = some x:=⟨_,List.getElem?_eq_getElem hlt⟩;obtain ⟨g,o,rfl,hg,hcc⟩:=H3.out (by omega);have hcell:wr.cell? ⟨g,o+k,none⟩=some (.string (bs x)):=(hkr.cell (p:=⟨g,o+k,none⟩) hg).trans (hcc k x hx);have HF:=Hd (zk7 sp k x hx);have hfl:=zpZ sp k;generalize (sp.take k).filter zeG=ws at *;have hsz:w.heap.size<=wr.heap.size:=hkr.size;have HR:=Hd hkr;have HW:=Hd hown;clear hkr hx hown hcc;by_cases he:x=[]
   ·subst he;go_wp2_with fail;go_roundw
    case rel=>exact ⟨k+1,by omega,by go_num,by rw[HF.out];simpa [zeG] using HW.out,HR.out⟩
    case measure=>simp [intOf];omega
   ·have hown:=HW.out;have hee:x.isEmpty=false:=(by simpa using he);go_wp2_with (at_builtin;refine wpList_append_own _ rfl _ _ 29 rfl w.heap.size 9 i0 (.string ⟨#[]⟩) 1 16 Tryz.underlying29 hi hz0 hz1 hz2 rfl (by decide) _ _ _ rfl (hown.alloc _) ⟨wr.heap.size,0,none⟩ 1 1 [.string (bs x)] rfl rfl ?c1 ?c2 ?c3 ?c4 ?c5 ?_)
    case c1=>exact zaV _ #[.string (bs x)] _ _ (by simp)
    case c2=>intro u hu;simp at hu;subst hu;rfl
    case c3=>unfold maxLen;omega
    case c4=>omega
    case c5=>simp;omega
    intro v' w2 hown2 hgrow _;have HB2:=Hd ((HR.out.trans (zaA wr _)).trans' (zaG (hown.alloc _) hgrow (by simp;omega)));rw[<- zaT] at hown2;have HO:=Hd hown2;clear hown2 hgrow hown;go_wp2_with fail;go_roundw
    case rel=>exact ⟨k+1,by omega,by go_num,by rw[HF.out];simpa [zeG,hee] using HO.out,HB2.out⟩
    case measure=>simp [intOf];omega
  ·have HW:=Hd (Strs.own hown);have HR:=Hd hkr;rw[List.take_of_length_le (by omega)] at HW;have hfl:(sp.filter zeG).length<=sp.length:=List.length_filter_le _ _;clear hown hkr;go_wp2_with fail;refine (zd5 _ _ _ _ HW.out (by omega) (by rw[<- HCL.out];omega)).mono ?_;rintro e w2 ⟨rfl,hk2⟩;go_wp2_with fail;go_ret;exact ⟨zb1 HCL.out.symm,HR.out.trans hk2⟩
theorem zk9 (v:Value) (sp:List Bs) (w:World) (hv:Strs w v sp) (hs:zmS sp<=100000000) :
  Calls Tryz.prog 236 #[v] w fun e w'=>e=.returned (.string (bs (zbS sp)))/\w=w':=by
 have hsl:=ztK sp;obtain ⟨a,c,rfl,hc,h3⟩:=hv;have H3:=Hd h3;clear h3;go_enter Tryz.func236,Tryz.ntmps236;go_wp2_with fail
 go_loop [3,4] (fun v i=>∃ (k:Nat) (o:Bs),k<=sp.length/\i=.int .i64 k/\v=.string (bs o)/\Hid (o=zbS (sp.take k))) (fun _ i=>sp.length - (intOf i).toNat)
 case atStart=>exact ⟨0,[],Nat.zero_le _,rfl,rfl,rfl⟩
 case round =>
  obtain ⟨k,t,hkl,rfl,rfl,HT⟩:=hrel;by_cases hlt:k<sp.length
  ·obtain ⟨x,hx⟩:∃ x,sp[k]? = some x:=⟨_,List.getElem?_eq_getElem hlt⟩;obtain ⟨g,o,rfl,hg,hcc⟩:=H3.out (by omega);have hcell:=hcc k x hx;have htk:sp.take (k+1)=sp.take k ++ [x]:=by
    obtain ⟨hk,rfl⟩:=List.getElem?_eq_some_iff.1 hx;exact List.take_succ_eq_append_getElem hk
   have HF:Hid (zbS (sp.take (k+1))=(if t≠[]/\x≠[] then t ++ [32] else t) ++ x):=(by show _=_;rw[htk,zp0,<- HT.out]);have hb1:(zbS (sp.take (k+1))).length<=100000000:=Nat.le_trans (Nat.le_trans (zeB _) (zxE _ _)) hs;rw[HF.out] at hb1;clear hcc hx htk;by_cases ht:t=[]
   ·subst ht;simp only[ne_eq,not_true_eq_false,false_and,if_false,List.nil_append] at hb1;go_wp2_with fail
    go_round
    case rel=>exact ⟨k+1,x,by omega,by go_num,by simp,by show _=_;rw[HF.out];simp⟩
    case measure=>simp [intOf];omega
   ·have hte:t.isEmpty=false:=(by simpa using ht);by_cases he:x=[]
    ·subst he;simp only[ne_eq,not_true_eq_false,and_false,if_false,List.append_nil] at hb1;go_wp2_with fail
     go_round
     case rel=>exact ⟨k+1,t,by omega,by go_num,by simp,by show _=_;rw[HF.out];simp⟩
     case measure=>simp [intOf];omega
    ·have hee:x.isEmpty=false:=(by simpa using he);rw[if_pos ⟨ht,he⟩] at hb1;simp only[List.length_append,List.length_cons,List.length_nil] at hb1;go_wp2_with fail
     go_round
     case rel=>exact ⟨k+1,t ++ [32] ++ x,by omega,by go_num,by simp,by show _=_;rw[HF.out,if_pos ⟨ht,he⟩]⟩
     case measure=>simp [intOf];omega
  ·go_wp2_with fail;go_ret;exact ⟨zb1 (by rw[HT.out,List.take_of_length_le (by omega)]),rfl⟩
abbrev ziZ (f g p s:Bs):Value:=.agg #[.string (bs f),.string (bs g),.string (bs p),.string (bs s)]
theorem zkJ (w:World) (arr:Array Value) (xs:List Bs) (n:Nat) (hn:n=xs.length) (h:arr.toList=zaH xs) (e:TypeId) (g:Nat) (hg:g=w.heap.size):Strs (w.alloc (.cells arr e)) (.slice (some ⟨g,0,none⟩) n n) xs:=by
 subst hn hg;refine ⟨_,_,rfl,Nat.le_refl _,fun _=>⟨w.heap.size,0,rfl,by simp,fun j x hx=>?_⟩⟩;have:=zaV w arr e w.heap.size rfl j (.string (bs x)) (by rw[h];exact zhH xs j x hx);have e1:((⟨w.heap.size,0,none⟩:Addr).add j)=⟨w.heap.size,j,none⟩:=(by unfold Addr.add;split <;> simp_all);rw[e1] at this;rw[Nat.zero_add];exact this
theorem zAV (f g p s:Bs) (w:World) (h:zmS [g,p,f,s]<=100000000) :
  Calls Tryz.prog 163 #[ziZ f g p s] w fun e w'=>e=.returned (.string (bs (zbS [g,p,f,s])))/\Kept w w':=by
 go_enter Tryz.func163,Tryz.ntmps163;go_wp2_with fail;refine (zm8 _ [g,p,f,s] _ (zkJ _ _ _ _ rfl rfl _ _ (by simp)) h).mono ?_;rintro e w1 ⟨rfl,hk⟩;go_wp2_with fail;go_ret;exact ⟨rfl,((zaA _ _).trans (zaA _ _)).trans hk⟩
theorem zxF (f g p s:Bs) (w:World) (h:zmS [g,p,f,s]<=100000000) :
  Calls Tryz.prog 239 #[ziZ f g p s] w fun e w'=>e=.returned (.string (bs (zbS [g,p,f,s])))/\Kept w w':=by
 go_enter Tryz.func239,Tryz.ntmps239;go_wp2_with fail;refine (zk9 _ [g,p,f,s] _ (zkJ _ _ _ _ rfl rfl _ _ (by simp)) h).mono ?_;rintro e w1 ⟨rfl,rfl⟩;go_wp2_with fail;go_ret;exact ⟨rfl,(zaA _ _).trans (zaA _ _)⟩
theorem zp1 (f g p s:Bs) (w:World) (h:zmS [p,f]<=100000000) :
  Calls Tryz.prog 136 #[ziZ f g p s] w fun e w'=>e=.returned (.string (bs (zbS [p,f])))/\Kept w w':=by
 go_enter Tryz.func136,Tryz.ntmps136;go_wp2_with fail;refine (zm8 _ [p,f] _ (zkJ _ _ _ _ rfl rfl _ _ (by simp)) h).mono ?_;rintro e w1 ⟨rfl,hk⟩;go_wp2_with fail;go_ret;exact ⟨rfl,((zaA _ _).trans (zaA _ _)).trans hk⟩
theorem zuU (f g p s:Bs) (w:World) (h:zmS [p,f]<=100000000) :
  Calls Tryz.prog 199 #[ziZ f g p s] w fun e w'=>e=.returned (.string (bs (zbS [p,f])))/\Kept w w':=by
 go_enter Tryz.func199,Tryz.ntmps199;go_wp2_with fail;refine (zk9 _ [p,f] _ (zkJ _ _ _ _ rfl rfl _ _ (by simp)) h).mono ?_;rintro e w1 ⟨rfl,rfl⟩;go_wp2_with fail;go_ret;exact ⟨rfl,(zaA _ _).trans (zaA _ _)⟩
end Go.Proofs.YtmcoomlkbgiboaaGreatDoor
