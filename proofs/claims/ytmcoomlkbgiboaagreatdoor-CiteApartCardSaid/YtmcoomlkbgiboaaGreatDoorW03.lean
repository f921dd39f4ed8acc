/- person.clean and person.joined. Conditions: lengths. -/
import Derived.Test.YtmcoomlkbgiboaaGreatDoorW02
import Derived.Deep.RegionWith
set_option linter.all false
set_option maxRecDepth 100000
set_option maxHeartbeats 3200000
namespace Go.Proofs.YtmcoomlkbgiboaaGreatDoor
open Go.RowKit
def zfJ (x:Bs):Bool:=!x.isEmpty
theorem zk5 (sp:List Bs) (k:Nat) (x:Bs) (h:sp[k]? = some x):(sp.take (k+1)).filter zfJ=(sp.take k).filter zfJ ++ (if zfJ x then [x] else []):=by
 obtain ⟨hk,rfl⟩:=List.getElem?_eq_some_iff.1 h;rw[List.take_succ_eq_append_getElem hk,List.filter_append];congr 1;by_cases q:zfJ sp[k]=true
 ·rw[if_pos q];simp [q]
 ·rw[if_neg q];simp [q]
theorem zpM (sp:List Bs) (k:Nat):((sp.take k).filter zfJ).length<=k :=
 Nat.le_trans (List.length_filter_le _ _) (List.length_take_le _ _)
theorem zk6 (xs:List Bs):(Lib.join xs [32]).length<=(xs.map (fun x=>x.length+1)).sum:=by
 cases xs with
 | nil=>simp [Lib.join_nil]
 | cons a r =>
  rw[Lib.join_cons];have:∀ r:List Bs,(Lib.joinTail [32] r).length=(r.map (fun x=>x.length+1)).sum:=by
   intro r
   induction r with
   | nil=>rfl
   | cons b r ih=>unfold Lib.joinTail at ih ⊢;simp only[List.map_cons,List.flatten_cons,List.length_append,ih,List.sum_cons];simp;omega
  rw[List.length_append,this r];simp
theorem zfK (p:Bs->Bool):∀ xs:List Bs,((xs.filter p).map (fun x=>x.length+1)).sum<=(xs.map (fun x=>x.length+1)).sum
 | []=>by simp
 | a :: r=>by
  have ih:=zfK p r;rw[List.filter_cons]
  split <;> simp <;> omega
theorem zA2 (c:UInt8) (l:Bs):((zhO c l).1.map (fun x=>x.length+1)).sum+(zhO c l).2.length=l.length:=by
 refine zkE (P:=fun l=>((zhO c l).1.map (fun x=>x.length+1)).sum+(zhO c l).2.length=l.length) ?_ ?_ l
 ·simp [zhO]
 ·intro l b ih;rw[zd3];unfold zb0
  split <;> simp [List.sum_append] <;> omega
theorem zu0 (c:UInt8) (l:Bs):((za4 c l).map (fun x=>x.length+1)).sum=l.length+1:=by
 have:=zA2 c l;unfold za4;rw[List.map_append,List.sum_append];simp;omega
theorem zxI (l:Bs):(zeS l).length<=l.length+1:=by
 unfold zeS zrX;have h1:=zk6 ((za4 32 l).filter (fun x=>!x.isEmpty));have h2:=zfK (fun x=>!x.isEmpty) (za4 32 l);have h3:=zu0 32 l;omega
theorem zxJ (l:Bs) (w:World) (hg:Gnd w) (hs:l.length<=100000000) :
  Calls Tryz.prog 261 #[.string (bs l)] w fun e w'=>e=.returned (.string (bs (zeS l)))/\Kept w w':=by
 obtain ⟨i0,hi,hz0,hz1,hz2⟩:=info_parts Tryz.infoStr;have HCL:Hid (zeS l=Lib.join ((za4 32 l).filter zfJ) [32]):=rfl;have hlen:=zxI l;have hsl:(za4 32 l).length<=l.length+1:=(by rw[zcY];have:=List.count_le_length (a:=(32:UInt8)) (l:=l);omega);go_enter Tryz.func261,Tryz.ntmps261;go_wp2_with fail;refine (zpK l 32 _ hg (by omega)).mono ?_;rintro e w1 ⟨rfl,hw1⟩;have hz:w1.heap.size=w.heap.size+1:=(by rw[hw1];simp);have hk1:Kept w w1:=(by rw[hw1];exact zaA _ _);have hc1:∀ j x,(za4 32 l)[j]? = some x->w1.cell? ⟨w.heap.size,j,none⟩=some (.string (bs x)):=by
  intro j x hx;have:=za5 w (zaG (za4 32 l)).toArray 9 w.heap.size rfl j (.string (bs x)) (zg9 _ j x hx);rw[hw1];have e1:((⟨w.heap.size,0,none⟩:Addr).add j)=⟨w.heap.size,j,none⟩:=(by unfold Addr.add;split <;> simp_all);rw[e1] at this;exact this
 generalize za4 32 l=sp at *;have HC1:=Hd hc1;have HK1:=Hd hk1;have HZ:=Hd hz;have hzl:w.heap.size<w1.heap.size:=(by omega);clear hc1 hk1 hw1 hz;go_wp2_with fail;go_loopw [3,9] (fun v i wr=>∃ (k:Nat),k<=sp.length/\i=.int .i64 k/\wr.ownsRow w1.heap.size 9 1 v ((sp.take k).filter zfJ).length (zaG ((sp.take k).filter zfJ))/\Kept w1 wr) (fun _ i _=>sp.length - (intOf i).toNat)
 case atStart=>exact ⟨0,Nat.zero_le _,rfl,World.ownsRow_nil _ _ _ _,Kept.refl _⟩
 case round =>
  obtain ⟨k,hkl,rfl,hown,hkr⟩:=hrel;by_cases hlt:k<sp.length
  ·obtain ⟨x,hx⟩:∃ x,sp[k]? = some x:=⟨_,List.getElem?_eq_getElem hlt⟩;have hcell:wr.cell? ⟨w.heap.size,k,none⟩=some (.string (bs x)):=(hkr.cell (p:=⟨w.heap.size,k,none⟩) hzl).trans (HC1.out k x hx);have HF:=Hd (zk5 sp k x hx);have hfl:=zpM sp k;generalize (sp.take k).filter zfJ=ws at *;have hsz:w1.heap.size<=wr.heap.size:=hkr.size;have HR:=Hd hkr;have HW:=Hd hown;clear hkr hx hown;by_cases he:x=[]
   ·subst he;go_wp2_with fail;go_roundw
    case rel=>exact ⟨k+1,by omega,by go_num,by rw[HF.out];simpa [zfJ] using HW.out,HR.out⟩
    case measure=>simp [intOf];omega
   ·have hown:=HW.out;have hee:x.isEmpty=false:=(by simpa using he);go_wp2_with (at_builtin;refine wpList_append_own _ rfl _ _ 29 rfl w1.heap.size 9 i0 (.string ⟨#[]⟩) 1 16 Tryz.underlying29 hi hz0 hz1 hz2 rfl (by decide) _ _ _ rfl (hown.alloc _) ⟨wr.heap.size,0,none⟩ 1 1 [.string (bs x)] rfl rfl ?c1 ?c2 ?c3 ?c4 ?c5 ?_)
    case c1=>exact za5 _ #[.string (bs x)] _ _ (by simp)
    case c2=>intro u hu;simp at hu;subst hu;rfl
    case c3=>unfold maxLen;omega
    case c4=>omega
    case c5=>simp;omega
    intro v' w2 hown2 hgrow _;have HB2:=Hd ((HR.out.trans (zaA wr _)).trans' (zaO (hown.alloc _) hgrow (by simp;omega)));rw[<- zbF] at hown2;have HO:=Hd hown2;clear hown2 hgrow hown;go_wp2_with fail;go_roundw
    case rel=>exact ⟨k+1,by omega,by go_num,by rw[HF.out];simpa [zfJ,hee] using HO.out,HB2.out⟩
    case measure=>simp [intOf];omega
  ·have HW:=Hd (Strs.own hown);have HR:=Hd hkr;rw[List.take_of_length_le (by omega)] at HW;have hfl:(sp.filter zfJ).length<=sp.length:=List.length_filter_le _ _;clear hown hkr;go_wp2_with fail;refine (zdW _ _ _ _ HW.out (by omega) (by rw[<- HCL.out];omega)).mono ?_;rintro e w2 ⟨rfl,hk2⟩;go_wp2_with fail;go_ret;exact ⟨zc7 HCL.out.symm,(HK1.out.trans HR.out).trans hk2⟩
def zeJ (l:Bs):Option Bs:=if l=lEn then some [97,110,100] else if l=lDe then some [117,110,100] else if l=lFr then some [101,116] else if l=lEs then some [121] else none
def zdX (l:Bs):Option Bs:=if l=lEn then some [111,116,104,101,114,115] else if l=lDe then some [97,110,100,101,114,101] else if l=lFr then some [97,117,116,114,101,115] else if l=lEs then some [111,116,114,111,115] else none
theorem zjO {l m:Bs} (h:¬ l=m):(l == m)=false:=by simpa using h
theorem zgL (l:Bs) (n:Int) (w:World):Calls Tryz.prog 162 #[.string (bs l),.string (bs [97,110,100]),.int .i64 n] w fun e w'=>e=.returned (.tuple #[.string (bs ((zeJ l).getD [])),.bool (zeJ l).isSome])/\Kept w w':=by
 unfold zeJ;by_cases h1:l=lEn
 ·rw[if_pos h1,h1];exact zrZ n w
 by_cases h2:l=lDe
 ·rw[if_neg h1,if_pos h2,h2];exact zr0 n w
 by_cases h3:l=lFr
 ·rw[if_neg h1,if_neg h2,if_pos h3,h3];exact zr1 n w
 by_cases h4:l=lEs
 ·rw[if_neg h1,if_neg h2,if_neg h3,if_pos h4,h4];exact zr2 n w
 ·rw[if_neg h1,if_neg h2,if_neg h3,if_neg h4];exact zxH l _ n w (zjO h1) (zjO h2) (zjO h3) (zjO h4)
theorem zr3 (l:Bs) (n:Int) (w:World):Calls Tryz.prog 162 #[.string (bs l),.string (bs [111,116,104,101,114,115]),.int .i64 n] w fun e w'=>e=.returned (.tuple #[.string (bs ((zdX l).getD [])),.bool (zdX l).isSome])/\Kept w w':=by
 unfold zdX;by_cases h1:l=lEn
 ·rw[if_pos h1,h1];exact zmN n w
 by_cases h2:l=lDe
 ·rw[if_neg h1,if_pos h2,h2];exact zmO n w
 by_cases h3:l=lFr
 ·rw[if_neg h1,if_neg h2,if_pos h3,h3];exact zmP n w
 by_cases h4:l=lEs
 ·rw[if_neg h1,if_neg h2,if_neg h3,if_pos h4,h4];exact zmQ n w
 ·rw[if_neg h1,if_neg h2,if_neg h3,if_neg h4];exact zxH l _ n w (zjO h1) (zjO h2) (zjO h3) (zjO h4)
def ziV:Bs:=[44,32]
def zm6 (l:Bs) (xs:List Bs):Bs:=if (zeJ l).isSome=false\/xs.length<2 then Lib.join xs ziV else Lib.join xs.dropLast ziV ++ [32] ++ (zeJ l).getD [] ++ [32] ++ xs.getLastD []
theorem zk7 (l:Bs):((zeJ l).getD []).length<=3:=by
 unfold zeJ;by_cases h1:l=lEn
 ·rw[if_pos h1];decide
 by_cases h2:l=lDe
 ·rw[if_neg h1,if_pos h2];decide
 by_cases h3:l=lFr
 ·rw[if_neg h1,if_neg h2,if_pos h3];decide
 by_cases h4:l=lEs
 ·rw[if_neg h1,if_neg h2,if_neg h3,if_pos h4];decide
 ·rw[if_neg h1,if_neg h2,if_neg h3,if_neg h4];decide
theorem zu1 {w:World} {a:Option Addr} {c:Nat} {xs:List Bs} (h:Strs w (.slice a xs.length c) xs) (n:Nat) (hn:n<=xs.length):Strs w (.slice a n c) (xs.take n):=by
 obtain ⟨a',c',hv,hc,h3⟩:=h;obtain ⟨rfl,_,rfl⟩:=Value.slice.inj hv;refine ⟨a,c,by simp;omega,by simp;omega,fun q=>?_⟩;obtain ⟨g,o,ha,hg,hcell⟩:=h3 (by simp at q;omega);refine ⟨g,o,ha,hg,fun j x hx=>hcell j x ?_⟩;rw[List.getElem?_take] at hx
 split at hx
 ·exact hx
 ·cases hx
theorem zxK (l:Bs) (v:Value) (xs:List Bs) (w:World) (hv:Strs w v xs) (hN:xs.length<=1000000) (hlen:(Lib.join xs ziV).length<=10000000) (hlen2:(Lib.join xs.dropLast ziV).length<=10000000) (hlast:(xs.getLastD []).length<=10000000) :
  Calls Tryz.prog 164 #[.string (bs l),v] w fun e w'=>e=.returned (.string (bs (zm6 l xs)))/\Kept w w':=by
 have HL:Hid (zm6 l xs=if (zeJ l).isSome=false\/xs.length<2 then Lib.join xs ziV else Lib.join xs.dropLast ziV ++ [32] ++ (zeJ l).getD [] ++ [32] ++ xs.getLastD []):=rfl;have HT:=Hd (fun w=>zgL l 1 w);have hal:=zk7 l;have HV:=Hd hv;have HSP:Hid (ziV=[44,32]):=rfl;generalize (zeJ l).getD []=an at *;generalize (zeJ l).isSome=ok at *;obtain ⟨a,c,rfl,hc,h3⟩:=hv;have H3:=Hd h3;clear h3;cases ok
 ·go_enter Tryz.func164,Tryz.ntmps164;go_wp2_with fail;refine (HT.out _).mono ?_;rintro e w1 ⟨rfl,hk1⟩;have HK1:=Hd hk1;clear hk1;go_wp2_with fail;rw[<- HSP.out];refine (zdW _ xs _ _ (HV.out.kept HK1.out) (by omega) (by omega)).mono ?_;rintro e w2 ⟨rfl,hk2⟩;have HK2:=Hd (HK1.out.trans hk2);clear hk2;go_wp2_with fail;go_ret;exact ⟨zc7 (by rw[HL.out,if_pos (.inl (by first|rfl|trivial))]),HK2.out⟩
 by_cases h2:xs.length<2
 ·go_enter Tryz.func164,Tryz.ntmps164;go_wp2_with fail;refine (HT.out _).mono ?_;rintro e w1 ⟨rfl,hk1⟩;have HK1:=Hd hk1;clear hk1;go_wp2_with fail;rw[<- HSP.out];refine (zdW _ xs _ _ (HV.out.kept HK1.out) (by omega) (by omega)).mono ?_;rintro e w2 ⟨rfl,hk2⟩;have HK2:=Hd (HK1.out.trans hk2);clear hk2;go_wp2_with fail;go_ret;exact ⟨zc7 (by rw[HL.out,if_pos (.inr h2)]),HK2.out⟩
 ·obtain ⟨g,o,rfl,hg,hcell⟩:=H3.out (by omega);have hx:xs[xs.length - 1]? = some (xs.getLastD []):=by
   rw[List.getLastD_eq_getLast?,List.getLast?_eq_getElem?,List.getElem?_eq_getElem (by omega)];rfl
  have hcl:=hcell (xs.length - 1) _ hx;have HE:Hid (zm6 l xs=Lib.join xs.dropLast ziV ++ [32] ++ an ++ [32] ++ xs.getLastD []):=(by show _=_;rw[HL.out,if_neg (by simp;omega)]);have HD:Hid (xs.dropLast=xs.take (xs.length - 1)):=(by show _=_;rw[List.dropLast_eq_take]);generalize xs.getLastD []=la at *;have HC:=Hd hcl;clear hcl hx hcell;go_enter Tryz.func164,Tryz.ntmps164;go_wp2_with fail;refine (HT.out _).mono ?_;rintro e w1 ⟨rfl,hk1⟩;have HK1:=Hd hk1;have c1:w1.cell? ⟨g,o+(xs.length - 1),none⟩=some (.string (bs la)):=(hk1.cell (p:=⟨g,o+(xs.length - 1),none⟩) hg).trans HC.out;have hg1:g<w1.heap.size:=(by have:=hk1.size;omega);clear hk1;go_wp2_with fail;have HJ:Hid (∀ w2,Kept w1 w2->Calls Tryz.prog 88 #[.slice (some ⟨g,o,none⟩) (xs.length - 1) c,.string (bs [44,32])] w2 fun e w'=>e=.returned (.string (bs (Lib.join xs.dropLast ziV)))/\Kept w2 w'):=by
   intro w2 hk;have hst:=zu1 (HV.out.kept (HK1.out.trans hk)) (xs.length - 1) (by omega);rw[<- HD.out] at hst;exact zdW _ xs.dropLast ziV w2 hst (by simp;omega) (by omega)
  have HC2:Hid (∀ {w2:World},Kept w1.drew w2->w2.cell? ⟨g,o+(xs.length - 1),none⟩=some (.string (bs la))/\g<w2.heap.size/\Kept w w2):=by
   intro w2 hk;have hk:Kept w1 w2:=(zaB w1 1).trans hk;exact ⟨(hk.cell (p:=⟨g,o+(xs.length - 1),none⟩) hg1).trans c1,by have:=hk.size;omega,HK1.out.trans hk⟩
  generalize hjl:Lib.join xs.dropLast ziV=jl at *;have hsum:IntKind.i64.wrap ((xs.length:Int) - 1)=(xs.length:Int) - 1:=IntWalk.i64_in _ (by omega)
  go_region_with (go_at_call 88;refine (HJ.out _ (zaB w1 1)).mono ?_;rintro e w2 ⟨rfl,hk2⟩;obtain ⟨q1,q2,q3⟩:=HC2.out hk2;have HQ:=Hd q3;clear q3 hk2)
  all_goals
   go_wp2_with fail;go_ret;exact ⟨zc7 (by rw[HE.out];simp),HQ.out⟩
def zdR (xs:List Bs):Bs:=Lib.join (xs.filter zfJ) [32]
def zu2 (xs:List Bs):Nat:=(xs.map (fun x=>x.length+1)).sum
theorem zeV (xs:List Bs):(zdR xs).length<=zu2 xs:=Nat.le_trans (zk6 _) (zfK _ _)
theorem zA3 (xs:List Bs):xs.length<=zu2 xs:=by
 unfold zu2
 induction xs with
 | nil=>simp
 | cons a r ih=>simp only[List.map_cons,List.sum_cons,List.length_cons];omega
theorem zm7 (v:Value) (sp:List Bs) (w:World) (hv:Strs w v sp) (hs:zu2 sp<=100000000) :
  Calls Tryz.prog 183 #[v] w fun e w'=>e=.returned (.string (bs (zdR sp)))/\Kept w w':=by
 obtain ⟨i0,hi,hz0,hz1,hz2⟩:=info_parts Tryz.infoStr;have HCL:Hid (zdR sp=Lib.join (sp.filter zfJ) [32]):=rfl;have hlen:=zeV sp;have hsl:=zA3 sp;obtain ⟨a,c,rfl,hc,h3⟩:=hv;have H3:=Hd h3;clear h3;go_enter Tryz.func183,Tryz.ntmps183;go_wp2_with fail;simp only[zd4];go_loopw [3,8] (fun v i wr=>∃ (k:Nat),k<=sp.length/\i=.int .i64 k/\wr.ownsRow w.heap.size 9 1 v ((sp.take k).filter zfJ).length (zaG ((sp.take k).filter zfJ))/\Kept w wr) (fun _ i _=>sp.length - (intOf i).toNat)
 case atStart=>exact ⟨0,Nat.zero_le _,rfl,World.ownsRow_nil _ _ _ _,Kept.refl _⟩
 case round =>
  obtain ⟨k,hkl,rfl,hown,hkr⟩:=hrel;by_cases hlt:k<sp.length
  ·obtain ⟨x,hx⟩:∃ x,sp[k]? = some x:=⟨_,List.getElem?_eq_getElem hlt⟩;obtain ⟨g,o,rfl,hg,hcc⟩:=H3.out (by omega);have hcell:wr.cell? ⟨g,o+k,none⟩=some (.string (bs x)):=(hkr.cell (p:=⟨g,o+k,none⟩) hg).trans (hcc k x hx);have HF:=Hd (zk5 sp k x hx);have hfl:=zpM sp k;generalize (sp.take k).filter zfJ=ws at *;have hsz:w.heap.size<=wr.heap.size:=hkr.size;have HR:=Hd hkr;have HW:=Hd hown;clear hkr hx hown hcc;by_cases he:x=[]
   ·subst he;go_wp2_with fail;go_roundw
    case rel=>exact ⟨k+1,by omega,by go_num,by rw[HF.out];simpa [zfJ] using HW.out,HR.out⟩
    case measure=>simp [intOf];omega
   ·have hown:=HW.out;have hee:x.isEmpty=false:=(by simpa using he);go_wp2_with (at_builtin;refine wpList_append_own _ rfl _ _ 29 rfl w.heap.size 9 i0 (.string ⟨#[]⟩) 1 16 Tryz.underlying29 hi hz0 hz1 hz2 rfl (by decide) _ _ _ rfl (hown.alloc _) ⟨wr.heap.size,0,none⟩ 1 1 [.string (bs x)] rfl rfl ?c1 ?c2 ?c3 ?c4 ?c5 ?_)
    case c1=>exact za5 _ #[.string (bs x)] _ _ (by simp)
    case c2=>intro u hu;simp at hu;subst hu;rfl
    case c3=>unfold maxLen;omega
    case c4=>omega
    case c5=>simp;omega
    intro v' w2 hown2 hgrow _;have HB2:=Hd ((HR.out.trans (zaA wr _)).trans' (zaO (hown.alloc _) hgrow (by simp;omega)));rw[<- zbF] at hown2;have HO:=Hd hown2;clear hown2 hgrow hown;go_wp2_with fail;go_roundw
    case rel=>exact ⟨k+1,by omega,by go_num,by rw[HF.out];simpa [zfJ,hee] using HO.out,HB2.out⟩
    case measure=>simp [intOf];omega
  ·have HW:=Hd (Strs.own hown);have HR:=Hd hkr;rw[List.take_of_length_le (by omega)] at HW;have hfl:(sp.filter zfJ).length<=sp.length:=List.length_filter_le _ _;clear hown hkr;go_wp2_with fail;refine (zdW _ _ _ _ HW.out (by omega) (by rw[<- HCL.out];omega)).mono ?_;rintro e w2 ⟨rfl,hk2⟩;go_wp2_with fail;go_ret;exact ⟨zc7 HCL.out.symm,HR.out.trans hk2⟩
abbrev zf5 (f g p s:Bs):Value:=.agg #[.string (bs f),.string (bs g),.string (bs p),.string (bs s)]
theorem ztJ (w:World) (arr:Array Value) (xs:List Bs) (n:Nat) (hn:n=xs.length) (h:arr.toList=zaG xs) (e:TypeId) (g:Nat) (hg:g=w.heap.size):Strs (w.alloc (.cells arr e)) (.slice (some ⟨g,0,none⟩) n n) xs:=by
 subst hn hg;refine ⟨_,_,rfl,Nat.le_refl _,fun _=>⟨w.heap.size,0,rfl,by simp,fun j x hx=>?_⟩⟩;have:=za5 w arr e w.heap.size rfl j (.string (bs x)) (by rw[h];exact zg9 xs j x hx);have e1:((⟨w.heap.size,0,none⟩:Addr).add j)=⟨w.heap.size,j,none⟩:=(by unfold Addr.add;split <;> simp_all);rw[e1] at this;rw[Nat.zero_add];exact this
theorem zA4 (f g p s:Bs) (w:World) (h:zu2 [g,p,f,s]<=100000000) :
  Calls Tryz.prog 163 #[zf5 f g p s] w fun e w'=>e=.returned (.string (bs (zdR [g,p,f,s])))/\Kept w w':=by
 go_enter Tryz.func163,Tryz.ntmps163;go_wp2_with fail;refine (zm7 _ [g,p,f,s] _ (ztJ _ _ _ _ rfl rfl _ _ (by simp)) h).mono ?_;rintro e w1 ⟨rfl,hk⟩;go_wp2_with fail;go_ret;exact ⟨rfl,((zaA _ _).trans (zaA _ _)).trans hk⟩
theorem zpN (f g p s:Bs) (w:World) (h:zu2 [p,f]<=100000000) :
  Calls Tryz.prog 136 #[zf5 f g p s] w fun e w'=>e=.returned (.string (bs (zdR [p,f])))/\Kept w w':=by
 go_enter Tryz.func136,Tryz.ntmps136;go_wp2_with fail;refine (zm7 _ [p,f] _ (ztJ _ _ _ _ rfl rfl _ _ (by simp)) h).mono ?_;rintro e w1 ⟨rfl,hk⟩;go_wp2_with fail;go_ret;exact ⟨rfl,((zaA _ _).trans (zaA _ _)).trans hk⟩
end Go.Proofs.YtmcoomlkbgiboaaGreatDoor
