/- person.clean and person.joined. Conditions: lengths. -/
import Derived.Test.YtmcoomlkbgiboaaGreatDoorU02
import Derived.Deep.RegionWith

set_option linter.all false
namespace Go.Proofs.YtmcoomlkbgiboaaGreatDoor
open Go.RowKit

def nonE (x:Bs):Bool:=!x.isEmpty
theorem filter_take (sp:List Bs) (k:Nat) (x:Bs) (h:sp[k]? = some x):(sp.take (k+1)).filter nonE=(sp.take k).filter nonE ++ (if nonE x then [x] else []):=by
 obtain ⟨hk,rfl⟩:=List.getElem?_eq_some_iff.1 h
 rw [List.take_succ_eq_append_getElem hk,List.filter_append]
 congr 1
 by_cases q:nonE sp[k]=true
 ·rw [if_pos q]; simp [q]
 ·rw [if_neg q]; simp [q]
theorem filter_le (sp:List Bs) (k:Nat):((sp.take k).filter nonE).length≤k :=
 Nat.le_trans (List.length_filter_le _ _) (List.length_take_le _ _)
theorem join_len_le (xs:List Bs):(Lib.join xs [32]).length≤(xs.map (fun x=>x.length+1)).sum:=by
 cases xs with
 | nil=>simp [Lib.join_nil]
 | cons a r =>
  rw [Lib.join_cons]
  have:∀ r:List Bs,(Lib.joinTail [32] r).length=(r.map (fun x=>x.length+1)).sum:=by
   intro r
   induction r with
   | nil=>rfl
   | cons b r ih=>unfold Lib.joinTail at ih ⊢; simp only [List.map_cons,List.flatten_cons,List.length_append,ih,List.sum_cons]; simp; omega
  rw [List.length_append,this r]
  simp
theorem sum_filter_le (p:Bs→Bool):∀ xs:List Bs,((xs.filter p).map (fun x=>x.length+1)).sum≤(xs.map (fun x=>x.length+1)).sum
 | []=>by simp
 | a :: r=>by
  have ih:=sum_filter_le p r
  rw [List.filter_cons]
  split <;> simp <;> omega
theorem runC_sum (c:UInt8) (l:Bs):((runC c l).1.map (fun x=>x.length+1)).sum+(runC c l).2.length=l.length:=by
 refine snoc_ind (P:=fun l=>((runC c l).1.map (fun x=>x.length+1)).sum+(runC c l).2.length=l.length) ?_ ?_ l
 ·simp [runC]
 ·intro l b ih
  rw [runC_snoc]
  unfold stepC
  split <;> simp [List.sum_append] <;> omega
theorem splitC_sum (c:UInt8) (l:Bs):((splitC c l).map (fun x=>x.length+1)).sum=l.length+1:=by
 have:=runC_sum c l
 unfold splitC
 rw [List.map_append,List.sum_append]
 simp; omega
theorem cleanL_le (l:Bs):(cleanL l).length≤l.length+1:=by
 unfold cleanL wordsOf
 have h1:=join_len_le ((splitC 32 l).filter (fun x=>!x.isEmpty))
 have h2:=sum_filter_le (fun x=>!x.isEmpty) (splitC 32 l)
 have h3:=splitC_sum 32 l
 omega

set_option maxRecDepth 100000 in
set_option maxHeartbeats 1600000 in
theorem clean_any (l:Bs) (w:World) (hg:Gnd w) (hs:l.length≤100000000) :
  Calls Tryz.prog 261 #[.string (bs l)] w fun e w'=>e=.returned (.string (bs (cleanL l)))∧Kept w w':=by
 obtain ⟨i0,hi,hz0,hz1,hz2⟩:=info_parts Tryz.infoStr
 have HCL:Hid (cleanL l=Lib.join ((splitC 32 l).filter nonE) [32]):=rfl
 have hlen:=cleanL_le l
 have hsl:(splitC 32 l).length≤l.length+1:=by rw [splitC_length]; have:=List.count_le_length (a:=(32:UInt8)) (l:=l); omega
 go_enter Tryz.func261,Tryz.ntmps261
 go_wp2_with fail
 refine (split_any l 32 _ hg (by omega)).mono ?_
 rintro e w1 ⟨rfl,hw1⟩
 have hz:w1.heap.size=w.heap.size+1:=by rw [hw1]; simp
 have hk1:Kept w w1:=by rw [hw1]; exact kept_alloc _ _
 have hc1:∀ j x,(splitC 32 l)[j]? = some x→w1.cell? ⟨w.heap.size,j,none⟩=some (.string (bs x)):=by
  intro j x hx
  have:=new_cells w (strCells (splitC 32 l)).toArray 9 w.heap.size rfl j (.string (bs x)) (strCells_at _ j x hx)
  rw [hw1]
  have e1:((⟨w.heap.size,0,none⟩:Addr).add j)=⟨w.heap.size,j,none⟩:=by unfold Addr.add; split <;> simp_all
  rw [e1] at this; exact this
 generalize splitC 32 l=sp at *
 have HC1:=Lib.hid hc1
 have HK1:=Lib.hid hk1
 have HZ:=Lib.hid hz
 have hzl:w.heap.size<w1.heap.size:=by omega
 clear hc1 hk1 hw1 hz
 go_wp2_with fail
 go_loopw [3,9] (fun v i wr=>∃ (k:Nat),k≤sp.length∧i=.int .i64 k∧wr.ownsRow w1.heap.size 9 1 v ((sp.take k).filter nonE).length (strCells ((sp.take k).filter nonE))∧Kept w1 wr) (fun _ i _=>sp.length - (intOf i).toNat)
 case atStart=>exact ⟨0,Nat.zero_le _,rfl,World.ownsRow_nil _ _ _ _,Kept.refl _⟩
 case round =>
  obtain ⟨k,hkl,rfl,hown,hkr⟩:=hrel
  by_cases hlt:k<sp.length
  ·obtain ⟨x,hx⟩:∃ x,sp[k]? = some x:=⟨_,List.getElem?_eq_getElem hlt⟩
   have hcell:wr.cell? ⟨w.heap.size,k,none⟩=some (.string (bs x)):=(hkr.cell (p:=⟨w.heap.size,k,none⟩) hzl).trans (HC1.out k x hx)
   have HF:=Lib.hid (filter_take sp k x hx)
   have hfl:=filter_le sp k
   generalize (sp.take k).filter nonE=ws at *
   have hsz:w1.heap.size≤wr.heap.size:=hkr.size
   have HR:=Lib.hid hkr
   have HW:=Lib.hid hown
   clear hkr hx hown
   by_cases he:x=[]
   ·subst he
    go_wp2_with fail
    go_roundw
    case rel=>exact ⟨k+1,by omega,by go_num,by rw [HF.out]; simpa [nonE] using HW.out,HR.out⟩
    case measure=>simp [intOf]; omega
   ·have hown:=HW.out
    have hee:x.isEmpty=false:=by simpa using he
    go_wp2_with (at_builtin; refine wpList_append_own _ rfl _ _ 29 rfl w1.heap.size 9 i0 (.string ⟨#[]⟩) 1 16 Tryz.underlying29 hi hz0 hz1 hz2 rfl (by decide) _ _ _ rfl (hown.alloc _) ⟨wr.heap.size,0,none⟩ 1 1 [.string (bs x)] rfl rfl ?c1 ?c2 ?c3 ?c4 ?c5 ?_)
    case c1=>exact new_cells _ #[.string (bs x)] _ _ (by simp)
    case c2=>intro u hu; simp at hu; subst hu; rfl
    case c3=>unfold maxLen; omega
    case c4=>omega
    case c5=>simp; omega
    intro v' w2 hown2 hgrow _
    have HB2:=Lib.hid ((HR.out.trans (kept_alloc wr _)).trans' (grown_below (hown.alloc _) hgrow (by simp; omega)))
    rw [← strCells_snoc] at hown2
    have HO:=Lib.hid hown2
    clear hown2 hgrow hown
    go_wp2_with fail
    go_roundw
    case rel=>exact ⟨k+1,by omega,by go_num,by rw [HF.out]; simpa [nonE,hee] using HO.out,HB2.out⟩
    case measure=>simp [intOf]; omega
  ·have HW:=Lib.hid (Strs.own hown)
   have HR:=Lib.hid hkr
   rw [List.take_of_length_le (by omega)] at HW
   have hfl:(sp.filter nonE).length≤sp.length:=List.length_filter_le _ _
   clear hown hkr
   go_wp2_with fail
   refine (join_any _ _ _ _ HW.out (by omega) (by rw [← HCL.out]; omega)).mono ?_
   rintro e w2 ⟨rfl,hk2⟩
   go_wp2_with fail
   go_ret
   exact ⟨ret_bs HCL.out.symm,(HK1.out.trans HR.out).trans hk2⟩
end Go.Proofs.YtmcoomlkbgiboaaGreatDoor

/- locale.Term at the two keys that lists use, in any language; locale.List. Conditions: lengths. -/
set_option linter.all false
namespace Go.Proofs.YtmcoomlkbgiboaaGreatDoor
open Go.RowKit

/-- The word for 'and' in a language, and for 'others'. -/
def andOf (l:Bs):Option Bs:=if l=lEn then some [97,110,100] else if l=lDe then some [117,110,100] else if l=lFr then some [101,116] else if l=lEs then some [121] else none
def othersOf (l:Bs):Option Bs:=if l=lEn then some [111,116,104,101,114,115] else if l=lDe then some [97,110,100,101,114,101] else if l=lFr then some [97,117,116,114,101,115] else if l=lEs then some [111,116,114,111,115] else none
theorem beq_no {l m:Bs} (h:¬ l=m):(l == m)=false:=by simpa using h

theorem term_and (l:Bs) (n:Int) (w:World):Calls Tryz.prog 162 #[.string (bs l),.string (bs [97,110,100]),.int .i64 n] w fun e w'=>e=.returned (.tuple #[.string (bs ((andOf l).getD [])),.bool (andOf l).isSome])∧Kept w w':=by
 unfold andOf
 by_cases h1:l=lEn
 ·rw [if_pos h1,h1]; exact term_en_and n w
 by_cases h2:l=lDe
 ·rw [if_neg h1,if_pos h2,h2]; exact term_de_and n w
 by_cases h3:l=lFr
 ·rw [if_neg h1,if_neg h2,if_pos h3,h3]; exact term_fr_and n w
 by_cases h4:l=lEs
 ·rw [if_neg h1,if_neg h2,if_neg h3,if_pos h4,h4]; exact term_es_and n w
 ·rw [if_neg h1,if_neg h2,if_neg h3,if_neg h4]; exact term_no l _ n w (beq_no h1) (beq_no h2) (beq_no h3) (beq_no h4)
theorem term_others (l:Bs) (n:Int) (w:World):Calls Tryz.prog 162 #[.string (bs l),.string (bs [111,116,104,101,114,115]),.int .i64 n] w fun e w'=>e=.returned (.tuple #[.string (bs ((othersOf l).getD [])),.bool (othersOf l).isSome])∧Kept w w':=by
 unfold othersOf
 by_cases h1:l=lEn
 ·rw [if_pos h1,h1]; exact term_en_others n w
 by_cases h2:l=lDe
 ·rw [if_neg h1,if_pos h2,h2]; exact term_de_others n w
 by_cases h3:l=lFr
 ·rw [if_neg h1,if_neg h2,if_pos h3,h3]; exact term_fr_others n w
 by_cases h4:l=lEs
 ·rw [if_neg h1,if_neg h2,if_neg h3,if_pos h4,h4]; exact term_es_others n w
 ·rw [if_neg h1,if_neg h2,if_neg h3,if_neg h4]; exact term_no l _ n w (beq_no h1) (beq_no h2) (beq_no h3) (beq_no h4)

def sepL:Bs:=[44,32]
/-- An enumeration. -/
def llistL (l:Bs) (xs:List Bs):Bs:=if (andOf l).isSome=false∨xs.length<2 then Lib.join xs sepL else Lib.join xs.dropLast sepL ++ [32] ++ (andOf l).getD [] ++ [32] ++ xs.getLastD []
theorem andOf_len (l:Bs):((andOf l).getD []).length≤3:=by
 unfold andOf
 by_cases h1:l=lEn
 ·rw [if_pos h1]; decide
 by_cases h2:l=lDe
 ·rw [if_neg h1,if_pos h2]; decide
 by_cases h3:l=lFr
 ·rw [if_neg h1,if_neg h2,if_pos h3]; decide
 by_cases h4:l=lEs
 ·rw [if_neg h1,if_neg h2,if_neg h3,if_pos h4]; decide
 ·rw [if_neg h1,if_neg h2,if_neg h3,if_neg h4]; decide

theorem slice_strs {w:World} {a:Option Addr} {c:Nat} {xs:List Bs} (h:Strs w (.slice a xs.length c) xs) (n:Nat) (hn:n≤xs.length):Strs w (.slice a n c) (xs.take n):=by
 obtain ⟨a',c',hv,hc,h3⟩:=h
 obtain ⟨rfl,_,rfl⟩:=Value.slice.inj hv
 refine ⟨a,c,by simp; omega,by simp; omega,fun q=>?_⟩
 obtain ⟨g,o,ha,hg,hcell⟩:=h3 (by simp at q; omega)
 refine ⟨g,o,ha,hg,fun j x hx=>hcell j x ?_⟩
 rw [List.getElem?_take] at hx
 split at hx
 ·exact hx
 ·cases hx

set_option maxRecDepth 100000 in
set_option maxHeartbeats 3200000 in
theorem llist_any (l:Bs) (v:Value) (xs:List Bs) (w:World) (hv:Strs w v xs) (hN:xs.length≤1000000) (hlen:(Lib.join xs sepL).length≤10000000) (hlen2:(Lib.join xs.dropLast sepL).length≤10000000) (hlast:(xs.getLastD []).length≤10000000) :
  Calls Tryz.prog 164 #[.string (bs l),v] w fun e w'=>e=.returned (.string (bs (llistL l xs)))∧Kept w w':=by
 have HL:Hid (llistL l xs=if (andOf l).isSome=false∨xs.length<2 then Lib.join xs sepL else Lib.join xs.dropLast sepL ++ [32] ++ (andOf l).getD [] ++ [32] ++ xs.getLastD []):=rfl
 have HT:=Lib.hid (fun w=>term_and l 1 w)
 have hal:=andOf_len l
 have HV:=Lib.hid hv
 have HSP:Hid (sepL=[44,32]):=rfl
 generalize (andOf l).getD []=an at *
 generalize (andOf l).isSome=ok at *
 obtain ⟨a,c,rfl,hc,h3⟩:=hv
 have H3:=Lib.hid h3
 clear h3
 cases ok
 ·go_enter Tryz.func164,Tryz.ntmps164
  go_wp2_with fail
  refine (HT.out _).mono ?_
  rintro e w1 ⟨rfl,hk1⟩
  have HK1:=Lib.hid hk1
  clear hk1
  go_wp2_with fail
  rw [← HSP.out]
  refine (join_any _ xs _ _ (HV.out.kept HK1.out) (by omega) (by omega)).mono ?_
  rintro e w2 ⟨rfl,hk2⟩
  have HK2:=Lib.hid (HK1.out.trans hk2)
  clear hk2
  go_wp2_with fail
  go_ret
  exact ⟨ret_bs (by rw [HL.out,if_pos (.inl (by first | rfl | trivial))]),HK2.out⟩
 by_cases h2:xs.length<2
 ·go_enter Tryz.func164,Tryz.ntmps164
  go_wp2_with fail
  refine (HT.out _).mono ?_
  rintro e w1 ⟨rfl,hk1⟩
  have HK1:=Lib.hid hk1
  clear hk1
  go_wp2_with fail
  rw [← HSP.out]
  refine (join_any _ xs _ _ (HV.out.kept HK1.out) (by omega) (by omega)).mono ?_
  rintro e w2 ⟨rfl,hk2⟩
  have HK2:=Lib.hid (HK1.out.trans hk2)
  clear hk2
  go_wp2_with fail
  go_ret
  exact ⟨ret_bs (by rw [HL.out,if_pos (.inr h2)]),HK2.out⟩
 ·obtain ⟨g,o,rfl,hg,hcell⟩:=H3.out (by omega)
  have hx:xs[xs.length - 1]? = some (xs.getLastD []):=by
   rw [List.getLastD_eq_getLast?,List.getLast?_eq_getElem?,List.getElem?_eq_getElem (by omega)]; rfl
  have hcl:=hcell (xs.length - 1) _ hx
  have HE:Hid (llistL l xs=Lib.join xs.dropLast sepL ++ [32] ++ an ++ [32] ++ xs.getLastD []):=by show _=_; rw [HL.out,if_neg (by simp; omega)]
  have HD:Hid (xs.dropLast=xs.take (xs.length - 1)):=by show _=_; rw [List.dropLast_eq_take]
  generalize xs.getLastD []=la at *
  have HC:=Lib.hid hcl
  clear hcl hx hcell
  go_enter Tryz.func164,Tryz.ntmps164
  go_wp2_with fail
  refine (HT.out _).mono ?_
  rintro e w1 ⟨rfl,hk1⟩
  have HK1:=Lib.hid hk1
  have c1:w1.cell? ⟨g,o+(xs.length - 1),none⟩=some (.string (bs la)):=(hk1.cell (p:=⟨g,o+(xs.length - 1),none⟩) hg).trans HC.out
  have hg1:g<w1.heap.size:=by have:=hk1.size; omega
  clear hk1
  go_wp2_with fail
  have HJ:Hid (∀ w2,Kept w1 w2→Calls Tryz.prog 88 #[.slice (some ⟨g,o,none⟩) (xs.length - 1) c,.string (bs [44,32])] w2 fun e w'=>e=.returned (.string (bs (Lib.join xs.dropLast sepL)))∧Kept w2 w'):=by
   intro w2 hk
   have hst:=slice_strs (HV.out.kept (HK1.out.trans hk)) (xs.length - 1) (by omega)
   rw [← HD.out] at hst
   exact join_any _ xs.dropLast sepL w2 hst (by simp; omega) (by omega)
  have HC2:Hid (∀ {w2:World},Kept w1.drew w2→w2.cell? ⟨g,o+(xs.length - 1),none⟩=some (.string (bs la))∧g<w2.heap.size∧Kept w w2):=by
   intro w2 hk
   have hk:Kept w1 w2:=(kept_drewN w1 1).trans hk
   exact ⟨(hk.cell (p:=⟨g,o+(xs.length - 1),none⟩) hg1).trans c1,by have:=hk.size; omega,HK1.out.trans hk⟩
  generalize hjl:Lib.join xs.dropLast sepL=jl at *
  have hsum:IntKind.i64.wrap ((xs.length:Int) - 1)=(xs.length:Int) - 1:=IntWalk.i64_in _ (by omega)
  go_region_with (go_at_call 88; refine (HJ.out _ (kept_drewN w1 1)).mono ?_; rintro e w2 ⟨rfl,hk2⟩; obtain ⟨q1,q2,q3⟩:=HC2.out hk2; have HQ:=Lib.hid q3; clear q3 hk2)
  all_goals
   go_wp2_with fail
   go_ret
   exact ⟨ret_bs (by rw [HE.out]; simp),HQ.out⟩
end Go.Proofs.YtmcoomlkbgiboaaGreatDoor

/- joined, Full, Short of package person and of its reference. Conditions: lengths. -/
set_option linter.all false
namespace Go.Proofs.YtmcoomlkbgiboaaGreatDoor
open Go.RowKit

def joinedL (xs:List Bs):Bs:=Lib.join (xs.filter nonE) [32]
def bulk (xs:List Bs):Nat:=(xs.map (fun x=>x.length+1)).sum
theorem joinedL_le (xs:List Bs):(joinedL xs).length≤bulk xs:=Nat.le_trans (join_len_le _) (sum_filter_le _ _)
theorem bulk_len (xs:List Bs):xs.length≤bulk xs:=by
 unfold bulk
 induction xs with
 | nil=>simp
 | cons a r ih=>simp only [List.map_cons,List.sum_cons,List.length_cons]; omega
set_option maxRecDepth 100000 in
set_option maxHeartbeats 1600000 in
theorem joined_any (v:Value) (sp:List Bs) (w:World) (hv:Strs w v sp) (hs:bulk sp≤100000000) :
  Calls Tryz.prog 183 #[v] w fun e w'=>e=.returned (.string (bs (joinedL sp)))∧Kept w w':=by
 obtain ⟨i0,hi,hz0,hz1,hz2⟩:=info_parts Tryz.infoStr
 have HCL:Hid (joinedL sp=Lib.join (sp.filter nonE) [32]):=rfl
 have hlen:=joinedL_le sp
 have hsl:=bulk_len sp
 obtain ⟨a,c,rfl,hc,h3⟩:=hv
 have H3:=Lib.hid h3
 clear h3
 go_enter Tryz.func183,Tryz.ntmps183
 go_wp2_with fail
 simp only [mk_bs]
 go_loopw [3,8] (fun v i wr=>∃ (k:Nat),k≤sp.length∧i=.int .i64 k∧wr.ownsRow w.heap.size 9 1 v ((sp.take k).filter nonE).length (strCells ((sp.take k).filter nonE))∧Kept w wr) (fun _ i _=>sp.length - (intOf i).toNat)
 case atStart=>exact ⟨0,Nat.zero_le _,rfl,World.ownsRow_nil _ _ _ _,Kept.refl _⟩
 case round =>
  obtain ⟨k,hkl,rfl,hown,hkr⟩:=hrel
  by_cases hlt:k<sp.length
  ·obtain ⟨x,hx⟩:∃ x,sp[k]? = some x:=⟨_,List.getElem?_eq_getElem hlt⟩
   obtain ⟨g,o,rfl,hg,hcc⟩:=H3.out (by omega)
   have hcell:wr.cell? ⟨g,o+k,none⟩=some (.string (bs x)):=(hkr.cell (p:=⟨g,o+k,none⟩) hg).trans (hcc k x hx)
   have HF:=Lib.hid (filter_take sp k x hx)
   have hfl:=filter_le sp k
   generalize (sp.take k).filter nonE=ws at *
   have hsz:w.heap.size≤wr.heap.size:=hkr.size
   have HR:=Lib.hid hkr
   have HW:=Lib.hid hown
   clear hkr hx hown hcc
   by_cases he:x=[]
   ·subst he
    go_wp2_with fail
    go_roundw
    case rel=>exact ⟨k+1,by omega,by go_num,by rw [HF.out]; simpa [nonE] using HW.out,HR.out⟩
    case measure=>simp [intOf]; omega
   ·have hown:=HW.out
    have hee:x.isEmpty=false:=by simpa using he
    go_wp2_with (at_builtin; refine wpList_append_own _ rfl _ _ 29 rfl w.heap.size 9 i0 (.string ⟨#[]⟩) 1 16 Tryz.underlying29 hi hz0 hz1 hz2 rfl (by decide) _ _ _ rfl (hown.alloc _) ⟨wr.heap.size,0,none⟩ 1 1 [.string (bs x)] rfl rfl ?c1 ?c2 ?c3 ?c4 ?c5 ?_)
    case c1=>exact new_cells _ #[.string (bs x)] _ _ (by simp)
    case c2=>intro u hu; simp at hu; subst hu; rfl
    case c3=>unfold maxLen; omega
    case c4=>omega
    case c5=>simp; omega
    intro v' w2 hown2 hgrow _
    have HB2:=Lib.hid ((HR.out.trans (kept_alloc wr _)).trans' (grown_below (hown.alloc _) hgrow (by simp; omega)))
    rw [← strCells_snoc] at hown2
    have HO:=Lib.hid hown2
    clear hown2 hgrow hown
    go_wp2_with fail
    go_roundw
    case rel=>exact ⟨k+1,by omega,by go_num,by rw [HF.out]; simpa [nonE,hee] using HO.out,HB2.out⟩
    case measure=>simp [intOf]; omega
  ·have HW:=Lib.hid (Strs.own hown)
   have HR:=Lib.hid hkr
   rw [List.take_of_length_le (by omega)] at HW
   have hfl:(sp.filter nonE).length≤sp.length:=List.length_filter_le _ _
   clear hown hkr
   go_wp2_with fail
   refine (join_any _ _ _ _ HW.out (by omega) (by rw [← HCL.out]; omega)).mono ?_
   rintro e w2 ⟨rfl,hk2⟩
   go_wp2_with fail
   go_ret
   exact ⟨ret_bs HCL.out.symm,HR.out.trans hk2⟩

end Go.Proofs.YtmcoomlkbgiboaaGreatDoor

/- Full, Short of package person and of its reference. Conditions: lengths. -/
set_option linter.all false
namespace Go.Proofs.YtmcoomlkbgiboaaGreatDoor
open Go.RowKit

/-- A person's value. -/
abbrev persV (f g p s:Bs):Value:=.agg #[.string (bs f),.string (bs g),.string (bs p),.string (bs s)]
theorem strs_lit (w:World) (arr:Array Value) (xs:List Bs) (n:Nat) (hn:n=xs.length) (h:arr.toList=strCells xs) (e:TypeId) (g:Nat) (hg:g=w.heap.size):Strs (w.alloc (.cells arr e)) (.slice (some ⟨g,0,none⟩) n n) xs:=by
 subst hn hg
 refine ⟨_,_,rfl,Nat.le_refl _,fun _=>⟨w.heap.size,0,rfl,by simp,fun j x hx=>?_⟩⟩
 have:=new_cells w arr e w.heap.size rfl j (.string (bs x)) (by rw [h]; exact strCells_at xs j x hx)
 have e1:((⟨w.heap.size,0,none⟩:Addr).add j)=⟨w.heap.size,j,none⟩:=by unfold Addr.add; split <;> simp_all
 rw [e1] at this
 rw [Nat.zero_add]; exact this

set_option maxRecDepth 100000 in
set_option maxHeartbeats 800000 in
theorem full_any (f g p s:Bs) (w:World) (h:bulk [g,p,f,s]≤100000000) :
  Calls Tryz.prog 163 #[persV f g p s] w fun e w'=>e=.returned (.string (bs (joinedL [g,p,f,s])))∧Kept w w':=by
 go_enter Tryz.func163,Tryz.ntmps163
 go_wp2_with fail
 refine (joined_any _ [g,p,f,s] _ (strs_lit _ _ _ _ rfl rfl _ _ (by simp)) h).mono ?_
 rintro e w1 ⟨rfl,hk⟩
 go_wp2_with fail
 go_ret
 exact ⟨rfl,((kept_alloc _ _).trans (kept_alloc _ _)).trans hk⟩
set_option maxRecDepth 100000 in
set_option maxHeartbeats 800000 in
theorem short_any (f g p s:Bs) (w:World) (h:bulk [p,f]≤100000000) :
  Calls Tryz.prog 136 #[persV f g p s] w fun e w'=>e=.returned (.string (bs (joinedL [p,f])))∧Kept w w':=by
 go_enter Tryz.func136,Tryz.ntmps136
 go_wp2_with fail
 refine (joined_any _ [p,f] _ (strs_lit _ _ _ _ rfl rfl _ _ (by simp)) h).mono ?_
 rintro e w1 ⟨rfl,hk⟩
 go_wp2_with fail
 go_ret
 exact ⟨rfl,((kept_alloc _ _).trans (kept_alloc _ _)).trans hk⟩
end Go.Proofs.YtmcoomlkbgiboaaGreatDoor
