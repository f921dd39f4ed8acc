/- What person.Parse answers, and that it does. Conditions: the length of the text. -/
import Derived.Test.YtmcoomlkbgiboaaGreatDoorU04
import Derived.Test.YtmcoomlkbgiboaaGreatDoorU06
import Derived.Test.YtmcoomlkbgiboaaGreatDoorU03
import Derived.Test.YtmcoomlkbgiboaaGreatDoorU01
import Derived.Deep.RegionWith
import Derived.Shelf.Strings.Builder1
import Derived.Shelf.Strings.OnBuilder

set_option linter.all false
namespace Go.Proofs.YtmcoomlkbgiboaaGreatDoor
open Go.RowKit

abbrev P4:=Bs × Bs × Bs × Bs
abbrev p4V (q:P4):Value:=persV q.1 q.2.1 q.2.2.1 q.2.2.2
def badP (p t:Bs):Prop:=2<t.count 44∨p.any (inSet setC)=true∨t.any (inSet setN)=true
instance (p t:Bs):Decidable (badP p t):=by unfold badP; infer_instance
end Go.Proofs.YtmcoomlkbgiboaaGreatDoor

/- Slices of persons; person.List. Conditions: lengths. -/
set_option linter.all false
namespace Go.Proofs.YtmcoomlkbgiboaaGreatDoor
open Go.RowKit

/-- The slice value v reads in w as the persons ps. -/
def Perss (w:World) (v:Value) (ps:List P4):Prop :=
 ∃ a c,v=.slice a ps.length c∧ps.length≤c∧(0<ps.length→∃ g o,a=some ⟨g,o,none⟩∧g<w.heap.size∧∀ j q,ps[j]? = some q →
  w.cell? ⟨g,o+j * 4,none⟩=some (.string (bs q.1))∧w.cell? ⟨g,o+j * 4+1,none⟩=some (.string (bs q.2.1))∧w.cell? ⟨g,o+j * 4+2,none⟩=some (.string (bs q.2.2.1))∧w.cell? ⟨g,o+j * 4+3,none⟩=some (.string (bs q.2.2.2)))
theorem Perss.kept {w w':World} {v:Value} {ps:List P4} (h:Perss w v ps) (k:Kept w w'):Perss w' v ps:=by
 obtain ⟨a,c,hv,hc,h3⟩:=h
 refine ⟨a,c,hv,hc,fun q=>?_⟩
 obtain ⟨g,o,ha,hg,hcell⟩:=h3 q
 refine ⟨g,o,ha,Nat.lt_of_lt_of_le hg k.size,fun j x hx=>?_⟩
 obtain ⟨c0,c1,c2,c3⟩:=hcell j x hx
 exact ⟨(k.cell (p:=⟨g,o+j * 4,none⟩) hg).trans c0,(k.cell (p:=⟨g,o+j * 4+1,none⟩) hg).trans c1,(k.cell (p:=⟨g,o+j * 4+2,none⟩) hg).trans c2,(k.cell (p:=⟨g,o+j * 4+3,none⟩) hg).trans c3⟩
theorem Perss.cut {w:World} {a:Option Addr} {c:Nat} {ps:List P4} (h:Perss w (.slice a ps.length c) ps) (n:Nat) (hn:n≤ps.length):Perss w (.slice a n c) (ps.take n):=by
 obtain ⟨a',c',hv,hc,h3⟩:=h
 obtain ⟨rfl,_,rfl⟩:=Value.slice.inj hv
 refine ⟨a,c,by simp; omega,by simp; omega,fun q=>?_⟩
 obtain ⟨g,o,ha,hg,hcell⟩:=h3 (by simp at q; omega)
 refine ⟨g,o,ha,hg,fun j x hx=>hcell j x ?_⟩
 rw [List.getElem?_take] at hx
 split at hx
 ·exact hx
 ·cases hx

/-- The name of a person in a list. -/
def nameOf (full:Bool) (q:P4):Bs:=if full then joinedL [q.2.1,q.2.2.1,q.1,q.2.2.2] else joinedL [q.2.2.1,q.1]
def langOf (l:Bs):Bs:=if (andOf l).isSome then l else lEn
/-- The list of persons. -/
def plistL (ps:List P4) (l:Bs) (most:Int) (full:Bool):Bs :=
 if 1≤most∧most<ps.length then Lib.join ((ps.take most.toNat).map (nameOf full)) sepL ++ [32] ++ (andOf (langOf l)).getD [] ++ [32] ++ (othersOf (langOf l)).getD []
 else llistL (langOf l) (ps.map (nameOf full))
def size4 (q:P4):Nat:=q.1.length+q.2.1.length+q.2.2.1.length+q.2.2.2.length
theorem nameOf_le (full:Bool) (q:P4):(nameOf full q).length≤size4 q+4:=by
 unfold nameOf size4
 cases full
 ·have:=joinedL_le [q.2.2.1,q.1]; simp [bulk] at this; simp; omega
 ·have:=joinedL_le [q.2.1,q.2.2.1,q.1,q.2.2.2]; simp [bulk] at this; simp; omega
theorem join_sep_le (m:Nat):∀ xs:List Bs,(∀ x∈xs,x.length≤m)→(Lib.join xs sepL).length≤xs.length * (m+2)
 | [],_=>by rw [Lib.join_nil]; simp
 | x :: xs,h=>by
  have ht:∀ r:List Bs,(∀ x∈r,x.length≤m)→(Lib.joinTail sepL r).length≤r.length * (m+2):=by
   intro r
   induction r with
   | nil=>intro _; simp [Lib.joinTail]
   | cons b r ih =>
    intro hr
    have h1:=ih (fun x hx=>hr x (by simp [hx]))
    have h2:=hr b (by simp)
    unfold Lib.joinTail at h1 ⊢
    simp only [List.map_cons,List.flatten_cons,List.length_append,List.length_cons,Nat.add_mul,Nat.one_mul]
    simp only [sepL,List.length_cons,List.length_nil] at h1 ⊢
    omega
  have h1:=ht xs (fun x hx=>h x (by simp [hx]))
  have h2:=h x (by simp)
  rw [Lib.join_cons]
  simp only [List.length_append,List.length_cons,Nat.add_mul,Nat.one_mul]
  omega
theorem map_take (f:P4→Bs) (ps:List P4) (k:Nat) (q:P4) (h:ps[k]? = some q):(ps.take (k+1)).map f=(ps.take k).map f ++ [f q]:=by
 obtain ⟨hk,rfl⟩:=List.getElem?_eq_some_iff.1 h
 rw [List.take_succ_eq_append_getElem hk,List.map_append]; rfl
theorem names_le (full:Bool) (ps:List P4) (h:∀ q∈ps,size4 q≤10000):∀ x∈ps.map (nameOf full),x.length≤10004:=by
 intro x hx
 obtain ⟨q,hq,rfl⟩:=List.mem_map.1 hx
 have:=nameOf_le full q; have:=h q hq; omega
theorem name_full (w:World) (q:P4) (h:size4 q≤10000):Calls Tryz.prog 163 #[p4V q] w fun e w'=>e=.returned (.string (bs (nameOf true q)))∧Kept w w' :=
 full_any q.1 q.2.1 q.2.2.1 q.2.2.2 w (by unfold size4 at h; simp [bulk]; omega)
theorem name_short (w:World) (q:P4) (h:size4 q≤10000):Calls Tryz.prog 136 #[p4V q] w fun e w'=>e=.returned (.string (bs (nameOf false q)))∧Kept w w' :=
 short_any q.1 q.2.1 q.2.2.1 q.2.2.2 w (by unfold size4 at h; simp [bulk]; omega)
theorem othersOf_len (l:Bs):((othersOf l).getD []).length≤6:=by
 unfold othersOf
 by_cases h1:l=lEn
 ·rw [if_pos h1]; decide
 by_cases h2:l=lDe
 ·rw [if_neg h1,if_pos h2]; decide
 by_cases h3:l=lFr
 ·rw [if_neg h1,if_neg h2,if_pos h3]; decide
 by_cases h4:l=lEs
 ·rw [if_neg h1,if_neg h2,if_neg h3,if_pos h4]; decide
 ·rw [if_neg h1,if_neg h2,if_neg h3,if_neg h4]; decide

set_option maxRecDepth 100000 in
set_option maxHeartbeats 3200000 in
theorem plist_ks (v:Value) (ps:List P4) (l:Bs) (most:Int) (full:Bool) (w:World) (hv:Perss w v ps) (hN:ps.length≤900) (hq:∀ q∈ps,size4 q≤10000) (hk:(andOf l).isSome=true) (hm1:1≤most) (hm2:most<ps.length) (hmr : -9223372036854775808≤most∧most≤9223372036854775807) :
  Calls Tryz.prog 119 #[v,.string (bs l),.int .i64 most,.bool full] w fun e w'=>e=.returned (.string (bs (Lib.join ((ps.take most.toNat).map (nameOf full)) sepL ++ [32] ++ (andOf l).getD [] ++ [32] ++ (othersOf l).getD [])))∧Kept w w':=by
 obtain ⟨i0,hi,hz0,hz1,hz2⟩:=info_parts Tryz.infoStr
 have HV:=Lib.hid hv
 have HQ:=Lib.hid hq
 clear hq
 obtain ⟨a,c,rfl,hc,h3⟩:=hv
 clear h3
 obtain ⟨an0,HT⟩:∃ an0,Hid (∀ w,Calls Tryz.prog 162 #[.string (bs l),.string (bs [97,110,100]),.int .i64 1] w fun e w'=>e=.returned (.tuple #[.string (bs an0),.bool true])∧Kept w w') :=
  ⟨_,fun w=>by have:=term_and l 1 w; rw [hk] at this; exact this⟩
 clear hk
 obtain ⟨m,rfl⟩:∃ m:Nat,most=m:=⟨most.toNat,by omega⟩
 obtain ⟨xs,hxs⟩:∃ xs,xs=ps.take m:=⟨_,rfl⟩
 have hxl:xs.length=m:=by rw [hxs]; simp; omega
 have HX:Hid (Perss w (.slice a m c) xs):=by show Perss _ _ _; rw [hxs]; exact HV.out.cut m (by omega)
 have HXQ:Hid (∀ q∈xs,size4 q≤10000):=by intro q h; rw [hxs] at h; exact HQ.out q (List.mem_of_mem_take h)
 have HE:Hid (Lib.join ((ps.take ((m:Int)).toNat).map (nameOf full)) sepL=Lib.join (xs.map (nameOf full)) sepL):=by show _=_; rw [hxs]; simp
 have HLEN:=Lib.hid hxl
 have hml:m≤900:=by omega
 clear hxs hxl hc
 have hc:m≤c:=by obtain ⟨a',c',hv,hc,h3⟩:=HX.out; obtain ⟨_,h1,h2⟩:=Value.slice.inj hv; omega
 have HA:=Lib.hid (fun w=>term_and l 1 w)
 have HO:=Lib.hid (fun w=>term_others l 2 w)
 have hal:=andOf_len l
 have hol:=othersOf_len l
 have HSP:Hid (sepL=[44,32]):=rfl
 generalize (andOf l).getD []=an at *
 generalize (andOf l).isSome=an1 at *
 generalize (othersOf l).getD []=ot at *
 generalize (othersOf l).isSome=ot1 at *
 have hm1':decide ((1:Int)≤(m:Int))=true:=by simpa using hm1
 have hm2':decide (m<ps.length)=true:=by simp; omega
 have hm3:1≤m:=by omega
 have hm4:m<ps.length:=by omega
 clear hm1 hm2 hmr
 go_enter Tryz.func119,Tryz.ntmps119
 go_wp2_with fail
 refine (HT.out _).mono ?_
 rintro e w1 ⟨rfl,hk1⟩
 have HK1:=Lib.hid hk1
 clear hk1
 go_wp2_with fail
 go_loopw [12,40] (fun v i wr=>∃ (k:Nat),k≤m∧i=.int .i64 k∧wr.ownsRow w1.heap.size 9 1 v ((xs.take k).map (nameOf full)).length (strCells ((xs.take k).map (nameOf full)))∧Kept w1 wr) (fun _ i _=>m - (intOf i).toNat)
 case atStart=>exact ⟨0,Nat.zero_le _,rfl,World.ownsRow_nil _ _ _ _,Kept.refl _⟩
 case round =>
  obtain ⟨k,hkl,rfl,hown,hkr⟩:=hrel
  by_cases hlt:k<m
  ·obtain ⟨q,hx⟩:∃ x,xs[k]? = some x:=⟨_,List.getElem?_eq_getElem (by rw [HLEN.out]; exact hlt)⟩
   obtain ⟨a',c',hv',hc',h3⟩:=(HX.out.kept HK1.out).kept hkr
   obtain ⟨rfl,hdead,rfl⟩:=Value.slice.inj hv'
   clear hdead
   obtain ⟨g,o,rfl,hg,hcc⟩:=h3 (by rw [HLEN.out]; omega)
   obtain ⟨c0,c1,c2,c3⟩:=hcc k q hx
   have hqs:=HXQ.out q (List.mem_of_getElem? hx)
   have HF:=Lib.hid (map_take (nameOf full) xs k q hx)
   have hfl:((xs.take k).map (nameOf full)).length≤k:=by simp; omega
   generalize (xs.take k).map (nameOf full)=ws at *
   have hsz:w1.heap.size≤wr.heap.size:=hkr.size
   have HR:=Lib.hid hkr
   have HW:=Lib.hid hown
   have HNF:=Lib.hid (fun w=>name_full w q hqs)
   have HNS:=Lib.hid (fun w=>name_short w q hqs)
   clear hkr hx hown hcc h3 hv' hc'
   obtain ⟨qf,qg,qp,qs⟩:=q
   simp only at c0 c1 c2 c3
   cases full
   ·have HNAME:=HNS
    clear HNF HNS
    go_wp2_with fail
    refine (HNAME.out _).mono ?_
    rintro e w2 ⟨rfl,hk2⟩
    generalize nameOf false (qf,qg,qp,qs)=nm at *
    have hown:=own_kept (HW.out.alloc (.cells #[.string (bs qf),.string (bs qg),.string (bs qp),.string (bs qs)] 77)) hk2
    have HR2:=Lib.hid ((HR.out.trans (kept_alloc wr _)).trans hk2)
    have hsz2:w1.heap.size≤w2.heap.size:=HR2.out.size
    clear hk2
    go_wp2_with (at_builtin; refine wpList_append_own _ rfl _ _ 29 rfl w1.heap.size 9 i0 (.string ⟨#[]⟩) 1 16 Tryz.underlying29 hi hz0 hz1 hz2 rfl (by decide) _ _ _ rfl (hown.alloc _) ⟨w2.heap.size,0,none⟩ 1 1 [.string (bs nm)] rfl rfl ?_ ?_ ?_ ?_ ?_ ?_)
    ·exact new_cells _ #[.string (bs nm)] _ _ (by simp)
    ·intro u hu; simp at hu; subst hu; rfl
    ·unfold maxLen; omega
    ·omega
    ·simp; omega
    intro v' w3 hown2 hgrow _
    have HB2:=Lib.hid ((HR2.out.trans (kept_alloc w2 _)).trans' (grown_below (hown.alloc _) hgrow (by simp; omega)))
    rw [← strCells_snoc] at hown2
    have HO:=Lib.hid hown2
    clear hown2 hgrow hown
    go_wp2_with fail
    go_roundw
    case rel=>exact ⟨k+1,by omega,by go_num,by rw [HF.out]; simpa using HO.out,HB2.out⟩
    case measure=>simp [intOf]; omega
   ·have HNAME:=HNF
    clear HNF HNS
    go_wp2_with fail
    refine (HNAME.out _).mono ?_
    rintro e w2 ⟨rfl,hk2⟩
    generalize nameOf true (qf,qg,qp,qs)=nm at *
    have hown:=own_kept (HW.out.alloc (.cells #[.string (bs qf),.string (bs qg),.string (bs qp),.string (bs qs)] 77)) hk2
    have HR2:=Lib.hid ((HR.out.trans (kept_alloc wr _)).trans hk2)
    have hsz2:w1.heap.size≤w2.heap.size:=HR2.out.size
    clear hk2
    go_wp2_with (at_builtin; refine wpList_append_own _ rfl _ _ 29 rfl w1.heap.size 9 i0 (.string ⟨#[]⟩) 1 16 Tryz.underlying29 hi hz0 hz1 hz2 rfl (by decide) _ _ _ rfl (hown.alloc _) ⟨w2.heap.size,0,none⟩ 1 1 [.string (bs nm)] rfl rfl ?_ ?_ ?_ ?_ ?_ ?_)
    ·exact new_cells _ #[.string (bs nm)] _ _ (by simp)
    ·intro u hu; simp at hu; subst hu; rfl
    ·unfold maxLen; omega
    ·omega
    ·simp; omega
    intro v' w3 hown2 hgrow _
    have HB2:=Lib.hid ((HR2.out.trans (kept_alloc w2 _)).trans' (grown_below (hown.alloc _) hgrow (by simp; omega)))
    rw [← strCells_snoc] at hown2
    have HO:=Lib.hid hown2
    clear hown2 hgrow hown
    go_wp2_with fail
    go_roundw
    case rel=>exact ⟨k+1,by omega,by go_num,by rw [HF.out]; simpa using HO.out,HB2.out⟩
    case measure=>simp [intOf]; omega
  ·have HW:=Lib.hid (Strs.own hown)
   have HR:=Lib.hid (HK1.out.trans hkr)
   rw [List.take_of_length_le (by rw [HLEN.out]; omega)] at HW
   have hnl:(xs.map (nameOf full)).length≤900:=by rw [List.length_map,HLEN.out]; exact hml
   have hjl:=join_sep_le 10004 _ (names_le full xs HXQ.out)
   have hjd:=join_sep_le 10004 (xs.map (nameOf full)).dropLast (fun x hx=>names_le full xs HXQ.out x ((List.dropLast_sublist _).subset hx))
   have hll:((xs.map (nameOf full)).getLastD []).length≤10004:=by
    cases hq:(xs.map (nameOf full)).getLast? with
    | none=>rw [List.getLastD_eq_getLast?,hq]; simp
    | some y=>rw [List.getLastD_eq_getLast?,hq]; exact names_le full xs HXQ.out y (List.mem_of_getLast? hq)
   have hdl:(xs.map (nameOf full)).dropLast.length≤900:=by simp at hnl ⊢; omega
   clear hown hkr
   have hj1:(Lib.join (xs.map (nameOf full)) sepL).length≤10000000:=by
    have:=Nat.mul_le_mul_right 10006 hnl; omega
   have hj2:(Lib.join (xs.map (nameOf full)).dropLast sepL).length≤10000000:=by
    have:=Nat.mul_le_mul_right 10006 hdl; omega
   clear hjl hjd hdl
   go_wp2_with fail
   refine (HA.out _).mono ?_
   rintro e w2 ⟨rfl,hk2⟩
   have HR2:=Lib.hid (HR.out.trans hk2)
   have HW2:=Lib.hid (HW.out.kept hk2)
   clear hk2
   go_wp2_with fail
   refine (HO.out _).mono ?_
   rintro e w3 ⟨rfl,hk3⟩
   have HR3:=Lib.hid (HR2.out.trans hk3)
   have HW3:=Lib.hid (HW2.out.kept hk3)
   clear hk3
   go_wp2_with fail
   rw [← HSP.out]
   refine (join_any _ _ _ _ HW3.out (by omega) (by omega)).mono ?_
   rintro e w4 ⟨rfl,hk4⟩
   have HR4:=Lib.hid (HR3.out.trans hk4)
   clear hk4
   generalize Lib.join (xs.map (nameOf full)) sepL=jj at *
   go_wp2_with fail
   go_ret
   exact ⟨ret_bs (by rw [HE.out]; simp),HR4.out⟩

set_option maxRecDepth 100000 in
set_option maxHeartbeats 3200000 in
theorem plist_kn (v:Value) (ps:List P4) (l:Bs) (most:Int) (full:Bool) (w:World) (hv:Perss w v ps) (hN:ps.length≤900) (hq:∀ q∈ps,size4 q≤10000) (hk:(andOf l).isSome=true) (hm:¬ (1≤most∧most<ps.length)) (hmr : -9223372036854775808≤most∧most≤9223372036854775807) :
  Calls Tryz.prog 119 #[v,.string (bs l),.int .i64 most,.bool full] w fun e w'=>e=.returned (.string (bs (llistL l (ps.map (nameOf full)))))∧Kept w w':=by
 obtain ⟨i0,hi,hz0,hz1,hz2⟩:=info_parts Tryz.infoStr
 have HV:=Lib.hid hv
 have HQ:=Lib.hid hq
 clear hq
 obtain ⟨a,c,rfl,hc,h3⟩:=hv
 clear h3
 obtain ⟨an0,HT⟩:∃ an0,Hid (∀ w,Calls Tryz.prog 162 #[.string (bs l),.string (bs [97,110,100]),.int .i64 1] w fun e w'=>e=.returned (.tuple #[.string (bs an0),.bool true])∧Kept w w') :=
  ⟨_,fun w=>by have:=term_and l 1 w; rw [hk] at this; exact this⟩
 clear hk
 obtain ⟨m,hm0⟩:∃ m:Nat,m=ps.length:=⟨_,rfl⟩
 obtain ⟨xs,hxs⟩:∃ xs,xs=ps:=⟨_,rfl⟩
 have HX:Hid (Perss w (.slice a m c) xs):=by show Perss _ _ _; rw [hxs,hm0]; exact HV.out
 have HXQ:Hid (∀ q∈xs,size4 q≤10000):=by intro q h; rw [hxs] at h; exact HQ.out q h
 have HE:Hid (ps=xs):=hxs.symm
 have HLEN:Hid (xs.length=m):=by show _=_; rw [hxs,hm0]
 have hml:m≤900:=by omega
 rw [← hm0] at hm hc
 rw [← hm0]
 clear hxs
 have HM0:=Lib.hid hm0
 clear hm0 hN
 by_cases hm1:1≤most
 ·have hm1':decide ((1:Int)≤most)=true:=by simpa using hm1
  have hm2':decide (most<(m:Int))=false:=by simp; omega
  have hm3:¬ most<(m:Int):=by omega
  clear hm
  go_enter Tryz.func119,Tryz.ntmps119
  go_wp2_with fail
  refine (HT.out _).mono ?_
  rintro e w1 ⟨rfl,hk1⟩
  have HK1:=Lib.hid hk1
  clear hk1
  go_wp2_with fail
  go_loopw [12,40] (fun v i wr=>∃ (k:Nat),k≤m∧i=.int .i64 k∧wr.ownsRow w1.heap.size 9 1 v ((xs.take k).map (nameOf full)).length (strCells ((xs.take k).map (nameOf full)))∧Kept w1 wr) (fun _ i _=>m - (intOf i).toNat)
  case atStart=>exact ⟨0,Nat.zero_le _,rfl,World.ownsRow_nil _ _ _ _,Kept.refl _⟩
  case round =>
   obtain ⟨k,hkl,rfl,hown,hkr⟩:=hrel
   by_cases hlt:k<m
   ·obtain ⟨q,hx⟩:∃ x,xs[k]? = some x:=⟨_,List.getElem?_eq_getElem (by rw [HLEN.out]; exact hlt)⟩
    obtain ⟨a',c',hv',hc',h3⟩:=(HX.out.kept HK1.out).kept hkr
    obtain ⟨rfl,hdead,rfl⟩:=Value.slice.inj hv'
    clear hdead
    obtain ⟨g,o,rfl,hg,hcc⟩:=h3 (by rw [HLEN.out]; omega)
    obtain ⟨c0,c1,c2,c3⟩:=hcc k q hx
    have hqs:=HXQ.out q (List.mem_of_getElem? hx)
    have HF:=Lib.hid (map_take (nameOf full) xs k q hx)
    have hfl:((xs.take k).map (nameOf full)).length≤k:=by simp; omega
    generalize (xs.take k).map (nameOf full)=ws at *
    have hsz:w1.heap.size≤wr.heap.size:=hkr.size
    have HR:=Lib.hid hkr
    have HW:=Lib.hid hown
    have HNF:=Lib.hid (fun w=>name_full w q hqs)
    have HNS:=Lib.hid (fun w=>name_short w q hqs)
    clear hkr hx hown hcc h3 hv' hc'
    obtain ⟨qf,qg,qp,qs⟩:=q
    simp only at c0 c1 c2 c3
    cases full
    ·have HNAME:=HNS
     clear HNF HNS
     go_wp2_with fail
     refine (HNAME.out _).mono ?_
     rintro e w2 ⟨rfl,hk2⟩
     generalize nameOf false (qf,qg,qp,qs)=nm at *
     have hown:=own_kept (HW.out.alloc (.cells #[.string (bs qf),.string (bs qg),.string (bs qp),.string (bs qs)] 77)) hk2
     have HR2:=Lib.hid ((HR.out.trans (kept_alloc wr _)).trans hk2)
     have hsz2:w1.heap.size≤w2.heap.size:=HR2.out.size
     clear hk2
     go_wp2_with (at_builtin; refine wpList_append_own _ rfl _ _ 29 rfl w1.heap.size 9 i0 (.string ⟨#[]⟩) 1 16 Tryz.underlying29 hi hz0 hz1 hz2 rfl (by decide) _ _ _ rfl (hown.alloc _) ⟨w2.heap.size,0,none⟩ 1 1 [.string (bs nm)] rfl rfl ?_ ?_ ?_ ?_ ?_ ?_)
     ·exact new_cells _ #[.string (bs nm)] _ _ (by simp)
     ·intro u hu; simp at hu; subst hu; rfl
     ·unfold maxLen; omega
     ·omega
     ·simp; omega
     intro v' w3 hown2 hgrow _
     have HB2:=Lib.hid ((HR2.out.trans (kept_alloc w2 _)).trans' (grown_below (hown.alloc _) hgrow (by simp; omega)))
     rw [← strCells_snoc] at hown2
     have HO:=Lib.hid hown2
     clear hown2 hgrow hown
     go_wp2_with fail
     go_roundw
     case rel=>exact ⟨k+1,by omega,by go_num,by rw [HF.out]; simpa using HO.out,HB2.out⟩
     case measure=>simp [intOf]; omega
    ·have HNAME:=HNF
     clear HNF HNS
     go_wp2_with fail
     refine (HNAME.out _).mono ?_
     rintro e w2 ⟨rfl,hk2⟩
     generalize nameOf true (qf,qg,qp,qs)=nm at *
     have hown:=own_kept (HW.out.alloc (.cells #[.string (bs qf),.string (bs qg),.string (bs qp),.string (bs qs)] 77)) hk2
     have HR2:=Lib.hid ((HR.out.trans (kept_alloc wr _)).trans hk2)
     have hsz2:w1.heap.size≤w2.heap.size:=HR2.out.size
     clear hk2
     go_wp2_with (at_builtin; refine wpList_append_own _ rfl _ _ 29 rfl w1.heap.size 9 i0 (.string ⟨#[]⟩) 1 16 Tryz.underlying29 hi hz0 hz1 hz2 rfl (by decide) _ _ _ rfl (hown.alloc _) ⟨w2.heap.size,0,none⟩ 1 1 [.string (bs nm)] rfl rfl ?_ ?_ ?_ ?_ ?_ ?_)
     ·exact new_cells _ #[.string (bs nm)] _ _ (by simp)
     ·intro u hu; simp at hu; subst hu; rfl
     ·unfold maxLen; omega
     ·omega
     ·simp; omega
     intro v' w3 hown2 hgrow _
     have HB2:=Lib.hid ((HR2.out.trans (kept_alloc w2 _)).trans' (grown_below (hown.alloc _) hgrow (by simp; omega)))
     rw [← strCells_snoc] at hown2
     have HO:=Lib.hid hown2
     clear hown2 hgrow hown
     go_wp2_with fail
     go_roundw
     case rel=>exact ⟨k+1,by omega,by go_num,by rw [HF.out]; simpa using HO.out,HB2.out⟩
     case measure=>simp [intOf]; omega
   ·have HW:=Lib.hid (Strs.own hown)
    have HR:=Lib.hid (HK1.out.trans hkr)
    rw [List.take_of_length_le (by rw [HLEN.out]; omega)] at HW
    have hnl:(xs.map (nameOf full)).length≤900:=by rw [List.length_map,HLEN.out]; exact hml
    have hjl:=join_sep_le 10004 _ (names_le full xs HXQ.out)
    have hjd:=join_sep_le 10004 (xs.map (nameOf full)).dropLast (fun x hx=>names_le full xs HXQ.out x ((List.dropLast_sublist _).subset hx))
    have hll:((xs.map (nameOf full)).getLastD []).length≤10004:=by
     cases hq:(xs.map (nameOf full)).getLast? with
     | none=>rw [List.getLastD_eq_getLast?,hq]; simp
     | some y=>rw [List.getLastD_eq_getLast?,hq]; exact names_le full xs HXQ.out y (List.mem_of_getLast? hq)
    have hdl:(xs.map (nameOf full)).dropLast.length≤900:=by simp at hnl ⊢; omega
    clear hown hkr
    have hj1:(Lib.join (xs.map (nameOf full)) sepL).length≤10000000:=by
     have:=Nat.mul_le_mul_right 10006 hnl; omega
    have hj2:(Lib.join (xs.map (nameOf full)).dropLast sepL).length≤10000000:=by
     have:=Nat.mul_le_mul_right 10006 hdl; omega
    clear hjl hjd hdl
    go_wp2_with fail
    refine (llist_any l _ _ _ HW.out (by omega) hj1 hj2 (by omega)).mono ?_
    rintro e w2 ⟨rfl,hk2⟩
    have HR2:=Lib.hid (HR.out.trans hk2)
    clear hk2
    go_wp2_with fail
    go_ret
    exact ⟨ret_bs (by rw [HE.out]),HR2.out⟩
 ·have hm1':decide ((1:Int)≤most)=false:=by simpa using hm1
  clear hm
  go_enter Tryz.func119,Tryz.ntmps119
  go_wp2_with fail
  refine (HT.out _).mono ?_
  rintro e w1 ⟨rfl,hk1⟩
  have HK1:=Lib.hid hk1
  clear hk1
  go_wp2_with fail
  go_loopw [12,40] (fun v i wr=>∃ (k:Nat),k≤m∧i=.int .i64 k∧wr.ownsRow w1.heap.size 9 1 v ((xs.take k).map (nameOf full)).length (strCells ((xs.take k).map (nameOf full)))∧Kept w1 wr) (fun _ i _=>m - (intOf i).toNat)
  case atStart=>exact ⟨0,Nat.zero_le _,rfl,World.ownsRow_nil _ _ _ _,Kept.refl _⟩
  case round =>
   obtain ⟨k,hkl,rfl,hown,hkr⟩:=hrel
   by_cases hlt:k<m
   ·obtain ⟨q,hx⟩:∃ x,xs[k]? = some x:=⟨_,List.getElem?_eq_getElem (by rw [HLEN.out]; exact hlt)⟩
    obtain ⟨a',c',hv',hc',h3⟩:=(HX.out.kept HK1.out).kept hkr
    obtain ⟨rfl,hdead,rfl⟩:=Value.slice.inj hv'
    clear hdead
    obtain ⟨g,o,rfl,hg,hcc⟩:=h3 (by rw [HLEN.out]; omega)
    obtain ⟨c0,c1,c2,c3⟩:=hcc k q hx
    have hqs:=HXQ.out q (List.mem_of_getElem? hx)
    have HF:=Lib.hid (map_take (nameOf full) xs k q hx)
    have hfl:((xs.take k).map (nameOf full)).length≤k:=by simp; omega
    generalize (xs.take k).map (nameOf full)=ws at *
    have hsz:w1.heap.size≤wr.heap.size:=hkr.size
    have HR:=Lib.hid hkr
    have HW:=Lib.hid hown
    have HNF:=Lib.hid (fun w=>name_full w q hqs)
    have HNS:=Lib.hid (fun w=>name_short w q hqs)
    clear hkr hx hown hcc h3 hv' hc'
    obtain ⟨qf,qg,qp,qs⟩:=q
    simp only at c0 c1 c2 c3
    cases full
    ·have HNAME:=HNS
     clear HNF HNS
     go_wp2_with fail
     refine (HNAME.out _).mono ?_
     rintro e w2 ⟨rfl,hk2⟩
     generalize nameOf false (qf,qg,qp,qs)=nm at *
     have hown:=own_kept (HW.out.alloc (.cells #[.string (bs qf),.string (bs qg),.string (bs qp),.string (bs qs)] 77)) hk2
     have HR2:=Lib.hid ((HR.out.trans (kept_alloc wr _)).trans hk2)
     have hsz2:w1.heap.size≤w2.heap.size:=HR2.out.size
     clear hk2
     go_wp2_with (at_builtin; refine wpList_append_own _ rfl _ _ 29 rfl w1.heap.size 9 i0 (.string ⟨#[]⟩) 1 16 Tryz.underlying29 hi hz0 hz1 hz2 rfl (by decide) _ _ _ rfl (hown.alloc _) ⟨w2.heap.size,0,none⟩ 1 1 [.string (bs nm)] rfl rfl ?_ ?_ ?_ ?_ ?_ ?_)
     ·exact new_cells _ #[.string (bs nm)] _ _ (by simp)
     ·intro u hu; simp at hu; subst hu; rfl
     ·unfold maxLen; omega
     ·omega
     ·simp; omega
     intro v' w3 hown2 hgrow _
     have HB2:=Lib.hid ((HR2.out.trans (kept_alloc w2 _)).trans' (grown_below (hown.alloc _) hgrow (by simp; omega)))
     rw [← strCells_snoc] at hown2
     have HO:=Lib.hid hown2
     clear hown2 hgrow hown
     go_wp2_with fail
     go_roundw
     case rel=>exact ⟨k+1,by omega,by go_num,by rw [HF.out]; simpa using HO.out,HB2.out⟩
     case measure=>simp [intOf]; omega
    ·have HNAME:=HNF
     clear HNF HNS
     go_wp2_with fail
     refine (HNAME.out _).mono ?_
     rintro e w2 ⟨rfl,hk2⟩
     generalize nameOf true (qf,qg,qp,qs)=nm at *
     have hown:=own_kept (HW.out.alloc (.cells #[.string (bs qf),.string (bs qg),.string (bs qp),.string (bs qs)] 77)) hk2
     have HR2:=Lib.hid ((HR.out.trans (kept_alloc wr _)).trans hk2)
     have hsz2:w1.heap.size≤w2.heap.size:=HR2.out.size
     clear hk2
     go_wp2_with (at_builtin; refine wpList_append_own _ rfl _ _ 29 rfl w1.heap.size 9 i0 (.string ⟨#[]⟩) 1 16 Tryz.underlying29 hi hz0 hz1 hz2 rfl (by decide) _ _ _ rfl (hown.alloc _) ⟨w2.heap.size,0,none⟩ 1 1 [.string (bs nm)] rfl rfl ?_ ?_ ?_ ?_ ?_ ?_)
     ·exact new_cells _ #[.string (bs nm)] _ _ (by simp)
     ·intro u hu; simp at hu; subst hu; rfl
     ·unfold maxLen; omega
     ·omega
     ·simp; omega
     intro v' w3 hown2 hgrow _
     have HB2:=Lib.hid ((HR2.out.trans (kept_alloc w2 _)).trans' (grown_below (hown.alloc _) hgrow (by simp; omega)))
     rw [← strCells_snoc] at hown2
     have HO:=Lib.hid hown2
     clear hown2 hgrow hown
     go_wp2_with fail
     go_roundw
     case rel=>exact ⟨k+1,by omega,by go_num,by rw [HF.out]; simpa using HO.out,HB2.out⟩
     case measure=>simp [intOf]; omega
   ·have HW:=Lib.hid (Strs.own hown)
    have HR:=Lib.hid (HK1.out.trans hkr)
    rw [List.take_of_length_le (by rw [HLEN.out]; omega)] at HW
    have hnl:(xs.map (nameOf full)).length≤900:=by rw [List.length_map,HLEN.out]; exact hml
    have hjl:=join_sep_le 10004 _ (names_le full xs HXQ.out)
    have hjd:=join_sep_le 10004 (xs.map (nameOf full)).dropLast (fun x hx=>names_le full xs HXQ.out x ((List.dropLast_sublist _).subset hx))
    have hll:((xs.map (nameOf full)).getLastD []).length≤10004:=by
     cases hq:(xs.map (nameOf full)).getLast? with
     | none=>rw [List.getLastD_eq_getLast?,hq]; simp
     | some y=>rw [List.getLastD_eq_getLast?,hq]; exact names_le full xs HXQ.out y (List.mem_of_getLast? hq)
    have hdl:(xs.map (nameOf full)).dropLast.length≤900:=by simp at hnl ⊢; omega
    clear hown hkr
    have hj1:(Lib.join (xs.map (nameOf full)) sepL).length≤10000000:=by
     have:=Nat.mul_le_mul_right 10006 hnl; omega
    have hj2:(Lib.join (xs.map (nameOf full)).dropLast sepL).length≤10000000:=by
     have:=Nat.mul_le_mul_right 10006 hdl; omega
    clear hjl hjd hdl
    go_wp2_with fail
    refine (llist_any l _ _ _ HW.out (by omega) hj1 hj2 (by omega)).mono ?_
    rintro e w2 ⟨rfl,hk2⟩
    have HR2:=Lib.hid (HR.out.trans hk2)
    clear hk2
    go_wp2_with fail
    go_ret
    exact ⟨ret_bs (by rw [HE.out]),HR2.out⟩

set_option maxRecDepth 100000 in
set_option maxHeartbeats 3200000 in
theorem plist_us (v:Value) (ps:List P4) (l:Bs) (most:Int) (full:Bool) (w:World) (hv:Perss w v ps) (hN:ps.length≤900) (hq:∀ q∈ps,size4 q≤10000) (hk:(andOf l).isSome=false) (hm1:1≤most) (hm2:most<ps.length) (hmr : -9223372036854775808≤most∧most≤9223372036854775807) :
  Calls Tryz.prog 119 #[v,.string (bs l),.int .i64 most,.bool full] w fun e w'=>e=.returned (.string (bs (Lib.join ((ps.take most.toNat).map (nameOf full)) sepL ++ [32] ++ (andOf lEn).getD [] ++ [32] ++ (othersOf lEn).getD [])))∧Kept w w':=by
 obtain ⟨i0,hi,hz0,hz1,hz2⟩:=info_parts Tryz.infoStr
 have HV:=Lib.hid hv
 have HQ:=Lib.hid hq
 clear hq
 obtain ⟨a,c,rfl,hc,h3⟩:=hv
 clear h3
 obtain ⟨an0,HT⟩:∃ an0,Hid (∀ w,Calls Tryz.prog 162 #[.string (bs l),.string (bs [97,110,100]),.int .i64 1] w fun e w'=>e=.returned (.tuple #[.string (bs an0),.bool false])∧Kept w w') :=
  ⟨_,fun w=>by have:=term_and l 1 w; rw [hk] at this; exact this⟩
 clear hk
 obtain ⟨m,rfl⟩:∃ m:Nat,most=m:=⟨most.toNat,by omega⟩
 obtain ⟨xs,hxs⟩:∃ xs,xs=ps.take m:=⟨_,rfl⟩
 have hxl:xs.length=m:=by rw [hxs]; simp; omega
 have HX:Hid (Perss w (.slice a m c) xs):=by show Perss _ _ _; rw [hxs]; exact HV.out.cut m (by omega)
 have HXQ:Hid (∀ q∈xs,size4 q≤10000):=by intro q h; rw [hxs] at h; exact HQ.out q (List.mem_of_mem_take h)
 have HE:Hid (Lib.join ((ps.take ((m:Int)).toNat).map (nameOf full)) sepL=Lib.join (xs.map (nameOf full)) sepL):=by show _=_; rw [hxs]; simp
 have HLEN:=Lib.hid hxl
 have hml:m≤900:=by omega
 clear hxs hxl hc
 have hc:m≤c:=by obtain ⟨a',c',hv,hc,h3⟩:=HX.out; obtain ⟨_,h1,h2⟩:=Value.slice.inj hv; omega
 have HA:=Lib.hid (fun w=>term_and lEn 1 w)
 have HO:=Lib.hid (fun w=>term_others lEn 2 w)
 have hal:=andOf_len lEn
 have hol:=othersOf_len lEn
 have HSP:Hid (sepL=[44,32]):=rfl
 generalize (andOf lEn).getD []=an at *
 generalize (andOf lEn).isSome=an1 at *
 generalize (othersOf lEn).getD []=ot at *
 generalize (othersOf lEn).isSome=ot1 at *
 have hm1':decide ((1:Int)≤(m:Int))=true:=by simpa using hm1
 have hm2':decide (m<ps.length)=true:=by simp; omega
 have hm3:1≤m:=by omega
 have hm4:m<ps.length:=by omega
 clear hm1 hm2 hmr
 go_enter Tryz.func119,Tryz.ntmps119
 go_wp2_with fail
 refine (HT.out _).mono ?_
 rintro e w1 ⟨rfl,hk1⟩
 have HK1:=Lib.hid hk1
 clear hk1
 go_wp2_with fail
 simp only [mk_bs]
 go_loopw [12,40] (fun v i wr=>∃ (k:Nat),k≤m∧i=.int .i64 k∧wr.ownsRow w1.heap.size 9 1 v ((xs.take k).map (nameOf full)).length (strCells ((xs.take k).map (nameOf full)))∧Kept w1 wr) (fun _ i _=>m - (intOf i).toNat)
 case atStart=>exact ⟨0,Nat.zero_le _,rfl,World.ownsRow_nil _ _ _ _,Kept.refl _⟩
 case round =>
  obtain ⟨k,hkl,rfl,hown,hkr⟩:=hrel
  by_cases hlt:k<m
  ·obtain ⟨q,hx⟩:∃ x,xs[k]? = some x:=⟨_,List.getElem?_eq_getElem (by rw [HLEN.out]; exact hlt)⟩
   obtain ⟨a',c',hv',hc',h3⟩:=(HX.out.kept HK1.out).kept hkr
   obtain ⟨rfl,hdead,rfl⟩:=Value.slice.inj hv'
   clear hdead
   obtain ⟨g,o,rfl,hg,hcc⟩:=h3 (by rw [HLEN.out]; omega)
   obtain ⟨c0,c1,c2,c3⟩:=hcc k q hx
   have hqs:=HXQ.out q (List.mem_of_getElem? hx)
   have HF:=Lib.hid (map_take (nameOf full) xs k q hx)
   have hfl:((xs.take k).map (nameOf full)).length≤k:=by simp; omega
   generalize (xs.take k).map (nameOf full)=ws at *
   have hsz:w1.heap.size≤wr.heap.size:=hkr.size
   have HR:=Lib.hid hkr
   have HW:=Lib.hid hown
   have HNF:=Lib.hid (fun w=>name_full w q hqs)
   have HNS:=Lib.hid (fun w=>name_short w q hqs)
   clear hkr hx hown hcc h3 hv' hc'
   obtain ⟨qf,qg,qp,qs⟩:=q
   simp only at c0 c1 c2 c3
   cases full
   ·have HNAME:=HNS
    clear HNF HNS
    go_wp2_with fail
    refine (HNAME.out _).mono ?_
    rintro e w2 ⟨rfl,hk2⟩
    generalize nameOf false (qf,qg,qp,qs)=nm at *
    have hown:=own_kept (HW.out.alloc (.cells #[.string (bs qf),.string (bs qg),.string (bs qp),.string (bs qs)] 77)) hk2
    have HR2:=Lib.hid ((HR.out.trans (kept_alloc wr _)).trans hk2)
    have hsz2:w1.heap.size≤w2.heap.size:=HR2.out.size
    clear hk2
    go_wp2_with (at_builtin; refine wpList_append_own _ rfl _ _ 29 rfl w1.heap.size 9 i0 (.string ⟨#[]⟩) 1 16 Tryz.underlying29 hi hz0 hz1 hz2 rfl (by decide) _ _ _ rfl (hown.alloc _) ⟨w2.heap.size,0,none⟩ 1 1 [.string (bs nm)] rfl rfl ?_ ?_ ?_ ?_ ?_ ?_)
    ·exact new_cells _ #[.string (bs nm)] _ _ (by simp)
    ·intro u hu; simp at hu; subst hu; rfl
    ·unfold maxLen; omega
    ·omega
    ·simp; omega
    intro v' w3 hown2 hgrow _
    have HB2:=Lib.hid ((HR2.out.trans (kept_alloc w2 _)).trans' (grown_below (hown.alloc _) hgrow (by simp; omega)))
    rw [← strCells_snoc] at hown2
    have HO:=Lib.hid hown2
    clear hown2 hgrow hown
    go_wp2_with fail
    go_roundw
    case rel=>exact ⟨k+1,by omega,by go_num,by rw [HF.out]; simpa using HO.out,HB2.out⟩
    case measure=>simp [intOf]; omega
   ·have HNAME:=HNF
    clear HNF HNS
    go_wp2_with fail
    refine (HNAME.out _).mono ?_
    rintro e w2 ⟨rfl,hk2⟩
    generalize nameOf true (qf,qg,qp,qs)=nm at *
    have hown:=own_kept (HW.out.alloc (.cells #[.string (bs qf),.string (bs qg),.string (bs qp),.string (bs qs)] 77)) hk2
    have HR2:=Lib.hid ((HR.out.trans (kept_alloc wr _)).trans hk2)
    have hsz2:w1.heap.size≤w2.heap.size:=HR2.out.size
    clear hk2
    go_wp2_with (at_builtin; refine wpList_append_own _ rfl _ _ 29 rfl w1.heap.size 9 i0 (.string ⟨#[]⟩) 1 16 Tryz.underlying29 hi hz0 hz1 hz2 rfl (by decide) _ _ _ rfl (hown.alloc _) ⟨w2.heap.size,0,none⟩ 1 1 [.string (bs nm)] rfl rfl ?_ ?_ ?_ ?_ ?_ ?_)
    ·exact new_cells _ #[.string (bs nm)] _ _ (by simp)
    ·intro u hu; simp at hu; subst hu; rfl
    ·unfold maxLen; omega
    ·omega
    ·simp; omega
    intro v' w3 hown2 hgrow _
    have HB2:=Lib.hid ((HR2.out.trans (kept_alloc w2 _)).trans' (grown_below (hown.alloc _) hgrow (by simp; omega)))
    rw [← strCells_snoc] at hown2
    have HO:=Lib.hid hown2
    clear hown2 hgrow hown
    go_wp2_with fail
    go_roundw
    case rel=>exact ⟨k+1,by omega,by go_num,by rw [HF.out]; simpa using HO.out,HB2.out⟩
    case measure=>simp [intOf]; omega
  ·have HW:=Lib.hid (Strs.own hown)
   have HR:=Lib.hid (HK1.out.trans hkr)
   rw [List.take_of_length_le (by rw [HLEN.out]; omega)] at HW
   have hnl:(xs.map (nameOf full)).length≤900:=by rw [List.length_map,HLEN.out]; exact hml
   have hjl:=join_sep_le 10004 _ (names_le full xs HXQ.out)
   have hjd:=join_sep_le 10004 (xs.map (nameOf full)).dropLast (fun x hx=>names_le full xs HXQ.out x ((List.dropLast_sublist _).subset hx))
   have hll:((xs.map (nameOf full)).getLastD []).length≤10004:=by
    cases hq:(xs.map (nameOf full)).getLast? with
    | none=>rw [List.getLastD_eq_getLast?,hq]; simp
    | some y=>rw [List.getLastD_eq_getLast?,hq]; exact names_le full xs HXQ.out y (List.mem_of_getLast? hq)
   have hdl:(xs.map (nameOf full)).dropLast.length≤900:=by simp at hnl ⊢; omega
   clear hown hkr
   have hj1:(Lib.join (xs.map (nameOf full)) sepL).length≤10000000:=by
    have:=Nat.mul_le_mul_right 10006 hnl; omega
   have hj2:(Lib.join (xs.map (nameOf full)).dropLast sepL).length≤10000000:=by
    have:=Nat.mul_le_mul_right 10006 hdl; omega
   clear hjl hjd hdl
   go_wp2_with fail
   refine (HA.out _).mono ?_
   rintro e w2 ⟨rfl,hk2⟩
   have HR2:=Lib.hid (HR.out.trans hk2)
   have HW2:=Lib.hid (HW.out.kept hk2)
   clear hk2
   go_wp2_with fail
   refine (HO.out _).mono ?_
   rintro e w3 ⟨rfl,hk3⟩
   have HR3:=Lib.hid (HR2.out.trans hk3)
   have HW3:=Lib.hid (HW2.out.kept hk3)
   clear hk3
   go_wp2_with fail
   rw [← HSP.out]
   refine (join_any _ _ _ _ HW3.out (by omega) (by omega)).mono ?_
   rintro e w4 ⟨rfl,hk4⟩
   have HR4:=Lib.hid (HR3.out.trans hk4)
   clear hk4
   generalize Lib.join (xs.map (nameOf full)) sepL=jj at *
   go_wp2_with fail
   go_ret
   exact ⟨ret_bs (by rw [HE.out]; simp),HR4.out⟩

set_option maxRecDepth 100000 in
set_option maxHeartbeats 3200000 in
theorem plist_un (v:Value) (ps:List P4) (l:Bs) (most:Int) (full:Bool) (w:World) (hv:Perss w v ps) (hN:ps.length≤900) (hq:∀ q∈ps,size4 q≤10000) (hk:(andOf l).isSome=false) (hm:¬ (1≤most∧most<ps.length)) (hmr : -9223372036854775808≤most∧most≤9223372036854775807) :
  Calls Tryz.prog 119 #[v,.string (bs l),.int .i64 most,.bool full] w fun e w'=>e=.returned (.string (bs (llistL lEn (ps.map (nameOf full)))))∧Kept w w':=by
 obtain ⟨i0,hi,hz0,hz1,hz2⟩:=info_parts Tryz.infoStr
 have HV:=Lib.hid hv
 have HQ:=Lib.hid hq
 clear hq
 obtain ⟨a,c,rfl,hc,h3⟩:=hv
 clear h3
 obtain ⟨an0,HT⟩:∃ an0,Hid (∀ w,Calls Tryz.prog 162 #[.string (bs l),.string (bs [97,110,100]),.int .i64 1] w fun e w'=>e=.returned (.tuple #[.string (bs an0),.bool false])∧Kept w w') :=
  ⟨_,fun w=>by have:=term_and l 1 w; rw [hk] at this; exact this⟩
 clear hk
 obtain ⟨m,hm0⟩:∃ m:Nat,m=ps.length:=⟨_,rfl⟩
 obtain ⟨xs,hxs⟩:∃ xs,xs=ps:=⟨_,rfl⟩
 have HX:Hid (Perss w (.slice a m c) xs):=by show Perss _ _ _; rw [hxs,hm0]; exact HV.out
 have HXQ:Hid (∀ q∈xs,size4 q≤10000):=by intro q h; rw [hxs] at h; exact HQ.out q h
 have HE:Hid (ps=xs):=hxs.symm
 have HLEN:Hid (xs.length=m):=by show _=_; rw [hxs,hm0]
 have hml:m≤900:=by omega
 rw [← hm0] at hm hc
 rw [← hm0]
 clear hxs
 have HM0:=Lib.hid hm0
 clear hm0 hN
 by_cases hm1:1≤most
 ·have hm1':decide ((1:Int)≤most)=true:=by simpa using hm1
  have hm2':decide (most<(m:Int))=false:=by simp; omega
  have hm3:¬ most<(m:Int):=by omega
  clear hm
  go_enter Tryz.func119,Tryz.ntmps119
  go_wp2_with fail
  refine (HT.out _).mono ?_
  rintro e w1 ⟨rfl,hk1⟩
  have HK1:=Lib.hid hk1
  clear hk1
  go_wp2_with fail
  simp only [mk_bs]
  go_loopw [12,40] (fun v i wr=>∃ (k:Nat),k≤m∧i=.int .i64 k∧wr.ownsRow w1.heap.size 9 1 v ((xs.take k).map (nameOf full)).length (strCells ((xs.take k).map (nameOf full)))∧Kept w1 wr) (fun _ i _=>m - (intOf i).toNat)
  case atStart=>exact ⟨0,Nat.zero_le _,rfl,World.ownsRow_nil _ _ _ _,Kept.refl _⟩
  case round =>
   obtain ⟨k,hkl,rfl,hown,hkr⟩:=hrel
   by_cases hlt:k<m
   ·obtain ⟨q,hx⟩:∃ x,xs[k]? = some x:=⟨_,List.getElem?_eq_getElem (by rw [HLEN.out]; exact hlt)⟩
    obtain ⟨a',c',hv',hc',h3⟩:=(HX.out.kept HK1.out).kept hkr
    obtain ⟨rfl,hdead,rfl⟩:=Value.slice.inj hv'
    clear hdead
    obtain ⟨g,o,rfl,hg,hcc⟩:=h3 (by rw [HLEN.out]; omega)
    obtain ⟨c0,c1,c2,c3⟩:=hcc k q hx
    have hqs:=HXQ.out q (List.mem_of_getElem? hx)
    have HF:=Lib.hid (map_take (nameOf full) xs k q hx)
    have hfl:((xs.take k).map (nameOf full)).length≤k:=by simp; omega
    generalize (xs.take k).map (nameOf full)=ws at *
    have hsz:w1.heap.size≤wr.heap.size:=hkr.size
    have HR:=Lib.hid hkr
    have HW:=Lib.hid hown
    have HNF:=Lib.hid (fun w=>name_full w q hqs)
    have HNS:=Lib.hid (fun w=>name_short w q hqs)
    clear hkr hx hown hcc h3 hv' hc'
    obtain ⟨qf,qg,qp,qs⟩:=q
    simp only at c0 c1 c2 c3
    cases full
    ·have HNAME:=HNS
     clear HNF HNS
     go_wp2_with fail
     refine (HNAME.out _).mono ?_
     rintro e w2 ⟨rfl,hk2⟩
     generalize nameOf false (qf,qg,qp,qs)=nm at *
     have hown:=own_kept (HW.out.alloc (.cells #[.string (bs qf),.string (bs qg),.string (bs qp),.string (bs qs)] 77)) hk2
     have HR2:=Lib.hid ((HR.out.trans (kept_alloc wr _)).trans hk2)
     have hsz2:w1.heap.size≤w2.heap.size:=HR2.out.size
     clear hk2
     go_wp2_with (at_builtin; refine wpList_append_own _ rfl _ _ 29 rfl w1.heap.size 9 i0 (.string ⟨#[]⟩) 1 16 Tryz.underlying29 hi hz0 hz1 hz2 rfl (by decide) _ _ _ rfl (hown.alloc _) ⟨w2.heap.size,0,none⟩ 1 1 [.string (bs nm)] rfl rfl ?_ ?_ ?_ ?_ ?_ ?_)
     ·exact new_cells _ #[.string (bs nm)] _ _ (by simp)
     ·intro u hu; simp at hu; subst hu; rfl
     ·unfold maxLen; omega
     ·omega
     ·simp; omega
     intro v' w3 hown2 hgrow _
     have HB2:=Lib.hid ((HR2.out.trans (kept_alloc w2 _)).trans' (grown_below (hown.alloc _) hgrow (by simp; omega)))
     rw [← strCells_snoc] at hown2
     have HO:=Lib.hid hown2
     clear hown2 hgrow hown
     go_wp2_with fail
     go_roundw
     case rel=>exact ⟨k+1,by omega,by go_num,by rw [HF.out]; simpa using HO.out,HB2.out⟩
     case measure=>simp [intOf]; omega
    ·have HNAME:=HNF
     clear HNF HNS
     go_wp2_with fail
     refine (HNAME.out _).mono ?_
     rintro e w2 ⟨rfl,hk2⟩
     generalize nameOf true (qf,qg,qp,qs)=nm at *
     have hown:=own_kept (HW.out.alloc (.cells #[.string (bs qf),.string (bs qg),.string (bs qp),.string (bs qs)] 77)) hk2
     have HR2:=Lib.hid ((HR.out.trans (kept_alloc wr _)).trans hk2)
     have hsz2:w1.heap.size≤w2.heap.size:=HR2.out.size
     clear hk2
     go_wp2_with (at_builtin; refine wpList_append_own _ rfl _ _ 29 rfl w1.heap.size 9 i0 (.string ⟨#[]⟩) 1 16 Tryz.underlying29 hi hz0 hz1 hz2 rfl (by decide) _ _ _ rfl (hown.alloc _) ⟨w2.heap.size,0,none⟩ 1 1 [.string (bs nm)] rfl rfl ?_ ?_ ?_ ?_ ?_ ?_)
     ·exact new_cells _ #[.string (bs nm)] _ _ (by simp)
     ·intro u hu; simp at hu; subst hu; rfl
     ·unfold maxLen; omega
     ·omega
     ·simp; omega
     intro v' w3 hown2 hgrow _
     have HB2:=Lib.hid ((HR2.out.trans (kept_alloc w2 _)).trans' (grown_below (hown.alloc _) hgrow (by simp; omega)))
     rw [← strCells_snoc] at hown2
     have HO:=Lib.hid hown2
     clear hown2 hgrow hown
     go_wp2_with fail
     go_roundw
     case rel=>exact ⟨k+1,by omega,by go_num,by rw [HF.out]; simpa using HO.out,HB2.out⟩
     case measure=>simp [intOf]; omega
   ·have HW:=Lib.hid (Strs.own hown)
    have HR:=Lib.hid (HK1.out.trans hkr)
    rw [List.take_of_length_le (by rw [HLEN.out]; omega)] at HW
    have hnl:(xs.map (nameOf full)).length≤900:=by rw [List.length_map,HLEN.out]; exact hml
    have hjl:=join_sep_le 10004 _ (names_le full xs HXQ.out)
    have hjd:=join_sep_le 10004 (xs.map (nameOf full)).dropLast (fun x hx=>names_le full xs HXQ.out x ((List.dropLast_sublist _).subset hx))
    have hll:((xs.map (nameOf full)).getLastD []).length≤10004:=by
     cases hq:(xs.map (nameOf full)).getLast? with
     | none=>rw [List.getLastD_eq_getLast?,hq]; simp
     | some y=>rw [List.getLastD_eq_getLast?,hq]; exact names_le full xs HXQ.out y (List.mem_of_getLast? hq)
    have hdl:(xs.map (nameOf full)).dropLast.length≤900:=by simp at hnl ⊢; omega
    clear hown hkr
    have hj1:(Lib.join (xs.map (nameOf full)) sepL).length≤10000000:=by
     have:=Nat.mul_le_mul_right 10006 hnl; omega
    have hj2:(Lib.join (xs.map (nameOf full)).dropLast sepL).length≤10000000:=by
     have:=Nat.mul_le_mul_right 10006 hdl; omega
    clear hjl hjd hdl
    go_wp2_with fail
    refine (llist_any lEn _ _ _ HW.out (by omega) hj1 hj2 (by omega)).mono ?_
    rintro e w2 ⟨rfl,hk2⟩
    have HR2:=Lib.hid (HR.out.trans hk2)
    clear hk2
    go_wp2_with fail
    go_ret
    exact ⟨ret_bs (by rw [HE.out]),HR2.out⟩
 ·have hm1':decide ((1:Int)≤most)=false:=by simpa using hm1
  clear hm
  go_enter Tryz.func119,Tryz.ntmps119
  go_wp2_with fail
  refine (HT.out _).mono ?_
  rintro e w1 ⟨rfl,hk1⟩
  have HK1:=Lib.hid hk1
  clear hk1
  go_wp2_with fail
  simp only [mk_bs]
  go_loopw [12,40] (fun v i wr=>∃ (k:Nat),k≤m∧i=.int .i64 k∧wr.ownsRow w1.heap.size 9 1 v ((xs.take k).map (nameOf full)).length (strCells ((xs.take k).map (nameOf full)))∧Kept w1 wr) (fun _ i _=>m - (intOf i).toNat)
  case atStart=>exact ⟨0,Nat.zero_le _,rfl,World.ownsRow_nil _ _ _ _,Kept.refl _⟩
  case round =>
   obtain ⟨k,hkl,rfl,hown,hkr⟩:=hrel
   by_cases hlt:k<m
   ·obtain ⟨q,hx⟩:∃ x,xs[k]? = some x:=⟨_,List.getElem?_eq_getElem (by rw [HLEN.out]; exact hlt)⟩
    obtain ⟨a',c',hv',hc',h3⟩:=(HX.out.kept HK1.out).kept hkr
    obtain ⟨rfl,hdead,rfl⟩:=Value.slice.inj hv'
    clear hdead
    obtain ⟨g,o,rfl,hg,hcc⟩:=h3 (by rw [HLEN.out]; omega)
    obtain ⟨c0,c1,c2,c3⟩:=hcc k q hx
    have hqs:=HXQ.out q (List.mem_of_getElem? hx)
    have HF:=Lib.hid (map_take (nameOf full) xs k q hx)
    have hfl:((xs.take k).map (nameOf full)).length≤k:=by simp; omega
    generalize (xs.take k).map (nameOf full)=ws at *
    have hsz:w1.heap.size≤wr.heap.size:=hkr.size
    have HR:=Lib.hid hkr
    have HW:=Lib.hid hown
    have HNF:=Lib.hid (fun w=>name_full w q hqs)
    have HNS:=Lib.hid (fun w=>name_short w q hqs)
    clear hkr hx hown hcc h3 hv' hc'
    obtain ⟨qf,qg,qp,qs⟩:=q
    simp only at c0 c1 c2 c3
    cases full
    ·have HNAME:=HNS
     clear HNF HNS
     go_wp2_with fail
     refine (HNAME.out _).mono ?_
     rintro e w2 ⟨rfl,hk2⟩
     generalize nameOf false (qf,qg,qp,qs)=nm at *
     have hown:=own_kept (HW.out.alloc (.cells #[.string (bs qf),.string (bs qg),.string (bs qp),.string (bs qs)] 77)) hk2
     have HR2:=Lib.hid ((HR.out.trans (kept_alloc wr _)).trans hk2)
     have hsz2:w1.heap.size≤w2.heap.size:=HR2.out.size
     clear hk2
     go_wp2_with (at_builtin; refine wpList_append_own _ rfl _ _ 29 rfl w1.heap.size 9 i0 (.string ⟨#[]⟩) 1 16 Tryz.underlying29 hi hz0 hz1 hz2 rfl (by decide) _ _ _ rfl (hown.alloc _) ⟨w2.heap.size,0,none⟩ 1 1 [.string (bs nm)] rfl rfl ?_ ?_ ?_ ?_ ?_ ?_)
     ·exact new_cells _ #[.string (bs nm)] _ _ (by simp)
     ·intro u hu; simp at hu; subst hu; rfl
     ·unfold maxLen; omega
     ·omega
     ·simp; omega
     intro v' w3 hown2 hgrow _
     have HB2:=Lib.hid ((HR2.out.trans (kept_alloc w2 _)).trans' (grown_below (hown.alloc _) hgrow (by simp; omega)))
     rw [← strCells_snoc] at hown2
     have HO:=Lib.hid hown2
     clear hown2 hgrow hown
     go_wp2_with fail
     go_roundw
     case rel=>exact ⟨k+1,by omega,by go_num,by rw [HF.out]; simpa using HO.out,HB2.out⟩
     case measure=>simp [intOf]; omega
    ·have HNAME:=HNF
     clear HNF HNS
     go_wp2_with fail
     refine (HNAME.out _).mono ?_
     rintro e w2 ⟨rfl,hk2⟩
     generalize nameOf true (qf,qg,qp,qs)=nm at *
     have hown:=own_kept (HW.out.alloc (.cells #[.string (bs qf),.string (bs qg),.string (bs qp),.string (bs qs)] 77)) hk2
     have HR2:=Lib.hid ((HR.out.trans (kept_alloc wr _)).trans hk2)
     have hsz2:w1.heap.size≤w2.heap.size:=HR2.out.size
     clear hk2
     go_wp2_with (at_builtin; refine wpList_append_own _ rfl _ _ 29 rfl w1.heap.size 9 i0 (.string ⟨#[]⟩) 1 16 Tryz.underlying29 hi hz0 hz1 hz2 rfl (by decide) _ _ _ rfl (hown.alloc _) ⟨w2.heap.size,0,none⟩ 1 1 [.string (bs nm)] rfl rfl ?_ ?_ ?_ ?_ ?_ ?_)
     ·exact new_cells _ #[.string (bs nm)] _ _ (by simp)
     ·intro u hu; simp at hu; subst hu; rfl
     ·unfold maxLen; omega
     ·omega
     ·simp; omega
     intro v' w3 hown2 hgrow _
     have HB2:=Lib.hid ((HR2.out.trans (kept_alloc w2 _)).trans' (grown_below (hown.alloc _) hgrow (by simp; omega)))
     rw [← strCells_snoc] at hown2
     have HO:=Lib.hid hown2
     clear hown2 hgrow hown
     go_wp2_with fail
     go_roundw
     case rel=>exact ⟨k+1,by omega,by go_num,by rw [HF.out]; simpa using HO.out,HB2.out⟩
     case measure=>simp [intOf]; omega
   ·have HW:=Lib.hid (Strs.own hown)
    have HR:=Lib.hid (HK1.out.trans hkr)
    rw [List.take_of_length_le (by rw [HLEN.out]; omega)] at HW
    have hnl:(xs.map (nameOf full)).length≤900:=by rw [List.length_map,HLEN.out]; exact hml
    have hjl:=join_sep_le 10004 _ (names_le full xs HXQ.out)
    have hjd:=join_sep_le 10004 (xs.map (nameOf full)).dropLast (fun x hx=>names_le full xs HXQ.out x ((List.dropLast_sublist _).subset hx))
    have hll:((xs.map (nameOf full)).getLastD []).length≤10004:=by
     cases hq:(xs.map (nameOf full)).getLast? with
     | none=>rw [List.getLastD_eq_getLast?,hq]; simp
     | some y=>rw [List.getLastD_eq_getLast?,hq]; exact names_le full xs HXQ.out y (List.mem_of_getLast? hq)
    have hdl:(xs.map (nameOf full)).dropLast.length≤900:=by simp at hnl ⊢; omega
    clear hown hkr
    have hj1:(Lib.join (xs.map (nameOf full)) sepL).length≤10000000:=by
     have:=Nat.mul_le_mul_right 10006 hnl; omega
    have hj2:(Lib.join (xs.map (nameOf full)).dropLast sepL).length≤10000000:=by
     have:=Nat.mul_le_mul_right 10006 hdl; omega
    clear hjl hjd hdl
    go_wp2_with fail
    refine (llist_any lEn _ _ _ HW.out (by omega) hj1 hj2 (by omega)).mono ?_
    rintro e w2 ⟨rfl,hk2⟩
    have HR2:=Lib.hid (HR.out.trans hk2)
    clear hk2
    go_wp2_with fail
    go_ret
    exact ⟨ret_bs (by rw [HE.out]),HR2.out⟩

theorem plist_any (v:Value) (ps:List P4) (l:Bs) (most:Int) (full:Bool) (w:World) (hv:Perss w v ps) (hN:ps.length≤900) (hq:∀ q∈ps,size4 q≤10000) (hmr : -9223372036854775808≤most∧most≤9223372036854775807) :
  Calls Tryz.prog 119 #[v,.string (bs l),.int .i64 most,.bool full] w fun e w'=>e=.returned (.string (bs (plistL ps l most full)))∧Kept w w':=by
 unfold plistL langOf
 cases hk:(andOf l).isSome
 ·by_cases hm:1≤most∧most<ps.length
  ·rw [if_pos hm]; exact plist_us v ps l most full w hv hN hq hk hm.1 hm.2 hmr
  ·rw [if_neg hm]; exact plist_un v ps l most full w hv hN hq hk hm hmr
 ·by_cases hm:1≤most∧most<ps.length
  ·rw [if_pos hm]; exact plist_ks v ps l most full w hv hN hq hk hm.1 hm.2 hmr
  ·rw [if_neg hm]; exact plist_kn v ps l most full w hv hN hq hk hm hmr
end Go.Proofs.YtmcoomlkbgiboaaGreatDoor

/- Worlds that differ at some blocks alone. No condition. -/
set_option linter.all false
namespace Go.Proofs.YtmcoomlkbgiboaaGreatDoor
open Go.RowKit

/-- Every block that was there is as it was, but for those of S. -/
structure Only (S:Nat→Prop) (w w':World):Prop where
 os:w'.os=w.os
 tape:w'.tape=w.tape
 output:w'.output=w.output
 size:w.heap.size≤w'.heap.size
 block:∀ k,k<w.heap.size→¬ S k→w'.heap[k]? = w.heap[k]?
theorem Only.of_kept {S:Nat→Prop} {w w':World} (h:Kept w w'):Only S w w':=⟨h.os,h.tape,h.output,h.size,fun k hk _=>h.block k hk⟩
theorem Only.trans {S:Nat→Prop} {a b c:World} (h:Only S a b) (k:Only S b c):Only S a c :=
 ⟨k.os.trans h.os,k.tape.trans h.tape,k.output.trans h.output,Nat.le_trans h.size k.size,fun i hi hs=>(k.block i (Nat.lt_of_lt_of_le hi h.size) hs).trans (h.block i hi hs)⟩
theorem Only.mono {S S':Nat→Prop} {w w':World} (h:Only S w w') (k:∀ i,i<w.heap.size→S i→S' i):Only S' w w' :=
 ⟨h.os,h.tape,h.output,h.size,fun i hi hs=>h.block i hi (fun q=>hs (k i hi q))⟩
theorem Only.grown {w w':World} {row:Option Nat} (h:w.grownBy w' row):Only (fun i=>some i=row) w w':=⟨h.os,h.tape,h.output,h.size,fun k hk hs=>h.block k hk hs⟩
theorem Only.setCell {w:World} (g o:Nat) (v:Value):Only (fun i=>i=g) w (w.setCell ⟨g,o,none⟩ v) :=
 ⟨rfl,rfl,rfl,by simp [World.setCell],fun k hk hs=>by simp [World.setCell,Array.getElem?_modify,Ne.symm hs]⟩
theorem Only.below {S:Nat→Prop} {w w':World} {B:Nat} (h:Only S w w') (hB:B≤w.heap.size) (hS:∀ i,S i→B≤i):Below B w w' :=
 ⟨h.os,h.tape,h.output,h.size,fun k hk=>h.block k (by omega) (fun q=>by have:=hS k q; omega)⟩
theorem Only.cell {S:Nat→Prop} {w w':World} (h:Only S w w') (g o:Nat) (hg:g<w.heap.size) (hs:¬ S g):w'.cell? ⟨g,o,none⟩=w.cell? ⟨g,o,none⟩:=World.cell?_of_block (a:=⟨g,o,none⟩) (h.block g hg hs)
theorem Only.own {S:Nat→Prop} {w w':World} {base:Nat} {e:TypeId} {size:Nat} {v:Value} {n:Nat} {xs:List Value} (h:Only S w w') (ho:w.ownsRow base e size v n xs) (hs:∀ g,v.ownBlock=some g→¬ S g):w'.ownsRow base e size v n xs:=by
 obtain ⟨h1,h2⟩:=ho
 refine ⟨h1,?_⟩
 rcases h2 with h2 | ⟨g,cap,cur,hv,hg,hh,r⟩
 ·exact .inl h2
 ·have hlt:g<w.heap.size:=by
   rcases Nat.lt_or_ge g w.heap.size with q | q
   ·exact q
   ·rw [Array.getElem?_eq_none q] at hh; cases hh
  exact .inr ⟨g,cap,cur,hv,hg,by rw [h.block g hlt (hs g (by rw [hv]; rfl))]; exact hh,r⟩
end Go.Proofs.YtmcoomlkbgiboaaGreatDoor

/- strings.Builder's WriteString and WriteByte. Conditions: lengths. -/
namespace Go.Proofs
def Tryz.bld166_ren:Go.Shelf.Ren:=⟨fun | 166=>63 | 240=>120 | 276=>165 | n=>n,fun | 0=>0 | 3=>3 | 4=>4 | 5=>5 | 9=>9 | 20=>20 | 37=>120 | 70=>119 | 72=>122 | 75=>124 | 76=>125 | 80=>127 | 164=>219 | n=>n,fun | n=>n⟩
theorem Tryz.bld166:Lays.n166 Tryz.prog Tryz.bld166_ren:={
 mixed:=by kernel_rfl
 f166:=Tryz.func63.trans (congrArg some (by kernel_rfl))
 f240:=Tryz.func120.trans (congrArg some (by kernel_rfl))
 f276:=Tryz.func165.trans (congrArg some (by kernel_rfl))
 t0:=Tryz.underlying0
 a0:=Tryz.isAgg0
 z0:=Tryz.sizeOf0
 v0:=Tryz.zeroValue0
 t3:=Tryz.underlying3
 a3:=Tryz.isAgg3
 z3:=Tryz.sizeOf3
 v3:=Tryz.zeroValue3
 t4:=Tryz.underlying4
 a4:=Tryz.isAgg4
 z4:=Tryz.sizeOf4
 v4:=Tryz.zeroValue4
 t9:=Tryz.underlying9
 a9:=Tryz.isAgg9
 z9:=Tryz.sizeOf9
 v9:=Tryz.zeroValue9
 t20:=Tryz.underlying20
 a20:=Tryz.isAgg20
 z20:=Tryz.sizeOf20
 v20:=Tryz.zeroValue20
 t37:=Tryz.underlying120
 a37:=Tryz.isAgg120
 z37:=Tryz.sizeOf120
 v37:=Tryz.zeroValue120
 t70:=Tryz.underlying119
 a70:=Tryz.isAgg119
 z70:=Tryz.sizeOf119
 v70:=Tryz.zeroValue119
 t72:=Tryz.underlying122
 a72:=Tryz.isAgg122
 z72:=Tryz.sizeOf122
 v72:=Tryz.zeroValue122
 t75:=Tryz.underlying124
 a75:=Tryz.isAgg124
 z75:=Tryz.sizeOf124
 v75:=Tryz.zeroValue124
 t164:=Tryz.underlying219
 a164:=Tryz.isAgg219
 z164:=Tryz.sizeOf219
 v164:=Tryz.zeroValue219
}
theorem Tryz.bldX166:Builder.Extra Tryz.prog Tryz.bld166_ren:={
 sizeBuilder:=by kernel_rfl
 liesBuilder:=by kernel_rfl
 t5:=Tryz.underlying5
 a5:=Tryz.isAgg5
 z5:=Tryz.sizeOf5
 v5:=Tryz.zeroValue5
 infoByte:=by kernel_rfl
 cellsByte:=by kernel_rfl
 sizeByte:=by kernel_rfl
 neB5:=by decide }
end Go.Proofs
set_option linter.all false
namespace Go.Proofs.YtmcoomlkbgiboaaGreatDoor
open Go.RowKit

theorem bld_string (B b:Nat) (cs:List Value) (l:Bs) (w:World) (h:Lib.IsBuilder 122 5 B b cs w) (hl:cs.length+l.length≤140737488355328) (hB:B≤w.heap.size) :
  Calls Tryz.prog 63 #[.pointer (some ⟨b,0,none⟩),.string (bs l)] w fun e w'=>e=.returned (.tuple #[.int .i64 l.length,.nilIface])∧(Lib.BuilderAt 122 5 B b (.pointer (some ⟨b,0,none⟩)) (cs ++ Lib.byteCells l) w'∧Below B w w') :=
 Any.Builder_WriteString Tryz.bld166 Tryz.bldX166 B b cs (bs l) w h (by simpa using hl) hB
end Go.Proofs.YtmcoomlkbgiboaaGreatDoor
